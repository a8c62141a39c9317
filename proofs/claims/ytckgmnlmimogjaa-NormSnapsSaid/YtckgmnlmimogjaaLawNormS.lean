/- The law NormSnaps of squeallaw27: the walk: for every input it returns true and writes nothing that was there; no condition. -/
import Derived.Test.YtckgmnlmimogjaaNs2
import Derived.Deep.CutRange
import Derived.Deep.RegionHeld3
import Derived.StillTailTactics
namespace Go.Proofs.Ytckgmnlmimogjaa
open Go.RowKit

theorem flE_at {l : List Int} {j : Nat} (h : j < l.length) : (flE l)[j * 2]? = some (.int .i64 0) ∧ (flE l)[j * 2 + 1]? = some (.int .i64 (l.getD j 0)) := by
  have := fl_at (l := l.map fun z => ((0 : Int), z)) (i := j) (p := (0, l.getD j 0)) (by rw [List.getElem?_map, List.getElem?_eq_getElem h, List.getD_eq_getElem?_getD, List.getElem?_eq_getElem h]; rfl)
  exact this
/-- so many gaps, each a little longer than an edge -/
def Near (gs ls : List Int) : Prop := ∀ i, i < gs.length → ls.getD i 0 ≤ gs.getD i 0 ∧ gs.getD i 0 ≤ ls.getD i 0 + 24
theorem near_snoc {gs ls : List Int} {z : Int} (h : Near gs ls) (h1 : ls.getD gs.length 0 ≤ z) (h2 : z ≤ ls.getD gs.length 0 + 24) : Near (gs ++ [z]) ls := by
  intro i hi
  rw [List.length_append] at hi
  rcases Nat.lt_or_ge i gs.length with h3 | h3
  · rw [List.getD_eq_getElem?_getD (l := gs ++ [z]), List.getElem?_append_left h3, ← List.getD_eq_getElem?_getD]
    exact h i h3
  · obtain rfl : i = gs.length := by simp at hi; omega
    rw [List.getD_eq_getElem?_getD (l := gs ++ [z]), List.getElem?_append_right (Nat.le_refl _)]
    simp only [Nat.sub_self, List.getElem?_cons_zero, Option.getD_some]
    exact ⟨h1, h2⟩
theorem edge_bd (ds : List Int) (i : Nat) : 0 ≤ (edgesL ds).getD i 0 ∧ (edgesL ds).getD i 0 ≤ 2168 := by
  rcases Nat.lt_or_ge i (edgesL ds).length with h | h
  · have hm := mem_of_getD h rfl
    generalize (edgesL ds).getD i 0 = z at *
    unfold edgesL lensOf at hm
    simp only [List.mem_append, List.mem_replicate, List.mem_singleton, List.mem_flatMap] at hm
    rcases hm with ((⟨_, rfl⟩ | rfl) | rfl) | ⟨b, _, hb⟩
    · omega
    · omega
    · omega
    · cases b <;> simp at hb <;> omega
  · rw [List.getD_eq_getElem?_getD, List.getElem?_eq_none h]
    simp
theorem near_u32 {gs ds : List Int} {p : Int} (h : Near gs (edgesL ds)) (h1 : 2 ≤ p) (h2 : p ≤ 10000) : isU32 (gs ++ [3500 * p + 17]) := by
  intro z hz
  rcases List.mem_append.1 hz with hz | hz
  · obtain ⟨k, hk, e⟩ := List.getElem_of_mem hz
    have h3 := h k hk
    have h4 := edge_bd ds k
    rw [List.getD_eq_getElem?_getD (l := gs), List.getElem?_eq_getElem hk] at h3
    simp only [Option.getD_some] at h3
    rw [e] at h3
    omega
  · rw [List.mem_singleton.1 hz]; omega
theorem near_snap {gs ds : List Int} {p : Int} (h : Near gs (edgesL ds)) (hl : gs.length = (edgesL ds).length) : Snap (gs ++ [3500 * p + 17]) (edgesL ds) p := by
  refine ⟨by rw [List.length_append, hl]; rfl, fun i hi => ?_, ?_⟩
  · rw [List.getD_eq_getElem?_getD (l := gs ++ _), List.getElem?_append_left (by omega), ← List.getD_eq_getElem?_getD]
    exact h i (by omega)
  · rw [List.getD_eq_getElem?_getD, List.getElem?_append_right (by omega), hl]
    simp

set_option maxRecDepth 100000 in
set_option maxHeartbeats 16000000 in
theorem normSnaps_walk (A : Option Addr) (n c : Nat) (xs : List Int) (A2 : Option Addr) (n2 c2 : Nat) (ys : List Int) (pz : Int) (w : World) (w0 : IsRow .u8 w A n c xs) (w1 : IsRow .u8 w A2 n2 c2 ys) :
    Calls Try.prog 5 #[.slice A n c, .slice A2 n2 c2, .int .i64 pz] w fun e w' => e = .returned (.bool true) ∧ Below w.heap.size w w' := by
  obtain ⟨hr, hu, _, _⟩ := row_u8 w0
  obtain ⟨hr2, hu2, _, _⟩ := row_u8 w1
  clear w0 w1
  generalize xs.take n = ds at *
  generalize ys.take n2 = ms at *
  clear xs ys
  obtain ⟨i0, hi, hz0, hz1, hz2⟩ := info_parts u32Info
  by_cases h1 : n = 0
  · subst h1
    clear hr hu hr2 hu2
    go_enter Try.func5, Try.ntmps5
    go_wp2_with fail
    refine (lives27 _).mono ?_
    rintro e w9 ⟨rfl, hb9⟩
    go_wp2
    go_ret
    exact ⟨rfl, hb9⟩
  have hn1 : ¬ (n : Int) = 0 := by omega
  have hn1b : ((n : Int) == 0) = false := by simpa using hn1
  by_cases h2 : 60 < n
  · have h2I : (60 : Int) < (n : Int) := by omega
    clear hr hu hr2 hu2
    go_enter Try.func5, Try.ntmps5
    go_wp2_with fail
    refine (lives27 _).mono ?_
    rintro e w9 ⟨rfl, hb9⟩
    go_wp2
    go_ret
    exact ⟨rfl, hb9⟩
  have h2I : ¬ (60 : Int) < (n : Int) := by omega
  by_cases h3 : n2 = 0
  · subst h3
    clear hr hu hr2 hu2
    go_enter Try.func5, Try.ntmps5
    go_wp2_with fail
    refine (lives27 _).mono ?_
    rintro e w9 ⟨rfl, hb9⟩
    go_wp2
    go_ret
    exact ⟨rfl, hb9⟩
  have hm1 : ¬ (n2 : Int) = 0 := by omega
  have hm1b : ((n2 : Int) == 0) = false := by simpa using hm1
  by_cases h4 : 1000 < n2
  · have h4I : (1000 : Int) < (n2 : Int) := by omega
    clear hr hu hr2 hu2
    go_enter Try.func5, Try.ntmps5
    go_wp2_with fail
    refine (lives27 _).mono ?_
    rintro e w9 ⟨rfl, hb9⟩
    go_wp2
    go_ret
    exact ⟨rfl, hb9⟩
  have h4I : ¬ (1000 : Int) < (n2 : Int) := by omega
  have hl := reads_len hr
  have hl2 := reads_len hr2
  have hed := edgesE_any w n c A ds hr hu (by omega)
  have HR := Lib.hid (And.intro hr (And.intro hu (And.intro hr2 (And.intro hu2 (And.intro hl hl2)))))
  clear hr hu hr2 hu2 hl hl2
  go_enter Try.func5, Try.ntmps5
  go_wp2_with fail
  refine hed.mono ?_
  rintro e w1 ⟨V, rfl, ownV, hb1⟩
  clear hed
  obtain ⟨VA, vc, rfl⟩ := own_slice ownV
  have hel : (edgesL ds).length = 302 + 16 * n := by rw [edges_len, HR.out.2.2.2.2.1]
  have HE := Lib.hid (And.intro ownV (And.intro hb1 (And.intro hel (fun i => edge_bd ds i))))
  have hM : 302 + 16 * n ≤ 1300 := by omega
  have hMI : 0 ≤ (302 : Int) + 16 * (n : Int) := by omega
  clear ownV hb1 hel
  go_wp2_with fail
  go_loopw [9, 10] (fun v i wr => ∃ (j : Nat) (gs : List Int), j ≤ 302 + 16 * n ∧ i = .int .i64 j ∧ gs.length = j ∧ Near gs (edgesL ds) ∧ wr.ownsRow w1.heap.size 56 1 v j (gs.map (Value.int .u32)) ∧ Below w1.heap.size w1 wr) (fun _ i _ => 302 + 16 * n - (intOf i).toNat)
  case atStart => exact ⟨0, [], by omega, rfl, rfl, fun i hi => by simp at hi, World.ownsRow_nil _ _ _ _, Below.refl _ _⟩
  case round =>
    obtain ⟨j, gs, hjM, rfl, hgl, hnear, hown, hbl⟩ := hrel
    have hj0 : (0 : Int) ≤ (j : Int) := Int.natCast_nonneg _
    have hsz := hbl.size
    by_cases hlt : j < 302 + 16 * n
    · have hjI : (j : Int) < 302 + 16 * (n : Int) := by omega
      have hwj : IntKind.i64.wrap ((j : Int) + 1) = (j : Int) + 1 := by rw [IntKind.wrap_i64]; omega
      have hown1 := own_below HE.out.1 ((Below.refl w1.heap.size w1).trans hbl)
      obtain ⟨f0, f1⟩ := flE_at (l := edgesL ds) (j := j) (by rw [HE.out.2.2.1]; exact hlt)
      obtain ⟨ad, rfl, _, a0, a1⟩ := pair_at (Reads.of_own hown1) hlt f0 f1
      obtain ⟨q, hq⟩ : ∃ q : Nat, q = j % n2 := ⟨_, rfl⟩
      have hq1 : q < n2 := by rw [hq]; exact Nat.mod_lt _ (by omega)
      have hbw : Below w.heap.size w wr := HE.out.2.1.trans (hbl.mono HE.out.2.1.size)
      obtain ⟨ad2, rfl, hA2, b0⟩ := i32_at (HR.out.2.2.1.below hbw) hq1
      have hA : ad.block < w1.heap.size := (HE.out.1.lt ad.block rfl).2
      have hA3 : ad2.block < w1.heap.size := by have := HE.out.2.1.size; omega
      obtain ⟨y0, y1⟩ := HR.out.2.2.2.1 (ms.getD q 0) (mem_of_getD (by rw [HR.out.2.2.2.2.2]; exact hq1) rfl)
      obtain ⟨e0, e1⟩ := HE.out.2.2.2 j
      have hqI : (q : Int) < (n2 : Int) := by omega
      have hq0 : (0 : Int) ≤ (q : Int) := Int.natCast_nonneg _
      have hqm : (j : Int).tmod (n2 : Int) = (q : Int) := by rw [Int.tmod_eq_emod_of_nonneg (by omega), hq]; omega
      have hqm2 : (j : Int) % (n2 : Int) = (q : Int) := by rw [hq]; omega
      have hfe : (edgesL ds).getD j 0 = (edgesL ds).getD gs.length 0 := by rw [hgl]
      generalize ms.getD q 0 = y at *
      have HFE := Lib.hid hfe
      clear hfe
      generalize (edgesL ds).getD j 0 = z at *
      obtain ⟨r, hrr⟩ : ∃ r : Int, r = y % 25 := ⟨_, rfl⟩
      have hr0 : 0 ≤ r := by omega
      have hr1 : r ≤ 24 := by omega
      have hrm : y.tmod 25 = r := by rw [Int.tmod_eq_emod_of_nonneg (by omega), hrr]
      have hrm2 : y % 25 = r := hrr.symm
      have hwy : IntKind.i64.wrap y = y := by rw [IntKind.wrap_i64]; omega
      have hws : IntKind.i64.wrap (z + r) = z + r := by rw [IntKind.wrap_i64]; omega
      have hwu : IntKind.u32.wrap (z + r) = z + r := by rw [IntKind.wrap_u32]; omega
      have hown9 : (wr.drew.alloc (.cells #[.int .u32 (z + r)] 56)).ownsRow w1.heap.size 56 1 _ j (gs.map (Value.int .u32)) := (show wr.drew.ownsRow w1.heap.size 56 1 _ j (gs.map (Value.int .u32)) from hown).alloc _
      have HKP := Lib.hid (show ∀ wx : World, (∀ b, b < w1.heap.size → wx.heap[b]? = wr.heap[b]?) → wx.cell? ⟨(ad.add (j * 2)).block, (ad.add (j * 2)).off + 1, none⟩ = some (.int .i64 z) ∧ wx.cell? (ad2.add q) = some (.int .u8 y) from
        fun wx hk => ⟨(World.cell?_of_block (a := ⟨(ad.add (j * 2)).block, (ad.add (j * 2)).off + 1, none⟩) (hk _ (by show (ad.add (j * 2)).block < _; rw [block_of_add]; exact hA))).trans a1, (World.cell?_of_block (hk _ (by rw [block_of_add]; exact hA3))).trans b0⟩)
      have HC := Lib.hid (And.intro (show Reads (wr.drew.alloc (.cells #[.int .u32 (z + r)] 56)) (wr.drew.heap.size + 1) 1 (some ⟨wr.drew.heap.size, 0, none⟩) 1 [.int .u32 (z + r)] from ⟨rfl, fun _ => ⟨_, rfl, by show wr.drew.heap.size < wr.drew.heap.size + 1; omega, lit_cells wr.drew [.int .u32 (z + r)] 56⟩⟩) (And.intro (show ∀ u ∈ [Value.int .u32 (z + r)], u.oneCell' = true by intro u hu; simp at hu; rcases hu with rfl; rfl) (And.intro (show j + 1 ≤ maxLen by unfold maxLen; omega) (And.intro (show (j + 1) * 4 ≤ 140737488355328 by omega) (show w1.heap.size ≤ (wr.drew.alloc (.cells #[.int .u32 (z + r)] 56)).heap.size by simp; omega)))))
      have HX := Lib.hid (And.intro hgl (And.intro hnear (And.intro hown hbl)))
      clear hgl hnear hown hbl hown1 f0 f1 hq hbw hrr
      go_wp2_with fail
      refine wp_region_held_drew (S := fun w' => w'.cell? ⟨(ad.add (j * 2)).block, (ad.add (j * 2)).off + 1, none⟩ = some (.int .i64 z) ∧ w'.cell? (ad2.add q) = some (.int .u8 y)) (by kernel_rfl) ?_ (fun hHeld => ?_)
      · exact ⟨a1, b0⟩
      have HWS := Lib.hid (And.intro (show wr.drew.heap.size = wr.heap.size from rfl) (show ∀ b : Nat, wr.drew.heap[b]? = wr.heap[b]? from fun _ => rfl))
      have HBD := Lib.hid (show Below w1.heap.size w1 wr.drew from HX.out.2.2.2.drew)
      generalize wr.drew = W at *
      refine wpAnyH_take (i := 0) (oi := _) (v := ?_) (by simp only [List.getElem?_toArray, List.getElem?_cons_succ, List.getElem?_cons_zero]; rfl) (by kernel_rfl) (by kernel_rfl) (by kernel_rfl) (by intro _ _ _ h; exact h) (Or.inl ⟨by rfl, ?_⟩) (by assumption) ?_
      rotate_left
      · intro w hSw
        try dsimp only at hSw
        obtain ⟨sa, sb⟩ := hSw
        go_simp
        try with_reducible rfl
      try simp only [Act.put, List.setIfInBounds_toArray, List.set_cons_zero, List.set_cons_succ]
      refine wpAnyH_take (i := 1) (oi := _) (v := ?_) (by simp only [List.getElem?_toArray, List.getElem?_cons_succ, List.getElem?_cons_zero]; rfl) (by kernel_rfl) (by kernel_rfl) (by kernel_rfl) (by intro _ _ _ h; exact h) (Or.inl ⟨by rfl, ?_⟩) (by assumption) ?_
      rotate_left
      · intro w hSw
        try dsimp only at hSw
        obtain ⟨sa, sb⟩ := hSw
        go_simp
        try with_reducible rfl
      try simp only [Act.put, List.setIfInBounds_toArray, List.set_cons_zero, List.set_cons_succ]
      refine wpAnyH_take (i := 2) (oi := _) (v := ?_) (by simp only [List.getElem?_toArray, List.getElem?_cons_succ, List.getElem?_cons_zero]; rfl) (by kernel_rfl) (by kernel_rfl) (by kernel_rfl) (by intro _ _ _ h; exact h) (Or.inl ⟨by rfl, ?_⟩) (by assumption) ?_
      rotate_left
      · intro w hSw
        try dsimp only at hSw
        obtain ⟨sa, sb⟩ := hSw
        go_simp
        try with_reducible rfl
      try simp only [Act.put, List.setIfInBounds_toArray, List.set_cons_zero, List.set_cons_succ]
      refine wpAnyH_take (i := 3) (oi := _) (v := ?_) (by simp only [List.getElem?_toArray, List.getElem?_cons_succ, List.getElem?_cons_zero]; rfl) (by kernel_rfl) (by kernel_rfl) (by kernel_rfl) (by intro _ _ _ h; exact h) (Or.inl ⟨by rfl, ?_⟩) (by assumption) ?_
      rotate_left
      · intro w hSw
        try dsimp only at hSw
        obtain ⟨sa, sb⟩ := hSw
        go_simp
        try with_reducible rfl
      try simp only [Act.put, List.setIfInBounds_toArray, List.set_cons_zero, List.set_cons_succ]
      refine wpAnyH_take (i := 4) (oi := _) (v := ?_) (by simp only [List.getElem?_toArray, List.getElem?_cons_succ, List.getElem?_cons_zero]; rfl) (by kernel_rfl) (by kernel_rfl) (by kernel_rfl) (by intro _ _ _ h; exact h) (Or.inl ⟨by rfl, ?_⟩) (by assumption) ?_
      rotate_left
      · intro w hSw
        try dsimp only at hSw
        obtain ⟨sa, sb⟩ := hSw
        go_simp
        try with_reducible rfl
      try simp only [Act.put, List.setIfInBounds_toArray, List.set_cons_zero, List.set_cons_succ]
      refine wpAnyH_take (i := 5) (oi := _) (v := ?_) (by simp only [List.getElem?_toArray, List.getElem?_cons_succ, List.getElem?_cons_zero]; rfl) (by kernel_rfl) (by kernel_rfl) (by kernel_rfl) (by intro _ _ _ h; exact h) (Or.inl ⟨by rfl, ?_⟩) (by assumption) ?_
      rotate_left
      · intro w hSw
        try dsimp only at hSw
        obtain ⟨sa, sb⟩ := hSw
        go_simp
        try with_reducible rfl
      try simp only [Act.put, List.setIfInBounds_toArray, List.set_cons_zero, List.set_cons_succ]
      refine wpAnyH_take (i := 6) (oi := _) (v := ?_) (by simp only [List.getElem?_toArray, List.getElem?_cons_succ, List.getElem?_cons_zero]; rfl) (by kernel_rfl) (by kernel_rfl) (by kernel_rfl) (by intro _ _ _ h; exact h) (Or.inl ⟨by rfl, ?_⟩) (by assumption) ?_
      rotate_left
      · intro w hSw
        try dsimp only at hSw
        obtain ⟨sa, sb⟩ := hSw
        go_simp
        try with_reducible rfl
      try simp only [Act.put, List.setIfInBounds_toArray, List.set_cons_zero, List.set_cons_succ]
      refine wpAnyH_take (i := 7) (oi := _) (v := ?_) (by simp only [List.getElem?_toArray, List.getElem?_cons_succ, List.getElem?_cons_zero]; rfl) (by kernel_rfl) (by kernel_rfl) (by kernel_rfl) (by intro _ _ _ h; exact h) (Or.inl ⟨by rfl, ?_⟩) (by assumption) ?_
      rotate_left
      · intro w hSw
        try dsimp only at hSw
        obtain ⟨sa, sb⟩ := hSw
        go_simp
        try with_reducible rfl
      try simp only [Act.put, List.setIfInBounds_toArray, List.set_cons_zero, List.set_cons_succ]
      refine wpAnyH_take (i := 8) (oi := _) (v := ?_) (by simp only [List.getElem?_toArray, List.getElem?_cons_succ, List.getElem?_cons_zero]; rfl) (by kernel_rfl) (by kernel_rfl) (by kernel_rfl) (by intro _ _ _ h; exact h) (Or.inl ⟨by rfl, ?_⟩) (by assumption) ?_
      rotate_left
      · intro w hSw
        try dsimp only at hSw
        obtain ⟨sa, sb⟩ := hSw
        go_simp
        try with_reducible rfl
      try simp only [Act.put, List.setIfInBounds_toArray, List.set_cons_zero, List.set_cons_succ]
      refine wpAnyH_take (i := 9) (oi := _) (v := ?_) (by simp only [List.getElem?_toArray, List.getElem?_cons_succ, List.getElem?_cons_zero]; rfl) (by kernel_rfl) (by kernel_rfl) (by kernel_rfl) (by intro _ _ _ h; exact h) (Or.inl ⟨by rfl, ?_⟩) (by assumption) ?_
      rotate_left
      · intro w hSw
        try dsimp only at hSw
        obtain ⟨sa, sb⟩ := hSw
        go_simp
        try with_reducible rfl
      try simp only [Act.put, List.setIfInBounds_toArray, List.set_cons_zero, List.set_cons_succ]
      refine wpAnyH_take (i := 10) (oi := _) (v := ?_) (by simp only [List.getElem?_toArray, List.getElem?_cons_succ, List.getElem?_cons_zero]; rfl) (by kernel_rfl) (by kernel_rfl) (by kernel_rfl) (by intro _ _ _ h; exact h) (Or.inl ⟨by rfl, ?_⟩) (by assumption) ?_
      rotate_left
      · intro w hSw
        try dsimp only at hSw
        obtain ⟨sa, sb⟩ := hSw
        go_simp
        try with_reducible rfl
      try simp only [Act.put, List.setIfInBounds_toArray, List.set_cons_zero, List.set_cons_succ]
      refine wpAnyH_take (i := 11) (oi := _) (v := ?_) (by simp only [List.getElem?_toArray, List.getElem?_cons_succ, List.getElem?_cons_zero]; rfl) (by kernel_rfl) (by kernel_rfl) (by kernel_rfl) (by intro _ _ _ h; exact h) (Or.inl ⟨by rfl, ?_⟩) (by assumption) ?_
      rotate_left
      · intro w hSw
        try dsimp only at hSw
        obtain ⟨sa, sb⟩ := hSw
        go_simp
        try with_reducible rfl
      try simp only [Act.put, List.setIfInBounds_toArray, List.set_cons_zero, List.set_cons_succ]
      refine wpAnyH_take (i := 12) (oi := _) (v := ?_) (by simp only [List.getElem?_toArray, List.getElem?_cons_succ, List.getElem?_cons_zero]; rfl) (by kernel_rfl) (by kernel_rfl) (by kernel_rfl) (by intro _ _ _ h; exact h) (Or.inl ⟨by rfl, ?_⟩) (by assumption) ?_
      rotate_left
      · intro w hSw
        try dsimp only at hSw
        obtain ⟨sa, sb⟩ := hSw
        go_simp
        try with_reducible rfl
      try simp only [Act.put, List.setIfInBounds_toArray, List.set_cons_zero, List.set_cons_succ]
      refine wpAnyH_take (i := 13) (oi := _) (v := ?_) (by simp only [List.getElem?_toArray, List.getElem?_cons_succ, List.getElem?_cons_zero]; rfl) (by kernel_rfl) (by kernel_rfl) (by kernel_rfl) (by intro _ _ _ h; exact h) (Or.inl ⟨by rfl, ?_⟩) (by assumption) ?_
      rotate_left
      · intro w hSw
        try dsimp only at hSw
        obtain ⟨sa, sb⟩ := hSw
        go_simp
        try with_reducible rfl
      try simp only [Act.put, List.setIfInBounds_toArray, List.set_cons_zero, List.set_cons_succ]
      refine wpAnyH_take (i := 14) (oi := _) (v := ?_) (by simp only [List.getElem?_toArray, List.getElem?_cons_succ, List.getElem?_cons_zero]; rfl) (by kernel_rfl) (by kernel_rfl) (by kernel_rfl) (by intro _ _ _ h; exact h) (Or.inl ⟨by rfl, ?_⟩) (by assumption) ?_
      rotate_left
      · intro w hSw
        try dsimp only at hSw
        obtain ⟨sa, sb⟩ := hSw
        go_simp
        try with_reducible rfl
      try simp only [Act.put, List.setIfInBounds_toArray, List.set_cons_zero, List.set_cons_succ]
      refine wpAnyH_take (i := 15) (oi := _) (v := ?_) (by simp only [List.getElem?_toArray, List.getElem?_cons_succ, List.getElem?_cons_zero]; rfl) (by kernel_rfl) (by kernel_rfl) (by kernel_rfl) (by intro _ _ _ h; exact h) (Or.inl ⟨by rfl, ?_⟩) (by assumption) ?_
      rotate_left
      · intro w hSw
        try dsimp only at hSw
        obtain ⟨sa, sb⟩ := hSw
        go_simp
        try with_reducible rfl
      try simp only [Act.put, List.setIfInBounds_toArray, List.set_cons_zero, List.set_cons_succ]
      refine wpAnyH_take (i := 16) (oi := _) (v := ?_) (by simp only [List.getElem?_toArray, List.getElem?_cons_succ, List.getElem?_cons_zero]; rfl) (by kernel_rfl) (by kernel_rfl) (by kernel_rfl) (by intro _ _ _ h; exact h) (Or.inl ⟨by rfl, ?_⟩) (by assumption) ?_
      rotate_left
      · intro w hSw
        try dsimp only at hSw
        obtain ⟨sa, sb⟩ := hSw
        go_simp
        try with_reducible rfl
      try simp only [Act.put, List.setIfInBounds_toArray, List.set_cons_zero, List.set_cons_succ]
      refine wpAnyH_ready (rs := [17]) (by kernel_rfl) (by simp) ?_
      refine AllReadyH.cons (o := _) (by simp only [List.getElem?_toArray, List.getElem?_cons_succ, List.getElem?_cons_zero]; rfl) (fun K hK => ?_) AllReadyH.nil
      go_simp
      refine hK.out _ _ ?_ (fun hHeld => ?_)
      · exact HKP.out _ (fun b hb => (Below.heap_alloc _ _ _ (by have := HWS.out.1; omega)).trans (HWS.out.2 b))
      clear hK K
      try simp only [Act.put, List.setIfInBounds_toArray, List.set_cons_zero, List.set_cons_succ]
      refine wpAnyH_ready (rs := [18]) (by kernel_rfl) (by simp) ?_
      refine AllReadyH.cons (o := _) (by simp only [List.getElem?_toArray, List.getElem?_cons_succ, List.getElem?_cons_zero]; rfl) (fun K hK => ?_) AllReadyH.nil
      refine step_append_any _ (by rfl) _ _ _ (by rfl) w1.heap.size 56 i0 (.int .u32 0) 1 4 Try.underlying22 hi hz0 hz1 hz2 rfl (by decide) _ j _ (by rfl) hown9 (W.heap.size + 1) (some ⟨W.heap.size, 0, none⟩) 1 1 [.int .u32 (z + r)] (by rfl) HC.out.1 HC.out.2.1 HC.out.2.2.1 HC.out.2.2.2.1 HC.out.2.2.2.2 ?_
      intro v' w2 own2 hg2 hv2
      have HG2 := Lib.hid (And.intro own2 hg2)
      clear own2 hv2
      refine hK.out _ _ ?_ (fun hHeld => ?_)
      · exact HKP.out _ (fun b hb => (hg2.block b (by simp; have := HWS.out.1; omega) (fun e => by have := (HX.out.2.2.1.lt b e.symm).1; omega)).trans ((Below.heap_alloc _ _ _ (by have := HWS.out.1; omega)).trans (HWS.out.2 b)))
      clear hK K
      try simp only [Act.put, List.setIfInBounds_toArray, List.set_cons_zero, List.set_cons_succ]
      clear hg2
      obtain ⟨own2, hg2⟩ := HG2.out
      have H2 := Lib.hid (show w2.ownsRow w1.heap.size 56 1 v' (j + 1) ((gs ++ [z + r]).map (Value.int .u32)) ∧ Below w1.heap.size w1 w2 from ⟨by rw [List.map_append]; exact own2, (HBD.out.alloc HBD.out.size _).grown hg2 (by have := HBD.out.size; simp; omega) (fun b hb => (HX.out.2.2.1.lt b hb).1)⟩)
      clear own2 hg2 hown9
      refine wpAnyH_take (i := 19) (oi := _) (v := ?_) (by simp only [List.getElem?_toArray, List.getElem?_cons_succ, List.getElem?_cons_zero]; rfl) (by kernel_rfl) (by kernel_rfl) (by kernel_rfl) (by intro _ _ _ h; exact h) (Or.inl ⟨by rfl, ?_⟩) (by assumption) ?_
      rotate_left
      · intro w hSw
        try dsimp only at hSw
        obtain ⟨sa, sb⟩ := hSw
        go_simp
        try with_reducible rfl
      try simp only [Act.put, List.setIfInBounds_toArray, List.set_cons_zero, List.set_cons_succ]
      refine wpAnyH_done (by kernel_rfl) ?_ _
      go_wp2
      go_roundw
      case rel => exact ⟨j + 1, gs ++ [z + r], by omega, by go_num, by rw [List.length_append, HX.out.1]; rfl, near_snoc HX.out.2.1 (by rw [← HFE.out]; omega) (by rw [← HFE.out]; omega), H2.out.1, H2.out.2⟩
      case measure => simp [intOf]; omega
    · obtain rfl : j = 302 + 16 * n := by omega
      have hjI : ¬ (((302 + 16 * n : Nat)) : Int) < 302 + 16 * (n : Int) := by omega
      have HX := Lib.hid (And.intro hgl (And.intro hnear (And.intro hown hbl)))
      clear hgl hnear hown hbl
      go_upto_region 11 with fail
      go_cut [11] from 66 to 68 (fun x wx => ∃ P : Int, x = .int .i64 P ∧ 2 ≤ P ∧ P ≤ 10000 ∧ wr = wx)
      case first =>
        by_cases hp1 : pz < 10000
        · by_cases hp2 : 2 < pz
          · have hp3 : ¬ 10000 < pz := by omega
            have hp4 : ¬ pz < 2 := by omega
            go_wp2_with fail
            go_meet
            exact ⟨_, rfl, by omega, by omega, rfl⟩
          · have hp3 : ¬ 10000 < pz := by omega
            go_wp2_with fail
            go_meet
            exact ⟨_, rfl, by omega, by omega, rfl⟩
        · by_cases hp3 : 10000 < pz
          · go_wp2_with fail
            go_meet
            exact ⟨_, rfl, by omega, by omega, rfl⟩
          · obtain rfl : pz = 10000 := by omega
            go_wp2_with fail
            go_meet
            exact ⟨_, rfl, by omega, by omega, rfl⟩
      case rest =>
      obtain ⟨P, rfl, hP1, hP2, rfl⟩ := hcut
      have hwp : IntKind.i64.wrap (3500 * P) = 3500 * P := by rw [IntKind.wrap_i64]; omega
      have hwq : IntKind.i64.wrap (3500 * P + 17) = 3500 * P + 17 := by rw [IntKind.wrap_i64]; omega
      have hwu : IntKind.u32.wrap (3500 * P + 17) = 3500 * P + 17 := by rw [IntKind.wrap_u32]; omega
      obtain ⟨hgl, hnear, hown, hbl⟩ := HX.out
      have hown9 := hown.alloc (.cells #[.int .u32 (3500 * P + 17)] 56)
      have HC := Lib.hid (And.intro (show Reads (wr.alloc (.cells #[.int .u32 (3500 * P + 17)] 56)) (wr.heap.size + 1) 1 (some ⟨wr.heap.size, 0, none⟩) 1 [.int .u32 (3500 * P + 17)] from ⟨rfl, fun _ => ⟨_, rfl, by show wr.heap.size < wr.heap.size + 1; omega, lit_cells wr [.int .u32 (3500 * P + 17)] 56⟩⟩) (And.intro (show ∀ u ∈ [Value.int .u32 (3500 * P + 17)], u.oneCell' = true by intro u hu; simp at hu; rcases hu with rfl; rfl) (And.intro (show 302 + 16 * n + 1 ≤ maxLen by unfold maxLen; omega) (And.intro (show (302 + 16 * n + 1) * 4 ≤ 140737488355328 by omega) (show w1.heap.size ≤ (wr.alloc (.cells #[.int .u32 (3500 * P + 17)] 56)).heap.size by simp; omega)))))
      clear hgl hnear hown hbl
      go_upto_region 13 with (first
        | (at_builtin; refine wpList_append_any _ rfl _ _ 22 rfl w1.heap.size 56 i0 (.int .u32 0) 1 4 Try.underlying22 hi hz0 hz1 hz2 rfl (by decide) _ (302 + 16 * n) _ rfl hown9 (wr.heap.size + 1) (some ⟨wr.heap.size, 0, none⟩) 1 1 [.int .u32 (3500 * P + 17)] rfl HC.out.1 HC.out.2.1 HC.out.2.2.1 HC.out.2.2.2.1 HC.out.2.2.2.2 ?_)
        | fail)
      intro v' w2 own2 hg2 hv2
      obtain ⟨A3, c3, rfl, hc3⟩ := own_sliceC own2
      have hb2 : Below w1.heap.size w1 w2 := (HX.out.2.2.2.alloc HX.out.2.2.2.size _).grown hg2 (by have := HX.out.2.2.2.size; simp; omega) (fun b hb => (HX.out.2.2.1.lt b hb).1)
      have hbw : Below w.heap.size w w2 := HE.out.2.1.trans (hb2.mono HE.out.2.1.size)
      have hrd : Reads w2 w2.heap.size 1 A3 (302 + 16 * n + 1) ((gs ++ [3500 * P + 17]).map (Value.int .u32)) := by rw [List.map_append]; exact Reads.of_own own2
      have hds : ds ≠ [] := by intro e; have := HR.out.2.2.2.2.1; rw [e] at this; simp at this; omega
      have hno := normal_any w2 false A3 none (302 + 16 * n + 1) c3 0 0 24 (gs ++ [3500 * P + 17]) [] hrd (near_u32 HX.out.2.1 hP1 hP2) (by omega) hc3 Reads.none_ (by omega)
      rw [snap_tidy (near_snap HX.out.2.1 (by rw [HX.out.1, HE.out.2.2.1])) HR.out.2.1 hds hP1 hP2] at hno
      have H2 := Lib.hid hbw
      clear own2 hg2 hv2 hb2 hbw hrd hds hown9
      go_wp2_with fail
      refine hno.mono ?_
      rintro e w3 ⟨A4, m4, c4, xs4, rfl, hr4, hk4, hb3⟩
      clear hno
      obtain rfl : m4 = 1 := blks_len hr4 hk4
      simp only [if_true]
      obtain ⟨cs, zz, rfl, hbk, rfl⟩ := hk4
      rw [List.append_nil] at hr4
      obtain ⟨DA, dn, dc, ta, tn, tc, PA, pn, pc, RA, rn, rc, pl, rfl, hd1, _⟩ := hbk
      obtain ⟨ad4, rfl, hb4, hc4⟩ := hr4.2 (by omega)
      have hal : Below w3.heap.size w3 (w3.alloc (.cells #[.int .i64 1, .int .i64 20, .slice (some ad4) 1 c4] 45)) := (Below.refl _ _).alloc (Nat.le_refl _) _
      have hbw := bthen (bthen H2.out hb3) hal
      have hd1' : Reads (w3.alloc (.cells #[.int .i64 1, .int .i64 20, .slice (some ad4) 1 c4] 45)) w3.heap.size 1 DA dn (ds.map (Value.int .u8)) := (hd1.reads (B := w3.heap.size) (fun b hp => hp.2)).below hal
      have hdd : dn = ds.length := (reads_len hd1').symm
      have hc4' : ∀ k v, [Value.int .i64 16, .int .i64 P, .int .i64 0, .int .i64 0, .int .i64 0, .int .i64 0, .int .i64 0, .int .i64 0, .int .i64 0, .int .i64 0, .int .i64 0, .int .i64 0, .slice DA dn dc, .slice ta tn tc, .slice none 0 0, .slice PA pn pc, .slice none 0 0, .slice RA rn rc][k]? = some v → (w3.alloc (.cells #[.int .i64 1, .int .i64 20, .slice (some ad4) 1 c4] 45)).cell? (ad4.add k) = some v := fun k v hv => (hal.cell (p := ad4.add k) (by rw [block_of_add]; exact hb4.2)).trans (hc4 k v hv)
      have hBT := Blk.new w3 45 #[.int .i64 1, .int .i64 20, .slice (some ad4) 1 c4]
      have hlt4 : ad4.block < (w3.alloc (.cells #[.int .i64 1, .int .i64 20, .slice (some ad4) 1 c4] 45)).heap.size := by have := hb4.2; simp; omega
      have H4 := Lib.hid (And.intro hbw (And.intro (hd1'.more hal.size) (And.intro hc4' (And.intro hBT hlt4))))
      clear hbw hd1' hc4' hBT hal hr4 hd1 hc4 hb3 hdd
      go_upto_region 14 with fail
      generalize (w3.alloc (.cells #[.int .i64 1, .int .i64 20, .slice (some ad4) 1 c4] 45)) = w4 at *
      obtain ⟨hbw, hd1, hc4, hBT, hlt4⟩ := H4.out
      have hrA : Reads w4 w4.heap.size 1 A n (ds.map (Value.int .u8)) := (HR.out.1.below hbw).more hbw.size
      have k0 : w4.cell? ad4 = some (.int .i64 16) := hc4 0 _ rfl
      have k1 : w4.cell? ⟨ad4.block, ad4.off + 1, none⟩ = some (.int .i64 P) := by rw [← add_lit18 ad4 (k := 1) (by decide)]; exact hc4 1 _ rfl
      have k12 : w4.cell? ⟨ad4.block, ad4.off + 12, none⟩ = some (.slice DA dn dc) := by rw [← add_lit18 ad4 (k := 12) (by decide)]; exact hc4 12 _ rfl
      have kt : w4.cell? ⟨w3.heap.size, 2, none⟩ = some (.slice (some ad4) 1 c4) := (hBT.cell 2).trans rfl
      have HK := Lib.hid (show ∀ wx : World, Below w4.heap.size w4 wx → wx.cell? ad4 = some (.int .i64 16) ∧ wx.cell? ⟨ad4.block, ad4.off + 1, none⟩ = some (.int .i64 P) ∧ wx.cell? ⟨ad4.block, ad4.off + 12, none⟩ = some (.slice DA dn dc) ∧ wx.cell? ⟨w3.heap.size, 2, none⟩ = some (.slice (some ad4) 1 c4) ∧ (convert 27 9 (.slice DA dn dc)).run Try.prog wx = .ok (.string (strOfNums ds)) wx ∧ (convert 27 9 (.slice A n c)).run Try.prog wx = .ok (.string (strOfNums ds)) wx from
        fun wx hb => ⟨(hb.cell (p := ad4) hlt4).trans k0, (hb.cell (p := ⟨ad4.block, ad4.off + 1, none⟩) hlt4).trans k1, (hb.cell (p := ⟨ad4.block, ad4.off + 12, none⟩) hlt4).trans k12, (hb.cell (p := ⟨w3.heap.size, 2, none⟩) hBT.lt).trans kt, conv27b dc (hd1.below hb), conv27b c (hrA.below hb)⟩)
      generalize strOfNums ds = SS at *
      have HBW := Lib.hid hbw
      clear hbw hd1 hc4 hBT hlt4 hrA k0 k1 k12 kt H4
      refine wp_region_held_drew (S := fun w' => w'.cell? ad4 = some (.int .i64 16) ∧ w'.cell? ⟨ad4.block, ad4.off + 1, none⟩ = some (.int .i64 P) ∧ w'.cell? ⟨ad4.block, ad4.off + 12, none⟩ = some (.slice DA dn dc) ∧ w'.cell? ⟨w3.heap.size, 2, none⟩ = some (.slice (some ad4) 1 c4) ∧ (convert 27 9 (.slice DA dn dc)).run Try.prog w' = .ok (.string SS) w' ∧ (convert 27 9 (.slice A n c)).run Try.prog w' = .ok (.string SS) w') (by kernel_rfl) ?_ (fun hHeld => ?_)
      · exact HK.out _ (Below.refl _ _).drew
      refine wpAnyH_take (i := 0) (oi := _) (v := ?_) (by simp only [List.getElem?_toArray, List.getElem?_cons_succ, List.getElem?_cons_zero]; rfl) (by kernel_rfl) (by kernel_rfl) (by kernel_rfl) (by intro _ _ _ h; exact h) (Or.inl ⟨by rfl, ?_⟩) (by assumption) ?_
      rotate_left
      · intro w hSw
        try dsimp only at hSw
        obtain ⟨s0, s1, s12, st, sc1, sc2⟩ := hSw
        go_simp
        try with_reducible rfl
      try simp only [Act.put, List.setIfInBounds_toArray, List.set_cons_zero, List.set_cons_succ]
      refine wpAnyH_take (i := 1) (oi := _) (v := ?_) (by simp only [List.getElem?_toArray, List.getElem?_cons_succ, List.getElem?_cons_zero]; rfl) (by kernel_rfl) (by kernel_rfl) (by kernel_rfl) (by intro _ _ _ h; exact h) (Or.inl ⟨by rfl, ?_⟩) (by assumption) ?_
      rotate_left
      · intro w hSw
        try dsimp only at hSw
        obtain ⟨s0, s1, s12, st, sc1, sc2⟩ := hSw
        go_simp
        try with_reducible rfl
      try simp only [Act.put, List.setIfInBounds_toArray, List.set_cons_zero, List.set_cons_succ]
      refine wpAnyH_take (i := 2) (oi := _) (v := ?_) (by simp only [List.getElem?_toArray, List.getElem?_cons_succ, List.getElem?_cons_zero]; rfl) (by kernel_rfl) (by kernel_rfl) (by kernel_rfl) (by intro _ _ _ h; exact h) (Or.inl ⟨by rfl, ?_⟩) (by assumption) ?_
      rotate_left
      · intro w hSw
        try dsimp only at hSw
        obtain ⟨s0, s1, s12, st, sc1, sc2⟩ := hSw
        go_simp
        try with_reducible rfl
      try simp only [Act.put, List.setIfInBounds_toArray, List.set_cons_zero, List.set_cons_succ]
      refine wpAnyH_take (i := 3) (oi := _) (v := ?_) (by simp only [List.getElem?_toArray, List.getElem?_cons_succ, List.getElem?_cons_zero]; rfl) (by kernel_rfl) (by kernel_rfl) (by kernel_rfl) (by intro _ _ _ h; exact h) (Or.inl ⟨by rfl, ?_⟩) (by assumption) ?_
      rotate_left
      · intro w hSw
        try dsimp only at hSw
        obtain ⟨s0, s1, s12, st, sc1, sc2⟩ := hSw
        go_simp
        try with_reducible rfl
      try simp only [Act.put, List.setIfInBounds_toArray, List.set_cons_zero, List.set_cons_succ]
      refine wpAnyH_take (i := 4) (oi := _) (v := ?_) (by simp only [List.getElem?_toArray, List.getElem?_cons_succ, List.getElem?_cons_zero]; rfl) (by kernel_rfl) (by kernel_rfl) (by kernel_rfl) (by intro _ _ _ h; exact h) (Or.inl ⟨by rfl, ?_⟩) (by assumption) ?_
      rotate_left
      · intro w hSw
        try dsimp only at hSw
        obtain ⟨s0, s1, s12, st, sc1, sc2⟩ := hSw
        go_simp
        try with_reducible rfl
      try simp only [Act.put, List.setIfInBounds_toArray, List.set_cons_zero, List.set_cons_succ]
      refine wpAnyH_take (i := 5) (oi := _) (v := ?_) (by simp only [List.getElem?_toArray, List.getElem?_cons_succ, List.getElem?_cons_zero]; rfl) (by kernel_rfl) (by kernel_rfl) (by kernel_rfl) (by intro _ _ _ h; exact h) (Or.inl ⟨by rfl, ?_⟩) (by assumption) ?_
      rotate_left
      · intro w hSw
        try dsimp only at hSw
        obtain ⟨s0, s1, s12, st, sc1, sc2⟩ := hSw
        go_simp
        try with_reducible rfl
      try simp only [Act.put, List.setIfInBounds_toArray, List.set_cons_zero, List.set_cons_succ]
      refine wpAnyH_take (i := 6) (oi := _) (v := ?_) (by simp only [List.getElem?_toArray, List.getElem?_cons_succ, List.getElem?_cons_zero]; rfl) (by kernel_rfl) (by kernel_rfl) (by kernel_rfl) (by intro _ _ _ h; exact h) (Or.inl ⟨by rfl, ?_⟩) (by assumption) ?_
      rotate_left
      · intro w hSw
        try dsimp only at hSw
        obtain ⟨s0, s1, s12, st, sc1, sc2⟩ := hSw
        go_simp
        try with_reducible rfl
      try simp only [Act.put, List.setIfInBounds_toArray, List.set_cons_zero, List.set_cons_succ]
      refine wpAnyH_take (i := 7) (oi := _) (v := ?_) (by simp only [List.getElem?_toArray, List.getElem?_cons_succ, List.getElem?_cons_zero]; rfl) (by kernel_rfl) (by kernel_rfl) (by kernel_rfl) (by intro _ _ _ h; exact h) (Or.inl ⟨by rfl, ?_⟩) (by assumption) ?_
      rotate_left
      · intro w hSw
        try dsimp only at hSw
        obtain ⟨s0, s1, s12, st, sc1, sc2⟩ := hSw
        go_simp
        try with_reducible rfl
      try simp only [Act.put, List.setIfInBounds_toArray, List.set_cons_zero, List.set_cons_succ]
      refine wpAnyH_take (i := 8) (oi := _) (v := ?_) (by simp only [List.getElem?_toArray, List.getElem?_cons_succ, List.getElem?_cons_zero]; rfl) (by kernel_rfl) (by kernel_rfl) (by kernel_rfl) (by intro _ _ _ h; exact h) (Or.inl ⟨by rfl, ?_⟩) (by assumption) ?_
      rotate_left
      · intro w hSw
        try dsimp only at hSw
        obtain ⟨s0, s1, s12, st, sc1, sc2⟩ := hSw
        go_simp
        try with_reducible rfl
      try simp only [Act.put, List.setIfInBounds_toArray, List.set_cons_zero, List.set_cons_succ]
      refine wpAnyH_take (i := 9) (oi := _) (v := ?_) (by simp only [List.getElem?_toArray, List.getElem?_cons_succ, List.getElem?_cons_zero]; rfl) (by kernel_rfl) (by kernel_rfl) (by kernel_rfl) (by intro _ _ _ h; exact h) (Or.inl ⟨by rfl, ?_⟩) (by assumption) ?_
      rotate_left
      · intro w hSw
        try dsimp only at hSw
        obtain ⟨s0, s1, s12, st, sc1, sc2⟩ := hSw
        go_simp
        try with_reducible rfl
      try simp only [Act.put, List.setIfInBounds_toArray, List.set_cons_zero, List.set_cons_succ]
      refine wpAnyH_take (i := 10) (oi := _) (v := ?_) (by simp only [List.getElem?_toArray, List.getElem?_cons_succ, List.getElem?_cons_zero]; rfl) (by kernel_rfl) (by kernel_rfl) (by kernel_rfl) (by intro _ _ _ h; exact h) (Or.inl ⟨by rfl, ?_⟩) (by assumption) ?_
      rotate_left
      · intro w hSw
        try dsimp only at hSw
        obtain ⟨s0, s1, s12, st, sc1, sc2⟩ := hSw
        go_simp
        try with_reducible rfl
      try simp only [Act.put, List.setIfInBounds_toArray, List.set_cons_zero, List.set_cons_succ]
      refine wpAnyH_take (i := 11) (oi := _) (v := ?_) (by simp only [List.getElem?_toArray, List.getElem?_cons_succ, List.getElem?_cons_zero]; rfl) (by kernel_rfl) (by kernel_rfl) (by kernel_rfl) (by intro _ _ _ h; exact h) (Or.inl ⟨by rfl, ?_⟩) (by assumption) ?_
      rotate_left
      · intro w hSw
        try dsimp only at hSw
        obtain ⟨s0, s1, s12, st, sc1, sc2⟩ := hSw
        go_simp
        try with_reducible rfl
      try simp only [Act.put, List.setIfInBounds_toArray, List.set_cons_zero, List.set_cons_succ]
      refine wpAnyH_take (i := 12) (oi := _) (v := ?_) (by simp only [List.getElem?_toArray, List.getElem?_cons_succ, List.getElem?_cons_zero]; rfl) (by kernel_rfl) (by kernel_rfl) (by kernel_rfl) (by intro _ _ _ h; exact h) (Or.inl ⟨by rfl, ?_⟩) (by assumption) ?_
      rotate_left
      · intro w hSw
        try dsimp only at hSw
        obtain ⟨s0, s1, s12, st, sc1, sc2⟩ := hSw
        go_simp
        try with_reducible rfl
      try simp only [Act.put, List.setIfInBounds_toArray, List.set_cons_zero, List.set_cons_succ]
      refine wpAnyH_take (i := 13) (oi := _) (v := ?_) (by simp only [List.getElem?_toArray, List.getElem?_cons_succ, List.getElem?_cons_zero]; rfl) (by kernel_rfl) (by kernel_rfl) (by kernel_rfl) (by intro _ _ _ h; exact h) (Or.inl ⟨by rfl, ?_⟩) (by assumption) ?_
      rotate_left
      · intro w hSw
        try dsimp only at hSw
        obtain ⟨s0, s1, s12, st, sc1, sc2⟩ := hSw
        go_simp
        try with_reducible rfl
      try simp only [Act.put, List.setIfInBounds_toArray, List.set_cons_zero, List.set_cons_succ]
      refine wpAnyH_take (i := 14) (oi := _) (v := ?_) (by simp only [List.getElem?_toArray, List.getElem?_cons_succ, List.getElem?_cons_zero]; rfl) (by kernel_rfl) (by kernel_rfl) (by kernel_rfl) (by intro _ _ _ h; exact h) (Or.inl ⟨by rfl, ?_⟩) (by assumption) ?_
      rotate_left
      · intro w hSw
        try dsimp only at hSw
        obtain ⟨s0, s1, s12, st, sc1, sc2⟩ := hSw
        go_simp
        try with_reducible rfl
      try simp only [Act.put, List.setIfInBounds_toArray, List.set_cons_zero, List.set_cons_succ]
      refine wpAnyH_take (i := 15) (oi := _) (v := ?_) (by simp only [List.getElem?_toArray, List.getElem?_cons_succ, List.getElem?_cons_zero]; rfl) (by kernel_rfl) (by kernel_rfl) (by kernel_rfl) (by intro _ _ _ h; exact h) (Or.inl ⟨by rfl, ?_⟩) (by assumption) ?_
      rotate_left
      · intro w hSw
        try dsimp only at hSw
        obtain ⟨s0, s1, s12, st, sc1, sc2⟩ := hSw
        go_simp
        try with_reducible rfl
      try simp only [Act.put, List.setIfInBounds_toArray, List.set_cons_zero, List.set_cons_succ]
      refine wpAnyH_take (i := 16) (oi := _) (v := ?_) (by simp only [List.getElem?_toArray, List.getElem?_cons_succ, List.getElem?_cons_zero]; rfl) (by kernel_rfl) (by kernel_rfl) (by kernel_rfl) (by intro _ _ _ h; exact h) (Or.inl ⟨by rfl, ?_⟩) (by assumption) ?_
      rotate_left
      · intro w hSw
        try dsimp only at hSw
        obtain ⟨s0, s1, s12, st, sc1, sc2⟩ := hSw
        go_simp
        try with_reducible rfl
      try simp only [Act.put, List.setIfInBounds_toArray, List.set_cons_zero, List.set_cons_succ]
      refine wpAnyH_take (i := 17) (oi := _) (v := ?_) (by simp only [List.getElem?_toArray, List.getElem?_cons_succ, List.getElem?_cons_zero]; rfl) (by kernel_rfl) (by kernel_rfl) (by kernel_rfl) (by intro _ _ _ h; exact h) (Or.inl ⟨by rfl, ?_⟩) (by assumption) ?_
      rotate_left
      · intro w hSw
        try dsimp only at hSw
        obtain ⟨s0, s1, s12, st, sc1, sc2⟩ := hSw
        go_simp
        try with_reducible rfl
      try simp only [Act.put, List.setIfInBounds_toArray, List.set_cons_zero, List.set_cons_succ]
      refine wpAnyH_take (i := 18) (oi := _) (v := ?_) (by simp only [List.getElem?_toArray, List.getElem?_cons_succ, List.getElem?_cons_zero]; rfl) (by kernel_rfl) (by kernel_rfl) (by kernel_rfl) (by intro _ _ _ h; exact h) (Or.inl ⟨by rfl, ?_⟩) (by assumption) ?_
      rotate_left
      · intro w hSw
        try dsimp only at hSw
        obtain ⟨s0, s1, s12, st, sc1, sc2⟩ := hSw
        go_simp
        try with_reducible rfl
      try simp only [Act.put, List.setIfInBounds_toArray, List.set_cons_zero, List.set_cons_succ]
      refine wpAnyH_take (i := 19) (oi := _) (v := ?_) (by simp only [List.getElem?_toArray, List.getElem?_cons_succ, List.getElem?_cons_zero]; rfl) (by kernel_rfl) (by kernel_rfl) (by kernel_rfl) (by intro _ _ _ h; exact h) (Or.inl ⟨by rfl, ?_⟩) (by assumption) ?_
      rotate_left
      · intro w hSw
        try dsimp only at hSw
        obtain ⟨s0, s1, s12, st, sc1, sc2⟩ := hSw
        go_simp
        try with_reducible rfl
      try simp only [Act.put, List.setIfInBounds_toArray, List.set_cons_zero, List.set_cons_succ]
      refine wpAnyH_take (i := 20) (oi := _) (v := ?_) (by simp only [List.getElem?_toArray, List.getElem?_cons_succ, List.getElem?_cons_zero]; rfl) (by kernel_rfl) (by kernel_rfl) (by kernel_rfl) (by intro _ _ _ h; exact h) (Or.inl ⟨by rfl, ?_⟩) (by assumption) ?_
      rotate_left
      · intro w hSw
        try dsimp only at hSw
        obtain ⟨s0, s1, s12, st, sc1, sc2⟩ := hSw
        go_simp
        try with_reducible rfl
      try simp only [Act.put, List.setIfInBounds_toArray, List.set_cons_zero, List.set_cons_succ]
      refine wpAnyH_take (i := 21) (oi := _) (v := ?_) (by simp only [List.getElem?_toArray, List.getElem?_cons_succ, List.getElem?_cons_zero]; rfl) (by kernel_rfl) (by kernel_rfl) (by kernel_rfl) (by intro _ _ _ h; exact h) (Or.inl ⟨by rfl, ?_⟩) (by assumption) ?_
      rotate_left
      · intro w hSw
        try dsimp only at hSw
        obtain ⟨s0, s1, s12, st, sc1, sc2⟩ := hSw
        go_simp
        try with_reducible rfl
      try simp only [Act.put, List.setIfInBounds_toArray, List.set_cons_zero, List.set_cons_succ]
      refine wpAnyH_take (i := 22) (oi := _) (v := ?_) (by simp only [List.getElem?_toArray, List.getElem?_cons_succ, List.getElem?_cons_zero]; rfl) (by kernel_rfl) (by kernel_rfl) (by kernel_rfl) (by intro _ _ _ h; exact h) (Or.inl ⟨by rfl, ?_⟩) (by assumption) ?_
      rotate_left
      · intro w hSw
        try dsimp only at hSw
        obtain ⟨s0, s1, s12, st, sc1, sc2⟩ := hSw
        go_simp
        try with_reducible rfl
      try simp only [Act.put, List.setIfInBounds_toArray, List.set_cons_zero, List.set_cons_succ]
      refine wpAnyH_take (i := 23) (oi := _) (v := ?_) (by simp only [List.getElem?_toArray, List.getElem?_cons_succ, List.getElem?_cons_zero]; rfl) (by kernel_rfl) (by kernel_rfl) (by kernel_rfl) (by intro _ _ _ h; exact h) (Or.inl ⟨by rfl, ?_⟩) (by assumption) ?_
      rotate_left
      · intro w hSw
        try dsimp only at hSw
        obtain ⟨s0, s1, s12, st, sc1, sc2⟩ := hSw
        go_simp
        try with_reducible rfl
      try simp only [Act.put, List.setIfInBounds_toArray, List.set_cons_zero, List.set_cons_succ]
      refine wpAnyH_take (i := 24) (oi := _) (v := ?_) (by simp only [List.getElem?_toArray, List.getElem?_cons_succ, List.getElem?_cons_zero]; rfl) (by kernel_rfl) (by kernel_rfl) (by kernel_rfl) (by intro _ _ _ h; exact h) (Or.inl ⟨by rfl, ?_⟩) (by assumption) ?_
      rotate_left
      · intro w hSw
        try dsimp only at hSw
        obtain ⟨s0, s1, s12, st, sc1, sc2⟩ := hSw
        go_simp
        try with_reducible rfl
      try simp only [Act.put, List.setIfInBounds_toArray, List.set_cons_zero, List.set_cons_succ]
      refine wpAnyH_take (i := 25) (oi := _) (v := ?_) (by simp only [List.getElem?_toArray, List.getElem?_cons_succ, List.getElem?_cons_zero]; rfl) (by kernel_rfl) (by kernel_rfl) (by kernel_rfl) (by intro _ _ _ h; exact h) (Or.inl ⟨by rfl, ?_⟩) (by assumption) ?_
      rotate_left
      · intro w hSw
        try dsimp only at hSw
        obtain ⟨s0, s1, s12, st, sc1, sc2⟩ := hSw
        go_simp
        try with_reducible rfl
      try simp only [Act.put, List.setIfInBounds_toArray, List.set_cons_zero, List.set_cons_succ]
      refine wpAnyH_take (i := 26) (oi := _) (v := ?_) (by simp only [List.getElem?_toArray, List.getElem?_cons_succ, List.getElem?_cons_zero]; rfl) (by kernel_rfl) (by kernel_rfl) (by kernel_rfl) (by intro _ _ _ h; exact h) (Or.inl ⟨by rfl, ?_⟩) (by assumption) ?_
      rotate_left
      · intro w hSw
        try dsimp only at hSw
        obtain ⟨s0, s1, s12, st, sc1, sc2⟩ := hSw
        go_simp
        try with_reducible rfl
      try simp only [Act.put, List.setIfInBounds_toArray, List.set_cons_zero, List.set_cons_succ]
      refine wpAnyH_take (i := 27) (oi := _) (v := ?_) (by simp only [List.getElem?_toArray, List.getElem?_cons_succ, List.getElem?_cons_zero]; rfl) (by kernel_rfl) (by kernel_rfl) (by kernel_rfl) (by intro _ _ _ h; exact h) (Or.inl ⟨by rfl, ?_⟩) (by assumption) ?_
      rotate_left
      · intro w hSw
        try dsimp only at hSw
        obtain ⟨s0, s1, s12, st, sc1, sc2⟩ := hSw
        go_simp
        try with_reducible rfl
      try simp only [Act.put, List.setIfInBounds_toArray, List.set_cons_zero, List.set_cons_succ]
      refine wpAnyH_take (i := 28) (oi := _) (v := ?_) (by simp only [List.getElem?_toArray, List.getElem?_cons_succ, List.getElem?_cons_zero]; rfl) (by kernel_rfl) (by kernel_rfl) (by kernel_rfl) (by intro _ _ _ h; exact h) (Or.inl ⟨by rfl, ?_⟩) (by assumption) ?_
      rotate_left
      · intro w hSw
        try dsimp only at hSw
        obtain ⟨s0, s1, s12, st, sc1, sc2⟩ := hSw
        go_simp
        try with_reducible rfl
      try simp only [Act.put, List.setIfInBounds_toArray, List.set_cons_zero, List.set_cons_succ]
      refine wpAnyH_take (i := 29) (oi := _) (v := ?_) (by simp only [List.getElem?_toArray, List.getElem?_cons_succ, List.getElem?_cons_zero]; rfl) (by kernel_rfl) (by kernel_rfl) (by kernel_rfl) (by intro _ _ _ h; exact h) (Or.inl ⟨by rfl, ?_⟩) (by assumption) ?_
      rotate_left
      · intro w hSw
        try dsimp only at hSw
        obtain ⟨s0, s1, s12, st, sc1, sc2⟩ := hSw
        go_simp
        try with_reducible rfl
      try simp only [Act.put, List.setIfInBounds_toArray, List.set_cons_zero, List.set_cons_succ]
      refine wpAnyH_take (i := 30) (oi := _) (v := ?_) (by simp only [List.getElem?_toArray, List.getElem?_cons_succ, List.getElem?_cons_zero]; rfl) (by kernel_rfl) (by kernel_rfl) (by kernel_rfl) (by intro _ _ _ h; exact h) (Or.inl ⟨by rfl, ?_⟩) (by assumption) ?_
      rotate_left
      · intro w hSw
        try dsimp only at hSw
        obtain ⟨s0, s1, s12, st, sc1, sc2⟩ := hSw
        go_simp
        try with_reducible rfl
      try simp only [Act.put, List.setIfInBounds_toArray, List.set_cons_zero, List.set_cons_succ]
      refine wpAnyH_take (i := 31) (oi := _) (v := ?_) (by simp only [List.getElem?_toArray, List.getElem?_cons_succ, List.getElem?_cons_zero]; rfl) (by kernel_rfl) (by kernel_rfl) (by kernel_rfl) (by intro _ _ _ h; exact h) (Or.inl ⟨by rfl, ?_⟩) (by assumption) ?_
      rotate_left
      · intro w hSw
        try dsimp only at hSw
        obtain ⟨s0, s1, s12, st, sc1, sc2⟩ := hSw
        go_simp
        try with_reducible rfl
      try simp only [Act.put, List.setIfInBounds_toArray, List.set_cons_zero, List.set_cons_succ]
      refine wpAnyH_take (i := 32) (oi := _) (v := ?_) (by simp only [List.getElem?_toArray, List.getElem?_cons_succ, List.getElem?_cons_zero]; rfl) (by kernel_rfl) (by kernel_rfl) (by kernel_rfl) (by intro _ _ _ h; exact h) (Or.inl ⟨by rfl, ?_⟩) (by assumption) ?_
      rotate_left
      · intro w hSw
        try dsimp only at hSw
        obtain ⟨s0, s1, s12, st, sc1, sc2⟩ := hSw
        go_simp
        try with_reducible rfl
      try simp only [Act.put, List.setIfInBounds_toArray, List.set_cons_zero, List.set_cons_succ]
      refine wpAnyH_take (i := 33) (oi := _) (v := ?_) (by simp only [List.getElem?_toArray, List.getElem?_cons_succ, List.getElem?_cons_zero]; rfl) (by kernel_rfl) (by kernel_rfl) (by kernel_rfl) (by intro _ _ _ h; exact h) (Or.inl ⟨by rfl, ?_⟩) (by assumption) ?_
      rotate_left
      · intro w hSw
        try dsimp only at hSw
        obtain ⟨s0, s1, s12, st, sc1, sc2⟩ := hSw
        go_simp
        try with_reducible rfl
      try simp only [Act.put, List.setIfInBounds_toArray, List.set_cons_zero, List.set_cons_succ]
      refine wpAnyH_take (i := 34) (oi := _) (v := ?_) (by simp only [List.getElem?_toArray, List.getElem?_cons_succ, List.getElem?_cons_zero]; rfl) (by kernel_rfl) (by kernel_rfl) (by kernel_rfl) (by intro _ _ _ h; exact h) (Or.inl ⟨by rfl, ?_⟩) (by assumption) ?_
      rotate_left
      · intro w hSw
        try dsimp only at hSw
        obtain ⟨s0, s1, s12, st, sc1, sc2⟩ := hSw
        go_simp
        try with_reducible rfl
      try simp only [Act.put, List.setIfInBounds_toArray, List.set_cons_zero, List.set_cons_succ]
      refine wpAnyH_take (i := 35) (oi := _) (v := ?_) (by simp only [List.getElem?_toArray, List.getElem?_cons_succ, List.getElem?_cons_zero]; rfl) (by kernel_rfl) (by kernel_rfl) (by kernel_rfl) (by intro _ _ _ h; exact h) (Or.inl ⟨by rfl, ?_⟩) (by assumption) ?_
      rotate_left
      · intro w hSw
        try dsimp only at hSw
        obtain ⟨s0, s1, s12, st, sc1, sc2⟩ := hSw
        go_simp
        try with_reducible rfl
      try simp only [Act.put, List.setIfInBounds_toArray, List.set_cons_zero, List.set_cons_succ]
      refine wpAnyH_take (i := 36) (oi := _) (v := ?_) (by simp only [List.getElem?_toArray, List.getElem?_cons_succ, List.getElem?_cons_zero]; rfl) (by kernel_rfl) (by kernel_rfl) (by kernel_rfl) (by intro _ _ _ h; exact h) (Or.inl ⟨by rfl, ?_⟩) (by assumption) ?_
      rotate_left
      · intro w hSw
        try dsimp only at hSw
        obtain ⟨s0, s1, s12, st, sc1, sc2⟩ := hSw
        go_simp
        try with_reducible rfl
      try simp only [Act.put, List.setIfInBounds_toArray, List.set_cons_zero, List.set_cons_succ]
      refine wpAnyH_ready (rs := [37]) (by kernel_rfl) (by simp) ?_
      refine AllReadyH.cons (o := _) (by simp only [List.getElem?_toArray, List.getElem?_cons_succ, List.getElem?_cons_zero]; rfl) (fun K hK => ?_) AllReadyH.nil
      go_simp
      go_wp2_with fail
      refine (lives27 _).mono ?_
      rintro e w8 ⟨rfl, hb8⟩
      refine hK.out _ _ ?_ (fun hHeld => ?_)
      · exact HK.out _ ((Below.refl _ _).drew.trans hb8)
      clear hK K
      try simp only [Act.put, List.setIfInBounds_toArray, List.set_cons_zero, List.set_cons_succ]
      refine wpAnyH_take (i := 38) (oi := _) (v := ?_) (by simp only [List.getElem?_toArray, List.getElem?_cons_succ, List.getElem?_cons_zero]; rfl) (by kernel_rfl) (by kernel_rfl) (by kernel_rfl) (by intro _ _ _ h; exact h) (Or.inl ⟨by rfl, ?_⟩) (by assumption) ?_
      rotate_left
      · intro w hSw
        try dsimp only at hSw
        obtain ⟨s0, s1, s12, st, sc1, sc2⟩ := hSw
        go_simp
        try with_reducible rfl
      try simp only [Act.put, List.setIfInBounds_toArray, List.set_cons_zero, List.set_cons_succ]
      refine wpAnyH_take (i := 39) (oi := _) (v := ?_) (by simp only [List.getElem?_toArray, List.getElem?_cons_succ, List.getElem?_cons_zero]; rfl) (by kernel_rfl) (by kernel_rfl) (by kernel_rfl) (by intro _ _ _ h; exact h) (Or.inl ⟨by rfl, ?_⟩) (by assumption) ?_
      rotate_left
      · intro w hSw
        try dsimp only at hSw
        obtain ⟨s0, s1, s12, st, sc1, sc2⟩ := hSw
        go_simp
        try with_reducible rfl
      try simp only [Act.put, List.setIfInBounds_toArray, List.set_cons_zero, List.set_cons_succ]
      refine wpAnyH_done (by kernel_rfl) ?_ _
      go_wp2
      go_ret
      exact ⟨rfl, bthen HBW.out.drew hb8⟩
end Go.Proofs.Ytckgmnlmimogjaa
