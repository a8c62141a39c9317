/- Layer 11: contracts of Copy; a board that isn't there is written, copied. -/
import Derived.Test.YtfcnlgkaejkneaaBd31
import Derived.Test.YtfcnlgkaejkneaaBox
namespace Go.Proofs.Ytfcnlgkaejkneaa
open Go.RowKit

theorem bWrite_nil (w : World) (a v : Int) : Calls Try.prog 16 #[.pointer none, .int .u16 a, .int .u8 v] w fun x w' => (∃ u, x = .returned u) ∧ w = w' := by
  go_enter Try.func16, Try.ntmps16
  go_wp2
  go_end0
  exact ⟨⟨_, rfl⟩, rfl⟩
theorem bCopy_nil (w : World) : Calls Try.prog 29 #[.pointer none] w fun x w' => x = .returned (.pointer none) ∧ w = w' := by
  go_enter Try.func29, Try.ntmps29
  go_wp2
  go_ret
  exact ⟨rfl, rfl⟩
theorem bdC_one {b : Bd} {A E : Value} (hA : A.oneCell' = true) (hE : E.oneCell' = true) : (bdC b A E).all (·.oneCell') = true :=
  cellsF_one fun i _ => by
    unfold bdAt
    by_cases h0 : i < 65536
    · rw [if_pos h0]; rfl
    rw [if_neg h0]
    by_cases h1 : i < 65544
    · rw [if_pos h1]; rfl
    rw [if_neg h1]
    by_cases h2 : i = 65544
    · rw [if_pos h2]; rfl
    rw [if_neg h2]
    by_cases h3 : i = 65545
    · rw [if_pos h3]; rfl
    rw [if_neg h3]
    by_cases h4 : i = 65546
    · rw [if_pos h4]; rfl
    rw [if_neg h4]
    by_cases h5 : i = 65547
    · rw [if_pos h5]; rfl
    rw [if_neg h5]
    by_cases h6 : i = 65548
    · rw [if_pos h6]; rfl
    rw [if_neg h6]
    by_cases h7 : i = 65549
    · rw [if_pos h7]; rfl
    rw [if_neg h7]
    by_cases h8 : i = 65550
    · rw [if_pos h8]; rfl
    rw [if_neg h8]
    by_cases h9 : i = 65551
    · rw [if_pos h9]; rfl
    rw [if_neg h9]
    by_cases h10 : i = 65552
    · rw [if_pos h10]; exact hA
    rw [if_neg h10]
    by_cases h11 : i = 65553
    · rw [if_pos h11]; exact hE
    rw [if_neg h11]
    rfl
theorem BdAt.far11 {w : World} {base g c j : Nat} {b : Bd} {al : List ActD} {es : List Int} {AA EA : Option Addr} {ac ec : Nat} {v : Value} (h : BdAt w base g b al es (.slice AA al.length ac) (.slice EA es.length ec)) (hc : g ≠ c) :
    (w.setCell ⟨c, j, none⟩ v).cell? ⟨g, 65552, none⟩ = some (.slice AA al.length ac) ∧ (w.setCell ⟨c, j, none⟩ v).cell? ⟨g, 65553, none⟩ = some (.slice EA es.length ec) :=
  have h1 : BdIs (w.setCell ⟨c, j, none⟩ v) g b (.slice AA al.length ac) (.slice EA es.length ec) := Blk.far (p := ⟨c, j, none⟩) h.bd hc v
  ⟨h1.at_ (i := 65552) (by decide) bd_A, h1.at_ (i := 65553) (by decide) bd_E⟩
theorem BdAt.far12 {w : World} {base g c i j : Nat} {b : Bd} {al : List ActD} {es : List Int} {AA EA : Option Addr} {ac ec : Nat} {v u : Value} (h : BdAt w base g b al es (.slice AA al.length ac) (.slice EA es.length ec)) (hc : g ≠ c) :
    ((w.setCell ⟨c, i, none⟩ v).setCell ⟨c, j, none⟩ u).cell? ⟨g, 65552, none⟩ = some (.slice AA al.length ac) ∧ ((w.setCell ⟨c, i, none⟩ v).setCell ⟨c, j, none⟩ u).cell? ⟨g, 65553, none⟩ = some (.slice EA es.length ec) :=
  have h1 : BdIs ((w.setCell ⟨c, i, none⟩ v).setCell ⟨c, j, none⟩ u) g b (.slice AA al.length ac) (.slice EA es.length ec) := Blk.far (p := ⟨c, j, none⟩) (Blk.far (p := ⟨c, i, none⟩) h.bd hc v) hc u
  ⟨h1.at_ (i := 65552) (by decide) bd_A, h1.at_ (i := 65553) (by decide) bd_E⟩
set_option maxRecDepth 100000 in
set_option maxHeartbeats 8000000 in
theorem bCopy_any (w : World) (base g : Nat) (b : Bd) (al : List ActD) (es : List Int) (A E : Value) (h : BdAt w base g b al es A E) (hal : al.length ≤ 1000000) (hes : es.length ≤ 1000000) :
    Calls Try.prog 29 #[.pointer (some ⟨g, 0, none⟩)] w fun x w' => ∃ A2 E2, x = .returned (.pointer (some ⟨w.heap.size, 0, none⟩)) ∧ BdAt w' w.heap.size w.heap.size b al es A2 E2 ∧ Below w.heap.size w w' := by
  obtain ⟨AA, ac, rfl⟩ := own_slice h.acts
  obtain ⟨EA, ec, rfl⟩ := own_slice h.edges
  obtain ⟨hz, hi⟩ := zero_of_info bdZero
  have hZs : (flat bdRuns).toArray.size = 77842 := by rw [bd0_cells]; exact cellsF_size _ _
  generalize (flat bdRuns).toArray = Z at *
  obtain ⟨C, hC⟩ : ∃ C, C = bdC b (.slice AA al.length ac) (.slice EA es.length ec) := ⟨_, rfl⟩
  have hCs : C.size = 77842 := by rw [hC]; exact cellsF_size _ _
  have hone : C.all (·.oneCell') = true := by rw [hC]; exact bdC_one rfl rfl
  have hBC : Blk w g 37 C := by rw [hC]; exact h.bd
  have hiC : (Try.prog.info? 37).map (·.size) = some C.size := by rw [hCs]; kernel_rfl
  have HX := Lib.hid (And.intro h (And.intro hC (And.intro hCs (And.intro hone (And.intro hBC (And.intro hiC hZs))))))
  have HG9 : g < w.heap.size := Blk.lt h.bd
  clear h hC hCs hone hBC hiC hZs
  go_enter Try.func29, Try.ntmps29
  go_upto_region 3 with fail
  go_wp2_with (first
    | (refine wpList_load_box rfl 37 (.tmp 7) rfl g rfl 37 C HX.out.2.2.2.2.1 _ Try.underlying37 rfl HX.out.2.2.2.2.2.1 ?_)
    | fail)
  refine fun (_ : Hid _) => ?_
  go_wp2_with (first
    | (refine wpList_store_box rfl 37 (.tmp 3) (.tmp 8) rfl w.heap.size C rfl rfl 37 Z (Blk.new w _ _) HX.out.2.2.2.2.2.1 (by rw [HX.out.2.2.2.2.2.2, HX.out.2.2.1]) HX.out.2.2.2.1 ?_)
    | fail)
  intro w1 hB1 hg1
  have hb1 : Below w.heap.size w w1 := ((Below.refl w.heap.size w).alloc (Nat.le_refl _) _).grown hg1 (by simp) (fun k e => by injection e with e; omega)
  rw [HX.out.2.1] at hB1
  have H1 := Lib.hid (And.intro (HX.out.1.kept hb1) (And.intro (show BdIs w1 w.heap.size b (.slice AA al.length ac) (.slice EA es.length ec) from hB1) hb1))
  clear hB1 hg1 hb1 HX hz hi
  have hs0 := H1.out.2.2.size
  have hgne : g ≠ w.heap.size := by have := HG9; omega
  go_upto_region 4 with fail
  refine wp_region_held_drew (S := fun w' => w'.cell? ⟨g, 65552, none⟩ = some (.slice AA al.length ac) ∧ w'.cell? ⟨g, 65553, none⟩ = some (.slice EA es.length ec)) (by kernel_rfl) ?_ (fun hHeld => ?_)
  · exact ⟨(H1.out.1.kept (Below.refl _ _).drew).bd.at_ (i := 65552) (by decide) bd_A, (H1.out.1.kept (Below.refl _ _).drew).bd.at_ (i := 65553) (by decide) bd_E⟩
  have H2 := Lib.hid (And.intro (H1.out.1.kept (Below.refl _ _).drew) (And.intro (show BdIs w1.drew w.heap.size b (.slice AA al.length ac) (.slice EA es.length ec) from Blk.drew H1.out.2.1) (show Below w.heap.size w w1.drew from H1.out.2.2.drew)))
  clear H1
  generalize w1.drew = V at *
  refine wpAnyH_take (i := 0) (oi := _) (v := ?_) (by simp only [List.getElem?_toArray, List.getElem?_cons_succ, List.getElem?_cons_zero]; rfl) (by kernel_rfl) (by kernel_rfl) (by kernel_rfl) (by intro _ _ _ h; exact h) (Or.inl ⟨by rfl, ?_⟩) (by assumption) ?_
  rotate_left
  · intro w hSw
    try dsimp only at hSw
    obtain ⟨sa, se⟩ := hSw
    go_simp
    try with_reducible rfl
  try simp only [Act.put, List.setIfInBounds_toArray, List.set_cons_zero, List.set_cons_succ]
  refine wpAnyH_take (i := 1) (oi := _) (v := ?_) (by simp only [List.getElem?_toArray, List.getElem?_cons_succ, List.getElem?_cons_zero]; rfl) (by kernel_rfl) (by kernel_rfl) (by kernel_rfl) (by intro _ _ _ h; exact h) (Or.inl ⟨by rfl, ?_⟩) (by assumption) ?_
  rotate_left
  · intro w hSw
    try dsimp only at hSw
    obtain ⟨sa, se⟩ := hSw
    go_simp
    try with_reducible rfl
  try simp only [Act.put, List.setIfInBounds_toArray, List.set_cons_zero, List.set_cons_succ]
  refine wpAnyH_take (i := 2) (oi := _) (v := ?_) (by simp only [List.getElem?_toArray, List.getElem?_cons_succ, List.getElem?_cons_zero]; rfl) (by kernel_rfl) (by kernel_rfl) (by kernel_rfl) (by intro _ _ _ h; exact h) (Or.inl ⟨by rfl, ?_⟩) (by assumption) ?_
  rotate_left
  · intro w hSw
    try dsimp only at hSw
    obtain ⟨sa, se⟩ := hSw
    go_simp
    try with_reducible rfl
  try simp only [Act.put, List.setIfInBounds_toArray, List.set_cons_zero, List.set_cons_succ]
  refine wpAnyH_take (i := 3) (oi := _) (v := ?_) (by simp only [List.getElem?_toArray, List.getElem?_cons_succ, List.getElem?_cons_zero]; rfl) (by kernel_rfl) (by kernel_rfl) (by kernel_rfl) (by intro _ _ _ h; exact h) (Or.inl ⟨by rfl, ?_⟩) (by assumption) ?_
  rotate_left
  · intro w hSw
    try dsimp only at hSw
    obtain ⟨sa, se⟩ := hSw
    go_simp
    try with_reducible rfl
  try simp only [Act.put, List.setIfInBounds_toArray, List.set_cons_zero, List.set_cons_succ]
  refine wpAnyH_take (i := 5) (oi := _) (v := ?_) (by simp only [List.getElem?_toArray, List.getElem?_cons_succ, List.getElem?_cons_zero]; rfl) (by kernel_rfl) (by kernel_rfl) (by kernel_rfl) (by intro _ _ _ h; exact h) (Or.inl ⟨by rfl, ?_⟩) (by assumption) ?_
  rotate_left
  · intro w hSw
    try dsimp only at hSw
    obtain ⟨sa, se⟩ := hSw
    go_simp
    try with_reducible rfl
  try simp only [Act.put, List.setIfInBounds_toArray, List.set_cons_zero, List.set_cons_succ]
  refine wpAnyH_take (i := 6) (oi := _) (v := ?_) (by simp only [List.getElem?_toArray, List.getElem?_cons_succ, List.getElem?_cons_zero]; rfl) (by kernel_rfl) (by kernel_rfl) (by kernel_rfl) (by intro _ _ _ h; exact h) (Or.inl ⟨by rfl, ?_⟩) (by assumption) ?_
  rotate_left
  · intro w hSw
    try dsimp only at hSw
    obtain ⟨sa, se⟩ := hSw
    go_simp
    try with_reducible rfl
  try simp only [Act.put, List.setIfInBounds_toArray, List.set_cons_zero, List.set_cons_succ]
  refine wpAnyH_take (i := 7) (oi := _) (v := ?_) (by simp only [List.getElem?_toArray, List.getElem?_cons_succ, List.getElem?_cons_zero]; rfl) (by kernel_rfl) (by kernel_rfl) (by kernel_rfl) (by intro _ _ _ h; exact h) (Or.inl ⟨by rfl, ?_⟩) (by assumption) ?_
  rotate_left
  · intro w hSw
    try dsimp only at hSw
    obtain ⟨sa, se⟩ := hSw
    go_simp
    try with_reducible rfl
  try simp only [Act.put, List.setIfInBounds_toArray, List.set_cons_zero, List.set_cons_succ]
  refine wpAnyH_take (i := 8) (oi := _) (v := ?_) (by simp only [List.getElem?_toArray, List.getElem?_cons_succ, List.getElem?_cons_zero]; rfl) (by kernel_rfl) (by kernel_rfl) (by kernel_rfl) (by intro _ _ _ h; exact h) (Or.inl ⟨by rfl, ?_⟩) (by assumption) ?_
  rotate_left
  · intro w hSw
    try dsimp only at hSw
    obtain ⟨sa, se⟩ := hSw
    go_simp
    try with_reducible rfl
  try simp only [Act.put, List.setIfInBounds_toArray, List.set_cons_zero, List.set_cons_succ]
  refine wpAnyH_ready (rs := [4]) (by kernel_rfl) (by simp) ?_
  refine AllReadyH.cons (o := _) (by simp only [List.getElem?_toArray, List.getElem?_cons_succ, List.getElem?_cons_zero]; rfl) (fun K hK => ?_) AllReadyH.nil
  go_simp
  go_wp2_with fail
  refine (cloneA_any V al.length ac AA (actV al) (Reads.of_own H2.out.1.acts) (actV_one al) (by omega)).mono ?_
  rintro x w2 ⟨VA, cA, rfl, own2, hb2⟩
  have H3 := Lib.hid (And.intro (H2.out.1.kept hb2) (And.intro (BdIs.below H2.out.2.1 hb2) (And.intro (H2.out.2.2.trans (hb2.mono H2.out.2.2.size)) (ownsRow_le11 own2 H2.out.2.2.size))))
  clear own2 hb2 H2
  refine hK.out _ _ ?_ (fun hHeld => ?_)
  · exact ⟨H3.out.1.bd.at_ (i := 65552) (by decide) bd_A, H3.out.1.bd.at_ (i := 65553) (by decide) bd_E⟩
  clear hK K
  try simp only [Act.put, List.setIfInBounds_toArray, List.set_cons_zero, List.set_cons_succ]
  refine wpAnyH_ready (rs := [9]) (by kernel_rfl) (by simp) ?_
  refine AllReadyH.cons (o := _) (by simp only [List.getElem?_toArray, List.getElem?_cons_succ, List.getElem?_cons_zero]; rfl) (fun K hK => ?_) AllReadyH.nil
  go_simp
  go_wp2_with fail
  refine (cloneU_any w2 es.length ec EA (es.map (Value.int .u64)) (Reads.of_own H3.out.1.edges) (by intro u hu; obtain ⟨z, _, rfl⟩ := List.mem_map.1 hu; rfl) (by omega)).mono ?_
  rintro x w3 ⟨VE, cE, rfl, own3, hb3⟩
  have hB4 : BdIs w3 w.heap.size b (.slice AA al.length ac) (.slice EA es.length ec) := BdIs.below H3.out.2.1 hb3
  have H4 := Lib.hid (And.intro (H3.out.1.kept hb3) (And.intro (H3.out.2.2.1.trans (hb3.mono H3.out.2.2.1.size)) (And.intro (own_kept H3.out.2.2.2 hb3) (ownsRow_le11 own3 H3.out.2.2.1.size))))
  have k1 : w3.cell? ⟨w.heap.size, 65552, none⟩ = some (.slice AA al.length ac) := hB4.at_ (i := 65552) (by decide) bd_A
  have k2 : w3.frozen? ⟨w.heap.size, 65552, none⟩ = false := hB4.fz 65552
  have k3 : w3.cell? ⟨w.heap.size, 65553, none⟩ = some (.slice EA es.length ec) := hB4.at_ (i := 65553) (by decide) bd_E
  have k4 : w3.frozen? ⟨w.heap.size, 65553, none⟩ = false := hB4.fz 65553
  have HB5 := Lib.hid (show BdIs ((w3.setCell ⟨w.heap.size, 65552, none⟩ (.slice VA al.length cA)).setCell ⟨w.heap.size, 65553, none⟩ (.slice VE es.length cE)) w.heap.size b (.slice VA al.length cA) (.slice VE es.length cE) from BdIs.put (BdIs.put hB4 (set_A _)) (set_E _))
  have hB5 : BdIs (w3.setCell ⟨w.heap.size, 65552, none⟩ (.slice VA al.length cA)) w.heap.size b (.slice VA al.length cA) (.slice EA es.length ec) := BdIs.put hB4 (set_A _)
  have k5 : (w3.setCell ⟨w.heap.size, 65552, none⟩ (.slice VA al.length cA)).cell? ⟨w.heap.size, 65553, none⟩ = some (.slice EA es.length ec) := hB5.at_ (i := 65553) (by decide) bd_E
  have k6 : (w3.setCell ⟨w.heap.size, 65552, none⟩ (.slice VA al.length cA)).frozen? ⟨w.heap.size, 65553, none⟩ = false := hB5.fz 65553
  have hb5 := below_set11 (i := 65552) (v := .slice VA al.length cA) H4.out.2.1 (Nat.le_refl _)
  have HK5 := Lib.hid (And.intro (H4.out.1.far11 (j := 65552) (v := .slice VA al.length cA) hgne) (H4.out.1.far12 (i := 65552) (j := 65553) (v := .slice VA al.length cA) (u := .slice VE es.length cE) hgne))
  have HR := Lib.hid (And.intro (show World.ownsRow ((w3.setCell ⟨w.heap.size, 65552, none⟩ (.slice VA al.length cA)).setCell ⟨w.heap.size, 65553, none⟩ (.slice VE es.length cE)) w.heap.size 72 4 (.slice VA al.length cA) al.length (actV al) from (H4.out.2.2.1.kept (grown_cell _ _ _ _) (.inr (own_blk_ne H4.out.2.2.1 hB4 (by decide)))).kept (grown_cell _ _ _ _) (.inr (own_blk_ne H4.out.2.2.1 hB4 (by decide)))) (And.intro (show World.ownsRow ((w3.setCell ⟨w.heap.size, 65552, none⟩ (.slice VA al.length cA)).setCell ⟨w.heap.size, 65553, none⟩ (.slice VE es.length cE)) w.heap.size 32 1 (.slice VE es.length cE) es.length (es.map (Value.int .u64)) from (H4.out.2.2.2.kept (grown_cell _ _ _ _) (.inr (own_blk_ne H4.out.2.2.2 hB4 (by decide)))).kept (grown_cell _ _ _ _) (.inr (own_blk_ne H4.out.2.2.2 hB4 (by decide)))) (below_set11 (i := 65553) (v := .slice VE es.length cE) hb5 (Nat.le_refl _))))
  clear hB4 hB5 own3 hb3 H3 hb5
  refine hK.out _ _ ?_ (fun hHeld => ?_)
  · exact ⟨H4.out.1.bd.at_ (i := 65552) (by decide) bd_A, H4.out.1.bd.at_ (i := 65553) (by decide) bd_E⟩
  clear hK K
  try simp only [Act.put, List.setIfInBounds_toArray, List.set_cons_zero, List.set_cons_succ]
  refine wpAnyH_take (i := 10) (oi := _) (v := ?_) (by simp only [List.getElem?_toArray, List.getElem?_cons_succ, List.getElem?_cons_zero]; rfl) (by kernel_rfl) (by kernel_rfl) (by kernel_rfl) (by intro _ _ _ h; exact h) (Or.inl ⟨by rfl, ?_⟩) (by assumption) ?_
  rotate_left
  · intro w hSw
    try dsimp only at hSw
    obtain ⟨sa, se⟩ := hSw
    go_simp
    try with_reducible rfl
  try simp only [Act.put, List.setIfInBounds_toArray, List.set_cons_zero, List.set_cons_succ]
  refine wpAnyH_ready (rs := [11]) (by kernel_rfl) (by simp) ?_
  refine AllReadyH.cons (o := _) (by simp only [List.getElem?_toArray, List.getElem?_cons_succ, List.getElem?_cons_zero]; rfl) (fun K hK => ?_) AllReadyH.nil
  go_simp
  refine hK.out _ _ ?_ (fun hHeld => ?_)
  · exact HK5.out.1
  clear hK K
  try simp only [Act.put, List.setIfInBounds_toArray, List.set_cons_zero, List.set_cons_succ]
  refine wpAnyH_take (i := 12) (oi := _) (v := ?_) (by simp only [List.getElem?_toArray, List.getElem?_cons_succ, List.getElem?_cons_zero]; rfl) (by kernel_rfl) (by kernel_rfl) (by kernel_rfl) (by intro _ _ _ h; exact h) (Or.inl ⟨by rfl, ?_⟩) (by assumption) ?_
  rotate_left
  · intro w hSw
    try dsimp only at hSw
    obtain ⟨sa, se⟩ := hSw
    go_simp
    try with_reducible rfl
  try simp only [Act.put, List.setIfInBounds_toArray, List.set_cons_zero, List.set_cons_succ]
  refine wpAnyH_ready (rs := [13]) (by kernel_rfl) (by simp) ?_
  refine AllReadyH.cons (o := _) (by simp only [List.getElem?_toArray, List.getElem?_cons_succ, List.getElem?_cons_zero]; rfl) (fun K hK => ?_) AllReadyH.nil
  go_simp
  refine hK.out _ _ ?_ (fun hHeld => ?_)
  · exact HK5.out.2
  clear hK K
  try simp only [Act.put, List.setIfInBounds_toArray, List.set_cons_zero, List.set_cons_succ]
  refine wpAnyH_done (by kernel_rfl) ?_ _
  clear k1 k2 k3 k4 k5 k6
  go_wp2
  go_ret
  exact ⟨_, _, rfl, ⟨HB5.out, HR.out.1, HR.out.2.1⟩, HR.out.2.2⟩
end Go.Proofs.Ytfcnlgkaejkneaa
