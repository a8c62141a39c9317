/- The law NormFinds of layer 27, walked: it returns true and writes nothing that was there. -/
import Derived.Test.YtckgmnlmimogjaaNorm8
import Derived.Test.YtckgmnlmimogjaaNorm7f
import Derived.Deep.CutRange
namespace Go.Proofs.Ytckgmnlmimogjaa
open Go.RowKit

theorem row_u32 {w : World} {a : Option Addr} {len cap : Nat} {zs : List Int} (h : IsRow .u32 w a len cap zs) :
    Reads w w.heap.size 1 a len ((zs.take len).map (Value.int .u32)) ∧ isU32 (zs.take len) ∧ len ≤ cap ∧ cap ≤ maxLen := by
  rcases h with ⟨rfl, rfl, rfl, rfl⟩ | ⟨x, rfl, hb, hl, hc, hz, hcell, hw⟩
  · exact ⟨Reads.none_, by intro z hz; simp at hz, Nat.le_refl _, by unfold maxLen; omega⟩
  · refine ⟨⟨by simp; omega, fun hn => ⟨x, rfl, by rcases hb with h0 | h0; omega; exact h0, fun j u hu => ?_⟩⟩, fun z hz' => bounds_u32 (hw z (List.mem_of_mem_take hz')), hl, hc⟩
    simp only [List.getElem?_map, List.getElem?_take, Option.map_eq_some_iff] at hu
    obtain ⟨v, hv, rfl⟩ := hu
    split at hv
    · have hj : j < zs.length := by
        rcases Nat.lt_or_ge j zs.length with h | h
        · exact h
        · rw [List.getElem?_eq_none h] at hv; cases hv
      rw [hcell j hj, List.getD_eq_getElem?_getD, hv]
      rfl
    · cases hv

set_option maxRecDepth 100000 in
set_option maxHeartbeats 16000000 in
theorem normFinds_walk (A : Option Addr) (n c : Nat) (zs : List Int) (a b p s1 s2 z o : Int) (w : World) (w0 : IsRow .u32 w A n c zs) :
    Calls Try.prog 3 #[.slice A n c, .agg #[.int .i64 a, .int .i64 b], .agg #[.int .i64 p, .int .i64 s1, .int .i64 s2, .int .i64 z, .int .i64 o]] w fun e w' => e = .returned (.bool true) ∧ Below w.heap.size w w' := by
  obtain ⟨hr, hz, hnc, hc⟩ := row_u32 w0
  clear w0
  generalize zs.take n = ys at *
  have hb0 : Below w.heap.size w ((w.alloc (.cells #[.int .i64 a, .int .i64 b] 23)).alloc (.cells #[.int .i64 p, .int .i64 s1, .int .i64 s2, .int .i64 z, .int .i64 o] 25)) := ((Below.refl _ _).alloc (Nat.le_refl _) _).alloc (by simp) _
  have hN0 : Blk ((w.alloc (.cells #[.int .i64 a, .int .i64 b] 23)).alloc (.cells #[.int .i64 p, .int .i64 s1, .int .i64 s2, .int .i64 z, .int .i64 o] 25)) w.heap.size 23 #[.int .i64 a, .int .i64 b] := Blk.alloc (Blk.new w _ _) _
  have hT0 : Blk ((w.alloc (.cells #[.int .i64 a, .int .i64 b] 23)).alloc (.cells #[.int .i64 p, .int .i64 s1, .int .i64 s2, .int .i64 z, .int .i64 o] 25)) (w.heap.size + 1) 25 #[.int .i64 p, .int .i64 s1, .int .i64 s2, .int .i64 z, .int .i64 o] := by
    have := Blk.new (w.alloc (.cells #[.int .i64 a, .int .i64 b] 23)) 25 #[.int .i64 p, .int .i64 s1, .int .i64 s2, .int .i64 z, .int .i64 o]
    simpa using this
  by_cases hn : (5000 : Int) < (n : Int)
  · clear hr hz hN0 hT0
    go_enter Try.func3, Try.ntmps3
    go_wp2_with fail
    refine (lives27 _).mono ?_
    rintro e w1 ⟨rfl, hb1⟩
    go_wp2
    go_ret
    exact ⟨rfl, bthen hb0 hb1⟩
  have hN5 : n ≤ 5000 := by omega
  have HZ := Lib.hid hz
  have HR := Lib.hid hr
  clear hz hr
  go_enter Try.func3, Try.ntmps3
  go_upto_region 3 with fail
  generalize ((w.alloc (.cells #[.int .i64 a, .int .i64 b] 23)).alloc (.cells #[.int .i64 p, .int .i64 s1, .int .i64 s2, .int .i64 z, .int .i64 o] 25)) = W at *
  have n0 : W.cell? ⟨w.heap.size, 0, none⟩ = some (.int .i64 a) := (hN0.cell 0).trans rfl
  have n1 : W.cell? ⟨w.heap.size, 1, none⟩ = some (.int .i64 b) := (hN0.cell 1).trans rfl
  have kc0 : W.cell? ⟨w.heap.size + 1, 0, none⟩ = some (.int .i64 p) := (hT0.cell 0).trans rfl
  have kc1 : W.cell? ⟨w.heap.size + 1, 1, none⟩ = some (.int .i64 s1) := (hT0.cell 1).trans rfl
  have kc2 : W.cell? ⟨w.heap.size + 1, 2, none⟩ = some (.int .i64 s2) := (hT0.cell 2).trans rfl
  have kc3 : W.cell? ⟨w.heap.size + 1, 3, none⟩ = some (.int .i64 z) := (hT0.cell 3).trans rfl
  have kc4 : W.cell? ⟨w.heap.size + 1, 4, none⟩ = some (.int .i64 o) := (hT0.cell 4).trans rfl
  have hWs := hT0.lt
  refine wp_region_held_drew (S := fun w' => w'.cell? ⟨w.heap.size, 0, none⟩ = some (.int .i64 a) ∧ w'.cell? ⟨w.heap.size, 1, none⟩ = some (.int .i64 b) ∧ w'.cell? ⟨w.heap.size + 1, 0, none⟩ = some (.int .i64 p) ∧ w'.cell? ⟨w.heap.size + 1, 1, none⟩ = some (.int .i64 s1) ∧ w'.cell? ⟨w.heap.size + 1, 2, none⟩ = some (.int .i64 s2) ∧ w'.cell? ⟨w.heap.size + 1, 3, none⟩ = some (.int .i64 z) ∧ w'.cell? ⟨w.heap.size + 1, 4, none⟩ = some (.int .i64 o)) (by kernel_rfl) ?_ (fun hHeld => ?_)
  · exact ⟨n0, n1, kc0, kc1, kc2, kc3, kc4⟩
  have hN : Blk W.drew w.heap.size 23 #[.int .i64 a, .int .i64 b] := hN0
  have hT : Blk W.drew (w.heap.size + 1) 25 #[.int .i64 p, .int .i64 s1, .int .i64 s2, .int .i64 z, .int .i64 o] := hT0
  have hb : Below w.heap.size w W.drew := hb0.drew
  have hWd : w.heap.size + 1 < W.drew.heap.size := hT0.lt
  clear hN0 hT0 hb0 hWs
  generalize W.drew = U at *
  clear n0 n1 kc0 kc1 kc2 kc3 kc4
  have n0 : U.cell? ⟨w.heap.size, 0, none⟩ = some (.int .i64 a) := (hN.cell 0).trans rfl
  have n1 : U.cell? ⟨w.heap.size, 1, none⟩ = some (.int .i64 b) := (hN.cell 1).trans rfl
  have kc0 : U.cell? ⟨w.heap.size + 1, 0, none⟩ = some (.int .i64 p) := (hT.cell 0).trans rfl
  have kc1 : U.cell? ⟨w.heap.size + 1, 1, none⟩ = some (.int .i64 s1) := (hT.cell 1).trans rfl
  have kc2 : U.cell? ⟨w.heap.size + 1, 2, none⟩ = some (.int .i64 s2) := (hT.cell 2).trans rfl
  have kc3 : U.cell? ⟨w.heap.size + 1, 3, none⟩ = some (.int .i64 z) := (hT.cell 3).trans rfl
  have kc4 : U.cell? ⟨w.heap.size + 1, 4, none⟩ = some (.int .i64 o) := (hT.cell 4).trans rfl
  refine wpAnyH_take (i := 0) (oi := _) (v := ?_) (by simp only [List.getElem?_toArray, List.getElem?_cons_succ, List.getElem?_cons_zero]; rfl) (by kernel_rfl) (by kernel_rfl) (by kernel_rfl) (by intro _ _ _ h; exact h) (Or.inl ⟨by rfl, ?_⟩) (by assumption) ?_
  rotate_left
  · intro w hSw
    try dsimp only at hSw
    obtain ⟨e0, e1, e2, e3, e4, e5, e6⟩ := hSw
    go_simp
    try with_reducible rfl
  try simp only [Act.put, List.setIfInBounds_toArray, List.set_cons_zero, List.set_cons_succ]
  refine wpAnyH_take (i := 1) (oi := _) (v := ?_) (by simp only [List.getElem?_toArray, List.getElem?_cons_succ, List.getElem?_cons_zero]; rfl) (by kernel_rfl) (by kernel_rfl) (by kernel_rfl) (by intro _ _ _ h; exact h) (Or.inl ⟨by rfl, ?_⟩) (by assumption) ?_
  rotate_left
  · intro w hSw
    try dsimp only at hSw
    obtain ⟨e0, e1, e2, e3, e4, e5, e6⟩ := hSw
    go_simp
    try with_reducible rfl
  try simp only [Act.put, List.setIfInBounds_toArray, List.set_cons_zero, List.set_cons_succ]
  refine wpAnyH_take (i := 2) (oi := _) (v := ?_) (by simp only [List.getElem?_toArray, List.getElem?_cons_succ, List.getElem?_cons_zero]; rfl) (by kernel_rfl) (by kernel_rfl) (by kernel_rfl) (by intro _ _ _ h; exact h) (Or.inl ⟨by rfl, ?_⟩) (by assumption) ?_
  rotate_left
  · intro w hSw
    try dsimp only at hSw
    obtain ⟨e0, e1, e2, e3, e4, e5, e6⟩ := hSw
    go_simp
    try with_reducible rfl
  try simp only [Act.put, List.setIfInBounds_toArray, List.set_cons_zero, List.set_cons_succ]
  refine wpAnyH_take (i := 3) (oi := _) (v := ?_) (by simp only [List.getElem?_toArray, List.getElem?_cons_succ, List.getElem?_cons_zero]; rfl) (by kernel_rfl) (by kernel_rfl) (by kernel_rfl) (by intro _ _ _ h; exact h) (Or.inl ⟨by rfl, ?_⟩) (by assumption) ?_
  rotate_left
  · intro w hSw
    try dsimp only at hSw
    obtain ⟨e0, e1, e2, e3, e4, e5, e6⟩ := hSw
    go_simp
    try with_reducible rfl
  try simp only [Act.put, List.setIfInBounds_toArray, List.set_cons_zero, List.set_cons_succ]
  refine wpAnyH_take (i := 5) (oi := _) (v := ?_) (by simp only [List.getElem?_toArray, List.getElem?_cons_succ, List.getElem?_cons_zero]; rfl) (by kernel_rfl) (by kernel_rfl) (by kernel_rfl) (by intro _ _ _ h; exact h) (Or.inl ⟨by rfl, ?_⟩) (by assumption) ?_
  rotate_left
  · intro w hSw
    try dsimp only at hSw
    obtain ⟨e0, e1, e2, e3, e4, e5, e6⟩ := hSw
    go_simp
    try with_reducible rfl
  try simp only [Act.put, List.setIfInBounds_toArray, List.set_cons_zero, List.set_cons_succ]
  refine wpAnyH_take (i := 6) (oi := _) (v := ?_) (by simp only [List.getElem?_toArray, List.getElem?_cons_succ, List.getElem?_cons_zero]; rfl) (by kernel_rfl) (by kernel_rfl) (by kernel_rfl) (by intro _ _ _ h; exact h) (Or.inl ⟨by rfl, ?_⟩) (by assumption) ?_
  rotate_left
  · intro w hSw
    try dsimp only at hSw
    obtain ⟨e0, e1, e2, e3, e4, e5, e6⟩ := hSw
    go_simp
    try with_reducible rfl
  try simp only [Act.put, List.setIfInBounds_toArray, List.set_cons_zero, List.set_cons_succ]
  refine wpAnyH_ready (rs := [4, 12]) (by kernel_rfl) (by simp) ?_
  refine AllReadyH.cons (o := _) (by simp only [List.getElem?_toArray, List.getElem?_cons_succ, List.getElem?_cons_zero]; rfl) (fun K hK => ?_) (AllReadyH.cons (o := _) (by simp only [List.getElem?_toArray, List.getElem?_cons_succ, List.getElem?_cons_zero]; rfl) (fun K hK => ?_) AllReadyH.nil)
  · go_simp
    go_wp2_with fail
    refine (ours_any _ p s1 s2 z o).mono ?_
    rintro e v1 ⟨rfl, hbe⟩
    have hWd := hT.lt
    have hN' := hN.below hbe (by omega)
    have hT' := hT.below hbe (by omega)
    have hb' := bthen hb hbe
    clear hN hT hb hbe
    have hN := hN'
    have hT := hT'
    have hb := hb'
    clear hN' hT' hb'
    clear n0 n1 kc0 kc1 kc2 kc3 kc4
    have n0 : v1.cell? ⟨w.heap.size, 0, none⟩ = some (.int .i64 a) := (hN.cell 0).trans rfl
    have n1 : v1.cell? ⟨w.heap.size, 1, none⟩ = some (.int .i64 b) := (hN.cell 1).trans rfl
    have kc0 : v1.cell? ⟨w.heap.size + 1, 0, none⟩ = some (.int .i64 p) := (hT.cell 0).trans rfl
    have kc1 : v1.cell? ⟨w.heap.size + 1, 1, none⟩ = some (.int .i64 s1) := (hT.cell 1).trans rfl
    have kc2 : v1.cell? ⟨w.heap.size + 1, 2, none⟩ = some (.int .i64 s2) := (hT.cell 2).trans rfl
    have kc3 : v1.cell? ⟨w.heap.size + 1, 3, none⟩ = some (.int .i64 z) := (hT.cell 3).trans rfl
    have kc4 : v1.cell? ⟨w.heap.size + 1, 4, none⟩ = some (.int .i64 o) := (hT.cell 4).trans rfl
    have hWd := hT.lt
    refine hK.out _ _ ?_ (fun hHeld => ?_)
    · exact ⟨n0, n1, kc0, kc1, kc2, kc3, kc4⟩
    clear hK K
    try simp only [Act.put, List.setIfInBounds_toArray, List.set_cons_zero, List.set_cons_succ]
    refine wpAnyH_ready (rs := [7, 12]) (by kernel_rfl) (by simp) ?_
    refine AllReadyH.cons (o := _) (by simp only [List.getElem?_toArray, List.getElem?_cons_succ, List.getElem?_cons_zero]; rfl) (fun K hK => ?_) (AllReadyH.cons (o := _) (by simp only [List.getElem?_toArray, List.getElem?_cons_succ, List.getElem?_cons_zero]; rfl) (fun K hK => ?_) AllReadyH.nil)
    · go_simp
      go_wp2_with fail
      have hWd := hT.lt
      refine (find_any v1 A n c ys a p s1 s2 z o b ((HR.out.below hb).more hb.size) HZ.out hN5).mono ?_
      rintro e v2 ⟨hbe, hfo⟩
      rcases hfo with ⟨hF, rfl⟩ | ⟨d, m, pa, k, V, hF, rfl, own2, hu⟩
      · rw [show blkZ = #[.int .i64 0, .int .i64 0, .int .i64 0, .int .i64 0, .int .i64 0, .int .i64 0, .int .i64 0, .int .i64 0, .int .i64 0, .int .i64 0, .int .i64 0, .int .i64 0, .slice none 0 0, .slice none 0 0, .slice none 0 0, .slice none 0 0, .slice none 0 0, .slice none 0 0] from rfl]
        have hN' := hN.below hbe (by omega)
        have hT' := hT.below hbe (by omega)
        have hb' := bthen hb hbe
        clear hN hT hb hbe
        have hN := hN'
        have hT := hT'
        have hb := hb'
        clear hN' hT' hb'
        clear n0 n1 kc0 kc1 kc2 kc3 kc4
        have n0 : v2.cell? ⟨w.heap.size, 0, none⟩ = some (.int .i64 a) := (hN.cell 0).trans rfl
        have n1 : v2.cell? ⟨w.heap.size, 1, none⟩ = some (.int .i64 b) := (hN.cell 1).trans rfl
        have kc0 : v2.cell? ⟨w.heap.size + 1, 0, none⟩ = some (.int .i64 p) := (hT.cell 0).trans rfl
        have kc1 : v2.cell? ⟨w.heap.size + 1, 1, none⟩ = some (.int .i64 s1) := (hT.cell 1).trans rfl
        have kc2 : v2.cell? ⟨w.heap.size + 1, 2, none⟩ = some (.int .i64 s2) := (hT.cell 2).trans rfl
        have kc3 : v2.cell? ⟨w.heap.size + 1, 3, none⟩ = some (.int .i64 z) := (hT.cell 3).trans rfl
        have kc4 : v2.cell? ⟨w.heap.size + 1, 4, none⟩ = some (.int .i64 o) := (hT.cell 4).trans rfl
        have hWd := hT.lt
        refine hK.out _ _ ?_ (fun hHeld => ?_)
        · exact ⟨n0, n1, kc0, kc1, kc2, kc3, kc4⟩
        clear hK K
        try simp only [Act.put, List.setIfInBounds_toArray, List.set_cons_zero, List.set_cons_succ]
        refine wpAnyH_take (i := 8) (oi := _) (v := ?_) (by simp only [List.getElem?_toArray, List.getElem?_cons_succ, List.getElem?_cons_zero]; rfl) (by kernel_rfl) (by kernel_rfl) (by kernel_rfl) (by intro _ _ _ h; exact h) (Or.inl ⟨by rfl, ?_⟩) (by assumption) ?_
        rotate_left
        · intro w hSw
          try dsimp only at hSw
          obtain ⟨e0, e1, e2, e3, e4, e5, e6⟩ := hSw
          go_simp
          try with_reducible rfl
        try simp only [Act.put, List.setIfInBounds_toArray, List.set_cons_zero, List.set_cons_succ]
        refine wpAnyH_take (i := 9) (oi := _) (v := ?_) (by simp only [List.getElem?_toArray, List.getElem?_cons_succ, List.getElem?_cons_zero]; rfl) (by kernel_rfl) (by kernel_rfl) (by kernel_rfl) (by intro _ _ _ h; exact h) (Or.inl ⟨by rfl, ?_⟩) (by assumption) ?_
        rotate_left
        · intro w hSw
          try dsimp only at hSw
          obtain ⟨e0, e1, e2, e3, e4, e5, e6⟩ := hSw
          go_simp
          try with_reducible rfl
        try simp only [Act.put, List.setIfInBounds_toArray, List.set_cons_zero, List.set_cons_succ]
        refine wpAnyH_take (i := 10) (oi := _) (v := ?_) (by simp only [List.getElem?_toArray, List.getElem?_cons_succ, List.getElem?_cons_zero]; rfl) (by kernel_rfl) (by kernel_rfl) (by kernel_rfl) (by intro _ _ _ h; exact h) (Or.inl ⟨by rfl, ?_⟩) (by assumption) ?_
        rotate_left
        · intro w hSw
          try dsimp only at hSw
          obtain ⟨e0, e1, e2, e3, e4, e5, e6⟩ := hSw
          go_simp
          try with_reducible rfl
        try simp only [Act.put, List.setIfInBounds_toArray, List.set_cons_zero, List.set_cons_succ]
        refine wpAnyH_take (i := 11) (oi := _) (v := ?_) (by simp only [List.getElem?_toArray, List.getElem?_cons_succ, List.getElem?_cons_zero]; rfl) (by kernel_rfl) (by kernel_rfl) (by kernel_rfl) (by intro _ _ _ h; exact h) (Or.inl ⟨by rfl, ?_⟩) (by assumption) ?_
        rotate_left
        · intro w hSw
          try dsimp only at hSw
          obtain ⟨e0, e1, e2, e3, e4, e5, e6⟩ := hSw
          go_simp
          try with_reducible rfl
        try simp only [Act.put, List.setIfInBounds_toArray, List.set_cons_zero, List.set_cons_succ]
        refine wpAnyH_ready (rs := [12]) (by kernel_rfl) (by simp) ?_
        refine AllReadyH.cons (o := _) (by simp only [List.getElem?_toArray, List.getElem?_cons_succ, List.getElem?_cons_zero]; rfl) (fun K hK => ?_) AllReadyH.nil
        go_simp
        have hX : Blk (v2.alloc (.cells #[.int .i64 0, .int .i64 0, .int .i64 0, .int .i64 0, .int .i64 0, .int .i64 0, .int .i64 0, .int .i64 0, .int .i64 0, .int .i64 0, .int .i64 0, .int .i64 0, .slice none 0 0, .slice none 0 0, .slice none 0 0, .slice none 0 0, .slice none 0 0, .slice none 0 0] 33)) v2.heap.size 33 #[.int .i64 0, .int .i64 0, .int .i64 0, .int .i64 0, .int .i64 0, .int .i64 0, .int .i64 0, .int .i64 0, .int .i64 0, .int .i64 0, .int .i64 0, .int .i64 0, .slice none 0 0, .slice none 0 0, .slice none 0 0, .slice none 0 0, .slice none 0 0, .slice none 0 0] := Blk.new _ _ _
        have hN' := hN.alloc (.cells #[.int .i64 0, .int .i64 0, .int .i64 0, .int .i64 0, .int .i64 0, .int .i64 0, .int .i64 0, .int .i64 0, .int .i64 0, .int .i64 0, .int .i64 0, .int .i64 0, .slice none 0 0, .slice none 0 0, .slice none 0 0, .slice none 0 0, .slice none 0 0, .slice none 0 0] 33)
        have hT' := hT.alloc (.cells #[.int .i64 0, .int .i64 0, .int .i64 0, .int .i64 0, .int .i64 0, .int .i64 0, .int .i64 0, .int .i64 0, .int .i64 0, .int .i64 0, .int .i64 0, .int .i64 0, .slice none 0 0, .slice none 0 0, .slice none 0 0, .slice none 0 0, .slice none 0 0, .slice none 0 0] 33)
        have hb' := hb.alloc hb.size (.cells #[.int .i64 0, .int .i64 0, .int .i64 0, .int .i64 0, .int .i64 0, .int .i64 0, .int .i64 0, .int .i64 0, .int .i64 0, .int .i64 0, .int .i64 0, .int .i64 0, .slice none 0 0, .slice none 0 0, .slice none 0 0, .slice none 0 0, .slice none 0 0, .slice none 0 0] 33)
        clear hN hT hb
        have hN := hN'
        have hT := hT'
        have hb := hb'
        clear hN' hT' hb'
        clear n0 n1 kc0 kc1 kc2 kc3 kc4
        have n0 : (v2.alloc (.cells #[.int .i64 0, .int .i64 0, .int .i64 0, .int .i64 0, .int .i64 0, .int .i64 0, .int .i64 0, .int .i64 0, .int .i64 0, .int .i64 0, .int .i64 0, .int .i64 0, .slice none 0 0, .slice none 0 0, .slice none 0 0, .slice none 0 0, .slice none 0 0, .slice none 0 0] 33)).cell? ⟨w.heap.size, 0, none⟩ = some (.int .i64 a) := (hN.cell 0).trans rfl
        have n1 : (v2.alloc (.cells #[.int .i64 0, .int .i64 0, .int .i64 0, .int .i64 0, .int .i64 0, .int .i64 0, .int .i64 0, .int .i64 0, .int .i64 0, .int .i64 0, .int .i64 0, .int .i64 0, .slice none 0 0, .slice none 0 0, .slice none 0 0, .slice none 0 0, .slice none 0 0, .slice none 0 0] 33)).cell? ⟨w.heap.size, 1, none⟩ = some (.int .i64 b) := (hN.cell 1).trans rfl
        have kc0 : (v2.alloc (.cells #[.int .i64 0, .int .i64 0, .int .i64 0, .int .i64 0, .int .i64 0, .int .i64 0, .int .i64 0, .int .i64 0, .int .i64 0, .int .i64 0, .int .i64 0, .int .i64 0, .slice none 0 0, .slice none 0 0, .slice none 0 0, .slice none 0 0, .slice none 0 0, .slice none 0 0] 33)).cell? ⟨w.heap.size + 1, 0, none⟩ = some (.int .i64 p) := (hT.cell 0).trans rfl
        have kc1 : (v2.alloc (.cells #[.int .i64 0, .int .i64 0, .int .i64 0, .int .i64 0, .int .i64 0, .int .i64 0, .int .i64 0, .int .i64 0, .int .i64 0, .int .i64 0, .int .i64 0, .int .i64 0, .slice none 0 0, .slice none 0 0, .slice none 0 0, .slice none 0 0, .slice none 0 0, .slice none 0 0] 33)).cell? ⟨w.heap.size + 1, 1, none⟩ = some (.int .i64 s1) := (hT.cell 1).trans rfl
        have kc2 : (v2.alloc (.cells #[.int .i64 0, .int .i64 0, .int .i64 0, .int .i64 0, .int .i64 0, .int .i64 0, .int .i64 0, .int .i64 0, .int .i64 0, .int .i64 0, .int .i64 0, .int .i64 0, .slice none 0 0, .slice none 0 0, .slice none 0 0, .slice none 0 0, .slice none 0 0, .slice none 0 0] 33)).cell? ⟨w.heap.size + 1, 2, none⟩ = some (.int .i64 s2) := (hT.cell 2).trans rfl
        have kc3 : (v2.alloc (.cells #[.int .i64 0, .int .i64 0, .int .i64 0, .int .i64 0, .int .i64 0, .int .i64 0, .int .i64 0, .int .i64 0, .int .i64 0, .int .i64 0, .int .i64 0, .int .i64 0, .slice none 0 0, .slice none 0 0, .slice none 0 0, .slice none 0 0, .slice none 0 0, .slice none 0 0] 33)).cell? ⟨w.heap.size + 1, 3, none⟩ = some (.int .i64 z) := (hT.cell 3).trans rfl
        have kc4 : (v2.alloc (.cells #[.int .i64 0, .int .i64 0, .int .i64 0, .int .i64 0, .int .i64 0, .int .i64 0, .int .i64 0, .int .i64 0, .int .i64 0, .int .i64 0, .int .i64 0, .int .i64 0, .slice none 0 0, .slice none 0 0, .slice none 0 0, .slice none 0 0, .slice none 0 0, .slice none 0 0] 33)).cell? ⟨w.heap.size + 1, 4, none⟩ = some (.int .i64 o) := (hT.cell 4).trans rfl
        refine hK.out _ _ ?_ (fun hHeld => ?_)
        · exact ⟨n0, n1, kc0, kc1, kc2, kc3, kc4⟩
        clear hK K
        try simp only [Act.put, List.setIfInBounds_toArray, List.set_cons_zero, List.set_cons_succ]
        have hgW : w.heap.size + 1 < v2.heap.size := by omega
        generalize (v2.alloc (.cells #[.int .i64 0, .int .i64 0, .int .i64 0, .int .i64 0, .int .i64 0, .int .i64 0, .int .i64 0, .int .i64 0, .int .i64 0, .int .i64 0, .int .i64 0, .int .i64 0, .slice none 0 0, .slice none 0 0, .slice none 0 0, .slice none 0 0, .slice none 0 0, .slice none 0 0] 33)) = v3 at *
        generalize v2.heap.size = g at *
        refine wpAnyH_ready (rs := [13]) (by kernel_rfl) (by simp) ?_
        refine AllReadyH.cons (o := _) (by simp only [List.getElem?_toArray, List.getElem?_cons_succ, List.getElem?_cons_zero]; rfl) (fun K hK => ?_) AllReadyH.nil
        refine step_store_box rfl 33 _ _ (by rfl) g #[.int .i64 0, .int .i64 0, .int .i64 0, .int .i64 0, .int .i64 0, .int .i64 0, .int .i64 0, .int .i64 0, .int .i64 0, .int .i64 0, .int .i64 0, .int .i64 0, .slice none 0 0, .slice none 0 0, .slice none 0 0, .slice none 0 0, .slice none 0 0, .slice none 0 0] (by rfl) (by rfl) 33 #[.int .i64 0, .int .i64 0, .int .i64 0, .int .i64 0, .int .i64 0, .int .i64 0, .int .i64 0, .int .i64 0, .int .i64 0, .int .i64 0, .int .i64 0, .int .i64 0, .slice none 0 0, .slice none 0 0, .slice none 0 0, .slice none 0 0, .slice none 0 0, .slice none 0 0] hX blkInfo rfl (by simp [Value.oneCell']) ?_
        intro W3 hX3 hg3
        have hN3 := hN.grown hg3 (fun e => by injection e with e; omega)
        have hT3 := hT.grown hg3 (fun e => by injection e with e; omega)
        have hb3 := hb.grown hg3 hb.size (fun j hj => by injection hj with hj; omega)
        clear hX hg3 hN hT hb
        clear n0 n1 kc0 kc1 kc2 kc3 kc4
        have n0 : W3.cell? ⟨w.heap.size, 0, none⟩ = some (.int .i64 a) := (hN3.cell 0).trans rfl
        have n1 : W3.cell? ⟨w.heap.size, 1, none⟩ = some (.int .i64 b) := (hN3.cell 1).trans rfl
        have kc0 : W3.cell? ⟨w.heap.size + 1, 0, none⟩ = some (.int .i64 p) := (hT3.cell 0).trans rfl
        have kc1 : W3.cell? ⟨w.heap.size + 1, 1, none⟩ = some (.int .i64 s1) := (hT3.cell 1).trans rfl
        have kc2 : W3.cell? ⟨w.heap.size + 1, 2, none⟩ = some (.int .i64 s2) := (hT3.cell 2).trans rfl
        have kc3 : W3.cell? ⟨w.heap.size + 1, 3, none⟩ = some (.int .i64 z) := (hT3.cell 3).trans rfl
        have kc4 : W3.cell? ⟨w.heap.size + 1, 4, none⟩ = some (.int .i64 o) := (hT3.cell 4).trans rfl
        refine hK.out _ _ ?_ (fun hHeld => ?_)
        · exact ⟨n0, n1, kc0, kc1, kc2, kc3, kc4⟩
        clear hK K
        try simp only [Act.put, List.setIfInBounds_toArray, List.set_cons_zero, List.set_cons_succ]
        refine wpAnyH_ready (rs := [14]) (by kernel_rfl) (by simp) ?_
        refine AllReadyH.cons (o := _) (by simp only [List.getElem?_toArray, List.getElem?_cons_succ, List.getElem?_cons_zero]; rfl) (fun K hK => ?_) AllReadyH.nil
        go_simp
        refine hK.out _ _ ?_ (fun hHeld => ?_)
        · exact ⟨n0, n1, kc0, kc1, kc2, kc3, kc4⟩
        clear hK K
        try simp only [Act.put, List.setIfInBounds_toArray, List.set_cons_zero, List.set_cons_succ]
        refine wpAnyH_ready (rs := [15]) (by kernel_rfl) (by simp) ?_
        refine AllReadyH.cons (o := _) (by simp only [List.getElem?_toArray, List.getElem?_cons_succ, List.getElem?_cons_zero]; rfl) (fun K hK => ?_) AllReadyH.nil
        go_simp
        refine hK.out _ _ ?_ (fun hHeld => ?_)
        · exact ⟨n0, n1, kc0, kc1, kc2, kc3, kc4⟩
        clear hK K
        try simp only [Act.put, List.setIfInBounds_toArray, List.set_cons_zero, List.set_cons_succ]
        refine wpAnyH_done (by kernel_rfl) ?_ _
        have hx3 := hX3.lt
        have hs3 := hT3.lt
        have hfr := findR_any W3 A n c ys a p s1 s2 z o b ((HR.out.below hb3).more hb3.size) HZ.out hN5
        have H3 := Lib.hid (And.intro hX3 (And.intro hb3 trivial))
        clear hX3 hb3 hN3 hT3
        go_wp2_with fail
        refine hfr.mono ?_
        rintro e w4 ⟨hb4, hfo⟩
        clear hfr n0 n1 kc0 kc1 kc2 kc3 kc4
        obtain ⟨hX3, hb3, own3⟩ := H3.out
        have hX4 := hX3.below hb4 hx3
        have hbl4 := bthen hb3 hb4
        have hx4 := hX4.lt
        rcases hfo with ⟨_, rfl⟩ | ⟨d, m, pa, k, V, hs, _⟩
        rotate_left
        · rw [hF] at hs; cases hs
        rw [show blkZ = #[.int .i64 0, .int .i64 0, .int .i64 0, .int .i64 0, .int .i64 0, .int .i64 0, .int .i64 0, .int .i64 0, .int .i64 0, .int .i64 0, .int .i64 0, .int .i64 0, .slice none 0 0, .slice none 0 0, .slice none 0 0, .slice none 0 0, .slice none 0 0, .slice none 0 0] from rfl]
        have hYa : Blk (w4.alloc (.cells #[.int .i64 0, .int .i64 0, .int .i64 0, .int .i64 0, .int .i64 0, .int .i64 0, .int .i64 0, .int .i64 0, .int .i64 0, .int .i64 0, .int .i64 0, .int .i64 0, .slice none 0 0, .slice none 0 0, .slice none 0 0, .slice none 0 0, .slice none 0 0, .slice none 0 0] 33)) w4.heap.size 33 #[.int .i64 0, .int .i64 0, .int .i64 0, .int .i64 0, .int .i64 0, .int .i64 0, .int .i64 0, .int .i64 0, .int .i64 0, .int .i64 0, .int .i64 0, .int .i64 0, .slice none 0 0, .slice none 0 0, .slice none 0 0, .slice none 0 0, .slice none 0 0, .slice none 0 0] := Blk.new w4 _ _
        have H4 := Lib.hid (And.intro hX4 hbl4)
        clear hX4 hbl4 hX3 hb3 own3 hb4 H3
        go_wp2_with (first
          | (refine wpList_store_box rfl 33 _ _ rfl (w4.heap.size) #[.int .i64 0, .int .i64 0, .int .i64 0, .int .i64 0, .int .i64 0, .int .i64 0, .int .i64 0, .int .i64 0, .int .i64 0, .int .i64 0, .int .i64 0, .int .i64 0, .slice none 0 0, .slice none 0 0, .slice none 0 0, .slice none 0 0, .slice none 0 0, .slice none 0 0] rfl rfl 33 #[.int .i64 0, .int .i64 0, .int .i64 0, .int .i64 0, .int .i64 0, .int .i64 0, .int .i64 0, .int .i64 0, .int .i64 0, .int .i64 0, .int .i64 0, .int .i64 0, .slice none 0 0, .slice none 0 0, .slice none 0 0, .slice none 0 0, .slice none 0 0, .slice none 0 0] hYa blkInfo rfl (by simp [Value.oneCell']) ?_)
          | fail)
        intro w5 hY5 hg5
        obtain ⟨hX4, hbl4⟩ := H4.out
        have hg45 := grown_trans (World.grownBy_alloc w4 (.cells #[.int .i64 0, .int .i64 0, .int .i64 0, .int .i64 0, .int .i64 0, .int .i64 0, .int .i64 0, .int .i64 0, .int .i64 0, .int .i64 0, .int .i64 0, .int .i64 0, .slice none 0 0, .slice none 0 0, .slice none 0 0, .slice none 0 0, .slice none 0 0, .slice none 0 0] 33) (some w4.heap.size)) hg5
        have hX5 := hX4.grown hg45 (fun e => by injection e with e; omega)
        have hb5 := hbl4.grown hg45 hbl4.size (fun j hj => by injection hj with hj; have := hbl4.size; omega)
        clear hX4 hbl4 H4 hg5 hg45 hYa
        have H5 := Lib.hid hb5
        clear hb5
        go_wp2_with (first
          | (refine wpList_load_box rfl 33 _ rfl g rfl 33 #[.int .i64 0, .int .i64 0, .int .i64 0, .int .i64 0, .int .i64 0, .int .i64 0, .int .i64 0, .int .i64 0, .int .i64 0, .int .i64 0, .int .i64 0, .int .i64 0, .slice none 0 0, .slice none 0 0, .slice none 0 0, .slice none 0 0, .slice none 0 0, .slice none 0 0] hX5 _ Try.underlying33 rfl blkInfo ?_)
          | (refine wpList_load_box rfl 33 _ rfl w4.heap.size rfl 33 #[.int .i64 0, .int .i64 0, .int .i64 0, .int .i64 0, .int .i64 0, .int .i64 0, .int .i64 0, .int .i64 0, .int .i64 0, .int .i64 0, .int .i64 0, .int .i64 0, .slice none 0 0, .slice none 0 0, .slice none 0 0, .slice none 0 0, .slice none 0 0, .slice none 0 0] hY5 _ Try.underlying33 rfl blkInfo ?_)
          | fail)
        try (refine fun (_ : Hid _) => ?_)
        go_wp2_with (first
          | (refine wpList_load_box rfl 33 _ rfl w4.heap.size rfl 33 #[.int .i64 0, .int .i64 0, .int .i64 0, .int .i64 0, .int .i64 0, .int .i64 0, .int .i64 0, .int .i64 0, .int .i64 0, .int .i64 0, .int .i64 0, .int .i64 0, .slice none 0 0, .slice none 0 0, .slice none 0 0, .slice none 0 0, .slice none 0 0, .slice none 0 0] hY5 _ Try.underlying33 rfl blkInfo ?_)
          | fail)
        try (refine fun (_ : Hid _) => ?_)
        clear hX5 hY5
        first
          | (refine (same_any w5 0 0 0 0 0 0 0 0 0 0 0 0 none none 0 0 0 [] Reads.none_ Reads.none_).mono ?_)
          | (go_wp2_with fail; refine (same_any w5 0 0 0 0 0 0 0 0 0 0 0 0 none none 0 0 0 [] Reads.none_ Reads.none_).mono ?_)
        rintro e w6 ⟨rfl, hb6⟩
        have hbl6 := bthen H5.out hb6
        clear hb6
        go_wp2_with fail
        refine (standard_any _).mono ?_
        rintro e w7 ⟨rfl, hb7⟩
        have hbl7 := bthen hbl6 hb7
        clear hb7 hbl6
        go_wp2_with fail
        refine (standardR_any _).mono ?_
        rintro e w8 ⟨rfl, hb8⟩
        have hbl8 := bthen hbl7 hb8
        clear hb8 hbl7
        go_wp2_with fail
        refine (ours_any _ 2168 667 735 855 1710).mono ?_
        rintro e w9 ⟨rfl, hb9⟩
        have hbl9 := bthen hbl8 hb9
        clear hb9 hbl8
        have heq := eq5 w9 2168 667 735 855 1710
        rw [show stdB 2168 667 735 855 1710 = true by decide] at heq
        go_wp2_with fail
        refine (lives27 _).mono ?_
        rintro e w10 ⟨rfl, hb10⟩
        go_wp2
        go_ret
        exact ⟨rfl, bthen hbl9 hb10⟩
      cases hst : stdB p s1 s2 z o
      · simp only [blkV, if_true, Bool.false_eq_true, if_false]
        obtain ⟨VA, vc, rfl⟩ := own_slice own2
        have hN' := hN.below hbe (by omega)
        have hT' := hT.below hbe (by omega)
        have hb' := bthen hb hbe
        clear hN hT hb hbe
        have hN := hN'
        have hT := hT'
        have hb := hb'
        clear hN' hT' hb'
        have own := ownsRow_le' own2 (base' := w.heap.size) (by omega)
        clear own2
        clear n0 n1 kc0 kc1 kc2 kc3 kc4
        have n0 : v2.cell? ⟨w.heap.size, 0, none⟩ = some (.int .i64 a) := (hN.cell 0).trans rfl
        have n1 : v2.cell? ⟨w.heap.size, 1, none⟩ = some (.int .i64 b) := (hN.cell 1).trans rfl
        have kc0 : v2.cell? ⟨w.heap.size + 1, 0, none⟩ = some (.int .i64 p) := (hT.cell 0).trans rfl
        have kc1 : v2.cell? ⟨w.heap.size + 1, 1, none⟩ = some (.int .i64 s1) := (hT.cell 1).trans rfl
        have kc2 : v2.cell? ⟨w.heap.size + 1, 2, none⟩ = some (.int .i64 s2) := (hT.cell 2).trans rfl
        have kc3 : v2.cell? ⟨w.heap.size + 1, 3, none⟩ = some (.int .i64 z) := (hT.cell 3).trans rfl
        have kc4 : v2.cell? ⟨w.heap.size + 1, 4, none⟩ = some (.int .i64 o) := (hT.cell 4).trans rfl
        have hWd := hT.lt
        refine hK.out _ _ ?_ (fun hHeld => ?_)
        · exact ⟨n0, n1, kc0, kc1, kc2, kc3, kc4⟩
        clear hK K
        try simp only [Act.put, List.setIfInBounds_toArray, List.set_cons_zero, List.set_cons_succ]
        refine wpAnyH_take (i := 8) (oi := _) (v := ?_) (by simp only [List.getElem?_toArray, List.getElem?_cons_succ, List.getElem?_cons_zero]; rfl) (by kernel_rfl) (by kernel_rfl) (by kernel_rfl) (by intro _ _ _ h; exact h) (Or.inl ⟨by rfl, ?_⟩) (by assumption) ?_
        rotate_left
        · intro w hSw
          try dsimp only at hSw
          obtain ⟨e0, e1, e2, e3, e4, e5, e6⟩ := hSw
          go_simp
          try with_reducible rfl
        try simp only [Act.put, List.setIfInBounds_toArray, List.set_cons_zero, List.set_cons_succ]
        refine wpAnyH_take (i := 9) (oi := _) (v := ?_) (by simp only [List.getElem?_toArray, List.getElem?_cons_succ, List.getElem?_cons_zero]; rfl) (by kernel_rfl) (by kernel_rfl) (by kernel_rfl) (by intro _ _ _ h; exact h) (Or.inl ⟨by rfl, ?_⟩) (by assumption) ?_
        rotate_left
        · intro w hSw
          try dsimp only at hSw
          obtain ⟨e0, e1, e2, e3, e4, e5, e6⟩ := hSw
          go_simp
          try with_reducible rfl
        try simp only [Act.put, List.setIfInBounds_toArray, List.set_cons_zero, List.set_cons_succ]
        refine wpAnyH_take (i := 10) (oi := _) (v := ?_) (by simp only [List.getElem?_toArray, List.getElem?_cons_succ, List.getElem?_cons_zero]; rfl) (by kernel_rfl) (by kernel_rfl) (by kernel_rfl) (by intro _ _ _ h; exact h) (Or.inl ⟨by rfl, ?_⟩) (by assumption) ?_
        rotate_left
        · intro w hSw
          try dsimp only at hSw
          obtain ⟨e0, e1, e2, e3, e4, e5, e6⟩ := hSw
          go_simp
          try with_reducible rfl
        try simp only [Act.put, List.setIfInBounds_toArray, List.set_cons_zero, List.set_cons_succ]
        refine wpAnyH_take (i := 11) (oi := _) (v := ?_) (by simp only [List.getElem?_toArray, List.getElem?_cons_succ, List.getElem?_cons_zero]; rfl) (by kernel_rfl) (by kernel_rfl) (by kernel_rfl) (by intro _ _ _ h; exact h) (Or.inl ⟨by rfl, ?_⟩) (by assumption) ?_
        rotate_left
        · intro w hSw
          try dsimp only at hSw
          obtain ⟨e0, e1, e2, e3, e4, e5, e6⟩ := hSw
          go_simp
          try with_reducible rfl
        try simp only [Act.put, List.setIfInBounds_toArray, List.set_cons_zero, List.set_cons_succ]
        refine wpAnyH_ready (rs := [12]) (by kernel_rfl) (by simp) ?_
        refine AllReadyH.cons (o := _) (by simp only [List.getElem?_toArray, List.getElem?_cons_succ, List.getElem?_cons_zero]; rfl) (fun K hK => ?_) AllReadyH.nil
        go_simp
        have hX : Blk (v2.alloc (.cells #[.int .i64 0, .int .i64 0, .int .i64 0, .int .i64 0, .int .i64 0, .int .i64 0, .int .i64 0, .int .i64 0, .int .i64 0, .int .i64 0, .int .i64 0, .int .i64 0, .slice none 0 0, .slice none 0 0, .slice none 0 0, .slice none 0 0, .slice none 0 0, .slice none 0 0] 33)) v2.heap.size 33 #[.int .i64 0, .int .i64 0, .int .i64 0, .int .i64 0, .int .i64 0, .int .i64 0, .int .i64 0, .int .i64 0, .int .i64 0, .int .i64 0, .int .i64 0, .int .i64 0, .slice none 0 0, .slice none 0 0, .slice none 0 0, .slice none 0 0, .slice none 0 0, .slice none 0 0] := Blk.new _ _ _
        have hN' := hN.alloc (.cells #[.int .i64 0, .int .i64 0, .int .i64 0, .int .i64 0, .int .i64 0, .int .i64 0, .int .i64 0, .int .i64 0, .int .i64 0, .int .i64 0, .int .i64 0, .int .i64 0, .slice none 0 0, .slice none 0 0, .slice none 0 0, .slice none 0 0, .slice none 0 0, .slice none 0 0] 33)
        have hT' := hT.alloc (.cells #[.int .i64 0, .int .i64 0, .int .i64 0, .int .i64 0, .int .i64 0, .int .i64 0, .int .i64 0, .int .i64 0, .int .i64 0, .int .i64 0, .int .i64 0, .int .i64 0, .slice none 0 0, .slice none 0 0, .slice none 0 0, .slice none 0 0, .slice none 0 0, .slice none 0 0] 33)
        have hb' := hb.alloc hb.size (.cells #[.int .i64 0, .int .i64 0, .int .i64 0, .int .i64 0, .int .i64 0, .int .i64 0, .int .i64 0, .int .i64 0, .int .i64 0, .int .i64 0, .int .i64 0, .int .i64 0, .slice none 0 0, .slice none 0 0, .slice none 0 0, .slice none 0 0, .slice none 0 0, .slice none 0 0] 33)
        have own' := own.alloc (.cells #[.int .i64 0, .int .i64 0, .int .i64 0, .int .i64 0, .int .i64 0, .int .i64 0, .int .i64 0, .int .i64 0, .int .i64 0, .int .i64 0, .int .i64 0, .int .i64 0, .slice none 0 0, .slice none 0 0, .slice none 0 0, .slice none 0 0, .slice none 0 0, .slice none 0 0] 33)
        clear hN hT hb own
        have hN := hN'
        have hT := hT'
        have hb := hb'
        have own := own'
        clear hN' hT' hb' own'
        clear n0 n1 kc0 kc1 kc2 kc3 kc4
        have n0 : (v2.alloc (.cells #[.int .i64 0, .int .i64 0, .int .i64 0, .int .i64 0, .int .i64 0, .int .i64 0, .int .i64 0, .int .i64 0, .int .i64 0, .int .i64 0, .int .i64 0, .int .i64 0, .slice none 0 0, .slice none 0 0, .slice none 0 0, .slice none 0 0, .slice none 0 0, .slice none 0 0] 33)).cell? ⟨w.heap.size, 0, none⟩ = some (.int .i64 a) := (hN.cell 0).trans rfl
        have n1 : (v2.alloc (.cells #[.int .i64 0, .int .i64 0, .int .i64 0, .int .i64 0, .int .i64 0, .int .i64 0, .int .i64 0, .int .i64 0, .int .i64 0, .int .i64 0, .int .i64 0, .int .i64 0, .slice none 0 0, .slice none 0 0, .slice none 0 0, .slice none 0 0, .slice none 0 0, .slice none 0 0] 33)).cell? ⟨w.heap.size, 1, none⟩ = some (.int .i64 b) := (hN.cell 1).trans rfl
        have kc0 : (v2.alloc (.cells #[.int .i64 0, .int .i64 0, .int .i64 0, .int .i64 0, .int .i64 0, .int .i64 0, .int .i64 0, .int .i64 0, .int .i64 0, .int .i64 0, .int .i64 0, .int .i64 0, .slice none 0 0, .slice none 0 0, .slice none 0 0, .slice none 0 0, .slice none 0 0, .slice none 0 0] 33)).cell? ⟨w.heap.size + 1, 0, none⟩ = some (.int .i64 p) := (hT.cell 0).trans rfl
        have kc1 : (v2.alloc (.cells #[.int .i64 0, .int .i64 0, .int .i64 0, .int .i64 0, .int .i64 0, .int .i64 0, .int .i64 0, .int .i64 0, .int .i64 0, .int .i64 0, .int .i64 0, .int .i64 0, .slice none 0 0, .slice none 0 0, .slice none 0 0, .slice none 0 0, .slice none 0 0, .slice none 0 0] 33)).cell? ⟨w.heap.size + 1, 1, none⟩ = some (.int .i64 s1) := (hT.cell 1).trans rfl
        have kc2 : (v2.alloc (.cells #[.int .i64 0, .int .i64 0, .int .i64 0, .int .i64 0, .int .i64 0, .int .i64 0, .int .i64 0, .int .i64 0, .int .i64 0, .int .i64 0, .int .i64 0, .int .i64 0, .slice none 0 0, .slice none 0 0, .slice none 0 0, .slice none 0 0, .slice none 0 0, .slice none 0 0] 33)).cell? ⟨w.heap.size + 1, 2, none⟩ = some (.int .i64 s2) := (hT.cell 2).trans rfl
        have kc3 : (v2.alloc (.cells #[.int .i64 0, .int .i64 0, .int .i64 0, .int .i64 0, .int .i64 0, .int .i64 0, .int .i64 0, .int .i64 0, .int .i64 0, .int .i64 0, .int .i64 0, .int .i64 0, .slice none 0 0, .slice none 0 0, .slice none 0 0, .slice none 0 0, .slice none 0 0, .slice none 0 0] 33)).cell? ⟨w.heap.size + 1, 3, none⟩ = some (.int .i64 z) := (hT.cell 3).trans rfl
        have kc4 : (v2.alloc (.cells #[.int .i64 0, .int .i64 0, .int .i64 0, .int .i64 0, .int .i64 0, .int .i64 0, .int .i64 0, .int .i64 0, .int .i64 0, .int .i64 0, .int .i64 0, .int .i64 0, .slice none 0 0, .slice none 0 0, .slice none 0 0, .slice none 0 0, .slice none 0 0, .slice none 0 0] 33)).cell? ⟨w.heap.size + 1, 4, none⟩ = some (.int .i64 o) := (hT.cell 4).trans rfl
        refine hK.out _ _ ?_ (fun hHeld => ?_)
        · exact ⟨n0, n1, kc0, kc1, kc2, kc3, kc4⟩
        clear hK K
        try simp only [Act.put, List.setIfInBounds_toArray, List.set_cons_zero, List.set_cons_succ]
        have hgW : w.heap.size + 1 < v2.heap.size := by omega
        generalize (v2.alloc (.cells #[.int .i64 0, .int .i64 0, .int .i64 0, .int .i64 0, .int .i64 0, .int .i64 0, .int .i64 0, .int .i64 0, .int .i64 0, .int .i64 0, .int .i64 0, .int .i64 0, .slice none 0 0, .slice none 0 0, .slice none 0 0, .slice none 0 0, .slice none 0 0, .slice none 0 0] 33)) = v3 at *
        generalize v2.heap.size = g at *
        refine wpAnyH_ready (rs := [13]) (by kernel_rfl) (by simp) ?_
        refine AllReadyH.cons (o := _) (by simp only [List.getElem?_toArray, List.getElem?_cons_succ, List.getElem?_cons_zero]; rfl) (fun K hK => ?_) AllReadyH.nil
        refine step_store_box rfl 33 _ _ (by rfl) g #[.int .i64 17, .int .i64 pa, .int .i64 p, .int .i64 s1, .int .i64 s2, .int .i64 z, .int .i64 o, .int .i64 0, .int .i64 m, .int .i64 8, .int .i64 0, .int .i64 0, .slice VA d.length vc, .slice none 0 0, .slice none 0 0, .slice none 0 0, .slice none 0 0, .slice none 0 0] (by rfl) (by rfl) 33 #[.int .i64 0, .int .i64 0, .int .i64 0, .int .i64 0, .int .i64 0, .int .i64 0, .int .i64 0, .int .i64 0, .int .i64 0, .int .i64 0, .int .i64 0, .int .i64 0, .slice none 0 0, .slice none 0 0, .slice none 0 0, .slice none 0 0, .slice none 0 0, .slice none 0 0] hX blkInfo rfl (by simp [Value.oneCell']) ?_
        intro W3 hX3 hg3
        have hN3 := hN.grown hg3 (fun e => by injection e with e; omega)
        have hT3 := hT.grown hg3 (fun e => by injection e with e; omega)
        have hb3 := hb.grown hg3 hb.size (fun j hj => by injection hj with hj; omega)
        have own3 := own.kept hg3 (.inr (own_blk_ne own hX (by decide)))
        clear hX hg3 hN hT hb own
        clear n0 n1 kc0 kc1 kc2 kc3 kc4
        have n0 : W3.cell? ⟨w.heap.size, 0, none⟩ = some (.int .i64 a) := (hN3.cell 0).trans rfl
        have n1 : W3.cell? ⟨w.heap.size, 1, none⟩ = some (.int .i64 b) := (hN3.cell 1).trans rfl
        have kc0 : W3.cell? ⟨w.heap.size + 1, 0, none⟩ = some (.int .i64 p) := (hT3.cell 0).trans rfl
        have kc1 : W3.cell? ⟨w.heap.size + 1, 1, none⟩ = some (.int .i64 s1) := (hT3.cell 1).trans rfl
        have kc2 : W3.cell? ⟨w.heap.size + 1, 2, none⟩ = some (.int .i64 s2) := (hT3.cell 2).trans rfl
        have kc3 : W3.cell? ⟨w.heap.size + 1, 3, none⟩ = some (.int .i64 z) := (hT3.cell 3).trans rfl
        have kc4 : W3.cell? ⟨w.heap.size + 1, 4, none⟩ = some (.int .i64 o) := (hT3.cell 4).trans rfl
        refine hK.out _ _ ?_ (fun hHeld => ?_)
        · exact ⟨n0, n1, kc0, kc1, kc2, kc3, kc4⟩
        clear hK K
        try simp only [Act.put, List.setIfInBounds_toArray, List.set_cons_zero, List.set_cons_succ]
        refine wpAnyH_ready (rs := [14]) (by kernel_rfl) (by simp) ?_
        refine AllReadyH.cons (o := _) (by simp only [List.getElem?_toArray, List.getElem?_cons_succ, List.getElem?_cons_zero]; rfl) (fun K hK => ?_) AllReadyH.nil
        go_simp
        refine hK.out _ _ ?_ (fun hHeld => ?_)
        · exact ⟨n0, n1, kc0, kc1, kc2, kc3, kc4⟩
        clear hK K
        try simp only [Act.put, List.setIfInBounds_toArray, List.set_cons_zero, List.set_cons_succ]
        refine wpAnyH_ready (rs := [15]) (by kernel_rfl) (by simp) ?_
        refine AllReadyH.cons (o := _) (by simp only [List.getElem?_toArray, List.getElem?_cons_succ, List.getElem?_cons_zero]; rfl) (fun K hK => ?_) AllReadyH.nil
        go_simp
        refine hK.out _ _ ?_ (fun hHeld => ?_)
        · exact ⟨n0, n1, kc0, kc1, kc2, kc3, kc4⟩
        clear hK K
        try simp only [Act.put, List.setIfInBounds_toArray, List.set_cons_zero, List.set_cons_succ]
        refine wpAnyH_done (by kernel_rfl) ?_ _
        have hx3 := hX3.lt
        have hs3 := hT3.lt
        have hfr := findR_any W3 A n c ys a p s1 s2 z o b ((HR.out.below hb3).more hb3.size) HZ.out hN5
        have H3 := Lib.hid (And.intro hX3 (And.intro hb3 own3))
        clear hX3 hb3 hN3 hT3 own3
        go_wp2_with fail
        refine hfr.mono ?_
        rintro e w4 ⟨hb4, hfo⟩
        clear hfr n0 n1 kc0 kc1 kc2 kc3 kc4
        obtain ⟨hX3, hb3, own3⟩ := H3.out
        have hX4 := hX3.below hb4 hx3
        have hbl4 := bthen hb3 hb4
        have hx4 := hX4.lt
        have own4 := own_kept own3 hb4
        rcases hfo with ⟨hs, _⟩ | ⟨d', m', pa', k', V', hs, rfl, ownY, _⟩
        · rw [hF] at hs; cases hs
        rw [hF] at hs
        injection hs with hs
        injection hs with h1 hs
        injection hs with h2 hs
        injection hs with h3 h4
        subst h1 h2 h3 h4
        rw [hst]
        obtain ⟨YA, yc, rfl⟩ := own_slice ownY
        simp only [blkV, if_true, Bool.false_eq_true, if_false]
        have hYa : Blk (w4.alloc (.cells #[.int .i64 0, .int .i64 0, .int .i64 0, .int .i64 0, .int .i64 0, .int .i64 0, .int .i64 0, .int .i64 0, .int .i64 0, .int .i64 0, .int .i64 0, .int .i64 0, .slice none 0 0, .slice none 0 0, .slice none 0 0, .slice none 0 0, .slice none 0 0, .slice none 0 0] 33)) w4.heap.size 33 #[.int .i64 0, .int .i64 0, .int .i64 0, .int .i64 0, .int .i64 0, .int .i64 0, .int .i64 0, .int .i64 0, .int .i64 0, .int .i64 0, .int .i64 0, .int .i64 0, .slice none 0 0, .slice none 0 0, .slice none 0 0, .slice none 0 0, .slice none 0 0, .slice none 0 0] := Blk.new w4 _ _
        have H4 := Lib.hid (And.intro hX4 hbl4)
        clear hX4 hbl4 hX3 hb3 own3 hb4 H3
        go_wp2_with (first
          | (refine wpList_store_box rfl 33 _ _ rfl (w4.heap.size) #[.int .i64 17, .int .i64 pa, .int .i64 p, .int .i64 s1, .int .i64 s2, .int .i64 z, .int .i64 o, .int .i64 0, .int .i64 m, .int .i64 8, .int .i64 0, .int .i64 0, .slice YA d.length yc, .slice none 0 0, .slice none 0 0, .slice none 0 0, .slice none 0 0, .slice none 0 0] rfl rfl 33 #[.int .i64 0, .int .i64 0, .int .i64 0, .int .i64 0, .int .i64 0, .int .i64 0, .int .i64 0, .int .i64 0, .int .i64 0, .int .i64 0, .int .i64 0, .int .i64 0, .slice none 0 0, .slice none 0 0, .slice none 0 0, .slice none 0 0, .slice none 0 0, .slice none 0 0] hYa blkInfo rfl (by simp [Value.oneCell']) ?_)
          | fail)
        intro w5 hY5 hg5
        obtain ⟨hX4, hbl4⟩ := H4.out
        have hg45 := grown_trans (World.grownBy_alloc w4 (.cells #[.int .i64 0, .int .i64 0, .int .i64 0, .int .i64 0, .int .i64 0, .int .i64 0, .int .i64 0, .int .i64 0, .int .i64 0, .int .i64 0, .int .i64 0, .int .i64 0, .slice none 0 0, .slice none 0 0, .slice none 0 0, .slice none 0 0, .slice none 0 0, .slice none 0 0] 33) (some w4.heap.size)) hg5
        have hX5 := hX4.grown hg45 (fun e => by injection e with e; omega)
        have hb5 := hbl4.grown hg45 hbl4.size (fun j hj => by injection hj with hj; have := hbl4.size; omega)
        have own5 := own4.kept hg45 (own_far own4)
        have ownY5 := ownY.kept hg45 (own_far ownY)
        have HO := Lib.hid (And.intro own5 ownY5)
        clear own5 ownY5 own4 ownY
        clear hX4 hbl4 H4 hg5 hg45 hYa
        have H5 := Lib.hid hb5
        clear hb5
        go_wp2_with (first
          | (refine wpList_load_box rfl 33 _ rfl g rfl 33 #[.int .i64 17, .int .i64 pa, .int .i64 p, .int .i64 s1, .int .i64 s2, .int .i64 z, .int .i64 o, .int .i64 0, .int .i64 m, .int .i64 8, .int .i64 0, .int .i64 0, .slice VA d.length vc, .slice none 0 0, .slice none 0 0, .slice none 0 0, .slice none 0 0, .slice none 0 0] hX5 _ Try.underlying33 rfl blkInfo ?_)
          | (refine wpList_load_box rfl 33 _ rfl w4.heap.size rfl 33 #[.int .i64 17, .int .i64 pa, .int .i64 p, .int .i64 s1, .int .i64 s2, .int .i64 z, .int .i64 o, .int .i64 0, .int .i64 m, .int .i64 8, .int .i64 0, .int .i64 0, .slice YA d.length yc, .slice none 0 0, .slice none 0 0, .slice none 0 0, .slice none 0 0, .slice none 0 0] hY5 _ Try.underlying33 rfl blkInfo ?_)
          | fail)
        try (refine fun (_ : Hid _) => ?_)
        go_wp2_with (first
          | (refine wpList_load_box rfl 33 _ rfl w4.heap.size rfl 33 #[.int .i64 17, .int .i64 pa, .int .i64 p, .int .i64 s1, .int .i64 s2, .int .i64 z, .int .i64 o, .int .i64 0, .int .i64 m, .int .i64 8, .int .i64 0, .int .i64 0, .slice YA d.length yc, .slice none 0 0, .slice none 0 0, .slice none 0 0, .slice none 0 0, .slice none 0 0] hY5 _ Try.underlying33 rfl blkInfo ?_)
          | fail)
        try (refine fun (_ : Hid _) => ?_)
        clear hX5 hY5
        obtain ⟨own5, ownY5⟩ := HO.out
        first
          | (refine (same_any w5 (17) (pa) (p) (s1) (s2) (z) (o) (0) (m) (8) (0) (0) VA YA d.length vc yc d ((Reads.of_own own5)) (Reads.of_own ownY5)).mono ?_)
          | (go_wp2_with fail; refine (same_any w5 (17) (pa) (p) (s1) (s2) (z) (o) (0) (m) (8) (0) (0) VA YA d.length vc yc d ((Reads.of_own own5)) (Reads.of_own ownY5)).mono ?_)
        rintro e w6 ⟨rfl, hb6⟩
        have hbl6 := bthen H5.out hb6
        clear hb6
        go_wp2_with fail
        refine (standard_any _).mono ?_
        rintro e w7 ⟨rfl, hb7⟩
        have hbl7 := bthen hbl6 hb7
        clear hb7 hbl6
        go_wp2_with fail
        refine (standardR_any _).mono ?_
        rintro e w8 ⟨rfl, hb8⟩
        have hbl8 := bthen hbl7 hb8
        clear hb8 hbl7
        go_wp2_with fail
        refine (ours_any _ 2168 667 735 855 1710).mono ?_
        rintro e w9 ⟨rfl, hb9⟩
        have hbl9 := bthen hbl8 hb9
        clear hb9 hbl8
        have heq := eq5 w9 2168 667 735 855 1710
        rw [show stdB 2168 667 735 855 1710 = true by decide] at heq
        go_wp2_with fail
        refine (lives27 _).mono ?_
        rintro e w10 ⟨rfl, hb10⟩
        go_wp2
        go_ret
        exact ⟨rfl, bthen hbl9 hb10⟩
      · simp only [blkV, if_true, Bool.false_eq_true, if_false]
        obtain ⟨VA, vc, rfl⟩ := own_slice own2
        have hN' := hN.below hbe (by omega)
        have hT' := hT.below hbe (by omega)
        have hb' := bthen hb hbe
        clear hN hT hb hbe
        have hN := hN'
        have hT := hT'
        have hb := hb'
        clear hN' hT' hb'
        have own := ownsRow_le' own2 (base' := w.heap.size) (by omega)
        clear own2
        clear n0 n1 kc0 kc1 kc2 kc3 kc4
        have n0 : v2.cell? ⟨w.heap.size, 0, none⟩ = some (.int .i64 a) := (hN.cell 0).trans rfl
        have n1 : v2.cell? ⟨w.heap.size, 1, none⟩ = some (.int .i64 b) := (hN.cell 1).trans rfl
        have kc0 : v2.cell? ⟨w.heap.size + 1, 0, none⟩ = some (.int .i64 p) := (hT.cell 0).trans rfl
        have kc1 : v2.cell? ⟨w.heap.size + 1, 1, none⟩ = some (.int .i64 s1) := (hT.cell 1).trans rfl
        have kc2 : v2.cell? ⟨w.heap.size + 1, 2, none⟩ = some (.int .i64 s2) := (hT.cell 2).trans rfl
        have kc3 : v2.cell? ⟨w.heap.size + 1, 3, none⟩ = some (.int .i64 z) := (hT.cell 3).trans rfl
        have kc4 : v2.cell? ⟨w.heap.size + 1, 4, none⟩ = some (.int .i64 o) := (hT.cell 4).trans rfl
        have hWd := hT.lt
        refine hK.out _ _ ?_ (fun hHeld => ?_)
        · exact ⟨n0, n1, kc0, kc1, kc2, kc3, kc4⟩
        clear hK K
        try simp only [Act.put, List.setIfInBounds_toArray, List.set_cons_zero, List.set_cons_succ]
        refine wpAnyH_take (i := 8) (oi := _) (v := ?_) (by simp only [List.getElem?_toArray, List.getElem?_cons_succ, List.getElem?_cons_zero]; rfl) (by kernel_rfl) (by kernel_rfl) (by kernel_rfl) (by intro _ _ _ h; exact h) (Or.inl ⟨by rfl, ?_⟩) (by assumption) ?_
        rotate_left
        · intro w hSw
          try dsimp only at hSw
          obtain ⟨e0, e1, e2, e3, e4, e5, e6⟩ := hSw
          go_simp
          try with_reducible rfl
        try simp only [Act.put, List.setIfInBounds_toArray, List.set_cons_zero, List.set_cons_succ]
        refine wpAnyH_take (i := 9) (oi := _) (v := ?_) (by simp only [List.getElem?_toArray, List.getElem?_cons_succ, List.getElem?_cons_zero]; rfl) (by kernel_rfl) (by kernel_rfl) (by kernel_rfl) (by intro _ _ _ h; exact h) (Or.inl ⟨by rfl, ?_⟩) (by assumption) ?_
        rotate_left
        · intro w hSw
          try dsimp only at hSw
          obtain ⟨e0, e1, e2, e3, e4, e5, e6⟩ := hSw
          go_simp
          try with_reducible rfl
        try simp only [Act.put, List.setIfInBounds_toArray, List.set_cons_zero, List.set_cons_succ]
        refine wpAnyH_take (i := 10) (oi := _) (v := ?_) (by simp only [List.getElem?_toArray, List.getElem?_cons_succ, List.getElem?_cons_zero]; rfl) (by kernel_rfl) (by kernel_rfl) (by kernel_rfl) (by intro _ _ _ h; exact h) (Or.inl ⟨by rfl, ?_⟩) (by assumption) ?_
        rotate_left
        · intro w hSw
          try dsimp only at hSw
          obtain ⟨e0, e1, e2, e3, e4, e5, e6⟩ := hSw
          go_simp
          try with_reducible rfl
        try simp only [Act.put, List.setIfInBounds_toArray, List.set_cons_zero, List.set_cons_succ]
        refine wpAnyH_take (i := 11) (oi := _) (v := ?_) (by simp only [List.getElem?_toArray, List.getElem?_cons_succ, List.getElem?_cons_zero]; rfl) (by kernel_rfl) (by kernel_rfl) (by kernel_rfl) (by intro _ _ _ h; exact h) (Or.inl ⟨by rfl, ?_⟩) (by assumption) ?_
        rotate_left
        · intro w hSw
          try dsimp only at hSw
          obtain ⟨e0, e1, e2, e3, e4, e5, e6⟩ := hSw
          go_simp
          try with_reducible rfl
        try simp only [Act.put, List.setIfInBounds_toArray, List.set_cons_zero, List.set_cons_succ]
        refine wpAnyH_ready (rs := [12]) (by kernel_rfl) (by simp) ?_
        refine AllReadyH.cons (o := _) (by simp only [List.getElem?_toArray, List.getElem?_cons_succ, List.getElem?_cons_zero]; rfl) (fun K hK => ?_) AllReadyH.nil
        go_simp
        have hX : Blk (v2.alloc (.cells #[.int .i64 0, .int .i64 0, .int .i64 0, .int .i64 0, .int .i64 0, .int .i64 0, .int .i64 0, .int .i64 0, .int .i64 0, .int .i64 0, .int .i64 0, .int .i64 0, .slice none 0 0, .slice none 0 0, .slice none 0 0, .slice none 0 0, .slice none 0 0, .slice none 0 0] 33)) v2.heap.size 33 #[.int .i64 0, .int .i64 0, .int .i64 0, .int .i64 0, .int .i64 0, .int .i64 0, .int .i64 0, .int .i64 0, .int .i64 0, .int .i64 0, .int .i64 0, .int .i64 0, .slice none 0 0, .slice none 0 0, .slice none 0 0, .slice none 0 0, .slice none 0 0, .slice none 0 0] := Blk.new _ _ _
        have hN' := hN.alloc (.cells #[.int .i64 0, .int .i64 0, .int .i64 0, .int .i64 0, .int .i64 0, .int .i64 0, .int .i64 0, .int .i64 0, .int .i64 0, .int .i64 0, .int .i64 0, .int .i64 0, .slice none 0 0, .slice none 0 0, .slice none 0 0, .slice none 0 0, .slice none 0 0, .slice none 0 0] 33)
        have hT' := hT.alloc (.cells #[.int .i64 0, .int .i64 0, .int .i64 0, .int .i64 0, .int .i64 0, .int .i64 0, .int .i64 0, .int .i64 0, .int .i64 0, .int .i64 0, .int .i64 0, .int .i64 0, .slice none 0 0, .slice none 0 0, .slice none 0 0, .slice none 0 0, .slice none 0 0, .slice none 0 0] 33)
        have hb' := hb.alloc hb.size (.cells #[.int .i64 0, .int .i64 0, .int .i64 0, .int .i64 0, .int .i64 0, .int .i64 0, .int .i64 0, .int .i64 0, .int .i64 0, .int .i64 0, .int .i64 0, .int .i64 0, .slice none 0 0, .slice none 0 0, .slice none 0 0, .slice none 0 0, .slice none 0 0, .slice none 0 0] 33)
        have own' := own.alloc (.cells #[.int .i64 0, .int .i64 0, .int .i64 0, .int .i64 0, .int .i64 0, .int .i64 0, .int .i64 0, .int .i64 0, .int .i64 0, .int .i64 0, .int .i64 0, .int .i64 0, .slice none 0 0, .slice none 0 0, .slice none 0 0, .slice none 0 0, .slice none 0 0, .slice none 0 0] 33)
        clear hN hT hb own
        have hN := hN'
        have hT := hT'
        have hb := hb'
        have own := own'
        clear hN' hT' hb' own'
        clear n0 n1 kc0 kc1 kc2 kc3 kc4
        have n0 : (v2.alloc (.cells #[.int .i64 0, .int .i64 0, .int .i64 0, .int .i64 0, .int .i64 0, .int .i64 0, .int .i64 0, .int .i64 0, .int .i64 0, .int .i64 0, .int .i64 0, .int .i64 0, .slice none 0 0, .slice none 0 0, .slice none 0 0, .slice none 0 0, .slice none 0 0, .slice none 0 0] 33)).cell? ⟨w.heap.size, 0, none⟩ = some (.int .i64 a) := (hN.cell 0).trans rfl
        have n1 : (v2.alloc (.cells #[.int .i64 0, .int .i64 0, .int .i64 0, .int .i64 0, .int .i64 0, .int .i64 0, .int .i64 0, .int .i64 0, .int .i64 0, .int .i64 0, .int .i64 0, .int .i64 0, .slice none 0 0, .slice none 0 0, .slice none 0 0, .slice none 0 0, .slice none 0 0, .slice none 0 0] 33)).cell? ⟨w.heap.size, 1, none⟩ = some (.int .i64 b) := (hN.cell 1).trans rfl
        have kc0 : (v2.alloc (.cells #[.int .i64 0, .int .i64 0, .int .i64 0, .int .i64 0, .int .i64 0, .int .i64 0, .int .i64 0, .int .i64 0, .int .i64 0, .int .i64 0, .int .i64 0, .int .i64 0, .slice none 0 0, .slice none 0 0, .slice none 0 0, .slice none 0 0, .slice none 0 0, .slice none 0 0] 33)).cell? ⟨w.heap.size + 1, 0, none⟩ = some (.int .i64 p) := (hT.cell 0).trans rfl
        have kc1 : (v2.alloc (.cells #[.int .i64 0, .int .i64 0, .int .i64 0, .int .i64 0, .int .i64 0, .int .i64 0, .int .i64 0, .int .i64 0, .int .i64 0, .int .i64 0, .int .i64 0, .int .i64 0, .slice none 0 0, .slice none 0 0, .slice none 0 0, .slice none 0 0, .slice none 0 0, .slice none 0 0] 33)).cell? ⟨w.heap.size + 1, 1, none⟩ = some (.int .i64 s1) := (hT.cell 1).trans rfl
        have kc2 : (v2.alloc (.cells #[.int .i64 0, .int .i64 0, .int .i64 0, .int .i64 0, .int .i64 0, .int .i64 0, .int .i64 0, .int .i64 0, .int .i64 0, .int .i64 0, .int .i64 0, .int .i64 0, .slice none 0 0, .slice none 0 0, .slice none 0 0, .slice none 0 0, .slice none 0 0, .slice none 0 0] 33)).cell? ⟨w.heap.size + 1, 2, none⟩ = some (.int .i64 s2) := (hT.cell 2).trans rfl
        have kc3 : (v2.alloc (.cells #[.int .i64 0, .int .i64 0, .int .i64 0, .int .i64 0, .int .i64 0, .int .i64 0, .int .i64 0, .int .i64 0, .int .i64 0, .int .i64 0, .int .i64 0, .int .i64 0, .slice none 0 0, .slice none 0 0, .slice none 0 0, .slice none 0 0, .slice none 0 0, .slice none 0 0] 33)).cell? ⟨w.heap.size + 1, 3, none⟩ = some (.int .i64 z) := (hT.cell 3).trans rfl
        have kc4 : (v2.alloc (.cells #[.int .i64 0, .int .i64 0, .int .i64 0, .int .i64 0, .int .i64 0, .int .i64 0, .int .i64 0, .int .i64 0, .int .i64 0, .int .i64 0, .int .i64 0, .int .i64 0, .slice none 0 0, .slice none 0 0, .slice none 0 0, .slice none 0 0, .slice none 0 0, .slice none 0 0] 33)).cell? ⟨w.heap.size + 1, 4, none⟩ = some (.int .i64 o) := (hT.cell 4).trans rfl
        refine hK.out _ _ ?_ (fun hHeld => ?_)
        · exact ⟨n0, n1, kc0, kc1, kc2, kc3, kc4⟩
        clear hK K
        try simp only [Act.put, List.setIfInBounds_toArray, List.set_cons_zero, List.set_cons_succ]
        have hgW : w.heap.size + 1 < v2.heap.size := by omega
        generalize (v2.alloc (.cells #[.int .i64 0, .int .i64 0, .int .i64 0, .int .i64 0, .int .i64 0, .int .i64 0, .int .i64 0, .int .i64 0, .int .i64 0, .int .i64 0, .int .i64 0, .int .i64 0, .slice none 0 0, .slice none 0 0, .slice none 0 0, .slice none 0 0, .slice none 0 0, .slice none 0 0] 33)) = v3 at *
        generalize v2.heap.size = g at *
        refine wpAnyH_ready (rs := [13]) (by kernel_rfl) (by simp) ?_
        refine AllReadyH.cons (o := _) (by simp only [List.getElem?_toArray, List.getElem?_cons_succ, List.getElem?_cons_zero]; rfl) (fun K hK => ?_) AllReadyH.nil
        refine step_store_box rfl 33 _ _ (by rfl) g #[.int .i64 16, .int .i64 pa, .int .i64 0, .int .i64 0, .int .i64 0, .int .i64 0, .int .i64 0, .int .i64 0, .int .i64 0, .int .i64 0, .int .i64 0, .int .i64 0, .slice VA d.length vc, .slice none 0 0, .slice none 0 0, .slice none 0 0, .slice none 0 0, .slice none 0 0] (by rfl) (by rfl) 33 #[.int .i64 0, .int .i64 0, .int .i64 0, .int .i64 0, .int .i64 0, .int .i64 0, .int .i64 0, .int .i64 0, .int .i64 0, .int .i64 0, .int .i64 0, .int .i64 0, .slice none 0 0, .slice none 0 0, .slice none 0 0, .slice none 0 0, .slice none 0 0, .slice none 0 0] hX blkInfo rfl (by simp [Value.oneCell']) ?_
        intro W3 hX3 hg3
        have hN3 := hN.grown hg3 (fun e => by injection e with e; omega)
        have hT3 := hT.grown hg3 (fun e => by injection e with e; omega)
        have hb3 := hb.grown hg3 hb.size (fun j hj => by injection hj with hj; omega)
        have own3 := own.kept hg3 (.inr (own_blk_ne own hX (by decide)))
        clear hX hg3 hN hT hb own
        clear n0 n1 kc0 kc1 kc2 kc3 kc4
        have n0 : W3.cell? ⟨w.heap.size, 0, none⟩ = some (.int .i64 a) := (hN3.cell 0).trans rfl
        have n1 : W3.cell? ⟨w.heap.size, 1, none⟩ = some (.int .i64 b) := (hN3.cell 1).trans rfl
        have kc0 : W3.cell? ⟨w.heap.size + 1, 0, none⟩ = some (.int .i64 p) := (hT3.cell 0).trans rfl
        have kc1 : W3.cell? ⟨w.heap.size + 1, 1, none⟩ = some (.int .i64 s1) := (hT3.cell 1).trans rfl
        have kc2 : W3.cell? ⟨w.heap.size + 1, 2, none⟩ = some (.int .i64 s2) := (hT3.cell 2).trans rfl
        have kc3 : W3.cell? ⟨w.heap.size + 1, 3, none⟩ = some (.int .i64 z) := (hT3.cell 3).trans rfl
        have kc4 : W3.cell? ⟨w.heap.size + 1, 4, none⟩ = some (.int .i64 o) := (hT3.cell 4).trans rfl
        refine hK.out _ _ ?_ (fun hHeld => ?_)
        · exact ⟨n0, n1, kc0, kc1, kc2, kc3, kc4⟩
        clear hK K
        try simp only [Act.put, List.setIfInBounds_toArray, List.set_cons_zero, List.set_cons_succ]
        refine wpAnyH_ready (rs := [14]) (by kernel_rfl) (by simp) ?_
        refine AllReadyH.cons (o := _) (by simp only [List.getElem?_toArray, List.getElem?_cons_succ, List.getElem?_cons_zero]; rfl) (fun K hK => ?_) AllReadyH.nil
        go_simp
        refine hK.out _ _ ?_ (fun hHeld => ?_)
        · exact ⟨n0, n1, kc0, kc1, kc2, kc3, kc4⟩
        clear hK K
        try simp only [Act.put, List.setIfInBounds_toArray, List.set_cons_zero, List.set_cons_succ]
        refine wpAnyH_ready (rs := [15]) (by kernel_rfl) (by simp) ?_
        refine AllReadyH.cons (o := _) (by simp only [List.getElem?_toArray, List.getElem?_cons_succ, List.getElem?_cons_zero]; rfl) (fun K hK => ?_) AllReadyH.nil
        go_simp
        refine hK.out _ _ ?_ (fun hHeld => ?_)
        · exact ⟨n0, n1, kc0, kc1, kc2, kc3, kc4⟩
        clear hK K
        try simp only [Act.put, List.setIfInBounds_toArray, List.set_cons_zero, List.set_cons_succ]
        refine wpAnyH_done (by kernel_rfl) ?_ _
        have hx3 := hX3.lt
        have hs3 := hT3.lt
        have hfr := findR_any W3 A n c ys a p s1 s2 z o b ((HR.out.below hb3).more hb3.size) HZ.out hN5
        have H3 := Lib.hid (And.intro hX3 (And.intro hb3 own3))
        clear hX3 hb3 hN3 hT3 own3
        go_wp2_with fail
        refine hfr.mono ?_
        rintro e w4 ⟨hb4, hfo⟩
        clear hfr n0 n1 kc0 kc1 kc2 kc3 kc4
        obtain ⟨hX3, hb3, own3⟩ := H3.out
        have hX4 := hX3.below hb4 hx3
        have hbl4 := bthen hb3 hb4
        have hx4 := hX4.lt
        have own4 := own_kept own3 hb4
        rcases hfo with ⟨hs, _⟩ | ⟨d', m', pa', k', V', hs, rfl, ownY, _⟩
        · rw [hF] at hs; cases hs
        rw [hF] at hs
        injection hs with hs
        injection hs with h1 hs
        injection hs with h2 hs
        injection hs with h3 h4
        subst h1 h2 h3 h4
        rw [hst]
        obtain ⟨YA, yc, rfl⟩ := own_slice ownY
        simp only [blkV, if_true, Bool.false_eq_true, if_false]
        have hYa : Blk (w4.alloc (.cells #[.int .i64 0, .int .i64 0, .int .i64 0, .int .i64 0, .int .i64 0, .int .i64 0, .int .i64 0, .int .i64 0, .int .i64 0, .int .i64 0, .int .i64 0, .int .i64 0, .slice none 0 0, .slice none 0 0, .slice none 0 0, .slice none 0 0, .slice none 0 0, .slice none 0 0] 33)) w4.heap.size 33 #[.int .i64 0, .int .i64 0, .int .i64 0, .int .i64 0, .int .i64 0, .int .i64 0, .int .i64 0, .int .i64 0, .int .i64 0, .int .i64 0, .int .i64 0, .int .i64 0, .slice none 0 0, .slice none 0 0, .slice none 0 0, .slice none 0 0, .slice none 0 0, .slice none 0 0] := Blk.new w4 _ _
        have H4 := Lib.hid (And.intro hX4 hbl4)
        clear hX4 hbl4 hX3 hb3 own3 hb4 H3
        go_wp2_with (first
          | (refine wpList_store_box rfl 33 _ _ rfl (w4.heap.size) #[.int .i64 16, .int .i64 pa, .int .i64 0, .int .i64 0, .int .i64 0, .int .i64 0, .int .i64 0, .int .i64 0, .int .i64 0, .int .i64 0, .int .i64 0, .int .i64 0, .slice YA d.length yc, .slice none 0 0, .slice none 0 0, .slice none 0 0, .slice none 0 0, .slice none 0 0] rfl rfl 33 #[.int .i64 0, .int .i64 0, .int .i64 0, .int .i64 0, .int .i64 0, .int .i64 0, .int .i64 0, .int .i64 0, .int .i64 0, .int .i64 0, .int .i64 0, .int .i64 0, .slice none 0 0, .slice none 0 0, .slice none 0 0, .slice none 0 0, .slice none 0 0, .slice none 0 0] hYa blkInfo rfl (by simp [Value.oneCell']) ?_)
          | fail)
        intro w5 hY5 hg5
        obtain ⟨hX4, hbl4⟩ := H4.out
        have hg45 := grown_trans (World.grownBy_alloc w4 (.cells #[.int .i64 0, .int .i64 0, .int .i64 0, .int .i64 0, .int .i64 0, .int .i64 0, .int .i64 0, .int .i64 0, .int .i64 0, .int .i64 0, .int .i64 0, .int .i64 0, .slice none 0 0, .slice none 0 0, .slice none 0 0, .slice none 0 0, .slice none 0 0, .slice none 0 0] 33) (some w4.heap.size)) hg5
        have hX5 := hX4.grown hg45 (fun e => by injection e with e; omega)
        have hb5 := hbl4.grown hg45 hbl4.size (fun j hj => by injection hj with hj; have := hbl4.size; omega)
        have own5 := own4.kept hg45 (own_far own4)
        have ownY5 := ownY.kept hg45 (own_far ownY)
        have HO := Lib.hid (And.intro own5 ownY5)
        clear own5 ownY5 own4 ownY
        clear hX4 hbl4 H4 hg5 hg45 hYa
        have H5 := Lib.hid hb5
        clear hb5
        go_wp2_with (first
          | (refine wpList_load_box rfl 33 _ rfl g rfl 33 #[.int .i64 16, .int .i64 pa, .int .i64 0, .int .i64 0, .int .i64 0, .int .i64 0, .int .i64 0, .int .i64 0, .int .i64 0, .int .i64 0, .int .i64 0, .int .i64 0, .slice VA d.length vc, .slice none 0 0, .slice none 0 0, .slice none 0 0, .slice none 0 0, .slice none 0 0] hX5 _ Try.underlying33 rfl blkInfo ?_)
          | (refine wpList_load_box rfl 33 _ rfl w4.heap.size rfl 33 #[.int .i64 16, .int .i64 pa, .int .i64 0, .int .i64 0, .int .i64 0, .int .i64 0, .int .i64 0, .int .i64 0, .int .i64 0, .int .i64 0, .int .i64 0, .int .i64 0, .slice YA d.length yc, .slice none 0 0, .slice none 0 0, .slice none 0 0, .slice none 0 0, .slice none 0 0] hY5 _ Try.underlying33 rfl blkInfo ?_)
          | fail)
        try (refine fun (_ : Hid _) => ?_)
        go_wp2_with (first
          | (refine wpList_load_box rfl 33 _ rfl w4.heap.size rfl 33 #[.int .i64 16, .int .i64 pa, .int .i64 0, .int .i64 0, .int .i64 0, .int .i64 0, .int .i64 0, .int .i64 0, .int .i64 0, .int .i64 0, .int .i64 0, .int .i64 0, .slice YA d.length yc, .slice none 0 0, .slice none 0 0, .slice none 0 0, .slice none 0 0, .slice none 0 0] hY5 _ Try.underlying33 rfl blkInfo ?_)
          | fail)
        try (refine fun (_ : Hid _) => ?_)
        clear hX5 hY5
        obtain ⟨own5, ownY5⟩ := HO.out
        first
          | (refine (same_any w5 (16) (pa) (0) (0) (0) (0) (0) (0) (0) (0) (0) (0) VA YA d.length vc yc d ((Reads.of_own own5)) (Reads.of_own ownY5)).mono ?_)
          | (go_wp2_with fail; refine (same_any w5 (16) (pa) (0) (0) (0) (0) (0) (0) (0) (0) (0) (0) VA YA d.length vc yc d ((Reads.of_own own5)) (Reads.of_own ownY5)).mono ?_)
        rintro e w6 ⟨rfl, hb6⟩
        have hbl6 := bthen H5.out hb6
        clear hb6
        go_wp2_with fail
        refine (standard_any _).mono ?_
        rintro e w7 ⟨rfl, hb7⟩
        have hbl7 := bthen hbl6 hb7
        clear hb7 hbl6
        go_wp2_with fail
        refine (standardR_any _).mono ?_
        rintro e w8 ⟨rfl, hb8⟩
        have hbl8 := bthen hbl7 hb8
        clear hb8 hbl7
        go_wp2_with fail
        refine (ours_any _ 2168 667 735 855 1710).mono ?_
        rintro e w9 ⟨rfl, hb9⟩
        have hbl9 := bthen hbl8 hb9
        clear hb9 hbl8
        have heq := eq5 w9 2168 667 735 855 1710
        rw [show stdB 2168 667 735 855 1710 = true by decide] at heq
        go_wp2_with fail
        refine (lives27 _).mono ?_
        rintro e w10 ⟨rfl, hb10⟩
        go_wp2
        go_ret
        exact ⟨rfl, bthen hbl9 hb10⟩
    · go_simp
      have hX : Blk (v1.alloc (.cells #[.int .i64 0, .int .i64 0, .int .i64 0, .int .i64 0, .int .i64 0, .int .i64 0, .int .i64 0, .int .i64 0, .int .i64 0, .int .i64 0, .int .i64 0, .int .i64 0, .slice none 0 0, .slice none 0 0, .slice none 0 0, .slice none 0 0, .slice none 0 0, .slice none 0 0] 33)) v1.heap.size 33 #[.int .i64 0, .int .i64 0, .int .i64 0, .int .i64 0, .int .i64 0, .int .i64 0, .int .i64 0, .int .i64 0, .int .i64 0, .int .i64 0, .int .i64 0, .int .i64 0, .slice none 0 0, .slice none 0 0, .slice none 0 0, .slice none 0 0, .slice none 0 0, .slice none 0 0] := Blk.new _ _ _
      have hN' := hN.alloc (.cells #[.int .i64 0, .int .i64 0, .int .i64 0, .int .i64 0, .int .i64 0, .int .i64 0, .int .i64 0, .int .i64 0, .int .i64 0, .int .i64 0, .int .i64 0, .int .i64 0, .slice none 0 0, .slice none 0 0, .slice none 0 0, .slice none 0 0, .slice none 0 0, .slice none 0 0] 33)
      have hT' := hT.alloc (.cells #[.int .i64 0, .int .i64 0, .int .i64 0, .int .i64 0, .int .i64 0, .int .i64 0, .int .i64 0, .int .i64 0, .int .i64 0, .int .i64 0, .int .i64 0, .int .i64 0, .slice none 0 0, .slice none 0 0, .slice none 0 0, .slice none 0 0, .slice none 0 0, .slice none 0 0] 33)
      have hb' := hb.alloc hb.size (.cells #[.int .i64 0, .int .i64 0, .int .i64 0, .int .i64 0, .int .i64 0, .int .i64 0, .int .i64 0, .int .i64 0, .int .i64 0, .int .i64 0, .int .i64 0, .int .i64 0, .slice none 0 0, .slice none 0 0, .slice none 0 0, .slice none 0 0, .slice none 0 0, .slice none 0 0] 33)
      clear hN hT hb
      have hN := hN'
      have hT := hT'
      have hb := hb'
      clear hN' hT' hb'
      clear n0 n1 kc0 kc1 kc2 kc3 kc4
      have n0 : (v1.alloc (.cells #[.int .i64 0, .int .i64 0, .int .i64 0, .int .i64 0, .int .i64 0, .int .i64 0, .int .i64 0, .int .i64 0, .int .i64 0, .int .i64 0, .int .i64 0, .int .i64 0, .slice none 0 0, .slice none 0 0, .slice none 0 0, .slice none 0 0, .slice none 0 0, .slice none 0 0] 33)).cell? ⟨w.heap.size, 0, none⟩ = some (.int .i64 a) := (hN.cell 0).trans rfl
      have n1 : (v1.alloc (.cells #[.int .i64 0, .int .i64 0, .int .i64 0, .int .i64 0, .int .i64 0, .int .i64 0, .int .i64 0, .int .i64 0, .int .i64 0, .int .i64 0, .int .i64 0, .int .i64 0, .slice none 0 0, .slice none 0 0, .slice none 0 0, .slice none 0 0, .slice none 0 0, .slice none 0 0] 33)).cell? ⟨w.heap.size, 1, none⟩ = some (.int .i64 b) := (hN.cell 1).trans rfl
      have kc0 : (v1.alloc (.cells #[.int .i64 0, .int .i64 0, .int .i64 0, .int .i64 0, .int .i64 0, .int .i64 0, .int .i64 0, .int .i64 0, .int .i64 0, .int .i64 0, .int .i64 0, .int .i64 0, .slice none 0 0, .slice none 0 0, .slice none 0 0, .slice none 0 0, .slice none 0 0, .slice none 0 0] 33)).cell? ⟨w.heap.size + 1, 0, none⟩ = some (.int .i64 p) := (hT.cell 0).trans rfl
      have kc1 : (v1.alloc (.cells #[.int .i64 0, .int .i64 0, .int .i64 0, .int .i64 0, .int .i64 0, .int .i64 0, .int .i64 0, .int .i64 0, .int .i64 0, .int .i64 0, .int .i64 0, .int .i64 0, .slice none 0 0, .slice none 0 0, .slice none 0 0, .slice none 0 0, .slice none 0 0, .slice none 0 0] 33)).cell? ⟨w.heap.size + 1, 1, none⟩ = some (.int .i64 s1) := (hT.cell 1).trans rfl
      have kc2 : (v1.alloc (.cells #[.int .i64 0, .int .i64 0, .int .i64 0, .int .i64 0, .int .i64 0, .int .i64 0, .int .i64 0, .int .i64 0, .int .i64 0, .int .i64 0, .int .i64 0, .int .i64 0, .slice none 0 0, .slice none 0 0, .slice none 0 0, .slice none 0 0, .slice none 0 0, .slice none 0 0] 33)).cell? ⟨w.heap.size + 1, 2, none⟩ = some (.int .i64 s2) := (hT.cell 2).trans rfl
      have kc3 : (v1.alloc (.cells #[.int .i64 0, .int .i64 0, .int .i64 0, .int .i64 0, .int .i64 0, .int .i64 0, .int .i64 0, .int .i64 0, .int .i64 0, .int .i64 0, .int .i64 0, .int .i64 0, .slice none 0 0, .slice none 0 0, .slice none 0 0, .slice none 0 0, .slice none 0 0, .slice none 0 0] 33)).cell? ⟨w.heap.size + 1, 3, none⟩ = some (.int .i64 z) := (hT.cell 3).trans rfl
      have kc4 : (v1.alloc (.cells #[.int .i64 0, .int .i64 0, .int .i64 0, .int .i64 0, .int .i64 0, .int .i64 0, .int .i64 0, .int .i64 0, .int .i64 0, .int .i64 0, .int .i64 0, .int .i64 0, .slice none 0 0, .slice none 0 0, .slice none 0 0, .slice none 0 0, .slice none 0 0, .slice none 0 0] 33)).cell? ⟨w.heap.size + 1, 4, none⟩ = some (.int .i64 o) := (hT.cell 4).trans rfl
      refine hK.out _ _ ?_ (fun hHeld => ?_)
      · exact ⟨n0, n1, kc0, kc1, kc2, kc3, kc4⟩
      clear hK K
      try simp only [Act.put, List.setIfInBounds_toArray, List.set_cons_zero, List.set_cons_succ]
      have hgW : w.heap.size + 1 < v1.heap.size := by omega
      generalize (v1.alloc (.cells #[.int .i64 0, .int .i64 0, .int .i64 0, .int .i64 0, .int .i64 0, .int .i64 0, .int .i64 0, .int .i64 0, .int .i64 0, .int .i64 0, .int .i64 0, .int .i64 0, .slice none 0 0, .slice none 0 0, .slice none 0 0, .slice none 0 0, .slice none 0 0, .slice none 0 0] 33)) = v2 at *
      generalize v1.heap.size = g at *
      refine wpAnyH_ready (rs := [7]) (by kernel_rfl) (by simp) ?_
      refine AllReadyH.cons (o := _) (by simp only [List.getElem?_toArray, List.getElem?_cons_succ, List.getElem?_cons_zero]; rfl) (fun K hK => ?_) AllReadyH.nil
      go_simp
      go_wp2_with fail
      have hWd := hT.lt
      refine (find_any v2 A n c ys a p s1 s2 z o b ((HR.out.below hb).more hb.size) HZ.out hN5).mono ?_
      rintro e v3 ⟨hbe, hfo⟩
      rcases hfo with ⟨hF, rfl⟩ | ⟨d, m, pa, k, V, hF, rfl, own2, hu⟩
      · rw [show blkZ = #[.int .i64 0, .int .i64 0, .int .i64 0, .int .i64 0, .int .i64 0, .int .i64 0, .int .i64 0, .int .i64 0, .int .i64 0, .int .i64 0, .int .i64 0, .int .i64 0, .slice none 0 0, .slice none 0 0, .slice none 0 0, .slice none 0 0, .slice none 0 0, .slice none 0 0] from rfl]
        have hN' := hN.below hbe (by omega)
        have hT' := hT.below hbe (by omega)
        have hb' := bthen hb hbe
        have hX' := hX.below hbe hX.lt
        clear hN hT hb hX hbe
        have hN := hN'
        have hT := hT'
        have hb := hb'
        have hX := hX'
        clear hN' hT' hb' hX'
        clear n0 n1 kc0 kc1 kc2 kc3 kc4
        have n0 : v3.cell? ⟨w.heap.size, 0, none⟩ = some (.int .i64 a) := (hN.cell 0).trans rfl
        have n1 : v3.cell? ⟨w.heap.size, 1, none⟩ = some (.int .i64 b) := (hN.cell 1).trans rfl
        have kc0 : v3.cell? ⟨w.heap.size + 1, 0, none⟩ = some (.int .i64 p) := (hT.cell 0).trans rfl
        have kc1 : v3.cell? ⟨w.heap.size + 1, 1, none⟩ = some (.int .i64 s1) := (hT.cell 1).trans rfl
        have kc2 : v3.cell? ⟨w.heap.size + 1, 2, none⟩ = some (.int .i64 s2) := (hT.cell 2).trans rfl
        have kc3 : v3.cell? ⟨w.heap.size + 1, 3, none⟩ = some (.int .i64 z) := (hT.cell 3).trans rfl
        have kc4 : v3.cell? ⟨w.heap.size + 1, 4, none⟩ = some (.int .i64 o) := (hT.cell 4).trans rfl
        have hWd := hT.lt
        refine hK.out _ _ ?_ (fun hHeld => ?_)
        · exact ⟨n0, n1, kc0, kc1, kc2, kc3, kc4⟩
        clear hK K
        try simp only [Act.put, List.setIfInBounds_toArray, List.set_cons_zero, List.set_cons_succ]
        refine wpAnyH_take (i := 8) (oi := _) (v := ?_) (by simp only [List.getElem?_toArray, List.getElem?_cons_succ, List.getElem?_cons_zero]; rfl) (by kernel_rfl) (by kernel_rfl) (by kernel_rfl) (by intro _ _ _ h; exact h) (Or.inl ⟨by rfl, ?_⟩) (by assumption) ?_
        rotate_left
        · intro w hSw
          try dsimp only at hSw
          obtain ⟨e0, e1, e2, e3, e4, e5, e6⟩ := hSw
          go_simp
          try with_reducible rfl
        try simp only [Act.put, List.setIfInBounds_toArray, List.set_cons_zero, List.set_cons_succ]
        refine wpAnyH_take (i := 9) (oi := _) (v := ?_) (by simp only [List.getElem?_toArray, List.getElem?_cons_succ, List.getElem?_cons_zero]; rfl) (by kernel_rfl) (by kernel_rfl) (by kernel_rfl) (by intro _ _ _ h; exact h) (Or.inl ⟨by rfl, ?_⟩) (by assumption) ?_
        rotate_left
        · intro w hSw
          try dsimp only at hSw
          obtain ⟨e0, e1, e2, e3, e4, e5, e6⟩ := hSw
          go_simp
          try with_reducible rfl
        try simp only [Act.put, List.setIfInBounds_toArray, List.set_cons_zero, List.set_cons_succ]
        refine wpAnyH_take (i := 10) (oi := _) (v := ?_) (by simp only [List.getElem?_toArray, List.getElem?_cons_succ, List.getElem?_cons_zero]; rfl) (by kernel_rfl) (by kernel_rfl) (by kernel_rfl) (by intro _ _ _ h; exact h) (Or.inl ⟨by rfl, ?_⟩) (by assumption) ?_
        rotate_left
        · intro w hSw
          try dsimp only at hSw
          obtain ⟨e0, e1, e2, e3, e4, e5, e6⟩ := hSw
          go_simp
          try with_reducible rfl
        try simp only [Act.put, List.setIfInBounds_toArray, List.set_cons_zero, List.set_cons_succ]
        refine wpAnyH_take (i := 11) (oi := _) (v := ?_) (by simp only [List.getElem?_toArray, List.getElem?_cons_succ, List.getElem?_cons_zero]; rfl) (by kernel_rfl) (by kernel_rfl) (by kernel_rfl) (by intro _ _ _ h; exact h) (Or.inl ⟨by rfl, ?_⟩) (by assumption) ?_
        rotate_left
        · intro w hSw
          try dsimp only at hSw
          obtain ⟨e0, e1, e2, e3, e4, e5, e6⟩ := hSw
          go_simp
          try with_reducible rfl
        try simp only [Act.put, List.setIfInBounds_toArray, List.set_cons_zero, List.set_cons_succ]
        refine wpAnyH_ready (rs := [13]) (by kernel_rfl) (by simp) ?_
        refine AllReadyH.cons (o := _) (by simp only [List.getElem?_toArray, List.getElem?_cons_succ, List.getElem?_cons_zero]; rfl) (fun K hK => ?_) AllReadyH.nil
        refine step_store_box rfl 33 _ _ (by rfl) g #[.int .i64 0, .int .i64 0, .int .i64 0, .int .i64 0, .int .i64 0, .int .i64 0, .int .i64 0, .int .i64 0, .int .i64 0, .int .i64 0, .int .i64 0, .int .i64 0, .slice none 0 0, .slice none 0 0, .slice none 0 0, .slice none 0 0, .slice none 0 0, .slice none 0 0] (by rfl) (by rfl) 33 #[.int .i64 0, .int .i64 0, .int .i64 0, .int .i64 0, .int .i64 0, .int .i64 0, .int .i64 0, .int .i64 0, .int .i64 0, .int .i64 0, .int .i64 0, .int .i64 0, .slice none 0 0, .slice none 0 0, .slice none 0 0, .slice none 0 0, .slice none 0 0, .slice none 0 0] hX blkInfo rfl (by simp [Value.oneCell']) ?_
        intro W3 hX3 hg3
        have hN3 := hN.grown hg3 (fun e => by injection e with e; omega)
        have hT3 := hT.grown hg3 (fun e => by injection e with e; omega)
        have hb3 := hb.grown hg3 hb.size (fun j hj => by injection hj with hj; omega)
        clear hX hg3 hN hT hb
        clear n0 n1 kc0 kc1 kc2 kc3 kc4
        have n0 : W3.cell? ⟨w.heap.size, 0, none⟩ = some (.int .i64 a) := (hN3.cell 0).trans rfl
        have n1 : W3.cell? ⟨w.heap.size, 1, none⟩ = some (.int .i64 b) := (hN3.cell 1).trans rfl
        have kc0 : W3.cell? ⟨w.heap.size + 1, 0, none⟩ = some (.int .i64 p) := (hT3.cell 0).trans rfl
        have kc1 : W3.cell? ⟨w.heap.size + 1, 1, none⟩ = some (.int .i64 s1) := (hT3.cell 1).trans rfl
        have kc2 : W3.cell? ⟨w.heap.size + 1, 2, none⟩ = some (.int .i64 s2) := (hT3.cell 2).trans rfl
        have kc3 : W3.cell? ⟨w.heap.size + 1, 3, none⟩ = some (.int .i64 z) := (hT3.cell 3).trans rfl
        have kc4 : W3.cell? ⟨w.heap.size + 1, 4, none⟩ = some (.int .i64 o) := (hT3.cell 4).trans rfl
        refine hK.out _ _ ?_ (fun hHeld => ?_)
        · exact ⟨n0, n1, kc0, kc1, kc2, kc3, kc4⟩
        clear hK K
        try simp only [Act.put, List.setIfInBounds_toArray, List.set_cons_zero, List.set_cons_succ]
        refine wpAnyH_ready (rs := [14]) (by kernel_rfl) (by simp) ?_
        refine AllReadyH.cons (o := _) (by simp only [List.getElem?_toArray, List.getElem?_cons_succ, List.getElem?_cons_zero]; rfl) (fun K hK => ?_) AllReadyH.nil
        go_simp
        refine hK.out _ _ ?_ (fun hHeld => ?_)
        · exact ⟨n0, n1, kc0, kc1, kc2, kc3, kc4⟩
        clear hK K
        try simp only [Act.put, List.setIfInBounds_toArray, List.set_cons_zero, List.set_cons_succ]
        refine wpAnyH_ready (rs := [15]) (by kernel_rfl) (by simp) ?_
        refine AllReadyH.cons (o := _) (by simp only [List.getElem?_toArray, List.getElem?_cons_succ, List.getElem?_cons_zero]; rfl) (fun K hK => ?_) AllReadyH.nil
        go_simp
        refine hK.out _ _ ?_ (fun hHeld => ?_)
        · exact ⟨n0, n1, kc0, kc1, kc2, kc3, kc4⟩
        clear hK K
        try simp only [Act.put, List.setIfInBounds_toArray, List.set_cons_zero, List.set_cons_succ]
        refine wpAnyH_done (by kernel_rfl) ?_ _
        have hx3 := hX3.lt
        have hs3 := hT3.lt
        have hfr := findR_any W3 A n c ys a p s1 s2 z o b ((HR.out.below hb3).more hb3.size) HZ.out hN5
        have H3 := Lib.hid (And.intro hX3 (And.intro hb3 trivial))
        clear hX3 hb3 hN3 hT3
        go_wp2_with fail
        refine hfr.mono ?_
        rintro e w4 ⟨hb4, hfo⟩
        clear hfr n0 n1 kc0 kc1 kc2 kc3 kc4
        obtain ⟨hX3, hb3, own3⟩ := H3.out
        have hX4 := hX3.below hb4 hx3
        have hbl4 := bthen hb3 hb4
        have hx4 := hX4.lt
        rcases hfo with ⟨_, rfl⟩ | ⟨d, m, pa, k, V, hs, _⟩
        rotate_left
        · rw [hF] at hs; cases hs
        rw [show blkZ = #[.int .i64 0, .int .i64 0, .int .i64 0, .int .i64 0, .int .i64 0, .int .i64 0, .int .i64 0, .int .i64 0, .int .i64 0, .int .i64 0, .int .i64 0, .int .i64 0, .slice none 0 0, .slice none 0 0, .slice none 0 0, .slice none 0 0, .slice none 0 0, .slice none 0 0] from rfl]
        have hYa : Blk (w4.alloc (.cells #[.int .i64 0, .int .i64 0, .int .i64 0, .int .i64 0, .int .i64 0, .int .i64 0, .int .i64 0, .int .i64 0, .int .i64 0, .int .i64 0, .int .i64 0, .int .i64 0, .slice none 0 0, .slice none 0 0, .slice none 0 0, .slice none 0 0, .slice none 0 0, .slice none 0 0] 33)) w4.heap.size 33 #[.int .i64 0, .int .i64 0, .int .i64 0, .int .i64 0, .int .i64 0, .int .i64 0, .int .i64 0, .int .i64 0, .int .i64 0, .int .i64 0, .int .i64 0, .int .i64 0, .slice none 0 0, .slice none 0 0, .slice none 0 0, .slice none 0 0, .slice none 0 0, .slice none 0 0] := Blk.new w4 _ _
        have H4 := Lib.hid (And.intro hX4 hbl4)
        clear hX4 hbl4 hX3 hb3 own3 hb4 H3
        go_wp2_with (first
          | (refine wpList_store_box rfl 33 _ _ rfl (w4.heap.size) #[.int .i64 0, .int .i64 0, .int .i64 0, .int .i64 0, .int .i64 0, .int .i64 0, .int .i64 0, .int .i64 0, .int .i64 0, .int .i64 0, .int .i64 0, .int .i64 0, .slice none 0 0, .slice none 0 0, .slice none 0 0, .slice none 0 0, .slice none 0 0, .slice none 0 0] rfl rfl 33 #[.int .i64 0, .int .i64 0, .int .i64 0, .int .i64 0, .int .i64 0, .int .i64 0, .int .i64 0, .int .i64 0, .int .i64 0, .int .i64 0, .int .i64 0, .int .i64 0, .slice none 0 0, .slice none 0 0, .slice none 0 0, .slice none 0 0, .slice none 0 0, .slice none 0 0] hYa blkInfo rfl (by simp [Value.oneCell']) ?_)
          | fail)
        intro w5 hY5 hg5
        obtain ⟨hX4, hbl4⟩ := H4.out
        have hg45 := grown_trans (World.grownBy_alloc w4 (.cells #[.int .i64 0, .int .i64 0, .int .i64 0, .int .i64 0, .int .i64 0, .int .i64 0, .int .i64 0, .int .i64 0, .int .i64 0, .int .i64 0, .int .i64 0, .int .i64 0, .slice none 0 0, .slice none 0 0, .slice none 0 0, .slice none 0 0, .slice none 0 0, .slice none 0 0] 33) (some w4.heap.size)) hg5
        have hX5 := hX4.grown hg45 (fun e => by injection e with e; omega)
        have hb5 := hbl4.grown hg45 hbl4.size (fun j hj => by injection hj with hj; have := hbl4.size; omega)
        clear hX4 hbl4 H4 hg5 hg45 hYa
        have H5 := Lib.hid hb5
        clear hb5
        go_wp2_with (first
          | (refine wpList_load_box rfl 33 _ rfl g rfl 33 #[.int .i64 0, .int .i64 0, .int .i64 0, .int .i64 0, .int .i64 0, .int .i64 0, .int .i64 0, .int .i64 0, .int .i64 0, .int .i64 0, .int .i64 0, .int .i64 0, .slice none 0 0, .slice none 0 0, .slice none 0 0, .slice none 0 0, .slice none 0 0, .slice none 0 0] hX5 _ Try.underlying33 rfl blkInfo ?_)
          | (refine wpList_load_box rfl 33 _ rfl w4.heap.size rfl 33 #[.int .i64 0, .int .i64 0, .int .i64 0, .int .i64 0, .int .i64 0, .int .i64 0, .int .i64 0, .int .i64 0, .int .i64 0, .int .i64 0, .int .i64 0, .int .i64 0, .slice none 0 0, .slice none 0 0, .slice none 0 0, .slice none 0 0, .slice none 0 0, .slice none 0 0] hY5 _ Try.underlying33 rfl blkInfo ?_)
          | fail)
        try (refine fun (_ : Hid _) => ?_)
        go_wp2_with (first
          | (refine wpList_load_box rfl 33 _ rfl w4.heap.size rfl 33 #[.int .i64 0, .int .i64 0, .int .i64 0, .int .i64 0, .int .i64 0, .int .i64 0, .int .i64 0, .int .i64 0, .int .i64 0, .int .i64 0, .int .i64 0, .int .i64 0, .slice none 0 0, .slice none 0 0, .slice none 0 0, .slice none 0 0, .slice none 0 0, .slice none 0 0] hY5 _ Try.underlying33 rfl blkInfo ?_)
          | fail)
        try (refine fun (_ : Hid _) => ?_)
        clear hX5 hY5
        first
          | (refine (same_any w5 0 0 0 0 0 0 0 0 0 0 0 0 none none 0 0 0 [] Reads.none_ Reads.none_).mono ?_)
          | (go_wp2_with fail; refine (same_any w5 0 0 0 0 0 0 0 0 0 0 0 0 none none 0 0 0 [] Reads.none_ Reads.none_).mono ?_)
        rintro e w6 ⟨rfl, hb6⟩
        have hbl6 := bthen H5.out hb6
        clear hb6
        go_wp2_with fail
        refine (standard_any _).mono ?_
        rintro e w7 ⟨rfl, hb7⟩
        have hbl7 := bthen hbl6 hb7
        clear hb7 hbl6
        go_wp2_with fail
        refine (standardR_any _).mono ?_
        rintro e w8 ⟨rfl, hb8⟩
        have hbl8 := bthen hbl7 hb8
        clear hb8 hbl7
        go_wp2_with fail
        refine (ours_any _ 2168 667 735 855 1710).mono ?_
        rintro e w9 ⟨rfl, hb9⟩
        have hbl9 := bthen hbl8 hb9
        clear hb9 hbl8
        have heq := eq5 w9 2168 667 735 855 1710
        rw [show stdB 2168 667 735 855 1710 = true by decide] at heq
        go_wp2_with fail
        refine (lives27 _).mono ?_
        rintro e w10 ⟨rfl, hb10⟩
        go_wp2
        go_ret
        exact ⟨rfl, bthen hbl9 hb10⟩
      cases hst : stdB p s1 s2 z o
      · simp only [blkV, if_true, Bool.false_eq_true, if_false]
        obtain ⟨VA, vc, rfl⟩ := own_slice own2
        have hN' := hN.below hbe (by omega)
        have hT' := hT.below hbe (by omega)
        have hb' := bthen hb hbe
        have hX' := hX.below hbe hX.lt
        clear hN hT hb hX hbe
        have hN := hN'
        have hT := hT'
        have hb := hb'
        have hX := hX'
        clear hN' hT' hb' hX'
        have own := ownsRow_le' own2 (base' := w.heap.size) (by omega)
        clear own2
        clear n0 n1 kc0 kc1 kc2 kc3 kc4
        have n0 : v3.cell? ⟨w.heap.size, 0, none⟩ = some (.int .i64 a) := (hN.cell 0).trans rfl
        have n1 : v3.cell? ⟨w.heap.size, 1, none⟩ = some (.int .i64 b) := (hN.cell 1).trans rfl
        have kc0 : v3.cell? ⟨w.heap.size + 1, 0, none⟩ = some (.int .i64 p) := (hT.cell 0).trans rfl
        have kc1 : v3.cell? ⟨w.heap.size + 1, 1, none⟩ = some (.int .i64 s1) := (hT.cell 1).trans rfl
        have kc2 : v3.cell? ⟨w.heap.size + 1, 2, none⟩ = some (.int .i64 s2) := (hT.cell 2).trans rfl
        have kc3 : v3.cell? ⟨w.heap.size + 1, 3, none⟩ = some (.int .i64 z) := (hT.cell 3).trans rfl
        have kc4 : v3.cell? ⟨w.heap.size + 1, 4, none⟩ = some (.int .i64 o) := (hT.cell 4).trans rfl
        have hWd := hT.lt
        refine hK.out _ _ ?_ (fun hHeld => ?_)
        · exact ⟨n0, n1, kc0, kc1, kc2, kc3, kc4⟩
        clear hK K
        try simp only [Act.put, List.setIfInBounds_toArray, List.set_cons_zero, List.set_cons_succ]
        refine wpAnyH_take (i := 8) (oi := _) (v := ?_) (by simp only [List.getElem?_toArray, List.getElem?_cons_succ, List.getElem?_cons_zero]; rfl) (by kernel_rfl) (by kernel_rfl) (by kernel_rfl) (by intro _ _ _ h; exact h) (Or.inl ⟨by rfl, ?_⟩) (by assumption) ?_
        rotate_left
        · intro w hSw
          try dsimp only at hSw
          obtain ⟨e0, e1, e2, e3, e4, e5, e6⟩ := hSw
          go_simp
          try with_reducible rfl
        try simp only [Act.put, List.setIfInBounds_toArray, List.set_cons_zero, List.set_cons_succ]
        refine wpAnyH_take (i := 9) (oi := _) (v := ?_) (by simp only [List.getElem?_toArray, List.getElem?_cons_succ, List.getElem?_cons_zero]; rfl) (by kernel_rfl) (by kernel_rfl) (by kernel_rfl) (by intro _ _ _ h; exact h) (Or.inl ⟨by rfl, ?_⟩) (by assumption) ?_
        rotate_left
        · intro w hSw
          try dsimp only at hSw
          obtain ⟨e0, e1, e2, e3, e4, e5, e6⟩ := hSw
          go_simp
          try with_reducible rfl
        try simp only [Act.put, List.setIfInBounds_toArray, List.set_cons_zero, List.set_cons_succ]
        refine wpAnyH_take (i := 10) (oi := _) (v := ?_) (by simp only [List.getElem?_toArray, List.getElem?_cons_succ, List.getElem?_cons_zero]; rfl) (by kernel_rfl) (by kernel_rfl) (by kernel_rfl) (by intro _ _ _ h; exact h) (Or.inl ⟨by rfl, ?_⟩) (by assumption) ?_
        rotate_left
        · intro w hSw
          try dsimp only at hSw
          obtain ⟨e0, e1, e2, e3, e4, e5, e6⟩ := hSw
          go_simp
          try with_reducible rfl
        try simp only [Act.put, List.setIfInBounds_toArray, List.set_cons_zero, List.set_cons_succ]
        refine wpAnyH_take (i := 11) (oi := _) (v := ?_) (by simp only [List.getElem?_toArray, List.getElem?_cons_succ, List.getElem?_cons_zero]; rfl) (by kernel_rfl) (by kernel_rfl) (by kernel_rfl) (by intro _ _ _ h; exact h) (Or.inl ⟨by rfl, ?_⟩) (by assumption) ?_
        rotate_left
        · intro w hSw
          try dsimp only at hSw
          obtain ⟨e0, e1, e2, e3, e4, e5, e6⟩ := hSw
          go_simp
          try with_reducible rfl
        try simp only [Act.put, List.setIfInBounds_toArray, List.set_cons_zero, List.set_cons_succ]
        refine wpAnyH_ready (rs := [13]) (by kernel_rfl) (by simp) ?_
        refine AllReadyH.cons (o := _) (by simp only [List.getElem?_toArray, List.getElem?_cons_succ, List.getElem?_cons_zero]; rfl) (fun K hK => ?_) AllReadyH.nil
        refine step_store_box rfl 33 _ _ (by rfl) g #[.int .i64 17, .int .i64 pa, .int .i64 p, .int .i64 s1, .int .i64 s2, .int .i64 z, .int .i64 o, .int .i64 0, .int .i64 m, .int .i64 8, .int .i64 0, .int .i64 0, .slice VA d.length vc, .slice none 0 0, .slice none 0 0, .slice none 0 0, .slice none 0 0, .slice none 0 0] (by rfl) (by rfl) 33 #[.int .i64 0, .int .i64 0, .int .i64 0, .int .i64 0, .int .i64 0, .int .i64 0, .int .i64 0, .int .i64 0, .int .i64 0, .int .i64 0, .int .i64 0, .int .i64 0, .slice none 0 0, .slice none 0 0, .slice none 0 0, .slice none 0 0, .slice none 0 0, .slice none 0 0] hX blkInfo rfl (by simp [Value.oneCell']) ?_
        intro W3 hX3 hg3
        have hN3 := hN.grown hg3 (fun e => by injection e with e; omega)
        have hT3 := hT.grown hg3 (fun e => by injection e with e; omega)
        have hb3 := hb.grown hg3 hb.size (fun j hj => by injection hj with hj; omega)
        have own3 := own.kept hg3 (.inr (own_blk_ne own hX (by decide)))
        clear hX hg3 hN hT hb own
        clear n0 n1 kc0 kc1 kc2 kc3 kc4
        have n0 : W3.cell? ⟨w.heap.size, 0, none⟩ = some (.int .i64 a) := (hN3.cell 0).trans rfl
        have n1 : W3.cell? ⟨w.heap.size, 1, none⟩ = some (.int .i64 b) := (hN3.cell 1).trans rfl
        have kc0 : W3.cell? ⟨w.heap.size + 1, 0, none⟩ = some (.int .i64 p) := (hT3.cell 0).trans rfl
        have kc1 : W3.cell? ⟨w.heap.size + 1, 1, none⟩ = some (.int .i64 s1) := (hT3.cell 1).trans rfl
        have kc2 : W3.cell? ⟨w.heap.size + 1, 2, none⟩ = some (.int .i64 s2) := (hT3.cell 2).trans rfl
        have kc3 : W3.cell? ⟨w.heap.size + 1, 3, none⟩ = some (.int .i64 z) := (hT3.cell 3).trans rfl
        have kc4 : W3.cell? ⟨w.heap.size + 1, 4, none⟩ = some (.int .i64 o) := (hT3.cell 4).trans rfl
        refine hK.out _ _ ?_ (fun hHeld => ?_)
        · exact ⟨n0, n1, kc0, kc1, kc2, kc3, kc4⟩
        clear hK K
        try simp only [Act.put, List.setIfInBounds_toArray, List.set_cons_zero, List.set_cons_succ]
        refine wpAnyH_ready (rs := [14]) (by kernel_rfl) (by simp) ?_
        refine AllReadyH.cons (o := _) (by simp only [List.getElem?_toArray, List.getElem?_cons_succ, List.getElem?_cons_zero]; rfl) (fun K hK => ?_) AllReadyH.nil
        go_simp
        refine hK.out _ _ ?_ (fun hHeld => ?_)
        · exact ⟨n0, n1, kc0, kc1, kc2, kc3, kc4⟩
        clear hK K
        try simp only [Act.put, List.setIfInBounds_toArray, List.set_cons_zero, List.set_cons_succ]
        refine wpAnyH_ready (rs := [15]) (by kernel_rfl) (by simp) ?_
        refine AllReadyH.cons (o := _) (by simp only [List.getElem?_toArray, List.getElem?_cons_succ, List.getElem?_cons_zero]; rfl) (fun K hK => ?_) AllReadyH.nil
        go_simp
        refine hK.out _ _ ?_ (fun hHeld => ?_)
        · exact ⟨n0, n1, kc0, kc1, kc2, kc3, kc4⟩
        clear hK K
        try simp only [Act.put, List.setIfInBounds_toArray, List.set_cons_zero, List.set_cons_succ]
        refine wpAnyH_done (by kernel_rfl) ?_ _
        have hx3 := hX3.lt
        have hs3 := hT3.lt
        have hfr := findR_any W3 A n c ys a p s1 s2 z o b ((HR.out.below hb3).more hb3.size) HZ.out hN5
        have H3 := Lib.hid (And.intro hX3 (And.intro hb3 own3))
        clear hX3 hb3 hN3 hT3 own3
        go_wp2_with fail
        refine hfr.mono ?_
        rintro e w4 ⟨hb4, hfo⟩
        clear hfr n0 n1 kc0 kc1 kc2 kc3 kc4
        obtain ⟨hX3, hb3, own3⟩ := H3.out
        have hX4 := hX3.below hb4 hx3
        have hbl4 := bthen hb3 hb4
        have hx4 := hX4.lt
        have own4 := own_kept own3 hb4
        rcases hfo with ⟨hs, _⟩ | ⟨d', m', pa', k', V', hs, rfl, ownY, _⟩
        · rw [hF] at hs; cases hs
        rw [hF] at hs
        injection hs with hs
        injection hs with h1 hs
        injection hs with h2 hs
        injection hs with h3 h4
        subst h1 h2 h3 h4
        rw [hst]
        obtain ⟨YA, yc, rfl⟩ := own_slice ownY
        simp only [blkV, if_true, Bool.false_eq_true, if_false]
        have hYa : Blk (w4.alloc (.cells #[.int .i64 0, .int .i64 0, .int .i64 0, .int .i64 0, .int .i64 0, .int .i64 0, .int .i64 0, .int .i64 0, .int .i64 0, .int .i64 0, .int .i64 0, .int .i64 0, .slice none 0 0, .slice none 0 0, .slice none 0 0, .slice none 0 0, .slice none 0 0, .slice none 0 0] 33)) w4.heap.size 33 #[.int .i64 0, .int .i64 0, .int .i64 0, .int .i64 0, .int .i64 0, .int .i64 0, .int .i64 0, .int .i64 0, .int .i64 0, .int .i64 0, .int .i64 0, .int .i64 0, .slice none 0 0, .slice none 0 0, .slice none 0 0, .slice none 0 0, .slice none 0 0, .slice none 0 0] := Blk.new w4 _ _
        have H4 := Lib.hid (And.intro hX4 hbl4)
        clear hX4 hbl4 hX3 hb3 own3 hb4 H3
        go_wp2_with (first
          | (refine wpList_store_box rfl 33 _ _ rfl (w4.heap.size) #[.int .i64 17, .int .i64 pa, .int .i64 p, .int .i64 s1, .int .i64 s2, .int .i64 z, .int .i64 o, .int .i64 0, .int .i64 m, .int .i64 8, .int .i64 0, .int .i64 0, .slice YA d.length yc, .slice none 0 0, .slice none 0 0, .slice none 0 0, .slice none 0 0, .slice none 0 0] rfl rfl 33 #[.int .i64 0, .int .i64 0, .int .i64 0, .int .i64 0, .int .i64 0, .int .i64 0, .int .i64 0, .int .i64 0, .int .i64 0, .int .i64 0, .int .i64 0, .int .i64 0, .slice none 0 0, .slice none 0 0, .slice none 0 0, .slice none 0 0, .slice none 0 0, .slice none 0 0] hYa blkInfo rfl (by simp [Value.oneCell']) ?_)
          | fail)
        intro w5 hY5 hg5
        obtain ⟨hX4, hbl4⟩ := H4.out
        have hg45 := grown_trans (World.grownBy_alloc w4 (.cells #[.int .i64 0, .int .i64 0, .int .i64 0, .int .i64 0, .int .i64 0, .int .i64 0, .int .i64 0, .int .i64 0, .int .i64 0, .int .i64 0, .int .i64 0, .int .i64 0, .slice none 0 0, .slice none 0 0, .slice none 0 0, .slice none 0 0, .slice none 0 0, .slice none 0 0] 33) (some w4.heap.size)) hg5
        have hX5 := hX4.grown hg45 (fun e => by injection e with e; omega)
        have hb5 := hbl4.grown hg45 hbl4.size (fun j hj => by injection hj with hj; have := hbl4.size; omega)
        have own5 := own4.kept hg45 (own_far own4)
        have ownY5 := ownY.kept hg45 (own_far ownY)
        have HO := Lib.hid (And.intro own5 ownY5)
        clear own5 ownY5 own4 ownY
        clear hX4 hbl4 H4 hg5 hg45 hYa
        have H5 := Lib.hid hb5
        clear hb5
        go_wp2_with (first
          | (refine wpList_load_box rfl 33 _ rfl g rfl 33 #[.int .i64 17, .int .i64 pa, .int .i64 p, .int .i64 s1, .int .i64 s2, .int .i64 z, .int .i64 o, .int .i64 0, .int .i64 m, .int .i64 8, .int .i64 0, .int .i64 0, .slice VA d.length vc, .slice none 0 0, .slice none 0 0, .slice none 0 0, .slice none 0 0, .slice none 0 0] hX5 _ Try.underlying33 rfl blkInfo ?_)
          | (refine wpList_load_box rfl 33 _ rfl w4.heap.size rfl 33 #[.int .i64 17, .int .i64 pa, .int .i64 p, .int .i64 s1, .int .i64 s2, .int .i64 z, .int .i64 o, .int .i64 0, .int .i64 m, .int .i64 8, .int .i64 0, .int .i64 0, .slice YA d.length yc, .slice none 0 0, .slice none 0 0, .slice none 0 0, .slice none 0 0, .slice none 0 0] hY5 _ Try.underlying33 rfl blkInfo ?_)
          | fail)
        try (refine fun (_ : Hid _) => ?_)
        go_wp2_with (first
          | (refine wpList_load_box rfl 33 _ rfl w4.heap.size rfl 33 #[.int .i64 17, .int .i64 pa, .int .i64 p, .int .i64 s1, .int .i64 s2, .int .i64 z, .int .i64 o, .int .i64 0, .int .i64 m, .int .i64 8, .int .i64 0, .int .i64 0, .slice YA d.length yc, .slice none 0 0, .slice none 0 0, .slice none 0 0, .slice none 0 0, .slice none 0 0] hY5 _ Try.underlying33 rfl blkInfo ?_)
          | fail)
        try (refine fun (_ : Hid _) => ?_)
        clear hX5 hY5
        obtain ⟨own5, ownY5⟩ := HO.out
        first
          | (refine (same_any w5 (17) (pa) (p) (s1) (s2) (z) (o) (0) (m) (8) (0) (0) VA YA d.length vc yc d ((Reads.of_own own5)) (Reads.of_own ownY5)).mono ?_)
          | (go_wp2_with fail; refine (same_any w5 (17) (pa) (p) (s1) (s2) (z) (o) (0) (m) (8) (0) (0) VA YA d.length vc yc d ((Reads.of_own own5)) (Reads.of_own ownY5)).mono ?_)
        rintro e w6 ⟨rfl, hb6⟩
        have hbl6 := bthen H5.out hb6
        clear hb6
        go_wp2_with fail
        refine (standard_any _).mono ?_
        rintro e w7 ⟨rfl, hb7⟩
        have hbl7 := bthen hbl6 hb7
        clear hb7 hbl6
        go_wp2_with fail
        refine (standardR_any _).mono ?_
        rintro e w8 ⟨rfl, hb8⟩
        have hbl8 := bthen hbl7 hb8
        clear hb8 hbl7
        go_wp2_with fail
        refine (ours_any _ 2168 667 735 855 1710).mono ?_
        rintro e w9 ⟨rfl, hb9⟩
        have hbl9 := bthen hbl8 hb9
        clear hb9 hbl8
        have heq := eq5 w9 2168 667 735 855 1710
        rw [show stdB 2168 667 735 855 1710 = true by decide] at heq
        go_wp2_with fail
        refine (lives27 _).mono ?_
        rintro e w10 ⟨rfl, hb10⟩
        go_wp2
        go_ret
        exact ⟨rfl, bthen hbl9 hb10⟩
      · simp only [blkV, if_true, Bool.false_eq_true, if_false]
        obtain ⟨VA, vc, rfl⟩ := own_slice own2
        have hN' := hN.below hbe (by omega)
        have hT' := hT.below hbe (by omega)
        have hb' := bthen hb hbe
        have hX' := hX.below hbe hX.lt
        clear hN hT hb hX hbe
        have hN := hN'
        have hT := hT'
        have hb := hb'
        have hX := hX'
        clear hN' hT' hb' hX'
        have own := ownsRow_le' own2 (base' := w.heap.size) (by omega)
        clear own2
        clear n0 n1 kc0 kc1 kc2 kc3 kc4
        have n0 : v3.cell? ⟨w.heap.size, 0, none⟩ = some (.int .i64 a) := (hN.cell 0).trans rfl
        have n1 : v3.cell? ⟨w.heap.size, 1, none⟩ = some (.int .i64 b) := (hN.cell 1).trans rfl
        have kc0 : v3.cell? ⟨w.heap.size + 1, 0, none⟩ = some (.int .i64 p) := (hT.cell 0).trans rfl
        have kc1 : v3.cell? ⟨w.heap.size + 1, 1, none⟩ = some (.int .i64 s1) := (hT.cell 1).trans rfl
        have kc2 : v3.cell? ⟨w.heap.size + 1, 2, none⟩ = some (.int .i64 s2) := (hT.cell 2).trans rfl
        have kc3 : v3.cell? ⟨w.heap.size + 1, 3, none⟩ = some (.int .i64 z) := (hT.cell 3).trans rfl
        have kc4 : v3.cell? ⟨w.heap.size + 1, 4, none⟩ = some (.int .i64 o) := (hT.cell 4).trans rfl
        have hWd := hT.lt
        refine hK.out _ _ ?_ (fun hHeld => ?_)
        · exact ⟨n0, n1, kc0, kc1, kc2, kc3, kc4⟩
        clear hK K
        try simp only [Act.put, List.setIfInBounds_toArray, List.set_cons_zero, List.set_cons_succ]
        refine wpAnyH_take (i := 8) (oi := _) (v := ?_) (by simp only [List.getElem?_toArray, List.getElem?_cons_succ, List.getElem?_cons_zero]; rfl) (by kernel_rfl) (by kernel_rfl) (by kernel_rfl) (by intro _ _ _ h; exact h) (Or.inl ⟨by rfl, ?_⟩) (by assumption) ?_
        rotate_left
        · intro w hSw
          try dsimp only at hSw
          obtain ⟨e0, e1, e2, e3, e4, e5, e6⟩ := hSw
          go_simp
          try with_reducible rfl
        try simp only [Act.put, List.setIfInBounds_toArray, List.set_cons_zero, List.set_cons_succ]
        refine wpAnyH_take (i := 9) (oi := _) (v := ?_) (by simp only [List.getElem?_toArray, List.getElem?_cons_succ, List.getElem?_cons_zero]; rfl) (by kernel_rfl) (by kernel_rfl) (by kernel_rfl) (by intro _ _ _ h; exact h) (Or.inl ⟨by rfl, ?_⟩) (by assumption) ?_
        rotate_left
        · intro w hSw
          try dsimp only at hSw
          obtain ⟨e0, e1, e2, e3, e4, e5, e6⟩ := hSw
          go_simp
          try with_reducible rfl
        try simp only [Act.put, List.setIfInBounds_toArray, List.set_cons_zero, List.set_cons_succ]
        refine wpAnyH_take (i := 10) (oi := _) (v := ?_) (by simp only [List.getElem?_toArray, List.getElem?_cons_succ, List.getElem?_cons_zero]; rfl) (by kernel_rfl) (by kernel_rfl) (by kernel_rfl) (by intro _ _ _ h; exact h) (Or.inl ⟨by rfl, ?_⟩) (by assumption) ?_
        rotate_left
        · intro w hSw
          try dsimp only at hSw
          obtain ⟨e0, e1, e2, e3, e4, e5, e6⟩ := hSw
          go_simp
          try with_reducible rfl
        try simp only [Act.put, List.setIfInBounds_toArray, List.set_cons_zero, List.set_cons_succ]
        refine wpAnyH_take (i := 11) (oi := _) (v := ?_) (by simp only [List.getElem?_toArray, List.getElem?_cons_succ, List.getElem?_cons_zero]; rfl) (by kernel_rfl) (by kernel_rfl) (by kernel_rfl) (by intro _ _ _ h; exact h) (Or.inl ⟨by rfl, ?_⟩) (by assumption) ?_
        rotate_left
        · intro w hSw
          try dsimp only at hSw
          obtain ⟨e0, e1, e2, e3, e4, e5, e6⟩ := hSw
          go_simp
          try with_reducible rfl
        try simp only [Act.put, List.setIfInBounds_toArray, List.set_cons_zero, List.set_cons_succ]
        refine wpAnyH_ready (rs := [13]) (by kernel_rfl) (by simp) ?_
        refine AllReadyH.cons (o := _) (by simp only [List.getElem?_toArray, List.getElem?_cons_succ, List.getElem?_cons_zero]; rfl) (fun K hK => ?_) AllReadyH.nil
        refine step_store_box rfl 33 _ _ (by rfl) g #[.int .i64 16, .int .i64 pa, .int .i64 0, .int .i64 0, .int .i64 0, .int .i64 0, .int .i64 0, .int .i64 0, .int .i64 0, .int .i64 0, .int .i64 0, .int .i64 0, .slice VA d.length vc, .slice none 0 0, .slice none 0 0, .slice none 0 0, .slice none 0 0, .slice none 0 0] (by rfl) (by rfl) 33 #[.int .i64 0, .int .i64 0, .int .i64 0, .int .i64 0, .int .i64 0, .int .i64 0, .int .i64 0, .int .i64 0, .int .i64 0, .int .i64 0, .int .i64 0, .int .i64 0, .slice none 0 0, .slice none 0 0, .slice none 0 0, .slice none 0 0, .slice none 0 0, .slice none 0 0] hX blkInfo rfl (by simp [Value.oneCell']) ?_
        intro W3 hX3 hg3
        have hN3 := hN.grown hg3 (fun e => by injection e with e; omega)
        have hT3 := hT.grown hg3 (fun e => by injection e with e; omega)
        have hb3 := hb.grown hg3 hb.size (fun j hj => by injection hj with hj; omega)
        have own3 := own.kept hg3 (.inr (own_blk_ne own hX (by decide)))
        clear hX hg3 hN hT hb own
        clear n0 n1 kc0 kc1 kc2 kc3 kc4
        have n0 : W3.cell? ⟨w.heap.size, 0, none⟩ = some (.int .i64 a) := (hN3.cell 0).trans rfl
        have n1 : W3.cell? ⟨w.heap.size, 1, none⟩ = some (.int .i64 b) := (hN3.cell 1).trans rfl
        have kc0 : W3.cell? ⟨w.heap.size + 1, 0, none⟩ = some (.int .i64 p) := (hT3.cell 0).trans rfl
        have kc1 : W3.cell? ⟨w.heap.size + 1, 1, none⟩ = some (.int .i64 s1) := (hT3.cell 1).trans rfl
        have kc2 : W3.cell? ⟨w.heap.size + 1, 2, none⟩ = some (.int .i64 s2) := (hT3.cell 2).trans rfl
        have kc3 : W3.cell? ⟨w.heap.size + 1, 3, none⟩ = some (.int .i64 z) := (hT3.cell 3).trans rfl
        have kc4 : W3.cell? ⟨w.heap.size + 1, 4, none⟩ = some (.int .i64 o) := (hT3.cell 4).trans rfl
        refine hK.out _ _ ?_ (fun hHeld => ?_)
        · exact ⟨n0, n1, kc0, kc1, kc2, kc3, kc4⟩
        clear hK K
        try simp only [Act.put, List.setIfInBounds_toArray, List.set_cons_zero, List.set_cons_succ]
        refine wpAnyH_ready (rs := [14]) (by kernel_rfl) (by simp) ?_
        refine AllReadyH.cons (o := _) (by simp only [List.getElem?_toArray, List.getElem?_cons_succ, List.getElem?_cons_zero]; rfl) (fun K hK => ?_) AllReadyH.nil
        go_simp
        refine hK.out _ _ ?_ (fun hHeld => ?_)
        · exact ⟨n0, n1, kc0, kc1, kc2, kc3, kc4⟩
        clear hK K
        try simp only [Act.put, List.setIfInBounds_toArray, List.set_cons_zero, List.set_cons_succ]
        refine wpAnyH_ready (rs := [15]) (by kernel_rfl) (by simp) ?_
        refine AllReadyH.cons (o := _) (by simp only [List.getElem?_toArray, List.getElem?_cons_succ, List.getElem?_cons_zero]; rfl) (fun K hK => ?_) AllReadyH.nil
        go_simp
        refine hK.out _ _ ?_ (fun hHeld => ?_)
        · exact ⟨n0, n1, kc0, kc1, kc2, kc3, kc4⟩
        clear hK K
        try simp only [Act.put, List.setIfInBounds_toArray, List.set_cons_zero, List.set_cons_succ]
        refine wpAnyH_done (by kernel_rfl) ?_ _
        have hx3 := hX3.lt
        have hs3 := hT3.lt
        have hfr := findR_any W3 A n c ys a p s1 s2 z o b ((HR.out.below hb3).more hb3.size) HZ.out hN5
        have H3 := Lib.hid (And.intro hX3 (And.intro hb3 own3))
        clear hX3 hb3 hN3 hT3 own3
        go_wp2_with fail
        refine hfr.mono ?_
        rintro e w4 ⟨hb4, hfo⟩
        clear hfr n0 n1 kc0 kc1 kc2 kc3 kc4
        obtain ⟨hX3, hb3, own3⟩ := H3.out
        have hX4 := hX3.below hb4 hx3
        have hbl4 := bthen hb3 hb4
        have hx4 := hX4.lt
        have own4 := own_kept own3 hb4
        rcases hfo with ⟨hs, _⟩ | ⟨d', m', pa', k', V', hs, rfl, ownY, _⟩
        · rw [hF] at hs; cases hs
        rw [hF] at hs
        injection hs with hs
        injection hs with h1 hs
        injection hs with h2 hs
        injection hs with h3 h4
        subst h1 h2 h3 h4
        rw [hst]
        obtain ⟨YA, yc, rfl⟩ := own_slice ownY
        simp only [blkV, if_true, Bool.false_eq_true, if_false]
        have hYa : Blk (w4.alloc (.cells #[.int .i64 0, .int .i64 0, .int .i64 0, .int .i64 0, .int .i64 0, .int .i64 0, .int .i64 0, .int .i64 0, .int .i64 0, .int .i64 0, .int .i64 0, .int .i64 0, .slice none 0 0, .slice none 0 0, .slice none 0 0, .slice none 0 0, .slice none 0 0, .slice none 0 0] 33)) w4.heap.size 33 #[.int .i64 0, .int .i64 0, .int .i64 0, .int .i64 0, .int .i64 0, .int .i64 0, .int .i64 0, .int .i64 0, .int .i64 0, .int .i64 0, .int .i64 0, .int .i64 0, .slice none 0 0, .slice none 0 0, .slice none 0 0, .slice none 0 0, .slice none 0 0, .slice none 0 0] := Blk.new w4 _ _
        have H4 := Lib.hid (And.intro hX4 hbl4)
        clear hX4 hbl4 hX3 hb3 own3 hb4 H3
        go_wp2_with (first
          | (refine wpList_store_box rfl 33 _ _ rfl (w4.heap.size) #[.int .i64 16, .int .i64 pa, .int .i64 0, .int .i64 0, .int .i64 0, .int .i64 0, .int .i64 0, .int .i64 0, .int .i64 0, .int .i64 0, .int .i64 0, .int .i64 0, .slice YA d.length yc, .slice none 0 0, .slice none 0 0, .slice none 0 0, .slice none 0 0, .slice none 0 0] rfl rfl 33 #[.int .i64 0, .int .i64 0, .int .i64 0, .int .i64 0, .int .i64 0, .int .i64 0, .int .i64 0, .int .i64 0, .int .i64 0, .int .i64 0, .int .i64 0, .int .i64 0, .slice none 0 0, .slice none 0 0, .slice none 0 0, .slice none 0 0, .slice none 0 0, .slice none 0 0] hYa blkInfo rfl (by simp [Value.oneCell']) ?_)
          | fail)
        intro w5 hY5 hg5
        obtain ⟨hX4, hbl4⟩ := H4.out
        have hg45 := grown_trans (World.grownBy_alloc w4 (.cells #[.int .i64 0, .int .i64 0, .int .i64 0, .int .i64 0, .int .i64 0, .int .i64 0, .int .i64 0, .int .i64 0, .int .i64 0, .int .i64 0, .int .i64 0, .int .i64 0, .slice none 0 0, .slice none 0 0, .slice none 0 0, .slice none 0 0, .slice none 0 0, .slice none 0 0] 33) (some w4.heap.size)) hg5
        have hX5 := hX4.grown hg45 (fun e => by injection e with e; omega)
        have hb5 := hbl4.grown hg45 hbl4.size (fun j hj => by injection hj with hj; have := hbl4.size; omega)
        have own5 := own4.kept hg45 (own_far own4)
        have ownY5 := ownY.kept hg45 (own_far ownY)
        have HO := Lib.hid (And.intro own5 ownY5)
        clear own5 ownY5 own4 ownY
        clear hX4 hbl4 H4 hg5 hg45 hYa
        have H5 := Lib.hid hb5
        clear hb5
        go_wp2_with (first
          | (refine wpList_load_box rfl 33 _ rfl g rfl 33 #[.int .i64 16, .int .i64 pa, .int .i64 0, .int .i64 0, .int .i64 0, .int .i64 0, .int .i64 0, .int .i64 0, .int .i64 0, .int .i64 0, .int .i64 0, .int .i64 0, .slice VA d.length vc, .slice none 0 0, .slice none 0 0, .slice none 0 0, .slice none 0 0, .slice none 0 0] hX5 _ Try.underlying33 rfl blkInfo ?_)
          | (refine wpList_load_box rfl 33 _ rfl w4.heap.size rfl 33 #[.int .i64 16, .int .i64 pa, .int .i64 0, .int .i64 0, .int .i64 0, .int .i64 0, .int .i64 0, .int .i64 0, .int .i64 0, .int .i64 0, .int .i64 0, .int .i64 0, .slice YA d.length yc, .slice none 0 0, .slice none 0 0, .slice none 0 0, .slice none 0 0, .slice none 0 0] hY5 _ Try.underlying33 rfl blkInfo ?_)
          | fail)
        try (refine fun (_ : Hid _) => ?_)
        go_wp2_with (first
          | (refine wpList_load_box rfl 33 _ rfl w4.heap.size rfl 33 #[.int .i64 16, .int .i64 pa, .int .i64 0, .int .i64 0, .int .i64 0, .int .i64 0, .int .i64 0, .int .i64 0, .int .i64 0, .int .i64 0, .int .i64 0, .int .i64 0, .slice YA d.length yc, .slice none 0 0, .slice none 0 0, .slice none 0 0, .slice none 0 0, .slice none 0 0] hY5 _ Try.underlying33 rfl blkInfo ?_)
          | fail)
        try (refine fun (_ : Hid _) => ?_)
        clear hX5 hY5
        obtain ⟨own5, ownY5⟩ := HO.out
        first
          | (refine (same_any w5 (16) (pa) (0) (0) (0) (0) (0) (0) (0) (0) (0) (0) VA YA d.length vc yc d ((Reads.of_own own5)) (Reads.of_own ownY5)).mono ?_)
          | (go_wp2_with fail; refine (same_any w5 (16) (pa) (0) (0) (0) (0) (0) (0) (0) (0) (0) (0) VA YA d.length vc yc d ((Reads.of_own own5)) (Reads.of_own ownY5)).mono ?_)
        rintro e w6 ⟨rfl, hb6⟩
        have hbl6 := bthen H5.out hb6
        clear hb6
        go_wp2_with fail
        refine (standard_any _).mono ?_
        rintro e w7 ⟨rfl, hb7⟩
        have hbl7 := bthen hbl6 hb7
        clear hb7 hbl6
        go_wp2_with fail
        refine (standardR_any _).mono ?_
        rintro e w8 ⟨rfl, hb8⟩
        have hbl8 := bthen hbl7 hb8
        clear hb8 hbl7
        go_wp2_with fail
        refine (ours_any _ 2168 667 735 855 1710).mono ?_
        rintro e w9 ⟨rfl, hb9⟩
        have hbl9 := bthen hbl8 hb9
        clear hb9 hbl8
        have heq := eq5 w9 2168 667 735 855 1710
        rw [show stdB 2168 667 735 855 1710 = true by decide] at heq
        go_wp2_with fail
        refine (lives27 _).mono ?_
        rintro e w10 ⟨rfl, hb10⟩
        go_wp2
        go_ret
        exact ⟨rfl, bthen hbl9 hb10⟩
  · go_simp
    have hX : Blk (U.alloc (.cells #[.int .i64 0, .int .i64 0, .int .i64 0, .int .i64 0, .int .i64 0, .int .i64 0, .int .i64 0, .int .i64 0, .int .i64 0, .int .i64 0, .int .i64 0, .int .i64 0, .slice none 0 0, .slice none 0 0, .slice none 0 0, .slice none 0 0, .slice none 0 0, .slice none 0 0] 33)) U.heap.size 33 #[.int .i64 0, .int .i64 0, .int .i64 0, .int .i64 0, .int .i64 0, .int .i64 0, .int .i64 0, .int .i64 0, .int .i64 0, .int .i64 0, .int .i64 0, .int .i64 0, .slice none 0 0, .slice none 0 0, .slice none 0 0, .slice none 0 0, .slice none 0 0, .slice none 0 0] := Blk.new _ _ _
    have hN' := hN.alloc (.cells #[.int .i64 0, .int .i64 0, .int .i64 0, .int .i64 0, .int .i64 0, .int .i64 0, .int .i64 0, .int .i64 0, .int .i64 0, .int .i64 0, .int .i64 0, .int .i64 0, .slice none 0 0, .slice none 0 0, .slice none 0 0, .slice none 0 0, .slice none 0 0, .slice none 0 0] 33)
    have hT' := hT.alloc (.cells #[.int .i64 0, .int .i64 0, .int .i64 0, .int .i64 0, .int .i64 0, .int .i64 0, .int .i64 0, .int .i64 0, .int .i64 0, .int .i64 0, .int .i64 0, .int .i64 0, .slice none 0 0, .slice none 0 0, .slice none 0 0, .slice none 0 0, .slice none 0 0, .slice none 0 0] 33)
    have hb' := hb.alloc hb.size (.cells #[.int .i64 0, .int .i64 0, .int .i64 0, .int .i64 0, .int .i64 0, .int .i64 0, .int .i64 0, .int .i64 0, .int .i64 0, .int .i64 0, .int .i64 0, .int .i64 0, .slice none 0 0, .slice none 0 0, .slice none 0 0, .slice none 0 0, .slice none 0 0, .slice none 0 0] 33)
    clear hN hT hb
    have hN := hN'
    have hT := hT'
    have hb := hb'
    clear hN' hT' hb'
    clear n0 n1 kc0 kc1 kc2 kc3 kc4
    have n0 : (U.alloc (.cells #[.int .i64 0, .int .i64 0, .int .i64 0, .int .i64 0, .int .i64 0, .int .i64 0, .int .i64 0, .int .i64 0, .int .i64 0, .int .i64 0, .int .i64 0, .int .i64 0, .slice none 0 0, .slice none 0 0, .slice none 0 0, .slice none 0 0, .slice none 0 0, .slice none 0 0] 33)).cell? ⟨w.heap.size, 0, none⟩ = some (.int .i64 a) := (hN.cell 0).trans rfl
    have n1 : (U.alloc (.cells #[.int .i64 0, .int .i64 0, .int .i64 0, .int .i64 0, .int .i64 0, .int .i64 0, .int .i64 0, .int .i64 0, .int .i64 0, .int .i64 0, .int .i64 0, .int .i64 0, .slice none 0 0, .slice none 0 0, .slice none 0 0, .slice none 0 0, .slice none 0 0, .slice none 0 0] 33)).cell? ⟨w.heap.size, 1, none⟩ = some (.int .i64 b) := (hN.cell 1).trans rfl
    have kc0 : (U.alloc (.cells #[.int .i64 0, .int .i64 0, .int .i64 0, .int .i64 0, .int .i64 0, .int .i64 0, .int .i64 0, .int .i64 0, .int .i64 0, .int .i64 0, .int .i64 0, .int .i64 0, .slice none 0 0, .slice none 0 0, .slice none 0 0, .slice none 0 0, .slice none 0 0, .slice none 0 0] 33)).cell? ⟨w.heap.size + 1, 0, none⟩ = some (.int .i64 p) := (hT.cell 0).trans rfl
    have kc1 : (U.alloc (.cells #[.int .i64 0, .int .i64 0, .int .i64 0, .int .i64 0, .int .i64 0, .int .i64 0, .int .i64 0, .int .i64 0, .int .i64 0, .int .i64 0, .int .i64 0, .int .i64 0, .slice none 0 0, .slice none 0 0, .slice none 0 0, .slice none 0 0, .slice none 0 0, .slice none 0 0] 33)).cell? ⟨w.heap.size + 1, 1, none⟩ = some (.int .i64 s1) := (hT.cell 1).trans rfl
    have kc2 : (U.alloc (.cells #[.int .i64 0, .int .i64 0, .int .i64 0, .int .i64 0, .int .i64 0, .int .i64 0, .int .i64 0, .int .i64 0, .int .i64 0, .int .i64 0, .int .i64 0, .int .i64 0, .slice none 0 0, .slice none 0 0, .slice none 0 0, .slice none 0 0, .slice none 0 0, .slice none 0 0] 33)).cell? ⟨w.heap.size + 1, 2, none⟩ = some (.int .i64 s2) := (hT.cell 2).trans rfl
    have kc3 : (U.alloc (.cells #[.int .i64 0, .int .i64 0, .int .i64 0, .int .i64 0, .int .i64 0, .int .i64 0, .int .i64 0, .int .i64 0, .int .i64 0, .int .i64 0, .int .i64 0, .int .i64 0, .slice none 0 0, .slice none 0 0, .slice none 0 0, .slice none 0 0, .slice none 0 0, .slice none 0 0] 33)).cell? ⟨w.heap.size + 1, 3, none⟩ = some (.int .i64 z) := (hT.cell 3).trans rfl
    have kc4 : (U.alloc (.cells #[.int .i64 0, .int .i64 0, .int .i64 0, .int .i64 0, .int .i64 0, .int .i64 0, .int .i64 0, .int .i64 0, .int .i64 0, .int .i64 0, .int .i64 0, .int .i64 0, .slice none 0 0, .slice none 0 0, .slice none 0 0, .slice none 0 0, .slice none 0 0, .slice none 0 0] 33)).cell? ⟨w.heap.size + 1, 4, none⟩ = some (.int .i64 o) := (hT.cell 4).trans rfl
    refine hK.out _ _ ?_ (fun hHeld => ?_)
    · exact ⟨n0, n1, kc0, kc1, kc2, kc3, kc4⟩
    clear hK K
    try simp only [Act.put, List.setIfInBounds_toArray, List.set_cons_zero, List.set_cons_succ]
    have hgW : w.heap.size + 1 < U.heap.size := by omega
    generalize (U.alloc (.cells #[.int .i64 0, .int .i64 0, .int .i64 0, .int .i64 0, .int .i64 0, .int .i64 0, .int .i64 0, .int .i64 0, .int .i64 0, .int .i64 0, .int .i64 0, .int .i64 0, .slice none 0 0, .slice none 0 0, .slice none 0 0, .slice none 0 0, .slice none 0 0, .slice none 0 0] 33)) = v1 at *
    generalize U.heap.size = g at *
    refine wpAnyH_ready (rs := [4]) (by kernel_rfl) (by simp) ?_
    refine AllReadyH.cons (o := _) (by simp only [List.getElem?_toArray, List.getElem?_cons_succ, List.getElem?_cons_zero]; rfl) (fun K hK => ?_) AllReadyH.nil
    go_simp
    go_wp2_with fail
    refine (ours_any _ p s1 s2 z o).mono ?_
    rintro e v2 ⟨rfl, hbe⟩
    have hWd := hT.lt
    have hN' := hN.below hbe (by omega)
    have hT' := hT.below hbe (by omega)
    have hb' := bthen hb hbe
    have hX' := hX.below hbe hX.lt
    clear hN hT hb hX hbe
    have hN := hN'
    have hT := hT'
    have hb := hb'
    have hX := hX'
    clear hN' hT' hb' hX'
    clear n0 n1 kc0 kc1 kc2 kc3 kc4
    have n0 : v2.cell? ⟨w.heap.size, 0, none⟩ = some (.int .i64 a) := (hN.cell 0).trans rfl
    have n1 : v2.cell? ⟨w.heap.size, 1, none⟩ = some (.int .i64 b) := (hN.cell 1).trans rfl
    have kc0 : v2.cell? ⟨w.heap.size + 1, 0, none⟩ = some (.int .i64 p) := (hT.cell 0).trans rfl
    have kc1 : v2.cell? ⟨w.heap.size + 1, 1, none⟩ = some (.int .i64 s1) := (hT.cell 1).trans rfl
    have kc2 : v2.cell? ⟨w.heap.size + 1, 2, none⟩ = some (.int .i64 s2) := (hT.cell 2).trans rfl
    have kc3 : v2.cell? ⟨w.heap.size + 1, 3, none⟩ = some (.int .i64 z) := (hT.cell 3).trans rfl
    have kc4 : v2.cell? ⟨w.heap.size + 1, 4, none⟩ = some (.int .i64 o) := (hT.cell 4).trans rfl
    have hWd := hT.lt
    refine hK.out _ _ ?_ (fun hHeld => ?_)
    · exact ⟨n0, n1, kc0, kc1, kc2, kc3, kc4⟩
    clear hK K
    try simp only [Act.put, List.setIfInBounds_toArray, List.set_cons_zero, List.set_cons_succ]
    refine wpAnyH_ready (rs := [7]) (by kernel_rfl) (by simp) ?_
    refine AllReadyH.cons (o := _) (by simp only [List.getElem?_toArray, List.getElem?_cons_succ, List.getElem?_cons_zero]; rfl) (fun K hK => ?_) AllReadyH.nil
    go_simp
    go_wp2_with fail
    have hWd := hT.lt
    refine (find_any v2 A n c ys a p s1 s2 z o b ((HR.out.below hb).more hb.size) HZ.out hN5).mono ?_
    rintro e v3 ⟨hbe, hfo⟩
    rcases hfo with ⟨hF, rfl⟩ | ⟨d, m, pa, k, V, hF, rfl, own2, hu⟩
    · rw [show blkZ = #[.int .i64 0, .int .i64 0, .int .i64 0, .int .i64 0, .int .i64 0, .int .i64 0, .int .i64 0, .int .i64 0, .int .i64 0, .int .i64 0, .int .i64 0, .int .i64 0, .slice none 0 0, .slice none 0 0, .slice none 0 0, .slice none 0 0, .slice none 0 0, .slice none 0 0] from rfl]
      have hN' := hN.below hbe (by omega)
      have hT' := hT.below hbe (by omega)
      have hb' := bthen hb hbe
      have hX' := hX.below hbe hX.lt
      clear hN hT hb hX hbe
      have hN := hN'
      have hT := hT'
      have hb := hb'
      have hX := hX'
      clear hN' hT' hb' hX'
      clear n0 n1 kc0 kc1 kc2 kc3 kc4
      have n0 : v3.cell? ⟨w.heap.size, 0, none⟩ = some (.int .i64 a) := (hN.cell 0).trans rfl
      have n1 : v3.cell? ⟨w.heap.size, 1, none⟩ = some (.int .i64 b) := (hN.cell 1).trans rfl
      have kc0 : v3.cell? ⟨w.heap.size + 1, 0, none⟩ = some (.int .i64 p) := (hT.cell 0).trans rfl
      have kc1 : v3.cell? ⟨w.heap.size + 1, 1, none⟩ = some (.int .i64 s1) := (hT.cell 1).trans rfl
      have kc2 : v3.cell? ⟨w.heap.size + 1, 2, none⟩ = some (.int .i64 s2) := (hT.cell 2).trans rfl
      have kc3 : v3.cell? ⟨w.heap.size + 1, 3, none⟩ = some (.int .i64 z) := (hT.cell 3).trans rfl
      have kc4 : v3.cell? ⟨w.heap.size + 1, 4, none⟩ = some (.int .i64 o) := (hT.cell 4).trans rfl
      have hWd := hT.lt
      refine hK.out _ _ ?_ (fun hHeld => ?_)
      · exact ⟨n0, n1, kc0, kc1, kc2, kc3, kc4⟩
      clear hK K
      try simp only [Act.put, List.setIfInBounds_toArray, List.set_cons_zero, List.set_cons_succ]
      refine wpAnyH_take (i := 8) (oi := _) (v := ?_) (by simp only [List.getElem?_toArray, List.getElem?_cons_succ, List.getElem?_cons_zero]; rfl) (by kernel_rfl) (by kernel_rfl) (by kernel_rfl) (by intro _ _ _ h; exact h) (Or.inl ⟨by rfl, ?_⟩) (by assumption) ?_
      rotate_left
      · intro w hSw
        try dsimp only at hSw
        obtain ⟨e0, e1, e2, e3, e4, e5, e6⟩ := hSw
        go_simp
        try with_reducible rfl
      try simp only [Act.put, List.setIfInBounds_toArray, List.set_cons_zero, List.set_cons_succ]
      refine wpAnyH_take (i := 9) (oi := _) (v := ?_) (by simp only [List.getElem?_toArray, List.getElem?_cons_succ, List.getElem?_cons_zero]; rfl) (by kernel_rfl) (by kernel_rfl) (by kernel_rfl) (by intro _ _ _ h; exact h) (Or.inl ⟨by rfl, ?_⟩) (by assumption) ?_
      rotate_left
      · intro w hSw
        try dsimp only at hSw
        obtain ⟨e0, e1, e2, e3, e4, e5, e6⟩ := hSw
        go_simp
        try with_reducible rfl
      try simp only [Act.put, List.setIfInBounds_toArray, List.set_cons_zero, List.set_cons_succ]
      refine wpAnyH_take (i := 10) (oi := _) (v := ?_) (by simp only [List.getElem?_toArray, List.getElem?_cons_succ, List.getElem?_cons_zero]; rfl) (by kernel_rfl) (by kernel_rfl) (by kernel_rfl) (by intro _ _ _ h; exact h) (Or.inl ⟨by rfl, ?_⟩) (by assumption) ?_
      rotate_left
      · intro w hSw
        try dsimp only at hSw
        obtain ⟨e0, e1, e2, e3, e4, e5, e6⟩ := hSw
        go_simp
        try with_reducible rfl
      try simp only [Act.put, List.setIfInBounds_toArray, List.set_cons_zero, List.set_cons_succ]
      refine wpAnyH_take (i := 11) (oi := _) (v := ?_) (by simp only [List.getElem?_toArray, List.getElem?_cons_succ, List.getElem?_cons_zero]; rfl) (by kernel_rfl) (by kernel_rfl) (by kernel_rfl) (by intro _ _ _ h; exact h) (Or.inl ⟨by rfl, ?_⟩) (by assumption) ?_
      rotate_left
      · intro w hSw
        try dsimp only at hSw
        obtain ⟨e0, e1, e2, e3, e4, e5, e6⟩ := hSw
        go_simp
        try with_reducible rfl
      try simp only [Act.put, List.setIfInBounds_toArray, List.set_cons_zero, List.set_cons_succ]
      refine wpAnyH_ready (rs := [13]) (by kernel_rfl) (by simp) ?_
      refine AllReadyH.cons (o := _) (by simp only [List.getElem?_toArray, List.getElem?_cons_succ, List.getElem?_cons_zero]; rfl) (fun K hK => ?_) AllReadyH.nil
      refine step_store_box rfl 33 _ _ (by rfl) g #[.int .i64 0, .int .i64 0, .int .i64 0, .int .i64 0, .int .i64 0, .int .i64 0, .int .i64 0, .int .i64 0, .int .i64 0, .int .i64 0, .int .i64 0, .int .i64 0, .slice none 0 0, .slice none 0 0, .slice none 0 0, .slice none 0 0, .slice none 0 0, .slice none 0 0] (by rfl) (by rfl) 33 #[.int .i64 0, .int .i64 0, .int .i64 0, .int .i64 0, .int .i64 0, .int .i64 0, .int .i64 0, .int .i64 0, .int .i64 0, .int .i64 0, .int .i64 0, .int .i64 0, .slice none 0 0, .slice none 0 0, .slice none 0 0, .slice none 0 0, .slice none 0 0, .slice none 0 0] hX blkInfo rfl (by simp [Value.oneCell']) ?_
      intro W3 hX3 hg3
      have hN3 := hN.grown hg3 (fun e => by injection e with e; omega)
      have hT3 := hT.grown hg3 (fun e => by injection e with e; omega)
      have hb3 := hb.grown hg3 hb.size (fun j hj => by injection hj with hj; omega)
      clear hX hg3 hN hT hb
      clear n0 n1 kc0 kc1 kc2 kc3 kc4
      have n0 : W3.cell? ⟨w.heap.size, 0, none⟩ = some (.int .i64 a) := (hN3.cell 0).trans rfl
      have n1 : W3.cell? ⟨w.heap.size, 1, none⟩ = some (.int .i64 b) := (hN3.cell 1).trans rfl
      have kc0 : W3.cell? ⟨w.heap.size + 1, 0, none⟩ = some (.int .i64 p) := (hT3.cell 0).trans rfl
      have kc1 : W3.cell? ⟨w.heap.size + 1, 1, none⟩ = some (.int .i64 s1) := (hT3.cell 1).trans rfl
      have kc2 : W3.cell? ⟨w.heap.size + 1, 2, none⟩ = some (.int .i64 s2) := (hT3.cell 2).trans rfl
      have kc3 : W3.cell? ⟨w.heap.size + 1, 3, none⟩ = some (.int .i64 z) := (hT3.cell 3).trans rfl
      have kc4 : W3.cell? ⟨w.heap.size + 1, 4, none⟩ = some (.int .i64 o) := (hT3.cell 4).trans rfl
      refine hK.out _ _ ?_ (fun hHeld => ?_)
      · exact ⟨n0, n1, kc0, kc1, kc2, kc3, kc4⟩
      clear hK K
      try simp only [Act.put, List.setIfInBounds_toArray, List.set_cons_zero, List.set_cons_succ]
      refine wpAnyH_ready (rs := [14]) (by kernel_rfl) (by simp) ?_
      refine AllReadyH.cons (o := _) (by simp only [List.getElem?_toArray, List.getElem?_cons_succ, List.getElem?_cons_zero]; rfl) (fun K hK => ?_) AllReadyH.nil
      go_simp
      refine hK.out _ _ ?_ (fun hHeld => ?_)
      · exact ⟨n0, n1, kc0, kc1, kc2, kc3, kc4⟩
      clear hK K
      try simp only [Act.put, List.setIfInBounds_toArray, List.set_cons_zero, List.set_cons_succ]
      refine wpAnyH_ready (rs := [15]) (by kernel_rfl) (by simp) ?_
      refine AllReadyH.cons (o := _) (by simp only [List.getElem?_toArray, List.getElem?_cons_succ, List.getElem?_cons_zero]; rfl) (fun K hK => ?_) AllReadyH.nil
      go_simp
      refine hK.out _ _ ?_ (fun hHeld => ?_)
      · exact ⟨n0, n1, kc0, kc1, kc2, kc3, kc4⟩
      clear hK K
      try simp only [Act.put, List.setIfInBounds_toArray, List.set_cons_zero, List.set_cons_succ]
      refine wpAnyH_done (by kernel_rfl) ?_ _
      have hx3 := hX3.lt
      have hs3 := hT3.lt
      have hfr := findR_any W3 A n c ys a p s1 s2 z o b ((HR.out.below hb3).more hb3.size) HZ.out hN5
      have H3 := Lib.hid (And.intro hX3 (And.intro hb3 trivial))
      clear hX3 hb3 hN3 hT3
      go_wp2_with fail
      refine hfr.mono ?_
      rintro e w4 ⟨hb4, hfo⟩
      clear hfr n0 n1 kc0 kc1 kc2 kc3 kc4
      obtain ⟨hX3, hb3, own3⟩ := H3.out
      have hX4 := hX3.below hb4 hx3
      have hbl4 := bthen hb3 hb4
      have hx4 := hX4.lt
      rcases hfo with ⟨_, rfl⟩ | ⟨d, m, pa, k, V, hs, _⟩
      rotate_left
      · rw [hF] at hs; cases hs
      rw [show blkZ = #[.int .i64 0, .int .i64 0, .int .i64 0, .int .i64 0, .int .i64 0, .int .i64 0, .int .i64 0, .int .i64 0, .int .i64 0, .int .i64 0, .int .i64 0, .int .i64 0, .slice none 0 0, .slice none 0 0, .slice none 0 0, .slice none 0 0, .slice none 0 0, .slice none 0 0] from rfl]
      have hYa : Blk (w4.alloc (.cells #[.int .i64 0, .int .i64 0, .int .i64 0, .int .i64 0, .int .i64 0, .int .i64 0, .int .i64 0, .int .i64 0, .int .i64 0, .int .i64 0, .int .i64 0, .int .i64 0, .slice none 0 0, .slice none 0 0, .slice none 0 0, .slice none 0 0, .slice none 0 0, .slice none 0 0] 33)) w4.heap.size 33 #[.int .i64 0, .int .i64 0, .int .i64 0, .int .i64 0, .int .i64 0, .int .i64 0, .int .i64 0, .int .i64 0, .int .i64 0, .int .i64 0, .int .i64 0, .int .i64 0, .slice none 0 0, .slice none 0 0, .slice none 0 0, .slice none 0 0, .slice none 0 0, .slice none 0 0] := Blk.new w4 _ _
      have H4 := Lib.hid (And.intro hX4 hbl4)
      clear hX4 hbl4 hX3 hb3 own3 hb4 H3
      go_wp2_with (first
        | (refine wpList_store_box rfl 33 _ _ rfl (w4.heap.size) #[.int .i64 0, .int .i64 0, .int .i64 0, .int .i64 0, .int .i64 0, .int .i64 0, .int .i64 0, .int .i64 0, .int .i64 0, .int .i64 0, .int .i64 0, .int .i64 0, .slice none 0 0, .slice none 0 0, .slice none 0 0, .slice none 0 0, .slice none 0 0, .slice none 0 0] rfl rfl 33 #[.int .i64 0, .int .i64 0, .int .i64 0, .int .i64 0, .int .i64 0, .int .i64 0, .int .i64 0, .int .i64 0, .int .i64 0, .int .i64 0, .int .i64 0, .int .i64 0, .slice none 0 0, .slice none 0 0, .slice none 0 0, .slice none 0 0, .slice none 0 0, .slice none 0 0] hYa blkInfo rfl (by simp [Value.oneCell']) ?_)
        | fail)
      intro w5 hY5 hg5
      obtain ⟨hX4, hbl4⟩ := H4.out
      have hg45 := grown_trans (World.grownBy_alloc w4 (.cells #[.int .i64 0, .int .i64 0, .int .i64 0, .int .i64 0, .int .i64 0, .int .i64 0, .int .i64 0, .int .i64 0, .int .i64 0, .int .i64 0, .int .i64 0, .int .i64 0, .slice none 0 0, .slice none 0 0, .slice none 0 0, .slice none 0 0, .slice none 0 0, .slice none 0 0] 33) (some w4.heap.size)) hg5
      have hX5 := hX4.grown hg45 (fun e => by injection e with e; omega)
      have hb5 := hbl4.grown hg45 hbl4.size (fun j hj => by injection hj with hj; have := hbl4.size; omega)
      clear hX4 hbl4 H4 hg5 hg45 hYa
      have H5 := Lib.hid hb5
      clear hb5
      go_wp2_with (first
        | (refine wpList_load_box rfl 33 _ rfl g rfl 33 #[.int .i64 0, .int .i64 0, .int .i64 0, .int .i64 0, .int .i64 0, .int .i64 0, .int .i64 0, .int .i64 0, .int .i64 0, .int .i64 0, .int .i64 0, .int .i64 0, .slice none 0 0, .slice none 0 0, .slice none 0 0, .slice none 0 0, .slice none 0 0, .slice none 0 0] hX5 _ Try.underlying33 rfl blkInfo ?_)
        | (refine wpList_load_box rfl 33 _ rfl w4.heap.size rfl 33 #[.int .i64 0, .int .i64 0, .int .i64 0, .int .i64 0, .int .i64 0, .int .i64 0, .int .i64 0, .int .i64 0, .int .i64 0, .int .i64 0, .int .i64 0, .int .i64 0, .slice none 0 0, .slice none 0 0, .slice none 0 0, .slice none 0 0, .slice none 0 0, .slice none 0 0] hY5 _ Try.underlying33 rfl blkInfo ?_)
        | fail)
      try (refine fun (_ : Hid _) => ?_)
      go_wp2_with (first
        | (refine wpList_load_box rfl 33 _ rfl w4.heap.size rfl 33 #[.int .i64 0, .int .i64 0, .int .i64 0, .int .i64 0, .int .i64 0, .int .i64 0, .int .i64 0, .int .i64 0, .int .i64 0, .int .i64 0, .int .i64 0, .int .i64 0, .slice none 0 0, .slice none 0 0, .slice none 0 0, .slice none 0 0, .slice none 0 0, .slice none 0 0] hY5 _ Try.underlying33 rfl blkInfo ?_)
        | fail)
      try (refine fun (_ : Hid _) => ?_)
      clear hX5 hY5
      first
        | (refine (same_any w5 0 0 0 0 0 0 0 0 0 0 0 0 none none 0 0 0 [] Reads.none_ Reads.none_).mono ?_)
        | (go_wp2_with fail; refine (same_any w5 0 0 0 0 0 0 0 0 0 0 0 0 none none 0 0 0 [] Reads.none_ Reads.none_).mono ?_)
      rintro e w6 ⟨rfl, hb6⟩
      have hbl6 := bthen H5.out hb6
      clear hb6
      go_wp2_with fail
      refine (standard_any _).mono ?_
      rintro e w7 ⟨rfl, hb7⟩
      have hbl7 := bthen hbl6 hb7
      clear hb7 hbl6
      go_wp2_with fail
      refine (standardR_any _).mono ?_
      rintro e w8 ⟨rfl, hb8⟩
      have hbl8 := bthen hbl7 hb8
      clear hb8 hbl7
      go_wp2_with fail
      refine (ours_any _ 2168 667 735 855 1710).mono ?_
      rintro e w9 ⟨rfl, hb9⟩
      have hbl9 := bthen hbl8 hb9
      clear hb9 hbl8
      have heq := eq5 w9 2168 667 735 855 1710
      rw [show stdB 2168 667 735 855 1710 = true by decide] at heq
      go_wp2_with fail
      refine (lives27 _).mono ?_
      rintro e w10 ⟨rfl, hb10⟩
      go_wp2
      go_ret
      exact ⟨rfl, bthen hbl9 hb10⟩
    cases hst : stdB p s1 s2 z o
    · simp only [blkV, if_true, Bool.false_eq_true, if_false]
      obtain ⟨VA, vc, rfl⟩ := own_slice own2
      have hN' := hN.below hbe (by omega)
      have hT' := hT.below hbe (by omega)
      have hb' := bthen hb hbe
      have hX' := hX.below hbe hX.lt
      clear hN hT hb hX hbe
      have hN := hN'
      have hT := hT'
      have hb := hb'
      have hX := hX'
      clear hN' hT' hb' hX'
      have own := ownsRow_le' own2 (base' := w.heap.size) (by omega)
      clear own2
      clear n0 n1 kc0 kc1 kc2 kc3 kc4
      have n0 : v3.cell? ⟨w.heap.size, 0, none⟩ = some (.int .i64 a) := (hN.cell 0).trans rfl
      have n1 : v3.cell? ⟨w.heap.size, 1, none⟩ = some (.int .i64 b) := (hN.cell 1).trans rfl
      have kc0 : v3.cell? ⟨w.heap.size + 1, 0, none⟩ = some (.int .i64 p) := (hT.cell 0).trans rfl
      have kc1 : v3.cell? ⟨w.heap.size + 1, 1, none⟩ = some (.int .i64 s1) := (hT.cell 1).trans rfl
      have kc2 : v3.cell? ⟨w.heap.size + 1, 2, none⟩ = some (.int .i64 s2) := (hT.cell 2).trans rfl
      have kc3 : v3.cell? ⟨w.heap.size + 1, 3, none⟩ = some (.int .i64 z) := (hT.cell 3).trans rfl
      have kc4 : v3.cell? ⟨w.heap.size + 1, 4, none⟩ = some (.int .i64 o) := (hT.cell 4).trans rfl
      have hWd := hT.lt
      refine hK.out _ _ ?_ (fun hHeld => ?_)
      · exact ⟨n0, n1, kc0, kc1, kc2, kc3, kc4⟩
      clear hK K
      try simp only [Act.put, List.setIfInBounds_toArray, List.set_cons_zero, List.set_cons_succ]
      refine wpAnyH_take (i := 8) (oi := _) (v := ?_) (by simp only [List.getElem?_toArray, List.getElem?_cons_succ, List.getElem?_cons_zero]; rfl) (by kernel_rfl) (by kernel_rfl) (by kernel_rfl) (by intro _ _ _ h; exact h) (Or.inl ⟨by rfl, ?_⟩) (by assumption) ?_
      rotate_left
      · intro w hSw
        try dsimp only at hSw
        obtain ⟨e0, e1, e2, e3, e4, e5, e6⟩ := hSw
        go_simp
        try with_reducible rfl
      try simp only [Act.put, List.setIfInBounds_toArray, List.set_cons_zero, List.set_cons_succ]
      refine wpAnyH_take (i := 9) (oi := _) (v := ?_) (by simp only [List.getElem?_toArray, List.getElem?_cons_succ, List.getElem?_cons_zero]; rfl) (by kernel_rfl) (by kernel_rfl) (by kernel_rfl) (by intro _ _ _ h; exact h) (Or.inl ⟨by rfl, ?_⟩) (by assumption) ?_
      rotate_left
      · intro w hSw
        try dsimp only at hSw
        obtain ⟨e0, e1, e2, e3, e4, e5, e6⟩ := hSw
        go_simp
        try with_reducible rfl
      try simp only [Act.put, List.setIfInBounds_toArray, List.set_cons_zero, List.set_cons_succ]
      refine wpAnyH_take (i := 10) (oi := _) (v := ?_) (by simp only [List.getElem?_toArray, List.getElem?_cons_succ, List.getElem?_cons_zero]; rfl) (by kernel_rfl) (by kernel_rfl) (by kernel_rfl) (by intro _ _ _ h; exact h) (Or.inl ⟨by rfl, ?_⟩) (by assumption) ?_
      rotate_left
      · intro w hSw
        try dsimp only at hSw
        obtain ⟨e0, e1, e2, e3, e4, e5, e6⟩ := hSw
        go_simp
        try with_reducible rfl
      try simp only [Act.put, List.setIfInBounds_toArray, List.set_cons_zero, List.set_cons_succ]
      refine wpAnyH_take (i := 11) (oi := _) (v := ?_) (by simp only [List.getElem?_toArray, List.getElem?_cons_succ, List.getElem?_cons_zero]; rfl) (by kernel_rfl) (by kernel_rfl) (by kernel_rfl) (by intro _ _ _ h; exact h) (Or.inl ⟨by rfl, ?_⟩) (by assumption) ?_
      rotate_left
      · intro w hSw
        try dsimp only at hSw
        obtain ⟨e0, e1, e2, e3, e4, e5, e6⟩ := hSw
        go_simp
        try with_reducible rfl
      try simp only [Act.put, List.setIfInBounds_toArray, List.set_cons_zero, List.set_cons_succ]
      refine wpAnyH_ready (rs := [13]) (by kernel_rfl) (by simp) ?_
      refine AllReadyH.cons (o := _) (by simp only [List.getElem?_toArray, List.getElem?_cons_succ, List.getElem?_cons_zero]; rfl) (fun K hK => ?_) AllReadyH.nil
      refine step_store_box rfl 33 _ _ (by rfl) g #[.int .i64 17, .int .i64 pa, .int .i64 p, .int .i64 s1, .int .i64 s2, .int .i64 z, .int .i64 o, .int .i64 0, .int .i64 m, .int .i64 8, .int .i64 0, .int .i64 0, .slice VA d.length vc, .slice none 0 0, .slice none 0 0, .slice none 0 0, .slice none 0 0, .slice none 0 0] (by rfl) (by rfl) 33 #[.int .i64 0, .int .i64 0, .int .i64 0, .int .i64 0, .int .i64 0, .int .i64 0, .int .i64 0, .int .i64 0, .int .i64 0, .int .i64 0, .int .i64 0, .int .i64 0, .slice none 0 0, .slice none 0 0, .slice none 0 0, .slice none 0 0, .slice none 0 0, .slice none 0 0] hX blkInfo rfl (by simp [Value.oneCell']) ?_
      intro W3 hX3 hg3
      have hN3 := hN.grown hg3 (fun e => by injection e with e; omega)
      have hT3 := hT.grown hg3 (fun e => by injection e with e; omega)
      have hb3 := hb.grown hg3 hb.size (fun j hj => by injection hj with hj; omega)
      have own3 := own.kept hg3 (.inr (own_blk_ne own hX (by decide)))
      clear hX hg3 hN hT hb own
      clear n0 n1 kc0 kc1 kc2 kc3 kc4
      have n0 : W3.cell? ⟨w.heap.size, 0, none⟩ = some (.int .i64 a) := (hN3.cell 0).trans rfl
      have n1 : W3.cell? ⟨w.heap.size, 1, none⟩ = some (.int .i64 b) := (hN3.cell 1).trans rfl
      have kc0 : W3.cell? ⟨w.heap.size + 1, 0, none⟩ = some (.int .i64 p) := (hT3.cell 0).trans rfl
      have kc1 : W3.cell? ⟨w.heap.size + 1, 1, none⟩ = some (.int .i64 s1) := (hT3.cell 1).trans rfl
      have kc2 : W3.cell? ⟨w.heap.size + 1, 2, none⟩ = some (.int .i64 s2) := (hT3.cell 2).trans rfl
      have kc3 : W3.cell? ⟨w.heap.size + 1, 3, none⟩ = some (.int .i64 z) := (hT3.cell 3).trans rfl
      have kc4 : W3.cell? ⟨w.heap.size + 1, 4, none⟩ = some (.int .i64 o) := (hT3.cell 4).trans rfl
      refine hK.out _ _ ?_ (fun hHeld => ?_)
      · exact ⟨n0, n1, kc0, kc1, kc2, kc3, kc4⟩
      clear hK K
      try simp only [Act.put, List.setIfInBounds_toArray, List.set_cons_zero, List.set_cons_succ]
      refine wpAnyH_ready (rs := [14]) (by kernel_rfl) (by simp) ?_
      refine AllReadyH.cons (o := _) (by simp only [List.getElem?_toArray, List.getElem?_cons_succ, List.getElem?_cons_zero]; rfl) (fun K hK => ?_) AllReadyH.nil
      go_simp
      refine hK.out _ _ ?_ (fun hHeld => ?_)
      · exact ⟨n0, n1, kc0, kc1, kc2, kc3, kc4⟩
      clear hK K
      try simp only [Act.put, List.setIfInBounds_toArray, List.set_cons_zero, List.set_cons_succ]
      refine wpAnyH_ready (rs := [15]) (by kernel_rfl) (by simp) ?_
      refine AllReadyH.cons (o := _) (by simp only [List.getElem?_toArray, List.getElem?_cons_succ, List.getElem?_cons_zero]; rfl) (fun K hK => ?_) AllReadyH.nil
      go_simp
      refine hK.out _ _ ?_ (fun hHeld => ?_)
      · exact ⟨n0, n1, kc0, kc1, kc2, kc3, kc4⟩
      clear hK K
      try simp only [Act.put, List.setIfInBounds_toArray, List.set_cons_zero, List.set_cons_succ]
      refine wpAnyH_done (by kernel_rfl) ?_ _
      have hx3 := hX3.lt
      have hs3 := hT3.lt
      have hfr := findR_any W3 A n c ys a p s1 s2 z o b ((HR.out.below hb3).more hb3.size) HZ.out hN5
      have H3 := Lib.hid (And.intro hX3 (And.intro hb3 own3))
      clear hX3 hb3 hN3 hT3 own3
      go_wp2_with fail
      refine hfr.mono ?_
      rintro e w4 ⟨hb4, hfo⟩
      clear hfr n0 n1 kc0 kc1 kc2 kc3 kc4
      obtain ⟨hX3, hb3, own3⟩ := H3.out
      have hX4 := hX3.below hb4 hx3
      have hbl4 := bthen hb3 hb4
      have hx4 := hX4.lt
      have own4 := own_kept own3 hb4
      rcases hfo with ⟨hs, _⟩ | ⟨d', m', pa', k', V', hs, rfl, ownY, _⟩
      · rw [hF] at hs; cases hs
      rw [hF] at hs
      injection hs with hs
      injection hs with h1 hs
      injection hs with h2 hs
      injection hs with h3 h4
      subst h1 h2 h3 h4
      rw [hst]
      obtain ⟨YA, yc, rfl⟩ := own_slice ownY
      simp only [blkV, if_true, Bool.false_eq_true, if_false]
      have hYa : Blk (w4.alloc (.cells #[.int .i64 0, .int .i64 0, .int .i64 0, .int .i64 0, .int .i64 0, .int .i64 0, .int .i64 0, .int .i64 0, .int .i64 0, .int .i64 0, .int .i64 0, .int .i64 0, .slice none 0 0, .slice none 0 0, .slice none 0 0, .slice none 0 0, .slice none 0 0, .slice none 0 0] 33)) w4.heap.size 33 #[.int .i64 0, .int .i64 0, .int .i64 0, .int .i64 0, .int .i64 0, .int .i64 0, .int .i64 0, .int .i64 0, .int .i64 0, .int .i64 0, .int .i64 0, .int .i64 0, .slice none 0 0, .slice none 0 0, .slice none 0 0, .slice none 0 0, .slice none 0 0, .slice none 0 0] := Blk.new w4 _ _
      have H4 := Lib.hid (And.intro hX4 hbl4)
      clear hX4 hbl4 hX3 hb3 own3 hb4 H3
      go_wp2_with (first
        | (refine wpList_store_box rfl 33 _ _ rfl (w4.heap.size) #[.int .i64 17, .int .i64 pa, .int .i64 p, .int .i64 s1, .int .i64 s2, .int .i64 z, .int .i64 o, .int .i64 0, .int .i64 m, .int .i64 8, .int .i64 0, .int .i64 0, .slice YA d.length yc, .slice none 0 0, .slice none 0 0, .slice none 0 0, .slice none 0 0, .slice none 0 0] rfl rfl 33 #[.int .i64 0, .int .i64 0, .int .i64 0, .int .i64 0, .int .i64 0, .int .i64 0, .int .i64 0, .int .i64 0, .int .i64 0, .int .i64 0, .int .i64 0, .int .i64 0, .slice none 0 0, .slice none 0 0, .slice none 0 0, .slice none 0 0, .slice none 0 0, .slice none 0 0] hYa blkInfo rfl (by simp [Value.oneCell']) ?_)
        | fail)
      intro w5 hY5 hg5
      obtain ⟨hX4, hbl4⟩ := H4.out
      have hg45 := grown_trans (World.grownBy_alloc w4 (.cells #[.int .i64 0, .int .i64 0, .int .i64 0, .int .i64 0, .int .i64 0, .int .i64 0, .int .i64 0, .int .i64 0, .int .i64 0, .int .i64 0, .int .i64 0, .int .i64 0, .slice none 0 0, .slice none 0 0, .slice none 0 0, .slice none 0 0, .slice none 0 0, .slice none 0 0] 33) (some w4.heap.size)) hg5
      have hX5 := hX4.grown hg45 (fun e => by injection e with e; omega)
      have hb5 := hbl4.grown hg45 hbl4.size (fun j hj => by injection hj with hj; have := hbl4.size; omega)
      have own5 := own4.kept hg45 (own_far own4)
      have ownY5 := ownY.kept hg45 (own_far ownY)
      have HO := Lib.hid (And.intro own5 ownY5)
      clear own5 ownY5 own4 ownY
      clear hX4 hbl4 H4 hg5 hg45 hYa
      have H5 := Lib.hid hb5
      clear hb5
      go_wp2_with (first
        | (refine wpList_load_box rfl 33 _ rfl g rfl 33 #[.int .i64 17, .int .i64 pa, .int .i64 p, .int .i64 s1, .int .i64 s2, .int .i64 z, .int .i64 o, .int .i64 0, .int .i64 m, .int .i64 8, .int .i64 0, .int .i64 0, .slice VA d.length vc, .slice none 0 0, .slice none 0 0, .slice none 0 0, .slice none 0 0, .slice none 0 0] hX5 _ Try.underlying33 rfl blkInfo ?_)
        | (refine wpList_load_box rfl 33 _ rfl w4.heap.size rfl 33 #[.int .i64 17, .int .i64 pa, .int .i64 p, .int .i64 s1, .int .i64 s2, .int .i64 z, .int .i64 o, .int .i64 0, .int .i64 m, .int .i64 8, .int .i64 0, .int .i64 0, .slice YA d.length yc, .slice none 0 0, .slice none 0 0, .slice none 0 0, .slice none 0 0, .slice none 0 0] hY5 _ Try.underlying33 rfl blkInfo ?_)
        | fail)
      try (refine fun (_ : Hid _) => ?_)
      go_wp2_with (first
        | (refine wpList_load_box rfl 33 _ rfl w4.heap.size rfl 33 #[.int .i64 17, .int .i64 pa, .int .i64 p, .int .i64 s1, .int .i64 s2, .int .i64 z, .int .i64 o, .int .i64 0, .int .i64 m, .int .i64 8, .int .i64 0, .int .i64 0, .slice YA d.length yc, .slice none 0 0, .slice none 0 0, .slice none 0 0, .slice none 0 0, .slice none 0 0] hY5 _ Try.underlying33 rfl blkInfo ?_)
        | fail)
      try (refine fun (_ : Hid _) => ?_)
      clear hX5 hY5
      obtain ⟨own5, ownY5⟩ := HO.out
      first
        | (refine (same_any w5 (17) (pa) (p) (s1) (s2) (z) (o) (0) (m) (8) (0) (0) VA YA d.length vc yc d ((Reads.of_own own5)) (Reads.of_own ownY5)).mono ?_)
        | (go_wp2_with fail; refine (same_any w5 (17) (pa) (p) (s1) (s2) (z) (o) (0) (m) (8) (0) (0) VA YA d.length vc yc d ((Reads.of_own own5)) (Reads.of_own ownY5)).mono ?_)
      rintro e w6 ⟨rfl, hb6⟩
      have hbl6 := bthen H5.out hb6
      clear hb6
      go_wp2_with fail
      refine (standard_any _).mono ?_
      rintro e w7 ⟨rfl, hb7⟩
      have hbl7 := bthen hbl6 hb7
      clear hb7 hbl6
      go_wp2_with fail
      refine (standardR_any _).mono ?_
      rintro e w8 ⟨rfl, hb8⟩
      have hbl8 := bthen hbl7 hb8
      clear hb8 hbl7
      go_wp2_with fail
      refine (ours_any _ 2168 667 735 855 1710).mono ?_
      rintro e w9 ⟨rfl, hb9⟩
      have hbl9 := bthen hbl8 hb9
      clear hb9 hbl8
      have heq := eq5 w9 2168 667 735 855 1710
      rw [show stdB 2168 667 735 855 1710 = true by decide] at heq
      go_wp2_with fail
      refine (lives27 _).mono ?_
      rintro e w10 ⟨rfl, hb10⟩
      go_wp2
      go_ret
      exact ⟨rfl, bthen hbl9 hb10⟩
    · simp only [blkV, if_true, Bool.false_eq_true, if_false]
      obtain ⟨VA, vc, rfl⟩ := own_slice own2
      have hN' := hN.below hbe (by omega)
      have hT' := hT.below hbe (by omega)
      have hb' := bthen hb hbe
      have hX' := hX.below hbe hX.lt
      clear hN hT hb hX hbe
      have hN := hN'
      have hT := hT'
      have hb := hb'
      have hX := hX'
      clear hN' hT' hb' hX'
      have own := ownsRow_le' own2 (base' := w.heap.size) (by omega)
      clear own2
      clear n0 n1 kc0 kc1 kc2 kc3 kc4
      have n0 : v3.cell? ⟨w.heap.size, 0, none⟩ = some (.int .i64 a) := (hN.cell 0).trans rfl
      have n1 : v3.cell? ⟨w.heap.size, 1, none⟩ = some (.int .i64 b) := (hN.cell 1).trans rfl
      have kc0 : v3.cell? ⟨w.heap.size + 1, 0, none⟩ = some (.int .i64 p) := (hT.cell 0).trans rfl
      have kc1 : v3.cell? ⟨w.heap.size + 1, 1, none⟩ = some (.int .i64 s1) := (hT.cell 1).trans rfl
      have kc2 : v3.cell? ⟨w.heap.size + 1, 2, none⟩ = some (.int .i64 s2) := (hT.cell 2).trans rfl
      have kc3 : v3.cell? ⟨w.heap.size + 1, 3, none⟩ = some (.int .i64 z) := (hT.cell 3).trans rfl
      have kc4 : v3.cell? ⟨w.heap.size + 1, 4, none⟩ = some (.int .i64 o) := (hT.cell 4).trans rfl
      have hWd := hT.lt
      refine hK.out _ _ ?_ (fun hHeld => ?_)
      · exact ⟨n0, n1, kc0, kc1, kc2, kc3, kc4⟩
      clear hK K
      try simp only [Act.put, List.setIfInBounds_toArray, List.set_cons_zero, List.set_cons_succ]
      refine wpAnyH_take (i := 8) (oi := _) (v := ?_) (by simp only [List.getElem?_toArray, List.getElem?_cons_succ, List.getElem?_cons_zero]; rfl) (by kernel_rfl) (by kernel_rfl) (by kernel_rfl) (by intro _ _ _ h; exact h) (Or.inl ⟨by rfl, ?_⟩) (by assumption) ?_
      rotate_left
      · intro w hSw
        try dsimp only at hSw
        obtain ⟨e0, e1, e2, e3, e4, e5, e6⟩ := hSw
        go_simp
        try with_reducible rfl
      try simp only [Act.put, List.setIfInBounds_toArray, List.set_cons_zero, List.set_cons_succ]
      refine wpAnyH_take (i := 9) (oi := _) (v := ?_) (by simp only [List.getElem?_toArray, List.getElem?_cons_succ, List.getElem?_cons_zero]; rfl) (by kernel_rfl) (by kernel_rfl) (by kernel_rfl) (by intro _ _ _ h; exact h) (Or.inl ⟨by rfl, ?_⟩) (by assumption) ?_
      rotate_left
      · intro w hSw
        try dsimp only at hSw
        obtain ⟨e0, e1, e2, e3, e4, e5, e6⟩ := hSw
        go_simp
        try with_reducible rfl
      try simp only [Act.put, List.setIfInBounds_toArray, List.set_cons_zero, List.set_cons_succ]
      refine wpAnyH_take (i := 10) (oi := _) (v := ?_) (by simp only [List.getElem?_toArray, List.getElem?_cons_succ, List.getElem?_cons_zero]; rfl) (by kernel_rfl) (by kernel_rfl) (by kernel_rfl) (by intro _ _ _ h; exact h) (Or.inl ⟨by rfl, ?_⟩) (by assumption) ?_
      rotate_left
      · intro w hSw
        try dsimp only at hSw
        obtain ⟨e0, e1, e2, e3, e4, e5, e6⟩ := hSw
        go_simp
        try with_reducible rfl
      try simp only [Act.put, List.setIfInBounds_toArray, List.set_cons_zero, List.set_cons_succ]
      refine wpAnyH_take (i := 11) (oi := _) (v := ?_) (by simp only [List.getElem?_toArray, List.getElem?_cons_succ, List.getElem?_cons_zero]; rfl) (by kernel_rfl) (by kernel_rfl) (by kernel_rfl) (by intro _ _ _ h; exact h) (Or.inl ⟨by rfl, ?_⟩) (by assumption) ?_
      rotate_left
      · intro w hSw
        try dsimp only at hSw
        obtain ⟨e0, e1, e2, e3, e4, e5, e6⟩ := hSw
        go_simp
        try with_reducible rfl
      try simp only [Act.put, List.setIfInBounds_toArray, List.set_cons_zero, List.set_cons_succ]
      refine wpAnyH_ready (rs := [13]) (by kernel_rfl) (by simp) ?_
      refine AllReadyH.cons (o := _) (by simp only [List.getElem?_toArray, List.getElem?_cons_succ, List.getElem?_cons_zero]; rfl) (fun K hK => ?_) AllReadyH.nil
      refine step_store_box rfl 33 _ _ (by rfl) g #[.int .i64 16, .int .i64 pa, .int .i64 0, .int .i64 0, .int .i64 0, .int .i64 0, .int .i64 0, .int .i64 0, .int .i64 0, .int .i64 0, .int .i64 0, .int .i64 0, .slice VA d.length vc, .slice none 0 0, .slice none 0 0, .slice none 0 0, .slice none 0 0, .slice none 0 0] (by rfl) (by rfl) 33 #[.int .i64 0, .int .i64 0, .int .i64 0, .int .i64 0, .int .i64 0, .int .i64 0, .int .i64 0, .int .i64 0, .int .i64 0, .int .i64 0, .int .i64 0, .int .i64 0, .slice none 0 0, .slice none 0 0, .slice none 0 0, .slice none 0 0, .slice none 0 0, .slice none 0 0] hX blkInfo rfl (by simp [Value.oneCell']) ?_
      intro W3 hX3 hg3
      have hN3 := hN.grown hg3 (fun e => by injection e with e; omega)
      have hT3 := hT.grown hg3 (fun e => by injection e with e; omega)
      have hb3 := hb.grown hg3 hb.size (fun j hj => by injection hj with hj; omega)
      have own3 := own.kept hg3 (.inr (own_blk_ne own hX (by decide)))
      clear hX hg3 hN hT hb own
      clear n0 n1 kc0 kc1 kc2 kc3 kc4
      have n0 : W3.cell? ⟨w.heap.size, 0, none⟩ = some (.int .i64 a) := (hN3.cell 0).trans rfl
      have n1 : W3.cell? ⟨w.heap.size, 1, none⟩ = some (.int .i64 b) := (hN3.cell 1).trans rfl
      have kc0 : W3.cell? ⟨w.heap.size + 1, 0, none⟩ = some (.int .i64 p) := (hT3.cell 0).trans rfl
      have kc1 : W3.cell? ⟨w.heap.size + 1, 1, none⟩ = some (.int .i64 s1) := (hT3.cell 1).trans rfl
      have kc2 : W3.cell? ⟨w.heap.size + 1, 2, none⟩ = some (.int .i64 s2) := (hT3.cell 2).trans rfl
      have kc3 : W3.cell? ⟨w.heap.size + 1, 3, none⟩ = some (.int .i64 z) := (hT3.cell 3).trans rfl
      have kc4 : W3.cell? ⟨w.heap.size + 1, 4, none⟩ = some (.int .i64 o) := (hT3.cell 4).trans rfl
      refine hK.out _ _ ?_ (fun hHeld => ?_)
      · exact ⟨n0, n1, kc0, kc1, kc2, kc3, kc4⟩
      clear hK K
      try simp only [Act.put, List.setIfInBounds_toArray, List.set_cons_zero, List.set_cons_succ]
      refine wpAnyH_ready (rs := [14]) (by kernel_rfl) (by simp) ?_
      refine AllReadyH.cons (o := _) (by simp only [List.getElem?_toArray, List.getElem?_cons_succ, List.getElem?_cons_zero]; rfl) (fun K hK => ?_) AllReadyH.nil
      go_simp
      refine hK.out _ _ ?_ (fun hHeld => ?_)
      · exact ⟨n0, n1, kc0, kc1, kc2, kc3, kc4⟩
      clear hK K
      try simp only [Act.put, List.setIfInBounds_toArray, List.set_cons_zero, List.set_cons_succ]
      refine wpAnyH_ready (rs := [15]) (by kernel_rfl) (by simp) ?_
      refine AllReadyH.cons (o := _) (by simp only [List.getElem?_toArray, List.getElem?_cons_succ, List.getElem?_cons_zero]; rfl) (fun K hK => ?_) AllReadyH.nil
      go_simp
      refine hK.out _ _ ?_ (fun hHeld => ?_)
      · exact ⟨n0, n1, kc0, kc1, kc2, kc3, kc4⟩
      clear hK K
      try simp only [Act.put, List.setIfInBounds_toArray, List.set_cons_zero, List.set_cons_succ]
      refine wpAnyH_done (by kernel_rfl) ?_ _
      have hx3 := hX3.lt
      have hs3 := hT3.lt
      have hfr := findR_any W3 A n c ys a p s1 s2 z o b ((HR.out.below hb3).more hb3.size) HZ.out hN5
      have H3 := Lib.hid (And.intro hX3 (And.intro hb3 own3))
      clear hX3 hb3 hN3 hT3 own3
      go_wp2_with fail
      refine hfr.mono ?_
      rintro e w4 ⟨hb4, hfo⟩
      clear hfr n0 n1 kc0 kc1 kc2 kc3 kc4
      obtain ⟨hX3, hb3, own3⟩ := H3.out
      have hX4 := hX3.below hb4 hx3
      have hbl4 := bthen hb3 hb4
      have hx4 := hX4.lt
      have own4 := own_kept own3 hb4
      rcases hfo with ⟨hs, _⟩ | ⟨d', m', pa', k', V', hs, rfl, ownY, _⟩
      · rw [hF] at hs; cases hs
      rw [hF] at hs
      injection hs with hs
      injection hs with h1 hs
      injection hs with h2 hs
      injection hs with h3 h4
      subst h1 h2 h3 h4
      rw [hst]
      obtain ⟨YA, yc, rfl⟩ := own_slice ownY
      simp only [blkV, if_true, Bool.false_eq_true, if_false]
      have hYa : Blk (w4.alloc (.cells #[.int .i64 0, .int .i64 0, .int .i64 0, .int .i64 0, .int .i64 0, .int .i64 0, .int .i64 0, .int .i64 0, .int .i64 0, .int .i64 0, .int .i64 0, .int .i64 0, .slice none 0 0, .slice none 0 0, .slice none 0 0, .slice none 0 0, .slice none 0 0, .slice none 0 0] 33)) w4.heap.size 33 #[.int .i64 0, .int .i64 0, .int .i64 0, .int .i64 0, .int .i64 0, .int .i64 0, .int .i64 0, .int .i64 0, .int .i64 0, .int .i64 0, .int .i64 0, .int .i64 0, .slice none 0 0, .slice none 0 0, .slice none 0 0, .slice none 0 0, .slice none 0 0, .slice none 0 0] := Blk.new w4 _ _
      have H4 := Lib.hid (And.intro hX4 hbl4)
      clear hX4 hbl4 hX3 hb3 own3 hb4 H3
      go_wp2_with (first
        | (refine wpList_store_box rfl 33 _ _ rfl (w4.heap.size) #[.int .i64 16, .int .i64 pa, .int .i64 0, .int .i64 0, .int .i64 0, .int .i64 0, .int .i64 0, .int .i64 0, .int .i64 0, .int .i64 0, .int .i64 0, .int .i64 0, .slice YA d.length yc, .slice none 0 0, .slice none 0 0, .slice none 0 0, .slice none 0 0, .slice none 0 0] rfl rfl 33 #[.int .i64 0, .int .i64 0, .int .i64 0, .int .i64 0, .int .i64 0, .int .i64 0, .int .i64 0, .int .i64 0, .int .i64 0, .int .i64 0, .int .i64 0, .int .i64 0, .slice none 0 0, .slice none 0 0, .slice none 0 0, .slice none 0 0, .slice none 0 0, .slice none 0 0] hYa blkInfo rfl (by simp [Value.oneCell']) ?_)
        | fail)
      intro w5 hY5 hg5
      obtain ⟨hX4, hbl4⟩ := H4.out
      have hg45 := grown_trans (World.grownBy_alloc w4 (.cells #[.int .i64 0, .int .i64 0, .int .i64 0, .int .i64 0, .int .i64 0, .int .i64 0, .int .i64 0, .int .i64 0, .int .i64 0, .int .i64 0, .int .i64 0, .int .i64 0, .slice none 0 0, .slice none 0 0, .slice none 0 0, .slice none 0 0, .slice none 0 0, .slice none 0 0] 33) (some w4.heap.size)) hg5
      have hX5 := hX4.grown hg45 (fun e => by injection e with e; omega)
      have hb5 := hbl4.grown hg45 hbl4.size (fun j hj => by injection hj with hj; have := hbl4.size; omega)
      have own5 := own4.kept hg45 (own_far own4)
      have ownY5 := ownY.kept hg45 (own_far ownY)
      have HO := Lib.hid (And.intro own5 ownY5)
      clear own5 ownY5 own4 ownY
      clear hX4 hbl4 H4 hg5 hg45 hYa
      have H5 := Lib.hid hb5
      clear hb5
      go_wp2_with (first
        | (refine wpList_load_box rfl 33 _ rfl g rfl 33 #[.int .i64 16, .int .i64 pa, .int .i64 0, .int .i64 0, .int .i64 0, .int .i64 0, .int .i64 0, .int .i64 0, .int .i64 0, .int .i64 0, .int .i64 0, .int .i64 0, .slice VA d.length vc, .slice none 0 0, .slice none 0 0, .slice none 0 0, .slice none 0 0, .slice none 0 0] hX5 _ Try.underlying33 rfl blkInfo ?_)
        | (refine wpList_load_box rfl 33 _ rfl w4.heap.size rfl 33 #[.int .i64 16, .int .i64 pa, .int .i64 0, .int .i64 0, .int .i64 0, .int .i64 0, .int .i64 0, .int .i64 0, .int .i64 0, .int .i64 0, .int .i64 0, .int .i64 0, .slice YA d.length yc, .slice none 0 0, .slice none 0 0, .slice none 0 0, .slice none 0 0, .slice none 0 0] hY5 _ Try.underlying33 rfl blkInfo ?_)
        | fail)
      try (refine fun (_ : Hid _) => ?_)
      go_wp2_with (first
        | (refine wpList_load_box rfl 33 _ rfl w4.heap.size rfl 33 #[.int .i64 16, .int .i64 pa, .int .i64 0, .int .i64 0, .int .i64 0, .int .i64 0, .int .i64 0, .int .i64 0, .int .i64 0, .int .i64 0, .int .i64 0, .int .i64 0, .slice YA d.length yc, .slice none 0 0, .slice none 0 0, .slice none 0 0, .slice none 0 0, .slice none 0 0] hY5 _ Try.underlying33 rfl blkInfo ?_)
        | fail)
      try (refine fun (_ : Hid _) => ?_)
      clear hX5 hY5
      obtain ⟨own5, ownY5⟩ := HO.out
      first
        | (refine (same_any w5 (16) (pa) (0) (0) (0) (0) (0) (0) (0) (0) (0) (0) VA YA d.length vc yc d ((Reads.of_own own5)) (Reads.of_own ownY5)).mono ?_)
        | (go_wp2_with fail; refine (same_any w5 (16) (pa) (0) (0) (0) (0) (0) (0) (0) (0) (0) (0) VA YA d.length vc yc d ((Reads.of_own own5)) (Reads.of_own ownY5)).mono ?_)
      rintro e w6 ⟨rfl, hb6⟩
      have hbl6 := bthen H5.out hb6
      clear hb6
      go_wp2_with fail
      refine (standard_any _).mono ?_
      rintro e w7 ⟨rfl, hb7⟩
      have hbl7 := bthen hbl6 hb7
      clear hb7 hbl6
      go_wp2_with fail
      refine (standardR_any _).mono ?_
      rintro e w8 ⟨rfl, hb8⟩
      have hbl8 := bthen hbl7 hb8
      clear hb8 hbl7
      go_wp2_with fail
      refine (ours_any _ 2168 667 735 855 1710).mono ?_
      rintro e w9 ⟨rfl, hb9⟩
      have hbl9 := bthen hbl8 hb9
      clear hb9 hbl8
      have heq := eq5 w9 2168 667 735 855 1710
      rw [show stdB 2168 667 735 855 1710 = true by decide] at heq
      go_wp2_with fail
      refine (lives27 _).mono ?_
      rintro e w10 ⟨rfl, hb10⟩
      go_wp2
      go_ret
      exact ⟨rfl, bthen hbl9 hb10⟩

end Go.Proofs.Ytckgmnlmimogjaa
