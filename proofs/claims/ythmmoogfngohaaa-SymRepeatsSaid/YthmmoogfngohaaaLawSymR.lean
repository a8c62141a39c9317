/- The law SymRepeats of layer 22, walked: it returns true and writes nothing that was there. -/
import Derived.Test.YthmmoogfngohaaaSym5
import Derived.Deep.CutRange
import Derived.Deep.RegionHeld3
import Derived.BigRegion
namespace Go.Proofs.Ythmmoogfngohaaa
open Go.RowKit

theorem rep_at (l : List (Int × Int)) : ∀ (m i j : Nat), i < m → j < l.length → (List.replicate m l).flatten[i * l.length + j]? = l[j]?
  | 0, i, j, h, _ => by omega
  | m + 1, 0, j, _, hj => by
    rw [List.replicate_succ, List.flatten_cons, Nat.zero_mul, Nat.zero_add, List.getElem?_append_left hj]
  | m + 1, i + 1, j, hi, hj => by
    rw [List.replicate_succ, List.flatten_cons, List.getElem?_append_right (by rw [Nat.succ_mul]; omega), show (i + 1) * l.length + j - l.length = i * l.length + j by rw [Nat.succ_mul]; omega]
    exact rep_at l m i j (by omega) hj
theorem altE8 (a b : List (Int × Int)) : altE a b 8 = (List.replicate 4 (a ++ b)).flatten := by
  simp [altE, List.replicate]
section
variable {one two L : List (Int × Int)} {M : Nat} (hL : L = (List.replicate M one).flatten ++ two ++ altE two one 8)
theorem L_len : L = (List.replicate M one).flatten ++ two ++ altE two one 8 → L.length = M * one.length + two.length + 4 * (one.length + two.length) := by
  intro h
  rw [h, altE8, List.length_append, List.length_append, reps_len, reps_len, List.length_append]
  omega
theorem L_one {i : Nat} (hL : L = (List.replicate M one).flatten ++ two ++ altE two one 8) (h : i < M * one.length) : L[i]? = one[i % one.length]? := by
  have h0 : 0 < one.length := by
    rcases Nat.eq_zero_or_pos one.length with e | e
    · rw [e] at h; omega
    · exact e
  rw [hL, List.append_assoc, List.getElem?_append_left (by rw [reps_len]; exact h)]
  have := rep_at one M (i / one.length) (i % one.length) (Nat.div_lt_of_lt_mul (by rw [Nat.mul_comm]; exact h)) (Nat.mod_lt _ h0)
  rw [Nat.mul_comm, Nat.div_add_mod] at this
  exact this
theorem L_two {j : Nat} (hL : L = (List.replicate M one).flatten ++ two ++ altE two one 8) (h : j < two.length) : L[M * one.length + j]? = two[j]? := by
  rw [hL, List.append_assoc, List.getElem?_append_right (by rw [reps_len]; omega), reps_len, Nat.add_sub_cancel_left, List.getElem?_append_left h]
theorem L_turn {i j : Nat} (hL : L = (List.replicate M one).flatten ++ two ++ altE two one 8) (hi : i < 4) (hj : j < two.length) : L[M * one.length + two.length + i * (one.length + two.length) + j]? = two[j]? := by
  have h := rep_at (two ++ one) 4 i j hi (by rw [List.length_append]; omega)
  rw [List.length_append, List.getElem?_append_left hj] at h
  rw [hL, altE8, List.getElem?_append_right (by rw [List.length_append, reps_len]; omega), List.length_append, reps_len, ← h]
  congr 1
  rw [Nat.add_comm two.length one.length]
  omega
theorem L_back {i j : Nat} (hL : L = (List.replicate M one).flatten ++ two ++ altE two one 8) (hi : i < 4) (hj : j < one.length) : L[M * one.length + two.length + i * (one.length + two.length) + two.length + j]? = one[j]? := by
  have h := rep_at (two ++ one) 4 i (two.length + j) hi (by rw [List.length_append]; omega)
  rw [List.length_append, List.getElem?_append_right (by omega), Nat.add_sub_cancel_left] at h
  rw [hL, altE8, List.getElem?_append_right (by rw [List.length_append, reps_len]; omega), List.length_append, reps_len, ← h]
  congr 1
  rw [Nat.add_comm two.length one.length]
  omega
end
/-- an edge of own edges, read -/
theorem edge_cells {w : World} {B c n : Nat} {A : Option Addr} {l : List (Int × Int)} (h : w.ownsRow B 45 2 (.slice A n c) n (fl l)) {i : Nat} (hi : i < n) {p : Int × Int} (hp : l[i]? = some p) :
    ∃ g, A = some ⟨g, 0, none⟩ ∧ w.cell? ⟨g, i * 2, none⟩ = some (.int .i64 p.1) ∧ w.cell? ⟨g, i * 2 + 1, none⟩ = some (.int .i64 p.2) := by
  obtain ⟨g, cap, hv, _⟩ := h.form (by omega)
  injection hv with h1 _ h3
  subst h1 h3
  obtain ⟨f1, f2⟩ := fl_at hp
  exact ⟨g, rfl, (h.cellAt _ (by omega)).trans f1, (h.cellAt _ (by omega)).trans f2⟩
theorem own_neq {w : World} {B e size n k : Nat} {v : Value} {xs : List Value} (h : w.ownsRow B e size v n xs) : v.ownBlock = none ∨ v.ownBlock ≠ some (w.heap.size + k) := by
  cases hv : v.ownBlock with
  | none => exact .inl rfl
  | some b => exact .inr (fun e => by injection e with e; have := (h.lt b hv).2; omega)
theorem two_cases {l : List (Int × Int)} {i : Nat} (h : i < l.length) : ∃ p, l[i]? = some p := ⟨l[i], List.getElem?_eq_getElem h⟩

set_option maxRecDepth 100000 in
set_option maxHeartbeats 16000000 in
theorem symRepeats_walk (ks : Int) (SA : Option Addr) (ns cs : Nat) (zs0 : List Int) (kt : Int) (TA : Option Addr) (nt ct : Nat) (zt0 : List Int) (n : Int) (w : World) (w0 : IsRow .i64 w SA ns cs zs0) (w1 : IsRow .i64 w TA nt ct zt0) (wk : (Lit.int .i64 ks).wf = true) (wl : (Lit.int .i64 kt).wf = true) :
    Calls Try.prog 4 #[.agg #[.int .i64 ks, .slice SA ns cs], .agg #[.int .i64 kt, .slice TA nt ct], .int .i64 n] w fun e w' => e = .returned (.bool true) ∧ Below w.heap.size w w' := by
  have hs := row_i64 w0
  have ht := row_i64 w1
  obtain ⟨s0, s1⟩ := bounds_i64 wk
  obtain ⟨t0, t1⟩ := bounds_i64 wl
  clear w0 w1 wk wl
  generalize zs0.take ns = zs at *
  generalize zt0.take nt = zt at *
  have hb0 : Below w.heap.size w ((w.alloc (.cells #[.int .i64 ks, .slice SA ns cs] 40)).alloc (.cells #[.int .i64 kt, .slice TA nt ct] 40)) := ((Below.refl _ _).alloc (Nat.le_refl _) _).alloc (by simp) _
  have hS0 : Blk ((w.alloc (.cells #[.int .i64 ks, .slice SA ns cs] 40)).alloc (.cells #[.int .i64 kt, .slice TA nt ct] 40)) w.heap.size 40 #[.int .i64 ks, .slice SA ns cs] := Blk.alloc (Blk.new w _ _) _
  have hT0 : Blk ((w.alloc (.cells #[.int .i64 ks, .slice SA ns cs] 40)).alloc (.cells #[.int .i64 kt, .slice TA nt ct] 40)) (w.heap.size + 1) 40 #[.int .i64 kt, .slice TA nt ct] := by
    have := Blk.new (w.alloc (.cells #[.int .i64 ks, .slice SA ns cs] 40)) 40 #[.int .i64 kt, .slice TA nt ct]
    simpa using this
  by_cases hc : (100 : Int) < (ns : Int)
  · clear hs ht hS0 hT0
    go_enter Try.func4, Try.ntmps4
    go_wp2_with fail
    refine (lives22 _).mono ?_
    rintro e w1 ⟨rfl, hb1⟩
    go_wp2
    go_ret
    exact ⟨rfl, bthen hb0 hb1⟩
  have hc5 : ¬ (100 : Int) < (ns : Int) := hc
  clear hc
  by_cases hc : (100 : Int) < (nt : Int)
  · clear hs ht hS0 hT0
    go_enter Try.func4, Try.ntmps4
    go_wp2_with fail
    refine (lives22 _).mono ?_
    rintro e w1 ⟨rfl, hb1⟩
    go_wp2
    go_ret
    exact ⟨rfl, bthen hb0 hb1⟩
  have hc16 : ¬ (100 : Int) < (nt : Int) := hc
  clear hc
  by_cases hc : (1000 : Int) < n
  · clear hs ht hS0 hT0
    go_enter Try.func4, Try.ntmps4
    go_wp2_with fail
    refine (lives22 _).mono ?_
    rintro e w1 ⟨rfl, hb1⟩
    go_wp2
    go_ret
    exact ⟨rfl, bthen hb0 hb1⟩
  have hc27 : ¬ (1000 : Int) < n := hc
  clear hc
  have hns : ns ≤ 100 := by omega
  have hnt : nt ≤ 100 := by omega
  have hn1 : n ≤ 1000 := by omega
  have hlS := reads_lenI hs
  have hlT := reads_lenI ht
  have hK1 : (es (ks % 4) zs).length ≤ 100 := by rw [es_len]; have := cutK_le zs; omega
  have hK2 : (es (kt % 4) zt).length ≤ 100 := by rw [es_len]; have := cutK_le zt; omega
  have HRS := Lib.hid hs
  have HRT := Lib.hid ht
  clear hs ht
  go_enter Try.func4, Try.ntmps4
  go_upto_region 3 with fail
  generalize ((w.alloc (.cells #[.int .i64 ks, .slice SA ns cs] 40)).alloc (.cells #[.int .i64 kt, .slice TA nt ct] 40)) = W at *
  have x0 : W.cell? ⟨w.heap.size, 0, none⟩ = some (.int .i64 ks) := (hS0.cell 0).trans rfl
  have x1 : W.cell? ⟨w.heap.size, 1, none⟩ = some (.slice SA ns cs) := (hS0.cell 1).trans rfl
  have y0 : W.cell? ⟨w.heap.size + 1, 0, none⟩ = some (.int .i64 kt) := (hT0.cell 0).trans rfl
  have y1 : W.cell? ⟨w.heap.size + 1, 1, none⟩ = some (.slice TA nt ct) := (hT0.cell 1).trans rfl
  have hWs := hT0.lt
  refine wp_region_held_drew (S := fun w' => w'.cell? ⟨w.heap.size, 0, none⟩ = some (.int .i64 ks) ∧ w'.cell? ⟨w.heap.size, 1, none⟩ = some (.slice SA ns cs) ∧ w'.cell? ⟨w.heap.size + 1, 0, none⟩ = some (.int .i64 kt) ∧ w'.cell? ⟨w.heap.size + 1, 1, none⟩ = some (.slice TA nt ct)) (by kernel_rfl) ?_ (fun hHeld => ?_)
  · exact ⟨x0, x1, y0, y1⟩
  refine wpAnyH_take (i := 0) (oi := _) (v := ?_) (by simp only [List.getElem?_toArray, List.getElem?_cons_succ, List.getElem?_cons_zero]; rfl) (by kernel_rfl) (by kernel_rfl) (by kernel_rfl) (by intro _ _ _ h; exact h) (Or.inl ⟨by rfl, ?_⟩) (by assumption) ?_
  rotate_left
  · intro w hSw
    try dsimp only at hSw
    obtain ⟨e0, e1, e2, e3⟩ := hSw
    go_simp
    try with_reducible rfl
  try simp only [Act.put, List.setIfInBounds_toArray, List.set_cons_zero, List.set_cons_succ]
  refine wpAnyH_take (i := 2) (oi := _) (v := ?_) (by simp only [List.getElem?_toArray, List.getElem?_cons_succ, List.getElem?_cons_zero]; rfl) (by kernel_rfl) (by kernel_rfl) (by kernel_rfl) (by intro _ _ _ h; exact h) (Or.inl ⟨by rfl, ?_⟩) (by assumption) ?_
  rotate_left
  · intro w hSw
    try dsimp only at hSw
    obtain ⟨e0, e1, e2, e3⟩ := hSw
    go_simp
    try with_reducible rfl
  try simp only [Act.put, List.setIfInBounds_toArray, List.set_cons_zero, List.set_cons_succ]
  refine wpAnyH_ready (rs := [1]) (by kernel_rfl) (by simp) ?_
  refine AllReadyH.cons (o := _) (by simp only [List.getElem?_toArray, List.getElem?_cons_succ, List.getElem?_cons_zero]; rfl) (fun K hK => ?_) AllReadyH.nil
  go_simp
  go_wp2_with fail
  refine (symOf_any ks SA ns cs zs W.drew s0 s1 (((HRS.out.below hb0).more hb0.size).drew) (by omega)).mono ?_
  rintro e w3 ⟨V1, rfl, own1', hb3'⟩
  have hb3 : Below W.heap.size W w3 := (Below.refl _ _).drew.trans hb3'
  have hS := hS0.below hb3 (by omega)
  have hT := hT0.below hb3 (by omega)
  have hbl := bthen hb0 hb3
  rw [← es_fl, ← es_len (ks % 4)] at own1'
  have own1 : w3.ownsRow w.heap.size 45 2 V1 (es (ks % 4) zs).length (fl (es (ks % 4) zs)) := Joins.ownsRow_le own1' (by show w.heap.size ≤ W.heap.size; omega)
  have hsz3 := hT.lt
  clear x0 x1 y0 y1 own1' hb3' hb3 hS0 hT0 hb0
  have x0 : w3.cell? ⟨w.heap.size, 0, none⟩ = some (.int .i64 ks) := (hS.cell 0).trans rfl
  have x1 : w3.cell? ⟨w.heap.size, 1, none⟩ = some (.slice SA ns cs) := (hS.cell 1).trans rfl
  have y0 : w3.cell? ⟨w.heap.size + 1, 0, none⟩ = some (.int .i64 kt) := (hT.cell 0).trans rfl
  have y1 : w3.cell? ⟨w.heap.size + 1, 1, none⟩ = some (.slice TA nt ct) := (hT.cell 1).trans rfl
  refine hK.out _ _ ?_ (fun hHeld => ?_)
  · exact ⟨x0, x1, y0, y1⟩
  clear hK K
  try simp only [Act.put, List.setIfInBounds_toArray, List.set_cons_zero, List.set_cons_succ]
  refine wpAnyH_ready (rs := [3]) (by kernel_rfl) (by simp) ?_
  refine AllReadyH.cons (o := _) (by simp only [List.getElem?_toArray, List.getElem?_cons_succ, List.getElem?_cons_zero]; rfl) (fun K hK => ?_) AllReadyH.nil
  go_simp
  go_wp2_with fail
  refine (symOf_any kt TA nt ct zt w3 t0 t1 ((HRT.out.below hbl).more hbl.size) (by omega)).mono ?_
  rintro e w4 ⟨V2, rfl, own2', hb4⟩
  have hS4 := hS.below hb4 (by omega)
  have hT4 := hT.below hb4 (by omega)
  have hbl4 := bthen hbl hb4
  rw [← es_fl, ← es_len (kt % 4)] at own2'
  have own2 : w4.ownsRow w.heap.size 45 2 V2 (es (kt % 4) zt).length (fl (es (kt % 4) zt)) := Joins.ownsRow_le own2' (by omega)
  have own14 := own_kept own1 hb4
  have hsz4 := hT4.lt
  clear x0 x1 y0 y1 own2' hb4 hS hT hbl own1
  have x0 : w4.cell? ⟨w.heap.size, 0, none⟩ = some (.int .i64 ks) := (hS4.cell 0).trans rfl
  have x1 : w4.cell? ⟨w.heap.size, 1, none⟩ = some (.slice SA ns cs) := (hS4.cell 1).trans rfl
  have y0 : w4.cell? ⟨w.heap.size + 1, 0, none⟩ = some (.int .i64 kt) := (hT4.cell 0).trans rfl
  have y1 : w4.cell? ⟨w.heap.size + 1, 1, none⟩ = some (.slice TA nt ct) := (hT4.cell 1).trans rfl
  refine hK.out _ _ ?_ (fun hHeld => ?_)
  · exact ⟨x0, x1, y0, y1⟩
  clear hK K
  try simp only [Act.put, List.setIfInBounds_toArray, List.set_cons_zero, List.set_cons_succ]
  refine wpAnyH_ready (rs := [4]) (by kernel_rfl) (by simp) ?_
  refine AllReadyH.cons (o := _) (by simp only [List.getElem?_toArray, List.getElem?_cons_succ, List.getElem?_cons_zero]; rfl) (fun K hK => ?_) AllReadyH.nil
  go_simp
  refine hK.out _ _ ?_ (fun hHeld => ?_)
  · exact ⟨x0, x1, y0, y1⟩
  clear hK K
  try simp only [Act.put, List.setIfInBounds_toArray, List.set_cons_zero, List.set_cons_succ]
  refine wpAnyH_ready (rs := [5]) (by kernel_rfl) (by simp) ?_
  refine AllReadyH.cons (o := _) (by simp only [List.getElem?_toArray, List.getElem?_cons_succ, List.getElem?_cons_zero]; rfl) (fun K hK => ?_) AllReadyH.nil
  go_simp
  refine hK.out _ _ ?_ (fun hHeld => ?_)
  · exact ⟨x0, x1, y0, y1⟩
  clear hK K
  try simp only [Act.put, List.setIfInBounds_toArray, List.set_cons_zero, List.set_cons_succ]
  refine wpAnyH_done (by kernel_rfl) ?_ _
  obtain ⟨OA, oc, rfl⟩ := own_slice own14
  obtain ⟨QA, qc, rfl⟩ := own_slice own2
  have hX1 : Blk (((((w4.alloc (.cells #[.int .i64 ks, .slice SA ns cs, .int .i64 kt, .slice TA nt ct] 40)).alloc (.cells #[.int .i64 0, .int .i64 n, .int .i64 1, .int .i64 1] 43)).alloc (.cells #[.int .i64 kt, .slice TA nt ct, .int .i64 ks, .slice SA ns cs] 40)).alloc (.cells #[.int .u8 85] 5)).alloc (.cells #[.int .i64 0, .int .i64 0, .int .i64 0, .int .i64 0, .int .i64 0, .int .i64 0, .int .i64 0, .int .i64 0, .int .i64 0, .int .i64 0, .int .i64 0, .int .i64 0, .slice none 0 0, .slice none 0 0, .slice none 0 0, .slice none 0 0, .slice none 0 0, .slice none 0 0] 28)) w4.heap.size 40 #[.int .i64 ks, .slice SA ns cs, .int .i64 kt, .slice TA nt ct] := (((Blk.new w4 _ _).alloc _).alloc _).alloc _ |>.alloc _
  have hX2 : Blk (((((w4.alloc (.cells #[.int .i64 ks, .slice SA ns cs, .int .i64 kt, .slice TA nt ct] 40)).alloc (.cells #[.int .i64 0, .int .i64 n, .int .i64 1, .int .i64 1] 43)).alloc (.cells #[.int .i64 kt, .slice TA nt ct, .int .i64 ks, .slice SA ns cs] 40)).alloc (.cells #[.int .u8 85] 5)).alloc (.cells #[.int .i64 0, .int .i64 0, .int .i64 0, .int .i64 0, .int .i64 0, .int .i64 0, .int .i64 0, .int .i64 0, .int .i64 0, .int .i64 0, .int .i64 0, .int .i64 0, .slice none 0 0, .slice none 0 0, .slice none 0 0, .slice none 0 0, .slice none 0 0, .slice none 0 0] 28)) (w4.heap.size + 1) 43 #[.int .i64 0, .int .i64 n, .int .i64 1, .int .i64 1] := by
    have := (((Blk.new (w4.alloc (.cells #[.int .i64 ks, .slice SA ns cs, .int .i64 kt, .slice TA nt ct] 40)) 43 #[.int .i64 0, .int .i64 n, .int .i64 1, .int .i64 1]).alloc (.cells #[.int .i64 kt, .slice TA nt ct, .int .i64 ks, .slice SA ns cs] 40)).alloc (.cells #[.int .u8 85] 5)).alloc (.cells #[.int .i64 0, .int .i64 0, .int .i64 0, .int .i64 0, .int .i64 0, .int .i64 0, .int .i64 0, .int .i64 0, .int .i64 0, .int .i64 0, .int .i64 0, .int .i64 0, .slice none 0 0, .slice none 0 0, .slice none 0 0, .slice none 0 0, .slice none 0 0, .slice none 0 0] 28)
    simpa using this
  have hX3 : Blk (((((w4.alloc (.cells #[.int .i64 ks, .slice SA ns cs, .int .i64 kt, .slice TA nt ct] 40)).alloc (.cells #[.int .i64 0, .int .i64 n, .int .i64 1, .int .i64 1] 43)).alloc (.cells #[.int .i64 kt, .slice TA nt ct, .int .i64 ks, .slice SA ns cs] 40)).alloc (.cells #[.int .u8 85] 5)).alloc (.cells #[.int .i64 0, .int .i64 0, .int .i64 0, .int .i64 0, .int .i64 0, .int .i64 0, .int .i64 0, .int .i64 0, .int .i64 0, .int .i64 0, .int .i64 0, .int .i64 0, .slice none 0 0, .slice none 0 0, .slice none 0 0, .slice none 0 0, .slice none 0 0, .slice none 0 0] 28)) (w4.heap.size + 2) 40 #[.int .i64 kt, .slice TA nt ct, .int .i64 ks, .slice SA ns cs] := by
    have := ((Blk.new ((w4.alloc (.cells #[.int .i64 ks, .slice SA ns cs, .int .i64 kt, .slice TA nt ct] 40)).alloc (.cells #[.int .i64 0, .int .i64 n, .int .i64 1, .int .i64 1] 43)) 40 #[.int .i64 kt, .slice TA nt ct, .int .i64 ks, .slice SA ns cs]).alloc (.cells #[.int .u8 85] 5)).alloc (.cells #[.int .i64 0, .int .i64 0, .int .i64 0, .int .i64 0, .int .i64 0, .int .i64 0, .int .i64 0, .int .i64 0, .int .i64 0, .int .i64 0, .int .i64 0, .int .i64 0, .slice none 0 0, .slice none 0 0, .slice none 0 0, .slice none 0 0, .slice none 0 0, .slice none 0 0] 28)
    simpa using this
  have hX4 : Blk (((((w4.alloc (.cells #[.int .i64 ks, .slice SA ns cs, .int .i64 kt, .slice TA nt ct] 40)).alloc (.cells #[.int .i64 0, .int .i64 n, .int .i64 1, .int .i64 1] 43)).alloc (.cells #[.int .i64 kt, .slice TA nt ct, .int .i64 ks, .slice SA ns cs] 40)).alloc (.cells #[.int .u8 85] 5)).alloc (.cells #[.int .i64 0, .int .i64 0, .int .i64 0, .int .i64 0, .int .i64 0, .int .i64 0, .int .i64 0, .int .i64 0, .int .i64 0, .int .i64 0, .int .i64 0, .int .i64 0, .slice none 0 0, .slice none 0 0, .slice none 0 0, .slice none 0 0, .slice none 0 0, .slice none 0 0] 28)) (w4.heap.size + 3) 5 #[.int .u8 85] := by
    have := (Blk.new (((w4.alloc (.cells #[.int .i64 ks, .slice SA ns cs, .int .i64 kt, .slice TA nt ct] 40)).alloc (.cells #[.int .i64 0, .int .i64 n, .int .i64 1, .int .i64 1] 43)).alloc (.cells #[.int .i64 kt, .slice TA nt ct, .int .i64 ks, .slice SA ns cs] 40)) 5 #[.int .u8 85]).alloc (.cells #[.int .i64 0, .int .i64 0, .int .i64 0, .int .i64 0, .int .i64 0, .int .i64 0, .int .i64 0, .int .i64 0, .int .i64 0, .int .i64 0, .int .i64 0, .int .i64 0, .slice none 0 0, .slice none 0 0, .slice none 0 0, .slice none 0 0, .slice none 0 0, .slice none 0 0] 28)
    simpa using this
  have hX5 : Blk (((((w4.alloc (.cells #[.int .i64 ks, .slice SA ns cs, .int .i64 kt, .slice TA nt ct] 40)).alloc (.cells #[.int .i64 0, .int .i64 n, .int .i64 1, .int .i64 1] 43)).alloc (.cells #[.int .i64 kt, .slice TA nt ct, .int .i64 ks, .slice SA ns cs] 40)).alloc (.cells #[.int .u8 85] 5)).alloc (.cells #[.int .i64 0, .int .i64 0, .int .i64 0, .int .i64 0, .int .i64 0, .int .i64 0, .int .i64 0, .int .i64 0, .int .i64 0, .int .i64 0, .int .i64 0, .int .i64 0, .slice none 0 0, .slice none 0 0, .slice none 0 0, .slice none 0 0, .slice none 0 0, .slice none 0 0] 28)) (w4.heap.size + 4) 28 #[.int .i64 0, .int .i64 0, .int .i64 0, .int .i64 0, .int .i64 0, .int .i64 0, .int .i64 0, .int .i64 0, .int .i64 0, .int .i64 0, .int .i64 0, .int .i64 0, .slice none 0 0, .slice none 0 0, .slice none 0 0, .slice none 0 0, .slice none 0 0, .slice none 0 0] := by
    have := Blk.new ((((w4.alloc (.cells #[.int .i64 ks, .slice SA ns cs, .int .i64 kt, .slice TA nt ct] 40)).alloc (.cells #[.int .i64 0, .int .i64 n, .int .i64 1, .int .i64 1] 43)).alloc (.cells #[.int .i64 kt, .slice TA nt ct, .int .i64 ks, .slice SA ns cs] 40)).alloc (.cells #[.int .u8 85] 5)) 28 #[.int .i64 0, .int .i64 0, .int .i64 0, .int .i64 0, .int .i64 0, .int .i64 0, .int .i64 0, .int .i64 0, .int .i64 0, .int .i64 0, .int .i64 0, .int .i64 0, .slice none 0 0, .slice none 0 0, .slice none 0 0, .slice none 0 0, .slice none 0 0, .slice none 0 0]
    simpa using this
  have hbB : Below w4.heap.size w4 (((((w4.alloc (.cells #[.int .i64 ks, .slice SA ns cs, .int .i64 kt, .slice TA nt ct] 40)).alloc (.cells #[.int .i64 0, .int .i64 n, .int .i64 1, .int .i64 1] 43)).alloc (.cells #[.int .i64 kt, .slice TA nt ct, .int .i64 ks, .slice SA ns cs] 40)).alloc (.cells #[.int .u8 85] 5)).alloc (.cells #[.int .i64 0, .int .i64 0, .int .i64 0, .int .i64 0, .int .i64 0, .int .i64 0, .int .i64 0, .int .i64 0, .int .i64 0, .int .i64 0, .int .i64 0, .int .i64 0, .slice none 0 0, .slice none 0 0, .slice none 0 0, .slice none 0 0, .slice none 0 0, .slice none 0 0] 28)) := (((((Below.refl _ _).alloc (Nat.le_refl _) _).alloc (by simp) _).alloc (by simp; omega) _).alloc (by simp; omega) _).alloc (by simp; omega) _
  have ownA := own_kept own14 hbB
  have ownQ := own_kept own2 hbB
  have hbw := bthen hbl4 hbB
  have HNA := Lib.hid (own_neq (k := 4) own14)
  have HNQ := Lib.hid (own_neq (k := 4) own2)
  have HB := Lib.hid (And.intro hX1 (And.intro hX2 (And.intro hX3 (And.intro hX4 (And.intro ownA (And.intro ownQ hbw))))))
  clear hX1 hX2 hX3 hX4 ownA ownQ hbw hbB own14 own2 hbl4 hS4 hT4
  have z0 : ∀ o, (w4.alloc o).cell? ⟨w.heap.size, 0, none⟩ = some (.int .i64 ks) := fun o => (World.cell?_alloc_lt _ _ _ (by show w.heap.size < _; omega)).trans x0
  have z1 : ∀ o, (w4.alloc o).cell? ⟨w.heap.size, 1, none⟩ = some (.slice SA ns cs) := fun o => (World.cell?_alloc_lt _ _ _ (by show w.heap.size < _; omega)).trans x1
  have v0 : ∀ o o', ((w4.alloc o).alloc o').cell? ⟨w.heap.size, 0, none⟩ = some (.int .i64 ks) := fun o o' => (World.cell?_alloc_lt _ _ _ (by show w.heap.size < _; simp; omega)).trans (z0 o)
  have v1 : ∀ o o', ((w4.alloc o).alloc o').cell? ⟨w.heap.size, 1, none⟩ = some (.slice SA ns cs) := fun o o' => (World.cell?_alloc_lt _ _ _ (by show w.heap.size < _; simp; omega)).trans (z1 o)
  have q0 : ∀ o o', ((w4.alloc o).alloc o').cell? ⟨w.heap.size + 1, 0, none⟩ = some (.int .i64 kt) := fun o o' => (World.cell?_alloc_lt _ _ _ (by show w.heap.size + 1 < _; simp; omega)).trans ((World.cell?_alloc_lt _ _ _ (by show w.heap.size + 1 < _; omega)).trans y0)
  have q1 : ∀ o o', ((w4.alloc o).alloc o').cell? ⟨w.heap.size + 1, 1, none⟩ = some (.slice TA nt ct) := fun o o' => (World.cell?_alloc_lt _ _ _ (by show w.heap.size + 1 < _; simp; omega)).trans ((World.cell?_alloc_lt _ _ _ (by show w.heap.size + 1 < _; omega)).trans y1)
  go_wp2_with (first
    | (refine wpList_store_box rfl 28 _ _ rfl (w4.heap.size + 4) #[.int .i64 25, .int .i64 0, .int .i64 0, .int .i64 0, .int .i64 0, .int .i64 0, .int .i64 0, .int .i64 0, .int .i64 8, .int .i64 0, .int .i64 0, .int .i64 0, .slice (some ⟨w4.heap.size + 3, 0, none⟩) 1 1, .slice none 0 0, .slice none 0 0, .slice (some ⟨w4.heap.size, 0, none⟩) 2 2, .slice (some ⟨w4.heap.size + 2, 0, none⟩) 2 2, .slice (some ⟨w4.heap.size + 1, 0, none⟩) 2 2] rfl rfl 28 #[.int .i64 0, .int .i64 0, .int .i64 0, .int .i64 0, .int .i64 0, .int .i64 0, .int .i64 0, .int .i64 0, .int .i64 0, .int .i64 0, .int .i64 0, .int .i64 0, .slice none 0 0, .slice none 0 0, .slice none 0 0, .slice none 0 0, .slice none 0 0, .slice none 0 0] hX5 blkInfo rfl (by simp [Value.oneCell']) ?_)
    | fail)
  intro w5 hY5 hg5
  clear x0 x1 y0 y1 z0 z1 v0 v1 q0 q1 hX5
  obtain ⟨hX1, hX2, hX3, hX4, ownA, ownQ, hbw⟩ := HB.out
  have hU1 := hX1.grown hg5 (fun e => by injection e with e; omega)
  have hU2 := hX2.grown hg5 (fun e => by injection e with e; omega)
  have hU3 := hX3.grown hg5 (fun e => by injection e with e; omega)
  have hU4 := hX4.grown hg5 (fun e => by injection e with e; omega)
  have hw4s : w4.heap.size + 4 < w5.heap.size := hY5.lt
  have hb5 := hbw.grown hg5 hbw.size (fun j hj => by injection hj with hj; omega)
  have ownA5 := ownA.kept hg5 (HNA.out)
  have ownQ5 := ownQ.kept hg5 (HNQ.out)
  have hex := expand_any w5 w4.heap.size (w4.heap.size + 1) (w4.heap.size + 2) (w4.heap.size + 3) n ks kt SA TA ns cs nt ct zs zt hU1 hU2 hU3 hU4 ((HRS.out.below hb5).more hb5.size) ((HRT.out.below hb5).more hb5.size) hns hnt s0 s1 t0 t1 hn1
  have H5 := Lib.hid (And.intro ownA5 (And.intro ownQ5 hb5))
  clear hX1 hX2 hX3 hX4 ownA ownQ hbw hU1 hU2 hU3 hU4 hb5 ownA5 ownQ5 HB hg5
  go_wp2_with (first
    | (refine wpList_load_box rfl 28 _ rfl (w4.heap.size + 4) rfl 28 #[.int .i64 25, .int .i64 0, .int .i64 0, .int .i64 0, .int .i64 0, .int .i64 0, .int .i64 0, .int .i64 0, .int .i64 8, .int .i64 0, .int .i64 0, .int .i64 0, .slice (some ⟨w4.heap.size + 3, 0, none⟩) 1 1, .slice none 0 0, .slice none 0 0, .slice (some ⟨w4.heap.size, 0, none⟩) 2 2, .slice (some ⟨w4.heap.size + 2, 0, none⟩) 2 2, .slice (some ⟨w4.heap.size + 1, 0, none⟩) 2 2] hY5 _ Try.underlying28 rfl blkInfo ?_)
    | fail)
  try (refine fun (_ : Hid _) => ?_)
  clear hY5
  first
    | (refine hex.mono ?_)
    | (go_wp2_with fail; refine hex.mono ?_)
  rintro e w6 ⟨V6, LL, rfl, hL, own6, hb6⟩
  clear hex
  obtain ⟨ownA5, ownQ5, hb5⟩ := H5.out
  have own16 := own_kept ownA5 hb6
  have own26 := own_kept ownQ5 hb6
  have hbl6 := bthen hb5 hb6
  have hLn := L_len hL
  obtain ⟨LA, lc, rfl⟩ := own_slice own6
  obtain ⟨M, hM⟩ : ∃ M, M = n.toNat := ⟨_, rfl⟩
  rw [← hM] at hL hLn
  have hM1 : M ≤ 1000 := by omega
  have HM := Lib.hid hM
  clear hM
  generalize es (ks % 4) zs = one at *
  generalize es (kt % 4) zt = two at *
  have HL := Lib.hid (And.intro hL (And.intro own6 (And.intro own16 (And.intro own26 hbl6))))
  clear hL own6 own16 own26 hbl6 ownA5 ownQ5 hb5 hb6 H5
  generalize hNL : LL.length = NL at *
  generalize hN1 : one.length = K1 at *
  generalize hN2 : two.length = K2 at *
  have HN := Lib.hid (And.intro hNL (And.intro hN1 hN2))
  have HLn := Lib.hid hLn
  clear hNL hN1 hN2 hLn
  go_upto_region 6 with fail
  go_cut [12] from 55 to 56 (fun x wx => x = .int .i64 (M : Int) ∧ w6 = wx)
  case first =>
    by_cases hneg : n < 0
    · have HM0 := Lib.hid (show (M : Int) = 0 by have := HM.out; omega)
      have hle' : n ≤ 0 := by omega
      go_wp2_with fail
      all_goals go_meet
      all_goals exact ⟨by first | (rw [HM0.out]; done) | (rw [HM0.out]; rfl), rfl⟩
    · obtain ⟨n', hn'⟩ : ∃ n' : Nat, n = n' := ⟨n.toNat, by omega⟩
      have HMn := Lib.hid (show (M : Int) = (n' : Int) by have := HM.out; omega)
      subst hn'
      by_cases h0 : n' = 0
      · subst h0
        go_wp2_with fail
        all_goals go_meet
        all_goals exact ⟨by first | (rw [HMn.out]; done) | (rw [HMn.out]; rfl), rfl⟩
      · have hpos : (0 : Int) < (n' : Int) := by omega
        have hnl : ¬ (n' : Int) < 0 := by omega
        have hnl' : ¬ (n' : Int) ≤ 0 := by omega
        go_wp2_with fail
        all_goals go_meet
        all_goals exact ⟨by first | (rw [HMn.out]; done) | (rw [HMn.out]; rfl), rfl⟩
  case rest =>
    obtain ⟨rfl, rfl⟩ := hcut
    have hLn := HLn.out
    have hPm : M * K1 ≤ 1000 * 100 := Nat.mul_le_mul hM1 hK1
    obtain ⟨P, hP⟩ : ∃ P, P = M * K1 := ⟨_, rfl⟩
    obtain ⟨Q, hQ⟩ : ∃ Q, Q = P + K2 := ⟨_, rfl⟩
    obtain ⟨R, hR⟩ : ∃ R, R = K1 + K2 := ⟨_, rfl⟩
    obtain ⟨T, hT⟩ : ∃ T, T = 4 * R := ⟨_, rfl⟩
    rw [← hP] at hPm
    have hcast : (M : Int) * (K1 : Int) = (P : Int) := by rw [hP]; exact (Int.natCast_mul _ _).symm
    have hw1 : IntKind.i64.wrap ((M : Int) * (K1 : Int)) = (P : Int) := by rw [hcast, IntKind.wrap_i64]; omega
    have hw2 : IntKind.i64.wrap ((P : Int) + (K2 : Int)) = (Q : Int) := by rw [IntKind.wrap_i64]; omega
    have hw3 : IntKind.i64.wrap ((K1 : Int) + (K2 : Int)) = (R : Int) := by rw [IntKind.wrap_i64]; omega
    have hw4 : IntKind.i64.wrap (4 * (R : Int)) = (T : Int) := by rw [IntKind.wrap_i64]; omega
    have hw5 : IntKind.i64.wrap ((Q : Int) + (T : Int)) = (NL : Int) := by rw [IntKind.wrap_i64, hLn, ← hP]; omega
    have HEQ := Lib.hid eqE
    have HQ := Lib.hid (And.intro hP (And.intro hQ (And.intro hR (And.intro hT hLn))))
    have hQb : Q ≤ 200000 := by omega
    have hRb : R ≤ 200 := by omega
    have hNLb : NL ≤ 400000 := by omega
    clear hcast hP hQ hR hT hLn HLn
    go_wp2_with fail
    go_loopw [13] (fun x wr => ∃ i : Nat, i ≤ P ∧ x = .int .i64 i ∧ Below w6.heap.size w6 wr) (fun x _ => P + 1 - (intOf x).toNat)
    case atStart => exact ⟨0, by omega, rfl, Below.refl _ _⟩
    case round =>
      obtain ⟨i, hi, rfl, hbr⟩ := hrel
      by_cases hlt : i < P
      · have hiI : (i : Int) < (P : Int) := by omega
        obtain ⟨hL, own6, own1, own2, hbl⟩ := HL.out
        have hiN : i < NL := by have := HQ.out; omega
        have hK0 : 0 < K1 := by
          rcases Nat.eq_zero_or_pos K1 with e | e
          · have := HQ.out.1; rw [e] at this; omega
          · exact e
        obtain ⟨q, hq⟩ : ∃ q, q = i % K1 := ⟨_, rfl⟩
        have hqK : q < K1 := by rw [hq]; exact Nat.mod_lt _ hK0
        obtain ⟨p, hp⟩ := two_cases (l := one) (i := q) (by rw [HN.out.2.1]; exact hqK)
        have hpL : LL[i]? = some p := by
          rw [L_one hL (by rw [HN.out.2.1, ← HQ.out.1]; exact hlt), HN.out.2.1, ← hq]
          exact hp
        obtain ⟨ga, ea, a0, a1⟩ := edge_cells (own_kept own6 hbr) hiN hpL
        obtain ⟨gb, eb, b0, b1⟩ := edge_cells (own_kept own1 hbr) hqK hp
        subst ea eb
        have hrem : (i : Int).tmod (K1 : Int) = (q : Int) := by rw [hq]; rfl
        have hK0I : ¬ (K1 : Int) = 0 := by omega
        have hK0E : ((K1 : Int) == 0) = false := by simpa using hK0I
        have hqI : (q : Int) < (K1 : Int) := by omega
        have hq0 : (0 : Int) ≤ (q : Int) := Int.natCast_nonneg _
        have hi0 : (0 : Int) ≤ (i : Int) := Int.natCast_nonneg _
        have hiNI : (i : Int) < (NL : Int) := by omega
        have hwr : IntKind.i64.wrap (q : Int) = (q : Int) := by rw [IntKind.wrap_i64]; omega
        obtain ⟨p1, p2⟩ := p
        simp only at a0 a1 b0 b1
        have heq := fun w' => HEQ.out w' p1 p2
        have HB := Lib.hid hbr
        clear hL own6 own1 own2 hbl hq hp hpL hbr
        go_wp2_with fail
        go_region
        go_wp2
        go_roundw
        case rel => exact ⟨i + 1, by omega, by go_num, HB.out.drew⟩
        case measure => simp [intOf]; omega
      · obtain rfl : P = i := by omega
        have hiI : ¬ (P : Int) < (P : Int) := by omega
        clear hi hlt
        have HB1 := Lib.hid hbr
        clear hbr
        go_wp2_with fail
        go_loopw [15] (fun x wr => ∃ j : Nat, j ≤ K2 ∧ x = .int .i64 j ∧ Below w6.heap.size w6 wr) (fun x _ => K2 + 1 - (intOf x).toNat)
        case atStart => exact ⟨0, by omega, rfl, HB1.out⟩
        case round =>
          obtain ⟨j, hj, rfl, hbr⟩ := hrel
          by_cases hlt : j < K2
          · have hjI : (j : Int) < (K2 : Int) := by omega
            obtain ⟨hL, own6, own1, own2, hbl⟩ := HL.out
            obtain ⟨p, hp⟩ := two_cases (l := two) (i := j) (by rw [HN.out.2.2]; exact hlt)
            obtain ⟨r, hr⟩ : ∃ r, r = P + j := ⟨_, rfl⟩
            have hrN : r < NL := by have := HQ.out; omega
            have hpL : LL[r]? = some p := by
              rw [hr]
              have h := L_two (j := j) hL (by rw [HN.out.2.2]; exact hlt)
              rw [HN.out.2.1, ← HQ.out.1] at h
              rw [h]
              exact hp
            obtain ⟨ga, ea, a0, a1⟩ := edge_cells (own_kept own6 hbr) hrN hpL
            obtain ⟨gb, eb, b0, b1⟩ := edge_cells (own_kept own2 hbr) hlt hp
            subst ea eb
            have hrI : (r : Int) < (NL : Int) := by omega
            have hr0 : (0 : Int) ≤ (r : Int) := Int.natCast_nonneg _
            have hj0 : (0 : Int) ≤ (j : Int) := Int.natCast_nonneg _
            have hwr : IntKind.i64.wrap ((P : Int) + (j : Int)) = (r : Int) := by rw [IntKind.wrap_i64]; omega
            obtain ⟨p1, p2⟩ := p
            simp only at a0 a1 b0 b1
            have heq := fun w' => HEQ.out w' p1 p2
            have HB := Lib.hid hbr
            clear hL own6 own1 own2 hbl hp hpL hbr hr
            go_wp2_with fail
            go_region
            go_wp2
            go_roundw
            case rel => exact ⟨j + 1, by omega, by go_num, HB.out.drew⟩
            case measure => simp [intOf]; omega
          · obtain rfl : K2 = j := by omega
            have hjI : ¬ (K2 : Int) < (K2 : Int) := by omega
            clear hj hlt
            have HB2 := Lib.hid hbr
            clear hbr
            go_wp2_with fail
            go_loopw [14, 16] (fun x y wr => ∃ i a : Nat, i ≤ 4 ∧ y = .int .i64 i ∧ x = .int .i64 a ∧ Hid (a = Q + i * R) ∧ Below w6.heap.size w6 wr) (fun _ y _ => 5 - (intOf y).toNat)
            case atStart => exact ⟨0, Q, by omega, rfl, rfl, Lib.hid (by omega), HB2.out⟩
            case round =>
              obtain ⟨i, a, hi4, rfl, rfl, HA, hbr⟩ := hrel
              by_cases hlt3 : i < 4
              · have hiI3 : (i : Int) < 4 := by omega
                have HIR := Lib.hid (show i * R ≤ 3 * R from Nat.mul_le_mul_right _ (by omega))
                have HB3 := Lib.hid hbr
                clear hbr
                go_wp2_with fail
                go_loopw [17] (fun x wr => ∃ j : Nat, j ≤ K2 ∧ x = .int .i64 j ∧ Below w6.heap.size w6 wr) (fun x _ => K2 + 1 - (intOf x).toNat)
                case atStart => exact ⟨0, by omega, rfl, HB3.out⟩
                case round =>
                  obtain ⟨j, hj, rfl, hbr⟩ := hrel
                  by_cases hlt : j < K2
                  · have hjI : (j : Int) < (K2 : Int) := by omega
                    obtain ⟨hL, own6, own1, own2, hbl⟩ := HL.out
                    obtain ⟨p, hp⟩ := two_cases (l := two) (i := j) (by rw [HN.out.2.2]; exact hlt)
                    obtain ⟨r, hr⟩ : ∃ r, r = a + j := ⟨_, rfl⟩
                    have hrN : r < NL := by have := HQ.out; have := HA.out; have := HIR.out; omega
                    have hpL : LL[r]? = some p := by
                      rw [hr, HA.out]
                      have h := L_turn (i := i) (j := j) hL hlt3 (by rw [HN.out.2.2]; exact hlt)
                      rw [HN.out.2.1, HN.out.2.2] at h
                      rw [show Q + i * R + j = M * K1 + K2 + i * (K1 + K2) + j by rw [HQ.out.2.1, HQ.out.2.2.1, HQ.out.1], h]
                      exact hp
                    obtain ⟨ga, ea, a0, a1⟩ := edge_cells (own_kept own6 hbr) hrN hpL
                    obtain ⟨gb, eb, b0, b1⟩ := edge_cells (own_kept own2 hbr) hlt hp
                    subst ea eb
                    have hrI : (r : Int) < (NL : Int) := by omega
                    have hr0 : (0 : Int) ≤ (r : Int) := Int.natCast_nonneg _
                    have hj0 : (0 : Int) ≤ (j : Int) := Int.natCast_nonneg _
                    have hwr : IntKind.i64.wrap ((a : Int) + (j : Int)) = (r : Int) := by rw [IntKind.wrap_i64]; omega
                    obtain ⟨p1, p2⟩ := p
                    simp only at a0 a1 b0 b1
                    have heq := fun w' => HEQ.out w' p1 p2
                    have HB := Lib.hid hbr
                    clear hL own6 own1 own2 hbl hp hpL hbr hr
                    go_wp2_with fail
                    go_region
                    go_wp2
                    go_roundw
                    case rel => exact ⟨j + 1, by omega, by go_num, HB.out.drew⟩
                    case measure => simp [intOf]; omega
                  · obtain rfl : K2 = j := by omega
                    have hjI : ¬ (K2 : Int) < (K2 : Int) := by omega
                    clear hj hlt
                    obtain ⟨a2, ha2⟩ : ∃ a2, a2 = a + K2 := ⟨_, rfl⟩
                    have hw6 : IntKind.i64.wrap ((a : Int) + (K2 : Int)) = (a2 : Int) := by rw [IntKind.wrap_i64]; have := HA.out; have := HIR.out; omega
                    have HA2 := Lib.hid ha2
                    clear ha2
                    have HB4 := Lib.hid hbr
                    clear hbr
                    go_wp2_with fail
                    go_loopw [18] (fun x wr => ∃ j : Nat, j ≤ K1 ∧ x = .int .i64 j ∧ Below w6.heap.size w6 wr) (fun x _ => K1 + 1 - (intOf x).toNat)
                    case atStart => exact ⟨0, by omega, rfl, HB4.out⟩
                    case round =>
                      obtain ⟨j, hj, rfl, hbr⟩ := hrel
                      by_cases hlt : j < K1
                      · have hjI : (j : Int) < (K1 : Int) := by omega
                        obtain ⟨hL, own6, own1, own2, hbl⟩ := HL.out
                        obtain ⟨p, hp⟩ := two_cases (l := one) (i := j) (by rw [HN.out.2.1]; exact hlt)
                        obtain ⟨r, hr⟩ : ∃ r, r = a2 + j := ⟨_, rfl⟩
                        have hrN : r < NL := by have := HQ.out; have := HA.out; have := HIR.out; have := HA2.out; omega
                        have hpL : LL[r]? = some p := by
                          rw [hr, HA2.out, HA.out]
                          have h := L_back (i := i) (j := j) hL hlt3 (by rw [HN.out.2.1]; exact hlt)
                          rw [HN.out.2.1, HN.out.2.2] at h
                          rw [show Q + i * R + K2 + j = M * K1 + K2 + i * (K1 + K2) + K2 + j by rw [HQ.out.2.1, HQ.out.2.2.1, HQ.out.1], h]
                          exact hp
                        obtain ⟨ga, ea, a0, a1⟩ := edge_cells (own_kept own6 hbr) hrN hpL
                        obtain ⟨gb, eb, b0, b1⟩ := edge_cells (own_kept own1 hbr) hlt hp
                        subst ea eb
                        have hrI : (r : Int) < (NL : Int) := by omega
                        have hr0 : (0 : Int) ≤ (r : Int) := Int.natCast_nonneg _
                        have hj0 : (0 : Int) ≤ (j : Int) := Int.natCast_nonneg _
                        have hwr : IntKind.i64.wrap ((a2 : Int) + (j : Int)) = (r : Int) := by rw [IntKind.wrap_i64]; omega
                        obtain ⟨p1, p2⟩ := p
                        simp only at a0 a1 b0 b1
                        have heq := fun w' => HEQ.out w' p1 p2
                        have HB := Lib.hid hbr
                        clear hL own6 own1 own2 hbl hp hpL hbr hr
                        go_wp2_with fail
                        go_region
                        go_wp2
                        go_roundw
                        case rel => exact ⟨j + 1, by omega, by go_num, HB.out.drew⟩
                        case measure => simp [intOf]; omega
                      · obtain rfl : K1 = j := by omega
                        have hjI : ¬ (K1 : Int) < (K1 : Int) := by omega
                        clear hj hlt
                        obtain ⟨a3, ha3⟩ : ∃ a3, a3 = a2 + K1 := ⟨_, rfl⟩
                        have hw7 : IntKind.i64.wrap ((a2 : Int) + (K1 : Int)) = (a3 : Int) := by rw [IntKind.wrap_i64]; have := HA2.out; have := HA.out; have := HIR.out; omega
                        have HA3 := Lib.hid (show a3 = Q + (i + 1) * R by rw [ha3, HA2.out, HA.out, Nat.succ_mul]; have := HQ.out; omega)
                        clear ha3
                        have HB := Lib.hid hbr
                        clear hbr
                        go_wp2
                        go_roundw
                        case rel => exact ⟨i + 1, a3, by omega, by go_num, rfl, HA3, HB.out⟩
                        case measure => simp [intOf]; omega
              · have hiI3 : ¬ (i : Int) < 4 := by omega
                have HB3 := Lib.hid hbr
                clear hbr
                go_wp2_with fail
                refine (lives22 _).mono ?_
                rintro e w9 ⟨rfl, hb9⟩
                go_wp2
                go_ret
                exact ⟨rfl, bthen (bthen HL.out.2.2.2.2 HB3.out) hb9⟩

end Go.Proofs.Ythmmoogfngohaaa
