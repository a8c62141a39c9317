/- Contracts of layer 27: norm.Find: the walk find_non. -/
import Derived.Test.YtckgmnlmimogjaaNorm5
import Derived.Laws.StructEq
import Derived.Deep.RegionHeld3
import Derived.Deep.CutRange
namespace Go.Proofs.Ytckgmnlmimogjaa
open Go.RowKit

set_option maxRecDepth 100000 in
set_option maxHeartbeats 16000000 in
theorem find_non (w : World) (A : Option Addr) (N c : Nat) (zs : List Int) (a : Nat) (p s1 s2 z o tol : Int) (hr : Reads w w.heap.size 1 A N (zs.map (Value.int .u32))) (hz : isU32 zs) (hN : N ≤ 5000) (hat : a < zs.length) (Hm : mayB p s1 s2 z o tol = true) (H256 : ¬ runN zs a p tol < 256) (Hs1 : nr zs (a + runN zs a p tol) s1 tol = true) (Hs2 : nr zs (a + runN zs a p tol + 1) s2 tol = true) (hst : stdB p s1 s2 z o = false) :
    Calls Try.prog 8 #[.slice A N c, .int .i64 a, .agg #[.int .i64 p, .int .i64 s1, .int .i64 s2, .int .i64 z, .int .i64 o], .int .i64 tol] w fun e w' => Below w.heap.size w w' ∧ Found w w' e zs a p s1 s2 z o tol := by
  have hl := reads_len hr
  have hb0 : Below w.heap.size w ((w.alloc (.cells #[.int .i64 p, .int .i64 s1, .int .i64 s2, .int .i64 z, .int .i64 o] 36)).alloc (.cells #[.int .i64 0, .int .i64 0, .int .i64 0, .int .i64 0, .int .i64 0, .int .i64 0, .int .i64 0, .int .i64 0, .int .i64 0, .int .i64 0, .int .i64 0, .int .i64 0, .slice none 0 0, .slice none 0 0, .slice none 0 0, .slice none 0 0, .slice none 0 0, .slice none 0 0] 33)) := ((Below.refl _ _).alloc (Nat.le_refl _) _).alloc (by simp) _
  have hT0 : Blk ((w.alloc (.cells #[.int .i64 p, .int .i64 s1, .int .i64 s2, .int .i64 z, .int .i64 o] 36)).alloc (.cells #[.int .i64 0, .int .i64 0, .int .i64 0, .int .i64 0, .int .i64 0, .int .i64 0, .int .i64 0, .int .i64 0, .int .i64 0, .int .i64 0, .int .i64 0, .int .i64 0, .slice none 0 0, .slice none 0 0, .slice none 0 0, .slice none 0 0, .slice none 0 0, .slice none 0 0] 33)) w.heap.size 36 #[.int .i64 p, .int .i64 s1, .int .i64 s2, .int .i64 z, .int .i64 o] := Blk.alloc (Blk.new w _ _) _
  have hR0 : Blk ((w.alloc (.cells #[.int .i64 p, .int .i64 s1, .int .i64 s2, .int .i64 z, .int .i64 o] 36)).alloc (.cells #[.int .i64 0, .int .i64 0, .int .i64 0, .int .i64 0, .int .i64 0, .int .i64 0, .int .i64 0, .int .i64 0, .int .i64 0, .int .i64 0, .int .i64 0, .int .i64 0, .slice none 0 0, .slice none 0 0, .slice none 0 0, .slice none 0 0, .slice none 0 0, .slice none 0 0] 33)) (w.heap.size + 1) 33 #[.int .i64 0, .int .i64 0, .int .i64 0, .int .i64 0, .int .i64 0, .int .i64 0, .int .i64 0, .int .i64 0, .int .i64 0, .int .i64 0, .int .i64 0, .int .i64 0, .slice none 0 0, .slice none 0 0, .slice none 0 0, .slice none 0 0, .slice none 0 0, .slice none 0 0] := by
    have := Blk.new (w.alloc (.cells #[.int .i64 p, .int .i64 s1, .int .i64 s2, .int .i64 z, .int .i64 o] 36)) 33 #[.int .i64 0, .int .i64 0, .int .i64 0, .int .i64 0, .int .i64 0, .int .i64 0, .int .i64 0, .int .i64 0, .int .i64 0, .int .i64 0, .int .i64 0, .int .i64 0, .slice none 0 0, .slice none 0 0, .slice none 0 0, .slice none 0 0, .slice none 0 0, .slice none 0 0]
    simpa using this
  have hge : ¬ N ≤ a := by omega
  have ha0 : (0 : Int) ≤ (a : Int) := Int.natCast_nonneg _
  have hgI : ¬ (N : Int) ≤ (a : Int) := by omega
  have ht0 : (w.alloc (.cells #[.int .i64 p, .int .i64 s1, .int .i64 s2, .int .i64 z, .int .i64 o] 36)).heap.size = w.heap.size + 1 := by simp
  go_enter Try.func8, Try.ntmps8
  go_wp2_with fail
  refine (may_any _ p s1 s2 z o tol).mono ?_
  rintro e w1 ⟨rfl, hb1⟩
  have hT1 := hT0.below hb1 (by simp; omega)
  have hR1 := hR0.below hb1 (by simp)
  have hbl1 := bthen hb0 hb1
  clear hT0 hR0 hb0 hb1
  have hm := Hm
  rw [hm]
  obtain ⟨⟨p0, p1⟩, ⟨s10, s11⟩, ⟨s20, s21⟩, ⟨z0, z1⟩, ⟨o0, o1⟩, ⟨t0, t1⟩⟩ := may_in hm
  have hF2 : Fd (w1.alloc (.cells #[.slice A N c, .int .i64 a, .int .i64 tol] 66)) w1.heap.size A N c a tol := Blk.new w1 _ _
  have hT2 : Blk (w1.alloc (.cells #[.slice A N c, .int .i64 a, .int .i64 tol] 66)) w.heap.size 36 #[.int .i64 p, .int .i64 s1, .int .i64 s2, .int .i64 z, .int .i64 o] := hT1.alloc _
  have hR2 : Blk (w1.alloc (.cells #[.slice A N c, .int .i64 a, .int .i64 tol] 66)) (w.heap.size + 1) 33 #[.int .i64 0, .int .i64 0, .int .i64 0, .int .i64 0, .int .i64 0, .int .i64 0, .int .i64 0, .int .i64 0, .int .i64 0, .int .i64 0, .int .i64 0, .int .i64 0, .slice none 0 0, .slice none 0 0, .slice none 0 0, .slice none 0 0, .slice none 0 0, .slice none 0 0] := hR1.alloc _
  have hb2 : Below w.heap.size w (w1.alloc (.cells #[.slice A N c, .int .i64 a, .int .i64 tol] 66)) := hbl1.alloc hbl1.size _
  have hg1 := hR1.lt
  have kc0 : (w1.alloc (.cells #[.slice A N c, .int .i64 a, .int .i64 tol] 66)).cell? ⟨w.heap.size, 0, none⟩ = some (.int .i64 p) := (hT2.cell 0).trans rfl
  have kc1 : (w1.alloc (.cells #[.slice A N c, .int .i64 a, .int .i64 tol] 66)).cell? ⟨w.heap.size, 1, none⟩ = some (.int .i64 s1) := (hT2.cell 1).trans rfl
  have kc2 : (w1.alloc (.cells #[.slice A N c, .int .i64 a, .int .i64 tol] 66)).cell? ⟨w.heap.size, 2, none⟩ = some (.int .i64 s2) := (hT2.cell 2).trans rfl
  have kc3 : (w1.alloc (.cells #[.slice A N c, .int .i64 a, .int .i64 tol] 66)).cell? ⟨w.heap.size, 3, none⟩ = some (.int .i64 z) := (hT2.cell 3).trans rfl
  have kc4 : (w1.alloc (.cells #[.slice A N c, .int .i64 a, .int .i64 tol] 66)).cell? ⟨w.heap.size, 4, none⟩ = some (.int .i64 o) := (hT2.cell 4).trans rfl
  go_wp2_with fail
  have hg2 : w1.heap.size < (w1.alloc (.cells #[.slice A N c, .int .i64 a, .int .i64 tol] 66)).heap.size := by simp
  generalize (w1.alloc (.cells #[.slice A N c, .int .i64 a, .int .i64 tol] 66)) = W2 at *
  generalize w1.heap.size = g at *
  clear kc0 kc1 kc2 kc3 kc4 hT1 hR1 hbl1
  have HK := Lib.hid (show ∀ wk : World, W2.grownBy wk (some g) → Blk wk w.heap.size 36 #[.int .i64 p, .int .i64 s1, .int .i64 s2, .int .i64 z, .int .i64 o] ∧ Blk wk (w.heap.size + 1) 33 #[.int .i64 0, .int .i64 0, .int .i64 0, .int .i64 0, .int .i64 0, .int .i64 0, .int .i64 0, .int .i64 0, .int .i64 0, .int .i64 0, .int .i64 0, .int .i64 0, .slice none 0 0, .slice none 0 0, .slice none 0 0, .slice none 0 0, .slice none 0 0, .slice none 0 0] ∧ Reads wk w.heap.size 1 A N (zs.map (Value.int .u32)) ∧ Below w.heap.size w wk from fun wk hk =>
    ⟨hT2.grown hk (fun e => by injection e with e; omega), hR2.grown hk (fun e => by injection e with e; omega), (hr.below hb2).grown hk hb2.size (fun j hj => by injection hj with hj; omega), hb2.grown hk hb2.size (fun j hj => by injection hj with hj; omega)⟩)
  have hr2 := (HK.out W2 (World.grownBy.refl _ _)).2.2.1
  clear hT2 hR2 hb2
  have hmN : a + runN zs a p tol ≤ N := by rw [← hl]; exact runN_in (by omega)
  obtain ⟨m, hme⟩ : ∃ m, m = runN zs a p tol := ⟨_, rfl⟩
  have hrun := run_any hF2 hr2 (by omega) hz hN (by omega) t0 t1 p0 p1
  rw [← hme] at hrun hmN
  have HM := Lib.hid hme
  clear hme hF2 hr2
  refine hrun.mono ?_
  rintro e w3 ⟨rfl, hF3, hg3⟩
  clear hrun
  obtain ⟨hT3, hR3, hr3, hb3⟩ := HK.out w3 hg3
  have hm256 : ¬ m < 256 := by rw [HM.out]; exact H256
  have hmI : ¬ (m : Int) < 256 := by omega
  obtain ⟨q, hq⟩ : ∃ q, q = a + m := ⟨_, rfl⟩
  rw [← hq] at hF3 hmN
  have HQ := Lib.hid hq
  clear hq
  have hone := one_any hF3 hr3 hz hN (by omega) t0 t1 s10 s11
  have HNX := Lib.hid (fnd_k (zs := zs) (p := p) (s1 := s1) (s2 := s2) (z := z) (o := o) (tol := tol) hat hm (m := m) (q := q) HM.out HQ.out hm256)
  have kc1 : w3.cell? ⟨w.heap.size, 1, none⟩ = some (.int .i64 s1) := (hT3.cell 1).trans rfl
  have hs1 : nr zs q s1 tol = true := by rw [HQ.out, HM.out]; exact Hs1
  rw [hs1, if_pos rfl] at hone
  go_wp2_with fail
  refine hone.mono ?_
  rintro e w4 ⟨rfl, hF4, hg4'⟩
  have hg4 := grown_trans hg3 hg4'
  obtain ⟨hT4, hR4, hr4, hb4⟩ := HK.out w4 hg4
  clear hone hT3 hR3 hr3 hb3 hF3 kc1 hg3 hg4'
  have hq1 : q < N := by rw [← hl]; exact nr_lt hs1
  have hone := one_any hF4 hr4 hz hN (by omega) t0 t1 s20 s21
  have kc2 : w4.cell? ⟨w.heap.size, 2, none⟩ = some (.int .i64 s2) := (hT4.cell 2).trans rfl
  have hs2 : nr zs (q + 1) s2 tol = true := by rw [HQ.out, HM.out]; exact Hs2
  rw [hs2, if_pos rfl] at hone
  go_wp2_with fail
  refine hone.mono ?_
  rintro e w5 ⟨rfl, hF5, hg5'⟩
  have hg5 := grown_trans hg4 hg5'
  obtain ⟨hT5, hR5, hr5, hb5⟩ := HK.out w5 hg5
  clear hone hT4 hR4 hr4 hb4 hF4 kc2 hg4 hg5'
  have hq2 : q + 1 < N := by rw [← hl]; exact nr_lt hs2
  have hby := bytes_any (p := p) (s1 := s1) (s2 := s2) hF5 hr5 (by omega) hz hN (by omega) t0 t1 z0 z1 o0 o1
  have HNY := Lib.hid (show fnd zs (a : Int) p s1 s2 z o tol = _ from HNX.out.trans (if_neg (by rw [hs1, hs2]; simp)))
  have hbs : isBits (bitsN zs (q + 1 + 1) z o tol) := bitsK_two _ _ _ _ _ _
  have hlen : q + 1 + 1 + 2 * (bitsN zs (q + 1 + 1) z o tol).length ≤ N := by rw [← hl]; exact bitsK_len _ _ _ _ _ _ (by omega)
  rw [show q + 2 = q + 1 + 1 from rfl] at HNY
  generalize bitsN zs (q + 1 + 1) z o tol = bs at *
  generalize hnb : bs.length / 8 = nb at *
  obtain ⟨q', hq'⟩ : ∃ q', q' = q + 1 + 1 + 16 * nb := ⟨_, rfl⟩
  rw [← hq'] at hby
  have hqN : q' ≤ N := by omega
  have HQ' := Lib.hid hq'
  have hnb2 : nb ≤ 5000 := by omega
  have HU := Lib.hid (bytesB_u8 hbs nb)
  have hdl := bytesB_len bs nb
  rw [← HQ'.out] at HNY
  clear hq' hnb hlen hbs
  have kc0 : w5.cell? ⟨w.heap.size, 0, none⟩ = some (.int .i64 p) := (hT5.cell 0).trans rfl
  have kc1 : w5.cell? ⟨w.heap.size, 1, none⟩ = some (.int .i64 s1) := (hT5.cell 1).trans rfl
  have kc2 : w5.cell? ⟨w.heap.size, 2, none⟩ = some (.int .i64 s2) := (hT5.cell 2).trans rfl
  have kc3 : w5.cell? ⟨w.heap.size, 3, none⟩ = some (.int .i64 z) := (hT5.cell 3).trans rfl
  have kc4 : w5.cell? ⟨w.heap.size, 4, none⟩ = some (.int .i64 o) := (hT5.cell 4).trans rfl
  go_wp2_with fail
  refine hby.mono ?_
  rintro e w6 ⟨V, rfl, own6, hF6, hg6'⟩
  have hg6 := grown_trans hg5 hg6'
  obtain ⟨hT6, hR6, hr6, hb6⟩ := HK.out w6 hg6
  have hbs5 := hb5.size
  clear hby hT5 hR5 hr5 hb5 hF5 kc0 kc1 kc2 kc3 kc4 hg5 hg6'
  obtain ⟨VA, vc, rfl⟩ := own_slice own6
  have own6 := ownsRow_le' own6 (base' := w.heap.size) hbs5
  have hg6l := hF6.lt
  have hR6l := hR6.lt
  have hXa : Blk (w6.alloc (.cells #[.int .i64 0, .int .i64 0, .int .i64 0, .int .i64 0, .int .i64 0, .int .i64 0, .int .i64 0, .int .i64 0, .int .i64 0, .int .i64 0, .int .i64 0, .int .i64 0, .slice none 0 0, .slice none 0 0, .slice none 0 0, .slice none 0 0, .slice none 0 0, .slice none 0 0] 33)) w6.heap.size 33 #[.int .i64 0, .int .i64 0, .int .i64 0, .int .i64 0, .int .i64 0, .int .i64 0, .int .i64 0, .int .i64 0, .int .i64 0, .int .i64 0, .int .i64 0, .int .i64 0, .slice none 0 0, .slice none 0 0, .slice none 0 0, .slice none 0 0, .slice none 0 0, .slice none 0 0] := Blk.new w6 _ _
  have H6 := Lib.hid (And.intro hT6 (And.intro hR6 (And.intro hr6 (And.intro hb6 (And.intro hF6 own6)))))
  clear hT6 hR6 hr6 hb6 hF6 own6
  go_wp2_with (first
    | (refine wpList_store_box rfl 33 _ _ rfl (w6.heap.size) #[.int .i64 16, .int .i64 0, .int .i64 0, .int .i64 0, .int .i64 0, .int .i64 0, .int .i64 0, .int .i64 0, .int .i64 0, .int .i64 0, .int .i64 0, .int .i64 0, .slice VA nb vc, .slice none 0 0, .slice none 0 0, .slice none 0 0, .slice none 0 0, .slice none 0 0] rfl rfl 33 #[.int .i64 0, .int .i64 0, .int .i64 0, .int .i64 0, .int .i64 0, .int .i64 0, .int .i64 0, .int .i64 0, .int .i64 0, .int .i64 0, .int .i64 0, .int .i64 0, .slice none 0 0, .slice none 0 0, .slice none 0 0, .slice none 0 0, .slice none 0 0, .slice none 0 0] hXa blkInfo rfl (by simp [Value.oneCell']) ?_)
    | go_in)
  intro W7 hX7 hg7
  obtain ⟨hT6, hR6, hr6, hb6, hF6, own6⟩ := H6.out
  have hga : w6.grownBy (w6.alloc (.cells #[.int .i64 0, .int .i64 0, .int .i64 0, .int .i64 0, .int .i64 0, .int .i64 0, .int .i64 0, .int .i64 0, .int .i64 0, .int .i64 0, .int .i64 0, .int .i64 0, .slice none 0 0, .slice none 0 0, .slice none 0 0, .slice none 0 0, .slice none 0 0, .slice none 0 0] 33)) (some w6.heap.size) := World.grownBy_alloc w6 _ _
  have hg67 := grown_trans hga hg7
  have hh7 := hX7.lt
  have hT7 := hT6.grown hg67 (fun e => by injection e with e; omega)
  have hR7 := hR6.grown hg67 (fun e => by injection e with e; omega)
  have hF7 : Fd W7 g A N c q' tol := Blk.grown hF6 hg67 (fun e => by injection e with e; omega)
  have own7 := own6.kept hg67 (own_far own6)
  have hr7 := hr6.grown hg67 hb6.size (fun j hj => by injection hj with hj; have := hb6.size; omega)
  have hb7 := hb6.grown hg67 hb6.size (fun j hj => by injection hj with hj; have := hb6.size; omega)
  clear hXa hg7 hga hg67 hT6 hR6 hr6 hb6 hF6 own6 H6
  have kc0 : W7.cell? ⟨w.heap.size, 0, none⟩ = some (.int .i64 p) := (hT7.cell 0).trans rfl
  have kc1 : W7.cell? ⟨w.heap.size, 1, none⟩ = some (.int .i64 s1) := (hT7.cell 1).trans rfl
  have kc2 : W7.cell? ⟨w.heap.size, 2, none⟩ = some (.int .i64 s2) := (hT7.cell 2).trans rfl
  have kc3 : W7.cell? ⟨w.heap.size, 3, none⟩ = some (.int .i64 z) := (hT7.cell 3).trans rfl
  have kc4 : W7.cell? ⟨w.heap.size, 4, none⟩ = some (.int .i64 o) := (hT7.cell 4).trans rfl
  go_wp2_with fail
  generalize w6.heap.size = h at *
  have heq := fun w' => eq5 w' p s1 s2 z o
  rw [hst] at heq
  refine wp_region_held_drew (S := fun w' => w'.cell? ⟨w.heap.size, 0, none⟩ = some (.int .i64 p) ∧ w'.cell? ⟨w.heap.size, 1, none⟩ = some (.int .i64 s1) ∧ w'.cell? ⟨w.heap.size, 2, none⟩ = some (.int .i64 s2) ∧ w'.cell? ⟨w.heap.size, 3, none⟩ = some (.int .i64 z) ∧ w'.cell? ⟨w.heap.size, 4, none⟩ = some (.int .i64 o)) (by kernel_rfl) ?_ (fun hHeld => ?_)
  · exact ⟨kc0, kc1, kc2, kc3, kc4⟩
  refine wpAnyH_take (i := 0) (oi := _) (v := ?_) (by simp only [List.getElem?_toArray, List.getElem?_cons_succ, List.getElem?_cons_zero]; rfl) (by kernel_rfl) (by kernel_rfl) (by kernel_rfl) (by intro _ _ _ h; exact h) (Or.inl ⟨by rfl, ?_⟩) (by assumption) ?_
  rotate_left
  · intro w hSw
    try dsimp only at hSw
    obtain ⟨e0, e1, e2, e3, e4⟩ := hSw
    go_simp
    try with_reducible rfl
  try simp only [Act.put, List.setIfInBounds_toArray, List.set_cons_zero, List.set_cons_succ]
  refine wpAnyH_ready (rs := [1]) (by kernel_rfl) (by simp) ?_
  refine AllReadyH.cons (o := _) (by simp only [List.getElem?_toArray, List.getElem?_cons_succ, List.getElem?_cons_zero]; rfl) (fun K hK => ?_) AllReadyH.nil
  go_simp
  go_wp2_with fail
  refine (standard_any _).mono ?_
  rintro e w8 ⟨rfl, hb8⟩
  have hb78 : Below W7.heap.size W7 w8 := (Below.refl _ _).drew.trans hb8
  have hT8 := hT7.below hb78 (by omega)
  have hR8 := hR7.below hb78 (by omega)
  have hX8 := hX7.below hb78 hh7
  have hF8 : Fd w8 g A N c q' tol := Blk.below hF7 hb78 (by omega)
  have own8 := own_kept own7 hb78
  have hr8 := hr7.below (hb78.mono hb7.size)
  have hbl8 := bthen hb7 hb78
  clear hT7 hR7 hX7 hF7 own7 hr7 hb7 kc0 kc1 kc2 kc3 kc4 hb8 hb78
  have kc0 : w8.cell? ⟨w.heap.size, 0, none⟩ = some (.int .i64 p) := (hT8.cell 0).trans rfl
  have kc1 : w8.cell? ⟨w.heap.size, 1, none⟩ = some (.int .i64 s1) := (hT8.cell 1).trans rfl
  have kc2 : w8.cell? ⟨w.heap.size, 2, none⟩ = some (.int .i64 s2) := (hT8.cell 2).trans rfl
  have kc3 : w8.cell? ⟨w.heap.size, 3, none⟩ = some (.int .i64 z) := (hT8.cell 3).trans rfl
  have kc4 : w8.cell? ⟨w.heap.size, 4, none⟩ = some (.int .i64 o) := (hT8.cell 4).trans rfl
  refine hK.out _ _ ?_ (fun hHeld => ?_)
  · exact ⟨kc0, kc1, kc2, kc3, kc4⟩
  clear hK K
  try simp only [Act.put, List.setIfInBounds_toArray, List.set_cons_zero, List.set_cons_succ]
  refine wpAnyH_take (i := 2) (oi := _) (v := ?_) (by simp only [List.getElem?_toArray, List.getElem?_cons_succ, List.getElem?_cons_zero]; rfl) (by kernel_rfl) (by kernel_rfl) (by kernel_rfl) (by intro _ _ _ h; exact h) (Or.inl ⟨by rfl, ?_⟩) (by assumption) ?_
  rotate_left
  · intro w hSw
    try dsimp only at hSw
    obtain ⟨e0, e1, e2, e3, e4⟩ := hSw
    go_simp
    try with_reducible rfl
  try simp only [Act.put, List.setIfInBounds_toArray, List.set_cons_zero, List.set_cons_succ]
  refine wpAnyH_done (by kernel_rfl) ?_ _
  clear kc0 kc1 kc2 kc3 kc4 heq
  have kc0 : w8.cell? ⟨w.heap.size, 0, none⟩ = some (.int .i64 p) := (hT8.cell 0).trans rfl
  have kc1 : w8.cell? ⟨w.heap.size, 1, none⟩ = some (.int .i64 s1) := (hT8.cell 1).trans rfl
  have kc2 : w8.cell? ⟨w.heap.size, 2, none⟩ = some (.int .i64 s2) := (hT8.cell 2).trans rfl
  have kc3 : w8.cell? ⟨w.heap.size, 3, none⟩ = some (.int .i64 z) := (hT8.cell 3).trans rfl
  have kc4 : w8.cell? ⟨w.heap.size, 4, none⟩ = some (.int .i64 o) := (hT8.cell 4).trans rfl
  have hh8 := hX8.lt
  have hg8 := hF8.lt
  have hR8l := hR8.lt
  have x12 : w8.cell? ⟨h, 12, none⟩ = some (.slice VA nb vc) := (hX8.cell 12).trans rfl
  go_wp2_with (first
    | (refine wpList_store_box rfl 33 _ _ rfl (h) #[.int .i64 17, .int .i64 0, .int .i64 p, .int .i64 s1, .int .i64 s2, .int .i64 z, .int .i64 o, .int .i64 0, .int .i64 m, .int .i64 8, .int .i64 0, .int .i64 0, .slice VA nb vc, .slice none 0 0, .slice none 0 0, .slice none 0 0, .slice none 0 0, .slice none 0 0] rfl rfl 33 #[.int .i64 16, .int .i64 0, .int .i64 0, .int .i64 0, .int .i64 0, .int .i64 0, .int .i64 0, .int .i64 0, .int .i64 0, .int .i64 0, .int .i64 0, .int .i64 0, .slice VA nb vc, .slice none 0 0, .slice none 0 0, .slice none 0 0, .slice none 0 0, .slice none 0 0] hX8 blkInfo rfl (by simp [Value.oneCell']) ?_)
    | go_in)
  intro W9 hX9 hgx
  have hF9 : Fd W9 g A N c q' tol := Blk.grown hF8 hgx (fun e => by injection e with e; omega)
  have own9 := own8.kept hgx (.inr (own_blk_ne own8 hX8 (by decide)))
  have hR9 := hR8.grown hgx (fun e => by injection e with e; omega)
  have hr9 := hr8.grown hgx hbl8.size (fun j hj => by injection hj with hj; omega)
  have hb9 := hbl8.grown hgx hbl8.size (fun j hj => by injection hj with hj; omega)
  clear hgx hX8 hF8 own8 hR8 hr8 hbl8 x12 kc0 kc1 kc2 kc3 kc4
  have xc8 : W9.cell? ⟨h, 8, none⟩ = some (.int .i64 m) := (hX9.cell 8).trans rfl
  have xc12 : W9.cell? ⟨h, 12, none⟩ = some (.slice VA nb vc) := (hX9.cell 12).trans rfl
  by_cases hnb0 : nb = 0
  · subst hnb0
    have HN := Lib.hid (show fnd zs (a : Int) p s1 s2 z o tol = none from by rw [HNY.out, if_pos rfl])
    have HBL := Lib.hid hb9
    go_wp2_with (first
      | (refine wpList_store_box rfl 33 _ _ rfl (w.heap.size + 1) #[.int .i64 0, .int .i64 0, .int .i64 0, .int .i64 0, .int .i64 0, .int .i64 0, .int .i64 0, .int .i64 0, .int .i64 0, .int .i64 0, .int .i64 0, .int .i64 0, .slice none 0 0, .slice none 0 0, .slice none 0 0, .slice none 0 0, .slice none 0 0, .slice none 0 0] rfl rfl 33 #[.int .i64 0, .int .i64 0, .int .i64 0, .int .i64 0, .int .i64 0, .int .i64 0, .int .i64 0, .int .i64 0, .int .i64 0, .int .i64 0, .int .i64 0, .int .i64 0, .slice none 0 0, .slice none 0 0, .slice none 0 0, .slice none 0 0, .slice none 0 0, .slice none 0 0] hR9 blkInfo rfl (by simp [Value.oneCell']) ?_)
      | go_in)
    intro wz hRz hgz
    have hbz := HBL.out.grown hgz HBL.out.size (fun j hj => by injection hj with hj; omega)
    go_wp2
    refine bodyPost_ret (results_cell3 rfl _ _ (w.heap.size + 1) 33 #[.int .i64 0, .int .i64 0, .int .i64 0, .int .i64 0, .int .i64 0, .int .i64 0, .int .i64 0, .int .i64 0, .int .i64 0, .int .i64 0, .int .i64 0, .int .i64 0, .slice none 0 0, .slice none 0 0, .slice none 0 0, .slice none 0 0, .slice none 0 0, .slice none 0 0] (0, 0) _ rfl hRz Try.underlying33 rfl blkInfo) rfl ⟨hbz, .inl ⟨HN.out, rfl⟩⟩
  have hnbI : ¬ (nb : Int) = 0 := by omega
  have hnbN : ¬ nb = 0 := hnb0
  have hnbE : ((nb : Int) == 0) = false := by simpa using hnb0
  have hnb3 : ¬ (65535 : Int) < (nb : Int) := by omega
  have hnb4 : ¬ (16777215 : Int) < (nb : Int) := by omega
  have hm3 : ¬ (65535 : Int) < (m : Int) := by have := HQ.out; omega
  have HNZ := Lib.hid (HNY.out.trans (if_neg hnb0))
  have hpa := pause_any hF9 hr9 (by omega) hz hN hqN
  have H9 := Lib.hid (And.intro hX9 (And.intro hF9 (And.intro own9 (And.intro hR9 hb9))))
  clear hX9 own9 hR9 hb9 hr9 hF9
  go_wp2_with fail
  refine hpa.mono ?_
  rintro e w10 ⟨rfl, hF10, hg10⟩
  clear hpa xc8 xc12
  obtain ⟨hX9, hF9, own9, hR9, hb9⟩ := H9.out
  have hX10 := hX9.grown hg10 (fun e => by injection e with e; omega)
  have own10 := own9.kept hg10 (.inr (own_blk_ne own9 hF9 (by decide)))
  have hR10 := hR9.grown hg10 (fun e => by injection e with e; omega)
  have hb10 := hb9.grown hg10 hb9.size (fun j hj => by injection hj with hj; omega)
  clear hX9 hF9 own9 hR9 hb9 hg10 H9
  have x1 : w10.cell? ⟨h, 1, none⟩ = some (.int .i64 0) := (hX10.cell 1).trans rfl
  have xf1 := hX10.frozen 1
  generalize hpa : pauN zs q' = PA at *
  have hX11 : Blk (w10.setCell ⟨h, 1, none⟩ (.int .i64 PA)) h 33 #[.int .i64 17, .int .i64 PA, .int .i64 p, .int .i64 s1, .int .i64 s2, .int .i64 z, .int .i64 o, .int .i64 0, .int .i64 m, .int .i64 8, .int .i64 0, .int .i64 0, .slice VA nb vc, .slice none 0 0, .slice none 0 0, .slice none 0 0, .slice none 0 0, .slice none 0 0] := hX10.set_ 1 _
  have hgs : w10.grownBy (w10.setCell ⟨h, 1, none⟩ (.int .i64 PA)) (some h) := grown_set _
  have hF11 : Fd (w10.setCell ⟨h, 1, none⟩ (.int .i64 PA)) g A N c (pauE zs q') tol := Blk.grown hF10 hgs (fun e => by injection e with e; omega)
  have own11 := own10.kept hgs (.inr (own_blk_ne own10 hX10 (by decide)))
  have hR11 := hR10.grown hgs (fun e => by injection e with e; omega)
  have hb11 := hb10.grown hgs hb10.size (fun j hj => by injection hj with hj; omega)
  have H11 := Lib.hid (And.intro hX11 (And.intro hR11 (And.intro hb11 own11)))
  clear hX10 hF10 own10 hR10 hb10 hgs hX11 hR11 hb11 own11
  go_upto_region 15 with fail
  generalize w10.setCell ⟨h, 1, none⟩ (.int .i64 PA) = W11 at *
  clear x1 xf1
  have hpE := pauE_in zs q'
  generalize hpe : pauE zs q' = PE at *
  have fc1 : W11.cell? ⟨g, 1, none⟩ = some (.int .i64 PE) := (hF11.cell 1).trans rfl
  obtain ⟨k, hk⟩ : ∃ k, k = PE - a := ⟨_, rfl⟩
  have hwk : IntKind.i64.wrap ((PE : Int) - (a : Int)) = (k : Int) := by rw [IntKind.wrap_i64]; have := HQ.out; have := HQ'.out; omega
  have HKE := Lib.hid hk
  have hg11 : g < W11.heap.size := hF11.lt
  clear hk hF11
  refine wp_region_held_drew (S := fun w' => w'.cell? ⟨g, 1, none⟩ = some (.int .i64 PE)) (by kernel_rfl) ?_ (fun hHeld => ?_)
  · exact fc1
  refine wpAnyH_take (i := 1) (oi := _) (v := ?_) (by simp only [List.getElem?_toArray, List.getElem?_cons_succ, List.getElem?_cons_zero]; rfl) (by kernel_rfl) (by kernel_rfl) (by kernel_rfl) (by intro _ _ _ h; exact h) (Or.inl ⟨by rfl, ?_⟩) (by assumption) ?_
  rotate_left
  · intro w hSw
    try dsimp only at hSw
    go_simp
    try with_reducible rfl
  try simp only [Act.put, List.setIfInBounds_toArray, List.set_cons_zero, List.set_cons_succ]
  refine wpAnyH_take (i := 2) (oi := _) (v := ?_) (by simp only [List.getElem?_toArray, List.getElem?_cons_succ, List.getElem?_cons_zero]; rfl) (by kernel_rfl) (by kernel_rfl) (by kernel_rfl) (by intro _ _ _ h; exact h) (Or.inl ⟨by rfl, ?_⟩) (by assumption) ?_
  rotate_left
  · intro w hSw
    try dsimp only at hSw
    go_simp
    try with_reducible rfl
  try simp only [Act.put, List.setIfInBounds_toArray, List.set_cons_zero, List.set_cons_succ]
  refine wpAnyH_take (i := 3) (oi := _) (v := ?_) (by simp only [List.getElem?_toArray, List.getElem?_cons_succ, List.getElem?_cons_zero]; rfl) (by kernel_rfl) (by kernel_rfl) (by kernel_rfl) (by intro _ _ _ h; exact h) (Or.inl ⟨by rfl, ?_⟩) (by assumption) ?_
  rotate_left
  · intro w hSw
    try dsimp only at hSw
    go_simp
    try with_reducible rfl
  try simp only [Act.put, List.setIfInBounds_toArray, List.set_cons_zero, List.set_cons_succ]
  refine wpAnyH_take (i := 4) (oi := _) (v := ?_) (by simp only [List.getElem?_toArray, List.getElem?_cons_succ, List.getElem?_cons_zero]; rfl) (by kernel_rfl) (by kernel_rfl) (by kernel_rfl) (by intro _ _ _ h; exact h) (Or.inl ⟨by rfl, ?_⟩) (by assumption) ?_
  rotate_left
  · intro w hSw
    try dsimp only at hSw
    go_simp
    try with_reducible rfl
  try simp only [Act.put, List.setIfInBounds_toArray, List.set_cons_zero, List.set_cons_succ]
  refine wpAnyH_take (i := 5) (oi := _) (v := ?_) (by simp only [List.getElem?_toArray, List.getElem?_cons_succ, List.getElem?_cons_zero]; rfl) (by kernel_rfl) (by kernel_rfl) (by kernel_rfl) (by intro _ _ _ h; exact h) (Or.inl ⟨by rfl, ?_⟩) (by assumption) ?_
  rotate_left
  · intro w hSw
    try dsimp only at hSw
    go_simp
    try with_reducible rfl
  try simp only [Act.put, List.setIfInBounds_toArray, List.set_cons_zero, List.set_cons_succ]
  refine wpAnyH_take (i := 6) (oi := _) (v := ?_) (by simp only [List.getElem?_toArray, List.getElem?_cons_succ, List.getElem?_cons_zero]; rfl) (by kernel_rfl) (by kernel_rfl) (by kernel_rfl) (by intro _ _ _ h; exact h) (Or.inl ⟨by rfl, ?_⟩) (by assumption) ?_
  rotate_left
  · intro w hSw
    try dsimp only at hSw
    go_simp
    try with_reducible rfl
  try simp only [Act.put, List.setIfInBounds_toArray, List.set_cons_zero, List.set_cons_succ]
  refine wpAnyH_ready (rs := [0]) (by kernel_rfl) (by simp) ?_
  refine AllReadyH.cons (o := _) (by simp only [List.getElem?_toArray, List.getElem?_cons_succ, List.getElem?_cons_zero]; rfl) (fun K hK => ?_) AllReadyH.nil
  refine step_load_box rfl 33 _ (by rfl) h (by rfl) 33 #[.int .i64 17, .int .i64 PA, .int .i64 p, .int .i64 s1, .int .i64 s2, .int .i64 z, .int .i64 o, .int .i64 0, .int .i64 m, .int .i64 8, .int .i64 0, .int .i64 0, .slice VA nb vc, .slice none 0 0, .slice none 0 0, .slice none 0 0, .slice none 0 0, .slice none 0 0] (Blk.drew H11.out.1) _ Try.underlying33 rfl blkInfo ?_
  refine hK.out _ _ ?_ (fun hHeld => ?_)
  · exact fc1
  clear hK K
  try simp only [Act.put, List.setIfInBounds_toArray, List.set_cons_zero, List.set_cons_succ]
  refine wpAnyH_ready (rs := [7]) (by kernel_rfl) (by simp) ?_
  refine AllReadyH.cons (o := _) (by simp only [List.getElem?_toArray, List.getElem?_cons_succ, List.getElem?_cons_zero]; rfl) (fun K hK => ?_) AllReadyH.nil
  refine step_store_box rfl 33 _ _ (by rfl) (w.heap.size + 1) #[.int .i64 17, .int .i64 PA, .int .i64 p, .int .i64 s1, .int .i64 s2, .int .i64 z, .int .i64 o, .int .i64 0, .int .i64 m, .int .i64 8, .int .i64 0, .int .i64 0, .slice VA nb vc, .slice none 0 0, .slice none 0 0, .slice none 0 0, .slice none 0 0, .slice none 0 0] (by rfl) (by rfl) 33 #[.int .i64 0, .int .i64 0, .int .i64 0, .int .i64 0, .int .i64 0, .int .i64 0, .int .i64 0, .int .i64 0, .int .i64 0, .int .i64 0, .int .i64 0, .int .i64 0, .slice none 0 0, .slice none 0 0, .slice none 0 0, .slice none 0 0, .slice none 0 0, .slice none 0 0] (Blk.drew H11.out.2.1) blkInfo rfl (by simp [Value.oneCell']) ?_
  intro wz hRz hgz
  have HE := Lib.hid (And.intro hRz (And.intro (H11.out.2.2.1.drew.grown hgz H11.out.2.2.1.size (fun j hj => by injection hj with hj; omega)) (World.ownsRow.kept (w := W11.drew) H11.out.2.2.2 hgz (.inr (own_blk_ne H11.out.2.2.2 H11.out.2.1 (by decide))))))
  have fz1 : wz.cell? ⟨g, 1, none⟩ = some (.int .i64 PE) := (World.cell?_of_block (hgz.block g hg11 (fun e => by injection e with e; omega))).trans fc1
  clear hgz
  refine hK.out _ _ ?_ (fun hHeld => ?_)
  · exact fz1
  clear hK K
  try simp only [Act.put, List.setIfInBounds_toArray, List.set_cons_zero, List.set_cons_succ]
  refine wpAnyH_ready (rs := [8]) (by kernel_rfl) (by simp) ?_
  refine AllReadyH.cons (o := _) (by simp only [List.getElem?_toArray, List.getElem?_cons_succ, List.getElem?_cons_zero]; rfl) (fun K hK => ?_) AllReadyH.nil
  go_simp
  refine hK.out _ _ ?_ (fun hHeld => ?_)
  · exact fz1
  clear hK K
  try simp only [Act.put, List.setIfInBounds_toArray, List.set_cons_zero, List.set_cons_succ]
  refine wpAnyH_ready (rs := [9]) (by kernel_rfl) (by simp) ?_
  refine AllReadyH.cons (o := _) (by simp only [List.getElem?_toArray, List.getElem?_cons_succ, List.getElem?_cons_zero]; rfl) (fun K hK => ?_) AllReadyH.nil
  go_simp
  refine hK.out _ _ ?_ (fun hHeld => ?_)
  · exact fz1
  clear hK K
  try simp only [Act.put, List.setIfInBounds_toArray, List.set_cons_zero, List.set_cons_succ]
  refine wpAnyH_done (by kernel_rfl) ?_ _
  clear fc1 fz1
  go_wp2
  refine bodyPost_ret (results_cell3 rfl _ _ (w.heap.size + 1) 33 #[.int .i64 17, .int .i64 PA, .int .i64 p, .int .i64 s1, .int .i64 s2, .int .i64 z, .int .i64 o, .int .i64 0, .int .i64 m, .int .i64 8, .int .i64 0, .int .i64 0, .slice VA nb vc, .slice none 0 0, .slice none 0 0, .slice none 0 0, .slice none 0 0, .slice none 0 0] (0, 0) _ rfl HE.out.1 Try.underlying33 rfl blkInfo) rfl ⟨HE.out.2.1, .inr ⟨bytesB bs nb, m, PA, k, .slice VA nb vc, ?_, ?_, ?_, HU.out⟩⟩
  · rw [HNZ.out, HKE.out]
  · rw [hst]; rfl
  · rw [hdl]; exact HE.out.2.2

end Go.Proofs.Ytckgmnlmimogjaa
