/- Contracts of layer 27: norm.Find: the walk find_bad. -/
import Derived.Test.YtckgmnlmimogjaaNorm5
import Derived.Laws.StructEq
import Derived.Deep.RegionHeld3
import Derived.Deep.CutRange
namespace Go.Proofs.Ytckgmnlmimogjaa
open Go.RowKit

set_option maxRecDepth 100000 in
set_option maxHeartbeats 16000000 in
theorem find_bad (w : World) (A : Option Addr) (N c : Nat) (zs : List Int) (a : Nat) (p s1 s2 z o tol : Int) (hr : Reads w w.heap.size 1 A N (zs.map (Value.int .u32))) (hz : isU32 zs) (hN : N ≤ 5000) (hat : a < zs.length) (Hbad : mayB p s1 s2 z o tol = false ∨ runN zs a p tol < 256 ∨ nr zs (a + runN zs a p tol) s1 tol = false ∨ nr zs (a + runN zs a p tol + 1) s2 tol = false) :
    Calls Try.prog 8 #[.slice A N c, .int .i64 a, .agg #[.int .i64 p, .int .i64 s1, .int .i64 s2, .int .i64 z, .int .i64 o], .int .i64 tol] w fun e w' => Below w.heap.size w w' ∧ Found w w' e zs a p s1 s2 z o tol := by
  have hl := reads_len hr
  have hb0 : Below w.heap.size w ((w.alloc (.cells #[.int .i64 p, .int .i64 s1, .int .i64 s2, .int .i64 z, .int .i64 o] 36)).alloc (.cells #[.int .i64 0, .int .i64 0, .int .i64 0, .int .i64 0, .int .i64 0, .int .i64 0, .int .i64 0, .int .i64 0, .int .i64 0, .int .i64 0, .int .i64 0, .int .i64 0, .slice none 0 0, .slice none 0 0, .slice none 0 0, .slice none 0 0, .slice none 0 0, .slice none 0 0] 33)) := ((Below.refl _ _).alloc (Nat.le_refl _) _).alloc (by simp) _
  have hT0 : Blk ((w.alloc (.cells #[.int .i64 p, .int .i64 s1, .int .i64 s2, .int .i64 z, .int .i64 o] 36)).alloc (.cells #[.int .i64 0, .int .i64 0, .int .i64 0, .int .i64 0, .int .i64 0, .int .i64 0, .int .i64 0, .int .i64 0, .int .i64 0, .int .i64 0, .int .i64 0, .int .i64 0, .slice none 0 0, .slice none 0 0, .slice none 0 0, .slice none 0 0, .slice none 0 0, .slice none 0 0] 33)) w.heap.size 36 #[.int .i64 p, .int .i64 s1, .int .i64 s2, .int .i64 z, .int .i64 o] := Blk.alloc (Blk.new w _ _) _
  have hR0 : Blk ((w.alloc (.cells #[.int .i64 p, .int .i64 s1, .int .i64 s2, .int .i64 z, .int .i64 o] 36)).alloc (.cells #[.int .i64 0, .int .i64 0, .int .i64 0, .int .i64 0, .int .i64 0, .int .i64 0, .int .i64 0, .int .i64 0, .int .i64 0, .int .i64 0, .int .i64 0, .int .i64 0, .slice none 0 0, .slice none 0 0, .slice none 0 0, .slice none 0 0, .slice none 0 0, .slice none 0 0] 33)) (w.heap.size + 1) 33 #[.int .i64 0, .int .i64 0, .int .i64 0, .int .i64 0, .int .i64 0, .int .i64 0, .int .i64 0, .int .i64 0, .int .i64 0, .int .i64 0, .int .i64 0, .int .i64 0, .slice none 0 0, .slice none 0 0, .slice none 0 0, .slice none 0 0, .slice none 0 0, .slice none 0 0] := by
    have := Blk.new (w.alloc (.cells #[.int .i64 p, .int .i64 s1, .int .i64 s2, .int .i64 z, .int .i64 o] 36)) 33 #[.int .i64 0, .int .i64 0, .int .i64 0, .int .i64 0, .int .i64 0, .int .i64 0, .int .i64 0, .int .i64 0, .int .i64 0, .int .i64 0, .int .i64 0, .int .i64 0, .slice none 0 0, .slice none 0 0, .slice none 0 0, .slice none 0 0, .slice none 0 0, .slice none 0 0]
    simpa using this
  have hge : ¬ N ≤ a := by omega
  have ha0 : (0 : Int) ≤ (a : Int) := Int.natCast_nonneg _
  have hgI : ¬ (N : Int) ≤ (a : Int) := by omega
  have ht0 : (w.alloc (.cells #[.int .i64 p, .int .i64 s1, .int .i64 s2, .int .i64 z, .int .i64 o] 36)).heap.size = w.heap.size + 1 := by simp
  go_enter Try.func8, Try.ntmps8
  go_wp2_with fail
  refine (may_any _ p s1 s2 z o tol).mono ?_
  rintro e w1 ⟨rfl, hb1⟩
  have hT1 := hT0.below hb1 (by simp; omega)
  have hR1 := hR0.below hb1 (by simp)
  have hbl1 := bthen hb0 hb1
  clear hT0 hR0 hb0 hb1
  by_cases hm : mayB p s1 s2 z o tol = false
  · rw [hm]
    have HN := Lib.hid (show fnd zs (a : Int) p s1 s2 z o tol = none from by unfold fnd; rw [if_pos (.inr (.inr hm))])
    have HBL := Lib.hid hbl1
    go_wp2_with (first
      | (refine wpList_store_box rfl 33 _ _ rfl (w.heap.size + 1) #[.int .i64 0, .int .i64 0, .int .i64 0, .int .i64 0, .int .i64 0, .int .i64 0, .int .i64 0, .int .i64 0, .int .i64 0, .int .i64 0, .int .i64 0, .int .i64 0, .slice none 0 0, .slice none 0 0, .slice none 0 0, .slice none 0 0, .slice none 0 0, .slice none 0 0] rfl rfl 33 #[.int .i64 0, .int .i64 0, .int .i64 0, .int .i64 0, .int .i64 0, .int .i64 0, .int .i64 0, .int .i64 0, .int .i64 0, .int .i64 0, .int .i64 0, .int .i64 0, .slice none 0 0, .slice none 0 0, .slice none 0 0, .slice none 0 0, .slice none 0 0, .slice none 0 0] hR1 blkInfo rfl (by simp [Value.oneCell']) ?_)
      | go_in)
    intro wz hRz hgz
    have hbz := HBL.out.grown hgz HBL.out.size (fun j hj => by injection hj with hj; omega)
    go_wp2
    refine bodyPost_ret (results_cell3 rfl _ _ (w.heap.size + 1) 33 #[.int .i64 0, .int .i64 0, .int .i64 0, .int .i64 0, .int .i64 0, .int .i64 0, .int .i64 0, .int .i64 0, .int .i64 0, .int .i64 0, .int .i64 0, .int .i64 0, .slice none 0 0, .slice none 0 0, .slice none 0 0, .slice none 0 0, .slice none 0 0, .slice none 0 0] (0, 0) _ rfl hRz Try.underlying33 rfl blkInfo) rfl ⟨hbz, .inl ⟨HN.out, rfl⟩⟩
  have hm : mayB p s1 s2 z o tol = true := by simpa using hm
  rw [hm]
  obtain ⟨⟨p0, p1⟩, ⟨s10, s11⟩, ⟨s20, s21⟩, ⟨z0, z1⟩, ⟨o0, o1⟩, ⟨t0, t1⟩⟩ := may_in hm
  have hF2 : Fd (w1.alloc (.cells #[.slice A N c, .int .i64 a, .int .i64 tol] 66)) w1.heap.size A N c a tol := Blk.new w1 _ _
  have hT2 : Blk (w1.alloc (.cells #[.slice A N c, .int .i64 a, .int .i64 tol] 66)) w.heap.size 36 #[.int .i64 p, .int .i64 s1, .int .i64 s2, .int .i64 z, .int .i64 o] := hT1.alloc _
  have hR2 : Blk (w1.alloc (.cells #[.slice A N c, .int .i64 a, .int .i64 tol] 66)) (w.heap.size + 1) 33 #[.int .i64 0, .int .i64 0, .int .i64 0, .int .i64 0, .int .i64 0, .int .i64 0, .int .i64 0, .int .i64 0, .int .i64 0, .int .i64 0, .int .i64 0, .int .i64 0, .slice none 0 0, .slice none 0 0, .slice none 0 0, .slice none 0 0, .slice none 0 0, .slice none 0 0] := hR1.alloc _
  have hb2 : Below w.heap.size w (w1.alloc (.cells #[.slice A N c, .int .i64 a, .int .i64 tol] 66)) := hbl1.alloc hbl1.size _
  have hg1 := hR1.lt
  have kc0 : (w1.alloc (.cells #[.slice A N c, .int .i64 a, .int .i64 tol] 66)).cell? ⟨w.heap.size, 0, none⟩ = some (.int .i64 p) := (hT2.cell 0).trans rfl
  have kc1 : (w1.alloc (.cells #[.slice A N c, .int .i64 a, .int .i64 tol] 66)).cell? ⟨w.heap.size, 1, none⟩ = some (.int .i64 s1) := (hT2.cell 1).trans rfl
  have kc2 : (w1.alloc (.cells #[.slice A N c, .int .i64 a, .int .i64 tol] 66)).cell? ⟨w.heap.size, 2, none⟩ = some (.int .i64 s2) := (hT2.cell 2).trans rfl
  have kc3 : (w1.alloc (.cells #[.slice A N c, .int .i64 a, .int .i64 tol] 66)).cell? ⟨w.heap.size, 3, none⟩ = some (.int .i64 z) := (hT2.cell 3).trans rfl
  have kc4 : (w1.alloc (.cells #[.slice A N c, .int .i64 a, .int .i64 tol] 66)).cell? ⟨w.heap.size, 4, none⟩ = some (.int .i64 o) := (hT2.cell 4).trans rfl
  go_wp2_with fail
  have hg2 : w1.heap.size < (w1.alloc (.cells #[.slice A N c, .int .i64 a, .int .i64 tol] 66)).heap.size := by simp
  generalize (w1.alloc (.cells #[.slice A N c, .int .i64 a, .int .i64 tol] 66)) = W2 at *
  generalize w1.heap.size = g at *
  clear kc0 kc1 kc2 kc3 kc4 hT1 hR1 hbl1
  have HK := Lib.hid (show ∀ wk : World, W2.grownBy wk (some g) → Blk wk w.heap.size 36 #[.int .i64 p, .int .i64 s1, .int .i64 s2, .int .i64 z, .int .i64 o] ∧ Blk wk (w.heap.size + 1) 33 #[.int .i64 0, .int .i64 0, .int .i64 0, .int .i64 0, .int .i64 0, .int .i64 0, .int .i64 0, .int .i64 0, .int .i64 0, .int .i64 0, .int .i64 0, .int .i64 0, .slice none 0 0, .slice none 0 0, .slice none 0 0, .slice none 0 0, .slice none 0 0, .slice none 0 0] ∧ Reads wk w.heap.size 1 A N (zs.map (Value.int .u32)) ∧ Below w.heap.size w wk from fun wk hk =>
    ⟨hT2.grown hk (fun e => by injection e with e; omega), hR2.grown hk (fun e => by injection e with e; omega), (hr.below hb2).grown hk hb2.size (fun j hj => by injection hj with hj; omega), hb2.grown hk hb2.size (fun j hj => by injection hj with hj; omega)⟩)
  have hr2 := (HK.out W2 (World.grownBy.refl _ _)).2.2.1
  clear hT2 hR2 hb2
  have hmN : a + runN zs a p tol ≤ N := by rw [← hl]; exact runN_in (by omega)
  obtain ⟨m, hme⟩ : ∃ m, m = runN zs a p tol := ⟨_, rfl⟩
  have hrun := run_any hF2 hr2 (by omega) hz hN (by omega) t0 t1 p0 p1
  rw [← hme] at hrun hmN
  have HM := Lib.hid hme
  clear hme hF2 hr2
  refine hrun.mono ?_
  rintro e w3 ⟨rfl, hF3, hg3⟩
  clear hrun
  obtain ⟨hT3, hR3, hr3, hb3⟩ := HK.out w3 hg3
  by_cases hm256 : m < 256
  · have hmI : (m : Int) < 256 := by omega
    have HN := Lib.hid (show fnd zs (a : Int) p s1 s2 z o tol = none from fnd_few hat hm (by rw [← HM.out]; exact hm256))
    have HBL := Lib.hid hb3
    go_wp2_with (first
      | (refine wpList_store_box rfl 33 _ _ rfl (w.heap.size + 1) #[.int .i64 0, .int .i64 0, .int .i64 0, .int .i64 0, .int .i64 0, .int .i64 0, .int .i64 0, .int .i64 0, .int .i64 0, .int .i64 0, .int .i64 0, .int .i64 0, .slice none 0 0, .slice none 0 0, .slice none 0 0, .slice none 0 0, .slice none 0 0, .slice none 0 0] rfl rfl 33 #[.int .i64 0, .int .i64 0, .int .i64 0, .int .i64 0, .int .i64 0, .int .i64 0, .int .i64 0, .int .i64 0, .int .i64 0, .int .i64 0, .int .i64 0, .int .i64 0, .slice none 0 0, .slice none 0 0, .slice none 0 0, .slice none 0 0, .slice none 0 0, .slice none 0 0] hR3 blkInfo rfl (by simp [Value.oneCell']) ?_)
      | go_in)
    intro wz hRz hgz
    have hbz := HBL.out.grown hgz HBL.out.size (fun j hj => by injection hj with hj; omega)
    go_wp2
    refine bodyPost_ret (results_cell3 rfl _ _ (w.heap.size + 1) 33 #[.int .i64 0, .int .i64 0, .int .i64 0, .int .i64 0, .int .i64 0, .int .i64 0, .int .i64 0, .int .i64 0, .int .i64 0, .int .i64 0, .int .i64 0, .int .i64 0, .slice none 0 0, .slice none 0 0, .slice none 0 0, .slice none 0 0, .slice none 0 0, .slice none 0 0] (0, 0) _ rfl hRz Try.underlying33 rfl blkInfo) rfl ⟨hbz, .inl ⟨HN.out, rfl⟩⟩
  have hmI : ¬ (m : Int) < 256 := by omega
  obtain ⟨q, hq⟩ : ∃ q, q = a + m := ⟨_, rfl⟩
  rw [← hq] at hF3 hmN
  have HQ := Lib.hid hq
  clear hq
  have hone := one_any hF3 hr3 hz hN (by omega) t0 t1 s10 s11
  have HNX := Lib.hid (fnd_k (zs := zs) (p := p) (s1 := s1) (s2 := s2) (z := z) (o := o) (tol := tol) hat hm (m := m) (q := q) HM.out HQ.out hm256)
  have kc1 : w3.cell? ⟨w.heap.size, 1, none⟩ = some (.int .i64 s1) := (hT3.cell 1).trans rfl
  by_cases hs1 : nr zs q s1 tol = false
  · rw [hs1] at hone
    go_wp2_with fail
    refine hone.mono ?_
    rintro e w4 ⟨rfl, hF4, hg4'⟩
    have hg4 := grown_trans hg3 hg4'
    obtain ⟨hT4, hR4, hr4, hb4⟩ := HK.out w4 hg4
    clear hone hT3 hR3 hr3 hb3 hF3 kc1
    have HN := Lib.hid (show fnd zs (a : Int) p s1 s2 z o tol = none from by rw [HNX.out, if_pos (.inl hs1)])
    have HBL := Lib.hid hb4
    go_wp2_with (first
      | (refine wpList_store_box rfl 33 _ _ rfl (w.heap.size + 1) #[.int .i64 0, .int .i64 0, .int .i64 0, .int .i64 0, .int .i64 0, .int .i64 0, .int .i64 0, .int .i64 0, .int .i64 0, .int .i64 0, .int .i64 0, .int .i64 0, .slice none 0 0, .slice none 0 0, .slice none 0 0, .slice none 0 0, .slice none 0 0, .slice none 0 0] rfl rfl 33 #[.int .i64 0, .int .i64 0, .int .i64 0, .int .i64 0, .int .i64 0, .int .i64 0, .int .i64 0, .int .i64 0, .int .i64 0, .int .i64 0, .int .i64 0, .int .i64 0, .slice none 0 0, .slice none 0 0, .slice none 0 0, .slice none 0 0, .slice none 0 0, .slice none 0 0] hR4 blkInfo rfl (by simp [Value.oneCell']) ?_)
      | go_in)
    intro wz hRz hgz
    have hbz := HBL.out.grown hgz HBL.out.size (fun j hj => by injection hj with hj; omega)
    go_wp2
    refine bodyPost_ret (results_cell3 rfl _ _ (w.heap.size + 1) 33 #[.int .i64 0, .int .i64 0, .int .i64 0, .int .i64 0, .int .i64 0, .int .i64 0, .int .i64 0, .int .i64 0, .int .i64 0, .int .i64 0, .int .i64 0, .int .i64 0, .slice none 0 0, .slice none 0 0, .slice none 0 0, .slice none 0 0, .slice none 0 0, .slice none 0 0] (0, 0) _ rfl hRz Try.underlying33 rfl blkInfo) rfl ⟨hbz, .inl ⟨HN.out, rfl⟩⟩
  have hs1 : nr zs q s1 tol = true := by simpa using hs1
  rw [hs1, if_pos rfl] at hone
  go_wp2_with fail
  refine hone.mono ?_
  rintro e w4 ⟨rfl, hF4, hg4'⟩
  have hg4 := grown_trans hg3 hg4'
  obtain ⟨hT4, hR4, hr4, hb4⟩ := HK.out w4 hg4
  clear hone hT3 hR3 hr3 hb3 hF3 kc1 hg3 hg4'
  have hq1 : q < N := by rw [← hl]; exact nr_lt hs1
  have hone := one_any hF4 hr4 hz hN (by omega) t0 t1 s20 s21
  have kc2 : w4.cell? ⟨w.heap.size, 2, none⟩ = some (.int .i64 s2) := (hT4.cell 2).trans rfl
  by_cases hs2 : nr zs (q + 1) s2 tol = false
  · rw [hs2] at hone
    go_wp2_with fail
    refine hone.mono ?_
    rintro e w5 ⟨rfl, hF5, hg5'⟩
    have hg5 := grown_trans hg4 hg5'
    obtain ⟨hT5, hR5, hr5, hb5⟩ := HK.out w5 hg5
    clear hone hT4 hR4 hr4 hb4 hF4 kc2
    have HN := Lib.hid (show fnd zs (a : Int) p s1 s2 z o tol = none from by rw [HNX.out, if_pos (.inr hs2)])
    have HBL := Lib.hid hb5
    go_wp2_with (first
      | (refine wpList_store_box rfl 33 _ _ rfl (w.heap.size + 1) #[.int .i64 0, .int .i64 0, .int .i64 0, .int .i64 0, .int .i64 0, .int .i64 0, .int .i64 0, .int .i64 0, .int .i64 0, .int .i64 0, .int .i64 0, .int .i64 0, .slice none 0 0, .slice none 0 0, .slice none 0 0, .slice none 0 0, .slice none 0 0, .slice none 0 0] rfl rfl 33 #[.int .i64 0, .int .i64 0, .int .i64 0, .int .i64 0, .int .i64 0, .int .i64 0, .int .i64 0, .int .i64 0, .int .i64 0, .int .i64 0, .int .i64 0, .int .i64 0, .slice none 0 0, .slice none 0 0, .slice none 0 0, .slice none 0 0, .slice none 0 0, .slice none 0 0] hR5 blkInfo rfl (by simp [Value.oneCell']) ?_)
      | go_in)
    intro wz hRz hgz
    have hbz := HBL.out.grown hgz HBL.out.size (fun j hj => by injection hj with hj; omega)
    go_wp2
    refine bodyPost_ret (results_cell3 rfl _ _ (w.heap.size + 1) 33 #[.int .i64 0, .int .i64 0, .int .i64 0, .int .i64 0, .int .i64 0, .int .i64 0, .int .i64 0, .int .i64 0, .int .i64 0, .int .i64 0, .int .i64 0, .int .i64 0, .slice none 0 0, .slice none 0 0, .slice none 0 0, .slice none 0 0, .slice none 0 0, .slice none 0 0] (0, 0) _ rfl hRz Try.underlying33 rfl blkInfo) rfl ⟨hbz, .inl ⟨HN.out, rfl⟩⟩
  have hs2 : nr zs (q + 1) s2 tol = true := by simpa using hs2
  rw [HQ.out, HM.out] at hs1 hs2
  rcases Hbad with h | h | h | h
  · rw [hm] at h; cases h
  · rw [← HM.out] at h; omega
  · rw [hs1] at h; cases h
  · rw [hs2] at h; cases h

end Go.Proofs.Ytckgmnlmimogjaa
