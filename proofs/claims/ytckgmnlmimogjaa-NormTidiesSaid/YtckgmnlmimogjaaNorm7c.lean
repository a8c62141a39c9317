/- Contracts of layer 27: squealref27.Find: the walk findR_bad. -/
import Derived.Test.YtckgmnlmimogjaaNorm5
import Derived.Test.YtckgmnlmimogjaaNorm6
import Derived.Laws.StructEq
import Derived.Deep.RegionHeld3
import Derived.Deep.CutRange
namespace Go.Proofs.Ytckgmnlmimogjaa
open Go.RowKit
set_option linter.unusedVariables false

set_option maxRecDepth 100000 in
set_option maxHeartbeats 16000000 in
theorem findR_bad (w : World) (A : Option Addr) (N c : Nat) (zs : List Int) (a : Nat) (p s1 s2 z o tol : Int) (hr : Reads w w.heap.size 1 A N (zs.map (Value.int .u32))) (hz : isU32 zs) (hN : N ≤ 5000) (hat : a < zs.length) (Hm : mayB p s1 s2 z o tol = true) (Hbad : runN zs a p tol < 256 ∨ nr zs (a + runN zs a p tol) s1 tol = false ∨ nr zs (a + runN zs a p tol + 1) s2 tol = false) :
    Calls Try.prog 10 #[.slice A N c, .int .i64 a, .agg #[.int .i64 p, .int .i64 s1, .int .i64 s2, .int .i64 z, .int .i64 o], .int .i64 tol] w fun e w' => Below w.heap.size w w' ∧ Found w w' e zs a p s1 s2 z o tol := by
  have hl := reads_len hr
  have hb0 : Below w.heap.size w ((w.alloc (.cells #[.int .i64 p, .int .i64 s1, .int .i64 s2, .int .i64 z, .int .i64 o] 25)).alloc (.cells #[.int .i64 0, .int .i64 0, .int .i64 0, .int .i64 0, .int .i64 0, .int .i64 0, .int .i64 0, .int .i64 0, .int .i64 0, .int .i64 0, .int .i64 0, .int .i64 0, .slice none 0 0, .slice none 0 0, .slice none 0 0, .slice none 0 0, .slice none 0 0, .slice none 0 0] 33)) := ((Below.refl _ _).alloc (Nat.le_refl _) _).alloc (by simp) _
  have hT0 : Blk ((w.alloc (.cells #[.int .i64 p, .int .i64 s1, .int .i64 s2, .int .i64 z, .int .i64 o] 25)).alloc (.cells #[.int .i64 0, .int .i64 0, .int .i64 0, .int .i64 0, .int .i64 0, .int .i64 0, .int .i64 0, .int .i64 0, .int .i64 0, .int .i64 0, .int .i64 0, .int .i64 0, .slice none 0 0, .slice none 0 0, .slice none 0 0, .slice none 0 0, .slice none 0 0, .slice none 0 0] 33)) w.heap.size 25 #[.int .i64 p, .int .i64 s1, .int .i64 s2, .int .i64 z, .int .i64 o] := Blk.alloc (Blk.new w _ _) _
  have hR0 : Blk ((w.alloc (.cells #[.int .i64 p, .int .i64 s1, .int .i64 s2, .int .i64 z, .int .i64 o] 25)).alloc (.cells #[.int .i64 0, .int .i64 0, .int .i64 0, .int .i64 0, .int .i64 0, .int .i64 0, .int .i64 0, .int .i64 0, .int .i64 0, .int .i64 0, .int .i64 0, .int .i64 0, .slice none 0 0, .slice none 0 0, .slice none 0 0, .slice none 0 0, .slice none 0 0, .slice none 0 0] 33)) (w.heap.size + 1) 33 #[.int .i64 0, .int .i64 0, .int .i64 0, .int .i64 0, .int .i64 0, .int .i64 0, .int .i64 0, .int .i64 0, .int .i64 0, .int .i64 0, .int .i64 0, .int .i64 0, .slice none 0 0, .slice none 0 0, .slice none 0 0, .slice none 0 0, .slice none 0 0, .slice none 0 0] := by
    have := Blk.new (w.alloc (.cells #[.int .i64 p, .int .i64 s1, .int .i64 s2, .int .i64 z, .int .i64 o] 25)) 33 #[.int .i64 0, .int .i64 0, .int .i64 0, .int .i64 0, .int .i64 0, .int .i64 0, .int .i64 0, .int .i64 0, .int .i64 0, .int .i64 0, .int .i64 0, .int .i64 0, .slice none 0 0, .slice none 0 0, .slice none 0 0, .slice none 0 0, .slice none 0 0, .slice none 0 0]
    simpa using this
  have hge : ¬ N ≤ a := by omega
  have ha0 : (0 : Int) ≤ (a : Int) := Int.natCast_nonneg _
  have hgI : ¬ (N : Int) ≤ (a : Int) := by omega
  have ht0 : (w.alloc (.cells #[.int .i64 p, .int .i64 s1, .int .i64 s2, .int .i64 z, .int .i64 o] 25)).heap.size = w.heap.size + 1 := by simp
  go_enter Try.func10, Try.ntmps10
  obtain ⟨⟨p0, p1⟩, ⟨s10, s11⟩, ⟨s20, s21⟩, ⟨z0, z1⟩, ⟨o0, o1⟩, ⟨t0, t1⟩⟩ := may_in Hm
  have tolN0 : ¬ tol < 0 := by omega
  have tolN1 : ¬ (65535 : Int) < tol := by omega
  have pN0 : ¬ p < 0 := by omega
  have pN1 : ¬ (65535 : Int) < p := by omega
  have s1N0 : ¬ s1 < 0 := by omega
  have s1N1 : ¬ (65535 : Int) < s1 := by omega
  have s2N0 : ¬ s2 < 0 := by omega
  have s2N1 : ¬ (65535 : Int) < s2 := by omega
  have zN0 : ¬ z < 0 := by omega
  have zN1 : ¬ (65535 : Int) < z := by omega
  have oN0 : ¬ o < 0 := by omega
  have oN1 : ¬ (65535 : Int) < o := by omega
  have hmN : a + runN zs a p tol ≤ N := by rw [← hl]; exact runN_in (by omega)
  obtain ⟨m, hme⟩ : ∃ m, m = runN zs a p tol := ⟨_, rfl⟩
  have HNR := Lib.hid (show ∀ (w' : World) (q : Nat) (n : Int), Below w.heap.size w w' → q ≤ 100000 → 0 ≤ n → n ≤ 65535 → Calls Try.prog 25 #[.slice A N c, .int .i64 q, .int .i64 n, .int .i64 tol] w' fun e w'' => e = .returned (.bool (nr zs q n tol)) ∧ w' = w'' from fun w' q n hb hq h0 h1 => nearR_any (hr.below hb) hz hN hq t0 t1 h0 h1)
  have HAT := Lib.hid (fun j (hj : j ≤ runN zs a p tol) => runN_at hj)
  rw [← hme] at hmN HAT
  have HM := Lib.hid hme
  have HR := Lib.hid hr
  have HZ := Lib.hid hz
  clear hme hr hz
  have kc0 : ((w.alloc (.cells #[.int .i64 p, .int .i64 s1, .int .i64 s2, .int .i64 z, .int .i64 o] 25)).alloc (.cells #[.int .i64 0, .int .i64 0, .int .i64 0, .int .i64 0, .int .i64 0, .int .i64 0, .int .i64 0, .int .i64 0, .int .i64 0, .int .i64 0, .int .i64 0, .int .i64 0, .slice none 0 0, .slice none 0 0, .slice none 0 0, .slice none 0 0, .slice none 0 0, .slice none 0 0] 33)).cell? ⟨w.heap.size, 0, none⟩ = some (.int .i64 p) := (hT0.cell 0).trans rfl
  have kc1 : ((w.alloc (.cells #[.int .i64 p, .int .i64 s1, .int .i64 s2, .int .i64 z, .int .i64 o] 25)).alloc (.cells #[.int .i64 0, .int .i64 0, .int .i64 0, .int .i64 0, .int .i64 0, .int .i64 0, .int .i64 0, .int .i64 0, .int .i64 0, .int .i64 0, .int .i64 0, .int .i64 0, .slice none 0 0, .slice none 0 0, .slice none 0 0, .slice none 0 0, .slice none 0 0, .slice none 0 0] 33)).cell? ⟨w.heap.size, 1, none⟩ = some (.int .i64 s1) := (hT0.cell 1).trans rfl
  have kc2 : ((w.alloc (.cells #[.int .i64 p, .int .i64 s1, .int .i64 s2, .int .i64 z, .int .i64 o] 25)).alloc (.cells #[.int .i64 0, .int .i64 0, .int .i64 0, .int .i64 0, .int .i64 0, .int .i64 0, .int .i64 0, .int .i64 0, .int .i64 0, .int .i64 0, .int .i64 0, .int .i64 0, .slice none 0 0, .slice none 0 0, .slice none 0 0, .slice none 0 0, .slice none 0 0, .slice none 0 0] 33)).cell? ⟨w.heap.size, 2, none⟩ = some (.int .i64 s2) := (hT0.cell 2).trans rfl
  have kc3 : ((w.alloc (.cells #[.int .i64 p, .int .i64 s1, .int .i64 s2, .int .i64 z, .int .i64 o] 25)).alloc (.cells #[.int .i64 0, .int .i64 0, .int .i64 0, .int .i64 0, .int .i64 0, .int .i64 0, .int .i64 0, .int .i64 0, .int .i64 0, .int .i64 0, .int .i64 0, .int .i64 0, .slice none 0 0, .slice none 0 0, .slice none 0 0, .slice none 0 0, .slice none 0 0, .slice none 0 0] 33)).cell? ⟨w.heap.size, 3, none⟩ = some (.int .i64 z) := (hT0.cell 3).trans rfl
  have kc4 : ((w.alloc (.cells #[.int .i64 p, .int .i64 s1, .int .i64 s2, .int .i64 z, .int .i64 o] 25)).alloc (.cells #[.int .i64 0, .int .i64 0, .int .i64 0, .int .i64 0, .int .i64 0, .int .i64 0, .int .i64 0, .int .i64 0, .int .i64 0, .int .i64 0, .int .i64 0, .int .i64 0, .slice none 0 0, .slice none 0 0, .slice none 0 0, .slice none 0 0, .slice none 0 0, .slice none 0 0] 33)).cell? ⟨w.heap.size, 4, none⟩ = some (.int .i64 o) := (hT0.cell 4).trans rfl
  go_wp2_with fail
  generalize ((w.alloc (.cells #[.int .i64 p, .int .i64 s1, .int .i64 s2, .int .i64 z, .int .i64 o] 25)).alloc (.cells #[.int .i64 0, .int .i64 0, .int .i64 0, .int .i64 0, .int .i64 0, .int .i64 0, .int .i64 0, .int .i64 0, .int .i64 0, .int .i64 0, .int .i64 0, .int .i64 0, .slice none 0 0, .slice none 0 0, .slice none 0 0, .slice none 0 0, .slice none 0 0, .slice none 0 0] 33)) = W1 at *
  have hgW := hR0.lt
  go_loop [11] (fun x => ∃ j : Nat, j ≤ m ∧ x = .int .i64 j) (fun x => m + 1 - (intOf x).toNat)
  case atStart => exact ⟨0, by omega, rfl⟩
  case round =>
    obtain ⟨j, hj, rfl⟩ := hrel
    obtain ⟨aj, haj⟩ : ∃ aj, aj = a + j := ⟨_, rfl⟩
    have hw : IntKind.i64.wrap ((a : Int) + (j : Int)) = (aj : Int) := by rw [IntKind.wrap_i64]; omega
    have hnear := HNR.out W1 aj p hb0 (by omega) p0 p1
    rw [haj, HAT.out j hj, ← haj] at hnear
    have HAJ := Lib.hid haj
    clear haj
    by_cases hlt : j < m
    · have hd : decide (j < m) = true := by simp [hlt]
      rw [hd] at hnear
      have hw2 : IntKind.i64.wrap ((j : Int) + 1) = (j : Int) + 1 := by rw [IntKind.wrap_i64]; omega
      go_wp2_with fail
      refine hnear.mono ?_
      rintro e w' ⟨rfl, rfl⟩
      go_wp2
      go_round
      case rel => exact ⟨j + 1, by omega, by go_num⟩
      case measure => simp [intOf]; omega
    · obtain rfl : j = m := by omega
      have hd : decide (j < j) = false := by simp
      rw [hd] at hnear
      go_wp2_with fail
      refine hnear.mono ?_
      rintro e w' ⟨rfl, rfl⟩
      clear hnear hd hj hlt HAT
      have hqN : aj ≤ N := by have := HAJ.out; omega
      have hj3 : j ≤ 5000 := by have := HAJ.out; omega
      by_cases h256 : j < 256
      · have hjI : (j : Int) < 256 := by omega
        have HN := Lib.hid (show fnd zs (a : Int) p s1 s2 z o tol = none from fnd_few hat Hm (by rw [← HM.out]; exact h256))
        have HBL := Lib.hid hb0
        go_wp2_with (first
          | (refine wpList_store_box rfl 33 _ _ rfl (w.heap.size + 1) #[.int .i64 0, .int .i64 0, .int .i64 0, .int .i64 0, .int .i64 0, .int .i64 0, .int .i64 0, .int .i64 0, .int .i64 0, .int .i64 0, .int .i64 0, .int .i64 0, .slice none 0 0, .slice none 0 0, .slice none 0 0, .slice none 0 0, .slice none 0 0, .slice none 0 0] rfl rfl 33 #[.int .i64 0, .int .i64 0, .int .i64 0, .int .i64 0, .int .i64 0, .int .i64 0, .int .i64 0, .int .i64 0, .int .i64 0, .int .i64 0, .int .i64 0, .int .i64 0, .slice none 0 0, .slice none 0 0, .slice none 0 0, .slice none 0 0, .slice none 0 0, .slice none 0 0] hR0 blkInfo rfl (by simp [Value.oneCell']) ?_)
          | go_in)
        intro wz hRz hgz
        have hbz := HBL.out.grown hgz HBL.out.size (fun j hj => by injection hj with hj; omega)
        go_wp2
        refine bodyPost_ret (results_cell3 rfl _ _ (w.heap.size + 1) 33 #[.int .i64 0, .int .i64 0, .int .i64 0, .int .i64 0, .int .i64 0, .int .i64 0, .int .i64 0, .int .i64 0, .int .i64 0, .int .i64 0, .int .i64 0, .int .i64 0, .slice none 0 0, .slice none 0 0, .slice none 0 0, .slice none 0 0, .slice none 0 0, .slice none 0 0] (0, 0) _ rfl hRz Try.underlying33 rfl blkInfo) rfl ⟨hbz, .inl ⟨HN.out, rfl⟩⟩
      have hjI : ¬ (j : Int) < 256 := by omega
      have hq1 := HNR.out W1 aj s1 hb0 (by omega) s10 s11
      have HNX := Lib.hid (fnd_k (zs := zs) (p := p) (s1 := s1) (s2 := s2) (z := z) (o := o) (tol := tol) hat Hm (m := j) (q := aj) HM.out HAJ.out h256)
      obtain ⟨a1, ha1⟩ : ∃ a1, a1 = aj + 1 := ⟨_, rfl⟩
      have hwa1 : IntKind.i64.wrap ((aj : Int) + 1) = (a1 : Int) := by rw [IntKind.wrap_i64]; omega
      have hq2 := HNR.out W1 a1 s2 hb0 (by omega) s20 s21
      have HA1 := Lib.hid ha1
      clear ha1
      by_cases hs1 : nr zs aj s1 tol = false
      · rw [hs1] at hq1
        go_wp2_with fail
        refine hq1.mono ?_
        rintro e w' ⟨rfl, rfl⟩
        clear hq1 hq2
        have HN := Lib.hid (show fnd zs (a : Int) p s1 s2 z o tol = none from by rw [HNX.out, if_pos (.inl hs1)])
        have HBL := Lib.hid hb0
        go_wp2_with (first
          | (refine wpList_store_box rfl 33 _ _ rfl (w.heap.size + 1) #[.int .i64 0, .int .i64 0, .int .i64 0, .int .i64 0, .int .i64 0, .int .i64 0, .int .i64 0, .int .i64 0, .int .i64 0, .int .i64 0, .int .i64 0, .int .i64 0, .slice none 0 0, .slice none 0 0, .slice none 0 0, .slice none 0 0, .slice none 0 0, .slice none 0 0] rfl rfl 33 #[.int .i64 0, .int .i64 0, .int .i64 0, .int .i64 0, .int .i64 0, .int .i64 0, .int .i64 0, .int .i64 0, .int .i64 0, .int .i64 0, .int .i64 0, .int .i64 0, .slice none 0 0, .slice none 0 0, .slice none 0 0, .slice none 0 0, .slice none 0 0, .slice none 0 0] hR0 blkInfo rfl (by simp [Value.oneCell']) ?_)
          | go_in)
        intro wz hRz hgz
        have hbz := HBL.out.grown hgz HBL.out.size (fun j hj => by injection hj with hj; omega)
        go_wp2
        refine bodyPost_ret (results_cell3 rfl _ _ (w.heap.size + 1) 33 #[.int .i64 0, .int .i64 0, .int .i64 0, .int .i64 0, .int .i64 0, .int .i64 0, .int .i64 0, .int .i64 0, .int .i64 0, .int .i64 0, .int .i64 0, .int .i64 0, .slice none 0 0, .slice none 0 0, .slice none 0 0, .slice none 0 0, .slice none 0 0, .slice none 0 0] (0, 0) _ rfl hRz Try.underlying33 rfl blkInfo) rfl ⟨hbz, .inl ⟨HN.out, rfl⟩⟩
      have hs1 : nr zs aj s1 tol = true := by simpa using hs1
      rw [hs1] at hq1
      by_cases hs2 : nr zs a1 s2 tol = false
      · rw [hs2] at hq2
        go_wp2_with fail
        refine hq1.mono ?_
        rintro e w' ⟨rfl, rfl⟩
        go_wp2_with fail
        refine hq2.mono ?_
        rintro e w' ⟨rfl, rfl⟩
        clear hq1 hq2
        have HN := Lib.hid (show fnd zs (a : Int) p s1 s2 z o tol = none from by rw [HNX.out, if_pos (.inr (by rw [← HA1.out]; exact hs2))])
        have HBL := Lib.hid hb0
        go_wp2_with (first
          | (refine wpList_store_box rfl 33 _ _ rfl (w.heap.size + 1) #[.int .i64 0, .int .i64 0, .int .i64 0, .int .i64 0, .int .i64 0, .int .i64 0, .int .i64 0, .int .i64 0, .int .i64 0, .int .i64 0, .int .i64 0, .int .i64 0, .slice none 0 0, .slice none 0 0, .slice none 0 0, .slice none 0 0, .slice none 0 0, .slice none 0 0] rfl rfl 33 #[.int .i64 0, .int .i64 0, .int .i64 0, .int .i64 0, .int .i64 0, .int .i64 0, .int .i64 0, .int .i64 0, .int .i64 0, .int .i64 0, .int .i64 0, .int .i64 0, .slice none 0 0, .slice none 0 0, .slice none 0 0, .slice none 0 0, .slice none 0 0, .slice none 0 0] hR0 blkInfo rfl (by simp [Value.oneCell']) ?_)
          | go_in)
        intro wz hRz hgz
        have hbz := HBL.out.grown hgz HBL.out.size (fun j hj => by injection hj with hj; omega)
        go_wp2
        refine bodyPost_ret (results_cell3 rfl _ _ (w.heap.size + 1) 33 #[.int .i64 0, .int .i64 0, .int .i64 0, .int .i64 0, .int .i64 0, .int .i64 0, .int .i64 0, .int .i64 0, .int .i64 0, .int .i64 0, .int .i64 0, .int .i64 0, .slice none 0 0, .slice none 0 0, .slice none 0 0, .slice none 0 0, .slice none 0 0, .slice none 0 0] (0, 0) _ rfl hRz Try.underlying33 rfl blkInfo) rfl ⟨hbz, .inl ⟨HN.out, rfl⟩⟩
      have hs2 : nr zs a1 s2 tol = true := by simpa using hs2
      rw [HA1.out] at hs2
      rw [HAJ.out, HM.out] at hs1 hs2
      rcases Hbad with h | h | h
      · rw [← HM.out] at h; omega
      · rw [hs1] at h; cases h
      · rw [hs2] at h; cases h

end Go.Proofs.Ytckgmnlmimogjaa
