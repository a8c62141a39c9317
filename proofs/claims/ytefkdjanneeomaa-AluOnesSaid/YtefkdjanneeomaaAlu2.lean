/- The contracts of the program's layer 2 (alu), the second part: Cp, And, Xor, Or, Inc, Dec, Neg, Cpl, Daa, Scf, Ccf, Do. -/
import Derived.Test.YtefkdjanneeomaaAlu
import Derived.Test.YtefkdjanneeomaaP02b
namespace Go.Proofs.Ytefkdjanneeomaa
open Go.RowKit

theorem cp_any (a b : Int) (w : World) (a0 : 0 ≤ a) (a1 : a ≤ 255) (b0 : 0 ≤ b) (b1 : b ≤ 255) :
    Calls Try.prog 34 #[.int .u8 a, .int .u8 b] w fun e w' => e = .returned (.int .u8 (mixF (subF a b false) b)) ∧ Below w.heap.size w w' := by
  obtain ⟨s0, s1⟩ := subF_bd2 a b false
  have HM := Lib.hid (mix_fin s0 s1 b0 b1)
  go_enter Try.func34, Try.ntmps34
  go_wp2_with fail
  refine (subA_any _ _ _ _ a0 a1 b0 b1).mono ?_
  rintro e w1 ⟨rfl, hb1⟩
  go_wp2
  go_ret
  exact ⟨ret_int HM.out, hb1⟩
theorem andA_any (a b : Int) (w : World) (a0 : 0 ≤ a) (a1 : a ≤ 255) (b0 : 0 ≤ b) (b1 : b ≤ 255) :
    Calls Try.prog 50 #[.int .u8 a, .int .u8 b] w fun e w' => e = .returned (.tuple #[.int .u8 (joinR 4 a b), .int .u8 (joinF 4 a b)]) ∧ w = w' := by
  have e1 := and_byte a0 a1 b0 b1
  obtain ⟨r0, r1⟩ := joinR_bd 4 a b
  go_enter Try.func50, Try.ntmps50
  go_wp2_with fail
  refine (ofP_any _ _ r0 r1).mono ?_
  rintro e w' ⟨rfl, rfl⟩
  go_wp2
  go_ret2
  exact ⟨ret_two rfl (andF_fin a b), rfl⟩
theorem xorA_any (a b : Int) (w : World) (a0 : 0 ≤ a) (a1 : a ≤ 255) (b0 : 0 ≤ b) (b1 : b ≤ 255) :
    Calls Try.prog 51 #[.int .u8 a, .int .u8 b] w fun e w' => e = .returned (.tuple #[.int .u8 (joinR 5 a b), .int .u8 (joinF 5 a b)]) ∧ w = w' := by
  have e1 := xor_byte a0 a1 b0 b1
  obtain ⟨r0, r1⟩ := joinR_bd 5 a b
  go_enter Try.func51, Try.ntmps51
  go_wp2_with fail
  refine (ofP_any _ _ r0 r1).mono ?_
  rintro e w' ⟨rfl, rfl⟩
  go_wp2
  go_ret2
  exact ⟨ret_two rfl (ofPR_join a b rfl), rfl⟩
theorem orA_any (a b : Int) (w : World) (a0 : 0 ≤ a) (a1 : a ≤ 255) (b0 : 0 ≤ b) (b1 : b ≤ 255) :
    Calls Try.prog 52 #[.int .u8 a, .int .u8 b] w fun e w' => e = .returned (.tuple #[.int .u8 (joinR 6 a b), .int .u8 (joinF 6 a b)]) ∧ w = w' := by
  have e1 := or_byte a0 a1 b0 b1
  obtain ⟨r0, r1⟩ := joinR_bd 6 a b
  go_enter Try.func52, Try.ntmps52
  go_wp2_with fail
  refine (ofP_any _ _ r0 r1).mono ?_
  rintro e w' ⟨rfl, rfl⟩
  go_wp2
  go_ret2
  exact ⟨ret_two rfl (ofPR_join a b rfl), rfl⟩
theorem inc_any (a f : Int) (w : World) (a0 : 0 ≤ a) (a1 : a ≤ 255) (f0 : 0 ≤ f) (f1 : f ≤ 255) :
    Calls Try.prog 37 #[.int .u8 a, .int .u8 f] w fun e w' => e = .returned (.tuple #[.int .u8 (addR a 1 false), .int .u8 (keepF (addF a 1 false) f)]) ∧ Below w.heap.size w w' := by
  obtain ⟨s0, s1⟩ := addF_bd a 1 false
  have HM := Lib.hid (keep_fin s0 s1 f0 f1)
  go_enter Try.func37, Try.ntmps37
  go_wp2_with fail
  refine (addA_any _ _ _ _ a0 a1 (by omega) (by omega)).mono ?_
  rintro e w1 ⟨rfl, hb1⟩
  go_wp2
  go_ret2
  exact ⟨ret_two rfl HM.out, hb1⟩
theorem dec_any (a f : Int) (w : World) (a0 : 0 ≤ a) (a1 : a ≤ 255) (f0 : 0 ≤ f) (f1 : f ≤ 255) :
    Calls Try.prog 38 #[.int .u8 a, .int .u8 f] w fun e w' => e = .returned (.tuple #[.int .u8 (subR a 1 false), .int .u8 (keepF (subF a 1 false) f)]) ∧ Below w.heap.size w w' := by
  obtain ⟨s0, s1⟩ := subF_bd2 a 1 false
  have HM := Lib.hid (keep_fin s0 s1 f0 f1)
  go_enter Try.func38, Try.ntmps38
  go_wp2_with fail
  refine (subA_any _ _ _ _ a0 a1 (by omega) (by omega)).mono ?_
  rintro e w1 ⟨rfl, hb1⟩
  go_wp2
  go_ret2
  exact ⟨ret_two rfl HM.out, hb1⟩
theorem neg_any (a : Int) (w : World) (a0 : 0 ≤ a) (a1 : a ≤ 255) :
    Calls Try.prog 36 #[.int .u8 a] w fun e w' => e = .returned (.tuple #[.int .u8 (subR 0 a false), .int .u8 (subF 0 a false)]) ∧ Below w.heap.size w w' := by
  go_enter Try.func36, Try.ntmps36
  go_wp2_with fail
  refine (subA_any _ _ _ _ (by omega) (by omega) a0 a1).mono ?_
  rintro e w1 ⟨rfl, hb1⟩
  go_wp2
  go_ret2
  exact ⟨ret_two rfl rfl, hb1⟩
theorem cpl_any (a f : Int) (w : World) (a0 : 0 ≤ a) (a1 : a ≤ 255) (f0 : 0 ≤ f) (f1 : f ≤ 255) :
    Calls Try.prog 39 #[.int .u8 a, .int .u8 f] w fun e w' => e = .returned (.tuple #[.int .u8 (255 - a), .int .u8 (cplF a f)]) ∧ w = w' := by
  have e1 := not_num a0 a1
  have HF := Lib.hid (cpl_fin f0 f1 a0 a1)
  go_enter Try.func39, Try.ntmps39
  go_wp2
  go_ret2
  exact ⟨ret_two rfl HF.out, rfl⟩
theorem scf_any (a f q : Int) (w : World) (a0 : 0 ≤ a) (a1 : a ≤ 255) (f0 : 0 ≤ f) (f1 : f ≤ 255) (q0 : 0 ≤ q) (q1 : q ≤ 255) :
    Calls Try.prog 28 #[.int .u8 a, .int .u8 f, .int .u8 q] w fun e w' => e = .returned (.int .u8 (scfF a f q)) ∧ w = w' := by
  have HF := Lib.hid (scf_fin f0 f1 a0 a1 q0 q1)
  go_enter Try.func28, Try.ntmps28
  go_wp2
  go_ret
  exact ⟨ret_int HF.out, rfl⟩
theorem bitRow2 {w : World} {g : Nat} {t : TypeId} {f0 f1 : Int} {o0 o1 : Bool} (h : w.heap[g]? = some (.cells #[.int .u8 f0, .bool o0, .int .u8 f1, .bool o1] t (0, 0))) : BitRow w g 2 (sel3 f0 f1 f1) (sel3 o0 o1 o1) := by
  intro j hj
  rcases (show j = 0 ∨ j = 1 by omega) with rfl | rfl <;> (constructor <;> (rw [cell_of_row w g _ _ t (0, 0) h]; rfl))
theorem set2_any (f f0 f1 : Int) (o0 o1 : Bool) (w : World) (t : TypeId) :
    Calls Try.prog 61 #[.int .u8 f, .slice (some ⟨w.heap.size, 0, none⟩) 2 2] (w.alloc (.cells #[.int .u8 f0, .bool o0, .int .u8 f1, .bool o1] t)) fun e w' =>
      e = .returned (.int .u8 (withS (withS f f0 o0) f1 o1)) ∧ Below w.heap.size w w' :=
  (set_any f w.heap.size 2 (sel3 f0 f1 f1) (sel3 o0 o1 o1) _ (by omega) (by simp) (bitRow2 (heap_alloc_new w _))).mono fun e w' ⟨he, hb⟩ =>
    ⟨he, ((Below.refl _ _).alloc (Nat.le_refl _) _).trans (hb.mono (by simp))⟩
theorem ccf_any (a f q : Int) (w : World) (a0 : 0 ≤ a) (a1 : a ≤ 255) (f0 : 0 ≤ f) (f1 : f ≤ 255) (q0 : 0 ≤ q) (q1 : q ≤ 255) :
    Calls Try.prog 30 #[.int .u8 a, .int .u8 f, .int .u8 q] w fun e w' => e = .returned (.int .u8 (ccfF a f q)) ∧ Below w.heap.size w w' := by
  have HF := Lib.hid (ccf_fin f0 f1 a0 a1 q0 q1)
  go_enter Try.func30, Try.ntmps30
  go_wp2_with fail
  refine (has_any _ _ _).mono ?_
  rintro e w' ⟨rfl, rfl⟩
  go_wp2_with fail
  refine (set2_any _ _ _ _ _ _ _).mono ?_
  rintro e w1 ⟨rfl, hb1⟩
  go_wp2
  go_ret
  exact ⟨ret_int HF.out, hb1⟩
set_option maxHeartbeats 4000000 in
theorem daa_any (a f : Int) (w : World) (a0 : 0 ≤ a) (a1 : a ≤ 255) (f0 : 0 ≤ f) (f1 : f ≤ 255) :
    Calls Try.prog 25 #[.int .u8 a, .int .u8 f] w fun e w' => e = .returned (.tuple #[.int .u8 (daaR a f), .int .u8 (daaF a f)]) ∧ Below w.heap.size w w' := by
  have hh : hasS f 2 = bitH f 6 ∧ hasS f 16 = bitH f 3 ∧ hasS f 1 = bitH f 7 := ⟨ask2 f0 f1, ask16 f0 f1, ask1 f0 f1⟩
  have HH := Lib.hid hh
  clear hh
  have HF : ∀ r x y z, r = daaR a f → x = bitH f 6 → y = daaH a f → z = daaC a f → withS (withS (withS (ofPR r) 2 x) 16 y) 1 z = daaF a f := by
    rintro r x y z rfl rfl rfl rfl
    exact daa_fin (daaR_bd a f).1 (daaR_bd a f).2 _ _ _
  have HF := Lib.hid HF
  obtain ⟨n, hn⟩ : ∃ n, n = bitH f 6 := ⟨_, rfl⟩
  obtain ⟨h, hh⟩ : ∃ h, h = bitH f 3 := ⟨_, rfl⟩
  obtain ⟨c, hc⟩ : ∃ c, c = bitH f 7 := ⟨_, rfl⟩
  have HN := Lib.hid hn
  have HE := Lib.hid hh
  have HC := Lib.hid hc
  clear hn hh hc
  by_cases hlow : 9 < a % 16
  all_goals by_cases hhi : 153 < a
  all_goals cases n
  all_goals cases h
  all_goals cases c
  all_goals
    have HR : Hid (daaR a f = _ ∧ daaH a f = _ ∧ daaC a f = _) := ⟨by unfold daaR daaD; rw [← HN.out, ← HE.out, ← HC.out], by unfold daaH; rw [← HN.out, ← HE.out], by unfold daaC; rw [← HC.out]⟩
    go_enter Try.func25, Try.ntmps25
    go_wp2_with fail
    refine (has_any _ _ _).mono ?_
    rintro e w' ⟨rfl, rfl⟩
    rw [HH.out.1, ← HN.out]
    go_wp2_with fail
    refine (has_any _ _ _).mono ?_
    rintro e w' ⟨rfl, rfl⟩
    rw [HH.out.2.1, ← HE.out]
    go_wp2_with fail
    refine (has_any _ _ _).mono ?_
    rintro e w' ⟨rfl, rfl⟩
    rw [HH.out.2.2, ← HC.out]
    go_wp2_with fail
    refine (ofP_any _ _ (by omega) (by omega)).mono ?_
    rintro e w' ⟨rfl, rfl⟩
    go_wp2_with fail
    refine (set3_any _ _ _ _ _ _ _ _ _).mono ?_
    rintro e w1 ⟨rfl, hb⟩
    go_wp2
    go_ret2
    have hr := HR.out
    simp [hlow, hhi] at hr
    refine ⟨ret_two ?_ (HF.out _ _ _ _ ?_ HN.out ?_ ?_), hb⟩
    all_goals first | exact hr.1.symm | exact hr.2.1.symm | exact hr.2.2.symm | (rw [hr.1]; omega) | (rw [hr.2.1]; simp; omega) | (rw [hr.2.1]; simp [hlow]; done)

end Go.Proofs.Ytefkdjanneeomaa
