/- The laws of layer 2, walked: lives, AluBack, AluSigned: each returns true and writes nothing that was there. -/
import Derived.Test.YtefkdjanneeomaaAlu2
import Derived.Test.YtefkdjanneeomaaP02c
import Derived.OpenShut
namespace Go.Proofs.Ytefkdjanneeomaa
open Go.RowKit

theorem lives02 (w : World) :
    Calls Try.prog 27 #[] w fun e w' => e = .returned (.bool true) ∧ Below w.heap.size w w' := by
  go_enter Try.func27, Try.ntmps27
  go_wp2_with fail
  refine (addA_any _ _ _ _ (by omega) (by omega) (by omega) (by omega)).mono ?_
  rintro e w1 ⟨rfl, hb1⟩
  rw [lives2_num.1, lives2_num.2.1]
  go_wp2_with fail
  refine (daa_any _ _ _ (by omega) (by omega) (by omega) (by omega)).mono ?_
  rintro e w2 ⟨rfl, hb2⟩
  rw [lives2_num.2.2.1, lives2_num.2.2.2]
  go_wp2
  go_ret
  exact ⟨rfl, bthen hb1 hb2⟩

set_option maxHeartbeats 1000000 in
theorem aluBack_walk (a b : Int) (c : Bool) (w : World) (w0 : (Lit.int .u8 a).wf = true) (w1 : (Lit.int .u8 b).wf = true) :
    Calls Try.prog 9 #[.int .u8 a, .int .u8 b, .bool c] w fun e w' => e = .returned (.bool true) ∧ Below w.heap.size w w' := by
  obtain ⟨a0, a1⟩ := bounds_u8 w0
  obtain ⟨b0, b1⟩ := bounds_u8 w1
  clear w0 w1
  obtain ⟨r0, r1⟩ := addR_bd a b c
  obtain ⟨s0, s1⟩ := subR_bd a b false
  obtain ⟨t0, t1⟩ := addR_bd a 1 false
  have K1 := Lib.hid (add_back (b := b) c a0 a1)
  have K2 := Lib.hid (neg_back (a := a) (b := b))
  have K3 := Lib.hid (one_back a0 a1)
  have K4 := Lib.hid (sub_zero a0 a1 b0 b1)
  have K5 := Lib.hid (sub_less (a := a) (b := b))
  go_enter Try.func9, Try.ntmps9
  go_wp2_with fail
  refine (addA_any _ _ _ _ a0 a1 b0 b1).mono ?_
  rintro e w1 ⟨rfl, hb1⟩
  go_wp2_with fail
  refine (subA_any _ _ _ _ r0 r1 b0 b1).mono ?_
  rintro e w2 ⟨rfl, hb2⟩
  rw [K1.out]
  go_wp2_with fail
  refine (subA_any _ _ _ _ a0 a1 b0 b1).mono ?_
  rintro e w3 ⟨rfl, hb3⟩
  go_wp2_with fail
  refine (neg_any _ _ s0 s1).mono ?_
  rintro e w4 ⟨rfl, hb4⟩
  rw [K2.out]
  go_wp2_with fail
  refine (subA_any _ _ _ _ b0 b1 a0 a1).mono ?_
  rintro e w5 ⟨rfl, hb5⟩
  go_wp2_with fail
  refine (inc_any _ _ _ a0 a1 (by omega) (by omega)).mono ?_
  rintro e w6 ⟨rfl, hb6⟩
  go_wp2_with fail
  refine (dec_any _ _ _ t0 t1 (by omega) (by omega)).mono ?_
  rintro e w7 ⟨rfl, hb7⟩
  rw [K3.out]
  have k4 := K4.out
  have k5 := K5.out
  go_wp2_with fail
  refine (lives02 _).mono ?_
  rintro e w8 ⟨rfl, hb8⟩
  go_wp2
  go_ret
  exact ⟨rfl, bthen (bthen (bthen (bthen (bthen (bthen (bthen hb1 hb2) hb3) hb4) hb5) hb6) hb7) hb8⟩

set_option maxHeartbeats 1000000 in
theorem aluSigned_walk (a b : Int) (w : World) (w0 : (Lit.int .u8 a).wf = true) (w1 : (Lit.int .u8 b).wf = true) :
    Calls Try.prog 8 #[.int .u8 a, .int .u8 b] w fun e w' => e = .returned (.bool true) ∧ Below w.heap.size w w' := by
  obtain ⟨a0, a1⟩ := bounds_u8 w0
  obtain ⟨b0, b1⟩ := bounds_u8 w1
  clear w0 w1
  obtain ⟨s0, s1⟩ := subR_bd 0 a false
  have K1 := Lib.hid (neg_twice a0 a1)
  have k2 := cp_S a b
  have k3 := cp_P a b
  have k4 := Lib.hid (cp_Z a0 a1 b0 b1)
  have hs := signed2_num a0 a1 b0 b1
  have E1 := Lib.hid (i8_wrap a0 a1)
  have E2 := Lib.hid (i8_wrap b0 b1)
  generalize bitH (subR a b false) 0 = x at k2 hs
  generalize overS (sgn8 a - sgn8 b) = y at k3 hs
  have K2 := Lib.hid k2
  have K3 := Lib.hid k3
  clear k2 k3
  by_cases hlt : sgn8 a < sgn8 b
  · rw [decide_eq_true hlt] at hs
    cases x
    all_goals cases y
    all_goals first
      | (exfalso; revert hs; decide)
      | (clear hs
         go_enter Try.func8, Try.ntmps8
         go_wp2_with fail
         refine (cp_any _ _ _ a0 a1 b0 b1).mono ?_
         rintro e w1 ⟨rfl, hb1⟩
         go_wp2_with fail
         refine (neg_any _ _ a0 a1).mono ?_
         rintro e w2 ⟨rfl, hb2⟩
         go_wp2_with fail
         refine (neg_any _ _ s0 s1).mono ?_
         rintro e w3 ⟨rfl, hb3⟩
         rw [K1.out]
         have e1 := E1.out
         have e2 := E2.out
         have k2 := K2.out
         have k3 := K3.out
         have k4' := k4.out
         go_wp2_with fail
         refine (lives02 _).mono ?_
         rintro e w8 ⟨rfl, hb8⟩
         go_wp2
         go_ret
         exact ⟨rfl, bthen (bthen (bthen hb1 hb2) hb3) hb8⟩)
  · have hd : decide (sgn8 a < sgn8 b) = false := decide_eq_false hlt
    rw [hd] at hs
    cases x
    all_goals cases y
    all_goals first
      | (exfalso; revert hs; decide)
      | (clear hs
         go_enter Try.func8, Try.ntmps8
         go_wp2_with fail
         refine (cp_any _ _ _ a0 a1 b0 b1).mono ?_
         rintro e w1 ⟨rfl, hb1⟩
         go_wp2_with fail
         refine (neg_any _ _ a0 a1).mono ?_
         rintro e w2 ⟨rfl, hb2⟩
         go_wp2_with fail
         refine (neg_any _ _ s0 s1).mono ?_
         rintro e w3 ⟨rfl, hb3⟩
         rw [K1.out]
         have e1 := E1.out
         have e2 := E2.out
         have k2 := K2.out
         have k3 := K3.out
         have k4' := k4.out
         go_wp2_with fail
         refine (lives02 _).mono ?_
         rintro e w8 ⟨rfl, hb8⟩
         go_wp2
         go_ret
         exact ⟨rfl, bthen (bthen (bthen hb1 hb2) hb3) hb8⟩)

end Go.Proofs.Ytefkdjanneeomaa
