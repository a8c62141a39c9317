/- The laws of layer 3, walked: WideSteps, WideParts, WideSums, WideSigned, WideBack: each returns true and writes nothing that was there. -/
import Derived.Test.YtcjnnenmgliakaaWide
import Derived.Test.YtcjnnenmgliakaaR03
import Derived.OpenShut
namespace Go.Proofs.Ytcjnnenmgliakaa
open Go.RowKit

theorem u16_bd {a : Int} (h : (Lit.int .u16 a).wf = true) : 0 ≤ a ∧ a ≤ 65535 := by
  have h1 : IntKind.u16.min = 0 := rfl
  have h2 : IntKind.u16.max = 65535 := rfl
  simp only [Lit.wf, Bool.and_eq_true, decide_eq_true_eq] at h
  omega

theorem lives03 (w : World) :
    Calls Try.prog 13 #[] w fun e w' => e = .returned (.bool true) ∧ Below w.heap.size w w' := by
  go_enter Try.func13, Try.ntmps13
  go_wp2_with fail
  refine (adcW_any _ _ _ _ (by omega) (by omega) (by omega) (by omega) (by omega) (by omega)).mono ?_
  rintro e w1 ⟨rfl, hb1⟩
  rw [lives_num.1, lives_num.2]
  go_wp2
  go_ret
  exact ⟨rfl, hb1⟩

theorem wideSums_walk (a0 a1 a2 : Int) (w : World) (w0 : (Lit.int .u16 a0).wf = true) (w1 : (Lit.int .u16 a1).wf = true) (w2 : (Lit.int .u8 a2).wf = true) :
    Calls Try.prog 7 #[.int .u16 a0, .int .u16 a1, .int .u8 a2] w fun e w' => e = .returned (.bool true) ∧ Below w.heap.size w w' := by
  obtain ⟨p0, p1⟩ := u16_bd w0
  obtain ⟨q0, q1⟩ := u16_bd w1
  obtain ⟨f0, f1⟩ := bounds_u8 w2
  clear w0 w1 w2
  go_enter Try.func7, Try.ntmps7
  go_wp2_with fail
  refine (addW_any _ _ _ _ p0 p1 q0 q1 f0 f1).mono ?_
  rintro e w1 ⟨rfl, hb1⟩
  go_wp2_with fail
  refine (adcW_any _ _ _ _ p0 p1 q0 q1 f0 f1).mono ?_
  rintro e w2 ⟨rfl, hb2⟩
  go_wp2_with fail
  refine (sbcW_any _ _ _ _ p0 p1 q0 q1 f0 f1).mono ?_
  rintro e w3 ⟨rfl, hb3⟩
  go_wp2_with fail
  refine (addR_any _ _ _ _ p0 p1 q0 q1 f0 f1).mono ?_
  rintro e w4 ⟨rfl, hb4⟩
  go_wp2_with fail
  refine (longUp_any _ _ _ _ p0 p1 q0 q1 f0 f1).mono ?_
  rintro e w5 ⟨rfl, hb5⟩
  go_wp2_with fail
  refine (longDown_any _ _ _ _ p0 p1 q0 q1 f0 f1).mono ?_
  rintro e w6 ⟨rfl, hb6⟩
  go_wp2_with fail
  refine (lives03 _).mono ?_
  rintro e w7 ⟨rfl, hb7⟩
  go_wp2
  go_ret
  exact ⟨rfl, bthen (bthen (bthen (bthen (bthen (bthen hb1 hb2) hb3) hb4) hb5) hb6) hb7⟩

theorem wideParts_walk (a0 a1 a2 : Int) (w : World) (w0 : (Lit.int .u16 a0).wf = true) (w1 : (Lit.int .u8 a1).wf = true) (w2 : (Lit.int .u8 a2).wf = true) :
    Calls Try.prog 4 #[.int .u16 a0, .int .u8 a1, .int .u8 a2] w fun e w' => e = .returned (.bool true) ∧ Below w.heap.size w w' := by
  obtain ⟨p0, p1⟩ := u16_bd w0
  obtain ⟨q0, q1⟩ := bounds_u8 w1
  obtain ⟨f0, f1⟩ := bounds_u8 w2
  clear w0 w1 w2
  go_enter Try.func4, Try.ntmps4
  go_wp2_with fail
  refine (hi_any _ _ p0 p1).mono ?_
  rintro e w' ⟨rfl, rfl⟩
  go_wp2_with fail
  refine (lo_any _ _ p0 p1).mono ?_
  rintro e w' ⟨rfl, rfl⟩
  go_wp2_with fail
  refine (ofW_any _ _ _ q0 q1 f0 f1).mono ?_
  rintro e w' ⟨rfl, rfl⟩
  go_wp2_with fail
  refine (plusW_any _ _ _ p0 p1 f0 f1).mono ?_
  rintro e w' ⟨rfl, rfl⟩
  go_wp2_with fail
  refine (plusR_any _ _ _ p0 p1 f0 f1).mono ?_
  rintro e w' ⟨rfl, rfl⟩
  go_wp2_with fail
  refine (lives03 _).mono ?_
  rintro e w7 ⟨rfl, hb7⟩
  go_wp2
  go_ret
  exact ⟨rfl, hb7⟩

theorem wideSteps_walk (a0 a1 : Int) (w : World) (w0 : (Lit.int .u16 a0).wf = true) (w1 : (Lit.int .u8 a1).wf = true) :
    Calls Try.prog 3 #[.int .u16 a0, .int .u8 a1] w fun e w' => e = .returned (.bool true) ∧ Below w.heap.size w w' := by
  obtain ⟨p0, p1⟩ := u16_bd w0
  obtain ⟨q0, q1⟩ := bounds_u8 w1
  clear w0 w1
  by_cases h : a1 = 128
  · subst h
    have e1 : IntKind.u16.wrap (a0 - 128) = (a0 + sgn8 128) % 65536 := by rw [IntKind.wrap_u16, step_128]
    go_enter Try.func3, Try.ntmps3
    go_wp2_with fail
    refine (plusW_any _ _ _ p0 p1 q0 q1).mono ?_
    rintro e w' ⟨rfl, rfl⟩
    go_wp2_with fail
    refine (lives03 _).mono ?_
    rintro e w7 ⟨rfl, hb7⟩
    go_wp2
    go_ret
    exact ⟨rfl, hb7⟩
  · have hne : (a1 == 128) = false := by simpa using h
    have HB := Lib.hid (step_back p0 p1 q0 q1 h)
    have HS := Lib.hid (step_small (w := a0) q0 q1 h)
    have H0 := Lib.hid (step_0 p0 p1)
    clear h
    rcases HS.out with hs | hs
    all_goals
      go_enter Try.func3, Try.ntmps3
      go_wp2_with fail
      refine (plusW_any _ _ _ p0 p1 q0 q1).mono ?_
      rintro e w' ⟨rfl, rfl⟩
      go_wp2_with fail
      refine (plusW_any _ _ _ (by omega) (by omega) (by omega) (by omega)).mono ?_
      rintro e w' ⟨rfl, rfl⟩
      rw [HB.out]
      go_wp2_with fail
      refine (plusW_any _ _ _ p0 p1 (by omega) (by omega)).mono ?_
      rintro e w' ⟨rfl, rfl⟩
      rw [H0.out]
      go_wp2_with fail
      refine (lives03 _).mono ?_
      rintro e w7 ⟨rfl, hb7⟩
      go_wp2
      go_ret
      exact ⟨rfl, hb7⟩

set_option maxHeartbeats 1000000 in
theorem wideBack_walk (a0 a1 a2 : Int) (w : World) (w0 : (Lit.int .u16 a0).wf = true) (w1 : (Lit.int .u16 a1).wf = true) (w2 : (Lit.int .u8 a2).wf = true) :
    Calls Try.prog 9 #[.int .u16 a0, .int .u16 a1, .int .u8 a2] w fun e w' => e = .returned (.bool true) ∧ Below w.heap.size w w' := by
  obtain ⟨p0, p1⟩ := u16_bd w0
  obtain ⟨q0, q1⟩ := u16_bd w1
  obtain ⟨f0, f1⟩ := bounds_u8 w2
  clear w0 w1 w2
  obtain ⟨c0, c1⟩ := noC_bd f0 f1
  obtain ⟨d0, d1⟩ := withC_bd f0 f1
  have C7 := Lib.hid (noC_7 f0 f1)
  have D7 := Lib.hid (withC_7 f0 f1)
  have HK := Lib.hid (noC_keep f0 f1)
  obtain ⟨r0, r1⟩ := wR_bd (wAddN a0 a1 false)
  obtain ⟨g0, g1⟩ := wAddF_bd a0 a1 (bits .andNot .u8 a2 1)
  obtain ⟨h0, h1⟩ := wSbcF_bd (wR (wAddN a0 a1 false)) a1 (bits .andNot .u8 a2 1)
  have hk1 := (wAddF_keep a0 a1 c0 c1).trans HK.out
  have hk2 := ask1 g0 g1
  have hk3 := (ask1 h0 h1).trans (carry_same p0 p1 q0 q1 C7.out rfl rfl).symm
  have F0 := Lib.hid f0
  have F1 := Lib.hid f1
  clear f0 f1
  have K1 := Lib.hid hk1
  have K2 := Lib.hid hk2
  have K3 := Lib.hid hk3
  have C0 := Lib.hid c0
  have C1 := Lib.hid c1
  have D0 := Lib.hid d0
  have D1 := Lib.hid d1
  clear hk1 hk2 hk3 c0 c1 d0 d1 g0 g1 h0 h1
  go_enter Try.func9, Try.ntmps9
  go_wp2_with fail
  refine (addW_any _ _ _ _ p0 p1 q0 q1 C0.out C1.out).mono ?_
  rintro e w1 ⟨rfl, hb1⟩
  go_wp2_with fail
  refine (adcW_any _ _ _ _ p0 p1 q0 q1 C0.out C1.out).mono ?_
  rintro e w2 ⟨rfl, hb2⟩
  rw [C7.out]
  go_wp2_with fail
  refine (sbcW_any _ _ _ _ r0 r1 q0 q1 C0.out C1.out).mono ?_
  rintro e w3 ⟨rfl, hb3⟩
  rw [C7.out, back_num p0 p1 q0 q1]
  go_wp2_with fail
  refine (sbcW_any _ _ _ _ p0 p1 p0 p1 D0.out D1.out).mono ?_
  rintro e w4 ⟨rfl, hb4⟩
  rw [D7.out, self_num]
  go_wp2_with fail
  refine (hi_any _ _ p0 p1).mono ?_
  rintro e w' ⟨rfl, rfl⟩
  go_wp2_with fail
  refine (lo_any _ _ p0 p1).mono ?_
  rintro e w' ⟨rfl, rfl⟩
  go_wp2_with fail
  refine (ofW_any _ _ _ (by omega) (by omega) (by omega) (by omega)).mono ?_
  rintro e w' ⟨rfl, rfl⟩
  rw [parts_num]
  have k1 := K1.out
  have k2 := K2.out
  have k3 := K3.out
  go_wp2_with fail
  refine (lives03 _).mono ?_
  rintro e w7 ⟨rfl, hb7⟩
  go_wp2
  go_ret
  exact ⟨rfl, bthen (bthen (bthen (bthen hb1 hb2) hb3) hb4) hb7⟩

set_option maxHeartbeats 1000000 in
theorem wideSigned_walk (a0 a1 a2 : Int) (w : World) (w0 : (Lit.int .u16 a0).wf = true) (w1 : (Lit.int .u16 a1).wf = true) (w2 : (Lit.int .u8 a2).wf = true) :
    Calls Try.prog 8 #[.int .u16 a0, .int .u16 a1, .int .u8 a2] w fun e w' => e = .returned (.bool true) ∧ Below w.heap.size w w' := by
  obtain ⟨p0, p1⟩ := u16_bd w0
  obtain ⟨q0, q1⟩ := u16_bd w1
  obtain ⟨f0, f1⟩ := bounds_u8 w2
  clear w0 w1 w2
  obtain ⟨c0, c1⟩ := noC_bd f0 f1
  have C7 := Lib.hid (noC_7 f0 f1)
  obtain ⟨h0, h1⟩ := wSbcF_bd a0 a1 (bits .andNot .u8 a2 1)
  obtain ⟨t0, t1, t5, t7⟩ := wSbcF_bits a0 a1 _ C7.out
  have K0 := Lib.hid ((ask128 h0 h1).trans t0)
  have K1 := Lib.hid ((ask64 h0 h1).trans (t1.trans (zero_num p0 p1 q0 q1)))
  have K5 := Lib.hid ((ask4 h0 h1).trans t5)
  have K7 := Lib.hid (((ask1 h0 h1).trans t7).trans (show decide (a0 - a1 < 0) = decide (a0 < a1) from decide_eq_decide.2 (by omega)))
  have E1 := Lib.hid (i16_wrap p0 p1)
  have E2 := Lib.hid (i16_wrap q0 q1)
  have HS := Lib.hid (signed_num p0 p1 q0 q1)
  have F0 := Lib.hid f0
  have F1 := Lib.hid f1
  have C0 := Lib.hid c0
  have C1 := Lib.hid c1
  clear f0 f1 c0 c1 h0 h1 t0 t1 t5 t7
  go_enter Try.func8, Try.ntmps8
  go_wp2_with fail
  refine (sbcW_any _ _ _ _ p0 p1 q0 q1 C0.out C1.out).mono ?_
  rintro e w1 ⟨rfl, hb1⟩
  go_wp2_with fail
  refine (addW_any _ _ _ _ p0 p1 q0 q1 F0.out F1.out).mono ?_
  rintro e w2 ⟨rfl, hb2⟩
  go_wp2_with fail
  refine (addW_any _ _ _ _ q0 q1 p0 p1 F0.out F1.out).mono ?_
  rintro e w3 ⟨rfl, hb3⟩
  rw [add_comm_num, add_comm_F]
  have k1 := K1.out
  have k7 := K7.out
  have e1 := E1.out
  have e2 := E2.out
  have k0 := K0.out
  have k5 := K5.out
  have hs := HS.out
  generalize bitH (wR (a0 - a1) / 256) 0 = x at k0 hs
  generalize over16 (sgn16 a0 - sgn16 a1) = y at k5 hs
  by_cases hlt : sgn16 a0 < sgn16 a1
  · rw [decide_eq_true hlt] at hs
    clear K0 K5 HS
    cases x
    · cases y
      · simp at hs
      · clear hs
        go_wp2_with fail
        refine (lives03 _).mono ?_
        rintro e w7 ⟨rfl, hb7⟩
        go_wp2
        go_ret
        exact ⟨rfl, bthen (bthen (bthen hb1 hb2) hb3) hb7⟩
    · cases y
      · clear hs
        go_wp2_with fail
        refine (lives03 _).mono ?_
        rintro e w7 ⟨rfl, hb7⟩
        go_wp2
        go_ret
        exact ⟨rfl, bthen (bthen (bthen hb1 hb2) hb3) hb7⟩
      · simp at hs
  · have hd : decide (sgn16 a0 < sgn16 a1) = false := decide_eq_false hlt
    rw [hd] at hs
    clear K0 K5 HS
    cases x
    · cases y
      · clear hs
        go_wp2_with fail
        refine (lives03 _).mono ?_
        rintro e w7 ⟨rfl, hb7⟩
        go_wp2
        go_ret
        exact ⟨rfl, bthen (bthen (bthen hb1 hb2) hb3) hb7⟩
      · simp at hs
    · cases y
      · simp at hs
      · clear hs
        go_wp2_with fail
        refine (lives03 _).mono ?_
        rintro e w7 ⟨rfl, hb7⟩
        go_wp2
        go_ret
        exact ⟨rfl, bthen (bthen (bthen hb1 hb2) hb3) hb7⟩

end Go.Proofs.Ytcjnnenmgliakaa
