/- The law AluDigits walked: two numbers of two digits each, added or subtracted and then adjusted. -/
import Derived.Test.YtefkdjanneeomaaLawAluA
import Derived.Test.YtefkdjanneeomaaP02e
import Derived.Deep.CutRange
namespace Go.Proofs.Ytefkdjanneeomaa
open Go.RowKit

theorem daaF_bd (a f : Int) : 0 ≤ daaF a f ∧ daaF a f ≤ 255 := flagsS_bd _ _ _ _ _ _ _ _

set_option maxHeartbeats 2000000 in
theorem aluDigits_walk (m n : Int) (minus : Bool) (w : World) (w0 : (Lit.int .i64 m).wf = true) (w1 : (Lit.int .i64 n).wf = true) :
    Calls Try.prog 5 #[.int .i64 m, .int .i64 n, .bool minus] w fun e w' => e = .returned (.bool true) ∧ Below w.heap.size w w' := by
  obtain ⟨m0, m1⟩ := bounds_i64 w0
  obtain ⟨n0, n1⟩ := bounds_i64 w1
  clear w0 w1
  go_enter Try.func5, Try.ntmps5
  go_upto_region 1 with fail
  go_cut [0] from 15 to 17 (fun s0 wx => ∃ k : Int, s0 = .int .i64 k ∧ 0 ≤ k ∧ k ≤ 99 ∧ w = wx)
  case first =>
    go_wp2_with fail
    all_goals
      go_meet
      exact ⟨_, rfl, by omega, by omega, rfl⟩
  case rest =>
    clear m0 m1
    obtain ⟨x, rfl, x0, x1, rfl⟩ := hcut
    go_upto_region 2 with fail
    go_cut [1] from 18 to 20 (fun s1 wx => ∃ k : Int, s1 = .int .i64 k ∧ 0 ≤ k ∧ k ≤ 99 ∧ w = wx)
    case first =>
      go_wp2_with fail
      all_goals
        go_meet
        exact ⟨_, rfl, by omega, by omega, rfl⟩
    case rest =>
      clear n0 n1
      obtain ⟨y, rfl, y0, y1, rfl⟩ := hcut
      go_upto_region 4 with fail
      rw [show x / 10 * 16 + x % 10 = dig x from rfl, show y / 10 * 16 + y % 10 = dig y from rfl]
      obtain ⟨p0, p1⟩ := dig_bd x0 x1
      obtain ⟨q0, q1⟩ := dig_bd y0 y1
      cases minus
      · obtain ⟨k1, k2⟩ := dig_add x0 x1 y0 y1
        have r0 := addR_bd (dig x) (dig y) false
        have f0 := addF_bd (dig x) (dig y) false
        have g0 := daaF_bd (addR (dig x) (dig y) false) (addF (dig x) (dig y) false)
        have K1 := Lib.hid k1
        have K2 := Lib.hid k2
        clear k1 k2
        go_wp2_with fail
        refine (addA_any _ _ _ _ (by omega) (by omega) (by omega) (by omega)).mono ?_
        rintro e w1 ⟨rfl, hb1⟩
        go_wp2_with fail
        refine (daa_any _ _ _ r0.1 r0.2 f0.1 f0.2).mono ?_
        rintro e w3 ⟨rfl, hb3⟩
        rw [K1.out]
        generalize daaF (addR (dig x) (dig y) false) (addF (dig x) (dig y) false) = F at *
        clear r0 f0
        obtain ⟨g0, g1⟩ := g0
        have hd : dig ((x + y) % 100) = ((x + y) % 100) / 10 * 16 + ((x + y) % 100) % 10 := rfl
        rw [hd]
        clear hd
        by_cases h : 99 < x + y
        · have k2 := K2.out
          rw [decide_eq_true h] at k2
          go_wp2_with fail
          refine (bit_any _ _ _ g0 g1 (by omega) (by omega)).mono ?_
          rintro e w4 ⟨rfl, hb4⟩
          rw [show bitH F (7 - Int.toNat 0) = bitH F 7 from rfl, k2]
          go_wp2_with fail
          refine (lives02 _).mono ?_
          rintro e w5 ⟨rfl, hb5⟩
          go_wp2
          go_ret
          exact ⟨rfl, bthen (bthen (bthen hb1 hb3) hb4) hb5⟩
        · have k2 := K2.out
          rw [decide_eq_false h] at k2
          go_wp2_with fail
          refine (bit_any _ _ _ g0 g1 (by omega) (by omega)).mono ?_
          rintro e w4 ⟨rfl, hb4⟩
          rw [show bitH F (7 - Int.toNat 0) = bitH F 7 from rfl, k2]
          go_wp2_with fail
          refine (lives02 _).mono ?_
          rintro e w5 ⟨rfl, hb5⟩
          go_wp2
          go_ret
          refine ⟨?_, bthen (bthen (bthen hb1 hb3) hb4) hb5⟩
          show Ending.returned (Value.bool (!decide (x + y < 0) && !decide (99 < x + y))) = _
          rw [decide_eq_false (by omega : ¬ (x + y < 0)), decide_eq_false (by omega : ¬ (99 < x + y))]
          rfl
      · obtain ⟨k1, k2⟩ := dig_sub x0 x1 y0 y1
        have r0 := subR_bd (dig x) (dig y) false
        have f0 := subF_bd2 (dig x) (dig y) false
        have g0 := daaF_bd (subR (dig x) (dig y) false) (subF (dig x) (dig y) false)
        have K1 := Lib.hid k1
        have K2 := Lib.hid k2
        clear k1 k2
        go_wp2_with fail
        refine (addA_any _ _ _ _ (by omega) (by omega) (by omega) (by omega)).mono ?_
        rintro e w1 ⟨rfl, hb1⟩
        go_wp2_with fail
        refine (subA_any _ _ _ _ (by omega) (by omega) (by omega) (by omega)).mono ?_
        rintro e w2 ⟨rfl, hb2⟩
        go_wp2_with fail
        refine (daa_any _ _ _ r0.1 r0.2 f0.1 f0.2).mono ?_
        rintro e w3 ⟨rfl, hb3⟩
        rw [K1.out]
        generalize daaF (subR (dig x) (dig y) false) (subF (dig x) (dig y) false) = F at *
        clear r0 f0
        obtain ⟨g0, g1⟩ := g0
        have hd : dig ((x - y + 100) % 100) = ((x - y + 100) % 100) / 10 * 16 + ((x - y + 100) % 100) % 10 := rfl
        rw [hd]
        clear hd
        by_cases h : x - y < 0
        · have k2 := K2.out
          rw [decide_eq_true h] at k2
          go_wp2_with fail
          refine (bit_any _ _ _ g0 g1 (by omega) (by omega)).mono ?_
          rintro e w4 ⟨rfl, hb4⟩
          rw [show bitH F (7 - Int.toNat 0) = bitH F 7 from rfl, k2]
          go_wp2_with fail
          refine (lives02 _).mono ?_
          rintro e w5 ⟨rfl, hb5⟩
          go_wp2
          go_ret
          exact ⟨rfl, bthen (bthen (bthen (bthen hb1 hb2) hb3) hb4) hb5⟩
        · have k2 := K2.out
          rw [decide_eq_false h] at k2
          go_wp2_with fail
          refine (bit_any _ _ _ g0 g1 (by omega) (by omega)).mono ?_
          rintro e w4 ⟨rfl, hb4⟩
          rw [show bitH F (7 - Int.toNat 0) = bitH F 7 from rfl, k2]
          go_wp2_with fail
          refine (lives02 _).mono ?_
          rintro e w5 ⟨rfl, hb5⟩
          go_wp2
          go_ret
          refine ⟨?_, bthen (bthen (bthen (bthen hb1 hb2) hb3) hb4) hb5⟩
          show Ending.returned (Value.bool (!decide (x - y < 0) && !decide (99 < x - y))) = _
          rw [decide_eq_false (by omega : ¬ (x - y < 0)), decide_eq_false (by omega : ¬ (99 < x - y))]
          rfl

end Go.Proofs.Ytefkdjanneeomaa
