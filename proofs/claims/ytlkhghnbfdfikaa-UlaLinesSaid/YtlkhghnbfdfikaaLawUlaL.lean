/- The law UlaLines walked: it returns true and writes nothing that was there. -/
import Derived.Test.YtlkhghnbfdfikaaLawUla
import Derived.Test.YtlkhghnbfdfikaaP09b
import Derived.Deep.CutRange
namespace Go.Proofs.Ytlkhghnbfdfikaa
open Go.RowKit

set_option maxRecDepth 100000 in
set_option maxHeartbeats 2000000 in
theorem ulaLines_walk (l : Int) (w : World) (w0 : (Lit.int .i64 l).wf = true) :
    Calls Try.prog 5 #[.int .i64 l] w fun e w' => e = .returned (.bool true) ∧ Below w.heap.size w w' := by
  obtain ⟨l0, l1⟩ := bounds_i64 w0
  clear w0
  go_enter Try.func5, Try.ntmps5
  go_upto_region 1 with fail
  go_cut [3] from 10 to 12 (fun s wx => ∃ k : Int, s = .int .i64 k ∧ 0 ≤ k ∧ k ≤ 191 ∧ w = wx)
  case first =>
    go_wp2_with fail
    all_goals
      go_meet
      exact ⟨_, rfl, by omega, by omega, rfl⟩
  case rest =>
    obtain ⟨n, rfl, n0, n1, rfl⟩ := hcut
    clear l0 l1
    go_wp2
    go_loop [4, 5] (fun a i => ∃ k : Nat, (k : Int) ≤ 224 ∧ i = .int .i64 k ∧ a = .int .i64 (64 * n + cntN k)) (fun _ i => 224 - (intOf i).toNat)
    case atStart => exact ⟨0, by omega, rfl, by rw [show ((0 : Nat) : Int) = 0 from rfl, cnt_ends.1]; congr 1; omega⟩
    case round =>
      obtain ⟨k, hk, rfl, rfl⟩ := hrel
      by_cases hlt : (k : Int) < 224
      · have hw := wait_any (14335 + 224 * n + k) w (by omega) (by omega)
        have hp := place_any (14335 + 224 * n + k) w (by omega) (by omega)
        obtain ⟨⟨h0, h6⟩, hz⟩ := line_wait (n := n) (k := k) n0 n1 (by omega) (by omega)
        rw [line_hit n0 n1 (by omega) (by omega)] at hp
        generalize waitS (14335 + 224 * n + k) = W at *
        obtain ⟨q0, q1⟩ := cnt_bd k
        cases hh : hitK k
        · have hs := Lib.hid (line_skip (k := k) (by omega) (by omega) hh)
          rw [hh] at hp
          generalize cntN k = c at *
          by_cases h128 : 128 ≤ (k : Int)
          · have hz' := hz h128
            subst hz'
            go_wp2_with fail
            refine hp.mono ?_
            rintro e w' ⟨rfl, rfl⟩
            go_wp2_with fail
            refine hw.mono ?_
            rintro e w' ⟨rfl, rfl⟩
            go_wp2
            go_round
            case rel => exact ⟨k + 1, by omega, by go_num, by rw [show (((k + 1 : Nat)) : Int) = (k : Int) + 1 by omega, hs.out]⟩
            case measure => simp [intOf]; omega
          · clear hz
            go_wp2_with fail
            refine hp.mono ?_
            rintro e w' ⟨rfl, rfl⟩
            go_wp2_with fail
            refine hw.mono ?_
            rintro e w' ⟨rfl, rfl⟩
            go_wp2
            go_round
            case rel => exact ⟨k + 1, by omega, by go_num, by rw [show (((k + 1 : Nat)) : Int) = (k : Int) + 1 by omega, hs.out]⟩
            case measure => simp [intOf]; omega
        · obtain ⟨hpl, hs0⟩ := line_place (n := n) (k := k) n0 n1 (by omega) (by omega) hh
          have hs := Lib.hid hs0
          clear hs0
          rw [hh, hpl] at hp
          clear hpl
          generalize cntN k = c at *
          by_cases h128 : 128 ≤ (k : Int)
          · have hz' := hz h128
            subst hz'
            go_wp2_with fail
            refine hp.mono ?_
            rintro e w' ⟨rfl, rfl⟩
            go_wp2_with fail
            refine hw.mono ?_
            rintro e w' ⟨rfl, rfl⟩
            go_wp2
            go_round
            case rel => exact ⟨k + 1, by omega, by go_num, by rw [show (((k + 1 : Nat)) : Int) = (k : Int) + 1 by omega, hs.out]; congr 1; omega⟩
            case measure => simp [intOf]; omega
          · clear hz
            go_wp2_with fail
            refine hp.mono ?_
            rintro e w' ⟨rfl, rfl⟩
            go_wp2_with fail
            refine hw.mono ?_
            rintro e w' ⟨rfl, rfl⟩
            go_wp2
            go_round
            case rel => exact ⟨k + 1, by omega, by go_num, by rw [show (((k + 1 : Nat)) : Int) = (k : Int) + 1 by omega, hs.out]; congr 1; omega⟩
            case measure => simp [intOf]; omega
      · have hk2 : (k : Int) = 224 := by omega
        rw [hk2, cnt_ends.2]
        clear hk hlt hk2
        go_wp2_with fail
        refine (lives09 _).mono ?_
        rintro e w' ⟨rfl, rfl⟩
        go_wp2
        go_ret
        exact ⟨rfl, Below.refl _ _⟩

end Go.Proofs.Ytlkhghnbfdfikaa
