/- The law FlagConds walked: whether any F meets any condition; no condition. -/
import Derived.Test.YtkhbkfecnpnchaaLawFlag
namespace Go.Proofs.Ytkhbkfecnpnchaa
open Go.RowKit

theorem has_cond {f : Int} (h0 : 0 ≤ f) (h1 : f ≤ 255) : hasS f 64 = bitH f 1 ∧ hasS f 1 = bitH f 7 ∧ hasS f 4 = bitH f 5 ∧ hasS f 128 = bitH f 0 :=
  byte_all (p := fun f => hasS f 64 = bitH f 1 ∧ hasS f 1 = bitH f 7 ∧ hasS f 4 = bitH f 5 ∧ hasS f 128 = bitH f 0) (by decide +kernel) h0 h1
theorem condR_out {f k : Int} (h : k < 0 ∨ 7 < k) : condR f k = false := by unfold condR; rw [if_pos h]

set_option maxHeartbeats 2000000 in
theorem cond_any (f k : Int) (w : World) (h0 : 0 ≤ f) (h1 : f ≤ 255) (hk1 : -9223372036854775808 ≤ k) (hk2 : k ≤ 9223372036854775807) :
    Calls Try.prog 32 #[.int .u8 f, .int .i64 k] w fun e w' => e = .returned (.bool (condR f k)) ∧ w = w' := by
  have HC := Lib.hid (has_cond h0 h1)
  by_cases hlo : k < 0
  · have H := Lib.hid (condR_out (f := f) (.inl hlo))
    go_enter Try.func32, Try.ntmps32
    go_wp2
    go_ret
    exact ⟨ret_bool H.out.symm, rfl⟩
  · by_cases hhi : 7 < k
    · have H := Lib.hid (condR_out (f := f) (.inr hhi))
      go_enter Try.func32, Try.ntmps32
      go_wp2
      go_ret
      exact ⟨ret_bool H.out.symm, rfl⟩
    · rcases (show k = 0 ∨ k = 1 ∨ k = 2 ∨ k = 3 ∨ k = 4 ∨ k = 5 ∨ k = 6 ∨ k = 7 by omega) with rfl | rfl | rfl | rfl | rfl | rfl | rfl | rfl
      all_goals
        go_enter Try.func32, Try.ntmps32
        go_wp2_with fail
        refine (has_any _ _ _).mono ?_
        rintro e w' ⟨rfl, rfl⟩
        first | rw [HC.out.1] | rw [HC.out.2.1] | rw [HC.out.2.2.1] | rw [HC.out.2.2.2]
        go_wp2
        go_ret
        exact ⟨ret_bool (by simp [condR, condBit]), rfl⟩

theorem cond_pair {f : Int} (k : Int) (hk : k = 0 ∨ k = 2 ∨ k = 4 ∨ k = 6) : (condR f k == condR f (k + 1)) = false := by
  rcases hk with rfl | rfl | rfl | rfl <;> simp [condR, condBit]

set_option maxHeartbeats 2000000 in
theorem flagConds_walk (a0 a1 : Int) (w : World) (w0 : (Lit.int .u8 a0).wf = true) (w1 : (Lit.int .i64 a1).wf = true) :
    Calls Try.prog 9 #[.int .u8 a0, .int .i64 a1] w fun e w' => e = .returned (.bool true) ∧ Below w.heap.size w w' := by
  obtain ⟨f0, f1⟩ := bounds_u8 w0
  obtain ⟨b0, b1⟩ := bounds_i64 w1
  clear w0 w1
  go_enter Try.func9, Try.ntmps9
  go_wp2_with fail
  refine (cond_any _ _ _ f0 f1 b0 b1).mono ?_
  rintro e w' ⟨rfl, rfl⟩
  go_wp2_with fail
  refine (cond_ref _ _ _ f0 f1 b0 b1).mono ?_
  rintro e w1 ⟨rfl, hb1⟩
  go_wp2
  go_loop [5] (fun i => ∃ k : Int, (k = 0 ∨ k = 2 ∨ k = 4 ∨ k = 6 ∨ k = 8) ∧ i = .int .i64 k) (fun i => (8 - intOf i).toNat)
  case atStart => exact ⟨0, by omega, rfl⟩
  case round =>
    obtain ⟨k, hk, rfl⟩ := hrel
    have hk0 : 0 ≤ k := by omega
    have hk8 : k ≤ 8 := by omega
    have HK := Lib.hid hk
    clear hk
    by_cases hlt : k < 8
    · have hp := cond_pair (f := a0) k (by have := HK.out; omega)
      have HP := Lib.hid hp
      clear hp
      go_wp2_with fail
      refine (cond_any _ _ _ f0 f1 (by omega) (by omega)).mono ?_
      rintro e w' ⟨rfl, rfl⟩
      go_wp2_with fail
      refine (cond_any _ _ _ f0 f1 (by omega) (by omega)).mono ?_
      rintro e w' ⟨rfl, rfl⟩
      have hp := HP.out
      go_wp2
      go_round
      case rel => exact ⟨k + 2, by have := HK.out; omega, rfl⟩
      case measure => simp [intOf]; omega
    · go_wp2_with fail
      refine (lives01 _).mono ?_
      rintro e w4 ⟨rfl, hb4⟩
      go_wp2
      go_ret
      exact ⟨rfl, bthen hb1 hb4⟩

end Go.Proofs.Ytkhbkfecnpnchaa
