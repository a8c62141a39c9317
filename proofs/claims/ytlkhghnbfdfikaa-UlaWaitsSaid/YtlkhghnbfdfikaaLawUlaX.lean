/- The law UlaWaits walked: it returns true and writes nothing that was there. -/
import Derived.Test.YtlkhghnbfdfikaaLawUlaW
namespace Go.Proofs.Ytlkhghnbfdfikaa
open Go.RowKit

theorem asks_any (t : Int) (w : World) (t0 : -9223372036854775808 ≤ t) (t1 : t ≤ 9223372036854775807) :
    Calls Try.prog 31 #[.int .i64 t] w fun e w' => e = .returned (.bool (decide (frameS t < 32))) ∧ w = w' := by
  go_enter Try.func31, Try.ntmps31
  go_wp2_with fail
  refine (frame_any t _ t0 t1).mono ?_
  rintro e w' ⟨rfl, rfl⟩
  go_wp2
  go_ret
  exact ⟨rfl, rfl⟩

set_option maxHeartbeats 4000000 in
theorem ulaWaits_walk (kind a k t : Int) (w : World) (w0 : (Lit.int .i64 kind).wf = true) (w1 : (Lit.int .u16 a).wf = true) (w2 : (Lit.int .i64 k).wf = true) (w3 : (Lit.int .i64 t).wf = true) :
    Calls Try.prog 7 #[.int .i64 kind, .int .u16 a, .agg #[.int .i64 k, .int .i64 t]] w fun e w' => e = .returned (.bool true) ∧ Below w.heap.size w w' := by
  obtain ⟨q0, q1⟩ := bounds_i64 w0
  obtain ⟨a0, a1⟩ := u16_bd w1
  obtain ⟨k0, k1⟩ := bounds_i64 w2
  obtain ⟨t0, t1⟩ := bounds_i64 w3
  clear w0 w1 w2 w3
  go_enter Try.func7, Try.ntmps7
  go_wp2_with (first | go_region | fail)
  refine (frame_any t _ t0 t1).mono ?_
  rintro e w' ⟨rfl, rfl⟩
  go_wp2_with fail
  refine (frameR_any t _ t0 t1).mono ?_
  rintro e w' ⟨rfl, rfl⟩
  go_wp2_with fail
  refine (wait_any t _ t0 t1).mono ?_
  rintro e w' ⟨rfl, rfl⟩
  go_wp2_with fail
  refine (waitR_any t _ t0 t1).mono ?_
  rintro e w' ⟨rfl, rfl⟩
  go_wp2_with fail
  refine (slow_any a _ a0 a1).mono ?_
  rintro e w' ⟨rfl, rfl⟩
  go_wp2_with fail
  refine (slowR_any a _ a0 a1).mono ?_
  rintro e w' ⟨rfl, rfl⟩
  go_wp2_with fail
  refine (hold_any kind a k t _ q0 q1 a0 a1 k0 k1 t0 t1).mono ?_
  rintro e w' ⟨rfl, rfl⟩
  go_wp2_with fail
  refine (holdR_any kind a k t _ q0 q1 a0 a1 k0 k1 t0 t1).mono ?_
  rintro e w' ⟨rfl, rfl⟩
  go_wp2_with fail
  refine (asks_any t _ t0 t1).mono ?_
  rintro e w' ⟨rfl, rfl⟩
  go_wp2_with fail
  refine (frameR_any t _ t0 t1).mono ?_
  rintro e w' ⟨rfl, rfl⟩
  go_wp2_with fail
  refine (lives09 _).mono ?_
  rintro e w' ⟨rfl, rfl⟩
  go_wp2
  go_ret
  exact ⟨rfl, ((Below.refl _ _).alloc (Nat.le_refl _) _).drew⟩

end Go.Proofs.Ytlkhghnbfdfikaa
