/- The laws of layer 4 beside the document, walked: TurnHalves, TurnBits. -/
import Derived.Test.YtfollcgedcjgoaaLawTurn
import Derived.Test.YtfollcgedcjgoaaR04
import Derived.Test.YtfollcgedcjgoaaR04b
namespace Go.Proofs.Ytfollcgedcjgoaa
open Go.RowKit

theorem turnHalves_walk (a m f : Int) (w : World) (w0 : (Lit.int .u8 a).wf = true) (w1 : (Lit.int .u8 m).wf = true) (w2 : (Lit.int .u8 f).wf = true) :
    Calls Try.prog 3 #[.int .u8 a, .int .u8 m, .int .u8 f] w fun e w' => e = .returned (.bool true) ∧ Below w.heap.size w w' := by
  obtain ⟨a0, a1⟩ := bounds_u8 w0
  obtain ⟨m0, m1⟩ := bounds_u8 w1
  obtain ⟨f0, f1⟩ := bounds_u8 w2
  clear w0 w1 w2
  have h1 := fun w' => rld_any a m f w' a0 a1 m0 m1 f0 f1
  have h2 := fun w' => rrd_any a m f w' a0 a1 m0 m1 f0 f1
  have h3 := fun w' => halves_true a m f w' a0 a1 m0 m1 f0 f1
  have h4 := fun w' => halves_false a m f w' a0 a1 m0 m1 f0 f1
  generalize turnF (rldA a m) (bitH f 7) = F1 at *
  generalize turnF (rrdA a m) (bitH f 7) = F2 at *
  generalize rldA a m = A1 at *
  generalize rldM a m = M1 at *
  generalize rrdA a m = A2 at *
  generalize rrdM a m = M2 at *
  go_enter Try.func3, Try.ntmps3
  go_wp2_with fail
  refine (h1 _).mono ?_
  rintro e w' ⟨rfl, rfl⟩
  go_wp2_with fail
  refine (h2 _).mono ?_
  rintro e w' ⟨rfl, rfl⟩
  go_wp2_with fail
  refine (h3 _).mono ?_
  rintro e w1 ⟨rfl, hb1⟩
  go_wp2_with fail
  refine (h4 _).mono ?_
  rintro e w2 ⟨rfl, hb2⟩
  go_wp2_with fail
  refine (lives04 _).mono ?_
  rintro e w' ⟨rfl, rfl⟩
  go_wp2
  go_ret
  exact ⟨rfl, bthen hb1 hb2⟩

set_option maxRecDepth 100000 in
set_option maxHeartbeats 2000000 in
theorem turnBits_walk (n b f : Int) (w : World) (w0 : (Lit.int .i64 n).wf = true) (w1 : (Lit.int .u8 b).wf = true) (w2 : (Lit.int .u8 f).wf = true) :
    Calls Try.prog 5 #[.int .i64 n, .int .u8 b, .int .u8 f] w fun e w' => e = .returned (.bool true) ∧ Below w.heap.size w w' := by
  obtain ⟨n0, n1⟩ := bounds_i64 w0
  obtain ⟨b0, b1⟩ := bounds_u8 w1
  obtain ⟨f0, f1⟩ := bounds_u8 w2
  clear w0 w1 w2
  go_enter Try.func5, Try.ntmps5
  go_wp2
  go_loopw [7] (fun i wr => ∃ j : Nat, (j : Int) ≤ 16 ∧ i = .int .i64 (17 * j) ∧ Below w.heap.size w wr) (fun i _ => 272 - (intOf i).toNat)
  case atStart => exact ⟨0, by omega, rfl, Below.refl _ _⟩
  case round =>
    obtain ⟨j, hj, rfl, hbl⟩ := hrel
    by_cases hlt : (j : Int) < 16
    · have h1 := bitT_any n b (17 * j) f wr n0 n1 b0 b1 (by omega) (by omega) f0 f1
      have h2 := bitR_any n b (17 * j) f wr n0 n1 b0 b1 (by omega) (by omega) f0 f1
      generalize bitS n b (17 * j) f = X at *
      go_wp2_with fail
      refine h1.mono ?_
      rintro e w' ⟨rfl, rfl⟩
      go_wp2_with fail
      refine h2.mono ?_
      rintro e w1 ⟨rfl, hb1⟩
      go_wp2
      go_roundw
      case rel => exact ⟨j + 1, by omega, by go_num, bthen hbl hb1⟩
      case measure => simp [intOf]; omega
    · have hj2 : (j : Int) = 16 := by omega
      rw [hj2]
      clear hj hlt hj2
      have s1 := fun w' => set_any n b w' n0 n1 b0 b1
      have s2 := fun w' => res_any n b w' n0 n1 b0 b1
      have s3 := fun w' => put_any n b true w' n0 n1 b0 b1
      have s4 := fun w' => put_any n b false w' n0 n1 b0 b1
      generalize setS n b true = X at *
      generalize setS n b false = Y at *
      go_wp2_with fail
      refine (s1 _).mono ?_
      rintro e w' ⟨rfl, rfl⟩
      go_wp2_with fail
      refine (s3 _).mono ?_
      rintro e w1 ⟨rfl, hb1⟩
      go_wp2_with fail
      refine (s2 _).mono ?_
      rintro e w' ⟨rfl, rfl⟩
      go_wp2_with fail
      refine (s4 _).mono ?_
      rintro e w2 ⟨rfl, hb2⟩
      go_wp2_with fail
      refine (lives04 _).mono ?_
      rintro e w' ⟨rfl, rfl⟩
      go_wp2
      go_ret
      exact ⟨rfl, bthen (bthen hbl hb1) hb2⟩

end Go.Proofs.Ytfollcgedcjgoaa
