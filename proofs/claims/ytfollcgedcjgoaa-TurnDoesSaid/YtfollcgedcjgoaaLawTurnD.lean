/- The law TurnDoes walked: each turn of any byte, of the accumulator too, is the document's. -/
import Derived.Test.YtfollcgedcjgoaaLawTurn
import Derived.Test.YtfollcgedcjgoaaR04d
namespace Go.Proofs.Ytfollcgedcjgoaa
open Go.RowKit

theorem turnDoes_walk (k b f : Int) (w : World) (w0 : (Lit.int .i64 k).wf = true) (w1 : (Lit.int .u8 b).wf = true) (w2 : (Lit.int .u8 f).wf = true) :
    Calls Try.prog 4 #[.int .i64 k, .int .u8 b, .int .u8 f] w fun e w' => e = .returned (.bool true) ∧ Below w.heap.size w w' := by
  obtain ⟨k0, k1⟩ := bounds_i64 w0
  obtain ⟨b0, b1⟩ := bounds_u8 w1
  obtain ⟨f0, f1⟩ := bounds_u8 w2
  clear w0 w1 w2
  have h1 := fun w' => doT_any k b f w' k0 k1 b0 b1 f0 f1
  have h2 := fun w' => acc_any k b f w' k0 k1 b0 b1 f0 f1
  have h3 := fun w' => doRef_any k b f w' k0 k1 b0 b1 f0 f1
  have h4 := fun w' => accRef_any k b f w' k0 k1 b0 b1 f0 f1
  generalize doTR k b f = X1 at *
  generalize doTF k b f = X2 at *
  generalize accR k b f = X3 at *
  generalize accT k b f = X4 at *
  go_enter Try.func4, Try.ntmps4
  go_wp2_with fail
  refine (h1 _).mono ?_
  rintro e w' ⟨rfl, rfl⟩
  go_wp2_with fail
  refine (h2 _).mono ?_
  rintro e w' ⟨rfl, rfl⟩
  go_wp2_with fail
  refine (h3 _).mono ?_
  rintro e w1 ⟨rfl, hb1⟩
  go_wp2_with fail
  refine (h4 _).mono ?_
  rintro e w2 ⟨rfl, hb2⟩
  go_wp2_with fail
  refine (lives04 _).mono ?_
  rintro e w' ⟨rfl, rfl⟩
  go_wp2
  go_ret
  exact ⟨rfl, bthen hb1 hb2⟩

end Go.Proofs.Ytfollcgedcjgoaa
