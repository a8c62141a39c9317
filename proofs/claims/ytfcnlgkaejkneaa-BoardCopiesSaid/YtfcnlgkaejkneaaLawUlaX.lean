/- The law UlaWaits walked: it returns true and writes nothing that was there. -/
import Derived.Test.YtfcnlgkaejkneaaLawUlaW
namespace Go.Proofs.Ytfcnlgkaejkneaa
open Go.RowKit

theorem asks_any (t : Int) (w : World) (t0 : -9223372036854775808 ≤ t) (t1 : t ≤ 9223372036854775807) :
    Calls Try.prog 52 #[.int .i64 t] w fun e w' => e = .returned (.bool (decide (frameS t < 32))) ∧ w = w' := by
  go_enter Try.func52, Try.ntmps52
  go_wp2_with fail
  refine (frame_any t _ t0 t1).mono ?_
  rintro e w' ⟨rfl, rfl⟩
  go_wp2
  go_ret
  exact ⟨rfl, rfl⟩

end Go.Proofs.Ytfcnlgkaejkneaa
