/- The laws of layer 9, walked: UlaCells, UlaFetches, UlaLines: each returns true and writes nothing that was there. -/
import Derived.Test.YtfcnlgkaejkneaaR09
import Derived.OpenShut
namespace Go.Proofs.Ytfcnlgkaejkneaa
open Go.RowKit

theorem lives09_num : waitS 14335 = 6 ∧ waitS 14341 = 0 ∧ pixS 1 0 = 16640 ∧ onS 1 0 = true := by decide +kernel
end Go.Proofs.Ytfcnlgkaejkneaa
