/- Contracts of layer 10: which keys are down. -/
import Derived.Test.YtfcnlgkaejkneaaKeys5
namespace Go.Proofs.Ytfcnlgkaejkneaa
open Go.RowKit

/-- is the n-th key down? -/
def onD (d : Nat → Int) (n : Nat) : Bool := bits .and .u8 (d (n / 5) / 2 ^ (n % 5)) 1 == 1
def downL (d : Nat → Int) (m : Nat) : List Nat := (List.range m).filter (onD d)
def downV (d : Nat → Int) (m : Nat) : List Value := (downL d m).map fun n => .string (keyB n)
theorem downL_yes {d : Nat → Int} {m : Nat} (h : onD d m = true) : downL d (m + 1) = downL d m ++ [m] := by unfold downL; rw [List.range_succ, List.filter_append]; simp [h]
theorem downL_no {d : Nat → Int} {m : Nat} (h : onD d m = false) : downL d (m + 1) = downL d m := by unfold downL; rw [List.range_succ, List.filter_append]; simp [h]
theorem downL_le (d : Nat → Int) (m : Nat) : (downL d m).length ≤ m := by
  unfold downL
  have := List.length_filter_le (onD d) (List.range m)
  simpa using this

end Go.Proofs.Ytfcnlgkaejkneaa
