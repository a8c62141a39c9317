/-
  No cell of these rows narrows 'for every input' (looked for: loops, veiled, ifaces, maps, wideKeys, modest, calm, conditions, laid).
  DERIVED. THE GIVEN ROWS OF THIS SEAT. 9 by the template 'for every input the law returns true; each argument reads behind the call as it read before'; 0 by the template 'total and deterministic' (their statements: YtcjnnenmgliakaaTotals.lean).
  GIVEN WITH THE SEED: the statements are not yours to turn. If you find one false, say at which input.
  Laid BY PROGRAM, IN A SANDBOX (cutbox-rows.mjs): the forced cells as the released guide's own fill.sh prints them over the translation 3ac35c7ed0e8eb1f… (all of the seat's roots in one cut). By AI agents, Wed Nov 11 2026. No macro, syntax, notation, axiom, sorry.
-/
import Derived.Test.YtcjnnenmgliakaaChecked
import GoSem.Claim
import GoSem.ClaimJoined
import GoSem.ClaimMapViews
import Derived.JoinedTies
import Derived.KernelRfl
namespace Go.Proofs.Ytcjnnenmgliakaa
/- THE CELL 'sum', in the pinned program and in every row, IS THE sha256 OF THE DUMP (.gsa) THAT YtcjnnenmgliakaaProg.lean LOADS. Nothing in Lean hashes anything: it is a label: what it is worth is what the hold of that sum in a sandbox is worth. -/
noncomputable def Try.pinned : Pinned := { name := "ytcjnnenmgliakaa", sum := "3ac35c7ed0e8eb1fcdd5398be9de05501fa0be8e371b16e82a9a3c4762a69156", checked := Try.checked }
namespace Rows
def none {H : Type} : Left H := { results := [], args := [] }

/-- 'squeallaw03.WideSteps': WHATEVER THE INPUT: true; the input reads as it did. -/
def wideStepsSpec : ChangeSpec := { name := "wideSteps", fn := fun _ => fun
  | [d1, d2] => { results := [.lit (.bool true)], args := [d1, d2] }
  | _ => none }
def wideStepsRow : OpenClaim := { program := "ytcjnnenmgliakaa", sum := "3ac35c7ed0e8eb1fcdd5398be9de05501fa0be8e371b16e82a9a3c4762a69156", func := "squeal/squeallaw03.WideSteps", spec := "wideSteps", apart := false }
def WideStepsSaid : Prop := wideStepsRow.holds Try.pinned (OpenSpec.ofChange wideStepsSpec)

/-- ITS FALSE NEIGHBOUR: 'it returns false'. Refute it at one input. -/
def wideStepsWrong : ChangeSpec := { name := "wideSteps", fn := fun _ => fun
  | [d1, d2] => { results := [.lit (.bool false)], args := [d1, d2] }
  | _ => none }
def WideStepsWrongFalsely : Prop := wideStepsRow.holds Try.pinned (OpenSpec.ofChange wideStepsWrong)

/-- 'squeallaw03.WideParts': WHATEVER THE INPUT: true; the input reads as it did. -/
def widePartsSpec : ChangeSpec := { name := "wideParts", fn := fun _ => fun
  | [d1, d2, d3] => { results := [.lit (.bool true)], args := [d1, d2, d3] }
  | _ => none }
def widePartsRow : OpenClaim := { program := "ytcjnnenmgliakaa", sum := "3ac35c7ed0e8eb1fcdd5398be9de05501fa0be8e371b16e82a9a3c4762a69156", func := "squeal/squeallaw03.WideParts", spec := "wideParts", apart := false }
def WidePartsSaid : Prop := widePartsRow.holds Try.pinned (OpenSpec.ofChange widePartsSpec)

/-- ITS FALSE NEIGHBOUR: 'it returns false'. Refute it at one input. -/
def widePartsWrong : ChangeSpec := { name := "wideParts", fn := fun _ => fun
  | [d1, d2, d3] => { results := [.lit (.bool false)], args := [d1, d2, d3] }
  | _ => none }
def WidePartsWrongFalsely : Prop := widePartsRow.holds Try.pinned (OpenSpec.ofChange widePartsWrong)

/-- 'squeallaw05.BulkPorts': WHATEVER THE INPUT: true; the input reads as it did. -/
def bulkPortsSpec : ChangeSpec := { name := "bulkPorts", fn := fun _ => fun
  | [d] => { results := [.lit (.bool true)], args := [d] }
  | _ => none }
def bulkPortsRow : OpenClaim := { program := "ytcjnnenmgliakaa", sum := "3ac35c7ed0e8eb1fcdd5398be9de05501fa0be8e371b16e82a9a3c4762a69156", func := "squeal/squeallaw05.BulkPorts", spec := "bulkPorts", apart := false }
def BulkPortsSaid : Prop := bulkPortsRow.holds Try.pinned (OpenSpec.ofChange bulkPortsSpec)

/-- ITS FALSE NEIGHBOUR: 'it returns false'. Refute it at one input. -/
def bulkPortsWrong : ChangeSpec := { name := "bulkPorts", fn := fun _ => fun
  | [d] => { results := [.lit (.bool false)], args := [d] }
  | _ => none }
def BulkPortsWrongFalsely : Prop := bulkPortsRow.holds Try.pinned (OpenSpec.ofChange bulkPortsWrong)

/-- 'squeallaw05.BulkAgain': WHATEVER THE INPUT: true; the input reads as it did. -/
def bulkAgainSpec : ChangeSpec := { name := "bulkAgain", fn := fun _ => fun
  | [d] => { results := [.lit (.bool true)], args := [d] }
  | _ => none }
def bulkAgainRow : OpenClaim := { program := "ytcjnnenmgliakaa", sum := "3ac35c7ed0e8eb1fcdd5398be9de05501fa0be8e371b16e82a9a3c4762a69156", func := "squeal/squeallaw05.BulkAgain", spec := "bulkAgain", apart := false }
def BulkAgainSaid : Prop := bulkAgainRow.holds Try.pinned (OpenSpec.ofChange bulkAgainSpec)

/-- ITS FALSE NEIGHBOUR: 'it returns false'. Refute it at one input. -/
def bulkAgainWrong : ChangeSpec := { name := "bulkAgain", fn := fun _ => fun
  | [d] => { results := [.lit (.bool false)], args := [d] }
  | _ => none }
def BulkAgainWrongFalsely : Prop := bulkAgainRow.holds Try.pinned (OpenSpec.ofChange bulkAgainWrong)

/-- 'squeallaw03.WideSums': WHATEVER THE INPUT: true; the input reads as it did. -/
def wideSumsSpec : ChangeSpec := { name := "wideSums", fn := fun _ => fun
  | [d1, d2, d3] => { results := [.lit (.bool true)], args := [d1, d2, d3] }
  | _ => none }
def wideSumsRow : OpenClaim := { program := "ytcjnnenmgliakaa", sum := "3ac35c7ed0e8eb1fcdd5398be9de05501fa0be8e371b16e82a9a3c4762a69156", func := "squeal/squeallaw03.WideSums", spec := "wideSums", apart := false }
def WideSumsSaid : Prop := wideSumsRow.holds Try.pinned (OpenSpec.ofChange wideSumsSpec)

/-- ITS FALSE NEIGHBOUR: 'it returns false'. Refute it at one input. -/
def wideSumsWrong : ChangeSpec := { name := "wideSums", fn := fun _ => fun
  | [d1, d2, d3] => { results := [.lit (.bool false)], args := [d1, d2, d3] }
  | _ => none }
def WideSumsWrongFalsely : Prop := wideSumsRow.holds Try.pinned (OpenSpec.ofChange wideSumsWrong)

/-- 'squeallaw03.WideSigned': WHATEVER THE INPUT: true; the input reads as it did. -/
def wideSignedSpec : ChangeSpec := { name := "wideSigned", fn := fun _ => fun
  | [d1, d2, d3] => { results := [.lit (.bool true)], args := [d1, d2, d3] }
  | _ => none }
def wideSignedRow : OpenClaim := { program := "ytcjnnenmgliakaa", sum := "3ac35c7ed0e8eb1fcdd5398be9de05501fa0be8e371b16e82a9a3c4762a69156", func := "squeal/squeallaw03.WideSigned", spec := "wideSigned", apart := false }
def WideSignedSaid : Prop := wideSignedRow.holds Try.pinned (OpenSpec.ofChange wideSignedSpec)

/-- ITS FALSE NEIGHBOUR: 'it returns false'. Refute it at one input. -/
def wideSignedWrong : ChangeSpec := { name := "wideSigned", fn := fun _ => fun
  | [d1, d2, d3] => { results := [.lit (.bool false)], args := [d1, d2, d3] }
  | _ => none }
def WideSignedWrongFalsely : Prop := wideSignedRow.holds Try.pinned (OpenSpec.ofChange wideSignedWrong)

/-- 'squeallaw03.WideBack': WHATEVER THE INPUT: true; the input reads as it did. -/
def wideBackSpec : ChangeSpec := { name := "wideBack", fn := fun _ => fun
  | [d1, d2, d3] => { results := [.lit (.bool true)], args := [d1, d2, d3] }
  | _ => none }
def wideBackRow : OpenClaim := { program := "ytcjnnenmgliakaa", sum := "3ac35c7ed0e8eb1fcdd5398be9de05501fa0be8e371b16e82a9a3c4762a69156", func := "squeal/squeallaw03.WideBack", spec := "wideBack", apart := false }
def WideBackSaid : Prop := wideBackRow.holds Try.pinned (OpenSpec.ofChange wideBackSpec)

/-- ITS FALSE NEIGHBOUR: 'it returns false'. Refute it at one input. -/
def wideBackWrong : ChangeSpec := { name := "wideBack", fn := fun _ => fun
  | [d1, d2, d3] => { results := [.lit (.bool false)], args := [d1, d2, d3] }
  | _ => none }
def WideBackWrongFalsely : Prop := wideBackRow.holds Try.pinned (OpenSpec.ofChange wideBackWrong)

/-- 'squeallaw05.BulkMoves': WHATEVER THE INPUT: true; the input reads as it did. -/
def bulkMovesSpec : ChangeSpec := { name := "bulkMoves", fn := fun _ => fun
  | [d] => { results := [.lit (.bool true)], args := [d] }
  | _ => none }
def bulkMovesRow : OpenClaim := { program := "ytcjnnenmgliakaa", sum := "3ac35c7ed0e8eb1fcdd5398be9de05501fa0be8e371b16e82a9a3c4762a69156", func := "squeal/squeallaw05.BulkMoves", spec := "bulkMoves", apart := false }
def BulkMovesSaid : Prop := bulkMovesRow.holds Try.pinned (OpenSpec.ofChange bulkMovesSpec)

/-- ITS FALSE NEIGHBOUR: 'it returns false'. Refute it at one input. -/
def bulkMovesWrong : ChangeSpec := { name := "bulkMoves", fn := fun _ => fun
  | [d] => { results := [.lit (.bool false)], args := [d] }
  | _ => none }
def BulkMovesWrongFalsely : Prop := bulkMovesRow.holds Try.pinned (OpenSpec.ofChange bulkMovesWrong)

/-- 'squeallaw05.BulkKeeps': WHATEVER THE INPUT: true; the input reads as it did. -/
def bulkKeepsSpec : ChangeSpec := { name := "bulkKeeps", fn := fun _ => fun
  | [d] => { results := [.lit (.bool true)], args := [d] }
  | _ => none }
def bulkKeepsRow : OpenClaim := { program := "ytcjnnenmgliakaa", sum := "3ac35c7ed0e8eb1fcdd5398be9de05501fa0be8e371b16e82a9a3c4762a69156", func := "squeal/squeallaw05.BulkKeeps", spec := "bulkKeeps", apart := false }
def BulkKeepsSaid : Prop := bulkKeepsRow.holds Try.pinned (OpenSpec.ofChange bulkKeepsSpec)

/-- ITS FALSE NEIGHBOUR: 'it returns false'. Refute it at one input. -/
def bulkKeepsWrong : ChangeSpec := { name := "bulkKeeps", fn := fun _ => fun
  | [d] => { results := [.lit (.bool false)], args := [d] }
  | _ => none }
def BulkKeepsWrongFalsely : Prop := bulkKeepsRow.holds Try.pinned (OpenSpec.ofChange bulkKeepsWrong)

/- THE SECOND FORM. 'bulk': how many values and letters a reading holds, each counted each time it is reached (what is shared counts as often as it is met; a slice's spare places count too). A statement '..UptoSaid' is the law's where the arguments, and the package variables that the reading takes, are together of bulk at most 1048576: NARROWER than '..Said'. Prove '..Said' where nothing that the law and all that it calls make is longer than what came in: it says more and counts as full. Else prove '..UptoSaid'. A law counts once. -/
mutual
def uptoBulk {H : Type} : DataW H → Nat
  | .lit (.string bytes) => bytes.length + 1
  | .lit _ => 1
  | .nil => 1
  | .ptr d => uptoBulk d + 1
  | .slice elems spare => uptoBulkAll elems + uptoBulkAll spare + 1
  | .agg parts => uptoBulkAll parts + 1
  | .iface _ d => uptoBulk d + 1
  | .map entries => uptoBulkEntries entries + 1
  | .held _ => 1
def uptoBulkAll {H : Type} : List (DataW H) → Nat
  | [] => 0
  | d :: r => uptoBulk d + uptoBulkAll r
def uptoBulkEntries {H : Type} : List (Lit × DataW H) → Nat
  | [] => 0
  | x :: r => uptoBulkEntry x + uptoBulkEntries r
def uptoBulkEntry {H : Type} : Lit × DataW H → Nat
  | (.string bytes, d) => bytes.length + uptoBulk d + 1
  | (_, d) => uptoBulk d + 1
 end
def uptoSmall : (H : Type) → List (DataW H) → Bool := fun _ ds => decide (uptoBulkAll ds ≤ 1048576)
def OpenSpec.upto (s : _root_.Go.ChangeSpec) : _root_.Go.OpenSpec := { _root_.Go.OpenSpec.ofChange s with cond := some uptoSmall }

/-- 'squeallaw03.WideSteps', WHERE WHAT IT READS IS OF BULK AT MOST 1048576: true; the input reads as it did. -/
def wideStepsUptoRow : OpenClaim := { program := "ytcjnnenmgliakaa", sum := "3ac35c7ed0e8eb1fcdd5398be9de05501fa0be8e371b16e82a9a3c4762a69156", func := "squeal/squeallaw03.WideSteps", spec := "wideSteps", apart := false, narrowed := true }
def WideStepsUptoSaid : Prop := wideStepsUptoRow.holds Try.pinned (OpenSpec.upto wideStepsSpec)

/-- 'squeallaw03.WideParts', WHERE WHAT IT READS IS OF BULK AT MOST 1048576: true; the input reads as it did. -/
def widePartsUptoRow : OpenClaim := { program := "ytcjnnenmgliakaa", sum := "3ac35c7ed0e8eb1fcdd5398be9de05501fa0be8e371b16e82a9a3c4762a69156", func := "squeal/squeallaw03.WideParts", spec := "wideParts", apart := false, narrowed := true }
def WidePartsUptoSaid : Prop := widePartsUptoRow.holds Try.pinned (OpenSpec.upto widePartsSpec)

/-- 'squeallaw05.BulkPorts', WHERE WHAT IT READS IS OF BULK AT MOST 1048576: true; the input reads as it did. -/
def bulkPortsUptoRow : OpenClaim := { program := "ytcjnnenmgliakaa", sum := "3ac35c7ed0e8eb1fcdd5398be9de05501fa0be8e371b16e82a9a3c4762a69156", func := "squeal/squeallaw05.BulkPorts", spec := "bulkPorts", apart := false, narrowed := true }
def BulkPortsUptoSaid : Prop := bulkPortsUptoRow.holds Try.pinned (OpenSpec.upto bulkPortsSpec)

/-- 'squeallaw05.BulkAgain', WHERE WHAT IT READS IS OF BULK AT MOST 1048576: true; the input reads as it did. -/
def bulkAgainUptoRow : OpenClaim := { program := "ytcjnnenmgliakaa", sum := "3ac35c7ed0e8eb1fcdd5398be9de05501fa0be8e371b16e82a9a3c4762a69156", func := "squeal/squeallaw05.BulkAgain", spec := "bulkAgain", apart := false, narrowed := true }
def BulkAgainUptoSaid : Prop := bulkAgainUptoRow.holds Try.pinned (OpenSpec.upto bulkAgainSpec)

/-- 'squeallaw03.WideSums', WHERE WHAT IT READS IS OF BULK AT MOST 1048576: true; the input reads as it did. -/
def wideSumsUptoRow : OpenClaim := { program := "ytcjnnenmgliakaa", sum := "3ac35c7ed0e8eb1fcdd5398be9de05501fa0be8e371b16e82a9a3c4762a69156", func := "squeal/squeallaw03.WideSums", spec := "wideSums", apart := false, narrowed := true }
def WideSumsUptoSaid : Prop := wideSumsUptoRow.holds Try.pinned (OpenSpec.upto wideSumsSpec)

/-- 'squeallaw03.WideSigned', WHERE WHAT IT READS IS OF BULK AT MOST 1048576: true; the input reads as it did. -/
def wideSignedUptoRow : OpenClaim := { program := "ytcjnnenmgliakaa", sum := "3ac35c7ed0e8eb1fcdd5398be9de05501fa0be8e371b16e82a9a3c4762a69156", func := "squeal/squeallaw03.WideSigned", spec := "wideSigned", apart := false, narrowed := true }
def WideSignedUptoSaid : Prop := wideSignedUptoRow.holds Try.pinned (OpenSpec.upto wideSignedSpec)

/-- 'squeallaw03.WideBack', WHERE WHAT IT READS IS OF BULK AT MOST 1048576: true; the input reads as it did. -/
def wideBackUptoRow : OpenClaim := { program := "ytcjnnenmgliakaa", sum := "3ac35c7ed0e8eb1fcdd5398be9de05501fa0be8e371b16e82a9a3c4762a69156", func := "squeal/squeallaw03.WideBack", spec := "wideBack", apart := false, narrowed := true }
def WideBackUptoSaid : Prop := wideBackUptoRow.holds Try.pinned (OpenSpec.upto wideBackSpec)

/-- 'squeallaw05.BulkMoves', WHERE WHAT IT READS IS OF BULK AT MOST 1048576: true; the input reads as it did. -/
def bulkMovesUptoRow : OpenClaim := { program := "ytcjnnenmgliakaa", sum := "3ac35c7ed0e8eb1fcdd5398be9de05501fa0be8e371b16e82a9a3c4762a69156", func := "squeal/squeallaw05.BulkMoves", spec := "bulkMoves", apart := false, narrowed := true }
def BulkMovesUptoSaid : Prop := bulkMovesUptoRow.holds Try.pinned (OpenSpec.upto bulkMovesSpec)

/-- 'squeallaw05.BulkKeeps', WHERE WHAT IT READS IS OF BULK AT MOST 1048576: true; the input reads as it did. -/
def bulkKeepsUptoRow : OpenClaim := { program := "ytcjnnenmgliakaa", sum := "3ac35c7ed0e8eb1fcdd5398be9de05501fa0be8e371b16e82a9a3c4762a69156", func := "squeal/squeallaw05.BulkKeeps", spec := "bulkKeeps", apart := false, narrowed := true }
def BulkKeepsUptoSaid : Prop := bulkKeepsUptoRow.holds Try.pinned (OpenSpec.upto bulkKeepsSpec)

end Rows
end Go.Proofs.Ytcjnnenmgliakaa
