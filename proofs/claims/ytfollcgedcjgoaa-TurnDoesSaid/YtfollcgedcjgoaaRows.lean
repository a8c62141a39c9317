/-
  No cell of these rows narrows 'for every input' (looked for: loops, veiled, ifaces, maps, wideKeys, modest, calm, conditions, laid).
  DERIVED. THE GIVEN ROWS OF THIS SEAT. 5 by the template 'for every input the law returns true; each argument reads behind the call as it read before'; 0 by the template 'total and deterministic' (their statements: YtfollcgedcjgoaaTotals.lean).
  GIVEN WITH THE SEED: the statements are not yours to turn. If you find one false, say at which input.
  Laid BY PROGRAM, IN A SANDBOX (cutbox-rows.mjs): the forced cells as the released guide's own fill.sh prints them over the translation 8df6baab724e2610… (all of the seat's roots in one cut). By AI agents, Wed Nov 11 2026. No macro, syntax, notation, axiom, sorry.
-/
import Derived.Test.YtfollcgedcjgoaaChecked
import GoSem.Claim
import GoSem.ClaimJoined
import GoSem.ClaimMapViews
import Derived.JoinedTies
import Derived.KernelRfl
namespace Go.Proofs.Ytfollcgedcjgoaa
/- THE CELL 'sum', in the pinned program and in every row, IS THE sha256 OF THE DUMP (.gsa) THAT YtfollcgedcjgoaaProg.lean LOADS. Nothing in Lean hashes anything: it is a label: what it is worth is what the hold of that sum in a sandbox is worth. -/
noncomputable def Try.pinned : Pinned := { name := "ytfollcgedcjgoaa", sum := "8df6baab724e2610f736d307bc7b4351939654a94685804b1b52dccfaa50e98c", checked := Try.checked }
namespace Rows
def none {H : Type} : Left H := { results := [], args := [] }

/-- 'squeallaw04.TurnHalves': WHATEVER THE INPUT: true; the input reads as it did. -/
def turnHalvesSpec : ChangeSpec := { name := "turnHalves", fn := fun _ => fun
  | [d1, d2, d3] => { results := [.lit (.bool true)], args := [d1, d2, d3] }
  | _ => none }
def turnHalvesRow : OpenClaim := { program := "ytfollcgedcjgoaa", sum := "8df6baab724e2610f736d307bc7b4351939654a94685804b1b52dccfaa50e98c", func := "squeal/squeallaw04.TurnHalves", spec := "turnHalves", apart := false }
def TurnHalvesSaid : Prop := turnHalvesRow.holds Try.pinned (OpenSpec.ofChange turnHalvesSpec)

/-- ITS FALSE NEIGHBOUR: 'it returns false'. Refute it at one input. -/
def turnHalvesWrong : ChangeSpec := { name := "turnHalves", fn := fun _ => fun
  | [d1, d2, d3] => { results := [.lit (.bool false)], args := [d1, d2, d3] }
  | _ => none }
def TurnHalvesWrongFalsely : Prop := turnHalvesRow.holds Try.pinned (OpenSpec.ofChange turnHalvesWrong)

/-- 'squeallaw04.TurnDoes': WHATEVER THE INPUT: true; the input reads as it did. -/
def turnDoesSpec : ChangeSpec := { name := "turnDoes", fn := fun _ => fun
  | [d1, d2, d3] => { results := [.lit (.bool true)], args := [d1, d2, d3] }
  | _ => none }
def turnDoesRow : OpenClaim := { program := "ytfollcgedcjgoaa", sum := "8df6baab724e2610f736d307bc7b4351939654a94685804b1b52dccfaa50e98c", func := "squeal/squeallaw04.TurnDoes", spec := "turnDoes", apart := false }
def TurnDoesSaid : Prop := turnDoesRow.holds Try.pinned (OpenSpec.ofChange turnDoesSpec)

/-- ITS FALSE NEIGHBOUR: 'it returns false'. Refute it at one input. -/
def turnDoesWrong : ChangeSpec := { name := "turnDoes", fn := fun _ => fun
  | [d1, d2, d3] => { results := [.lit (.bool false)], args := [d1, d2, d3] }
  | _ => none }
def TurnDoesWrongFalsely : Prop := turnDoesRow.holds Try.pinned (OpenSpec.ofChange turnDoesWrong)

/-- 'squeallaw04.TurnBits': WHATEVER THE INPUT: true; the input reads as it did. -/
def turnBitsSpec : ChangeSpec := { name := "turnBits", fn := fun _ => fun
  | [d1, d2, d3] => { results := [.lit (.bool true)], args := [d1, d2, d3] }
  | _ => none }
def turnBitsRow : OpenClaim := { program := "ytfollcgedcjgoaa", sum := "8df6baab724e2610f736d307bc7b4351939654a94685804b1b52dccfaa50e98c", func := "squeal/squeallaw04.TurnBits", spec := "turnBits", apart := false }
def TurnBitsSaid : Prop := turnBitsRow.holds Try.pinned (OpenSpec.ofChange turnBitsSpec)

/-- ITS FALSE NEIGHBOUR: 'it returns false'. Refute it at one input. -/
def turnBitsWrong : ChangeSpec := { name := "turnBits", fn := fun _ => fun
  | [d1, d2, d3] => { results := [.lit (.bool false)], args := [d1, d2, d3] }
  | _ => none }
def TurnBitsWrongFalsely : Prop := turnBitsRow.holds Try.pinned (OpenSpec.ofChange turnBitsWrong)

/-- 'squeallaw04.TurnBack': WHATEVER THE INPUT: true; the input reads as it did. -/
def turnBackSpec : ChangeSpec := { name := "turnBack", fn := fun _ => fun
  | [d1, d2, d3] => { results := [.lit (.bool true)], args := [d1, d2, d3] }
  | _ => none }
def turnBackRow : OpenClaim := { program := "ytfollcgedcjgoaa", sum := "8df6baab724e2610f736d307bc7b4351939654a94685804b1b52dccfaa50e98c", func := "squeal/squeallaw04.TurnBack", spec := "turnBack", apart := false }
def TurnBackSaid : Prop := turnBackRow.holds Try.pinned (OpenSpec.ofChange turnBackSpec)

/-- ITS FALSE NEIGHBOUR: 'it returns false'. Refute it at one input. -/
def turnBackWrong : ChangeSpec := { name := "turnBack", fn := fun _ => fun
  | [d1, d2, d3] => { results := [.lit (.bool false)], args := [d1, d2, d3] }
  | _ => none }
def TurnBackWrongFalsely : Prop := turnBackRow.holds Try.pinned (OpenSpec.ofChange turnBackWrong)

/-- 'squeallaw04.TurnTests': WHATEVER THE INPUT: true; the input reads as it did. -/
def turnTestsSpec : ChangeSpec := { name := "turnTests", fn := fun _ => fun
  | [d1, d2, d3] => { results := [.lit (.bool true)], args := [d1, d2, d3] }
  | _ => none }
def turnTestsRow : OpenClaim := { program := "ytfollcgedcjgoaa", sum := "8df6baab724e2610f736d307bc7b4351939654a94685804b1b52dccfaa50e98c", func := "squeal/squeallaw04.TurnTests", spec := "turnTests", apart := false }
def TurnTestsSaid : Prop := turnTestsRow.holds Try.pinned (OpenSpec.ofChange turnTestsSpec)

/-- ITS FALSE NEIGHBOUR: 'it returns false'. Refute it at one input. -/
def turnTestsWrong : ChangeSpec := { name := "turnTests", fn := fun _ => fun
  | [d1, d2, d3] => { results := [.lit (.bool false)], args := [d1, d2, d3] }
  | _ => none }
def TurnTestsWrongFalsely : Prop := turnTestsRow.holds Try.pinned (OpenSpec.ofChange turnTestsWrong)

/- THE SECOND FORM. 'bulk': how many values and letters a reading holds, each counted each time it is reached (what is shared counts as often as it is met; a slice's spare places count too). A statement '..UptoSaid' is the law's where the arguments, and the package variables that the reading takes, are together of bulk at most 1048576: NARROWER than '..Said'. Prove '..Said' where nothing that the law and all that it calls make is longer than what came in: it says more and counts as full. Else prove '..UptoSaid'. A law counts once. -/
mutual
def uptoBulk {H : Type} : DataW H → Nat
  | .lit (.string bytes) => bytes.length + 1
  | .lit _ => 1
  | .nil => 1
  | .ptr d => uptoBulk d + 1
  | .slice elems spare => uptoBulkAll elems + uptoBulkAll spare + 1
  | .agg parts => uptoBulkAll parts + 1
  | .iface _ d => uptoBulk d + 1
  | .map entries => uptoBulkEntries entries + 1
  | .held _ => 1
def uptoBulkAll {H : Type} : List (DataW H) → Nat
  | [] => 0
  | d :: r => uptoBulk d + uptoBulkAll r
def uptoBulkEntries {H : Type} : List (Lit × DataW H) → Nat
  | [] => 0
  | x :: r => uptoBulkEntry x + uptoBulkEntries r
def uptoBulkEntry {H : Type} : Lit × DataW H → Nat
  | (.string bytes, d) => bytes.length + uptoBulk d + 1
  | (_, d) => uptoBulk d + 1
 end
def uptoSmall : (H : Type) → List (DataW H) → Bool := fun _ ds => decide (uptoBulkAll ds ≤ 1048576)
def OpenSpec.upto (s : _root_.Go.ChangeSpec) : _root_.Go.OpenSpec := { _root_.Go.OpenSpec.ofChange s with cond := some uptoSmall }

/-- 'squeallaw04.TurnHalves', WHERE WHAT IT READS IS OF BULK AT MOST 1048576: true; the input reads as it did. -/
def turnHalvesUptoRow : OpenClaim := { program := "ytfollcgedcjgoaa", sum := "8df6baab724e2610f736d307bc7b4351939654a94685804b1b52dccfaa50e98c", func := "squeal/squeallaw04.TurnHalves", spec := "turnHalves", apart := false, narrowed := true }
def TurnHalvesUptoSaid : Prop := turnHalvesUptoRow.holds Try.pinned (OpenSpec.upto turnHalvesSpec)

/-- 'squeallaw04.TurnDoes', WHERE WHAT IT READS IS OF BULK AT MOST 1048576: true; the input reads as it did. -/
def turnDoesUptoRow : OpenClaim := { program := "ytfollcgedcjgoaa", sum := "8df6baab724e2610f736d307bc7b4351939654a94685804b1b52dccfaa50e98c", func := "squeal/squeallaw04.TurnDoes", spec := "turnDoes", apart := false, narrowed := true }
def TurnDoesUptoSaid : Prop := turnDoesUptoRow.holds Try.pinned (OpenSpec.upto turnDoesSpec)

/-- 'squeallaw04.TurnBits', WHERE WHAT IT READS IS OF BULK AT MOST 1048576: true; the input reads as it did. -/
def turnBitsUptoRow : OpenClaim := { program := "ytfollcgedcjgoaa", sum := "8df6baab724e2610f736d307bc7b4351939654a94685804b1b52dccfaa50e98c", func := "squeal/squeallaw04.TurnBits", spec := "turnBits", apart := false, narrowed := true }
def TurnBitsUptoSaid : Prop := turnBitsUptoRow.holds Try.pinned (OpenSpec.upto turnBitsSpec)

/-- 'squeallaw04.TurnBack', WHERE WHAT IT READS IS OF BULK AT MOST 1048576: true; the input reads as it did. -/
def turnBackUptoRow : OpenClaim := { program := "ytfollcgedcjgoaa", sum := "8df6baab724e2610f736d307bc7b4351939654a94685804b1b52dccfaa50e98c", func := "squeal/squeallaw04.TurnBack", spec := "turnBack", apart := false, narrowed := true }
def TurnBackUptoSaid : Prop := turnBackUptoRow.holds Try.pinned (OpenSpec.upto turnBackSpec)

/-- 'squeallaw04.TurnTests', WHERE WHAT IT READS IS OF BULK AT MOST 1048576: true; the input reads as it did. -/
def turnTestsUptoRow : OpenClaim := { program := "ytfollcgedcjgoaa", sum := "8df6baab724e2610f736d307bc7b4351939654a94685804b1b52dccfaa50e98c", func := "squeal/squeallaw04.TurnTests", spec := "turnTests", apart := false, narrowed := true }
def TurnTestsUptoSaid : Prop := turnTestsUptoRow.holds Try.pinned (OpenSpec.upto turnTestsSpec)

end Rows
end Go.Proofs.Ytfollcgedcjgoaa
