/-
  No cell of these rows narrows 'for every input' (looked for: loops, veiled, ifaces, maps, wideKeys, modest, calm, conditions, laid).
  DERIVED. THE GIVEN ROWS OF THIS SEAT. 4 by the template 'for every input the law returns true; each argument reads behind the call as it read before'; 0 by the template 'total and deterministic' (their statements: YtnmapncgnceldaaTotals.lean).
  GIVEN WITH THE SEED: the statements are not yours to turn. If you find one false, say at which input.
  Laid BY PROGRAM, IN A SANDBOX (cutbox-rows.mjs): the forced cells as the released guide's own fill.sh prints them over the translation 939e6a83928df386… (all of the seat's roots in one cut). By AI agents, Wed Nov 11 2026. No macro, syntax, notation, axiom, sorry.
-/
import Derived.Test.YtnmapncgnceldaaChecked
import GoSem.Claim
import GoSem.ClaimJoined
import GoSem.ClaimMapViews
import Derived.JoinedTies
import Derived.KernelRfl
namespace Go.Proofs.Ytnmapncgnceldaa
/- THE CELL 'sum', in the pinned program and in every row, IS THE sha256 OF THE DUMP (.gsa) THAT YtnmapncgnceldaaProg.lean LOADS. Nothing in Lean hashes anything: it is a label: what it is worth is what the hold of that sum in a sandbox is worth. -/
noncomputable def Try.pinned : Pinned := { name := "ytnmapncgnceldaa", sum := "939e6a83928df386820f665c18068b2e533dc4383c74f970067d5c14a0be72f0", checked := Try.checked }
namespace Rows
def none {H : Type} : Left H := { results := [], args := [] }

/-- 'squeallaw24.WalkGoes': WHATEVER THE INPUT: true; the input reads as it did. -/
def walkGoesSpec : ChangeSpec := { name := "walkGoes", fn := fun _ => fun
  | [d1, d2] => { results := [.lit (.bool true)], args := [d1, d2] }
  | _ => none }
def walkGoesRow : OpenClaim := { program := "ytnmapncgnceldaa", sum := "939e6a83928df386820f665c18068b2e533dc4383c74f970067d5c14a0be72f0", func := "squeal/squeallaw24.WalkGoes", spec := "walkGoes", apart := false }
def WalkGoesSaid : Prop := walkGoesRow.holds Try.pinned (OpenSpec.ofChange walkGoesSpec)

/-- ITS FALSE NEIGHBOUR: 'it returns false'. Refute it at one input. -/
def walkGoesWrong : ChangeSpec := { name := "walkGoes", fn := fun _ => fun
  | [d1, d2] => { results := [.lit (.bool false)], args := [d1, d2] }
  | _ => none }
def WalkGoesWrongFalsely : Prop := walkGoesRow.holds Try.pinned (OpenSpec.ofChange walkGoesWrong)

/-- 'squeallaw24.WalkLoops': WHATEVER THE INPUT: true; the input reads as it did. -/
def walkLoopsSpec : ChangeSpec := { name := "walkLoops", fn := fun _ => fun
  | [d1, d2, d3] => { results := [.lit (.bool true)], args := [d1, d2, d3] }
  | _ => none }
def walkLoopsRow : OpenClaim := { program := "ytnmapncgnceldaa", sum := "939e6a83928df386820f665c18068b2e533dc4383c74f970067d5c14a0be72f0", func := "squeal/squeallaw24.WalkLoops", spec := "walkLoops", apart := false }
def WalkLoopsSaid : Prop := walkLoopsRow.holds Try.pinned (OpenSpec.ofChange walkLoopsSpec)

/-- ITS FALSE NEIGHBOUR: 'it returns false'. Refute it at one input. -/
def walkLoopsWrong : ChangeSpec := { name := "walkLoops", fn := fun _ => fun
  | [d1, d2, d3] => { results := [.lit (.bool false)], args := [d1, d2, d3] }
  | _ => none }
def WalkLoopsWrongFalsely : Prop := walkLoopsRow.holds Try.pinned (OpenSpec.ofChange walkLoopsWrong)

/-- 'squeallaw24.WalkCalls': WHATEVER THE INPUT: true; the input reads as it did. -/
def walkCallsSpec : ChangeSpec := { name := "walkCalls", fn := fun _ => fun
  | [d] => { results := [.lit (.bool true)], args := [d] }
  | _ => none }
def walkCallsRow : OpenClaim := { program := "ytnmapncgnceldaa", sum := "939e6a83928df386820f665c18068b2e533dc4383c74f970067d5c14a0be72f0", func := "squeal/squeallaw24.WalkCalls", spec := "walkCalls", apart := false }
def WalkCallsSaid : Prop := walkCallsRow.holds Try.pinned (OpenSpec.ofChange walkCallsSpec)

/-- ITS FALSE NEIGHBOUR: 'it returns false'. Refute it at one input. -/
def walkCallsWrong : ChangeSpec := { name := "walkCalls", fn := fun _ => fun
  | [d] => { results := [.lit (.bool false)], args := [d] }
  | _ => none }
def WalkCallsWrongFalsely : Prop := walkCallsRow.holds Try.pinned (OpenSpec.ofChange walkCallsWrong)

/-- 'squeallaw24.WalkCopies': WHATEVER THE INPUT: true; the input reads as it did. -/
def walkCopiesSpec : ChangeSpec := { name := "walkCopies", fn := fun _ => fun
  | [d1, d2] => { results := [.lit (.bool true)], args := [d1, d2] }
  | _ => none }
def walkCopiesRow : OpenClaim := { program := "ytnmapncgnceldaa", sum := "939e6a83928df386820f665c18068b2e533dc4383c74f970067d5c14a0be72f0", func := "squeal/squeallaw24.WalkCopies", spec := "walkCopies", inPlace := ["maps.clone"], apart := false }
def WalkCopiesSaid : Prop := walkCopiesRow.holds Try.pinned (OpenSpec.ofChange walkCopiesSpec)

/-- ITS FALSE NEIGHBOUR: 'it returns false'. Refute it at one input. -/
def walkCopiesWrong : ChangeSpec := { name := "walkCopies", fn := fun _ => fun
  | [d1, d2] => { results := [.lit (.bool false)], args := [d1, d2] }
  | _ => none }
def WalkCopiesWrongFalsely : Prop := walkCopiesRow.holds Try.pinned (OpenSpec.ofChange walkCopiesWrong)

/- THE SECOND FORM. 'bulk': how many values and letters a reading holds, each counted each time it is reached (what is shared counts as often as it is met; a slice's spare places count too). A statement '..UptoSaid' is the law's where the arguments, and the package variables that the reading takes, are together of bulk at most 1048576: NARROWER than '..Said'. Prove '..Said' where nothing that the law and all that it calls make is longer than what came in: it says more and counts as full. Else prove '..UptoSaid'. A law counts once. -/
mutual
def uptoBulk {H : Type} : DataW H → Nat
  | .lit (.string bytes) => bytes.length + 1
  | .lit _ => 1
  | .nil => 1
  | .ptr d => uptoBulk d + 1
  | .slice elems spare => uptoBulkAll elems + uptoBulkAll spare + 1
  | .agg parts => uptoBulkAll parts + 1
  | .iface _ d => uptoBulk d + 1
  | .map entries => uptoBulkEntries entries + 1
  | .held _ => 1
def uptoBulkAll {H : Type} : List (DataW H) → Nat
  | [] => 0
  | d :: r => uptoBulk d + uptoBulkAll r
def uptoBulkEntries {H : Type} : List (Lit × DataW H) → Nat
  | [] => 0
  | x :: r => uptoBulkEntry x + uptoBulkEntries r
def uptoBulkEntry {H : Type} : Lit × DataW H → Nat
  | (.string bytes, d) => bytes.length + uptoBulk d + 1
  | (_, d) => uptoBulk d + 1
 end
def uptoSmall : (H : Type) → List (DataW H) → Bool := fun _ ds => decide (uptoBulkAll ds ≤ 1048576)
def OpenSpec.upto (s : _root_.Go.ChangeSpec) : _root_.Go.OpenSpec := { _root_.Go.OpenSpec.ofChange s with cond := some uptoSmall }

/-- 'squeallaw24.WalkGoes', WHERE WHAT IT READS IS OF BULK AT MOST 1048576: true; the input reads as it did. -/
def walkGoesUptoRow : OpenClaim := { program := "ytnmapncgnceldaa", sum := "939e6a83928df386820f665c18068b2e533dc4383c74f970067d5c14a0be72f0", func := "squeal/squeallaw24.WalkGoes", spec := "walkGoes", apart := false, narrowed := true }
def WalkGoesUptoSaid : Prop := walkGoesUptoRow.holds Try.pinned (OpenSpec.upto walkGoesSpec)

/-- 'squeallaw24.WalkLoops', WHERE WHAT IT READS IS OF BULK AT MOST 1048576: true; the input reads as it did. -/
def walkLoopsUptoRow : OpenClaim := { program := "ytnmapncgnceldaa", sum := "939e6a83928df386820f665c18068b2e533dc4383c74f970067d5c14a0be72f0", func := "squeal/squeallaw24.WalkLoops", spec := "walkLoops", apart := false, narrowed := true }
def WalkLoopsUptoSaid : Prop := walkLoopsUptoRow.holds Try.pinned (OpenSpec.upto walkLoopsSpec)

/-- 'squeallaw24.WalkCalls', WHERE WHAT IT READS IS OF BULK AT MOST 1048576: true; the input reads as it did. -/
def walkCallsUptoRow : OpenClaim := { program := "ytnmapncgnceldaa", sum := "939e6a83928df386820f665c18068b2e533dc4383c74f970067d5c14a0be72f0", func := "squeal/squeallaw24.WalkCalls", spec := "walkCalls", apart := false, narrowed := true }
def WalkCallsUptoSaid : Prop := walkCallsUptoRow.holds Try.pinned (OpenSpec.upto walkCallsSpec)

/-- 'squeallaw24.WalkCopies', WHERE WHAT IT READS IS OF BULK AT MOST 1048576: true; the input reads as it did. -/
def walkCopiesUptoRow : OpenClaim := { program := "ytnmapncgnceldaa", sum := "939e6a83928df386820f665c18068b2e533dc4383c74f970067d5c14a0be72f0", func := "squeal/squeallaw24.WalkCopies", spec := "walkCopies", inPlace := ["maps.clone"], apart := false, narrowed := true }
def WalkCopiesUptoSaid : Prop := walkCopiesUptoRow.holds Try.pinned (OpenSpec.upto walkCopiesSpec)

end Rows
end Go.Proofs.Ytnmapncgnceldaa
