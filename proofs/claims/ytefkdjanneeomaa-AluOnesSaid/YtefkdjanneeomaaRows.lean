/-
  No cell of these rows narrows 'for every input' (looked for: loops, veiled, ifaces, maps, wideKeys, modest, calm, conditions, laid).
  DERIVED. THE GIVEN ROWS OF THIS SEAT. 12 by the template 'for every input the law returns true; each argument reads behind the call as it read before'; 0 by the template 'total and deterministic' (their statements: YtefkdjanneeomaaTotals.lean).
  GIVEN WITH THE SEED: the statements are not yours to turn. If you find one false, say at which input.
  Laid BY PROGRAM, IN A SANDBOX (cutbox-rows.mjs): the forced cells as the released guide's own fill.sh prints them over the translation 82c75ced64760a0d… (all of the seat's roots in one cut). By AI agents, Wed Nov 11 2026. No macro, syntax, notation, axiom, sorry.
-/
import Derived.Test.YtefkdjanneeomaaChecked
import GoSem.Claim
import GoSem.ClaimJoined
import GoSem.ClaimMapViews
import Derived.JoinedTies
import Derived.KernelRfl
namespace Go.Proofs.Ytefkdjanneeomaa
/- THE CELL 'sum', in the pinned program and in every row, IS THE sha256 OF THE DUMP (.gsa) THAT YtefkdjanneeomaaProg.lean LOADS. Nothing in Lean hashes anything: it is a label: what it is worth is what the hold of that sum in a sandbox is worth. -/
noncomputable def Try.pinned : Pinned := { name := "ytefkdjanneeomaa", sum := "82c75ced64760a0d7a3a4ca3ee5ccc0c021a33cd446b05d5d030bf025051d7c8", checked := Try.checked }
namespace Rows
def none {H : Type} : Left H := { results := [], args := [] }

/-- 'squeallaw04.TurnHalves': WHATEVER THE INPUT: true; the input reads as it did. -/
def turnHalvesSpec : ChangeSpec := { name := "turnHalves", fn := fun _ => fun
  | [d1, d2, d3] => { results := [.lit (.bool true)], args := [d1, d2, d3] }
  | _ => none }
def turnHalvesRow : OpenClaim := { program := "ytefkdjanneeomaa", sum := "82c75ced64760a0d7a3a4ca3ee5ccc0c021a33cd446b05d5d030bf025051d7c8", func := "squeal/squeallaw04.TurnHalves", spec := "turnHalves", apart := false }
def TurnHalvesSaid : Prop := turnHalvesRow.holds Try.pinned (OpenSpec.ofChange turnHalvesSpec)

/-- ITS FALSE NEIGHBOUR: 'it returns false'. Refute it at one input. -/
def turnHalvesWrong : ChangeSpec := { name := "turnHalves", fn := fun _ => fun
  | [d1, d2, d3] => { results := [.lit (.bool false)], args := [d1, d2, d3] }
  | _ => none }
def TurnHalvesWrongFalsely : Prop := turnHalvesRow.holds Try.pinned (OpenSpec.ofChange turnHalvesWrong)

/-- 'squeallaw04.TurnDoes': WHATEVER THE INPUT: true; the input reads as it did. -/
def turnDoesSpec : ChangeSpec := { name := "turnDoes", fn := fun _ => fun
  | [d1, d2, d3] => { results := [.lit (.bool true)], args := [d1, d2, d3] }
  | _ => none }
def turnDoesRow : OpenClaim := { program := "ytefkdjanneeomaa", sum := "82c75ced64760a0d7a3a4ca3ee5ccc0c021a33cd446b05d5d030bf025051d7c8", func := "squeal/squeallaw04.TurnDoes", spec := "turnDoes", apart := false }
def TurnDoesSaid : Prop := turnDoesRow.holds Try.pinned (OpenSpec.ofChange turnDoesSpec)

/-- ITS FALSE NEIGHBOUR: 'it returns false'. Refute it at one input. -/
def turnDoesWrong : ChangeSpec := { name := "turnDoes", fn := fun _ => fun
  | [d1, d2, d3] => { results := [.lit (.bool false)], args := [d1, d2, d3] }
  | _ => none }
def TurnDoesWrongFalsely : Prop := turnDoesRow.holds Try.pinned (OpenSpec.ofChange turnDoesWrong)

/-- 'squeallaw02.AluDigits': WHATEVER THE INPUT: true; the input reads as it did. -/
def aluDigitsSpec : ChangeSpec := { name := "aluDigits", fn := fun _ => fun
  | [d1, d2, d3] => { results := [.lit (.bool true)], args := [d1, d2, d3] }
  | _ => none }
def aluDigitsRow : OpenClaim := { program := "ytefkdjanneeomaa", sum := "82c75ced64760a0d7a3a4ca3ee5ccc0c021a33cd446b05d5d030bf025051d7c8", func := "squeal/squeallaw02.AluDigits", spec := "aluDigits", apart := false }
def AluDigitsSaid : Prop := aluDigitsRow.holds Try.pinned (OpenSpec.ofChange aluDigitsSpec)

/-- ITS FALSE NEIGHBOUR: 'it returns false'. Refute it at one input. -/
def aluDigitsWrong : ChangeSpec := { name := "aluDigits", fn := fun _ => fun
  | [d1, d2, d3] => { results := [.lit (.bool false)], args := [d1, d2, d3] }
  | _ => none }
def AluDigitsWrongFalsely : Prop := aluDigitsRow.holds Try.pinned (OpenSpec.ofChange aluDigitsWrong)

/-- 'squeallaw02.AluCarries': WHATEVER THE INPUT: true; the input reads as it did. -/
def aluCarriesSpec : ChangeSpec := { name := "aluCarries", fn := fun _ => fun
  | [d1, d2, d3] => { results := [.lit (.bool true)], args := [d1, d2, d3] }
  | _ => none }
def aluCarriesRow : OpenClaim := { program := "ytefkdjanneeomaa", sum := "82c75ced64760a0d7a3a4ca3ee5ccc0c021a33cd446b05d5d030bf025051d7c8", func := "squeal/squeallaw02.AluCarries", spec := "aluCarries", apart := false }
def AluCarriesSaid : Prop := aluCarriesRow.holds Try.pinned (OpenSpec.ofChange aluCarriesSpec)

/-- ITS FALSE NEIGHBOUR: 'it returns false'. Refute it at one input. -/
def aluCarriesWrong : ChangeSpec := { name := "aluCarries", fn := fun _ => fun
  | [d1, d2, d3] => { results := [.lit (.bool false)], args := [d1, d2, d3] }
  | _ => none }
def AluCarriesWrongFalsely : Prop := aluCarriesRow.holds Try.pinned (OpenSpec.ofChange aluCarriesWrong)

/-- 'squeallaw02.AluSums': WHATEVER THE INPUT: true; the input reads as it did. -/
def aluSumsSpec : ChangeSpec := { name := "aluSums", fn := fun _ => fun
  | [d1, d2, d3] => { results := [.lit (.bool true)], args := [d1, d2, d3] }
  | _ => none }
def aluSumsRow : OpenClaim := { program := "ytefkdjanneeomaa", sum := "82c75ced64760a0d7a3a4ca3ee5ccc0c021a33cd446b05d5d030bf025051d7c8", func := "squeal/squeallaw02.AluSums", spec := "aluSums", apart := false }
def AluSumsSaid : Prop := aluSumsRow.holds Try.pinned (OpenSpec.ofChange aluSumsSpec)

/-- ITS FALSE NEIGHBOUR: 'it returns false'. Refute it at one input. -/
def aluSumsWrong : ChangeSpec := { name := "aluSums", fn := fun _ => fun
  | [d1, d2, d3] => { results := [.lit (.bool false)], args := [d1, d2, d3] }
  | _ => none }
def AluSumsWrongFalsely : Prop := aluSumsRow.holds Try.pinned (OpenSpec.ofChange aluSumsWrong)

/-- 'squeallaw02.AluSigned': WHATEVER THE INPUT: true; the input reads as it did. -/
def aluSignedSpec : ChangeSpec := { name := "aluSigned", fn := fun _ => fun
  | [d1, d2] => { results := [.lit (.bool true)], args := [d1, d2] }
  | _ => none }
def aluSignedRow : OpenClaim := { program := "ytefkdjanneeomaa", sum := "82c75ced64760a0d7a3a4ca3ee5ccc0c021a33cd446b05d5d030bf025051d7c8", func := "squeal/squeallaw02.AluSigned", spec := "aluSigned", apart := false }
def AluSignedSaid : Prop := aluSignedRow.holds Try.pinned (OpenSpec.ofChange aluSignedSpec)

/-- ITS FALSE NEIGHBOUR: 'it returns false'. Refute it at one input. -/
def aluSignedWrong : ChangeSpec := { name := "aluSigned", fn := fun _ => fun
  | [d1, d2] => { results := [.lit (.bool false)], args := [d1, d2] }
  | _ => none }
def AluSignedWrongFalsely : Prop := aluSignedRow.holds Try.pinned (OpenSpec.ofChange aluSignedWrong)

/-- 'squeallaw02.AluBack': WHATEVER THE INPUT: true; the input reads as it did. -/
def aluBackSpec : ChangeSpec := { name := "aluBack", fn := fun _ => fun
  | [d1, d2, d3] => { results := [.lit (.bool true)], args := [d1, d2, d3] }
  | _ => none }
def aluBackRow : OpenClaim := { program := "ytefkdjanneeomaa", sum := "82c75ced64760a0d7a3a4ca3ee5ccc0c021a33cd446b05d5d030bf025051d7c8", func := "squeal/squeallaw02.AluBack", spec := "aluBack", apart := false }
def AluBackSaid : Prop := aluBackRow.holds Try.pinned (OpenSpec.ofChange aluBackSpec)

/-- ITS FALSE NEIGHBOUR: 'it returns false'. Refute it at one input. -/
def aluBackWrong : ChangeSpec := { name := "aluBack", fn := fun _ => fun
  | [d1, d2, d3] => { results := [.lit (.bool false)], args := [d1, d2, d3] }
  | _ => none }
def AluBackWrongFalsely : Prop := aluBackRow.holds Try.pinned (OpenSpec.ofChange aluBackWrong)

/-- 'squeallaw02.AluOnes': WHATEVER THE INPUT: true; the input reads as it did. -/
def aluOnesSpec : ChangeSpec := { name := "aluOnes", fn := fun _ => fun
  | [d1, d2] => { results := [.lit (.bool true)], args := [d1, d2] }
  | _ => none }
def aluOnesRow : OpenClaim := { program := "ytefkdjanneeomaa", sum := "82c75ced64760a0d7a3a4ca3ee5ccc0c021a33cd446b05d5d030bf025051d7c8", func := "squeal/squeallaw02.AluOnes", spec := "aluOnes", apart := false }
def AluOnesSaid : Prop := aluOnesRow.holds Try.pinned (OpenSpec.ofChange aluOnesSpec)

/-- ITS FALSE NEIGHBOUR: 'it returns false'. Refute it at one input. -/
def aluOnesWrong : ChangeSpec := { name := "aluOnes", fn := fun _ => fun
  | [d1, d2] => { results := [.lit (.bool false)], args := [d1, d2] }
  | _ => none }
def AluOnesWrongFalsely : Prop := aluOnesRow.holds Try.pinned (OpenSpec.ofChange aluOnesWrong)

/-- 'squeallaw04.TurnBits': WHATEVER THE INPUT: true; the input reads as it did. -/
def turnBitsSpec : ChangeSpec := { name := "turnBits", fn := fun _ => fun
  | [d1, d2, d3] => { results := [.lit (.bool true)], args := [d1, d2, d3] }
  | _ => none }
def turnBitsRow : OpenClaim := { program := "ytefkdjanneeomaa", sum := "82c75ced64760a0d7a3a4ca3ee5ccc0c021a33cd446b05d5d030bf025051d7c8", func := "squeal/squeallaw04.TurnBits", spec := "turnBits", apart := false }
def TurnBitsSaid : Prop := turnBitsRow.holds Try.pinned (OpenSpec.ofChange turnBitsSpec)

/-- ITS FALSE NEIGHBOUR: 'it returns false'. Refute it at one input. -/
def turnBitsWrong : ChangeSpec := { name := "turnBits", fn := fun _ => fun
  | [d1, d2, d3] => { results := [.lit (.bool false)], args := [d1, d2, d3] }
  | _ => none }
def TurnBitsWrongFalsely : Prop := turnBitsRow.holds Try.pinned (OpenSpec.ofChange turnBitsWrong)

/-- 'squeallaw04.TurnBack': WHATEVER THE INPUT: true; the input reads as it did. -/
def turnBackSpec : ChangeSpec := { name := "turnBack", fn := fun _ => fun
  | [d1, d2, d3] => { results := [.lit (.bool true)], args := [d1, d2, d3] }
  | _ => none }
def turnBackRow : OpenClaim := { program := "ytefkdjanneeomaa", sum := "82c75ced64760a0d7a3a4ca3ee5ccc0c021a33cd446b05d5d030bf025051d7c8", func := "squeal/squeallaw04.TurnBack", spec := "turnBack", apart := false }
def TurnBackSaid : Prop := turnBackRow.holds Try.pinned (OpenSpec.ofChange turnBackSpec)

/-- ITS FALSE NEIGHBOUR: 'it returns false'. Refute it at one input. -/
def turnBackWrong : ChangeSpec := { name := "turnBack", fn := fun _ => fun
  | [d1, d2, d3] => { results := [.lit (.bool false)], args := [d1, d2, d3] }
  | _ => none }
def TurnBackWrongFalsely : Prop := turnBackRow.holds Try.pinned (OpenSpec.ofChange turnBackWrong)

/-- 'squeallaw04.TurnTests': WHATEVER THE INPUT: true; the input reads as it did. -/
def turnTestsSpec : ChangeSpec := { name := "turnTests", fn := fun _ => fun
  | [d1, d2, d3] => { results := [.lit (.bool true)], args := [d1, d2, d3] }
  | _ => none }
def turnTestsRow : OpenClaim := { program := "ytefkdjanneeomaa", sum := "82c75ced64760a0d7a3a4ca3ee5ccc0c021a33cd446b05d5d030bf025051d7c8", func := "squeal/squeallaw04.TurnTests", spec := "turnTests", apart := false }
def TurnTestsSaid : Prop := turnTestsRow.holds Try.pinned (OpenSpec.ofChange turnTestsSpec)

/-- ITS FALSE NEIGHBOUR: 'it returns false'. Refute it at one input. -/
def turnTestsWrong : ChangeSpec := { name := "turnTests", fn := fun _ => fun
  | [d1, d2, d3] => { results := [.lit (.bool false)], args := [d1, d2, d3] }
  | _ => none }
def TurnTestsWrongFalsely : Prop := turnTestsRow.holds Try.pinned (OpenSpec.ofChange turnTestsWrong)

/-- 'squeallaw02.AluDoes': WHATEVER THE INPUT: true; the input reads as it did. -/
def aluDoesSpec : ChangeSpec := { name := "aluDoes", fn := fun _ => fun
  | [d1, d2, d3] => { results := [.lit (.bool true)], args := [d1, d2, d3] }
  | _ => none }
def aluDoesRow : OpenClaim := { program := "ytefkdjanneeomaa", sum := "82c75ced64760a0d7a3a4ca3ee5ccc0c021a33cd446b05d5d030bf025051d7c8", func := "squeal/squeallaw02.AluDoes", spec := "aluDoes", apart := false }
def AluDoesSaid : Prop := aluDoesRow.holds Try.pinned (OpenSpec.ofChange aluDoesSpec)

/-- ITS FALSE NEIGHBOUR: 'it returns false'. Refute it at one input. -/
def aluDoesWrong : ChangeSpec := { name := "aluDoes", fn := fun _ => fun
  | [d1, d2, d3] => { results := [.lit (.bool false)], args := [d1, d2, d3] }
  | _ => none }
def AluDoesWrongFalsely : Prop := aluDoesRow.holds Try.pinned (OpenSpec.ofChange aluDoesWrong)

/- THE SECOND FORM. 'bulk': how many values and letters a reading holds, each counted each time it is reached (what is shared counts as often as it is met; a slice's spare places count too). A statement '..UptoSaid' is the law's where the arguments, and the package variables that the reading takes, are together of bulk at most 1048576: NARROWER than '..Said'. Prove '..Said' where nothing that the law and all that it calls make is longer than what came in: it says more and counts as full. Else prove '..UptoSaid'. A law counts once. -/
mutual
def uptoBulk {H : Type} : DataW H → Nat
  | .lit (.string bytes) => bytes.length + 1
  | .lit _ => 1
  | .nil => 1
  | .ptr d => uptoBulk d + 1
  | .slice elems spare => uptoBulkAll elems + uptoBulkAll spare + 1
  | .agg parts => uptoBulkAll parts + 1
  | .iface _ d => uptoBulk d + 1
  | .map entries => uptoBulkEntries entries + 1
  | .held _ => 1
def uptoBulkAll {H : Type} : List (DataW H) → Nat
  | [] => 0
  | d :: r => uptoBulk d + uptoBulkAll r
def uptoBulkEntries {H : Type} : List (Lit × DataW H) → Nat
  | [] => 0
  | x :: r => uptoBulkEntry x + uptoBulkEntries r
def uptoBulkEntry {H : Type} : Lit × DataW H → Nat
  | (.string bytes, d) => bytes.length + uptoBulk d + 1
  | (_, d) => uptoBulk d + 1
 end
def uptoSmall : (H : Type) → List (DataW H) → Bool := fun _ ds => decide (uptoBulkAll ds ≤ 1048576)
def OpenSpec.upto (s : _root_.Go.ChangeSpec) : _root_.Go.OpenSpec := { _root_.Go.OpenSpec.ofChange s with cond := some uptoSmall }

/-- 'squeallaw04.TurnHalves', WHERE WHAT IT READS IS OF BULK AT MOST 1048576: true; the input reads as it did. -/
def turnHalvesUptoRow : OpenClaim := { program := "ytefkdjanneeomaa", sum := "82c75ced64760a0d7a3a4ca3ee5ccc0c021a33cd446b05d5d030bf025051d7c8", func := "squeal/squeallaw04.TurnHalves", spec := "turnHalves", apart := false, narrowed := true }
def TurnHalvesUptoSaid : Prop := turnHalvesUptoRow.holds Try.pinned (OpenSpec.upto turnHalvesSpec)

/-- 'squeallaw04.TurnDoes', WHERE WHAT IT READS IS OF BULK AT MOST 1048576: true; the input reads as it did. -/
def turnDoesUptoRow : OpenClaim := { program := "ytefkdjanneeomaa", sum := "82c75ced64760a0d7a3a4ca3ee5ccc0c021a33cd446b05d5d030bf025051d7c8", func := "squeal/squeallaw04.TurnDoes", spec := "turnDoes", apart := false, narrowed := true }
def TurnDoesUptoSaid : Prop := turnDoesUptoRow.holds Try.pinned (OpenSpec.upto turnDoesSpec)

/-- 'squeallaw02.AluDigits', WHERE WHAT IT READS IS OF BULK AT MOST 1048576: true; the input reads as it did. -/
def aluDigitsUptoRow : OpenClaim := { program := "ytefkdjanneeomaa", sum := "82c75ced64760a0d7a3a4ca3ee5ccc0c021a33cd446b05d5d030bf025051d7c8", func := "squeal/squeallaw02.AluDigits", spec := "aluDigits", apart := false, narrowed := true }
def AluDigitsUptoSaid : Prop := aluDigitsUptoRow.holds Try.pinned (OpenSpec.upto aluDigitsSpec)

/-- 'squeallaw02.AluCarries', WHERE WHAT IT READS IS OF BULK AT MOST 1048576: true; the input reads as it did. -/
def aluCarriesUptoRow : OpenClaim := { program := "ytefkdjanneeomaa", sum := "82c75ced64760a0d7a3a4ca3ee5ccc0c021a33cd446b05d5d030bf025051d7c8", func := "squeal/squeallaw02.AluCarries", spec := "aluCarries", apart := false, narrowed := true }
def AluCarriesUptoSaid : Prop := aluCarriesUptoRow.holds Try.pinned (OpenSpec.upto aluCarriesSpec)

/-- 'squeallaw02.AluSums', WHERE WHAT IT READS IS OF BULK AT MOST 1048576: true; the input reads as it did. -/
def aluSumsUptoRow : OpenClaim := { program := "ytefkdjanneeomaa", sum := "82c75ced64760a0d7a3a4ca3ee5ccc0c021a33cd446b05d5d030bf025051d7c8", func := "squeal/squeallaw02.AluSums", spec := "aluSums", apart := false, narrowed := true }
def AluSumsUptoSaid : Prop := aluSumsUptoRow.holds Try.pinned (OpenSpec.upto aluSumsSpec)

/-- 'squeallaw02.AluSigned', WHERE WHAT IT READS IS OF BULK AT MOST 1048576: true; the input reads as it did. -/
def aluSignedUptoRow : OpenClaim := { program := "ytefkdjanneeomaa", sum := "82c75ced64760a0d7a3a4ca3ee5ccc0c021a33cd446b05d5d030bf025051d7c8", func := "squeal/squeallaw02.AluSigned", spec := "aluSigned", apart := false, narrowed := true }
def AluSignedUptoSaid : Prop := aluSignedUptoRow.holds Try.pinned (OpenSpec.upto aluSignedSpec)

/-- 'squeallaw02.AluBack', WHERE WHAT IT READS IS OF BULK AT MOST 1048576: true; the input reads as it did. -/
def aluBackUptoRow : OpenClaim := { program := "ytefkdjanneeomaa", sum := "82c75ced64760a0d7a3a4ca3ee5ccc0c021a33cd446b05d5d030bf025051d7c8", func := "squeal/squeallaw02.AluBack", spec := "aluBack", apart := false, narrowed := true }
def AluBackUptoSaid : Prop := aluBackUptoRow.holds Try.pinned (OpenSpec.upto aluBackSpec)

/-- 'squeallaw02.AluOnes', WHERE WHAT IT READS IS OF BULK AT MOST 1048576: true; the input reads as it did. -/
def aluOnesUptoRow : OpenClaim := { program := "ytefkdjanneeomaa", sum := "82c75ced64760a0d7a3a4ca3ee5ccc0c021a33cd446b05d5d030bf025051d7c8", func := "squeal/squeallaw02.AluOnes", spec := "aluOnes", apart := false, narrowed := true }
def AluOnesUptoSaid : Prop := aluOnesUptoRow.holds Try.pinned (OpenSpec.upto aluOnesSpec)

/-- 'squeallaw04.TurnBits', WHERE WHAT IT READS IS OF BULK AT MOST 1048576: true; the input reads as it did. -/
def turnBitsUptoRow : OpenClaim := { program := "ytefkdjanneeomaa", sum := "82c75ced64760a0d7a3a4ca3ee5ccc0c021a33cd446b05d5d030bf025051d7c8", func := "squeal/squeallaw04.TurnBits", spec := "turnBits", apart := false, narrowed := true }
def TurnBitsUptoSaid : Prop := turnBitsUptoRow.holds Try.pinned (OpenSpec.upto turnBitsSpec)

/-- 'squeallaw04.TurnBack', WHERE WHAT IT READS IS OF BULK AT MOST 1048576: true; the input reads as it did. -/
def turnBackUptoRow : OpenClaim := { program := "ytefkdjanneeomaa", sum := "82c75ced64760a0d7a3a4ca3ee5ccc0c021a33cd446b05d5d030bf025051d7c8", func := "squeal/squeallaw04.TurnBack", spec := "turnBack", apart := false, narrowed := true }
def TurnBackUptoSaid : Prop := turnBackUptoRow.holds Try.pinned (OpenSpec.upto turnBackSpec)

/-- 'squeallaw04.TurnTests', WHERE WHAT IT READS IS OF BULK AT MOST 1048576: true; the input reads as it did. -/
def turnTestsUptoRow : OpenClaim := { program := "ytefkdjanneeomaa", sum := "82c75ced64760a0d7a3a4ca3ee5ccc0c021a33cd446b05d5d030bf025051d7c8", func := "squeal/squeallaw04.TurnTests", spec := "turnTests", apart := false, narrowed := true }
def TurnTestsUptoSaid : Prop := turnTestsUptoRow.holds Try.pinned (OpenSpec.upto turnTestsSpec)

/-- 'squeallaw02.AluDoes', WHERE WHAT IT READS IS OF BULK AT MOST 1048576: true; the input reads as it did. -/
def aluDoesUptoRow : OpenClaim := { program := "ytefkdjanneeomaa", sum := "82c75ced64760a0d7a3a4ca3ee5ccc0c021a33cd446b05d5d030bf025051d7c8", func := "squeal/squeallaw02.AluDoes", spec := "aluDoes", apart := false, narrowed := true }
def AluDoesUptoSaid : Prop := aluDoesUptoRow.holds Try.pinned (OpenSpec.upto aluDoesSpec)

end Rows
end Go.Proofs.Ytefkdjanneeomaa
