/-
  No cell of these rows narrows 'for every input' (looked for: loops, veiled, ifaces, maps, wideKeys, modest, calm, conditions, laid).
  DERIVED. THE GIVEN ROWS OF THIS SEAT. 9 by the template 'for every input the law returns true; each argument reads behind the call as it read before'; 0 by the template 'total and deterministic' (their statements: YtlkhghnbfdfikaaTotals.lean).
  GIVEN WITH THE SEED: the statements are not yours to turn. If you find one false, say at which input.
  Laid BY PROGRAM, IN A SANDBOX (cutbox-rows.mjs): the forced cells as the released guide's own fill.sh prints them over the translation 421df0a2a16e9e68… (all of the seat's roots in one cut). By AI agents, Wed Nov 11 2026. No macro, syntax, notation, axiom, sorry.
-/
import Derived.Test.YtlkhghnbfdfikaaChecked
import GoSem.Claim
import GoSem.ClaimJoined
import GoSem.ClaimMapViews
import Derived.JoinedTies
import Derived.KernelRfl
namespace Go.Proofs.Ytlkhghnbfdfikaa
/- THE CELL 'sum', in the pinned program and in every row, IS THE sha256 OF THE DUMP (.gsa) THAT YtlkhghnbfdfikaaProg.lean LOADS. Nothing in Lean hashes anything: it is a label: what it is worth is what the hold of that sum in a sandbox is worth. -/
noncomputable def Try.pinned : Pinned := { name := "ytlkhghnbfdfikaa", sum := "421df0a2a16e9e68af52160362d9b7bf4d064858b04014e6ee2f891cbdd7bdb2", checked := Try.checked }
namespace Rows
def none {H : Type} : Left H := { results := [], args := [] }

/-- 'squeallaw09.UlaCells': WHATEVER THE INPUT: true; the input reads as it did. -/
def ulaCellsSpec : ChangeSpec := { name := "ulaCells", fn := fun _ => fun
  | [d1, d2] => { results := [.lit (.bool true)], args := [d1, d2] }
  | _ => none }
def ulaCellsRow : OpenClaim := { program := "ytlkhghnbfdfikaa", sum := "421df0a2a16e9e68af52160362d9b7bf4d064858b04014e6ee2f891cbdd7bdb2", func := "squeal/squeallaw09.UlaCells", spec := "ulaCells", apart := false }
def UlaCellsSaid : Prop := ulaCellsRow.holds Try.pinned (OpenSpec.ofChange ulaCellsSpec)

/-- ITS FALSE NEIGHBOUR: 'it returns false'. Refute it at one input. -/
def ulaCellsWrong : ChangeSpec := { name := "ulaCells", fn := fun _ => fun
  | [d1, d2] => { results := [.lit (.bool false)], args := [d1, d2] }
  | _ => none }
def UlaCellsWrongFalsely : Prop := ulaCellsRow.holds Try.pinned (OpenSpec.ofChange ulaCellsWrong)

/-- 'squeallaw09.UlaApart': WHATEVER THE INPUT: true; the input reads as it did. -/
def ulaApartSpec : ChangeSpec := { name := "ulaApart", fn := fun _ => fun
  | [d1, d2] => { results := [.lit (.bool true)], args := [d1, d2] }
  | _ => none }
def ulaApartRow : OpenClaim := { program := "ytlkhghnbfdfikaa", sum := "421df0a2a16e9e68af52160362d9b7bf4d064858b04014e6ee2f891cbdd7bdb2", func := "squeal/squeallaw09.UlaApart", spec := "ulaApart", apart := false }
def UlaApartSaid : Prop := ulaApartRow.holds Try.pinned (OpenSpec.ofChange ulaApartSpec)

/-- ITS FALSE NEIGHBOUR: 'it returns false'. Refute it at one input. -/
def ulaApartWrong : ChangeSpec := { name := "ulaApart", fn := fun _ => fun
  | [d1, d2] => { results := [.lit (.bool false)], args := [d1, d2] }
  | _ => none }
def UlaApartWrongFalsely : Prop := ulaApartRow.holds Try.pinned (OpenSpec.ofChange ulaApartWrong)

/-- 'squeallaw09.UlaLines': WHATEVER THE INPUT: true; the input reads as it did. -/
def ulaLinesSpec : ChangeSpec := { name := "ulaLines", fn := fun _ => fun
  | [d] => { results := [.lit (.bool true)], args := [d] }
  | _ => none }
def ulaLinesRow : OpenClaim := { program := "ytlkhghnbfdfikaa", sum := "421df0a2a16e9e68af52160362d9b7bf4d064858b04014e6ee2f891cbdd7bdb2", func := "squeal/squeallaw09.UlaLines", spec := "ulaLines", apart := false }
def UlaLinesSaid : Prop := ulaLinesRow.holds Try.pinned (OpenSpec.ofChange ulaLinesSpec)

/-- ITS FALSE NEIGHBOUR: 'it returns false'. Refute it at one input. -/
def ulaLinesWrong : ChangeSpec := { name := "ulaLines", fn := fun _ => fun
  | [d] => { results := [.lit (.bool false)], args := [d] }
  | _ => none }
def UlaLinesWrongFalsely : Prop := ulaLinesRow.holds Try.pinned (OpenSpec.ofChange ulaLinesWrong)

/-- 'squeallaw10.KeysFinds': WHATEVER THE INPUT: true; the input reads as it did. -/
def keysFindsSpec : ChangeSpec := { name := "keysFinds", fn := fun _ => fun
  | [d] => { results := [.lit (.bool true)], args := [d] }
  | _ => none }
def keysFindsRow : OpenClaim := { program := "ytlkhghnbfdfikaa", sum := "421df0a2a16e9e68af52160362d9b7bf4d064858b04014e6ee2f891cbdd7bdb2", func := "squeal/squeallaw10.KeysFinds", spec := "keysFinds", apart := false }
def KeysFindsSaid : Prop := keysFindsRow.holds Try.pinned (OpenSpec.ofChange keysFindsSpec)

/-- ITS FALSE NEIGHBOUR: 'it returns false'. Refute it at one input. -/
def keysFindsWrong : ChangeSpec := { name := "keysFinds", fn := fun _ => fun
  | [d] => { results := [.lit (.bool false)], args := [d] }
  | _ => none }
def KeysFindsWrongFalsely : Prop := keysFindsRow.holds Try.pinned (OpenSpec.ofChange keysFindsWrong)

/-- 'squeallaw09.UlaWaits': WHATEVER THE INPUT: true; the input reads as it did. -/
def ulaWaitsSpec : ChangeSpec := { name := "ulaWaits", fn := fun _ => fun
  | [d1, d2, d3] => { results := [.lit (.bool true)], args := [d1, d2, d3] }
  | _ => none }
def ulaWaitsRow : OpenClaim := { program := "ytlkhghnbfdfikaa", sum := "421df0a2a16e9e68af52160362d9b7bf4d064858b04014e6ee2f891cbdd7bdb2", func := "squeal/squeallaw09.UlaWaits", spec := "ulaWaits", apart := false }
def UlaWaitsSaid : Prop := ulaWaitsRow.holds Try.pinned (OpenSpec.ofChange ulaWaitsSpec)

/-- ITS FALSE NEIGHBOUR: 'it returns false'. Refute it at one input. -/
def ulaWaitsWrong : ChangeSpec := { name := "ulaWaits", fn := fun _ => fun
  | [d1, d2, d3] => { results := [.lit (.bool false)], args := [d1, d2, d3] }
  | _ => none }
def UlaWaitsWrongFalsely : Prop := ulaWaitsRow.holds Try.pinned (OpenSpec.ofChange ulaWaitsWrong)

/-- 'squeallaw10.KeysPlays': WHATEVER THE INPUT: true; the input reads as it did. -/
def keysPlaysSpec : ChangeSpec := { name := "keysPlays", fn := fun _ => fun
  | [d1, d2] => { results := [.lit (.bool true)], args := [d1, d2] }
  | _ => none }
def keysPlaysRow : OpenClaim := { program := "ytlkhghnbfdfikaa", sum := "421df0a2a16e9e68af52160362d9b7bf4d064858b04014e6ee2f891cbdd7bdb2", func := "squeal/squeallaw10.KeysPlays", spec := "keysPlays", apart := false }
def KeysPlaysSaid : Prop := keysPlaysRow.holds Try.pinned (OpenSpec.ofChange keysPlaysSpec)

/-- ITS FALSE NEIGHBOUR: 'it returns false'. Refute it at one input. -/
def keysPlaysWrong : ChangeSpec := { name := "keysPlays", fn := fun _ => fun
  | [d1, d2] => { results := [.lit (.bool false)], args := [d1, d2] }
  | _ => none }
def KeysPlaysWrongFalsely : Prop := keysPlaysRow.holds Try.pinned (OpenSpec.ofChange keysPlaysWrong)

/-- 'squeallaw10.KeysRows': WHATEVER THE INPUT: true; the input reads as it did. -/
def keysRowsSpec : ChangeSpec := { name := "keysRows", fn := fun _ => fun
  | [d1, d2, d3] => { results := [.lit (.bool true)], args := [d1, d2, d3] }
  | _ => none }
def keysRowsRow : OpenClaim := { program := "ytlkhghnbfdfikaa", sum := "421df0a2a16e9e68af52160362d9b7bf4d064858b04014e6ee2f891cbdd7bdb2", func := "squeal/squeallaw10.KeysRows", spec := "keysRows", apart := false }
def KeysRowsSaid : Prop := keysRowsRow.holds Try.pinned (OpenSpec.ofChange keysRowsSpec)

/-- ITS FALSE NEIGHBOUR: 'it returns false'. Refute it at one input. -/
def keysRowsWrong : ChangeSpec := { name := "keysRows", fn := fun _ => fun
  | [d1, d2, d3] => { results := [.lit (.bool false)], args := [d1, d2, d3] }
  | _ => none }
def KeysRowsWrongFalsely : Prop := keysRowsRow.holds Try.pinned (OpenSpec.ofChange keysRowsWrong)

/-- 'squeallaw10.KeysNils': WHATEVER THE INPUT: true; the input reads as it did. -/
def keysNilsSpec : ChangeSpec := { name := "keysNils", fn := fun _ => fun
  | [d1, d2] => { results := [.lit (.bool true)], args := [d1, d2] }
  | _ => none }
def keysNilsRow : OpenClaim := { program := "ytlkhghnbfdfikaa", sum := "421df0a2a16e9e68af52160362d9b7bf4d064858b04014e6ee2f891cbdd7bdb2", func := "squeal/squeallaw10.KeysNils", spec := "keysNils", apart := false }
def KeysNilsSaid : Prop := keysNilsRow.holds Try.pinned (OpenSpec.ofChange keysNilsSpec)

/-- ITS FALSE NEIGHBOUR: 'it returns false'. Refute it at one input. -/
def keysNilsWrong : ChangeSpec := { name := "keysNils", fn := fun _ => fun
  | [d1, d2] => { results := [.lit (.bool false)], args := [d1, d2] }
  | _ => none }
def KeysNilsWrongFalsely : Prop := keysNilsRow.holds Try.pinned (OpenSpec.ofChange keysNilsWrong)

/-- 'squeallaw09.UlaFetches': WHATEVER THE INPUT: true; the input reads as it did. -/
def ulaFetchesSpec : ChangeSpec := { name := "ulaFetches", fn := fun _ => fun
  | [d] => { results := [.lit (.bool true)], args := [d] }
  | _ => none }
def ulaFetchesRow : OpenClaim := { program := "ytlkhghnbfdfikaa", sum := "421df0a2a16e9e68af52160362d9b7bf4d064858b04014e6ee2f891cbdd7bdb2", func := "squeal/squeallaw09.UlaFetches", spec := "ulaFetches", apart := false }
def UlaFetchesSaid : Prop := ulaFetchesRow.holds Try.pinned (OpenSpec.ofChange ulaFetchesSpec)

/-- ITS FALSE NEIGHBOUR: 'it returns false'. Refute it at one input. -/
def ulaFetchesWrong : ChangeSpec := { name := "ulaFetches", fn := fun _ => fun
  | [d] => { results := [.lit (.bool false)], args := [d] }
  | _ => none }
def UlaFetchesWrongFalsely : Prop := ulaFetchesRow.holds Try.pinned (OpenSpec.ofChange ulaFetchesWrong)

/- THE SECOND FORM. 'bulk': how many values and letters a reading holds, each counted each time it is reached (what is shared counts as often as it is met; a slice's spare places count too). A statement '..UptoSaid' is the law's where the arguments, and the package variables that the reading takes, are together of bulk at most 1048576: NARROWER than '..Said'. Prove '..Said' where nothing that the law and all that it calls make is longer than what came in: it says more and counts as full. Else prove '..UptoSaid'. A law counts once. -/
mutual
def uptoBulk {H : Type} : DataW H → Nat
  | .lit (.string bytes) => bytes.length + 1
  | .lit _ => 1
  | .nil => 1
  | .ptr d => uptoBulk d + 1
  | .slice elems spare => uptoBulkAll elems + uptoBulkAll spare + 1
  | .agg parts => uptoBulkAll parts + 1
  | .iface _ d => uptoBulk d + 1
  | .map entries => uptoBulkEntries entries + 1
  | .held _ => 1
def uptoBulkAll {H : Type} : List (DataW H) → Nat
  | [] => 0
  | d :: r => uptoBulk d + uptoBulkAll r
def uptoBulkEntries {H : Type} : List (Lit × DataW H) → Nat
  | [] => 0
  | x :: r => uptoBulkEntry x + uptoBulkEntries r
def uptoBulkEntry {H : Type} : Lit × DataW H → Nat
  | (.string bytes, d) => bytes.length + uptoBulk d + 1
  | (_, d) => uptoBulk d + 1
 end
def uptoSmall : (H : Type) → List (DataW H) → Bool := fun _ ds => decide (uptoBulkAll ds ≤ 1048576)
def OpenSpec.upto (s : _root_.Go.ChangeSpec) : _root_.Go.OpenSpec := { _root_.Go.OpenSpec.ofChange s with cond := some uptoSmall }

/-- 'squeallaw09.UlaCells', WHERE WHAT IT READS IS OF BULK AT MOST 1048576: true; the input reads as it did. -/
def ulaCellsUptoRow : OpenClaim := { program := "ytlkhghnbfdfikaa", sum := "421df0a2a16e9e68af52160362d9b7bf4d064858b04014e6ee2f891cbdd7bdb2", func := "squeal/squeallaw09.UlaCells", spec := "ulaCells", apart := false, narrowed := true }
def UlaCellsUptoSaid : Prop := ulaCellsUptoRow.holds Try.pinned (OpenSpec.upto ulaCellsSpec)

/-- 'squeallaw09.UlaApart', WHERE WHAT IT READS IS OF BULK AT MOST 1048576: true; the input reads as it did. -/
def ulaApartUptoRow : OpenClaim := { program := "ytlkhghnbfdfikaa", sum := "421df0a2a16e9e68af52160362d9b7bf4d064858b04014e6ee2f891cbdd7bdb2", func := "squeal/squeallaw09.UlaApart", spec := "ulaApart", apart := false, narrowed := true }
def UlaApartUptoSaid : Prop := ulaApartUptoRow.holds Try.pinned (OpenSpec.upto ulaApartSpec)

/-- 'squeallaw09.UlaLines', WHERE WHAT IT READS IS OF BULK AT MOST 1048576: true; the input reads as it did. -/
def ulaLinesUptoRow : OpenClaim := { program := "ytlkhghnbfdfikaa", sum := "421df0a2a16e9e68af52160362d9b7bf4d064858b04014e6ee2f891cbdd7bdb2", func := "squeal/squeallaw09.UlaLines", spec := "ulaLines", apart := false, narrowed := true }
def UlaLinesUptoSaid : Prop := ulaLinesUptoRow.holds Try.pinned (OpenSpec.upto ulaLinesSpec)

/-- 'squeallaw10.KeysFinds', WHERE WHAT IT READS IS OF BULK AT MOST 1048576: true; the input reads as it did. -/
def keysFindsUptoRow : OpenClaim := { program := "ytlkhghnbfdfikaa", sum := "421df0a2a16e9e68af52160362d9b7bf4d064858b04014e6ee2f891cbdd7bdb2", func := "squeal/squeallaw10.KeysFinds", spec := "keysFinds", apart := false, narrowed := true }
def KeysFindsUptoSaid : Prop := keysFindsUptoRow.holds Try.pinned (OpenSpec.upto keysFindsSpec)

/-- 'squeallaw09.UlaWaits', WHERE WHAT IT READS IS OF BULK AT MOST 1048576: true; the input reads as it did. -/
def ulaWaitsUptoRow : OpenClaim := { program := "ytlkhghnbfdfikaa", sum := "421df0a2a16e9e68af52160362d9b7bf4d064858b04014e6ee2f891cbdd7bdb2", func := "squeal/squeallaw09.UlaWaits", spec := "ulaWaits", apart := false, narrowed := true }
def UlaWaitsUptoSaid : Prop := ulaWaitsUptoRow.holds Try.pinned (OpenSpec.upto ulaWaitsSpec)

/-- 'squeallaw10.KeysPlays', WHERE WHAT IT READS IS OF BULK AT MOST 1048576: true; the input reads as it did. -/
def keysPlaysUptoRow : OpenClaim := { program := "ytlkhghnbfdfikaa", sum := "421df0a2a16e9e68af52160362d9b7bf4d064858b04014e6ee2f891cbdd7bdb2", func := "squeal/squeallaw10.KeysPlays", spec := "keysPlays", apart := false, narrowed := true }
def KeysPlaysUptoSaid : Prop := keysPlaysUptoRow.holds Try.pinned (OpenSpec.upto keysPlaysSpec)

/-- 'squeallaw10.KeysRows', WHERE WHAT IT READS IS OF BULK AT MOST 1048576: true; the input reads as it did. -/
def keysRowsUptoRow : OpenClaim := { program := "ytlkhghnbfdfikaa", sum := "421df0a2a16e9e68af52160362d9b7bf4d064858b04014e6ee2f891cbdd7bdb2", func := "squeal/squeallaw10.KeysRows", spec := "keysRows", apart := false, narrowed := true }
def KeysRowsUptoSaid : Prop := keysRowsUptoRow.holds Try.pinned (OpenSpec.upto keysRowsSpec)

/-- 'squeallaw10.KeysNils', WHERE WHAT IT READS IS OF BULK AT MOST 1048576: true; the input reads as it did. -/
def keysNilsUptoRow : OpenClaim := { program := "ytlkhghnbfdfikaa", sum := "421df0a2a16e9e68af52160362d9b7bf4d064858b04014e6ee2f891cbdd7bdb2", func := "squeal/squeallaw10.KeysNils", spec := "keysNils", apart := false, narrowed := true }
def KeysNilsUptoSaid : Prop := keysNilsUptoRow.holds Try.pinned (OpenSpec.upto keysNilsSpec)

/-- 'squeallaw09.UlaFetches', WHERE WHAT IT READS IS OF BULK AT MOST 1048576: true; the input reads as it did. -/
def ulaFetchesUptoRow : OpenClaim := { program := "ytlkhghnbfdfikaa", sum := "421df0a2a16e9e68af52160362d9b7bf4d064858b04014e6ee2f891cbdd7bdb2", func := "squeal/squeallaw09.UlaFetches", spec := "ulaFetches", apart := false, narrowed := true }
def UlaFetchesUptoSaid : Prop := ulaFetchesUptoRow.holds Try.pinned (OpenSpec.upto ulaFetchesSpec)

end Rows
end Go.Proofs.Ytlkhghnbfdfikaa
