/-
  No cell of these rows narrows 'for every input' (looked for: loops, veiled, ifaces, maps, wideKeys, modest, calm, conditions, laid).
  DERIVED. THE GIVEN ROWS OF THIS SEAT. 4 by the template 'for every input the law returns true; each argument reads behind the call as it read before'; 0 by the template 'total and deterministic' (their statements: YtfcnlgkaejkneaaTotals.lean).
  GIVEN WITH THE SEED: the statements are not yours to turn. If you find one false, say at which input.
  Laid BY PROGRAM, IN A SANDBOX (cutbox-rows.mjs): the forced cells as the released guide's own fill.sh prints them over the translation 0151c05616d2cfbe… (all of the seat's roots in one cut). By AI agents, Wed Nov 11 2026. No macro, syntax, notation, axiom, sorry.
-/
import Derived.Test.YtfcnlgkaejkneaaChecked
import GoSem.Claim
import GoSem.ClaimJoined
import GoSem.ClaimMapViews
import Derived.JoinedTies
import Derived.KernelRfl
namespace Go.Proofs.Ytfcnlgkaejkneaa
/- THE CELL 'sum', in the pinned program and in every row, IS THE sha256 OF THE DUMP (.gsa) THAT YtfcnlgkaejkneaaProg.lean LOADS. Nothing in Lean hashes anything: it is a label: what it is worth is what the hold of that sum in a sandbox is worth. -/
noncomputable def Try.pinned : Pinned := { name := "ytfcnlgkaejkneaa", sum := "0151c05616d2cfbe05aec748d8bc248767b29a0a127d9a2eb5a1a144fe30d484", checked := Try.checked }
namespace Rows
def none {H : Type} : Left H := { results := [], args := [] }

/-- 'squeallaw11.BoardNews': WHATEVER THE INPUT: true; the input reads as it did. -/
def boardNewsSpec : ChangeSpec := { name := "boardNews", fn := fun _ => fun
  | [d1, d2, d3] => { results := [.lit (.bool true)], args := [d1, d2, d3] }
  | _ => none }
def boardNewsRow : OpenClaim := { program := "ytfcnlgkaejkneaa", sum := "0151c05616d2cfbe05aec748d8bc248767b29a0a127d9a2eb5a1a144fe30d484", func := "squeal/squeallaw11.BoardNews", spec := "boardNews", apart := false }
def BoardNewsSaid : Prop := boardNewsRow.holds Try.pinned (OpenSpec.ofChange boardNewsSpec)

/-- ITS FALSE NEIGHBOUR: 'it returns false'. Refute it at one input. -/
def boardNewsWrong : ChangeSpec := { name := "boardNews", fn := fun _ => fun
  | [d1, d2, d3] => { results := [.lit (.bool false)], args := [d1, d2, d3] }
  | _ => none }
def BoardNewsWrongFalsely : Prop := boardNewsRow.holds Try.pinned (OpenSpec.ofChange boardNewsWrong)

/-- 'squeallaw11.BoardScreen': WHATEVER THE INPUT: true; the input reads as it did. -/
def boardScreenSpec : ChangeSpec := { name := "boardScreen", fn := fun _ => fun
  | [d1, d2, d3] => { results := [.lit (.bool true)], args := [d1, d2, d3] }
  | _ => none }
def boardScreenRow : OpenClaim := { program := "ytfcnlgkaejkneaa", sum := "0151c05616d2cfbe05aec748d8bc248767b29a0a127d9a2eb5a1a144fe30d484", func := "squeal/squeallaw11.BoardScreen", spec := "boardScreen", apart := false }
def BoardScreenSaid : Prop := boardScreenRow.holds Try.pinned (OpenSpec.ofChange boardScreenSpec)

/-- ITS FALSE NEIGHBOUR: 'it returns false'. Refute it at one input. -/
def boardScreenWrong : ChangeSpec := { name := "boardScreen", fn := fun _ => fun
  | [d1, d2, d3] => { results := [.lit (.bool false)], args := [d1, d2, d3] }
  | _ => none }
def BoardScreenWrongFalsely : Prop := boardScreenRow.holds Try.pinned (OpenSpec.ofChange boardScreenWrong)

/-- 'squeallaw11.BoardPlays': WHATEVER THE INPUT: true; the input reads as it did. -/
def boardPlaysSpec : ChangeSpec := { name := "boardPlays", fn := fun _ => fun
  | [d1, d2, d3] => { results := [.lit (.bool true)], args := [d1, d2, d3] }
  | _ => none }
def boardPlaysRow : OpenClaim := { program := "ytfcnlgkaejkneaa", sum := "0151c05616d2cfbe05aec748d8bc248767b29a0a127d9a2eb5a1a144fe30d484", func := "squeal/squeallaw11.BoardPlays", spec := "boardPlays", apart := false }
def BoardPlaysSaid : Prop := boardPlaysRow.holds Try.pinned (OpenSpec.ofChange boardPlaysSpec)

/-- ITS FALSE NEIGHBOUR: 'it returns false'. Refute it at one input. -/
def boardPlaysWrong : ChangeSpec := { name := "boardPlays", fn := fun _ => fun
  | [d1, d2, d3] => { results := [.lit (.bool false)], args := [d1, d2, d3] }
  | _ => none }
def BoardPlaysWrongFalsely : Prop := boardPlaysRow.holds Try.pinned (OpenSpec.ofChange boardPlaysWrong)

/-- 'squeallaw11.BoardCopies': WHATEVER THE INPUT: true; the input reads as it did. -/
def boardCopiesSpec : ChangeSpec := { name := "boardCopies", fn := fun _ => fun
  | [d1, d2] => { results := [.lit (.bool true)], args := [d1, d2] }
  | _ => none }
def boardCopiesRow : OpenClaim := { program := "ytfcnlgkaejkneaa", sum := "0151c05616d2cfbe05aec748d8bc248767b29a0a127d9a2eb5a1a144fe30d484", func := "squeal/squeallaw11.BoardCopies", spec := "boardCopies", apart := false }
def BoardCopiesSaid : Prop := boardCopiesRow.holds Try.pinned (OpenSpec.ofChange boardCopiesSpec)

/-- ITS FALSE NEIGHBOUR: 'it returns false'. Refute it at one input. -/
def boardCopiesWrong : ChangeSpec := { name := "boardCopies", fn := fun _ => fun
  | [d1, d2] => { results := [.lit (.bool false)], args := [d1, d2] }
  | _ => none }
def BoardCopiesWrongFalsely : Prop := boardCopiesRow.holds Try.pinned (OpenSpec.ofChange boardCopiesWrong)

/- THE SECOND FORM. 'bulk': how many values and letters a reading holds, each counted each time it is reached (what is shared counts as often as it is met; a slice's spare places count too). A statement '..UptoSaid' is the law's where the arguments, and the package variables that the reading takes, are together of bulk at most 1048576: NARROWER than '..Said'. Prove '..Said' where nothing that the law and all that it calls make is longer than what came in: it says more and counts as full. Else prove '..UptoSaid'. A law counts once. -/
mutual
def uptoBulk {H : Type} : DataW H → Nat
  | .lit (.string bytes) => bytes.length + 1
  | .lit _ => 1
  | .nil => 1
  | .ptr d => uptoBulk d + 1
  | .slice elems spare => uptoBulkAll elems + uptoBulkAll spare + 1
  | .agg parts => uptoBulkAll parts + 1
  | .iface _ d => uptoBulk d + 1
  | .map entries => uptoBulkEntries entries + 1
  | .held _ => 1
def uptoBulkAll {H : Type} : List (DataW H) → Nat
  | [] => 0
  | d :: r => uptoBulk d + uptoBulkAll r
def uptoBulkEntries {H : Type} : List (Lit × DataW H) → Nat
  | [] => 0
  | x :: r => uptoBulkEntry x + uptoBulkEntries r
def uptoBulkEntry {H : Type} : Lit × DataW H → Nat
  | (.string bytes, d) => bytes.length + uptoBulk d + 1
  | (_, d) => uptoBulk d + 1
 end
def uptoSmall : (H : Type) → List (DataW H) → Bool := fun _ ds => decide (uptoBulkAll ds ≤ 1048576)
def OpenSpec.upto (s : _root_.Go.ChangeSpec) : _root_.Go.OpenSpec := { _root_.Go.OpenSpec.ofChange s with cond := some uptoSmall }

/-- 'squeallaw11.BoardNews', WHERE WHAT IT READS IS OF BULK AT MOST 1048576: true; the input reads as it did. -/
def boardNewsUptoRow : OpenClaim := { program := "ytfcnlgkaejkneaa", sum := "0151c05616d2cfbe05aec748d8bc248767b29a0a127d9a2eb5a1a144fe30d484", func := "squeal/squeallaw11.BoardNews", spec := "boardNews", apart := false, narrowed := true }
def BoardNewsUptoSaid : Prop := boardNewsUptoRow.holds Try.pinned (OpenSpec.upto boardNewsSpec)

/-- 'squeallaw11.BoardScreen', WHERE WHAT IT READS IS OF BULK AT MOST 1048576: true; the input reads as it did. -/
def boardScreenUptoRow : OpenClaim := { program := "ytfcnlgkaejkneaa", sum := "0151c05616d2cfbe05aec748d8bc248767b29a0a127d9a2eb5a1a144fe30d484", func := "squeal/squeallaw11.BoardScreen", spec := "boardScreen", apart := false, narrowed := true }
def BoardScreenUptoSaid : Prop := boardScreenUptoRow.holds Try.pinned (OpenSpec.upto boardScreenSpec)

/-- 'squeallaw11.BoardPlays', WHERE WHAT IT READS IS OF BULK AT MOST 1048576: true; the input reads as it did. -/
def boardPlaysUptoRow : OpenClaim := { program := "ytfcnlgkaejkneaa", sum := "0151c05616d2cfbe05aec748d8bc248767b29a0a127d9a2eb5a1a144fe30d484", func := "squeal/squeallaw11.BoardPlays", spec := "boardPlays", apart := false, narrowed := true }
def BoardPlaysUptoSaid : Prop := boardPlaysUptoRow.holds Try.pinned (OpenSpec.upto boardPlaysSpec)

/-- 'squeallaw11.BoardCopies', WHERE WHAT IT READS IS OF BULK AT MOST 1048576: true; the input reads as it did. -/
def boardCopiesUptoRow : OpenClaim := { program := "ytfcnlgkaejkneaa", sum := "0151c05616d2cfbe05aec748d8bc248767b29a0a127d9a2eb5a1a144fe30d484", func := "squeal/squeallaw11.BoardCopies", spec := "boardCopies", apart := false, narrowed := true }
def BoardCopiesUptoSaid : Prop := boardCopiesUptoRow.holds Try.pinned (OpenSpec.upto boardCopiesSpec)

end Rows
end Go.Proofs.Ytfcnlgkaejkneaa
