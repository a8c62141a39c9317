/-
  No cell of these rows narrows 'for every input' (looked for: loops, veiled, ifaces, maps, wideKeys, modest, calm, conditions, laid).
  DERIVED. THE GIVEN ROWS OF THIS SEAT. 2 by the template 'for every input the law returns true; each argument reads behind the call as it read before'; 0 by the template 'total and deterministic' (their statements: YthhodkadfenkbaaTotals.lean).
  GIVEN WITH THE SEED: the statements are not yours to turn. If you find one false, say at which input.
  Laid BY PROGRAM, IN A SANDBOX (cutbox-rows.mjs): the forced cells as the released guide's own fill.sh prints them over the translation 96206813420a5c74… (all of the seat's roots in one cut). By AI agents, Wed Nov 11 2026. No macro, syntax, notation, axiom, sorry.
-/
import Derived.Test.YthhodkadfenkbaaChecked
import GoSem.Claim
import GoSem.ClaimJoined
import GoSem.ClaimMapViews
import Derived.JoinedTies
import Derived.KernelRfl
namespace Go.Proofs.Ythhodkadfenkbaa
/- THE CELL 'sum', in the pinned program and in every row, IS THE sha256 OF THE DUMP (.gsa) THAT YthhodkadfenkbaaProg.lean LOADS. Nothing in Lean hashes anything: it is a label: what it is worth is what the hold of that sum in a sandbox is worth. -/
noncomputable def Try.pinned : Pinned := { name := "ythhodkadfenkbaa", sum := "96206813420a5c74f9ae159ff3bcb327d93e2045308b605e468c1d38e62f90d6", checked := Try.checked }
namespace Rows
def none {H : Type} : Left H := { results := [], args := [] }

/-- 'squeallaw31.SnapPacks': WHATEVER THE INPUT: true; the input reads as it did. -/
def snapPacksSpec : ChangeSpec := { name := "snapPacks", fn := fun _ => fun
  | [d1, d2] => { results := [.lit (.bool true)], args := [d1, d2] }
  | _ => none }
def snapPacksRow : OpenClaim := { program := "ythhodkadfenkbaa", sum := "96206813420a5c74f9ae159ff3bcb327d93e2045308b605e468c1d38e62f90d6", func := "squeal/squeallaw31.SnapPacks", spec := "snapPacks", apart := false }
def SnapPacksSaid : Prop := snapPacksRow.holds Try.pinned (OpenSpec.ofChange snapPacksSpec)

/-- ITS FALSE NEIGHBOUR: 'it returns false'. Refute it at one input. -/
def snapPacksWrong : ChangeSpec := { name := "snapPacks", fn := fun _ => fun
  | [d1, d2] => { results := [.lit (.bool false)], args := [d1, d2] }
  | _ => none }
def SnapPacksWrongFalsely : Prop := snapPacksRow.holds Try.pinned (OpenSpec.ofChange snapPacksWrong)

/-- 'squeallaw31.SnapSmall': WHATEVER THE INPUT: true; the input reads as it did. -/
def snapSmallSpec : ChangeSpec := { name := "snapSmall", fn := fun _ => fun
  | [d1, d2, d3] => { results := [.lit (.bool true)], args := [d1, d2, d3] }
  | _ => none }
def snapSmallRow : OpenClaim := { program := "ythhodkadfenkbaa", sum := "96206813420a5c74f9ae159ff3bcb327d93e2045308b605e468c1d38e62f90d6", func := "squeal/squeallaw31.SnapSmall", spec := "snapSmall", apart := false }
def SnapSmallSaid : Prop := snapSmallRow.holds Try.pinned (OpenSpec.ofChange snapSmallSpec)

/-- ITS FALSE NEIGHBOUR: 'it returns false'. Refute it at one input. -/
def snapSmallWrong : ChangeSpec := { name := "snapSmall", fn := fun _ => fun
  | [d1, d2, d3] => { results := [.lit (.bool false)], args := [d1, d2, d3] }
  | _ => none }
def SnapSmallWrongFalsely : Prop := snapSmallRow.holds Try.pinned (OpenSpec.ofChange snapSmallWrong)

/- THE SECOND FORM. 'bulk': how many values and letters a reading holds, each counted each time it is reached (what is shared counts as often as it is met; a slice's spare places count too). A statement '..UptoSaid' is the law's where the arguments, and the package variables that the reading takes, are together of bulk at most 1048576: NARROWER than '..Said'. Prove '..Said' where nothing that the law and all that it calls make is longer than what came in: it says more and counts as full. Else prove '..UptoSaid'. A law counts once. -/
mutual
def uptoBulk {H : Type} : DataW H → Nat
  | .lit (.string bytes) => bytes.length + 1
  | .lit _ => 1
  | .nil => 1
  | .ptr d => uptoBulk d + 1
  | .slice elems spare => uptoBulkAll elems + uptoBulkAll spare + 1
  | .agg parts => uptoBulkAll parts + 1
  | .iface _ d => uptoBulk d + 1
  | .map entries => uptoBulkEntries entries + 1
  | .held _ => 1
def uptoBulkAll {H : Type} : List (DataW H) → Nat
  | [] => 0
  | d :: r => uptoBulk d + uptoBulkAll r
def uptoBulkEntries {H : Type} : List (Lit × DataW H) → Nat
  | [] => 0
  | x :: r => uptoBulkEntry x + uptoBulkEntries r
def uptoBulkEntry {H : Type} : Lit × DataW H → Nat
  | (.string bytes, d) => bytes.length + uptoBulk d + 1
  | (_, d) => uptoBulk d + 1
 end
def uptoSmall : (H : Type) → List (DataW H) → Bool := fun _ ds => decide (uptoBulkAll ds ≤ 1048576)
def OpenSpec.upto (s : _root_.Go.ChangeSpec) : _root_.Go.OpenSpec := { _root_.Go.OpenSpec.ofChange s with cond := some uptoSmall }

/-- 'squeallaw31.SnapPacks', WHERE WHAT IT READS IS OF BULK AT MOST 1048576: true; the input reads as it did. -/
def snapPacksUptoRow : OpenClaim := { program := "ythhodkadfenkbaa", sum := "96206813420a5c74f9ae159ff3bcb327d93e2045308b605e468c1d38e62f90d6", func := "squeal/squeallaw31.SnapPacks", spec := "snapPacks", apart := false, narrowed := true }
def SnapPacksUptoSaid : Prop := snapPacksUptoRow.holds Try.pinned (OpenSpec.upto snapPacksSpec)

/-- 'squeallaw31.SnapSmall', WHERE WHAT IT READS IS OF BULK AT MOST 1048576: true; the input reads as it did. -/
def snapSmallUptoRow : OpenClaim := { program := "ythhodkadfenkbaa", sum := "96206813420a5c74f9ae159ff3bcb327d93e2045308b605e468c1d38e62f90d6", func := "squeal/squeallaw31.SnapSmall", spec := "snapSmall", apart := false, narrowed := true }
def SnapSmallUptoSaid : Prop := snapSmallUptoRow.holds Try.pinned (OpenSpec.upto snapSmallSpec)

end Rows
end Go.Proofs.Ythhodkadfenkbaa
