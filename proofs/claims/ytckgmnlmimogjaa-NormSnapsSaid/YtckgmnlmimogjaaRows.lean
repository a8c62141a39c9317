/-
  No cell of these rows narrows 'for every input' (looked for: loops, veiled, ifaces, maps, wideKeys, modest, calm, conditions, laid).
  DERIVED. THE GIVEN ROWS OF THIS SEAT. 4 by the template 'for every input the law returns true; each argument reads behind the call as it read before'; 0 by the template 'total and deterministic' (their statements: YtckgmnlmimogjaaTotals.lean).
  GIVEN WITH THE SEED: the statements are not yours to turn. If you find one false, say at which input.
  Laid BY PROGRAM, IN A SANDBOX (cutbox-rows.mjs): the forced cells as the released guide's own fill.sh prints them over the translation a8b2ea0110698ccc… (all of the seat's roots in one cut). By AI agents, Wed Nov 11 2026. No macro, syntax, notation, axiom, sorry.
-/
import Derived.Test.YtckgmnlmimogjaaChecked
import GoSem.Claim
import GoSem.ClaimJoined
import GoSem.ClaimMapViews
import Derived.JoinedTies
import Derived.KernelRfl
namespace Go.Proofs.Ytckgmnlmimogjaa
/- THE CELL 'sum', in the pinned program and in every row, IS THE sha256 OF THE DUMP (.gsa) THAT YtckgmnlmimogjaaProg.lean LOADS. Nothing in Lean hashes anything: it is a label: what it is worth is what the hold of that sum in a sandbox is worth. -/
noncomputable def Try.pinned : Pinned := { name := "ytckgmnlmimogjaa", sum := "a8b2ea0110698ccc84e97f5f3890f12bdd80f54a8360fbdee8899fbddc0688bd", checked := Try.checked }
namespace Rows
def none {H : Type} : Left H := { results := [], args := [] }

/-- 'squeallaw27.NormFinds': WHATEVER THE INPUT: true; the input reads as it did. -/
def normFindsSpec : ChangeSpec := { name := "normFinds", fn := fun _ => fun
  | [d1, d2, d3] => { results := [.lit (.bool true)], args := [d1, d2, d3] }
  | _ => none }
def normFindsRow : OpenClaim := { program := "ytckgmnlmimogjaa", sum := "a8b2ea0110698ccc84e97f5f3890f12bdd80f54a8360fbdee8899fbddc0688bd", func := "squeal/squeallaw27.NormFinds", spec := "normFinds", apart := false }
def NormFindsSaid : Prop := normFindsRow.holds Try.pinned (OpenSpec.ofChange normFindsSpec)

/-- ITS FALSE NEIGHBOUR: 'it returns false'. Refute it at one input. -/
def normFindsWrong : ChangeSpec := { name := "normFinds", fn := fun _ => fun
  | [d1, d2, d3] => { results := [.lit (.bool false)], args := [d1, d2, d3] }
  | _ => none }
def NormFindsWrongFalsely : Prop := normFindsRow.holds Try.pinned (OpenSpec.ofChange normFindsWrong)

/-- 'squeallaw27.NormTidies': WHATEVER THE INPUT: true; the input reads as it did. -/
def normTidiesSpec : ChangeSpec := { name := "normTidies", fn := fun _ => fun
  | [d1, d2, d3] => { results := [.lit (.bool true)], args := [d1, d2, d3] }
  | _ => none }
def normTidiesRow : OpenClaim := { program := "ytckgmnlmimogjaa", sum := "a8b2ea0110698ccc84e97f5f3890f12bdd80f54a8360fbdee8899fbddc0688bd", func := "squeal/squeallaw27.NormTidies", spec := "normTidies", apart := false }
def NormTidiesSaid : Prop := normTidiesRow.holds Try.pinned (OpenSpec.ofChange normTidiesSpec)

/-- ITS FALSE NEIGHBOUR: 'it returns false'. Refute it at one input. -/
def normTidiesWrong : ChangeSpec := { name := "normTidies", fn := fun _ => fun
  | [d1, d2, d3] => { results := [.lit (.bool false)], args := [d1, d2, d3] }
  | _ => none }
def NormTidiesWrongFalsely : Prop := normTidiesRow.holds Try.pinned (OpenSpec.ofChange normTidiesWrong)

/-- 'squeallaw27.NormSnaps': WHATEVER THE INPUT: true; the input reads as it did. -/
def normSnapsSpec : ChangeSpec := { name := "normSnaps", fn := fun _ => fun
  | [d1, d2, d3] => { results := [.lit (.bool true)], args := [d1, d2, d3] }
  | _ => none }
def normSnapsRow : OpenClaim := { program := "ytckgmnlmimogjaa", sum := "a8b2ea0110698ccc84e97f5f3890f12bdd80f54a8360fbdee8899fbddc0688bd", func := "squeal/squeallaw27.NormSnaps", spec := "normSnaps", apart := false }
def NormSnapsSaid : Prop := normSnapsRow.holds Try.pinned (OpenSpec.ofChange normSnapsSpec)

/-- ITS FALSE NEIGHBOUR: 'it returns false'. Refute it at one input. -/
def normSnapsWrong : ChangeSpec := { name := "normSnaps", fn := fun _ => fun
  | [d1, d2, d3] => { results := [.lit (.bool false)], args := [d1, d2, d3] }
  | _ => none }
def NormSnapsWrongFalsely : Prop := normSnapsRow.holds Try.pinned (OpenSpec.ofChange normSnapsWrong)

/-- 'squeallaw27.NormKeeps': WHATEVER THE INPUT: true; the input reads as it did. -/
def normKeepsSpec : ChangeSpec := { name := "normKeeps", fn := fun _ => fun
  | [d1, d2, d3] => { results := [.lit (.bool true)], args := [d1, d2, d3] }
  | _ => none }
def normKeepsRow : OpenClaim := { program := "ytckgmnlmimogjaa", sum := "a8b2ea0110698ccc84e97f5f3890f12bdd80f54a8360fbdee8899fbddc0688bd", func := "squeal/squeallaw27.NormKeeps", spec := "normKeeps", apart := false }
def NormKeepsSaid : Prop := normKeepsRow.holds Try.pinned (OpenSpec.ofChange normKeepsSpec)

/-- ITS FALSE NEIGHBOUR: 'it returns false'. Refute it at one input. -/
def normKeepsWrong : ChangeSpec := { name := "normKeeps", fn := fun _ => fun
  | [d1, d2, d3] => { results := [.lit (.bool false)], args := [d1, d2, d3] }
  | _ => none }
def NormKeepsWrongFalsely : Prop := normKeepsRow.holds Try.pinned (OpenSpec.ofChange normKeepsWrong)

/- THE SECOND FORM. 'bulk': how many values and letters a reading holds, each counted each time it is reached (what is shared counts as often as it is met; a slice's spare places count too). A statement '..UptoSaid' is the law's where the arguments, and the package variables that the reading takes, are together of bulk at most 1048576: NARROWER than '..Said'. Prove '..Said' where nothing that the law and all that it calls make is longer than what came in: it says more and counts as full. Else prove '..UptoSaid'. A law counts once. -/
mutual
def uptoBulk {H : Type} : DataW H → Nat
  | .lit (.string bytes) => bytes.length + 1
  | .lit _ => 1
  | .nil => 1
  | .ptr d => uptoBulk d + 1
  | .slice elems spare => uptoBulkAll elems + uptoBulkAll spare + 1
  | .agg parts => uptoBulkAll parts + 1
  | .iface _ d => uptoBulk d + 1
  | .map entries => uptoBulkEntries entries + 1
  | .held _ => 1
def uptoBulkAll {H : Type} : List (DataW H) → Nat
  | [] => 0
  | d :: r => uptoBulk d + uptoBulkAll r
def uptoBulkEntries {H : Type} : List (Lit × DataW H) → Nat
  | [] => 0
  | x :: r => uptoBulkEntry x + uptoBulkEntries r
def uptoBulkEntry {H : Type} : Lit × DataW H → Nat
  | (.string bytes, d) => bytes.length + uptoBulk d + 1
  | (_, d) => uptoBulk d + 1
 end
def uptoSmall : (H : Type) → List (DataW H) → Bool := fun _ ds => decide (uptoBulkAll ds ≤ 1048576)
def OpenSpec.upto (s : _root_.Go.ChangeSpec) : _root_.Go.OpenSpec := { _root_.Go.OpenSpec.ofChange s with cond := some uptoSmall }

/-- 'squeallaw27.NormFinds', WHERE WHAT IT READS IS OF BULK AT MOST 1048576: true; the input reads as it did. -/
def normFindsUptoRow : OpenClaim := { program := "ytckgmnlmimogjaa", sum := "a8b2ea0110698ccc84e97f5f3890f12bdd80f54a8360fbdee8899fbddc0688bd", func := "squeal/squeallaw27.NormFinds", spec := "normFinds", apart := false, narrowed := true }
def NormFindsUptoSaid : Prop := normFindsUptoRow.holds Try.pinned (OpenSpec.upto normFindsSpec)

/-- 'squeallaw27.NormTidies', WHERE WHAT IT READS IS OF BULK AT MOST 1048576: true; the input reads as it did. -/
def normTidiesUptoRow : OpenClaim := { program := "ytckgmnlmimogjaa", sum := "a8b2ea0110698ccc84e97f5f3890f12bdd80f54a8360fbdee8899fbddc0688bd", func := "squeal/squeallaw27.NormTidies", spec := "normTidies", apart := false, narrowed := true }
def NormTidiesUptoSaid : Prop := normTidiesUptoRow.holds Try.pinned (OpenSpec.upto normTidiesSpec)

/-- 'squeallaw27.NormSnaps', WHERE WHAT IT READS IS OF BULK AT MOST 1048576: true; the input reads as it did. -/
def normSnapsUptoRow : OpenClaim := { program := "ytckgmnlmimogjaa", sum := "a8b2ea0110698ccc84e97f5f3890f12bdd80f54a8360fbdee8899fbddc0688bd", func := "squeal/squeallaw27.NormSnaps", spec := "normSnaps", apart := false, narrowed := true }
def NormSnapsUptoSaid : Prop := normSnapsUptoRow.holds Try.pinned (OpenSpec.upto normSnapsSpec)

/-- 'squeallaw27.NormKeeps', WHERE WHAT IT READS IS OF BULK AT MOST 1048576: true; the input reads as it did. -/
def normKeepsUptoRow : OpenClaim := { program := "ytckgmnlmimogjaa", sum := "a8b2ea0110698ccc84e97f5f3890f12bdd80f54a8360fbdee8899fbddc0688bd", func := "squeal/squeallaw27.NormKeeps", spec := "normKeeps", apart := false, narrowed := true }
def NormKeepsUptoSaid : Prop := normKeepsUptoRow.holds Try.pinned (OpenSpec.upto normKeepsSpec)

end Rows
end Go.Proofs.Ytckgmnlmimogjaa
