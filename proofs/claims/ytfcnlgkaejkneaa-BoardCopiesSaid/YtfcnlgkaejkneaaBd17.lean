/- Layer 11: the document's SameTimes. -/
import Derived.Test.YtfcnlgkaejkneaaBd16
namespace Go.Proofs.Ytfcnlgkaejkneaa
open Go.RowKit

set_option maxRecDepth 100000 in
set_option maxHeartbeats 8000000 in
theorem sameT_any (w : World) (A1 A2 : Option Addr) (n c1 c2 : Nat) (es : List Int) (h1 : Reads w w.heap.size 1 A1 n (es.map (Value.int .u64))) (h2 : Reads w w.heap.size 1 A2 n (es.map (Value.int .u64))) (hn : n ≤ 1000000) :
    Calls Try.prog 48 #[.slice A1 n c1, .slice A2 n c2] w fun x w' => x = .returned (.bool true) ∧ Below w.heap.size w w' := by
  go_enter Try.func48, Try.ntmps48
  go_upto_region 4 with fail
  go_loopw [5] (fun x wr => ∃ i : Nat, x = .int .i64 (i : Int) ∧ i ≤ n ∧ Reads wr w.heap.size 1 A1 n (es.map (Value.int .u64)) ∧ Reads wr w.heap.size 1 A2 n (es.map (Value.int .u64)) ∧ Below w.heap.size w wr) (fun x _ => n - (intOf x).toNat)
  case atStart => exact ⟨0, rfl, by omega, h1, h2, Below.refl _ _⟩
  case round =>
    obtain ⟨i, rfl, hi, hA, hB, hbl⟩ := hrel
    have hi0 : (0 : Int) ≤ (i : Int) := Int.natCast_nonneg _
    clear h1 h2
    by_cases hlt : i < n
    · have hiI : (i : Int) < (n : Int) := by omega
      have hwi : IntKind.i64.wrap ((i : Int) + 1) = (i : Int) + 1 := by rw [IntKind.wrap_i64]; omega
      have HX := Lib.hid (And.intro hA (And.intro hB hbl))
      obtain ⟨ad1, u1, e1, _, hu1, k1⟩ := hA.at_ hlt
      obtain ⟨ad2, u2, e2, _, hu2, k2⟩ := hB.at_ hlt
      obtain ⟨z, hz⟩ : ∃ z, u1 = .int .u64 z := by
        rw [List.getElem?_map] at hu1
        rcases he : es[i]? with _ | z
        · rw [he] at hu1; cases hu1
        · rw [he] at hu1; exact ⟨z, by injection hu1 with hu1; exact hu1.symm⟩
      have hu : u2 = u1 := by rw [hu1] at hu2; injection hu2 with hu2; exact hu2.symm
      subst hu hz e1 e2
      clear hu1 hu2 hA hB hbl
      go_upto_region 6 with fail
      go_quiet (fail)
      go_wp2
      go_roundw
      case rel => exact ⟨i + 1, by go_num, by omega, HX.out.1.drewN _, HX.out.2.1.drewN _, below_drewN HX.out.2.2 _⟩
      case measure => simp [intOf]; omega
    · obtain rfl : i = n := by omega
      have hiI : ¬ (i : Int) < (i : Int) := by omega
      have HX := Lib.hid hbl
      clear hA hB hbl
      go_wp2
      go_ret
      exact ⟨rfl, HX.out⟩
end Go.Proofs.Ytfcnlgkaejkneaa
