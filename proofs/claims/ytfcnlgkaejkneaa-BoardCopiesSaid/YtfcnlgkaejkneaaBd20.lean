/- Layer 11: the document's SameActs. -/
import Derived.Test.YtfcnlgkaejkneaaBd19
namespace Go.Proofs.Ytfcnlgkaejkneaa
open Go.RowKit

theorem actV_at : ∀ {l : List ActD} {i : Nat} {a : ActD}, l[i]? = some a → (actV l)[i * 4]? = some (.int .u64 a.t) ∧ (actV l)[i * 4 + 1]? = some (.bool a.out) ∧ (actV l)[i * 4 + 2]? = some (.int .u16 a.port) ∧ (actV l)[i * 4 + 3]? = some (.int .u8 a.v)
  | [], i, p, h => by cases h
  | q :: l, 0, p, h => by
    obtain rfl : q = p := by simpa using h
    exact ⟨rfl, rfl, rfl, rfl⟩
  | q :: l, i + 1, p, h => by
    have := actV_at (l := l) (i := i) (a := p) (by simpa using h)
    rw [show (i + 1) * 4 = i * 4 + 1 + 1 + 1 + 1 by omega]
    exact this
theorem add_lit11 (a : Addr) (n : Nat) (h : n ≠ 0) : a.add n = ⟨a.block, a.off + n, none⟩ := by unfold Addr.add; rw [if_neg h]
theorem quad_at {w : World} {B n : Nat} {A : Option Addr} {l : List ActD} (h : Reads w B 4 A n (actV l)) {i : Nat} (hi : i < n) :
    ∃ ad a, A = some ad ∧ ad.block < B ∧ l[i]? = some a ∧ w.cell? (ad.add (i * 4)) = some (.int .u64 a.t) ∧ w.cell? ⟨(ad.add (i * 4)).block, (ad.add (i * 4)).off + 1, none⟩ = some (.bool a.out) ∧ w.cell? ⟨(ad.add (i * 4)).block, (ad.add (i * 4)).off + 2, none⟩ = some (.int .u16 a.port) ∧ w.cell? ⟨(ad.add (i * 4)).block, (ad.add (i * 4)).off + 3, none⟩ = some (.int .u8 a.v) := by
  obtain ⟨ad, e, hb, hc⟩ := h.2 (by omega)
  have hl : i < l.length := by have := h.1; rw [actV_len] at this; omega
  have ha : l[i]? = some l[i] := List.getElem?_eq_getElem hl
  obtain ⟨v0, v1, v2, v3⟩ := actV_at ha
  refine ⟨ad, l[i], e, hb, ha, hc _ _ v0, ?_, ?_, ?_⟩
  · rw [← add_lit11 _ 1 (by decide), add_of_add]; exact hc _ _ v1
  · rw [← add_lit11 _ 2 (by decide), add_of_add]; exact hc _ _ v2
  · rw [← add_lit11 _ 3 (by decide), add_of_add]; exact hc _ _ v3

set_option maxRecDepth 100000 in
set_option maxHeartbeats 8000000 in
theorem sameA_any (w : World) (A1 A2 : Option Addr) (n c1 c2 : Nat) (al : List ActD) (h1 : Reads w w.heap.size 4 A1 n (actV al)) (h2 : Reads w w.heap.size 4 A2 n (actV al)) (hn : n ≤ 1000000) :
    Calls Try.prog 47 #[.slice A1 n c1, .slice A2 n c2] w fun x w' => x = .returned (.bool true) ∧ Below w.heap.size w w' := by
  have HR := Lib.hid (And.intro h1 h2)
  clear h1 h2
  go_enter Try.func47, Try.ntmps47
  go_wp2
  go_loopw [5] (fun i wr => ∃ j m : Nat, j ≤ n ∧ i = .int .i64 j ∧ wr = w.drewN m) (fun i _ => n - (intOf i).toNat)
  case atStart => exact ⟨0, 0, by omega, rfl, rfl⟩
  case round =>
    obtain ⟨j, m, hj, rfl, rfl⟩ := hrel
    by_cases hlt : j < n
    · obtain ⟨ad, a, rfl, _, ha, a0, a1, a2, a3⟩ := quad_at HR.out.1 hlt
      obtain ⟨ad', a', rfl, _, ha', b0, b1, b2, b3⟩ := quad_at HR.out.2 hlt
      obtain rfl : a = a' := by rw [ha] at ha'; injection ha'
      clear ha ha'
      obtain ⟨t, out, port, v⟩ := a
      simp only at a0 a1 a2 a3 b0 b1 b2 b3
      have heq := fun w' => eqAct w' t port v out
      have hjI : (j : Int) < (n : Int) := by omega
      have hj0 : (0 : Int) ≤ (j : Int) := Int.natCast_nonneg _
      have hwj : IntKind.i64.wrap ((j : Int) + 1) = (j : Int) + 1 := by rw [IntKind.wrap_i64]; omega
      go_wp2
      go_quiet (fail)
      go_wp2
      go_roundw
      case rel => exact ⟨j + 1, m + nq, by omega, by go_num, by first | rfl | rw [World.drewN_drewN]⟩
      case measure => simp [intOf]; omega
    · go_wp2
      go_ret
      exact ⟨rfl, below_quiet w m⟩
end Go.Proofs.Ytfcnlgkaejkneaa
