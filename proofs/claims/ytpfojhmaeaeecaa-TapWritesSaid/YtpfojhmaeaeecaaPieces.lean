/- Slices of slices of bytes: what is handed in, and own pieces; nothing of the program is in it. -/
import Derived.Test.YtpfojhmaeaeecaaBytes
namespace Go.Proofs.Ytpfojhmaeaeecaa
open Go.RowKit

structure Piece where
  a : Option Addr
  n : Nat
  c : Nat
  zs : List Int
def Piece.val (p : Piece) : Value := .slice p.a p.n p.c
def Piece.ok (w : World) (B : Nat) (p : Piece) : Prop := Reads w B 1 p.a p.n (p.zs.map (Value.int .u8)) ∧ p.n ≤ p.c ∧ p.c ≤ maxLen ∧ isU8 p.zs
theorem Piece.ok.to {W W' : World} {B : Nat} {q : Piece} (h : q.ok W B) (k : Below B W W') {B' : Nat} (hB : B ≤ B') : q.ok W' B' := ⟨(h.1.below k).more hB, h.2⟩
theorem Piece.ok.len {W : World} {B : Nat} {q : Piece} (h : q.ok W B) : q.zs.length = q.n := reads_len h.1
theorem own_piece {W : World} {B n : Nat} {v : Value} {xs : List Int} (h : W.ownsRow B 5 1 v n (xs.map (Value.int .u8))) (hu : isU8 xs) :
    ∃ A c, v = .slice A n c ∧ (⟨A, n, c, xs⟩ : Piece).ok W W.heap.size := by
  rcases h.2 with ⟨rfl, rfl⟩ | ⟨g, cap, cur, rfl, h1, h2, h3, h4, h5⟩
  · have : xs = [] := by have := h.1; simp at this; exact List.eq_nil_of_length_eq_zero (by simpa using this)
    subst this
    exact ⟨none, 0, rfl, Reads.none_, Nat.le_refl _, by simp [maxLen], hu⟩
  · exact ⟨_, _, rfl, Reads.of_own h, h3, h4, hu⟩

def IsRows (w : World) (A : Option Addr) (m c : Nat) (ps : List Piece) : Prop := Reads w w.heap.size 1 A m (ps.map Piece.val) ∧ m ≤ c ∧ c ≤ maxLen ∧ ∀ q ∈ ps, q.ok w w.heap.size

theorem rows_none (W : World) : IsRows W none 0 0 [] := ⟨Reads.none_, Nat.le_refl _, by simp [maxLen], fun q hq => by cases hq⟩
theorem rows_of {W : World} {x : Addr} {l c : Nat} {A : Nat → Option Addr} {L C : Nat → Nat} {Z : Nat → List Int} (hl : l ≤ c) (hm : c ≤ maxLen) (hx : 0 < c → x.block < W.heap.size)
    (hrow : ∀ r, r < c → W.cell? (x.add r) = some (.slice (A r) (L r) (C r)) ∧ L r ≤ C r ∧ C r ≤ maxLen ∧ (Z r).length = C r ∧ (∀ n ∈ Z r, (Lit.int .u8 n).wf = true) ∧ (A r = none → C r = 0) ∧
        ∀ a', A r = some a' → 0 ≤ a'.block ∧ ∀ k, k < C r → W.cell? (a'.add k) = some (.int .u8 ((Z r).getD k 0)))
    (hb : ∀ r, r < c → ∀ a', A r = some a' → 0 < (Z r).length → a'.block < W.heap.size) :
    IsRows W (some x) l c ((List.range l).map fun r => ⟨A r, L r, C r, (Z r).take (L r)⟩) := by
  refine ⟨⟨by simp, fun h0 => ⟨x, rfl, hx (by omega), fun j u hu => ?_⟩⟩, hl, hm, fun q hq => ?_⟩
  · simp only [List.getElem?_map, Option.map_eq_some_iff] at hu
    obtain ⟨q, ⟨r, hr, rfl⟩, rfl⟩ := hu
    have hj : j < l := by
      rcases Nat.lt_or_ge j l with h | h
      · exact h
      · rw [List.getElem?_eq_none (by simpa using h)] at hr; cases hr
    rw [List.getElem?_range hj] at hr
    injection hr with hr
    subst hr
    exact (hrow j (by omega)).1
  · simp only [List.mem_map, List.mem_range] at hq
    obtain ⟨r, hr, rfl⟩ := hq
    obtain ⟨_, h2, h3, h4, h5, h6, h7⟩ := hrow r (by omega)
    have hu : IsRow .u8 W (A r) (L r) (C r) (Z r) := by
      cases ha : A r with
      | none =>
        have e := h6 ha
        exact .inl ⟨rfl, by omega, e, List.eq_nil_of_length_eq_zero (by omega)⟩
      | some a' =>
        refine .inr ⟨a', rfl, ?_, h2, h3, h4, fun i hi => (h7 a' ha).2 i (by omega), h5⟩
        by_cases h0 : C r = 0
        · exact .inl h0
        · exact .inr (hb r (by omega) a' ha (by omega))
    obtain ⟨k1, k2, k3, k4⟩ := row_u8 hu
    exact ⟨k1, k3, k4, k2⟩

end Go.Proofs.Ytpfojhmaeaeecaa
