/- Layer 22, a block of any symbols: what its edges are, in plain words; the contract of a row's put, with its fault. -/
import Derived.Test.YthmmoogfngohaaaSym3
namespace Go.Proofs.Ythmmoogfngohaaa
open Go.RowKit

abbrev Edges := List (Int × Int)
/-- a fault (0: none), and edges -/
abbrev Res := Int × Edges
def putS (r : Res) (X : Edges) : Res := if r.1 = 0 then (if 1048576 < r.2.length + X.length then (8, r.2) else (0, r.2 ++ X)) else r
def repS (r : Res) (X : Edges) : Nat → Res
  | 0 => r
  | n + 1 => putS (repS r X n) X
def pilS (pil : List Edges) : Res → List (Int × Int) → Res
  | r, [] => r
  | r, (s, t) :: l => pilS pil (if r.1 ≠ 0 then r else if s < 0 ∨ (pil.length : Int) ≤ s then (5, r.2) else repS r (pil.getD s.toNat []) t.toNat) l
theorem putS_bad {r : Res} (h : r.1 ≠ 0) (X : Edges) : putS r X = r := if_neg h
theorem putS_long {L X : Edges} (h : 1048576 < L.length + X.length) : putS (0, L) X = (8, L) := by unfold putS; rw [if_pos rfl, if_pos h]
theorem putS_ok {L X : Edges} (h : ¬ 1048576 < L.length + X.length) : putS (0, L) X = (0, L ++ X) := by unfold putS; rw [if_pos rfl, if_neg h]
theorem repS_bad {r : Res} (h : r.1 ≠ 0) (X : Edges) : ∀ n, repS r X n = r
  | 0 => rfl
  | n + 1 => by rw [repS, repS_bad h X n, putS_bad h]
theorem repS_nil {L : Edges} (h : L.length ≤ 1048576) : ∀ n, repS (0, L) [] n = (0, L)
  | 0 => rfl
  | n + 1 => by rw [repS, repS_nil h n, putS_ok (by simp; omega), List.append_nil]
theorem repS_stop {r : Res} {X : Edges} {k : Nat} (h : (repS r X k).1 ≠ 0) : ∀ n, k ≤ n → repS r X n = repS r X k
  | 0, hk => by
    have h0 : k = 0 := by omega
    rw [h0]
  | n + 1, hk => by
    by_cases e : k = n + 1
    · subst e; rfl
    · rw [repS, repS_stop h n (by omega), putS_bad h]
theorem putS_len {r : Res} {X : Edges} (h : r.2.length ≤ 1048576) : (putS r X).2.length ≤ 1048576 := by
  unfold putS
  split
  · split
    · exact h
    · simp only [List.length_append]; omega
  · exact h
theorem repS_len {r : Res} {X : Edges} (h : r.2.length ≤ 1048576) : ∀ n, (repS r X n).2.length ≤ 1048576
  | 0 => h
  | n + 1 => putS_len (repS_len h n)
theorem pilS_bad {pil : List Edges} {r : Res} (h : r.1 ≠ 0) : ∀ l, pilS pil r l = r
  | [] => rfl
  | (s, t) :: l => by rw [pilS, if_pos h]; exact pilS_bad h l
theorem pilS_len {pil : List Edges} : ∀ (l : List (Int × Int)) (r : Res), r.2.length ≤ 1048576 → (pilS pil r l).2.length ≤ 1048576
  | [], r, h => h
  | (s, t) :: l, r, h => by
    rw [pilS]
    apply pilS_len
    split
    · exact h
    · split
      · exact h
      · exact repS_len h _

/-- a row of edges with its fault, in memory -/
def St (w : World) (g base : Nat) (V : Value) (r : Res) : Prop := Blk w g 49 #[V, .int .i64 r.1] ∧ w.ownsRow base 45 2 V r.2.length (fl r.2)
theorem St.move {w w' : World} {g base g' : Nat} {V : Value} {r : Res} {q : Option Nat} (h : St w g base V r) (k : Chg w w' g' q) (h1 : g ≠ g') (h2 : some g ≠ q) (h3 : V.ownBlock ≠ some g') (h4 : V.ownBlock = none ∨ V.ownBlock ≠ q) : St w' g base V r := ⟨k.blk h.1 h1 h2, k.own h.2 h3 h4⟩
theorem St.below {w w' : World} {g base : Nat} {V : Value} {r : Res} (h : St w g base V r) (k : Below w.heap.size w w') : St w' g base V r := ⟨h.1.below k h.1.lt, own_kept h.2 k⟩

set_option maxHeartbeats 4000000 in
theorem put_gen {w : World} {g base m c B : Nat} {V : Value} {A : Option Addr} {r : Res} {ys : Edges} (hR : St w g base V r) (hr : Reads w B 2 A m (fl ys)) (hb : base ≤ w.heap.size) (hrl : r.2.length ≤ 1048576) (hm : m ≤ 1000000) :
    Calls Try.prog 16 #[.pointer (some ⟨g, 0, none⟩), .slice A m c] w fun e w' => e = .returned (.tuple #[]) ∧ ∃ V', St w' g base V' (putS r ys) ∧ Chg w w' g V.ownBlock ∧ (V'.ownBlock = V.ownBlock ∨ ∃ b, V'.ownBlock = some b ∧ w.heap.size ≤ b) := by
  have hym : ys.length = m := by have := hr.1; rw [fl_len] at this; omega
  obtain ⟨e, L⟩ := r
  by_cases he : e = 0
  · subst he
    by_cases hlong : 1048576 < L.length + m
    · rw [putS_long (by rw [hym]; exact hlong)]
      obtain ⟨hB, hown⟩ := hR
      obtain ⟨VA, vc, rfl⟩ := own_slice hown
      simp only at hB hown hrl
      have c0 : w.cell? ⟨g, 0, none⟩ = some (.slice VA L.length vc) := (hB.cell 0).trans rfl
      have c1 : w.cell? ⟨g, 1, none⟩ = some (.int .i64 0) := (hB.cell 1).trans rfl
      have f1 := hB.frozen 1
      have hw : IntKind.i64.wrap (1048576 - (L.length : Int)) = 1048576 - (L.length : Int) := by rw [IntKind.wrap_i64]; omega
      have hle : 1048576 - (L.length : Int) < (m : Int) := by omega
      have HE := Lib.hid (show St (w.setCell ⟨g, 1, none⟩ (.int .i64 8)) g base (.slice VA L.length vc) (8, L) ∧ Chg w (w.setCell ⟨g, 1, none⟩ (.int .i64 8)) g (Value.slice VA L.length vc).ownBlock ∧ ((Value.slice VA L.length vc).ownBlock = (Value.slice VA L.length vc).ownBlock ∨ ∃ b, (Value.slice VA L.length vc).ownBlock = some b ∧ w.heap.size ≤ b) from
        ⟨⟨hB.set_ 1 _, ownsRow_setCell_other hown (a := ⟨g, 1, none⟩) (own_blk_ne hown hB (by decide)) _⟩, ⟨rfl, rfl, rfl, by simp [World.setCell], fun j hj hjg _ => Below.heap_setCell w ⟨g, 1, none⟩ _ j hjg⟩, .inl rfl⟩)
      clear hB hown hr
      go_enter Try.func16, Try.ntmps16
      go_wp2
      first | go_end0 | refine bodyPost_ret (results_none rfl _ _ _) rfl ?_
      exact ⟨rfl, .slice VA L.length vc, HE.out.1, HE.out.2.1, .inl rfl⟩
    · rw [putS_ok (by rw [hym]; exact hlong)]
      obtain ⟨hB, hown⟩ := hR
      refine (put_any hB hown hr (c := c) hb (by show L.length + m ≤ 1048576; omega)).mono ?_
      rintro x w' ⟨rfl, V', h1, h2, h3, h4⟩
      refine ⟨rfl, V', ⟨h1, ?_⟩, h3, h4⟩
      show w'.ownsRow base 45 2 V' (L ++ ys).length (fl (L ++ ys))
      rw [fl_app, List.length_append, hym]
      exact h2
  · rw [putS_bad (by exact he)]
    obtain ⟨hB, hown⟩ := hR
    simp only at hB hown hrl
    have c1 : w.cell? ⟨g, 1, none⟩ = some (.int .i64 e) := (hB.cell 1).trans rfl
    have heI : (e == 0) = false := by simpa using he
    have HE := Lib.hid (And.intro hB hown)
    clear hB hown hr
    go_enter Try.func16, Try.ntmps16
    go_wp2
    first | go_end0 | refine bodyPost_ret (results_none rfl _ _ _) rfl ?_
    exact ⟨rfl, V, HE.out, Chg.refl w g _, .inl rfl⟩

/-- a symbol as it stands: its kind, its pulses' slice, the pulses -/
structure SymD where
  k : Int
  a : Option Addr
  n : Nat
  c : Nat
  zs : List Int
def symV (l : List SymD) : List Value := l.flatMap fun q => [.int .i64 q.k, .slice q.a q.n q.c]
def SymD.ok (w : World) (B : Nat) (q : SymD) : Prop := -9223372036854775808 ≤ q.k ∧ q.k ≤ 9223372036854775807 ∧ Reads w B 1 q.a q.n (q.zs.map (Value.int .i64)) ∧ q.n ≤ 300
def SymD.es (q : SymD) : Edges := Proofs.Ythmmoogfngohaaa.es (q.k % 4) q.zs
theorem symV_len : ∀ l : List SymD, (symV l).length = l.length * 2
  | [] => rfl
  | p :: l => by
    have := symV_len l
    simp only [symV, List.flatMap_cons, List.length_append, List.length_cons, List.length_nil] at this ⊢
    omega
theorem symV_at : ∀ {l : List SymD} {i : Nat} {p : SymD}, l[i]? = some p → (symV l)[i * 2]? = some (.int .i64 p.k) ∧ (symV l)[i * 2 + 1]? = some (.slice p.a p.n p.c)
  | [], i, p, h => by cases h
  | q :: l, 0, p, h => by
    obtain rfl : q = p := by simpa using h
    exact ⟨rfl, rfl⟩
  | q :: l, i + 1, p, h => by
    have := symV_at (l := l) (i := i) (p := p) (by simpa using h)
    rw [show (i + 1) * 2 = i * 2 + 1 + 1 by omega]
    exact this
theorem sym_es_len {w : World} {B : Nat} {q : SymD} (h : q.ok w B) : q.es.length ≤ 300 := by
  unfold SymD.es
  rw [es_len]
  have h1 := cutK_le q.zs
  have h2 := reads_lenI h.2.2.1
  have h3 := h.2.2.2
  omega
theorem add_one_lit (a : Addr) : a.add 1 = ⟨a.block, a.off + 1, none⟩ := by unfold Addr.add; rw [if_neg (by decide)]
/-- one element of a slice of pairs of cells, read -/
theorem pair_at {w : World} {B n : Nat} {A : Option Addr} {xs : List Value} (h : Reads w B 2 A n xs) {i : Nat} (hi : i < n) {u v : Value} (hu : xs[i * 2]? = some u) (hv : xs[i * 2 + 1]? = some v) :
    ∃ ad, A = some ad ∧ ad.block < B ∧ w.cell? (ad.add (i * 2)) = some u ∧ w.cell? ⟨(ad.add (i * 2)).block, (ad.add (i * 2)).off + 1, none⟩ = some v := by
  obtain ⟨ad, e, hb, hc⟩ := h.2 (by omega)
  refine ⟨ad, e, hb, hc _ _ hu, ?_⟩
  have := hc _ _ hv
  rw [← add_of_add, show ((ad.add (i * 2)).add 1) = ⟨(ad.add (i * 2)).block, (ad.add (i * 2)).off + 1, none⟩ from add_one_lit _] at this
  exact this
theorem idx_some {α : Type} {l : List α} {i : Nat} (h : i < l.length) : ∃ p, l[i]? = some p := ⟨l[i], List.getElem?_eq_getElem h⟩

end Go.Proofs.Ythmmoogfngohaaa
