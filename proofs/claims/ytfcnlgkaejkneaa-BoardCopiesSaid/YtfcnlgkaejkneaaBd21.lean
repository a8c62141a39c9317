/- Layer 11: both boards in memory, each as it stands; what a step on one of them leaves of the other. -/
import Derived.Test.YtfcnlgkaejkneaaBd20
namespace Go.Proofs.Ytfcnlgkaejkneaa
open Go.RowKit

theorem own_lt11 {w : World} {B e size n : Nat} {v : Value} {xs : List Value} (h : w.ownsRow B e size v n xs) : ∀ k, v.ownBlock = some k → k < w.heap.size ∧ B ≤ k := by
  intro k hk
  rcases h.2 with ⟨rfl, _⟩ | ⟨g, cap, cur, rfl, h2, h3, _⟩
  · simp [Value.ownBlock] at hk
  · obtain rfl : g = k := by simpa [Value.ownBlock] using hk
    exact ⟨Blk.lt h3, h2⟩
theorem own_same11 {w w' : World} {B e size n : Nat} {v : Value} {xs : List Value} (h : w.ownsRow B e size v n xs) (hb : ∀ k, v.ownBlock = some k → w'.heap[k]? = w.heap[k]?) : w'.ownsRow B e size v n xs := by
  refine ⟨h.1, ?_⟩
  rcases h.2 with h0 | ⟨g, cap, cur, rfl, h2, h3, h4⟩
  · exact .inl h0
  · exact .inr ⟨g, cap, cur, rfl, h2, (hb g rfl).trans h3, h4⟩
theorem Ch.blk {w w' : World} {φ : Nat → Prop} (hc : Ch w w' φ) {k : Nat} {t : TypeId} {cs : Array Value} (h : Blk w k t cs) (hn : ¬ φ k) : Blk w' k t cs := (hc.block k h.lt hn).trans h
theorem Ch.own {w w' : World} {φ : Nat → Prop} (hc : Ch w w' φ) {B e size n : Nat} {v : Value} {xs : List Value} (h : w.ownsRow B e size v n xs) (hn : ∀ k, v.ownBlock = some k → ¬ φ k) : w'.ownsRow B e size v n xs :=
  own_same11 h fun k hk => hc.block k (own_lt11 h k hk).1 (hn k hk)
/-- two boards, each with its rows -/
structure PS where
  b1 : Bd
  al1 : List ActD
  es1 : List Int
  b2 : Bd
  ph : Int
  zs : List Int
  al2 : List ActD
  es2 : List Int
structure PAt (w : World) (base g q P : Nat) (s : PS) (A E D A' E' : Value) : Prop where
  B : BdAt w base g s.b1 s.al1 s.es1 A E
  X : DcAt w base q s.b2 s.ph s.zs s.al2 s.es2 D A' E'
  P : Blk w P 55 #[.pointer (some ⟨g, 0, none⟩), .pointer (some ⟨q, 0, none⟩)]
  gb : base ≤ g
  qb : base ≤ q
  dA : ∀ k, A.ownBlock = some k → A'.ownBlock ≠ some k
  dE : ∀ k, E.ownBlock = some k → E'.ownBlock ≠ some k
theorem BdAt.not {w : World} {base g : Nat} {b : Bd} {al : List ActD} {es : List Int} {A E : Value} (h : BdAt w base g b al es A E) {k : Nat} {t : TypeId} {cs : Array Value} (hk : Blk w k t cs) (h1 : t ≠ 37) (h2 : (72 : TypeId) ≠ t) (h3 : (32 : TypeId) ≠ t) : ¬ BdBlk g A E k := by
  rintro (rfl | e | e)
  · exact Blk.ne_ hk h.bd h1 rfl
  · exact own_blk_ne h.acts hk h2 e
  · exact own_blk_ne h.edges hk h3 e
theorem DcAt.not {w : World} {base g : Nat} {b : Bd} {ph : Int} {zs : List Int} {al : List ActD} {es : List Int} {D A E : Value} (h : DcAt w base g b ph zs al es D A E) {k : Nat} {t : TypeId} {cs : Array Value} (hk : Blk w k t cs) (h1 : t ≠ 59) (h2 : (72 : TypeId) ≠ t) (h3 : (32 : TypeId) ≠ t) : ¬ BdBlk g A E k := by
  rintro (rfl | e | e)
  · exact Blk.ne_ hk h.bd h1 rfl
  · exact own_blk_ne h.acts hk h2 e
  · exact own_blk_ne h.edges hk h3 e
section
variable {w w1 : World} {base g q P : Nat} {s : PS} {A E D A' E' : Value}
theorem new_ne {V V1 V' : Value} (h : ∀ k, V.ownBlock = some k → V'.ownBlock ≠ some k) (hn : NewBlk w V V1) (hlt : ∀ k, V'.ownBlock = some k → k < w.heap.size) : ∀ k, V1.ownBlock = some k → V'.ownBlock ≠ some k := by
  intro k hk hk'
  rcases hn with e | ⟨j, e, hj⟩
  · exact h k (e ▸ hk) hk'
  · rw [e] at hk
    injection hk with hk
    have := hlt k hk'
    omega
theorem PAt.stepB (h : PAt w base g q P s A E D A' E') {b : Bd} {al : List ActD} {es : List Int} {A1 E1 : Value} (hB : BdAt w1 base g b al es A1 E1) (hc : Ch w w1 (BdBlk g A E)) (nA : NewBlk w A A1) (nE : NewBlk w E E1) :
    PAt w1 base g q P { s with b1 := b, al1 := al, es1 := es } A1 E1 D A' E' := by
  refine ⟨hB, ⟨hc.blk h.X.bd (h.B.not h.X.bd (by decide) (by decide) (by decide)), hc.own h.X.down ?_, hc.own h.X.acts ?_, hc.own h.X.edges ?_⟩, hc.blk h.P (h.B.not h.P (by decide) (by decide) (by decide)), h.gb, h.qb, ?_, ?_⟩
  · rintro k hk (rfl | e | e)
    · exact own_blk_ne h.X.down h.B.bd (by decide) hk
    · exact own_types_ne h.B.acts h.X.down (by decide) k e hk
    · exact own_types_ne h.B.edges h.X.down (by decide) k e hk
  · rintro k hk (rfl | e | e)
    · exact own_blk_ne h.X.acts h.B.bd (by decide) hk
    · exact h.dA k e hk
    · exact own_types_ne h.B.edges h.X.acts (by decide) k e hk
  · rintro k hk (rfl | e | e)
    · exact own_blk_ne h.X.edges h.B.bd (by decide) hk
    · exact own_types_ne h.B.acts h.X.edges (by decide) k e hk
    · exact h.dE k e hk
  · exact new_ne h.dA nA fun k hk => (own_lt11 h.X.acts k hk).1
  · exact new_ne h.dE nE fun k hk => (own_lt11 h.X.edges k hk).1
theorem PAt.stepX (h : PAt w base g q P s A E D A' E') {b : Bd} {al : List ActD} {es : List Int} {A1 E1 : Value} (hX : DcAt w1 base q b s.ph s.zs al es D A1 E1) (hc : Ch w w1 (BdBlk q A' E')) (nA : NewBlk w A' A1) (nE : NewBlk w E' E1) :
    PAt w1 base g q P { s with b2 := b, al2 := al, es2 := es } A E D A1 E1 := by
  refine ⟨⟨hc.blk h.B.bd (h.X.not h.B.bd (by decide) (by decide) (by decide)), hc.own h.B.acts ?_, hc.own h.B.edges ?_⟩, hX, hc.blk h.P (h.X.not h.P (by decide) (by decide) (by decide)), h.gb, h.qb, ?_, ?_⟩
  · rintro k hk (rfl | e | e)
    · exact own_blk_ne h.B.acts h.X.bd (by decide) hk
    · exact h.dA k hk e
    · exact own_types_ne h.X.edges h.B.acts (by decide) k e hk
  · rintro k hk (rfl | e | e)
    · exact own_blk_ne h.B.edges h.X.bd (by decide) hk
    · exact own_types_ne h.X.acts h.B.edges (by decide) k e hk
    · exact h.dE k hk e
  · exact fun k hk hk' => new_ne (fun j hj hj' => h.dA j hj' hj) nA (fun j hj => (own_lt11 h.B.acts j hj).1) k hk' hk
  · exact fun k hk hk' => new_ne (fun j hj hj' => h.dE j hj' hj) nE (fun j hj => (own_lt11 h.B.edges j hj).1) k hk' hk
theorem BdAt.kept {b : Bd} {al : List ActD} {es : List Int} (h : BdAt w base g b al es A E) (hb : Below w.heap.size w w1) : BdAt w1 base g b al es A E :=
  ⟨Blk.below h.bd hb (Blk.lt h.bd), own_kept h.acts hb, own_kept h.edges hb⟩
theorem PAt.kept (h : PAt w base g q P s A E D A' E') (hb : Below w.heap.size w w1) : PAt w1 base g q P s A E D A' E' :=
  ⟨h.B.kept hb, h.X.kept hb, Blk.below h.P hb h.P.lt, h.gb, h.qb, h.dA, h.dE⟩
theorem PAt.belowB (h : PAt w base g q P s A E D A' E') (hc : Ch w w1 (BdBlk g A E)) (hb : base ≤ w.heap.size) : Below base w w1 :=
  hc.below hb (by
    rintro k (rfl | e | e)
    · exact h.gb
    · exact (own_lt11 h.B.acts k e).2
    · exact (own_lt11 h.B.edges k e).2)
theorem PAt.belowX (h : PAt w base g q P s A E D A' E') (hc : Ch w w1 (BdBlk q A' E')) (hb : base ≤ w.heap.size) : Below base w w1 :=
  hc.below hb (by
    rintro k (rfl | e | e)
    · exact h.qb
    · exact (own_lt11 h.X.acts k e).2
    · exact (own_lt11 h.X.edges k e).2)
theorem BdAt.of_grown {b b' : Bd} {al : List ActD} {es : List Int} (h : BdAt w base g b al es A E) (hB : BdIs w1 g b' A E) (hg : w.grownBy w1 (some g)) : BdAt w1 base g b' al es A E :=
  ⟨hB, h.acts.kept hg (.inr (own_blk_ne h.acts h.bd (by decide))), h.edges.kept hg (.inr (own_blk_ne h.edges h.bd (by decide)))⟩
theorem DcAt.of_grown {b b' : Bd} {ph : Int} {zs : List Int} {al : List ActD} {es : List Int} (h : DcAt w base g b ph zs al es D A E) (hB : DcIs w1 g b' ph D A E) (hg : w.grownBy w1 (some g)) : DcAt w1 base g b' ph zs al es D A E :=
  ⟨hB, h.down.kept hg (.inr (own_blk_ne h.down h.bd (by decide))), h.acts.kept hg (.inr (own_blk_ne h.acts h.bd (by decide))), h.edges.kept hg (.inr (own_blk_ne h.edges h.bd (by decide)))⟩
theorem ch_grown {A E : Value} (hg : w.grownBy w1 (some g)) : Ch w w1 (BdBlk g A E) := Ch.of_grown hg fun k e => .inl (by injection e with e; exact e.symm)
theorem PAt.grownB (h : PAt w base g q P s A E D A' E') {b : Bd} (hB : BdIs w1 g b A E) (hg : w.grownBy w1 (some g)) : PAt w1 base g q P { s with b1 := b } A E D A' E' :=
  h.stepB (h.B.of_grown hB hg) (ch_grown hg) (.inl rfl) (.inl rfl)
theorem PAt.grownX (h : PAt w base g q P s A E D A' E') {b : Bd} (hB : DcIs w1 q b s.ph D A' E') (hg : w.grownBy w1 (some q)) : PAt w1 base g q P { s with b2 := b } A E D A' E' :=
  h.stepX (h.X.of_grown hB hg) (ch_grown hg) (.inl rfl) (.inl rfl)
end
/-- what is so of both, behind so many steps; 'same': they agree -/
structure PS.Ok (s : PS) (n : Nat) (same : Bool) : Prop where
  f0 : 0 ≤ s.b1.fr
  f1 : s.b1.fr ≤ 69887
  t0 : 0 ≤ s.b1.t
  t1 : s.b1.t ≤ (n : Int) * 4000
  K1 : Rows5 s.b1.K
  a1 : s.al1.length ≤ n
  e1 : s.es1.length ≤ n
  fd : s.b2.fr = frD s.b2 s.ph
  u0 : 0 ≤ s.b2.t
  u1 : s.b2.t ≤ (n : Int) * 4000
  p0 : 0 ≤ s.ph
  p1 : s.ph ≤ 69887
  K2 : Same10 s.b2.K s.zs
  z2 : s.zs.length ≤ n
  a2 : s.al2.length ≤ n
  e2 : s.es2.length ≤ n
  eq : same = true → s.b1 = s.b2 ∧ s.al1 = s.al2 ∧ s.es1 = s.es2
theorem log_len (b : Bd) (al : List ActD) (out : Bool) (p v : Int) : (logS b al out p v).length ≤ al.length + 1 := by
  unfold logS
  split
  · simp
  · omega
theorem edge_len (b : Bd) (es : List Int) (v : Int) : (edgeS b es v).length ≤ es.length + 1 := by
  unfold edgeS
  split
  · omega
  · simp
/-- what a step of both leaves -/
def StepO (w w' : World) (x : Ending) (base g q P : Nat) (n : Nat) (same : Bool) (ph : Int) : Prop :=
  ∃ (r : Bool) (s : PS) (A E D A' E' : Value), x = .returned (.bool r) ∧ s.ph = ph ∧ s.Ok (n + 1) same ∧ PAt w' base g q P s A E D A' E' ∧ (same = true → r = true) ∧ Below base w w'
end Go.Proofs.Ytfcnlgkaejkneaa
