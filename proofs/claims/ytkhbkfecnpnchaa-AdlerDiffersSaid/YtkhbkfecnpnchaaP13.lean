/- Adler's sum, plain: the sum by definition, number by number, and the sum of pieces; nothing of the program is in it. -/
import Derived.WalkKit
namespace Go.Proofs.Ytkhbkfecnpnchaa
open Go.RowKit

def adS (p : Int × Int) (c : Int) : Int × Int := ((p.1 + c) % 65521, (p.2 + (p.1 + c) % 65521) % 65521)
def adF (p : Int × Int) (l : List Int) : Int × Int := l.foldl adS p
def adV (p : Int × Int) : Int := 65536 * p.2 + p.1
/-- both numbers of a sum are below 65521 -/
def adIn (p : Int × Int) : Prop := 0 ≤ p.1 ∧ p.1 ≤ 65520 ∧ 0 ≤ p.2 ∧ p.2 ≤ 65520
theorem adS_in (p : Int × Int) (c : Int) : adIn (adS p c) := by unfold adIn adS; simp only; omega
theorem adF_in {p : Int × Int} (l : List Int) (h : adIn p) : adIn (adF p l) := by
  induction l generalizing p with
  | nil => exact h
  | cons c l ih => exact ih (adS_in p c)
theorem adF_snoc (p : Int × Int) (l : List Int) (c : Int) : adF p (l ++ [c]) = adS (adF p l) c := by simp [adF]
theorem adF_app (p : Int × Int) (l m : List Int) : adF p (l ++ m) = adF (adF p l) m := by simp [adF]
theorem take_snocI (zs : List Int) (k : Nat) (h : k < zs.length) : zs.take (k + 1) = zs.take k ++ [zs.getD k 0] := by
  rw [List.take_succ_eq_append_getElem h]; simp [List.getD_eq_getElem?_getD, h]
theorem adF_take (p : Int × Int) (zs : List Int) (k : Nat) (h : k < zs.length) : adF p (zs.take (k + 1)) = adS (adF p (zs.take k)) (zs.getD k 0) := by
  rw [take_snocI zs k h, adF_snoc]

/-- the triangle's numbers -/
def tri : Nat → Int
  | 0 => 0
  | k + 1 => tri k + (k + 1)
theorem tri_eq (k : Nat) : 2 * tri k = k * (k + 1) := by
  induction k with
  | zero => rfl
  | succ k ih =>
    have e : (((k + 1 : Nat) : Int)) = (k : Int) + 1 := by omega
    simp only [tri, e, Int.mul_add, Int.add_mul] at *
    omega
theorem tri_mono {i k : Nat} (h : i ≤ k) : tri i ≤ tri k := by
  induction h with
  | refl => exact Int.le_refl _
  | step _ ih => simp only [tri]; omega
theorem tri_bd {k : Nat} (h : k ≤ 5552) : 0 ≤ tri k ∧ tri k ≤ 15415128 := by
  have a := tri_mono h
  have b := tri_mono (Nat.zero_le k)
  have c : tri 5552 = 15415128 := by have := tri_eq 5552; omega
  have d : tri 0 = 0 := rfl
  omega
/-- what the machine holds while it sums: not yet reduced, k bytes behind the last reduction -/
def adLoose (p : Int × Int) (k : Nat) (a b : Int) : Prop := a % 65521 = p.1 ∧ b % 65521 = p.2 ∧ 0 ≤ a ∧ a ≤ 65521 + 255 * k ∧ 0 ≤ b ∧ b ≤ 65520 + 65521 * k + 255 * tri k
theorem adLoose_step {p : Int × Int} {k : Nat} {a b c : Int} (h : adLoose p k a b) (hk : k < 5552) (c0 : 0 ≤ c) (c1 : c ≤ 255) : adLoose (adS p c) (k + 1) (a + c) (b + (a + c)) ∧ a + c ≤ 4294967295 ∧ b + (a + c) ≤ 4294967295 := by
  obtain ⟨h1, h2, h3, h4, h5, h6⟩ := h
  have t := tri_bd (k := k + 1) (by omega)
  have e : tri (k + 1) = tri k + (k + 1) := rfl
  have e2 : (((k + 1 : Nat)) : Int) = (k : Int) + 1 := by omega
  unfold adLoose adS
  simp only [e2]
  rw [e] at t ⊢
  omega
theorem adLoose_mod {p : Int × Int} {k : Nat} {a b : Int} (h : adLoose p k a b) : a % 65521 = p.1 ∧ b % 65521 = p.2 := ⟨h.1, h.2.1⟩
theorem adLoose_bd {p : Int × Int} {k : Nat} {a b : Int} (h : adLoose p k a b) (hk : k ≤ 5552) : 0 ≤ a ∧ a ≤ 1481281 ∧ 0 ≤ b ∧ b ≤ 4294967295 := by
  obtain ⟨h1, h2, h3, h4, h5, h6⟩ := h
  have t := tri_bd hk
  omega
/-- between two pieces: the first number may be 65521 in place of 0 -/
def adTight (p : Int × Int) (a b : Int) : Prop := adIn p ∧ 0 ≤ a ∧ a ≤ 65521 ∧ a % 65521 = p.1 ∧ b = p.2
theorem adTight_loose {p : Int × Int} {a b : Int} (h : adTight p a b) : adLoose p 0 a b := by
  obtain ⟨⟨h1, h2, h3, h4⟩, h5, h6, h7, h8⟩ := h
  unfold adLoose
  have : tri 0 = 0 := rfl
  rw [this]
  omega
theorem adLoose_tight {p : Int × Int} {k : Nat} {a b : Int} (h : adLoose p k a b) (hp : adIn p) : adTight p (a % 65521) (b % 65521) := by
  obtain ⟨h1, h2, h3, h4, h5, h6⟩ := h
  unfold adTight adIn at *
  omega
/-- what the sum's first cell holds: one less -/
def adA (p : Int × Int) : Int := (p.1 + 65520) % 65521
theorem adA_bd {p : Int × Int} : 0 ≤ adA p ∧ adA p ≤ 65520 := by unfold adA; omega
theorem adA_open {p : Int × Int} (hp : adIn p) : adTight p (adA p + 1) p.2 := by unfold adTight adA adIn at *; omega
theorem adA_shut {p : Int × Int} {a b : Int} (h : adTight p a b) : (a + 65521 - 1) % 65521 = adA p ∧ b = p.2 := by unfold adTight adA adIn at *; omega
theorem adA_val {p : Int × Int} (hp : adIn p) : (adA p + 1) % 65521 = p.1 := by unfold adA adIn at *; omega
end Go.Proofs.Ytkhbkfecnpnchaa
