/- Plain: bytes that differ in one place alone have another sum. No program stands here. -/
import Derived.Test.YtkhbkfecnpnchaaP13
namespace Go.Proofs.Ytkhbkfecnpnchaa
open Go.RowKit

theorem adF_fst (l : List Int) : ∀ p : Int × Int, adIn p → (adF p l).1 = (p.1 + l.sum) % 65521 := by
  induction l with
  | nil => intro p h; unfold adIn at h; simp only [adF, List.foldl_nil, List.sum_nil]; omega
  | cons c l ih =>
    intro p h
    have e : adF p (c :: l) = adF (adS p c) l := rfl
    rw [e, ih _ (adS_in p c), List.sum_cons]
    simp only [adS]
    omega
theorem sum_set (v : Int) : ∀ (l : List Int) (i : Nat), i < l.length → (l.set i v).sum = l.sum - l.getD i 0 + v := by
  intro l
  induction l with
  | nil => intro i h; simp at h
  | cons c l ih =>
    intro i h
    match i with
    | 0 => simp; omega
    | i + 1 =>
      have := ih i (by simpa using h)
      simp only [List.set_cons_succ, List.sum_cons, List.getD_cons_succ]
      omega
theorem adV_eq {p q : Int × Int} (hp : adIn p) (hq : adIn q) : adV p = adV q → p.1 = q.1 := by
  unfold adIn at hp hq; unfold adV; omega
theorem ad_differs {l : List Int} {i : Nat} {v : Int} (hi : i < l.length) (h0 : 0 ≤ l.getD i 0 ∧ l.getD i 0 ≤ 255) (v0 : 0 ≤ v) (v1 : v ≤ 255) :
    (adV (adF (1, 0) l) == adV (adF (1, 0) (l.set i v))) = (l.getD i 0 == v) := by
  rw [Bool.eq_iff_iff]
  simp only [beq_iff_eq]
  have hin : adIn (1, 0) := by unfold adIn; omega
  constructor
  · intro h
    have := adV_eq (adF_in _ hin) (adF_in _ hin) h
    rw [adF_fst _ _ hin, adF_fst _ _ hin, sum_set v l i hi] at this
    simp only at this
    omega
  · intro h
    have : l.set i v = l := by
      rw [← h]
      apply List.ext_getElem?
      intro j
      by_cases hj : i = j
      · subst hj; simp [List.getD_eq_getElem?_getD, hi]
      · simp [hj]
    rw [this]

end Go.Proofs.Ytkhbkfecnpnchaa
