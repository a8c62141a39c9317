/- Packing, plain: runs of the same byte, packed bytes, unpacked ones, and that what was packed is unpacked; nothing of the program is in it. -/
import Derived.WalkKit
namespace Go.Proofs.Ythhodkadfenkbaa
open Go.RowKit

/-- how many bytes at the front are the same, 255 at most -/
def runN (zs : List Int) : Nat := min 255 (zs.takeWhile (· == zs.headD 0)).length
theorem runN_nil : runN [] = 0 := by simp [runN]
theorem runN_pos (x : Int) (t : List Int) : 1 ≤ runN (x :: t) := by
  unfold runN
  rw [List.headD_cons, List.takeWhile_cons_of_pos (by simp)]
  simp
  omega
theorem runN_le (zs : List Int) : runN zs ≤ zs.length := by
  unfold runN
  have := (List.takeWhile_sublist (l := zs) (· == zs.headD 0)).length_le
  omega
theorem runN_255 (zs : List Int) : runN zs ≤ 255 := Nat.min_le_left _ _
theorem takeWhile_get {p : Int → Bool} : ∀ {zs : List Int} {k : Nat}, k < (zs.takeWhile p).length → p (zs.getD k 0) = true
  | [], k, h => by simp at h
  | a :: t, k, h => by
    by_cases ha : p a = true
    · rw [List.takeWhile_cons_of_pos ha] at h
      match k with
      | 0 => simpa using ha
      | k + 1 => simpa using takeWhile_get (zs := t) (k := k) (by simpa using h)
    · rw [List.takeWhile_cons_of_neg ha] at h
      simp at h
theorem takeWhile_end {p : Int → Bool} : ∀ {zs : List Int}, (zs.takeWhile p).length < zs.length → p (zs.getD (zs.takeWhile p).length 0) = false
  | [], h => by simp at h
  | a :: t, h => by
    by_cases ha : p a = true
    · rw [List.takeWhile_cons_of_pos ha] at h ⊢
      simpa using takeWhile_end (zs := t) (by simpa using h)
    · rw [List.takeWhile_cons_of_neg ha]
      simpa using ha
theorem head_getD (zs : List Int) : zs.headD 0 = zs.getD 0 0 := by cases zs <;> simp
theorem runN_on {zs : List Int} {k : Nat} (h : k < runN zs) : zs.getD k 0 = zs.getD 0 0 := by
  unfold runN at h
  have := takeWhile_get (zs := zs) (k := k) (p := (· == zs.headD 0)) (by omega)
  rw [← head_getD]
  simpa using this
theorem runN_off {zs : List Int} (h : runN zs < zs.length) (h2 : runN zs < 255) : zs.getD (runN zs) 0 ≠ zs.getD 0 0 := by
  have e : runN zs = (zs.takeWhile (· == zs.headD 0)).length := by unfold runN at h2 ⊢; omega
  rw [e] at h ⊢
  have := takeWhile_end h
  rw [← head_getD]
  simpa using this
theorem runN_take (zs : List Int) : zs.take (runN zs) = List.replicate (runN zs) (zs.getD 0 0) := by
  apply List.ext_getElem?
  intro i
  by_cases hi : i < runN zs
  · rw [List.getElem?_take_of_lt hi, List.getElem?_replicate, if_pos hi]
    have hl : i < zs.length := Nat.lt_of_lt_of_le hi (runN_le zs)
    have := runN_on hi
    rw [List.getD_eq_getElem?_getD, List.getElem?_eq_getElem hl, Option.getD_some] at this
    rw [List.getElem?_eq_getElem hl, this]
  · rw [List.getElem?_eq_none (by simp; omega), List.getElem?_eq_none (by simp; omega)]
theorem runN_ne {x : Int} {t : List Int} (h : runN (x :: t) < 2) : t.head? ≠ some x := by
  intro he
  obtain ⟨y, t', rfl⟩ : ∃ y t', t = y :: t' := by cases t with | nil => cases he | cons y t' => exact ⟨y, t', rfl⟩
  injection he with he
  subst he
  unfold runN at h
  rw [List.headD_cons, List.takeWhile_cons_of_pos (by simp), List.takeWhile_cons_of_pos (by simp)] at h
  simp at h
  omega
theorem runN_rep {k : Nat} (c : Int) : runN (List.replicate k c) = min 255 k := by
  match k with
  | 0 => simp [runN]
  | k + 1 =>
    unfold runN
    rw [List.replicate_succ, List.headD_cons, ← List.replicate_succ]
    have : (List.replicate (k + 1) c).takeWhile (· == c) = List.replicate (k + 1) c := by simp [List.takeWhile_replicate]
    rw [this, List.length_replicate]

/-- is the byte in front packed as it is? -/
def rawB (al : Bool) (zs : List Int) : Bool := al || (decide (runN zs < 5) && (zs.getD 0 0 != 237 || decide (runN zs < 2)))

def packL (al : Bool) (zs : List Int) : List Int :=
  if h : 0 < zs.length then
    if rawB al zs = true then zs.getD 0 0 :: packL (zs.getD 0 0 == 237 && !al) (zs.drop 1)
    else 237 :: 237 :: (runN zs : Int) :: zs.getD 0 0 :: packL false (zs.drop (runN zs))
  else []
termination_by zs.length
decreasing_by
  · simp; omega
  · have : 1 ≤ runN zs := by cases zs with | nil => simp at h | cons x t => exact runN_pos x t
    simp; omega

theorem packL_nil (al : Bool) : packL al [] = [] := by rw [packL]; simp
theorem packL_raw {al : Bool} {zs : List Int} (h : 0 < zs.length) (hr : rawB al zs = true) : packL al zs = zs.getD 0 0 :: packL (zs.getD 0 0 == 237 && !al) (zs.drop 1) := by rw [packL, dif_pos h, if_pos hr]
theorem packL_run {al : Bool} {zs : List Int} (h : 0 < zs.length) (hr : rawB al zs = false) : packL al zs = 237 :: 237 :: (runN zs : Int) :: zs.getD 0 0 :: packL false (zs.drop (runN zs)) := by rw [packL, dif_pos h, if_neg (by rw [hr]; exact Bool.false_ne_true)]
theorem rawB_false {al : Bool} {zs : List Int} (h : rawB al zs = false) : al = false ∧ (5 ≤ runN zs ∨ zs.getD 0 0 = 237 ∧ 2 ≤ runN zs) := by
  unfold rawB at h
  simp only [Bool.or_eq_false_iff, Bool.and_eq_false_iff, decide_eq_false_iff_not, bne_eq_false_iff_eq] at h
  refine ⟨h.1, ?_⟩
  rcases h.2 with h | ⟨h1, h2⟩
  · exact .inl (by omega)
  · exact .inr ⟨h1, by omega⟩
theorem rawB_true {al : Bool} {zs : List Int} (h : rawB al zs = true) : al = true ∨ (runN zs < 5 ∧ (zs.getD 0 0 ≠ 237 ∨ runN zs < 2)) := by
  unfold rawB at h
  simpa using h

theorem packL_len (n : Nat) : ∀ (al : Bool) (zs : List Int), zs.length ≤ n → (packL al zs).length ≤ 2 * zs.length := by
  induction n with
  | zero => intro al zs h; obtain rfl : zs = [] := List.eq_nil_of_length_eq_zero (by omega); simp [packL_nil]
  | succ n ih =>
    intro al zs h
    by_cases h0 : 0 < zs.length
    · cases hr : rawB al zs with
      | true =>
        rw [packL_raw h0 hr]
        have := ih (zs.getD 0 0 == 237 && !al) (zs.drop 1) (by simp; omega)
        simp at this ⊢
        omega
      | false =>
        have hk := (rawB_false hr).2
        have hl := runN_le zs
        rw [packL_run h0 hr]
        have := ih false (zs.drop (runN zs)) (by simp; omega)
        simp at this ⊢
        omega
    · obtain rfl : zs = [] := List.eq_nil_of_length_eq_zero (by omega)
      simp [packL_nil]

theorem packL_rep (c : Int) (hc : c ≠ 237) (n : Nat) : ∀ k : Nat, k ≤ n → 5 ≤ k % 255 → (packL false (List.replicate k c)).length = 4 * (k / 255) + 4 := by
  induction n with
  | zero => intro k h h5; omega
  | succ n ih =>
    intro k h h5
    have h0 : 0 < (List.replicate k c).length := by simp; omega
    have hr : rawB false (List.replicate k c) = false := by
      unfold rawB
      rw [runN_rep]
      have : ¬ min 255 k < 5 := by omega
      simp [this]
    rw [packL_run h0 hr, runN_rep, List.drop_replicate]
    by_cases hk : k < 255
    · rw [show k - min 255 k = 0 by omega, List.replicate_zero, packL_nil]
      simp
      omega
    · rw [show k - min 255 k = k - 255 by omega]
      have := ih (k - 255) (by omega) (by omega)
      simp only [List.length_cons, this]
      omega

/-- unpacked bytes, and how many packed ones they took, or why there are none -/
inductive Un where
  | ok (l : List Int) (k : Nat)
  | err (e : Int)
def Un.more (d : List Int) (k : Nat) : Un → Un
  | .ok l j => .ok (d ++ l) (k + j)
  | .err e => .err e
theorem Un.more_nil (u : Un) : Un.more [] 0 u = u := by cases u <;> simp [Un.more]
theorem Un.more_more (d d' : List Int) (k k' : Nat) (u : Un) : Un.more d k (Un.more d' k' u) = Un.more (d ++ d') (k + k') u := by cases u <;> simp [Un.more, Nat.add_assoc]

variable (eEnd eForm : Int) in
def unp (r : Nat) (zs : List Int) : Un :=
  if r = 0 then .ok [] 0
  else if h : zs.length = 0 then .err eEnd
  else if zs.getD 0 0 = 237 ∧ 1 < zs.length ∧ zs.getD 1 0 = 237 then
    if h4 : zs.length < 4 then .err eEnd
    else if zs.getD 2 0 = 0 ∨ (r : Int) < zs.getD 2 0 then .err eForm
    else Un.more (List.replicate (zs.getD 2 0).toNat (zs.getD 3 0)) 4 (unp (r - (zs.getD 2 0).toNat) (zs.drop 4))
  else if zs.getD 0 0 = 237 ∧ zs.length = 1 ∧ 1 < r then .err eEnd
  else Un.more [zs.getD 0 0] 1 (unp (r - 1) (zs.drop 1))
termination_by zs.length
decreasing_by
  · simp; omega
  · simp; omega

section
variable {eE eF : Int} {r : Nat} {zs : List Int}
theorem unp_zero : unp eE eF 0 zs = .ok [] 0 := by rw [unp]; simp
theorem unp_none (h : r ≠ 0) (h0 : zs.length = 0) : unp eE eF r zs = .err eE := by rw [unp, if_neg h, dif_pos h0]
theorem unp_short (h : r ≠ 0) (h0 : zs.getD 0 0 = 237 ∧ 1 < zs.length ∧ zs.getD 1 0 = 237) (h4 : zs.length < 4) : unp eE eF r zs = .err eE := by
  rw [unp, if_neg h, dif_neg (by omega), if_pos h0, dif_pos h4]
theorem unp_form (h : r ≠ 0) (h0 : zs.getD 0 0 = 237 ∧ 1 < zs.length ∧ zs.getD 1 0 = 237) (h4 : 4 ≤ zs.length) (hf : zs.getD 2 0 = 0 ∨ (r : Int) < zs.getD 2 0) : unp eE eF r zs = .err eF := by
  rw [unp, if_neg h, dif_neg (by omega), if_pos h0, dif_neg (by omega), if_pos hf]
theorem unp_run (h : r ≠ 0) (h0 : zs.getD 0 0 = 237 ∧ 1 < zs.length ∧ zs.getD 1 0 = 237) (h4 : 4 ≤ zs.length) (hf : ¬ (zs.getD 2 0 = 0 ∨ (r : Int) < zs.getD 2 0)) :
    unp eE eF r zs = Un.more (List.replicate (zs.getD 2 0).toNat (zs.getD 3 0)) 4 (unp eE eF (r - (zs.getD 2 0).toNat) (zs.drop 4)) := by
  rw [unp, if_neg h, dif_neg (by omega), if_pos h0, dif_neg (by omega), if_neg hf]
theorem unp_last (h : 1 < r) (h0 : zs.getD 0 0 = 237) (h1 : zs.length = 1) : unp eE eF r zs = .err eE := by
  rw [unp, if_neg (by omega), dif_neg (by omega), if_neg (by omega), if_pos ⟨h0, h1, h⟩]
theorem unp_raw (h : r ≠ 0) (h0 : 0 < zs.length) (h1 : ¬ (zs.getD 0 0 = 237 ∧ 1 < zs.length ∧ zs.getD 1 0 = 237)) (h2 : ¬ (zs.getD 0 0 = 237 ∧ zs.length = 1 ∧ 1 < r)) :
    unp eE eF r zs = Un.more [zs.getD 0 0] 1 (unp eE eF (r - 1) (zs.drop 1)) := by
  rw [unp, if_neg h, dif_neg (by omega), if_neg h1, if_neg h2]
end

theorem getD_two (a b c d : Int) (l : List Int) : (a :: b :: c :: d :: l).getD 0 0 = a ∧ (a :: b :: c :: d :: l).getD 1 0 = b ∧ (a :: b :: c :: d :: l).getD 2 0 = c ∧ (a :: b :: c :: d :: l).getD 3 0 = d := ⟨rfl, rfl, rfl, rfl⟩

/-- what was packed is unpacked as it was -/
theorem unp_packL (eE eF : Int) (ext : List Int) (hx : ext.head? ≠ some 237) (n : Nat) : ∀ (al : Bool) (zs : List Int), zs.length ≤ n → (al = true → zs.head? ≠ some 237) →
    unp eE eF zs.length (packL al zs ++ ext) = .ok zs (packL al zs).length := by
  induction n with
  | zero =>
    intro al zs h ha
    obtain rfl : zs = [] := List.eq_nil_of_length_eq_zero (by omega)
    rw [List.length_nil, unp_zero, packL_nil]
    rfl
  | succ n ih =>
    intro al zs h ha
    by_cases h0 : 0 < zs.length
    · obtain ⟨x, t, rfl⟩ : ∃ x t, zs = x :: t := by cases zs with | nil => simp at h0 | cons x t => exact ⟨x, t, rfl⟩
      have hx0 : (x :: t).getD 0 0 = x := rfl
      cases hr : rawB al (x :: t) with
      | true =>
        have hp := packL_raw h0 hr
        rw [hx0, List.drop_succ_cons, List.drop_zero] at hp
        have hsing : x = 237 → t.head? ≠ some 237 := by
          intro e
          subst e
          rcases rawB_true hr with h1 | ⟨_, h1 | h1⟩
          · exact absurd rfl (ha h1)
          · exact absurd hx0 h1
          · exact runN_ne h1
        have hal : (x == 237 && !al) = true → t.head? ≠ some 237 := fun e => hsing (by simp at e; exact e.1)
        have hnext := ih (x == 237 && !al) t (by simp at h; omega) hal
        generalize hq : (x == 237 && !al) = al' at *
        -- the next packed byte
        have hhead : x = 237 → (packL al' t ++ ext).head? ≠ some 237 := by
          intro e
          have h1 := hsing e
          subst e
          have ha' : al' = true := by
            rw [← hq]
            cases al with
            | true => exact absurd rfl (ha rfl)
            | false => rfl
          cases t with
          | nil => rw [packL_nil]; simpa using hx
          | cons y t' =>
            rw [packL_raw (by simp) (by unfold rawB; rw [ha']; rfl)]
            simpa using h1
        rw [hp, List.cons_append, unp_raw (by simp) (by simp) ?_ ?_, List.drop_succ_cons, List.drop_zero]
        · rw [show (x :: t).length - 1 = t.length by simp, hnext]
          simp [Un.more]; omega
        · rintro ⟨e1, e2, e3⟩
          refine hhead (by simpa using e1) ?_
          cases hc : packL al' t ++ ext with
          | nil => rw [hc] at e2; simp at e2
          | cons a b => rw [hc] at e3; simpa using e3
        · rintro ⟨e1, e2, e3⟩
          have e1' : x = 237 := by simpa using e1
          have ht : t ≠ [] := by intro e; subst e; simp at e3
          have : packL al' t ≠ [] := by
            obtain ⟨y, t', rfl⟩ : ∃ y t', t = y :: t' := by cases t with | nil => exact absurd rfl ht | cons y t' => exact ⟨y, t', rfl⟩
            cases hr2 : rawB al' (y :: t') with
            | true => rw [packL_raw (by simp) hr2]; simp
            | false => rw [packL_run (by simp) hr2]; simp
          have : 0 < (packL al' t).length := List.length_pos_iff.2 this
          rw [List.length_cons, List.length_append] at e2
          omega
      | false =>
        have hp := packL_run h0 hr
        rw [hx0] at hp
        have hk := (rawB_false hr).2
        have hl := runN_le (x :: t)
        have h255 := runN_255 (x :: t)
        have htake := runN_take (x :: t)
        rw [hx0] at htake
        have hlen : ((x :: t).drop (runN (x :: t))).length = (x :: t).length - runN (x :: t) := List.length_drop
        have hnext := ih false ((x :: t).drop (runN (x :: t))) (by rw [hlen]; omega) (fun e => by cases e)
        have happ := List.take_append_drop (runN (x :: t)) (x :: t)
        generalize hK : runN (x :: t) = K at *
        generalize (x :: t).drop K = rest at *
        rw [hp]
        simp only [List.cons_append]
        obtain ⟨g0, g1, g2, g3⟩ := getD_two 237 237 (K : Int) x (packL false rest ++ ext)
        rw [unp_run (by simp) ⟨g0, by simp, g1⟩ (by simp) (by rw [g2]; omega), g2, g3]
        simp only [List.drop_succ_cons, List.drop_zero, Int.toNat_natCast]
        rw [← hlen, hnext]
        simp only [Un.more]
        rw [← htake, happ]
        simp
        omega
    · obtain rfl : zs = [] := List.eq_nil_of_length_eq_zero (by omega)
      rw [List.length_nil, unp_zero, packL_nil]
      rfl

end Go.Proofs.Ythhodkadfenkbaa
