/- Layer 24: a loop round blocks that sound, as a way goes through it: plain law. -/
import Derived.Test.YtnmapncgnceldaaWk15
namespace Go.Proofs.Ytnmapncgnceldaa
open Go.RowKit

def bX (i c : Int) : WB := ⟨i, 0, c, [], []⟩
def bsM (k : Int) (j : Nat) : List WB := bX 48 0 :: bX 36 k :: List.replicate j (bX 18 0)
def bsL (k : Int) (n : Nat) : List WB := bsM k n ++ [bX 37 0, bX 19 0]
theorem bsL_len (k : Int) (n : Nat) : (bsL k n).length = n + 4 := by simp [bsL, bsM]
theorem bsL_0 (k : Int) (n : Nat) : (bsL k n).getD 0 default = bX 48 0 := rfl
theorem bsL_1 (k : Int) (n : Nat) : (bsL k n).getD 1 default = bX 36 k := rfl
theorem bsL_i (k : Int) {n i : Nat} (h : i < n) : (bsL k n).getD (i + 2) default = bX 18 0 := by
  rw [List.getD_eq_getElem?_getD]
  show ((List.replicate n (bX 18 0) ++ [bX 37 0, bX 19 0])[i]?).getD default = _
  rw [List.getElem?_append_left (by simpa using h)]
  simp [h]
theorem bsL_e (k : Int) (n : Nat) : (bsL k n).getD (n + 2) default = bX 37 0 := by
  rw [List.getD_eq_getElem?_getD]
  show ((List.replicate n (bX 18 0) ++ [bX 37 0, bX 19 0])[n]?).getD default = _
  rw [List.getElem?_append_right (by simp)]
  simp
theorem bsL_f (k : Int) (n : Nat) : (bsL k n).getD (n + 3) default = bX 19 0 := by
  rw [List.getD_eq_getElem?_getD]
  show ((List.replicate n (bX 18 0) ++ [bX 37 0, bX 19 0])[n + 1]?).getD default = _
  rw [List.getElem?_append_right (by simp)]
  simp
theorem bsL_at (k : Int) {n j : Nat} (h : j < n + 4) : ∃ i c, (bsL k n).getD j default = bX i c ∧ i ≠ 35 ∧ i ≠ 38 ∧ i ≠ 40 ∧ i ≠ 33 ∧ i ≠ 34 ∧ (i = 36 → j = 1) ∧ (i = 37 → j = n + 2) ∧ (c = 0 ∨ c = k) := by
  by_cases h0 : j = 0
  · exact ⟨48, 0, by rw [h0]; exact bsL_0 k n, by decide, by decide, by decide, by decide, by decide, fun h => absurd h (by decide), fun h => absurd h (by decide), .inl rfl⟩
  · by_cases h1 : j = 1
    · exact ⟨36, k, by rw [h1]; exact bsL_1 k n, by decide, by decide, by decide, by decide, by decide, fun _ => h1, fun h => absurd h (by decide), .inr rfl⟩
    · by_cases h2 : j < n + 2
      · obtain ⟨i, rfl⟩ : ∃ i, j = i + 2 := ⟨j - 2, by omega⟩
        exact ⟨18, 0, bsL_i k (by omega), by decide, by decide, by decide, by decide, by decide, fun h => absurd h (by decide), fun h => absurd h (by decide), .inl rfl⟩
      · by_cases h3 : j = n + 2
        · exact ⟨37, 0, by rw [h3]; exact bsL_e k n, by decide, by decide, by decide, by decide, by decide, fun h => absurd h (by decide), fun _ => h3, .inl rfl⟩
        · obtain rfl : j = n + 3 := by omega
          exact ⟨19, 0, bsL_f k n, by decide, by decide, by decide, by decide, by decide, fun h => absurd h (by decide), fun h => absurd h (by decide), .inl rfl⟩
theorem bsL_fine {k : Int} {n : Nat} (hk : 0 ≤ k ∧ k ≤ 40) (hn : n ≤ 20) : Fine (bsL k n) := by
  refine ⟨by rw [bsL_len]; omega, fun j hj => ?_⟩
  rw [bsL_len] at hj
  obtain ⟨i, c, h, h1, h2, _, _, _, _, _, hc⟩ := bsL_at k hj
  rw [h]
  exact ⟨by show ([] : List Int).length ≤ 60; decide, fun h9 => absurd h9 h1, fun h9 => absurd h9 (by rintro (h | h); exact h1 h; exact h2 h), by show c ≤ _; omega⟩
theorem bsL_lite (k : Int) {n : Nat} (hn : n ≤ 20) : Lite (bsL k n) := by
  refine ⟨by rw [bsL_len]; omega, fun j hj => ?_⟩
  rw [bsL_len] at hj
  obtain ⟨i, c, h, _⟩ := bsL_at k hj
  rw [h]
  exact ⟨by show ([] : List Int).length ≤ 60; decide, by show ([] : List Int).length ≤ 60; decide⟩
theorem bsL_empty (k : Int) (n : Nat) : ¬ emptyJ (bsL k n) := by
  rintro ⟨j, hj, h35, _⟩
  rw [bsL_len] at hj
  obtain ⟨i, c, h, h1, _⟩ := bsL_at k hj
  rw [h] at h35
  exact h1 h35
theorem bsL_open (k : Int) {n : Nat} : ∀ j, j ≤ n + 2 → 2 ≤ j → openB (bsL k n) 36 37 j = true := by
  intro j
  induction j with
  | zero => intro _ h; omega
  | succ j ih =>
    intro h1 h2
    unfold openB
    obtain ⟨i, c, h, _, _, _, _, _, ha, hb, _⟩ := bsL_at k (n := n) (j := j) (by omega)
    rw [h]
    by_cases h36 : i = 36
    · rw [if_pos (show (bX i c).id = 36 from h36)]
    · rw [if_neg (show ¬ (bX i c).id = 36 from h36), if_neg (show ¬ (bX i c).id = 37 from fun h37 => by have := hb h37; omega)]
      have hj : j ≠ 1 := by
        rintro rfl
        rw [bsL_1] at h
        injection h with h
        exact h36 h.symm
      exact ih (by omega) (by omega)
theorem bsL_last (k : Int) (n : Nat) : lastB (bsL k n) 37 (bsL k n).length = n + 2 := by
  rw [bsL_len, show n + 4 = (n + 2) + 1 + 1 from rfl]
  unfold lastB
  rw [show n + 2 + 1 = n + 3 from rfl, bsL_f, if_neg (by decide)]
  unfold lastB
  rw [bsL_e, if_pos (show (bX 37 0).id = 37 from rfl)]
  rfl
theorem bsL_wrong (k : Int) {n j : Nat} (hj : j < n + 4) : wrongB (bsL k n) j = 0 := by
  obtain ⟨i, c, h, h1, h2, h3, h4, h5, ha, hb, _⟩ := bsL_at k hj
  have hfar : farB ((bsL k n).getD j default) j (bsL k n).length = false := by
    unfold farB farL
    rw [h, if_neg (show ¬ (bX i c).id = 40 from h3), if_neg (show ¬ ((bX i c).id = 35 ∨ (bX i c).id = 38) by rintro (h | h); exact h1 h; exact h2 h)]
    rfl
  have hp1 : pairB (bsL k n) 33 34 j = false := by
    unfold pairB
    rw [h, if_neg (show ¬ (bX i c).id = 33 from h4), if_neg (show ¬ (bX i c).id = 34 from h5)]
  have hp2 : pairB (bsL k n) 36 37 j = false := by
    unfold pairB
    rw [h, bsL_last]
    by_cases h36 : i = 36
    · rw [if_pos (show (bX i c).id = 36 from h36)]
      obtain rfl := ha h36
      have ho : openB (bsL k n) 36 37 1 = false := rfl
      rw [ho, decide_eq_false (by omega)]
      rfl
    · rw [if_neg (show ¬ (bX i c).id = 36 from h36)]
      by_cases h37 : i = 37
      · rw [if_pos (show (bX i c).id = 37 from h37), hb h37, bsL_open k _ (Nat.le_refl _) (by omega)]
        rfl
      · rw [if_neg (show ¬ (bX i c).id = 37 from h37)]
  unfold wrongB
  rw [hp1, hp2, hfar]
  rfl
theorem soundG_0 {bs : List WB} : ∀ (f j : Nat), (∀ i, j ≤ i → i < j + f → wrongB bs i = 0) → soundG bs f j = (0, 0)
  | 0, _, _ => rfl
  | f + 1, j, h => by
    unfold soundG
    rw [if_pos (h j (Nat.le_refl _) (by omega))]
    exact soundG_0 f (j + 1) fun i h1 h2 => h i (by omega) (by omega)
theorem bsL_sound (k : Int) (n : Nat) : (soundG (bsL k n) (bsL k n).length 0).2 = 0 := by
  rw [soundG_0 _ 0 fun i _ h => bsL_wrong k (by rw [bsL_len] at h; omega)]

/-- how the way stands in the loop -/
def sL (hd : Bool) (T : Int) (at_ : Nat) : WS := { ws0 with on := true, heard := hd, frm := 2, times := T, at_ := at_ }
def M1 (k : Int) : Int := if k < 1 then 1 else k
theorem atL {k : Int} {n : Nat} {s : WS} {j : Nat} (h : s.at_ = (j : Int)) : atB (bsL k n) s.at_ = (bsL k n).getD j default := by rw [h]; rfl
theorem nL_play {k : Int} {n i f : Nat} {s : WS} (hi : i < n) (h : s.at_ = ((i + 2 : Nat) : Int)) : nextO (bsL k n) (f + 1) s = some (⟨0, ((i + 2 : Nat) : Int), 0⟩, { s with at_ := ((i + 2 : Nat) : Int) + 1 }) := by
  rw [nextO, if_pos (by rw [h, bsL_len]; omega), atL h, bsL_i k hi, if_neg (by decide), h]
  rfl
theorem nL_first {k : Int} {n : Nat} (hn : 0 < n) : nextO (bsL k n) 3 ws0 = some (⟨0, 2, 0⟩, sL false (M1 k - 1) 3) := by
  rw [nextO, if_pos (by rw [bsL_len]; show (0 : Int) < _; omega), atL (j := 0) rfl, bsL_0, if_pos (by decide), if_pos (by unfold leadE; rw [atL (j := 0) rfl, bsL_0]; rfl)]
  have h1 : leadS (bsL k n) ws0 = { ws0 with at_ := 1 } := by
    unfold leadS
    rw [atL (j := 0) rfl, bsL_0]
    rfl
  rw [h1, nextO, if_pos (by rw [bsL_len]; show (1 : Int) < _; omega), atL (j := 1) rfl, bsL_1, if_pos (by rfl), if_pos (by unfold leadE; rw [atL (j := 1) rfl, bsL_1]; rfl)]
  have h2 : leadS (bsL k n) { ws0 with at_ := 1 } = sL false (M1 k - 1) 2 := by
    unfold leadS
    rw [atL (j := 1) rfl, bsL_1]
    rfl
  rw [h2, nL_play (i := 0) hn rfl]
  rfl
theorem nL_again {k T : Int} {n : Nat} (hn : 0 < n) (hT : 0 < T) : nextO (bsL k n) 2 (sL true T (n + 2)) = some (⟨0, 2, 0⟩, sL false (T - 1) 3) := by
  rw [nextO, if_pos (by rw [bsL_len]; show ((n + 2 : Nat) : Int) < _; omega), atL (j := n + 2) rfl, bsL_e, if_pos (by rfl), if_pos (by unfold leadE; rw [atL (j := n + 2) rfl, bsL_e]; rfl)]
  have h1 : leadS (bsL k n) (sL true T (n + 2)) = sL false (T - 1) 2 := by
    unfold leadS
    rw [atL (j := n + 2) rfl, bsL_e]
    show (if 0 < T ∧ true = true then _ else _) = _
    rw [if_pos ⟨hT, rfl⟩]
    rfl
  rw [h1, nL_play (i := 0) hn rfl]
  rfl
/-- out of the loop -/
def sE (n : Nat) : WS := { ws0 with at_ := ((n + 4 : Nat) : Int) }
theorem nL_out {k T : Int} {n : Nat} {hd : Bool} (h : ¬ (0 < T ∧ hd = true)) : nextO (bsL k n) 2 (sL hd T (n + 2)) = some (⟨0, ((n + 3 : Nat) : Int), 0⟩, sE n) := by
  rw [nextO, if_pos (by rw [bsL_len]; show ((n + 2 : Nat) : Int) < _; omega), atL (j := n + 2) rfl, bsL_e, if_pos (by rfl), if_pos (by unfold leadE; rw [atL (j := n + 2) rfl, bsL_e]; rfl)]
  have h1 : leadS (bsL k n) (sL hd T (n + 2)) = { ws0 with at_ := ((n + 3 : Nat) : Int) } := by
    unfold leadS
    rw [atL (j := n + 2) rfl, bsL_e]
    show (if 0 < T ∧ hd = true then _ else _) = _
    rw [if_neg h]
    rfl
  rw [h1, nextO, if_pos (by rw [bsL_len]; show ((n + 3 : Nat) : Int) < _; omega), atL (j := n + 3) rfl, bsL_f, if_neg (by decide)]
  rfl
theorem nL_end {k : Int} {n : Nat} : nextO (bsL k n) 1 (sE n) = some (⟨3, ((n + 4 : Nat) : Int), 0⟩, stayS (sE n) 3 ((n + 4 : Nat) : Int) 0) := by
  rw [nextO, if_neg (by rw [bsL_len]; show ¬ ((n + 4 : Nat) : Int) < _; omega), bsL_len]
theorem nL_over {k : Int} {n : Nat} : nextS (bsL k n) (stayS (sE n) 3 ((n + 4 : Nat) : Int) 0) = (⟨3, ((n + 4 : Nat) : Int), 0⟩, stayS (sE n) 3 ((n + 4 : Nat) : Int) 0) := if_pos rfl
/-- how the way stands ahead of block i of pass p -/
def stI (hd : Bool) (k : Int) (n p i : Nat) : WS := if i = 0 then (if p = 0 then ws0 else sL hd (M1 k - p) (n + 2)) else sL hd (M1 k - 1 - p) (i + 2)
def passes (hd : Bool) (k : Int) : Int := if hd = true then M1 k else 1
theorem stI_n {hd : Bool} {k : Int} {n p : Nat} (hn : 1 ≤ n) : stI hd k n p n = stI hd k n (p + 1) 0 := by
  unfold stI
  rw [if_neg (by omega), if_pos rfl, if_neg (by omega)]
  congr 1
  omega
theorem nL_step {hd : Bool} {k : Int} {n p i : Nat} (hk : 0 ≤ k ∧ k ≤ 40) (hn : n ≤ 20) (hp : (p : Int) < passes hd k) (hi : i < n) (hok : (stI hd k n p i).ok (bsL k n)) :
    ∃ s', nextS (bsL k n) (stI hd k n p i) = (⟨0, 2 + (i : Int), 0⟩, s') ∧ s'.ok (bsL k n) ∧ (hd = true → heardS s' = stI hd k n p (i + 1)) ∧ (hd = false → s' = stI hd k n p (i + 1)) := by
  have hf := bsL_fine hk hn
  have key : ∀ (s s' : WS) (f : Nat), s.ok (bsL k n) → s.ov = false → nextO (bsL k n) f s = some (⟨0, 2 + (i : Int), 0⟩, s') → nextS (bsL k n) s = (⟨0, 2 + (i : Int), 0⟩, s') ∧ s'.ok (bsL k n) := fun s s' f h1 h2 h3 => by
    have h := nextS_o hf h1 h2 h3
    refine ⟨h, ?_⟩
    have := nextS_ok hf h1
    rw [h] at this
    exact this
  by_cases hi0 : i = 0
  · subst hi0
    by_cases hp0 : p = 0
    · subst hp0
      have hs : stI hd k n 0 0 = ws0 := rfl
      rw [hs] at hok ⊢
      obtain ⟨h1, h2⟩ := key _ _ 3 hok rfl (nL_first hi)
      refine ⟨_, h1, h2, fun h => ?_, fun h => ?_⟩
      · subst h; unfold stI; rw [if_neg (by omega), show M1 k - 1 - ((0 : Nat) : Int) = M1 k - 1 by omega]; try rfl
      · subst h; unfold stI; rw [if_neg (by omega), show M1 k - 1 - ((0 : Nat) : Int) = M1 k - 1 by omega]; try rfl
    · have hd1 : hd = true := by
        cases hd with
        | true => rfl
        | false => exfalso; have : (p : Int) < 1 := hp; omega
      subst hd1
      have hs : stI true k n p 0 = sL true (M1 k - p) (n + 2) := by unfold stI; rw [if_pos rfl, if_neg hp0]
      rw [hs] at hok ⊢
      have hpM : (p : Int) < M1 k := hp
      obtain ⟨h1, h2⟩ := key _ _ 2 hok rfl (nL_again hi (by omega))
      refine ⟨_, h1, h2, fun h => ?_, fun h => absurd h (by decide)⟩
      unfold stI
      rw [if_neg (by omega), show M1 k - 1 - (p : Int) = M1 k - p - 1 by omega]
      rfl
  · have hs : stI hd k n p i = sL hd (M1 k - 1 - p) (i + 2) := by unfold stI; rw [if_neg hi0]
    rw [hs] at hok ⊢
    have hpl := nL_play (k := k) (f := 0) (s := sL hd (M1 k - 1 - p) (i + 2)) hi rfl
    rw [show ((i + 2 : Nat) : Int) = 2 + (i : Int) by omega] at hpl
    obtain ⟨h1, h2⟩ := key _ _ 1 hok rfl hpl
    have he : ({ sL hd (M1 k - 1 - p) (i + 2) with at_ := 2 + (i : Int) + 1 } : WS) = stI hd k n p (i + 1) := by
      unfold stI
      rw [if_neg (by omega)]
      have e1 : 2 + (i : Int) + 1 = ((i + 1 + 2 : Nat) : Int) := by omega
      rw [e1]
      rfl
    refine ⟨_, h1, h2, fun h => ?_, fun h => he⟩
    rw [he]
    subst h
    unfold stI
    rw [if_neg (by omega)]
    rfl
/-- behind all passes -/
theorem nL_last {hd : Bool} {k : Int} {n p : Nat} (hk : 0 ≤ k ∧ k ≤ 40) (hn : n ≤ 20) (hn1 : 1 ≤ n) (hp : (p : Int) = passes hd k) (hok : (stI hd k n p 0).ok (bsL k n)) :
    nextS (bsL k n) (stI hd k n p 0) = (⟨0, ((n + 3 : Nat) : Int), 0⟩, sE n) ∧ (sE n).ok (bsL k n) ∧ nextS (bsL k n) (sE n) = (⟨3, ((n + 4 : Nat) : Int), 0⟩, stayS (sE n) 3 ((n + 4 : Nat) : Int) 0) ∧ (stayS (sE n) 3 ((n + 4 : Nat) : Int) 0).ok (bsL k n) := by
  have hf := bsL_fine hk hn
  have hM : 1 ≤ M1 k := by unfold M1; split <;> omega
  have hp1 : p ≠ 0 := by unfold passes at hp; split at hp <;> omega
  have hs : stI hd k n p 0 = sL hd (M1 k - p) (n + 2) := by unfold stI; rw [if_pos rfl, if_neg hp1]
  rw [hs] at hok ⊢
  have ho : ¬ (0 < M1 k - (p : Int) ∧ hd = true) := by
    rintro ⟨h1, h2⟩
    unfold passes at hp
    rw [if_pos h2] at hp
    omega
  have h1 := nextS_o hf hok rfl (nL_out ho)
  have h2 := nextS_ok hf hok
  rw [h1] at h2
  have h3 := nextS_o hf h2 rfl nL_end
  have h4 := nextS_ok hf h2
  rw [h3] at h4
  exact ⟨h1, h2, h3, h4⟩
theorem WBsAt.app {w : World} {φ : Nat → Prop} : ∀ {l l' : List WB} {xs ys : List Value}, WBsAt w φ l xs → WBsAt w φ l' ys → WBsAt w φ (l ++ l') (xs ++ ys)
  | [], _, _, _, h, h2 => by have : _ = [] := h; subst this; exact h2
  | _ :: _, _, _, ys, ⟨cs, zs, e, h1, h2⟩, h3 => ⟨cs, zs ++ ys, by rw [e, List.append_assoc], h1, WBsAt.app h2 h3⟩
theorem bsM_succ (k : Int) (j : Nat) : bsM k (j + 1) = bsM k j ++ [bX 18 0] := by
  unfold bsM
  rw [List.replicate_succ']
  rfl
end Go.Proofs.Ytnmapncgnceldaa
