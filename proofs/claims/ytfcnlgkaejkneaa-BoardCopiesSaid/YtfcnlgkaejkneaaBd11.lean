/- Layer 11: the plain law of BoardScreen: in a whole frame each place of the picture is met once. -/
import Derived.Test.YtfcnlgkaejkneaaBd10
namespace Go.Proofs.Ytfcnlgkaejkneaa
open Go.RowKit

def fetchP (k : Int) : Int := if k % 2 = 0 then pixN (k / 2 / 32) (k / 2 % 32) else colN (k / 2 / 32) (k / 2 % 32)
theorem fetch_is {t : Int} (h : hitS t = true) : fetchS t = fetchP (placeS t) := by
  obtain ⟨⟨l0, l1⟩, ⟨c0, c1⟩, hh⟩ := cell_bd (hit_is h)
  unfold fetchS placeS fetchP
  rw [if_pos h, if_pos h]
  unfold placeN fetchN
  generalize lineN (frameS t - 14338) = l at *
  generalize cellN (frameS t - 14338) = c at *
  generalize halfN (frameS t - 14338) = d at *
  have e1 : (2 * (32 * l + c) + d) / 2 / 32 = l := by omega
  have e2 : (2 * (32 * l + c) + d) / 2 % 32 = c := by omega
  rw [e1, e2]
  rcases hh with rfl | rfl
  · rw [if_pos rfl, if_pos (by omega)]
  · rw [if_neg (by omega), if_neg (by omega)]
theorem fetch_same {s t : Int} (hs : hitS s = true) (ht : hitS t = true) (e : (placeS s).toNat = (placeS t).toNat) : fetchS s = fetchS t := by
  have a := place_bd hs
  have b := place_bd ht
  rw [fetch_is hs, fetch_is ht, show placeS s = placeS t by omega]
/-- what stands after i T-states from ph on -/
structure RunI (ph : Int) (M0 : Nat → Int) (i : Nat) (b : Bd) : Prop where
  M : b.M = M0
  t : b.t = (i : Int)
  fr : b.fr = (ph + i) % 69888
  seen : ∀ j : Nat, j < i → hitS ((ph + j) % 69888) = true → b.seen (placeS ((ph + j) % 69888)).toNat = M0 (fetchS ((ph + j) % 69888)).toNat
theorem seenB_M (b : Bd) : (seenB b).M = b.M := by unfold seenB; split <;> rfl
theorem RunI.step {ph : Int} {M0 : Nat → Int} {i : Nat} {b : Bd} (h : RunI ph M0 i b) : RunI ph M0 (i + 1) (nextB b) := by
  have hf := h.fr
  refine ⟨?_, ?_, ?_, fun j hj hit => ?_⟩
  · show (seenB b).M = M0
    rw [seenB_M]; exact h.M
  · show b.t + 1 = _
    rw [h.t]; omega
  · show (if b.fr + 1 = 69888 then 0 else b.fr + 1) = _
    split <;> omega
  · show (seenB b).seen _ = _
    unfold seenB
    by_cases hb : hitS b.fr = true
    · rw [if_pos hb]
      show (if (placeS ((ph + j) % 69888)).toNat = (placeS b.fr).toNat then b.M (fetchS b.fr).toNat else b.seen (placeS ((ph + j) % 69888)).toNat) = _
      by_cases e : (placeS ((ph + j) % 69888)).toNat = (placeS b.fr).toNat
      · rw [if_pos e, h.M, fetch_same hit hb e]
      · rw [if_neg e]
        refine h.seen j ?_ hit
        rcases Nat.lt_or_ge j i with h1 | h1
        · exact h1
        · exact absurd (by rw [hf, show j = i by omega]) e
    · rw [if_neg hb]
      refine h.seen j ?_ hit
      rcases Nat.lt_or_ge j i with h1 | h1
      · exact h1
      · refine absurd ?_ hb
        rw [hf, show i = j by omega]
        exact hit
theorem RunI.whole {ph : Int} {M0 : Nat → Int} {b : Bd} (h : RunI ph M0 69888 b) (h0 : 0 ≤ ph) (h1 : ph ≤ 69887) {line cell half : Int} (l0 : 0 ≤ line) (l1 : line < 192) (c0 : 0 ≤ cell) (c1 : cell < 32) (hh : half = 0 ∨ half = 1) : b.seen (2 * (32 * line + cell) + half).toNat = M0 (if half = 0 then pixN line cell else colN line cell).toNat := by
  obtain ⟨T, hT⟩ : ∃ T : Int, T = 14338 + 224 * line + 8 * (cell / 2) + 2 * (cell % 2) + half := ⟨_, rfl⟩
  obtain ⟨j, hj⟩ : ∃ j : Nat, j = ((T - ph) % 69888).toNat := ⟨_, rfl⟩
  have hjT : (ph + j) % 69888 = T := by omega
  have hfr : frameS T = T := by unfold frameS; omega
  have e0 : T - 14338 = 224 * line + 8 * (cell / 2) + 2 * (cell % 2) + half := by omega
  obtain ⟨n, hn⟩ : ∃ n, n = T - 14338 := ⟨_, rfl⟩
  have e1 : n / 224 = line := by omega
  have e2 : n % 224 = 8 * (cell / 2) + 2 * (cell % 2) + half := by omega
  have e3 : n % 224 / 8 = cell / 2 := by omega
  have e4 : n % 224 % 8 = 2 * (cell % 2) + half := by omega
  have hhit : hitS T = true := by
    unfold hitS hitN
    rw [hfr, ← hn]
    simp only [Bool.and_eq_true, decide_eq_true_eq]
    omega
  have hl : lineN n = line := e1
  have hc : cellN n = cell := by unfold cellN; rw [e3, e4]; omega
  have hd : halfN n = half := by unfold halfN; rw [e4]; omega
  have hp : placeS T = 2 * (32 * line + cell) + half := by unfold placeS; rw [if_pos hhit, hfr, ← hn]; unfold placeN; rw [hl, hc, hd]
  have hq : fetchS T = if half = 0 then pixN line cell else colN line cell := by unfold fetchS; rw [if_pos hhit, hfr, ← hn]; unfold fetchN; rw [hl, hc, hd]
  have := h.seen j (by omega) (by rw [hjT]; exact hhit)
  rw [hjT, hp, hq] at this
  exact this
theorem RunI.pix {ph : Int} {M0 : Nat → Int} {b : Bd} (h : RunI ph M0 69888 b) (h0 : 0 ≤ ph) (h1 : ph ≤ 69887) {line cell a p q : Nat} (hl : line < 192) (hc : cell < 32) (ha : (a : Int) = 2 * (32 * line + cell)) (hp : (p : Int) = 16384 + (line : Int) / 64 * 2048 + line % 8 * 256 + line / 8 % 8 * 32 + cell) (hq : (q : Int) = 22528 + (line : Int) / 8 * 32 + cell) : b.seen a = b.M p ∧ b.seen (a + 1) = b.M q := by
  have l0 : (0 : Int) ≤ (line : Int) := Int.natCast_nonneg _
  have c0 : (0 : Int) ≤ (cell : Int) := Int.natCast_nonneg _
  have k0 := h.whole h0 h1 l0 (by omega) c0 (by omega) (.inl rfl)
  have k1 := h.whole h0 h1 l0 (by omega) c0 (by omega) (.inr rfl)
  rw [if_pos rfl] at k0
  rw [if_neg (by decide)] at k1
  unfold pixN at k0
  unfold colN at k1
  rw [show (2 * (32 * (line : Int) + cell) + 0).toNat = a by omega, show (16384 + (line : Int) / 64 * 2048 + line % 8 * 256 + line / 8 % 8 * 32 + cell).toNat = p by omega] at k0
  rw [show (2 * (32 * (line : Int) + cell) + 1).toNat = a + 1 by omega, show (22528 + 32 * ((line : Int) / 8) + cell).toNat = q by omega] at k1
  rw [h.M]
  exact ⟨k0, k1⟩
theorem RunI.start (ph : Int) (h0 : 0 ≤ ph) (h1 : ph ≤ 69887) (rz mz : List Int) : RunI ph (newB ph rz mz).M 0 (newB ph rz mz) := ⟨rfl, rfl, by show ph = _; omega, fun j hj _ => absurd hj (Nat.not_lt_zero _)⟩
theorem grown_below {w w' : World} {g B : Nat} (h : w.grownBy w' (some g)) (hB : B ≤ w.heap.size) (hg : B ≤ g) : Below B w w' :=
  (Ch.of_grown (φ := fun k => k = g) h (fun _ e => by cases e; rfl)).below hB (fun k e => by subst e; exact hg)
theorem new_low (f : Int) (v : Int) (mz : List Int) {i : Nat} (h : i < 16384) : (newB f (List.replicate 16384 v) mz).M i = v := by
  show layM (layM (fun _ => 0) 0 (List.replicate 16384 v)) 16384 mz i = v
  unfold layM
  rw [if_neg (by omega), if_pos (by rw [List.length_replicate]; omega), List.getD_eq_getElem?_getD, List.getElem?_replicate, if_pos (by omega)]
  rfl
end Go.Proofs.Ytfcnlgkaejkneaa
