/- Layer 24: a call of parts in an order, as a way goes through it: plain law. -/
import Derived.Test.YtnmapncgnceldaaWk16
namespace Go.Proofs.Ytnmapncgnceldaa
open Go.RowKit

def cl2 (x : Int) : Int := 2 + 2 * max 0 (min x 2)
theorem cl2_is (x : Int) : cl2 x = 2 ∨ cl2 x = 4 ∨ cl2 x = 6 := by unfold cl2; omega
def bsC (ts : List Int) : List WB := [⟨38, 0, 0, ts, []⟩, ⟨35, 0, 0, [7], []⟩, bX 18 0, bX 39 0, bX 19 0, bX 39 0, bX 20 0, bX 39 0, bX 21 0]
def bsJ : List WB := [⟨35, 0, 0, [0], []⟩]
theorem bsC_cases {P : WB → Nat → Prop} {ts : List Int} (h0 : P ⟨38, 0, 0, ts, []⟩ 0) (h1 : P ⟨35, 0, 0, [7], []⟩ 1) (h2 : P (bX 18 0) 2) (h3 : P (bX 39 0) 3) (h4 : P (bX 19 0) 4) (h5 : P (bX 39 0) 5) (h6 : P (bX 20 0) 6) (h7 : P (bX 39 0) 7) (h8 : P (bX 21 0) 8) (i : Nat) (hi : i < 9) : P ((bsC ts).getD i default) i := by
  obtain rfl | rfl | rfl | rfl | rfl | rfl | rfl | rfl | rfl : i = 0 ∨ i = 1 ∨ i = 2 ∨ i = 3 ∨ i = 4 ∨ i = 5 ∨ i = 6 ∨ i = 7 ∨ i = 8 := by omega
  · exact h0
  · exact h1
  · exact h2
  · exact h3
  · exact h4
  · exact h5
  · exact h6
  · exact h7
  · exact h8
def Parts (ts : List Int) : Prop := ts.length ≤ 40 ∧ ∀ d ∈ ts, d = 2 ∨ d = 4 ∨ d = 6
theorem bsC_fine {ts : List Int} (h : Parts ts) : Fine (bsC ts) := by
  refine ⟨by show 9 ≤ 60; decide, fun i hi => ?_⟩
  have hi9 : i < 9 := hi
  refine bsC_cases (P := fun b i => b.ts.length ≤ 60 ∧ (b.id = 35 → b.ts ≠ []) ∧ (b.id = 35 ∨ b.id = 38 → ∀ d ∈ b.ts, 0 ≤ (i : Int) + d ∧ (i : Int) + d < (9 : Nat)) ∧ b.ct ≤ 9223372036854775807) ?_ ?_ ?_ ?_ ?_ ?_ ?_ ?_ ?_ i hi9
  · exact ⟨by show ts.length ≤ 60; have := h.1; omega, fun h => absurd (show (38 : Int) = 35 from h) (by decide), fun _ d hd => by rcases h.2 d hd with rfl | rfl | rfl <;> decide, by show (0 : Int) ≤ _; decide⟩
  · exact ⟨by decide, fun _ => by simp, fun _ d hd => (by
      have h7 : d = 7 := by simpa using hd
      subst h7
      decide), by decide⟩
  all_goals exact ⟨by decide, fun h => absurd h (by decide), fun h => absurd h (by decide), by decide⟩
theorem bsC_lite {ts : List Int} (h : Parts ts) : Lite (bsC ts) := by
  refine ⟨by show 9 ≤ 60; decide, fun i hi => ?_⟩
  have hi9 : i < 9 := hi
  refine bsC_cases (P := fun b _ => b.ts.length ≤ 60 ∧ b.ns.length ≤ 60) ?_ ?_ ?_ ?_ ?_ ?_ ?_ ?_ ?_ i hi9
  · exact ⟨by show ts.length ≤ 60; have := h.1; omega, by show ([] : List Int).length ≤ 60; decide⟩
  all_goals exact ⟨by decide, by decide⟩
theorem bsC_empty (ts : List Int) : ¬ emptyJ (bsC ts) := by
  rintro ⟨i, hi, h1, h2⟩
  have hi9 : i < 9 := hi
  refine bsC_cases (P := fun b _ => b.id = 35 → b.ts = [] → False) ?_ ?_ ?_ ?_ ?_ ?_ ?_ ?_ ?_ i hi9 h1 h2
  · exact fun h => absurd (show (38 : Int) = 35 from h) (by decide)
  · exact fun _ h => absurd h (by simp)
  all_goals exact fun h => absurd h (by decide)
theorem bsC_sound {ts : List Int} (h : Parts ts) : (soundG (bsC ts) (bsC ts).length 0).2 = 0 := by
  rw [soundG_0 _ 0 fun i _ hi => ?_]
  have hi9 : i < 9 := by
    have h9 : i < 0 + (bsC ts).length := hi
    rw [Nat.zero_add] at h9
    exact h9
  have hp1 : pairB (bsC ts) 36 37 i = false := by
    obtain rfl | rfl | rfl | rfl | rfl | rfl | rfl | rfl | rfl : i = 0 ∨ i = 1 ∨ i = 2 ∨ i = 3 ∨ i = 4 ∨ i = 5 ∨ i = 6 ∨ i = 7 ∨ i = 8 := by omega
    all_goals rfl
  have hp2 : pairB (bsC ts) 33 34 i = false := by
    obtain rfl | rfl | rfl | rfl | rfl | rfl | rfl | rfl | rfl : i = 0 ∨ i = 1 ∨ i = 2 ∨ i = 3 ∨ i = 4 ∨ i = 5 ∨ i = 6 ∨ i = 7 ∨ i = 8 := by omega
    all_goals rfl
  have hfa : farB ((bsC ts).getD i default) i (bsC ts).length = false := by
    refine bsC_cases (P := fun b i => farB b i 9 = false) ?_ ?_ ?_ ?_ ?_ ?_ ?_ ?_ ?_ i hi9
    · show (ts.any fun x => decide (x < -((0 : Nat) : Int) ∨ ((9 : Nat) : Int) - ((0 : Nat) : Int) ≤ x)) = false
      rw [List.any_eq_false]
      intro x hx
      rcases h.2 x hx with rfl | rfl | rfl <;> decide
    all_goals decide
  unfold wrongB
  rw [hp1, hp2, hfa]
  rfl

/-- how the way stands behind part i of the order -/
def sC (ts : List Int) (i : Nat) : WS := { ws0 with con := true, cfrom := 0, cnext := i, at_ := ts.getD (i - 1) 0 + 1 }
def stC (ts : List Int) (i : Nat) : WS := if i = 0 then ws0 else sC ts i
/-- a part's tone, and its return -/
theorem part_at {ts : List Int} {d : Int} (h : d = 2 ∨ d = 4 ∨ d = 6) : toldK (atB (bsC ts) d) = 0 ∧ (atB (bsC ts) (d + 1)).id = 39 ∧ toldK (atB (bsC ts) (d + 1)) = 3 := by
  rcases h with rfl | rfl | rfl <;> exact ⟨rfl, rfl, rfl⟩
theorem nC_step {ts : List Int} {i : Nat} (hp : Parts ts) (hi : i < ts.length) : nextO (bsC ts) 2 (stC ts i) = some (⟨0, ts.getD i 0, 0⟩, stC ts (i + 1)) := by
  have hd := hp.2 (ts.getD i 0) (getD_mem hi)
  obtain ⟨k1, k2, k3⟩ := part_at (ts := ts) hd
  have hlt : ts.getD i 0 < ((bsC ts).length : Int) := by show _ < ((9 : Nat) : Int); omega
  have hlen : (0 : Nat) < ts.length := by omega
  by_cases hi0 : i = 0
  · subst hi0
    have h1 : leadS (bsC ts) (stC ts 0) = { ws0 with con := true, cfrom := 0, cnext := 1, at_ := ts.getD 0 0 } := by
      show (if 0 < ts.length then _ else _) = _
      rw [if_pos hlen]
      show ({ ws0 with con := true, cfrom := 0, cnext := 1, at_ := 0 + ts.getD 0 0 } : WS) = _
      rw [Int.zero_add]
    rw [nextO, if_pos (by show (0 : Int) < ((9 : Nat) : Int); decide), if_pos (by rfl), if_pos (by rfl), h1, nextO, if_pos hlt, if_neg (by rw [show ({ ws0 with con := true, cfrom := 0, cnext := 1, at_ := ts.getD 0 0 } : WS).at_ = ts.getD 0 0 from rfl, k1]; decide)]
    rw [show ({ ws0 with con := true, cfrom := 0, cnext := 1, at_ := ts.getD 0 0 } : WS).at_ = ts.getD 0 0 from rfl, k1]
    rfl
  · have hs : stC ts i = sC ts i := if_neg hi0
    have hp2 := hp.2 (ts.getD (i - 1) 0) (getD_mem (by omega))
    obtain ⟨m1, m2, m3⟩ := part_at (ts := ts) hp2
    have hat : (sC ts i).at_ = ts.getD (i - 1) 0 + 1 := rfl
    rw [hs]
    have hle : leadE (bsC ts) (sC ts i) = 0 := by
      unfold leadE
      rw [hat, m2]
      rfl
    have h1 : leadS (bsC ts) (sC ts i) = { ws0 with con := true, cfrom := 0, cnext := i + 1, at_ := ts.getD i 0 } := by
      unfold leadS
      rw [hat, m2, if_neg (by decide), if_neg (by decide), if_neg (by decide), if_neg (by decide), if_pos rfl]
      show (if (i : Int) < (ts.length : Int) then _ else _) = _
      rw [if_pos (by omega)]
      show ({ ws0 with con := true, cfrom := 0, cnext := (i : Int) + 1, at_ := 0 + ts.getD (i : Int).toNat 0 } : WS) = _
      rw [Int.zero_add, Int.toNat_natCast]
    rw [nextO, if_pos (by rw [hat]; show _ < ((9 : Nat) : Int); omega), if_pos (by rw [hat]; exact m3), if_pos hle, h1, nextO, if_pos hlt, if_neg (by rw [show ({ ws0 with con := true, cfrom := 0, cnext := (i : Int) + 1, at_ := ts.getD i 0 } : WS).at_ = ts.getD i 0 from rfl, k1]; decide)]
    rw [show ({ ws0 with con := true, cfrom := 0, cnext := (i : Int) + 1, at_ := ts.getD i 0 } : WS).at_ = ts.getD i 0 from rfl, k1]
    rfl
def sC8 : WS := { ws0 with tk := [1], at_ := 9 }
theorem nC_last {ts : List Int} (hp : Parts ts) : nextO (bsC ts) 3 (stC ts ts.length) = some (⟨0, 8, 0⟩, sC8) := by
  have tail : ∀ f, nextO (bsC ts) (f + 2) { ws0 with at_ := 1 } = some (⟨0, 8, 0⟩, sC8) := fun f => rfl
  by_cases h0 : ts.length = 0
  · have hts : ts = [] := List.length_eq_zero_iff.1 h0
    subst hts
    rfl
  · have hs : stC ts ts.length = sC ts ts.length := if_neg h0
    have hp2 := hp.2 (ts.getD (ts.length - 1) 0) (getD_mem (by omega))
    obtain ⟨m1, m2, m3⟩ := part_at (ts := ts) hp2
    have hat : (sC ts ts.length).at_ = ts.getD (ts.length - 1) 0 + 1 := rfl
    rw [hs]
    have hle : leadE (bsC ts) (sC ts ts.length) = 0 := by
      unfold leadE
      rw [hat, m2]
      rfl
    have h1 : leadS (bsC ts) (sC ts ts.length) = { ws0 with at_ := 1 } := by
      unfold leadS
      rw [hat, m2, if_neg (by decide), if_neg (by decide), if_neg (by decide), if_neg (by decide), if_pos rfl]
      show (if (ts.length : Int) < (ts.length : Int) then _ else _) = _
      rw [if_neg (by omega)]
      rfl
    rw [nextO, if_pos (by rw [hat]; show _ < ((9 : Nat) : Int); omega), if_pos (by rw [hat]; exact m3), if_pos hle, h1]
    exact tail 0
theorem nC_end (ts : List Int) : nextO (bsC ts) 1 sC8 = some (⟨3, 9, 0⟩, stayS sC8 3 9 0) := rfl
/-- a jump to itself -/
theorem bsJ_fine : Fine bsJ := by
  refine ⟨by decide, fun i hi => ?_⟩
  obtain rfl : i = 0 := by have : i < 1 := hi; omega
  exact ⟨by decide, fun _ => by decide, fun _ d hd => (by
    have h7 : d = 0 := by simpa [bsJ] using hd
    subst h7
    decide), by decide⟩
theorem bsJ_lite : Lite bsJ := by
  refine ⟨by decide, fun i hi => ?_⟩
  obtain rfl : i = 0 := by have : i < 1 := hi; omega
  exact ⟨by decide, by decide⟩
theorem bsJ_empty : ¬ emptyJ bsJ := by
  rintro ⟨i, hi, _, h⟩
  obtain rfl : i = 0 := by have : i < 1 := hi; omega
  exact absurd h (by decide)
theorem bsJ_sound : (soundG bsJ bsJ.length 0).2 = 0 := by kernel_rfl
theorem nJ : ∃ s', nextO bsJ 2 ws0 = some (⟨4, 0, 11⟩, s') := ⟨_, rfl⟩
end Go.Proofs.Ytnmapncgnceldaa
