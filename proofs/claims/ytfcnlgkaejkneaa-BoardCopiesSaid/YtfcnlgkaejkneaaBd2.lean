/- Layer 11: a board's cells as functions of their places; one cell read, one cell written. -/
import Derived.Test.YtfcnlgkaejkneaaBd1
import Derived.Test.YtfcnlgkaejkneaaBox
namespace Go.Proofs.Ytfcnlgkaejkneaa
open Go.RowKit

/-- how a board stands -/
structure Bd where
  M : Nat → Int
  K : Nat → Int
  slow : Bool
  ear : Bool
  log : Bool
  t : Int
  fr : Int
  bo : Int
  mic : Bool
  spk : Bool
  seen : Nat → Int
def bdAt (b : Bd) (A E : Value) (i : Nat) : Value :=
  if i < 65536 then .int .u8 (b.M i)
  else if i < 65544 then .int .u8 (b.K (i - 65536))
  else if i = 65544 then .bool b.slow
  else if i = 65545 then .bool b.ear
  else if i = 65546 then .bool b.log
  else if i = 65547 then .int .u64 b.t
  else if i = 65548 then .int .i64 b.fr
  else if i = 65549 then .int .u8 b.bo
  else if i = 65550 then .bool b.mic
  else if i = 65551 then .bool b.spk
  else if i = 65552 then A
  else if i = 65553 then E
  else .int .u8 (b.seen (i - 65554))
/-- a row of so many cells, by their places -/
def cellsF (f : Nat → Value) (n : Nat) : Array Value := ((List.range n).map f).toArray
theorem cellsF_size (f : Nat → Value) (n : Nat) : (cellsF f n).size = n := by simp [cellsF]
theorem cellsF_at (f : Nat → Value) {n i : Nat} (h : i < n) : (cellsF f n)[i]? = some (f i) := by simp [cellsF, h]
theorem cellsF_congr {f g : Nat → Value} {n : Nat} (h : ∀ i, i < n → f i = g i) : cellsF f n = cellsF g n := by
  unfold cellsF
  congr 1
  apply List.map_congr_left
  intro i hi
  exact h i (List.mem_range.1 hi)
theorem cellsF_set (f : Nat → Value) (n j : Nat) (v : Value) : (cellsF f n).setIfInBounds j v = cellsF (fun i => if i = j then v else f i) n := by
  apply Array.ext
  · simp [cellsF]
  · intro k h1 h2
    simp only [cellsF, List.size_toArray, List.length_map, List.length_range] at h2
    rw [Array.getElem_setIfInBounds (by simpa [cellsF] using h2)]
    simp only [cellsF, List.getElem_toArray, List.getElem_map, List.getElem_range]
    by_cases e : k = j
    · rw [if_pos e.symm, if_pos e]
    · rw [if_neg (fun h => e h.symm), if_neg e]
theorem cellsF_one {f : Nat → Value} {n : Nat} (h : ∀ i, i < n → (f i).oneCell' = true) : (cellsF f n).all (·.oneCell') = true := by
  unfold cellsF
  rw [List.all_toArray, List.all_eq_true]
  intro v hv
  obtain ⟨i, hi, rfl⟩ := List.mem_map.1 hv
  exact h i (List.mem_range.1 hi)
theorem flat_cons (n : Nat) (v : Value) (r : List (Nat × Value)) : flat ((n, v) :: r) = List.replicate n v ++ flat r := rfl
/-- runs as a row by places -/
def runAt : List (Nat × Value) → Nat → Value
  | [], _ => .bool false
  | (n, v) :: r, i => if i < n then v else runAt r (i - n)
def runLen : List (Nat × Value) → Nat
  | [] => 0
  | (n, _) :: r => n + runLen r
theorem flat_at : ∀ (l : List (Nat × Value)) (i : Nat), i < runLen l → (flat l)[i]? = some (runAt l i)
  | [], i, h => absurd h (by simp [runLen])
  | (n, v) :: r, i, h => by
    rw [flat_cons]
    unfold runAt
    by_cases hi : i < n
    · rw [if_pos hi, List.getElem?_append_left (by simpa using hi)]
      simp [hi]
    · rw [if_neg hi, List.getElem?_append_right (by simpa using hi), List.length_replicate]
      exact flat_at r (i - n) (by simp only [runLen] at h; omega)
theorem flat_len : ∀ (l : List (Nat × Value)), (flat l).length = runLen l
  | [] => rfl
  | (n, v) :: r => by rw [flat_cons, List.length_append, List.length_replicate, flat_len r]; rfl
theorem flat_cells (l : List (Nat × Value)) : (flat l).toArray = cellsF (runAt l) (runLen l) := by
  unfold cellsF
  congr 1
  apply List.ext_getElem?
  intro i
  by_cases h : i < runLen l
  · rw [flat_at l i h]
    simp [h]
  · rw [List.getElem?_eq_none (by rw [flat_len]; omega), List.getElem?_eq_none (by simpa using (by omega : runLen l ≤ i))]

def bdC (b : Bd) (A E : Value) : Array Value := cellsF (bdAt b A E) 77842
def bd0 : Bd := ⟨fun _ => 0, fun _ => 0, false, false, false, 0, 0, 0, false, false, fun _ => 0⟩
theorem bd0_cells : (flat bdRuns).toArray = bdC bd0 (.slice none 0 0) (.slice none 0 0) := by
  rw [flat_cells]
  have hl : runLen bdRuns = 77842 := by simp only [bdRuns, runLen]
  rw [hl]
  refine cellsF_congr fun i hi => ?_
  simp only [bdRuns, runAt, bdAt, bd0]
  by_cases h1 : i < 65536
  · rw [if_pos (by omega), if_pos h1]
  · rw [if_neg h1]
    by_cases h2 : i < 65544
    · rw [if_pos h2, if_pos h2]
    · rw [if_neg h2, if_neg h2]
      by_cases h3 : i < 65554
      · obtain rfl | rfl | rfl | rfl | rfl | rfl | rfl | rfl | rfl | rfl : i = 65544 ∨ i = 65545 ∨ i = 65546 ∨ i = 65547 ∨ i = 65548 ∨ i = 65549 ∨ i = 65550 ∨ i = 65551 ∨ i = 65552 ∨ i = 65553 := by omega
        all_goals simp
      · rw [if_neg (by omega), if_neg (by omega), if_neg (by omega), if_neg (by omega), if_neg (by omega), if_neg (by omega), if_pos (by omega), if_neg (by omega), if_neg (by omega), if_neg (by omega), if_neg (by omega), if_neg (by omega), if_neg (by omega), if_neg (by omega), if_neg (by omega), if_neg (by omega), if_neg (by omega)]

section
variable {b : Bd} {A E : Value}
theorem bd_M {i : Nat} (h : i < 65536) : bdAt b A E i = .int .u8 (b.M i) := if_pos h
theorem bd_K {j : Nat} (h : j < 8) : bdAt b A E (65536 + j) = .int .u8 (b.K j) := by
  unfold bdAt
  rw [if_neg (by omega), if_pos (by omega), Nat.add_sub_cancel_left]
theorem bd_S {j : Nat} : bdAt b A E (65554 + j) = .int .u8 (b.seen j) := by
  unfold bdAt
  rw [if_neg (by omega), if_neg (by omega), if_neg (by omega), if_neg (by omega), if_neg (by omega), if_neg (by omega), if_neg (by omega), if_neg (by omega), if_neg (by omega), if_neg (by omega), if_neg (by omega), if_neg (by omega), Nat.add_sub_cancel_left]
theorem bd_slow : bdAt b A E 65544 = .bool b.slow := by simp [bdAt]
theorem bd_ear : bdAt b A E 65545 = .bool b.ear := by simp [bdAt]
theorem bd_log : bdAt b A E 65546 = .bool b.log := by simp [bdAt]
theorem bd_t : bdAt b A E 65547 = .int .u64 b.t := by simp [bdAt]
theorem bd_fr : bdAt b A E 65548 = .int .i64 b.fr := by simp [bdAt]
theorem bd_bo : bdAt b A E 65549 = .int .u8 b.bo := by simp [bdAt]
theorem bd_mic : bdAt b A E 65550 = .bool b.mic := by simp [bdAt]
theorem bd_spk : bdAt b A E 65551 = .bool b.spk := by simp [bdAt]
theorem bd_A : bdAt b A E 65552 = A := by simp [bdAt]
theorem bd_E : bdAt b A E 65553 = E := by simp [bdAt]
theorem set_M (a : Nat) (h : a < 65536) (x : Int) : (bdC b A E).setIfInBounds a (.int .u8 x) = bdC { b with M := fun k => if k = a then x else b.M k } A E := by
  unfold bdC
  rw [cellsF_set]
  refine cellsF_congr fun i hi => ?_
  by_cases e : i = a
  · rw [if_pos e, e, bd_M h]
    simp
  · rw [if_neg e]
    unfold bdAt
    by_cases h1 : i < 65536
    · rw [if_pos h1, if_pos h1]
      simp [e]
    · rw [if_neg h1, if_neg h1]
theorem set_S (j : Nat) (h : j < 12288) (x : Int) : (bdC b A E).setIfInBounds (65554 + j) (.int .u8 x) = bdC { b with seen := fun k => if k = j then x else b.seen k } A E := by
  unfold bdC
  rw [cellsF_set]
  refine cellsF_congr fun i hi => ?_
  by_cases e : i = 65554 + j
  · rw [if_pos e, e, bd_S]
    simp
  · rw [if_neg e]
    by_cases h1 : i < 65554
    · unfold bdAt
      by_cases h2 : i < 65536
      · rw [if_pos h2, if_pos h2]
      · by_cases h3 : i < 65544
        · rw [if_neg h2, if_neg h2, if_pos h3, if_pos h3]
        · obtain rfl | rfl | rfl | rfl | rfl | rfl | rfl | rfl | rfl | rfl : i = 65544 ∨ i = 65545 ∨ i = 65546 ∨ i = 65547 ∨ i = 65548 ∨ i = 65549 ∨ i = 65550 ∨ i = 65551 ∨ i = 65552 ∨ i = 65553 := by omega
          all_goals simp
    · obtain ⟨m, rfl⟩ : ∃ m, i = 65554 + m := ⟨i - 65554, by omega⟩
      rw [bd_S, bd_S]
      have hm : ¬ m = j := by omega
      simp [hm]
end
end Go.Proofs.Ytfcnlgkaejkneaa
