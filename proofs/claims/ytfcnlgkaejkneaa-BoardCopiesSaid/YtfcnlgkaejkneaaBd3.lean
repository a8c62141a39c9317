/- Layer 11: one field of a board written; the document's board, by its cells. -/
import Derived.Test.YtfcnlgkaejkneaaBd2
namespace Go.Proofs.Ytfcnlgkaejkneaa
open Go.RowKit

section
variable {b : Bd} {A E : Value}
theorem set_slow (x : Bool) : (bdC b A E).setIfInBounds 65544 (.bool x) = bdC { b with slow := x } A E := by
  unfold bdC
  rw [cellsF_set]
  refine cellsF_congr fun i hi => ?_
  by_cases h2 : i < 65536
  · rw [if_neg (by omega), bd_M h2, bd_M h2]
  · by_cases h3 : i < 65544
    · obtain ⟨m, rfl⟩ : ∃ m, i = 65536 + m := ⟨i - 65536, by omega⟩
      rw [if_neg (by omega), bd_K (by omega), bd_K (by omega)]
    · by_cases h1 : i < 65554
      · obtain rfl | rfl | rfl | rfl | rfl | rfl | rfl | rfl | rfl | rfl : i = 65544 ∨ i = 65545 ∨ i = 65546 ∨ i = 65547 ∨ i = 65548 ∨ i = 65549 ∨ i = 65550 ∨ i = 65551 ∨ i = 65552 ∨ i = 65553 := by omega
        all_goals simp [bdAt]
      · obtain ⟨m, rfl⟩ : ∃ m, i = 65554 + m := ⟨i - 65554, by omega⟩
        rw [if_neg (by omega), bd_S, bd_S]
theorem set_ear (x : Bool) : (bdC b A E).setIfInBounds 65545 (.bool x) = bdC { b with ear := x } A E := by
  unfold bdC
  rw [cellsF_set]
  refine cellsF_congr fun i hi => ?_
  by_cases h2 : i < 65536
  · rw [if_neg (by omega), bd_M h2, bd_M h2]
  · by_cases h3 : i < 65544
    · obtain ⟨m, rfl⟩ : ∃ m, i = 65536 + m := ⟨i - 65536, by omega⟩
      rw [if_neg (by omega), bd_K (by omega), bd_K (by omega)]
    · by_cases h1 : i < 65554
      · obtain rfl | rfl | rfl | rfl | rfl | rfl | rfl | rfl | rfl | rfl : i = 65544 ∨ i = 65545 ∨ i = 65546 ∨ i = 65547 ∨ i = 65548 ∨ i = 65549 ∨ i = 65550 ∨ i = 65551 ∨ i = 65552 ∨ i = 65553 := by omega
        all_goals simp [bdAt]
      · obtain ⟨m, rfl⟩ : ∃ m, i = 65554 + m := ⟨i - 65554, by omega⟩
        rw [if_neg (by omega), bd_S, bd_S]
theorem set_log (x : Bool) : (bdC b A E).setIfInBounds 65546 (.bool x) = bdC { b with log := x } A E := by
  unfold bdC
  rw [cellsF_set]
  refine cellsF_congr fun i hi => ?_
  by_cases h2 : i < 65536
  · rw [if_neg (by omega), bd_M h2, bd_M h2]
  · by_cases h3 : i < 65544
    · obtain ⟨m, rfl⟩ : ∃ m, i = 65536 + m := ⟨i - 65536, by omega⟩
      rw [if_neg (by omega), bd_K (by omega), bd_K (by omega)]
    · by_cases h1 : i < 65554
      · obtain rfl | rfl | rfl | rfl | rfl | rfl | rfl | rfl | rfl | rfl : i = 65544 ∨ i = 65545 ∨ i = 65546 ∨ i = 65547 ∨ i = 65548 ∨ i = 65549 ∨ i = 65550 ∨ i = 65551 ∨ i = 65552 ∨ i = 65553 := by omega
        all_goals simp [bdAt]
      · obtain ⟨m, rfl⟩ : ∃ m, i = 65554 + m := ⟨i - 65554, by omega⟩
        rw [if_neg (by omega), bd_S, bd_S]
theorem set_t (x : Int) : (bdC b A E).setIfInBounds 65547 (.int .u64 x) = bdC { b with t := x } A E := by
  unfold bdC
  rw [cellsF_set]
  refine cellsF_congr fun i hi => ?_
  by_cases h2 : i < 65536
  · rw [if_neg (by omega), bd_M h2, bd_M h2]
  · by_cases h3 : i < 65544
    · obtain ⟨m, rfl⟩ : ∃ m, i = 65536 + m := ⟨i - 65536, by omega⟩
      rw [if_neg (by omega), bd_K (by omega), bd_K (by omega)]
    · by_cases h1 : i < 65554
      · obtain rfl | rfl | rfl | rfl | rfl | rfl | rfl | rfl | rfl | rfl : i = 65544 ∨ i = 65545 ∨ i = 65546 ∨ i = 65547 ∨ i = 65548 ∨ i = 65549 ∨ i = 65550 ∨ i = 65551 ∨ i = 65552 ∨ i = 65553 := by omega
        all_goals simp [bdAt]
      · obtain ⟨m, rfl⟩ : ∃ m, i = 65554 + m := ⟨i - 65554, by omega⟩
        rw [if_neg (by omega), bd_S, bd_S]
theorem set_fr (x : Int) : (bdC b A E).setIfInBounds 65548 (.int .i64 x) = bdC { b with fr := x } A E := by
  unfold bdC
  rw [cellsF_set]
  refine cellsF_congr fun i hi => ?_
  by_cases h2 : i < 65536
  · rw [if_neg (by omega), bd_M h2, bd_M h2]
  · by_cases h3 : i < 65544
    · obtain ⟨m, rfl⟩ : ∃ m, i = 65536 + m := ⟨i - 65536, by omega⟩
      rw [if_neg (by omega), bd_K (by omega), bd_K (by omega)]
    · by_cases h1 : i < 65554
      · obtain rfl | rfl | rfl | rfl | rfl | rfl | rfl | rfl | rfl | rfl : i = 65544 ∨ i = 65545 ∨ i = 65546 ∨ i = 65547 ∨ i = 65548 ∨ i = 65549 ∨ i = 65550 ∨ i = 65551 ∨ i = 65552 ∨ i = 65553 := by omega
        all_goals simp [bdAt]
      · obtain ⟨m, rfl⟩ : ∃ m, i = 65554 + m := ⟨i - 65554, by omega⟩
        rw [if_neg (by omega), bd_S, bd_S]
theorem set_bo (x : Int) : (bdC b A E).setIfInBounds 65549 (.int .u8 x) = bdC { b with bo := x } A E := by
  unfold bdC
  rw [cellsF_set]
  refine cellsF_congr fun i hi => ?_
  by_cases h2 : i < 65536
  · rw [if_neg (by omega), bd_M h2, bd_M h2]
  · by_cases h3 : i < 65544
    · obtain ⟨m, rfl⟩ : ∃ m, i = 65536 + m := ⟨i - 65536, by omega⟩
      rw [if_neg (by omega), bd_K (by omega), bd_K (by omega)]
    · by_cases h1 : i < 65554
      · obtain rfl | rfl | rfl | rfl | rfl | rfl | rfl | rfl | rfl | rfl : i = 65544 ∨ i = 65545 ∨ i = 65546 ∨ i = 65547 ∨ i = 65548 ∨ i = 65549 ∨ i = 65550 ∨ i = 65551 ∨ i = 65552 ∨ i = 65553 := by omega
        all_goals simp [bdAt]
      · obtain ⟨m, rfl⟩ : ∃ m, i = 65554 + m := ⟨i - 65554, by omega⟩
        rw [if_neg (by omega), bd_S, bd_S]
theorem set_mic (x : Bool) : (bdC b A E).setIfInBounds 65550 (.bool x) = bdC { b with mic := x } A E := by
  unfold bdC
  rw [cellsF_set]
  refine cellsF_congr fun i hi => ?_
  by_cases h2 : i < 65536
  · rw [if_neg (by omega), bd_M h2, bd_M h2]
  · by_cases h3 : i < 65544
    · obtain ⟨m, rfl⟩ : ∃ m, i = 65536 + m := ⟨i - 65536, by omega⟩
      rw [if_neg (by omega), bd_K (by omega), bd_K (by omega)]
    · by_cases h1 : i < 65554
      · obtain rfl | rfl | rfl | rfl | rfl | rfl | rfl | rfl | rfl | rfl : i = 65544 ∨ i = 65545 ∨ i = 65546 ∨ i = 65547 ∨ i = 65548 ∨ i = 65549 ∨ i = 65550 ∨ i = 65551 ∨ i = 65552 ∨ i = 65553 := by omega
        all_goals simp [bdAt]
      · obtain ⟨m, rfl⟩ : ∃ m, i = 65554 + m := ⟨i - 65554, by omega⟩
        rw [if_neg (by omega), bd_S, bd_S]
theorem set_spk (x : Bool) : (bdC b A E).setIfInBounds 65551 (.bool x) = bdC { b with spk := x } A E := by
  unfold bdC
  rw [cellsF_set]
  refine cellsF_congr fun i hi => ?_
  by_cases h2 : i < 65536
  · rw [if_neg (by omega), bd_M h2, bd_M h2]
  · by_cases h3 : i < 65544
    · obtain ⟨m, rfl⟩ : ∃ m, i = 65536 + m := ⟨i - 65536, by omega⟩
      rw [if_neg (by omega), bd_K (by omega), bd_K (by omega)]
    · by_cases h1 : i < 65554
      · obtain rfl | rfl | rfl | rfl | rfl | rfl | rfl | rfl | rfl | rfl : i = 65544 ∨ i = 65545 ∨ i = 65546 ∨ i = 65547 ∨ i = 65548 ∨ i = 65549 ∨ i = 65550 ∨ i = 65551 ∨ i = 65552 ∨ i = 65553 := by omega
        all_goals simp [bdAt]
      · obtain ⟨m, rfl⟩ : ∃ m, i = 65554 + m := ⟨i - 65554, by omega⟩
        rw [if_neg (by omega), bd_S, bd_S]
theorem set_A (x : Value) : (bdC b A E).setIfInBounds 65552 x = bdC b x E := by
  unfold bdC
  rw [cellsF_set]
  refine cellsF_congr fun i hi => ?_
  by_cases h2 : i < 65536
  · rw [if_neg (by omega), bd_M h2, bd_M h2]
  · by_cases h3 : i < 65544
    · obtain ⟨m, rfl⟩ : ∃ m, i = 65536 + m := ⟨i - 65536, by omega⟩
      rw [if_neg (by omega), bd_K (by omega), bd_K (by omega)]
    · by_cases h1 : i < 65554
      · obtain rfl | rfl | rfl | rfl | rfl | rfl | rfl | rfl | rfl | rfl : i = 65544 ∨ i = 65545 ∨ i = 65546 ∨ i = 65547 ∨ i = 65548 ∨ i = 65549 ∨ i = 65550 ∨ i = 65551 ∨ i = 65552 ∨ i = 65553 := by omega
        all_goals simp [bdAt]
      · obtain ⟨m, rfl⟩ : ∃ m, i = 65554 + m := ⟨i - 65554, by omega⟩
        rw [if_neg (by omega), bd_S, bd_S]
theorem set_E (x : Value) : (bdC b A E).setIfInBounds 65553 x = bdC b A x := by
  unfold bdC
  rw [cellsF_set]
  refine cellsF_congr fun i hi => ?_
  by_cases h2 : i < 65536
  · rw [if_neg (by omega), bd_M h2, bd_M h2]
  · by_cases h3 : i < 65544
    · obtain ⟨m, rfl⟩ : ∃ m, i = 65536 + m := ⟨i - 65536, by omega⟩
      rw [if_neg (by omega), bd_K (by omega), bd_K (by omega)]
    · by_cases h1 : i < 65554
      · obtain rfl | rfl | rfl | rfl | rfl | rfl | rfl | rfl | rfl | rfl : i = 65544 ∨ i = 65545 ∨ i = 65546 ∨ i = 65547 ∨ i = 65548 ∨ i = 65549 ∨ i = 65550 ∨ i = 65551 ∨ i = 65552 ∨ i = 65553 := by omega
        all_goals simp [bdAt]
      · obtain ⟨m, rfl⟩ : ∃ m, i = 65554 + m := ⟨i - 65554, by omega⟩
        rw [if_neg (by omega), bd_S, bd_S]
theorem set_K (j : Nat) (h : j < 8) (x : Int) : (bdC b A E).setIfInBounds (65536 + j) (.int .u8 x) = bdC { b with K := fun k => if k = j then x else b.K k } A E := by
  unfold bdC
  rw [cellsF_set]
  refine cellsF_congr fun i hi => ?_
  by_cases h2 : i < 65536
  · rw [if_neg (by omega), bd_M h2, bd_M h2]
  · by_cases h3 : i < 65544
    · obtain ⟨m, rfl⟩ : ∃ m, i = 65536 + m := ⟨i - 65536, by omega⟩
      rw [bd_K (by omega), bd_K (by omega)]
      by_cases hm : m = j
      · rw [if_pos (by omega)]; simp [hm]
      · rw [if_neg (by omega)]; simp [hm]
    · by_cases h1 : i < 65554
      · obtain rfl | rfl | rfl | rfl | rfl | rfl | rfl | rfl | rfl | rfl : i = 65544 ∨ i = 65545 ∨ i = 65546 ∨ i = 65547 ∨ i = 65548 ∨ i = 65549 ∨ i = 65550 ∨ i = 65551 ∨ i = 65552 ∨ i = 65553 := by omega
        all_goals (rw [if_neg (by omega)]; simp [bdAt])
      · obtain ⟨m, rfl⟩ : ∃ m, i = 65554 + m := ⟨i - 65554, by omega⟩
        rw [if_neg (by omega), bd_S, bd_S]
end
/-- the document's board, cell by cell -/
def dcAt (b : Bd) (ph : Int) (D A E : Value) (i : Nat) : Value :=
  if i = 0 then .bool false
  else if i < 65537 then .int .u8 (b.M (i - 1))
  else if i = 65537 then .int .u64 b.t
  else if i = 65538 then .slice none 0 0
  else if i = 65539 then .bool false
  else if i = 65540 then .int .i64 ph
  else if i = 65541 then .bool b.slow
  else if i = 65542 then .bool b.log
  else if i = 65543 then D
  else if i = 65544 then .bool b.ear
  else if i = 65545 then .slice none 0 0
  else if i = 65546 then .int .i64 0
  else if i = 65547 then .int .u8 b.bo
  else if i = 65548 then .bool b.mic
  else if i = 65549 then .bool b.spk
  else if i = 65550 then A
  else if i = 65551 then E
  else if i < 77840 then .int .u8 (b.seen (i - 65552))
  else if i = 77840 then .int .u64 0
  else .slice none 0 0
def dcC (b : Bd) (ph : Int) (D A E : Value) : Array Value := cellsF (dcAt b ph D A E) 77842
section
variable {b : Bd} {ph : Int} {D A E : Value}
theorem dc_flat : dcAt b ph D A E 0 = .bool false := if_pos rfl
theorem dc_M {i : Nat} (h : i < 65536) : dcAt b ph D A E (i + 1) = .int .u8 (b.M i) := by
  unfold dcAt
  rw [if_neg (by omega), if_pos (by omega), Nat.add_sub_cancel]
theorem dc_S {j : Nat} (h : j < 12288) : dcAt b ph D A E (65552 + j) = .int .u8 (b.seen j) := by
  unfold dcAt
  rw [if_neg (by omega), if_neg (by omega), if_neg (by omega), if_neg (by omega), if_neg (by omega), if_neg (by omega), if_neg (by omega), if_neg (by omega), if_neg (by omega), if_neg (by omega), if_neg (by omega), if_neg (by omega), if_neg (by omega), if_neg (by omega), if_neg (by omega), if_neg (by omega), if_neg (by omega), if_pos (by omega), Nat.add_sub_cancel_left]
theorem dc_limit : dcAt b ph D A E 77840 = .int .u64 0 := by simp [dcAt]
theorem dc_keys : dcAt b ph D A E 77841 = .slice none 0 0 := by simp [dcAt]
theorem dc_t : dcAt b ph D A E 65537 = .int .u64 b.t := by simp [dcAt]
theorem dc_ports : dcAt b ph D A E 65538 = .slice none 0 0 := by simp [dcAt]
theorem dc_line : dcAt b ph D A E 65539 = .bool false := by simp [dcAt]
theorem dc_ph : dcAt b ph D A E 65540 = .int .i64 ph := by simp [dcAt]
theorem dc_slow : dcAt b ph D A E 65541 = .bool b.slow := by simp [dcAt]
theorem dc_log : dcAt b ph D A E 65542 = .bool b.log := by simp [dcAt]
theorem dc_D : dcAt b ph D A E 65543 = D := by simp [dcAt]
theorem dc_first : dcAt b ph D A E 65544 = .bool b.ear := by simp [dcAt]
theorem dc_ear : dcAt b ph D A E 65545 = .slice none 0 0 := by simp [dcAt]
theorem dc_at : dcAt b ph D A E 65546 = .int .i64 0 := by simp [dcAt]
theorem dc_bo : dcAt b ph D A E 65547 = .int .u8 b.bo := by simp [dcAt]
theorem dc_mic : dcAt b ph D A E 65548 = .bool b.mic := by simp [dcAt]
theorem dc_spk : dcAt b ph D A E 65549 = .bool b.spk := by simp [dcAt]
theorem dc_A : dcAt b ph D A E 65550 = A := by simp [dcAt]
theorem dc_E : dcAt b ph D A E 65551 = E := by simp [dcAt]
theorem dset_t (x : Int) : (dcC b ph D A E).setIfInBounds 65537 (.int .u64 x) = dcC { b with t := x } ph D A E := by
  unfold dcC
  rw [cellsF_set]
  refine cellsF_congr fun i hi => ?_
  by_cases h0 : i = 0
  · rw [h0, dc_flat, dc_flat, if_neg (by omega)]
  · by_cases h2 : i < 65537
    · obtain ⟨m, rfl⟩ : ∃ m, i = m + 1 := ⟨i - 1, by omega⟩
      rw [if_neg (by omega), dc_M (by omega), dc_M (by omega)]
    · by_cases h1 : i < 65552
      · obtain rfl | rfl | rfl | rfl | rfl | rfl | rfl | rfl | rfl | rfl | rfl | rfl | rfl | rfl | rfl : i = 65537 ∨ i = 65538 ∨ i = 65539 ∨ i = 65540 ∨ i = 65541 ∨ i = 65542 ∨ i = 65543 ∨ i = 65544 ∨ i = 65545 ∨ i = 65546 ∨ i = 65547 ∨ i = 65548 ∨ i = 65549 ∨ i = 65550 ∨ i = 65551 := by omega
        all_goals simp [dcAt]
      · by_cases h3 : i < 77840
        · obtain ⟨m, rfl⟩ : ∃ m, i = 65552 + m := ⟨i - 65552, by omega⟩
          rw [if_neg (by omega), dc_S (by omega), dc_S (by omega)]
        · by_cases h4 : i = 77840
          · rw [h4, dc_limit, dc_limit, if_neg (by omega)]
          · obtain rfl : i = 77841 := by omega
            rw [dc_keys, dc_keys, if_neg (by omega)]
theorem dset_slow (x : Bool) : (dcC b ph D A E).setIfInBounds 65541 (.bool x) = dcC { b with slow := x } ph D A E := by
  unfold dcC
  rw [cellsF_set]
  refine cellsF_congr fun i hi => ?_
  by_cases h0 : i = 0
  · rw [h0, dc_flat, dc_flat, if_neg (by omega)]
  · by_cases h2 : i < 65537
    · obtain ⟨m, rfl⟩ : ∃ m, i = m + 1 := ⟨i - 1, by omega⟩
      rw [if_neg (by omega), dc_M (by omega), dc_M (by omega)]
    · by_cases h1 : i < 65552
      · obtain rfl | rfl | rfl | rfl | rfl | rfl | rfl | rfl | rfl | rfl | rfl | rfl | rfl | rfl | rfl : i = 65537 ∨ i = 65538 ∨ i = 65539 ∨ i = 65540 ∨ i = 65541 ∨ i = 65542 ∨ i = 65543 ∨ i = 65544 ∨ i = 65545 ∨ i = 65546 ∨ i = 65547 ∨ i = 65548 ∨ i = 65549 ∨ i = 65550 ∨ i = 65551 := by omega
        all_goals simp [dcAt]
      · by_cases h3 : i < 77840
        · obtain ⟨m, rfl⟩ : ∃ m, i = 65552 + m := ⟨i - 65552, by omega⟩
          rw [if_neg (by omega), dc_S (by omega), dc_S (by omega)]
        · by_cases h4 : i = 77840
          · rw [h4, dc_limit, dc_limit, if_neg (by omega)]
          · obtain rfl : i = 77841 := by omega
            rw [dc_keys, dc_keys, if_neg (by omega)]
theorem dset_log (x : Bool) : (dcC b ph D A E).setIfInBounds 65542 (.bool x) = dcC { b with log := x } ph D A E := by
  unfold dcC
  rw [cellsF_set]
  refine cellsF_congr fun i hi => ?_
  by_cases h0 : i = 0
  · rw [h0, dc_flat, dc_flat, if_neg (by omega)]
  · by_cases h2 : i < 65537
    · obtain ⟨m, rfl⟩ : ∃ m, i = m + 1 := ⟨i - 1, by omega⟩
      rw [if_neg (by omega), dc_M (by omega), dc_M (by omega)]
    · by_cases h1 : i < 65552
      · obtain rfl | rfl | rfl | rfl | rfl | rfl | rfl | rfl | rfl | rfl | rfl | rfl | rfl | rfl | rfl : i = 65537 ∨ i = 65538 ∨ i = 65539 ∨ i = 65540 ∨ i = 65541 ∨ i = 65542 ∨ i = 65543 ∨ i = 65544 ∨ i = 65545 ∨ i = 65546 ∨ i = 65547 ∨ i = 65548 ∨ i = 65549 ∨ i = 65550 ∨ i = 65551 := by omega
        all_goals simp [dcAt]
      · by_cases h3 : i < 77840
        · obtain ⟨m, rfl⟩ : ∃ m, i = 65552 + m := ⟨i - 65552, by omega⟩
          rw [if_neg (by omega), dc_S (by omega), dc_S (by omega)]
        · by_cases h4 : i = 77840
          · rw [h4, dc_limit, dc_limit, if_neg (by omega)]
          · obtain rfl : i = 77841 := by omega
            rw [dc_keys, dc_keys, if_neg (by omega)]
theorem dset_D (x : Value) : (dcC b ph D A E).setIfInBounds 65543 (x) = dcC b ph x A E := by
  unfold dcC
  rw [cellsF_set]
  refine cellsF_congr fun i hi => ?_
  by_cases h0 : i = 0
  · rw [h0, dc_flat, dc_flat, if_neg (by omega)]
  · by_cases h2 : i < 65537
    · obtain ⟨m, rfl⟩ : ∃ m, i = m + 1 := ⟨i - 1, by omega⟩
      rw [if_neg (by omega), dc_M (by omega), dc_M (by omega)]
    · by_cases h1 : i < 65552
      · obtain rfl | rfl | rfl | rfl | rfl | rfl | rfl | rfl | rfl | rfl | rfl | rfl | rfl | rfl | rfl : i = 65537 ∨ i = 65538 ∨ i = 65539 ∨ i = 65540 ∨ i = 65541 ∨ i = 65542 ∨ i = 65543 ∨ i = 65544 ∨ i = 65545 ∨ i = 65546 ∨ i = 65547 ∨ i = 65548 ∨ i = 65549 ∨ i = 65550 ∨ i = 65551 := by omega
        all_goals simp [dcAt]
      · by_cases h3 : i < 77840
        · obtain ⟨m, rfl⟩ : ∃ m, i = 65552 + m := ⟨i - 65552, by omega⟩
          rw [if_neg (by omega), dc_S (by omega), dc_S (by omega)]
        · by_cases h4 : i = 77840
          · rw [h4, dc_limit, dc_limit, if_neg (by omega)]
          · obtain rfl : i = 77841 := by omega
            rw [dc_keys, dc_keys, if_neg (by omega)]
theorem dset_first (x : Bool) : (dcC b ph D A E).setIfInBounds 65544 (.bool x) = dcC { b with ear := x } ph D A E := by
  unfold dcC
  rw [cellsF_set]
  refine cellsF_congr fun i hi => ?_
  by_cases h0 : i = 0
  · rw [h0, dc_flat, dc_flat, if_neg (by omega)]
  · by_cases h2 : i < 65537
    · obtain ⟨m, rfl⟩ : ∃ m, i = m + 1 := ⟨i - 1, by omega⟩
      rw [if_neg (by omega), dc_M (by omega), dc_M (by omega)]
    · by_cases h1 : i < 65552
      · obtain rfl | rfl | rfl | rfl | rfl | rfl | rfl | rfl | rfl | rfl | rfl | rfl | rfl | rfl | rfl : i = 65537 ∨ i = 65538 ∨ i = 65539 ∨ i = 65540 ∨ i = 65541 ∨ i = 65542 ∨ i = 65543 ∨ i = 65544 ∨ i = 65545 ∨ i = 65546 ∨ i = 65547 ∨ i = 65548 ∨ i = 65549 ∨ i = 65550 ∨ i = 65551 := by omega
        all_goals simp [dcAt]
      · by_cases h3 : i < 77840
        · obtain ⟨m, rfl⟩ : ∃ m, i = 65552 + m := ⟨i - 65552, by omega⟩
          rw [if_neg (by omega), dc_S (by omega), dc_S (by omega)]
        · by_cases h4 : i = 77840
          · rw [h4, dc_limit, dc_limit, if_neg (by omega)]
          · obtain rfl : i = 77841 := by omega
            rw [dc_keys, dc_keys, if_neg (by omega)]
theorem dset_bo (x : Int) : (dcC b ph D A E).setIfInBounds 65547 (.int .u8 x) = dcC { b with bo := x } ph D A E := by
  unfold dcC
  rw [cellsF_set]
  refine cellsF_congr fun i hi => ?_
  by_cases h0 : i = 0
  · rw [h0, dc_flat, dc_flat, if_neg (by omega)]
  · by_cases h2 : i < 65537
    · obtain ⟨m, rfl⟩ : ∃ m, i = m + 1 := ⟨i - 1, by omega⟩
      rw [if_neg (by omega), dc_M (by omega), dc_M (by omega)]
    · by_cases h1 : i < 65552
      · obtain rfl | rfl | rfl | rfl | rfl | rfl | rfl | rfl | rfl | rfl | rfl | rfl | rfl | rfl | rfl : i = 65537 ∨ i = 65538 ∨ i = 65539 ∨ i = 65540 ∨ i = 65541 ∨ i = 65542 ∨ i = 65543 ∨ i = 65544 ∨ i = 65545 ∨ i = 65546 ∨ i = 65547 ∨ i = 65548 ∨ i = 65549 ∨ i = 65550 ∨ i = 65551 := by omega
        all_goals simp [dcAt]
      · by_cases h3 : i < 77840
        · obtain ⟨m, rfl⟩ : ∃ m, i = 65552 + m := ⟨i - 65552, by omega⟩
          rw [if_neg (by omega), dc_S (by omega), dc_S (by omega)]
        · by_cases h4 : i = 77840
          · rw [h4, dc_limit, dc_limit, if_neg (by omega)]
          · obtain rfl : i = 77841 := by omega
            rw [dc_keys, dc_keys, if_neg (by omega)]
theorem dset_mic (x : Bool) : (dcC b ph D A E).setIfInBounds 65548 (.bool x) = dcC { b with mic := x } ph D A E := by
  unfold dcC
  rw [cellsF_set]
  refine cellsF_congr fun i hi => ?_
  by_cases h0 : i = 0
  · rw [h0, dc_flat, dc_flat, if_neg (by omega)]
  · by_cases h2 : i < 65537
    · obtain ⟨m, rfl⟩ : ∃ m, i = m + 1 := ⟨i - 1, by omega⟩
      rw [if_neg (by omega), dc_M (by omega), dc_M (by omega)]
    · by_cases h1 : i < 65552
      · obtain rfl | rfl | rfl | rfl | rfl | rfl | rfl | rfl | rfl | rfl | rfl | rfl | rfl | rfl | rfl : i = 65537 ∨ i = 65538 ∨ i = 65539 ∨ i = 65540 ∨ i = 65541 ∨ i = 65542 ∨ i = 65543 ∨ i = 65544 ∨ i = 65545 ∨ i = 65546 ∨ i = 65547 ∨ i = 65548 ∨ i = 65549 ∨ i = 65550 ∨ i = 65551 := by omega
        all_goals simp [dcAt]
      · by_cases h3 : i < 77840
        · obtain ⟨m, rfl⟩ : ∃ m, i = 65552 + m := ⟨i - 65552, by omega⟩
          rw [if_neg (by omega), dc_S (by omega), dc_S (by omega)]
        · by_cases h4 : i = 77840
          · rw [h4, dc_limit, dc_limit, if_neg (by omega)]
          · obtain rfl : i = 77841 := by omega
            rw [dc_keys, dc_keys, if_neg (by omega)]
theorem dset_spk (x : Bool) : (dcC b ph D A E).setIfInBounds 65549 (.bool x) = dcC { b with spk := x } ph D A E := by
  unfold dcC
  rw [cellsF_set]
  refine cellsF_congr fun i hi => ?_
  by_cases h0 : i = 0
  · rw [h0, dc_flat, dc_flat, if_neg (by omega)]
  · by_cases h2 : i < 65537
    · obtain ⟨m, rfl⟩ : ∃ m, i = m + 1 := ⟨i - 1, by omega⟩
      rw [if_neg (by omega), dc_M (by omega), dc_M (by omega)]
    · by_cases h1 : i < 65552
      · obtain rfl | rfl | rfl | rfl | rfl | rfl | rfl | rfl | rfl | rfl | rfl | rfl | rfl | rfl | rfl : i = 65537 ∨ i = 65538 ∨ i = 65539 ∨ i = 65540 ∨ i = 65541 ∨ i = 65542 ∨ i = 65543 ∨ i = 65544 ∨ i = 65545 ∨ i = 65546 ∨ i = 65547 ∨ i = 65548 ∨ i = 65549 ∨ i = 65550 ∨ i = 65551 := by omega
        all_goals simp [dcAt]
      · by_cases h3 : i < 77840
        · obtain ⟨m, rfl⟩ : ∃ m, i = 65552 + m := ⟨i - 65552, by omega⟩
          rw [if_neg (by omega), dc_S (by omega), dc_S (by omega)]
        · by_cases h4 : i = 77840
          · rw [h4, dc_limit, dc_limit, if_neg (by omega)]
          · obtain rfl : i = 77841 := by omega
            rw [dc_keys, dc_keys, if_neg (by omega)]
theorem dset_A (x : Value) : (dcC b ph D A E).setIfInBounds 65550 (x) = dcC b ph D x E := by
  unfold dcC
  rw [cellsF_set]
  refine cellsF_congr fun i hi => ?_
  by_cases h0 : i = 0
  · rw [h0, dc_flat, dc_flat, if_neg (by omega)]
  · by_cases h2 : i < 65537
    · obtain ⟨m, rfl⟩ : ∃ m, i = m + 1 := ⟨i - 1, by omega⟩
      rw [if_neg (by omega), dc_M (by omega), dc_M (by omega)]
    · by_cases h1 : i < 65552
      · obtain rfl | rfl | rfl | rfl | rfl | rfl | rfl | rfl | rfl | rfl | rfl | rfl | rfl | rfl | rfl : i = 65537 ∨ i = 65538 ∨ i = 65539 ∨ i = 65540 ∨ i = 65541 ∨ i = 65542 ∨ i = 65543 ∨ i = 65544 ∨ i = 65545 ∨ i = 65546 ∨ i = 65547 ∨ i = 65548 ∨ i = 65549 ∨ i = 65550 ∨ i = 65551 := by omega
        all_goals simp [dcAt]
      · by_cases h3 : i < 77840
        · obtain ⟨m, rfl⟩ : ∃ m, i = 65552 + m := ⟨i - 65552, by omega⟩
          rw [if_neg (by omega), dc_S (by omega), dc_S (by omega)]
        · by_cases h4 : i = 77840
          · rw [h4, dc_limit, dc_limit, if_neg (by omega)]
          · obtain rfl : i = 77841 := by omega
            rw [dc_keys, dc_keys, if_neg (by omega)]
theorem dset_E (x : Value) : (dcC b ph D A E).setIfInBounds 65551 (x) = dcC b ph D A x := by
  unfold dcC
  rw [cellsF_set]
  refine cellsF_congr fun i hi => ?_
  by_cases h0 : i = 0
  · rw [h0, dc_flat, dc_flat, if_neg (by omega)]
  · by_cases h2 : i < 65537
    · obtain ⟨m, rfl⟩ : ∃ m, i = m + 1 := ⟨i - 1, by omega⟩
      rw [if_neg (by omega), dc_M (by omega), dc_M (by omega)]
    · by_cases h1 : i < 65552
      · obtain rfl | rfl | rfl | rfl | rfl | rfl | rfl | rfl | rfl | rfl | rfl | rfl | rfl | rfl | rfl : i = 65537 ∨ i = 65538 ∨ i = 65539 ∨ i = 65540 ∨ i = 65541 ∨ i = 65542 ∨ i = 65543 ∨ i = 65544 ∨ i = 65545 ∨ i = 65546 ∨ i = 65547 ∨ i = 65548 ∨ i = 65549 ∨ i = 65550 ∨ i = 65551 := by omega
        all_goals simp [dcAt]
      · by_cases h3 : i < 77840
        · obtain ⟨m, rfl⟩ : ∃ m, i = 65552 + m := ⟨i - 65552, by omega⟩
          rw [if_neg (by omega), dc_S (by omega), dc_S (by omega)]
        · by_cases h4 : i = 77840
          · rw [h4, dc_limit, dc_limit, if_neg (by omega)]
          · obtain rfl : i = 77841 := by omega
            rw [dc_keys, dc_keys, if_neg (by omega)]
theorem dset_ph (x : Int) : (dcC b ph D A E).setIfInBounds 65540 (.int .i64 x) = dcC b x D A E := by
  unfold dcC
  rw [cellsF_set]
  refine cellsF_congr fun i hi => ?_
  by_cases h0 : i = 0
  · rw [h0, dc_flat, dc_flat, if_neg (by omega)]
  · by_cases h2 : i < 65537
    · obtain ⟨m, rfl⟩ : ∃ m, i = m + 1 := ⟨i - 1, by omega⟩
      rw [if_neg (by omega), dc_M (by omega), dc_M (by omega)]
    · by_cases h1 : i < 65552
      · obtain rfl | rfl | rfl | rfl | rfl | rfl | rfl | rfl | rfl | rfl | rfl | rfl | rfl | rfl | rfl : i = 65537 ∨ i = 65538 ∨ i = 65539 ∨ i = 65540 ∨ i = 65541 ∨ i = 65542 ∨ i = 65543 ∨ i = 65544 ∨ i = 65545 ∨ i = 65546 ∨ i = 65547 ∨ i = 65548 ∨ i = 65549 ∨ i = 65550 ∨ i = 65551 := by omega
        all_goals simp [dcAt]
      · by_cases h3 : i < 77840
        · obtain ⟨m, rfl⟩ : ∃ m, i = 65552 + m := ⟨i - 65552, by omega⟩
          rw [if_neg (by omega), dc_S (by omega), dc_S (by omega)]
        · by_cases h4 : i = 77840
          · rw [h4, dc_limit, dc_limit, if_neg (by omega)]
          · obtain rfl : i = 77841 := by omega
            rw [dc_keys, dc_keys, if_neg (by omega)]
theorem dset_M (a : Nat) (h : a < 65536) (x : Int) : (dcC b ph D A E).setIfInBounds (a + 1) (.int .u8 x) = dcC { b with M := fun k => if k = a then x else b.M k } ph D A E := by
  unfold dcC
  rw [cellsF_set]
  refine cellsF_congr fun i hi => ?_
  by_cases h0 : i = 0
  · rw [h0, dc_flat, dc_flat, if_neg (by omega)]
  · by_cases h2 : i < 65537
    · obtain ⟨m, rfl⟩ : ∃ m, i = m + 1 := ⟨i - 1, by omega⟩
      rw [dc_M (by omega), dc_M (by omega)]
      by_cases hm : m = a
      · rw [if_pos (by omega)]; simp [hm]
      · rw [if_neg (by omega)]; simp [hm]
    · by_cases h1 : i < 65552
      · obtain rfl | rfl | rfl | rfl | rfl | rfl | rfl | rfl | rfl | rfl | rfl | rfl | rfl | rfl | rfl : i = 65537 ∨ i = 65538 ∨ i = 65539 ∨ i = 65540 ∨ i = 65541 ∨ i = 65542 ∨ i = 65543 ∨ i = 65544 ∨ i = 65545 ∨ i = 65546 ∨ i = 65547 ∨ i = 65548 ∨ i = 65549 ∨ i = 65550 ∨ i = 65551 := by omega
        all_goals (rw [if_neg (by omega)]; simp [dcAt])
      · by_cases h3 : i < 77840
        · obtain ⟨m, rfl⟩ : ∃ m, i = 65552 + m := ⟨i - 65552, by omega⟩
          rw [if_neg (by omega), dc_S (by omega), dc_S (by omega)]
        · by_cases h4 : i = 77840
          · rw [h4, dc_limit, dc_limit, if_neg (by omega)]
          · obtain rfl : i = 77841 := by omega
            rw [dc_keys, dc_keys, if_neg (by omega)]
theorem dset_S (j : Nat) (h : j < 12288) (x : Int) : (dcC b ph D A E).setIfInBounds (65552 + j) (.int .u8 x) = dcC { b with seen := fun k => if k = j then x else b.seen k } ph D A E := by
  unfold dcC
  rw [cellsF_set]
  refine cellsF_congr fun i hi => ?_
  by_cases h0 : i = 0
  · rw [h0, dc_flat, dc_flat, if_neg (by omega)]
  · by_cases h2 : i < 65537
    · obtain ⟨m, rfl⟩ : ∃ m, i = m + 1 := ⟨i - 1, by omega⟩
      rw [if_neg (by omega), dc_M (by omega), dc_M (by omega)]
    · by_cases h1 : i < 65552
      · obtain rfl | rfl | rfl | rfl | rfl | rfl | rfl | rfl | rfl | rfl | rfl | rfl | rfl | rfl | rfl : i = 65537 ∨ i = 65538 ∨ i = 65539 ∨ i = 65540 ∨ i = 65541 ∨ i = 65542 ∨ i = 65543 ∨ i = 65544 ∨ i = 65545 ∨ i = 65546 ∨ i = 65547 ∨ i = 65548 ∨ i = 65549 ∨ i = 65550 ∨ i = 65551 := by omega
        all_goals (rw [if_neg (by omega)]; simp [dcAt])
      · by_cases h3 : i < 77840
        · obtain ⟨m, rfl⟩ : ∃ m, i = 65552 + m := ⟨i - 65552, by omega⟩
          rw [dc_S (by omega), dc_S (by omega)]
          by_cases hm : m = j
          · rw [if_pos (by omega)]; simp [hm]
          · rw [if_neg (by omega)]; simp [hm]
        · by_cases h4 : i = 77840
          · rw [h4, dc_limit, dc_limit, if_neg (by omega)]
          · obtain rfl : i = 77841 := by omega
            rw [dc_keys, dc_keys, if_neg (by omega)]
end
def dcRuns : List (Nat × Value) := [(1, .bool false), (65536, .int .u8 0), (1, .int .u64 0), (1, .slice none 0 0), (1, .bool false), (1, .int .i64 0), (2, .bool false), (1, .slice none 0 0), (1, .bool false), (1, .slice none 0 0), (1, .int .i64 0), (1, .int .u8 0), (2, .bool false), (2, .slice none 0 0), (12288, .int .u8 0), (1, .int .u64 0), (1, .slice none 0 0)]
theorem dc0_cells : (flat dcRuns).toArray = dcC bd0 0 (.slice none 0 0) (.slice none 0 0) (.slice none 0 0) := by
  rw [flat_cells]
  have hl : runLen dcRuns = 77842 := by simp only [dcRuns, runLen]
  rw [hl]
  refine cellsF_congr fun i hi => ?_
  by_cases h0 : i = 0
  · rw [h0, dc_flat]; simp [dcRuns, runAt]
  · by_cases h2 : i < 65537
    · obtain ⟨m, rfl⟩ : ∃ m, i = m + 1 := ⟨i - 1, by omega⟩
      rw [dc_M (by omega)]
      simp only [dcRuns, runAt, bd0]
      rw [if_neg (by omega), if_pos (by omega)]
    · by_cases h1 : i < 65552
      · obtain rfl | rfl | rfl | rfl | rfl | rfl | rfl | rfl | rfl | rfl | rfl | rfl | rfl | rfl | rfl : i = 65537 ∨ i = 65538 ∨ i = 65539 ∨ i = 65540 ∨ i = 65541 ∨ i = 65542 ∨ i = 65543 ∨ i = 65544 ∨ i = 65545 ∨ i = 65546 ∨ i = 65547 ∨ i = 65548 ∨ i = 65549 ∨ i = 65550 ∨ i = 65551 := by omega
        all_goals simp [dcRuns, runAt, dcAt, bd0]
      · by_cases h3 : i < 77840
        · obtain ⟨m, rfl⟩ : ∃ m, i = 65552 + m := ⟨i - 65552, by omega⟩
          rw [dc_S (by omega)]
          simp only [dcRuns, runAt, bd0]
          rw [if_neg (by omega), if_neg (by omega), if_neg (by omega), if_neg (by omega), if_neg (by omega), if_neg (by omega), if_neg (by omega), if_neg (by omega), if_neg (by omega), if_neg (by omega), if_neg (by omega), if_neg (by omega), if_neg (by omega), if_neg (by omega), if_pos (by omega)]
        · by_cases h4 : i = 77840
          · rw [h4, dc_limit]; simp [dcRuns, runAt]
          · obtain rfl : i = 77841 := by omega
            rw [dc_keys]; simp [dcRuns, runAt]
set_option maxRecDepth 100000 in
theorem dcZero : (Try.prog.info? 59).map (fun i => (i.zero, i.size)) = some (some (.agg (flat dcRuns).toArray), 77842) := zeroRuns_is (by kernel_rfl)
end Go.Proofs.Ytfcnlgkaejkneaa
