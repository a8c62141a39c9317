/- Contracts of layer 4: the program's turns, tests and halves. -/
import Derived.Test.YtfollcgedcjgoaaFlag
import Derived.Test.YtfollcgedcjgoaaP04
namespace Go.Proofs.Ytfollcgedcjgoaa
open Go.RowKit

theorem half_of {b : Int} (b0 : 0 ≤ b) (b1 : b ≤ 255) : b / 128 * 128 = b2i (bitH b 0) * 128 := by rw [top_is b0 b1]
theorem low_up {b : Int} (b0 : 0 ≤ b) (b1 : b ≤ 255) : bits .and .u8 b 1 * 128 % 256 = b2i (bitH b 7) * 128 := by
  rw [low_is b0 b1]; cases bitH b 7 <;> rfl
theorem turned_0 (b f : Int) (w : World) (b0 : 0 ≤ b) (b1 : b ≤ 255) (f0 : 0 ≤ f) (f1 : f ≤ 255) :
    Calls Try.prog 25 #[.int .i64 0, .int .u8 b, .int .u8 f] w fun e w' => e = .returned (.tuple #[.int .u8 (turnR 0 b (bitH f 7)), .int .u8 (b2i (turnC 0 b))]) ∧ w = w' := by
  have e0 : (b / 128) = b2i (bitH b 0) := by rw [top_is b0 b1]
  have e1 := Lib.hid (show bits .or .u8 (b * 2 % 256) (b / 128) = turnR 0 b (bitH f 7) by rw [e0, up_num _ b0 b1, turnR_up _ _ (by decide)]; rfl)
  have e2 := Lib.hid (show b / 128 = b2i (turnC 0 b) from (top_is b0 b1).trans (by unfold turnC; rw [if_pos (by decide)]))
  clear e0
  go_enter Try.func25, Try.ntmps25
  go_wp2
  go_ret2
  exact ⟨ret_two e1.out e2.out, rfl⟩
theorem turned_1 (b f : Int) (w : World) (b0 : 0 ≤ b) (b1 : b ≤ 255) (f0 : 0 ≤ f) (f1 : f ≤ 255) :
    Calls Try.prog 25 #[.int .i64 1, .int .u8 b, .int .u8 f] w fun e w' => e = .returned (.tuple #[.int .u8 (turnR 1 b (bitH f 7)), .int .u8 (b2i (turnC 1 b))]) ∧ w = w' := by
  have e0 : (bits .and .u8 b 1 * 128 % 256) = b2i (bitH b 7) * 128 := by rw [low_up b0 b1]
  have e1 := Lib.hid (show bits .or .u8 (b / 2) (bits .and .u8 b 1 * 128 % 256) = turnR 1 b (bitH f 7) by rw [e0, down_num _ b0 b1, turnR_down _ _ (by decide)]; rfl)
  have e2 := Lib.hid (show bits .and .u8 b 1 = b2i (turnC 1 b) from (low_is b0 b1).trans (by unfold turnC; rw [if_neg (by decide)]))
  clear e0
  go_enter Try.func25, Try.ntmps25
  go_wp2
  go_ret2
  exact ⟨ret_two e1.out e2.out, rfl⟩
theorem turned_2 (b f : Int) (w : World) (b0 : 0 ≤ b) (b1 : b ≤ 255) (f0 : 0 ≤ f) (f1 : f ≤ 255) :
    Calls Try.prog 25 #[.int .i64 2, .int .u8 b, .int .u8 f] w fun e w' => e = .returned (.tuple #[.int .u8 (turnR 2 b (bitH f 7)), .int .u8 (b2i (turnC 2 b))]) ∧ w = w' := by
  have e0 : (bits .and .u8 f 1) = b2i (bitH f 7) := by rw [low_is f0 f1]
  have e1 := Lib.hid (show bits .or .u8 (b * 2 % 256) (bits .and .u8 f 1) = turnR 2 b (bitH f 7) by rw [e0, up_num _ b0 b1, turnR_up _ _ (by decide)]; rfl)
  have e2 := Lib.hid (show b / 128 = b2i (turnC 2 b) from (top_is b0 b1).trans (by unfold turnC; rw [if_pos (by decide)]))
  clear e0
  go_enter Try.func25, Try.ntmps25
  go_wp2
  go_ret2
  exact ⟨ret_two e1.out e2.out, rfl⟩
theorem turned_3 (b f : Int) (w : World) (b0 : 0 ≤ b) (b1 : b ≤ 255) (f0 : 0 ≤ f) (f1 : f ≤ 255) :
    Calls Try.prog 25 #[.int .i64 3, .int .u8 b, .int .u8 f] w fun e w' => e = .returned (.tuple #[.int .u8 (turnR 3 b (bitH f 7)), .int .u8 (b2i (turnC 3 b))]) ∧ w = w' := by
  have e0 : (bits .and .u8 f 1 * 128 % 256) = b2i (bitH f 7) * 128 := by rw [low_up f0 f1]
  have e1 := Lib.hid (show bits .or .u8 (b / 2) (bits .and .u8 f 1 * 128 % 256) = turnR 3 b (bitH f 7) by rw [e0, down_num _ b0 b1, turnR_down _ _ (by decide)]; rfl)
  have e2 := Lib.hid (show bits .and .u8 b 1 = b2i (turnC 3 b) from (low_is b0 b1).trans (by unfold turnC; rw [if_neg (by decide)]))
  clear e0
  go_enter Try.func25, Try.ntmps25
  go_wp2
  go_ret2
  exact ⟨ret_two e1.out e2.out, rfl⟩
theorem turned_4 (b f : Int) (w : World) (b0 : 0 ≤ b) (b1 : b ≤ 255) (f0 : 0 ≤ f) (f1 : f ≤ 255) :
    Calls Try.prog 25 #[.int .i64 4, .int .u8 b, .int .u8 f] w fun e w' => e = .returned (.tuple #[.int .u8 (turnR 4 b (bitH f 7)), .int .u8 (b2i (turnC 4 b))]) ∧ w = w' := by
  have e0 : 0 = b2i (false) := rfl
  have e1 := Lib.hid (show bits .or .u8 (b * 2 % 256) 0 = turnR 4 b (bitH f 7) by rw [e0, up_num _ b0 b1, turnR_up _ _ (by decide)]; rfl)
  have e2 := Lib.hid (show b / 128 = b2i (turnC 4 b) from (top_is b0 b1).trans (by unfold turnC; rw [if_pos (by decide)]))
  clear e0
  go_enter Try.func25, Try.ntmps25
  go_wp2
  go_ret2
  exact ⟨ret_two e1.out e2.out, rfl⟩
theorem turned_5 (b f : Int) (w : World) (b0 : 0 ≤ b) (b1 : b ≤ 255) (f0 : 0 ≤ f) (f1 : f ≤ 255) :
    Calls Try.prog 25 #[.int .i64 5, .int .u8 b, .int .u8 f] w fun e w' => e = .returned (.tuple #[.int .u8 (turnR 5 b (bitH f 7)), .int .u8 (b2i (turnC 5 b))]) ∧ w = w' := by
  have e0 : (b / 128 * 128) = b2i (bitH b 0) * 128 := by rw [half_of b0 b1]
  have e1 := Lib.hid (show bits .or .u8 (b / 2) (b / 128 * 128) = turnR 5 b (bitH f 7) by rw [e0, down_num _ b0 b1, turnR_down _ _ (by decide)]; rfl)
  have e2 := Lib.hid (show bits .and .u8 b 1 = b2i (turnC 5 b) from (low_is b0 b1).trans (by unfold turnC; rw [if_neg (by decide)]))
  clear e0
  go_enter Try.func25, Try.ntmps25
  go_wp2
  go_ret2
  exact ⟨ret_two e1.out e2.out, rfl⟩
theorem turned_6 (b f : Int) (w : World) (b0 : 0 ≤ b) (b1 : b ≤ 255) (f0 : 0 ≤ f) (f1 : f ≤ 255) :
    Calls Try.prog 25 #[.int .i64 6, .int .u8 b, .int .u8 f] w fun e w' => e = .returned (.tuple #[.int .u8 (turnR 6 b (bitH f 7)), .int .u8 (b2i (turnC 6 b))]) ∧ w = w' := by
  have e0 : 1 = b2i (true) := rfl
  have e1 := Lib.hid (show bits .or .u8 (b * 2 % 256) 1 = turnR 6 b (bitH f 7) by rw [e0, up_num _ b0 b1, turnR_up _ _ (by decide)]; rfl)
  have e2 := Lib.hid (show b / 128 = b2i (turnC 6 b) from (top_is b0 b1).trans (by unfold turnC; rw [if_pos (by decide)]))
  clear e0
  go_enter Try.func25, Try.ntmps25
  go_wp2
  go_ret2
  exact ⟨ret_two e1.out e2.out, rfl⟩
theorem turned_7 (b f : Int) (w : World) (b0 : 0 ≤ b) (b1 : b ≤ 255) (f0 : 0 ≤ f) (f1 : f ≤ 255) :
    Calls Try.prog 25 #[.int .i64 7, .int .u8 b, .int .u8 f] w fun e w' => e = .returned (.tuple #[.int .u8 (turnR 7 b (bitH f 7)), .int .u8 (b2i (turnC 7 b))]) ∧ w = w' := by
  have e0 : 0 = b2i (false) * 128 := rfl
  have e1 := Lib.hid (show bits .or .u8 (b / 2) 0 = turnR 7 b (bitH f 7) by rw [e0, down_num _ b0 b1, turnR_down _ _ (by decide)]; rfl)
  have e2 := Lib.hid (show bits .and .u8 b 1 = b2i (turnC 7 b) from (low_is b0 b1).trans (by unfold turnC; rw [if_neg (by decide)]))
  clear e0
  go_enter Try.func25, Try.ntmps25
  go_wp2
  go_ret2
  exact ⟨ret_two e1.out e2.out, rfl⟩
theorem turned_any (k b f : Int) (w : World) (k0 : 0 ≤ k) (k1 : k ≤ 7) (b0 : 0 ≤ b) (b1 : b ≤ 255) (f0 : 0 ≤ f) (f1 : f ≤ 255) :
    Calls Try.prog 25 #[.int .i64 k, .int .u8 b, .int .u8 f] w fun e w' => e = .returned (.tuple #[.int .u8 (turnR k b (bitH f 7)), .int .u8 (b2i (turnC k b))]) ∧ w = w' := by
  rcases (show k = 0 ∨ k = 1 ∨ k = 2 ∨ k = 3 ∨ k = 4 ∨ k = 5 ∨ k = 6 ∨ k = 7 by omega) with rfl | rfl | rfl | rfl | rfl | rfl | rfl | rfl
  · exact turned_0 b f w b0 b1 f0 f1
  · exact turned_1 b f w b0 b1 f0 f1
  · exact turned_2 b f w b0 b1 f0 f1
  · exact turned_3 b f w b0 b1 f0 f1
  · exact turned_4 b f w b0 b1 f0 f1
  · exact turned_5 b f w b0 b1 f0 f1
  · exact turned_6 b f w b0 b1 f0 f1
  · exact turned_7 b f w b0 b1 f0 f1

def doTR (k b f : Int) : Int := if 0 ≤ k ∧ k ≤ 7 then turnR k b (bitH f 7) else b
def doTF (k b f : Int) : Int := if 0 ≤ k ∧ k ≤ 7 then turnF (turnR k b (bitH f 7)) (turnC k b) else f
def accR (k b f : Int) : Int := if 0 ≤ k ∧ k ≤ 3 then turnR k b (bitH f 7) else b
def accT (k b f : Int) : Int := if 0 ≤ k ∧ k ≤ 3 then accF f (turnR k b (bitH f 7)) (turnC k b) else f
theorem doT_any (k b f : Int) (w : World) (k0 : -9223372036854775808 ≤ k) (k1 : k ≤ 9223372036854775807) (b0 : 0 ≤ b) (b1 : b ≤ 255) (f0 : 0 ≤ f) (f1 : f ≤ 255) :
    Calls Try.prog 12 #[.int .i64 k, .int .u8 b, .int .u8 f] w fun e w' => e = .returned (.tuple #[.int .u8 (doTR k b f), .int .u8 (doTF k b f)]) ∧ w = w' := by
  unfold doTR doTF
  by_cases h1 : k < 0
  · rw [if_neg (by omega), if_neg (by omega)]
    go_enter Try.func12, Try.ntmps12
    go_wp2
    go_ret2
    exact ⟨rfl, rfl⟩
  · by_cases h2 : 7 < k
    · rw [if_neg (by omega), if_neg (by omega)]
      go_enter Try.func12, Try.ntmps12
      go_wp2
      go_ret2
      exact ⟨rfl, rfl⟩
    · rw [if_pos (by omega), if_pos (by omega)]
      have ht := turned_any k b f w (by omega) (by omega) b0 b1 f0 f1
      obtain ⟨r0, r1⟩ := turnR_bd k b (bitH f 7)
      generalize turnR k b (bitH f 7) = R at *
      have e := Lib.hid (turn_fin R (turnC k b))
      go_enter Try.func12, Try.ntmps12
      go_wp2_with fail
      refine ht.mono ?_
      rintro e w' ⟨rfl, rfl⟩
      go_wp2_with fail
      refine (ofP_any _ _ r0 r1).mono ?_
      rintro e w' ⟨rfl, rfl⟩
      go_wp2
      go_ret2
      exact ⟨ret_two rfl e.out, rfl⟩
theorem acc_any (k b f : Int) (w : World) (k0 : -9223372036854775808 ≤ k) (k1 : k ≤ 9223372036854775807) (b0 : 0 ≤ b) (b1 : b ≤ 255) (f0 : 0 ≤ f) (f1 : f ≤ 255) :
    Calls Try.prog 13 #[.int .i64 k, .int .u8 b, .int .u8 f] w fun e w' => e = .returned (.tuple #[.int .u8 (accR k b f), .int .u8 (accT k b f)]) ∧ w = w' := by
  unfold accR accT
  by_cases h1 : k < 0
  · rw [if_neg (by omega), if_neg (by omega)]
    go_enter Try.func13, Try.ntmps13
    go_wp2
    go_ret2
    exact ⟨rfl, rfl⟩
  · by_cases h2 : 3 < k
    · rw [if_neg (by omega), if_neg (by omega)]
      go_enter Try.func13, Try.ntmps13
      go_wp2
      go_ret2
      exact ⟨rfl, rfl⟩
    · rw [if_pos (by omega), if_pos (by omega)]
      have ht := turned_any k b f w (by omega) (by omega) b0 b1 f0 f1
      obtain ⟨r0, r1⟩ := turnR_bd k b (bitH f 7)
      generalize turnR k b (bitH f 7) = R at *
      have e := Lib.hid (acc_fin (turnC k b) f0 f1 r0 r1)
      go_enter Try.func13, Try.ntmps13
      go_wp2_with fail
      refine ht.mono ?_
      rintro e w' ⟨rfl, rfl⟩
      go_wp2
      go_ret2
      exact ⟨ret_two rfl e.out, rfl⟩

theorem there_any (n : Int) (w : World) (n0 : -9223372036854775808 ≤ n) (n1 : n ≤ 9223372036854775807) :
    Calls Try.prog 28 #[.int .i64 n] w fun e w' => e = .returned (.bool (decide (0 ≤ n) && decide (n ≤ 7))) ∧ w = w' := by
  by_cases h1 : 0 ≤ n <;> by_cases h2 : n ≤ 7
  all_goals
    go_enter Try.func28, Try.ntmps28
    go_wp2
    go_ret
    exact ⟨ret_bool (by simp [h1, h2]), rfl⟩
theorem there_no {n : Int} (w : World) (n0 : -9223372036854775808 ≤ n) (n1 : n ≤ 9223372036854775807) (h : n < 0 ∨ 7 < n) :
    Calls Try.prog 28 #[.int .i64 n] w fun e w' => e = .returned (.bool false) ∧ w = w' := by
  have := there_any n w n0 n1
  rw [← Bool.decide_and, decide_eq_false (by omega)] at this
  exact this
theorem set_0 (b : Int) (w : World) (b0 : 0 ≤ b) (b1 : b ≤ 255) :
    Calls Try.prog 18 #[.int .i64 0, .int .u8 b] w fun e w' => e = .returned (.int .u8 (putR 0 b true)) ∧ w = w' := by
  have e1 := Lib.hid (show bits .or .u8 b 1 = putR 0 b true from set_num (n := 0) (by omega) b0 b1)
  go_enter Try.func18, Try.ntmps18
  go_wp2_with fail
  refine (there_any 0 _ (by omega) (by omega)).mono ?_
  rintro e w' ⟨rfl, rfl⟩
  go_wp2
  go_ret
  exact ⟨ret_int e1.out, rfl⟩
theorem res_0 (b : Int) (w : World) (b0 : 0 ≤ b) (b1 : b ≤ 255) :
    Calls Try.prog 20 #[.int .i64 0, .int .u8 b] w fun e w' => e = .returned (.int .u8 (putR 0 b false)) ∧ w = w' := by
  have e1 := Lib.hid (show bits .andNot .u8 b 1 = putR 0 b false from res_num (n := 0) (by omega) b0 b1)
  go_enter Try.func20, Try.ntmps20
  go_wp2_with fail
  refine (there_any 0 _ (by omega) (by omega)).mono ?_
  rintro e w' ⟨rfl, rfl⟩
  go_wp2
  go_ret
  exact ⟨ret_int e1.out, rfl⟩
theorem set_1 (b : Int) (w : World) (b0 : 0 ≤ b) (b1 : b ≤ 255) :
    Calls Try.prog 18 #[.int .i64 1, .int .u8 b] w fun e w' => e = .returned (.int .u8 (putR 1 b true)) ∧ w = w' := by
  have e1 := Lib.hid (show bits .or .u8 b 2 = putR 1 b true from set_num (n := 1) (by omega) b0 b1)
  go_enter Try.func18, Try.ntmps18
  go_wp2_with fail
  refine (there_any 1 _ (by omega) (by omega)).mono ?_
  rintro e w' ⟨rfl, rfl⟩
  go_wp2
  go_ret
  exact ⟨ret_int e1.out, rfl⟩
theorem res_1 (b : Int) (w : World) (b0 : 0 ≤ b) (b1 : b ≤ 255) :
    Calls Try.prog 20 #[.int .i64 1, .int .u8 b] w fun e w' => e = .returned (.int .u8 (putR 1 b false)) ∧ w = w' := by
  have e1 := Lib.hid (show bits .andNot .u8 b 2 = putR 1 b false from res_num (n := 1) (by omega) b0 b1)
  go_enter Try.func20, Try.ntmps20
  go_wp2_with fail
  refine (there_any 1 _ (by omega) (by omega)).mono ?_
  rintro e w' ⟨rfl, rfl⟩
  go_wp2
  go_ret
  exact ⟨ret_int e1.out, rfl⟩
theorem set_2 (b : Int) (w : World) (b0 : 0 ≤ b) (b1 : b ≤ 255) :
    Calls Try.prog 18 #[.int .i64 2, .int .u8 b] w fun e w' => e = .returned (.int .u8 (putR 2 b true)) ∧ w = w' := by
  have e1 := Lib.hid (show bits .or .u8 b 4 = putR 2 b true from set_num (n := 2) (by omega) b0 b1)
  go_enter Try.func18, Try.ntmps18
  go_wp2_with fail
  refine (there_any 2 _ (by omega) (by omega)).mono ?_
  rintro e w' ⟨rfl, rfl⟩
  go_wp2
  go_ret
  exact ⟨ret_int e1.out, rfl⟩
theorem res_2 (b : Int) (w : World) (b0 : 0 ≤ b) (b1 : b ≤ 255) :
    Calls Try.prog 20 #[.int .i64 2, .int .u8 b] w fun e w' => e = .returned (.int .u8 (putR 2 b false)) ∧ w = w' := by
  have e1 := Lib.hid (show bits .andNot .u8 b 4 = putR 2 b false from res_num (n := 2) (by omega) b0 b1)
  go_enter Try.func20, Try.ntmps20
  go_wp2_with fail
  refine (there_any 2 _ (by omega) (by omega)).mono ?_
  rintro e w' ⟨rfl, rfl⟩
  go_wp2
  go_ret
  exact ⟨ret_int e1.out, rfl⟩
theorem set_3 (b : Int) (w : World) (b0 : 0 ≤ b) (b1 : b ≤ 255) :
    Calls Try.prog 18 #[.int .i64 3, .int .u8 b] w fun e w' => e = .returned (.int .u8 (putR 3 b true)) ∧ w = w' := by
  have e1 := Lib.hid (show bits .or .u8 b 8 = putR 3 b true from set_num (n := 3) (by omega) b0 b1)
  go_enter Try.func18, Try.ntmps18
  go_wp2_with fail
  refine (there_any 3 _ (by omega) (by omega)).mono ?_
  rintro e w' ⟨rfl, rfl⟩
  go_wp2
  go_ret
  exact ⟨ret_int e1.out, rfl⟩
theorem res_3 (b : Int) (w : World) (b0 : 0 ≤ b) (b1 : b ≤ 255) :
    Calls Try.prog 20 #[.int .i64 3, .int .u8 b] w fun e w' => e = .returned (.int .u8 (putR 3 b false)) ∧ w = w' := by
  have e1 := Lib.hid (show bits .andNot .u8 b 8 = putR 3 b false from res_num (n := 3) (by omega) b0 b1)
  go_enter Try.func20, Try.ntmps20
  go_wp2_with fail
  refine (there_any 3 _ (by omega) (by omega)).mono ?_
  rintro e w' ⟨rfl, rfl⟩
  go_wp2
  go_ret
  exact ⟨ret_int e1.out, rfl⟩
theorem set_4 (b : Int) (w : World) (b0 : 0 ≤ b) (b1 : b ≤ 255) :
    Calls Try.prog 18 #[.int .i64 4, .int .u8 b] w fun e w' => e = .returned (.int .u8 (putR 4 b true)) ∧ w = w' := by
  have e1 := Lib.hid (show bits .or .u8 b 16 = putR 4 b true from set_num (n := 4) (by omega) b0 b1)
  go_enter Try.func18, Try.ntmps18
  go_wp2_with fail
  refine (there_any 4 _ (by omega) (by omega)).mono ?_
  rintro e w' ⟨rfl, rfl⟩
  go_wp2
  go_ret
  exact ⟨ret_int e1.out, rfl⟩
theorem res_4 (b : Int) (w : World) (b0 : 0 ≤ b) (b1 : b ≤ 255) :
    Calls Try.prog 20 #[.int .i64 4, .int .u8 b] w fun e w' => e = .returned (.int .u8 (putR 4 b false)) ∧ w = w' := by
  have e1 := Lib.hid (show bits .andNot .u8 b 16 = putR 4 b false from res_num (n := 4) (by omega) b0 b1)
  go_enter Try.func20, Try.ntmps20
  go_wp2_with fail
  refine (there_any 4 _ (by omega) (by omega)).mono ?_
  rintro e w' ⟨rfl, rfl⟩
  go_wp2
  go_ret
  exact ⟨ret_int e1.out, rfl⟩
theorem set_5 (b : Int) (w : World) (b0 : 0 ≤ b) (b1 : b ≤ 255) :
    Calls Try.prog 18 #[.int .i64 5, .int .u8 b] w fun e w' => e = .returned (.int .u8 (putR 5 b true)) ∧ w = w' := by
  have e1 := Lib.hid (show bits .or .u8 b 32 = putR 5 b true from set_num (n := 5) (by omega) b0 b1)
  go_enter Try.func18, Try.ntmps18
  go_wp2_with fail
  refine (there_any 5 _ (by omega) (by omega)).mono ?_
  rintro e w' ⟨rfl, rfl⟩
  go_wp2
  go_ret
  exact ⟨ret_int e1.out, rfl⟩
theorem res_5 (b : Int) (w : World) (b0 : 0 ≤ b) (b1 : b ≤ 255) :
    Calls Try.prog 20 #[.int .i64 5, .int .u8 b] w fun e w' => e = .returned (.int .u8 (putR 5 b false)) ∧ w = w' := by
  have e1 := Lib.hid (show bits .andNot .u8 b 32 = putR 5 b false from res_num (n := 5) (by omega) b0 b1)
  go_enter Try.func20, Try.ntmps20
  go_wp2_with fail
  refine (there_any 5 _ (by omega) (by omega)).mono ?_
  rintro e w' ⟨rfl, rfl⟩
  go_wp2
  go_ret
  exact ⟨ret_int e1.out, rfl⟩
theorem set_6 (b : Int) (w : World) (b0 : 0 ≤ b) (b1 : b ≤ 255) :
    Calls Try.prog 18 #[.int .i64 6, .int .u8 b] w fun e w' => e = .returned (.int .u8 (putR 6 b true)) ∧ w = w' := by
  have e1 := Lib.hid (show bits .or .u8 b 64 = putR 6 b true from set_num (n := 6) (by omega) b0 b1)
  go_enter Try.func18, Try.ntmps18
  go_wp2_with fail
  refine (there_any 6 _ (by omega) (by omega)).mono ?_
  rintro e w' ⟨rfl, rfl⟩
  go_wp2
  go_ret
  exact ⟨ret_int e1.out, rfl⟩
theorem res_6 (b : Int) (w : World) (b0 : 0 ≤ b) (b1 : b ≤ 255) :
    Calls Try.prog 20 #[.int .i64 6, .int .u8 b] w fun e w' => e = .returned (.int .u8 (putR 6 b false)) ∧ w = w' := by
  have e1 := Lib.hid (show bits .andNot .u8 b 64 = putR 6 b false from res_num (n := 6) (by omega) b0 b1)
  go_enter Try.func20, Try.ntmps20
  go_wp2_with fail
  refine (there_any 6 _ (by omega) (by omega)).mono ?_
  rintro e w' ⟨rfl, rfl⟩
  go_wp2
  go_ret
  exact ⟨ret_int e1.out, rfl⟩
theorem set_7 (b : Int) (w : World) (b0 : 0 ≤ b) (b1 : b ≤ 255) :
    Calls Try.prog 18 #[.int .i64 7, .int .u8 b] w fun e w' => e = .returned (.int .u8 (putR 7 b true)) ∧ w = w' := by
  have e1 := Lib.hid (show bits .or .u8 b 128 = putR 7 b true from set_num (n := 7) (by omega) b0 b1)
  go_enter Try.func18, Try.ntmps18
  go_wp2_with fail
  refine (there_any 7 _ (by omega) (by omega)).mono ?_
  rintro e w' ⟨rfl, rfl⟩
  go_wp2
  go_ret
  exact ⟨ret_int e1.out, rfl⟩
theorem res_7 (b : Int) (w : World) (b0 : 0 ≤ b) (b1 : b ≤ 255) :
    Calls Try.prog 20 #[.int .i64 7, .int .u8 b] w fun e w' => e = .returned (.int .u8 (putR 7 b false)) ∧ w = w' := by
  have e1 := Lib.hid (show bits .andNot .u8 b 128 = putR 7 b false from res_num (n := 7) (by omega) b0 b1)
  go_enter Try.func20, Try.ntmps20
  go_wp2_with fail
  refine (there_any 7 _ (by omega) (by omega)).mono ?_
  rintro e w' ⟨rfl, rfl⟩
  go_wp2
  go_ret
  exact ⟨ret_int e1.out, rfl⟩

def setS (n b : Int) (on : Bool) : Int := if 0 ≤ n ∧ n ≤ 7 then putR n.toNat b on else b
theorem set_any (n b : Int) (w : World) (n0 : -9223372036854775808 ≤ n) (n1 : n ≤ 9223372036854775807) (b0 : 0 ≤ b) (b1 : b ≤ 255) :
    Calls Try.prog 18 #[.int .i64 n, .int .u8 b] w fun e w' => e = .returned (.int .u8 (setS n b true)) ∧ w = w' := by
  unfold setS
  by_cases h : 0 ≤ n ∧ n ≤ 7
  · rw [if_pos h]
    rcases (show n = 0 ∨ n = 1 ∨ n = 2 ∨ n = 3 ∨ n = 4 ∨ n = 5 ∨ n = 6 ∨ n = 7 by omega) with rfl | rfl | rfl | rfl | rfl | rfl | rfl | rfl
    · exact set_0 b w b0 b1
    · exact set_1 b w b0 b1
    · exact set_2 b w b0 b1
    · exact set_3 b w b0 b1
    · exact set_4 b w b0 b1
    · exact set_5 b w b0 b1
    · exact set_6 b w b0 b1
    · exact set_7 b w b0 b1
  · rw [if_neg h]
    go_enter Try.func18, Try.ntmps18
    go_wp2_with fail
    refine (there_no _ n0 n1 (by omega)).mono ?_
    rintro e w' ⟨rfl, rfl⟩
    go_wp2
    go_ret
    exact ⟨rfl, rfl⟩
theorem res_any (n b : Int) (w : World) (n0 : -9223372036854775808 ≤ n) (n1 : n ≤ 9223372036854775807) (b0 : 0 ≤ b) (b1 : b ≤ 255) :
    Calls Try.prog 20 #[.int .i64 n, .int .u8 b] w fun e w' => e = .returned (.int .u8 (setS n b false)) ∧ w = w' := by
  unfold setS
  by_cases h : 0 ≤ n ∧ n ≤ 7
  · rw [if_pos h]
    rcases (show n = 0 ∨ n = 1 ∨ n = 2 ∨ n = 3 ∨ n = 4 ∨ n = 5 ∨ n = 6 ∨ n = 7 by omega) with rfl | rfl | rfl | rfl | rfl | rfl | rfl | rfl
    · exact res_0 b w b0 b1
    · exact res_1 b w b0 b1
    · exact res_2 b w b0 b1
    · exact res_3 b w b0 b1
    · exact res_4 b w b0 b1
    · exact res_5 b w b0 b1
    · exact res_6 b w b0 b1
    · exact res_7 b w b0 b1
  · rw [if_neg h]
    go_enter Try.func20, Try.ntmps20
    go_wp2_with fail
    refine (there_no _ n0 n1 (by omega)).mono ?_
    rintro e w' ⟨rfl, rfl⟩
    go_wp2
    go_ret
    exact ⟨rfl, rfl⟩

end Go.Proofs.Ytfollcgedcjgoaa
