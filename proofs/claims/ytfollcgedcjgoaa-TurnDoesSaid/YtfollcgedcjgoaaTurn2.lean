/- Contracts of layer 4: the program's tests of bits, and halves. -/
import Derived.Test.YtfollcgedcjgoaaTurn
namespace Go.Proofs.Ytfollcgedcjgoaa
open Go.RowKit

theorem ask_0 {b : Int} (b0 : 0 ≤ b) (b1 : b ≤ 255) : (bits .and .u8 b 1 == 1) = bitH b (7 - 0) := byte_all (p := fun b => (bits .and .u8 b 1 == 1) = bitH b (7 - 0)) (by decide +kernel) b0 b1
theorem bitT_0 (b y f : Int) (w : World) (b0 : 0 ≤ b) (b1 : b ≤ 255) (y0 : 0 ≤ y) (y1 : y ≤ 255) (f0 : 0 ≤ f) (f1 : f ≤ 255) :
    Calls Try.prog 16 #[.int .i64 0, .int .u8 b, .int .u8 y, .int .u8 f] w fun e w' => e = .returned (.int .u8 (testF 0 b y f)) ∧ w = w' := by
  have ha := ask_0 b0 b1
  cases h : bitH b (7 - 0)
  · rw [h] at ha
    have e1 := Lib.hid (test_off (n := 0) h f0 f1 y0 y1)
    go_enter Try.func16, Try.ntmps16
    go_wp2_with fail
    refine (there_any 0 _ (by omega) (by omega)).mono ?_
    rintro e w' ⟨rfl, rfl⟩
    go_wp2
    go_ret
    exact ⟨ret_int e1.out, rfl⟩
  · rw [h] at ha
    have e1 := Lib.hid (test_on (n := 0) h f0 f1 y0 y1)
    go_enter Try.func16, Try.ntmps16
    go_wp2_with fail
    refine (there_any 0 _ (by omega) (by omega)).mono ?_
    rintro e w' ⟨rfl, rfl⟩
    go_wp2_with fail
    refine (with_any _ _ _ _).mono ?_
    rintro e w' ⟨rfl, rfl⟩
    go_wp2
    go_ret
    exact ⟨ret_int e1.out, rfl⟩
theorem ask_1 {b : Int} (b0 : 0 ≤ b) (b1 : b ≤ 255) : (bits .and .u8 (b / 2) 1 == 1) = bitH b (7 - 1) := byte_all (p := fun b => (bits .and .u8 (b / 2) 1 == 1) = bitH b (7 - 1)) (by decide +kernel) b0 b1
theorem bitT_1 (b y f : Int) (w : World) (b0 : 0 ≤ b) (b1 : b ≤ 255) (y0 : 0 ≤ y) (y1 : y ≤ 255) (f0 : 0 ≤ f) (f1 : f ≤ 255) :
    Calls Try.prog 16 #[.int .i64 1, .int .u8 b, .int .u8 y, .int .u8 f] w fun e w' => e = .returned (.int .u8 (testF 1 b y f)) ∧ w = w' := by
  have ha := ask_1 b0 b1
  cases h : bitH b (7 - 1)
  · rw [h] at ha
    have e1 := Lib.hid (test_off (n := 1) h f0 f1 y0 y1)
    go_enter Try.func16, Try.ntmps16
    go_wp2_with fail
    refine (there_any 1 _ (by omega) (by omega)).mono ?_
    rintro e w' ⟨rfl, rfl⟩
    go_wp2
    go_ret
    exact ⟨ret_int e1.out, rfl⟩
  · rw [h] at ha
    have e1 := Lib.hid (test_on (n := 1) h f0 f1 y0 y1)
    go_enter Try.func16, Try.ntmps16
    go_wp2_with fail
    refine (there_any 1 _ (by omega) (by omega)).mono ?_
    rintro e w' ⟨rfl, rfl⟩
    go_wp2_with fail
    refine (with_any _ _ _ _).mono ?_
    rintro e w' ⟨rfl, rfl⟩
    go_wp2
    go_ret
    exact ⟨ret_int e1.out, rfl⟩
theorem ask_2 {b : Int} (b0 : 0 ≤ b) (b1 : b ≤ 255) : (bits .and .u8 (b / 4) 1 == 1) = bitH b (7 - 2) := byte_all (p := fun b => (bits .and .u8 (b / 4) 1 == 1) = bitH b (7 - 2)) (by decide +kernel) b0 b1
theorem bitT_2 (b y f : Int) (w : World) (b0 : 0 ≤ b) (b1 : b ≤ 255) (y0 : 0 ≤ y) (y1 : y ≤ 255) (f0 : 0 ≤ f) (f1 : f ≤ 255) :
    Calls Try.prog 16 #[.int .i64 2, .int .u8 b, .int .u8 y, .int .u8 f] w fun e w' => e = .returned (.int .u8 (testF 2 b y f)) ∧ w = w' := by
  have ha := ask_2 b0 b1
  cases h : bitH b (7 - 2)
  · rw [h] at ha
    have e1 := Lib.hid (test_off (n := 2) h f0 f1 y0 y1)
    go_enter Try.func16, Try.ntmps16
    go_wp2_with fail
    refine (there_any 2 _ (by omega) (by omega)).mono ?_
    rintro e w' ⟨rfl, rfl⟩
    go_wp2
    go_ret
    exact ⟨ret_int e1.out, rfl⟩
  · rw [h] at ha
    have e1 := Lib.hid (test_on (n := 2) h f0 f1 y0 y1)
    go_enter Try.func16, Try.ntmps16
    go_wp2_with fail
    refine (there_any 2 _ (by omega) (by omega)).mono ?_
    rintro e w' ⟨rfl, rfl⟩
    go_wp2_with fail
    refine (with_any _ _ _ _).mono ?_
    rintro e w' ⟨rfl, rfl⟩
    go_wp2
    go_ret
    exact ⟨ret_int e1.out, rfl⟩
theorem ask_3 {b : Int} (b0 : 0 ≤ b) (b1 : b ≤ 255) : (bits .and .u8 (b / 8) 1 == 1) = bitH b (7 - 3) := byte_all (p := fun b => (bits .and .u8 (b / 8) 1 == 1) = bitH b (7 - 3)) (by decide +kernel) b0 b1
theorem bitT_3 (b y f : Int) (w : World) (b0 : 0 ≤ b) (b1 : b ≤ 255) (y0 : 0 ≤ y) (y1 : y ≤ 255) (f0 : 0 ≤ f) (f1 : f ≤ 255) :
    Calls Try.prog 16 #[.int .i64 3, .int .u8 b, .int .u8 y, .int .u8 f] w fun e w' => e = .returned (.int .u8 (testF 3 b y f)) ∧ w = w' := by
  have ha := ask_3 b0 b1
  cases h : bitH b (7 - 3)
  · rw [h] at ha
    have e1 := Lib.hid (test_off (n := 3) h f0 f1 y0 y1)
    go_enter Try.func16, Try.ntmps16
    go_wp2_with fail
    refine (there_any 3 _ (by omega) (by omega)).mono ?_
    rintro e w' ⟨rfl, rfl⟩
    go_wp2
    go_ret
    exact ⟨ret_int e1.out, rfl⟩
  · rw [h] at ha
    have e1 := Lib.hid (test_on (n := 3) h f0 f1 y0 y1)
    go_enter Try.func16, Try.ntmps16
    go_wp2_with fail
    refine (there_any 3 _ (by omega) (by omega)).mono ?_
    rintro e w' ⟨rfl, rfl⟩
    go_wp2_with fail
    refine (with_any _ _ _ _).mono ?_
    rintro e w' ⟨rfl, rfl⟩
    go_wp2
    go_ret
    exact ⟨ret_int e1.out, rfl⟩
theorem ask_4 {b : Int} (b0 : 0 ≤ b) (b1 : b ≤ 255) : (bits .and .u8 (b / 16) 1 == 1) = bitH b (7 - 4) := byte_all (p := fun b => (bits .and .u8 (b / 16) 1 == 1) = bitH b (7 - 4)) (by decide +kernel) b0 b1
theorem bitT_4 (b y f : Int) (w : World) (b0 : 0 ≤ b) (b1 : b ≤ 255) (y0 : 0 ≤ y) (y1 : y ≤ 255) (f0 : 0 ≤ f) (f1 : f ≤ 255) :
    Calls Try.prog 16 #[.int .i64 4, .int .u8 b, .int .u8 y, .int .u8 f] w fun e w' => e = .returned (.int .u8 (testF 4 b y f)) ∧ w = w' := by
  have ha := ask_4 b0 b1
  cases h : bitH b (7 - 4)
  · rw [h] at ha
    have e1 := Lib.hid (test_off (n := 4) h f0 f1 y0 y1)
    go_enter Try.func16, Try.ntmps16
    go_wp2_with fail
    refine (there_any 4 _ (by omega) (by omega)).mono ?_
    rintro e w' ⟨rfl, rfl⟩
    go_wp2
    go_ret
    exact ⟨ret_int e1.out, rfl⟩
  · rw [h] at ha
    have e1 := Lib.hid (test_on (n := 4) h f0 f1 y0 y1)
    go_enter Try.func16, Try.ntmps16
    go_wp2_with fail
    refine (there_any 4 _ (by omega) (by omega)).mono ?_
    rintro e w' ⟨rfl, rfl⟩
    go_wp2_with fail
    refine (with_any _ _ _ _).mono ?_
    rintro e w' ⟨rfl, rfl⟩
    go_wp2
    go_ret
    exact ⟨ret_int e1.out, rfl⟩
theorem ask_5 {b : Int} (b0 : 0 ≤ b) (b1 : b ≤ 255) : (bits .and .u8 (b / 32) 1 == 1) = bitH b (7 - 5) := byte_all (p := fun b => (bits .and .u8 (b / 32) 1 == 1) = bitH b (7 - 5)) (by decide +kernel) b0 b1
theorem bitT_5 (b y f : Int) (w : World) (b0 : 0 ≤ b) (b1 : b ≤ 255) (y0 : 0 ≤ y) (y1 : y ≤ 255) (f0 : 0 ≤ f) (f1 : f ≤ 255) :
    Calls Try.prog 16 #[.int .i64 5, .int .u8 b, .int .u8 y, .int .u8 f] w fun e w' => e = .returned (.int .u8 (testF 5 b y f)) ∧ w = w' := by
  have ha := ask_5 b0 b1
  cases h : bitH b (7 - 5)
  · rw [h] at ha
    have e1 := Lib.hid (test_off (n := 5) h f0 f1 y0 y1)
    go_enter Try.func16, Try.ntmps16
    go_wp2_with fail
    refine (there_any 5 _ (by omega) (by omega)).mono ?_
    rintro e w' ⟨rfl, rfl⟩
    go_wp2
    go_ret
    exact ⟨ret_int e1.out, rfl⟩
  · rw [h] at ha
    have e1 := Lib.hid (test_on (n := 5) h f0 f1 y0 y1)
    go_enter Try.func16, Try.ntmps16
    go_wp2_with fail
    refine (there_any 5 _ (by omega) (by omega)).mono ?_
    rintro e w' ⟨rfl, rfl⟩
    go_wp2_with fail
    refine (with_any _ _ _ _).mono ?_
    rintro e w' ⟨rfl, rfl⟩
    go_wp2
    go_ret
    exact ⟨ret_int e1.out, rfl⟩
theorem ask_6 {b : Int} (b0 : 0 ≤ b) (b1 : b ≤ 255) : (bits .and .u8 (b / 64) 1 == 1) = bitH b (7 - 6) := byte_all (p := fun b => (bits .and .u8 (b / 64) 1 == 1) = bitH b (7 - 6)) (by decide +kernel) b0 b1
theorem bitT_6 (b y f : Int) (w : World) (b0 : 0 ≤ b) (b1 : b ≤ 255) (y0 : 0 ≤ y) (y1 : y ≤ 255) (f0 : 0 ≤ f) (f1 : f ≤ 255) :
    Calls Try.prog 16 #[.int .i64 6, .int .u8 b, .int .u8 y, .int .u8 f] w fun e w' => e = .returned (.int .u8 (testF 6 b y f)) ∧ w = w' := by
  have ha := ask_6 b0 b1
  cases h : bitH b (7 - 6)
  · rw [h] at ha
    have e1 := Lib.hid (test_off (n := 6) h f0 f1 y0 y1)
    go_enter Try.func16, Try.ntmps16
    go_wp2_with fail
    refine (there_any 6 _ (by omega) (by omega)).mono ?_
    rintro e w' ⟨rfl, rfl⟩
    go_wp2
    go_ret
    exact ⟨ret_int e1.out, rfl⟩
  · rw [h] at ha
    have e1 := Lib.hid (test_on (n := 6) h f0 f1 y0 y1)
    go_enter Try.func16, Try.ntmps16
    go_wp2_with fail
    refine (there_any 6 _ (by omega) (by omega)).mono ?_
    rintro e w' ⟨rfl, rfl⟩
    go_wp2_with fail
    refine (with_any _ _ _ _).mono ?_
    rintro e w' ⟨rfl, rfl⟩
    go_wp2
    go_ret
    exact ⟨ret_int e1.out, rfl⟩
theorem ask_7 {b : Int} (b0 : 0 ≤ b) (b1 : b ≤ 255) : (bits .and .u8 (b / 128) 1 == 1) = bitH b (7 - 7) := byte_all (p := fun b => (bits .and .u8 (b / 128) 1 == 1) = bitH b (7 - 7)) (by decide +kernel) b0 b1
theorem bitT_7 (b y f : Int) (w : World) (b0 : 0 ≤ b) (b1 : b ≤ 255) (y0 : 0 ≤ y) (y1 : y ≤ 255) (f0 : 0 ≤ f) (f1 : f ≤ 255) :
    Calls Try.prog 16 #[.int .i64 7, .int .u8 b, .int .u8 y, .int .u8 f] w fun e w' => e = .returned (.int .u8 (testF 7 b y f)) ∧ w = w' := by
  have ha := ask_7 b0 b1
  cases h : bitH b (7 - 7)
  · rw [h] at ha
    have e1 := Lib.hid (test_off (n := 7) h f0 f1 y0 y1)
    go_enter Try.func16, Try.ntmps16
    go_wp2_with fail
    refine (there_any 7 _ (by omega) (by omega)).mono ?_
    rintro e w' ⟨rfl, rfl⟩
    go_wp2
    go_ret
    exact ⟨ret_int e1.out, rfl⟩
  · rw [h] at ha
    have e1 := Lib.hid (test_on (n := 7) h f0 f1 y0 y1)
    go_enter Try.func16, Try.ntmps16
    go_wp2_with fail
    refine (there_any 7 _ (by omega) (by omega)).mono ?_
    rintro e w' ⟨rfl, rfl⟩
    go_wp2_with fail
    refine (with_any _ _ _ _).mono ?_
    rintro e w' ⟨rfl, rfl⟩
    go_wp2
    go_ret
    exact ⟨ret_int e1.out, rfl⟩

def bitS (n b y f : Int) : Int := if 0 ≤ n ∧ n ≤ 7 then testF n.toNat b y f else f
theorem bitT_any (n b y f : Int) (w : World) (n0 : -9223372036854775808 ≤ n) (n1 : n ≤ 9223372036854775807) (b0 : 0 ≤ b) (b1 : b ≤ 255) (y0 : 0 ≤ y) (y1 : y ≤ 255) (f0 : 0 ≤ f) (f1 : f ≤ 255) :
    Calls Try.prog 16 #[.int .i64 n, .int .u8 b, .int .u8 y, .int .u8 f] w fun e w' => e = .returned (.int .u8 (bitS n b y f)) ∧ w = w' := by
  unfold bitS
  by_cases h : 0 ≤ n ∧ n ≤ 7
  · rw [if_pos h]
    rcases (show n = 0 ∨ n = 1 ∨ n = 2 ∨ n = 3 ∨ n = 4 ∨ n = 5 ∨ n = 6 ∨ n = 7 by omega) with rfl | rfl | rfl | rfl | rfl | rfl | rfl | rfl
    · exact bitT_0 b y f w b0 b1 y0 y1 f0 f1
    · exact bitT_1 b y f w b0 b1 y0 y1 f0 f1
    · exact bitT_2 b y f w b0 b1 y0 y1 f0 f1
    · exact bitT_3 b y f w b0 b1 y0 y1 f0 f1
    · exact bitT_4 b y f w b0 b1 y0 y1 f0 f1
    · exact bitT_5 b y f w b0 b1 y0 y1 f0 f1
    · exact bitT_6 b y f w b0 b1 y0 y1 f0 f1
    · exact bitT_7 b y f w b0 b1 y0 y1 f0 f1
  · rw [if_neg h]
    go_enter Try.func16, Try.ntmps16
    go_wp2_with fail
    refine (there_no _ n0 n1 (by omega)).mono ?_
    rintro e w' ⟨rfl, rfl⟩
    go_wp2
    go_ret
    exact ⟨rfl, rfl⟩

theorem ret_tri {a b c d x y : Int} (h : a = d) (e : b = x) (k : c = y) : Ending.returned (.tuple #[.int .u8 a, .int .u8 b, .int .u8 c]) = .returned (.tuple #[.int .u8 d, .int .u8 x, .int .u8 y]) := by rw [h, e, k]
theorem rldA_num {a m : Int} (a0 : 0 ≤ a) (a1 : a ≤ 255) (m0 : 0 ≤ m) (m1 : m ≤ 255) : bits .or .u8 (bits .andNot .u8 a 15) (m / 16) = rldA a m := by rw [high_num a0 a1, or_halves (by omega) (by omega) (by omega) (by omega)]; rfl
theorem rldM_num {a m : Int} : bits .or .u8 (m * 16 % 256) (a % 16) = rldM a m := by rw [shl4_num, or_halves (by omega) (by omega) (by omega) (by omega)]; rfl
theorem rrdA_num {a m : Int} (a0 : 0 ≤ a) (a1 : a ≤ 255) : bits .or .u8 (bits .andNot .u8 a 15) (m % 16) = rrdA a m := by rw [high_num a0 a1, or_halves (by omega) (by omega) (by omega) (by omega)]; rfl
theorem rrdM_num {a m : Int} (m0 : 0 ≤ m) (m1 : m ≤ 255) : bits .or .u8 (a * 16 % 256) (m / 16) = rrdM a m := by rw [shl4_num, or_halves (by omega) (by omega) (by omega) (by omega)]; rfl
theorem rld_any (a m f : Int) (w : World) (a0 : 0 ≤ a) (a1 : a ≤ 255) (m0 : 0 ≤ m) (m1 : m ≤ 255) (f0 : 0 ≤ f) (f1 : f ≤ 255) :
    Calls Try.prog 8 #[.int .u8 a, .int .u8 m, .int .u8 f] w fun e w' => e = .returned (.tuple #[.int .u8 (rldA a m), .int .u8 (rldM a m), .int .u8 (turnF (rldA a m) (bitH f 7))]) ∧ w = w' := by
  have e1 := Lib.hid (rldA_num a0 a1 m0 m1)
  have e2 := Lib.hid (rldM_num (a := a) (m := m))
  have e3 := Lib.hid (half_fin (r := rldA a m) f0 f1)
  obtain ⟨r0, r1⟩ := (halves_bd a0 a1 m0 m1).1
  go_enter Try.func8, Try.ntmps8
  go_wp2_with fail
  rw [e1.out]
  refine (ofP_any _ _ r0 r1).mono ?_
  rintro e w' ⟨rfl, rfl⟩
  go_wp2
  go_ret3
  exact ⟨ret_tri rfl e2.out e3.out, rfl⟩
theorem rrd_any (a m f : Int) (w : World) (a0 : 0 ≤ a) (a1 : a ≤ 255) (m0 : 0 ≤ m) (m1 : m ≤ 255) (f0 : 0 ≤ f) (f1 : f ≤ 255) :
    Calls Try.prog 9 #[.int .u8 a, .int .u8 m, .int .u8 f] w fun e w' => e = .returned (.tuple #[.int .u8 (rrdA a m), .int .u8 (rrdM a m), .int .u8 (turnF (rrdA a m) (bitH f 7))]) ∧ w = w' := by
  have e1 := Lib.hid (rrdA_num (m := m) a0 a1)
  have e2 := Lib.hid (rrdM_num (a := a) m0 m1)
  have e3 := Lib.hid (half_fin (r := rrdA a m) f0 f1)
  obtain ⟨r0, r1⟩ := (halves_bd a0 a1 m0 m1).2.2.1
  go_enter Try.func9, Try.ntmps9
  go_wp2_with fail
  rw [e1.out]
  refine (ofP_any _ _ r0 r1).mono ?_
  rintro e w' ⟨rfl, rfl⟩
  go_wp2
  go_ret3
  exact ⟨ret_tri rfl e2.out e3.out, rfl⟩

end Go.Proofs.Ytfollcgedcjgoaa
