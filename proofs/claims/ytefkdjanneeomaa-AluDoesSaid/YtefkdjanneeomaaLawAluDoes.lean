/- The law AluDoes walked: each of the eight operations; any other one does nothing. -/
import Derived.Test.YtefkdjanneeomaaLawAlu
import Derived.Test.YtefkdjanneeomaaR02j
namespace Go.Proofs.Ytefkdjanneeomaa
open Go.RowKit

def doR (k a b f : Int) : Int :=
  if k = 0 then addR a b false else if k = 1 then addR a b (bitH f 7) else if k = 2 then subR a b false else if k = 3 then subR a b (bitH f 7) else if k = 4 ∨ k = 5 ∨ k = 6 then joinR k a b else a
def doF (k a b f : Int) : Int :=
  if k = 0 then addF a b false else if k = 1 then addF a b (bitH f 7) else if k = 2 then subF a b false else if k = 3 then subF a b (bitH f 7) else if k = 4 ∨ k = 5 ∨ k = 6 then joinF k a b else if k = 7 then mixF (subF a b false) b else f
theorem do_out {k a b f : Int} (h : k < 0 ∨ 7 < k) : doR k a b f = a ∧ doF k a b f = f := by
  unfold doR doF
  rw [if_neg (by omega), if_neg (by omega), if_neg (by omega), if_neg (by omega), if_neg (by omega), if_neg (by omega), if_neg (by omega), if_neg (by omega), if_neg (by omega), if_neg (by omega), if_neg (by omega)]
  exact ⟨rfl, rfl⟩

set_option maxHeartbeats 1000000 in
theorem doP_0 (a b f : Int) (w : World) (a0 : 0 ≤ a) (a1 : a ≤ 255) (b0 : 0 ≤ b) (b1 : b ≤ 255) (f0 : 0 ≤ f) (f1 : f ≤ 255) :
    Calls Try.prog 48 #[.int .i64 0, .int .u8 a, .int .u8 b, .int .u8 f] w fun e w' => e = .returned (.tuple #[.int .u8 (doR 0 a b f), .int .u8 (doF 0 a b f)]) ∧ Below w.heap.size w w' := by
  have HH := Lib.hid (show hasS f 1 = bitH f 7 from ask1 f0 f1)
  go_enter Try.func48, Try.ntmps48
  go_wp2_with fail
  refine (has_any _ _ _).mono ?_
  rintro e w' ⟨rfl, rfl⟩
  rw [HH.out]
  go_wp2_with fail
  refine (addA_any _ _ _ _ a0 a1 b0 b1).mono ?_
  rintro e w1 ⟨rfl, hb1⟩
  go_wp2
  go_ret2
  exact ⟨ret_two rfl rfl, hb1⟩

set_option maxHeartbeats 1000000 in
theorem doR_0 (a b f : Int) (w : World) (a0 : 0 ≤ a) (a1 : a ≤ 255) (b0 : 0 ≤ b) (b1 : b ≤ 255) (f0 : 0 ≤ f) (f1 : f ≤ 255) :
    Calls Try.prog 49 #[.int .i64 0, .int .u8 a, .int .u8 b, .int .u8 f] w fun e w' => e = .returned (.tuple #[.int .u8 (doR 0 a b f), .int .u8 (doF 0 a b f)]) ∧ Below w.heap.size w w' := by
  go_enter Try.func49, Try.ntmps49
  go_wp2_with fail
  refine (bit_any _ _ _ f0 f1 (by omega) (by omega)).mono ?_
  rintro e w0 ⟨rfl, hb0⟩
  rw [show bitH f (7 - Int.toNat 0) = bitH f 7 from rfl]
  go_wp2_with fail
  refine (add_ref _ _ _ _ a0 a1 b0 b1).mono ?_
  rintro e w1 ⟨rfl, hb1⟩
  go_wp2
  go_ret2
  exact ⟨ret_two rfl rfl, bthen hb0 hb1⟩

set_option maxHeartbeats 1000000 in
theorem doP_1 (a b f : Int) (w : World) (a0 : 0 ≤ a) (a1 : a ≤ 255) (b0 : 0 ≤ b) (b1 : b ≤ 255) (f0 : 0 ≤ f) (f1 : f ≤ 255) :
    Calls Try.prog 48 #[.int .i64 1, .int .u8 a, .int .u8 b, .int .u8 f] w fun e w' => e = .returned (.tuple #[.int .u8 (doR 1 a b f), .int .u8 (doF 1 a b f)]) ∧ Below w.heap.size w w' := by
  have HH := Lib.hid (show hasS f 1 = bitH f 7 from ask1 f0 f1)
  go_enter Try.func48, Try.ntmps48
  go_wp2_with fail
  refine (has_any _ _ _).mono ?_
  rintro e w' ⟨rfl, rfl⟩
  rw [HH.out]
  go_wp2_with fail
  refine (addA_any _ _ _ _ a0 a1 b0 b1).mono ?_
  rintro e w1 ⟨rfl, hb1⟩
  go_wp2
  go_ret2
  exact ⟨ret_two rfl rfl, hb1⟩

set_option maxHeartbeats 1000000 in
theorem doR_1 (a b f : Int) (w : World) (a0 : 0 ≤ a) (a1 : a ≤ 255) (b0 : 0 ≤ b) (b1 : b ≤ 255) (f0 : 0 ≤ f) (f1 : f ≤ 255) :
    Calls Try.prog 49 #[.int .i64 1, .int .u8 a, .int .u8 b, .int .u8 f] w fun e w' => e = .returned (.tuple #[.int .u8 (doR 1 a b f), .int .u8 (doF 1 a b f)]) ∧ Below w.heap.size w w' := by
  go_enter Try.func49, Try.ntmps49
  go_wp2_with fail
  refine (bit_any _ _ _ f0 f1 (by omega) (by omega)).mono ?_
  rintro e w0 ⟨rfl, hb0⟩
  rw [show bitH f (7 - Int.toNat 0) = bitH f 7 from rfl]
  go_wp2_with fail
  refine (add_ref _ _ _ _ a0 a1 b0 b1).mono ?_
  rintro e w1 ⟨rfl, hb1⟩
  go_wp2
  go_ret2
  exact ⟨ret_two rfl rfl, bthen hb0 hb1⟩

set_option maxHeartbeats 1000000 in
theorem doP_2 (a b f : Int) (w : World) (a0 : 0 ≤ a) (a1 : a ≤ 255) (b0 : 0 ≤ b) (b1 : b ≤ 255) (f0 : 0 ≤ f) (f1 : f ≤ 255) :
    Calls Try.prog 48 #[.int .i64 2, .int .u8 a, .int .u8 b, .int .u8 f] w fun e w' => e = .returned (.tuple #[.int .u8 (doR 2 a b f), .int .u8 (doF 2 a b f)]) ∧ Below w.heap.size w w' := by
  have HH := Lib.hid (show hasS f 1 = bitH f 7 from ask1 f0 f1)
  go_enter Try.func48, Try.ntmps48
  go_wp2_with fail
  refine (has_any _ _ _).mono ?_
  rintro e w' ⟨rfl, rfl⟩
  rw [HH.out]
  go_wp2_with fail
  refine (subA_any _ _ _ _ a0 a1 b0 b1).mono ?_
  rintro e w1 ⟨rfl, hb1⟩
  go_wp2
  go_ret2
  exact ⟨ret_two rfl rfl, hb1⟩

set_option maxHeartbeats 1000000 in
theorem doR_2 (a b f : Int) (w : World) (a0 : 0 ≤ a) (a1 : a ≤ 255) (b0 : 0 ≤ b) (b1 : b ≤ 255) (f0 : 0 ≤ f) (f1 : f ≤ 255) :
    Calls Try.prog 49 #[.int .i64 2, .int .u8 a, .int .u8 b, .int .u8 f] w fun e w' => e = .returned (.tuple #[.int .u8 (doR 2 a b f), .int .u8 (doF 2 a b f)]) ∧ Below w.heap.size w w' := by
  go_enter Try.func49, Try.ntmps49
  go_wp2_with fail
  refine (bit_any _ _ _ f0 f1 (by omega) (by omega)).mono ?_
  rintro e w0 ⟨rfl, hb0⟩
  rw [show bitH f (7 - Int.toNat 0) = bitH f 7 from rfl]
  go_wp2_with fail
  refine (sub_ref _ _ _ _ a0 a1 b0 b1).mono ?_
  rintro e w1 ⟨rfl, hb1⟩
  go_wp2
  go_ret2
  exact ⟨ret_two rfl rfl, bthen hb0 hb1⟩

set_option maxHeartbeats 1000000 in
theorem doP_3 (a b f : Int) (w : World) (a0 : 0 ≤ a) (a1 : a ≤ 255) (b0 : 0 ≤ b) (b1 : b ≤ 255) (f0 : 0 ≤ f) (f1 : f ≤ 255) :
    Calls Try.prog 48 #[.int .i64 3, .int .u8 a, .int .u8 b, .int .u8 f] w fun e w' => e = .returned (.tuple #[.int .u8 (doR 3 a b f), .int .u8 (doF 3 a b f)]) ∧ Below w.heap.size w w' := by
  have HH := Lib.hid (show hasS f 1 = bitH f 7 from ask1 f0 f1)
  go_enter Try.func48, Try.ntmps48
  go_wp2_with fail
  refine (has_any _ _ _).mono ?_
  rintro e w' ⟨rfl, rfl⟩
  rw [HH.out]
  go_wp2_with fail
  refine (subA_any _ _ _ _ a0 a1 b0 b1).mono ?_
  rintro e w1 ⟨rfl, hb1⟩
  go_wp2
  go_ret2
  exact ⟨ret_two rfl rfl, hb1⟩

set_option maxHeartbeats 1000000 in
theorem doR_3 (a b f : Int) (w : World) (a0 : 0 ≤ a) (a1 : a ≤ 255) (b0 : 0 ≤ b) (b1 : b ≤ 255) (f0 : 0 ≤ f) (f1 : f ≤ 255) :
    Calls Try.prog 49 #[.int .i64 3, .int .u8 a, .int .u8 b, .int .u8 f] w fun e w' => e = .returned (.tuple #[.int .u8 (doR 3 a b f), .int .u8 (doF 3 a b f)]) ∧ Below w.heap.size w w' := by
  go_enter Try.func49, Try.ntmps49
  go_wp2_with fail
  refine (bit_any _ _ _ f0 f1 (by omega) (by omega)).mono ?_
  rintro e w0 ⟨rfl, hb0⟩
  rw [show bitH f (7 - Int.toNat 0) = bitH f 7 from rfl]
  go_wp2_with fail
  refine (sub_ref _ _ _ _ a0 a1 b0 b1).mono ?_
  rintro e w1 ⟨rfl, hb1⟩
  go_wp2
  go_ret2
  exact ⟨ret_two rfl rfl, bthen hb0 hb1⟩

set_option maxHeartbeats 1000000 in
theorem doP_4 (a b f : Int) (w : World) (a0 : 0 ≤ a) (a1 : a ≤ 255) (b0 : 0 ≤ b) (b1 : b ≤ 255) (f0 : 0 ≤ f) (f1 : f ≤ 255) :
    Calls Try.prog 48 #[.int .i64 4, .int .u8 a, .int .u8 b, .int .u8 f] w fun e w' => e = .returned (.tuple #[.int .u8 (doR 4 a b f), .int .u8 (doF 4 a b f)]) ∧ Below w.heap.size w w' := by
  have HH := Lib.hid (show hasS f 1 = bitH f 7 from ask1 f0 f1)
  go_enter Try.func48, Try.ntmps48
  go_wp2_with fail
  refine (has_any _ _ _).mono ?_
  rintro e w' ⟨rfl, rfl⟩
  rw [HH.out]
  go_wp2_with fail
  refine (andA_any _ _ _ a0 a1 b0 b1).mono ?_
  rintro e w' ⟨rfl, rfl⟩
  go_wp2
  go_ret2
  exact ⟨ret_two rfl rfl, Below.refl _ _⟩

set_option maxHeartbeats 1000000 in
theorem doR_4 (a b f : Int) (w : World) (a0 : 0 ≤ a) (a1 : a ≤ 255) (b0 : 0 ≤ b) (b1 : b ≤ 255) (f0 : 0 ≤ f) (f1 : f ≤ 255) :
    Calls Try.prog 49 #[.int .i64 4, .int .u8 a, .int .u8 b, .int .u8 f] w fun e w' => e = .returned (.tuple #[.int .u8 (doR 4 a b f), .int .u8 (doF 4 a b f)]) ∧ Below w.heap.size w w' := by
  go_enter Try.func49, Try.ntmps49
  go_wp2_with fail
  refine (bit_any _ _ _ f0 f1 (by omega) (by omega)).mono ?_
  rintro e w0 ⟨rfl, hb0⟩
  rw [show bitH f (7 - Int.toNat 0) = bitH f 7 from rfl]
  go_wp2_with fail
  refine (join_and _ _ _ a0 a1 b0 b1).mono ?_
  rintro e w1 ⟨rfl, hb1⟩
  go_wp2
  go_ret2
  exact ⟨ret_two rfl rfl, bthen hb0 hb1⟩

set_option maxHeartbeats 1000000 in
theorem doP_5 (a b f : Int) (w : World) (a0 : 0 ≤ a) (a1 : a ≤ 255) (b0 : 0 ≤ b) (b1 : b ≤ 255) (f0 : 0 ≤ f) (f1 : f ≤ 255) :
    Calls Try.prog 48 #[.int .i64 5, .int .u8 a, .int .u8 b, .int .u8 f] w fun e w' => e = .returned (.tuple #[.int .u8 (doR 5 a b f), .int .u8 (doF 5 a b f)]) ∧ Below w.heap.size w w' := by
  have HH := Lib.hid (show hasS f 1 = bitH f 7 from ask1 f0 f1)
  go_enter Try.func48, Try.ntmps48
  go_wp2_with fail
  refine (has_any _ _ _).mono ?_
  rintro e w' ⟨rfl, rfl⟩
  rw [HH.out]
  go_wp2_with fail
  refine (xorA_any _ _ _ a0 a1 b0 b1).mono ?_
  rintro e w' ⟨rfl, rfl⟩
  go_wp2
  go_ret2
  exact ⟨ret_two rfl rfl, Below.refl _ _⟩

set_option maxHeartbeats 1000000 in
theorem doR_5 (a b f : Int) (w : World) (a0 : 0 ≤ a) (a1 : a ≤ 255) (b0 : 0 ≤ b) (b1 : b ≤ 255) (f0 : 0 ≤ f) (f1 : f ≤ 255) :
    Calls Try.prog 49 #[.int .i64 5, .int .u8 a, .int .u8 b, .int .u8 f] w fun e w' => e = .returned (.tuple #[.int .u8 (doR 5 a b f), .int .u8 (doF 5 a b f)]) ∧ Below w.heap.size w w' := by
  go_enter Try.func49, Try.ntmps49
  go_wp2_with fail
  refine (bit_any _ _ _ f0 f1 (by omega) (by omega)).mono ?_
  rintro e w0 ⟨rfl, hb0⟩
  rw [show bitH f (7 - Int.toNat 0) = bitH f 7 from rfl]
  go_wp2_with fail
  refine (join_xor _ _ _ a0 a1 b0 b1).mono ?_
  rintro e w1 ⟨rfl, hb1⟩
  go_wp2
  go_ret2
  exact ⟨ret_two rfl rfl, bthen hb0 hb1⟩

set_option maxHeartbeats 1000000 in
theorem doP_6 (a b f : Int) (w : World) (a0 : 0 ≤ a) (a1 : a ≤ 255) (b0 : 0 ≤ b) (b1 : b ≤ 255) (f0 : 0 ≤ f) (f1 : f ≤ 255) :
    Calls Try.prog 48 #[.int .i64 6, .int .u8 a, .int .u8 b, .int .u8 f] w fun e w' => e = .returned (.tuple #[.int .u8 (doR 6 a b f), .int .u8 (doF 6 a b f)]) ∧ Below w.heap.size w w' := by
  have HH := Lib.hid (show hasS f 1 = bitH f 7 from ask1 f0 f1)
  go_enter Try.func48, Try.ntmps48
  go_wp2_with fail
  refine (has_any _ _ _).mono ?_
  rintro e w' ⟨rfl, rfl⟩
  rw [HH.out]
  go_wp2_with fail
  refine (orA_any _ _ _ a0 a1 b0 b1).mono ?_
  rintro e w' ⟨rfl, rfl⟩
  go_wp2
  go_ret2
  exact ⟨ret_two rfl rfl, Below.refl _ _⟩

set_option maxHeartbeats 1000000 in
theorem doR_6 (a b f : Int) (w : World) (a0 : 0 ≤ a) (a1 : a ≤ 255) (b0 : 0 ≤ b) (b1 : b ≤ 255) (f0 : 0 ≤ f) (f1 : f ≤ 255) :
    Calls Try.prog 49 #[.int .i64 6, .int .u8 a, .int .u8 b, .int .u8 f] w fun e w' => e = .returned (.tuple #[.int .u8 (doR 6 a b f), .int .u8 (doF 6 a b f)]) ∧ Below w.heap.size w w' := by
  go_enter Try.func49, Try.ntmps49
  go_wp2_with fail
  refine (bit_any _ _ _ f0 f1 (by omega) (by omega)).mono ?_
  rintro e w0 ⟨rfl, hb0⟩
  rw [show bitH f (7 - Int.toNat 0) = bitH f 7 from rfl]
  go_wp2_with fail
  refine (join_or _ _ _ a0 a1 b0 b1).mono ?_
  rintro e w1 ⟨rfl, hb1⟩
  go_wp2
  go_ret2
  exact ⟨ret_two rfl rfl, bthen hb0 hb1⟩

set_option maxHeartbeats 1000000 in
theorem doP_7 (a b f : Int) (w : World) (a0 : 0 ≤ a) (a1 : a ≤ 255) (b0 : 0 ≤ b) (b1 : b ≤ 255) (f0 : 0 ≤ f) (f1 : f ≤ 255) :
    Calls Try.prog 48 #[.int .i64 7, .int .u8 a, .int .u8 b, .int .u8 f] w fun e w' => e = .returned (.tuple #[.int .u8 (doR 7 a b f), .int .u8 (doF 7 a b f)]) ∧ Below w.heap.size w w' := by
  have HH := Lib.hid (show hasS f 1 = bitH f 7 from ask1 f0 f1)
  go_enter Try.func48, Try.ntmps48
  go_wp2_with fail
  refine (has_any _ _ _).mono ?_
  rintro e w' ⟨rfl, rfl⟩
  rw [HH.out]
  go_wp2_with fail
  refine (cp_any _ _ _ a0 a1 b0 b1).mono ?_
  rintro e w1 ⟨rfl, hb1⟩
  go_wp2
  go_ret2
  exact ⟨ret_two rfl rfl, hb1⟩

set_option maxHeartbeats 1000000 in
theorem doR_7 (a b f : Int) (w : World) (a0 : 0 ≤ a) (a1 : a ≤ 255) (b0 : 0 ≤ b) (b1 : b ≤ 255) (f0 : 0 ≤ f) (f1 : f ≤ 255) :
    Calls Try.prog 49 #[.int .i64 7, .int .u8 a, .int .u8 b, .int .u8 f] w fun e w' => e = .returned (.tuple #[.int .u8 (doR 7 a b f), .int .u8 (doF 7 a b f)]) ∧ Below w.heap.size w w' := by
  obtain ⟨s0, s1⟩ := subF_bd2 a b false
  go_enter Try.func49, Try.ntmps49
  go_wp2_with fail
  refine (bit_any _ _ _ f0 f1 (by omega) (by omega)).mono ?_
  rintro e w0 ⟨rfl, hb0⟩
  rw [show bitH f (7 - Int.toNat 0) = bitH f 7 from rfl]
  go_wp2_with fail
  refine (sub_ref _ _ _ _ a0 a1 b0 b1).mono ?_
  rintro e w1 ⟨rfl, hb1⟩
  go_wp2_with fail
  refine (mixR_any _ _ _ s0 s1 b0 b1).mono ?_
  rintro e w2 ⟨rfl, hb2⟩
  go_wp2
  go_ret2
  exact ⟨ret_two rfl rfl, bthen (bthen hb0 hb1) hb2⟩

set_option maxHeartbeats 1000000 in
theorem doP_lo (k a b f : Int) (w : World) (a0 : 0 ≤ a) (a1 : a ≤ 255) (b0 : 0 ≤ b) (b1 : b ≤ 255) (f0 : 0 ≤ f) (f1 : f ≤ 255) (h : k < 0) :
    Calls Try.prog 48 #[.int .i64 k, .int .u8 a, .int .u8 b, .int .u8 f] w fun e w' => e = .returned (.tuple #[.int .u8 (doR k a b f), .int .u8 (doF k a b f)]) ∧ Below w.heap.size w w' := by
  have HH := Lib.hid (show hasS f 1 = bitH f 7 from ask1 f0 f1)
  have HO := Lib.hid (do_out (a := a) (b := b) (f := f) (.inl h))
  go_enter Try.func48, Try.ntmps48
  go_wp2_with fail
  refine (has_any _ _ _).mono ?_
  rintro e w' ⟨rfl, rfl⟩
  rw [HH.out]
  go_wp2
  go_ret2
  exact ⟨ret_two HO.out.1.symm HO.out.2.symm, Below.refl _ _⟩

set_option maxHeartbeats 1000000 in
theorem doR_lo (k a b f : Int) (w : World) (a0 : 0 ≤ a) (a1 : a ≤ 255) (b0 : 0 ≤ b) (b1 : b ≤ 255) (f0 : 0 ≤ f) (f1 : f ≤ 255) (h : k < 0) :
    Calls Try.prog 49 #[.int .i64 k, .int .u8 a, .int .u8 b, .int .u8 f] w fun e w' => e = .returned (.tuple #[.int .u8 (doR k a b f), .int .u8 (doF k a b f)]) ∧ Below w.heap.size w w' := by
  have HO := Lib.hid (do_out (a := a) (b := b) (f := f) (.inl h))
  go_enter Try.func49, Try.ntmps49
  go_wp2_with fail
  refine (bit_any _ _ _ f0 f1 (by omega) (by omega)).mono ?_
  rintro e w0 ⟨rfl, hb0⟩
  rw [show bitH f (7 - Int.toNat 0) = bitH f 7 from rfl]
  go_wp2
  go_ret2
  exact ⟨ret_two HO.out.1.symm HO.out.2.symm, hb0⟩

set_option maxHeartbeats 1000000 in
theorem doP_hi (k a b f : Int) (w : World) (a0 : 0 ≤ a) (a1 : a ≤ 255) (b0 : 0 ≤ b) (b1 : b ≤ 255) (f0 : 0 ≤ f) (f1 : f ≤ 255) (h : 7 < k) :
    Calls Try.prog 48 #[.int .i64 k, .int .u8 a, .int .u8 b, .int .u8 f] w fun e w' => e = .returned (.tuple #[.int .u8 (doR k a b f), .int .u8 (doF k a b f)]) ∧ Below w.heap.size w w' := by
  have HH := Lib.hid (show hasS f 1 = bitH f 7 from ask1 f0 f1)
  have HO := Lib.hid (do_out (a := a) (b := b) (f := f) (.inr h))
  go_enter Try.func48, Try.ntmps48
  go_wp2_with fail
  refine (has_any _ _ _).mono ?_
  rintro e w' ⟨rfl, rfl⟩
  rw [HH.out]
  go_wp2
  go_ret2
  exact ⟨ret_two HO.out.1.symm HO.out.2.symm, Below.refl _ _⟩

set_option maxHeartbeats 1000000 in
theorem doR_hi (k a b f : Int) (w : World) (a0 : 0 ≤ a) (a1 : a ≤ 255) (b0 : 0 ≤ b) (b1 : b ≤ 255) (f0 : 0 ≤ f) (f1 : f ≤ 255) (h : 7 < k) :
    Calls Try.prog 49 #[.int .i64 k, .int .u8 a, .int .u8 b, .int .u8 f] w fun e w' => e = .returned (.tuple #[.int .u8 (doR k a b f), .int .u8 (doF k a b f)]) ∧ Below w.heap.size w w' := by
  have HO := Lib.hid (do_out (a := a) (b := b) (f := f) (.inr h))
  go_enter Try.func49, Try.ntmps49
  go_wp2_with fail
  refine (bit_any _ _ _ f0 f1 (by omega) (by omega)).mono ?_
  rintro e w0 ⟨rfl, hb0⟩
  rw [show bitH f (7 - Int.toNat 0) = bitH f 7 from rfl]
  go_wp2
  go_ret2
  exact ⟨ret_two HO.out.1.symm HO.out.2.symm, hb0⟩

theorem doP_any (k a b f : Int) (w : World) (a0 : 0 ≤ a) (a1 : a ≤ 255) (b0 : 0 ≤ b) (b1 : b ≤ 255) (f0 : 0 ≤ f) (f1 : f ≤ 255) :
    Calls Try.prog 48 #[.int .i64 k, .int .u8 a, .int .u8 b, .int .u8 f] w fun e w' => e = .returned (.tuple #[.int .u8 (doR k a b f), .int .u8 (doF k a b f)]) ∧ Below w.heap.size w w' := by
  by_cases hlo : k < 0
  · exact doP_lo k a b f w a0 a1 b0 b1 f0 f1 hlo
  · by_cases hhi : 7 < k
    · exact doP_hi k a b f w a0 a1 b0 b1 f0 f1 hhi
    · rcases (show k = 0 ∨ k = 1 ∨ k = 2 ∨ k = 3 ∨ k = 4 ∨ k = 5 ∨ k = 6 ∨ k = 7 by omega) with rfl | rfl | rfl | rfl | rfl | rfl | rfl | rfl
      · exact doP_0 a b f w a0 a1 b0 b1 f0 f1
      · exact doP_1 a b f w a0 a1 b0 b1 f0 f1
      · exact doP_2 a b f w a0 a1 b0 b1 f0 f1
      · exact doP_3 a b f w a0 a1 b0 b1 f0 f1
      · exact doP_4 a b f w a0 a1 b0 b1 f0 f1
      · exact doP_5 a b f w a0 a1 b0 b1 f0 f1
      · exact doP_6 a b f w a0 a1 b0 b1 f0 f1
      · exact doP_7 a b f w a0 a1 b0 b1 f0 f1

theorem doR_any (k a b f : Int) (w : World) (a0 : 0 ≤ a) (a1 : a ≤ 255) (b0 : 0 ≤ b) (b1 : b ≤ 255) (f0 : 0 ≤ f) (f1 : f ≤ 255) :
    Calls Try.prog 49 #[.int .i64 k, .int .u8 a, .int .u8 b, .int .u8 f] w fun e w' => e = .returned (.tuple #[.int .u8 (doR k a b f), .int .u8 (doF k a b f)]) ∧ Below w.heap.size w w' := by
  by_cases hlo : k < 0
  · exact doR_lo k a b f w a0 a1 b0 b1 f0 f1 hlo
  · by_cases hhi : 7 < k
    · exact doR_hi k a b f w a0 a1 b0 b1 f0 f1 hhi
    · rcases (show k = 0 ∨ k = 1 ∨ k = 2 ∨ k = 3 ∨ k = 4 ∨ k = 5 ∨ k = 6 ∨ k = 7 by omega) with rfl | rfl | rfl | rfl | rfl | rfl | rfl | rfl
      · exact doR_0 a b f w a0 a1 b0 b1 f0 f1
      · exact doR_1 a b f w a0 a1 b0 b1 f0 f1
      · exact doR_2 a b f w a0 a1 b0 b1 f0 f1
      · exact doR_3 a b f w a0 a1 b0 b1 f0 f1
      · exact doR_4 a b f w a0 a1 b0 b1 f0 f1
      · exact doR_5 a b f w a0 a1 b0 b1 f0 f1
      · exact doR_6 a b f w a0 a1 b0 b1 f0 f1
      · exact doR_7 a b f w a0 a1 b0 b1 f0 f1

set_option maxRecDepth 100000 in
set_option maxHeartbeats 2000000 in
theorem aluDoes_walk (k a b : Int) (w : World) (w0 : (Lit.int .i64 k).wf = true) (w1 : (Lit.int .u8 a).wf = true) (w2 : (Lit.int .u8 b).wf = true) :
    Calls Try.prog 14 #[.int .i64 k, .int .u8 a, .int .u8 b] w fun e w' => e = .returned (.bool true) ∧ Below w.heap.size w w' := by
  obtain ⟨k0, k1⟩ := bounds_i64 w0
  obtain ⟨a0, a1⟩ := bounds_u8 w1
  obtain ⟨b0, b1⟩ := bounds_u8 w2
  clear w0 w1 w2
  go_enter Try.func14, Try.ntmps14
  go_wp2
  go_loopw [7] (fun i wr => ∃ j : Nat, (j : Int) ≤ 6 ∧ i = .int .i64 (51 * j) ∧ Below w.heap.size w wr) (fun i _ => 306 - (intOf i).toNat)
  case atStart => exact ⟨0, by omega, rfl, Below.refl _ _⟩
  case round =>
    obtain ⟨j, hj, rfl, hbl⟩ := hrel
    by_cases hlt : (j : Int) < 6
    · go_wp2_with fail
      refine (doP_any k a b (51 * j) _ a0 a1 b0 b1 (by omega) (by omega)).mono ?_
      rintro e w1 ⟨rfl, hb1⟩
      go_wp2_with fail
      refine (doR_any k a b (51 * j) _ a0 a1 b0 b1 (by omega) (by omega)).mono ?_
      rintro e w2 ⟨rfl, hb2⟩
      go_wp2
      go_roundw
      case rel => exact ⟨j + 1, by omega, by go_num, bthen (bthen hbl hb1) hb2⟩
      case measure => simp [intOf]; omega
    · obtain rfl : j = 6 := by omega
      go_wp2_with fail
      refine (andA_any _ _ _ a0 a1 b0 b1).mono ?_
      rintro e w' ⟨rfl, rfl⟩
      go_wp2_with fail
      refine (xorA_any _ _ _ a0 a1 b0 b1).mono ?_
      rintro e w' ⟨rfl, rfl⟩
      go_wp2_with fail
      refine (orA_any _ _ _ a0 a1 b0 b1).mono ?_
      rintro e w' ⟨rfl, rfl⟩
      go_wp2_with fail
      refine (join_and _ _ _ a0 a1 b0 b1).mono ?_
      rintro e w1 ⟨rfl, hb1⟩
      go_wp2_with fail
      refine (join_xor _ _ _ a0 a1 b0 b1).mono ?_
      rintro e w2 ⟨rfl, hb2⟩
      go_wp2_with fail
      refine (join_or _ _ _ a0 a1 b0 b1).mono ?_
      rintro e w3 ⟨rfl, hb3⟩
      go_wp2_with fail
      refine (lives02 _).mono ?_
      rintro e w4 ⟨rfl, hb4⟩
      go_wp2
      go_ret
      exact ⟨rfl, bthen (bthen (bthen (bthen hbl hb1) hb2) hb3) hb4⟩

end Go.Proofs.Ytefkdjanneeomaa
