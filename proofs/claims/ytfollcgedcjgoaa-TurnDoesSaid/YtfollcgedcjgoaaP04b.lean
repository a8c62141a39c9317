/- Plain numbers for the laws of layer 4. No program stands here. -/
import Derived.Test.YtfollcgedcjgoaaTurn2
namespace Go.Proofs.Ytfollcgedcjgoaa
open Go.RowKit

theorem and64 {f : Int} (f0 : 0 ≤ f) (f1 : f ≤ 255) : bits .and .u8 f 64 = if bitH f 1 = true then 64 else 0 := byte_all (p := fun f => bits .and .u8 f 64 = if bitH f 1 = true then 64 else 0) (by decide +kernel) f0 f1
theorem testF_bd (n : Nat) (b y f : Int) : 0 ≤ testF n b y f ∧ testF n b y f ≤ 255 := flagsS_bd _ _ _ _ _ _ _ _
theorem testF_z (n : Nat) (b y f : Int) : bits .and .u8 (testF n b y f) 64 = if bitH b (7 - n) = true then 0 else 64 := by
  rw [and64 (testF_bd n b y f).1 (testF_bd n b y f).2]
  unfold testF
  rw [flagsS_bit _ _ _ _ _ _ _ _ (by omega)]
  cases bitH b (7 - n) <;> simp [sel8]
theorem test_same {n : Nat} {b c : Int} (h : bitH b (7 - n) = bitH c (7 - n)) (y f : Int) : testF n b y f = testF n c y f := by unfold testF; rw [h]
theorem set_z {n : Nat} (b : Int) (hn : n < 8) : bits .and .u8 (testF n (putR n b true) 0 0) 64 = 0 := by
  rw [testF_z, putR_bit _ _ _ (by omega), if_pos rfl, if_pos rfl]
theorem res_z {n : Nat} (b : Int) (hn : n < 8) : bits .and .u8 (testF n (putR n b false) 0 0) 64 = 64 := by
  rw [testF_z, putR_bit _ _ _ (by omega), if_pos rfl]; rfl
theorem other_same {i j : Nat} (b : Int) (on : Bool) (hi : i < 8) (hj : j < 8) (h : i ≠ j) : testF j (putR i b on) 0 0 = testF j b 0 0 :=
  test_same (by rw [putR_bit _ _ _ (by omega), if_neg (by omega)]) 0 0

theorem back_01 {b : Int} (c d : Bool) (b0 : 0 ≤ b) (b1 : b ≤ 255) : turnR 1 (turnR 0 b c) d = b := by
  cases c <;> cases d
  · exact byte_all (p := fun b => turnR 1 (turnR 0 b false) false = b) (by decide +kernel) b0 b1
  · exact byte_all (p := fun b => turnR 1 (turnR 0 b false) true = b) (by decide +kernel) b0 b1
  · exact byte_all (p := fun b => turnR 1 (turnR 0 b true) false = b) (by decide +kernel) b0 b1
  · exact byte_all (p := fun b => turnR 1 (turnR 0 b true) true = b) (by decide +kernel) b0 b1
theorem back_23 {b : Int} (c : Bool) (b0 : 0 ≤ b) (b1 : b ≤ 255) : turnR 3 (turnR 2 b c) (turnC 2 b) = b ∧ turnC 3 (turnR 2 b c) = c := by
  cases c
  · exact byte_all (p := fun b => turnR 3 (turnR 2 b false) (turnC 2 b) = b ∧ turnC 3 (turnR 2 b false) = false) (by decide +kernel) b0 b1
  · exact byte_all (p := fun b => turnR 3 (turnR 2 b true) (turnC 2 b) = b ∧ turnC 3 (turnR 2 b true) = true) (by decide +kernel) b0 b1
theorem turnF_c (r : Int) (c : Bool) : bitH (turnF r c) 7 = c := by unfold turnF; rw [flagsS_bit _ _ _ _ _ _ _ _ (by omega)]; simp [sel8]
def rotN (c : Bool) (b : Int) : Nat → Int
  | 0 => b
  | i + 1 => turnR 0 (rotN c b i) c
theorem rotN_bd (c : Bool) {b : Int} (b0 : 0 ≤ b) (b1 : b ≤ 255) (i : Nat) : 0 ≤ rotN c b i ∧ rotN c b i ≤ 255 := by
  cases i with
  | zero => exact ⟨b0, b1⟩
  | succ i => exact turnR_bd _ _ _
theorem rot_8 {b : Int} (c : Bool) (b0 : 0 ≤ b) (b1 : b ≤ 255) : rotN c b 8 = b := by
  cases c
  · exact byte_all (p := fun b => rotN false b 8 = b) (by decide +kernel) b0 b1
  · exact byte_all (p := fun b => rotN true b 8 = b) (by decide +kernel) b0 b1
theorem put_twice {n : Nat} (b : Int) (x y : Bool) : putR n (putR n b x) y = putR n b y :=
  byte_ext (putR_bd _ _ _).1 (putR_bd _ _ _).2 (putR_bd _ _ _).1 (putR_bd _ _ _).2 fun j hj => by
    rw [putR_bit _ _ _ hj, putR_bit _ _ _ hj, putR_bit _ _ _ hj]; split <;> rfl
theorem lives4_num : doTR 0 128 0 = 1 ∧ doTF 0 128 0 = 1 ∧ rldA 18 52 = 19 ∧ rldM 18 52 = 66 := by decide +kernel

end Go.Proofs.Ytfollcgedcjgoaa
