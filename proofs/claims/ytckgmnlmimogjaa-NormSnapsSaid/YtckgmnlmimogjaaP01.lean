/- Plain numbers and bits for layer 1: bits of a byte, the highest first; a byte of bits. No program stands here. -/
import Derived.Test.YtckgmnlmimogjaaBase
namespace Go.Proofs.Ytckgmnlmimogjaa
open Go.RowKit

/-- what 'Bits' divides by at round j, and what is left of the number there -/
def kk (j : Nat) : Int := 128 / 2 ^ j
def nn (b : Int) (j : Nat) : Int := b % 2 ^ (8 - j)
/-- bit j of a byte, the highest first -/
def bitH (b : Int) (j : Nat) : Bool := decide (kk j ≤ nn b j)

theorem nat8 {j : Nat} (h : j < 8) : j = 0 ∨ j = 1 ∨ j = 2 ∨ j = 3 ∨ j = 4 ∨ j = 5 ∨ j = 6 ∨ j = 7 := by omega

theorem kk_step {j : Nat} (h : j < 8) : 1 ≤ kk j ∧ kk j ≤ 128 ∧ kk (j + 1) = kk j / 2 := by
  rcases nat8 h with rfl | rfl | rfl | rfl | rfl | rfl | rfl | rfl <;> decide
theorem kk_8 : kk 8 = 0 := by decide
theorem nn_0 {b : Int} (h0 : 0 ≤ b) (h1 : b ≤ 255) : nn b 0 = b := by simp only [nn]; omega
theorem nn_bd (b : Int) {j : Nat} (h : j ≤ 8) : 0 ≤ nn b j ∧ nn b j ≤ 255 := by
  rcases (show j = 8 ∨ j < 8 by omega) with rfl | h
  · simp only [nn]; omega
  · rcases nat8 h with rfl | rfl | rfl | rfl | rfl | rfl | rfl | rfl <;> (simp only [nn]; omega)
theorem nn_yes (b : Int) {j : Nat} (h : j < 8) (hk : kk j ≤ nn b j) : nn b (j + 1) = nn b j - kk j := by
  rcases nat8 h with rfl | rfl | rfl | rfl | rfl | rfl | rfl | rfl <;> (simp only [nn, kk] at *; omega)
theorem nn_no (b : Int) {j : Nat} (h : j < 8) (hk : nn b j < kk j) : nn b (j + 1) = nn b j := by
  rcases nat8 h with rfl | rfl | rfl | rfl | rfl | rfl | rfl | rfl <;> (simp only [nn, kk] at *; omega)

/-- the number of the first i bits of a list -/
def byteN (f : Nat → Bool) : Nat → Int
  | 0 => 0
  | i + 1 => 2 * byteN f i + (if f i then 1 else 0)
theorem byteN_bd (f : Nat → Bool) (i : Nat) : 0 ≤ byteN f i ∧ byteN f i < 2 ^ i := by
  induction i with
  | zero => simp [byteN]
  | succ i ih =>
    have e : (2 : Int) ^ (i + 1) = 2 * 2 ^ i := by rw [Int.pow_succ]; omega
    simp only [byteN, e]
    split <;> omega
theorem byteN_le (f : Nat → Bool) {i : Nat} (h : i ≤ 8) : 0 ≤ byteN f i ∧ byteN f i ≤ 255 := by
  have := byteN_bd f i
  have : (2 : Int) ^ i ≤ 2 ^ 8 := by
    rcases (show i = 8 ∨ i < 8 by omega) with rfl | h
    · exact Int.le_refl _
    · rcases nat8 h with rfl | rfl | rfl | rfl | rfl | rfl | rfl | rfl <;> decide
  omega
theorem byteN_congr {f g : Nat → Bool} {n : Nat} (h : ∀ j, j < n → f j = g j) : byteN f n = byteN g n := by
  induction n with
  | zero => rfl
  | succ n ih => simp only [byteN]; rw [ih fun j hj => h j (by omega), h n (by omega)]
/-- the byte of eight bits -/
def byteS (f : Nat → Bool) : Int := byteN f 8
theorem byteS_bd (f : Nat → Bool) : 0 ≤ byteS f ∧ byteS f ≤ 255 := byteN_le f (Nat.le_refl 8)

/-- eight named bits as a list -/
def sel8 (a b c d e f g h : Bool) : Nat → Bool
  | 0 => a | 1 => b | 2 => c | 3 => d | 4 => e | 5 => f | 6 => g | 7 => h | _ => false
def flagsS (a b c d e f g h : Bool) : Int := byteS (sel8 a b c d e f g h)
theorem flagsS_bd (a b c d e f g h : Bool) : 0 ≤ flagsS a b c d e f g h ∧ flagsS a b c d e f g h ≤ 255 := byteS_bd _

/-- even number of ones among the first i bits -/
def evenN (f : Nat → Bool) : Nat → Bool
  | 0 => true
  | i + 1 => if f i then !(evenN f i) else evenN f i
def evenR (b : Int) : Bool := evenN (bitH b) 8

def ofR (b : Int) : Int := flagsS (bitH b 0) (b == 0) (bitH b 2) false (bitH b 4) false false false
def ofPR (b : Int) : Int := flagsS (bitH b 0) (b == 0) (bitH b 2) false (bitH b 4) (evenR b) false false

/-- Every statement on all bytes that a computer may decide. -/
theorem byte_all {p : Int → Prop} (h : ∀ n : Fin 256, p ((n.val : Nat) : Int)) {b : Int} (h0 : 0 ≤ b) (h1 : b ≤ 255) : p b := by
  obtain ⟨n, rfl⟩ := Int.eq_ofNat_of_zero_le h0
  exact h ⟨n, by omega⟩

theorem byteS_bits {b : Int} (h0 : 0 ≤ b) (h1 : b ≤ 255) : byteS (bitH b) = b :=
  byte_all (p := fun b => byteS (bitH b) = b) (by decide +kernel) h0 h1

/-- With, Has, Of, as the program reckons them -/
def withS (f b : Int) (on : Bool) : Int := if on = true then bits .or .u8 f b else bits .andNot .u8 f b
def hasS (f b : Int) : Bool := bits .and .u8 f b != 0
def ofS (b : Int) : Int := if (b == 0) = true then bits .or .u8 (bits .and .u8 b 168) 64 else bits .and .u8 b 168
theorem ofS_eq {b : Int} (h0 : 0 ≤ b) (h1 : b ≤ 255) : ofS b = ofR b :=
  byte_all (p := fun b => ofS b = ofR b) (by decide +kernel) h0 h1
theorem ofPS_eq {b : Int} (h0 : 0 ≤ b) (h1 : b ≤ 255) : withS (ofS b) 4 (evenR b) = ofPR b :=
  byte_all (p := fun b => withS (ofS b) 4 (evenR b) = ofPR b) (by decide +kernel) h0 h1

/-- the number of ones of a byte, and the library's table of it -/
def pop (n : Nat) : Int := ((n % 2 + n / 2 % 2 + n / 4 % 2 + n / 8 % 2 + n / 16 % 2 + n / 32 % 2 + n / 64 % 2 + n / 128 % 2 : Nat) : Int)
theorem pop_bd (n : Nat) : 0 ≤ pop n ∧ pop n ≤ 8 := by simp only [pop]; omega
def popTab : ByteArray := ⟨#[0, 1, 1, 2, 1, 2, 2, 3, 1, 2, 2, 3, 2, 3, 3, 4, 1, 2, 2, 3, 2, 3, 3, 4, 2, 3, 3, 4, 3, 4, 4, 5, 1, 2, 2, 3, 2, 3, 3, 4, 2, 3, 3, 4, 3, 4, 4, 5, 2, 3, 3, 4, 3, 4, 4, 5, 3, 4, 4, 5, 4, 5, 5, 6, 1, 2, 2, 3, 2, 3, 3, 4, 2, 3, 3, 4, 3, 4, 4, 5, 2, 3, 3, 4, 3, 4, 4, 5, 3, 4, 4, 5, 4, 5, 5, 6, 2, 3, 3, 4, 3, 4, 4, 5, 3, 4, 4, 5, 4, 5, 5, 6, 3, 4, 4, 5, 4, 5, 5, 6, 4, 5, 5, 6, 5, 6, 6, 7, 1, 2, 2, 3, 2, 3, 3, 4, 2, 3, 3, 4, 3, 4, 4, 5, 2, 3, 3, 4, 3, 4, 4, 5, 3, 4, 4, 5, 4, 5, 5, 6, 2, 3, 3, 4, 3, 4, 4, 5, 3, 4, 4, 5, 4, 5, 5, 6, 3, 4, 4, 5, 4, 5, 5, 6, 4, 5, 5, 6, 5, 6, 6, 7, 2, 3, 3, 4, 3, 4, 4, 5, 3, 4, 4, 5, 4, 5, 5, 6, 3, 4, 4, 5, 4, 5, 5, 6, 4, 5, 5, 6, 5, 6, 6, 7, 3, 4, 4, 5, 4, 5, 5, 6, 4, 5, 5, 6, 5, 6, 6, 7, 4, 5, 5, 6, 5, 6, 6, 7, 5, 6, 6, 7, 6, 7, 7, 8]⟩
theorem popTab_size : popTab.size = 256 := by decide +kernel
theorem pop_tab : ∀ n : Fin 256, (((popTab[n.val]'(by rw [popTab_size]; exact n.isLt)).toNat : Nat) : Int) = pop n.val := by decide +kernel
theorem pop_tab' (n : Nat) (h : n < 256) : wrap64 (((popTab[n]'(by rw [popTab_size]; exact h)).toNat : Nat) : Int) = pop n := by
  have e := pop_tab ⟨n, h⟩
  simp only at e
  rw [e, IntWalk.wrap64_in _ (by have := pop_bd n; omega)]
theorem pop_even (n : Nat) (h : n < 256) : (pop n % 2 == 0) = evenR n := by
  have : ∀ n : Fin 256, (pop n.val % 2 == 0) = evenR (n.val : Nat) := by decide +kernel
  exact this ⟨n, h⟩

/-! Bits of what is joined. -/
theorem bitH_tb {n j : Nat} (h : n < 256) (hj : j < 8) : bitH (n : Nat) j = n.testBit (7 - j) := by
  have : ∀ n : Fin 256, ∀ j : Fin 8, bitH (n.val : Nat) j.val = n.val.testBit (7 - j.val) := by decide +kernel
  exact this ⟨n, h⟩ ⟨j, hj⟩
theorem tb_not {n k : Nat} (h : n < 256) (hk : k < 8) : (255 - n).testBit k = !(n.testBit k) := by
  have : ∀ n : Fin 256, ∀ k : Fin 8, (255 - n.val).testBit k.val = !(n.val.testBit k.val) := by decide +kernel
  exact this ⟨n, h⟩ ⟨k, hk⟩
theorem and_bd (a b : Nat) (ha : a < 256) : a &&& b < 256 := Nat.lt_of_le_of_lt Nat.and_le_left ha
theorem or_bd (a b : Nat) (ha : a < 256) (hb : b < 256) : a ||| b < 256 := Nat.or_lt_two_pow (n := 8) ha hb
theorem xor_bd (a b : Nat) (ha : a < 256) (hb : b < 256) : a ^^^ b < 256 := Nat.xor_lt_two_pow (n := 8) ha hb

theorem bits_bd (op : BinOp) {a b : Int} (h0 : 0 ≤ a) (h1 : a ≤ 255) (h2 : 0 ≤ b) (h3 : b ≤ 255) (ho : op = .and ∨ op = .or ∨ op = .xor ∨ op = .andNot) : 0 ≤ bits op .u8 a b ∧ bits op .u8 a b ≤ 255 := by
  obtain ⟨n, rfl⟩ := Int.eq_ofNat_of_zero_le h0
  obtain ⟨m, rfl⟩ := Int.eq_ofNat_of_zero_le h2
  have a1 := and_bd n m (by omega)
  have a2 := or_bd n m (by omega) (by omega)
  have a3 := xor_bd n m (by omega) (by omega)
  have a4 := and_bd n (255 - m) (by omega)
  rcases ho with rfl | rfl | rfl | rfl
  · rw [u8_and_nat n m (by omega) (by omega)]; omega
  · rw [u8_or_nat n m (by omega) (by omega)]; omega
  · rw [u8_xor_nat n m (by omega) (by omega)]; omega
  · rw [u8_andNot_nat n m (by omega) (by omega)]; omega

section
variable {a b : Int} (h0 : 0 ≤ a) (h1 : a ≤ 255) (h2 : 0 ≤ b) (h3 : b ≤ 255) {j : Nat} (hj : j < 8)
include h0 h1 h2 h3 hj
theorem bitH_andB : bitH (bits .and .u8 a b) j = (bitH a j && bitH b j) := by
  obtain ⟨n, rfl⟩ := Int.eq_ofNat_of_zero_le h0
  obtain ⟨m, rfl⟩ := Int.eq_ofNat_of_zero_le h2
  rw [u8_and_nat n m (by omega) (by omega), bitH_tb (and_bd n m (by omega)) hj, bitH_tb (by omega) hj, bitH_tb (by omega) hj, Nat.testBit_and]
theorem bitH_orB : bitH (bits .or .u8 a b) j = (bitH a j || bitH b j) := by
  obtain ⟨n, rfl⟩ := Int.eq_ofNat_of_zero_le h0
  obtain ⟨m, rfl⟩ := Int.eq_ofNat_of_zero_le h2
  rw [u8_or_nat n m (by omega) (by omega), bitH_tb (or_bd n m (by omega) (by omega)) hj, bitH_tb (by omega) hj, bitH_tb (by omega) hj, Nat.testBit_or]
theorem bitH_xorB : bitH (bits .xor .u8 a b) j = (bitH a j ^^ bitH b j) := by
  obtain ⟨n, rfl⟩ := Int.eq_ofNat_of_zero_le h0
  obtain ⟨m, rfl⟩ := Int.eq_ofNat_of_zero_le h2
  rw [u8_xor_nat n m (by omega) (by omega), bitH_tb (xor_bd n m (by omega) (by omega)) hj, bitH_tb (by omega) hj, bitH_tb (by omega) hj, Nat.testBit_xor]
theorem bitH_andNotB : bitH (bits .andNot .u8 a b) j = (bitH a j && !(bitH b j)) := by
  obtain ⟨n, rfl⟩ := Int.eq_ofNat_of_zero_le h0
  obtain ⟨m, rfl⟩ := Int.eq_ofNat_of_zero_le h2
  rw [u8_andNot_nat n m (by omega) (by omega), bitH_tb (and_bd n _ (by omega)) hj, bitH_tb (by omega) hj, bitH_tb (by omega) hj, Nat.testBit_and, tb_not (by omega) (by omega)]
end

theorem byte_ext {a b : Int} (h0 : 0 ≤ a) (h1 : a ≤ 255) (h2 : 0 ≤ b) (h3 : b ≤ 255) (h : ∀ j, j < 8 → bitH a j = bitH b j) : a = b := by
  rw [← byteS_bits h0 h1, ← byteS_bits h2 h3]
  exact byteN_congr h
theorem byteS_is {a : Int} {f : Nat → Bool} (h0 : 0 ≤ a) (h1 : a ≤ 255) (h : ∀ j, j < 8 → bitH a j = f j) : a = byteS f := by
  rw [← byteS_bits h0 h1]
  exact byteN_congr h
theorem ne0_bits {a : Int} (h0 : 0 ≤ a) (h1 : a ≤ 255) : (a != 0) = (bitH a 0 || bitH a 1 || bitH a 2 || bitH a 3 || bitH a 4 || bitH a 5 || bitH a 6 || bitH a 7) :=
  byte_all (p := fun a => (a != 0) = (bitH a 0 || bitH a 1 || bitH a 2 || bitH a 3 || bitH a 4 || bitH a 5 || bitH a 6 || bitH a 7)) (by decide +kernel) h0 h1

theorem withS_bd {f b : Int} (h0 : 0 ≤ f) (h1 : f ≤ 255) (h2 : 0 ≤ b) (h3 : b ≤ 255) (on : Bool) : 0 ≤ withS f b on ∧ withS f b on ≤ 255 := by
  unfold withS
  split
  · exact bits_bd .or h0 h1 h2 h3 (by simp)
  · exact bits_bd .andNot h0 h1 h2 h3 (by simp)
theorem withS_bit {f b : Int} (h0 : 0 ≤ f) (h1 : f ≤ 255) (h2 : 0 ≤ b) (h3 : b ≤ 255) (on : Bool) {j : Nat} (hj : j < 8) : bitH (withS f b on) j = if bitH b j then on else bitH f j := by
  unfold withS
  cases on
  · rw [if_neg (by simp), bitH_andNotB h0 h1 h2 h3 hj]
    cases bitH b j <;> simp
  · rw [if_pos rfl, bitH_orB h0 h1 h2 h3 hj]
    cases bitH b j <;> simp

theorem flagsS_bit (a b c d e f g h : Bool) {j : Nat} (hj : j < 8) : bitH (flagsS a b c d e f g h) j = sel8 a b c d e f g h j := by
  have : ∀ a b c d e f g h : Bool, ∀ j : Fin 8, bitH (flagsS a b c d e f g h) j.val = sel8 a b c d e f g h j.val := by decide +kernel
  exact this a b c d e f g h ⟨j, hj⟩
theorem byteS_sel (f : Nat → Bool) : byteS f = flagsS (f 0) (f 1) (f 2) (f 3) (f 4) (f 5) (f 6) (f 7) := by
  refine byteN_congr fun j hj => ?_
  rcases nat8 hj with rfl | rfl | rfl | rfl | rfl | rfl | rfl | rfl <;> rfl
theorem byteS_bit (f : Nat → Bool) {j : Nat} (hj : j < 8) : bitH (byteS f) j = f j := by
  rw [byteS_sel, flagsS_bit _ _ _ _ _ _ _ _ hj]
  rcases nat8 hj with rfl | rfl | rfl | rfl | rfl | rfl | rfl | rfl <;> rfl

end Go.Proofs.Ytckgmnlmimogjaa
