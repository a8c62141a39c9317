/- Plain numbers for layer 4: bytes turned, bits tested, halves. No program stands here. -/
import Derived.Test.YtfollcgedcjgoaaP02
namespace Go.Proofs.Ytfollcgedcjgoaa
open Go.RowKit

def turnIn (k b : Int) (c : Bool) : Bool := if k = 0 ∨ k = 5 then bitH b 0 else if k = 1 then bitH b 7 else if k = 2 ∨ k = 3 then c else k == 6
def turnB (k b : Int) (c : Bool) (j : Nat) : Bool := if k % 2 = 0 then (if j = 7 then turnIn k b c else bitH b (j + 1)) else (if j = 0 then turnIn k b c else bitH b (j - 1))
def turnR (k b : Int) (c : Bool) : Int := byteS (turnB k b c)
def turnC (k b : Int) : Bool := if k % 2 = 0 then bitH b 0 else bitH b 7
/-- the flags of a byte, with parity, and C -/
def turnF (r : Int) (c : Bool) : Int := flagsS (bitH r 0) (r == 0) (bitH r 2) false (bitH r 4) (evenR r) false c
def accF (f r : Int) (c : Bool) : Int := flagsS (bitH f 0) (bitH f 1) (bitH r 2) false (bitH r 4) (bitH f 5) false c
theorem turnR_bd (k b : Int) (c : Bool) : 0 ≤ turnR k b c ∧ turnR k b c ≤ 255 := byteS_bd _
theorem turnF_bd (r : Int) (c : Bool) : 0 ≤ turnF r c ∧ turnF r c ≤ 255 := flagsS_bd _ _ _ _ _ _ _ _
theorem accF_bd (f r : Int) (c : Bool) : 0 ≤ accF f r c ∧ accF f r c ≤ 255 := flagsS_bd _ _ _ _ _ _ _ _

/-- one up, one down -/
def upR (b : Int) (i : Bool) : Int := byteS fun j => if j = 7 then i else bitH b (j + 1)
def downR (b : Int) (i : Bool) : Int := byteS fun j => if j = 0 then i else bitH b (j - 1)
theorem up_num {b : Int} (i : Bool) (b0 : 0 ≤ b) (b1 : b ≤ 255) : bits .or .u8 (b * 2 % 256) (b2i i) = upR b i := by
  cases i
  · exact byte_all (p := fun b => bits .or .u8 (b * 2 % 256) (b2i false) = upR b false) (by decide +kernel) b0 b1
  · exact byte_all (p := fun b => bits .or .u8 (b * 2 % 256) (b2i true) = upR b true) (by decide +kernel) b0 b1
theorem down_num {b : Int} (i : Bool) (b0 : 0 ≤ b) (b1 : b ≤ 255) : bits .or .u8 (b / 2) (b2i i * 128) = downR b i := by
  cases i
  · exact byte_all (p := fun b => bits .or .u8 (b / 2) (b2i false * 128) = downR b false) (by decide +kernel) b0 b1
  · exact byte_all (p := fun b => bits .or .u8 (b / 2) (b2i true * 128) = downR b true) (by decide +kernel) b0 b1
theorem top_is {b : Int} (b0 : 0 ≤ b) (b1 : b ≤ 255) : b / 128 = b2i (bitH b 0) := byte_all (p := fun b => b / 128 = b2i (bitH b 0)) (by decide +kernel) b0 b1
theorem low_is {b : Int} (b0 : 0 ≤ b) (b1 : b ≤ 255) : bits .and .u8 b 1 = b2i (bitH b 7) := byte_all (p := fun b => bits .and .u8 b 1 = b2i (bitH b 7)) (by decide +kernel) b0 b1
theorem low_mod {b : Int} (b0 : 0 ≤ b) (b1 : b ≤ 255) : b % 2 = b2i (bitH b 7) := byte_all (p := fun b => b % 2 = b2i (bitH b 7)) (by decide +kernel) b0 b1
theorem turnR_up {k : Int} (b : Int) (c : Bool) (h : k % 2 = 0) : turnR k b c = upR b (turnIn k b c) := by
  unfold turnR upR; congr 1; funext j; unfold turnB; rw [if_pos h]
theorem turnR_down {k : Int} (b : Int) (c : Bool) (h : k % 2 ≠ 0) : turnR k b c = downR b (turnIn k b c) := by
  unfold turnR downR; congr 1; funext j; unfold turnB; rw [if_neg h]
theorem BV.b2i (c : Bool) : BV (b2i c) (fun j => c && (j == 7)) := by
  cases c
  · exact BV.k0.congr fun _ _ => by simp
  · exact BV.k1.congr fun _ _ => by simp
theorem turn_fin (r : Int) (c : Bool) : bits .or .u8 (ofPR r) (b2i c) = turnF r c :=
  ((BV.ofP r).or (BV.b2i c)) |>.eq (BV.flags _ _ _ _ _ _ _ _)
    (all8 (by simp [sel8]) (by simp [sel8]) (by simp [sel8]) (by simp [sel8]) (by simp [sel8]) (by simp [sel8]) (by simp [sel8]) (by simp [sel8]))
theorem l196 : bitH 196 0 = true ∧ bitH 196 1 = true ∧ bitH 196 2 = false ∧ bitH 196 3 = false ∧ bitH 196 4 = false ∧ bitH 196 5 = true ∧ bitH 196 6 = false ∧ bitH 196 7 = false := by decide +kernel
theorem l40 : bitH 40 0 = false ∧ bitH 40 1 = false ∧ bitH 40 2 = true ∧ bitH 40 3 = false ∧ bitH 40 4 = true ∧ bitH 40 5 = false ∧ bitH 40 6 = false ∧ bitH 40 7 = false := by decide +kernel
theorem acc_fin {f r : Int} (c : Bool) (f0 : 0 ≤ f) (f1 : f ≤ 255) (r0 : 0 ≤ r) (r1 : r ≤ 255) : bits .or .u8 (bits .or .u8 (bits .and .u8 f 196) (bits .and .u8 r 40)) (b2i c) = accF f r c :=
  ((((BV.self f0 f1).and (BV.num 196 (by omega))).or ((BV.self r0 r1).and (BV.num 40 (by omega)))).or (BV.b2i c)) |>.eq (BV.flags _ _ _ _ _ _ _ _)
    (all8 (by simp [sel8, l196, l40]) (by simp [sel8, l196, l40]) (by simp [sel8, l196, l40]) (by simp [sel8, l196, l40]) (by simp [sel8, l196, l40]) (by simp [sel8, l196, l40]) (by simp [sel8, l196, l40]) (by simp [sel8, l196, l40]))

/-! Bits. -/
def putR (n : Nat) (b : Int) (on : Bool) : Int := byteS fun j => if j = 7 - n then on else bitH b j
theorem putR_bd (n : Nat) (b : Int) (on : Bool) : 0 ≤ putR n b on ∧ putR n b on ≤ 255 := byteS_bd _
theorem putR_bit (n : Nat) (b : Int) (on : Bool) {j : Nat} (hj : j < 8) : bitH (putR n b on) j = if j = 7 - n then on else bitH b j := byteS_bit _ hj
def testF (n : Nat) (b y f : Int) : Int := flagsS (bitH b (7 - n) && n == 7) (!bitH b (7 - n)) (bitH y 2) true (bitH y 4) (!bitH b (7 - n)) false (bitH f 7)
theorem pow_bit : ∀ n : Fin 8, ∀ j : Fin 8, bitH (2 ^ n.val) j.val = (j.val == 7 - n.val) := by decide +kernel
theorem BV.pow {n : Nat} (h : n < 8) : BV (2 ^ n) (fun j => j == 7 - n) := by
  refine ⟨?_, fun j hj => pow_bit ⟨n, h⟩ ⟨j, hj⟩⟩
  rcases nat8 h with rfl | rfl | rfl | rfl | rfl | rfl | rfl | rfl <;> decide
theorem set_num {n : Nat} {b : Int} (h : n < 8) (b0 : 0 ≤ b) (b1 : b ≤ 255) : bits .or .u8 b (2 ^ n) = putR n b true :=
  ((BV.self b0 b1).or (BV.pow h)) |>.eq (BV.byte _) fun j _ => by by_cases e : j = 7 - n <;> simp [e]
theorem res_num {n : Nat} {b : Int} (h : n < 8) (b0 : 0 ≤ b) (b1 : b ≤ 255) : bits .andNot .u8 b (2 ^ n) = putR n b false :=
  ((BV.self b0 b1).andNot (BV.pow h)) |>.eq (BV.byte _) fun j _ => by by_cases e : j = 7 - n <;> simp [e]
theorem shr_bit : ∀ n : Fin 8, ∀ b : Fin 256, (((b.val : Int) / 2 ^ n.val) % 2 == 1) = bitH (b.val : Int) (7 - n.val) := by decide +kernel
theorem shr_num {n : Nat} {b : Int} (h : n < 8) (b0 : 0 ≤ b) (b1 : b ≤ 255) : ((b / 2 ^ n) % 2 == 1) = bitH b (7 - n) :=
  byte_all (p := fun b => ((b / 2 ^ n) % 2 == 1) = bitH b (7 - n)) (fun b => shr_bit ⟨n, h⟩ b) b0 b1
theorem BV.testBase {f y : Int} (f0 : 0 ≤ f) (f1 : f ≤ 255) (y0 : 0 ≤ y) (y1 : y ≤ 255) :
    BV (bits .or .u8 (bits .or .u8 (bits .and .u8 f 1) 16) (bits .and .u8 y 40)) (sel8 false false (bitH y 2) true (bitH y 4) false false (bitH f 7)) :=
  ((((BV.self f0 f1).and BV.k1).or BV.k16).or ((BV.self y0 y1).and (BV.num 40 (by omega)))).congr
    (all8 (by simp [sel8, l40]) (by simp [sel8, l40]) (by simp [sel8, l40]) (by simp [sel8, l40]) (by simp [sel8, l40]) (by simp [sel8, l40]) (by simp [sel8, l40]) (by simp [sel8, l40]))
theorem test_off {n : Nat} {b f y : Int} (h : bitH b (7 - n) = false) (f0 : 0 ≤ f) (f1 : f ≤ 255) (y0 : 0 ≤ y) (y1 : y ≤ 255) :
    bits .or .u8 (bits .or .u8 (bits .or .u8 (bits .or .u8 (bits .and .u8 f 1) 16) (bits .and .u8 y 40)) 64) 4 = testF n b y f := by
  unfold testF
  rw [h]
  exact (((BV.testBase f0 f1 y0 y1).or BV.k64).or BV.k4) |>.eq (BV.flags _ _ _ _ _ _ _ _)
    (all8 (by simp [sel8]) (by simp [sel8]) (by simp [sel8]) (by simp [sel8]) (by simp [sel8]) (by simp [sel8]) (by simp [sel8]) (by simp [sel8]))
theorem test_on {n : Nat} {b f y : Int} (h : bitH b (7 - n) = true) (f0 : 0 ≤ f) (f1 : f ≤ 255) (y0 : 0 ≤ y) (y1 : y ≤ 255) :
    withS (bits .or .u8 (bits .or .u8 (bits .and .u8 f 1) 16) (bits .and .u8 y 40)) 128 (n == 7) = testF n b y f := by
  unfold testF
  rw [h]
  exact ((BV.testBase f0 f1 y0 y1).with_ BV.k128 (n == 7)) |>.eq (BV.flags _ _ _ _ _ _ _ _)
    (all8 (by simp [sel8]) (by simp [sel8]) (by simp [sel8]) (by simp [sel8]) (by simp [sel8]) (by simp [sel8]) (by simp [sel8]) (by simp [sel8]))

/-! Halves. -/
def rldA (a m : Int) : Int := 16 * (a / 16) + m / 16
def rldM (a m : Int) : Int := 16 * (m % 16) + a % 16
def rrdA (a m : Int) : Int := 16 * (a / 16) + m % 16
def rrdM (a m : Int) : Int := 16 * (a % 16) + m / 16
theorem or_half : ∀ p q : Fin 16, bits .or .u8 (16 * (p.val : Int)) (q.val : Int) = 16 * (p.val : Int) + (q.val : Int) := by decide +kernel
theorem or_halves {p q : Int} (p0 : 0 ≤ p) (p1 : p ≤ 15) (q0 : 0 ≤ q) (q1 : q ≤ 15) : bits .or .u8 (16 * p) q = 16 * p + q := by
  obtain ⟨n, rfl⟩ := Int.eq_ofNat_of_zero_le p0
  obtain ⟨m, rfl⟩ := Int.eq_ofNat_of_zero_le q0
  exact or_half ⟨n, by omega⟩ ⟨m, by omega⟩
theorem high_num {a : Int} (a0 : 0 ≤ a) (a1 : a ≤ 255) : bits .andNot .u8 a 15 = 16 * (a / 16) := byte_all (p := fun a => bits .andNot .u8 a 15 = 16 * (a / 16)) (by decide +kernel) a0 a1
theorem low_num {a : Int} (a0 : 0 ≤ a) (a1 : a ≤ 255) : bits .and .u8 a 15 = a % 16 := byte_all (p := fun a => bits .and .u8 a 15 = a % 16) (by decide +kernel) a0 a1
theorem shl4_num {a : Int} : a * 16 % 256 = 16 * (a % 16) := by omega
theorem halves_bd {a m : Int} (a0 : 0 ≤ a) (a1 : a ≤ 255) (m0 : 0 ≤ m) (m1 : m ≤ 255) : (0 ≤ rldA a m ∧ rldA a m ≤ 255) ∧ (0 ≤ rldM a m ∧ rldM a m ≤ 255) ∧ (0 ≤ rrdA a m ∧ rrdA a m ≤ 255) ∧ (0 ≤ rrdM a m ∧ rrdM a m ≤ 255) := by
  unfold rldA rldM rrdA rrdM; omega
theorem halves_back {a m : Int} (a0 : 0 ≤ a) (a1 : a ≤ 255) (m0 : 0 ≤ m) (m1 : m ≤ 255) : rrdA (rldA a m) (rldM a m) = a ∧ rrdM (rldA a m) (rldM a m) = m := by
  unfold rldA rldM rrdA rrdM; omega
theorem half_fin {r f : Int} (f0 : 0 ≤ f) (f1 : f ≤ 255) : bits .or .u8 (ofPR r) (bits .and .u8 f 1) = turnF r (bitH f 7) := by
  rw [low_is f0 f1]; exact turn_fin r _

end Go.Proofs.Ytfollcgedcjgoaa
