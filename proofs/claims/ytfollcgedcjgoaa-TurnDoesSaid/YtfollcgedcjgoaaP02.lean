/- Plain numbers for layers 2 and 5: sums and differences of bytes, and what they tell. No program stands here. -/
import Derived.Test.YtfollcgedcjgoaaP01
namespace Go.Proofs.Ytfollcgedcjgoaa
open Go.RowKit

def b2i (c : Bool) : Int := if c then 1 else 0
theorem b2i_bd (c : Bool) : 0 ≤ b2i c ∧ b2i c ≤ 1 := by cases c <;> simp [b2i]
/-- a byte as a number with a sign -/
def sgn8 (a : Int) : Int := if a < 128 then a else a - 256
theorem sgn8_bd {a : Int} (h0 : 0 ≤ a) (h1 : a ≤ 255) : -128 ≤ sgn8 a ∧ sgn8 a ≤ 127 := by unfold sgn8; split <;> omega
theorem i8_wrap {a : Int} (h0 : 0 ≤ a) (h1 : a ≤ 255) : IntKind.i8.wrap a = sgn8 a := by
  unfold sgn8
  simp only [IntKind.wrap, IntKind.bits, IntKind.signed]
  simp
  split <;> split <;> omega
def overS (n : Int) : Bool := decide (n < -128) || decide (127 < n)

/-- a byte is known by its bits -/
def BV (x : Int) (f : Nat → Bool) : Prop := (0 ≤ x ∧ x ≤ 255) ∧ ∀ j, j < 8 → bitH x j = f j
theorem BV.self {x : Int} (h0 : 0 ≤ x) (h1 : x ≤ 255) : BV x (bitH x) := ⟨⟨h0, h1⟩, fun _ _ => rfl⟩
theorem BV.or {x y : Int} {f g : Nat → Bool} (h : BV x f) (k : BV y g) : BV (bits .or .u8 x y) (fun j => f j || g j) :=
  ⟨bits_bd .or h.1.1 h.1.2 k.1.1 k.1.2 (by simp), fun j hj => by rw [bitH_orB h.1.1 h.1.2 k.1.1 k.1.2 hj, h.2 j hj, k.2 j hj]⟩
theorem BV.and {x y : Int} {f g : Nat → Bool} (h : BV x f) (k : BV y g) : BV (bits .and .u8 x y) (fun j => f j && g j) :=
  ⟨bits_bd .and h.1.1 h.1.2 k.1.1 k.1.2 (by simp), fun j hj => by rw [bitH_andB h.1.1 h.1.2 k.1.1 k.1.2 hj, h.2 j hj, k.2 j hj]⟩
theorem BV.xor {x y : Int} {f g : Nat → Bool} (h : BV x f) (k : BV y g) : BV (bits .xor .u8 x y) (fun j => f j ^^ g j) :=
  ⟨bits_bd .xor h.1.1 h.1.2 k.1.1 k.1.2 (by simp), fun j hj => by rw [bitH_xorB h.1.1 h.1.2 k.1.1 k.1.2 hj, h.2 j hj, k.2 j hj]⟩
theorem BV.andNot {x y : Int} {f g : Nat → Bool} (h : BV x f) (k : BV y g) : BV (bits .andNot .u8 x y) (fun j => f j && !(g j)) :=
  ⟨bits_bd .andNot h.1.1 h.1.2 k.1.1 k.1.2 (by simp), fun j hj => by rw [bitH_andNotB h.1.1 h.1.2 k.1.1 k.1.2 hj, h.2 j hj, k.2 j hj]⟩
theorem BV.with_ {x y : Int} {f g : Nat → Bool} (h : BV x f) (k : BV y g) (on : Bool) : BV (withS x y on) (fun j => if g j then on else f j) :=
  ⟨withS_bd h.1.1 h.1.2 k.1.1 k.1.2 on, fun j hj => by rw [withS_bit h.1.1 h.1.2 k.1.1 k.1.2 on hj, h.2 j hj, k.2 j hj]⟩
theorem BV.flags (a b c d e f g h : Bool) : BV (flagsS a b c d e f g h) (sel8 a b c d e f g h) := ⟨flagsS_bd a b c d e f g h, fun _ hj => flagsS_bit a b c d e f g h hj⟩
theorem BV.byte (f : Nat → Bool) : BV (byteS f) f := ⟨byteS_bd f, fun _ hj => byteS_bit f hj⟩
theorem BV.eq {x y : Int} {f g : Nat → Bool} (h : BV x f) (k : BV y g) (e : ∀ j, j < 8 → f j = g j) : x = y :=
  byte_ext h.1.1 h.1.2 k.1.1 k.1.2 fun j hj => by rw [h.2 j hj, k.2 j hj, e j hj]
theorem BV.congr {x : Int} {f g : Nat → Bool} (h : BV x f) (e : ∀ j, j < 8 → f j = g j) : BV x g := ⟨h.1, fun j hj => (h.2 j hj).trans (e j hj)⟩
/-- eight places at once -/
theorem all8 {p : Nat → Prop} (h0 : p 0) (h1 : p 1) (h2 : p 2) (h3 : p 3) (h4 : p 4) (h5 : p 5) (h6 : p 6) (h7 : p 7) : ∀ j, j < 8 → p j := by
  intro j hj
  rcases nat8 hj with rfl | rfl | rfl | rfl | rfl | rfl | rfl | rfl <;> assumption

theorem BV.k128 : BV 128 (fun j => j == 0) := ⟨by omega, by decide +kernel⟩
theorem BV.k64 : BV 64 (fun j => j == 1) := ⟨by omega, by decide +kernel⟩
theorem BV.k32 : BV 32 (fun j => j == 2) := ⟨by omega, by decide +kernel⟩
theorem BV.k16 : BV 16 (fun j => j == 3) := ⟨by omega, by decide +kernel⟩
theorem BV.k8 : BV 8 (fun j => j == 4) := ⟨by omega, by decide +kernel⟩
theorem BV.k4 : BV 4 (fun j => j == 5) := ⟨by omega, by decide +kernel⟩
theorem BV.k2 : BV 2 (fun j => j == 6) := ⟨by omega, by decide +kernel⟩
theorem BV.k1 : BV 1 (fun j => j == 7) := ⟨by omega, by decide +kernel⟩
theorem BV.k0 : BV 0 (fun _ => false) := ⟨by omega, by decide +kernel⟩
/-- any closed number -/
theorem BV.num (n : Int) (h : (0 ≤ n ∧ n ≤ 255)) : BV n (bitH n) := ⟨h, fun _ _ => rfl⟩

theorem BV.of {b : Int} (h0 : 0 ≤ b) (h1 : b ≤ 255) : BV (ofR b) (sel8 (bitH b 0) (b == 0) (bitH b 2) false (bitH b 4) false false false) := BV.flags _ _ _ _ _ _ _ _
theorem BV.ofP (b : Int) : BV (ofPR b) (sel8 (bitH b 0) (b == 0) (bitH b 2) false (bitH b 4) (evenR b) false false) := BV.flags _ _ _ _ _ _ _ _

/-- set, as the program reckons it: bit by bit -/
def setN (F : Nat → Int) (O : Nat → Bool) (f : Int) : Nat → Int
  | 0 => f
  | j + 1 => withS (setN F O f j) (F j) (O j)

/-! Sums and differences. -/
def subN (a b : Int) (c : Bool) : Int := a - b - b2i c
def subR (a b : Int) (c : Bool) : Int := subN a b c % 256
def subF (a b : Int) (c : Bool) : Int :=
  flagsS (bitH (subR a b c) 0) (subR a b c == 0) (bitH (subR a b c) 2) (decide (a % 16 < b % 16 + b2i c)) (bitH (subR a b c) 4) (overS (sgn8 a - sgn8 b - b2i c)) true (decide (subN a b c < 0))
theorem subR_bd (a b : Int) (c : Bool) : 0 ≤ subR a b c ∧ subR a b c ≤ 255 := by unfold subR; omega
def addN (a b : Int) (c : Bool) : Int := a + b + b2i c
def addR (a b : Int) (c : Bool) : Int := addN a b c % 256
def addF (a b : Int) (c : Bool) : Int :=
  flagsS (bitH (addR a b c) 0) (addR a b c == 0) (bitH (addR a b c) 2) (decide (16 ≤ a % 16 + b % 16 + b2i c)) (bitH (addR a b c) 4) (overS (sgn8 a + sgn8 b + b2i c)) false (decide (256 ≤ addN a b c))
theorem addR_bd (a b : Int) (c : Bool) : 0 ≤ addR a b c ∧ addR a b c ≤ 255 := by unfold addR; omega

/-- what the program sets behind a difference -/
theorem sub_set {r : Int} (h0 : 0 ≤ r) (h1 : r ≤ 255) (x y z : Bool) :
    withS (withS (withS (bits .or .u8 (ofR r) 2) 16 x) 4 y) 1 z = flagsS (bitH r 0) (r == 0) (bitH r 2) x (bitH r 4) y true z :=
  ((((BV.of h0 h1).or BV.k2).with_ BV.k16 x).with_ BV.k4 y).with_ BV.k1 z |>.eq (BV.flags _ _ _ _ _ _ _ _)
    (all8 (by simp [sel8]) (by simp [sel8]) (by simp [sel8]) (by simp [sel8]) (by simp [sel8]) (by simp [sel8]) (by simp [sel8]) (by simp [sel8]))
theorem add_set {r : Int} (h0 : 0 ≤ r) (h1 : r ≤ 255) (x y z : Bool) :
    withS (withS (withS (ofR r) 16 x) 4 y) 1 z = flagsS (bitH r 0) (r == 0) (bitH r 2) x (bitH r 4) y false z :=
  (((BV.of h0 h1).with_ BV.k16 x).with_ BV.k4 y).with_ BV.k1 z |>.eq (BV.flags _ _ _ _ _ _ _ _)
    (all8 (by simp [sel8]) (by simp [sel8]) (by simp [sel8]) (by simp [sel8]) (by simp [sel8]) (by simp [sel8]) (by simp [sel8]) (by simp [sel8]))

theorem sub_fin {a b : Int} {c : Bool} (a0 : 0 ≤ a) (a1 : a ≤ 255) (b0 : 0 ≤ b) (b1 : b ≤ 255) :
    withS (withS (withS (bits .or .u8 (ofR ((a - b - b2i c) % 256)) 2) 16 (decide (a % 16 - b % 16 - b2i c < 0))) 4 (overS (IntKind.i8.wrap a - IntKind.i8.wrap b - b2i c))) 1 (decide (a - b - b2i c < 0)) = subF a b c := by
  rw [sub_set (by omega) (by omega), i8_wrap a0 a1, i8_wrap b0 b1]
  have e : decide (a % 16 - b % 16 - b2i c < 0) = decide (a % 16 < b % 16 + b2i c) := decide_eq_decide.2 (by omega)
  rw [e]
  rfl
theorem add_fin {a b : Int} {c : Bool} (a0 : 0 ≤ a) (a1 : a ≤ 255) (b0 : 0 ≤ b) (b1 : b ≤ 255) :
    withS (withS (withS (ofR ((a + b + b2i c) % 256)) 16 (decide (15 < a % 16 + b % 16 + b2i c))) 4 (overS (IntKind.i8.wrap a + IntKind.i8.wrap b + b2i c))) 1 (decide (255 < a + b + b2i c)) = addF a b c := by
  rw [add_set (by omega) (by omega), i8_wrap a0 a1, i8_wrap b0 b1]
  have e : decide (15 < a % 16 + b % 16 + b2i c) = decide (16 ≤ a % 16 + b % 16 + b2i c) := decide_eq_decide.2 (by omega)
  have e2 : decide (255 < a + b + b2i c) = decide (256 ≤ addN a b c) := decide_eq_decide.2 (by unfold addN; omega)
  rw [e, e2]
  rfl

/-- one bit of F asked for -/
theorem ask128 {f : Int} (h0 : 0 ≤ f) (h1 : f ≤ 255) : (bits .and .u8 f 128 != 0) = bitH f 0 := byte_all (p := fun f => (bits .and .u8 f 128 != 0) = bitH f 0) (by decide +kernel) h0 h1
theorem ask64 {f : Int} (h0 : 0 ≤ f) (h1 : f ≤ 255) : (bits .and .u8 f 64 != 0) = bitH f 1 := byte_all (p := fun f => (bits .and .u8 f 64 != 0) = bitH f 1) (by decide +kernel) h0 h1
theorem ask16 {f : Int} (h0 : 0 ≤ f) (h1 : f ≤ 255) : (bits .and .u8 f 16 != 0) = bitH f 3 := byte_all (p := fun f => (bits .and .u8 f 16 != 0) = bitH f 3) (by decide +kernel) h0 h1
theorem ask4 {f : Int} (h0 : 0 ≤ f) (h1 : f ≤ 255) : (bits .and .u8 f 4 != 0) = bitH f 5 := byte_all (p := fun f => (bits .and .u8 f 4 != 0) = bitH f 5) (by decide +kernel) h0 h1
theorem ask2 {f : Int} (h0 : 0 ≤ f) (h1 : f ≤ 255) : (bits .and .u8 f 2 != 0) = bitH f 6 := byte_all (p := fun f => (bits .and .u8 f 2 != 0) = bitH f 6) (by decide +kernel) h0 h1
theorem ask1 {f : Int} (h0 : 0 ≤ f) (h1 : f ≤ 255) : (bits .and .u8 f 1 != 0) = bitH f 7 := byte_all (p := fun f => (bits .and .u8 f 1 != 0) = bitH f 7) (by decide +kernel) h0 h1
/-- F without C, and with it -/
theorem BV.noC {f : Int} (h0 : 0 ≤ f) (h1 : f ≤ 255) : BV (bits .andNot .u8 f 1) (fun j => bitH f j && !(j == 7)) := (BV.self h0 h1).andNot BV.k1
theorem BV.withC {f : Int} (h0 : 0 ≤ f) (h1 : f ≤ 255) : BV (bits .or .u8 f 1) (fun j => bitH f j || (j == 7)) := (BV.self h0 h1).or BV.k1

end Go.Proofs.Ytfollcgedcjgoaa
