/- Plain numbers for layer 2, the second part: what is joined, kept, turned and adjusted. No program stands here. -/
import Derived.Test.YtefkdjanneeomaaP02
namespace Go.Proofs.Ytefkdjanneeomaa
open Go.RowKit

theorem lt40 : bitH 40 0 = false ∧ bitH 40 1 = false ∧ bitH 40 2 = true ∧ bitH 40 3 = false ∧ bitH 40 4 = true ∧ bitH 40 5 = false ∧ bitH 40 6 = false ∧ bitH 40 7 = false := by decide +kernel
theorem lt196 : bitH 196 0 = true ∧ bitH 196 1 = true ∧ bitH 196 2 = false ∧ bitH 196 3 = false ∧ bitH 196 4 = false ∧ bitH 196 5 = true ∧ bitH 196 6 = false ∧ bitH 196 7 = false := by decide +kernel
def mixF (f b : Int) : Int := flagsS (bitH f 0) (bitH f 1) (bitH b 2) (bitH f 3) (bitH b 4) (bitH f 5) (bitH f 6) (bitH f 7)
def keepF (f o : Int) : Int := flagsS (bitH f 0) (bitH f 1) (bitH f 2) (bitH f 3) (bitH f 4) (bitH f 5) (bitH f 6) (bitH o 7)
def cplF (a f : Int) : Int := flagsS (bitH f 0) (bitH f 1) (bitH (255 - a) 2) true (bitH (255 - a) 4) (bitH f 5) true (bitH f 7)
def scfF (a f q : Int) : Int := flagsS (bitH f 0) (bitH f 1) ((bitH f 2 != bitH q 2) || bitH a 2) false ((bitH f 4 != bitH q 4) || bitH a 4) (bitH f 5) false true
def ccfF (a f q : Int) : Int := flagsS (bitH f 0) (bitH f 1) ((bitH f 2 != bitH q 2) || bitH a 2) (bitH f 7) ((bitH f 4 != bitH q 4) || bitH a 4) (bitH f 5) false (!(bitH f 7))
/-- bits joined: 4 and, 5 exclusive or, else or -/
def joinB (k a b : Int) (i : Nat) : Bool := if k = 5 then bitH a i != bitH b i else if k = 6 then bitH a i || bitH b i else bitH a i && bitH b i
def joinR (k a b : Int) : Int := byteS (joinB k a b)
def joinF (k a b : Int) : Int := flagsS (joinB k a b 0) (joinR k a b == 0) (joinB k a b 2) (k == 4) (joinB k a b 4) (evenR (joinR k a b)) false false
/-- adjusted to digits -/
def daaD (a f : Int) : Int := (if bitH f 3 = true ∨ 9 < a % 16 then 6 else 0) + (if bitH f 7 = true ∨ 153 < a then 96 else 0)
def daaR (a f : Int) : Int := if bitH f 6 = true then (a - daaD a f) % 256 else (a + daaD a f) % 256
def daaH (a f : Int) : Bool := if bitH f 6 = true then bitH f 3 && decide (a % 16 < 6) else decide (9 < a % 16)
def daaC (a f : Int) : Bool := bitH f 7 || decide (153 < a)
def daaF (a f : Int) : Int := flagsS (bitH (daaR a f) 0) (daaR a f == 0) (bitH (daaR a f) 2) (daaH a f) (bitH (daaR a f) 4) (evenR (daaR a f)) (bitH f 6) (daaC a f)
theorem daaR_bd (a f : Int) : 0 ≤ daaR a f ∧ daaR a f ≤ 255 := by unfold daaR; split <;> omega
theorem addF_bd (a b : Int) (c : Bool) : 0 ≤ addF a b c ∧ addF a b c ≤ 255 := flagsS_bd _ _ _ _ _ _ _ _
theorem subF_bd2 (a b : Int) (c : Bool) : 0 ≤ subF a b c ∧ subF a b c ≤ 255 := flagsS_bd _ _ _ _ _ _ _ _

theorem mix_fin {f b : Int} (f0 : 0 ≤ f) (f1 : f ≤ 255) (b0 : 0 ≤ b) (b1 : b ≤ 255) : bits .or .u8 (bits .andNot .u8 f 40) (bits .and .u8 b 40) = mixF f b :=
  (((BV.self f0 f1).andNot (BV.num 40 (by omega))).or ((BV.self b0 b1).and (BV.num 40 (by omega)))) |>.eq (BV.flags _ _ _ _ _ _ _ _)
    (all8 (by simp [sel8, lt40]) (by simp [sel8, lt40]) (by simp [sel8, lt40]) (by simp [sel8, lt40]) (by simp [sel8, lt40]) (by simp [sel8, lt40]) (by simp [sel8, lt40]) (by simp [sel8, lt40]))
theorem keep_fin {f b : Int} (f0 : 0 ≤ f) (f1 : f ≤ 255) (b0 : 0 ≤ b) (b1 : b ≤ 255) : bits .or .u8 (bits .andNot .u8 f 1) (bits .and .u8 b 1) = keepF f b :=
  (((BV.self f0 f1).andNot BV.k1).or ((BV.self b0 b1).and BV.k1)) |>.eq (BV.flags _ _ _ _ _ _ _ _)
    (all8 (by simp [sel8]) (by simp [sel8]) (by simp [sel8]) (by simp [sel8]) (by simp [sel8]) (by simp [sel8]) (by simp [sel8]) (by simp [sel8]))
theorem not_num {a : Int} (a0 : 0 ≤ a) (a1 : a ≤ 255) : bits .xor .u8 IntKind.u8.max a = 255 - a :=
  byte_all (p := fun a => bits .xor .u8 IntKind.u8.max a = 255 - a) (by decide +kernel) a0 a1
theorem cpl_fin {a f : Int} (f0 : 0 ≤ f) (f1 : f ≤ 255) (a0 : 0 ≤ a) (a1 : a ≤ 255) : bits .or .u8 (bits .or .u8 (bits .or .u8 (bits .andNot .u8 f 40) (bits .and .u8 (255 - a) 40)) 16) 2 = cplF a f :=
  (((((BV.self f0 f1).andNot (BV.num 40 (by omega))).or ((BV.self (x := 255 - a) (by omega) (by omega)).and (BV.num 40 (by omega)))).or BV.k16).or BV.k2) |>.eq (BV.flags _ _ _ _ _ _ _ _)
    (all8 (by simp [sel8, lt40]) (by simp [sel8, lt40]) (by simp [sel8, lt40]) (by simp [sel8, lt40]) (by simp [sel8, lt40]) (by simp [sel8, lt40]) (by simp [sel8, lt40]) (by simp [sel8, lt40]))
theorem BV.carryBase {a f q : Int} (f0 : 0 ≤ f) (f1 : f ≤ 255) (a0 : 0 ≤ a) (a1 : a ≤ 255) (q0 : 0 ≤ q) (q1 : q ≤ 255) :
    BV (bits .or .u8 (bits .and .u8 f 196) (bits .and .u8 (bits .or .u8 (bits .xor .u8 q f) a) 40)) (sel8 (bitH f 0) (bitH f 1) ((bitH f 2 != bitH q 2) || bitH a 2) false ((bitH f 4 != bitH q 4) || bitH a 4) (bitH f 5) false false) :=
  (((BV.self f0 f1).and (BV.num 196 (by omega))).or ((((BV.self q0 q1).xor (BV.self f0 f1)).or (BV.self a0 a1)).and (BV.num 40 (by omega)))).congr
    (all8 (by simp [sel8, lt40, lt196]) (by simp [sel8, lt40, lt196]) (by simp [sel8, lt40, lt196]; cases bitH q 2 <;> cases bitH f 2 <;> rfl) (by simp [sel8, lt40, lt196]) (by simp [sel8, lt40, lt196]; cases bitH q 4 <;> cases bitH f 4 <;> rfl) (by simp [sel8, lt40, lt196]) (by simp [sel8, lt40, lt196]) (by simp [sel8, lt40, lt196]))
theorem scf_fin {a f q : Int} (f0 : 0 ≤ f) (f1 : f ≤ 255) (a0 : 0 ≤ a) (a1 : a ≤ 255) (q0 : 0 ≤ q) (q1 : q ≤ 255) :
    bits .or .u8 (bits .or .u8 (bits .and .u8 f 196) (bits .and .u8 (bits .or .u8 (bits .xor .u8 q f) a) 40)) 1 = scfF a f q :=
  ((BV.carryBase f0 f1 a0 a1 q0 q1).or BV.k1) |>.eq (BV.flags _ _ _ _ _ _ _ _) (all8 (by simp [sel8]) (by simp [sel8]) (by simp [sel8]) (by simp [sel8]) (by simp [sel8]) (by simp [sel8]) (by simp [sel8]) (by simp [sel8]))
theorem ccf_fin {a f q : Int} (f0 : 0 ≤ f) (f1 : f ≤ 255) (a0 : 0 ≤ a) (a1 : a ≤ 255) (q0 : 0 ≤ q) (q1 : q ≤ 255) :
    withS (withS (bits .or .u8 (bits .and .u8 f 196) (bits .and .u8 (bits .or .u8 (bits .xor .u8 q f) a) 40)) 16 (hasS f 1)) 1 (!(hasS f 1)) = ccfF a f q := by
  rw [show hasS f 1 = bitH f 7 from ask1 f0 f1]
  exact (((BV.carryBase f0 f1 a0 a1 q0 q1).with_ BV.k16 _).with_ BV.k1 _) |>.eq (BV.flags _ _ _ _ _ _ _ _) (all8 (by simp [sel8]) (by simp [sel8]) (by simp [sel8]) (by simp [sel8]) (by simp [sel8]) (by simp [sel8]) (by simp [sel8]) (by simp [sel8]))
theorem and_byte {a b : Int} (a0 : 0 ≤ a) (a1 : a ≤ 255) (b0 : 0 ≤ b) (b1 : b ≤ 255) : bits .and .u8 a b = joinR 4 a b :=
  ((BV.self a0 a1).and (BV.self b0 b1)) |>.eq (BV.byte _) fun j hj => by simp [joinB]
theorem xor_byte {a b : Int} (a0 : 0 ≤ a) (a1 : a ≤ 255) (b0 : 0 ≤ b) (b1 : b ≤ 255) : bits .xor .u8 a b = joinR 5 a b :=
  ((BV.self a0 a1).xor (BV.self b0 b1)) |>.eq (BV.byte _) fun j hj => by simp only [joinB]; cases bitH a j <;> cases bitH b j <;> rfl
theorem or_byte {a b : Int} (a0 : 0 ≤ a) (a1 : a ≤ 255) (b0 : 0 ≤ b) (b1 : b ≤ 255) : bits .or .u8 a b = joinR 6 a b :=
  ((BV.self a0 a1).or (BV.self b0 b1)) |>.eq (BV.byte _) fun j hj => by simp [joinB]
theorem joinR_bd (k a b : Int) : 0 ≤ joinR k a b ∧ joinR k a b ≤ 255 := byteS_bd _
theorem joinR_bit (k a b : Int) {j : Nat} (hj : j < 8) : bitH (joinR k a b) j = joinB k a b j := byteS_bit _ hj
theorem andF_fin (a b : Int) : bits .or .u8 (ofPR (joinR 4 a b)) 16 = joinF 4 a b :=
  ((BV.ofP (joinR 4 a b)).or BV.k16) |>.eq (BV.flags _ _ _ _ _ _ _ _)
    (all8 (by simp [sel8, joinR_bit]) (by simp [sel8]) (by simp [sel8, joinR_bit]) (by simp [sel8]) (by simp [sel8, joinR_bit]) (by simp [sel8]) (by simp [sel8]) (by simp [sel8]))
theorem ofPR_join {k : Int} (a b : Int) (h : (k == 4) = false) : ofPR (joinR k a b) = joinF k a b := by
  unfold ofPR joinF
  rw [joinR_bit _ _ _ (by omega), joinR_bit _ _ _ (by omega), joinR_bit _ _ _ (by omega), h]
theorem daa_fin {r : Int} (r0 : 0 ≤ r) (r1 : r ≤ 255) (x y z : Bool) : withS (withS (withS (ofPR r) 2 x) 16 y) 1 z = flagsS (bitH r 0) (r == 0) (bitH r 2) y (bitH r 4) (evenR r) x z :=
  ((((BV.ofP r).with_ BV.k2 x).with_ BV.k16 y).with_ BV.k1 z) |>.eq (BV.flags _ _ _ _ _ _ _ _) (all8 (by simp [sel8]) (by simp [sel8]) (by simp [sel8]) (by simp [sel8]) (by simp [sel8]) (by simp [sel8]) (by simp [sel8]) (by simp [sel8]))

end Go.Proofs.Ytefkdjanneeomaa
