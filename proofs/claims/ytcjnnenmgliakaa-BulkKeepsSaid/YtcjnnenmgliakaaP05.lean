/- Plain numbers for layer 5: what block operations tell. No program stands here. -/
import Derived.Test.YtcjnnenmgliakaaP02
namespace Go.Proofs.Ytcjnnenmgliakaa
open Go.RowKit

def sumS (n : Int) : Int := flagsS false false (bitH n 6) false (bitH n 4) false false false
def copyF (a v bc f : Int) : Int := flagsS (bitH f 0) (bitH f 1) (bitH ((a + v) % 256) 6) false (bitH ((a + v) % 256) 4) (decide (0 < bc)) false (bitH f 7)
def findN (a v : Int) : Int := if bitH (subF a v false) 3 then (subR a v false + 255) % 256 else subR a v false
def findF (a v bc f : Int) : Int :=
  flagsS (bitH (subF a v false) 0) (bitH (subF a v false) 1) (bitH (findN a v) 6) (bitH (subF a v false) 3) (bitH (findN a v) 4) (decide (0 < bc)) true (bitH f 7)
/-- the bits of ((n) and 7) exclusive or b -/
def mixB (n b : Int) (i : Nat) : Bool := bitH (n % 8) i != bitH b i
def mixedS (n b : Int) : Bool := evenR (byteS (mixB n b))
def portF (v k b : Int) : Int := flagsS (bitH b 0) (b == 0) (bitH b 2) (decide (255 < v + k)) (bitH b 4) (mixedS (v + k) b) (decide (128 ≤ v)) (decide (255 < v + k))
def againF (f pc : Int) : Int := flagsS (bitH f 0) (bitH f 1) (bitH (pc / 256) 2) (bitH f 3) (bitH (pc / 256) 4) (bitH f 5) (bitH f 6) (bitH f 7)
/-- what PortAgain reckons with, by C and the sign of v -/
def paN (f v b : Int) : Int := if bitH f 7 then (if 128 ≤ v then b + 7 else b + 1) else b
def paH (f v b : Int) : Bool := if bitH f 7 then (if 128 ≤ v then (b % 16 == 0) else (b % 16 == 15)) else bitH f 3
def portAgainF (f v b pc : Int) : Int :=
  flagsS (bitH f 0) (bitH f 1) (bitH (pc / 256) 2) (paH f v b) (bitH (pc / 256) 4) (bitH f 5 == evenR (paN f v b % 8)) (bitH f 6) (bitH f 7)

theorem sum_fin {n : Int} (n0 : 0 ≤ n) (n1 : n ≤ 255) : withS (withS 0 32 (bitH n 6)) 8 (bitH n 4) = sumS n :=
  (BV.k0.with_ BV.k32 _).with_ BV.k8 _ |>.eq (BV.flags _ _ _ _ _ _ _ _)
    (all8 (by simp [sel8]) (by simp [sel8]) (by simp [sel8]) (by simp [sel8]) (by simp [sel8]) (by simp [sel8]) (by simp [sel8]) (by simp [sel8]))
theorem BV.sum (n : Int) : BV (sumS n) (sel8 false false (bitH n 6) false (bitH n 4) false false false) := BV.flags _ _ _ _ _ _ _ _
theorem bit1_num {n : Int} (n0 : 0 ≤ n) (n1 : n ≤ 255) : (bits .and .u8 (n / 2) 1 == 1) = bitH n 6 := byte_all (p := fun n => (bits .and .u8 (n / 2) 1 == 1) = bitH n 6) (by decide +kernel) n0 n1
theorem bit3_num {n : Int} (n0 : 0 ≤ n) (n1 : n ≤ 255) : (bits .and .u8 (n / 8) 1 == 1) = bitH n 4 := byte_all (p := fun n => (bits .and .u8 (n / 8) 1 == 1) = bitH n 4) (by decide +kernel) n0 n1
theorem lit193 : bitH 193 0 = true ∧ bitH 193 1 = true ∧ bitH 193 2 = false ∧ bitH 193 3 = false ∧ bitH 193 4 = false ∧ bitH 193 5 = false ∧ bitH 193 6 = false ∧ bitH 193 7 = true := by decide +kernel
theorem lit210 : bitH 210 0 = true ∧ bitH 210 1 = true ∧ bitH 210 2 = false ∧ bitH 210 3 = true ∧ bitH 210 4 = false ∧ bitH 210 5 = false ∧ bitH 210 6 = true ∧ bitH 210 7 = false := by decide +kernel
theorem lit40' : bitH 40 0 = false ∧ bitH 40 1 = false ∧ bitH 40 2 = true ∧ bitH 40 3 = false ∧ bitH 40 4 = true ∧ bitH 40 5 = false ∧ bitH 40 6 = false ∧ bitH 40 7 = false := by decide +kernel
theorem lit17 : bitH 17 0 = false ∧ bitH 17 1 = false ∧ bitH 17 2 = false ∧ bitH 17 3 = true ∧ bitH 17 4 = false ∧ bitH 17 5 = false ∧ bitH 17 6 = false ∧ bitH 17 7 = true := by decide +kernel
theorem copy_fin {f n : Int} (f0 : 0 ≤ f) (f1 : f ≤ 255) (p : Bool) : withS (bits .or .u8 (bits .and .u8 f 193) (sumS n)) 4 p = flagsS (bitH f 0) (bitH f 1) (bitH n 6) false (bitH n 4) p false (bitH f 7) :=
  ((((BV.self f0 f1).and (BV.num 193 (by omega))).or (BV.sum n)).with_ BV.k4 p) |>.eq (BV.flags _ _ _ _ _ _ _ _)
    (all8 (by simp [sel8, lit193]) (by simp [sel8, lit193]) (by simp [sel8, lit193]) (by simp [sel8, lit193]) (by simp [sel8, lit193]) (by simp [sel8, lit193]) (by simp [sel8, lit193]) (by simp [sel8, lit193]))
theorem find_fin {f g n : Int} (f0 : 0 ≤ f) (f1 : f ≤ 255) (g0 : 0 ≤ g) (g1 : g ≤ 255) (g6 : bitH g 6 = true) (p : Bool) :
    withS (bits .or .u8 (bits .or .u8 (bits .and .u8 g 210) (bits .and .u8 f 1)) (sumS n)) 4 p = flagsS (bitH g 0) (bitH g 1) (bitH n 6) (bitH g 3) (bitH n 4) p true (bitH f 7) :=
  (((((BV.self g0 g1).and (BV.num 210 (by omega))).or ((BV.self f0 f1).and BV.k1)).or (BV.sum n)).with_ BV.k4 p) |>.eq (BV.flags _ _ _ _ _ _ _ _)
    (all8 (by simp [sel8, lit210]) (by simp [sel8, lit210]) (by simp [sel8, lit210]) (by simp [sel8, lit210]) (by simp [sel8, lit210]) (by simp [sel8, lit210]) (by simp [sel8, lit210, g6]) (by simp [sel8, lit210]))
theorem subF_N (a b : Int) (c : Bool) : bitH (subF a b c) 6 = true := flagsS_bit _ _ _ _ _ _ _ _ (by omega)
theorem subF_bd (a b : Int) (c : Bool) : 0 ≤ subF a b c ∧ subF a b c ≤ 255 := flagsS_bd _ _ _ _ _ _ _ _
theorem findN_bd (a v : Int) : 0 ≤ findN a v ∧ findN a v ≤ 255 := by
  have := subR_bd a v false
  unfold findN
  split <;> omega
theorem port_fin {b : Int} (b0 : 0 ≤ b) (b1 : b ≤ 255) (x y z : Bool) : withS (withS (withS (ofR b) 2 x) 17 y) 4 z = flagsS (bitH b 0) (b == 0) (bitH b 2) y (bitH b 4) z x y :=
  ((((BV.of b0 b1).with_ BV.k2 x).with_ (BV.num 17 (by omega)) y).with_ BV.k4 z) |>.eq (BV.flags _ _ _ _ _ _ _ _)
    (all8 (by simp [sel8, lit17]) (by simp [sel8, lit17]) (by simp [sel8, lit17]) (by simp [sel8, lit17]) (by simp [sel8, lit17]) (by simp [sel8, lit17]) (by simp [sel8, lit17]) (by simp [sel8, lit17]))
theorem mix_num {n b : Int} (b0 : 0 ≤ b) (b1 : b ≤ 255) : bits .xor .u8 (n % 8) b = byteS (mixB n b) :=
  (BV.self (x := n % 8) (by omega) (by omega)).xor (BV.self b0 b1) |>.eq (BV.byte _) fun j hj => by unfold mixB; cases bitH (n % 8) j <;> cases bitH b j <;> rfl
theorem again_fin {f h : Int} (f0 : 0 ≤ f) (f1 : f ≤ 255) (h0 : 0 ≤ h) (h1 : h ≤ 255) :
    bits .or .u8 (bits .andNot .u8 f 40) (bits .and .u8 h 40) = flagsS (bitH f 0) (bitH f 1) (bitH h 2) (bitH f 3) (bitH h 4) (bitH f 5) (bitH f 6) (bitH f 7) :=
  (((BV.self f0 f1).andNot (BV.num 40 (by omega))).or ((BV.self h0 h1).and (BV.num 40 (by omega)))) |>.eq (BV.flags _ _ _ _ _ _ _ _)
    (all8 (by simp [sel8, lit40']) (by simp [sel8, lit40']) (by simp [sel8, lit40']) (by simp [sel8, lit40']) (by simp [sel8, lit40']) (by simp [sel8, lit40']) (by simp [sel8, lit40']) (by simp [sel8, lit40']))

theorem top_num {v : Int} (v0 : 0 ≤ v) (v1 : v ≤ 255) : bitH v 0 = decide (128 ≤ v) := byte_all (p := fun v => bitH v 0 = decide (128 ≤ v)) (by decide +kernel) v0 v1

theorem BV.again (f pc : Int) : BV (againF f pc) (sel8 (bitH f 0) (bitH f 1) (bitH (pc / 256) 2) (bitH f 3) (bitH (pc / 256) 4) (bitH f 5) (bitH f 6) (bitH f 7)) := BV.flags _ _ _ _ _ _ _ _
theorem pa_even {f v b pc : Int} {h : Bool} (h1 : paH f v b = h) (h2 : evenR (paN f v b % 8) = true) : withS (againF f pc) 16 h = portAgainF f v b pc := by
  unfold portAgainF
  rw [h1, h2]
  exact ((BV.again f pc).with_ BV.k16 h) |>.eq (BV.flags _ _ _ _ _ _ _ _) (all8 (by simp [sel8]) (by simp [sel8]) (by simp [sel8]) (by simp [sel8]) (by simp [sel8]) (by simp [sel8]) (by simp [sel8]) (by simp [sel8]))
theorem pa_odd {f v b pc : Int} {h : Bool} (h1 : paH f v b = h) (h2 : evenR (paN f v b % 8) = false) : bits .xor .u8 (withS (againF f pc) 16 h) 4 = portAgainF f v b pc := by
  unfold portAgainF
  rw [h1, h2]
  exact (((BV.again f pc).with_ BV.k16 h).xor BV.k4) |>.eq (BV.flags _ _ _ _ _ _ _ _) (all8 (by simp [sel8]) (by simp [sel8]) (by simp [sel8]) (by simp [sel8]) (by simp [sel8]) (by simp [sel8]) (by simp [sel8]) (by simp [sel8]))
theorem pa_even0 {f v b pc : Int} (h1 : paH f v b = bitH f 3) (h2 : evenR (paN f v b % 8) = true) : againF f pc = portAgainF f v b pc := by
  unfold portAgainF
  rw [h1, h2]
  exact (BV.again f pc) |>.eq (BV.flags _ _ _ _ _ _ _ _) (all8 (by simp [sel8]) (by simp [sel8]) (by simp [sel8]) (by simp [sel8]) (by simp [sel8]) (by simp [sel8]) (by simp [sel8]) (by simp [sel8]))
theorem pa_odd0 {f v b pc : Int} (h1 : paH f v b = bitH f 3) (h2 : evenR (paN f v b % 8) = false) : bits .xor .u8 (againF f pc) 4 = portAgainF f v b pc := by
  unfold portAgainF
  rw [h1, h2]
  exact ((BV.again f pc).xor BV.k4) |>.eq (BV.flags _ _ _ _ _ _ _ _) (all8 (by simp [sel8]) (by simp [sel8]) (by simp [sel8]) (by simp [sel8]) (by simp [sel8]) (by simp [sel8]) (by simp [sel8]) (by simp [sel8]))

theorem again_bd (f pc : Int) : 0 ≤ againF f pc ∧ againF f pc ≤ 255 := flagsS_bd _ _ _ _ _ _ _ _

end Go.Proofs.Ytcjnnenmgliakaa
