/- Plain numbers for layer 3: words. No program stands here. -/
import Derived.Test.YtcjnnenmgliakaaP02
namespace Go.Proofs.Ytcjnnenmgliakaa
open Go.RowKit

/-- a word as a number with a sign -/
def sgn16 (a : Int) : Int := if a < 32768 then a else a - 65536
theorem sgn16_bd {a : Int} (h0 : 0 ≤ a) (h1 : a ≤ 65535) : -32768 ≤ sgn16 a ∧ sgn16 a ≤ 32767 := by unfold sgn16; split <;> omega
theorem i16_wrap {a : Int} (h0 : 0 ≤ a) (h1 : a ≤ 65535) : IntKind.i16.wrap a = sgn16 a := by
  unfold sgn16
  simp only [IntKind.wrap, IntKind.bits, IntKind.signed]
  simp
  split <;> split <;> omega
def over16 (n : Int) : Bool := decide (n < -32768) || decide (32767 < n)

theorem lit40 : bitH 40 0 = false ∧ bitH 40 1 = false ∧ bitH 40 2 = true ∧ bitH 40 3 = false ∧ bitH 40 4 = true ∧ bitH 40 5 = false ∧ bitH 40 6 = false ∧ bitH 40 7 = false := by decide +kernel
theorem lit168 : bitH 168 0 = true ∧ bitH 168 1 = false ∧ bitH 168 2 = true ∧ bitH 168 3 = false ∧ bitH 168 4 = true ∧ bitH 168 5 = false ∧ bitH 168 6 = false ∧ bitH 168 7 = false := by decide +kernel
theorem lit196 : bitH 196 0 = true ∧ bitH 196 1 = true ∧ bitH 196 2 = false ∧ bitH 196 3 = false ∧ bitH 196 4 = false ∧ bitH 196 5 = true ∧ bitH 196 6 = false ∧ bitH 196 7 = false := by decide +kernel
theorem lit15 : bitH 15 0 = false ∧ bitH 15 1 = false ∧ bitH 15 2 = false ∧ bitH 15 3 = false ∧ bitH 15 4 = true ∧ bitH 15 5 = true ∧ bitH 15 6 = true ∧ bitH 15 7 = true := by decide +kernel
theorem lit197 : bitH 197 0 = true ∧ bitH 197 1 = true ∧ bitH 197 2 = false ∧ bitH 197 3 = false ∧ bitH 197 4 = false ∧ bitH 197 5 = true ∧ bitH 197 6 = false ∧ bitH 197 7 = true := by decide +kernel
theorem lit213 : bitH 213 0 = true ∧ bitH 213 1 = true ∧ bitH 213 2 = false ∧ bitH 213 3 = true ∧ bitH 213 4 = false ∧ bitH 213 5 = true ∧ bitH 213 6 = false ∧ bitH 213 7 = true := by decide +kernel
theorem lit87 : bitH 87 0 = false ∧ bitH 87 1 = true ∧ bitH 87 2 = false ∧ bitH 87 3 = true ∧ bitH 87 4 = false ∧ bitH 87 5 = true ∧ bitH 87 6 = true ∧ bitH 87 7 = true := by decide +kernel
theorem lit239 : bitH 239 0 = true ∧ bitH 239 1 = true ∧ bitH 239 2 = true ∧ bitH 239 3 = false ∧ bitH 239 4 = true ∧ bitH 239 5 = true ∧ bitH 239 6 = true ∧ bitH 239 7 = true := by decide +kernel
theorem lit215 : bitH 215 0 = true ∧ bitH 215 1 = true ∧ bitH 215 2 = false ∧ bitH 215 3 = true ∧ bitH 215 4 = false ∧ bitH 215 5 = true ∧ bitH 215 6 = true ∧ bitH 215 7 = true := by decide +kernel

theorem and4095 {a : Int} (h0 : 0 ≤ a) (h1 : a ≤ 65535) : bits .and .u16 a 4095 = a % 4096 := by
  obtain ⟨n, rfl⟩ := Int.eq_ofNat_of_zero_le h0
  have e := u16_and_nat n 4095 (by omega) (by omega)
  rw [show ((4095 : Int)) = ((4095 : Nat) : Int) from rfl, e]
  have e2 : n &&& 4095 = n % 4096 := Nat.and_two_pow_sub_one_eq_mod n 12
  rw [e2]
  omega
theorem or_hi_lo {a b : Int} (h0 : 0 ≤ a) (h1 : a ≤ 255) (b0 : 0 ≤ b) (b1 : b ≤ 255) : bits .or .u16 (a * 256) b = 256 * a + b := by
  obtain ⟨n, rfl⟩ := Int.eq_ofNat_of_zero_le h0
  obtain ⟨m, rfl⟩ := Int.eq_ofNat_of_zero_le b0
  have e := u16_or_nat (n * 256) m (by omega) (by omega)
  rw [show ((n : Int) * 256) = ((n * 256 : Nat) : Int) by omega, e]
  have e2 : n * 256 ||| m = n * 256 + m := by
    have := Nat.shiftLeft_add_eq_or_of_lt (i := 8) (b := m) (by omega) n
    rw [Nat.shiftLeft_eq] at this
    exact this.symm
  rw [e2]
  omega
theorem and1_u8 {f : Int} (h0 : 0 ≤ f) (h1 : f ≤ 255) : bits .and .u8 f 1 = b2i (bitH f 7) :=
  byte_all (p := fun f => bits .and .u8 f 1 = b2i (bitH f 7)) (by decide +kernel) h0 h1
/-- what a sum of words is, and what it tells -/
def wAddN (a b : Int) (c : Bool) : Int := a + b + b2i c
def wSubN (a b : Int) (c : Bool) : Int := a - b - b2i c
def wR (n : Int) : Int := n % 65536
theorem wR_bd (n : Int) : 0 ≤ wR n ∧ wR n ≤ 65535 := by unfold wR; omega
def wAddH (a b : Int) (c : Bool) : Bool := decide (4095 < a % 4096 + b % 4096 + b2i c)
def wSubH (a b : Int) (c : Bool) : Bool := decide (a % 4096 - b % 4096 - b2i c < 0)
def wAddV (a b : Int) (c : Bool) : Bool := over16 (sgn16 a + sgn16 b + b2i c)
def wSubV (a b : Int) (c : Bool) : Bool := over16 (sgn16 a - sgn16 b - b2i c)
/-- S Z Y X of a word are the high byte's, but for Z -/
def wF (r : Int) (h p n c : Bool) : Int := flagsS (bitH (r / 256) 0) (r == 0) (bitH (r / 256) 2) h (bitH (r / 256) 4) p n c
def wAddF (a b f : Int) : Int :=
  flagsS (bitH f 0) (bitH f 1) (bitH (wR (wAddN a b false) / 256) 2) (wAddH a b false) (bitH (wR (wAddN a b false) / 256) 4) (bitH f 5) false (decide (65535 < wAddN a b false))
def wAdcF (a b f : Int) : Int := wF (wR (wAddN a b (bitH f 7))) (wAddH a b (bitH f 7)) (wAddV a b (bitH f 7)) false (decide (65535 < wAddN a b (bitH f 7)))
def wSbcF (a b f : Int) : Int := wF (wR (wSubN a b (bitH f 7))) (wSubH a b (bitH f 7)) (wSubV a b (bitH f 7)) true (decide (wSubN a b (bitH f 7) < 0))

/-- what is told, as bits of F -/
def toldF (a b c : Bool) : Int := flagsS false false false a false b false c
theorem BV.told (a b c : Bool) : BV (toldF a b c) (sel8 false false false a false b false c) := BV.flags _ _ _ _ _ _ _ _
/-- S, Z, Y and X of a word, as the program reckons them -/
theorem all_fin {r : Int} (h0 : 0 ≤ r) (h1 : r ≤ 65535) : withS (bits .and .u8 (r / 256) 168) 64 (r == 0) = wF r false false false false :=
  ((BV.self (x := r / 256) (by omega) (by omega)).and (BV.num 168 (by omega))).with_ BV.k64 (r == 0) |>.eq (BV.flags _ _ _ _ _ _ _ _)
    (all8 (by simp [sel8, lit168]) (by simp [sel8]) (by simp [sel8, lit168]) (by simp [sel8, lit168]) (by simp [sel8, lit168]) (by simp [sel8, lit168]) (by simp [sel8, lit168]) (by simp [sel8, lit168]))
theorem adc_fin (r : Int) (h p c : Bool) : bits .or .u8 (wF r false false false false) (toldF h p c) = wF r h p false c :=
  (BV.flags _ _ _ _ _ _ _ _).or (BV.told h p c) |>.eq (BV.flags _ _ _ _ _ _ _ _)
    (all8 (by simp [sel8]) (by simp [sel8]) (by simp [sel8]) (by simp [sel8]) (by simp [sel8]) (by simp [sel8]) (by simp [sel8]) (by simp [sel8]))
theorem sbc_fin (r : Int) (h p c : Bool) : bits .or .u8 (bits .or .u8 (wF r false false false false) (toldF h p c)) 2 = wF r h p true c :=
  ((BV.flags _ _ _ _ _ _ _ _).or (BV.told h p c)).or BV.k2 |>.eq (BV.flags _ _ _ _ _ _ _ _)
    (all8 (by simp [sel8]) (by simp [sel8]) (by simp [sel8]) (by simp [sel8]) (by simp [sel8]) (by simp [sel8]) (by simp [sel8]) (by simp [sel8]))
theorem wadd_fin {f r : Int} (f0 : 0 ≤ f) (f1 : f ≤ 255) (h0 : 0 ≤ r) (h1 : r ≤ 65535) (h p c : Bool) :
    bits .or .u8 (bits .or .u8 (bits .and .u8 f 196) (bits .and .u8 (r / 256) 40)) (bits .andNot .u8 (toldF h p c) 4) = flagsS (bitH f 0) (bitH f 1) (bitH (r / 256) 2) h (bitH (r / 256) 4) (bitH f 5) false c :=
  (((BV.self f0 f1).and (BV.num 196 (by omega))).or ((BV.self (x := r / 256) (by omega) (by omega)).and (BV.num 40 (by omega)))).or ((BV.told h p c).andNot BV.k4) |>.eq (BV.flags _ _ _ _ _ _ _ _)
    (all8 (by simp [sel8, lit196, lit40]) (by simp [sel8, lit196, lit40]) (by simp [sel8, lit196, lit40]) (by simp [sel8, lit196, lit40]) (by simp [sel8, lit196, lit40]) (by simp [sel8, lit196, lit40]) (by simp [sel8, lit196, lit40]) (by simp [sel8, lit196, lit40]))

/-! What the theorem of stage 3 says, in numbers. -/
theorem back_num {a b : Int} (a0 : 0 ≤ a) (a1 : a ≤ 65535) (b0 : 0 ≤ b) (b1 : b ≤ 65535) : wR (wSubN (wR (wAddN a b false)) b false) = a := by
  simp only [wR, wSubN, wAddN, b2i]; simp; omega
theorem self_num (a : Int) : wR (wSubN a a true) = 65535 := by simp only [wR, wSubN, b2i]; simp
theorem parts_num (a : Int) : 256 * (a / 256) + a % 256 = a := by omega
theorem add_comm_num (a b : Int) : wAddN b a false = wAddN a b false := by simp only [wAddN, b2i]; simp; omega
theorem add_comm_F (a b f : Int) : wAddF b a f = wAddF a b f := by
  have h : wAddH b a false = wAddH a b false := decide_eq_decide.2 (by simp only [b2i]; simp; omega)
  simp only [wAddF, add_comm_num a b, h]
theorem wAddF_bd (a b f : Int) : 0 ≤ wAddF a b f ∧ wAddF a b f ≤ 255 := flagsS_bd _ _ _ _ _ _ _ _
theorem wSbcF_bd (a b f : Int) : 0 ≤ wSbcF a b f ∧ wSbcF a b f ≤ 255 := flagsS_bd _ _ _ _ _ _ _ _
theorem wAddF_C (a b f : Int) : bitH (wAddF a b f) 7 = decide (65535 < a + b) := by
  unfold wAddF
  rw [flagsS_bit _ _ _ _ _ _ _ _ (by omega)]
  simp [sel8, wAddN, b2i]
theorem wAddF_keep (a b : Int) {f : Int} (f0 : 0 ≤ f) (f1 : f ≤ 255) : bits .and .u8 (wAddF a b f) 196 = bits .and .u8 f 196 :=
  ((BV.flags _ _ _ _ _ _ _ _).and (BV.num 196 (by omega))) |>.eq ((BV.self f0 f1).and (BV.num 196 (by omega)))
    (all8 (by simp [sel8, lit196]) (by simp [sel8, lit196]) (by simp [sel8, lit196]) (by simp [sel8, lit196]) (by simp [sel8, lit196]) (by simp [sel8, lit196]) (by simp [sel8, lit196]) (by simp [sel8, lit196]))
theorem noC_keep {f : Int} (f0 : 0 ≤ f) (f1 : f ≤ 255) : bits .and .u8 (bits .andNot .u8 f 1) 196 = bits .and .u8 f 196 :=
  ((BV.noC f0 f1).and (BV.num 196 (by omega))) |>.eq ((BV.self f0 f1).and (BV.num 196 (by omega)))
    (all8 (by simp [lit196]) (by simp [lit196]) (by simp [lit196]) (by simp [lit196]) (by simp [lit196]) (by simp [lit196]) (by simp [lit196]) (by simp [lit196]))
theorem wSbcF_bits (a b f : Int) (h : bitH f 7 = false) : bitH (wSbcF a b f) 0 = bitH (wR (a - b) / 256) 0 ∧ bitH (wSbcF a b f) 1 = (wR (a - b) == 0) ∧ bitH (wSbcF a b f) 5 = over16 (sgn16 a - sgn16 b) ∧ bitH (wSbcF a b f) 7 = decide (a - b < 0) := by
  have e : wSubN a b false = a - b := by simp [wSubN, b2i]
  unfold wSbcF wF
  rw [h, e]
  refine ⟨?_, ?_, ?_, ?_⟩
  all_goals
    rw [flagsS_bit _ _ _ _ _ _ _ _ (by omega)]
    try simp [sel8, wSubV, b2i]
theorem carry_same {a b c d f : Int} (a0 : 0 ≤ a) (a1 : a ≤ 65535) (b0 : 0 ≤ b) (b1 : b ≤ 65535) (h : bitH f 7 = false) (_hc : c = wR (wAddN a b false)) (_hd : d = f) :
    bitH (wAddF a b f) 7 = bitH (wSbcF (wR (wAddN a b false)) b f) 7 := by
  rw [wAddF_C, (wSbcF_bits _ b f h).2.2.2]
  apply decide_eq_decide.2
  simp only [wR, wAddN, b2i]
  simp
  omega
theorem hi_bit {r : Int} (r0 : 0 ≤ r) (r1 : r ≤ 65535) : bitH (r / 256) 0 = decide (32768 ≤ r) := by
  have : ∀ {x : Int}, 0 ≤ x → x ≤ 255 → bitH x 0 = decide (128 ≤ x) := fun {x} h0 h1 => byte_all (p := fun x => bitH x 0 = decide (128 ≤ x)) (by decide +kernel) h0 h1
  rw [this (by omega) (by omega)]
  exact decide_eq_decide.2 (by omega)
theorem xor_lt {P Q R S : Prop} [Decidable P] [Decidable Q] [Decidable R] [Decidable S] (h : S ↔ ((P ∧ ¬ (Q ∨ R)) ∨ (¬ P ∧ (Q ∨ R)))) : ((decide P != (decide Q || decide R)) == decide S) = true := by
  by_cases hp : P <;> by_cases hq : Q <;> by_cases hr : R <;> simp_all
theorem signed_num {a b : Int} (a0 : 0 ≤ a) (a1 : a ≤ 65535) (b0 : 0 ≤ b) (b1 : b ≤ 65535) : ((bitH (wR (a - b) / 256) 0 != over16 (sgn16 a - sgn16 b)) == decide (sgn16 a < sgn16 b)) = true := by
  rw [hi_bit (wR_bd _).1 (wR_bd _).2]
  unfold over16
  apply xor_lt
  unfold sgn16 wR
  split <;> split <;> omega
theorem zero_num {a b : Int} (a0 : 0 ≤ a) (a1 : a ≤ 65535) (b0 : 0 ≤ b) (b1 : b ≤ 65535) : (wR (a - b) == 0) = (a == b) := by
  rw [Bool.eq_iff_iff]
  simp only [beq_iff_eq, wR]
  omega
/-! Steps. -/
theorem step_128 {w : Int} : (w + sgn8 128) % 65536 = (w - 128) % 65536 := by simp [sgn8]; omega
theorem step_back {w d : Int} (w0 : 0 ≤ w) (w1 : w ≤ 65535) (d0 : 0 ≤ d) (d1 : d ≤ 255) (h : d ≠ 128) : ((w + sgn8 d) % 65536 + sgn8 (-d % 256)) % 65536 = w := by
  unfold sgn8
  split <;> split <;> omega
theorem step_small {w d : Int} (d0 : 0 ≤ d) (d1 : d ≤ 255) (h : d ≠ 128) : IntKind.u16.wrap ((w + sgn8 d) % 65536 - w) ≤ 127 ∨ 65408 ≤ IntKind.u16.wrap ((w + sgn8 d) % 65536 - w) := by
  rw [IntKind.wrap_u16]
  unfold sgn8
  split <;> omega
theorem step_0 {w : Int} (w0 : 0 ≤ w) (w1 : w ≤ 65535) : (w + sgn8 0) % 65536 = w := by simp [sgn8]; omega
theorem lives_num : wR (wAddN 32767 1 (bitH 0 7)) = 32768 ∧ wAdcF 32767 1 0 = 148 := by decide +kernel

theorem noC_bd {f : Int} (f0 : 0 ≤ f) (f1 : f ≤ 255) : 0 ≤ bits .andNot .u8 f 1 ∧ bits .andNot .u8 f 1 ≤ 255 := (BV.noC f0 f1).1
theorem withC_bd {f : Int} (f0 : 0 ≤ f) (f1 : f ≤ 255) : 0 ≤ bits .or .u8 f 1 ∧ bits .or .u8 f 1 ≤ 255 := (BV.withC f0 f1).1
theorem noC_7 {f : Int} (f0 : 0 ≤ f) (f1 : f ≤ 255) : bitH (bits .andNot .u8 f 1) 7 = false := by rw [(BV.noC f0 f1).2 7 (by omega)]; simp
theorem withC_7 {f : Int} (f0 : 0 ≤ f) (f1 : f ≤ 255) : bitH (bits .or .u8 f 1) 7 = true := by rw [(BV.withC f0 f1).2 7 (by omega)]; simp

end Go.Proofs.Ytcjnnenmgliakaa
