/- Plain numbers for the laws of layer 2. No program stands here. -/
import Derived.Test.YtefkdjanneeomaaP02b
namespace Go.Proofs.Ytefkdjanneeomaa
open Go.RowKit

theorem add_back {a b : Int} (c : Bool) (a0 : 0 ≤ a) (a1 : a ≤ 255) : subR (addR a b c) b c = a := by unfold subR subN addR addN; omega
theorem neg_back {a b : Int} : subR 0 (subR a b false) false = subR b a false := by unfold subR subN; simp only [b2i]; simp; omega
theorem one_back {a : Int} (a0 : 0 ≤ a) (a1 : a ≤ 255) : subR (addR a 1 false) 1 false = a := add_back false a0 a1
theorem neg_twice {a : Int} (a0 : 0 ≤ a) (a1 : a ≤ 255) : subR 0 (subR 0 a false) false = a := by unfold subR subN; simp only [b2i]; simp; omega
theorem subF_bits (a b : Int) (c : Bool) : bitH (subF a b c) 0 = bitH (subR a b c) 0 ∧ bitH (subF a b c) 1 = (subR a b c == 0) ∧ bitH (subF a b c) 5 = overS (sgn8 a - sgn8 b - b2i c) ∧ bitH (subF a b c) 7 = decide (subN a b c < 0) := by
  unfold subF
  refine ⟨?_, ?_, ?_, ?_⟩
  all_goals
    rw [flagsS_bit _ _ _ _ _ _ _ _ (by omega)]
    try simp [sel8]
theorem sub_zero {a b : Int} (a0 : 0 ≤ a) (a1 : a ≤ 255) (b0 : 0 ≤ b) (b1 : b ≤ 255) : (bits .and .u8 (subF a b false) 64 != 0) = (a == b) := by
  rw [ask64 (subF_bd2 a b false).1 (subF_bd2 a b false).2, (subF_bits a b false).2.1]
  rw [Bool.eq_iff_iff]
  simp only [beq_iff_eq, subR, subN, b2i]
  simp
  omega
theorem sub_less {a b : Int} : (bits .and .u8 (subF a b false) 1 != 0) = decide (a < b) := by
  rw [ask1 (subF_bd2 a b false).1 (subF_bd2 a b false).2, (subF_bits a b false).2.2.2]
  exact decide_eq_decide.2 (by simp only [subN, b2i]; simp; omega)
theorem mixF_bd (f b : Int) : 0 ≤ mixF f b ∧ mixF f b ≤ 255 := flagsS_bd _ _ _ _ _ _ _ _
theorem mixF_bits (f b : Int) : bitH (mixF f b) 0 = bitH f 0 ∧ bitH (mixF f b) 1 = bitH f 1 ∧ bitH (mixF f b) 5 = bitH f 5 := by
  unfold mixF
  refine ⟨?_, ?_, ?_⟩
  all_goals
    rw [flagsS_bit _ _ _ _ _ _ _ _ (by omega)]
    try simp [sel8]
theorem cp_S (a b : Int) : (bits .and .u8 (mixF (subF a b false) b) 128 != 0) = bitH (subR a b false) 0 := by
  rw [ask128 (mixF_bd _ b).1 (mixF_bd _ b).2, (mixF_bits _ b).1, (subF_bits a b false).1]
theorem cp_P (a b : Int) : (bits .and .u8 (mixF (subF a b false) b) 4 != 0) = overS (sgn8 a - sgn8 b) := by
  rw [ask4 (mixF_bd _ b).1 (mixF_bd _ b).2, (mixF_bits _ b).2.2, (subF_bits a b false).2.2.1]
  simp [b2i]
theorem cp_Z {a b : Int} (a0 : 0 ≤ a) (a1 : a ≤ 255) (b0 : 0 ≤ b) (b1 : b ≤ 255) : (bits .and .u8 (mixF (subF a b false) b) 64 != 0) = (a == b) := by
  rw [ask64 (mixF_bd _ b).1 (mixF_bd _ b).2, (mixF_bits _ b).2.1, ← sub_zero a0 a1 b0 b1, ask64 (subF_bd2 a b false).1 (subF_bd2 a b false).2]
theorem xor_lt2 {P Q R S : Prop} [Decidable P] [Decidable Q] [Decidable R] [Decidable S] (h : S ↔ ((P ∧ ¬ (Q ∨ R)) ∨ (¬ P ∧ (Q ∨ R)))) : ((decide P != (decide Q || decide R)) == decide S) = true := by
  by_cases hp : P <;> by_cases hq : Q <;> by_cases hr : R <;> simp_all
theorem top_bit {v : Int} (v0 : 0 ≤ v) (v1 : v ≤ 255) : bitH v 0 = decide (128 ≤ v) := byte_all (p := fun v => bitH v 0 = decide (128 ≤ v)) (by decide +kernel) v0 v1
theorem signed2_num {a b : Int} (a0 : 0 ≤ a) (a1 : a ≤ 255) (b0 : 0 ≤ b) (b1 : b ≤ 255) : ((bitH (subR a b false) 0 != overS (sgn8 a - sgn8 b)) == decide (sgn8 a < sgn8 b)) = true := by
  rw [top_bit (subR_bd a b false).1 (subR_bd a b false).2]
  unfold overS
  apply xor_lt2
  unfold sgn8 subR subN
  simp only [b2i]
  split <;> split <;> simp <;> omega
theorem lives2_num : addR 127 1 false = 128 ∧ addF 127 1 false = 148 ∧ daaR 154 0 = 0 ∧ daaF 154 0 = 85 := by decide +kernel

end Go.Proofs.Ytefkdjanneeomaa
