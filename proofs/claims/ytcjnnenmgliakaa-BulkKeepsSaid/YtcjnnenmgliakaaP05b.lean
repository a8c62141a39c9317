/- Plain numbers for the law BulkKeeps. No program stands here. -/
import Derived.Test.YtcjnnenmgliakaaP05
namespace Go.Proofs.Ytcjnnenmgliakaa
open Go.RowKit

theorem and64 {f : Int} (f0 : 0 ≤ f) (f1 : f ≤ 255) : bits .and .u8 f 64 = if bitH f 1 = true then 64 else 0 := byte_all (p := fun f => bits .and .u8 f 64 = if bitH f 1 = true then 64 else 0) (by decide +kernel) f0 f1
theorem and4 {f : Int} (f0 : 0 ≤ f) (f1 : f ≤ 255) : bits .and .u8 f 4 = if bitH f 5 = true then 4 else 0 := byte_all (p := fun f => bits .and .u8 f 4 = if bitH f 5 = true then 4 else 0) (by decide +kernel) f0 f1
theorem and1 {f : Int} (f0 : 0 ≤ f) (f1 : f ≤ 255) : bits .and .u8 f 1 = if bitH f 7 = true then 1 else 0 := byte_all (p := fun f => bits .and .u8 f 1 = if bitH f 7 = true then 1 else 0) (by decide +kernel) f0 f1
theorem lit195 : bitH 195 0 = true ∧ bitH 195 1 = true ∧ bitH 195 2 = false ∧ bitH 195 3 = false ∧ bitH 195 4 = false ∧ bitH 195 5 = false ∧ bitH 195 6 = true ∧ bitH 195 7 = true := by decide +kernel
theorem copyF_bd (a v bc f : Int) : 0 ≤ copyF a v bc f ∧ copyF a v bc f ≤ 255 := flagsS_bd _ _ _ _ _ _ _ _
theorem findF_bd (a v bc f : Int) : 0 ≤ findF a v bc f ∧ findF a v bc f ≤ 255 := flagsS_bd _ _ _ _ _ _ _ _
theorem copyF_bits (a v bc f : Int) : bitH (copyF a v bc f) 5 = decide (0 < bc) ∧ bitH (copyF a v bc f) 7 = bitH f 7 := by
  unfold copyF
  refine ⟨?_, ?_⟩
  all_goals
    rw [flagsS_bit _ _ _ _ _ _ _ _ (by omega)]
    try simp [sel8]
theorem findF_bits (a v bc f : Int) : bitH (findF a v bc f) 1 = (subR a v false == 0) ∧ bitH (findF a v bc f) 5 = decide (0 < bc) ∧ bitH (findF a v bc f) 7 = bitH f 7 := by
  unfold findF
  refine ⟨?_, ?_, ?_⟩
  all_goals
    rw [flagsS_bit _ _ _ _ _ _ _ _ (by omega)]
    try simp [sel8]
  unfold subF
  rw [flagsS_bit _ _ _ _ _ _ _ _ (by omega)]
  simp [sel8]
theorem copy_c (a v bc : Int) {f : Int} (f0 : 0 ≤ f) (f1 : f ≤ 255) : bits .and .u8 (copyF a v bc f) 1 = bits .and .u8 f 1 := by
  rw [and1 (copyF_bd a v bc f).1 (copyF_bd a v bc f).2, and1 f0 f1, (copyF_bits a v bc f).2]
theorem find_c (a v bc : Int) {f : Int} (f0 : 0 ≤ f) (f1 : f ≤ 255) : bits .and .u8 (findF a v bc f) 1 = bits .and .u8 f 1 := by
  rw [and1 (findF_bd a v bc f).1 (findF_bd a v bc f).2, and1 f0 f1, (findF_bits a v bc f).2.2]
theorem copy_p (a v bc f : Int) : bits .and .u8 (copyF a v bc f) 4 = if 0 < bc then 4 else 0 := by
  rw [and4 (copyF_bd a v bc f).1 (copyF_bd a v bc f).2, (copyF_bits a v bc f).1]; simp
theorem find_p (a v bc f : Int) : bits .and .u8 (findF a v bc f) 4 = if 0 < bc then 4 else 0 := by
  rw [and4 (findF_bd a v bc f).1 (findF_bd a v bc f).2, (findF_bits a v bc f).2.1]; simp
theorem find_z {a v : Int} (bc f : Int) (a0 : 0 ≤ a) (a1 : a ≤ 255) (v0 : 0 ≤ v) (v1 : v ≤ 255) : bits .and .u8 (findF a v bc f) 64 = if a = v then 64 else 0 := by
  rw [and64 (findF_bd a v bc f).1 (findF_bd a v bc f).2, (findF_bits a v bc f).1]
  by_cases h : a = v
  · rw [if_pos h, if_pos (by simp only [beq_iff_eq, subR, subN, b2i]; simp; omega)]
  · rw [if_neg h, if_neg (by simp only [beq_iff_eq, subR, subN, b2i]; simp; omega)]
theorem again_kept {f : Int} (pc : Int) (f0 : 0 ≤ f) (f1 : f ≤ 255) : bits .and .u8 (againF f pc) 195 = bits .and .u8 f 195 :=
  ((BV.again f pc).and (BV.num 195 (by omega))) |>.eq ((BV.self f0 f1).and (BV.num 195 (by omega)))
    (all8 (by simp [sel8, lit195]) (by simp [sel8, lit195]) (by simp [sel8, lit195]) (by simp [sel8, lit195]) (by simp [sel8, lit195]) (by simp [sel8, lit195]) (by simp [sel8, lit195]) (by simp [sel8, lit195]))
theorem portAgain_kept {f : Int} (v b pc : Int) (f0 : 0 ≤ f) (f1 : f ≤ 255) : bits .and .u8 (portAgainF f v b pc) 195 = bits .and .u8 f 195 := by
  unfold portAgainF
  exact ((BV.flags _ _ _ _ _ _ _ _).and (BV.num 195 (by omega))) |>.eq ((BV.self f0 f1).and (BV.num 195 (by omega)))
    (all8 (by simp [sel8, lit195]) (by simp [sel8, lit195]) (by simp [sel8, lit195]) (by simp [sel8, lit195]) (by simp [sel8, lit195]) (by simp [sel8, lit195]) (by simp [sel8, lit195]) (by simp [sel8, lit195]))

end Go.Proofs.Ytcjnnenmgliakaa
