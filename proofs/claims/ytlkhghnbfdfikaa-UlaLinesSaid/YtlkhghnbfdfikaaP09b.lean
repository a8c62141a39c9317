/- Plain numbers for the law UlaLines: the T-states of a line. No program stands here. -/
import Derived.Test.YtlkhghnbfdfikaaUla
namespace Go.Proofs.Ytlkhghnbfdfikaa
open Go.RowKit

/-- how many bytes were fetched ahead of the k-th T-state of a line -/
def cntN (k : Int) : Int := if k < 3 then 0 else if 131 ≤ k then 64 else 4 * ((k - 3) / 8) + (if (k - 3) % 8 < 4 then (k - 3) % 8 else 4)
def hitK (k : Int) : Bool := decide (3 ≤ k) && decide (k < 131) && decide ((k - 3) % 8 < 4)
theorem line_t {n k : Int} (n0 : 0 ≤ n) (n1 : n ≤ 191) (k0 : 0 ≤ k) (k1 : k ≤ 223) : frameS (14335 + 224 * n + k) = 14335 + 224 * n + k := by unfold frameS; omega
theorem line_hit {n k : Int} (n0 : 0 ≤ n) (n1 : n ≤ 191) (k0 : 0 ≤ k) (k1 : k ≤ 223) : hitS (14335 + 224 * n + k) = hitK k := by
  unfold hitS hitN hitK
  rw [line_t n0 n1 k0 k1, Bool.eq_iff_iff]
  simp
  omega
theorem cnt_all : ∀ k : Fin 224, cntN ((k.val : Int) + 1) = if hitK (k.val : Int) = true then cntN (k.val : Int) + 1 else cntN (k.val : Int) := by decide +kernel
theorem cnt_step {k : Int} (k0 : 0 ≤ k) (k1 : k ≤ 223) : cntN (k + 1) = if hitK k = true then cntN k + 1 else cntN k := by
  obtain ⟨m, rfl⟩ := Int.eq_ofNat_of_zero_le k0
  exact cnt_all ⟨m, by omega⟩
theorem line_place {n k : Int} (n0 : 0 ≤ n) (n1 : n ≤ 191) (k0 : 0 ≤ k) (k1 : k ≤ 223) (h : hitK k = true) : placeS (14335 + 224 * n + k) = 64 * n + cntN k ∧ cntN (k + 1) = cntN k + 1 := by
  have hh := line_hit n0 n1 k0 k1
  rw [h] at hh
  refine ⟨?_, by rw [cnt_step k0 k1, if_pos h]⟩
  unfold hitK at h
  simp at h
  have hc : cntN k = 4 * ((k - 3) / 8) + (k - 3) % 8 := by
    unfold cntN
    rw [if_neg (show ¬ k < 3 by omega), if_neg (show ¬ 131 ≤ k by omega), if_pos (show (k - 3) % 8 < 4 by omega)]
  unfold placeS
  rw [hh, if_pos rfl, line_t n0 n1 k0 k1, hc]
  unfold placeN lineN cellN halfN
  omega
theorem line_skip {k : Int} (k0 : 0 ≤ k) (k1 : k ≤ 223) (h : hitK k = false) : cntN (k + 1) = cntN k := by
  rw [cnt_step k0 k1, h]; rfl
theorem cnt_bd (k : Int) : 0 ≤ cntN k ∧ cntN k ≤ 64 := by unfold cntN; split; omega; split; omega; split <;> omega
theorem cnt_ends : cntN 0 = 0 ∧ cntN 224 = 64 := by decide
theorem line_wait {n k : Int} (n0 : 0 ≤ n) (n1 : n ≤ 191) (k0 : 0 ≤ k) (k1 : k ≤ 223) : (0 ≤ waitS (14335 + 224 * n + k) ∧ waitS (14335 + 224 * n + k) ≤ 6) ∧ (128 ≤ k → waitS (14335 + 224 * n + k) = 0) := by
  refine ⟨waitN_bd _, fun h => ?_⟩
  unfold waitS waitN
  rw [line_t n0 n1 k0 k1, if_pos (by omega)]

end Go.Proofs.Ytlkhghnbfdfikaa
