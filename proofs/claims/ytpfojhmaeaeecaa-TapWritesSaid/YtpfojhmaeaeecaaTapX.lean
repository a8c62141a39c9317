/- Contracts of layer 18: a block with its sum. -/
import Derived.Test.YtpfojhmaeaeecaaTapW
import Derived.Laws.CopyOwn
import Derived.Laws.OwnMore
namespace Go.Proofs.Ytpfojhmaeaeecaa
open Go.RowKit

theorem make_u8 (w : World) (n : Nat) (hn : n ≤ 2000000) : (Instr.makeSlice 22 (.int .i64 ((n : Int) + 2)) (.int .i64 ((n : Int) + 2))).run Try.prog w = .ok (.slice (some ⟨w.heap.size, 0, none⟩) (n + 2) (n + 2)) (w.alloc (.cells (List.replicate (n + 2) (Value.int .u8 0)).toArray 5)) := by
  obtain ⟨i0, hi, hz0, hz1, hz2⟩ := info_parts u8Info
  have h := run_makeSlice (P := Try.prog) w 22 5 i0 (.int .u8 0) Try.underlying22 hi hz0 .i64 .i64 ((n : Int) + 2) ((n : Int) + 2) (by omega) (by omega) (by rw [hz1]; omega) (by rw [hz2]; omega) (by omega)
  rw [hz1, show ((n : Int) + 2).toNat = n + 2 by omega, Nat.mul_one] at h
  rw [h]
  congr 3
  apply Array.ext'
  rw [show (Value.int .u8 0).cells = #[Value.int .u8 0] from rfl, toList_madeCells_one]
theorem below_heap {w w' : World} {B : Nat} (h : Below B w w') : Below B w w' := h

set_option maxRecDepth 100000 in
set_option maxHeartbeats 2000000 in
theorem sealed_any (w : World) (n c : Nat) (A : Option Addr) (f : Int) (zs : List Int) (hr : Reads w w.heap.size 1 A n (zs.map (Value.int .u8))) (hz : isU8 zs) (hn : n ≤ 2000000) (f0 : 0 ≤ f) (f1 : f ≤ 255) :
    Calls Try.prog 36 #[.int .u8 f, .slice A n c] w fun e w' => e = .returned (.slice (some ⟨w.heap.size, 0, none⟩) (n + 2) (n + 2)) ∧ Below w.heap.size w w' ∧ Blk w' w.heap.size 5 ((f :: zs ++ [bits .xor .u8 f (sumX zs)]).map (Value.int .u8)).toArray := by
  have HL := Lib.hid (reads_len hr)
  obtain ⟨X, hX⟩ : ∃ X, X = sumX zs := ⟨_, rfl⟩
  rw [← hX]
  have HX := Lib.hid hX
  clear hX
  have hmk := make_u8 w n hn
  have hb0 : Below w.heap.size w (w.alloc (.cells (List.replicate (n + 2) (Value.int .u8 0)).toArray 5)) := (Below.refl _ _).alloc (Nat.le_refl _) _
  have hB0 : Blk (w.alloc (.cells (List.replicate (n + 2) (Value.int .u8 0)).toArray 5)) w.heap.size 5 (List.replicate (n + 2) (Value.int .u8 0)).toArray := Blk.new w _ _
  go_enter Try.func36, Try.ntmps36
  have hc0 : (w.alloc (.cells (List.replicate (n + 2) (Value.int .u8 0)).toArray 5)).cell? ⟨w.heap.size, 0, none⟩ = some (.int .u8 0) := (hB0.cell 0).trans (by simp)
  have hf0 := hB0.frozen 0
  have hb1 := hb0.setCell (p := ⟨w.heap.size, 0, none⟩) (Nat.le_refl _) (.int .u8 f)
  have hB1 := hB0.set_ 0 (.int .u8 f)
  rw [show (List.replicate (n + 2) (Value.int .u8 0)).toArray.setIfInBounds 0 (.int .u8 f) = (Value.int .u8 f :: List.replicate (n + 1) (Value.int .u8 0)).toArray by rw [List.setIfInBounds_toArray]; rfl] at hB1
  generalize w.alloc (.cells (List.replicate (n + 2) (Value.int .u8 0)).toArray 5) = W at *
  have hsum := fun (w' : World) (h : Below w.heap.size w w') => sum_any w' w.heap.size n c A zs (hr.below h) hn
  have HSUM := Lib.hid hsum
  have hcs : ∀ w', Below w.heap.size w w' → 0 < (zs.map (Value.int .u8)).length → (some (⟨w.heap.size, 1, none⟩ : Addr)) = some ⟨w.heap.size, 1, none⟩ ∧ ∃ ad, A = some ad ∧ ∀ j v, (zs.map (Value.int .u8))[j]? = some v → w'.cell? (ad.add j) = some v := fun w' h h0 => by
    obtain ⟨ad, rfl, _, hc⟩ := (hr.below h).2 (by simpa [HL.out] using h0)
    exact ⟨rfl, ad, rfl, hc⟩
  have HCS := Lib.hid hcs
  have hone : ∀ v ∈ zs.map (Value.int .u8), v.oneCell' = true := fun u hu => by
    simp only [List.mem_map] at hu
    obtain ⟨z, _, rfl⟩ := hu
    rfl
  have hsp : splice (Value.int .u8 f :: List.replicate (n + 1) (Value.int .u8 0)) 1 (zs.map (Value.int .u8)) = (f :: zs ++ [0]).map (Value.int .u8) := by
    unfold splice
    rw [List.length_map, HL.out]
    simp [List.drop_replicate, Nat.add_comm]
  have HSP := Lib.hid hsp
  have hmin : (zs.map (Value.int .u8)).length = Nat.min n (n + 1) := by rw [List.length_map, HL.out]; exact (Nat.min_eq_left (by omega)).symm
  have hfit : 1 + (zs.map (Value.int .u8)).length ≤ (Value.int .u8 f :: List.replicate (n + 1) (Value.int .u8 0)).length := by rw [List.length_map, HL.out, List.length_cons, List.length_replicate]; omega
  have HM := Lib.hid hmin
  have HFI := Lib.hid hfit
  clear hmin hfit
  clear hsum hcs hsp hr hB0
  go_wp2_with (first
    | (refine wpList_copy_splice rfl (.tmp 14) (.tmp 15) 22 22 rfl 5 Try.underlying22 (by kernel_rfl) (some ⟨w.heap.size, 1, none⟩) A (n + 1) (n + 1) n c rfl rfl w.heap.size 1 _ 5 hB1 (zs.map (Value.int .u8)) HM.out (HCS.out _ hb1) HFI.out hone w.heap.size w hb1 (Nat.le_refl _) ?_)
    | go_in)
  intro w2 hg2 hb2
  have hB2 : Blk w2 w.heap.size 5 ((f :: zs ++ [0]).map (Value.int .u8)).toArray := by rw [← HSP.out]; exact hg2.out
  have hc2 : w2.cell? ⟨w.heap.size, n + 1, none⟩ = some (.int .u8 0) := (hB2.cell (n + 1)).trans (by rw [List.getElem?_toArray, List.getElem?_map, ← HL.out]; simp)
  have hf2 := hB2.frozen (n + 1)
  have hsX := sumX_in zs.length zs (Nat.le_refl _) hz
  have hsm := HSUM.out w2 hb2
  have hB3 := hB2.set_ (n + 1) (.int .u8 (bits .xor .u8 f (sumX zs)))
  have hlist : ((f :: zs ++ [0]).map (Value.int .u8)).toArray.setIfInBounds (n + 1) (.int .u8 (bits .xor .u8 f (sumX zs))) = ((f :: zs ++ [bits .xor .u8 f (sumX zs)]).map (Value.int .u8)).toArray := by
    rw [List.setIfInBounds_toArray]
    congr 1
    have : n + 1 = ((f :: zs).map (Value.int .u8)).length := by simp [HL.out]
    rw [List.map_append, List.map_append, List.set_append_right _ _ (by rw [this]; exact Nat.le_refl _), this, Nat.sub_self]
    rfl
  rw [hlist] at hB3
  have hb3 := hb2.setCell (p := ⟨w.heap.size, n + 1, none⟩) (Nat.le_refl _) (.int .u8 (bits .xor .u8 f (sumX zs)))
  have H3 := Lib.hid (And.intro hb3 hB3)
  clear hb3 hB3 hlist hB2 hg2 hB1 hb1 hb0 hmk
  rw [← HX.out] at hsX hsm H3
  go_wp2_with fail
  refine hsm.mono ?_
  rintro e w3 ⟨rfl, rfl⟩
  go_wp2
  go_ret
  exact ⟨rfl, H3.out⟩

end Go.Proofs.Ytpfojhmaeaeecaa
