/- Layer 11: contracts of a new board, of Next, Hold, Int, Paint. -/
import Derived.Test.YtfcnlgkaejkneaaBd4
import Derived.Test.YtfcnlgkaejkneaaBytes
import Derived.Deep.WholeRow
import Derived.Deep.CutRange
import Derived.Laws.CopyOwn
namespace Go.Proofs.Ytfcnlgkaejkneaa
open Go.RowKit

theorem cellsF_splice (f : Nat → Value) (n off : Nat) (cs : List Value) (h : off + cs.length ≤ n) : (splice (cellsF f n).toList off cs).toArray = cellsF (fun i => if off ≤ i ∧ i < off + cs.length then cs.getD (i - off) (.bool false) else f i) n := by
  unfold cellsF splice
  congr 1
  apply List.ext_getElem?
  intro i
  simp only [List.toList_toArray]
  have hl : (List.take off (List.map f (List.range n))).length = off := by simp; omega
  by_cases h1 : i < off
  · rw [List.getElem?_append_left (by rw [hl]; exact h1), List.getElem?_take_of_lt h1]
    have : ¬ (off ≤ i ∧ i < off + cs.length) := by omega
    simp [show i < n by omega, this]
  · rw [List.getElem?_append_right (by rw [hl]; omega), hl]
    by_cases h2 : i < off + cs.length
    · rw [List.getElem?_append_left (by omega)]
      have h3 : off ≤ i ∧ i < off + cs.length := ⟨by omega, h2⟩
      rw [List.getElem?_map, List.getElem?_range (by omega)]
      simp only [Option.map_some, h3, and_self, if_true]
      rw [List.getElem?_eq_getElem (by omega), List.getD_eq_getElem?_getD, List.getElem?_eq_getElem (by omega)]
      rfl
    · have h3 : ¬ (off ≤ i ∧ i < off + cs.length) := by omega
      rw [List.getElem?_append_right (by omega), List.getElem?_drop, show off + cs.length + (i - off - cs.length) = i by omega]
      by_cases h4 : i < n
      · simp [h4, h3]
      · rw [List.getElem?_eq_none (by simp; omega), List.getElem?_eq_none (by simp; omega)]
/-- memory with a row laid into it -/
def layM (f : Nat → Int) (off : Nat) (zs : List Int) : Nat → Int := fun k => if off ≤ k ∧ k < off + zs.length then zs.getD (k - off) 0 else f k
theorem bd_splice {b : Bd} {A E : Value} (off : Nat) (zs : List Int) (h : off + zs.length ≤ 65536) : (splice (bdC b A E).toList off (zs.map (Value.int .u8))).toArray = bdC { b with M := layM b.M off zs } A E := by
  unfold bdC
  rw [cellsF_splice _ _ _ _ (by simp; omega)]
  refine cellsF_congr fun i hi => ?_
  rw [List.length_map]
  by_cases h1 : i < 65536
  · rw [bd_M h1]
    by_cases h2 : off ≤ i ∧ i < off + zs.length
    · rw [if_pos h2, bd_M h1, List.getD_eq_getElem?_getD, List.getElem?_map, List.getElem?_eq_getElem (by omega)]
      simp only [Option.map_some, Option.getD_some, layM]
      rw [if_pos h2, List.getD_eq_getElem?_getD, List.getElem?_eq_getElem (by omega)]
      rfl
    · rw [if_neg h2, bd_M h1]
      simp only [layM]
      rw [if_neg h2]
  · rw [if_neg (by omega)]
    unfold bdAt
    rw [if_neg h1, if_neg h1]
def newB (ph : Int) (rz mz : List Int) : Bd := { bd0 with fr := ph, M := layM (layM (fun _ => 0) 0 rz) 16384 mz }

set_option maxRecDepth 100000 in
set_option maxHeartbeats 4000000 in
theorem bNew_arg (w : World) (RA MA : Option Addr) (rn rc mn mc : Nat) (ph : Int) (h : rn ≠ 16384) : Calls Try.prog 7 #[.slice RA rn rc, .slice MA mn mc, .int .i64 ph] w fun x w' => x = .returned (.tuple #[.pointer none, .int .i64 1]) ∧ w = w' := by
  have hI : ((rn : Int) == 16384) = false := by simpa using (show ¬ (rn : Int) = 16384 by omega)
  have hN : (rn == 16384) = false := by simpa using h
  clear h
  go_enter Try.func7, Try.ntmps7
  go_wp2
  go_ret2
  exact ⟨rfl, rfl⟩
set_option maxRecDepth 100000 in
set_option maxHeartbeats 4000000 in
theorem bNew_long (w : World) (RA MA : Option Addr) (rc mn mc : Nat) (ph : Int) (h : 49152 < mn) : Calls Try.prog 7 #[.slice RA 16384 rc, .slice MA mn mc, .int .i64 ph] w fun x w' => x = .returned (.tuple #[.pointer none, .int .i64 8]) ∧ w = w' := by
  have hI : (49152 : Int) < (mn : Int) := by omega
  go_enter Try.func7, Try.ntmps7
  go_wp2
  go_ret2
  exact ⟨rfl, rfl⟩
set_option maxRecDepth 100000 in
set_option maxHeartbeats 4000000 in
theorem bNew_any (w : World) (RA MA : Option Addr) (rc mn mc : Nat) (ph : Int) (p0 : -9223372036854775808 ≤ ph) (p1 : ph ≤ 9223372036854775807) (rz mz : List Int) (hR : Reads w w.heap.size 1 RA 16384 (rz.map (Value.int .u8))) (hM : Reads w w.heap.size 1 MA mn (mz.map (Value.int .u8))) (hm : mn ≤ 49152) :
    Calls Try.prog 7 #[.slice RA 16384 rc, .slice MA mn mc, .int .i64 ph] w fun x w' => ∃ g, x = .returned (.tuple #[.pointer (some ⟨g, 0, none⟩), .int .i64 0]) ∧ w.heap.size ≤ g ∧ BdIs w' g (newB (frameS ph) rz mz) (.slice none 0 0) (.slice none 0 0) ∧ Below w.heap.size w w' := by
  have hrl : rz.length = 16384 := reads_len hR
  have hml : mz.length = mn := reads_len hM
  have hmI : ¬ (49152 : Int) < (mn : Int) := by omega
  obtain ⟨hz, hi⟩ := zero_of_info bdZero
  have hZs : (flat bdRuns).toArray.size = 77842 := by rw [bd0_cells]; exact cellsF_size _ _
  have hZc := bd0_cells
  generalize (flat bdRuns).toArray = Z at *
  have hfr := frame_any ph w p0 p1
  obtain ⟨F, hF⟩ : ∃ F, F = frameS ph := ⟨_, rfl⟩
  rw [← hF] at hfr
  have HB := Lib.hid (show Blk (w.alloc (.cells (Z.setIfInBounds 65548 (.int .i64 F)) 37)) w.heap.size 37 (bdC { bd0 with fr := F } (.slice none 0 0) (.slice none 0 0)) from by
    have := Blk.new w 37 (Z.setIfInBounds 65548 (.int .i64 F))
    rw [hZc, set_fr] at this
    rw [hZc, set_fr]
    exact this)
  have HH := Lib.hid (And.intro hF (And.intro hR (And.intro hM (And.intro hrl hml))))
  have HMN := Lib.hid hm
  clear hF hR hM hrl hml hZc p0 p1 hm
  go_enter Try.func7, Try.ntmps7
  go_wp2_with fail
  refine hfr.mono ?_
  rintro x w' ⟨rfl, rfl⟩
  clear hfr
  go_upto_region 6 with fail
  have HB1 := Lib.hid (show Below w.heap.size w (w.alloc (.cells (Z.setIfInBounds 65548 (.int .i64 F)) 37)) from (Below.refl _ _).alloc (Nat.le_refl _) _)
  generalize w.alloc (.cells (Z.setIfInBounds 65548 (.int .i64 F)) 37) = w1 at *
  have HC := Lib.hid (show w1.heap[w.heap.size]? = some (.cells (bdC { bd0 with fr := F } (.slice none 0 0) (.slice none 0 0)).toList.toArray 37 (0, 0)) ∧ (rz.map (Value.int .u8)).length = Nat.min 16384 65536 ∧ (0 < (rz.map (Value.int .u8)).length → some (⟨w.heap.size, 0, none⟩ : Addr) = some ⟨w.heap.size, 0, none⟩ ∧ ∃ ad, RA = some ad ∧ ∀ j v, (rz.map (Value.int .u8))[j]? = some v → w1.cell? (ad.add j) = some v) ∧ 0 + (rz.map (Value.int .u8)).length ≤ (bdC { bd0 with fr := F } (.slice none 0 0) (.slice none 0 0)).toList.length ∧ (∀ v ∈ rz.map (Value.int .u8), v.oneCell' = true) ∧ Below w.heap.size w w1 from
    ⟨HB.out, by rw [List.length_map, HH.out.2.2.2.1]; rfl, fun _ => ⟨rfl, by
      obtain ⟨ad, e, _, hc⟩ := (HH.out.2.1.below HB1.out).2 (by omega)
      exact ⟨ad, e, hc⟩⟩, by rw [List.length_map, HH.out.2.2.2.1, Array.length_toList, bdC, cellsF_size]; omega, by intro v hv; obtain ⟨x, _, rfl⟩ := List.mem_map.1 hv; rfl, HB1.out⟩)
  go_wp2_with (first
    | (refine wpList_copy_splice rfl (.tmp 24) (.tmp 25) 22 22 rfl 5 Try.underlying22 (by kernel_rfl) (some ⟨w.heap.size, 0, none⟩) RA 65536 65536 16384 rc rfl rfl w.heap.size 0 _ 37 HC.out.1 (rz.map (Value.int .u8)) HC.out.2.1 HC.out.2.2.1 HC.out.2.2.2.1 HC.out.2.2.2.2.1 w.heap.size w HC.out.2.2.2.2.2 (Nat.le_refl _) ?_)
    | fail)
  intro w2 hw2 hb2
  have HB2 := Lib.hid (show Blk w2 w.heap.size 37 (bdC { bd0 with fr := F, M := layM (fun _ => 0) 0 rz } (.slice none 0 0) (.slice none 0 0)) from by
    have := hw2.out
    rw [bd_splice 0 rz (by rw [HH.out.2.2.2.1]; omega)] at this
    exact this)
  have HB3 := Lib.hid hb2
  clear hw2 hb2
  have HC2 := Lib.hid (show w2.heap[w.heap.size]? = some (.cells (bdC { bd0 with fr := F, M := layM (fun _ => 0) 0 rz } (.slice none 0 0) (.slice none 0 0)).toList.toArray 37 (0, 0)) ∧ (mz.map (Value.int .u8)).length = Nat.min mn 49152 ∧ (0 < (mz.map (Value.int .u8)).length → some (⟨w.heap.size, 16384, none⟩ : Addr) = some ⟨w.heap.size, 16384, none⟩ ∧ ∃ ad, MA = some ad ∧ ∀ j v, (mz.map (Value.int .u8))[j]? = some v → w2.cell? (ad.add j) = some v) ∧ 16384 + (mz.map (Value.int .u8)).length ≤ (bdC { bd0 with fr := F, M := layM (fun _ => 0) 0 rz } (.slice none 0 0) (.slice none 0 0)).toList.length ∧ (∀ v ∈ mz.map (Value.int .u8), v.oneCell' = true) ∧ Below w.heap.size w w2 from
    ⟨HB2.out, by rw [List.length_map, HH.out.2.2.2.2]; exact (Nat.min_eq_left HMN.out).symm, fun h0 => ⟨rfl, by
      obtain ⟨ad, e, _, hc⟩ := (HH.out.2.2.1.below HB3.out).2 (by rw [List.length_map, HH.out.2.2.2.2] at h0; exact h0)
      exact ⟨ad, e, hc⟩⟩, by have := HMN.out; rw [List.length_map, HH.out.2.2.2.2, Array.length_toList, bdC, cellsF_size]; omega, by intro v hv; obtain ⟨x, _, rfl⟩ := List.mem_map.1 hv; rfl, HB3.out⟩)
  go_wp2_with (first
    | (refine wpList_copy_splice rfl (.tmp 30) (.tmp 31) 22 22 rfl 5 Try.underlying22 (by kernel_rfl) (some ⟨w.heap.size, 16384, none⟩) MA 49152 49152 mn mc rfl rfl w.heap.size 16384 _ 37 HC2.out.1 (mz.map (Value.int .u8)) HC2.out.2.1 HC2.out.2.2.1 HC2.out.2.2.2.1 HC2.out.2.2.2.2.1 w.heap.size w HC2.out.2.2.2.2.2 (Nat.le_refl _) ?_)
    | fail)
  intro w3 hw3 hb3
  have HB4 := Lib.hid (show BdIs w3 w.heap.size (newB F rz mz) (.slice none 0 0) (.slice none 0 0) ∧ Below w.heap.size w w3 from ⟨by
    have := hw3.out
    rw [bd_splice 16384 mz (by have := HMN.out; rw [HH.out.2.2.2.2]; omega)] at this
    exact this, hb3⟩)
  clear hw3 hb3
  go_wp2
  go_ret2
  exact ⟨w.heap.size, rfl, Nat.le_refl _, by rw [← HH.out.1]; exact HB4.out.1, HB4.out.2⟩
end Go.Proofs.Ytfcnlgkaejkneaa
