/- Layer 24: the walk of WalkCalls. -/
import Derived.Test.YtnmapncgnceldaaWk18
import Derived.Test.YtnmapncgnceldaaWk17
namespace Go.Proofs.Ytnmapncgnceldaa
open Go.RowKit

theorem cl2_walk (z : Int) : IntKind.i64.wrap (2 + IntKind.i64.wrap (2 * if 0 < if 2 < z then 2 else z then if 2 < z then 2 else z else 0)) = cl2 z := by
  have h : (if 0 < if 2 < z then 2 else z then if 2 < z then 2 else z else 0) = max 0 (min z 2) := by
    by_cases h2 : 2 < z
    · rw [if_pos h2, if_pos (by decide)]
      omega
    · rw [if_neg h2]
      split <;> omega
  rw [h, IntKind.wrap_i64, IntKind.wrap_i64]
  unfold cl2
  omega
theorem map_cl2_getD {zs : List Int} {k : Nat} (h : k < zs.length) : (zs.map cl2).getD k 0 = cl2 (zs.getD k 0) := by
  rw [List.getD_eq_getElem?_getD, List.getD_eq_getElem?_getD, List.getElem?_map, List.getElem?_eq_getElem h]
  rfl
theorem take_cl2 {zs : List Int} {k : Nat} (h : k < zs.length) : (zs.take (k + 1)).map cl2 = (zs.take k).map cl2 ++ [cl2 (zs.getD k 0)] := by
  rw [List.take_add_one, List.map_append, List.getD_eq_getElem?_getD, List.getElem?_eq_getElem h]
  rfl
theorem RdP.up {w : World} {base size n : Nat} {A : Option Addr} {xs : List Value} (h : RdP w (fun b => base ≤ b ∧ b < w.heap.size) size A n xs) : RdP w (· < w.heap.size) size A n xs := h.keep (fun b _ => rfl) (fun b h => h.2)
theorem WBsAt.nil {w : World} {φ : Nat → Prop} : WBsAt w φ [] [] := rfl
theorem WBsAt.cons {w : World} {φ : Nat → Prop} {d : WB} {l : List WB} {cs ys : List Value} (h : WBAt w φ d cs) (k : WBsAt w φ l ys) : WBsAt w φ (d :: l) (cs ++ ys) := ⟨cs, ys, rfl, h, k⟩
theorem wb_ts {w : World} {φ : Nat → Prop} (i : Int) (ts : List Int) (TA : Option Addr) (tn tc : Nat) {cs : List Value} (h : cs = [.int .i64 i, .int .i64 0, .int .i64 0, .int .i64 0, .int .i64 0, .int .i64 0, .int .i64 0, .int .i64 0, .int .i64 0, .int .i64 0, .int .i64 0, .int .i64 0, .slice none 0 0, .slice TA tn tc, .slice none 0 0, .slice none 0 0, .slice none 0 0, .slice none 0 0]) (hR : RdP w φ 1 TA tn (ts.map (Value.int .i64))) : WBAt w φ ⟨i, 0, 0, ts, []⟩ cs :=
  ⟨_, _, _, _, _, _, _, _, _, _, TA, tn, tc, none, 0, _, _, _, h, by rw [h]; simp [Value.oneCell'], hR, fun h => absurd h (by simp)⟩
set_option maxRecDepth 100000 in
theorem blksC {wr : World} {g7 gB base k tc : Nat} {TA : Option Addr} {TS : List Int} (hB : Blk wr gB 45 (.int .i64 38 :: .int .i64 0 :: .int .i64 0 :: .int .i64 0 :: .int .i64 0 :: .int .i64 0 :: .int .i64 0 :: .int .i64 0 :: .int .i64 0 :: .int .i64 0 :: .int .i64 0 :: .int .i64 0 :: .slice none 0 0 :: .slice TA k tc :: .slice none 0 0 :: .slice none 0 0 :: .slice none 0 0 :: .slice none 0 0 :: .int .i64 35 :: .int .i64 0 :: .int .i64 0 :: .int .i64 0 :: .int .i64 0 :: .int .i64 0 :: .int .i64 0 :: .int .i64 0 :: .int .i64 0 :: .int .i64 0 :: .int .i64 0 :: .int .i64 0 :: .slice none 0 0 :: .slice (some ⟨g7, 0, none⟩) 1 1 :: .slice none 0 0 :: .slice none 0 0 :: .slice none 0 0 :: .slice none 0 0 :: .int .i64 18 :: .int .i64 0 :: .int .i64 0 :: .int .i64 0 :: .int .i64 0 :: .int .i64 0 :: .int .i64 0 :: .int .i64 0 :: .int .i64 0 :: .int .i64 0 :: .int .i64 0 :: .int .i64 0 :: .slice none 0 0 :: .slice none 0 0 :: .slice none 0 0 :: .slice none 0 0 :: .slice none 0 0 :: .slice none 0 0 :: .int .i64 39 :: .int .i64 0 :: .int .i64 0 :: .int .i64 0 :: .int .i64 0 :: .int .i64 0 :: .int .i64 0 :: .int .i64 0 :: .int .i64 0 :: .int .i64 0 :: .int .i64 0 :: .int .i64 0 :: .slice none 0 0 :: .slice none 0 0 :: .slice none 0 0 :: .slice none 0 0 :: .slice none 0 0 :: .slice none 0 0 :: .int .i64 19 :: .int .i64 0 :: .int .i64 0 :: .int .i64 0 :: .int .i64 0 :: .int .i64 0 :: .int .i64 0 :: .int .i64 0 :: .int .i64 0 :: .int .i64 0 :: .int .i64 0 :: .int .i64 0 :: .slice none 0 0 :: .slice none 0 0 :: .slice none 0 0 :: .slice none 0 0 :: .slice none 0 0 :: .slice none 0 0 :: .int .i64 39 :: .int .i64 0 :: .int .i64 0 :: .int .i64 0 :: .int .i64 0 :: .int .i64 0 :: .int .i64 0 :: .int .i64 0 :: .int .i64 0 :: .int .i64 0 :: .int .i64 0 :: .int .i64 0 :: .slice none 0 0 :: .slice none 0 0 :: .slice none 0 0 :: .slice none 0 0 :: .slice none 0 0 :: .slice none 0 0 :: .int .i64 20 :: .int .i64 0 :: .int .i64 0 :: .int .i64 0 :: .int .i64 0 :: .int .i64 0 :: .int .i64 0 :: .int .i64 0 :: .int .i64 0 :: .int .i64 0 :: .int .i64 0 :: .int .i64 0 :: .slice none 0 0 :: .slice none 0 0 :: .slice none 0 0 :: .slice none 0 0 :: .slice none 0 0 :: .slice none 0 0 :: .int .i64 39 :: .int .i64 0 :: .int .i64 0 :: .int .i64 0 :: .int .i64 0 :: .int .i64 0 :: .int .i64 0 :: .int .i64 0 :: .int .i64 0 :: .int .i64 0 :: .int .i64 0 :: .int .i64 0 :: .slice none 0 0 :: .slice none 0 0 :: .slice none 0 0 :: .slice none 0 0 :: .slice none 0 0 :: .slice none 0 0 :: .int .i64 21 :: .int .i64 0 :: .int .i64 0 :: .int .i64 0 :: .int .i64 0 :: .int .i64 0 :: .int .i64 0 :: .int .i64 0 :: .int .i64 0 :: .int .i64 0 :: .int .i64 0 :: .int .i64 0 :: .slice none 0 0 :: .slice none 0 0 :: .slice none 0 0 :: .slice none 0 0 :: .slice none 0 0 :: .slice none 0 0 :: []).toArray) (ho : wr.ownsRow base 3 1 (.slice TA k tc) k (TS.map (Value.int .i64))) (h7 : Blk wr g7 3 #[.int .i64 7]) :
    BlksR wr (· < wr.heap.size) (some ⟨gB, 0, none⟩) 9 (bsC TS) := by
  have hR7 : RdP wr (· < wr.heap.size) 1 (some ⟨g7, 0, none⟩) 1 (([7] : List Int).map (Value.int .i64)) := ⟨rfl, fun _ => ⟨_, rfl, h7.lt, fun j u hu => by
    rw [add0, h7.cell j, List.getElem?_toArray]
    exact hu⟩⟩
  refine ⟨(.int .i64 38 :: .int .i64 0 :: .int .i64 0 :: .int .i64 0 :: .int .i64 0 :: .int .i64 0 :: .int .i64 0 :: .int .i64 0 :: .int .i64 0 :: .int .i64 0 :: .int .i64 0 :: .int .i64 0 :: .slice none 0 0 :: .slice TA k tc :: .slice none 0 0 :: .slice none 0 0 :: .slice none 0 0 :: .slice none 0 0 :: .int .i64 35 :: .int .i64 0 :: .int .i64 0 :: .int .i64 0 :: .int .i64 0 :: .int .i64 0 :: .int .i64 0 :: .int .i64 0 :: .int .i64 0 :: .int .i64 0 :: .int .i64 0 :: .int .i64 0 :: .slice none 0 0 :: .slice (some ⟨g7, 0, none⟩) 1 1 :: .slice none 0 0 :: .slice none 0 0 :: .slice none 0 0 :: .slice none 0 0 :: .int .i64 18 :: .int .i64 0 :: .int .i64 0 :: .int .i64 0 :: .int .i64 0 :: .int .i64 0 :: .int .i64 0 :: .int .i64 0 :: .int .i64 0 :: .int .i64 0 :: .int .i64 0 :: .int .i64 0 :: .slice none 0 0 :: .slice none 0 0 :: .slice none 0 0 :: .slice none 0 0 :: .slice none 0 0 :: .slice none 0 0 :: .int .i64 39 :: .int .i64 0 :: .int .i64 0 :: .int .i64 0 :: .int .i64 0 :: .int .i64 0 :: .int .i64 0 :: .int .i64 0 :: .int .i64 0 :: .int .i64 0 :: .int .i64 0 :: .int .i64 0 :: .slice none 0 0 :: .slice none 0 0 :: .slice none 0 0 :: .slice none 0 0 :: .slice none 0 0 :: .slice none 0 0 :: .int .i64 19 :: .int .i64 0 :: .int .i64 0 :: .int .i64 0 :: .int .i64 0 :: .int .i64 0 :: .int .i64 0 :: .int .i64 0 :: .int .i64 0 :: .int .i64 0 :: .int .i64 0 :: .int .i64 0 :: .slice none 0 0 :: .slice none 0 0 :: .slice none 0 0 :: .slice none 0 0 :: .slice none 0 0 :: .slice none 0 0 :: .int .i64 39 :: .int .i64 0 :: .int .i64 0 :: .int .i64 0 :: .int .i64 0 :: .int .i64 0 :: .int .i64 0 :: .int .i64 0 :: .int .i64 0 :: .int .i64 0 :: .int .i64 0 :: .int .i64 0 :: .slice none 0 0 :: .slice none 0 0 :: .slice none 0 0 :: .slice none 0 0 :: .slice none 0 0 :: .slice none 0 0 :: .int .i64 20 :: .int .i64 0 :: .int .i64 0 :: .int .i64 0 :: .int .i64 0 :: .int .i64 0 :: .int .i64 0 :: .int .i64 0 :: .int .i64 0 :: .int .i64 0 :: .int .i64 0 :: .int .i64 0 :: .slice none 0 0 :: .slice none 0 0 :: .slice none 0 0 :: .slice none 0 0 :: .slice none 0 0 :: .slice none 0 0 :: .int .i64 39 :: .int .i64 0 :: .int .i64 0 :: .int .i64 0 :: .int .i64 0 :: .int .i64 0 :: .int .i64 0 :: .int .i64 0 :: .int .i64 0 :: .int .i64 0 :: .int .i64 0 :: .int .i64 0 :: .slice none 0 0 :: .slice none 0 0 :: .slice none 0 0 :: .slice none 0 0 :: .slice none 0 0 :: .slice none 0 0 :: .int .i64 21 :: .int .i64 0 :: .int .i64 0 :: .int .i64 0 :: .int .i64 0 :: .int .i64 0 :: .int .i64 0 :: .int .i64 0 :: .int .i64 0 :: .int .i64 0 :: .int .i64 0 :: .int .i64 0 :: .slice none 0 0 :: .slice none 0 0 :: .slice none 0 0 :: .slice none 0 0 :: .slice none 0 0 :: .slice none 0 0 :: []), ⟨rfl, fun _ => ⟨_, rfl, hB.lt, fun j u hu => by
    rw [add0, hB.cell j, List.getElem?_toArray]
    exact hu⟩⟩, ?_⟩
  exact (WBsAt.cons (wb_ts 38 TS TA k tc rfl (RdP.of_own ho).up) (WBsAt.cons (wb_ts 35 [7] _ 1 1 rfl hR7) (WBsAt.cons (wb_plain' 18 0 0 0 rfl) (WBsAt.cons (wb_plain' 39 0 0 0 rfl) (WBsAt.cons (wb_plain' 19 0 0 0 rfl) (WBsAt.cons (wb_plain' 39 0 0 0 rfl) (WBsAt.cons (wb_plain' 20 0 0 0 rfl) (WBsAt.cons (wb_plain' 39 0 0 0 rfl) (WBsAt.cons (wb_plain' 21 0 0 0 rfl) WBsAt.nil)))))))))
theorem blksJ {wr : World} {g7 gB : Nat} (hB : Blk wr gB 45 (#[.int .i64 35, .int .i64 0, .int .i64 0, .int .i64 0, .int .i64 0, .int .i64 0, .int .i64 0, .int .i64 0, .int .i64 0, .int .i64 0, .int .i64 0, .int .i64 0, .slice none 0 0, .slice (some ⟨g7, 0, none⟩) 1 1, .slice none 0 0, .slice none 0 0, .slice none 0 0, .slice none 0 0] : Array Value)) (h7 : Blk wr g7 3 #[.int .i64 0]) : BlksR wr (· < wr.heap.size) (some ⟨gB, 0, none⟩) 1 bsJ := by
  have hR7 : RdP wr (· < wr.heap.size) 1 (some ⟨g7, 0, none⟩) 1 (([0] : List Int).map (Value.int .i64)) := ⟨rfl, fun _ => ⟨_, rfl, h7.lt, fun j u hu => by
    rw [add0, h7.cell j, List.getElem?_toArray]
    exact hu⟩⟩
  exact ⟨[.int .i64 35, .int .i64 0, .int .i64 0, .int .i64 0, .int .i64 0, .int .i64 0, .int .i64 0, .int .i64 0, .int .i64 0, .int .i64 0, .int .i64 0, .int .i64 0, .slice none 0 0, .slice (some ⟨g7, 0, none⟩) 1 1, .slice none 0 0, .slice none 0 0, .slice none 0 0, .slice none 0 0], ⟨rfl, fun _ => ⟨_, rfl, hB.lt, fun j u hu => by
    rw [add0, hB.cell j, List.getElem?_toArray]
    exact hu⟩⟩, [.int .i64 35, .int .i64 0, .int .i64 0, .int .i64 0, .int .i64 0, .int .i64 0, .int .i64 0, .int .i64 0, .int .i64 0, .int .i64 0, .int .i64 0, .int .i64 0, .slice none 0 0, .slice (some ⟨g7, 0, none⟩) 1 1, .slice none 0 0, .slice none 0 0, .slice none 0 0, .slice none 0 0], [], rfl, wb_ts 35 [0] _ 1 1 rfl hR7, rfl⟩
theorem stC_ov (ts : List Int) (i : Nat) : (stC ts i).ov = false := by unfold stC; split <;> rfl
theorem intInfo4 : (Try.prog.info? 3).map (fun i => (i.zero, i.size, i.bytes)) = some (some (.int .i64 0), 1, 8) := by kernel_rfl
/-- the blocks while the call's order is put -/
def CallM (w wr : World) (k : Nat) (zs : List Int) : Prop := ∃ (TA : Option Addr) (tc : Nat),
  Blk wr (w.heap.size + 1) 45 (.int .i64 38 :: .int .i64 0 :: .int .i64 0 :: .int .i64 0 :: .int .i64 0 :: .int .i64 0 :: .int .i64 0 :: .int .i64 0 :: .int .i64 0 :: .int .i64 0 :: .int .i64 0 :: .int .i64 0 :: .slice none 0 0 :: .slice TA k tc :: .slice none 0 0 :: .slice none 0 0 :: .slice none 0 0 :: .slice none 0 0 :: .int .i64 35 :: .int .i64 0 :: .int .i64 0 :: .int .i64 0 :: .int .i64 0 :: .int .i64 0 :: .int .i64 0 :: .int .i64 0 :: .int .i64 0 :: .int .i64 0 :: .int .i64 0 :: .int .i64 0 :: .slice none 0 0 :: .slice (some ⟨w.heap.size, 0, none⟩) 1 1 :: .slice none 0 0 :: .slice none 0 0 :: .slice none 0 0 :: .slice none 0 0 :: .int .i64 18 :: .int .i64 0 :: .int .i64 0 :: .int .i64 0 :: .int .i64 0 :: .int .i64 0 :: .int .i64 0 :: .int .i64 0 :: .int .i64 0 :: .int .i64 0 :: .int .i64 0 :: .int .i64 0 :: .slice none 0 0 :: .slice none 0 0 :: .slice none 0 0 :: .slice none 0 0 :: .slice none 0 0 :: .slice none 0 0 :: .int .i64 39 :: .int .i64 0 :: .int .i64 0 :: .int .i64 0 :: .int .i64 0 :: .int .i64 0 :: .int .i64 0 :: .int .i64 0 :: .int .i64 0 :: .int .i64 0 :: .int .i64 0 :: .int .i64 0 :: .slice none 0 0 :: .slice none 0 0 :: .slice none 0 0 :: .slice none 0 0 :: .slice none 0 0 :: .slice none 0 0 :: .int .i64 19 :: .int .i64 0 :: .int .i64 0 :: .int .i64 0 :: .int .i64 0 :: .int .i64 0 :: .int .i64 0 :: .int .i64 0 :: .int .i64 0 :: .int .i64 0 :: .int .i64 0 :: .int .i64 0 :: .slice none 0 0 :: .slice none 0 0 :: .slice none 0 0 :: .slice none 0 0 :: .slice none 0 0 :: .slice none 0 0 :: .int .i64 39 :: .int .i64 0 :: .int .i64 0 :: .int .i64 0 :: .int .i64 0 :: .int .i64 0 :: .int .i64 0 :: .int .i64 0 :: .int .i64 0 :: .int .i64 0 :: .int .i64 0 :: .int .i64 0 :: .slice none 0 0 :: .slice none 0 0 :: .slice none 0 0 :: .slice none 0 0 :: .slice none 0 0 :: .slice none 0 0 :: .int .i64 20 :: .int .i64 0 :: .int .i64 0 :: .int .i64 0 :: .int .i64 0 :: .int .i64 0 :: .int .i64 0 :: .int .i64 0 :: .int .i64 0 :: .int .i64 0 :: .int .i64 0 :: .int .i64 0 :: .slice none 0 0 :: .slice none 0 0 :: .slice none 0 0 :: .slice none 0 0 :: .slice none 0 0 :: .slice none 0 0 :: .int .i64 39 :: .int .i64 0 :: .int .i64 0 :: .int .i64 0 :: .int .i64 0 :: .int .i64 0 :: .int .i64 0 :: .int .i64 0 :: .int .i64 0 :: .int .i64 0 :: .int .i64 0 :: .int .i64 0 :: .slice none 0 0 :: .slice none 0 0 :: .slice none 0 0 :: .slice none 0 0 :: .slice none 0 0 :: .slice none 0 0 :: .int .i64 21 :: .int .i64 0 :: .int .i64 0 :: .int .i64 0 :: .int .i64 0 :: .int .i64 0 :: .int .i64 0 :: .int .i64 0 :: .int .i64 0 :: .int .i64 0 :: .int .i64 0 :: .int .i64 0 :: .slice none 0 0 :: .slice none 0 0 :: .slice none 0 0 :: .slice none 0 0 :: .slice none 0 0 :: .slice none 0 0 :: []).toArray ∧ wr.ownsRow (w.heap.size + 2) 3 1 (.slice TA k tc) k (((zs.take k).map cl2).map (Value.int .i64)) ∧ Blk wr w.heap.size 3 #[.int .i64 7] ∧ Below w.heap.size w wr

set_option maxRecDepth 100000 in
set_option maxHeartbeats 8000000 in
theorem walkCalls_any (w : World) (OA : Option Addr) (on oc : Nat) (zs : List Int) (hR : Reads w w.heap.size 1 OA on (zs.map (Value.int .i64))) (hon : on ≤ 40) : Calls Try.prog 5 #[.slice OA on oc] w fun x w' => x = .returned (.bool true) ∧ Below w.heap.size w w' := by
  obtain ⟨i1, hj, hy0, hy1, hy2⟩ := info_parts intInfo4
  have hzl : zs.length = on := reads_len hR
  have HR := Lib.hid (And.intro hR hzl)
  clear hR hzl
  have honI : ¬ (40 : Int) < (on : Int) := by omega
  have HB := Lib.hid (show CallM w ((w.alloc (.cells #[.int .i64 7] 3)).alloc (.cells (.int .i64 38 :: .int .i64 0 :: .int .i64 0 :: .int .i64 0 :: .int .i64 0 :: .int .i64 0 :: .int .i64 0 :: .int .i64 0 :: .int .i64 0 :: .int .i64 0 :: .int .i64 0 :: .int .i64 0 :: .slice none 0 0 :: .slice none 0 0 :: .slice none 0 0 :: .slice none 0 0 :: .slice none 0 0 :: .slice none 0 0 :: .int .i64 35 :: .int .i64 0 :: .int .i64 0 :: .int .i64 0 :: .int .i64 0 :: .int .i64 0 :: .int .i64 0 :: .int .i64 0 :: .int .i64 0 :: .int .i64 0 :: .int .i64 0 :: .int .i64 0 :: .slice none 0 0 :: .slice (some ⟨w.heap.size, 0, none⟩) 1 1 :: .slice none 0 0 :: .slice none 0 0 :: .slice none 0 0 :: .slice none 0 0 :: .int .i64 18 :: .int .i64 0 :: .int .i64 0 :: .int .i64 0 :: .int .i64 0 :: .int .i64 0 :: .int .i64 0 :: .int .i64 0 :: .int .i64 0 :: .int .i64 0 :: .int .i64 0 :: .int .i64 0 :: .slice none 0 0 :: .slice none 0 0 :: .slice none 0 0 :: .slice none 0 0 :: .slice none 0 0 :: .slice none 0 0 :: .int .i64 39 :: .int .i64 0 :: .int .i64 0 :: .int .i64 0 :: .int .i64 0 :: .int .i64 0 :: .int .i64 0 :: .int .i64 0 :: .int .i64 0 :: .int .i64 0 :: .int .i64 0 :: .int .i64 0 :: .slice none 0 0 :: .slice none 0 0 :: .slice none 0 0 :: .slice none 0 0 :: .slice none 0 0 :: .slice none 0 0 :: .int .i64 19 :: .int .i64 0 :: .int .i64 0 :: .int .i64 0 :: .int .i64 0 :: .int .i64 0 :: .int .i64 0 :: .int .i64 0 :: .int .i64 0 :: .int .i64 0 :: .int .i64 0 :: .int .i64 0 :: .slice none 0 0 :: .slice none 0 0 :: .slice none 0 0 :: .slice none 0 0 :: .slice none 0 0 :: .slice none 0 0 :: .int .i64 39 :: .int .i64 0 :: .int .i64 0 :: .int .i64 0 :: .int .i64 0 :: .int .i64 0 :: .int .i64 0 :: .int .i64 0 :: .int .i64 0 :: .int .i64 0 :: .int .i64 0 :: .int .i64 0 :: .slice none 0 0 :: .slice none 0 0 :: .slice none 0 0 :: .slice none 0 0 :: .slice none 0 0 :: .slice none 0 0 :: .int .i64 20 :: .int .i64 0 :: .int .i64 0 :: .int .i64 0 :: .int .i64 0 :: .int .i64 0 :: .int .i64 0 :: .int .i64 0 :: .int .i64 0 :: .int .i64 0 :: .int .i64 0 :: .int .i64 0 :: .slice none 0 0 :: .slice none 0 0 :: .slice none 0 0 :: .slice none 0 0 :: .slice none 0 0 :: .slice none 0 0 :: .int .i64 39 :: .int .i64 0 :: .int .i64 0 :: .int .i64 0 :: .int .i64 0 :: .int .i64 0 :: .int .i64 0 :: .int .i64 0 :: .int .i64 0 :: .int .i64 0 :: .int .i64 0 :: .int .i64 0 :: .slice none 0 0 :: .slice none 0 0 :: .slice none 0 0 :: .slice none 0 0 :: .slice none 0 0 :: .slice none 0 0 :: .int .i64 21 :: .int .i64 0 :: .int .i64 0 :: .int .i64 0 :: .int .i64 0 :: .int .i64 0 :: .int .i64 0 :: .int .i64 0 :: .int .i64 0 :: .int .i64 0 :: .int .i64 0 :: .int .i64 0 :: .slice none 0 0 :: .slice none 0 0 :: .slice none 0 0 :: .slice none 0 0 :: .slice none 0 0 :: .slice none 0 0 :: []).toArray 45)) 0 zs from ⟨none, 0, by have := Blk.new (w.alloc (.cells #[.int .i64 7] 3)) 45 (.int .i64 38 :: .int .i64 0 :: .int .i64 0 :: .int .i64 0 :: .int .i64 0 :: .int .i64 0 :: .int .i64 0 :: .int .i64 0 :: .int .i64 0 :: .int .i64 0 :: .int .i64 0 :: .int .i64 0 :: .slice none 0 0 :: .slice none 0 0 :: .slice none 0 0 :: .slice none 0 0 :: .slice none 0 0 :: .slice none 0 0 :: .int .i64 35 :: .int .i64 0 :: .int .i64 0 :: .int .i64 0 :: .int .i64 0 :: .int .i64 0 :: .int .i64 0 :: .int .i64 0 :: .int .i64 0 :: .int .i64 0 :: .int .i64 0 :: .int .i64 0 :: .slice none 0 0 :: .slice (some ⟨w.heap.size, 0, none⟩) 1 1 :: .slice none 0 0 :: .slice none 0 0 :: .slice none 0 0 :: .slice none 0 0 :: .int .i64 18 :: .int .i64 0 :: .int .i64 0 :: .int .i64 0 :: .int .i64 0 :: .int .i64 0 :: .int .i64 0 :: .int .i64 0 :: .int .i64 0 :: .int .i64 0 :: .int .i64 0 :: .int .i64 0 :: .slice none 0 0 :: .slice none 0 0 :: .slice none 0 0 :: .slice none 0 0 :: .slice none 0 0 :: .slice none 0 0 :: .int .i64 39 :: .int .i64 0 :: .int .i64 0 :: .int .i64 0 :: .int .i64 0 :: .int .i64 0 :: .int .i64 0 :: .int .i64 0 :: .int .i64 0 :: .int .i64 0 :: .int .i64 0 :: .int .i64 0 :: .slice none 0 0 :: .slice none 0 0 :: .slice none 0 0 :: .slice none 0 0 :: .slice none 0 0 :: .slice none 0 0 :: .int .i64 19 :: .int .i64 0 :: .int .i64 0 :: .int .i64 0 :: .int .i64 0 :: .int .i64 0 :: .int .i64 0 :: .int .i64 0 :: .int .i64 0 :: .int .i64 0 :: .int .i64 0 :: .int .i64 0 :: .slice none 0 0 :: .slice none 0 0 :: .slice none 0 0 :: .slice none 0 0 :: .slice none 0 0 :: .slice none 0 0 :: .int .i64 39 :: .int .i64 0 :: .int .i64 0 :: .int .i64 0 :: .int .i64 0 :: .int .i64 0 :: .int .i64 0 :: .int .i64 0 :: .int .i64 0 :: .int .i64 0 :: .int .i64 0 :: .int .i64 0 :: .slice none 0 0 :: .slice none 0 0 :: .slice none 0 0 :: .slice none 0 0 :: .slice none 0 0 :: .slice none 0 0 :: .int .i64 20 :: .int .i64 0 :: .int .i64 0 :: .int .i64 0 :: .int .i64 0 :: .int .i64 0 :: .int .i64 0 :: .int .i64 0 :: .int .i64 0 :: .int .i64 0 :: .int .i64 0 :: .int .i64 0 :: .slice none 0 0 :: .slice none 0 0 :: .slice none 0 0 :: .slice none 0 0 :: .slice none 0 0 :: .slice none 0 0 :: .int .i64 39 :: .int .i64 0 :: .int .i64 0 :: .int .i64 0 :: .int .i64 0 :: .int .i64 0 :: .int .i64 0 :: .int .i64 0 :: .int .i64 0 :: .int .i64 0 :: .int .i64 0 :: .int .i64 0 :: .slice none 0 0 :: .slice none 0 0 :: .slice none 0 0 :: .slice none 0 0 :: .slice none 0 0 :: .slice none 0 0 :: .int .i64 21 :: .int .i64 0 :: .int .i64 0 :: .int .i64 0 :: .int .i64 0 :: .int .i64 0 :: .int .i64 0 :: .int .i64 0 :: .int .i64 0 :: .int .i64 0 :: .int .i64 0 :: .int .i64 0 :: .slice none 0 0 :: .slice none 0 0 :: .slice none 0 0 :: .slice none 0 0 :: .slice none 0 0 :: .slice none 0 0 :: []).toArray; simpa using this, by simpa using World.ownsRow_nil _ _ _ _, (Blk.new w _ _).alloc _, ((Below.refl _ _).alloc (Nat.le_refl _) _).alloc (by simp) _⟩)
  go_enter Try.func5, Try.ntmps5
  go_upto_region 5 with fail
  generalize ((w.alloc (.cells #[.int .i64 7] 3)).alloc (.cells (.int .i64 38 :: .int .i64 0 :: .int .i64 0 :: .int .i64 0 :: .int .i64 0 :: .int .i64 0 :: .int .i64 0 :: .int .i64 0 :: .int .i64 0 :: .int .i64 0 :: .int .i64 0 :: .int .i64 0 :: .slice none 0 0 :: .slice none 0 0 :: .slice none 0 0 :: .slice none 0 0 :: .slice none 0 0 :: .slice none 0 0 :: .int .i64 35 :: .int .i64 0 :: .int .i64 0 :: .int .i64 0 :: .int .i64 0 :: .int .i64 0 :: .int .i64 0 :: .int .i64 0 :: .int .i64 0 :: .int .i64 0 :: .int .i64 0 :: .int .i64 0 :: .slice none 0 0 :: .slice (some ⟨w.heap.size, 0, none⟩) 1 1 :: .slice none 0 0 :: .slice none 0 0 :: .slice none 0 0 :: .slice none 0 0 :: .int .i64 18 :: .int .i64 0 :: .int .i64 0 :: .int .i64 0 :: .int .i64 0 :: .int .i64 0 :: .int .i64 0 :: .int .i64 0 :: .int .i64 0 :: .int .i64 0 :: .int .i64 0 :: .int .i64 0 :: .slice none 0 0 :: .slice none 0 0 :: .slice none 0 0 :: .slice none 0 0 :: .slice none 0 0 :: .slice none 0 0 :: .int .i64 39 :: .int .i64 0 :: .int .i64 0 :: .int .i64 0 :: .int .i64 0 :: .int .i64 0 :: .int .i64 0 :: .int .i64 0 :: .int .i64 0 :: .int .i64 0 :: .int .i64 0 :: .int .i64 0 :: .slice none 0 0 :: .slice none 0 0 :: .slice none 0 0 :: .slice none 0 0 :: .slice none 0 0 :: .slice none 0 0 :: .int .i64 19 :: .int .i64 0 :: .int .i64 0 :: .int .i64 0 :: .int .i64 0 :: .int .i64 0 :: .int .i64 0 :: .int .i64 0 :: .int .i64 0 :: .int .i64 0 :: .int .i64 0 :: .int .i64 0 :: .slice none 0 0 :: .slice none 0 0 :: .slice none 0 0 :: .slice none 0 0 :: .slice none 0 0 :: .slice none 0 0 :: .int .i64 39 :: .int .i64 0 :: .int .i64 0 :: .int .i64 0 :: .int .i64 0 :: .int .i64 0 :: .int .i64 0 :: .int .i64 0 :: .int .i64 0 :: .int .i64 0 :: .int .i64 0 :: .int .i64 0 :: .slice none 0 0 :: .slice none 0 0 :: .slice none 0 0 :: .slice none 0 0 :: .slice none 0 0 :: .slice none 0 0 :: .int .i64 20 :: .int .i64 0 :: .int .i64 0 :: .int .i64 0 :: .int .i64 0 :: .int .i64 0 :: .int .i64 0 :: .int .i64 0 :: .int .i64 0 :: .int .i64 0 :: .int .i64 0 :: .int .i64 0 :: .slice none 0 0 :: .slice none 0 0 :: .slice none 0 0 :: .slice none 0 0 :: .slice none 0 0 :: .slice none 0 0 :: .int .i64 39 :: .int .i64 0 :: .int .i64 0 :: .int .i64 0 :: .int .i64 0 :: .int .i64 0 :: .int .i64 0 :: .int .i64 0 :: .int .i64 0 :: .int .i64 0 :: .int .i64 0 :: .int .i64 0 :: .slice none 0 0 :: .slice none 0 0 :: .slice none 0 0 :: .slice none 0 0 :: .slice none 0 0 :: .slice none 0 0 :: .int .i64 21 :: .int .i64 0 :: .int .i64 0 :: .int .i64 0 :: .int .i64 0 :: .int .i64 0 :: .int .i64 0 :: .int .i64 0 :: .int .i64 0 :: .int .i64 0 :: .int .i64 0 :: .int .i64 0 :: .slice none 0 0 :: .slice none 0 0 :: .slice none 0 0 :: .slice none 0 0 :: .slice none 0 0 :: .slice none 0 0 :: []).toArray 45)) = w0 at *
  go_loopw [4] (fun x wr => ∃ k : Nat, x = .int .i64 (k : Int) ∧ k ≤ on ∧ CallM w wr k zs) (fun x _ => on - (intOf x).toNat)
  case atStart => exact ⟨0, rfl, by omega, HB.out⟩
  case round =>
    obtain ⟨k, rfl, hkn, TA, tc, hBk, hown, h7, hbl⟩ := hrel
    have hk0 : (0 : Int) ≤ (k : Int) := Int.natCast_nonneg _
    by_cases hlt : k < on
    · have hkI : (k : Int) < (on : Int) := by omega
      have hwk : IntKind.i64.wrap ((k : Int) + 1) = (k : Int) + 1 := by rw [IntKind.wrap_i64]; omega
      obtain ⟨oad, rfl, hob, hox⟩ := i32_at HR.out.1 hlt
      obtain ⟨z, hz⟩ : ∃ z, z = zs.getD k 0 := ⟨_, rfl⟩
      rw [← hz] at hox
      have hoc : wr.cell? (oad.add k) = some (.int .i64 z) := (hbl.cell (p := oad.add k) (by rw [block_of_add]; exact hob)).trans hox
      have HQ := Lib.hid (And.intro hBk (And.intro hown (And.intro h7 (And.intro hbl hz))))
      clear hBk hown h7 hbl hox hz
      have h9I : (0 : Int) < (9 : Int) := by decide
      go_upto_region 7 with fail
      refine wp_region_held_drew (S := fun w' => w'.cell? (oad.add k) = some (.int .i64 z)) (by kernel_rfl) ?_ (fun hHeld => ?_)
      · exact hoc
      have HW := Lib.hid (show Blk wr.drew (w.heap.size + 1) 45 (.int .i64 38 :: .int .i64 0 :: .int .i64 0 :: .int .i64 0 :: .int .i64 0 :: .int .i64 0 :: .int .i64 0 :: .int .i64 0 :: .int .i64 0 :: .int .i64 0 :: .int .i64 0 :: .int .i64 0 :: .slice none 0 0 :: .slice TA k tc :: .slice none 0 0 :: .slice none 0 0 :: .slice none 0 0 :: .slice none 0 0 :: .int .i64 35 :: .int .i64 0 :: .int .i64 0 :: .int .i64 0 :: .int .i64 0 :: .int .i64 0 :: .int .i64 0 :: .int .i64 0 :: .int .i64 0 :: .int .i64 0 :: .int .i64 0 :: .int .i64 0 :: .slice none 0 0 :: .slice (some ⟨w.heap.size, 0, none⟩) 1 1 :: .slice none 0 0 :: .slice none 0 0 :: .slice none 0 0 :: .slice none 0 0 :: .int .i64 18 :: .int .i64 0 :: .int .i64 0 :: .int .i64 0 :: .int .i64 0 :: .int .i64 0 :: .int .i64 0 :: .int .i64 0 :: .int .i64 0 :: .int .i64 0 :: .int .i64 0 :: .int .i64 0 :: .slice none 0 0 :: .slice none 0 0 :: .slice none 0 0 :: .slice none 0 0 :: .slice none 0 0 :: .slice none 0 0 :: .int .i64 39 :: .int .i64 0 :: .int .i64 0 :: .int .i64 0 :: .int .i64 0 :: .int .i64 0 :: .int .i64 0 :: .int .i64 0 :: .int .i64 0 :: .int .i64 0 :: .int .i64 0 :: .int .i64 0 :: .slice none 0 0 :: .slice none 0 0 :: .slice none 0 0 :: .slice none 0 0 :: .slice none 0 0 :: .slice none 0 0 :: .int .i64 19 :: .int .i64 0 :: .int .i64 0 :: .int .i64 0 :: .int .i64 0 :: .int .i64 0 :: .int .i64 0 :: .int .i64 0 :: .int .i64 0 :: .int .i64 0 :: .int .i64 0 :: .int .i64 0 :: .slice none 0 0 :: .slice none 0 0 :: .slice none 0 0 :: .slice none 0 0 :: .slice none 0 0 :: .slice none 0 0 :: .int .i64 39 :: .int .i64 0 :: .int .i64 0 :: .int .i64 0 :: .int .i64 0 :: .int .i64 0 :: .int .i64 0 :: .int .i64 0 :: .int .i64 0 :: .int .i64 0 :: .int .i64 0 :: .int .i64 0 :: .slice none 0 0 :: .slice none 0 0 :: .slice none 0 0 :: .slice none 0 0 :: .slice none 0 0 :: .slice none 0 0 :: .int .i64 20 :: .int .i64 0 :: .int .i64 0 :: .int .i64 0 :: .int .i64 0 :: .int .i64 0 :: .int .i64 0 :: .int .i64 0 :: .int .i64 0 :: .int .i64 0 :: .int .i64 0 :: .int .i64 0 :: .slice none 0 0 :: .slice none 0 0 :: .slice none 0 0 :: .slice none 0 0 :: .slice none 0 0 :: .slice none 0 0 :: .int .i64 39 :: .int .i64 0 :: .int .i64 0 :: .int .i64 0 :: .int .i64 0 :: .int .i64 0 :: .int .i64 0 :: .int .i64 0 :: .int .i64 0 :: .int .i64 0 :: .int .i64 0 :: .int .i64 0 :: .slice none 0 0 :: .slice none 0 0 :: .slice none 0 0 :: .slice none 0 0 :: .slice none 0 0 :: .slice none 0 0 :: .int .i64 21 :: .int .i64 0 :: .int .i64 0 :: .int .i64 0 :: .int .i64 0 :: .int .i64 0 :: .int .i64 0 :: .int .i64 0 :: .int .i64 0 :: .int .i64 0 :: .int .i64 0 :: .int .i64 0 :: .slice none 0 0 :: .slice none 0 0 :: .slice none 0 0 :: .slice none 0 0 :: .slice none 0 0 :: .slice none 0 0 :: []).toArray ∧ wr.drew.ownsRow (w.heap.size + 2) 3 1 (.slice TA k tc) k (((zs.take k).map cl2).map (Value.int .i64)) ∧ Blk wr.drew w.heap.size 3 #[.int .i64 7] ∧ Below w.heap.size w wr.drew from ⟨HQ.out.1, HQ.out.2.1, HQ.out.2.2.1, HQ.out.2.2.2.1.drew⟩)
      have hocW : wr.drew.cell? (oad.add k) = some (.int .i64 z) := hoc
      clear hoc
      generalize wr.drew = W at *
      have q13 : W.cell? ⟨w.heap.size + 1, 13, none⟩ = some (.slice TA k tc) := (HW.out.1.cell 13).trans rfl
      refine wpAnyH_take (i := 0) (oi := _) (v := ?_) (by simp only [List.getElem?_toArray, List.getElem?_cons_succ, List.getElem?_cons_zero]; rfl) (by kernel_rfl) (by kernel_rfl) (by kernel_rfl) (by intro _ _ _ h; exact h) (Or.inl ⟨by rfl, ?_⟩) (by assumption) ?_
      rotate_left
      · intro w hSw
        try dsimp only at hSw
        go_simp
        try with_reducible rfl
      try simp only [Act.put, List.setIfInBounds_toArray, List.set_cons_zero, List.set_cons_succ]
      refine wpAnyH_take (i := 1) (oi := _) (v := ?_) (by simp only [List.getElem?_toArray, List.getElem?_cons_succ, List.getElem?_cons_zero]; rfl) (by kernel_rfl) (by kernel_rfl) (by kernel_rfl) (by intro _ _ _ h; exact h) (Or.inl ⟨by rfl, ?_⟩) (by assumption) ?_
      rotate_left
      · intro w hSw
        try dsimp only at hSw
        go_simp
        try with_reducible rfl
      try simp only [Act.put, List.setIfInBounds_toArray, List.set_cons_zero, List.set_cons_succ]
      refine wpAnyH_take (i := 2) (oi := _) (v := ?_) (by simp only [List.getElem?_toArray, List.getElem?_cons_succ, List.getElem?_cons_zero]; rfl) (by kernel_rfl) (by kernel_rfl) (by kernel_rfl) (by intro _ _ _ h; exact h) (Or.inl ⟨by rfl, ?_⟩) (by assumption) ?_
      rotate_left
      · intro w hSw
        try dsimp only at hSw
        go_simp
        try with_reducible rfl
      try simp only [Act.put, List.setIfInBounds_toArray, List.set_cons_zero, List.set_cons_succ]
      refine wpAnyH_take (i := 3) (oi := _) (v := ?_) (by simp only [List.getElem?_toArray, List.getElem?_cons_succ, List.getElem?_cons_zero]; rfl) (by kernel_rfl) (by kernel_rfl) (by kernel_rfl) (by intro _ _ _ h; exact h) (Or.inl ⟨by rfl, ?_⟩) (by assumption) ?_
      rotate_left
      · intro w hSw
        try dsimp only at hSw
        go_simp
        try with_reducible rfl
      try simp only [Act.put, List.setIfInBounds_toArray, List.set_cons_zero, List.set_cons_succ]
      refine wpAnyH_take (i := 5) (oi := _) (v := ?_) (by simp only [List.getElem?_toArray, List.getElem?_cons_succ, List.getElem?_cons_zero]; rfl) (by kernel_rfl) (by kernel_rfl) (by kernel_rfl) (by intro _ _ _ h; exact h) (Or.inl ⟨by rfl, ?_⟩) (by assumption) ?_
      rotate_left
      · intro w hSw
        try dsimp only at hSw
        go_simp
        try with_reducible rfl
      try simp only [Act.put, List.setIfInBounds_toArray, List.set_cons_zero, List.set_cons_succ]
      refine wpAnyH_take (i := 6) (oi := _) (v := ?_) (by simp only [List.getElem?_toArray, List.getElem?_cons_succ, List.getElem?_cons_zero]; rfl) (by kernel_rfl) (by kernel_rfl) (by kernel_rfl) (by intro _ _ _ h; exact h) (Or.inl ⟨by rfl, ?_⟩) (by assumption) ?_
      rotate_left
      · intro w hSw
        try dsimp only at hSw
        go_simp
        try with_reducible rfl
      try simp only [Act.put, List.setIfInBounds_toArray, List.set_cons_zero, List.set_cons_succ]
      refine wpAnyH_take (i := 7) (oi := _) (v := ?_) (by simp only [List.getElem?_toArray, List.getElem?_cons_succ, List.getElem?_cons_zero]; rfl) (by kernel_rfl) (by kernel_rfl) (by kernel_rfl) (by intro _ _ _ h; exact h) (Or.inl ⟨by rfl, ?_⟩) (by assumption) ?_
      rotate_left
      · intro w hSw
        try dsimp only at hSw
        go_simp
        try with_reducible rfl
      try simp only [Act.put, List.setIfInBounds_toArray, List.set_cons_zero, List.set_cons_succ]
      refine wpAnyH_take (i := 8) (oi := _) (v := ?_) (by simp only [List.getElem?_toArray, List.getElem?_cons_succ, List.getElem?_cons_zero]; rfl) (by kernel_rfl) (by kernel_rfl) (by kernel_rfl) (by intro _ _ _ h; exact h) (Or.inl ⟨by rfl, ?_⟩) (by assumption) ?_
      rotate_left
      · intro w hSw
        try dsimp only at hSw
        go_simp
        try with_reducible rfl
      try simp only [Act.put, List.setIfInBounds_toArray, List.set_cons_zero, List.set_cons_succ]
      refine wpAnyH_take (i := 9) (oi := _) (v := ?_) (by simp only [List.getElem?_toArray, List.getElem?_cons_succ, List.getElem?_cons_zero]; rfl) (by kernel_rfl) (by kernel_rfl) (by kernel_rfl) (by intro _ _ _ h; exact h) (Or.inl ⟨by rfl, ?_⟩) (by assumption) ?_
      rotate_left
      · intro w hSw
        try dsimp only at hSw
        go_simp
        try with_reducible rfl
      try simp only [Act.put, List.setIfInBounds_toArray, List.set_cons_zero, List.set_cons_succ]
      refine wpAnyH_take (i := 10) (oi := _) (v := ?_) (by simp only [List.getElem?_toArray, List.getElem?_cons_succ, List.getElem?_cons_zero]; rfl) (by kernel_rfl) (by kernel_rfl) (by kernel_rfl) (by intro _ _ _ h; exact h) (Or.inl ⟨by rfl, ?_⟩) (by assumption) ?_
      rotate_left
      · intro w hSw
        try dsimp only at hSw
        go_simp
        try with_reducible rfl
      try simp only [Act.put, List.setIfInBounds_toArray, List.set_cons_zero, List.set_cons_succ]
      refine wpAnyH_take (i := 11) (oi := _) (v := ?_) (by simp only [List.getElem?_toArray, List.getElem?_cons_succ, List.getElem?_cons_zero]; rfl) (by kernel_rfl) (by kernel_rfl) (by kernel_rfl) (by intro _ _ _ h; exact h) (Or.inl ⟨by rfl, ?_⟩) (by assumption) ?_
      rotate_left
      · intro w hSw
        try dsimp only at hSw
        go_simp
        try with_reducible rfl
      try simp only [Act.put, List.setIfInBounds_toArray, List.set_cons_zero, List.set_cons_succ]
      refine wpAnyH_take (i := 12) (oi := _) (v := ?_) (by simp only [List.getElem?_toArray, List.getElem?_cons_succ, List.getElem?_cons_zero]; rfl) (by kernel_rfl) (by kernel_rfl) (by kernel_rfl) (by intro _ _ _ h; exact h) (Or.inl ⟨by rfl, ?_⟩) (by assumption) ?_
      rotate_left
      · intro w hSw
        try dsimp only at hSw
        go_simp
        try with_reducible rfl
      try simp only [Act.put, List.setIfInBounds_toArray, List.set_cons_zero, List.set_cons_succ]
      rw [cl2_walk z]
      refine wpAnyH_ready (rs := [4, 13]) (by kernel_rfl) (by simp) ?_
      refine AllReadyH.cons (o := _) (by simp only [List.getElem?_toArray, List.getElem?_cons_succ, List.getElem?_cons_zero]; rfl) (fun K hK => ?_) (AllReadyH.cons (o := _) (by simp only [List.getElem?_toArray, List.getElem?_cons_succ, List.getElem?_cons_zero]; rfl) (fun K hK => ?_) AllReadyH.nil)
      · go_simp
        refine hK.out _ _ ?_ (fun hHeld => ?_)
        · exact hocW
        clear hK K
        try simp only [Act.put, List.setIfInBounds_toArray, List.set_cons_zero, List.set_cons_succ]
        refine wpAnyH_ready (rs := [13]) (by kernel_rfl) (by simp) ?_
        refine AllReadyH.cons (o := _) (by simp only [List.getElem?_toArray, List.getElem?_cons_succ, List.getElem?_cons_zero]; rfl) (fun K hK => ?_) AllReadyH.nil
        have hocA : (W.alloc (.cells #[.int .i64 (cl2 z)] 3)).cell? (oad.add k) = some (.int .i64 z) := alloc_of hocW
        have q13A : (W.alloc (.cells #[.int .i64 (cl2 z)] 3)).cell? ⟨w.heap.size + 1, 13, none⟩ = some (.slice TA k tc) := alloc_of q13
        go_simp
        refine hK.out _ _ ?_ (fun hHeld => ?_)
        · exact hocA
        clear hK K
        try simp only [Act.put, List.setIfInBounds_toArray, List.set_cons_zero, List.set_cons_succ]
        refine wpAnyH_ready (rs := [14]) (by kernel_rfl) (by simp) ?_
        refine AllReadyH.cons (o := _) (by simp only [List.getElem?_toArray, List.getElem?_cons_succ, List.getElem?_cons_zero]; rfl) (fun K hK => ?_) AllReadyH.nil
        have HC := Lib.hid (show Reads (W.alloc (.cells #[.int .i64 (cl2 z)] 3)) (W.alloc (.cells #[.int .i64 (cl2 z)] 3)).heap.size 1 (some ⟨W.heap.size, 0, none⟩) 1 [.int .i64 (cl2 z)] ∧ k + 1 ≤ maxLen ∧ (k + 1) * 8 ≤ 140737488355328 ∧ w.heap.size + 2 ≤ (W.alloc (.cells #[.int .i64 (cl2 z)] 3)).heap.size from ⟨⟨rfl, fun _ => ⟨_, rfl, by simp, lit_cells W [.int .i64 (cl2 z)] 3⟩⟩, by unfold maxLen; omega, by omega, by have := HW.out.1.lt; simp; omega⟩)
        have hown9 := HW.out.2.1.alloc (.cells #[.int .i64 (cl2 z)] 3)
        refine step_append_any _ (by rfl) _ _ _ (by rfl) (w.heap.size + 2) 3 i1 (.int .i64 0) 1 8 Try.underlying31 hj hy0 hy1 hy2 rfl (by decide) (.slice TA k tc) k _ (by rfl) hown9 _ (some ⟨W.heap.size, 0, none⟩) 1 1 [.int .i64 (cl2 z)] (by rfl) HC.out.1 (by simp [Value.oneCell']) HC.out.2.1 HC.out.2.2.1 HC.out.2.2.2 ?_
        intro v3 w3 own3 hg3 hv3
        obtain ⟨A3, c3, rfl⟩ := own_slice own3
        have hlt9 := hown9.lt
        have hB3 : Blk w3 (w.heap.size + 1) 45 (.int .i64 38 :: .int .i64 0 :: .int .i64 0 :: .int .i64 0 :: .int .i64 0 :: .int .i64 0 :: .int .i64 0 :: .int .i64 0 :: .int .i64 0 :: .int .i64 0 :: .int .i64 0 :: .int .i64 0 :: .slice none 0 0 :: .slice TA k tc :: .slice none 0 0 :: .slice none 0 0 :: .slice none 0 0 :: .slice none 0 0 :: .int .i64 35 :: .int .i64 0 :: .int .i64 0 :: .int .i64 0 :: .int .i64 0 :: .int .i64 0 :: .int .i64 0 :: .int .i64 0 :: .int .i64 0 :: .int .i64 0 :: .int .i64 0 :: .int .i64 0 :: .slice none 0 0 :: .slice (some ⟨w.heap.size, 0, none⟩) 1 1 :: .slice none 0 0 :: .slice none 0 0 :: .slice none 0 0 :: .slice none 0 0 :: .int .i64 18 :: .int .i64 0 :: .int .i64 0 :: .int .i64 0 :: .int .i64 0 :: .int .i64 0 :: .int .i64 0 :: .int .i64 0 :: .int .i64 0 :: .int .i64 0 :: .int .i64 0 :: .int .i64 0 :: .slice none 0 0 :: .slice none 0 0 :: .slice none 0 0 :: .slice none 0 0 :: .slice none 0 0 :: .slice none 0 0 :: .int .i64 39 :: .int .i64 0 :: .int .i64 0 :: .int .i64 0 :: .int .i64 0 :: .int .i64 0 :: .int .i64 0 :: .int .i64 0 :: .int .i64 0 :: .int .i64 0 :: .int .i64 0 :: .int .i64 0 :: .slice none 0 0 :: .slice none 0 0 :: .slice none 0 0 :: .slice none 0 0 :: .slice none 0 0 :: .slice none 0 0 :: .int .i64 19 :: .int .i64 0 :: .int .i64 0 :: .int .i64 0 :: .int .i64 0 :: .int .i64 0 :: .int .i64 0 :: .int .i64 0 :: .int .i64 0 :: .int .i64 0 :: .int .i64 0 :: .int .i64 0 :: .slice none 0 0 :: .slice none 0 0 :: .slice none 0 0 :: .slice none 0 0 :: .slice none 0 0 :: .slice none 0 0 :: .int .i64 39 :: .int .i64 0 :: .int .i64 0 :: .int .i64 0 :: .int .i64 0 :: .int .i64 0 :: .int .i64 0 :: .int .i64 0 :: .int .i64 0 :: .int .i64 0 :: .int .i64 0 :: .int .i64 0 :: .slice none 0 0 :: .slice none 0 0 :: .slice none 0 0 :: .slice none 0 0 :: .slice none 0 0 :: .slice none 0 0 :: .int .i64 20 :: .int .i64 0 :: .int .i64 0 :: .int .i64 0 :: .int .i64 0 :: .int .i64 0 :: .int .i64 0 :: .int .i64 0 :: .int .i64 0 :: .int .i64 0 :: .int .i64 0 :: .int .i64 0 :: .slice none 0 0 :: .slice none 0 0 :: .slice none 0 0 :: .slice none 0 0 :: .slice none 0 0 :: .slice none 0 0 :: .int .i64 39 :: .int .i64 0 :: .int .i64 0 :: .int .i64 0 :: .int .i64 0 :: .int .i64 0 :: .int .i64 0 :: .int .i64 0 :: .int .i64 0 :: .int .i64 0 :: .int .i64 0 :: .int .i64 0 :: .slice none 0 0 :: .slice none 0 0 :: .slice none 0 0 :: .slice none 0 0 :: .slice none 0 0 :: .slice none 0 0 :: .int .i64 21 :: .int .i64 0 :: .int .i64 0 :: .int .i64 0 :: .int .i64 0 :: .int .i64 0 :: .int .i64 0 :: .int .i64 0 :: .int .i64 0 :: .int .i64 0 :: .int .i64 0 :: .int .i64 0 :: .slice none 0 0 :: .slice none 0 0 :: .slice none 0 0 :: .slice none 0 0 :: .slice none 0 0 :: .slice none 0 0 :: []).toArray := (HW.out.1.alloc _).grown hg3 (fun e => by have := (hlt9 _ e.symm).1; omega)
        have h73 : Blk w3 w.heap.size 3 #[.int .i64 7] := (HW.out.2.2.1.alloc _).grown hg3 (fun e => by have := (hlt9 _ e.symm).1; omega)
        have hb3 : Below w.heap.size w w3 := (HW.out.2.2.2.alloc HW.out.2.2.2.size _).grown hg3 (by have := HW.out.2.2.2.size; simp; omega) (fun b e => by have := (hlt9 _ e).1; omega)
        have hoc3 : w3.cell? (oad.add k) = some (.int .i64 z) := hg3.cell (alloc_of hocW) (fun e => by have := (hlt9 _ e.symm).1; rw [block_of_add] at this; omega)
        refine hK.out _ _ ?_ (fun hHeld => ?_)
        · exact hoc3
        clear hK K
        try simp only [Act.put, List.setIfInBounds_toArray, List.set_cons_zero, List.set_cons_succ]
        have H3 := Lib.hid (And.intro own3 (And.intro hB3 (And.intro h73 hb3)))
        clear own3 hg3 hv3 hB3 h73 hb3 hlt9 hown9
        have d13 : w3.cell? ⟨w.heap.size + 1, 13, none⟩ = some (.slice TA k tc) := (H3.out.2.1.cell 13).trans rfl
        have e13 : w3.frozen? ⟨w.heap.size + 1, 13, none⟩ = false := H3.out.2.1.frozen 13
        refine wpAnyH_take (i := 15) (oi := _) (v := ?_) (by simp only [List.getElem?_toArray, List.getElem?_cons_succ, List.getElem?_cons_zero]; rfl) (by kernel_rfl) (by kernel_rfl) (by kernel_rfl) (by intro _ _ _ h; exact h) (Or.inl ⟨by rfl, ?_⟩) (by assumption) ?_
        rotate_left
        · intro w hSw
          try dsimp only at hSw
          go_simp
          try with_reducible rfl
        try simp only [Act.put, List.setIfInBounds_toArray, List.set_cons_zero, List.set_cons_succ]
        refine wpAnyH_take (i := 16) (oi := _) (v := ?_) (by simp only [List.getElem?_toArray, List.getElem?_cons_succ, List.getElem?_cons_zero]; rfl) (by kernel_rfl) (by kernel_rfl) (by kernel_rfl) (by intro _ _ _ h; exact h) (Or.inl ⟨by rfl, ?_⟩) (by assumption) ?_
        rotate_left
        · intro w hSw
          try dsimp only at hSw
          go_simp
          try with_reducible rfl
        try simp only [Act.put, List.setIfInBounds_toArray, List.set_cons_zero, List.set_cons_succ]
        refine wpAnyH_ready (rs := [17]) (by kernel_rfl) (by simp) ?_
        refine AllReadyH.cons (o := _) (by simp only [List.getElem?_toArray, List.getElem?_cons_succ, List.getElem?_cons_zero]; rfl) (fun K hK => ?_) AllReadyH.nil
        go_simp
        refine hK.out _ _ ?_ (fun hHeld => ?_)
        · exact (World.cell?_setCell_far _ _ _ _ (by rw [block_of_add]; show w.heap.size + 1 ≠ _; omega)).trans hoc3
        clear hK K
        try simp only [Act.put, List.setIfInBounds_toArray, List.set_cons_zero, List.set_cons_succ]
        refine wpAnyH_done (by kernel_rfl) ?_ _
        have hG : w3.grownBy (w3.setCell ⟨w.heap.size + 1, 13, none⟩ (.slice A3 (k + 1) c3)) (some (w.heap.size + 1)) := ⟨rfl, rfl, rfl, by simp [World.setCell], fun q _ h => Below.heap_setCell _ _ _ _ (fun e => h (by rw [e]))⟩
        have hlo := H3.out.1.lt
        have htk : (zs.take (k + 1)).map cl2 = (zs.take k).map cl2 ++ [cl2 z] := by rw [HQ.out.2.2.2.2]; exact take_cl2 (by rw [HR.out.2]; exact hlt)
        have HX := Lib.hid (show CallM w (w3.setCell ⟨w.heap.size + 1, 13, none⟩ (.slice A3 (k + 1) c3)) (k + 1) zs from ⟨A3, c3, H3.out.2.1.set_ 13 _, by rw [htk, List.map_append]; exact H3.out.1.kept hG (.inr (fun e => by have := (hlo _ e).1; omega)), H3.out.2.2.1.far (by show w.heap.size ≠ w.heap.size + 1; omega) _, H3.out.2.2.2.setCell (p := ⟨w.heap.size + 1, 13, none⟩) (by show w.heap.size ≤ w.heap.size + 1; omega) _⟩)
        clear hG hlo htk d13 e13 hoc3 hocW q13
        go_wp2
        go_roundw
        case rel => exact ⟨k + 1, by go_num, by omega, HX.out⟩
        case measure => simp [intOf]; omega
      · have hocA : (W.alloc (.cells #[.int .i64 (cl2 z)] 3)).cell? (oad.add k) = some (.int .i64 z) := alloc_of hocW
        have q13A : (W.alloc (.cells #[.int .i64 (cl2 z)] 3)).cell? ⟨w.heap.size + 1, 13, none⟩ = some (.slice TA k tc) := alloc_of q13
        go_simp
        refine hK.out _ _ ?_ (fun hHeld => ?_)
        · exact hocA
        clear hK K
        try simp only [Act.put, List.setIfInBounds_toArray, List.set_cons_zero, List.set_cons_succ]
        refine wpAnyH_ready (rs := [4]) (by kernel_rfl) (by simp) ?_
        refine AllReadyH.cons (o := _) (by simp only [List.getElem?_toArray, List.getElem?_cons_succ, List.getElem?_cons_zero]; rfl) (fun K hK => ?_) AllReadyH.nil
        go_simp
        refine hK.out _ _ ?_ (fun hHeld => ?_)
        · exact hocA
        clear hK K
        try simp only [Act.put, List.setIfInBounds_toArray, List.set_cons_zero, List.set_cons_succ]
        refine wpAnyH_ready (rs := [14]) (by kernel_rfl) (by simp) ?_
        refine AllReadyH.cons (o := _) (by simp only [List.getElem?_toArray, List.getElem?_cons_succ, List.getElem?_cons_zero]; rfl) (fun K hK => ?_) AllReadyH.nil
        have HC := Lib.hid (show Reads (W.alloc (.cells #[.int .i64 (cl2 z)] 3)) (W.alloc (.cells #[.int .i64 (cl2 z)] 3)).heap.size 1 (some ⟨W.heap.size, 0, none⟩) 1 [.int .i64 (cl2 z)] ∧ k + 1 ≤ maxLen ∧ (k + 1) * 8 ≤ 140737488355328 ∧ w.heap.size + 2 ≤ (W.alloc (.cells #[.int .i64 (cl2 z)] 3)).heap.size from ⟨⟨rfl, fun _ => ⟨_, rfl, by simp, lit_cells W [.int .i64 (cl2 z)] 3⟩⟩, by unfold maxLen; omega, by omega, by have := HW.out.1.lt; simp; omega⟩)
        have hown9 := HW.out.2.1.alloc (.cells #[.int .i64 (cl2 z)] 3)
        refine step_append_any _ (by rfl) _ _ _ (by rfl) (w.heap.size + 2) 3 i1 (.int .i64 0) 1 8 Try.underlying31 hj hy0 hy1 hy2 rfl (by decide) (.slice TA k tc) k _ (by rfl) hown9 _ (some ⟨W.heap.size, 0, none⟩) 1 1 [.int .i64 (cl2 z)] (by rfl) HC.out.1 (by simp [Value.oneCell']) HC.out.2.1 HC.out.2.2.1 HC.out.2.2.2 ?_
        intro v3 w3 own3 hg3 hv3
        obtain ⟨A3, c3, rfl⟩ := own_slice own3
        have hlt9 := hown9.lt
        have hB3 : Blk w3 (w.heap.size + 1) 45 (.int .i64 38 :: .int .i64 0 :: .int .i64 0 :: .int .i64 0 :: .int .i64 0 :: .int .i64 0 :: .int .i64 0 :: .int .i64 0 :: .int .i64 0 :: .int .i64 0 :: .int .i64 0 :: .int .i64 0 :: .slice none 0 0 :: .slice TA k tc :: .slice none 0 0 :: .slice none 0 0 :: .slice none 0 0 :: .slice none 0 0 :: .int .i64 35 :: .int .i64 0 :: .int .i64 0 :: .int .i64 0 :: .int .i64 0 :: .int .i64 0 :: .int .i64 0 :: .int .i64 0 :: .int .i64 0 :: .int .i64 0 :: .int .i64 0 :: .int .i64 0 :: .slice none 0 0 :: .slice (some ⟨w.heap.size, 0, none⟩) 1 1 :: .slice none 0 0 :: .slice none 0 0 :: .slice none 0 0 :: .slice none 0 0 :: .int .i64 18 :: .int .i64 0 :: .int .i64 0 :: .int .i64 0 :: .int .i64 0 :: .int .i64 0 :: .int .i64 0 :: .int .i64 0 :: .int .i64 0 :: .int .i64 0 :: .int .i64 0 :: .int .i64 0 :: .slice none 0 0 :: .slice none 0 0 :: .slice none 0 0 :: .slice none 0 0 :: .slice none 0 0 :: .slice none 0 0 :: .int .i64 39 :: .int .i64 0 :: .int .i64 0 :: .int .i64 0 :: .int .i64 0 :: .int .i64 0 :: .int .i64 0 :: .int .i64 0 :: .int .i64 0 :: .int .i64 0 :: .int .i64 0 :: .int .i64 0 :: .slice none 0 0 :: .slice none 0 0 :: .slice none 0 0 :: .slice none 0 0 :: .slice none 0 0 :: .slice none 0 0 :: .int .i64 19 :: .int .i64 0 :: .int .i64 0 :: .int .i64 0 :: .int .i64 0 :: .int .i64 0 :: .int .i64 0 :: .int .i64 0 :: .int .i64 0 :: .int .i64 0 :: .int .i64 0 :: .int .i64 0 :: .slice none 0 0 :: .slice none 0 0 :: .slice none 0 0 :: .slice none 0 0 :: .slice none 0 0 :: .slice none 0 0 :: .int .i64 39 :: .int .i64 0 :: .int .i64 0 :: .int .i64 0 :: .int .i64 0 :: .int .i64 0 :: .int .i64 0 :: .int .i64 0 :: .int .i64 0 :: .int .i64 0 :: .int .i64 0 :: .int .i64 0 :: .slice none 0 0 :: .slice none 0 0 :: .slice none 0 0 :: .slice none 0 0 :: .slice none 0 0 :: .slice none 0 0 :: .int .i64 20 :: .int .i64 0 :: .int .i64 0 :: .int .i64 0 :: .int .i64 0 :: .int .i64 0 :: .int .i64 0 :: .int .i64 0 :: .int .i64 0 :: .int .i64 0 :: .int .i64 0 :: .int .i64 0 :: .slice none 0 0 :: .slice none 0 0 :: .slice none 0 0 :: .slice none 0 0 :: .slice none 0 0 :: .slice none 0 0 :: .int .i64 39 :: .int .i64 0 :: .int .i64 0 :: .int .i64 0 :: .int .i64 0 :: .int .i64 0 :: .int .i64 0 :: .int .i64 0 :: .int .i64 0 :: .int .i64 0 :: .int .i64 0 :: .int .i64 0 :: .slice none 0 0 :: .slice none 0 0 :: .slice none 0 0 :: .slice none 0 0 :: .slice none 0 0 :: .slice none 0 0 :: .int .i64 21 :: .int .i64 0 :: .int .i64 0 :: .int .i64 0 :: .int .i64 0 :: .int .i64 0 :: .int .i64 0 :: .int .i64 0 :: .int .i64 0 :: .int .i64 0 :: .int .i64 0 :: .int .i64 0 :: .slice none 0 0 :: .slice none 0 0 :: .slice none 0 0 :: .slice none 0 0 :: .slice none 0 0 :: .slice none 0 0 :: []).toArray := (HW.out.1.alloc _).grown hg3 (fun e => by have := (hlt9 _ e.symm).1; omega)
        have h73 : Blk w3 w.heap.size 3 #[.int .i64 7] := (HW.out.2.2.1.alloc _).grown hg3 (fun e => by have := (hlt9 _ e.symm).1; omega)
        have hb3 : Below w.heap.size w w3 := (HW.out.2.2.2.alloc HW.out.2.2.2.size _).grown hg3 (by have := HW.out.2.2.2.size; simp; omega) (fun b e => by have := (hlt9 _ e).1; omega)
        have hoc3 : w3.cell? (oad.add k) = some (.int .i64 z) := hg3.cell (alloc_of hocW) (fun e => by have := (hlt9 _ e.symm).1; rw [block_of_add] at this; omega)
        refine hK.out _ _ ?_ (fun hHeld => ?_)
        · exact hoc3
        clear hK K
        try simp only [Act.put, List.setIfInBounds_toArray, List.set_cons_zero, List.set_cons_succ]
        have H3 := Lib.hid (And.intro own3 (And.intro hB3 (And.intro h73 hb3)))
        clear own3 hg3 hv3 hB3 h73 hb3 hlt9 hown9
        have d13 : w3.cell? ⟨w.heap.size + 1, 13, none⟩ = some (.slice TA k tc) := (H3.out.2.1.cell 13).trans rfl
        have e13 : w3.frozen? ⟨w.heap.size + 1, 13, none⟩ = false := H3.out.2.1.frozen 13
        refine wpAnyH_take (i := 15) (oi := _) (v := ?_) (by simp only [List.getElem?_toArray, List.getElem?_cons_succ, List.getElem?_cons_zero]; rfl) (by kernel_rfl) (by kernel_rfl) (by kernel_rfl) (by intro _ _ _ h; exact h) (Or.inl ⟨by rfl, ?_⟩) (by assumption) ?_
        rotate_left
        · intro w hSw
          try dsimp only at hSw
          go_simp
          try with_reducible rfl
        try simp only [Act.put, List.setIfInBounds_toArray, List.set_cons_zero, List.set_cons_succ]
        refine wpAnyH_take (i := 16) (oi := _) (v := ?_) (by simp only [List.getElem?_toArray, List.getElem?_cons_succ, List.getElem?_cons_zero]; rfl) (by kernel_rfl) (by kernel_rfl) (by kernel_rfl) (by intro _ _ _ h; exact h) (Or.inl ⟨by rfl, ?_⟩) (by assumption) ?_
        rotate_left
        · intro w hSw
          try dsimp only at hSw
          go_simp
          try with_reducible rfl
        try simp only [Act.put, List.setIfInBounds_toArray, List.set_cons_zero, List.set_cons_succ]
        refine wpAnyH_ready (rs := [17]) (by kernel_rfl) (by simp) ?_
        refine AllReadyH.cons (o := _) (by simp only [List.getElem?_toArray, List.getElem?_cons_succ, List.getElem?_cons_zero]; rfl) (fun K hK => ?_) AllReadyH.nil
        go_simp
        refine hK.out _ _ ?_ (fun hHeld => ?_)
        · exact (World.cell?_setCell_far _ _ _ _ (by rw [block_of_add]; show w.heap.size + 1 ≠ _; omega)).trans hoc3
        clear hK K
        try simp only [Act.put, List.setIfInBounds_toArray, List.set_cons_zero, List.set_cons_succ]
        refine wpAnyH_done (by kernel_rfl) ?_ _
        have hG : w3.grownBy (w3.setCell ⟨w.heap.size + 1, 13, none⟩ (.slice A3 (k + 1) c3)) (some (w.heap.size + 1)) := ⟨rfl, rfl, rfl, by simp [World.setCell], fun q _ h => Below.heap_setCell _ _ _ _ (fun e => h (by rw [e]))⟩
        have hlo := H3.out.1.lt
        have htk : (zs.take (k + 1)).map cl2 = (zs.take k).map cl2 ++ [cl2 z] := by rw [HQ.out.2.2.2.2]; exact take_cl2 (by rw [HR.out.2]; exact hlt)
        have HX := Lib.hid (show CallM w (w3.setCell ⟨w.heap.size + 1, 13, none⟩ (.slice A3 (k + 1) c3)) (k + 1) zs from ⟨A3, c3, H3.out.2.1.set_ 13 _, by rw [htk, List.map_append]; exact H3.out.1.kept hG (.inr (fun e => by have := (hlo _ e).1; omega)), H3.out.2.2.1.far (by show w.heap.size ≠ w.heap.size + 1; omega) _, H3.out.2.2.2.setCell (p := ⟨w.heap.size + 1, 13, none⟩) (by show w.heap.size ≤ w.heap.size + 1; omega) _⟩)
        clear hG hlo htk d13 e13 hoc3 hocW q13
        go_wp2
        go_roundw
        case rel => exact ⟨k + 1, by go_num, by omega, HX.out⟩
        case measure => simp [intOf]; omega
    · obtain rfl : k = on := by omega
      have hkI : ¬ (k : Int) < (k : Int) := by omega
      have htk : zs.take k = zs := List.take_of_length_le (by rw [HR.out.2]; exact Nat.le_refl _)
      rw [htk] at hown
      obtain ⟨TS, hTS⟩ : ∃ TS, TS = zs.map cl2 := ⟨_, rfl⟩
      rw [← hTS] at hown
      have hTl : TS.length = k := by rw [hTS, List.length_map]; exact HR.out.2
      have hPt : Parts TS := ⟨by omega, fun d hd => by rw [hTS] at hd; obtain ⟨x, _, rfl⟩ := List.mem_map.1 hd; exact cl2_is x⟩
      have hBR := blksC hBk hown h7
      have hnw := new_any wr (some ⟨w.heap.size + 1, 0, none⟩) 9 9 (bsC TS) hBR (bsC_lite hPt)
      have HP := Lib.hid (And.intro hTS (And.intro hTl hPt))
      have H5 := Lib.hid hbl
      have hws := hbl.size
      clear hBk hown h7 hbl htk hTS hTl hPt hBR
      go_wp2_with fail
      refine hnw.mono ?_
      clear hnw
      rintro x w6 ⟨hb6, h | h | ⟨_, _, g, mb, LA, lc, rfl, hg, hm, hW⟩⟩
      · exact absurd (bsC_sound HP.out.2.2) h.1
      · exact absurd h.2.1 (bsC_empty TS)
      have H6 := Lib.hid (show WalkAt w6 g mb LA 9 lc (bsC TS) ws0 ∧ Below w.heap.size w w6 from ⟨hW, H5.out.trans (hb6.mono hws)⟩)
      have GM := Lib.hid (show w.heap.size ≤ g ∧ w.heap.size ≤ mb from ⟨by omega, by omega⟩)
      clear hb6 hg hm hW hws
      go_upto_region 12 with fail
      go_loopw [7] (fun x wr => ∃ i : Nat, x = .int .i64 (i : Int) ∧ i ≤ k ∧ (stC TS i).ok (bsC TS) ∧ WalkAt wr g mb LA 9 lc (bsC TS) (stC TS i) ∧ Below w.heap.size w wr) (fun x _ => k - (intOf x).toNat)
      case atStart => exact ⟨0, rfl, by omega, ws0_ok _, H6.out.1, H6.out.2⟩
      case round =>
        obtain ⟨i, rfl, hik, hok, hWk, hbl⟩ := hrel
        have hi0 : (0 : Int) ≤ (i : Int) := Int.natCast_nonneg _
        have hfi := bsC_fine HP.out.2.2
        by_cases hil : i < k
        · have hiI : (i : Int) < (k : Int) := by omega
          have hwi : IntKind.i64.wrap ((i : Int) + 1) = (i : Int) + 1 := by rw [IntKind.wrap_i64]; omega
          have hst := nC_step HP.out.2.2 (by rw [HP.out.2.1]; exact hil)
          have hns := nextS_o hfi hok (stC_ov TS i) hst
          have hok1 := nextS_ok hfi hok
          have hnx := next_any wr g mb LA 9 lc (bsC TS) (stC TS i) hWk hok hfi
          obtain ⟨oad, rfl, hob, hox⟩ := i32_at HR.out.1 hil
          obtain ⟨z, hz⟩ : ∃ z, z = zs.getD i 0 := ⟨_, rfl⟩
          rw [← hz] at hox
          have htz : TS.getD i 0 = cl2 z := by rw [HP.out.1, hz]; exact map_cl2_getD (by rw [HR.out.2]; exact hil)
          rw [hns, htz] at hnx
          rw [hns] at hok1
          simp only [stepV] at hnx
          have HQ := Lib.hid (And.intro hok1 (And.intro hbl (And.intro hob hox)))
          clear hst hns hok1 hok hWk hbl hob hox hfi htz hz
          go_wp2_with fail
          refine hnx.mono ?_
          clear hnx
          rintro x v1 ⟨rfl, hW1, hM1⟩
          have hbv : Below w.heap.size w v1 := HQ.out.2.1.trans (hM1.below HQ.out.2.1.size (by have := GM.out.1; omega) (by have := GM.out.2; omega))
          have HV := Lib.hid (And.intro hW1 hbv)
          clear hW1 hM1 hbv
          go_upto_region 15 with (first
            | (refine wpList_store_box rfl 36 _ _ rfl (v1.heap.size) #[.int .i64 0, .int .i64 (cl2 z), .int .i64 0] rfl rfl 36 #[.int .i64 0, .int .i64 0, .int .i64 0] (Blk.new v1 _ _) stepInfo rfl (by simp [Value.oneCell']) ?_)
            | fail)
          intro y1 hB9 hg9
          have hb9 : Below v1.heap.size v1 y1 := ((Below.refl _ _).alloc (Nat.le_refl _) _).grown hg9 (by simp) (fun b e => by injection e with e; omega)
          have HY := Lib.hid (show WalkAt y1 g mb LA 9 lc (bsC TS) (stC TS (i + 1)) ∧ Below w.heap.size w y1 from ⟨HV.out.1.below hb9, HV.out.2.trans (hb9.mono HV.out.2.size)⟩)
          have q0 : y1.cell? ⟨v1.heap.size, 0, none⟩ = some (.int .i64 0) := (hB9.cell 0).trans rfl
          have q1 : y1.cell? ⟨v1.heap.size, 1, none⟩ = some (.int .i64 (cl2 z)) := (hB9.cell 1).trans rfl
          have hoc : y1.cell? (oad.add i) = some (.int .i64 z) := (HY.out.2.cell (p := oad.add i) (by rw [block_of_add]; exact HQ.out.2.2.1)).trans HQ.out.2.2.2
          clear hB9 hg9 hb9 HV
          go_upto_region 15 with fail
          refine wp_region_held_drew (S := fun w' => w'.cell? (oad.add i) = some (.int .i64 z) ∧ w'.cell? ⟨v1.heap.size, 0, none⟩ = some (.int .i64 0) ∧ w'.cell? ⟨v1.heap.size, 1, none⟩ = some (.int .i64 (cl2 z))) (by kernel_rfl) ?_ (fun hHeld => ?_)
          · exact ⟨hoc, q0, q1⟩
          have HYW := Lib.hid (show WalkAt y1.drew g mb LA 9 lc (bsC TS) (stC TS (i + 1)) ∧ Below w.heap.size w y1.drew from ⟨HY.out.1, HY.out.2.drew⟩)
          clear hoc q0 q1 HY
          generalize y1.drew = W at *
          refine wpAnyH_take (i := 0) (oi := _) (v := ?_) (by simp only [List.getElem?_toArray, List.getElem?_cons_succ, List.getElem?_cons_zero]; rfl) (by kernel_rfl) (by kernel_rfl) (by kernel_rfl) (by intro _ _ _ h; exact h) (Or.inl ⟨by rfl, ?_⟩) (by assumption) ?_
          rotate_left
          · intro w hSw
            try dsimp only at hSw
            go_simp
            try with_reducible rfl
          try simp only [Act.put, List.setIfInBounds_toArray, List.set_cons_zero, List.set_cons_succ]
          refine wpAnyH_take (i := 1) (oi := _) (v := ?_) (by simp only [List.getElem?_toArray, List.getElem?_cons_succ, List.getElem?_cons_zero]; rfl) (by kernel_rfl) (by kernel_rfl) (by kernel_rfl) (by intro _ _ _ h; exact h) (Or.inl ⟨by rfl, ?_⟩) (by assumption) ?_
          rotate_left
          · intro w hSw
            try dsimp only at hSw
            go_simp
            try with_reducible rfl
          try simp only [Act.put, List.setIfInBounds_toArray, List.set_cons_zero, List.set_cons_succ]
          refine wpAnyH_take (i := 2) (oi := _) (v := ?_) (by simp only [List.getElem?_toArray, List.getElem?_cons_succ, List.getElem?_cons_zero]; rfl) (by kernel_rfl) (by kernel_rfl) (by kernel_rfl) (by intro _ _ _ h; exact h) (Or.inl ⟨by rfl, ?_⟩) (by assumption) ?_
          rotate_left
          · intro w hSw
            try dsimp only at hSw
            go_simp
            try with_reducible rfl
          try simp only [Act.put, List.setIfInBounds_toArray, List.set_cons_zero, List.set_cons_succ]
          refine wpAnyH_take (i := 3) (oi := _) (v := ?_) (by simp only [List.getElem?_toArray, List.getElem?_cons_succ, List.getElem?_cons_zero]; rfl) (by kernel_rfl) (by kernel_rfl) (by kernel_rfl) (by intro _ _ _ h; exact h) (Or.inl ⟨by rfl, ?_⟩) (by assumption) ?_
          rotate_left
          · intro w hSw
            try dsimp only at hSw
            go_simp
            try with_reducible rfl
          try simp only [Act.put, List.setIfInBounds_toArray, List.set_cons_zero, List.set_cons_succ]
          refine wpAnyH_take (i := 4) (oi := _) (v := ?_) (by simp only [List.getElem?_toArray, List.getElem?_cons_succ, List.getElem?_cons_zero]; rfl) (by kernel_rfl) (by kernel_rfl) (by kernel_rfl) (by intro _ _ _ h; exact h) (Or.inl ⟨by rfl, ?_⟩) (by assumption) ?_
          rotate_left
          · intro w hSw
            try dsimp only at hSw
            go_simp
            try with_reducible rfl
          try simp only [Act.put, List.setIfInBounds_toArray, List.set_cons_zero, List.set_cons_succ]
          refine wpAnyH_take (i := 5) (oi := _) (v := ?_) (by simp only [List.getElem?_toArray, List.getElem?_cons_succ, List.getElem?_cons_zero]; rfl) (by kernel_rfl) (by kernel_rfl) (by kernel_rfl) (by intro _ _ _ h; exact h) (Or.inl ⟨by rfl, ?_⟩) (by assumption) ?_
          rotate_left
          · intro w hSw
            try dsimp only at hSw
            go_simp
            try with_reducible rfl
          try simp only [Act.put, List.setIfInBounds_toArray, List.set_cons_zero, List.set_cons_succ]
          refine wpAnyH_take (i := 6) (oi := _) (v := ?_) (by simp only [List.getElem?_toArray, List.getElem?_cons_succ, List.getElem?_cons_zero]; rfl) (by kernel_rfl) (by kernel_rfl) (by kernel_rfl) (by intro _ _ _ h; exact h) (Or.inl ⟨by rfl, ?_⟩) (by assumption) ?_
          rotate_left
          · intro w hSw
            try dsimp only at hSw
            go_simp
            try with_reducible rfl
          try simp only [Act.put, List.setIfInBounds_toArray, List.set_cons_zero, List.set_cons_succ]
          refine wpAnyH_take (i := 7) (oi := _) (v := ?_) (by simp only [List.getElem?_toArray, List.getElem?_cons_succ, List.getElem?_cons_zero]; rfl) (by kernel_rfl) (by kernel_rfl) (by kernel_rfl) (by intro _ _ _ h; exact h) (Or.inl ⟨by rfl, ?_⟩) (by assumption) ?_
          rotate_left
          · intro w hSw
            try dsimp only at hSw
            go_simp
            try with_reducible rfl
          try simp only [Act.put, List.setIfInBounds_toArray, List.set_cons_zero, List.set_cons_succ]
          refine wpAnyH_take (i := 8) (oi := _) (v := ?_) (by simp only [List.getElem?_toArray, List.getElem?_cons_succ, List.getElem?_cons_zero]; rfl) (by kernel_rfl) (by kernel_rfl) (by kernel_rfl) (by intro _ _ _ h; exact h) (Or.inl ⟨by rfl, ?_⟩) (by assumption) ?_
          rotate_left
          · intro w hSw
            try dsimp only at hSw
            go_simp
            try with_reducible rfl
          try simp only [Act.put, List.setIfInBounds_toArray, List.set_cons_zero, List.set_cons_succ]
          refine wpAnyH_take (i := 9) (oi := _) (v := ?_) (by simp only [List.getElem?_toArray, List.getElem?_cons_succ, List.getElem?_cons_zero]; rfl) (by kernel_rfl) (by kernel_rfl) (by kernel_rfl) (by intro _ _ _ h; exact h) (Or.inl ⟨by rfl, ?_⟩) (by assumption) ?_
          rotate_left
          · intro w hSw
            try dsimp only at hSw
            go_simp
            try with_reducible rfl
          try simp only [Act.put, List.setIfInBounds_toArray, List.set_cons_zero, List.set_cons_succ]
          refine wpAnyH_take (i := 10) (oi := _) (v := ?_) (by simp only [List.getElem?_toArray, List.getElem?_cons_succ, List.getElem?_cons_zero]; rfl) (by kernel_rfl) (by kernel_rfl) (by kernel_rfl) (by intro _ _ _ h; exact h) (Or.inl ⟨by rfl, ?_⟩) (by assumption) ?_
          rotate_left
          · intro w hSw
            try dsimp only at hSw
            go_simp
            try with_reducible rfl
          try simp only [Act.put, List.setIfInBounds_toArray, List.set_cons_zero, List.set_cons_succ]
          refine wpAnyH_take (i := 11) (oi := _) (v := ?_) (by simp only [List.getElem?_toArray, List.getElem?_cons_succ, List.getElem?_cons_zero]; rfl) (by kernel_rfl) (by kernel_rfl) (by kernel_rfl) (by intro _ _ _ h; exact h) (Or.inl ⟨by rfl, ?_⟩) (by assumption) ?_
          rotate_left
          · intro w hSw
            try dsimp only at hSw
            go_simp
            try with_reducible rfl
          try simp only [Act.put, List.setIfInBounds_toArray, List.set_cons_zero, List.set_cons_succ]
          refine wpAnyH_take (i := 12) (oi := _) (v := ?_) (by simp only [List.getElem?_toArray, List.getElem?_cons_succ, List.getElem?_cons_zero]; rfl) (by kernel_rfl) (by kernel_rfl) (by kernel_rfl) (by intro _ _ _ h; exact h) (Or.inl ⟨by rfl, ?_⟩) (by assumption) ?_
          rotate_left
          · intro w hSw
            try dsimp only at hSw
            go_simp
            try with_reducible rfl
          try simp only [Act.put, List.setIfInBounds_toArray, List.set_cons_zero, List.set_cons_succ]
          refine wpAnyH_take (i := 13) (oi := _) (v := ?_) (by simp only [List.getElem?_toArray, List.getElem?_cons_succ, List.getElem?_cons_zero]; rfl) (by kernel_rfl) (by kernel_rfl) (by kernel_rfl) (by intro _ _ _ h; exact h) (Or.inl ⟨by rfl, ?_⟩) (by assumption) ?_
          rotate_left
          · intro w hSw
            try dsimp only at hSw
            go_simp
            try with_reducible rfl
          try simp only [Act.put, List.setIfInBounds_toArray, List.set_cons_zero, List.set_cons_succ]
          rw [cl2_walk z]
          refine wpAnyH_take (i := 14) (oi := _) (v := ?_) (by simp only [List.getElem?_toArray, List.getElem?_cons_succ, List.getElem?_cons_zero]; rfl) (by kernel_rfl) (by kernel_rfl) (by kernel_rfl) (by intro _ _ _ h; exact h) (Or.inl ⟨by rfl, ?_⟩) (by assumption) ?_
          rotate_left
          · intro w hSw
            try dsimp only at hSw
            go_simp
            try with_reducible rfl
          try simp only [Act.put, List.setIfInBounds_toArray, List.set_cons_zero, List.set_cons_succ]
          refine wpAnyH_take (i := 15) (oi := _) (v := ?_) (by simp only [List.getElem?_toArray, List.getElem?_cons_succ, List.getElem?_cons_zero]; rfl) (by kernel_rfl) (by kernel_rfl) (by kernel_rfl) (by intro _ _ _ h; exact h) (Or.inl ⟨by rfl, ?_⟩) (by assumption) ?_
          rotate_left
          · intro w hSw
            try dsimp only at hSw
            go_simp
            try with_reducible rfl
          try simp only [Act.put, List.setIfInBounds_toArray, List.set_cons_zero, List.set_cons_succ]
          refine wpAnyH_done (by kernel_rfl) ?_ _
          clear hHeld
          go_wp2
          go_roundw
          case rel => exact ⟨i + 1, by go_num, by omega, HQ.out.1, HYW.out.1, HYW.out.2⟩
          case measure => simp [intOf]; omega
        · obtain rfl : i = k := by omega
          have hiI : ¬ (i : Int) < (i : Int) := by omega
          have hl := nC_last HP.out.2.2
          rw [HP.out.2.1] at hl
          have hns := nextS_o hfi hok (stC_ov TS i) hl
          have hok8 := nextS_ok hfi hok
          rw [hns] at hok8
          have hnx := next_any wr g mb LA 9 lc (bsC TS) (stC TS i) hWk hok hfi
          rw [hns] at hnx
          simp only [stepV] at hnx
          have HE := Lib.hid (And.intro hok8 (And.intro hbl hfi))
          clear hl hns hok8 hok hWk hbl hfi
          go_wp2_with fail
          refine hnx.mono ?_
          clear hnx
          rintro x v1 ⟨rfl, hW1, hM1⟩
          have hb1 : Below w.heap.size w v1 := HE.out.2.1.trans (hM1.below HE.out.2.1.size (by have := GM.out.1; omega) (by have := GM.out.2; omega))
          have hnx := next_any v1 g mb LA 9 lc (bsC TS) sC8 hW1 HE.out.1 HE.out.2.2
          rw [nextS_o HE.out.2.2 HE.out.1 rfl (nC_end TS)] at hnx
          simp only [stepV] at hnx
          have HV1 := Lib.hid hb1
          clear hW1 hM1 hb1
          go_wp2_with fail
          refine hnx.mono ?_
          clear hnx
          rintro x v2 ⟨rfl, hW2, hM2⟩
          have hb2 : Below w.heap.size w v2 := HV1.out.trans (hM2.below HV1.out.size (by have := GM.out.1; omega) (by have := GM.out.2; omega))
          have HV2 := Lib.hid hb2
          clear hW2 hM2 hb2
          have k1 : Blk ((v2.alloc (.cells #[.int .i64 0, .int .i64 0, .int .i64 0] 36)).alloc (.cells #[.int .i64 0, .int .i64 0, .int .i64 0] 36)) v2.heap.size 36 #[.int .i64 0, .int .i64 0, .int .i64 0] := (Blk.new v2 _ _).alloc _
          have k2 : Blk ((v2.alloc (.cells #[.int .i64 0, .int .i64 0, .int .i64 0] 36)).alloc (.cells #[.int .i64 0, .int .i64 0, .int .i64 0] 36)) (v2.heap.size + 1) 36 #[.int .i64 0, .int .i64 0, .int .i64 0] := by
            have := Blk.new (v2.alloc (.cells #[.int .i64 0, .int .i64 0, .int .i64 0] 36)) 36 #[.int .i64 0, .int .i64 0, .int .i64 0]
            simpa using this
          have hb4 : Below w.heap.size w ((v2.alloc (.cells #[.int .i64 0, .int .i64 0, .int .i64 0] 36)).alloc (.cells #[.int .i64 0, .int .i64 0, .int .i64 0] 36)) := (HV2.out.alloc HV2.out.size _).alloc (by have := HV2.out.size; simp; omega) _
          have HK := Lib.hid (And.intro k2 hb4)
          clear k2 hb4
          go_wp2_with (first
            | (refine wpList_store_box rfl 36 _ _ rfl (v2.heap.size) #[.int .i64 0, .int .i64 8, .int .i64 0] rfl rfl 36 #[.int .i64 0, .int .i64 0, .int .i64 0] k1 stepInfo rfl (by simp [Value.oneCell']) ?_)
            | fail)
          intro y1 l1 hg1
          have m2 := HK.out.1.grown hg1 (fun e => by injection e with e; omega)
          have HK1 := Lib.hid (And.intro l1 (HK.out.2.grown hg1 HK.out.2.size (fun b e => by injection e with e; have := HV2.out.size; omega)))
          clear l1 hg1 k1
          go_wp2_with (first
            | (refine wpList_store_box rfl 36 _ _ rfl (v2.heap.size + 1) #[.int .i64 3, .int .i64 9, .int .i64 0] rfl rfl 36 #[.int .i64 0, .int .i64 0, .int .i64 0] m2 stepInfo rfl (by simp [Value.oneCell']) ?_)
            | fail)
          intro y2 l2 hg2
          have n1 := HK1.out.1.grown hg2 (fun e => by injection e with e; omega)
          have HL := Lib.hid (And.intro n1 (And.intro l2 (HK1.out.2.grown hg2 HK1.out.2.size (fun b e => by injection e with e; have := HV2.out.size; omega))))
          clear n1 l2 hg2 m2
          have h7J : Blk ((y2.alloc (.cells #[.int .i64 0] 3)).alloc (.cells #[.int .i64 35, .int .i64 0, .int .i64 0, .int .i64 0, .int .i64 0, .int .i64 0, .int .i64 0, .int .i64 0, .int .i64 0, .int .i64 0, .int .i64 0, .int .i64 0, .slice none 0 0, .slice (some ⟨y2.heap.size, 0, none⟩) 1 1, .slice none 0 0, .slice none 0 0, .slice none 0 0, .slice none 0 0] 45)) y2.heap.size 3 #[.int .i64 0] := (Blk.new y2 _ _).alloc _
          have hBJ : Blk ((y2.alloc (.cells #[.int .i64 0] 3)).alloc (.cells #[.int .i64 35, .int .i64 0, .int .i64 0, .int .i64 0, .int .i64 0, .int .i64 0, .int .i64 0, .int .i64 0, .int .i64 0, .int .i64 0, .int .i64 0, .int .i64 0, .slice none 0 0, .slice (some ⟨y2.heap.size, 0, none⟩) 1 1, .slice none 0 0, .slice none 0 0, .slice none 0 0, .slice none 0 0] 45)) (y2.heap.size + 1) 45 #[.int .i64 35, .int .i64 0, .int .i64 0, .int .i64 0, .int .i64 0, .int .i64 0, .int .i64 0, .int .i64 0, .int .i64 0, .int .i64 0, .int .i64 0, .int .i64 0, .slice none 0 0, .slice (some ⟨y2.heap.size, 0, none⟩) 1 1, .slice none 0 0, .slice none 0 0, .slice none 0 0, .slice none 0 0] := by
            have := Blk.new (y2.alloc (.cells #[.int .i64 0] 3)) 45 #[.int .i64 35, .int .i64 0, .int .i64 0, .int .i64 0, .int .i64 0, .int .i64 0, .int .i64 0, .int .i64 0, .int .i64 0, .int .i64 0, .int .i64 0, .int .i64 0, .slice none 0 0, .slice (some ⟨y2.heap.size, 0, none⟩) 1 1, .slice none 0 0, .slice none 0 0, .slice none 0 0, .slice none 0 0]
            simpa using this
          have hbJ : Below y2.heap.size y2 ((y2.alloc (.cells #[.int .i64 0] 3)).alloc (.cells #[.int .i64 35, .int .i64 0, .int .i64 0, .int .i64 0, .int .i64 0, .int .i64 0, .int .i64 0, .int .i64 0, .int .i64 0, .int .i64 0, .int .i64 0, .int .i64 0, .slice none 0 0, .slice (some ⟨y2.heap.size, 0, none⟩) 1 1, .slice none 0 0, .slice none 0 0, .slice none 0 0, .slice none 0 0] 45)) := ((Below.refl _ _).alloc (Nat.le_refl _) _).alloc (by simp) _
          have hnw := new_any ((y2.alloc (.cells #[.int .i64 0] 3)).alloc (.cells #[.int .i64 35, .int .i64 0, .int .i64 0, .int .i64 0, .int .i64 0, .int .i64 0, .int .i64 0, .int .i64 0, .int .i64 0, .int .i64 0, .int .i64 0, .int .i64 0, .slice none 0 0, .slice (some ⟨y2.heap.size, 0, none⟩) 1 1, .slice none 0 0, .slice none 0 0, .slice none 0 0, .slice none 0 0] 45)) (some ⟨y2.heap.size + 1, 0, none⟩) 1 1 bsJ (blksJ hBJ h7J) bsJ_lite
          have HBJ := Lib.hid hbJ
          clear h7J hBJ hbJ
          go_wp2_with fail
          refine hnw.mono ?_
          clear hnw
          rintro x w7 ⟨hb7, h | h | ⟨_, _, g', mb', LA', lc', rfl, hg', hm', hW'⟩⟩
          · exact absurd bsJ_sound h.1
          · exact absurd h.2.1 bsJ_empty
          have hsz : y2.heap.size + 2 ≤ w7.heap.size := by have := hb7.size; simpa using this
          have hg2 : y2.heap.size + 2 ≤ g' := by simpa using hg'
          have hm2 : y2.heap.size + 2 ≤ mb' := by simpa using hm'
          have hb7' : Below y2.heap.size y2 w7 := HBJ.out.trans (hb7.mono HBJ.out.size)
          obtain ⟨sJ, hJ⟩ := nJ
          have hnx := next_any w7 g' mb' LA' 1 lc' bsJ ws0 hW' (ws0_ok _) bsJ_fine
          rw [nextS_o bsJ_fine (ws0_ok _) rfl hJ] at hnx
          simp only [stepV] at hnx
          have HG := Lib.hid (And.intro hb7' (And.intro hsz (And.intro hg2 hm2)))
          clear hb7 hb7' hsz hg2 hm2 hg' hm' hW' hJ
          go_wp2_with fail
          refine hnx.mono ?_
          clear hnx
          rintro x w8 ⟨rfl, hW8, hM8⟩
          have hb8 : Below y2.heap.size y2 w8 := HG.out.1.trans (hM8.below HG.out.1.size (by have := HG.out.2.2.1; omega) (by have := HG.out.2.2.2; omega))
          have HB8 := Lib.hid hb8
          clear hW8 hM8 hb8
          go_wp2_with (first
            | (refine wpList_store_box rfl 36 _ _ rfl (w8.heap.size) #[.int .i64 4, .int .i64 0, .int .i64 11] rfl rfl 36 #[.int .i64 0, .int .i64 0, .int .i64 0] (Blk.new w8 _ _) stepInfo rfl (by simp [Value.oneCell']) ?_)
            | fail)
          intro y3 l3 hg3
          have hb3 : Below y2.heap.size y2 y3 := (HB8.out.alloc HB8.out.size _).grown hg3 (by have := HB8.out.size; simp; omega) (fun b e => by injection e with e; have := HB8.out.size; omega)
          have n1 := HL.out.1.below hb3 HL.out.1.lt
          have n2 := HL.out.2.1.below hb3 HL.out.2.1.lt
          have HF := Lib.hid (HL.out.2.2.trans (hb3.mono HL.out.2.2.size))
          clear hb3 hg3
          have a0 : y3.cell? ⟨v2.heap.size, 0, none⟩ = some (.int .i64 0) := (n1.cell 0).trans rfl
          have a1 : y3.cell? ⟨v2.heap.size, 1, none⟩ = some (.int .i64 8) := (n1.cell 1).trans rfl
          have b0 : y3.cell? ⟨v2.heap.size + 1, 0, none⟩ = some (.int .i64 3) := (n2.cell 0).trans rfl
          have c0 : y3.cell? ⟨w8.heap.size, 0, none⟩ = some (.int .i64 4) := (l3.cell 0).trans rfl
          have c2 : y3.cell? ⟨w8.heap.size, 2, none⟩ = some (.int .i64 11) := (l3.cell 2).trans rfl
          have hlv := lives_any y3
          clear n1 n2 l3
          go_wp2_with fail
          refine hlv.mono ?_
          rintro x y4 ⟨rfl, hb4⟩
          have HZ := Lib.hid (bthen HF.out hb4)
          clear hlv hb4
          go_wp2
          go_ret
          exact ⟨rfl, HZ.out⟩
end Go.Proofs.Ytnmapncgnceldaa
