/- The laws of layer 1, walked: FlagBytes, FlagBits, FlagConds, FlagTexts, FlagBack: each returns true and writes nothing that was there. -/
import Derived.Test.YtkhbkfecnpnchaaFlag
import Derived.Test.YtkhbkfecnpnchaaR01b
import Derived.OpenShut
import Derived.Lib.SlBytesConst
namespace Go.Proofs.Ytkhbkfecnpnchaa
open Go.RowKit


/-- the signs, as cells, when the first j of them have been looked at -/
def signAt (i : Nat) : UInt8 := ([83, 90, 89, 72, 88, 80, 78, 67] : List UInt8).getD i 0
def showCells (b : Int) (j : Nat) : List Value := (List.range 8).map fun i => .int .u8 (if i < j ∧ bitH b i = false then 45 else ((signAt i).toNat : Int))
theorem showCells_no (b : Int) {j : Nat} (hj : j < 8) (h : bitH b j = false) : (showCells b j).toArray.setIfInBounds j (.int .u8 45) = (showCells b (j + 1)).toArray := by
  rcases nat8 hj with rfl | rfl | rfl | rfl | rfl | rfl | rfl | rfl <;> simp [showCells, List.range_succ, h]
theorem showCells_yes (b : Int) {j : Nat} (hj : j < 8) (h : bitH b j = true) : (showCells b j).toArray = (showCells b (j + 1)).toArray := by
  rcases nat8 hj with rfl | rfl | rfl | rfl | rfl | rfl | rfl | rfl <;> simp [showCells, List.range_succ, h]
theorem bitH_and {b : Int} (h0 : 0 ≤ b) (h1 : b ≤ 255) {j : Nat} (hj : j < 8) : (bits .and .u8 b (kk j) == 0) = !(bitH b j) := by
  rcases nat8 hj with rfl | rfl | rfl | rfl | rfl | rfl | rfl | rfl
  all_goals refine byte_all (p := fun b => (bits .and .u8 b (kk _) == 0) = !(bitH b _)) ?_ h0 h1; decide +kernel

theorem cellM {w : World} {B : Nat} {cs : Array Value} {t : TypeId} {m : Nat × Nat} (h : w.heap[B]? = some (.cells cs t m)) (j : Nat) : w.cell? ⟨B, j, none⟩ = cs[j]? := by
  unfold World.cell?
  simp [h]

theorem heap_setCell_mark {w : World} {B j : Nat} {cs : Array Value} {t : TypeId} {m : Nat × Nat} {u : Value} (h : w.heap[B]? = some (.cells cs t m)) : (w.setCell ⟨B, j, none⟩ u).heap[B]? = some (.cells (cs.setIfInBounds j u) t m) := by
  simp [World.setCell, Array.getElem?_modify, h]

def showInts (b : Int) : List Int := (List.range 8).map fun i => if bitH b i = false then 45 else ((signAt i).toNat : Int)
theorem showInts_cells {b : Int} {w : World} {B : Nat} {t : TypeId} {m : Nat × Nat} (h : w.heap[B]? = some (.cells (showCells b 8).toArray t m)) :
    ∀ j v, ((showInts b).map (Value.int .u8))[j]? = some v → w.cell? ((⟨B, 0, none⟩ : Addr).add j) = some v := by
  intro j v hv
  have hadd : (⟨B, 0, none⟩ : Addr).add j = ⟨B, j, none⟩ := by unfold Addr.add; split <;> simp_all
  have e : (showInts b).map (Value.int .u8) = showCells b 8 := by
    simp only [showInts, showCells, List.map_map]
    apply List.map_congr_left
    intro i hi
    have := List.mem_range.1 hi
    simp [this]
  rw [e] at hv
  rw [hadd, cellM h]
  simpa using hv
theorem showInts_str (b : Int) : ((showInts b).map fun n => UInt8.ofNat n.toNat) = showN b 8 := by
  simp only [showInts, showN, List.map_map]
  apply List.map_congr_left
  intro i hi
  simp only [Function.comp]
  by_cases hb : bitH b i = true <;> simp [hb, signAt]

set_option maxHeartbeats 2000000 in
theorem show_any (b : Int) (w : World) (h0 : 0 ≤ b) (h1 : b ≤ 255) :
    Calls Try.prog 36 #[.int .u8 b] w fun e w' => e = .returned (.string ⟨(showN b 8).toArray⟩) ∧ Below w.heap.size w w' := by
  have kc := fun (w : World) (C : Array Value) (n c : Nat) => Lib.run_convert_bytes_const (P := Try.prog) w 40 5 C n c Try.underlying40 Try.underlying5
  have H0 := Lib.hid h0
  have H1 := Lib.hid h1
  clear h0 h1
  obtain ⟨B, hB⟩ : ∃ B, B = w.heap.size := ⟨_, rfl⟩
  have HB := Lib.hid hB
  clear hB
  rw [← HB.out]
  go_enter Try.func36, Try.ntmps36
  go_wp2
  rw [← HB.out]
  go_loopw [7] (fun i wr => ∃ j : Nat, j ≤ 8 ∧ i = .int .i64 j ∧ wr.heap[B]? = some (.cells (showCells b j).toArray 5 (8, 9)) ∧ Below B w wr) (fun i _ => 8 - (intOf i).toNat)
  case atStart => exact ⟨0, by omega, rfl, by rw [HB.out]; exact heap_alloc_new w _, (Below.refl _ _).alloc (by rw [HB.out]; exact Nat.le_refl _) _⟩
  case round =>
    obtain ⟨j, hj, rfl, hh, hb⟩ := hrel
    have HH := Lib.hid hh
    clear hh
    by_cases hlt : j < 8
    · obtain ⟨x, hx⟩ : ∃ x, bitH b j = x := ⟨_, rfl⟩
      have hand := bitH_and H0.out H1.out hlt
      rw [hx] at hand
      have HX := Lib.hid hx
      clear hx
      have hc : ∃ u, wr.cell? ⟨B, j, none⟩ = some u := by rw [cellM HH.out]; simp [showCells, hlt]
      obtain ⟨u, hc⟩ := hc
      have hf : wr.frozen? ⟨B, j, none⟩ = false := by simp [World.frozen?, HH.out]; omega
      rcases nat8 hlt with rfl | rfl | rfl | rfl | rfl | rfl | rfl | rfl
      all_goals
        simp only [kk, Int.reducePow, Int.reduceDiv] at hand
        cases x
        · simp only [Bool.not_false] at hand
          go_wp2
          go_roundw
          case rel => exact ⟨_ + 1, hlt, rfl, by rw [heap_setCell_mark HH.out, showCells_no b hlt HX.out], hb.setCell (Nat.le_refl _) _⟩
          case measure => simp [intOf]
        · simp only [Bool.not_true] at hand
          go_wp2
          go_roundw
          case rel => exact ⟨_ + 1, hlt, rfl, by rw [HH.out, showCells_yes b hlt HX.out], hb⟩
          case measure => simp [intOf]
    · obtain rfl : j = 8 := by omega
      have hcv := run_str_of_bytes (P := Try.prog) wr 40 9 5 ⟨B, 0, none⟩ 8 8 (showInts b) Try.underlying40 Try.underlying5 Try.underlying9 (by simp [showInts]) (showInts_cells HH.out)
      rw [showInts_str] at hcv
      go_wp2
      go_ret
      exact ⟨rfl, hb⟩

theorem ofR_40 : ofR 40 = 40 := by decide +kernel
theorem ofPR_0 : ofPR 0 = 68 := by decide +kernel
theorem showN_65 : showN 65 8 = [45, 90, 45, 45, 45, 45, 45, 67] := by decide +kernel

theorem lives01 (w : World) :
    Calls Try.prog 22 #[] w fun e w' => e = .returned (.bool true) ∧ Below w.heap.size w w' := by
  go_enter Try.func22, Try.ntmps22
  go_wp2_with fail
  refine (of_any _ _ (by omega) (by omega)).mono ?_
  rintro e w' ⟨rfl, rfl⟩
  rw [ofR_40]
  go_wp2_with fail
  refine (ofP_any _ _ (by omega) (by omega)).mono ?_
  rintro e w' ⟨rfl, rfl⟩
  rw [ofPR_0]
  go_wp2_with fail
  refine (show_any _ _ (by omega) (by omega)).mono ?_
  rintro e w' ⟨rfl, hb⟩
  rw [showN_65]
  go_wp2
  go_ret
  exact ⟨rfl, hb⟩

theorem flagBytes_walk (a0 : Int) (w : World) (w0 : (Lit.int .u8 a0).wf = true) :
    Calls Try.prog 4 #[.int .u8 a0] w fun e w' => e = .returned (.bool true) ∧ Below w.heap.size w w' := by
  obtain ⟨h0, h1⟩ := bounds_u8 w0
  clear w0
  go_enter Try.func4, Try.ntmps4
  go_wp2_with fail
  refine (evenP_any _ _ h0 h1).mono ?_
  rintro e w' ⟨rfl, rfl⟩
  go_wp2_with fail
  refine (even_ref _ _ h0 h1).mono ?_
  rintro e w1 ⟨rfl, hb1⟩
  go_wp2_with fail
  refine (of_any _ _ h0 h1).mono ?_
  rintro e w' ⟨rfl, rfl⟩
  go_wp2_with fail
  refine (of_ref _ _ h0 h1).mono ?_
  rintro e w2 ⟨rfl, hb2⟩
  go_wp2_with fail
  refine (ofP_any _ _ h0 h1).mono ?_
  rintro e w' ⟨rfl, rfl⟩
  go_wp2_with fail
  refine (ofP_ref _ _ h0 h1).mono ?_
  rintro e w3 ⟨rfl, hb3⟩
  go_wp2_with fail
  refine (lives01 _).mono ?_
  rintro e w4 ⟨rfl, hb4⟩
  go_wp2
  go_ret
  exact ⟨rfl, bthen (bthen (bthen hb1 hb2) hb3) hb4⟩

end Go.Proofs.Ytkhbkfecnpnchaa
