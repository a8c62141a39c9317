/- Contracts of layer 10: which keys are down. -/
import Derived.Test.YtlkhghnbfdfikaaKeys5
namespace Go.Proofs.Ytlkhghnbfdfikaa
open Go.RowKit

/-- is the n-th key down? -/
def onD (d : Nat → Int) (n : Nat) : Bool := bits .and .u8 (d (n / 5) / 2 ^ (n % 5)) 1 == 1
def downL (d : Nat → Int) (m : Nat) : List Nat := (List.range m).filter (onD d)
def downV (d : Nat → Int) (m : Nat) : List Value := (downL d m).map fun n => .string (keyB n)
theorem downL_yes {d : Nat → Int} {m : Nat} (h : onD d m = true) : downL d (m + 1) = downL d m ++ [m] := by unfold downL; rw [List.range_succ, List.filter_append]; simp [h]
theorem downL_no {d : Nat → Int} {m : Nat} (h : onD d m = false) : downL d (m + 1) = downL d m := by unfold downL; rw [List.range_succ, List.filter_append]; simp [h]
theorem downL_le (d : Nat → Int) (m : Nat) : (downL d m).length ≤ m := by
  unfold downL
  have := List.length_filter_le (onD d) (List.range m)
  simpa using this

set_option maxRecDepth 100000 in
set_option maxHeartbeats 8000000 in
theorem down_any (g : Nat) (d : Nat → Int) (w : World) (hg : g < w.heap.size) (hd : ∀ j, 0 ≤ d j ∧ d j ≤ 255) (hc : ∀ j, j < 8 → w.cell? ⟨g, j, none⟩ = some (.int .u8 (d j))) :
    Calls Try.prog 35 #[.pointer (some ⟨g, 0, none⟩)] w fun e w' => ∃ v, e = .returned v ∧ w'.ownsRow w.heap.size 9 1 v (downL d 40).length (downV d 40) ∧ Below w.heap.size w w' := by
  obtain ⟨hz, hi⟩ := zero_of_info rowInfo
  obtain ⟨i0, hi0, hz0, hz1, hz2⟩ := info_parts strInfo
  go_enter Try.func35, Try.ntmps35
  go_wp2_with fail
  refine (matrix_any _).mono ?_
  rintro e w1 ⟨rfl, hb1⟩
  go_wp2
  go_loopw [3, 11] (fun v x wr => ∃ i : Nat, (i : Int) ≤ 8 ∧ x = .int .i64 i ∧ wr.ownsRow w.heap.size 9 1 v (downL d (5 * i)).length (downV d (5 * i)) ∧ Below w.heap.size w wr) (fun _ x _ => 8 - (intOf x).toNat)
  case atStart => exact ⟨0, by omega, rfl, World.ownsRow_nil _ _ _ _, hb1⟩
  case round =>
    clear hb1
    obtain ⟨i, hi8, rfl, hown, hbl⟩ := hrel
    have hsz := hbl.size
    by_cases hlt : (i : Int) < 8
    · have hm := fun w' => mat_at w' i (by omega)
      have hst := run_storeCells_new (P := Try.prog) wr 63 zeroR (rowC i) (by rw [hi, row_size]) (by rw [zeroR_size, row_size]) (row_one i)
      have hld := run_loadCellsFrom_new (P := Try.prog) wr 63 (rowC i) 5 (row_size i)
      have hrs := row_size i
      have hown2 := hown.alloc (.cells (rowC i) 63)
      have hb2 := hbl.alloc hsz (.cells (rowC i) 63)
      clear hown hbl
      go_wp2
      clear hst hld hm
      go_loopw [3, 16] (fun v x wk => ∃ k : Nat, k ≤ 5 ∧ x = .int .i64 k ∧ wk.ownsRow w.heap.size 9 1 v (downL d (5 * i + k)).length (downV d (5 * i + k)) ∧ Below w.heap.size w wk) (fun _ x _ => 5 - (intOf x).toNat)
      case atStart => exact ⟨0, by omega, rfl, hown2, hb2⟩
      case round =>
        clear hown2 hb2 hsz
        obtain ⟨k, hk, rfl, hown, hbl⟩ := hrel
        have hsz := hbl.size
        by_cases hk5 : k < 5
        · have hcell := (hbl.cell (p := ⟨g, i, none⟩) hg).trans (hc i (by omega))
          have hle := downL_le d (5 * i + k)
          obtain ⟨x0, x1⟩ := hd i
          have hrk : ∀ w', (Instr.index 63 (.agg #[(rowC i)[0]'(by rw [row_size]; omega), (rowC i)[1]'(by rw [row_size]; omega), (rowC i)[2]'(by rw [row_size]; omega), (rowC i)[3]'(by rw [row_size]; omega), (rowC i)[4]'(by rw [row_size]; omega)]) (.int .i64 k)).run Try.prog w' = .ok (.string (keyB (5 * i + k))) w' := fun w' => row_at w' i k (by omega) hk5
          have hon : onD d (5 * i + k) = (bits .and .u8 (d i / 2 ^ k) 1 == 1) := by unfold onD; rw [show (5 * i + k) / 5 = i by omega, show (5 * i + k) % 5 = k by omega]
          cases hA : onD d (5 * i + k)
          · have HL := Lib.hid (downL_no hA)
            rw [hA] at hon
            clear hA
            generalize d i = X at *
            generalize keyB (5 * i + k) = T at *
            rcases (show k = 0 ∨ k = 1 ∨ k = 2 ∨ k = 3 ∨ k = 4 by omega) with rfl | rfl | rfl | rfl | rfl
            · have hr : ∀ w' : World, (Instr.index 63 (.agg #[(rowC i)[0]'(by rw [row_size]; omega), (rowC i)[1]'(by rw [row_size]; omega), (rowC i)[2]'(by rw [row_size]; omega), (rowC i)[3]'(by rw [row_size]; omega), (rowC i)[4]'(by rw [row_size]; omega)]) (.int .i64 0)).run Try.prog w' = .ok (.string T) w' := hrk
              have ho : (bits .and .u8 X 1 == 1) = false := by have := hon; simp only [show ((2 : Int) ^ 0) = 1 from rfl, Int.ediv_one] at this; exact this.symm
              clear hon hrk
              go_wp2
              go_roundw
              case rel => exact ⟨0 + 1, by omega, rfl, by unfold downV; rw [show 5 * i + (0 + 1) = 5 * i + 0 + 1 from rfl, HL.out]; exact hown, hbl⟩
              case measure => first | (simp [intOf]; done) | (simp [intOf]; omega)
            · have hr : ∀ w' : World, (Instr.index 63 (.agg #[(rowC i)[0]'(by rw [row_size]; omega), (rowC i)[1]'(by rw [row_size]; omega), (rowC i)[2]'(by rw [row_size]; omega), (rowC i)[3]'(by rw [row_size]; omega), (rowC i)[4]'(by rw [row_size]; omega)]) (.int .i64 1)).run Try.prog w' = .ok (.string T) w' := hrk
              have ho : (bits .and .u8 (X / 2) 1 == 1) = false := by have := hon; simp only [show ((2 : Int) ^ 1) = 2 from rfl, Int.ediv_one] at this; exact this.symm
              clear hon hrk
              go_wp2
              go_roundw
              case rel => exact ⟨1 + 1, by omega, rfl, by unfold downV; rw [show 5 * i + (1 + 1) = 5 * i + 1 + 1 from rfl, HL.out]; exact hown, hbl⟩
              case measure => first | (simp [intOf]; done) | (simp [intOf]; omega)
            · have hr : ∀ w' : World, (Instr.index 63 (.agg #[(rowC i)[0]'(by rw [row_size]; omega), (rowC i)[1]'(by rw [row_size]; omega), (rowC i)[2]'(by rw [row_size]; omega), (rowC i)[3]'(by rw [row_size]; omega), (rowC i)[4]'(by rw [row_size]; omega)]) (.int .i64 2)).run Try.prog w' = .ok (.string T) w' := hrk
              have ho : (bits .and .u8 (X / 4) 1 == 1) = false := by have := hon; simp only [show ((2 : Int) ^ 2) = 4 from rfl, Int.ediv_one] at this; exact this.symm
              clear hon hrk
              go_wp2
              go_roundw
              case rel => exact ⟨2 + 1, by omega, rfl, by unfold downV; rw [show 5 * i + (2 + 1) = 5 * i + 2 + 1 from rfl, HL.out]; exact hown, hbl⟩
              case measure => first | (simp [intOf]; done) | (simp [intOf]; omega)
            · have hr : ∀ w' : World, (Instr.index 63 (.agg #[(rowC i)[0]'(by rw [row_size]; omega), (rowC i)[1]'(by rw [row_size]; omega), (rowC i)[2]'(by rw [row_size]; omega), (rowC i)[3]'(by rw [row_size]; omega), (rowC i)[4]'(by rw [row_size]; omega)]) (.int .i64 3)).run Try.prog w' = .ok (.string T) w' := hrk
              have ho : (bits .and .u8 (X / 8) 1 == 1) = false := by have := hon; simp only [show ((2 : Int) ^ 3) = 8 from rfl, Int.ediv_one] at this; exact this.symm
              clear hon hrk
              go_wp2
              go_roundw
              case rel => exact ⟨3 + 1, by omega, rfl, by unfold downV; rw [show 5 * i + (3 + 1) = 5 * i + 3 + 1 from rfl, HL.out]; exact hown, hbl⟩
              case measure => first | (simp [intOf]; done) | (simp [intOf]; omega)
            · have hr : ∀ w' : World, (Instr.index 63 (.agg #[(rowC i)[0]'(by rw [row_size]; omega), (rowC i)[1]'(by rw [row_size]; omega), (rowC i)[2]'(by rw [row_size]; omega), (rowC i)[3]'(by rw [row_size]; omega), (rowC i)[4]'(by rw [row_size]; omega)]) (.int .i64 4)).run Try.prog w' = .ok (.string T) w' := hrk
              have ho : (bits .and .u8 (X / 16) 1 == 1) = false := by have := hon; simp only [show ((2 : Int) ^ 4) = 16 from rfl, Int.ediv_one] at this; exact this.symm
              clear hon hrk
              go_wp2
              go_roundw
              case rel => exact ⟨4 + 1, by omega, rfl, by unfold downV; rw [show 5 * i + (4 + 1) = 5 * i + 4 + 1 from rfl, HL.out]; exact hown, hbl⟩
              case measure => first | (simp [intOf]; done) | (simp [intOf]; omega)
          · have HL := Lib.hid (downL_yes hA)
            rw [hA] at hon
            clear hA
            generalize d i = X at *
            obtain ⟨T, hT⟩ : ∃ T, keyB (5 * i + k) = T := ⟨_, rfl⟩
            rw [hT] at hrk
            have HT := Lib.hid hT
            clear hT
            rcases (show k = 0 ∨ k = 1 ∨ k = 2 ∨ k = 3 ∨ k = 4 by omega) with rfl | rfl | rfl | rfl | rfl
            · have hr : ∀ w' : World, (Instr.index 63 (.agg #[(rowC i)[0]'(by rw [row_size]; omega), (rowC i)[1]'(by rw [row_size]; omega), (rowC i)[2]'(by rw [row_size]; omega), (rowC i)[3]'(by rw [row_size]; omega), (rowC i)[4]'(by rw [row_size]; omega)]) (.int .i64 0)).run Try.prog w' = .ok (.string T) w' := hrk
              have ho : (bits .and .u8 X 1 == 1) = true := by have := hon; simp only [show ((2 : Int) ^ 0) = 1 from rfl, Int.ediv_one] at this; exact this.symm
              clear hon hrk
              go_wp2_with (first
                | (at_builtin; refine wpList_append_own _ rfl _ _ 37 rfl w.heap.size 9 i0 (.string ⟨#[]⟩) 1 16 Try.underlying37 hi0 hz0 hz1 hz2 rfl (by decide) _ _ _ rfl (hown.alloc _) ⟨_, 0, none⟩ 1 1 [.string T] rfl rfl ?c1 ?c2 ?c3 ?c4 ?c5 ?_)
                | go_in)
              case c1 =>
                intro i u hi
                match i, hi with
                | 0, hi => simp at hi; subst hi; simp [Addr.add]
              case c2 => intro u hu; simp at hu; subst hu; rfl
              case c3 => unfold maxLen; omega
              case c4 => omega
              case c5 => simp; omega
              intro v' w3 hown' hgrow _
              have hb3 := (hbl.alloc hsz (.cells #[.string T] 9)).grown hgrow (by simp; omega) (fun j hj => (hown.lt j hj).1)
              go_wp2
              go_roundw
              case rel => exact ⟨0 + 1, by omega, rfl, by unfold downV; rw [show 5 * i + (0 + 1) = 5 * i + 0 + 1 from rfl, HL.out, List.length_append, List.map_append, List.map_singleton, HT.out]; exact hown', hb3⟩
              case measure => first | (simp [intOf]; done) | (simp [intOf]; omega)
            · have hr : ∀ w' : World, (Instr.index 63 (.agg #[(rowC i)[0]'(by rw [row_size]; omega), (rowC i)[1]'(by rw [row_size]; omega), (rowC i)[2]'(by rw [row_size]; omega), (rowC i)[3]'(by rw [row_size]; omega), (rowC i)[4]'(by rw [row_size]; omega)]) (.int .i64 1)).run Try.prog w' = .ok (.string T) w' := hrk
              have ho : (bits .and .u8 (X / 2) 1 == 1) = true := by have := hon; simp only [show ((2 : Int) ^ 1) = 2 from rfl, Int.ediv_one] at this; exact this.symm
              clear hon hrk
              go_wp2_with (first
                | (at_builtin; refine wpList_append_own _ rfl _ _ 37 rfl w.heap.size 9 i0 (.string ⟨#[]⟩) 1 16 Try.underlying37 hi0 hz0 hz1 hz2 rfl (by decide) _ _ _ rfl (hown.alloc _) ⟨_, 0, none⟩ 1 1 [.string T] rfl rfl ?c1 ?c2 ?c3 ?c4 ?c5 ?_)
                | go_in)
              case c1 =>
                intro i u hi
                match i, hi with
                | 0, hi => simp at hi; subst hi; simp [Addr.add]
              case c2 => intro u hu; simp at hu; subst hu; rfl
              case c3 => unfold maxLen; omega
              case c4 => omega
              case c5 => simp; omega
              intro v' w3 hown' hgrow _
              have hb3 := (hbl.alloc hsz (.cells #[.string T] 9)).grown hgrow (by simp; omega) (fun j hj => (hown.lt j hj).1)
              go_wp2
              go_roundw
              case rel => exact ⟨1 + 1, by omega, rfl, by unfold downV; rw [show 5 * i + (1 + 1) = 5 * i + 1 + 1 from rfl, HL.out, List.length_append, List.map_append, List.map_singleton, HT.out]; exact hown', hb3⟩
              case measure => first | (simp [intOf]; done) | (simp [intOf]; omega)
            · have hr : ∀ w' : World, (Instr.index 63 (.agg #[(rowC i)[0]'(by rw [row_size]; omega), (rowC i)[1]'(by rw [row_size]; omega), (rowC i)[2]'(by rw [row_size]; omega), (rowC i)[3]'(by rw [row_size]; omega), (rowC i)[4]'(by rw [row_size]; omega)]) (.int .i64 2)).run Try.prog w' = .ok (.string T) w' := hrk
              have ho : (bits .and .u8 (X / 4) 1 == 1) = true := by have := hon; simp only [show ((2 : Int) ^ 2) = 4 from rfl, Int.ediv_one] at this; exact this.symm
              clear hon hrk
              go_wp2_with (first
                | (at_builtin; refine wpList_append_own _ rfl _ _ 37 rfl w.heap.size 9 i0 (.string ⟨#[]⟩) 1 16 Try.underlying37 hi0 hz0 hz1 hz2 rfl (by decide) _ _ _ rfl (hown.alloc _) ⟨_, 0, none⟩ 1 1 [.string T] rfl rfl ?c1 ?c2 ?c3 ?c4 ?c5 ?_)
                | go_in)
              case c1 =>
                intro i u hi
                match i, hi with
                | 0, hi => simp at hi; subst hi; simp [Addr.add]
              case c2 => intro u hu; simp at hu; subst hu; rfl
              case c3 => unfold maxLen; omega
              case c4 => omega
              case c5 => simp; omega
              intro v' w3 hown' hgrow _
              have hb3 := (hbl.alloc hsz (.cells #[.string T] 9)).grown hgrow (by simp; omega) (fun j hj => (hown.lt j hj).1)
              go_wp2
              go_roundw
              case rel => exact ⟨2 + 1, by omega, rfl, by unfold downV; rw [show 5 * i + (2 + 1) = 5 * i + 2 + 1 from rfl, HL.out, List.length_append, List.map_append, List.map_singleton, HT.out]; exact hown', hb3⟩
              case measure => first | (simp [intOf]; done) | (simp [intOf]; omega)
            · have hr : ∀ w' : World, (Instr.index 63 (.agg #[(rowC i)[0]'(by rw [row_size]; omega), (rowC i)[1]'(by rw [row_size]; omega), (rowC i)[2]'(by rw [row_size]; omega), (rowC i)[3]'(by rw [row_size]; omega), (rowC i)[4]'(by rw [row_size]; omega)]) (.int .i64 3)).run Try.prog w' = .ok (.string T) w' := hrk
              have ho : (bits .and .u8 (X / 8) 1 == 1) = true := by have := hon; simp only [show ((2 : Int) ^ 3) = 8 from rfl, Int.ediv_one] at this; exact this.symm
              clear hon hrk
              go_wp2_with (first
                | (at_builtin; refine wpList_append_own _ rfl _ _ 37 rfl w.heap.size 9 i0 (.string ⟨#[]⟩) 1 16 Try.underlying37 hi0 hz0 hz1 hz2 rfl (by decide) _ _ _ rfl (hown.alloc _) ⟨_, 0, none⟩ 1 1 [.string T] rfl rfl ?c1 ?c2 ?c3 ?c4 ?c5 ?_)
                | go_in)
              case c1 =>
                intro i u hi
                match i, hi with
                | 0, hi => simp at hi; subst hi; simp [Addr.add]
              case c2 => intro u hu; simp at hu; subst hu; rfl
              case c3 => unfold maxLen; omega
              case c4 => omega
              case c5 => simp; omega
              intro v' w3 hown' hgrow _
              have hb3 := (hbl.alloc hsz (.cells #[.string T] 9)).grown hgrow (by simp; omega) (fun j hj => (hown.lt j hj).1)
              go_wp2
              go_roundw
              case rel => exact ⟨3 + 1, by omega, rfl, by unfold downV; rw [show 5 * i + (3 + 1) = 5 * i + 3 + 1 from rfl, HL.out, List.length_append, List.map_append, List.map_singleton, HT.out]; exact hown', hb3⟩
              case measure => first | (simp [intOf]; done) | (simp [intOf]; omega)
            · have hr : ∀ w' : World, (Instr.index 63 (.agg #[(rowC i)[0]'(by rw [row_size]; omega), (rowC i)[1]'(by rw [row_size]; omega), (rowC i)[2]'(by rw [row_size]; omega), (rowC i)[3]'(by rw [row_size]; omega), (rowC i)[4]'(by rw [row_size]; omega)]) (.int .i64 4)).run Try.prog w' = .ok (.string T) w' := hrk
              have ho : (bits .and .u8 (X / 16) 1 == 1) = true := by have := hon; simp only [show ((2 : Int) ^ 4) = 16 from rfl, Int.ediv_one] at this; exact this.symm
              clear hon hrk
              go_wp2_with (first
                | (at_builtin; refine wpList_append_own _ rfl _ _ 37 rfl w.heap.size 9 i0 (.string ⟨#[]⟩) 1 16 Try.underlying37 hi0 hz0 hz1 hz2 rfl (by decide) _ _ _ rfl (hown.alloc _) ⟨_, 0, none⟩ 1 1 [.string T] rfl rfl ?c1 ?c2 ?c3 ?c4 ?c5 ?_)
                | go_in)
              case c1 =>
                intro i u hi
                match i, hi with
                | 0, hi => simp at hi; subst hi; simp [Addr.add]
              case c2 => intro u hu; simp at hu; subst hu; rfl
              case c3 => unfold maxLen; omega
              case c4 => omega
              case c5 => simp; omega
              intro v' w3 hown' hgrow _
              have hb3 := (hbl.alloc hsz (.cells #[.string T] 9)).grown hgrow (by simp; omega) (fun j hj => (hown.lt j hj).1)
              go_wp2
              go_roundw
              case rel => exact ⟨4 + 1, by omega, rfl, by unfold downV; rw [show 5 * i + (4 + 1) = 5 * i + 4 + 1 from rfl, HL.out, List.length_append, List.map_append, List.map_singleton, HT.out]; exact hown', hb3⟩
              case measure => first | (simp [intOf]; done) | (simp [intOf]; omega)
        · obtain rfl : k = 5 := by omega
          go_wp2
          go_roundw
          case rel => exact ⟨i + 1, by omega, by go_num, by rw [show 5 * (i + 1) = 5 * i + 5 by omega]; exact hown, hbl⟩
          case measure => simp [intOf]; omega
    · obtain rfl : i = 8 := by omega
      go_wp2
      go_ret
      exact ⟨_, rfl, hown, hbl⟩

end Go.Proofs.Ytlkhghnbfdfikaa
