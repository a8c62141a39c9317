/- Contracts of layer 10: where a key is. -/
import Derived.Test.YtfcnlgkaejkneaaProg
import Derived.Test.YtfcnlgkaejkneaaBase
import Derived.BigRegion
import Derived.Deep.WholeRow
import Derived.Deep.CutRange
namespace Go.Proofs.Ytfcnlgkaejkneaa
open Go.RowKit

def keyL : List ByteArray := [⟨#[99, 97, 112, 115]⟩, ⟨#[122]⟩, ⟨#[120]⟩, ⟨#[99]⟩, ⟨#[118]⟩, ⟨#[97]⟩, ⟨#[115]⟩, ⟨#[100]⟩, ⟨#[102]⟩, ⟨#[103]⟩, ⟨#[113]⟩, ⟨#[119]⟩, ⟨#[101]⟩, ⟨#[114]⟩, ⟨#[116]⟩, ⟨#[49]⟩, ⟨#[50]⟩, ⟨#[51]⟩, ⟨#[52]⟩, ⟨#[53]⟩, ⟨#[48]⟩, ⟨#[57]⟩, ⟨#[56]⟩, ⟨#[55]⟩, ⟨#[54]⟩, ⟨#[112]⟩, ⟨#[111]⟩, ⟨#[105]⟩, ⟨#[117]⟩, ⟨#[121]⟩, ⟨#[101, 110, 116, 101, 114]⟩, ⟨#[108]⟩, ⟨#[107]⟩, ⟨#[106]⟩, ⟨#[104]⟩, ⟨#[115, 112, 97, 99, 101]⟩, ⟨#[115, 121, 109]⟩, ⟨#[109]⟩, ⟨#[110]⟩, ⟨#[98]⟩]
def keyB (n : Nat) : ByteArray := keyL.getD n ByteArray.empty
def rowC (i : Nat) : Array Value := #[.string (keyB (5 * i)), .string (keyB (5 * i + 1)), .string (keyB (5 * i + 2)), .string (keyB (5 * i + 3)), .string (keyB (5 * i + 4))]
def matC : Array Value := #[.string ⟨#[99, 97, 112, 115]⟩, .string ⟨#[122]⟩, .string ⟨#[120]⟩, .string ⟨#[99]⟩, .string ⟨#[118]⟩, .string ⟨#[97]⟩, .string ⟨#[115]⟩, .string ⟨#[100]⟩, .string ⟨#[102]⟩, .string ⟨#[103]⟩, .string ⟨#[113]⟩, .string ⟨#[119]⟩, .string ⟨#[101]⟩, .string ⟨#[114]⟩, .string ⟨#[116]⟩, .string ⟨#[49]⟩, .string ⟨#[50]⟩, .string ⟨#[51]⟩, .string ⟨#[52]⟩, .string ⟨#[53]⟩, .string ⟨#[48]⟩, .string ⟨#[57]⟩, .string ⟨#[56]⟩, .string ⟨#[55]⟩, .string ⟨#[54]⟩, .string ⟨#[112]⟩, .string ⟨#[111]⟩, .string ⟨#[105]⟩, .string ⟨#[117]⟩, .string ⟨#[121]⟩, .string ⟨#[101, 110, 116, 101, 114]⟩, .string ⟨#[108]⟩, .string ⟨#[107]⟩, .string ⟨#[106]⟩, .string ⟨#[104]⟩, .string ⟨#[115, 112, 97, 99, 101]⟩, .string ⟨#[115, 121, 109]⟩, .string ⟨#[109]⟩, .string ⟨#[110]⟩, .string ⟨#[98]⟩]

def zeroC : Array Value := #[.string ⟨#[]⟩, .string ⟨#[]⟩, .string ⟨#[]⟩, .string ⟨#[]⟩, .string ⟨#[]⟩, .string ⟨#[]⟩, .string ⟨#[]⟩, .string ⟨#[]⟩, .string ⟨#[]⟩, .string ⟨#[]⟩, .string ⟨#[]⟩, .string ⟨#[]⟩, .string ⟨#[]⟩, .string ⟨#[]⟩, .string ⟨#[]⟩, .string ⟨#[]⟩, .string ⟨#[]⟩, .string ⟨#[]⟩, .string ⟨#[]⟩, .string ⟨#[]⟩, .string ⟨#[]⟩, .string ⟨#[]⟩, .string ⟨#[]⟩, .string ⟨#[]⟩, .string ⟨#[]⟩, .string ⟨#[]⟩, .string ⟨#[]⟩, .string ⟨#[]⟩, .string ⟨#[]⟩, .string ⟨#[]⟩, .string ⟨#[]⟩, .string ⟨#[]⟩, .string ⟨#[]⟩, .string ⟨#[]⟩, .string ⟨#[]⟩, .string ⟨#[]⟩, .string ⟨#[]⟩, .string ⟨#[]⟩, .string ⟨#[]⟩, .string ⟨#[]⟩]
theorem mat_at (w : World) (i : Nat) (h : i < 8) : (Instr.index 110 (.agg matC) (.int .i64 i)).run Try.prog w = .ok (.agg (rowC i)) w := by
  rcases (show i = 0 ∨ i = 1 ∨ i = 2 ∨ i = 3 ∨ i = 4 ∨ i = 5 ∨ i = 6 ∨ i = 7 by omega) with rfl | rfl | rfl | rfl | rfl | rfl | rfl | rfl <;> kernel_rfl
theorem row_at (w : World) (i k : Nat) (h : i < 8) (hk : k < 5) : (Instr.index 109 (.agg (rowC i)) (.int .i64 k)).run Try.prog w = .ok (.string (keyB (5 * i + k))) w := by
  rcases (show i = 0 ∨ i = 1 ∨ i = 2 ∨ i = 3 ∨ i = 4 ∨ i = 5 ∨ i = 6 ∨ i = 7 by omega) with rfl | rfl | rfl | rfl | rfl | rfl | rfl | rfl <;> rcases (show k = 0 ∨ k = 1 ∨ k = 2 ∨ k = 3 ∨ k = 4 by omega) with rfl | rfl | rfl | rfl | rfl <;> kernel_rfl

theorem matInfo : (Try.prog.info? 110).map (fun i => (i.zero, i.size)) = some (some (.agg zeroC), 40) := by kernel_rfl
theorem mat_build : ((((((((((((((((((((((((((((((((((((((((zeroC).setIfInBounds 0 (Value.string ⟨#[99, 97, 112, 115]⟩)).setIfInBounds 1 (Value.string ⟨#[122]⟩)).setIfInBounds 2 (Value.string ⟨#[120]⟩)).setIfInBounds 3 (Value.string ⟨#[99]⟩)).setIfInBounds 4 (Value.string ⟨#[118]⟩)).setIfInBounds 5 (Value.string ⟨#[97]⟩)).setIfInBounds 6 (Value.string ⟨#[115]⟩)).setIfInBounds 7 (Value.string ⟨#[100]⟩)).setIfInBounds 8 (Value.string ⟨#[102]⟩)).setIfInBounds 9 (Value.string ⟨#[103]⟩)).setIfInBounds 10 (Value.string ⟨#[113]⟩)).setIfInBounds 11 (Value.string ⟨#[119]⟩)).setIfInBounds 12 (Value.string ⟨#[101]⟩)).setIfInBounds 13 (Value.string ⟨#[114]⟩)).setIfInBounds 14 (Value.string ⟨#[116]⟩)).setIfInBounds 15 (Value.string ⟨#[49]⟩)).setIfInBounds 16 (Value.string ⟨#[50]⟩)).setIfInBounds 17 (Value.string ⟨#[51]⟩)).setIfInBounds 18 (Value.string ⟨#[52]⟩)).setIfInBounds 19 (Value.string ⟨#[53]⟩)).setIfInBounds 20 (Value.string ⟨#[48]⟩)).setIfInBounds 21 (Value.string ⟨#[57]⟩)).setIfInBounds 22 (Value.string ⟨#[56]⟩)).setIfInBounds 23 (Value.string ⟨#[55]⟩)).setIfInBounds 24 (Value.string ⟨#[54]⟩)).setIfInBounds 25 (Value.string ⟨#[112]⟩)).setIfInBounds 26 (Value.string ⟨#[111]⟩)).setIfInBounds 27 (Value.string ⟨#[105]⟩)).setIfInBounds 28 (Value.string ⟨#[117]⟩)).setIfInBounds 29 (Value.string ⟨#[121]⟩)).setIfInBounds 30 (Value.string ⟨#[101, 110, 116, 101, 114]⟩)).setIfInBounds 31 (Value.string ⟨#[108]⟩)).setIfInBounds 32 (Value.string ⟨#[107]⟩)).setIfInBounds 33 (Value.string ⟨#[106]⟩)).setIfInBounds 34 (Value.string ⟨#[104]⟩)).setIfInBounds 35 (Value.string ⟨#[115, 112, 97, 99, 101]⟩)).setIfInBounds 36 (Value.string ⟨#[115, 121, 109]⟩)).setIfInBounds 37 (Value.string ⟨#[109]⟩)).setIfInBounds 38 (Value.string ⟨#[110]⟩)).setIfInBounds 39 (Value.string ⟨#[98]⟩) = matC := by kernel_rfl
theorem zero_size : zeroC.size = 40 := by kernel_rfl
theorem mat_size : matC.size = 40 := by kernel_rfl
theorem mat_one : matC.all (·.oneCell') = true := by kernel_rfl

set_option maxRecDepth 100000 in
set_option maxHeartbeats 1000000 in
theorem matrix_any (w : World) :
    Calls Try.prog 75 #[] w fun e w' => e = .returned (.agg matC) ∧ Below w.heap.size w w' := by
  obtain ⟨hz, hi⟩ := zero_of_info matInfo
  go_enter Try.func75, Try.ntmps75
  go_upto_region 1 with fail
  have hst := run_storeCells_new (P := Try.prog) w 110 zeroC matC (by rw [hi, mat_size]) (by rw [zero_size, mat_size]) mat_one
  have hms := mat_size
  have hsz := zero_size
  have hB := mat_build
  go_wp2
  refine bodyPost_ret (results_cell_row rfl _ _ w.heap.size 110 matC (0, 0) _ rfl (heap_alloc_last w _) Try.underlying110 rfl (by rw [hi, mat_size])) rfl ⟨rfl, (Below.refl _ _).alloc (Nat.le_refl _) _⟩

def zeroR : Array Value := #[.string ⟨#[]⟩, .string ⟨#[]⟩, .string ⟨#[]⟩, .string ⟨#[]⟩, .string ⟨#[]⟩]
theorem rowInfo : (Try.prog.info? 109).map (fun i => (i.zero, i.size)) = some (some (.agg zeroR), 5) := by kernel_rfl
theorem zeroR_size : zeroR.size = 5 := rfl
theorem row_size (i : Nat) : (rowC i).size = 5 := rfl
theorem row_one (i : Nat) : (rowC i).all (·.oneCell') = true := by simp [rowC, Value.oneCell']
/-- no key ahead of the n-th has this name -/
def Fst (s : ByteArray) (n : Nat) : Prop := ∀ m, m < n → keyB m ≠ s
theorem Fst.step {s : ByteArray} {n : Nat} (h : Fst s n) (hn : keyB n ≠ s) : Fst s (n + 1) := fun m hm => by
  rcases Nat.lt_or_ge m n with h1 | h1
  · exact h m h1
  · obtain rfl : m = n := by omega
    exact hn
theorem bytes_ne {a b : ByteArray} (h : a ≠ b) : (a.toList == b.toList) = false := by
  rw [beq_eq_false_iff_ne]
  intro e
  apply h
  rw [ByteArray.toList_eq, ByteArray.toList_eq] at e
  cases a; cases b
  simp only [ByteArray.mk.injEq] at e ⊢
  exact Array.toList_inj.1 e

set_option maxRecDepth 100000 in
set_option maxHeartbeats 4000000 in
theorem find_any (s : ByteArray) (w : World) :
    Calls Try.prog 72 #[.string s] w fun e w' => ((∃ i k : Nat, i < 8 ∧ k < 5 ∧ keyB (5 * i + k) = s ∧ Fst s (5 * i + k) ∧ e = .returned (.tuple #[.int .i64 i, .int .i64 k, .bool true])) ∨ (Fst s 40 ∧ e = .returned (.tuple #[.int .i64 0, .int .i64 0, .bool false]))) ∧ Below w.heap.size w w' := by
  obtain ⟨hz, hi⟩ := zero_of_info rowInfo
  go_enter Try.func72, Try.ntmps72
  go_wp2_with fail
  refine (matrix_any _).mono ?_
  rintro e w1 ⟨rfl, hb1⟩
  go_wp2
  go_loopw [10] (fun x wr => ∃ i : Nat, (i : Int) ≤ 8 ∧ x = .int .i64 i ∧ Fst s (5 * i) ∧ Below w.heap.size w wr) (fun x _ => 8 - (intOf x).toNat)
  case atStart => exact ⟨0, by omega, rfl, fun m hm => by omega, hb1⟩
  case round =>
    clear hb1
    obtain ⟨i, hi8, rfl, hF, hbl⟩ := hrel
    have hsz := hbl.size
    by_cases hlt : (i : Int) < 8
    · have hm := fun w' => mat_at w' i (by omega)
      have hst := run_storeCells_new (P := Try.prog) wr 109 zeroR (rowC i) (by rw [hi, row_size]) (by rw [zeroR_size, row_size]) (row_one i)
      have hld := run_loadCellsFrom_new (P := Try.prog) wr 109 (rowC i) 5 (row_size i)
      have hrs := row_size i
      go_wp2
      have hfin := hbl.alloc hsz (.cells (rowC i) 109)
      go_loop [15] (fun x => ∃ k : Nat, k ≤ 5 ∧ x = .int .i64 k ∧ Fst s (5 * i + k)) (fun x => 5 - (intOf x).toNat)
      case atStart => exact ⟨0, by omega, rfl, hF⟩
      case round =>
        obtain ⟨k, hk, rfl, hFk⟩ := hrel
        by_cases hk5 : k < 5
        · have hrk : ∀ w', (Instr.index 109 (.agg #[(rowC i)[0]'(by rw [row_size]; omega), (rowC i)[1]'(by rw [row_size]; omega), (rowC i)[2]'(by rw [row_size]; omega), (rowC i)[3]'(by rw [row_size]; omega), (rowC i)[4]'(by rw [row_size]; omega)]) (.int .i64 k)).run Try.prog w' = .ok (.string (keyB (5 * i + k))) w' := fun w' => row_at w' i k (by omega) hk5
          by_cases heq : keyB (5 * i + k) = s
          · have hte : ((keyB (5 * i + k)).toList == s.toList) = true := by rw [heq]; simp
            obtain ⟨T, hT⟩ : ∃ T, keyB (5 * i + k) = T := ⟨_, rfl⟩
            have HE := Lib.hid (show keyB (5 * i + k) = s ∧ Fst s (5 * i + k) from ⟨heq, hFk⟩)
            rw [hT] at hrk hte
            clear heq hT hFk
            go_wp2
            refine bodyPost_ret (results_tmp3 rfl _ _ _) rfl ?_
            exact ⟨.inl ⟨i, by omega, k, hk5, HE.out.1, HE.out.2, rfl⟩, hfin⟩
          · have hte := bytes_ne heq
            have hFk2 := hFk.step heq
            have HF := Lib.hid hFk2
            clear heq hFk2
            generalize keyB (5 * i + k) = T at *
            go_wp2
            go_round
            case rel => exact ⟨k + 1, by omega, by go_num, HF.out⟩
            case measure => simp [intOf]; omega
        · obtain rfl : k = 5 := by omega
          go_wp2
          go_roundw
          case rel => exact ⟨i + 1, by omega, by go_num, by rw [show 5 * (i + 1) = 5 * i + 5 by omega]; exact hFk, hfin⟩
          case measure => simp [intOf]; omega
    · obtain rfl : i = 8 := by omega
      go_wp2
      refine bodyPost_ret (results_tmp3 rfl _ _ _) rfl ?_
      first | exact ⟨.inr rfl, hbl⟩ | exact ⟨.inr ⟨hF, rfl⟩, hbl⟩

end Go.Proofs.Ytfcnlgkaejkneaa
