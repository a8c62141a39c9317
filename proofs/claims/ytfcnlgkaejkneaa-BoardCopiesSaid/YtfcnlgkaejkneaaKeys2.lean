/- Contracts of layer 10: a keyboard that isn't there; the chapter's example. -/
import Derived.Test.YtfcnlgkaejkneaaKeys
namespace Go.Proofs.Ytfcnlgkaejkneaa
open Go.RowKit

theorem put_nil (s : ByteArray) (on : Bool) (w : World) :
    Calls Try.prog 62 #[.pointer none, .string s, .bool on] w fun e w' => e = .returned (.int .i64 1) ∧ w = w' := by
  go_enter Try.func62, Try.ntmps62
  go_wp2
  go_ret
  exact ⟨rfl, rfl⟩
theorem press_nil (s : ByteArray) (w : World) :
    Calls Try.prog 44 #[.pointer none, .string s] w fun e w' => e = .returned (.int .i64 1) ∧ w = w' := by
  go_enter Try.func44, Try.ntmps44
  go_wp2_with fail
  refine (put_nil _ _ _).mono ?_
  rintro e w' ⟨rfl, rfl⟩
  go_wp2
  go_ret
  exact ⟨rfl, rfl⟩
theorem read_nil (h : Int) (w : World) :
    Calls Try.prog 50 #[.pointer none, .int .u8 h] w fun e w' => e = .returned (.int .u8 31) ∧ w = w' := by
  go_enter Try.func50, Try.ntmps50
  go_wp2
  go_ret
  exact ⟨rfl, rfl⟩
def spaceB : ByteArray := ⟨#[115, 112, 97, 99, 101]⟩
theorem space_is : keyB 35 = spaceB := rfl
theorem space_not : ∀ n : Fin 35, (keyB n.val).data ≠ spaceB.data := by decide +kernel
theorem find_space (w : World) :
    Calls Try.prog 72 #[.string spaceB] w fun e w' => e = .returned (.tuple #[.int .i64 7, .int .i64 0, .bool true]) ∧ Below w.heap.size w w' := by
  refine (find_any spaceB w).mono ?_
  rintro e w' ⟨h, hb⟩
  refine ⟨?_, hb⟩
  rcases h with ⟨i, k, hi, hk, he, hF, rfl⟩ | ⟨hF, _⟩
  · have h1 : ¬ 35 < 5 * i + k := fun h => hF 35 h space_is
    have h2 : ¬ 5 * i + k < 35 := fun h => space_not ⟨5 * i + k, h⟩ (by simp only [he])
    obtain rfl : i = 7 := by omega
    obtain rfl : k = 0 := by omega
    rfl
  · exact absurd space_is (hF 35 (by omega))

set_option maxHeartbeats 2000000 in
theorem put_space (g : Nat) (w : World) (hg : g < w.heap.size) (h7 : w.cell? ⟨g, 7, none⟩ = some (.int .u8 0)) (hf : w.frozen? ⟨g, 7, none⟩ = false) :
    Calls Try.prog 62 #[.pointer (some ⟨g, 0, none⟩), .string spaceB, .bool true] w fun e w' => e = .returned (.int .i64 0) ∧ ∃ w1, Below w.heap.size w w1 ∧ w' = ((w1.setCell ⟨g, 7, none⟩ (.int .u8 0)).setCell ⟨g, 7, none⟩ (.int .u8 1)).drew.drew := by
  go_enter Try.func62, Try.ntmps62
  go_wp2_with fail
  refine (find_space _).mono ?_
  rintro e w1 ⟨rfl, hb1⟩
  have k7 : w1.cell? ⟨g, 7, none⟩ = some (.int .u8 0) := (hb1.cell hg).trans h7
  have kf : w1.frozen? ⟨g, 7, none⟩ = false := (hb1.frozen hg).trans hf
  go_wp2_with (first | go_region | fail)
  go_ret
  refine ⟨rfl, w1, hb1, ?_⟩
  rw [show bits .andNot .u8 0 1 = 0 by decide +kernel, show bits .or .u8 0 1 = 1 by decide +kernel]
theorem press_space (g : Nat) (w : World) (hg : g < w.heap.size) (h7 : w.cell? ⟨g, 7, none⟩ = some (.int .u8 0)) (hf : w.frozen? ⟨g, 7, none⟩ = false) :
    Calls Try.prog 44 #[.pointer (some ⟨g, 0, none⟩), .string spaceB] w fun e w' => e = .returned (.int .i64 0) ∧ ∃ w1, Below w.heap.size w w1 ∧ w' = ((w1.setCell ⟨g, 7, none⟩ (.int .u8 0)).setCell ⟨g, 7, none⟩ (.int .u8 1)).drew.drew := by
  go_enter Try.func44, Try.ntmps44
  go_wp2_with fail
  refine (put_space g _ hg h7 hf).mono ?_
  rintro e w' ⟨rfl, w1, hb1, rfl⟩
  go_wp2
  go_ret
  exact ⟨rfl, w1, hb1, rfl⟩

theorem tab8_at (w : World) (j v : Int) (h : (j = 0 ∧ v = 0) ∨ (j = 1 ∧ v = 0) ∨ (j = 2 ∧ v = 0) ∨ (j = 3 ∧ v = 0) ∨ (j = 4 ∧ v = 0) ∨ (j = 5 ∧ v = 0) ∨ (j = 6 ∧ v = 0) ∨ (j = 7 ∧ v = 1)) : (Instr.index 29 (.agg #[.int .u8 0, .int .u8 0, .int .u8 0, .int .u8 0, .int .u8 0, .int .u8 0, .int .u8 0, .int .u8 1]) (.int .i64 j)).run Try.prog w = .ok (.int .u8 v) w := by
  rcases h with ⟨rfl, rfl⟩ | ⟨rfl, rfl⟩ | ⟨rfl, rfl⟩ | ⟨rfl, rfl⟩ | ⟨rfl, rfl⟩ | ⟨rfl, rfl⟩ | ⟨rfl, rfl⟩ | ⟨rfl, rfl⟩ <;> kernel_rfl
theorem ands : bits .and .u8 127 1 = 1 ∧ bits .and .u8 63 1 = 1 ∧ bits .and .u8 31 1 = 1 ∧ bits .and .u8 15 1 = 1 ∧ bits .and .u8 7 1 = 1 ∧ bits .and .u8 3 1 = 1 ∧ bits .and .u8 1 1 = 1 ∧ bits .and .u8 0 1 = 0 ∧ bits .and .u8 254 1 = 0 ∧ bits .andNot .u8 31 0 = 31 ∧ bits .andNot .u8 31 1 = 30 := by decide +kernel

set_option maxRecDepth 100000 in
set_option maxHeartbeats 4000000 in
theorem read_two (g : Nat) (w : World) (hc : ∀ j, j < 8 → w.cell? ⟨g, j, none⟩ = some (.int .u8 (if j = 7 then 1 else 0))) (h r : Int) (hh : (h = 127 ∧ r = 30) ∨ (h = 254 ∧ r = 31)) :
    Calls Try.prog 50 #[.pointer (some ⟨g, 0, none⟩), .int .u8 h] w fun e w' => e = .returned (.int .u8 r) ∧ w = w' := by
  obtain ⟨a1, a2, a3, a4, a5, a6, a7, a8, a9, a10, a11⟩ := ands
  have c0 : w.cell? ⟨g, 0, none⟩ = some (.int .u8 0) := hc 0 (by omega)
  have c1 : w.cell? ⟨g, 1, none⟩ = some (.int .u8 0) := hc 1 (by omega)
  have c2 : w.cell? ⟨g, 2, none⟩ = some (.int .u8 0) := hc 2 (by omega)
  have c3 : w.cell? ⟨g, 3, none⟩ = some (.int .u8 0) := hc 3 (by omega)
  have c4 : w.cell? ⟨g, 4, none⟩ = some (.int .u8 0) := hc 4 (by omega)
  have c5 : w.cell? ⟨g, 5, none⟩ = some (.int .u8 0) := hc 5 (by omega)
  have c6 : w.cell? ⟨g, 6, none⟩ = some (.int .u8 0) := hc 6 (by omega)
  have c7 : w.cell? ⟨g, 7, none⟩ = some (.int .u8 1) := hc 7 (by omega)
  clear hc
  rcases hh with ⟨rfl, rfl⟩ | ⟨rfl, rfl⟩
  all_goals
    go_enter Try.func50, Try.ntmps50
    go_wp2
    clear c0 c1 c2 c3 c4 c5 c6 c7
    have t0 := fun w' => tab8_at w' 0 0 (by omega)
    have t1 := fun w' => tab8_at w' 1 0 (by omega)
    have t2 := fun w' => tab8_at w' 2 0 (by omega)
    have t3 := fun w' => tab8_at w' 3 0 (by omega)
    have t4 := fun w' => tab8_at w' 4 0 (by omega)
    have t5 := fun w' => tab8_at w' 5 0 (by omega)
    have t6 := fun w' => tab8_at w' 6 0 (by omega)
    have t7 := fun w' => tab8_at w' 7 1 (by omega)
  · go_loop [5, 14] (fun v i => ∃ j : Nat, j ≤ 8 ∧ i = .int .i64 j ∧ v = .int .u8 (if j = 8 then 30 else 31)) (fun _ i => 8 - (intOf i).toNat)
    case atStart => exact ⟨0, by omega, rfl, rfl⟩
    case round =>
      obtain ⟨j, hj, rfl, rfl⟩ := hrel
      rcases (show j = 0 ∨ j = 1 ∨ j = 2 ∨ j = 3 ∨ j = 4 ∨ j = 5 ∨ j = 6 ∨ j = 7 ∨ j = 8 by omega) with rfl | rfl | rfl | rfl | rfl | rfl | rfl | rfl | rfl
      case inr.inr.inr.inr.inr.inr.inr.inr =>
        go_wp2
        go_ret
        exact ⟨rfl, rfl⟩
      all_goals
        go_wp2
        go_round
        case rel =>
          first
            | exact ⟨1, by omega, rfl, rfl⟩
            | exact ⟨2, by omega, rfl, rfl⟩
            | exact ⟨3, by omega, rfl, rfl⟩
            | exact ⟨4, by omega, rfl, rfl⟩
            | exact ⟨5, by omega, rfl, rfl⟩
            | exact ⟨6, by omega, rfl, rfl⟩
            | exact ⟨7, by omega, rfl, rfl⟩
            | exact ⟨8, by omega, rfl, rfl⟩
        case measure => first | (simp [intOf]; done) | (simp [intOf]; omega)
  · go_loop [5, 14] (fun v i => ∃ j : Nat, j ≤ 8 ∧ i = .int .i64 j ∧ v = .int .u8 (if j = 9 then 30 else 31)) (fun _ i => 8 - (intOf i).toNat)
    case atStart => exact ⟨0, by omega, rfl, rfl⟩
    case round =>
      obtain ⟨j, hj, rfl, rfl⟩ := hrel
      rcases (show j = 0 ∨ j = 1 ∨ j = 2 ∨ j = 3 ∨ j = 4 ∨ j = 5 ∨ j = 6 ∨ j = 7 ∨ j = 8 by omega) with rfl | rfl | rfl | rfl | rfl | rfl | rfl | rfl | rfl
      case inr.inr.inr.inr.inr.inr.inr.inr =>
        go_wp2
        go_ret
        exact ⟨rfl, rfl⟩
      all_goals
        go_wp2
        go_round
        case rel =>
          first
            | exact ⟨1, by omega, rfl, rfl⟩
            | exact ⟨2, by omega, rfl, rfl⟩
            | exact ⟨3, by omega, rfl, rfl⟩
            | exact ⟨4, by omega, rfl, rfl⟩
            | exact ⟨5, by omega, rfl, rfl⟩
            | exact ⟨6, by omega, rfl, rfl⟩
            | exact ⟨7, by omega, rfl, rfl⟩
            | exact ⟨8, by omega, rfl, rfl⟩
        case measure => first | (simp [intOf]; done) | (simp [intOf]; omega)

end Go.Proofs.Ytfcnlgkaejkneaa
