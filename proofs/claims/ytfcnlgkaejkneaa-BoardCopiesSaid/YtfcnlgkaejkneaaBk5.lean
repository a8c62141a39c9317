/- Contracts of layer 10: what any rows read. -/
import Derived.Test.YtfcnlgkaejkneaaBk4
import Derived.Test.YtfcnlgkaejkneaaKeys5
namespace Go.Proofs.Ytfcnlgkaejkneaa
open Go.RowKit

set_option maxRecDepth 100000 in
set_option maxHeartbeats 4000000 in
theorem readK_any (g : Nat) (d : Nat → Int) (h : Int) (w : World) (h0 : 0 ≤ h) (h1 : h ≤ 255) (hc : ∀ j, j < 8 → w.cell? ⟨g, 65536 + j, none⟩ = some (.int .u8 (d j))) :
    Calls Try.prog 50 #[.pointer (some ⟨g, 65536, none⟩), .int .u8 h] w fun e w' => e = .returned (.int .u8 (readS d h 8)) ∧ w = w' := by
  have c0 : w.cell? ⟨g, 65536, none⟩ = some (.int .u8 (d 0)) := hc 0 (by omega)
  have c1 : w.cell? ⟨g, 65537, none⟩ = some (.int .u8 (d 1)) := hc 1 (by omega)
  have c2 : w.cell? ⟨g, 65538, none⟩ = some (.int .u8 (d 2)) := hc 2 (by omega)
  have c3 : w.cell? ⟨g, 65539, none⟩ = some (.int .u8 (d 3)) := hc 3 (by omega)
  have c4 : w.cell? ⟨g, 65540, none⟩ = some (.int .u8 (d 4)) := hc 4 (by omega)
  have c5 : w.cell? ⟨g, 65541, none⟩ = some (.int .u8 (d 5)) := hc 5 (by omega)
  have c6 : w.cell? ⟨g, 65542, none⟩ = some (.int .u8 (d 6)) := hc 6 (by omega)
  have c7 : w.cell? ⟨g, 65543, none⟩ = some (.int .u8 (d 7)) := hc 7 (by omega)
  clear hc
  have t0 : ∀ w' : World, (Instr.index 29 (.agg #[.int .u8 (d 0), .int .u8 (d 1), .int .u8 (d 2), .int .u8 (d 3), .int .u8 (d 4), .int .u8 (d 5), .int .u8 (d 6), .int .u8 (d 7)]) (.int .i64 0)).run Try.prog w' = .ok (.int .u8 (d 0)) w' := fun w' => tabD_at d w' 0 (by omega)
  have t1 : ∀ w' : World, (Instr.index 29 (.agg #[.int .u8 (d 0), .int .u8 (d 1), .int .u8 (d 2), .int .u8 (d 3), .int .u8 (d 4), .int .u8 (d 5), .int .u8 (d 6), .int .u8 (d 7)]) (.int .i64 1)).run Try.prog w' = .ok (.int .u8 (d 1)) w' := fun w' => tabD_at d w' 1 (by omega)
  have t2 : ∀ w' : World, (Instr.index 29 (.agg #[.int .u8 (d 0), .int .u8 (d 1), .int .u8 (d 2), .int .u8 (d 3), .int .u8 (d 4), .int .u8 (d 5), .int .u8 (d 6), .int .u8 (d 7)]) (.int .i64 2)).run Try.prog w' = .ok (.int .u8 (d 2)) w' := fun w' => tabD_at d w' 2 (by omega)
  have t3 : ∀ w' : World, (Instr.index 29 (.agg #[.int .u8 (d 0), .int .u8 (d 1), .int .u8 (d 2), .int .u8 (d 3), .int .u8 (d 4), .int .u8 (d 5), .int .u8 (d 6), .int .u8 (d 7)]) (.int .i64 3)).run Try.prog w' = .ok (.int .u8 (d 3)) w' := fun w' => tabD_at d w' 3 (by omega)
  have t4 : ∀ w' : World, (Instr.index 29 (.agg #[.int .u8 (d 0), .int .u8 (d 1), .int .u8 (d 2), .int .u8 (d 3), .int .u8 (d 4), .int .u8 (d 5), .int .u8 (d 6), .int .u8 (d 7)]) (.int .i64 4)).run Try.prog w' = .ok (.int .u8 (d 4)) w' := fun w' => tabD_at d w' 4 (by omega)
  have t5 : ∀ w' : World, (Instr.index 29 (.agg #[.int .u8 (d 0), .int .u8 (d 1), .int .u8 (d 2), .int .u8 (d 3), .int .u8 (d 4), .int .u8 (d 5), .int .u8 (d 6), .int .u8 (d 7)]) (.int .i64 5)).run Try.prog w' = .ok (.int .u8 (d 5)) w' := fun w' => tabD_at d w' 5 (by omega)
  have t6 : ∀ w' : World, (Instr.index 29 (.agg #[.int .u8 (d 0), .int .u8 (d 1), .int .u8 (d 2), .int .u8 (d 3), .int .u8 (d 4), .int .u8 (d 5), .int .u8 (d 6), .int .u8 (d 7)]) (.int .i64 6)).run Try.prog w' = .ok (.int .u8 (d 6)) w' := fun w' => tabD_at d w' 6 (by omega)
  have t7 : ∀ w' : World, (Instr.index 29 (.agg #[.int .u8 (d 0), .int .u8 (d 1), .int .u8 (d 2), .int .u8 (d 3), .int .u8 (d 4), .int .u8 (d 5), .int .u8 (d 6), .int .u8 (d 7)]) (.int .i64 7)).run Try.prog w' = .ok (.int .u8 (d 7)) w' := fun w' => tabD_at d w' 7 (by omega)
  go_enter Try.func50, Try.ntmps50
  go_wp2
  clear c0 c1 c2 c3 c4 c5 c6 c7
  go_loop [5, 14] (fun v i => ∃ j : Nat, j ≤ 8 ∧ i = .int .i64 j ∧ v = .int .u8 (readS d h j)) (fun _ i => 8 - (intOf i).toNat)
  case atStart => exact ⟨0, by omega, rfl, rfl⟩
  case round =>
    obtain ⟨j, hj, rfl, rfl⟩ := hrel
    by_cases h8 : j = 8
    · subst h8
      go_wp2
      go_ret
      exact ⟨rfl, rfl⟩
    · have hS : readS d h (j + 1) = if askH h j then bits .andNot .u8 (readS d h j) (d j) else readS d h j := rfl
      rcases (show j = 0 ∨ j = 1 ∨ j = 2 ∨ j = 3 ∨ j = 4 ∨ j = 5 ∨ j = 6 ∨ j = 7 by omega) with rfl | rfl | rfl | rfl | rfl | rfl | rfl | rfl
      all_goals
        cases hA : askH h _
        all_goals
          rw [hA] at hS
          have HS := Lib.hid hS
          clear hS
          unfold askH at hA
          simp only [show ((2 : Int) ^ 0) = 1 from rfl, show ((2 : Int) ^ 1) = 2 from rfl, show ((2 : Int) ^ 2) = 4 from rfl, show ((2 : Int) ^ 3) = 8 from rfl, show ((2 : Int) ^ 4) = 16 from rfl, show ((2 : Int) ^ 5) = 32 from rfl, show ((2 : Int) ^ 6) = 64 from rfl, show ((2 : Int) ^ 7) = 128 from rfl, Int.ediv_one] at hA
          go_wp2
          go_round
          case rel =>
            first
              | exact ⟨0 + 1, by omega, rfl, by rw [HS.out]; rfl⟩
              | exact ⟨1 + 1, by omega, rfl, by rw [HS.out]; rfl⟩
              | exact ⟨2 + 1, by omega, rfl, by rw [HS.out]; rfl⟩
              | exact ⟨3 + 1, by omega, rfl, by rw [HS.out]; rfl⟩
              | exact ⟨4 + 1, by omega, rfl, by rw [HS.out]; rfl⟩
              | exact ⟨5 + 1, by omega, rfl, by rw [HS.out]; rfl⟩
              | exact ⟨6 + 1, by omega, rfl, by rw [HS.out]; rfl⟩
              | exact ⟨7 + 1, by omega, rfl, by rw [HS.out]; rfl⟩
          case measure => first | (simp [intOf]; done) | (simp [intOf]; omega)

end Go.Proofs.Ytfcnlgkaejkneaa
