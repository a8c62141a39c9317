/- The contracts of the program's layer 1 (flag): With, Has, Of, Even, OfP. -/
import Derived.Test.YtfollcgedcjgoaaR01
namespace Go.Proofs.Ytfollcgedcjgoaa
open Go.RowKit

theorem with_any (f b : Int) (on : Bool) (w : World) :
    Calls Try.prog 29 #[.int .u8 f, .int .u8 b, .bool on] w fun e w' => e = .returned (.int .u8 (withS f b on)) ∧ w = w' := by
  cases on
  all_goals
    go_enter Try.func29, Try.ntmps29
    go_wp2
    go_ret
    exact ⟨ret_int rfl, rfl⟩


theorem of_prog (f : Int) (w : World) :
    Calls Try.prog 31 #[.int .u8 f] w fun e w' => e = .returned (.int .u8 (ofS f)) ∧ w = w' := by
  by_cases h : (f == 0) = true
  · go_enter Try.func31, Try.ntmps31
    go_wp2
    go_ret
    exact ⟨ret_int (by unfold ofS; rw [if_pos h]), rfl⟩
  · have h' : (f == 0) = false := by simpa using h
    have H := Lib.hid h
    clear h
    go_enter Try.func31, Try.ntmps31
    go_wp2
    go_ret
    exact ⟨ret_int (by unfold ofS; rw [if_neg H.out]), rfl⟩
theorem of_any (b : Int) (w : World) (h0 : 0 ≤ b) (h1 : b ≤ 255) :
    Calls Try.prog 31 #[.int .u8 b] w fun e w' => e = .returned (.int .u8 (ofR b)) ∧ w = w' := by
  rw [← ofS_eq h0 h1]
  exact of_prog b w

set_option maxRecDepth 100000 in
theorem ones_any (n : Nat) (w : World) (h1 : n < 256) :
    Calls Try.prog 33 #[.int .u8 (n : Int)] w fun e w' => e = .returned (.int .i64 (pop n)) ∧ w = w' := by
  go_enter Try.func33, Try.ntmps33
  go_wp2
  go_ret
  exact ⟨ret_int (pop_tab' n h1), rfl⟩
theorem evenP_any (b : Int) (w : World) (h0 : 0 ≤ b) (h1 : b ≤ 255) :
    Calls Try.prog 32 #[.int .u8 b] w fun e w' => e = .returned (.bool (evenR b)) ∧ w = w' := by
  obtain ⟨n, rfl⟩ := Int.eq_ofNat_of_zero_le h0
  have hp := pop_bd n
  have h2 : n < 256 := by omega
  go_enter Try.func32, Try.ntmps32
  go_wp2_with fail
  refine (ones_any n _ h2).mono ?_
  rintro e w' ⟨rfl, rfl⟩
  go_wp2
  go_ret
  exact ⟨ret_bool (pop_even n h2), rfl⟩

theorem ofP_any (b : Int) (w : World) (h0 : 0 ≤ b) (h1 : b ≤ 255) :
    Calls Try.prog 21 #[.int .u8 b] w fun e w' => e = .returned (.int .u8 (ofPR b)) ∧ w = w' := by
  rw [← ofPS_eq h0 h1]
  go_enter Try.func21, Try.ntmps21
  go_wp2_with fail
  refine (of_prog _ _).mono ?_
  rintro e w' ⟨rfl, rfl⟩
  go_wp2_with fail
  refine (evenP_any _ _ h0 h1).mono ?_
  rintro e w' ⟨rfl, rfl⟩
  go_wp2_with fail
  refine (with_any _ _ _ _).mono ?_
  rintro e w' ⟨rfl, rfl⟩
  go_wp2
  go_ret
  exact ⟨ret_int rfl, rfl⟩

end Go.Proofs.Ytfollcgedcjgoaa
