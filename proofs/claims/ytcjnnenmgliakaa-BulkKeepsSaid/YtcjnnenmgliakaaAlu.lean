/- The contracts of the program's layer 2 (alu): set, one, over, Add, Sub; and of the document's answer (squealref02): signed, mod, carry, Add, Sub. -/
import Derived.Test.YtcjnnenmgliakaaFlag
import Derived.Test.YtcjnnenmgliakaaP02
namespace Go.Proofs.Ytcjnnenmgliakaa
open Go.RowKit

theorem one_any (c : Bool) (w : World) : Calls Try.prog 56 #[.bool c] w fun e w' => e = .returned (.int .i64 (b2i c)) ∧ w = w' := by
  cases c
  all_goals
    go_enter Try.func56, Try.ntmps56
    go_wp2
    go_ret
    exact ⟨ret_int rfl, rfl⟩

theorem overA_any (n : Int) (w : World) : Calls Try.prog 58 #[.int .i64 n] w fun e w' => e = .returned (.bool (overS n)) ∧ w = w' := by
  by_cases h : n < -128
  · have H := Lib.hid (show overS n = true by unfold overS; rw [decide_eq_true h]; rfl)
    go_enter Try.func58, Try.ntmps58
    go_wp2
    go_ret
    exact ⟨ret_bool H.out.symm, rfl⟩
  · have H := Lib.hid (show overS n = decide (127 < n) by unfold overS; rw [decide_eq_false h]; rfl)
    have hb : decide (n < -128) = false := decide_eq_false h
    go_enter Try.func58, Try.ntmps58
    go_wp2
    go_ret
    exact ⟨ret_bool (by rw [H.out]), rfl⟩

/-- n bits of F, each with whether it is on, in one block -/
def BitRow (w : World) (g n : Nat) (F : Nat → Int) (O : Nat → Bool) : Prop := ∀ j, j < n → w.cell? ⟨g, j * 2, none⟩ = some (.int .u8 (F j)) ∧ w.cell? ⟨g, j * 2 + 1, none⟩ = some (.bool (O j))
set_option maxHeartbeats 1000000 in
theorem set_any (f : Int) (g n : Nat) (F : Nat → Int) (O : Nat → Bool) (w : World) (hn : n ≤ 3) (hg : g < w.heap.size) (hr : BitRow w g n F O) :
    Calls Try.prog 57 #[.int .u8 f, .slice (some ⟨g, 0, none⟩) n n] w fun e w' => e = .returned (.int .u8 (setN F O f n)) ∧ Below w.heap.size w w' := by
  have HR := Lib.hid hr
  clear hr
  go_enter Try.func57, Try.ntmps57
  go_wp2
  go_loopw [0, 9] (fun v i wr => ∃ j : Nat, j ≤ n ∧ v = .int .u8 (setN F O f j) ∧ i = .int .i64 j ∧ Below w.heap.size w wr) (fun _ i _ => n - (intOf i).toNat)
  case atStart => exact ⟨0, by omega, rfl, rfl, Below.refl _ _⟩
  case round =>
    obtain ⟨j, hj, rfl, rfl, hb⟩ := hrel
    by_cases hlt : j < n
    · have c0 := (hb.cell (p := ⟨g, j * 2, none⟩) hg).trans (HR.out j hlt).1
      have c1 := (hb.cell (p := ⟨g, j * 2 + 1, none⟩) hg).trans (HR.out j hlt).2
      go_wp2_with fail
      refine (with_any _ _ _ _).mono ?_
      rintro e w' ⟨rfl, rfl⟩
      go_wp2
      go_roundw
      case rel => exact ⟨j + 1, by omega, rfl, by go_num, hb.alloc hb.size _⟩
      case measure => simp [intOf]; omega
    · obtain rfl : j = n := by omega
      go_wp2
      go_ret
      exact ⟨ret_int rfl, hb⟩

/-- three of them, as a block of six cells -/
def sel3 {α : Type} (a b c : α) : Nat → α | 0 => a | 1 => b | _ => c
theorem bitRow3 {w : World} {g : Nat} {t : TypeId} {f0 f1 f2 : Int} {o0 o1 o2 : Bool} (h : w.heap[g]? = some (.cells #[.int .u8 f0, .bool o0, .int .u8 f1, .bool o1, .int .u8 f2, .bool o2] t (0, 0))) : BitRow w g 3 (sel3 f0 f1 f2) (sel3 o0 o1 o2) := by
  intro j hj
  rcases (show j = 0 ∨ j = 1 ∨ j = 2 by omega) with rfl | rfl | rfl <;> (constructor <;> (rw [cell_of_row w g _ _ t (0, 0) h]; rfl))
theorem set3_any (f f0 f1 f2 : Int) (o0 o1 o2 : Bool) (w : World) (t : TypeId) :
    Calls Try.prog 57 #[.int .u8 f, .slice (some ⟨w.heap.size, 0, none⟩) 3 3] (w.alloc (.cells #[.int .u8 f0, .bool o0, .int .u8 f1, .bool o1, .int .u8 f2, .bool o2] t)) fun e w' =>
      e = .returned (.int .u8 (withS (withS (withS f f0 o0) f1 o1) f2 o2)) ∧ Below w.heap.size w w' :=
  (set_any f w.heap.size 3 (sel3 f0 f1 f2) (sel3 o0 o1 o2) _ (by omega) (by simp) (bitRow3 (heap_alloc_new w _))).mono fun e w' ⟨he, hb⟩ =>
    ⟨he, ((Below.refl _ _).alloc (Nat.le_refl _) _).trans (hb.mono (by simp))⟩

theorem i8_bd {a : Int} (h0 : 0 ≤ a) (h1 : a ≤ 255) : -128 ≤ IntKind.i8.wrap a ∧ IntKind.i8.wrap a ≤ 127 := by rw [i8_wrap h0 h1]; exact sgn8_bd h0 h1

set_option maxHeartbeats 1000000 in
theorem subA_any (a b : Int) (c : Bool) (w : World) (a0 : 0 ≤ a) (a1 : a ≤ 255) (b0 : 0 ≤ b) (b1 : b ≤ 255) :
    Calls Try.prog 51 #[.int .u8 a, .int .u8 b, .bool c] w fun e w' => e = .returned (.tuple #[.int .u8 (subR a b c), .int .u8 (subF a b c)]) ∧ Below w.heap.size w w' := by
  have hi1 := i8_bd a0 a1
  have hi2 := i8_bd b0 b1
  have hc := b2i_bd c
  obtain ⟨m1, n1⟩ := bits_bd .and a0 a1 (show (0 : Int) ≤ 15 by omega) (by omega) (by simp)
  obtain ⟨m2, n2⟩ := bits_bd .and b0 b1 (show (0 : Int) ≤ 15 by omega) (by omega) (by simp)
  go_enter Try.func51, Try.ntmps51
  go_wp2_with fail
  refine (one_any _ _).mono ?_
  rintro e w' ⟨rfl, rfl⟩
  go_wp2_with fail
  refine (of_any _ _ (by omega) (by omega)).mono ?_
  rintro e w' ⟨rfl, rfl⟩
  go_wp2_with fail
  refine (one_any _ _).mono ?_
  rintro e w' ⟨rfl, rfl⟩
  go_wp2_with fail
  refine (one_any _ _).mono ?_
  rintro e w' ⟨rfl, rfl⟩
  go_wp2_with fail
  refine (overA_any _ _).mono ?_
  rintro e w' ⟨rfl, rfl⟩
  go_wp2_with fail
  refine (set3_any _ _ _ _ _ _ _ _ _).mono ?_
  rintro e w1 ⟨rfl, hb⟩
  go_wp2
  go_ret2
  exact ⟨ret_two rfl (sub_fin a0 a1 b0 b1), hb⟩


/-! The document's answer. -/
theorem signed2_any (a : Int) (w : World) (a0 : 0 ≤ a) (a1 : a ≤ 255) : Calls Try.prog 60 #[.int .u8 a] w fun e w' => e = .returned (.int .i64 (sgn8 a)) ∧ w = w' := by
  by_cases h : a < 128
  · have H := Lib.hid (show sgn8 a = a by unfold sgn8; rw [if_pos h])
    go_enter Try.func60, Try.ntmps60
    go_wp2
    go_ret
    exact ⟨ret_int H.out.symm, rfl⟩
  · have H := Lib.hid (show sgn8 a = a - 256 by unfold sgn8; rw [if_neg h])
    go_enter Try.func60, Try.ntmps60
    go_wp2
    go_ret
    exact ⟨ret_int H.out.symm, rfl⟩
theorem carry2_any (c : Bool) (w : World) : Calls Try.prog 59 #[.bool c] w fun e w' => e = .returned (.int .i64 (b2i c)) ∧ w = w' := by
  cases c
  all_goals
    go_enter Try.func59, Try.ntmps59
    go_wp2
    go_ret
    exact ⟨ret_int rfl, rfl⟩
theorem mod2_any (n : Int) (w : World) (h0 : -512 ≤ n) (h1 : n ≤ 100000) : Calls Try.prog 61 #[.int .i64 n] w fun e w' => e = .returned (.int .u8 (n % 256)) ∧ w = w' := by
  go_enter Try.func61, Try.ntmps61
  go_wp2
  go_ret
  exact ⟨ret_int (by omega), rfl⟩

set_option maxHeartbeats 1000000 in
theorem sub_ref (a b : Int) (c : Bool) (w : World) (a0 : 0 ≤ a) (a1 : a ≤ 255) (b0 : 0 ≤ b) (b1 : b ≤ 255) :
    Calls Try.prog 52 #[.int .u8 a, .int .u8 b, .bool c] w fun e w' => e = .returned (.tuple #[.int .u8 (subR a b c), .int .u8 (subF a b c)]) ∧ Below w.heap.size w w' := by
  have hc := b2i_bd c
  have s1 := sgn8_bd a0 a1
  have s2 := sgn8_bd b0 b1
  go_enter Try.func52, Try.ntmps52
  go_wp2_with fail
  refine (carry2_any _ _).mono ?_
  rintro e w' ⟨rfl, rfl⟩
  go_wp2_with fail
  refine (signed2_any _ _ a0 a1).mono ?_
  rintro e w' ⟨rfl, rfl⟩
  go_wp2_with fail
  refine (signed2_any _ _ b0 b1).mono ?_
  rintro e w' ⟨rfl, rfl⟩
  go_wp2_with fail
  refine (carry2_any _ _).mono ?_
  rintro e w' ⟨rfl, rfl⟩
  go_wp2_with fail
  refine (mod2_any _ _ (by omega) (by omega)).mono ?_
  rintro e w' ⟨rfl, rfl⟩
  go_wp2_with fail
  refine (bit_any _ _ _ (by omega) (by omega) (by omega) (by omega)).mono ?_
  rintro e w1 ⟨rfl, hb1⟩
  go_wp2_with fail
  refine (bit_any _ _ _ (by omega) (by omega) (by omega) (by omega)).mono ?_
  rintro e w2 ⟨rfl, hb2⟩
  go_wp2_with fail
  refine (carry2_any _ _).mono ?_
  rintro e w' ⟨rfl, rfl⟩
  go_wp2_with fail
  refine (bit_any _ _ _ (by omega) (by omega) (by omega) (by omega)).mono ?_
  rintro e w3 ⟨rfl, hb3⟩
  go_wp2_with fail
  all_goals
    refine (flags_any _ _ _ _ _ _ _ _ _).mono ?_
    rintro e w4 ⟨rfl, hb4⟩
    go_wp2
    go_ret2
    exact ⟨ret_two rfl (by first | rfl | (unfold subF overS; rw [decide_eq_true (show sgn8 a - sgn8 b - b2i c < -128 by assumption)]; rfl)), bthen (bthen (bthen hb1 hb2) hb3) hb4⟩


end Go.Proofs.Ytcjnnenmgliakaa
