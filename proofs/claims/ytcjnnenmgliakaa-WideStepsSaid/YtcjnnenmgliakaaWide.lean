/- The contracts of the program's layer 3 (wide). -/
import Derived.Test.YtcjnnenmgliakaaFlag
import Derived.Test.YtcjnnenmgliakaaP03
namespace Go.Proofs.Ytcjnnenmgliakaa
open Go.RowKit

theorem hi_any (a : Int) (w : World) (h0 : 0 ≤ a) (h1 : a ≤ 65535) : Calls Try.prog 14 #[.int .u16 a] w fun e w' => e = .returned (.int .u8 (a / 256)) ∧ w = w' := by
  go_enter Try.func14, Try.ntmps14
  go_wp2
  go_ret
  exact ⟨ret_int rfl, rfl⟩
theorem lo_any (a : Int) (w : World) (h0 : 0 ≤ a) (h1 : a ≤ 65535) : Calls Try.prog 15 #[.int .u16 a] w fun e w' => e = .returned (.int .u8 (a % 256)) ∧ w = w' := by
  go_enter Try.func15, Try.ntmps15
  go_wp2
  go_ret
  exact ⟨ret_int rfl, rfl⟩
theorem ofW_any (a b : Int) (w : World) (h0 : 0 ≤ a) (h1 : a ≤ 255) (b0 : 0 ≤ b) (b1 : b ≤ 255) : Calls Try.prog 16 #[.int .u8 a, .int .u8 b] w fun e w' => e = .returned (.int .u16 (256 * a + b)) ∧ w = w' := by
  go_enter Try.func16, Try.ntmps16
  go_wp2
  go_ret
  exact ⟨ret_int (or_hi_lo h0 h1 b0 b1), rfl⟩
theorem plusW_any (a d : Int) (w : World) (h0 : 0 ≤ a) (h1 : a ≤ 65535) (b0 : 0 ≤ d) (b1 : d ≤ 255) : Calls Try.prog 12 #[.int .u16 a, .int .u8 d] w fun e w' => e = .returned (.int .u16 ((a + sgn8 d) % 65536)) ∧ w = w' := by
  have e1 := i8_wrap b0 b1
  have s1 := sgn8_bd b0 b1
  go_enter Try.func12, Try.ntmps12
  go_wp2
  go_ret
  refine ⟨ret_int ?_, rfl⟩
  simp only [IntKind.wrap_u16]
  omega
theorem carryW_any (f : Int) (w : World) (h0 : 0 ≤ f) (h1 : f ≤ 255) : Calls Try.prog 45 #[.int .u8 f] w fun e w' => e = .returned (.int .i64 (b2i (bitH f 7))) ∧ w = w' := by
  have e1 := and1_u8 h0 h1
  have hb := b2i_bd (bitH f 7)
  go_enter Try.func45, Try.ntmps45
  go_wp2
  go_ret
  exact ⟨ret_int rfl, rfl⟩
theorem overW_any (n : Int) (w : World) : Calls Try.prog 47 #[.int .i64 n] w fun e w' => e = .returned (.bool (over16 n)) ∧ w = w' := by
  by_cases h : n < -32768
  · have H := Lib.hid (show over16 n = true by unfold over16; rw [decide_eq_true h]; rfl)
    go_enter Try.func47, Try.ntmps47
    go_wp2
    go_ret
    exact ⟨ret_bool H.out.symm, rfl⟩
  · have H := Lib.hid (show over16 n = decide (32767 < n) by unfold over16; rw [decide_eq_false h]; rfl)
    have hb : decide (n < -32768) = false := decide_eq_false h
    go_enter Try.func47, Try.ntmps47
    go_wp2
    go_ret
    exact ⟨ret_bool (by rw [H.out]), rfl⟩
theorem plus3_any (a b : Int) (c : Bool) (w : World) (a0 : 0 ≤ a) (a1 : a ≤ 65535) (b0 : 0 ≤ b) (b1 : b ≤ 65535) :
    Calls Try.prog 43 #[.int .u16 a, .int .u16 b, .int .i64 (b2i c)] w fun e w' =>
      e = .returned (.tuple #[.int .u16 (wR (wAddN a b c)), .agg #[.bool (wAddH a b c), .bool (wAddV a b c), .bool (decide (65535 < wAddN a b c))]]) ∧ Below w.heap.size w w' := by
  have e1 := i16_wrap a0 a1
  have e2 := i16_wrap b0 b1
  have s1 := sgn16_bd a0 a1
  have s2 := sgn16_bd b0 b1
  have hc := b2i_bd c
  have m1 := and4095 a0 a1
  have m2 := and4095 b0 b1
  go_enter Try.func43, Try.ntmps43
  go_wp2_with fail
  refine (overW_any _ _).mono ?_
  rintro e w' ⟨rfl, rfl⟩
  go_wp2
  go_returns
  refine ⟨?_, (Below.refl _ _).alloc (Nat.le_refl _) _⟩
  rw [IntKind.wrap_u16]
  rfl
set_option maxHeartbeats 1000000 in
theorem flagsW_any (a b c : Bool) (w : World) :
    Calls Try.prog 44 #[.agg #[.bool a, .bool b, .bool c]] w fun e w' => e = .returned (.int .u8 (toldF a b c)) ∧ Below w.heap.size w w' := by
  cases a
  all_goals cases b
  all_goals cases c
  all_goals
    go_enter Try.func44, Try.ntmps44
    go_wp2
    go_ret
    exact ⟨ret_int (by decide +kernel), (Below.refl _ _).alloc (Nat.le_refl _) _⟩
theorem all_any (a : Int) (w : World) (h0 : 0 ≤ a) (h1 : a ≤ 65535) : Calls Try.prog 46 #[.int .u16 a] w fun e w' => e = .returned (.int .u8 (wF a false false false false)) ∧ w = w' := by
  go_enter Try.func46, Try.ntmps46
  go_wp2_with fail
  refine (hi_any _ _ h0 h1).mono ?_
  rintro e w' ⟨rfl, rfl⟩
  go_wp2_with fail
  refine (with_any _ _ _ _).mono ?_
  rintro e w' ⟨rfl, rfl⟩
  go_wp2
  go_ret
  exact ⟨ret_int (all_fin h0 h1), rfl⟩

set_option maxHeartbeats 1000000 in
theorem addW_any (a b f : Int) (w : World) (a0 : 0 ≤ a) (a1 : a ≤ 65535) (b0 : 0 ≤ b) (b1 : b ≤ 65535) (f0 : 0 ≤ f) (f1 : f ≤ 255) :
    Calls Try.prog 25 #[.int .u16 a, .int .u16 b, .int .u8 f] w fun e w' => e = .returned (.tuple #[.int .u16 (wR (wAddN a b false)), .int .u8 (wAddF a b f)]) ∧ Below w.heap.size w w' := by
  have F0 := Lib.hid f0
  have F1 := Lib.hid f1
  clear f0 f1
  go_enter Try.func25, Try.ntmps25
  go_wp2_with fail
  refine (plus3_any a b false _ a0 a1 b0 b1).mono ?_
  rintro e w1 ⟨rfl, hb1⟩
  obtain ⟨r0, r1⟩ := wR_bd (wAddN a b false)
  go_wp2_with fail
  go_region_with (first | (go_at_call 14; refine (hi_any _ _ r0 r1).mono ?_; rintro e w' ⟨rfl, rfl⟩) | (go_at_call 44; refine (flagsW_any _ _ _ _).mono ?_; rintro e w2 ⟨rfl, hb2⟩))
  all_goals
    go_wp2
    go_ret2
    exact ⟨ret_two rfl (wadd_fin F0.out F1.out r0 r1 _ _ _), bthen (hb1.alloc hb1.size _).drew hb2⟩

set_option maxHeartbeats 1000000 in
theorem adcW_any (a b f : Int) (w : World) (a0 : 0 ≤ a) (a1 : a ≤ 65535) (b0 : 0 ≤ b) (b1 : b ≤ 65535) (f0 : 0 ≤ f) (f1 : f ≤ 255) :
    Calls Try.prog 26 #[.int .u16 a, .int .u16 b, .int .u8 f] w fun e w' => e = .returned (.tuple #[.int .u16 (wR (wAddN a b (bitH f 7))), .int .u8 (wAdcF a b f)]) ∧ Below w.heap.size w w' := by
  go_enter Try.func26, Try.ntmps26
  go_wp2_with fail
  refine (carryW_any _ _ f0 f1).mono ?_
  rintro e w' ⟨rfl, rfl⟩
  go_wp2_with fail
  refine (plus3_any a b (bitH f 7) _ a0 a1 b0 b1).mono ?_
  rintro e w1 ⟨rfl, hb1⟩
  obtain ⟨r0, r1⟩ := wR_bd (wAddN a b (bitH f 7))
  go_wp2_with fail
  go_region_with (first | (go_at_call 46; refine (all_any _ _ r0 r1).mono ?_; rintro e w' ⟨rfl, rfl⟩) | (go_at_call 44; refine (flagsW_any _ _ _ _).mono ?_; rintro e w2 ⟨rfl, hb2⟩))
  all_goals
    go_wp2
    go_ret2
    exact ⟨ret_two rfl (adc_fin _ _ _ _), bthen (hb1.alloc hb1.size _).drew hb2⟩

set_option maxHeartbeats 1000000 in
theorem sbcW_any (a b f : Int) (w : World) (a0 : 0 ≤ a) (a1 : a ≤ 65535) (b0 : 0 ≤ b) (b1 : b ≤ 65535) (f0 : 0 ≤ f) (f1 : f ≤ 255) :
    Calls Try.prog 27 #[.int .u16 a, .int .u16 b, .int .u8 f] w fun e w' => e = .returned (.tuple #[.int .u16 (wR (wSubN a b (bitH f 7))), .int .u8 (wSbcF a b f)]) ∧ Below w.heap.size w w' := by
  have e1 := i16_wrap a0 a1
  have e2 := i16_wrap b0 b1
  have s1 := sgn16_bd a0 a1
  have s2 := sgn16_bd b0 b1
  have hc := b2i_bd (bitH f 7)
  have m1 := and4095 a0 a1
  have m2 := and4095 b0 b1
  have hw : IntKind.u16.wrap (a - b - b2i (bitH f 7)) = wR (wSubN a b (bitH f 7)) := IntKind.wrap_u16 _
  obtain ⟨r0, r1⟩ := wR_bd (wSubN a b (bitH f 7))
  go_enter Try.func27, Try.ntmps27
  go_wp2_with fail
  refine (carryW_any _ _ f0 f1).mono ?_
  rintro e w' ⟨rfl, rfl⟩
  go_wp2_with fail
  refine (overW_any _ _).mono ?_
  rintro e w' ⟨rfl, rfl⟩
  go_wp2_with fail
  go_region_with (first | (go_at_call 46; refine (all_any _ _ r0 r1).mono ?_; rintro e w' ⟨rfl, rfl⟩) | (go_at_call 44; refine (flagsW_any _ _ _ _).mono ?_; rintro e w2 ⟨rfl, hb2⟩))
  all_goals
    go_wp2
    go_ret2
    exact ⟨ret_two rfl (sbc_fin _ _ _ _), bthen ((Below.refl _ _).alloc (Nat.le_refl _) _).drew hb2⟩

end Go.Proofs.Ytcjnnenmgliakaa
