/- The contracts of the document's answer for layer 3 (squealref03): signed, bit, Sum, Add, Long, Plus. -/
import Derived.Test.YtcjnnenmgliakaaR01
import Derived.Test.YtcjnnenmgliakaaP03
namespace Go.Proofs.Ytcjnnenmgliakaa
open Go.RowKit

theorem signed3_any (a : Int) (w : World) (a0 : 0 ≤ a) (a1 : a ≤ 65535) : Calls Try.prog 55 #[.int .u16 a] w fun e w' => e = .returned (.int .i64 (sgn16 a)) ∧ w = w' := by
  by_cases h : a < 32768
  · have H := Lib.hid (show sgn16 a = a by unfold sgn16; rw [if_pos h])
    go_enter Try.func55, Try.ntmps55
    go_wp2
    go_ret
    exact ⟨ret_int H.out.symm, rfl⟩
  · have H := Lib.hid (show sgn16 a = a - 65536 by unfold sgn16; rw [if_neg h])
    go_enter Try.func55, Try.ntmps55
    go_wp2
    go_ret
    exact ⟨ret_int H.out.symm, rfl⟩

theorem plusR_any (a d : Int) (w : World) (h0 : 0 ≤ a) (h1 : a ≤ 65535) (b0 : 0 ≤ d) (b1 : d ≤ 255) : Calls Try.prog 17 #[.int .u16 a, .int .u8 d] w fun e w' => e = .returned (.int .u16 ((a + sgn8 d) % 65536)) ∧ w = w' := by
  by_cases h : d < 128
  · have H := Lib.hid (show sgn8 d = d by unfold sgn8; rw [if_pos h])
    go_enter Try.func17, Try.ntmps17
    go_wp2
    go_ret
    exact ⟨ret_int (by rw [H.out]; first | done | omega), rfl⟩
  · have H := Lib.hid (show sgn8 d = d - 256 by unfold sgn8; rw [if_neg h])
    go_enter Try.func17, Try.ntmps17
    go_wp2
    go_ret
    exact ⟨ret_int (by rw [H.out]; first | done | omega), rfl⟩

theorem half_step (n : Int) (j : Nat) : n / 2 ^ j / 2 = n / 2 ^ (j + 1) := by
  rw [Int.pow_succ]
  exact Int.ediv_ediv_of_nonneg (Int.le_of_lt (Int.pow_pos (by decide)))
theorem half_bd {n : Int} (h0 : 0 ≤ n) (h1 : n ≤ 65535) (j : Nat) : 0 ≤ n / 2 ^ j ∧ n / 2 ^ j ≤ 65535 := by
  have hp : (0 : Int) < 2 ^ j := Int.pow_pos (by decide)
  exact ⟨Int.ediv_nonneg h0 (Int.le_of_lt hp), Int.le_trans (Int.ediv_le_self _ h0) h1⟩
theorem bit_of_word {n k : Int} (h0 : 0 ≤ n) (h1 : n ≤ 65535) (hk : k = 11 ∨ k = 13 ∨ k = 15) : (n / 2 ^ k.toNat % 2 == 1) = bitH (n / 256) (15 - k.toNat) := by
  rcases hk with rfl | rfl | rfl
  all_goals
    rw [Bool.eq_iff_iff, bitH, decide_eq_true_iff, beq_iff_eq]
    simp only [kk, nn, Int.reduceToNat, Int.reducePow, Nat.reduceSub, Int.reduceDiv]
    omega
theorem bit3_any (n k : Int) (w : World) (h0 : 0 ≤ n) (h1 : n ≤ 65535) (hk : k = 11 ∨ k = 13 ∨ k = 15) :
    Calls Try.prog 49 #[.int .i64 n, .int .i64 k] w fun e w' => e = .returned (.bool (bitH (n / 256) (15 - k.toNat))) ∧ w = w' := by
  have hk0 : 0 ≤ k := by omega
  have hk1 : k ≤ 15 := by omega
  have HE := Lib.hid (bit_of_word h0 h1 hk)
  clear hk
  obtain ⟨q, rfl⟩ := Int.eq_ofNat_of_zero_le hk0
  go_enter Try.func49, Try.ntmps49
  go_wp2
  go_loop [0, 5] (fun v i => ∃ (j : Nat) (m : Int), j ≤ q ∧ Hid (m = n / 2 ^ j) ∧ v = .int .i64 m ∧ i = .int .i64 j) (fun _ i => q - (intOf i).toNat)
  case atStart => exact ⟨0, n, by omega, Lib.hid (by simp), rfl, rfl⟩
  case round =>
    obtain ⟨j, m, hj, HM, rfl, rfl⟩ := hrel
    have hb := half_bd h0 h1 j
    rw [← HM.out] at hb
    by_cases hlt : j < q
    · go_wp2
      go_round
      case rel => exact ⟨j + 1, m / 2, by omega, Lib.hid (by rw [HM.out, half_step]), rfl, by go_num⟩
      case measure => simp [intOf]; omega
    · obtain rfl : j = q := by omega
      go_wp2
      go_ret
      exact ⟨ret_bool (by have e := HE.out; simp only [Int.toNat_natCast] at e; rw [← e, HM.out]), rfl⟩

theorem sumUp_any (a b : Int) (c : Bool) (w : World) (a0 : 0 ≤ a) (a1 : a ≤ 65535) (b0 : 0 ≤ b) (b1 : b ≤ 65535) :
    Calls Try.prog 48 #[.int .u16 a, .int .u16 b, .int .i64 (b2i c), .bool true] w fun e w' =>
      e = .returned (.tuple #[.int .u16 (wR (wAddN a b c)), .bool (wAddH a b c), .bool (wAddV a b c), .bool (decide (65535 < wAddN a b c))]) ∧ w = w' := by
  have s1 := sgn16_bd a0 a1
  have s2 := sgn16_bd b0 b1
  have hc := b2i_bd c
  have HV := Lib.hid (show wAddV a b c = over16 (sgn16 a + sgn16 b + b2i c) from rfl)
  go_enter Try.func48, Try.ntmps48
  go_wp2_with fail
  refine (signed3_any _ _ a0 a1).mono ?_
  rintro e w' ⟨rfl, rfl⟩
  go_wp2_with fail
  refine (signed3_any _ _ b0 b1).mono ?_
  rintro e w' ⟨rfl, rfl⟩
  go_wp2
  all_goals
    refine bodyPost_ret (results_tmp4 rfl _ _ _) rfl ?_
    exact ⟨ret_sum (by unfold wR wAddN; omega) (decide_eq_decide.2 (by omega)) (by rw [HV.out]; first | rfl | (unfold over16; rw [decide_eq_true (show sgn16 a + sgn16 b + b2i c < -32768 by assumption)]; rfl)) (decide_eq_decide.2 (by unfold wAddN; omega)), rfl⟩
theorem sumDown_any (a b : Int) (c : Bool) (w : World) (a0 : 0 ≤ a) (a1 : a ≤ 65535) (b0 : 0 ≤ b) (b1 : b ≤ 65535) :
    Calls Try.prog 48 #[.int .u16 a, .int .u16 b, .int .i64 (b2i c), .bool false] w fun e w' =>
      e = .returned (.tuple #[.int .u16 (wR (wSubN a b c)), .bool (wSubH a b c), .bool (wSubV a b c), .bool (decide (wSubN a b c < 0))]) ∧ w = w' := by
  have s1 := sgn16_bd a0 a1
  have s2 := sgn16_bd b0 b1
  have hc := b2i_bd c
  have HV := Lib.hid (show wSubV a b c = over16 (sgn16 a - sgn16 b - b2i c) from rfl)
  go_enter Try.func48, Try.ntmps48
  go_wp2_with fail
  refine (signed3_any _ _ a0 a1).mono ?_
  rintro e w' ⟨rfl, rfl⟩
  go_wp2_with fail
  refine (signed3_any _ _ b0 b1).mono ?_
  rintro e w' ⟨rfl, rfl⟩
  go_wp2_with fail
  refine (signed3_any _ _ a0 a1).mono ?_
  rintro e w' ⟨rfl, rfl⟩
  go_wp2_with fail
  refine (signed3_any _ _ b0 b1).mono ?_
  rintro e w' ⟨rfl, rfl⟩
  go_wp2
  all_goals
    refine bodyPost_ret (results_tmp4 rfl _ _ _) rfl ?_
    exact ⟨ret_sum (by unfold wR wSubN; omega) (decide_eq_decide.2 (by omega)) (by rw [HV.out]; first | rfl | (unfold over16; rw [decide_eq_true (show sgn16 a - sgn16 b - b2i c < -32768 by assumption)]; rfl)) (decide_eq_decide.2 (by unfold wSubN; omega)), rfl⟩

set_option maxHeartbeats 1000000 in
theorem addR_any (a b f : Int) (w : World) (a0 : 0 ≤ a) (a1 : a ≤ 65535) (b0 : 0 ≤ b) (b1 : b ≤ 65535) (f0 : 0 ≤ f) (f1 : f ≤ 255) :
    Calls Try.prog 28 #[.int .u16 a, .int .u16 b, .int .u8 f] w fun e w' => e = .returned (.tuple #[.int .u16 (wR (wAddN a b false)), .int .u8 (wAddF a b f)]) ∧ Below w.heap.size w w' := by
  obtain ⟨r0, r1⟩ := wR_bd (wAddN a b false)
  go_enter Try.func28, Try.ntmps28
  go_wp2_with fail
  refine (sumUp_any a b false _ a0 a1 b0 b1).mono ?_
  rintro e w' ⟨rfl, rfl⟩
  go_wp2_with fail
  refine (bits_any _ _ f0 f1).mono ?_
  rintro e w1 ⟨v, rfl, ⟨g, c, rfl, hc1, _, hg, hr⟩, hb1⟩
  have q0 := hr.2 0 (by omega)
  have q1 := hr.2 1 (by omega)
  have q5 := hr.2 5 (by omega)
  have hz := hr.1
  clear hr
  go_wp2_with fail
  have hwr : IntKind.i64.wrap (wR (wAddN a b false)) = wR (wAddN a b false) := IntWalk.i64_in _ (by omega)
  go_region_held3 (fun w' => w'.cell? ⟨g, 0, none⟩ = some (.bool (bitH f 0)) ∧ w'.cell? ⟨g, 1, none⟩ = some (.bool (bitH f 1)) ∧ w'.cell? ⟨g, 5, none⟩ = some (.bool (bitH f 5)))
    (first | go_keep | (refine ⟨?_, ?_, ?_⟩ <;> (rw [hb2.cell (by simpa using hz)]; assumption)))
    (first
      | (go_at_call 49; refine (bit3_any _ _ _ r0 r1 (by omega)).mono ?_; rintro e w' ⟨rfl, rfl⟩)
      | (go_at_call 37; refine (flags_any _ _ _ _ _ _ _ _ _).mono ?_; rintro e w2 ⟨rfl, hb2⟩))
  all_goals
    go_wp2
    go_ret2
    exact ⟨ret_two rfl rfl, bthen hb1.drew hb2⟩

set_option maxHeartbeats 1000000 in
theorem longUp_any (a b f : Int) (w : World) (a0 : 0 ≤ a) (a1 : a ≤ 65535) (b0 : 0 ≤ b) (b1 : b ≤ 65535) (f0 : 0 ≤ f) (f1 : f ≤ 255) :
    Calls Try.prog 29 #[.int .u16 a, .int .u16 b, .int .u8 f, .bool true] w fun e w' => e = .returned (.tuple #[.int .u16 (wR (wAddN a b (bitH f 7))), .int .u8 (wAdcF a b f)]) ∧ Below w.heap.size w w' := by
  obtain ⟨x, hx⟩ : ∃ x, x = bitH f 7 := ⟨_, rfl⟩
  have HF := Lib.hid (show wAdcF a b f = wF (wR (wAddN a b x)) (wAddH a b x) (wAddV a b x) false (decide (65535 < wAddN a b x)) by rw [hx]; rfl)
  rw [← hx]
  have HX := Lib.hid hx
  clear hx
  obtain ⟨r0, r1⟩ := wR_bd (wAddN a b x)
  have hwr : IntKind.i64.wrap (wR (wAddN a b x)) = wR (wAddN a b x) := IntWalk.i64_in _ (by omega)
  cases x
  · go_enter Try.func29, Try.ntmps29
    go_wp2_with fail
    refine (bit_any _ _ _ f0 f1 (by omega) (by omega)).mono ?_
    rintro e w1 ⟨rfl, hb1⟩
    rw [show bitH f (7 - Int.toNat 0) = bitH f 7 from rfl, ← HX.out]
    go_wp2_with fail
    refine (sumUp_any a b false _ a0 a1 b0 b1).mono ?_
    rintro e w' ⟨rfl, rfl⟩
    go_wp2_with fail
    refine (bit3_any _ _ _ r0 r1 (by omega)).mono ?_
    rintro e w' ⟨rfl, rfl⟩
    go_wp2_with fail
    refine (bit3_any _ _ _ r0 r1 (by omega)).mono ?_
    rintro e w' ⟨rfl, rfl⟩
    go_wp2_with fail
    refine (bit3_any _ _ _ r0 r1 (by omega)).mono ?_
    rintro e w' ⟨rfl, rfl⟩
    go_wp2_with fail
    refine (flags_any _ _ _ _ _ _ _ _ _).mono ?_
    rintro e w2 ⟨rfl, hb2⟩
    go_wp2
    go_ret2
    exact ⟨ret_two rfl (by rw [HF.out]; rfl), bthen hb1 hb2⟩
  · go_enter Try.func29, Try.ntmps29
    go_wp2_with fail
    refine (bit_any _ _ _ f0 f1 (by omega) (by omega)).mono ?_
    rintro e w1 ⟨rfl, hb1⟩
    rw [show bitH f (7 - Int.toNat 0) = bitH f 7 from rfl, ← HX.out]
    go_wp2_with fail
    refine (sumUp_any a b true _ a0 a1 b0 b1).mono ?_
    rintro e w' ⟨rfl, rfl⟩
    go_wp2_with fail
    refine (bit3_any _ _ _ r0 r1 (by omega)).mono ?_
    rintro e w' ⟨rfl, rfl⟩
    go_wp2_with fail
    refine (bit3_any _ _ _ r0 r1 (by omega)).mono ?_
    rintro e w' ⟨rfl, rfl⟩
    go_wp2_with fail
    refine (bit3_any _ _ _ r0 r1 (by omega)).mono ?_
    rintro e w' ⟨rfl, rfl⟩
    go_wp2_with fail
    refine (flags_any _ _ _ _ _ _ _ _ _).mono ?_
    rintro e w2 ⟨rfl, hb2⟩
    go_wp2
    go_ret2
    exact ⟨ret_two rfl (by rw [HF.out]; rfl), bthen hb1 hb2⟩

set_option maxHeartbeats 1000000 in
theorem longDown_any (a b f : Int) (w : World) (a0 : 0 ≤ a) (a1 : a ≤ 65535) (b0 : 0 ≤ b) (b1 : b ≤ 65535) (f0 : 0 ≤ f) (f1 : f ≤ 255) :
    Calls Try.prog 29 #[.int .u16 a, .int .u16 b, .int .u8 f, .bool false] w fun e w' => e = .returned (.tuple #[.int .u16 (wR (wSubN a b (bitH f 7))), .int .u8 (wSbcF a b f)]) ∧ Below w.heap.size w w' := by
  obtain ⟨x, hx⟩ : ∃ x, x = bitH f 7 := ⟨_, rfl⟩
  have HF := Lib.hid (show wSbcF a b f = wF (wR (wSubN a b x)) (wSubH a b x) (wSubV a b x) true (decide (wSubN a b x < 0)) by rw [hx]; rfl)
  rw [← hx]
  have HX := Lib.hid hx
  clear hx
  obtain ⟨r0, r1⟩ := wR_bd (wSubN a b x)
  have hwr : IntKind.i64.wrap (wR (wSubN a b x)) = wR (wSubN a b x) := IntWalk.i64_in _ (by omega)
  cases x
  · go_enter Try.func29, Try.ntmps29
    go_wp2_with fail
    refine (bit_any _ _ _ f0 f1 (by omega) (by omega)).mono ?_
    rintro e w1 ⟨rfl, hb1⟩
    rw [show bitH f (7 - Int.toNat 0) = bitH f 7 from rfl, ← HX.out]
    go_wp2_with fail
    refine (sumDown_any a b false _ a0 a1 b0 b1).mono ?_
    rintro e w' ⟨rfl, rfl⟩
    go_wp2_with fail
    refine (bit3_any _ _ _ r0 r1 (by omega)).mono ?_
    rintro e w' ⟨rfl, rfl⟩
    go_wp2_with fail
    refine (bit3_any _ _ _ r0 r1 (by omega)).mono ?_
    rintro e w' ⟨rfl, rfl⟩
    go_wp2_with fail
    refine (bit3_any _ _ _ r0 r1 (by omega)).mono ?_
    rintro e w' ⟨rfl, rfl⟩
    go_wp2_with fail
    refine (flags_any _ _ _ _ _ _ _ _ _).mono ?_
    rintro e w2 ⟨rfl, hb2⟩
    go_wp2
    go_ret2
    exact ⟨ret_two rfl (by rw [HF.out]; rfl), bthen hb1 hb2⟩
  · go_enter Try.func29, Try.ntmps29
    go_wp2_with fail
    refine (bit_any _ _ _ f0 f1 (by omega) (by omega)).mono ?_
    rintro e w1 ⟨rfl, hb1⟩
    rw [show bitH f (7 - Int.toNat 0) = bitH f 7 from rfl, ← HX.out]
    go_wp2_with fail
    refine (sumDown_any a b true _ a0 a1 b0 b1).mono ?_
    rintro e w' ⟨rfl, rfl⟩
    go_wp2_with fail
    refine (bit3_any _ _ _ r0 r1 (by omega)).mono ?_
    rintro e w' ⟨rfl, rfl⟩
    go_wp2_with fail
    refine (bit3_any _ _ _ r0 r1 (by omega)).mono ?_
    rintro e w' ⟨rfl, rfl⟩
    go_wp2_with fail
    refine (bit3_any _ _ _ r0 r1 (by omega)).mono ?_
    rintro e w' ⟨rfl, rfl⟩
    go_wp2_with fail
    refine (flags_any _ _ _ _ _ _ _ _ _).mono ?_
    rintro e w2 ⟨rfl, hb2⟩
    go_wp2
    go_ret2
    exact ⟨ret_two rfl (by rw [HF.out]; rfl), bthen hb1 hb2⟩

end Go.Proofs.Ytcjnnenmgliakaa
