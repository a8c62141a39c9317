/- Contracts of layer 9: the program's times, waits and addresses. -/
import Derived.Test.YtfcnlgkaejkneaaProg
import Derived.Test.YtfcnlgkaejkneaaBase
import Derived.Test.YtfcnlgkaejkneaaP09
import Derived.BigRegion
namespace Go.Proofs.Ytfcnlgkaejkneaa
open Go.RowKit

theorem frame_any (t : Int) (w : World) (t0 : -9223372036854775808 ≤ t) (t1 : t ≤ 9223372036854775807) :
    Calls Try.prog 31 #[.int .i64 t] w fun e w' => e = .returned (.int .i64 (frameS t)) ∧ w = w' := by
  have hb := tmod_bd (t := t) (n := 69888) (by omega)
  by_cases h : t.tmod 69888 < 0
  · have e := Lib.hid (tmod_neg (by omega) h)
    go_enter Try.func31, Try.ntmps31
    go_wp2
    go_ret
    exact ⟨ret_int e.out, rfl⟩
  · have e := Lib.hid (tmod_pos (t := t) (n := 69888) (by omega) (by omega))
    go_enter Try.func31, Try.ntmps31
    go_wp2
    go_ret
    exact ⟨ret_int e.out, rfl⟩

theorem within_no (t from_ : Int) (w : World) (t0 : -9223372036854775808 ≤ t) (t1 : t ≤ 9223372036854775807) (f0 : 0 ≤ from_) (f1 : from_ ≤ 20000) (h : frameS t < from_) :
    Calls Try.prog 67 #[.int .i64 t, .int .i64 from_] w fun e w' => e = .returned (.tuple #[.int .i64 0, .int .i64 0, .bool false]) ∧ w = w' := by
  obtain ⟨b0, b1⟩ := frameS_bd t
  go_enter Try.func67, Try.ntmps67
  go_wp2_with fail
  refine (frame_any t _ t0 t1).mono ?_
  rintro e w' ⟨rfl, rfl⟩
  go_wp2
  go_ret3
  exact ⟨rfl, rfl⟩

theorem within_yes (t from_ : Int) (w : World) (t0 : -9223372036854775808 ≤ t) (t1 : t ≤ 9223372036854775807) (f0 : 0 ≤ from_) (f1 : from_ ≤ 20000) (h : ¬ frameS t < from_) :
    Calls Try.prog 67 #[.int .i64 t, .int .i64 from_] w fun e w' => e = .returned (.tuple #[.int .i64 ((frameS t - from_) / 224), .int .i64 ((frameS t - from_) % 224), .bool (decide ((frameS t - from_) / 224 < 192) && decide ((frameS t - from_) % 224 < 128))]) ∧ w = w' := by
  obtain ⟨b0, b1⟩ := frameS_bd t
  have hf := frame_any t w t0 t1
  generalize frameS t = F at *
  by_cases h2 : (F - from_) / 224 < 192 <;> by_cases h3 : (F - from_) % 224 < 128
  all_goals
    go_enter Try.func67, Try.ntmps67
    go_wp2_with fail
    refine hf.mono ?_
    rintro e w' ⟨rfl, rfl⟩
    go_wp2
    go_ret3
    exact ⟨by simp [h2, h3], rfl⟩

theorem tab_at (w : World) (k v : Int) (h : (k = 0 ∧ v = 6) ∨ (k = 1 ∧ v = 5) ∨ (k = 2 ∧ v = 4) ∨ (k = 3 ∧ v = 3) ∨ (k = 4 ∧ v = 2) ∨ (k = 5 ∧ v = 1) ∨ (k = 6 ∧ v = 0) ∨ (k = 7 ∧ v = 0)) : (Instr.index 108 (.agg #[.int .i64 6, .int .i64 5, .int .i64 4, .int .i64 3, .int .i64 2, .int .i64 1, .int .i64 0, .int .i64 0]) (.int .i64 k)).run Try.prog w = .ok (.int .i64 v) w := by
  rcases h with ⟨rfl, rfl⟩ | ⟨rfl, rfl⟩ | ⟨rfl, rfl⟩ | ⟨rfl, rfl⟩ | ⟨rfl, rfl⟩ | ⟨rfl, rfl⟩ | ⟨rfl, rfl⟩ | ⟨rfl, rfl⟩ <;> kernel_rfl
set_option maxHeartbeats 1000000 in
theorem wait_any (t : Int) (w : World) (t0 : -9223372036854775808 ≤ t) (t1 : t ≤ 9223372036854775807) :
    Calls Try.prog 66 #[.int .i64 t] w fun e w' => e = .returned (.int .i64 (waitS t)) ∧ w = w' := by
  obtain ⟨b0, b1⟩ := frameS_bd t
  by_cases h : frameS t < 14335
  · have e := Lib.hid (show waitS t = 0 by unfold waitS waitN; rw [if_pos (by omega)])
    go_enter Try.func66, Try.ntmps66
    go_wp2_with fail
    refine (within_no t 14335 _ t0 t1 (by omega) (by omega) h).mono ?_
    rintro e w' ⟨rfl, rfl⟩
    go_wp2
    go_ret
    exact ⟨ret_int e.out.symm, rfl⟩
  · by_cases h2 : (frameS t - 14335) / 224 < 192 ∧ (frameS t - 14335) % 224 < 128
    · obtain ⟨h3, h4⟩ := h2
      have e := Lib.hid (show waitS t = if (frameS t - 14335) % 224 % 8 ≤ 6 then 6 - (frameS t - 14335) % 224 % 8 else 0 by unfold waitS waitN; rw [if_neg (by omega)])
      have hc := within_yes t 14335 w t0 t1 (by omega) (by omega) h
      rw [decide_eq_true h3, decide_eq_true h4] at hc
      have hk : (0 ≤ (frameS t - 14335) % 224 % 8 ∧ (frameS t - 14335) % 224 % 8 ≤ 7) := by omega
      have hat : 0 ≤ (frameS t - 14335) % 224 ∧ (frameS t - 14335) % 224 < 224 := by omega
      generalize (frameS t - 14335) / 224 = line at *
      generalize (frameS t - 14335) % 224 = at_ at *
      go_enter Try.func66, Try.ntmps66
      go_wp2_with fail
      refine hc.mono ?_
      rintro e w' ⟨rfl, rfl⟩
      clear hc
      obtain ⟨v, hv⟩ : ∃ v, v = if at_ % 8 ≤ 6 then 6 - at_ % 8 else 0 := ⟨_, rfl⟩
      have ht := fun w' => tab_at w' (at_ % 8) v (by split at hv <;> omega)
      have hv' := Lib.hid hv
      clear hv
      go_wp2
      go_ret
      exact ⟨ret_int (by rw [e.out, hv'.out]), rfl⟩
    · have e := Lib.hid (show waitS t = 0 by unfold waitS waitN; rw [if_pos (by omega)])
      have hc := within_yes t 14335 w t0 t1 (by omega) (by omega) h
      have hk : (decide ((frameS t - 14335) / 224 < 192) && decide ((frameS t - 14335) % 224 < 128)) = false := by
        rw [← Bool.decide_and]; exact decide_eq_false h2
      rw [hk] at hc
      go_enter Try.func66, Try.ntmps66
      go_wp2_with fail
      refine hc.mono ?_
      rintro e w' ⟨rfl, rfl⟩
      go_wp2
      go_ret
      exact ⟨ret_int e.out.symm, rfl⟩

theorem slow_any (a : Int) (w : World) (a0 : 0 ≤ a) (a1 : a ≤ 65535) :
    Calls Try.prog 64 #[.int .u16 a] w fun e w' => e = .returned (.bool (slowS a)) ∧ w = w' := by
  unfold slowS
  by_cases h1 : 16384 ≤ a <;> by_cases h2 : a < 32768
  all_goals
    go_enter Try.func64, Try.ntmps64
    go_wp2
    go_ret
    exact ⟨ret_bool (by simp [h1, h2]), rfl⟩

theorem ports_any (s e : Bool) (k : Int) (w : World) (k0 : -9223372036854775808 ≤ k) (k1 : k ≤ 9223372036854775807) :
    Calls Try.prog 65 #[.bool s, .bool e, .int .i64 k] w fun e' w' => e' = .returned (.bool (portS s e k)) ∧ w = w' := by
  unfold portS
  by_cases h0 : k = 0
  · subst h0
    cases s <;> cases e
    all_goals
      go_enter Try.func65, Try.ntmps65
      go_wp2
      go_ret
      exact ⟨ret_bool (by simp), rfl⟩
  · by_cases h1 : k = 1
    · subst h1
      cases s <;> cases e
      all_goals
        go_enter Try.func65, Try.ntmps65
        go_wp2
        go_ret
        exact ⟨ret_bool (by simp), rfl⟩
    · cases s <;> cases e
      all_goals
        go_enter Try.func65, Try.ntmps65
        go_wp2
        go_ret
        exact ⟨ret_bool (by simp [h0, h1]), rfl⟩

theorem on_any (l c : Int) (w : World) (l0 : -9223372036854775808 ≤ l) (l1 : l ≤ 9223372036854775807) (c0 : -9223372036854775808 ≤ c) (c1 : c ≤ 9223372036854775807) :
    Calls Try.prog 68 #[.int .i64 l, .int .i64 c] w fun e w' => e = .returned (.bool (onS l c)) ∧ w = w' := by
  unfold onS
  by_cases h1 : 0 ≤ l
  · by_cases h2 : l < 192
    · by_cases h3 : 0 ≤ c
      · by_cases h4 : c < 32
        all_goals
          go_enter Try.func68, Try.ntmps68
          go_wp2
          go_ret
          exact ⟨ret_bool (by simp [h1, h2, h3, h4]), rfl⟩
      · go_enter Try.func68, Try.ntmps68
        go_wp2
        go_ret
        exact ⟨ret_bool (by simp; omega), rfl⟩
    · go_enter Try.func68, Try.ntmps68
      go_wp2
      go_ret
      exact ⟨ret_bool (by simp; omega), rfl⟩
  · go_enter Try.func68, Try.ntmps68
    go_wp2
    go_ret
    exact ⟨ret_bool (by simp; omega), rfl⟩
theorem onS_yes {l c : Int} (l0 : 0 ≤ l) (l1 : l < 192) (c0 : 0 ≤ c) (c1 : c < 32) : onS l c = true := by unfold onS; simp; omega
theorem onS_not {l c : Int} (h : onS l c = false) : ¬ (0 ≤ l ∧ l < 192 ∧ 0 ≤ c ∧ c < 32) := by
  rintro ⟨a, b, d, e⟩; rw [onS_yes a b d e] at h; cases h
theorem onS_is {l c : Int} (h : onS l c = true) : 0 ≤ l ∧ l < 192 ∧ 0 ≤ c ∧ c < 32 := by unfold onS at h; simp at h; omega

/-- a cell's byte -/
def pixS (l c : Int) : Int := if onS l c then pixN l c else 0
def colS (l c : Int) : Int := if onS l c then colN l c else 0
theorem pix_or {l c : Int} (l0 : 0 ≤ l) (l1 : l < 192) (c0 : 0 ≤ c) (c1 : c < 32) :
    bits .or .i64 (bits .or .i64 (bits .or .i64 (bits .or .i64 16384 (l / 64 * 2048)) (l % 8 * 256)) (l / 8 % 8 * 32)) c = pixN l c := by
  rw [bits_join .i64 32 (by decide) wraps_i64 14 16384 (l / 64 * 2048) (by omega) (by omega) (by omega) (by omega) (by omega) (by omega)]
  rw [bits_join .i64 32 (by decide) wraps_i64 11 (16384 + l / 64 * 2048) (l % 8 * 256) (by omega) (by omega) (by omega) (by omega) (by omega) (by omega)]
  rw [bits_join .i64 32 (by decide) wraps_i64 8 (16384 + l / 64 * 2048 + l % 8 * 256) (l / 8 % 8 * 32) (by omega) (by omega) (by omega) (by omega) (by omega) (by omega)]
  rw [bits_join .i64 32 (by decide) wraps_i64 5 (16384 + l / 64 * 2048 + l % 8 * 256 + l / 8 % 8 * 32) c (by omega) (by omega) (by omega) (by omega) (by omega) (by omega)]
  rfl

theorem pixels_any (l c : Int) (w : World) (l0 : -9223372036854775808 ≤ l) (l1 : l ≤ 9223372036854775807) (c0 : -9223372036854775808 ≤ c) (c1 : c ≤ 9223372036854775807) :
    Calls Try.prog 54 #[.int .i64 l, .int .i64 c] w fun e w' => e = .returned (.tuple #[.int .u16 (pixS l c), .bool (onS l c)]) ∧ w = w' := by
  have hon := on_any l c w l0 l1 c0 c1
  unfold pixS
  cases h : onS l c
  · rw [h] at hon
    go_enter Try.func54, Try.ntmps54
    go_wp2_with fail
    refine hon.mono ?_
    rintro e w' ⟨rfl, rfl⟩
    go_wp2
    go_ret2
    exact ⟨rfl, rfl⟩
  · rw [h] at hon
    obtain ⟨a, b, d, e⟩ := onS_is h
    have E := Lib.hid (pix_or a b d e)
    have hp := pixN_bd a b d e
    have m1 : bits .and .i64 l 7 = l % 8 := bits_mask .i64 32 (by decide) wraps_i64 3 (by decide) l a (by omega)
    have m2 : bits .and .i64 (l / 8) 7 = l / 8 % 8 := bits_mask .i64 32 (by decide) wraps_i64 3 (by decide) (l / 8) (by omega) (by omega)
    go_enter Try.func54, Try.ntmps54
    go_wp2_with fail
    refine hon.mono ?_
    rintro e w' ⟨rfl, rfl⟩
    have e1 := E.out
    go_wp2
    go_ret2
    refine ⟨?_, rfl⟩
    show Ending.returned (.tuple #[.int .u16 (pixN l c), .bool true]) = _
    rfl

theorem colours_any (l c : Int) (w : World) (l0 : -9223372036854775808 ≤ l) (l1 : l ≤ 9223372036854775807) (c0 : -9223372036854775808 ≤ c) (c1 : c ≤ 9223372036854775807) :
    Calls Try.prog 55 #[.int .i64 l, .int .i64 c] w fun e w' => e = .returned (.tuple #[.int .u16 (colS l c), .bool (onS l c)]) ∧ w = w' := by
  have hon := on_any l c w l0 l1 c0 c1
  unfold colS
  cases h : onS l c
  · rw [h] at hon
    go_enter Try.func55, Try.ntmps55
    go_wp2_with fail
    refine hon.mono ?_
    rintro e w' ⟨rfl, rfl⟩
    go_wp2
    go_ret2
    exact ⟨rfl, rfl⟩
  · rw [h] at hon
    obtain ⟨a, b, d, e⟩ := onS_is h
    have E := Lib.hid (show colN l c = 22528 + l / 8 * 32 + c by unfold colN; omega)
    go_enter Try.func55, Try.ntmps55
    go_wp2_with fail
    refine hon.mono ?_
    rintro e w' ⟨rfl, rfl⟩
    go_wp2
    go_ret2
    refine ⟨?_, rfl⟩
    show Ending.returned (.tuple #[.int .u16 (22528 + l / 8 * 32 + c), .bool true]) = Ending.returned (.tuple #[.int .u16 (colN l c), .bool true])
    rw [E.out]

theorem cell_no (t : Int) (w : World) (t0 : -9223372036854775808 ≤ t) (t1 : t ≤ 9223372036854775807) (h : hitS t = false) :
    Calls Try.prog 53 #[.int .i64 t] w fun e w' => e = .returned (.tuple #[.int .i64 0, .int .i64 0, .int .i64 0, .bool false]) ∧ w = w' := by
  obtain ⟨b0, b1⟩ := frameS_bd t
  have hn := hit_not h
  by_cases h1 : frameS t < 14338
  · go_enter Try.func53, Try.ntmps53
    go_wp2_with fail
    refine (within_no t 14338 _ t0 t1 (by omega) (by omega) h1).mono ?_
    rintro e w' ⟨rfl, rfl⟩
    go_wp2
    refine bodyPost_ret (results_tmp4 rfl _ _ _) rfl ?_
    exact ⟨rfl, rfl⟩
  · have hc := within_yes t 14338 w t0 t1 (by omega) (by omega) h1
    by_cases h2 : (frameS t - 14338) / 224 < 192 ∧ (frameS t - 14338) % 224 < 128
    · obtain ⟨h3, h4⟩ := h2
      rw [decide_eq_true h3, decide_eq_true h4] at hc
      have hk : 4 ≤ (frameS t - 14338) % 224 % 8 := by omega
      have hat : 0 ≤ (frameS t - 14338) % 224 := by omega
      clear hn
      generalize (frameS t - 14338) / 224 = line at *
      generalize (frameS t - 14338) % 224 = at_ at *
      go_enter Try.func53, Try.ntmps53
      go_wp2_with fail
      refine hc.mono ?_
      rintro e w' ⟨rfl, rfl⟩
      go_wp2
      refine bodyPost_ret (results_tmp4 rfl _ _ _) rfl ?_
      exact ⟨rfl, rfl⟩
    · have hk : (decide ((frameS t - 14338) / 224 < 192) && decide ((frameS t - 14338) % 224 < 128)) = false := by
        rw [← Bool.decide_and]; exact decide_eq_false h2
      rw [hk] at hc
      have hat : 0 ≤ (frameS t - 14338) % 224 := by omega
      clear hn h2 hk
      generalize (frameS t - 14338) / 224 = line at *
      generalize (frameS t - 14338) % 224 = at_ at *
      go_enter Try.func53, Try.ntmps53
      go_wp2_with fail
      refine hc.mono ?_
      rintro e w' ⟨rfl, rfl⟩
      go_wp2
      refine bodyPost_ret (results_tmp4 rfl _ _ _) rfl ?_
      exact ⟨rfl, rfl⟩
theorem cell_yes (t : Int) (w : World) (t0 : -9223372036854775808 ≤ t) (t1 : t ≤ 9223372036854775807) (h : hitS t = true) :
    Calls Try.prog 53 #[.int .i64 t] w fun e w' => e = .returned (.tuple #[.int .i64 (lineN (frameS t - 14338)), .int .i64 (cellN (frameS t - 14338)), .int .i64 (halfN (frameS t - 14338)), .bool true]) ∧ w = w' := by
  obtain ⟨b0, b1⟩ := frameS_bd t
  obtain ⟨h1, h2, h3, h4⟩ := hit_is h
  have hc := within_yes t 14338 w t0 t1 (by omega) (by omega) (by omega)
  rw [decide_eq_true (show (frameS t - 14338) / 224 < 192 by omega), decide_eq_true h3] at hc
  have hat : 0 ≤ (frameS t - 14338) % 224 := by omega
  unfold lineN cellN halfN
  generalize (frameS t - 14338) / 224 = line at *
  generalize (frameS t - 14338) % 224 = at_ at *
  go_enter Try.func53, Try.ntmps53
  go_wp2_with fail
  refine hc.mono ?_
  rintro e w' ⟨rfl, rfl⟩
  go_wp2
  refine bodyPost_ret (results_tmp4 rfl _ _ _) rfl ?_
  exact ⟨by first | rfl | (congr 3; omega), rfl⟩
def fetchS (t : Int) : Int := if hitS t then fetchN (frameS t - 14338) else 0
def placeS (t : Int) : Int := if hitS t then placeN (frameS t - 14338) else 0
theorem fetched_any (t : Int) (w : World) (t0 : -9223372036854775808 ≤ t) (t1 : t ≤ 9223372036854775807) :
    Calls Try.prog 35 #[.int .i64 t] w fun e w' => e = .returned (.tuple #[.int .u16 (fetchS t), .bool (hitS t)]) ∧ w = w' := by
  unfold fetchS
  cases h : hitS t
  · go_enter Try.func35, Try.ntmps35
    go_wp2_with fail
    refine (cell_no t _ t0 t1 h).mono ?_
    rintro e w' ⟨rfl, rfl⟩
    go_wp2
    go_ret2
    exact ⟨rfl, rfl⟩
  · have hc := cell_yes t w t0 t1 h
    obtain ⟨⟨l0, l1⟩, ⟨c0, c1⟩, hh⟩ := cell_bd (hit_is h)
    unfold fetchN
    generalize lineN (frameS t - 14338) = line at *
    generalize cellN (frameS t - 14338) = c at *
    generalize halfN (frameS t - 14338) = half at *
    have hon := onS_yes l0 l1 c0 c1
    rcases hh with rfl | rfl
    · go_enter Try.func35, Try.ntmps35
      go_wp2_with fail
      refine hc.mono ?_
      rintro e w' ⟨rfl, rfl⟩
      go_wp2_with fail
      refine (pixels_any line c _ (by omega) (by omega) (by omega) (by omega)).mono ?_
      rintro e w' ⟨rfl, rfl⟩
      unfold pixS
      rw [hon]
      go_wp2
      go_ret2
      exact ⟨rfl, rfl⟩
    · go_enter Try.func35, Try.ntmps35
      go_wp2_with fail
      refine hc.mono ?_
      rintro e w' ⟨rfl, rfl⟩
      go_wp2_with fail
      refine (colours_any line c _ (by omega) (by omega) (by omega) (by omega)).mono ?_
      rintro e w' ⟨rfl, rfl⟩
      unfold colS
      rw [hon]
      go_wp2
      go_ret2
      exact ⟨rfl, rfl⟩
theorem place_any (t : Int) (w : World) (t0 : -9223372036854775808 ≤ t) (t1 : t ≤ 9223372036854775807) :
    Calls Try.prog 34 #[.int .i64 t] w fun e w' => e = .returned (.tuple #[.int .i64 (placeS t), .bool (hitS t)]) ∧ w = w' := by
  unfold placeS
  cases h : hitS t
  · go_enter Try.func34, Try.ntmps34
    go_wp2_with fail
    refine (cell_no t _ t0 t1 h).mono ?_
    rintro e w' ⟨rfl, rfl⟩
    go_wp2
    go_ret2
    exact ⟨rfl, rfl⟩
  · have hc := cell_yes t w t0 t1 h
    obtain ⟨⟨l0, l1⟩, ⟨c0, c1⟩, hh⟩ := cell_bd (hit_is h)
    unfold placeN
    generalize lineN (frameS t - 14338) = line at *
    generalize cellN (frameS t - 14338) = c at *
    generalize halfN (frameS t - 14338) = half at *
    rcases hh with rfl | rfl
    all_goals
      go_enter Try.func34, Try.ntmps34
      go_wp2_with fail
      refine hc.mono ?_
      rintro e w' ⟨rfl, rfl⟩
      go_wp2
      go_ret2
      exact ⟨by first | rfl | (congr 3; omega), rfl⟩

end Go.Proofs.Ytfcnlgkaejkneaa
