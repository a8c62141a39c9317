/- The law UlaWaits walked: it returns true and writes nothing that was there. -/
import Derived.Test.YtfcnlgkaejkneaaLawUla
import Derived.BigRegion
namespace Go.Proofs.Ytfcnlgkaejkneaa
open Go.RowKit

theorem u16_bd {a : Int} (h : (Lit.int .u16 a).wf = true) : 0 ≤ a ∧ a ≤ 65535 := by
  have h1 : IntKind.u16.min = 0 := rfl
  have h2 : IntKind.u16.max = 65535 := rfl
  simp only [Lit.wf, Bool.and_eq_true, decide_eq_true_eq] at h
  omega
theorem kind_cases (k : Int) : k = 0 ∨ k = 1 ∨ k = 2 ∨ k = 3 ∨ k = 4 ∨ k < 0 ∨ 4 < k := by omega
theorem held_lo {kind a k : Int} (h : kind = 0 ∨ kind = 1 ∨ kind = 2) : heldS kind a k = (slowS a && decide (k = 0)) := by unfold heldS; rw [if_pos h]
theorem held_3 {a k : Int} : heldS 3 a k = portS (slowS a) (decide (a % 2 = 0)) k := by unfold heldS; rw [if_neg (by omega), if_neg (by omega), if_pos rfl]
theorem held_4 {a k : Int} : heldS 4 a k = slowS a := by unfold heldS; rw [if_neg (by omega), if_pos rfl]
theorem held_no {kind a k : Int} (h : kind < 0 ∨ 4 < kind) : heldS kind a k = false := by unfold heldS; rw [if_neg (by omega), if_neg (by omega), if_neg (by omega)]
theorem and1_u16 {a : Int} (a0 : 0 ≤ a) (a1 : a ≤ 65535) : bits .and .u16 a 1 = a % 2 := bits_mask .u16 16 (by decide) wraps_u16 1 (by decide) a a0 (by omega)

set_option maxHeartbeats 4000000 in
theorem hold_any (kind a k t : Int) (w : World) (q0 : -9223372036854775808 ≤ kind) (q1 : kind ≤ 9223372036854775807) (a0 : 0 ≤ a) (a1 : a ≤ 65535) (k0 : -9223372036854775808 ≤ k) (k1 : k ≤ 9223372036854775807) (t0 : -9223372036854775808 ≤ t) (t1 : t ≤ 9223372036854775807) :
    Calls Try.prog 51 #[.int .i64 kind, .int .u16 a, .int .i64 k, .int .i64 t] w fun e w' => e = .returned (.int .i64 (holdS kind a k t)) ∧ w = w' := by
  have hs := slow_any a w a0 a1
  have hw := wait_any t w t0 t1
  have hm := and1_u16 a0 a1
  unfold holdS
  rcases kind_cases kind with rfl | rfl | rfl | rfl | rfl | hk | hk
  case inr.inr.inr.inl =>
    rw [held_3]
    have hp := ports_any (slowS a) (decide (a % 2 = 0)) k w k0 k1
    rw [← even_num] at hp ⊢
    generalize portS (slowS a) (a % 2 == 0) k = P at *
    generalize slowS a = S at *
    generalize waitS t = W at *
    cases P
    · go_enter Try.func51, Try.ntmps51
      go_wp2_with fail
      refine hs.mono ?_
      rintro e w' ⟨rfl, rfl⟩
      go_wp2_with fail
      refine hp.mono ?_
      rintro e w' ⟨rfl, rfl⟩
      go_wp2
      go_ret
      exact ⟨rfl, rfl⟩
    · go_enter Try.func51, Try.ntmps51
      go_wp2_with fail
      refine hs.mono ?_
      rintro e w' ⟨rfl, rfl⟩
      go_wp2_with fail
      refine hp.mono ?_
      rintro e w' ⟨rfl, rfl⟩
      go_wp2_with fail
      refine hw.mono ?_
      rintro e w' ⟨rfl, rfl⟩
      go_wp2
      go_ret
      exact ⟨rfl, rfl⟩
  case inr.inr.inr.inr.inl =>
    rw [held_4]
    generalize waitS t = W at *
    cases h : slowS a
    · rw [h] at hs
      go_enter Try.func51, Try.ntmps51
      go_wp2_with fail
      refine hs.mono ?_
      rintro e w' ⟨rfl, rfl⟩
      go_wp2
      go_ret
      exact ⟨rfl, rfl⟩
    · rw [h] at hs
      go_enter Try.func51, Try.ntmps51
      go_wp2_with fail
      refine hs.mono ?_
      rintro e w' ⟨rfl, rfl⟩
      go_wp2_with fail
      refine hw.mono ?_
      rintro e w' ⟨rfl, rfl⟩
      go_wp2
      go_ret
      exact ⟨rfl, rfl⟩
  case inr.inr.inr.inr.inr.inl | inr.inr.inr.inr.inr.inr =>
    rw [held_no (by omega)]
    generalize slowS a = S at *
    go_enter Try.func51, Try.ntmps51
    go_wp2_with fail
    refine hs.mono ?_
    rintro e w' ⟨rfl, rfl⟩
    go_wp2
    go_ret
    exact ⟨rfl, rfl⟩
  all_goals
    rw [held_lo (by omega)]
    generalize waitS t = W at *
    by_cases h0 : k = 0
    · subst h0
      cases h : slowS a
      · rw [h] at hs
        go_enter Try.func51, Try.ntmps51
        go_wp2_with fail
        refine hs.mono ?_
        rintro e w' ⟨rfl, rfl⟩
        go_wp2
        go_ret
        exact ⟨rfl, rfl⟩
      · rw [h] at hs
        go_enter Try.func51, Try.ntmps51
        go_wp2_with fail
        refine hs.mono ?_
        rintro e w' ⟨rfl, rfl⟩
        go_wp2_with fail
        refine hw.mono ?_
        rintro e w' ⟨rfl, rfl⟩
        go_wp2
        go_ret
        exact ⟨rfl, rfl⟩
    · rw [decide_eq_false h0]
      have hk0 : (k == 0) = false := by simp [h0]
      generalize slowS a = S at *
      rw [Bool.and_false]
      go_enter Try.func51, Try.ntmps51
      go_wp2_with fail
      refine hs.mono ?_
      rintro e w' ⟨rfl, rfl⟩
      go_wp2
      all_goals
        go_ret
        exact ⟨rfl, rfl⟩

set_option maxHeartbeats 8000000 in
theorem holdR_any (kind a k t : Int) (w : World) (q0 : -9223372036854775808 ≤ kind) (q1 : kind ≤ 9223372036854775807) (a0 : 0 ≤ a) (a1 : a ≤ 65535) (k0 : -9223372036854775808 ≤ k) (k1 : k ≤ 9223372036854775807) (t0 : -9223372036854775808 ≤ t) (t1 : t ≤ 9223372036854775807) :
    Calls Try.prog 63 #[.int .i64 kind, .int .u16 a, .int .i64 k, .int .i64 t] w fun e w' => e = .returned (.int .i64 (holdS kind a k t)) ∧ w = w' := by
  have hs := slowR_any a w a0 a1
  have hw := waitR_any t w t0 t1
  unfold holdS
  have hE : ∃ E, E = decide (a % 2 = 0) ∧ (a % 2 == 0) = E := ⟨_, rfl, even_num⟩
  obtain ⟨E, hE1, hE2⟩ := hE
  have hH : ∃ H, H = heldS kind a k ∧ heldS kind a k = H := ⟨_, rfl, rfl⟩
  obtain ⟨H, hH1, hH2⟩ := hH
  unfold heldS at hH1
  rw [← hE1] at hH1
  rw [hH2]
  clear hE1 hH2
  generalize waitS t = W at *
  generalize slowS a = S at *
  unfold portS at hH1
  by_cases hk : kind < 0 ∨ 4 < kind
  · have hH : H = false := by rw [hH1, if_neg (by omega), if_neg (by omega), if_neg (by omega)]
    subst hH
    clear hH1
    rcases hk with hk | hk
    all_goals cases S <;> cases E
    all_goals
      go_enter Try.func63, Try.ntmps63
      go_wp2_with (first
        | (go_at_call 73; refine hs.mono ?_; rintro e w' ⟨rfl, rfl⟩)
        | (go_at_call 74; refine hw.mono ?_; rintro e w' ⟨rfl, rfl⟩)
        | fail)
      all_goals
        go_ret
        exact ⟨rfl, rfl⟩
  · have hk5 : kind = 0 ∨ kind = 1 ∨ kind = 2 ∨ kind = 3 ∨ kind = 4 := by omega
    clear hk
    by_cases h0 : k = 0
    · subst h0
      rcases hk5 with rfl | rfl | rfl | rfl | rfl
      all_goals cases S <;> cases E
      all_goals
        simp at hH1
        subst hH1
        go_enter Try.func63, Try.ntmps63
        go_wp2_with (first
          | (go_at_call 73; refine hs.mono ?_; rintro e w' ⟨rfl, rfl⟩)
          | (go_at_call 74; refine hw.mono ?_; rintro e w' ⟨rfl, rfl⟩)
          | fail)
        all_goals
          go_ret
          exact ⟨rfl, rfl⟩
    · by_cases h1 : k = 1
      · subst h1
        rcases hk5 with rfl | rfl | rfl | rfl | rfl
        all_goals cases S <;> cases E
        all_goals
          simp at hH1
          subst hH1
          go_enter Try.func63, Try.ntmps63
          go_wp2_with (first
            | (go_at_call 73; refine hs.mono ?_; rintro e w' ⟨rfl, rfl⟩)
            | (go_at_call 74; refine hw.mono ?_; rintro e w' ⟨rfl, rfl⟩)
            | fail)
          all_goals
            go_ret
            exact ⟨rfl, rfl⟩
      · have n0 : (k == 0) = false := by simp [h0]
        have n1 : (k == 1) = false := by simp [h1]
        rcases hk5 with rfl | rfl | rfl | rfl | rfl
        all_goals cases S <;> cases E
        all_goals
          simp [h0, h1] at hH1
          subst hH1
          go_enter Try.func63, Try.ntmps63
          go_wp2_with (first
            | (go_at_call 73; refine hs.mono ?_; rintro e w' ⟨rfl, rfl⟩)
            | (go_at_call 74; refine hw.mono ?_; rintro e w' ⟨rfl, rfl⟩)
            | fail)
          all_goals
            go_ret
            exact ⟨rfl, rfl⟩

end Go.Proofs.Ytfcnlgkaejkneaa
