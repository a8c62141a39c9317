/- Contracts of layer 9: the document's times, waits and addresses. -/
import Derived.Test.YtfcnlgkaejkneaaUla
namespace Go.Proofs.Ytfcnlgkaejkneaa
open Go.RowKit

theorem frameR_any (t : Int) (w : World) (t0 : -9223372036854775808 ≤ t) (t1 : t ≤ 9223372036854775807) :
    Calls Try.prog 36 #[.int .i64 t] w fun e w' => e = .returned (.int .i64 (frameS t)) ∧ w = w' := by
  have hb := tmod_bd (t := t) (n := 69888) (by omega)
  have e := Lib.hid (frame_ref (t := t))
  go_enter Try.func36, Try.ntmps36
  go_wp2
  go_ret
  exact ⟨ret_int e.out, rfl⟩

theorem waitR_any (t : Int) (w : World) (t0 : -9223372036854775808 ≤ t) (t1 : t ≤ 9223372036854775807) :
    Calls Try.prog 74 #[.int .i64 t] w fun e w' => e = .returned (.int .i64 (waitS t)) ∧ w = w' := by
  obtain ⟨b0, b1⟩ := frameS_bd t
  have hf := frameR_any t w t0 t1
  unfold waitS waitN
  generalize frameS t = F at *
  by_cases h1 : F - 14335 < 0
  · go_enter Try.func74, Try.ntmps74
    go_wp2_with fail
    refine hf.mono ?_
    rintro e w' ⟨rfl, rfl⟩
    go_wp2
    go_ret
    exact ⟨rfl, rfl⟩
  · by_cases h2 : 43008 ≤ F - 14335
    · go_enter Try.func74, Try.ntmps74
      go_wp2_with fail
      refine hf.mono ?_
      rintro e w' ⟨rfl, rfl⟩
      go_wp2
      go_ret
      exact ⟨rfl, rfl⟩
    · by_cases h3 : 128 ≤ (F - 14335) % 224
      · go_enter Try.func74, Try.ntmps74
        go_wp2_with fail
        refine hf.mono ?_
        rintro e w' ⟨rfl, rfl⟩
        go_wp2
        go_ret
        exact ⟨rfl, rfl⟩
      · by_cases h4 : (F - 14335) % 224 % 8 ≤ 6
        · go_enter Try.func74, Try.ntmps74
          go_wp2_with fail
          refine hf.mono ?_
          rintro e w' ⟨rfl, rfl⟩
          go_wp2
          go_ret
          exact ⟨rfl, rfl⟩
        · go_enter Try.func74, Try.ntmps74
          go_wp2_with fail
          refine hf.mono ?_
          rintro e w' ⟨rfl, rfl⟩
          go_wp2
          go_ret
          exact ⟨rfl, rfl⟩

theorem slowR_any (a : Int) (w : World) (a0 : 0 ≤ a) (a1 : a ≤ 65535) :
    Calls Try.prog 73 #[.int .u16 a] w fun e w' => e = .returned (.bool (slowS a)) ∧ w = w' := by
  have e := Lib.hid (slow_num a0)
  go_enter Try.func73, Try.ntmps73
  go_wp2
  go_ret
  exact ⟨ret_bool e.out, rfl⟩

theorem pixelsR_any (l c : Int) (w : World) (l0 : -9223372036854775808 ≤ l) (l1 : l ≤ 9223372036854775807) (c0 : -9223372036854775808 ≤ c) (c1 : c ≤ 9223372036854775807) :
    Calls Try.prog 69 #[.int .i64 l, .int .i64 c] w fun e w' => e = .returned (.tuple #[.int .u16 (pixS l c), .bool (onS l c)]) ∧ w = w' := by
  unfold pixS
  cases h : onS l c
  · have hn := onS_not h
    go_enter Try.func69, Try.ntmps69
    go_wp2
    all_goals first
      | (exfalso; omega)
      | (go_ret2; exact ⟨rfl, rfl⟩)
  · obtain ⟨a, b, d, e⟩ := onS_is h
    have hp := pixN_bd a b d e
    have E := Lib.hid (show pixN l c = 16384 + l / 64 * 2048 + l % 8 * 256 + l / 8 % 8 * 32 + c from rfl)
    go_enter Try.func69, Try.ntmps69
    go_wp2
    go_ret2
    exact ⟨rfl, rfl⟩
theorem coloursR_any (l c : Int) (w : World) (l0 : -9223372036854775808 ≤ l) (l1 : l ≤ 9223372036854775807) (c0 : -9223372036854775808 ≤ c) (c1 : c ≤ 9223372036854775807) :
    Calls Try.prog 70 #[.int .i64 l, .int .i64 c] w fun e w' => e = .returned (.tuple #[.int .u16 (colS l c), .bool (onS l c)]) ∧ w = w' := by
  unfold colS
  cases h : onS l c
  · have hn := onS_not h
    go_enter Try.func70, Try.ntmps70
    go_wp2
    all_goals first
      | (exfalso; omega)
      | (go_ret2; exact ⟨rfl, rfl⟩)
  · obtain ⟨a, b, d, e⟩ := onS_is h
    have hp := colN_bd a b d e
    go_enter Try.func70, Try.ntmps70
    go_wp2
    go_ret2
    exact ⟨rfl, rfl⟩

theorem fetchedR_any (t : Int) (w : World) (t0 : -9223372036854775808 ≤ t) (t1 : t ≤ 9223372036854775807) :
    Calls Try.prog 57 #[.int .i64 t] w fun e w' => e = .returned (.tuple #[.int .u16 (fetchS t), .int .i64 (placeS t), .bool (hitS t)]) ∧ w = w' := by
  obtain ⟨b0, b1⟩ := frameS_bd t
  have hf := frameR_any t w t0 t1
  unfold fetchS placeS hitS
  generalize frameS t = F at *
  cases h : hitN (F - 14338)
  · have hn := hit_not h
    have hm : F - 14338 < 0 ∨ 43008 ≤ F - 14338 ∨ 128 ≤ (F - 14338) % 224 ∨ 4 ≤ (F - 14338) % 224 % 8 := by omega
    clear hn h
    by_cases h0 : F - 14338 < 0
    · go_enter Try.func57, Try.ntmps57
      go_wp2_with fail
      refine hf.mono ?_
      rintro e w' ⟨rfl, rfl⟩
      go_wp2
      go_ret3
      exact ⟨rfl, rfl⟩
    · by_cases h1 : 43008 ≤ F - 14338
      · go_enter Try.func57, Try.ntmps57
        go_wp2_with fail
        refine hf.mono ?_
        rintro e w' ⟨rfl, rfl⟩
        go_wp2
        go_ret3
        exact ⟨rfl, rfl⟩
      · by_cases h2 : 128 ≤ (F - 14338) % 224
        · go_enter Try.func57, Try.ntmps57
          go_wp2_with fail
          refine hf.mono ?_
          rintro e w' ⟨rfl, rfl⟩
          go_wp2
          go_ret3
          exact ⟨rfl, rfl⟩
        · have h3 : 4 ≤ (F - 14338) % 224 % 8 := by omega
          go_enter Try.func57, Try.ntmps57
          go_wp2_with fail
          refine hf.mono ?_
          rintro e w' ⟨rfl, rfl⟩
          go_wp2
          go_ret3
          exact ⟨rfl, rfl⟩
  · obtain ⟨h1, h2, h3, h4⟩ := hit_is h
    obtain ⟨⟨l0, l1⟩, ⟨c0, c1⟩, hh⟩ := cell_bd (hit_is h)
    have hon := onS_yes l0 l1 c0 c1
    have hC : cellN (F - 14338) = (F - 14338) % 224 / 8 * 2 + (F - 14338) % 8 / 2 := by unfold cellN; omega
    have hev : (F - 14338) % 224 % 2 = halfN (F - 14338) := by unfold halfN; omega
    have hpl : placeN (F - 14338) = 64 * lineN (F - 14338) + 2 * cellN (F - 14338) + halfN (F - 14338) := by unfold placeN; omega
    rcases hh with h5 | h5
    · have hfe : fetchN (F - 14338) = pixN (lineN (F - 14338)) (cellN (F - 14338)) := by unfold fetchN; rw [if_pos h5]
      rw [h5] at hev hpl
      have hpx := pixelsR_any (lineN (F - 14338)) (cellN (F - 14338)) w (by omega) (by omega) (by omega) (by omega)
      have hps : pixS (lineN (F - 14338)) (cellN (F - 14338)) = fetchN (F - 14338) := by unfold pixS; rw [hon, if_pos rfl, hfe]
      rw [hps, hon, hC] at hpx
      rw [hpl, hC]
      have l1' : lineN (F - 14338) = (F - 14338) / 224 := rfl
      rw [l1'] at hpx ⊢
      have hev' : (F - 14338) % 2 = 0 := by omega
      have hc1 : 0 ≤ (F - 14338) % 224 / 8 * 2 + (F - 14338) % 8 / 2 ∧ (F - 14338) % 224 / 8 * 2 + (F - 14338) % 8 / 2 < 32 := by omega
      generalize fetchN (F - 14338) = FE at *
      clear hps hfe hpl hC l1' h5 hon c0 c1 l0 l1
      go_enter Try.func57, Try.ntmps57
      go_wp2_with fail
      refine hf.mono ?_
      rintro e w' ⟨rfl, rfl⟩
      go_wp2_with fail
      refine hpx.mono ?_
      rintro e w' ⟨rfl, rfl⟩
      go_wp2
      go_ret3
      refine ⟨?_, rfl⟩
      first | rfl | (congr 3; first | rfl | omega)
    · have hfe : fetchN (F - 14338) = colN (lineN (F - 14338)) (cellN (F - 14338)) := by unfold fetchN; rw [if_neg (by omega)]
      rw [h5] at hev hpl
      have hpx := coloursR_any (lineN (F - 14338)) (cellN (F - 14338)) w (by omega) (by omega) (by omega) (by omega)
      have hps : colS (lineN (F - 14338)) (cellN (F - 14338)) = fetchN (F - 14338) := by unfold colS; rw [hon, if_pos rfl, hfe]
      rw [hps, hon, hC] at hpx
      rw [hpl, hC]
      have l1' : lineN (F - 14338) = (F - 14338) / 224 := rfl
      rw [l1'] at hpx ⊢
      have hev' : (F - 14338) % 2 = 1 := by omega
      have hc1 : 0 ≤ (F - 14338) % 224 / 8 * 2 + (F - 14338) % 8 / 2 ∧ (F - 14338) % 224 / 8 * 2 + (F - 14338) % 8 / 2 < 32 := by omega
      generalize fetchN (F - 14338) = FE at *
      clear hps hfe hpl hC l1' h5 hon c0 c1 l0 l1
      go_enter Try.func57, Try.ntmps57
      go_wp2_with fail
      refine hf.mono ?_
      rintro e w' ⟨rfl, rfl⟩
      go_wp2_with fail
      refine hpx.mono ?_
      rintro e w' ⟨rfl, rfl⟩
      go_wp2
      go_ret3
      refine ⟨?_, rfl⟩
      first | rfl | (congr 3; first | rfl | omega)

end Go.Proofs.Ytfcnlgkaejkneaa
