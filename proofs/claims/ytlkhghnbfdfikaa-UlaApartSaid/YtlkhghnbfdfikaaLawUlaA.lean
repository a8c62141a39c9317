/- The law UlaApart walked: it returns true and writes nothing that was there. -/
import Derived.Test.YtlkhghnbfdfikaaLawUla
import Derived.Deep.CutRange
import Derived.ChangeKeysEq
namespace Go.Proofs.Ytlkhghnbfdfikaa
open Go.RowKit

theorem intInfo : (Try.prog.info? 3).map (fun i => (i.zero, i.size, i.bytes)) = some (some (.int .i64 0), 1, 8) := by kernel_rfl
theorem eq_pair (w : World) (a b c d : Int) : (Op.equalIn 10000 27 (.agg #[.int .i64 a, .int .i64 b]) (.agg #[.int .i64 c, .int .i64 d])).run Try.prog w = .ok (a == c && b == d) w := by
  obtain ⟨i0, hi, hz0, hz1, hz2⟩ := info_parts intInfo
  have hc : Try.prog.cellsOf 3 = 1 := by kernel_rfl
  rw [show (10000 : Nat) = 9999 + 1 from rfl, run_equalIn_array (w := w) 9999 _ _ Try.underlying27 hi, hc]
  have h1 := fun x y => run_equalIn_int w 9998 3 .i64 .i64 x y Try.underlying3
  simp [Op.eqItems, List.range, List.range.loop, part, h1]
  by_cases h : a = c <;> by_cases k : b = d <;> simp [h, k]

set_option maxHeartbeats 8000000 in
theorem ulaApart_walk (a b c d : Int) (w : World) (wa : (Lit.int .i64 a).wf = true) (wb : (Lit.int .i64 b).wf = true) (wc : (Lit.int .i64 c).wf = true) (wd : (Lit.int .i64 d).wf = true) :
    Calls Try.prog 4 #[.agg #[.int .i64 a, .int .i64 b], .agg #[.int .i64 c, .int .i64 d]] w fun e w' => e = .returned (.bool true) ∧ Below w.heap.size w w' := by
  obtain ⟨a0, a1⟩ := bounds_i64 wa
  obtain ⟨b0, b1⟩ := bounds_i64 wb
  obtain ⟨c0, c1⟩ := bounds_i64 wc
  obtain ⟨d0, d1⟩ := bounds_i64 wd
  clear wa wb wc wd
  have hp1 := fun w' => pixels_any a b w' a0 a1 b0 b1
  have hp2 := fun w' => pixels_any c d w' c0 c1 d0 d1
  have hc1 := fun w' => colours_any a b w' a0 a1 b0 b1
  have hc2 := fun w' => colours_any c d w' c0 c1 d0 d1
  cases h1 : onS a b
  · rw [h1] at hp1 hc1
    generalize pixS a b = x1 at *
    generalize colS a b = x2 at *
    generalize pixS c d = x3 at *
    generalize colS c d = x4 at *
    go_enter Try.func4, Try.ntmps4
    go_wp2_with fail
    refine (hp1 _).mono ?_
    rintro e w' ⟨rfl, rfl⟩
    go_wp2_with fail
    refine (hp2 _).mono ?_
    rintro e w' ⟨rfl, rfl⟩
    go_wp2_with fail
    refine (hc1 _).mono ?_
    rintro e w' ⟨rfl, rfl⟩
    go_wp2_with fail
    refine (hc2 _).mono ?_
    rintro e w' ⟨rfl, rfl⟩
    go_wp2_with fail
    refine (lives09 _).mono ?_
    rintro e w' ⟨rfl, rfl⟩
    go_wp2
    go_ret
    exact ⟨rfl, ((Below.refl _ _).alloc (Nat.le_refl _) _).alloc (by simp) _⟩
  · cases h2 : onS c d
    · rw [h1] at hp1 hc1
      rw [h2] at hp2 hc2
      generalize pixS a b = x1 at *
      generalize colS a b = x2 at *
      generalize pixS c d = x3 at *
      generalize colS c d = x4 at *
      go_enter Try.func4, Try.ntmps4
      go_wp2_with fail
      refine (hp1 _).mono ?_
      rintro e w' ⟨rfl, rfl⟩
      go_wp2_with fail
      refine (hp2 _).mono ?_
      rintro e w' ⟨rfl, rfl⟩
      go_wp2_with fail
      refine (hc1 _).mono ?_
      rintro e w' ⟨rfl, rfl⟩
      go_wp2_with fail
      refine (hc2 _).mono ?_
      rintro e w' ⟨rfl, rfl⟩
      go_wp2_with fail
      refine (lives09 _).mono ?_
      rintro e w' ⟨rfl, rfl⟩
      go_wp2
      go_ret
      exact ⟨rfl, ((Below.refl _ _).alloc (Nat.le_refl _) _).alloc (by simp) _⟩
    · obtain ⟨e1, e2, e3, e4⟩ := onS_is h1
      obtain ⟨f1, f2, f3, f4⟩ := onS_is h2
      have hx1 : pixS a b = pixN a b := by unfold pixS; rw [h1]; rfl
      have hx2 : pixS c d = pixN c d := by unfold pixS; rw [h2]; rfl
      have hx3 : colS a b = colN a b := by unfold colS; rw [h1]; rfl
      have hx4 : colS c d = colN c d := by unfold colS; rw [h2]; rfl
      rw [h1, hx1] at hp1
      rw [h2, hx2] at hp2
      rw [h1, hx3] at hc1
      rw [h2, hx4] at hc2
      clear hx1 hx2 hx3 hx4 h1 h2
      have P1 := pix_apart e1 e2 e3 e4 f1 f2 f3 f4
      have P2 := col_apart e1 e2 e3 e4 f1 f2 f3 f4
      obtain ⟨g1, g2⟩ := pixN_bd e1 e2 e3 e4
      obtain ⟨g3, g4⟩ := colN_bd e1 e2 e3 e4
      generalize pixN a b = x1 at *
      generalize colN a b = x2 at *
      generalize pixN c d = x3 at *
      generalize colN c d = x4 at *
      have hs1 := fun w' => slow_any x1 w' (by omega) (by omega)
      have hs2 := fun w' => slow_any x2 w' (by omega) (by omega)
      have k1 : slowS x1 = true := by unfold slowS; simp; omega
      have k2 : slowS x2 = true := by unfold slowS; simp; omega
      rw [k1] at hs1
      rw [k2] at hs2
      clear k1 k2
      have Q1 := Lib.hid P1
      have Q2 := Lib.hid P2
      clear P1 P2
      have heq := fun w' => eq_pair w' a b c d
      by_cases hac : a = c
      · subst hac
        by_cases hbd : b = d
        · subst hbd
          obtain rfl : x1 = x3 := Q1.out.2 ⟨rfl, rfl⟩
          obtain rfl : x2 = x4 := Q2.out.2 ⟨rfl, rfl⟩
          rw [show (a == a && b == b) = true by simp] at heq
          have K := Lib.hid heq
          clear heq Q1 Q2
          go_enter Try.func4, Try.ntmps4
          go_wp2_with fail
          refine (hp1 _).mono ?_
          rintro e w' ⟨rfl, rfl⟩
          go_wp2_with fail
          refine (hp2 _).mono ?_
          rintro e w' ⟨rfl, rfl⟩
          go_wp2_with fail
          refine (hc1 _).mono ?_
          rintro e w' ⟨rfl, rfl⟩
          go_wp2_with fail
          refine (hc2 _).mono ?_
          rintro e w' ⟨rfl, rfl⟩
          clear hp1 hp2 hc1 hc2
          have heq := K.out
          clear K
          go_wp2_with fail
          refine (hs1 _).mono ?_
          rintro e w' ⟨rfl, rfl⟩
          go_wp2_with fail
          refine (hs2 _).mono ?_
          rintro e w' ⟨rfl, rfl⟩
          clear hs1 hs2
          go_wp2_with fail
          refine (lives09 _).mono ?_
          rintro e w' ⟨rfl, rfl⟩
          go_wp2
          go_ret
          exact ⟨rfl, ((Below.refl _ _).alloc (Nat.le_refl _) _).alloc (by simp) _⟩
        · have n1 : (x1 == x3) = false := by simp; intro h; exact hbd (Q1.out.1 h).2
          have n2 : (x2 == x4) = false := by simp; intro h; exact hbd (Q2.out.1 h).2
          have n3 : (b == d) = false := by simp [hbd]
          rw [show (a == a && b == d) = false by simp [hbd]] at heq
          have K := Lib.hid heq
          clear heq Q1 Q2
          go_enter Try.func4, Try.ntmps4
          go_wp2_with fail
          refine (hp1 _).mono ?_
          rintro e w' ⟨rfl, rfl⟩
          go_wp2_with fail
          refine (hp2 _).mono ?_
          rintro e w' ⟨rfl, rfl⟩
          go_wp2_with fail
          refine (hc1 _).mono ?_
          rintro e w' ⟨rfl, rfl⟩
          go_wp2_with fail
          refine (hc2 _).mono ?_
          rintro e w' ⟨rfl, rfl⟩
          clear hp1 hp2 hc1 hc2
          have heq := K.out
          clear K
          go_wp2_with fail
          refine (hs1 _).mono ?_
          rintro e w' ⟨rfl, rfl⟩
          go_wp2_with fail
          refine (hs2 _).mono ?_
          rintro e w' ⟨rfl, rfl⟩
          clear hs1 hs2
          go_wp2_with fail
          refine (lives09 _).mono ?_
          rintro e w' ⟨rfl, rfl⟩
          go_wp2
          go_ret
          exact ⟨rfl, ((Below.refl _ _).alloc (Nat.le_refl _) _).alloc (by simp) _⟩
      · have n1 : (x1 == x3) = false := by simp; intro h; exact hac (Q1.out.1 h).1
        have n4 : (a == c) = false := by simp [hac]
        rw [show (a == c && b == d) = false by simp [hac]] at heq
        by_cases h8 : a / 8 = c / 8
        · have n5 : (a / 8 == c / 8) = true := by simp [h8]
          by_cases hbd : b = d
          · obtain rfl : x2 = x4 := Q2.out.2 ⟨h8, hbd⟩
            subst hbd
            have K := Lib.hid heq
            clear heq Q1 Q2 h8
            go_enter Try.func4, Try.ntmps4
            go_wp2_with fail
            refine (hp1 _).mono ?_
            rintro e w' ⟨rfl, rfl⟩
            go_wp2_with fail
            refine (hp2 _).mono ?_
            rintro e w' ⟨rfl, rfl⟩
            go_wp2_with fail
            refine (hc1 _).mono ?_
            rintro e w' ⟨rfl, rfl⟩
            go_wp2_with fail
            refine (hc2 _).mono ?_
            rintro e w' ⟨rfl, rfl⟩
            clear hp1 hp2 hc1 hc2
            have heq := K.out
            clear K
            go_wp2_with fail
            refine (hs1 _).mono ?_
            rintro e w' ⟨rfl, rfl⟩
            go_wp2_with fail
            refine (hs2 _).mono ?_
            rintro e w' ⟨rfl, rfl⟩
            clear hs1 hs2
            go_wp2_with fail
            refine (lives09 _).mono ?_
            rintro e w' ⟨rfl, rfl⟩
            go_wp2
            go_ret
            exact ⟨rfl, ((Below.refl _ _).alloc (Nat.le_refl _) _).alloc (by simp) _⟩
          · have n2 : (x2 == x4) = false := by simp; intro h; exact hbd (Q2.out.1 h).2
            have n3 : (b == d) = false := by simp [hbd]
            have K := Lib.hid heq
            clear heq Q1 Q2 h8
            go_enter Try.func4, Try.ntmps4
            go_wp2_with fail
            refine (hp1 _).mono ?_
            rintro e w' ⟨rfl, rfl⟩
            go_wp2_with fail
            refine (hp2 _).mono ?_
            rintro e w' ⟨rfl, rfl⟩
            go_wp2_with fail
            refine (hc1 _).mono ?_
            rintro e w' ⟨rfl, rfl⟩
            go_wp2_with fail
            refine (hc2 _).mono ?_
            rintro e w' ⟨rfl, rfl⟩
            clear hp1 hp2 hc1 hc2
            have heq := K.out
            clear K
            go_wp2_with fail
            refine (hs1 _).mono ?_
            rintro e w' ⟨rfl, rfl⟩
            go_wp2_with fail
            refine (hs2 _).mono ?_
            rintro e w' ⟨rfl, rfl⟩
            clear hs1 hs2
            go_wp2_with fail
            refine (lives09 _).mono ?_
            rintro e w' ⟨rfl, rfl⟩
            go_wp2
            go_ret
            exact ⟨rfl, ((Below.refl _ _).alloc (Nat.le_refl _) _).alloc (by simp) _⟩
        · have n5 : (a / 8 == c / 8) = false := by simp [h8]
          have n2 : (x2 == x4) = false := by simp; intro h; exact h8 (Q2.out.1 h).1
          have K := Lib.hid heq
          clear heq Q1 Q2
          go_enter Try.func4, Try.ntmps4
          go_wp2_with fail
          refine (hp1 _).mono ?_
          rintro e w' ⟨rfl, rfl⟩
          go_wp2_with fail
          refine (hp2 _).mono ?_
          rintro e w' ⟨rfl, rfl⟩
          go_wp2_with fail
          refine (hc1 _).mono ?_
          rintro e w' ⟨rfl, rfl⟩
          go_wp2_with fail
          refine (hc2 _).mono ?_
          rintro e w' ⟨rfl, rfl⟩
          clear hp1 hp2 hc1 hc2
          have heq := K.out
          clear K
          go_wp2_with fail
          refine (hs1 _).mono ?_
          rintro e w' ⟨rfl, rfl⟩
          go_wp2_with fail
          refine (hs2 _).mono ?_
          rintro e w' ⟨rfl, rfl⟩
          clear hs1 hs2
          go_wp2_with fail
          refine (lives09 _).mono ?_
          rintro e w' ⟨rfl, rfl⟩
          go_wp2
          go_ret
          exact ⟨rfl, ((Below.refl _ _).alloc (Nat.le_refl _) _).alloc (by simp) _⟩

end Go.Proofs.Ytlkhghnbfdfikaa
