/- The contracts of the program's layer 5 (bulk). -/
import Derived.Test.YtcjnnenmgliakaaAlu
import Derived.Test.YtcjnnenmgliakaaP05
namespace Go.Proofs.Ytcjnnenmgliakaa
open Go.RowKit

set_option maxHeartbeats 1000000 in
theorem sumB_any (n : Int) (w : World) (n0 : 0 ≤ n) (n1 : n ≤ 255) : Calls Try.prog 50 #[.int .u8 n] w fun e w' => e = .returned (.int .u8 (sumS n)) ∧ w = w' := by
  have e1 := Lib.hid (bit1_num n0 n1)
  have e3 := Lib.hid (bit3_num n0 n1)
  have HS := Lib.hid (sum_fin n0 n1)
  have i0 : ∀ w, (Instr.index 66 (.agg #[.int .u8 32, .int .u8 8]) (.int .i64 0)).run Try.prog w = .ok (.int .u8 32) w := fun _ => by kernel_rfl
  have i1 : ∀ w, (Instr.index 66 (.agg #[.int .u8 32, .int .u8 8]) (.int .i64 1)).run Try.prog w = .ok (.int .u8 8) w := fun _ => by kernel_rfl
  go_enter Try.func50, Try.ntmps50
  go_wp2
  refine wp_loop_rounds 3 ?_
  rw [rounds_succ]
  go_wp2_with fail
  refine (with_any _ _ _ _).mono ?_
  rintro e w' ⟨rfl, rfl⟩
  go_wp2
  rw [rounds_succ]
  go_wp2_with fail
  refine (with_any _ _ _ _).mono ?_
  rintro e w' ⟨rfl, rfl⟩
  go_wp2
  rw [rounds_succ]
  go_wp2
  go_ret
  refine ⟨ret_int ?_, rfl⟩
  rw [← HS.out, ← e1.out, ← e3.out]
theorem again_any (f pc : Int) (w : World) (f0 : 0 ≤ f) (f1 : f ≤ 255) (p0 : 0 ≤ pc) (p1 : pc ≤ 65535) : Calls Try.prog 21 #[.int .u8 f, .int .u16 pc] w fun e w' => e = .returned (.int .u8 (againF f pc)) ∧ w = w' := by
  have HF := Lib.hid (again_fin (h := pc / 256) f0 f1 (by omega) (by omega))
  go_enter Try.func21, Try.ntmps21
  go_wp2
  go_ret
  exact ⟨ret_int HF.out, rfl⟩
theorem port_any (v k b : Int) (w : World) (v0 : 0 ≤ v) (v1 : v ≤ 255) (k0 : 0 ≤ k) (k1 : k ≤ 255) (b0 : 0 ≤ b) (b1 : b ≤ 255) :
    Calls Try.prog 18 #[.int .u8 v, .int .u8 k, .int .u8 b] w fun e w' => e = .returned (.int .u8 (portF v k b)) ∧ w = w' := by
  have e1 : (bits .and .u8 v 128 != 0) = decide (128 ≤ v) := by rw [ask128 v0 v1]; exact top_num v0 v1
  have e2 := mix_num (n := v + k) b0 b1
  obtain ⟨m0, m1⟩ := byteS_bd (mixB (v + k) b)
  have HP := Lib.hid (port_fin b0 b1)
  go_enter Try.func18, Try.ntmps18
  go_wp2_with fail
  refine (of_any _ _ b0 b1).mono ?_
  rintro e w' ⟨rfl, rfl⟩
  go_wp2_with fail
  refine (with_any _ _ _ _).mono ?_
  rintro e w' ⟨rfl, rfl⟩
  go_wp2_with fail
  refine (with_any _ _ _ _).mono ?_
  rintro e w' ⟨rfl, rfl⟩
  go_wp2_with fail
  refine (evenP_any _ _ m0 m1).mono ?_
  rintro e w' ⟨rfl, rfl⟩
  go_wp2_with fail
  refine (with_any _ _ _ _).mono ?_
  rintro e w' ⟨rfl, rfl⟩
  go_wp2
  go_ret
  exact ⟨ret_int (HP.out _ _ _), rfl⟩
theorem copy_any (a v bc f : Int) (w : World) (a0 : 0 ≤ a) (a1 : a ≤ 255) (v0 : 0 ≤ v) (v1 : v ≤ 255) (c0 : 0 ≤ bc) (c1 : bc ≤ 65535) (f0 : 0 ≤ f) (f1 : f ≤ 255) :
    Calls Try.prog 30 #[.int .u8 a, .int .u8 v, .int .u16 bc, .int .u8 f] w fun e w' => e = .returned (.int .u8 (copyF a v bc f)) ∧ w = w' := by
  have HF := Lib.hid (copy_fin (n := (a + v) % 256) f0 f1)
  have eb : (bc != 0) = decide (0 < bc) := by rw [Bool.eq_iff_iff]; simp; omega
  go_enter Try.func30, Try.ntmps30
  go_wp2_with fail
  refine (sumB_any _ _ (by omega) (by omega)).mono ?_
  rintro e w' ⟨rfl, rfl⟩
  go_wp2_with fail
  refine (with_any _ _ _ _).mono ?_
  rintro e w' ⟨rfl, rfl⟩
  go_wp2
  go_ret
  exact ⟨ret_int (HF.out _), rfl⟩
set_option maxHeartbeats 1000000 in
theorem find_any (a v bc f : Int) (w : World) (a0 : 0 ≤ a) (a1 : a ≤ 255) (v0 : 0 ≤ v) (v1 : v ≤ 255) (c0 : 0 ≤ bc) (c1 : bc ≤ 65535) (f0 : 0 ≤ f) (f1 : f ≤ 255) :
    Calls Try.prog 32 #[.int .u8 a, .int .u8 v, .int .u16 bc, .int .u8 f] w fun e w' => e = .returned (.int .u8 (findF a v bc f)) ∧ Below w.heap.size w w' := by
  obtain ⟨g0, g1⟩ := subF_bd a v false
  obtain ⟨r0, r1⟩ := subR_bd a v false
  have HF := Lib.hid (fun n => find_fin (n := n) f0 f1 g0 g1 (subF_N a v false))
  have HH := Lib.hid (show hasS (subF a v false) 16 = bitH (subF a v false) 3 from ask16 g0 g1)
  have eb : (bc != 0) = decide (0 < bc) := by rw [Bool.eq_iff_iff]; simp; omega
  rcases (show bitH (subF a v false) 3 = true ∨ bitH (subF a v false) 3 = false from by cases bitH (subF a v false) 3 <;> simp) with h3 | h3
  · have HN := Lib.hid (show (subR a v false - 1) % 256 = findN a v by unfold findN; rw [h3, if_pos rfl]; omega)
    have H3 := Lib.hid h3
    clear h3
    go_enter Try.func32, Try.ntmps32
    go_wp2_with fail
    refine (subA_any _ _ _ _ a0 a1 v0 v1).mono ?_
    rintro e w1 ⟨rfl, hb1⟩
    go_wp2_with fail
    refine (has_any _ _ _).mono ?_
    rintro e w' ⟨rfl, rfl⟩
    rw [HH.out, H3.out]
    go_wp2_with fail
    refine (sumB_any _ _ (by omega) (by omega)).mono ?_
    rintro e w' ⟨rfl, rfl⟩
    go_wp2_with fail
    refine (with_any _ _ _ _).mono ?_
    rintro e w' ⟨rfl, rfl⟩
    go_wp2
    go_ret
    exact ⟨ret_int (by rw [HN.out]; exact HF.out _ _), hb1⟩
  · have HN := Lib.hid (show subR a v false = findN a v by unfold findN; rw [h3]; rfl)
    have H3 := Lib.hid h3
    clear h3
    go_enter Try.func32, Try.ntmps32
    go_wp2_with fail
    refine (subA_any _ _ _ _ a0 a1 v0 v1).mono ?_
    rintro e w1 ⟨rfl, hb1⟩
    go_wp2_with fail
    refine (has_any _ _ _).mono ?_
    rintro e w' ⟨rfl, rfl⟩
    rw [HH.out, H3.out]
    go_wp2_with fail
    refine (sumB_any _ _ r0 r1).mono ?_
    rintro e w' ⟨rfl, rfl⟩
    go_wp2_with fail
    refine (with_any _ _ _ _).mono ?_
    rintro e w' ⟨rfl, rfl⟩
    go_wp2
    go_ret
    exact ⟨ret_int (by rw [HN.out]; exact HF.out _ _), hb1⟩

set_option maxHeartbeats 2000000 in
theorem portAgain_any (f v b pc : Int) (w : World) (f0 : 0 ≤ f) (f1 : f ≤ 255) (v0 : 0 ≤ v) (v1 : v ≤ 255) (b0 : 0 ≤ b) (b1 : b ≤ 255) (p0 : 0 ≤ pc) (p1 : pc ≤ 65535) :
    Calls Try.prog 23 #[.int .u8 f, .int .u8 v, .int .u8 b, .int .u16 pc] w fun e w' => e = .returned (.int .u8 (portAgainF f v b pc)) ∧ w = w' := by
  have HH := Lib.hid (show hasS f 1 = bitH f 7 from ask1 f0 f1)
  have e1 : (bits .and .u8 v 128 != 0) = decide (128 ≤ v) := by rw [ask128 v0 v1]; exact top_num v0 v1
  rcases (show bitH f 7 = true ∨ bitH f 7 = false from by cases bitH f 7 <;> simp) with h7 | h7
  all_goals have H7 := Lib.hid h7
  all_goals clear h7
  · by_cases hv : 128 ≤ v
    · go_enter Try.func23, Try.ntmps23
      go_wp2_with fail
      refine (again_any _ _ _ f0 f1 p0 p1).mono ?_
      rintro e w' ⟨rfl, rfl⟩
      go_wp2_with fail
      refine (has_any _ _ _).mono ?_
      rintro e w' ⟨rfl, rfl⟩
      rw [HH.out, H7.out]
      go_wp2_with fail
      refine (with_any _ _ _ _).mono ?_
      rintro e w' ⟨rfl, rfl⟩
      go_wp2_with fail
      refine (evenP_any _ _ (by omega) (by omega)).mono ?_
      rintro e w' ⟨rfl, rfl⟩
      generalize hx : evenR _ = x
      have HX : Hid (evenR (paN f v b % 8) = x) := Lib.hid (by rw [← hx]; congr 1; unfold paN; rw [H7.out]; simp [hv]; try omega)
      have HY := Lib.hid (show paH f v b = (b % 16 == 0) by unfold paH; rw [H7.out, if_pos rfl, if_pos hv])
      clear hx
      cases x
      · go_wp2
        go_ret
        exact ⟨ret_int (pa_odd HY.out HX.out), rfl⟩
      · go_wp2
        go_ret
        exact ⟨ret_int (pa_even HY.out HX.out), rfl⟩
    · go_enter Try.func23, Try.ntmps23
      go_wp2_with fail
      refine (again_any _ _ _ f0 f1 p0 p1).mono ?_
      rintro e w' ⟨rfl, rfl⟩
      go_wp2_with fail
      refine (has_any _ _ _).mono ?_
      rintro e w' ⟨rfl, rfl⟩
      rw [HH.out, H7.out]
      go_wp2_with fail
      refine (has_any _ _ _).mono ?_
      rintro e w' ⟨rfl, rfl⟩
      rw [HH.out, H7.out]
      go_wp2_with fail
      refine (with_any _ _ _ _).mono ?_
      rintro e w' ⟨rfl, rfl⟩
      go_wp2_with fail
      refine (evenP_any _ _ (by omega) (by omega)).mono ?_
      rintro e w' ⟨rfl, rfl⟩
      generalize hx : evenR _ = x
      have HX : Hid (evenR (paN f v b % 8) = x) := Lib.hid (by rw [← hx]; congr 1; unfold paN; rw [H7.out]; simp [hv]; try omega)
      have HY := Lib.hid (show paH f v b = (b % 16 == 15) by unfold paH; rw [H7.out, if_pos rfl, if_neg (by omega)])
      clear hx
      cases x
      · go_wp2
        go_ret
        exact ⟨ret_int (pa_odd HY.out HX.out), rfl⟩
      · go_wp2
        go_ret
        exact ⟨ret_int (pa_even HY.out HX.out), rfl⟩
  · go_enter Try.func23, Try.ntmps23
    go_wp2_with fail
    refine (again_any _ _ _ f0 f1 p0 p1).mono ?_
    rintro e w' ⟨rfl, rfl⟩
    go_wp2_with fail
    refine (has_any _ _ _).mono ?_
    rintro e w' ⟨rfl, rfl⟩
    rw [HH.out, H7.out]
    go_wp2_with fail
    refine (has_any _ _ _).mono ?_
    rintro e w' ⟨rfl, rfl⟩
    rw [HH.out, H7.out]
    go_wp2_with fail
    refine (evenP_any _ _ (by omega) (by omega)).mono ?_
    rintro e w' ⟨rfl, rfl⟩
    generalize hx : evenR _ = x
    have HX : Hid (evenR (paN f v b % 8) = x) := Lib.hid (by rw [← hx]; congr 1; unfold paN; rw [H7.out]; simp []; try omega)
    have HY := Lib.hid (show paH f v b = bitH f 3 by unfold paH; rw [H7.out]; rfl)
    clear hx
    cases x
    · go_wp2
      go_ret
      exact ⟨ret_int (pa_odd0 HY.out HX.out), rfl⟩
    · go_wp2
      go_ret
      exact ⟨ret_int (pa_even0 HY.out HX.out), rfl⟩

end Go.Proofs.Ytcjnnenmgliakaa
