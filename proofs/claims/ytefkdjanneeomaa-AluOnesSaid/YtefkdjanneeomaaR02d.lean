/- The contracts of the document's answer for layer 2, the third part: Daa. -/
import Derived.Test.YtefkdjanneeomaaR02
namespace Go.Proofs.Ytefkdjanneeomaa
open Go.RowKit

set_option maxHeartbeats 16000000 in
theorem daaR_false (a f : Int) (w : World) (a0 : 0 ≤ a) (a1 : a ≤ 255) (f0 : 0 ≤ f) (f1 : f ≤ 255) (e6 : bitH f 6 = false) :
    Calls Try.prog 41 #[.int .u8 a, .int .u8 f] w fun e w' => e = .returned (.tuple #[.int .u8 (daaR a f), .int .u8 (daaF a f)]) ∧ Below w.heap.size w w' := by
  have HF : ∀ r x y z, r = daaR a f → x = bitH f 6 → y = daaH a f → z = daaC a f → flagsS (bitH r 0) (r == 0) (bitH r 2) y (bitH r 4) (evenR r) x z = daaF a f := by
    rintro r x y z rfl rfl rfl rfl
    rfl
  have HF := Lib.hid HF
  by_cases hlow : 9 < a % 16
  all_goals by_cases hhi : 153 < a
  all_goals rcases (show bitH f 3 = true ∨ bitH f 3 = false from by cases bitH f 3 <;> simp) with e3 | e3
  all_goals rcases (show bitH f 7 = true ∨ bitH f 7 = false from by cases bitH f 7 <;> simp) with e7 | e7
  all_goals
    have HR : Hid (daaR a f = _ ∧ daaH a f = _ ∧ daaC a f = _) := ⟨by unfold daaR daaD; rw [e6, e3, e7], by unfold daaH; rw [e6, e3], by unfold daaC; rw [e7]⟩
    go_enter Try.func41, Try.ntmps41
    go_wp2_with fail
    refine (bits_any _ _ f0 f1).mono ?_
    rintro e v0 ⟨v, rfl, ⟨g, c0, rfl, hc0, _, hg0, hr0⟩, hb0⟩
    have HB0 := hb0
    have HR0 := Lib.hid hr0
    clear hr0
    have q3 := HR0.out.2 3 (by omega)
    have q6 := HR0.out.2 6 (by omega)
    have q7 := HR0.out.2 7 (by omega)
    have hz := HR0.out.1
    go_wp2_with fail
    refine (mod2_any _ _ (by omega) (by omega)).mono ?_
    rintro e w' ⟨rfl, rfl⟩
    go_wp2_with fail
    clear q3 q6 q7 hz
    go_region_held3 (fun w' => Below w.heap.size w w' ∧ g < w'.heap.size ∧ w'.cell? ⟨g, 0, none⟩ = some (.bool (bitH f 0)) ∧ w'.cell? ⟨g, 1, none⟩ = some (.bool (bitH f 1)) ∧ w'.cell? ⟨g, 2, none⟩ = some (.bool (bitH f 2)) ∧ w'.cell? ⟨g, 3, none⟩ = some (.bool (bitH f 3)) ∧ w'.cell? ⟨g, 4, none⟩ = some (.bool (bitH f 4)) ∧ w'.cell? ⟨g, 5, none⟩ = some (.bool (bitH f 5)) ∧ w'.cell? ⟨g, 6, none⟩ = some (.bool (bitH f 6)) ∧ w'.cell? ⟨g, 7, none⟩ = some (.bool (bitH f 7)))
      (first | exact start8_1 HB0 HR0.out | exact keep8_1 (by assumption) hbB)
      (first
        | (go_at_call 26; refine (bit_any _ _ _ (by omega) (by omega) (by omega) (by omega)).mono ?_; rintro e wB ⟨rfl, hbB⟩)
        | (go_at_call 56; refine (even_ref _ _ (by omega) (by omega)).mono ?_; rintro e wB ⟨rfl, hbB⟩)
        | (go_at_call 55; refine (flags_any _ _ _ _ _ _ _ _ _).mono ?_; rintro e wB ⟨rfl, hbB⟩))
    go_wp2
    go_ret2
    rename_i hH
    have hr := HR.out
    simp [hlow, hhi] at hr
    refine ⟨ret_two ?_ (HF.out _ _ _ _ ?_ ?_ ?_ ?_), hH.1⟩
    all_goals first | exact hr.1.symm | exact hr.2.1.symm | exact hr.2.2.symm | exact e6.symm | rfl | (rw [hr.1]; omega) | (rw [hr.2.1]; simp; omega) | (rw [hr.2.1]; simp [hlow]; done)

set_option maxHeartbeats 16000000 in
theorem daaR_true (a f : Int) (w : World) (a0 : 0 ≤ a) (a1 : a ≤ 255) (f0 : 0 ≤ f) (f1 : f ≤ 255) (e6 : bitH f 6 = true) :
    Calls Try.prog 41 #[.int .u8 a, .int .u8 f] w fun e w' => e = .returned (.tuple #[.int .u8 (daaR a f), .int .u8 (daaF a f)]) ∧ Below w.heap.size w w' := by
  have HF : ∀ r x y z, r = daaR a f → x = bitH f 6 → y = daaH a f → z = daaC a f → flagsS (bitH r 0) (r == 0) (bitH r 2) y (bitH r 4) (evenR r) x z = daaF a f := by
    rintro r x y z rfl rfl rfl rfl
    rfl
  have HF := Lib.hid HF
  by_cases hlow : 9 < a % 16
  all_goals by_cases hhi : 153 < a
  all_goals rcases (show bitH f 3 = true ∨ bitH f 3 = false from by cases bitH f 3 <;> simp) with e3 | e3
  all_goals rcases (show bitH f 7 = true ∨ bitH f 7 = false from by cases bitH f 7 <;> simp) with e7 | e7
  all_goals
    have HR : Hid (daaR a f = _ ∧ daaH a f = _ ∧ daaC a f = _) := ⟨by unfold daaR daaD; rw [e6, e3, e7], by unfold daaH; rw [e6, e3], by unfold daaC; rw [e7]⟩
    go_enter Try.func41, Try.ntmps41
    go_wp2_with fail
    refine (bits_any _ _ f0 f1).mono ?_
    rintro e v0 ⟨v, rfl, ⟨g, c0, rfl, hc0, _, hg0, hr0⟩, hb0⟩
    have HB0 := hb0
    have HR0 := Lib.hid hr0
    clear hr0
    have q3 := HR0.out.2 3 (by omega)
    have q6 := HR0.out.2 6 (by omega)
    have q7 := HR0.out.2 7 (by omega)
    have hz := HR0.out.1
    go_wp2_with fail
    refine (mod2_any _ _ (by omega) (by omega)).mono ?_
    rintro e w' ⟨rfl, rfl⟩
    go_wp2_with fail
    refine (mod2_any _ _ (by omega) (by omega)).mono ?_
    rintro e w' ⟨rfl, rfl⟩
    go_wp2_with fail
    clear q3 q6 q7 hz
    go_region_held3 (fun w' => Below w.heap.size w w' ∧ g < w'.heap.size ∧ w'.cell? ⟨g, 0, none⟩ = some (.bool (bitH f 0)) ∧ w'.cell? ⟨g, 1, none⟩ = some (.bool (bitH f 1)) ∧ w'.cell? ⟨g, 2, none⟩ = some (.bool (bitH f 2)) ∧ w'.cell? ⟨g, 3, none⟩ = some (.bool (bitH f 3)) ∧ w'.cell? ⟨g, 4, none⟩ = some (.bool (bitH f 4)) ∧ w'.cell? ⟨g, 5, none⟩ = some (.bool (bitH f 5)) ∧ w'.cell? ⟨g, 6, none⟩ = some (.bool (bitH f 6)) ∧ w'.cell? ⟨g, 7, none⟩ = some (.bool (bitH f 7)))
      (first | exact start8_1 HB0 HR0.out | exact keep8_1 (by assumption) hbB)
      (first
        | (go_at_call 26; refine (bit_any _ _ _ (by omega) (by omega) (by omega) (by omega)).mono ?_; rintro e wB ⟨rfl, hbB⟩)
        | (go_at_call 56; refine (even_ref _ _ (by omega) (by omega)).mono ?_; rintro e wB ⟨rfl, hbB⟩)
        | (go_at_call 55; refine (flags_any _ _ _ _ _ _ _ _ _).mono ?_; rintro e wB ⟨rfl, hbB⟩))
    go_wp2
    go_ret2
    rename_i hH
    have hr := HR.out
    simp [hlow, hhi] at hr
    refine ⟨ret_two ?_ (HF.out _ _ _ _ ?_ ?_ ?_ ?_), hH.1⟩
    all_goals first | exact hr.1.symm | exact hr.2.1.symm | exact hr.2.2.symm | exact e6.symm | rfl | (rw [hr.1]; omega) | (rw [hr.2.1]; simp; omega) | (rw [hr.2.1]; simp [hlow]; done)

theorem daaR_any (a f : Int) (w : World) (a0 : 0 ≤ a) (a1 : a ≤ 255) (f0 : 0 ≤ f) (f1 : f ≤ 255) :
    Calls Try.prog 41 #[.int .u8 a, .int .u8 f] w fun e w' => e = .returned (.tuple #[.int .u8 (daaR a f), .int .u8 (daaF a f)]) ∧ Below w.heap.size w w' := by
  rcases (show bitH f 6 = true ∨ bitH f 6 = false from by cases bitH f 6 <;> simp) with e6 | e6
  · exact daaR_true a f w a0 a1 f0 f1 e6
  · exact daaR_false a f w a0 a1 f0 f1 e6

end Go.Proofs.Ytefkdjanneeomaa
