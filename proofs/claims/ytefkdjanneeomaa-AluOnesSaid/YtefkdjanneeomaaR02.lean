/- The contracts of the document's answer for layer 2, the second part: Mix, Keep, Cpl, Daa, Join, Scf, Ccf, Do. -/
import Derived.Test.YtefkdjanneeomaaAlu
import Derived.Test.YtefkdjanneeomaaP02b
namespace Go.Proofs.Ytefkdjanneeomaa
open Go.RowKit

set_option maxHeartbeats 2000000 in
theorem mixR_any (f b : Int) (w : World) (f0 : 0 ≤ f) (f1 : f ≤ 255) (b0 : 0 ≤ b) (b1 : b ≤ 255) :
    Calls Try.prog 35 #[.int .u8 f, .int .u8 b] w fun e w' => e = .returned (.int .u8 (mixF f b)) ∧ Below w.heap.size w w' := by
  go_enter Try.func35, Try.ntmps35
  go_wp2_with fail
  refine (bits_any _ _ f0 f1).mono ?_
  rintro e v0 ⟨v, rfl, ⟨g, c0, rfl, hc0, _, hg0, hr0⟩, hb0⟩
  have HB0 := hb0
  have HR0 := Lib.hid hr0
  clear hr0
  go_wp2_with fail
  go_region_held3 (fun w' => Below w.heap.size w w' ∧ g < w'.heap.size ∧ w'.cell? ⟨g, 0, none⟩ = some (.bool (bitH f 0)) ∧ w'.cell? ⟨g, 1, none⟩ = some (.bool (bitH f 1)) ∧ w'.cell? ⟨g, 2, none⟩ = some (.bool (bitH f 2)) ∧ w'.cell? ⟨g, 3, none⟩ = some (.bool (bitH f 3)) ∧ w'.cell? ⟨g, 4, none⟩ = some (.bool (bitH f 4)) ∧ w'.cell? ⟨g, 5, none⟩ = some (.bool (bitH f 5)) ∧ w'.cell? ⟨g, 6, none⟩ = some (.bool (bitH f 6)) ∧ w'.cell? ⟨g, 7, none⟩ = some (.bool (bitH f 7)))
    (first | exact start8_1 HB0 HR0.out | exact keep8_1 (by assumption) hbB)
    (first
      | (go_at_call 26; refine (bit_any _ _ _ b0 b1 (by omega) (by omega)).mono ?_; rintro e wB ⟨rfl, hbB⟩)
      | (go_at_call 55; refine (flags_any _ _ _ _ _ _ _ _ _).mono ?_; rintro e wB ⟨rfl, hbB⟩))
  all_goals
    go_wp2
    go_ret
    exact ⟨ret_int rfl, by rename_i hH; exact hH.1⟩

set_option maxHeartbeats 2000000 in
theorem keepR_any (f b : Int) (w : World) (f0 : 0 ≤ f) (f1 : f ≤ 255) (b0 : 0 ≤ b) (b1 : b ≤ 255) :
    Calls Try.prog 42 #[.int .u8 f, .int .u8 b] w fun e w' => e = .returned (.int .u8 (keepF f b)) ∧ Below w.heap.size w w' := by
  go_enter Try.func42, Try.ntmps42
  go_wp2_with fail
  refine (bits_any _ _ f0 f1).mono ?_
  rintro e v0 ⟨v, rfl, ⟨g, c0, rfl, hc0, _, hg0, hr0⟩, hb0⟩
  have HB0 := hb0
  have HR0 := Lib.hid hr0
  clear hr0
  go_wp2_with fail
  go_region_held3 (fun w' => Below w.heap.size w w' ∧ g < w'.heap.size ∧ w'.cell? ⟨g, 0, none⟩ = some (.bool (bitH f 0)) ∧ w'.cell? ⟨g, 1, none⟩ = some (.bool (bitH f 1)) ∧ w'.cell? ⟨g, 2, none⟩ = some (.bool (bitH f 2)) ∧ w'.cell? ⟨g, 3, none⟩ = some (.bool (bitH f 3)) ∧ w'.cell? ⟨g, 4, none⟩ = some (.bool (bitH f 4)) ∧ w'.cell? ⟨g, 5, none⟩ = some (.bool (bitH f 5)) ∧ w'.cell? ⟨g, 6, none⟩ = some (.bool (bitH f 6)) ∧ w'.cell? ⟨g, 7, none⟩ = some (.bool (bitH f 7)))
    (first | exact start8_1 HB0 HR0.out | exact keep8_1 (by assumption) hbB)
    (first
      | (go_at_call 26; refine (bit_any _ _ _ b0 b1 (by omega) (by omega)).mono ?_; rintro e wB ⟨rfl, hbB⟩)
      | (go_at_call 55; refine (flags_any _ _ _ _ _ _ _ _ _).mono ?_; rintro e wB ⟨rfl, hbB⟩))
  all_goals
    go_wp2
    go_ret
    exact ⟨ret_int rfl, by rename_i hH; exact hH.1⟩

set_option maxHeartbeats 2000000 in
theorem cplR_any (a f : Int) (w : World) (a0 : 0 ≤ a) (a1 : a ≤ 255) (f0 : 0 ≤ f) (f1 : f ≤ 255) :
    Calls Try.prog 40 #[.int .u8 a, .int .u8 f] w fun e w' => e = .returned (.tuple #[.int .u8 (255 - a), .int .u8 (cplF a f)]) ∧ Below w.heap.size w w' := by
  go_enter Try.func40, Try.ntmps40
  go_wp2_with fail
  refine (bits_any _ _ f0 f1).mono ?_
  rintro e v0 ⟨v, rfl, ⟨g, c0, rfl, hc0, _, hg0, hr0⟩, hb0⟩
  have HB0 := hb0
  have HR0 := Lib.hid hr0
  clear hr0
  go_wp2_with fail
  go_region_held3 (fun w' => Below w.heap.size w w' ∧ g < w'.heap.size ∧ w'.cell? ⟨g, 0, none⟩ = some (.bool (bitH f 0)) ∧ w'.cell? ⟨g, 1, none⟩ = some (.bool (bitH f 1)) ∧ w'.cell? ⟨g, 2, none⟩ = some (.bool (bitH f 2)) ∧ w'.cell? ⟨g, 3, none⟩ = some (.bool (bitH f 3)) ∧ w'.cell? ⟨g, 4, none⟩ = some (.bool (bitH f 4)) ∧ w'.cell? ⟨g, 5, none⟩ = some (.bool (bitH f 5)) ∧ w'.cell? ⟨g, 6, none⟩ = some (.bool (bitH f 6)) ∧ w'.cell? ⟨g, 7, none⟩ = some (.bool (bitH f 7)))
    (first | exact start8_1 HB0 HR0.out | exact keep8_1 (by assumption) hbB)
    (first
      | (go_at_call 26; refine (bit_any _ _ _ (by omega) (by omega) (by omega) (by omega)).mono ?_; rintro e wB ⟨rfl, hbB⟩)
      | (go_at_call 55; refine (flags_any _ _ _ _ _ _ _ _ _).mono ?_; rintro e wB ⟨rfl, hbB⟩))
  all_goals
    go_wp2
    go_ret2
    exact ⟨ret_two rfl rfl, by rename_i hH; exact hH.1⟩

set_option maxHeartbeats 2000000 in
theorem scfR_any (a f q : Int) (w : World) (a0 : 0 ≤ a) (a1 : a ≤ 255) (f0 : 0 ≤ f) (f1 : f ≤ 255) (q0 : 0 ≤ q) (q1 : q ≤ 255) :
    Calls Try.prog 29 #[.int .u8 a, .int .u8 f, .int .u8 q] w fun e w' => e = .returned (.int .u8 (scfF a f q)) ∧ Below w.heap.size w w' := by
  have HF : ∀ u2 u4, (bitH f 2 != bitH q 2) = u2 → (bitH f 4 != bitH q 4) = u4 → scfF a f q = flagsS (bitH f 0) (bitH f 1) (u2 || bitH a 2) false (u4 || bitH a 4) (bitH f 5) false true := by rintro u2 u4 rfl rfl; rfl
  have HF := Lib.hid HF
  obtain ⟨u2, hu2⟩ : ∃ u, (bitH f 2 == bitH q 2) = u := ⟨_, rfl⟩
  obtain ⟨u4, hu4⟩ : ∃ u, (bitH f 4 == bitH q 4) = u := ⟨_, rfl⟩
  have HU2 := Lib.hid hu2
  have HU4 := Lib.hid hu4
  clear hu2 hu4
  go_enter Try.func29, Try.ntmps29
  go_wp2_with fail
  refine (bits_any _ _ f0 f1).mono ?_
  rintro e v0 ⟨v, rfl, ⟨g, c0, rfl, hc0, _, hg0, hr0⟩, hb0⟩
  have HB0 := hb0
  go_wp2_with fail
  refine (bits_any _ _ q0 q1).mono ?_
  rintro e v1 ⟨v, rfl, ⟨g', c1, rfl, hc1, _, hg1, hr1⟩, hb1⟩
  have HB1 := bthen HB0 hb1
  have hr0 := hr0.below' hb1
  go_wp2_with fail
  refine (bits_any _ _ a0 a1).mono ?_
  rintro e v2 ⟨v, rfl, ⟨g'', c2, rfl, hc2, _, hg2, hr2⟩, hb2⟩
  have HB2 := bthen HB1 hb2
  have hr0 := hr0.below' hb2
  have hr1 := hr1.below' hb2
  have HR0 := Lib.hid hr0
  clear hr0
  have HR1 := Lib.hid hr1
  clear hr1
  have HR2 := Lib.hid hr2
  clear hr2
  go_wp2_with fail
  have x0 := HR0.out.2 0 (by omega)
  have x1 := HR0.out.2 1 (by omega)
  have x2 := HR0.out.2 2 (by omega)
  have x4 := HR0.out.2 4 (by omega)
  have x5 := HR0.out.2 5 (by omega)
  have y2 := HR1.out.2 2 (by omega)
  have y4 := HR1.out.2 4 (by omega)
  have z2 := HR2.out.2 2 (by omega)
  have z4 := HR2.out.2 4 (by omega)
  have hu2 := HU2.out
  have hu4 := HU4.out
  cases u2
  all_goals cases u4
  all_goals
    refine region_tail 33 (by kernel_rfl) (by kernel_rfl) ?_
    simp only [List.take_succ_cons, List.take_zero, List.drop_succ_cons, List.drop_zero]
    repeat (first | still_step | (refine still_skip (by rfl) ?_) | (refine still_want (by rfl) (fun K hK => ?_); go_simp; refine hK _ ?_; clear hK K))
    refine wpStill_nil ?_
    generalize hw2 : v2.drew = v2'
    have HB2' : Below w.heap.size w v2' := by rw [← hw2]; exact HB2.drew
    clear x0 x1 x2 x4 x5 y2 y4 z2 z4 hw2
    go_wp2_with fail
    refine (flags_any _ _ _ _ _ _ _ _ _).mono ?_
    rintro e v3 ⟨rfl, hb3⟩
    go_wp2
    go_ret
    exact ⟨ret_int (by rw [HF.out _ _ (congrArg (fun x => !x) HU2.out) (congrArg (fun x => !x) HU4.out)]; rfl), bthen HB2' hb3⟩

set_option maxHeartbeats 2000000 in
theorem ccfR_any (a f q : Int) (w : World) (a0 : 0 ≤ a) (a1 : a ≤ 255) (f0 : 0 ≤ f) (f1 : f ≤ 255) (q0 : 0 ≤ q) (q1 : q ≤ 255) :
    Calls Try.prog 31 #[.int .u8 a, .int .u8 f, .int .u8 q] w fun e w' => e = .returned (.int .u8 (ccfF a f q)) ∧ Below w.heap.size w w' := by
  have HF : ∀ u2 u4, (bitH f 2 != bitH q 2) = u2 → (bitH f 4 != bitH q 4) = u4 → ccfF a f q = flagsS (bitH f 0) (bitH f 1) (u2 || bitH a 2) (bitH f 7) (u4 || bitH a 4) (bitH f 5) false (!(bitH f 7)) := by rintro u2 u4 rfl rfl; rfl
  have HF := Lib.hid HF
  obtain ⟨u2, hu2⟩ : ∃ u, (bitH f 2 == bitH q 2) = u := ⟨_, rfl⟩
  obtain ⟨u4, hu4⟩ : ∃ u, (bitH f 4 == bitH q 4) = u := ⟨_, rfl⟩
  have HU2 := Lib.hid hu2
  have HU4 := Lib.hid hu4
  clear hu2 hu4
  go_enter Try.func31, Try.ntmps31
  go_wp2_with fail
  refine (bits_any _ _ f0 f1).mono ?_
  rintro e v0 ⟨v, rfl, ⟨g, c0, rfl, hc0, _, hg0, hr0⟩, hb0⟩
  have HB0 := hb0
  go_wp2_with fail
  refine (bits_any _ _ q0 q1).mono ?_
  rintro e v1 ⟨v, rfl, ⟨g', c1, rfl, hc1, _, hg1, hr1⟩, hb1⟩
  have HB1 := bthen HB0 hb1
  have hr0 := hr0.below' hb1
  go_wp2_with fail
  refine (bits_any _ _ a0 a1).mono ?_
  rintro e v2 ⟨v, rfl, ⟨g'', c2, rfl, hc2, _, hg2, hr2⟩, hb2⟩
  have HB2 := bthen HB1 hb2
  have hr0 := hr0.below' hb2
  have hr1 := hr1.below' hb2
  have HR0 := Lib.hid hr0
  clear hr0
  have HR1 := Lib.hid hr1
  clear hr1
  have HR2 := Lib.hid hr2
  clear hr2
  go_wp2_with fail
  have x0 := HR0.out.2 0 (by omega)
  have x1 := HR0.out.2 1 (by omega)
  have x2 := HR0.out.2 2 (by omega)
  have x4 := HR0.out.2 4 (by omega)
  have x5 := HR0.out.2 5 (by omega)
  have x7 := HR0.out.2 7 (by omega)
  have y2 := HR1.out.2 2 (by omega)
  have y4 := HR1.out.2 4 (by omega)
  have z2 := HR2.out.2 2 (by omega)
  have z4 := HR2.out.2 4 (by omega)
  have hu2 := HU2.out
  have hu4 := HU4.out
  cases u2
  all_goals cases u4
  all_goals
    refine region_tail 40 (by kernel_rfl) (by kernel_rfl) ?_
    simp only [List.take_succ_cons, List.take_zero, List.drop_succ_cons, List.drop_zero]
    repeat (first | still_step | (refine still_skip (by rfl) ?_) | (refine still_want (by rfl) (fun K hK => ?_); go_simp; refine hK _ ?_; clear hK K))
    refine wpStill_nil ?_
    generalize hw2 : v2.drew = v2'
    have HB2' : Below w.heap.size w v2' := by rw [← hw2]; exact HB2.drew
    clear x0 x1 x2 x4 x5 x7 y2 y4 z2 z4 hw2
    go_wp2_with fail
    refine (flags_any _ _ _ _ _ _ _ _ _).mono ?_
    rintro e v3 ⟨rfl, hb3⟩
    go_wp2
    go_ret
    exact ⟨ret_int (by rw [HF.out _ _ (congrArg (fun x => !x) HU2.out) (congrArg (fun x => !x) HU4.out)]; rfl), bthen HB2' hb3⟩

end Go.Proofs.Ytefkdjanneeomaa
