/- The contracts of the document's answer for layer 5 (squealref05): Copy, Find, mixed, Port, Again, PortAgain. -/
import Derived.Test.YtcjnnenmgliakaaAlu
import Derived.Test.YtcjnnenmgliakaaP05
namespace Go.Proofs.Ytcjnnenmgliakaa
open Go.RowKit

set_option maxHeartbeats 2000000 in
theorem copyR_any (a v bc f : Int) (w : World) (a0 : 0 ≤ a) (a1 : a ≤ 255) (v0 : 0 ≤ v) (v1 : v ≤ 255) (bc0 : 0 ≤ bc) (bc1 : bc ≤ 65535) (f0 : 0 ≤ f) (f1 : f ≤ 255) :
    Calls Try.prog 31 #[.int .u8 a, .int .u8 v, .int .u16 bc, .int .u8 f] w fun e w' => e = .returned (.int .u8 (copyF a v bc f)) ∧ Below w.heap.size w w' := by
  go_enter Try.func31, Try.ntmps31
  go_wp2_with fail
  refine (bits_any _ _ f0 f1).mono ?_
  rintro e v0 ⟨v, rfl, ⟨g, c0, rfl, hc0, _, hg0, hr0⟩, hb0⟩
  have HB0 := hb0
  have HR0 := Lib.hid hr0
  clear hr0
  go_wp2_with fail
  go_region_held3 (fun w' => Below w.heap.size w w' ∧ g < w'.heap.size ∧ w'.cell? ⟨g, 0, none⟩ = some (.bool (bitH f 0)) ∧ w'.cell? ⟨g, 1, none⟩ = some (.bool (bitH f 1)) ∧ w'.cell? ⟨g, 2, none⟩ = some (.bool (bitH f 2)) ∧ w'.cell? ⟨g, 3, none⟩ = some (.bool (bitH f 3)) ∧ w'.cell? ⟨g, 4, none⟩ = some (.bool (bitH f 4)) ∧ w'.cell? ⟨g, 5, none⟩ = some (.bool (bitH f 5)) ∧ w'.cell? ⟨g, 6, none⟩ = some (.bool (bitH f 6)) ∧ w'.cell? ⟨g, 7, none⟩ = some (.bool (bitH f 7)))
    (first | exact start8_1 HB0 HR0.out | exact keep8_1 (by assumption) hbB)
    (first
      | (go_at_call 38; refine (bit_any _ _ _ (by omega) (by omega) (by omega) (by omega)).mono ?_; rintro e wB ⟨rfl, hbB⟩)
      | (go_at_call 37; refine (flags_any _ _ _ _ _ _ _ _ _).mono ?_; rintro e wB ⟨rfl, hbB⟩))
  all_goals
    go_wp2
    go_ret
    rename_i hH
    exact ⟨ret_int rfl, hH.1⟩

set_option maxHeartbeats 2000000 in
theorem findR_Yes (a v bc f : Int) (w : World) (a0 : 0 ≤ a) (a1 : a ≤ 255) (v0 : 0 ≤ v) (v1 : v ≤ 255) (bc0 : 0 ≤ bc) (bc1 : bc ≤ 65535) (f0 : 0 ≤ f) (f1 : f ≤ 255) (e3 : bitH (subF a v false) 3 = true) :
    Calls Try.prog 33 #[.int .u8 a, .int .u8 v, .int .u16 bc, .int .u8 f] w fun e w' => e = .returned (.int .u8 (findF a v bc f)) ∧ Below w.heap.size w w' := by
  obtain ⟨s0, s1⟩ := subF_bd a v false
  obtain ⟨r0, r1⟩ := subR_bd a v false
  have eN : (subR a v false + 255) % 256 = findN a v := by unfold findN; rw [e3, if_pos rfl]
  obtain ⟨n0, n1⟩ := findN_bd a v
  have ew : IntKind.u8.wrap (findN a v) = findN a v := IntWalk.u8_in _ (by omega)
  go_enter Try.func33, Try.ntmps33
  go_wp2_with fail
  refine (sub_ref _ _ _ _ a0 a1 v0 v1).mono ?_
  rintro e w0 ⟨rfl, hbs⟩
  go_wp2_with fail
  refine (bits_any _ _ s0 s1).mono ?_
  rintro e v0 ⟨v, rfl, ⟨g, c0, rfl, hc0, _, hg0, hr0⟩, hb0⟩
  have HB0 := bthen hbs hb0
  have HR0 := Lib.hid hr0
  clear hr0
  have q3 := HR0.out.2 3 (by omega)
  have hz := HR0.out.1
  go_wp2_with fail
  clear q3 hz
  go_region_held3 (fun w' => Below w.heap.size w w' ∧ g < w'.heap.size ∧ w'.cell? ⟨g, 0, none⟩ = some (.bool (bitH (subF a v false) 0)) ∧ w'.cell? ⟨g, 1, none⟩ = some (.bool (bitH (subF a v false) 1)) ∧ w'.cell? ⟨g, 2, none⟩ = some (.bool (bitH (subF a v false) 2)) ∧ w'.cell? ⟨g, 3, none⟩ = some (.bool (bitH (subF a v false) 3)) ∧ w'.cell? ⟨g, 4, none⟩ = some (.bool (bitH (subF a v false) 4)) ∧ w'.cell? ⟨g, 5, none⟩ = some (.bool (bitH (subF a v false) 5)) ∧ w'.cell? ⟨g, 6, none⟩ = some (.bool (bitH (subF a v false) 6)) ∧ w'.cell? ⟨g, 7, none⟩ = some (.bool (bitH (subF a v false) 7)))
    (first | exact start8_1 HB0 HR0.out | exact keep8_1 (by assumption) hbB)
    (first
      | (go_at_call 38; refine (bit_any _ _ _ (by omega) (by omega) (by omega) (by omega)).mono ?_; rintro e wB ⟨rfl, hbB⟩)
      | (go_at_call 37; refine (flags_any _ _ _ _ _ _ _ _ _).mono ?_; rintro e wB ⟨rfl, hbB⟩))
  all_goals
    go_wp2
    go_ret
    rename_i hH
    exact ⟨ret_int (by unfold findF; first | rfl | rw [e3]), hH.1⟩

set_option maxHeartbeats 2000000 in
theorem findR_No (a v bc f : Int) (w : World) (a0 : 0 ≤ a) (a1 : a ≤ 255) (v0 : 0 ≤ v) (v1 : v ≤ 255) (bc0 : 0 ≤ bc) (bc1 : bc ≤ 65535) (f0 : 0 ≤ f) (f1 : f ≤ 255) (e3 : bitH (subF a v false) 3 = false) :
    Calls Try.prog 33 #[.int .u8 a, .int .u8 v, .int .u16 bc, .int .u8 f] w fun e w' => e = .returned (.int .u8 (findF a v bc f)) ∧ Below w.heap.size w w' := by
  obtain ⟨s0, s1⟩ := subF_bd a v false
  obtain ⟨r0, r1⟩ := subR_bd a v false
  have HN := Lib.hid (show subR a v false = findN a v by unfold findN; rw [e3]; rfl)
  obtain ⟨n0, n1⟩ := findN_bd a v
  have ew : IntKind.u8.wrap (subR a v false) = subR a v false := IntWalk.u8_in _ (by omega)
  go_enter Try.func33, Try.ntmps33
  go_wp2_with fail
  refine (sub_ref _ _ _ _ a0 a1 v0 v1).mono ?_
  rintro e w0 ⟨rfl, hbs⟩
  go_wp2_with fail
  refine (bits_any _ _ s0 s1).mono ?_
  rintro e v0 ⟨v, rfl, ⟨g, c0, rfl, hc0, _, hg0, hr0⟩, hb0⟩
  have HB0 := bthen hbs hb0
  have HR0 := Lib.hid hr0
  clear hr0
  have q3 := HR0.out.2 3 (by omega)
  have hz := HR0.out.1
  go_wp2_with fail
  clear q3 hz
  go_region_held3 (fun w' => Below w.heap.size w w' ∧ g < w'.heap.size ∧ w'.cell? ⟨g, 0, none⟩ = some (.bool (bitH (subF a v false) 0)) ∧ w'.cell? ⟨g, 1, none⟩ = some (.bool (bitH (subF a v false) 1)) ∧ w'.cell? ⟨g, 2, none⟩ = some (.bool (bitH (subF a v false) 2)) ∧ w'.cell? ⟨g, 3, none⟩ = some (.bool (bitH (subF a v false) 3)) ∧ w'.cell? ⟨g, 4, none⟩ = some (.bool (bitH (subF a v false) 4)) ∧ w'.cell? ⟨g, 5, none⟩ = some (.bool (bitH (subF a v false) 5)) ∧ w'.cell? ⟨g, 6, none⟩ = some (.bool (bitH (subF a v false) 6)) ∧ w'.cell? ⟨g, 7, none⟩ = some (.bool (bitH (subF a v false) 7)))
    (first | exact start8_1 HB0 HR0.out | exact keep8_1 (by assumption) hbB)
    (first
      | (go_at_call 38; refine (bit_any _ _ _ (by omega) (by omega) (by omega) (by omega)).mono ?_; rintro e wB ⟨rfl, hbB⟩)
      | (go_at_call 37; refine (flags_any _ _ _ _ _ _ _ _ _).mono ?_; rintro e wB ⟨rfl, hbB⟩))
  all_goals
    go_wp2
    go_ret
    rename_i hH
    exact ⟨ret_int (by unfold findF; rw [← HN.out]; first | rfl | rw [e3]), hH.1⟩

theorem findR_any (a v bc f : Int) (w : World) (a0 : 0 ≤ a) (a1 : a ≤ 255) (v0 : 0 ≤ v) (v1 : v ≤ 255) (bc0 : 0 ≤ bc) (bc1 : bc ≤ 65535) (f0 : 0 ≤ f) (f1 : f ≤ 255) :
    Calls Try.prog 33 #[.int .u8 a, .int .u8 v, .int .u16 bc, .int .u8 f] w fun e w' => e = .returned (.int .u8 (findF a v bc f)) ∧ Below w.heap.size w w' := by
  rcases (show bitH (subF a v false) 3 = true ∨ bitH (subF a v false) 3 = false from by cases bitH (subF a v false) 3 <;> simp) with e3 | e3
  · exact findR_Yes a v bc f w a0 a1 v0 v1 bc0 bc1 f0 f1 e3
  · exact findR_No a v bc f w a0 a1 v0 v1 bc0 bc1 f0 f1 e3

set_option maxHeartbeats 2000000 in
theorem againR_any (f pc : Int) (w : World) (f0 : 0 ≤ f) (f1 : f ≤ 255) (pc0 : 0 ≤ pc) (pc1 : pc ≤ 65535) :
    Calls Try.prog 22 #[.int .u8 f, .int .u16 pc] w fun e w' => e = .returned (.int .u8 (againF f pc)) ∧ Below w.heap.size w w' := by
  go_enter Try.func22, Try.ntmps22
  go_wp2_with fail
  refine (bits_any _ _ f0 f1).mono ?_
  rintro e v0 ⟨v, rfl, ⟨g, c0, rfl, hc0, _, hg0, hr0⟩, hb0⟩
  have HB0 := hb0
  have HR0 := Lib.hid hr0
  clear hr0
  go_wp2_with fail
  go_region_held3 (fun w' => Below w.heap.size w w' ∧ g < w'.heap.size ∧ w'.cell? ⟨g, 0, none⟩ = some (.bool (bitH f 0)) ∧ w'.cell? ⟨g, 1, none⟩ = some (.bool (bitH f 1)) ∧ w'.cell? ⟨g, 2, none⟩ = some (.bool (bitH f 2)) ∧ w'.cell? ⟨g, 3, none⟩ = some (.bool (bitH f 3)) ∧ w'.cell? ⟨g, 4, none⟩ = some (.bool (bitH f 4)) ∧ w'.cell? ⟨g, 5, none⟩ = some (.bool (bitH f 5)) ∧ w'.cell? ⟨g, 6, none⟩ = some (.bool (bitH f 6)) ∧ w'.cell? ⟨g, 7, none⟩ = some (.bool (bitH f 7)))
    (first | exact start8_1 HB0 HR0.out | exact keep8_1 (by assumption) hbB)
    (first
      | (go_at_call 38; refine (bit_any _ _ _ (by omega) (by omega) (by omega) (by omega)).mono ?_; rintro e wB ⟨rfl, hbB⟩)
      | (go_at_call 37; refine (flags_any _ _ _ _ _ _ _ _ _).mono ?_; rintro e wB ⟨rfl, hbB⟩))
  all_goals
    go_wp2
    go_ret
    rename_i hH
    exact ⟨ret_int rfl, hH.1⟩

end Go.Proofs.Ytcjnnenmgliakaa
