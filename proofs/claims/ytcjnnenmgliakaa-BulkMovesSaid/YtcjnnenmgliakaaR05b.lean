/- The contracts of the document's answer for layer 5, the second part: mixed, Port, PortAgain. -/
import Derived.Test.YtcjnnenmgliakaaR05
namespace Go.Proofs.Ytcjnnenmgliakaa
open Go.RowKit

/-- the cells of the bits that are mixed -/
def mixCells (n b : Int) (j : Nat) : List Value := (List.range j).map fun i => .bool (mixB n b i)
theorem mixCells_succ (n b : Int) (j : Nat) : mixCells n b (j + 1) = mixCells n b j ++ [.bool (mixB n b j)] := by simp [mixCells, List.range_succ]
set_option maxHeartbeats 2000000 in
theorem mixed_any (n b : Int) (w : World) (n0 : 0 ≤ n) (n1 : n ≤ 510) (b0 : 0 ≤ b) (b1 : b ≤ 255) :
    Calls Try.prog 39 #[.int .i64 n, .int .u8 b] w fun e w' => e = .returned (.bool (mixedS n b)) ∧ Below w.heap.size w w' := by
  obtain ⟨i0, hi, hz0, hz1, hz2⟩ := info_parts boolInfo
  go_enter Try.func39, Try.ntmps39
  go_wp2_with fail
  refine (bits_any _ _ (by omega) (by omega)).mono ?_
  rintro e v0 ⟨v, rfl, ⟨g, c0, rfl, hc0, _, hg0, hr0⟩, hb0⟩
  have HB0 := hb0
  go_wp2_with fail
  refine (bits_any _ _ b0 b1).mono ?_
  rintro e v1 ⟨v, rfl, ⟨g', c1, rfl, hc1, _, hg1, hr1⟩, hb1⟩
  have HB1 := bthen HB0 hb1
  have hr0 := hr0.below' hb1
  have HR0 := Lib.hid hr0
  clear hr0
  have HR1 := Lib.hid hr1
  clear hr1
  obtain ⟨M, hM⟩ : ∃ M, M = v1.heap.size := ⟨_, rfl⟩
  have hgM : g < M := by rw [hM]; exact HR0.out.1
  have hgM' : g' < M := by rw [hM]; exact HR1.out.1
  have HM := Lib.hid hM
  clear hM
  have HB := Lib.hid HB1
  clear HB1 HB0
  go_wp2
  go_loopw [7, 8] (fun o i wr => ∃ j : Nat, j ≤ 8 ∧ i = .int .i64 j ∧ wr.ownsRow M 4 1 o j (mixCells n b j) ∧ Below M v1 wr) (fun _ i _ => 8 - (intOf i).toNat)
  case atStart => exact ⟨0, by omega, rfl, World.ownsRow_nil _ _ _ _, Below.refl _ _⟩
  case round =>
    obtain ⟨j, hj, rfl, hown, hbr⟩ := hrel
    by_cases hlt : j < 8
    · have q1 := (hbr.cell (p := ⟨g, j, none⟩) hgM).trans (HR0.out.2 j hlt)
      have q2 := (hbr.cell (p := ⟨g', j, none⟩) hgM').trans (HR1.out.2 j hlt)
      have hMs : M ≤ wr.heap.size := by have := hbr.size; have := HM.out; omega
      have hne1 : some g ≠ u7.ownBlock := fun e => by have := (hown.lt g e.symm).1; omega
      have hne2 : some g' ≠ u7.ownBlock := fun e => by have := (hown.lt g' e.symm).1; omega
      have HNE1 := Lib.hid hne1
      have HNE2 := Lib.hid hne2
      clear hne1 hne2
      have hj0 : (0 : Int) ≤ (j : Int) := Int.natCast_nonneg _
      have hj1 : (j : Int) < 8 := by omega
      go_wp2_with fail
      go_region_held3 (fun w' => w'.cell? ⟨g, j, none⟩ = some (.bool (bitH (n % 8) j)) ∧ w'.cell? ⟨g', j, none⟩ = some (.bool (bitH b j)))
        (first
          | go_keep
          | (refine ⟨?_, ?_⟩
             · (rw [hgrow.cell_far _ (by simp; omega) HNE1.out]; go_keep)
             · (rw [hgrow.cell_far _ (by simp; omega) HNE2.out]; go_keep)))
        ((refine step_append_lies _ (by rfl) _ _ _ (by rfl) M 4 i0 _ 1 1 Try.underlying49 hi hz0 hz1 hz2 rfl (by omega) u7 j (mixCells n b j) (by rfl) ((hown.alloc _).drew) ⟨wr.heap.size, 0, none⟩ 1 1 [.bool (bitH (n % 8) j != bitH b j)] (by rfl) (by rfl) (World.news_of_block (cs := #[.bool (bitH (n % 8) j != bitH b j)]) (t := 4) (fr := (0, 0)) (heap_alloc_new wr _)) (by simp [Value.oneCell']) (by omega) (by unfold maxLen; omega) (by omega) (by simp; omega) (wr.heap.size + 1) (by simp) ?_; intro gg cap W1 hown' hgrow hat hgl))
      have hb1 : Below M v1 W1 := ((hbr.alloc hMs _).drew).grown hgrow (by simp; omega) (fun i hi => (hown.lt i hi).1)
      have hown1 : W1.ownsRow M 4 1 (.slice (some ⟨gg, 0, none⟩) (j + 1) cap) (j + 1) (mixCells n b (j + 1)) := by rw [mixCells_succ]; exact hown'
      clear hown' hgrow hown hbr q1 q2
      go_wp2
      go_roundw
      case rel => exact ⟨j + 1, by omega, by go_num, hown1, hb1⟩
      case measure => simp [intOf]; omega
    · obtain rfl : j = 8 := by omega
      have hbs := bools_of_own hown (by omega)
      clear hown
      go_wp2_with fail
      refine (byte_go hbs).mono ?_
      rintro e w' ⟨rfl, rfl⟩
      obtain ⟨m0, m1⟩ := byteS_bd (mixB n b)
      go_wp2_with fail
      refine (even_ref _ _ m0 m1).mono ?_
      rintro e w9 ⟨rfl, hb9⟩
      go_wp2
      go_ret
      exact ⟨ret_bool rfl, bthen (bthen HB.out (hbr.mono (by have := HM.out; omega))) hb9⟩

set_option maxHeartbeats 2000000 in
theorem portR_any (v k b : Int) (w : World) (v0 : 0 ≤ v) (v1 : v ≤ 255) (k0 : 0 ≤ k) (k1 : k ≤ 255) (b0 : 0 ≤ b) (b1 : b ≤ 255) :
    Calls Try.prog 19 #[.int .u8 v, .int .u8 k, .int .u8 b] w fun e w' => e = .returned (.int .u8 (portF v k b)) ∧ Below w.heap.size w w' := by
  go_enter Try.func19, Try.ntmps19
  go_wp2_with fail
  refine (bit_any _ _ _ b0 b1 (by omega) (by omega)).mono ?_
  rintro e w1 ⟨rfl, hb1⟩
  go_wp2_with fail
  refine (bit_any _ _ _ b0 b1 (by omega) (by omega)).mono ?_
  rintro e w2 ⟨rfl, hb2⟩
  go_wp2_with fail
  refine (bit_any _ _ _ b0 b1 (by omega) (by omega)).mono ?_
  rintro e w3 ⟨rfl, hb3⟩
  go_wp2_with fail
  refine (mixed_any _ _ _ (by omega) (by omega) b0 b1).mono ?_
  rintro e w4 ⟨rfl, hb4⟩
  go_wp2_with fail
  refine (flags_any _ _ _ _ _ _ _ _ _).mono ?_
  rintro e w5 ⟨rfl, hb5⟩
  go_wp2
  go_ret
  exact ⟨ret_int rfl, bthen (bthen (bthen (bthen hb1 hb2) hb3) hb4) hb5⟩

theorem drew8_1 {W a : World} {g0 : Nat} {f0 : Nat → Bool} (h : Below W.heap.size W a ∧ g0 < a.heap.size ∧ a.cell? ⟨g0, 0, none⟩ = some (.bool (f0 0)) ∧ a.cell? ⟨g0, 1, none⟩ = some (.bool (f0 1)) ∧ a.cell? ⟨g0, 2, none⟩ = some (.bool (f0 2)) ∧ a.cell? ⟨g0, 3, none⟩ = some (.bool (f0 3)) ∧ a.cell? ⟨g0, 4, none⟩ = some (.bool (f0 4)) ∧ a.cell? ⟨g0, 5, none⟩ = some (.bool (f0 5)) ∧ a.cell? ⟨g0, 6, none⟩ = some (.bool (f0 6)) ∧ a.cell? ⟨g0, 7, none⟩ = some (.bool (f0 7))) : Below W.heap.size W a.drew ∧ g0 < a.drew.heap.size ∧ a.drew.cell? ⟨g0, 0, none⟩ = some (.bool (f0 0)) ∧ a.drew.cell? ⟨g0, 1, none⟩ = some (.bool (f0 1)) ∧ a.drew.cell? ⟨g0, 2, none⟩ = some (.bool (f0 2)) ∧ a.drew.cell? ⟨g0, 3, none⟩ = some (.bool (f0 3)) ∧ a.drew.cell? ⟨g0, 4, none⟩ = some (.bool (f0 4)) ∧ a.drew.cell? ⟨g0, 5, none⟩ = some (.bool (f0 5)) ∧ a.drew.cell? ⟨g0, 6, none⟩ = some (.bool (f0 6)) ∧ a.drew.cell? ⟨g0, 7, none⟩ = some (.bool (f0 7)) := ⟨h.1.drew, h.2⟩
set_option maxHeartbeats 4000000 in
theorem portAgainR_any (f v b pc : Int) (w : World) (f0 : 0 ≤ f) (f1 : f ≤ 255) (v0 : 0 ≤ v) (v1 : v ≤ 255) (b0 : 0 ≤ b) (b1 : b ≤ 255) (pc0 : 0 ≤ pc) (pc1 : pc ≤ 65535) :
    Calls Try.prog 24 #[.int .u8 f, .int .u8 v, .int .u8 b, .int .u16 pc] w fun e w' => e = .returned (.int .u8 (portAgainF f v b pc)) ∧ Below w.heap.size w w' := by
  obtain ⟨g0, g1⟩ := again_bd f pc
  have hh : ∀ j, j < 8 → bitH (againF f pc) j = sel8 (bitH f 0) (bitH f 1) (bitH (pc / 256) 2) (bitH f 3) (bitH (pc / 256) 4) (bitH f 5) (bitH f 6) (bitH f 7) j := (BV.again f pc).2
  have HH := Lib.hid hh
  clear hh
  have HF : ∀ n h, paN f v b = n → paH f v b = h → portAgainF f v b pc = flagsS (bitH f 0) (bitH f 1) (bitH (pc / 256) 2) h (bitH (pc / 256) 4) (bitH f 5 == evenR (n % 8)) (bitH f 6) (bitH f 7) := by rintro n h rfl rfl; rfl
  have HF := Lib.hid HF
  rcases (show bitH f 7 = true ∨ bitH f 7 = false from by cases bitH f 7 <;> simp) with h7 | h7
  · by_cases hv : 128 ≤ v
    · have HN := Lib.hid (show paN f v b = b + 7 by unfold paN; rw [h7, if_pos rfl, if_pos hv])
      have HP := Lib.hid (show paH f v b = (b % 16 == 0) by unfold paH; rw [h7, if_pos rfl, if_pos hv])
      have a7 : bitH (againF f pc) 7 = true := (HH.out 7 (by omega)).trans h7
      have ew : IntKind.u8.wrap ((b + 7) % 8) = (b + 7) % 8 := IntWalk.u8_in _ (by omega)
      have et : (b + 7).tmod 8 = (b + 7) % 8 := Int.tmod_eq_emod_of_nonneg (by omega)
      have HE := Lib.hid h7
      clear h7
      go_enter Try.func24, Try.ntmps24
      go_wp2_with fail
      refine (againR_any _ _ _ f0 f1 pc0 pc1).mono ?_
      rintro e u0 ⟨rfl, hbu⟩
      go_wp2_with fail
      refine (bits_any _ _ g0 g1).mono ?_
      rintro e u1 ⟨x, rfl, ⟨g, c, rfl, hc1, _, hg, hr⟩, hbx⟩
      have HB1 := bthen hbu hbx
      have HR := Lib.hid hr
      have q3 := hr.2 3 (by omega)
      have q7 := hr.2 7 (by omega)
      have hz := hr.1
      clear hr
      go_wp2_with fail
      go_quiet (fail)
      go_wp2_with fail
      have HBU := below_drewN HB1 nq
      have HRU : BoolRow (u1.drewN nq) g 8 (bitH (againF f pc)) := HR.out
      clear q3 q7 hz HB1 HR hbx
      generalize u1.drewN nq = U at *
      go_region_held3 (fun w' => Below w.heap.size w w' ∧ g < w'.heap.size ∧ w'.cell? ⟨g, 0, none⟩ = some (.bool (bitH (againF f pc) 0)) ∧ w'.cell? ⟨g, 1, none⟩ = some (.bool (bitH (againF f pc) 1)) ∧ w'.cell? ⟨g, 2, none⟩ = some (.bool (bitH (againF f pc) 2)) ∧ w'.cell? ⟨g, 3, none⟩ = some (.bool (bitH (againF f pc) 3)) ∧ w'.cell? ⟨g, 4, none⟩ = some (.bool (bitH (againF f pc) 4)) ∧ w'.cell? ⟨g, 5, none⟩ = some (.bool (bitH (againF f pc) 5)) ∧ w'.cell? ⟨g, 6, none⟩ = some (.bool (bitH (againF f pc) 6)) ∧ w'.cell? ⟨g, 7, none⟩ = some (.bool (bitH (againF f pc) 7)))
        (first | exact start8_1 HBU HRU | exact keep8_1 (by assumption) hbB)
        (first
          | (go_at_call 42; refine (even_ref _ _ (by omega) (by omega)).mono ?_; rintro e wB ⟨rfl, hbB⟩))
      rename_i hH
      go_wp2_with fail
      go_region_held3 (fun w' => Below w.heap.size w w' ∧ g < w'.heap.size ∧ w'.cell? ⟨g, 0, none⟩ = some (.bool (bitH (againF f pc) 0)) ∧ w'.cell? ⟨g, 1, none⟩ = some (.bool (bitH (againF f pc) 1)) ∧ w'.cell? ⟨g, 2, none⟩ = some (.bool (bitH (againF f pc) 2)) ∧ w'.cell? ⟨g, 3, none⟩ = some (.bool (bitH (againF f pc) 3)) ∧ w'.cell? ⟨g, 4, none⟩ = some (.bool (bitH (againF f pc) 4)) ∧ w'.cell? ⟨g, 5, none⟩ = some (.bool (bitH (againF f pc) 5)) ∧ w'.cell? ⟨g, 6, none⟩ = some (.bool (bitH (againF f pc) 6)) ∧ w'.cell? ⟨g, 7, none⟩ = some (.bool (bitH (againF f pc) 7)))
        (first | exact drew8_1 hH | exact keep8_1 (by assumption) hbB)
        (first
          | (go_at_call 37; refine (flags_any _ _ _ _ _ _ _ _ _).mono ?_; rintro e wB ⟨rfl, hbB⟩))
      rename_i hK
      go_wp2
      go_ret
      refine ⟨ret_int ?_, hK.1⟩
      rw [HF.out _ _ HN.out HP.out]
      have bb := HH.out
      simp only [bb 0 (by omega), bb 1 (by omega), bb 2 (by omega), bb 3 (by omega), bb 4 (by omega), bb 5 (by omega), bb 6 (by omega), bb 7 (by omega), sel8, HE.out]
    · have HN := Lib.hid (show paN f v b = b + 1 by unfold paN; rw [h7, if_pos rfl, if_neg (by omega)])
      have HP := Lib.hid (show paH f v b = (b % 16 == 15) by unfold paH; rw [h7, if_pos rfl, if_neg (by omega)])
      have a7 : bitH (againF f pc) 7 = true := (HH.out 7 (by omega)).trans h7
      have ew : IntKind.u8.wrap ((b + 1) % 8) = (b + 1) % 8 := IntWalk.u8_in _ (by omega)
      have et : (b + 1).tmod 8 = (b + 1) % 8 := Int.tmod_eq_emod_of_nonneg (by omega)
      have HE := Lib.hid h7
      clear h7
      go_enter Try.func24, Try.ntmps24
      go_wp2_with fail
      refine (againR_any _ _ _ f0 f1 pc0 pc1).mono ?_
      rintro e u0 ⟨rfl, hbu⟩
      go_wp2_with fail
      refine (bits_any _ _ g0 g1).mono ?_
      rintro e u1 ⟨x, rfl, ⟨g, c, rfl, hc1, _, hg, hr⟩, hbx⟩
      have HB1 := bthen hbu hbx
      have HR := Lib.hid hr
      have q3 := hr.2 3 (by omega)
      have q7 := hr.2 7 (by omega)
      have hz := hr.1
      clear hr
      go_wp2_with fail
      go_quiet (fail)
      go_wp2_with fail
      have HBU := below_drewN HB1 nq
      have HRU : BoolRow (u1.drewN nq) g 8 (bitH (againF f pc)) := HR.out
      clear q3 q7 hz HB1 HR hbx
      generalize u1.drewN nq = U at *
      go_region_held3 (fun w' => Below w.heap.size w w' ∧ g < w'.heap.size ∧ w'.cell? ⟨g, 0, none⟩ = some (.bool (bitH (againF f pc) 0)) ∧ w'.cell? ⟨g, 1, none⟩ = some (.bool (bitH (againF f pc) 1)) ∧ w'.cell? ⟨g, 2, none⟩ = some (.bool (bitH (againF f pc) 2)) ∧ w'.cell? ⟨g, 3, none⟩ = some (.bool (bitH (againF f pc) 3)) ∧ w'.cell? ⟨g, 4, none⟩ = some (.bool (bitH (againF f pc) 4)) ∧ w'.cell? ⟨g, 5, none⟩ = some (.bool (bitH (againF f pc) 5)) ∧ w'.cell? ⟨g, 6, none⟩ = some (.bool (bitH (againF f pc) 6)) ∧ w'.cell? ⟨g, 7, none⟩ = some (.bool (bitH (againF f pc) 7)))
        (first | exact start8_1 HBU HRU | exact keep8_1 (by assumption) hbB)
        (first
          | (go_at_call 42; refine (even_ref _ _ (by omega) (by omega)).mono ?_; rintro e wB ⟨rfl, hbB⟩))
      rename_i hH
      go_wp2_with fail
      go_region_held3 (fun w' => Below w.heap.size w w' ∧ g < w'.heap.size ∧ w'.cell? ⟨g, 0, none⟩ = some (.bool (bitH (againF f pc) 0)) ∧ w'.cell? ⟨g, 1, none⟩ = some (.bool (bitH (againF f pc) 1)) ∧ w'.cell? ⟨g, 2, none⟩ = some (.bool (bitH (againF f pc) 2)) ∧ w'.cell? ⟨g, 3, none⟩ = some (.bool (bitH (againF f pc) 3)) ∧ w'.cell? ⟨g, 4, none⟩ = some (.bool (bitH (againF f pc) 4)) ∧ w'.cell? ⟨g, 5, none⟩ = some (.bool (bitH (againF f pc) 5)) ∧ w'.cell? ⟨g, 6, none⟩ = some (.bool (bitH (againF f pc) 6)) ∧ w'.cell? ⟨g, 7, none⟩ = some (.bool (bitH (againF f pc) 7)))
        (first | exact drew8_1 hH | exact keep8_1 (by assumption) hbB)
        (first
          | (go_at_call 37; refine (flags_any _ _ _ _ _ _ _ _ _).mono ?_; rintro e wB ⟨rfl, hbB⟩))
      rename_i hK
      go_wp2
      go_ret
      refine ⟨ret_int ?_, hK.1⟩
      rw [HF.out _ _ HN.out HP.out]
      have bb := HH.out
      simp only [bb 0 (by omega), bb 1 (by omega), bb 2 (by omega), bb 3 (by omega), bb 4 (by omega), bb 5 (by omega), bb 6 (by omega), bb 7 (by omega), sel8, HE.out]
  · have HN := Lib.hid (show paN f v b = b by unfold paN; rw [h7]; rfl)
    have HP := Lib.hid (show paH f v b = bitH f 3 by unfold paH; rw [h7]; rfl)
    have a7 : bitH (againF f pc) 7 = false := (HH.out 7 (by omega)).trans h7
    have ew : IntKind.u8.wrap ((b) % 8) = (b) % 8 := IntWalk.u8_in _ (by omega)
    have et : (b).tmod 8 = (b) % 8 := Int.tmod_eq_emod_of_nonneg (by omega)
    have HE := Lib.hid h7
    clear h7
    go_enter Try.func24, Try.ntmps24
    go_wp2_with fail
    refine (againR_any _ _ _ f0 f1 pc0 pc1).mono ?_
    rintro e u0 ⟨rfl, hbu⟩
    go_wp2_with fail
    refine (bits_any _ _ g0 g1).mono ?_
    rintro e u1 ⟨x, rfl, ⟨g, c, rfl, hc1, _, hg, hr⟩, hbx⟩
    have HB1 := bthen hbu hbx
    have HR := Lib.hid hr
    have q3 := hr.2 3 (by omega)
    have q7 := hr.2 7 (by omega)
    have hz := hr.1
    clear hr
    go_wp2_with fail
    go_quiet (fail)
    go_wp2_with fail
    have HBU := below_drewN HB1 nq
    have HRU : BoolRow (u1.drewN nq) g 8 (bitH (againF f pc)) := HR.out
    clear q3 q7 hz HB1 HR hbx
    generalize u1.drewN nq = U at *
    go_region_held3 (fun w' => Below w.heap.size w w' ∧ g < w'.heap.size ∧ w'.cell? ⟨g, 0, none⟩ = some (.bool (bitH (againF f pc) 0)) ∧ w'.cell? ⟨g, 1, none⟩ = some (.bool (bitH (againF f pc) 1)) ∧ w'.cell? ⟨g, 2, none⟩ = some (.bool (bitH (againF f pc) 2)) ∧ w'.cell? ⟨g, 3, none⟩ = some (.bool (bitH (againF f pc) 3)) ∧ w'.cell? ⟨g, 4, none⟩ = some (.bool (bitH (againF f pc) 4)) ∧ w'.cell? ⟨g, 5, none⟩ = some (.bool (bitH (againF f pc) 5)) ∧ w'.cell? ⟨g, 6, none⟩ = some (.bool (bitH (againF f pc) 6)) ∧ w'.cell? ⟨g, 7, none⟩ = some (.bool (bitH (againF f pc) 7)))
      (first | exact start8_1 HBU HRU | exact keep8_1 (by assumption) hbB)
      (first
        | (go_at_call 42; refine (even_ref _ _ (by omega) (by omega)).mono ?_; rintro e wB ⟨rfl, hbB⟩))
    rename_i hH
    go_wp2_with fail
    go_region_held3 (fun w' => Below w.heap.size w w' ∧ g < w'.heap.size ∧ w'.cell? ⟨g, 0, none⟩ = some (.bool (bitH (againF f pc) 0)) ∧ w'.cell? ⟨g, 1, none⟩ = some (.bool (bitH (againF f pc) 1)) ∧ w'.cell? ⟨g, 2, none⟩ = some (.bool (bitH (againF f pc) 2)) ∧ w'.cell? ⟨g, 3, none⟩ = some (.bool (bitH (againF f pc) 3)) ∧ w'.cell? ⟨g, 4, none⟩ = some (.bool (bitH (againF f pc) 4)) ∧ w'.cell? ⟨g, 5, none⟩ = some (.bool (bitH (againF f pc) 5)) ∧ w'.cell? ⟨g, 6, none⟩ = some (.bool (bitH (againF f pc) 6)) ∧ w'.cell? ⟨g, 7, none⟩ = some (.bool (bitH (againF f pc) 7)))
      (first | exact drew8_1 hH | exact keep8_1 (by assumption) hbB)
      (first
        | (go_at_call 37; refine (flags_any _ _ _ _ _ _ _ _ _).mono ?_; rintro e wB ⟨rfl, hbB⟩))
    rename_i hK
    go_wp2
    go_ret
    refine ⟨ret_int ?_, hK.1⟩
    rw [HF.out _ _ HN.out HP.out]
    have bb := HH.out
    simp only [bb 0 (by omega), bb 1 (by omega), bb 2 (by omega), bb 3 (by omega), bb 4 (by omega), bb 5 (by omega), bb 6 (by omega), bb 7 (by omega), sel8, HE.out]

end Go.Proofs.Ytcjnnenmgliakaa
