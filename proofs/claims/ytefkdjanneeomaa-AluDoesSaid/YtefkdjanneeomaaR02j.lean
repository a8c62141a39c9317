/- The contracts of the document's answer for layer 2, the fourth part: Join and Do. -/
import Derived.Test.YtefkdjanneeomaaR02d
namespace Go.Proofs.Ytefkdjanneeomaa
open Go.RowKit

def joinCells (k a b : Int) (j : Nat) : List Value := (List.range j).map fun i => .bool (joinB k a b i)
theorem joinCells_succ (k a b : Int) (j : Nat) : joinCells k a b (j + 1) = joinCells k a b j ++ [.bool (joinB k a b j)] := by simp [joinCells, List.range_succ]
set_option maxHeartbeats 4000000 in
theorem join_xor (a b : Int) (w : World) (a0 : 0 ≤ a) (a1 : a ≤ 255) (b0 : 0 ≤ b) (b1 : b ≤ 255) :
    Calls Try.prog 53 #[.int .i64 5, .int .u8 a, .int .u8 b] w fun e w' => e = .returned (.tuple #[.int .u8 (joinR 5 a b), .int .u8 (joinF 5 a b)]) ∧ Below w.heap.size w w' := by
  obtain ⟨i0, hi, hz0, hz1, hz2⟩ := info_parts boolInfo
  go_enter Try.func53, Try.ntmps53
  go_wp2_with fail
  refine (bits_any _ _ a0 a1).mono ?_
  rintro e v0 ⟨v, rfl, ⟨g, c0, rfl, hc0, _, hg0, hr0⟩, hb0⟩
  have HB0 := hb0
  go_wp2_with fail
  refine (bits_any _ _ b0 b1).mono ?_
  rintro e v1 ⟨v, rfl, ⟨g', c1, rfl, hc1, _, hg1, hr1⟩, hb1⟩
  have HB1 := bthen HB0 hb1
  have hr0 := hr0.below' hb1
  have HR0 := Lib.hid hr0
  clear hr0
  have HR1 := Lib.hid hr1
  clear hr1
  obtain ⟨M, hM⟩ : ∃ M, M = v1.heap.size := ⟨_, rfl⟩
  have hgM : g < M := by rw [hM]; exact HR0.out.1
  have hgM' : g' < M := by rw [hM]; exact HR1.out.1
  have HM := Lib.hid hM
  clear hM
  have HB := Lib.hid HB1
  clear HB1 HB0 hb0 hb1
  go_wp2
  go_loopw [10, 11] (fun o i wr => ∃ j : Nat, j ≤ 8 ∧ i = .int .i64 j ∧ wr.ownsRow M 4 1 o j (joinCells (5 : Int) a b j) ∧ Below M v1 wr) (fun _ i _ => 8 - (intOf i).toNat)
  case atStart => exact ⟨0, by omega, rfl, World.ownsRow_nil _ _ _ _, Below.refl _ _⟩
  case round =>
    obtain ⟨j, hj, rfl, hown, hbr⟩ := hrel
    by_cases hlt : j < 8
    · have c1 := (hbr.cell (p := ⟨g, j, none⟩) hgM).trans (HR0.out.2 j hlt)
      have c2 := (hbr.cell (p := ⟨g', j, none⟩) hgM').trans (HR1.out.2 j hlt)
      have hMs : M ≤ wr.heap.size := by have := hbr.size; have := HM.out; omega
      have HMs := Lib.hid hMs
      obtain ⟨x, hx⟩ : ∃ x, bitH a j = x := ⟨_, rfl⟩
      obtain ⟨y, hy⟩ : ∃ y, bitH b j = y := ⟨_, rfl⟩
      have HJ := Lib.hid (show joinB (5 : Int) a b j = (x != y) from by simp [joinB, hx, hy])
      rw [hx] at c1
      rw [hy] at c2
      clear hx hy hMs
      cases x
      · cases y
        · go_wp2_with fail
          go_quiet (fail)
          have hownU : (wr.drewN nq).ownsRow M 4 1 u10 j (joinCells (5 : Int) a b j) := hown
          have hbrU := below_drewN hbr nq
          have HMU : Hid (M ≤ (wr.drewN nq).heap.size) := Lib.hid HMs.out
          clear c1 c2 hown hbr HMs
          generalize wr.drewN nq = U at *
          go_wp2_with (first
            | (at_builtin; refine wpList_append_own _ rfl _ _ 51 rfl M 4 i0 (.bool false) 1 1 Try.underlying51 hi hz0 hz1 hz2 rfl (by decide) _ _ _ rfl (hownU.alloc _) ⟨U.heap.size, 0, none⟩ 1 1 [.bool false] rfl rfl (by intro i u hi; match i, hi with | 0, hi => simp at hi; subst hi; simp [Addr.add]) (by intro u hu; simp at hu; subst hu; rfl) (by unfold maxLen; omega) (by omega) (by have := HMU.out; simp; omega) ?_)
            | go_in)
          intro v' W1 hown' hgrow _
          have hb1 : Below M v1 W1 := (hbrU.alloc HMU.out _).grown hgrow (by have := HMU.out; simp; omega) (fun i hi => (hownU.lt i hi).1)
          have hown1 : W1.ownsRow M 4 1 v' (j + 1) (joinCells (5 : Int) a b (j + 1)) := by rw [joinCells_succ, HJ.out]; exact hown'
          clear hown' hgrow hownU hbrU
          go_wp2
          go_roundw
          case rel => exact ⟨j + 1, by omega, by go_num, hown1, hb1⟩
          case measure => simp [intOf]; omega
        · go_wp2_with fail
          go_quiet (fail)
          have hownU : (wr.drewN nq).ownsRow M 4 1 u10 j (joinCells (5 : Int) a b j) := hown
          have hbrU := below_drewN hbr nq
          have HMU : Hid (M ≤ (wr.drewN nq).heap.size) := Lib.hid HMs.out
          clear c1 c2 hown hbr HMs
          generalize wr.drewN nq = U at *
          go_wp2_with (first
            | (at_builtin; refine wpList_append_own _ rfl _ _ 51 rfl M 4 i0 (.bool false) 1 1 Try.underlying51 hi hz0 hz1 hz2 rfl (by decide) _ _ _ rfl (hownU.alloc _) ⟨U.heap.size, 0, none⟩ 1 1 [.bool true] rfl rfl (by intro i u hi; match i, hi with | 0, hi => simp at hi; subst hi; simp [Addr.add]) (by intro u hu; simp at hu; subst hu; rfl) (by unfold maxLen; omega) (by omega) (by have := HMU.out; simp; omega) ?_)
            | go_in)
          intro v' W1 hown' hgrow _
          have hb1 : Below M v1 W1 := (hbrU.alloc HMU.out _).grown hgrow (by have := HMU.out; simp; omega) (fun i hi => (hownU.lt i hi).1)
          have hown1 : W1.ownsRow M 4 1 v' (j + 1) (joinCells (5 : Int) a b (j + 1)) := by rw [joinCells_succ, HJ.out]; exact hown'
          clear hown' hgrow hownU hbrU
          go_wp2
          go_roundw
          case rel => exact ⟨j + 1, by omega, by go_num, hown1, hb1⟩
          case measure => simp [intOf]; omega
      · cases y
        · go_wp2_with fail
          go_quiet (fail)
          have hownU : (wr.drewN nq).ownsRow M 4 1 u10 j (joinCells (5 : Int) a b j) := hown
          have hbrU := below_drewN hbr nq
          have HMU : Hid (M ≤ (wr.drewN nq).heap.size) := Lib.hid HMs.out
          clear c1 c2 hown hbr HMs
          generalize wr.drewN nq = U at *
          go_wp2_with (first
            | (at_builtin; refine wpList_append_own _ rfl _ _ 51 rfl M 4 i0 (.bool false) 1 1 Try.underlying51 hi hz0 hz1 hz2 rfl (by decide) _ _ _ rfl (hownU.alloc _) ⟨U.heap.size, 0, none⟩ 1 1 [.bool true] rfl rfl (by intro i u hi; match i, hi with | 0, hi => simp at hi; subst hi; simp [Addr.add]) (by intro u hu; simp at hu; subst hu; rfl) (by unfold maxLen; omega) (by omega) (by have := HMU.out; simp; omega) ?_)
            | go_in)
          intro v' W1 hown' hgrow _
          have hb1 : Below M v1 W1 := (hbrU.alloc HMU.out _).grown hgrow (by have := HMU.out; simp; omega) (fun i hi => (hownU.lt i hi).1)
          have hown1 : W1.ownsRow M 4 1 v' (j + 1) (joinCells (5 : Int) a b (j + 1)) := by rw [joinCells_succ, HJ.out]; exact hown'
          clear hown' hgrow hownU hbrU
          go_wp2
          go_roundw
          case rel => exact ⟨j + 1, by omega, by go_num, hown1, hb1⟩
          case measure => simp [intOf]; omega
        · go_wp2_with fail
          go_quiet (fail)
          have hownU : (wr.drewN nq).ownsRow M 4 1 u10 j (joinCells (5 : Int) a b j) := hown
          have hbrU := below_drewN hbr nq
          have HMU : Hid (M ≤ (wr.drewN nq).heap.size) := Lib.hid HMs.out
          clear c1 c2 hown hbr HMs
          generalize wr.drewN nq = U at *
          go_wp2_with (first
            | (at_builtin; refine wpList_append_own _ rfl _ _ 51 rfl M 4 i0 (.bool false) 1 1 Try.underlying51 hi hz0 hz1 hz2 rfl (by decide) _ _ _ rfl (hownU.alloc _) ⟨U.heap.size, 0, none⟩ 1 1 [.bool false] rfl rfl (by intro i u hi; match i, hi with | 0, hi => simp at hi; subst hi; simp [Addr.add]) (by intro u hu; simp at hu; subst hu; rfl) (by unfold maxLen; omega) (by omega) (by have := HMU.out; simp; omega) ?_)
            | go_in)
          intro v' W1 hown' hgrow _
          have hb1 : Below M v1 W1 := (hbrU.alloc HMU.out _).grown hgrow (by have := HMU.out; simp; omega) (fun i hi => (hownU.lt i hi).1)
          have hown1 : W1.ownsRow M 4 1 v' (j + 1) (joinCells (5 : Int) a b (j + 1)) := by rw [joinCells_succ, HJ.out]; exact hown'
          clear hown' hgrow hownU hbrU
          go_wp2
          go_roundw
          case rel => exact ⟨j + 1, by omega, by go_num, hown1, hb1⟩
          case measure => simp [intOf]; omega
    · obtain rfl : j = 8 := by omega
      obtain ⟨gl, cl, hv, hcl, _, hgl, hrl⟩ := bools_of_own hown (by omega)
      have HV := Lib.hid hv
      have hbs : IsBools wr M 8 (joinB (5 : Int) a b) u10 := ⟨gl, cl, hv, hcl, by assumption, hgl, hrl⟩
      have HBS := Lib.hid hbs
      have HRL := Lib.hid hrl
      obtain ⟨m0, m1⟩ := joinR_bd (5 : Int) a b
      have HBr : Below w.heap.size w wr := bthen HB.out (hbr.mono (by have := HM.out; omega))
      clear hown hv hbs hrl hbr
      go_wp2_with fail
      refine (byte_go HBS.out).mono ?_
      rintro e w' ⟨rfl, rfl⟩
      have hv := HV.out
      subst hv
      go_wp2_with fail
      go_region_held3 (fun w' => Below w.heap.size w w' ∧ gl < w'.heap.size ∧ w'.cell? ⟨gl, 0, none⟩ = some (.bool (joinB (5 : Int) a b 0)) ∧ w'.cell? ⟨gl, 1, none⟩ = some (.bool (joinB (5 : Int) a b 1)) ∧ w'.cell? ⟨gl, 2, none⟩ = some (.bool (joinB (5 : Int) a b 2)) ∧ w'.cell? ⟨gl, 3, none⟩ = some (.bool (joinB (5 : Int) a b 3)) ∧ w'.cell? ⟨gl, 4, none⟩ = some (.bool (joinB (5 : Int) a b 4)) ∧ w'.cell? ⟨gl, 5, none⟩ = some (.bool (joinB (5 : Int) a b 5)) ∧ w'.cell? ⟨gl, 6, none⟩ = some (.bool (joinB (5 : Int) a b 6)) ∧ w'.cell? ⟨gl, 7, none⟩ = some (.bool (joinB (5 : Int) a b 7)))
        (first | exact start8_1 HBr HRL.out | exact keep8_1 (by assumption) hbB)
        (first
          | (go_at_call 56; refine (even_ref _ _ m0 m1).mono ?_; rintro e wB ⟨rfl, hbB⟩)
          | (go_at_call 55; refine (flags_any _ _ _ _ _ _ _ _ _).mono ?_; rintro e wB ⟨rfl, hbB⟩))
      rename_i hH
      go_wp2
      go_ret2
      exact ⟨ret_two rfl rfl, hH.1⟩

set_option maxHeartbeats 4000000 in
theorem join_or (a b : Int) (w : World) (a0 : 0 ≤ a) (a1 : a ≤ 255) (b0 : 0 ≤ b) (b1 : b ≤ 255) :
    Calls Try.prog 53 #[.int .i64 6, .int .u8 a, .int .u8 b] w fun e w' => e = .returned (.tuple #[.int .u8 (joinR 6 a b), .int .u8 (joinF 6 a b)]) ∧ Below w.heap.size w w' := by
  obtain ⟨i0, hi, hz0, hz1, hz2⟩ := info_parts boolInfo
  go_enter Try.func53, Try.ntmps53
  go_wp2_with fail
  refine (bits_any _ _ a0 a1).mono ?_
  rintro e v0 ⟨v, rfl, ⟨g, c0, rfl, hc0, _, hg0, hr0⟩, hb0⟩
  have HB0 := hb0
  go_wp2_with fail
  refine (bits_any _ _ b0 b1).mono ?_
  rintro e v1 ⟨v, rfl, ⟨g', c1, rfl, hc1, _, hg1, hr1⟩, hb1⟩
  have HB1 := bthen HB0 hb1
  have hr0 := hr0.below' hb1
  have HR0 := Lib.hid hr0
  clear hr0
  have HR1 := Lib.hid hr1
  clear hr1
  obtain ⟨M, hM⟩ : ∃ M, M = v1.heap.size := ⟨_, rfl⟩
  have hgM : g < M := by rw [hM]; exact HR0.out.1
  have hgM' : g' < M := by rw [hM]; exact HR1.out.1
  have HM := Lib.hid hM
  clear hM
  have HB := Lib.hid HB1
  clear HB1 HB0 hb0 hb1
  go_wp2
  go_loopw [10, 11] (fun o i wr => ∃ j : Nat, j ≤ 8 ∧ i = .int .i64 j ∧ wr.ownsRow M 4 1 o j (joinCells (6 : Int) a b j) ∧ Below M v1 wr) (fun _ i _ => 8 - (intOf i).toNat)
  case atStart => exact ⟨0, by omega, rfl, World.ownsRow_nil _ _ _ _, Below.refl _ _⟩
  case round =>
    obtain ⟨j, hj, rfl, hown, hbr⟩ := hrel
    by_cases hlt : j < 8
    · have c1 := (hbr.cell (p := ⟨g, j, none⟩) hgM).trans (HR0.out.2 j hlt)
      have c2 := (hbr.cell (p := ⟨g', j, none⟩) hgM').trans (HR1.out.2 j hlt)
      have hMs : M ≤ wr.heap.size := by have := hbr.size; have := HM.out; omega
      have HMs := Lib.hid hMs
      obtain ⟨x, hx⟩ : ∃ x, bitH a j = x := ⟨_, rfl⟩
      obtain ⟨y, hy⟩ : ∃ y, bitH b j = y := ⟨_, rfl⟩
      have HJ := Lib.hid (show joinB (6 : Int) a b j = (x || y) from by simp [joinB, hx, hy])
      rw [hx] at c1
      rw [hy] at c2
      clear hx hy hMs
      cases x
      · cases y
        · go_wp2_with (first
            | (at_builtin; refine wpList_append_own _ rfl _ _ 51 rfl M 4 i0 (.bool false) 1 1 Try.underlying51 hi hz0 hz1 hz2 rfl (by decide) _ _ _ rfl (hown.alloc _) ⟨wr.heap.size, 0, none⟩ 1 1 [.bool false] rfl rfl (by intro i u hi; match i, hi with | 0, hi => simp at hi; subst hi; simp [Addr.add]) (by intro u hu; simp at hu; subst hu; rfl) (by unfold maxLen; omega) (by omega) (by have := HMs.out; simp; omega) ?_)
            | go_in)
          intro v' W1 hown' hgrow _
          have hb1 : Below M v1 W1 := (hbr.alloc HMs.out _).grown hgrow (by have := HMs.out; simp; omega) (fun i hi => (hown.lt i hi).1)
          have hown1 : W1.ownsRow M 4 1 v' (j + 1) (joinCells (6 : Int) a b (j + 1)) := by rw [joinCells_succ, HJ.out]; exact hown'
          clear hown' hgrow hown hbr
          go_wp2
          go_roundw
          case rel => exact ⟨j + 1, by omega, by go_num, hown1, hb1⟩
          case measure => simp [intOf]; omega
        · go_wp2_with (first
            | (at_builtin; refine wpList_append_own _ rfl _ _ 51 rfl M 4 i0 (.bool false) 1 1 Try.underlying51 hi hz0 hz1 hz2 rfl (by decide) _ _ _ rfl (hown.alloc _) ⟨wr.heap.size, 0, none⟩ 1 1 [.bool true] rfl rfl (by intro i u hi; match i, hi with | 0, hi => simp at hi; subst hi; simp [Addr.add]) (by intro u hu; simp at hu; subst hu; rfl) (by unfold maxLen; omega) (by omega) (by have := HMs.out; simp; omega) ?_)
            | go_in)
          intro v' W1 hown' hgrow _
          have hb1 : Below M v1 W1 := (hbr.alloc HMs.out _).grown hgrow (by have := HMs.out; simp; omega) (fun i hi => (hown.lt i hi).1)
          have hown1 : W1.ownsRow M 4 1 v' (j + 1) (joinCells (6 : Int) a b (j + 1)) := by rw [joinCells_succ, HJ.out]; exact hown'
          clear hown' hgrow hown hbr
          go_wp2
          go_roundw
          case rel => exact ⟨j + 1, by omega, by go_num, hown1, hb1⟩
          case measure => simp [intOf]; omega
      · cases y
        · go_wp2_with (first
            | (at_builtin; refine wpList_append_own _ rfl _ _ 51 rfl M 4 i0 (.bool false) 1 1 Try.underlying51 hi hz0 hz1 hz2 rfl (by decide) _ _ _ rfl (hown.alloc _) ⟨wr.heap.size, 0, none⟩ 1 1 [.bool true] rfl rfl (by intro i u hi; match i, hi with | 0, hi => simp at hi; subst hi; simp [Addr.add]) (by intro u hu; simp at hu; subst hu; rfl) (by unfold maxLen; omega) (by omega) (by have := HMs.out; simp; omega) ?_)
            | go_in)
          intro v' W1 hown' hgrow _
          have hb1 : Below M v1 W1 := (hbr.alloc HMs.out _).grown hgrow (by have := HMs.out; simp; omega) (fun i hi => (hown.lt i hi).1)
          have hown1 : W1.ownsRow M 4 1 v' (j + 1) (joinCells (6 : Int) a b (j + 1)) := by rw [joinCells_succ, HJ.out]; exact hown'
          clear hown' hgrow hown hbr
          go_wp2
          go_roundw
          case rel => exact ⟨j + 1, by omega, by go_num, hown1, hb1⟩
          case measure => simp [intOf]; omega
        · go_wp2_with (first
            | (at_builtin; refine wpList_append_own _ rfl _ _ 51 rfl M 4 i0 (.bool false) 1 1 Try.underlying51 hi hz0 hz1 hz2 rfl (by decide) _ _ _ rfl (hown.alloc _) ⟨wr.heap.size, 0, none⟩ 1 1 [.bool true] rfl rfl (by intro i u hi; match i, hi with | 0, hi => simp at hi; subst hi; simp [Addr.add]) (by intro u hu; simp at hu; subst hu; rfl) (by unfold maxLen; omega) (by omega) (by have := HMs.out; simp; omega) ?_)
            | go_in)
          intro v' W1 hown' hgrow _
          have hb1 : Below M v1 W1 := (hbr.alloc HMs.out _).grown hgrow (by have := HMs.out; simp; omega) (fun i hi => (hown.lt i hi).1)
          have hown1 : W1.ownsRow M 4 1 v' (j + 1) (joinCells (6 : Int) a b (j + 1)) := by rw [joinCells_succ, HJ.out]; exact hown'
          clear hown' hgrow hown hbr
          go_wp2
          go_roundw
          case rel => exact ⟨j + 1, by omega, by go_num, hown1, hb1⟩
          case measure => simp [intOf]; omega
    · obtain rfl : j = 8 := by omega
      obtain ⟨gl, cl, hv, hcl, _, hgl, hrl⟩ := bools_of_own hown (by omega)
      have HV := Lib.hid hv
      have hbs : IsBools wr M 8 (joinB (6 : Int) a b) u10 := ⟨gl, cl, hv, hcl, by assumption, hgl, hrl⟩
      have HBS := Lib.hid hbs
      have HRL := Lib.hid hrl
      obtain ⟨m0, m1⟩ := joinR_bd (6 : Int) a b
      have HBr : Below w.heap.size w wr := bthen HB.out (hbr.mono (by have := HM.out; omega))
      clear hown hv hbs hrl hbr
      go_wp2_with fail
      refine (byte_go HBS.out).mono ?_
      rintro e w' ⟨rfl, rfl⟩
      have hv := HV.out
      subst hv
      go_wp2_with fail
      go_region_held3 (fun w' => Below w.heap.size w w' ∧ gl < w'.heap.size ∧ w'.cell? ⟨gl, 0, none⟩ = some (.bool (joinB (6 : Int) a b 0)) ∧ w'.cell? ⟨gl, 1, none⟩ = some (.bool (joinB (6 : Int) a b 1)) ∧ w'.cell? ⟨gl, 2, none⟩ = some (.bool (joinB (6 : Int) a b 2)) ∧ w'.cell? ⟨gl, 3, none⟩ = some (.bool (joinB (6 : Int) a b 3)) ∧ w'.cell? ⟨gl, 4, none⟩ = some (.bool (joinB (6 : Int) a b 4)) ∧ w'.cell? ⟨gl, 5, none⟩ = some (.bool (joinB (6 : Int) a b 5)) ∧ w'.cell? ⟨gl, 6, none⟩ = some (.bool (joinB (6 : Int) a b 6)) ∧ w'.cell? ⟨gl, 7, none⟩ = some (.bool (joinB (6 : Int) a b 7)))
        (first | exact start8_1 HBr HRL.out | exact keep8_1 (by assumption) hbB)
        (first
          | (go_at_call 56; refine (even_ref _ _ m0 m1).mono ?_; rintro e wB ⟨rfl, hbB⟩)
          | (go_at_call 55; refine (flags_any _ _ _ _ _ _ _ _ _).mono ?_; rintro e wB ⟨rfl, hbB⟩))
      rename_i hH
      go_wp2
      go_ret2
      exact ⟨ret_two rfl rfl, hH.1⟩

set_option maxHeartbeats 4000000 in
theorem join_and (a b : Int) (w : World) (a0 : 0 ≤ a) (a1 : a ≤ 255) (b0 : 0 ≤ b) (b1 : b ≤ 255) :
    Calls Try.prog 53 #[.int .i64 4, .int .u8 a, .int .u8 b] w fun e w' => e = .returned (.tuple #[.int .u8 (joinR 4 a b), .int .u8 (joinF 4 a b)]) ∧ Below w.heap.size w w' := by
  obtain ⟨i0, hi, hz0, hz1, hz2⟩ := info_parts boolInfo
  go_enter Try.func53, Try.ntmps53
  go_wp2_with fail
  refine (bits_any _ _ a0 a1).mono ?_
  rintro e v0 ⟨v, rfl, ⟨g, c0, rfl, hc0, _, hg0, hr0⟩, hb0⟩
  have HB0 := hb0
  go_wp2_with fail
  refine (bits_any _ _ b0 b1).mono ?_
  rintro e v1 ⟨v, rfl, ⟨g', c1, rfl, hc1, _, hg1, hr1⟩, hb1⟩
  have HB1 := bthen HB0 hb1
  have hr0 := hr0.below' hb1
  have HR0 := Lib.hid hr0
  clear hr0
  have HR1 := Lib.hid hr1
  clear hr1
  obtain ⟨M, hM⟩ : ∃ M, M = v1.heap.size := ⟨_, rfl⟩
  have hgM : g < M := by rw [hM]; exact HR0.out.1
  have hgM' : g' < M := by rw [hM]; exact HR1.out.1
  have HM := Lib.hid hM
  clear hM
  have HB := Lib.hid HB1
  clear HB1 HB0 hb0 hb1
  go_wp2
  go_loopw [10, 11] (fun o i wr => ∃ j : Nat, j ≤ 8 ∧ i = .int .i64 j ∧ wr.ownsRow M 4 1 o j (joinCells (4 : Int) a b j) ∧ Below M v1 wr) (fun _ i _ => 8 - (intOf i).toNat)
  case atStart => exact ⟨0, by omega, rfl, World.ownsRow_nil _ _ _ _, Below.refl _ _⟩
  case round =>
    obtain ⟨j, hj, rfl, hown, hbr⟩ := hrel
    by_cases hlt : j < 8
    · have c1 := (hbr.cell (p := ⟨g, j, none⟩) hgM).trans (HR0.out.2 j hlt)
      have c2 := (hbr.cell (p := ⟨g', j, none⟩) hgM').trans (HR1.out.2 j hlt)
      have hMs : M ≤ wr.heap.size := by have := hbr.size; have := HM.out; omega
      have HMs := Lib.hid hMs
      obtain ⟨x, hx⟩ : ∃ x, bitH a j = x := ⟨_, rfl⟩
      obtain ⟨y, hy⟩ : ∃ y, bitH b j = y := ⟨_, rfl⟩
      have HJ := Lib.hid (show joinB (4 : Int) a b j = (x && y) from by simp [joinB, hx, hy])
      rw [hx] at c1
      rw [hy] at c2
      clear hx hy hMs
      cases x
      · cases y
        · go_wp2_with (first
            | (at_builtin; refine wpList_append_own _ rfl _ _ 51 rfl M 4 i0 (.bool false) 1 1 Try.underlying51 hi hz0 hz1 hz2 rfl (by decide) _ _ _ rfl (hown.alloc _) ⟨wr.heap.size, 0, none⟩ 1 1 [.bool false] rfl rfl (by intro i u hi; match i, hi with | 0, hi => simp at hi; subst hi; simp [Addr.add]) (by intro u hu; simp at hu; subst hu; rfl) (by unfold maxLen; omega) (by omega) (by have := HMs.out; simp; omega) ?_)
            | go_in)
          intro v' W1 hown' hgrow _
          have hb1 : Below M v1 W1 := (hbr.alloc HMs.out _).grown hgrow (by have := HMs.out; simp; omega) (fun i hi => (hown.lt i hi).1)
          have hown1 : W1.ownsRow M 4 1 v' (j + 1) (joinCells (4 : Int) a b (j + 1)) := by rw [joinCells_succ, HJ.out]; exact hown'
          clear hown' hgrow hown hbr
          go_wp2
          go_roundw
          case rel => exact ⟨j + 1, by omega, by go_num, hown1, hb1⟩
          case measure => simp [intOf]; omega
        · go_wp2_with (first
            | (at_builtin; refine wpList_append_own _ rfl _ _ 51 rfl M 4 i0 (.bool false) 1 1 Try.underlying51 hi hz0 hz1 hz2 rfl (by decide) _ _ _ rfl (hown.alloc _) ⟨wr.heap.size, 0, none⟩ 1 1 [.bool false] rfl rfl (by intro i u hi; match i, hi with | 0, hi => simp at hi; subst hi; simp [Addr.add]) (by intro u hu; simp at hu; subst hu; rfl) (by unfold maxLen; omega) (by omega) (by have := HMs.out; simp; omega) ?_)
            | go_in)
          intro v' W1 hown' hgrow _
          have hb1 : Below M v1 W1 := (hbr.alloc HMs.out _).grown hgrow (by have := HMs.out; simp; omega) (fun i hi => (hown.lt i hi).1)
          have hown1 : W1.ownsRow M 4 1 v' (j + 1) (joinCells (4 : Int) a b (j + 1)) := by rw [joinCells_succ, HJ.out]; exact hown'
          clear hown' hgrow hown hbr
          go_wp2
          go_roundw
          case rel => exact ⟨j + 1, by omega, by go_num, hown1, hb1⟩
          case measure => simp [intOf]; omega
      · cases y
        · go_wp2_with (first
            | (at_builtin; refine wpList_append_own _ rfl _ _ 51 rfl M 4 i0 (.bool false) 1 1 Try.underlying51 hi hz0 hz1 hz2 rfl (by decide) _ _ _ rfl (hown.alloc _) ⟨wr.heap.size, 0, none⟩ 1 1 [.bool false] rfl rfl (by intro i u hi; match i, hi with | 0, hi => simp at hi; subst hi; simp [Addr.add]) (by intro u hu; simp at hu; subst hu; rfl) (by unfold maxLen; omega) (by omega) (by have := HMs.out; simp; omega) ?_)
            | go_in)
          intro v' W1 hown' hgrow _
          have hb1 : Below M v1 W1 := (hbr.alloc HMs.out _).grown hgrow (by have := HMs.out; simp; omega) (fun i hi => (hown.lt i hi).1)
          have hown1 : W1.ownsRow M 4 1 v' (j + 1) (joinCells (4 : Int) a b (j + 1)) := by rw [joinCells_succ, HJ.out]; exact hown'
          clear hown' hgrow hown hbr
          go_wp2
          go_roundw
          case rel => exact ⟨j + 1, by omega, by go_num, hown1, hb1⟩
          case measure => simp [intOf]; omega
        · go_wp2_with (first
            | (at_builtin; refine wpList_append_own _ rfl _ _ 51 rfl M 4 i0 (.bool false) 1 1 Try.underlying51 hi hz0 hz1 hz2 rfl (by decide) _ _ _ rfl (hown.alloc _) ⟨wr.heap.size, 0, none⟩ 1 1 [.bool true] rfl rfl (by intro i u hi; match i, hi with | 0, hi => simp at hi; subst hi; simp [Addr.add]) (by intro u hu; simp at hu; subst hu; rfl) (by unfold maxLen; omega) (by omega) (by have := HMs.out; simp; omega) ?_)
            | go_in)
          intro v' W1 hown' hgrow _
          have hb1 : Below M v1 W1 := (hbr.alloc HMs.out _).grown hgrow (by have := HMs.out; simp; omega) (fun i hi => (hown.lt i hi).1)
          have hown1 : W1.ownsRow M 4 1 v' (j + 1) (joinCells (4 : Int) a b (j + 1)) := by rw [joinCells_succ, HJ.out]; exact hown'
          clear hown' hgrow hown hbr
          go_wp2
          go_roundw
          case rel => exact ⟨j + 1, by omega, by go_num, hown1, hb1⟩
          case measure => simp [intOf]; omega
    · obtain rfl : j = 8 := by omega
      obtain ⟨gl, cl, hv, hcl, _, hgl, hrl⟩ := bools_of_own hown (by omega)
      have HV := Lib.hid hv
      have hbs : IsBools wr M 8 (joinB (4 : Int) a b) u10 := ⟨gl, cl, hv, hcl, by assumption, hgl, hrl⟩
      have HBS := Lib.hid hbs
      have HRL := Lib.hid hrl
      obtain ⟨m0, m1⟩ := joinR_bd (4 : Int) a b
      have HBr : Below w.heap.size w wr := bthen HB.out (hbr.mono (by have := HM.out; omega))
      clear hown hv hbs hrl hbr
      go_wp2_with fail
      refine (byte_go HBS.out).mono ?_
      rintro e w' ⟨rfl, rfl⟩
      have hv := HV.out
      subst hv
      go_wp2_with fail
      go_region_held3 (fun w' => Below w.heap.size w w' ∧ gl < w'.heap.size ∧ w'.cell? ⟨gl, 0, none⟩ = some (.bool (joinB (4 : Int) a b 0)) ∧ w'.cell? ⟨gl, 1, none⟩ = some (.bool (joinB (4 : Int) a b 1)) ∧ w'.cell? ⟨gl, 2, none⟩ = some (.bool (joinB (4 : Int) a b 2)) ∧ w'.cell? ⟨gl, 3, none⟩ = some (.bool (joinB (4 : Int) a b 3)) ∧ w'.cell? ⟨gl, 4, none⟩ = some (.bool (joinB (4 : Int) a b 4)) ∧ w'.cell? ⟨gl, 5, none⟩ = some (.bool (joinB (4 : Int) a b 5)) ∧ w'.cell? ⟨gl, 6, none⟩ = some (.bool (joinB (4 : Int) a b 6)) ∧ w'.cell? ⟨gl, 7, none⟩ = some (.bool (joinB (4 : Int) a b 7)))
        (first | exact start8_1 HBr HRL.out | exact keep8_1 (by assumption) hbB)
        (first
          | (go_at_call 56; refine (even_ref _ _ m0 m1).mono ?_; rintro e wB ⟨rfl, hbB⟩)
          | (go_at_call 55; refine (flags_any _ _ _ _ _ _ _ _ _).mono ?_; rintro e wB ⟨rfl, hbB⟩))
      rename_i hH
      go_wp2
      go_ret2
      exact ⟨ret_two rfl rfl, hH.1⟩

end Go.Proofs.Ytefkdjanneeomaa
