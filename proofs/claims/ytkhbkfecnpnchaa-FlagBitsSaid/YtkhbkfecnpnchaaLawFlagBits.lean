/- The law FlagBits walked: bits put on, or taken out, and asked for; no condition. -/
import Derived.Test.YtkhbkfecnpnchaaLawFlag
namespace Go.Proofs.Ytkhbkfecnpnchaa
open Go.RowKit

def hasN (f b : Int) : Nat → Bool
  | 0 => false
  | j + 1 => hasN f b j || (bitH f j && bitH b j)
def outB (f b : Int) (on : Bool) (j : Nat) : Bool := if bitH b j then on else bitH f j
theorem hasN_8 {f b : Int} (h0 : 0 ≤ f) (h1 : f ≤ 255) (h2 : 0 ≤ b) (h3 : b ≤ 255) : hasS f b = hasN f b 8 := by
  obtain ⟨n0, n1⟩ := bits_bd .and h0 h1 h2 h3 (by simp)
  unfold hasS
  rw [ne0_bits n0 n1]
  simp only [hasN, bitH_andB h0 h1 h2 h3 (show 0 < 8 by omega), bitH_andB h0 h1 h2 h3 (show 1 < 8 by omega), bitH_andB h0 h1 h2 h3 (show 2 < 8 by omega), bitH_andB h0 h1 h2 h3 (show 3 < 8 by omega), bitH_andB h0 h1 h2 h3 (show 4 < 8 by omega), bitH_andB h0 h1 h2 h3 (show 5 < 8 by omega), bitH_andB h0 h1 h2 h3 (show 6 < 8 by omega), bitH_andB h0 h1 h2 h3 (show 7 < 8 by omega), Bool.false_or]
theorem with_out {f b : Int} (h0 : 0 ≤ f) (h1 : f ≤ 255) (h2 : 0 ≤ b) (h3 : b ≤ 255) (on : Bool) : withS f b on = byteS (outB f b on) := by
  obtain ⟨n0, n1⟩ := withS_bd h0 h1 h2 h3 on
  exact byteS_is n0 n1 fun j hj => withS_bit h0 h1 h2 h3 on hj
def outCells (f b : Int) (on : Bool) (j : Nat) : List Value := (List.range j).map fun i => .bool (outB f b on i)
theorem outCells_succ (f b : Int) (on : Bool) (j : Nat) : outCells f b on (j + 1) = outCells f b on j ++ [.bool (outB f b on j)] := by simp [outCells, List.range_succ]

set_option maxHeartbeats 2000000 in
theorem flagBits_walk (a0 a1 : Int) (a2 : Bool) (w : World) (w0 : (Lit.int .u8 a0).wf = true) (w1 : (Lit.int .u8 a1).wf = true) :
    Calls Try.prog 5 #[.int .u8 a0, .int .u8 a1, .bool a2] w fun e w' => e = .returned (.bool true) ∧ Below w.heap.size w w' := by
  obtain ⟨f0, f1⟩ := bounds_u8 w0
  obtain ⟨b0, b1⟩ := bounds_u8 w1
  clear w0 w1
  obtain ⟨i0, hi, hz0, hz1, hz2⟩ := info_parts boolInfo
  obtain ⟨B, hB⟩ : ∃ B, B = w.heap.size := ⟨_, rfl⟩
  have HB := Lib.hid hB
  clear hB
  rw [← HB.out]
  go_enter Try.func5, Try.ntmps5
  go_wp2_with fail
  refine (bits_any _ _ f0 f1).mono ?_
  rintro e v1 ⟨v, rfl, ⟨g, c, rfl, hc1, _, hg, hr⟩, hb⟩
  rw [← HB.out] at hb hg
  go_wp2_with fail
  refine (bits_any _ _ b0 b1).mono ?_
  rintro e v2 ⟨v, rfl, ⟨g', c', rfl, hc1', _, hg', hr'⟩, hb'⟩
  have HR1 := Lib.hid (hr.below' hb')
  have HR2 := Lib.hid hr'
  have hbb : Below B w v2 := hb.trans (hb'.mono (by rw [HB.out]; exact Nat.le_trans (Nat.le_refl _) hb.size))
  have hg1 : g < v2.heap.size := HR1.out.1
  have hg2 : g' < v2.heap.size := HR2.out.1
  obtain ⟨M, hM⟩ : ∃ M, M = v2.heap.size := ⟨_, rfl⟩
  have hMB : B ≤ M := by rw [hM, HB.out]; exact hbb.size
  have hgM : g < M := by omega
  have hgM' : g' < M := by omega
  have HM := Lib.hid hM
  clear hr hr' hb hb' hg1 hg2 hM
  go_wp2
  go_loopw [9, 10, 11] (fun h o i wr => ∃ j : Nat, j ≤ 8 ∧ i = .int .i64 j ∧ h = .bool (hasN a0 a1 j) ∧ wr.ownsRow M 4 1 o j (outCells a0 a1 a2 j) ∧ Below M v2 wr) (fun _ _ i _ => 8 - (intOf i).toNat)
  case atStart => exact ⟨0, by omega, rfl, rfl, World.ownsRow_nil _ _ _ _, Below.refl _ _⟩
  case round =>
    obtain ⟨j, hj, rfl, rfl, hown, hbr⟩ := hrel
    by_cases hlt : j < 8
    · have c1 := (hbr.cell (p := ⟨g, j, none⟩) hgM).trans (HR1.out.2 j hlt)
      have c2 := (hbr.cell (p := ⟨g', j, none⟩) hgM').trans (HR2.out.2 j hlt)
      obtain ⟨x, hx⟩ : ∃ x, bitH a0 j = x := ⟨_, rfl⟩
      obtain ⟨y, hy⟩ : ∃ y, bitH a1 j = y := ⟨_, rfl⟩
      obtain ⟨z, hz⟩ : ∃ z, hasN a0 a1 j = z := ⟨_, rfl⟩
      have hzn : hasN a0 a1 (j + 1) = (z || (x && y)) := by simp only [hasN, hx, hy, hz]
      have hout : outB a0 a1 a2 j = if y then a2 else x := by simp only [outB, hx, hy]
      rw [hx] at c1
      rw [hy] at c2
      rw [hz]
      have HZ := Lib.hid hzn
      have HO := Lib.hid hout
      have hMs : M ≤ wr.heap.size := by rw [HM.out]; exact hbr.size
      have HMs := Lib.hid hMs
      clear hx hy hz hzn hout hMs
      have step : ∀ (u : Value) (W1 : World) (v' : Value), u = .bool (outB a0 a1 a2 j) → W1.ownsRow M 4 1 v' (j + 1) (outCells a0 a1 a2 j ++ [u]) → (wr.alloc (.cells #[u] 4)).grownBy W1 u10.ownBlock → W1.ownsRow M 4 1 v' (j + 1) (outCells a0 a1 a2 (j + 1)) ∧ Below M v2 W1 := by
        rintro u W1 v' rfl ho hgr
        refine ⟨by rw [outCells_succ]; exact ho, (hbr.alloc HMs.out _).grown hgr (by have := HMs.out; simp; omega) (fun i hi => (hown.lt i hi).1)⟩
      have HS := Lib.hid step
      clear step
      cases y
      · cases x
        · cases z
          all_goals
            go_wp2_with (first
              | (at_builtin; refine wpList_append_own _ rfl _ _ 34 rfl M 4 i0 (.bool false) 1 1 Try.underlying34 hi hz0 hz1 hz2 rfl (by decide) _ _ _ rfl (hown.alloc _) ⟨wr.heap.size, 0, none⟩ 1 1 [.bool false] rfl rfl (by intro i u hi; match i, hi with | 0, hi => simp at hi; subst hi; simp [Addr.add]) (by intro u hu; simp at hu; subst hu; rfl) (by unfold maxLen; omega) (by omega) (by have := HMs.out; simp; omega) ?_)
              | go_in)
            intro v' W1 hown' hgrow _
            have R := HS.out (.bool false) W1 v' (by rw [HO.out]; rfl) hown' hgrow
            clear hown' hgrow hown hbr HS
            go_wp2
            go_roundw
            case rel => exact ⟨j + 1, by omega, by go_num, by rw [HZ.out]; rfl, R.1, R.2⟩
            case measure => simp [intOf]; omega
        · cases z
          all_goals
            go_wp2_with (first
              | (at_builtin; refine wpList_append_own _ rfl _ _ 34 rfl M 4 i0 (.bool false) 1 1 Try.underlying34 hi hz0 hz1 hz2 rfl (by decide) _ _ _ rfl (hown.alloc _) ⟨wr.heap.size, 0, none⟩ 1 1 [.bool true] rfl rfl (by intro i u hi; match i, hi with | 0, hi => simp at hi; subst hi; simp [Addr.add]) (by intro u hu; simp at hu; subst hu; rfl) (by unfold maxLen; omega) (by omega) (by have := HMs.out; simp; omega) ?_)
              | go_in)
            intro v' W1 hown' hgrow _
            have R := HS.out (.bool true) W1 v' (by rw [HO.out]; rfl) hown' hgrow
            clear hown' hgrow hown hbr HS
            go_wp2
            go_roundw
            case rel => exact ⟨j + 1, by omega, by go_num, by rw [HZ.out]; rfl, R.1, R.2⟩
            case measure => simp [intOf]; omega
      · cases x
        · cases z
          all_goals
            go_wp2_with (first
              | (at_builtin; refine wpList_append_own _ rfl _ _ 34 rfl M 4 i0 (.bool false) 1 1 Try.underlying34 hi hz0 hz1 hz2 rfl (by decide) _ _ _ rfl (hown.alloc _) ⟨wr.heap.size, 0, none⟩ 1 1 [.bool a2] rfl rfl (by intro i u hi; match i, hi with | 0, hi => simp at hi; subst hi; simp [Addr.add]) (by intro u hu; simp at hu; subst hu; rfl) (by unfold maxLen; omega) (by omega) (by have := HMs.out; simp; omega) ?_)
              | go_in)
            intro v' W1 hown' hgrow _
            have R := HS.out (.bool a2) W1 v' (by rw [HO.out]; rfl) hown' hgrow
            clear hown' hgrow hown hbr HS
            go_wp2
            go_roundw
            case rel => exact ⟨j + 1, by omega, by go_num, by rw [HZ.out]; rfl, R.1, R.2⟩
            case measure => simp [intOf]; omega
        · cases z
          all_goals
            go_wp2_with (first
              | (at_builtin; refine wpList_append_own _ rfl _ _ 34 rfl M 4 i0 (.bool false) 1 1 Try.underlying34 hi hz0 hz1 hz2 rfl (by decide) _ _ _ rfl (hown.alloc _) ⟨wr.heap.size, 0, none⟩ 1 1 [.bool a2] rfl rfl (by intro i u hi; match i, hi with | 0, hi => simp at hi; subst hi; simp [Addr.add]) (by intro u hu; simp at hu; subst hu; rfl) (by unfold maxLen; omega) (by omega) (by have := HMs.out; simp; omega) ?_)
              | go_in)
            intro v' W1 hown' hgrow _
            have R := HS.out (.bool a2) W1 v' (by rw [HO.out]; rfl) hown' hgrow
            clear hown' hgrow hown hbr HS
            go_wp2
            go_roundw
            case rel => exact ⟨j + 1, by omega, by go_num, by rw [HZ.out]; rfl, R.1, R.2⟩
            case measure => simp [intOf]; omega
    · obtain rfl : j = 8 := by omega
      have hbs := bools_of_own hown (by omega)
      have Hhn := Lib.hid (hasN_8 f0 f1 b0 b1)
      have Hwo := Lib.hid (with_out f0 f1 b0 b1 a2)
      clear hown
      go_wp2_with fail
      refine (with_any _ _ _ _).mono ?_
      rintro e w' ⟨rfl, rfl⟩
      rw [Hwo.out]
      go_wp2_with fail
      refine (byte_go hbs).mono ?_
      rintro e w' ⟨rfl, rfl⟩
      go_wp2_with fail
      refine (has_any _ _ _).mono ?_
      rintro e w' ⟨rfl, rfl⟩
      rw [Hhn.out]
      go_wp2_with fail
      refine (lives01 _).mono ?_
      rintro e w4 ⟨rfl, hb4⟩
      go_wp2
      go_ret
      exact ⟨rfl, hbb.trans ((hbr.mono hMB).trans (hb4.mono (by have := hbr.size; have := HM.out; omega)))⟩

end Go.Proofs.Ytkhbkfecnpnchaa
