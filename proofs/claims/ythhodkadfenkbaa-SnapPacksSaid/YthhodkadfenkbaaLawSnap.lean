/- The law SnapPacks of layer 31, walked: it returns true and writes nothing that was there. -/
import Derived.Test.YthhodkadfenkbaaLawSnapL
namespace Go.Proofs.Ythhodkadfenkbaa
open Go.RowKit

set_option maxHeartbeats 4000000 in
theorem snapPacks_walk (A : Option Addr) (n c : Nat) (zs : List Int) (k : Int) (w : World) (w0 : IsRow .u8 w A n c zs) (w1 : (Lit.int .i64 k).wf = true) :
    Calls Try.prog 3 #[.slice A n c, .int .i64 k] w fun e w' => e = .returned (.bool true) ∧ Below w.heap.size w w' := by
  obtain ⟨k0, k1⟩ := bounds_i64 w1
  obtain ⟨hr, hz, hnc, hc⟩ := row_u8 w0
  clear w0 w1
  generalize zs.take n = ys at *
  unfold maxLen at hc
  by_cases hbig : (3000 < (n : Int)) ∨ ((n : Int) ≤ 3000 ∧ 5000 < k ∧ k ≤ 65536)
  · go_enter Try.func3, Try.ntmps3
    rcases hbig with h | ⟨h, h2, h3⟩
    all_goals
      go_wp2_with fail
      refine (lives31 _).mono ?_
      rintro e w3 ⟨rfl, hb3⟩
      go_wp2
      go_ret
      exact ⟨rfl, hb3⟩
  · have hn : (n : Int) ≤ 3000 := by omega
    have hk : k ≤ 5000 ∨ 65536 < k := by omega
    clear hbig
    have hl := reads_len hr
    have hback := unp_packL 2 4 [] (by simp) ys.length false ys (Nat.le_refl _) (fun e => by cases e)
    rw [List.append_nil, hl] at hback
    have hU : unpI ((n : Nat) : Int) (packL false ys) = .ok ys (packL false ys).length := by
      unfold unpI
      rw [if_neg (by omega), Int.toNat_natCast, hback]
    have HU := Lib.hid hU
    clear hU hback
    have hpl := packL_len ys.length false ys (Nat.le_refl _)
    have hzp : isU8 (packL false ys) := packL_in ys.length false ys (Nat.le_refl _) hz
    rw [hl] at hpl
    go_enter Try.func3, Try.ntmps3
    go_upto_region 1 with fail
    go_cut [25] from 15 to 25 (fun s wx => s = .bool false ∧ w = wx)
    case first =>
      rcases hk with hk | hk
      all_goals
        go_wp2_with fail
        go_meet
        exact ⟨congrArg Value.bool (by simp; omega), rfl⟩
    case rest =>
      obtain ⟨rfl, rfl⟩ := hcut
      go_wp2_with fail
      refine (pack_any w n c A ys hr (by omega) hnc (by omega)).mono ?_
      rintro e w1 ⟨v1, rfl, own1, hb1⟩
      have hr1 := (hr.below hb1).more hb1.size
      obtain ⟨A1, c1, rfl, hc1⟩ := own_sliceC own1
      have hm1 := own_cap own1
      go_wp2_with fail
      refine (unpack_any w1 n c A ys k hr1 hz hnc (by omega)).mono ?_
      rintro e w2 ⟨v2, rfl, own2, hb2⟩
      have hr2 := (hr1.below hb2).more hb2.size
      have own1b := own_kept own1 hb2
      go_wp2_with fail
      refine (unpackR_any w2 n c A ys k hr2 hz (by omega) hnc (by omega)).mono ?_
      rintro e w3 ⟨v3, rfl, own3, hb3⟩
      have hr3 := (hr2.below hb3).more hb3.size
      have own1c := own_kept own1b hb3
      have own2b := own_kept own2 hb3
      obtain ⟨A2, c2, rfl⟩ := own_slice own2
      obtain ⟨A3, c3, rfl⟩ := own_slice own3
      have hB : Below w.heap.size w w3 := bthen (bthen hb1 hb2) hb3
      clear own1 own1b own2 hb1 hb2 hb3 hr1 hr2
      generalize unpI k ys = U at *
      obtain ⟨PK, hPK⟩ : ∃ PK, PK = packL false ys := ⟨_, rfl⟩
      rw [← hPK] at own1c HU hpl hzp hc1 ⊢
      have HPK := Lib.hid hPK
      clear hPK
      go_upto_region 6 with fail
      go_cut [65] from 43 to 65 (fun s wx => s = .bool false ∧ Below w3.heap.size w3 wx)
      case first =>
        have rp := (Reads.of_own own1c)
        have rl := (Reads.of_own own2b)
        have rm := (Reads.of_own own3)
        have KEY := Lib.hid (fun w' (h : Below w3.heap.size w3 w') => (show Below w3.heap.size w3 w' ∧ (convert 22 9 (.slice A1 PK.length c1)).run Try.prog w' = .ok (.string (strOfNums PK)) w' ∧ (convert 22 9 (.slice A2 U.l.length c2)).run Try.prog w' = .ok (.string (strOfNums U.l)) w' ∧ (convert 22 9 (.slice A3 U.l.length c3)).run Try.prog w' = .ok (.string (strOfNums U.l)) w' from ⟨h, conv_any c1 (rp.below h), conv_any c2 (rl.below h), conv_any c3 (rm.below h)⟩))
        have KP := Lib.hid (fun w' (h : Below w3.heap.size w3 w') => (show Calls Try.prog 9 #[.slice A n c] w' fun e wa => ∃ A4 c4, e = .returned (.slice A4 PK.length c4) ∧ Below w3.heap.size w3 wa ∧ (convert 22 9 (.slice A4 PK.length c4)).run Try.prog wa = .ok (.string (strOfNums PK)) wa by
          refine (packR_any w' n c A ys ((hr3.below h).more h.size) (by omega) hnc (by omega)).mono ?_
          rintro e wa ⟨va, rfl, owna, hba⟩
          rw [← HPK.out] at owna
          obtain ⟨A4, c4, rfl⟩ := own_slice owna
          exact ⟨A4, c4, rfl, bthen h hba, conv_any c4 (Reads.of_own owna)⟩))
        clear rp rl rm own1c own2b own3 hr3 hr
        generalize strOfNums PK = SP at *
        generalize strOfNums U.l = SU at *
        refine wp_region_held_drew (S := fun w' => Below w3.heap.size w3 w' ∧ (convert 22 9 (.slice A1 PK.length c1)).run Try.prog w' = .ok (.string SP) w' ∧ (convert 22 9 (.slice A2 U.l.length c2)).run Try.prog w' = .ok (.string SU) w' ∧ (convert 22 9 (.slice A3 U.l.length c3)).run Try.prog w' = .ok (.string SU) w') (by kernel_rfl) ?_ (fun hHeld => ?_)
        · exact KEY.out _ ((Below.refl _ _).drew)
        refine wpAnyH_take (i := 0) (oi := _) (v := ?_) (by simp only [List.getElem?_toArray, List.getElem?_cons_succ, List.getElem?_cons_zero]; rfl) (by kernel_rfl) (by kernel_rfl) (by kernel_rfl) (by intro _ _ _ h; exact h) (Or.inl ⟨by rfl, ?_⟩) (by assumption) ?_
        rotate_left
        · intro w hSw
          try dsimp only at hSw
          go_simp
          try with_reducible rfl
        try simp only [Act.put, List.setIfInBounds_toArray, List.set_cons_zero, List.set_cons_succ]
        refine wpAnyH_take (i := 1) (oi := _) (v := ?_) (by simp only [List.getElem?_toArray, List.getElem?_cons_succ, List.getElem?_cons_zero]; rfl) (by kernel_rfl) (by kernel_rfl) (by kernel_rfl) (by intro _ _ _ h; exact h) (Or.inl ⟨by rfl, ?_⟩) (by assumption) ?_
        rotate_left
        · intro w hSw
          try dsimp only at hSw
          go_simp
          try with_reducible rfl
        try simp only [Act.put, List.setIfInBounds_toArray, List.set_cons_zero, List.set_cons_succ]
        refine wpAnyH_take (i := 2) (oi := _) (v := ?_) (by simp only [List.getElem?_toArray, List.getElem?_cons_succ, List.getElem?_cons_zero]; rfl) (by kernel_rfl) (by kernel_rfl) (by kernel_rfl) (by intro _ _ _ h; exact h) (Or.inl ⟨by rfl, ?_⟩) (by assumption) ?_
        rotate_left
        · intro w hSw
          try dsimp only at hSw
          go_simp
          try with_reducible rfl
        try simp only [Act.put, List.setIfInBounds_toArray, List.set_cons_zero, List.set_cons_succ]
        refine wpAnyH_ready (rs := [3]) (by kernel_rfl) (by simp) ?_
        refine AllReadyH.cons (o := _) (by simp only [List.getElem?_toArray, List.getElem?_cons_succ, List.getElem?_cons_zero]; rfl) (fun K hK => ?_) AllReadyH.nil
        go_simp
        refine (KP.out _ hHeld.1).mono ?_
        rintro e wa ⟨A4, c4, rfl, hbA, hcA⟩
        go_wp2_with fail
        refine hK.out _ _ ?_ (fun hHeld => ?_)
        · exact KEY.out _ hbA
        clear hK K
        try simp only [Act.put, List.setIfInBounds_toArray, List.set_cons_zero, List.set_cons_succ]
        refine wpAnyH_ready (rs := [4]) (by kernel_rfl) (by simp) ?_
        refine AllReadyH.cons (o := _) (by simp only [List.getElem?_toArray, List.getElem?_cons_succ, List.getElem?_cons_zero]; rfl) (fun K hK => ?_) AllReadyH.nil
        go_simp
        refine hK.out _ _ ?_ (fun hHeld => ?_)
        · exact KEY.out _ hbA
        clear hK K
        try simp only [Act.put, List.setIfInBounds_toArray, List.set_cons_zero, List.set_cons_succ]
        refine wpAnyH_take (i := 5) (oi := _) (v := ?_) (by simp only [List.getElem?_toArray, List.getElem?_cons_succ, List.getElem?_cons_zero]; rfl) (by kernel_rfl) (by kernel_rfl) (by kernel_rfl) (by intro _ _ _ h; exact h) (Or.inl ⟨by rfl, ?_⟩) (by assumption) ?_
        rotate_left
        · intro w hSw
          try dsimp only at hSw
          go_simp
          try with_reducible rfl
        try simp only [Act.put, List.setIfInBounds_toArray, List.set_cons_zero, List.set_cons_succ]
        refine wpAnyH_take (i := 6) (oi := _) (v := ?_) (by simp only [List.getElem?_toArray, List.getElem?_cons_succ, List.getElem?_cons_zero]; rfl) (by kernel_rfl) (by kernel_rfl) (by kernel_rfl) (by intro _ _ _ h; exact h) (Or.inl ⟨by rfl, ?_⟩) (by assumption) ?_
        rotate_left
        · intro w hSw
          try dsimp only at hSw
          go_simp
          try with_reducible rfl
        try simp only [Act.put, List.setIfInBounds_toArray, List.set_cons_zero, List.set_cons_succ]
        refine wpAnyH_take (i := 7) (oi := _) (v := ?_) (by simp only [List.getElem?_toArray, List.getElem?_cons_succ, List.getElem?_cons_zero]; rfl) (by kernel_rfl) (by kernel_rfl) (by kernel_rfl) (by intro _ _ _ h; exact h) (Or.inl ⟨by rfl, ?_⟩) (by assumption) ?_
        rotate_left
        · intro w hSw
          try dsimp only at hSw
          go_simp
          try with_reducible rfl
        try simp only [Act.put, List.setIfInBounds_toArray, List.set_cons_zero, List.set_cons_succ]
        refine wpAnyH_take (i := 8) (oi := _) (v := ?_) (by simp only [List.getElem?_toArray, List.getElem?_cons_succ, List.getElem?_cons_zero]; rfl) (by kernel_rfl) (by kernel_rfl) (by kernel_rfl) (by intro _ _ _ h; exact h) (Or.inl ⟨by rfl, ?_⟩) (by assumption) ?_
        rotate_left
        · intro w hSw
          try dsimp only at hSw
          go_simp
          try with_reducible rfl
        try simp only [Act.put, List.setIfInBounds_toArray, List.set_cons_zero, List.set_cons_succ]
        refine wpAnyH_take (i := 9) (oi := _) (v := ?_) (by simp only [List.getElem?_toArray, List.getElem?_cons_succ, List.getElem?_cons_zero]; rfl) (by kernel_rfl) (by kernel_rfl) (by kernel_rfl) (by intro _ _ _ h; exact h) (Or.inl ⟨by rfl, ?_⟩) (by assumption) ?_
        rotate_left
        · intro w hSw
          try dsimp only at hSw
          go_simp
          try with_reducible rfl
        try simp only [Act.put, List.setIfInBounds_toArray, List.set_cons_zero, List.set_cons_succ]
        refine wpAnyH_take (i := 10) (oi := _) (v := ?_) (by simp only [List.getElem?_toArray, List.getElem?_cons_succ, List.getElem?_cons_zero]; rfl) (by kernel_rfl) (by kernel_rfl) (by kernel_rfl) (by intro _ _ _ h; exact h) (Or.inl ⟨by rfl, ?_⟩) (by assumption) ?_
        rotate_left
        · intro w hSw
          try dsimp only at hSw
          go_simp
          try with_reducible rfl
        try simp only [Act.put, List.setIfInBounds_toArray, List.set_cons_zero, List.set_cons_succ]
        refine wpAnyH_take (i := 11) (oi := _) (v := ?_) (by simp only [List.getElem?_toArray, List.getElem?_cons_succ, List.getElem?_cons_zero]; rfl) (by kernel_rfl) (by kernel_rfl) (by kernel_rfl) (by intro _ _ _ h; exact h) (Or.inl ⟨by rfl, ?_⟩) (by assumption) ?_
        rotate_left
        · intro w hSw
          try dsimp only at hSw
          go_simp
          try with_reducible rfl
        try simp only [Act.put, List.setIfInBounds_toArray, List.set_cons_zero, List.set_cons_succ]
        refine wpAnyH_take (i := 12) (oi := _) (v := ?_) (by simp only [List.getElem?_toArray, List.getElem?_cons_succ, List.getElem?_cons_zero]; rfl) (by kernel_rfl) (by kernel_rfl) (by kernel_rfl) (by intro _ _ _ h; exact h) (Or.inl ⟨by rfl, ?_⟩) (by assumption) ?_
        rotate_left
        · intro w hSw
          try dsimp only at hSw
          go_simp
          try with_reducible rfl
        try simp only [Act.put, List.setIfInBounds_toArray, List.set_cons_zero, List.set_cons_succ]
        refine wpAnyH_take (i := 13) (oi := _) (v := ?_) (by simp only [List.getElem?_toArray, List.getElem?_cons_succ, List.getElem?_cons_zero]; rfl) (by kernel_rfl) (by kernel_rfl) (by kernel_rfl) (by intro _ _ _ h; exact h) (Or.inl ⟨by rfl, ?_⟩) (by assumption) ?_
        rotate_left
        · intro w hSw
          try dsimp only at hSw
          go_simp
          try with_reducible rfl
        try simp only [Act.put, List.setIfInBounds_toArray, List.set_cons_zero, List.set_cons_succ]
        refine wpAnyH_take (i := 14) (oi := _) (v := ?_) (by simp only [List.getElem?_toArray, List.getElem?_cons_succ, List.getElem?_cons_zero]; rfl) (by kernel_rfl) (by kernel_rfl) (by kernel_rfl) (by intro _ _ _ h; exact h) (Or.inl ⟨by rfl, ?_⟩) (by assumption) ?_
        rotate_left
        · intro w hSw
          try dsimp only at hSw
          go_simp
          try with_reducible rfl
        try simp only [Act.put, List.setIfInBounds_toArray, List.set_cons_zero, List.set_cons_succ]
        refine wpAnyH_take (i := 15) (oi := _) (v := ?_) (by simp only [List.getElem?_toArray, List.getElem?_cons_succ, List.getElem?_cons_zero]; rfl) (by kernel_rfl) (by kernel_rfl) (by kernel_rfl) (by intro _ _ _ h; exact h) (Or.inl ⟨by rfl, ?_⟩) (by assumption) ?_
        rotate_left
        · intro w hSw
          try dsimp only at hSw
          go_simp
          try with_reducible rfl
        try simp only [Act.put, List.setIfInBounds_toArray, List.set_cons_zero, List.set_cons_succ]
        refine wpAnyH_take (i := 16) (oi := _) (v := ?_) (by simp only [List.getElem?_toArray, List.getElem?_cons_succ, List.getElem?_cons_zero]; rfl) (by kernel_rfl) (by kernel_rfl) (by kernel_rfl) (by intro _ _ _ h; exact h) (Or.inl ⟨by rfl, ?_⟩) (by assumption) ?_
        rotate_left
        · intro w hSw
          try dsimp only at hSw
          go_simp
          try with_reducible rfl
        try simp only [Act.put, List.setIfInBounds_toArray, List.set_cons_zero, List.set_cons_succ]
        refine wpAnyH_take (i := 17) (oi := _) (v := ?_) (by simp only [List.getElem?_toArray, List.getElem?_cons_succ, List.getElem?_cons_zero]; rfl) (by kernel_rfl) (by kernel_rfl) (by kernel_rfl) (by intro _ _ _ h; exact h) (Or.inl ⟨by rfl, ?_⟩) (by assumption) ?_
        rotate_left
        · intro w hSw
          try dsimp only at hSw
          go_simp
          try with_reducible rfl
        try simp only [Act.put, List.setIfInBounds_toArray, List.set_cons_zero, List.set_cons_succ]
        refine wpAnyH_take (i := 18) (oi := _) (v := ?_) (by simp only [List.getElem?_toArray, List.getElem?_cons_succ, List.getElem?_cons_zero]; rfl) (by kernel_rfl) (by kernel_rfl) (by kernel_rfl) (by intro _ _ _ h; exact h) (Or.inl ⟨by rfl, ?_⟩) (by assumption) ?_
        rotate_left
        · intro w hSw
          try dsimp only at hSw
          go_simp
          try with_reducible rfl
        try simp only [Act.put, List.setIfInBounds_toArray, List.set_cons_zero, List.set_cons_succ]
        refine wpAnyH_take (i := 19) (oi := _) (v := ?_) (by simp only [List.getElem?_toArray, List.getElem?_cons_succ, List.getElem?_cons_zero]; rfl) (by kernel_rfl) (by kernel_rfl) (by kernel_rfl) (by intro _ _ _ h; exact h) (Or.inl ⟨by rfl, ?_⟩) (by assumption) ?_
        rotate_left
        · intro w hSw
          try dsimp only at hSw
          go_simp
          try with_reducible rfl
        try simp only [Act.put, List.setIfInBounds_toArray, List.set_cons_zero, List.set_cons_succ]
        refine wpAnyH_take (i := 20) (oi := _) (v := ?_) (by simp only [List.getElem?_toArray, List.getElem?_cons_succ, List.getElem?_cons_zero]; rfl) (by kernel_rfl) (by kernel_rfl) (by kernel_rfl) (by intro _ _ _ h; exact h) (Or.inl ⟨by rfl, ?_⟩) (by assumption) ?_
        rotate_left
        · intro w hSw
          try dsimp only at hSw
          go_simp
          try with_reducible rfl
        try simp only [Act.put, List.setIfInBounds_toArray, List.set_cons_zero, List.set_cons_succ]
        refine wpAnyH_take (i := 21) (oi := _) (v := ?_) (by simp only [List.getElem?_toArray, List.getElem?_cons_succ, List.getElem?_cons_zero]; rfl) (by kernel_rfl) (by kernel_rfl) (by kernel_rfl) (by intro _ _ _ h; exact h) (Or.inl ⟨by rfl, ?_⟩) (by assumption) ?_
        rotate_left
        · intro w hSw
          try dsimp only at hSw
          go_simp
          try with_reducible rfl
        try simp only [Act.put, List.setIfInBounds_toArray, List.set_cons_zero, List.set_cons_succ]
        refine wpAnyH_take (i := 22) (oi := _) (v := ?_) (by simp only [List.getElem?_toArray, List.getElem?_cons_succ, List.getElem?_cons_zero]; rfl) (by kernel_rfl) (by kernel_rfl) (by kernel_rfl) (by intro _ _ _ h; exact h) (Or.inl ⟨by rfl, ?_⟩) (by assumption) ?_
        rotate_left
        · intro w hSw
          try dsimp only at hSw
          go_simp
          try with_reducible rfl
        try simp only [Act.put, List.setIfInBounds_toArray, List.set_cons_zero, List.set_cons_succ]
        refine wpAnyH_done (by kernel_rfl) ?_ _
        go_wp2_with fail
        go_meet
        exact ⟨rfl, hbA⟩
      case rest =>
        obtain ⟨rfl, hb4⟩ := hcut
        have rp := ((Reads.of_own own1c).below hb4).more hb4.size
        have hr4 := (hr3.below hb4).more hb4.size
        clear own1c own2b own3
        have hun : Calls Try.prog 7 #[.slice A1 PK.length c1, .int .i64 n] wc fun e w' => ∃ A5 c5, e = .returned (.tuple #[.slice A5 n c5, .int .i64 (PK.length : Nat), .int .i64 0]) ∧ (convert 22 9 (.slice A5 n c5)).run Try.prog w' = .ok (.string (strOfNums ys)) w' ∧ (convert 22 9 (.slice A n c)).run Try.prog w' = .ok (.string (strOfNums ys)) w' ∧ Below wc.heap.size wc w' := by
          have h := unpack_any wc PK.length c1 A1 PK n rp hzp hc1 (by unfold maxLen at hm1; omega)
          rw [HU.out] at h
          refine h.mono ?_
          rintro e w5 ⟨v5, rfl, own5, hb5⟩
          change w5.ownsRow _ _ 1 _ ys.length (ys.map (Value.int .u8)) at own5
          rw [hl] at own5
          obtain ⟨A5, c5, rfl⟩ := own_slice own5
          exact ⟨A5, c5, rfl, conv_any c5 (Reads.of_own own5), conv_any c (hr4.below hb5), hb5⟩
        generalize strOfNums ys = SY at *
        have HUN := Lib.hid hun
        clear hun rp hr4 hr3
        go_wp2_with fail
        refine HUN.out.mono ?_
        rintro e w5 ⟨A5, c5, rfl, cv1, cv2, hb5⟩
        go_wp2_with fail
        refine (lives31 _).mono ?_
        rintro e w6 ⟨rfl, hb6⟩
        go_wp2
        go_ret
        exact ⟨rfl, bthen (bthen (bthen hB hb4) hb5) hb6⟩

end Go.Proofs.Ythhodkadfenkbaa
