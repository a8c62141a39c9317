/- The law TapWrites of layer 18, walked: it returns true and writes nothing that was there. -/
import Derived.Test.YtpfojhmaeaeecaaTapV
import Derived.BigRegion
namespace Go.Proofs.Ytpfojhmaeaeecaa
open Go.RowKit

theorem flat_at {qs : List Pc} {q : Pc} : ∀ {i k : Nat}, qs[i]? = some q → k < 18 → (qs.flatMap tblk)[i * 18 + k]? = (tblk q)[k]? := by
  induction qs with
  | nil => intro i k h; cases h
  | cons x xs ih =>
    intro i k h hk
    have hl : (tblk x).length = 18 := rfl
    rw [List.flatMap_cons]
    cases i with
    | zero =>
      obtain rfl : x = q := by simpa using h
      rw [List.getElem?_append_left (by omega)]
      simp
    | succ i =>
      rw [List.getElem?_append_right (by omega), hl, show (i + 1) * 18 + k - 18 = i * 18 + k by omega]
      exact ih (by simpa using h) hk

set_option maxRecDepth 100000 in
set_option maxHeartbeats 8000000 in
theorem tapWrites_walk (A : Option Addr) (n c : Nat) (ps : List Piece) (w : World) (w0 : IsRows w A n c ps) :
    Calls Try.prog 9 #[.slice A n c] w fun e w' => e = .returned (.bool true) ∧ Below w.heap.size w w' := by
  obtain ⟨hr, hnc, hc, hps⟩ := w0
  have hcc : c ≤ 9223372036854775807 := by unfold maxLen at hc; omega
  clear hc
  have HP := Lib.hid hps
  have HR := Lib.hid hr
  have HL := Lib.hid (rows_len hr)
  clear hps
  go_enter Try.func9, Try.ntmps9
  go_wp2_with fail
  go_loop [3, 4] (fun x j => ∃ i a : Nat, i ≤ n ∧ a ≤ 2070000 ∧ j = .int .i64 i ∧ x = .int .i64 a) (fun _ j => n - (intOf j).toNat)
  case atStart => exact ⟨0, 0, by omega, by omega, rfl, rfl⟩
  case round =>
    obtain ⟨i, a, hi, ha, rfl, rfl⟩ := hrel
    by_cases hlt : i < n
    · obtain ⟨ad, q, rfl, hab, hq, hcl⟩ := piece_at hr hlt
      have hiI : (i : Int) < (n : Int) := by omega
      have hi0 : (0 : Int) ≤ (i : Int) := Int.natCast_nonneg _
      clear hq
      obtain ⟨qa, k, qc, qz⟩ := q
      simp only at hcl
      by_cases h7 : (70000 : Int) < (k : Int)
      · go_wp2_with fail
        refine (lives18 _).mono ?_
        rintro e w4 ⟨rfl, hb4⟩
        go_wp2
        go_ret
        exact ⟨rfl, hb4⟩
      · by_cases h2 : (2000000 : Int) < (a : Int)
        · go_wp2_with fail
          refine (lives18 _).mono ?_
          rintro e w4 ⟨rfl, hb4⟩
          go_wp2
          go_ret
          exact ⟨rfl, hb4⟩
        · have hwr : IntKind.i64.wrap ((a : Int) + (k : Int)) = (a : Int) + (k : Int) := by rw [IntKind.wrap_i64]; omega
          go_wp2
          go_round
          case rel => exact ⟨i + 1, a + k, by omega, by omega, by go_num, by first | rfl | (congr 1)⟩
          case measure => simp [intOf]; omega
    · have hiI : ¬ (i : Int) < (n : Int) := by omega
      clear hi ha hlt
      by_cases hok : (n : Int) ≤ 4096 ∧ fitK 0 (ps.map Piece.n) = true
      · obtain ⟨hn, hfit⟩ := hok
        have hfl := fitK_len (ps.map Piece.zs) 0 (by omega) (by rw [← ns_zs HP.out]; exact hfit)
        have HF := Lib.hid (And.intro hfit hfl.1)
        have hwl : (wrB (ps.map Piece.zs)).length ≤ 1048576 := by have := hfl.2; omega
        have hwr := write_any w n c A ps hr HP.out hn hfit
        clear hfit hfl
        obtain ⟨Y, hY⟩ : ∃ Y, Y = wrB (ps.map Piece.zs) := ⟨_, rfl⟩
        rw [← hY] at hwr hwl
        have HY := Lib.hid hY
        clear hY
        go_wp2_with fail
        refine hwr.mono ?_
        rintro e w1 ⟨V1, rfl, hown1, hb1⟩
        clear hwr
        obtain ⟨A1, c1, rfl⟩ := own_slice hown1
        have hr1 := (HR.out.below hb1).more hb1.size
        have hp1 : ∀ q ∈ ps, q.ok w1 w1.heap.size := fun q hm => (HP.out q hm).to hb1 hb1.size
        have htp := tape_any w1 n c A ps hr1 hp1 hn HF.out.1
        go_wp2_with fail
        refine htp.mono ?_
        rintro e w2 ⟨V2, qs, rfl, hown2, hqz, hqs, hb2⟩
        clear htp
        have hbl2 := bthen hb1 hb2
        have HQ := Lib.hid (And.intro hqz hqs)
        have hown12 := own_kept hown1 hb2
        obtain ⟨A2, c2, rfl⟩ := own_slice hown2
        have hb3 : Below w.heap.size w (w2.alloc (.cells #[.int .i64 1, .int .i64 20, .slice A2 n c2] 64)) := hbl2.alloc hbl2.size _
        have hb23 : Below w2.heap.size w2 (w2.alloc (.cells #[.int .i64 1, .int .i64 20, .slice A2 n c2] 64)) := (Below.refl _ _).alloc (Nat.le_refl _) _
        have hT : Blk (w2.alloc (.cells #[.int .i64 1, .int .i64 20, .slice A2 n c2] 64)) w2.heap.size 64 #[.int .i64 1, .int .i64 20, .slice A2 n c2] := Blk.new w2 _ _
        have hown13 := own_kept hown12 hb23
        have hown23 := own_kept hown2 hb23
        have hq3 : ∀ q ∈ qs, q.ok (w2.alloc (.cells #[.int .i64 1, .int .i64 20, .slice A2 n c2] 64)) w1.heap.size := fun q hm => (HQ.out.2 q hm).below hb23
        have hr3 := HR.out.below hb3
        have hfr := fitsR_any (w2.alloc (.cells #[.int .i64 1, .int .i64 20, .slice A2 n c2] 64)) _ n c A ps hr3 (fun q hm => (HP.out q hm).to hb3 (Nat.le_refl _)) hn
        rw [HF.out.1] at hfr
        have HQ3 := Lib.hid (And.intro hqz hq3)
        clear hown1 hown12 hown2 hqz hqs hq3 HQ hb1 hb2 hbl2 hr1 hp1 hb23
        go_wp2_with fail
        have hg2 : w2.heap.size < (w2.alloc (.cells #[.int .i64 1, .int .i64 20, .slice A2 n c2] 64)).heap.size := by simp
        generalize w2.alloc (.cells #[.int .i64 1, .int .i64 20, .slice A2 n c2] 64) = W at *
        generalize w2.heap.size = g at *
        refine hfr.mono ?_
        rintro e w4 ⟨rfl, rfl⟩
        clear hfr
        have HW := Lib.hid (show ∀ wx : World, Below W.heap.size W wx → wx.heap.size = W.heap.size → Calls Try.prog 39 #[.slice A n c] wx fun e w' => ∃ V, e = .returned V ∧ w'.ownsRow W.heap.size 5 1 V Y.length (Y.map (Value.int .u8)) ∧ Below W.heap.size W w' from fun wx hbx hsz => by
          have hbw := hb3.trans (hbx.mono hb3.size)
          have := writeR_any wx n c A ps ((HR.out.below hbw).more hbw.size) (fun q hm => (HP.out q hm).to hbw hbw.size) hn HF.out.1
          rw [← HY.out, hsz] at this
          refine this.mono ?_
          rintro e w' ⟨V, rfl, h1, h2⟩
          exact ⟨V, rfl, h1, hbx.trans h2⟩)
        obtain ⟨SP, hSP⟩ : ∃ SP, SP = strOfNums Y := ⟨_, rfl⟩
        have HSP := Lib.hid hSP
        clear hSP
        have HS := Lib.hid (show ∀ w' : World, Below W.heap.size W w' → (convert 22 9 (.slice A1 Y.length c1)).run Try.prog w' = .ok (.string SP) w' ∧ w'.cell? ⟨g, 0, none⟩ = some (.int .i64 1) ∧ w'.cell? ⟨g, 1, none⟩ = some (.int .i64 20) ∧ w'.cell? ⟨g, 2, none⟩ = some (.slice A2 n c2) from fun w' h => by
          have hB := hT.below h hg2
          exact ⟨by rw [HSP.out]; exact conv18 c1 (Reads.of_own (own_kept hown13 h)), (hB.cell 0).trans rfl, (hB.cell 1).trans rfl, (hB.cell 2).trans rfl⟩)
        have HW3 := Lib.hid (And.intro hown23 (And.intro hb3 hT))
        clear hown13 hown23 hr hr3 hb3 hT
        go_wp2_with fail
        refine wp_region_held_drew (S := fun w' => (convert 22 9 (.slice A1 Y.length c1)).run Try.prog w' = .ok (.string SP) w' ∧ w'.cell? ⟨g, 0, none⟩ = some (.int .i64 1) ∧ w'.cell? ⟨g, 1, none⟩ = some (.int .i64 20) ∧ w'.cell? ⟨g, 2, none⟩ = some (.slice A2 n c2)) (by kernel_rfl) ?_ (fun hHeld => ?_)
        · exact HS.out _ (Below.refl _ _).drew
        refine wpAnyH_take (i := 0) (oi := _) (v := ?_) (by simp only [List.getElem?_toArray, List.getElem?_cons_succ, List.getElem?_cons_zero]; rfl) (by kernel_rfl) (by kernel_rfl) (by kernel_rfl) (by intro _ _ _ h; exact h) (Or.inl ⟨by rfl, ?_⟩) (by assumption) ?_
        rotate_left
        · intro w hSw
          try dsimp only at hSw
          obtain ⟨s0, s1, s2, s3⟩ := hSw
          go_simp
          try with_reducible rfl
        try simp only [Act.put, List.setIfInBounds_toArray, List.set_cons_zero, List.set_cons_succ]
        refine wpAnyH_take (i := 1) (oi := _) (v := ?_) (by simp only [List.getElem?_toArray, List.getElem?_cons_succ, List.getElem?_cons_zero]; rfl) (by kernel_rfl) (by kernel_rfl) (by kernel_rfl) (by intro _ _ _ h; exact h) (Or.inl ⟨by rfl, ?_⟩) (by assumption) ?_
        rotate_left
        · intro w hSw
          try dsimp only at hSw
          obtain ⟨s0, s1, s2, s3⟩ := hSw
          go_simp
          try with_reducible rfl
        try simp only [Act.put, List.setIfInBounds_toArray, List.set_cons_zero, List.set_cons_succ]
        refine wpAnyH_take (i := 2) (oi := _) (v := ?_) (by simp only [List.getElem?_toArray, List.getElem?_cons_succ, List.getElem?_cons_zero]; rfl) (by kernel_rfl) (by kernel_rfl) (by kernel_rfl) (by intro _ _ _ h; exact h) (Or.inl ⟨by rfl, ?_⟩) (by assumption) ?_
        rotate_left
        · intro w hSw
          try dsimp only at hSw
          obtain ⟨s0, s1, s2, s3⟩ := hSw
          go_simp
          try with_reducible rfl
        try simp only [Act.put, List.setIfInBounds_toArray, List.set_cons_zero, List.set_cons_succ]
        refine wpAnyH_ready (rs := [3]) (by kernel_rfl) (by simp) ?_
        refine AllReadyH.cons (o := _) (by simp only [List.getElem?_toArray, List.getElem?_cons_succ, List.getElem?_cons_zero]; rfl) (fun K hK => ?_) AllReadyH.nil
        go_simp
        go_wp2_with fail
        refine (HW.out _ (Below.refl _ _).drew (by rfl)).mono ?_
        rintro e w5 ⟨V3, rfl, hown3, hb5⟩
        obtain ⟨A3, c3, rfl⟩ := own_slice hown3
        have HS5 := HS.out w5 hb5
        have hcv : (convert 22 9 (.slice A3 Y.length c3)).run Try.prog w5 = .ok (.string SP) w5 := by rw [HSP.out]; exact conv18 c3 (Reads.of_own hown3)
        clear hown3
        refine hK.out _ _ ?_ (fun hHeld => ?_)
        · exact HS5
        clear hK K
        try simp only [Act.put, List.setIfInBounds_toArray, List.set_cons_zero, List.set_cons_succ]
        refine wpAnyH_ready (rs := [4]) (by kernel_rfl) (by simp) ?_
        refine AllReadyH.cons (o := _) (by simp only [List.getElem?_toArray, List.getElem?_cons_succ, List.getElem?_cons_zero]; rfl) (fun K hK => ?_) AllReadyH.nil
        go_simp
        refine hK.out _ _ ?_ (fun hHeld => ?_)
        · exact HS5
        clear hK K
        try simp only [Act.put, List.setIfInBounds_toArray, List.set_cons_zero, List.set_cons_succ]
        refine wpAnyH_take (i := 5) (oi := _) (v := ?_) (by simp only [List.getElem?_toArray, List.getElem?_cons_succ, List.getElem?_cons_zero]; rfl) (by kernel_rfl) (by kernel_rfl) (by kernel_rfl) (by intro _ _ _ h; exact h) (Or.inl ⟨by rfl, ?_⟩) (by assumption) ?_
        rotate_left
        · intro w hSw
          try dsimp only at hSw
          obtain ⟨s0, s1, s2, s3⟩ := hSw
          go_simp
          try with_reducible rfl
        try simp only [Act.put, List.setIfInBounds_toArray, List.set_cons_zero, List.set_cons_succ]
        refine wpAnyH_take (i := 6) (oi := _) (v := ?_) (by simp only [List.getElem?_toArray, List.getElem?_cons_succ, List.getElem?_cons_zero]; rfl) (by kernel_rfl) (by kernel_rfl) (by kernel_rfl) (by intro _ _ _ h; exact h) (Or.inl ⟨by rfl, ?_⟩) (by assumption) ?_
        rotate_left
        · intro w hSw
          try dsimp only at hSw
          obtain ⟨s0, s1, s2, s3⟩ := hSw
          go_simp
          try with_reducible rfl
        try simp only [Act.put, List.setIfInBounds_toArray, List.set_cons_zero, List.set_cons_succ]
        refine wpAnyH_take (i := 7) (oi := _) (v := ?_) (by simp only [List.getElem?_toArray, List.getElem?_cons_succ, List.getElem?_cons_zero]; rfl) (by kernel_rfl) (by kernel_rfl) (by kernel_rfl) (by intro _ _ _ h; exact h) (Or.inl ⟨by rfl, ?_⟩) (by assumption) ?_
        rotate_left
        · intro w hSw
          try dsimp only at hSw
          obtain ⟨s0, s1, s2, s3⟩ := hSw
          go_simp
          try with_reducible rfl
        try simp only [Act.put, List.setIfInBounds_toArray, List.set_cons_zero, List.set_cons_succ]
        refine wpAnyH_take (i := 8) (oi := _) (v := ?_) (by simp only [List.getElem?_toArray, List.getElem?_cons_succ, List.getElem?_cons_zero]; rfl) (by kernel_rfl) (by kernel_rfl) (by kernel_rfl) (by intro _ _ _ h; exact h) (Or.inl ⟨by rfl, ?_⟩) (by assumption) ?_
        rotate_left
        · intro w hSw
          try dsimp only at hSw
          obtain ⟨s0, s1, s2, s3⟩ := hSw
          go_simp
          try with_reducible rfl
        try simp only [Act.put, List.setIfInBounds_toArray, List.set_cons_zero, List.set_cons_succ]
        refine wpAnyH_take (i := 9) (oi := _) (v := ?_) (by simp only [List.getElem?_toArray, List.getElem?_cons_succ, List.getElem?_cons_zero]; rfl) (by kernel_rfl) (by kernel_rfl) (by kernel_rfl) (by intro _ _ _ h; exact h) (Or.inl ⟨by rfl, ?_⟩) (by assumption) ?_
        rotate_left
        · intro w hSw
          try dsimp only at hSw
          obtain ⟨s0, s1, s2, s3⟩ := hSw
          go_simp
          try with_reducible rfl
        try simp only [Act.put, List.setIfInBounds_toArray, List.set_cons_zero, List.set_cons_succ]
        refine wpAnyH_take (i := 10) (oi := _) (v := ?_) (by simp only [List.getElem?_toArray, List.getElem?_cons_succ, List.getElem?_cons_zero]; rfl) (by kernel_rfl) (by kernel_rfl) (by kernel_rfl) (by intro _ _ _ h; exact h) (Or.inl ⟨by rfl, ?_⟩) (by assumption) ?_
        rotate_left
        · intro w hSw
          try dsimp only at hSw
          obtain ⟨s0, s1, s2, s3⟩ := hSw
          go_simp
          try with_reducible rfl
        try simp only [Act.put, List.setIfInBounds_toArray, List.set_cons_zero, List.set_cons_succ]
        refine wpAnyH_take (i := 11) (oi := _) (v := ?_) (by simp only [List.getElem?_toArray, List.getElem?_cons_succ, List.getElem?_cons_zero]; rfl) (by kernel_rfl) (by kernel_rfl) (by kernel_rfl) (by intro _ _ _ h; exact h) (Or.inl ⟨by rfl, ?_⟩) (by assumption) ?_
        rotate_left
        · intro w hSw
          try dsimp only at hSw
          obtain ⟨s0, s1, s2, s3⟩ := hSw
          go_simp
          try with_reducible rfl
        try simp only [Act.put, List.setIfInBounds_toArray, List.set_cons_zero, List.set_cons_succ]
        refine wpAnyH_take (i := 12) (oi := _) (v := ?_) (by simp only [List.getElem?_toArray, List.getElem?_cons_succ, List.getElem?_cons_zero]; rfl) (by kernel_rfl) (by kernel_rfl) (by kernel_rfl) (by intro _ _ _ h; exact h) (Or.inl ⟨by rfl, ?_⟩) (by assumption) ?_
        rotate_left
        · intro w hSw
          try dsimp only at hSw
          obtain ⟨s0, s1, s2, s3⟩ := hSw
          go_simp
          try with_reducible rfl
        try simp only [Act.put, List.setIfInBounds_toArray, List.set_cons_zero, List.set_cons_succ]
        refine wpAnyH_take (i := 13) (oi := _) (v := ?_) (by simp only [List.getElem?_toArray, List.getElem?_cons_succ, List.getElem?_cons_zero]; rfl) (by kernel_rfl) (by kernel_rfl) (by kernel_rfl) (by intro _ _ _ h; exact h) (Or.inl ⟨by rfl, ?_⟩) (by assumption) ?_
        rotate_left
        · intro w hSw
          try dsimp only at hSw
          obtain ⟨s0, s1, s2, s3⟩ := hSw
          go_simp
          try with_reducible rfl
        try simp only [Act.put, List.setIfInBounds_toArray, List.set_cons_zero, List.set_cons_succ]
        refine wpAnyH_take (i := 14) (oi := _) (v := ?_) (by simp only [List.getElem?_toArray, List.getElem?_cons_succ, List.getElem?_cons_zero]; rfl) (by kernel_rfl) (by kernel_rfl) (by kernel_rfl) (by intro _ _ _ h; exact h) (Or.inl ⟨by rfl, ?_⟩) (by assumption) ?_
        rotate_left
        · intro w hSw
          try dsimp only at hSw
          obtain ⟨s0, s1, s2, s3⟩ := hSw
          go_simp
          try with_reducible rfl
        try simp only [Act.put, List.setIfInBounds_toArray, List.set_cons_zero, List.set_cons_succ]
        refine wpAnyH_take (i := 15) (oi := _) (v := ?_) (by simp only [List.getElem?_toArray, List.getElem?_cons_succ, List.getElem?_cons_zero]; rfl) (by kernel_rfl) (by kernel_rfl) (by kernel_rfl) (by intro _ _ _ h; exact h) (Or.inl ⟨by rfl, ?_⟩) (by assumption) ?_
        rotate_left
        · intro w hSw
          try dsimp only at hSw
          obtain ⟨s0, s1, s2, s3⟩ := hSw
          go_simp
          try with_reducible rfl
        try simp only [Act.put, List.setIfInBounds_toArray, List.set_cons_zero, List.set_cons_succ]
        refine wpAnyH_take (i := 16) (oi := _) (v := ?_) (by simp only [List.getElem?_toArray, List.getElem?_cons_succ, List.getElem?_cons_zero]; rfl) (by kernel_rfl) (by kernel_rfl) (by kernel_rfl) (by intro _ _ _ h; exact h) (Or.inl ⟨by rfl, ?_⟩) (by assumption) ?_
        rotate_left
        · intro w hSw
          try dsimp only at hSw
          obtain ⟨s0, s1, s2, s3⟩ := hSw
          go_simp
          try with_reducible rfl
        try simp only [Act.put, List.setIfInBounds_toArray, List.set_cons_zero, List.set_cons_succ]
        refine wpAnyH_take (i := 17) (oi := _) (v := ?_) (by simp only [List.getElem?_toArray, List.getElem?_cons_succ, List.getElem?_cons_zero]; rfl) (by kernel_rfl) (by kernel_rfl) (by kernel_rfl) (by intro _ _ _ h; exact h) (Or.inl ⟨by rfl, ?_⟩) (by assumption) ?_
        rotate_left
        · intro w hSw
          try dsimp only at hSw
          obtain ⟨s0, s1, s2, s3⟩ := hSw
          go_simp
          try with_reducible rfl
        try simp only [Act.put, List.setIfInBounds_toArray, List.set_cons_zero, List.set_cons_succ]
        refine wpAnyH_take (i := 18) (oi := _) (v := ?_) (by simp only [List.getElem?_toArray, List.getElem?_cons_succ, List.getElem?_cons_zero]; rfl) (by kernel_rfl) (by kernel_rfl) (by kernel_rfl) (by intro _ _ _ h; exact h) (Or.inl ⟨by rfl, ?_⟩) (by assumption) ?_
        rotate_left
        · intro w hSw
          try dsimp only at hSw
          obtain ⟨s0, s1, s2, s3⟩ := hSw
          go_simp
          try with_reducible rfl
        try simp only [Act.put, List.setIfInBounds_toArray, List.set_cons_zero, List.set_cons_succ]
        refine wpAnyH_take (i := 19) (oi := _) (v := ?_) (by simp only [List.getElem?_toArray, List.getElem?_cons_succ, List.getElem?_cons_zero]; rfl) (by kernel_rfl) (by kernel_rfl) (by kernel_rfl) (by intro _ _ _ h; exact h) (Or.inl ⟨by rfl, ?_⟩) (by assumption) ?_
        rotate_left
        · intro w hSw
          try dsimp only at hSw
          obtain ⟨s0, s1, s2, s3⟩ := hSw
          go_simp
          try with_reducible rfl
        try simp only [Act.put, List.setIfInBounds_toArray, List.set_cons_zero, List.set_cons_succ]
        refine wpAnyH_take (i := 20) (oi := _) (v := ?_) (by simp only [List.getElem?_toArray, List.getElem?_cons_succ, List.getElem?_cons_zero]; rfl) (by kernel_rfl) (by kernel_rfl) (by kernel_rfl) (by intro _ _ _ h; exact h) (Or.inl ⟨by rfl, ?_⟩) (by assumption) ?_
        rotate_left
        · intro w hSw
          try dsimp only at hSw
          obtain ⟨s0, s1, s2, s3⟩ := hSw
          go_simp
          try with_reducible rfl
        try simp only [Act.put, List.setIfInBounds_toArray, List.set_cons_zero, List.set_cons_succ]
        refine wpAnyH_take (i := 21) (oi := _) (v := ?_) (by simp only [List.getElem?_toArray, List.getElem?_cons_succ, List.getElem?_cons_zero]; rfl) (by kernel_rfl) (by kernel_rfl) (by kernel_rfl) (by intro _ _ _ h; exact h) (Or.inl ⟨by rfl, ?_⟩) (by assumption) ?_
        rotate_left
        · intro w hSw
          try dsimp only at hSw
          obtain ⟨s0, s1, s2, s3⟩ := hSw
          go_simp
          try with_reducible rfl
        try simp only [Act.put, List.setIfInBounds_toArray, List.set_cons_zero, List.set_cons_succ]
        refine wpAnyH_take (i := 22) (oi := _) (v := ?_) (by simp only [List.getElem?_toArray, List.getElem?_cons_succ, List.getElem?_cons_zero]; rfl) (by kernel_rfl) (by kernel_rfl) (by kernel_rfl) (by intro _ _ _ h; exact h) (Or.inl ⟨by rfl, ?_⟩) (by assumption) ?_
        rotate_left
        · intro w hSw
          try dsimp only at hSw
          obtain ⟨s0, s1, s2, s3⟩ := hSw
          go_simp
          try with_reducible rfl
        try simp only [Act.put, List.setIfInBounds_toArray, List.set_cons_zero, List.set_cons_succ]
        refine wpAnyH_take (i := 23) (oi := _) (v := ?_) (by simp only [List.getElem?_toArray, List.getElem?_cons_succ, List.getElem?_cons_zero]; rfl) (by kernel_rfl) (by kernel_rfl) (by kernel_rfl) (by intro _ _ _ h; exact h) (Or.inl ⟨by rfl, ?_⟩) (by assumption) ?_
        rotate_left
        · intro w hSw
          try dsimp only at hSw
          obtain ⟨s0, s1, s2, s3⟩ := hSw
          go_simp
          try with_reducible rfl
        try simp only [Act.put, List.setIfInBounds_toArray, List.set_cons_zero, List.set_cons_succ]
        refine wpAnyH_take (i := 24) (oi := _) (v := ?_) (by simp only [List.getElem?_toArray, List.getElem?_cons_succ, List.getElem?_cons_zero]; rfl) (by kernel_rfl) (by kernel_rfl) (by kernel_rfl) (by intro _ _ _ h; exact h) (Or.inl ⟨by rfl, ?_⟩) (by assumption) ?_
        rotate_left
        · intro w hSw
          try dsimp only at hSw
          obtain ⟨s0, s1, s2, s3⟩ := hSw
          go_simp
          try with_reducible rfl
        try simp only [Act.put, List.setIfInBounds_toArray, List.set_cons_zero, List.set_cons_succ]
        refine wpAnyH_take (i := 25) (oi := _) (v := ?_) (by simp only [List.getElem?_toArray, List.getElem?_cons_succ, List.getElem?_cons_zero]; rfl) (by kernel_rfl) (by kernel_rfl) (by kernel_rfl) (by intro _ _ _ h; exact h) (Or.inl ⟨by rfl, ?_⟩) (by assumption) ?_
        rotate_left
        · intro w hSw
          try dsimp only at hSw
          obtain ⟨s0, s1, s2, s3⟩ := hSw
          go_simp
          try with_reducible rfl
        try simp only [Act.put, List.setIfInBounds_toArray, List.set_cons_zero, List.set_cons_succ]
        refine wpAnyH_take (i := 26) (oi := _) (v := ?_) (by simp only [List.getElem?_toArray, List.getElem?_cons_succ, List.getElem?_cons_zero]; rfl) (by kernel_rfl) (by kernel_rfl) (by kernel_rfl) (by intro _ _ _ h; exact h) (Or.inl ⟨by rfl, ?_⟩) (by assumption) ?_
        rotate_left
        · intro w hSw
          try dsimp only at hSw
          obtain ⟨s0, s1, s2, s3⟩ := hSw
          go_simp
          try with_reducible rfl
        try simp only [Act.put, List.setIfInBounds_toArray, List.set_cons_zero, List.set_cons_succ]
        refine wpAnyH_take (i := 27) (oi := _) (v := ?_) (by simp only [List.getElem?_toArray, List.getElem?_cons_succ, List.getElem?_cons_zero]; rfl) (by kernel_rfl) (by kernel_rfl) (by kernel_rfl) (by intro _ _ _ h; exact h) (Or.inl ⟨by rfl, ?_⟩) (by assumption) ?_
        rotate_left
        · intro w hSw
          try dsimp only at hSw
          obtain ⟨s0, s1, s2, s3⟩ := hSw
          go_simp
          try with_reducible rfl
        try simp only [Act.put, List.setIfInBounds_toArray, List.set_cons_zero, List.set_cons_succ]
        refine wpAnyH_take (i := 28) (oi := _) (v := ?_) (by simp only [List.getElem?_toArray, List.getElem?_cons_succ, List.getElem?_cons_zero]; rfl) (by kernel_rfl) (by kernel_rfl) (by kernel_rfl) (by intro _ _ _ h; exact h) (Or.inl ⟨by rfl, ?_⟩) (by assumption) ?_
        rotate_left
        · intro w hSw
          try dsimp only at hSw
          obtain ⟨s0, s1, s2, s3⟩ := hSw
          go_simp
          try with_reducible rfl
        try simp only [Act.put, List.setIfInBounds_toArray, List.set_cons_zero, List.set_cons_succ]
        refine wpAnyH_take (i := 29) (oi := _) (v := ?_) (by simp only [List.getElem?_toArray, List.getElem?_cons_succ, List.getElem?_cons_zero]; rfl) (by kernel_rfl) (by kernel_rfl) (by kernel_rfl) (by intro _ _ _ h; exact h) (Or.inl ⟨by rfl, ?_⟩) (by assumption) ?_
        rotate_left
        · intro w hSw
          try dsimp only at hSw
          obtain ⟨s0, s1, s2, s3⟩ := hSw
          go_simp
          try with_reducible rfl
        try simp only [Act.put, List.setIfInBounds_toArray, List.set_cons_zero, List.set_cons_succ]
        refine wpAnyH_take (i := 30) (oi := _) (v := ?_) (by simp only [List.getElem?_toArray, List.getElem?_cons_succ, List.getElem?_cons_zero]; rfl) (by kernel_rfl) (by kernel_rfl) (by kernel_rfl) (by intro _ _ _ h; exact h) (Or.inl ⟨by rfl, ?_⟩) (by assumption) ?_
        rotate_left
        · intro w hSw
          try dsimp only at hSw
          obtain ⟨s0, s1, s2, s3⟩ := hSw
          go_simp
          try with_reducible rfl
        try simp only [Act.put, List.setIfInBounds_toArray, List.set_cons_zero, List.set_cons_succ]
        refine wpAnyH_take (i := 31) (oi := _) (v := ?_) (by simp only [List.getElem?_toArray, List.getElem?_cons_succ, List.getElem?_cons_zero]; rfl) (by kernel_rfl) (by kernel_rfl) (by kernel_rfl) (by intro _ _ _ h; exact h) (Or.inl ⟨by rfl, ?_⟩) (by assumption) ?_
        rotate_left
        · intro w hSw
          try dsimp only at hSw
          obtain ⟨s0, s1, s2, s3⟩ := hSw
          go_simp
          try with_reducible rfl
        try simp only [Act.put, List.setIfInBounds_toArray, List.set_cons_zero, List.set_cons_succ]
        refine wpAnyH_done (by kernel_rfl) ?_ _
        obtain ⟨hown23, hb3, hT⟩ := HW3.out
        clear HS5 hcv HW HW3 HSP
        go_wp2_with fail
        go_loopw [9] (fun x wr => ∃ i : Nat, i ≤ n ∧ x = .int .i64 i ∧ Below W.heap.size W wr) (fun x _ => n - (intOf x).toNat)
        case atStart => exact ⟨0, by omega, rfl, hb5⟩
        case round =>
          obtain ⟨i, hi, rfl, hbr⟩ := hrel
          have hbw := hb3.trans (hbr.mono hb3.size)
          by_cases hlt : i < n
          · obtain ⟨ad, q, rfl, hab, hq, hcl⟩ := piece_at (HR.out.below hbw) hlt
            have hiI : (i : Int) < (n : Int) := by omega
            have hi0 : (0 : Int) ≤ (i : Int) := Int.natCast_nonneg _
            have t2 : wr.cell? ⟨g, 2, none⟩ = some (.slice A2 n c2) := (HS.out wr hbr).2.2.2
            have hown2r := own_kept hown23 hbr
            obtain ⟨g2, cap2, e2, _⟩ := hown2r.form (by omega)
            injection e2 with e2 _ e2'
            subst e2 e2'
            have hca := hown2r.cellAt
            obtain ⟨p, hp, hpz⟩ : ∃ p, qs[i]? = some p ∧ p.zs = q.zs := by
              have h1 : (qs.map Pc.zs)[i]? = some q.zs := by rw [HQ3.out.1]; exact zs_at hq
              rw [List.getElem?_map, Option.map_eq_some_iff] at h1
              exact h1
            have hpo := (HQ3.out.2 p (List.mem_of_getElem? hp)).below hbr
            have hqo := (HP.out q (List.mem_of_getElem? hq)).to hbw (Nat.le_refl _)
            have hkl := hqo.len
            obtain ⟨qa, k, qc, qz⟩ := q
            obtain ⟨pv, pz⟩ := p
            simp only at hkl hpz hcl hq hqo
            subst hpz
            subst hkl
            obtain ⟨UA, uc, hUe⟩ := own_slice hpo
            simp only at hUe
            subst hUe
            have hk1 := conv18 (w := wr.drew) uc (Reads.of_own hpo).drew
            have hk2 := conv18 (w := wr.drew) qc hqo.1.drew
            simp only at hk1 hk2
            have x0 : wr.cell? ⟨g2, i * 18 + 0, none⟩ = some (.int .i64 16) := (hca _ (by omega)).trans ((flat_at hp (by decide)).trans rfl)
            have x1 : wr.cell? ⟨g2, i * 18 + 1, none⟩ = some (.int .i64 1000) := (hca _ (by omega)).trans ((flat_at hp (by decide)).trans rfl)
            have x2 : wr.cell? ⟨g2, i * 18 + 12, none⟩ = some (.slice UA pz.length uc) := (hca _ (by omega)).trans ((flat_at hp (by decide)).trans rfl)
            rw [Nat.add_zero] at x0
            generalize strOfNums pz = SZ at *
            have hbd := Lib.hid hbr
            clear hca hpo hqo hp hq hown2r hbw hbr
            go_wp2_with fail
            go_region
            go_wp2
            go_roundw
            case rel => exact ⟨i + 1, by omega, by go_num, hbd.out.drew⟩
            case measure => simp [intOf]; omega
          · have hiI2 : ¬ (i : Int) < (n : Int) := by omega
            go_wp2_with fail
            refine (lives18 _).mono ?_
            rintro e w6 ⟨rfl, hb6⟩
            go_wp2
            go_ret
            exact ⟨rfl, bthen hbw hb6⟩
      · have hboth : (∀ w' : World, Below w.heap.size w w' → Calls Try.prog 50 #[.slice A n c] w' fun e w'' => e = .returned (.bool false) ∧ w' = w'') ∧ (∀ w' : World, Below w.heap.size w w' → Calls Try.prog 38 #[.slice A n c] w' fun e w'' => e = .returned (.bool false) ∧ w' = w'') := by
          by_cases hn : (n : Int) ≤ 4096
          · have hfit : fitK 0 (ps.map Piece.n) = false := by
              cases hf : fitK 0 (ps.map Piece.n) with
              | false => rfl
              | true => exact absurd ⟨hn, hf⟩ hok
            refine ⟨fun w' h => ?_, fun w' h => ?_⟩
            · have := fits_any w' w.heap.size n c A ps (HR.out.below h) hn
              rw [hfit] at this
              exact this
            · have := fitsR_any w' w.heap.size n c A ps (HR.out.below h) (fun q hm => (HP.out q hm).to h (Nat.le_refl _)) hn
              rw [hfit] at this
              exact this
          · exact ⟨fun w' h => fits_many w' n c A (by omega), fun w' h => fitsR_many w' n c A (by omega)⟩
        have HB := Lib.hid hboth
        clear hboth hok
        have hwr := write_bad w n c A (HB.out.1 w (Below.refl _ _))
        have htp := tape_bad w n c A HB.out.1
        go_wp2_with fail
        refine hwr.mono ?_
        rintro e w1 ⟨rfl, rfl⟩
        clear hwr
        go_wp2_with fail
        refine htp.mono ?_
        rintro e w2 ⟨rfl, hb2⟩
        clear htp
        have hb3 : Below w.heap.size w (w2.alloc (.cells #[.int .i64 0, .int .i64 0, .slice none 0 0] 64)) := hb2.alloc hb2.size _
        have hT : Blk (w2.alloc (.cells #[.int .i64 0, .int .i64 0, .slice none 0 0] 64)) w2.heap.size 64 #[.int .i64 0, .int .i64 0, .slice none 0 0] := Blk.new w2 _ _
        go_wp2_with fail
        refine (HB.out.2 _ hb3).mono ?_
        rintro e w4 ⟨rfl, rfl⟩
        go_wp2_with fail
        refine (lives18 _).mono ?_
        rintro e w5 ⟨rfl, hb5⟩
        go_wp2
        go_ret
        exact ⟨rfl, bthen hb3 hb5⟩

end Go.Proofs.Ytpfojhmaeaeecaa
