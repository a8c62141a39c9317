/- Contracts of layer 18: the document's file, and blocks as a tape. -/
import Derived.Test.YtpfojhmaeaeecaaTapT
import Derived.Deep.RegionHeld3
import Derived.Deep.AppendLies
namespace Go.Proofs.Ytpfojhmaeaeecaa
open Go.RowKit

set_option maxRecDepth 100000 in
set_option maxHeartbeats 2000000 in
theorem writeR_any (w : World) (n c : Nat) (A : Option Addr) (ps : List Piece) (hr : Reads w w.heap.size 1 A n (ps.map Piece.val)) (hps : ∀ q ∈ ps, q.ok w w.heap.size) (hn : (n : Int) ≤ 4096) (hfit : fitK 0 (ps.map Piece.n) = true) :
    Calls Try.prog 39 #[.slice A n c] w fun e w' => ∃ V, e = .returned V ∧ w'.ownsRow w.heap.size 5 1 V (wrB (ps.map Piece.zs)).length ((wrB (ps.map Piece.zs)).map (Value.int .u8)) ∧ Below w.heap.size w w' := by
  obtain ⟨i0, hi, hz0, hz1, hz2⟩ := info_parts u8Info
  have HL := Lib.hid (rows_len hr)
  have hfl := fitK_len (ps.map Piece.zs) 0 (by omega) (by rw [← ns_zs hps]; exact hfit)
  have HF := Lib.hid hfl
  have HP := Lib.hid hps
  clear hfit hfl hps
  go_enter Try.func39, Try.ntmps39
  go_wp2
  go_loopw [3, 4] (fun x j wr => ∃ (i : Nat) (L : List Int), i ≤ n ∧ j = .int .i64 i ∧ Hid (L = wrB ((ps.map Piece.zs).take i)) ∧ wr.ownsRow w.heap.size 5 1 x L.length (L.map (Value.int .u8)) ∧ Below w.heap.size w wr) (fun _ j _ => n - (intOf j).toNat)
  case atStart => exact ⟨0, [], by omega, rfl, Lib.hid rfl, World.ownsRow_nil _ _ _ _, Below.refl _ _⟩
  case round =>
    obtain ⟨i, L, hi', rfl, HLi, hown, hbl⟩ := hrel
    by_cases hlt : i < n
    · obtain ⟨ad, q, rfl, hab, hq, hcl⟩ := piece_at (hr.below hbl) hlt
      have hok := HP.out q (List.mem_of_getElem? hq)
      have HS := Lib.hid (show wrB ((ps.map Piece.zs).take (i + 1)) = (L ++ bytesL 2 q.zs.length) ++ q.zs by rw [wrB_snoc (zs_at hq), HLi.out])
      have h64 := HF.out.1 q.zs (List.mem_of_getElem? (zs_at hq))
      have hLl : L.length + (2 + q.zs.length) ≤ 1048576 := by
        have h1 := wrB_take (ps.map Piece.zs) (i + 1)
        rw [HS.out] at h1
        have h2 := HF.out.2
        simp [bytesL_len] at h1
        omega
      have HCL := Lib.hid (show ∀ w' : World, Below w.heap.size w w' → w'.cell? (ad.add i) = some q.val from fun w' h => by
        obtain ⟨ad', q', e', _, hq', hcl'⟩ := piece_at (hr.below h) hlt
        injection e' with e'
        subst e'
        rw [hq] at hq'
        injection hq' with hq'
        subst hq'
        exact hcl')
      obtain ⟨qa, k, qc, qz⟩ := q
      have hkl := hok.len
      obtain ⟨hrq, hkc, hcm, huq⟩ := hok
      simp only at *
      subst hkl
      have hiI : (i : Int) < (n : Int) := by omega
      have hi0 : (0 : Int) ≤ (i : Int) := Int.natCast_nonneg _
      have hone : ∀ u ∈ qz.map (Value.int .u8), u.oneCell' = true := fun u hu => by
        simp only [List.mem_map] at hu
        obtain ⟨z, _, rfl⟩ := hu
        rfl
      have hl2 : (L ++ bytesL 2 qz.length).length = L.length + 2 := by simp [bytesL_len]
      have hrd := fun (w' : World) (h : Below w.heap.size w w') => hrq.below h
      have HRD := Lib.hid hrd
      have hns : ∀ k, u3.ownBlock = some k → w.heap.size ≤ k := fun k hk => (hown.lt k hk).1
      generalize hX : bytesL 2 (qz.length : Int) = X at *
      have HX := Lib.hid hX
      generalize hY : L ++ X = Y at *
      have HY := Lib.hid hY
      have hown0 := hown
      have hsz0 := hbl.size
      clear hX hY hq hown hrq hrd huq
      have hownd := hown0.drew
      have HPUT := Lib.hid (show ∀ wx : World, Below w.heap.size wr wx → wx.ownsRow w.heap.size 5 1 u3 L.length (L.map (Value.int .u8)) → wx.heap.size = wr.heap.size → Calls Try.prog 12 #[u3, .int .i64 2, .int .i64 (qz.length : Int)] wx fun e w2 => ∃ V2, e = .returned V2 ∧ w2.ownsRow w.heap.size 5 1 V2 (L.length + 2) (Y.map (Value.int .u8)) ∧ Below w.heap.size w w2 from fun wx hbx hox hsz => by
        have hbw := hbl.trans hbx
        refine (put17R_any wx w.heap.size L.length 2 _ (qz.length : Int) L (by omega) (by omega) hox (by omega) (by omega) hbw.size (by omega)).mono ?_
        rintro e w2 ⟨V2, rfl, h1, h2, _⟩
        rw [HX.out, HY.out] at h1
        exact ⟨V2, rfl, h1, hbw.grown h2 hbw.size hns⟩)
      clear hbl hns hown0
      go_wp2_with fail
      refine wp_region_held_drew (S := fun w' => w'.cell? (ad.add i) = some (.slice qa qz.length qc)) (by kernel_rfl) ?_ (fun hHeld => ?_)
      · exact hcl
      refine wpAnyH_take (i := 0) (oi := _) (v := ?_) (by simp only [List.getElem?_toArray, List.getElem?_cons_succ, List.getElem?_cons_zero]; rfl) (by kernel_rfl) (by kernel_rfl) (by kernel_rfl) (by intro _ _ _ h; exact h) (Or.inl ⟨by rfl, ?_⟩) (by assumption) ?_
      rotate_left
      · intro w hSw
        try dsimp only at hSw
        go_simp
        try with_reducible rfl
      try simp only [Act.put, List.setIfInBounds_toArray, List.set_cons_zero, List.set_cons_succ]
      refine wpAnyH_take (i := 1) (oi := _) (v := ?_) (by simp only [List.getElem?_toArray, List.getElem?_cons_succ, List.getElem?_cons_zero]; rfl) (by kernel_rfl) (by kernel_rfl) (by kernel_rfl) (by intro _ _ _ h; exact h) (Or.inl ⟨by rfl, ?_⟩) (by assumption) ?_
      rotate_left
      · intro w hSw
        try dsimp only at hSw
        go_simp
        try with_reducible rfl
      try simp only [Act.put, List.setIfInBounds_toArray, List.set_cons_zero, List.set_cons_succ]
      refine wpAnyH_take (i := 2) (oi := _) (v := ?_) (by simp only [List.getElem?_toArray, List.getElem?_cons_succ, List.getElem?_cons_zero]; rfl) (by kernel_rfl) (by kernel_rfl) (by kernel_rfl) (by intro _ _ _ h; exact h) (Or.inl ⟨by rfl, ?_⟩) (by assumption) ?_
      rotate_left
      · intro w hSw
        try dsimp only at hSw
        go_simp
        try with_reducible rfl
      try simp only [Act.put, List.setIfInBounds_toArray, List.set_cons_zero, List.set_cons_succ]
      refine wpAnyH_take (i := 3) (oi := _) (v := ?_) (by simp only [List.getElem?_toArray, List.getElem?_cons_succ, List.getElem?_cons_zero]; rfl) (by kernel_rfl) (by kernel_rfl) (by kernel_rfl) (by intro _ _ _ h; exact h) (Or.inl ⟨by rfl, ?_⟩) (by assumption) ?_
      rotate_left
      · intro w hSw
        try dsimp only at hSw
        go_simp
        try with_reducible rfl
      try simp only [Act.put, List.setIfInBounds_toArray, List.set_cons_zero, List.set_cons_succ]
      refine wpAnyH_take (i := 4) (oi := _) (v := ?_) (by simp only [List.getElem?_toArray, List.getElem?_cons_succ, List.getElem?_cons_zero]; rfl) (by kernel_rfl) (by kernel_rfl) (by kernel_rfl) (by intro _ _ _ h; exact h) (Or.inl ⟨by rfl, ?_⟩) (by assumption) ?_
      rotate_left
      · intro w hSw
        try dsimp only at hSw
        go_simp
        try with_reducible rfl
      try simp only [Act.put, List.setIfInBounds_toArray, List.set_cons_zero, List.set_cons_succ]
      refine wpAnyH_take (i := 5) (oi := _) (v := ?_) (by simp only [List.getElem?_toArray, List.getElem?_cons_succ, List.getElem?_cons_zero]; rfl) (by kernel_rfl) (by kernel_rfl) (by kernel_rfl) (by intro _ _ _ h; exact h) (Or.inl ⟨by rfl, ?_⟩) (by assumption) ?_
      rotate_left
      · intro w hSw
        try dsimp only at hSw
        go_simp
        try with_reducible rfl
      try simp only [Act.put, List.setIfInBounds_toArray, List.set_cons_zero, List.set_cons_succ]
      refine wpAnyH_take (i := 7) (oi := _) (v := ?_) (by simp only [List.getElem?_toArray, List.getElem?_cons_succ, List.getElem?_cons_zero]; rfl) (by kernel_rfl) (by kernel_rfl) (by kernel_rfl) (by intro _ _ _ h; exact h) (Or.inl ⟨by rfl, ?_⟩) (by assumption) ?_
      rotate_left
      · intro w hSw
        try dsimp only at hSw
        go_simp
        try with_reducible rfl
      try simp only [Act.put, List.setIfInBounds_toArray, List.set_cons_zero, List.set_cons_succ]
      refine wpAnyH_take (i := 8) (oi := _) (v := ?_) (by simp only [List.getElem?_toArray, List.getElem?_cons_succ, List.getElem?_cons_zero]; rfl) (by kernel_rfl) (by kernel_rfl) (by kernel_rfl) (by intro _ _ _ h; exact h) (Or.inl ⟨by rfl, ?_⟩) (by assumption) ?_
      rotate_left
      · intro w hSw
        try dsimp only at hSw
        go_simp
        try with_reducible rfl
      try simp only [Act.put, List.setIfInBounds_toArray, List.set_cons_zero, List.set_cons_succ]
      refine wpAnyH_take (i := 9) (oi := _) (v := ?_) (by simp only [List.getElem?_toArray, List.getElem?_cons_succ, List.getElem?_cons_zero]; rfl) (by kernel_rfl) (by kernel_rfl) (by kernel_rfl) (by intro _ _ _ h; exact h) (Or.inl ⟨by rfl, ?_⟩) (by assumption) ?_
      rotate_left
      · intro w hSw
        try dsimp only at hSw
        go_simp
        try with_reducible rfl
      try simp only [Act.put, List.setIfInBounds_toArray, List.set_cons_zero, List.set_cons_succ]
      refine wpAnyH_take (i := 10) (oi := _) (v := ?_) (by simp only [List.getElem?_toArray, List.getElem?_cons_succ, List.getElem?_cons_zero]; rfl) (by kernel_rfl) (by kernel_rfl) (by kernel_rfl) (by intro _ _ _ h; exact h) (Or.inl ⟨by rfl, ?_⟩) (by assumption) ?_
      rotate_left
      · intro w hSw
        try dsimp only at hSw
        go_simp
        try with_reducible rfl
      try simp only [Act.put, List.setIfInBounds_toArray, List.set_cons_zero, List.set_cons_succ]
      refine wpAnyH_ready (rs := [6]) (by kernel_rfl) (by simp) ?_
      refine AllReadyH.cons (o := _) (by simp only [List.getElem?_toArray, List.getElem?_cons_succ, List.getElem?_cons_zero]; rfl) (fun K hK => ?_) AllReadyH.nil
      go_simp
      go_wp2_with fail
      refine (HPUT.out _ (Below.refl _ _).drew hownd (by rfl)).mono ?_
      rintro e w2 ⟨V2, rfl, hown2, hbl2⟩
      obtain ⟨A2, c2, rfl⟩ := own_slice hown2
      have hrq2 := HRD.out w2 hbl2
      refine hK.out _ _ ?_ (fun hHeld => ?_)
      · exact HCL.out w2 hbl2
      clear hK K
      try simp only [Act.put, List.setIfInBounds_toArray, List.set_cons_zero, List.set_cons_succ]
      refine wpAnyH_ready (rs := [11]) (by kernel_rfl) (by simp) ?_
      refine AllReadyH.cons (o := _) (by simp only [List.getElem?_toArray, List.getElem?_cons_succ, List.getElem?_cons_zero]; rfl) (fun K hK => ?_) AllReadyH.nil
      refine step_append_any _ (by rfl) _ _ _ (by rfl) w.heap.size 5 i0 (.int .u8 0) 1 1 Try.underlying22 hi hz0 hz1 hz2 rfl (by decide) _ (L.length + 2) _ (by rfl) hown2 w.heap.size qa qz.length qc (qz.map (Value.int .u8)) (by rfl) hrq2 hone (by unfold maxLen; omega) (by omega) (by have := hbl2.size; omega) ?_
      intro v3 w3 own3 hg3 _
      have hbl3 : Below w.heap.size w w3 := hbl2.grown hg3 hbl2.size (fun k hk => (hown2.lt k hk).1)
      refine hK.out _ _ ?_ (fun hHeld => ?_)
      · exact HCL.out w3 hbl3
      clear hK K
      try simp only [Act.put, List.setIfInBounds_toArray, List.set_cons_zero, List.set_cons_succ]
      refine wpAnyH_ready (rs := [12]) (by kernel_rfl) (by simp) ?_
      refine AllReadyH.cons (o := _) (by simp only [List.getElem?_toArray, List.getElem?_cons_succ, List.getElem?_cons_zero]; rfl) (fun K hK => ?_) AllReadyH.nil
      go_simp
      refine hK.out _ _ ?_ (fun hHeld => ?_)
      · exact HCL.out w3 hbl3
      clear hK K
      try simp only [Act.put, List.setIfInBounds_toArray, List.set_cons_zero, List.set_cons_succ]
      refine wpAnyH_done (by kernel_rfl) ?_ _
      go_wp2
      go_roundw
      case rel => exact ⟨i + 1, Y ++ qz, by omega, by go_num, Lib.hid (by rw [HS.out]), by simpa [hl2] using own3, hbl3⟩
      case measure => simp [intOf]; omega
    · have hiI : ¬ (i : Int) < (n : Int) := by omega
      have hk2 : (ps.map Piece.zs).take i = ps.map Piece.zs := by rw [List.take_of_length_le (by rw [List.length_map, HL.out]; omega)]
      rw [hk2] at HLi
      go_wp2
      go_ret
      exact ⟨_, rfl, by rw [← HLi.out]; exact hown, hbl⟩


end Go.Proofs.Ytpfojhmaeaeecaa
