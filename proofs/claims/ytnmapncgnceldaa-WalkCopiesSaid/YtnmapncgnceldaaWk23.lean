/- Layer 24: contract of the document's silent. -/
import Derived.Test.YtnmapncgnceldaaWk22
namespace Go.Proofs.Ytnmapncgnceldaa
open Go.RowKit


set_option maxRecDepth 100000 in
set_option maxHeartbeats 8000000 in
theorem silent35 (w : World) (LA : Option Addr) (ln lc : Nat) (KA : Option Addr) (kn kc : Nat) (bs : List WB) (s : WS) (d : DW) (hR : DR s d) (hok : s.ok bs) (hf : Fine bs) (hlt : s.at_ < bs.length) (hB : BlksR w (· < w.heap.size) LA ln bs) (φ : Nat → Prop) (hφ : ∀ b, φ b → b < w.heap.size) (hT : RdP w φ 1 KA kn (s.tk.reverse.map (Value.int .i64))) (hid : (atB bs s.at_).id = 35) :
    Calls Try.prog 23 #[.agg (dwC LA ln lc KA kn kc d)] w fun x w' => SilO w w' x LA ln lc KA kn kc bs s d φ := by
  obtain ⟨n, hn⟩ : ∃ n : Nat, s.at_ = (n : Int) := ⟨s.at_.toNat, by have := hok.1; omega⟩
  have hln := hB.len
  have hl60 : ln ≤ 60 := by have := hf.1; omega
  have hnl : n < ln := by omega
  have hdn : atB bs s.at_ = bs.getD n default := by rw [hn]; rfl
  have hfn := hf.2 n (by omega)
  have hkl : kn ≤ 60 := by have := hok.2.2.2.2.2.2; have := reads_len (hT.reads (B := w.heap.size) hφ); simp at this; omega
  obtain ⟨r1, r2, r3, r4, r5, r6, r7, r8⟩ := hR
  rw [hn] at r1
  have hwn : IntKind.i64.wrap ((n : Int) + 1) = (n : Int) + 1 := by rw [IntKind.wrap_i64]; omega
  have hn0 : (0 : Int) ≤ (n : Int) := Int.natCast_nonneg _
  have hnI : (n : Int) < (ln : Int) := by omega
  have HR := Lib.hid (And.intro r1 (And.intro r2 (And.intro r3 (And.intro r4 (And.intro r5 (And.intro r6 (And.intro r7 r8)))))))
  have HG := Lib.hid (And.intro hok (And.intro hf (And.intro hn (And.intro hdn (And.intro hfn (And.intro hT hln))))))
  have HID := Lib.hid hid
  have HBk := Lib.hid hB
  have HPH := Lib.hid hφ
  clear hφ r1 r2 r3 r4 r5 r6 r7 r8 hok hf hn hdn hfn hT hln hid hlt hB
  have hb2 : Below w.heap.size w ((w.alloc (.cells (dwC LA ln lc KA kn kc d) 33)).alloc (.cells #[.slice none 0 0, .int .i64 0, .int .i64 0, .int .i64 0, .bool false, .int .i64 0, .int .i64 0, .slice none 0 0, .bool false, .int .i64 0, .int .i64 0, .int .i64 0] 33)) := ((Below.refl _ _).alloc (Nat.le_refl _) _).alloc (by simp) _
  have hP : Blk ((w.alloc (.cells (dwC LA ln lc KA kn kc d) 33)).alloc (.cells #[.slice none 0 0, .int .i64 0, .int .i64 0, .int .i64 0, .bool false, .int .i64 0, .int .i64 0, .slice none 0 0, .bool false, .int .i64 0, .int .i64 0, .int .i64 0] 33)) w.heap.size 33 (dwC LA ln lc KA kn kc d) := (Blk.new w _ _).alloc _
  have hQ : Blk ((w.alloc (.cells (dwC LA ln lc KA kn kc d) 33)).alloc (.cells #[.slice none 0 0, .int .i64 0, .int .i64 0, .int .i64 0, .bool false, .int .i64 0, .int .i64 0, .slice none 0 0, .bool false, .int .i64 0, .int .i64 0, .int .i64 0] 33)) (w.heap.size + 1) 33 #[.slice none 0 0, .int .i64 0, .int .i64 0, .int .i64 0, .bool false, .int .i64 0, .int .i64 0, .slice none 0 0, .bool false, .int .i64 0, .int .i64 0, .int .i64 0] := by
    have := Blk.new (w.alloc (.cells (dwC LA ln lc KA kn kc d) 33)) 33 #[.slice none 0 0, .int .i64 0, .int .i64 0, .int .i64 0, .bool false, .int .i64 0, .int .i64 0, .slice none 0 0, .bool false, .int .i64 0, .int .i64 0, .int .i64 0]
    simpa using this
  have H0 := Lib.hid (And.intro hb2 (And.intro hP hQ))
  clear hb2 hP hQ
  go_enter Try.func23, Try.ntmps23
  go_upto_region 1 with fail
  generalize ((w.alloc (.cells (dwC LA ln lc KA kn kc d) 33)).alloc (.cells #[.slice none 0 0, .int .i64 0, .int .i64 0, .int .i64 0, .bool false, .int .i64 0, .int .i64 0, .slice none 0 0, .bool false, .int .i64 0, .int .i64 0, .int .i64 0] 33)) = w0 at *
  have hs0 := H0.out.1.size
  have hql := H0.out.2.2.lt
  have c0 : w0.cell? ⟨w.heap.size, 0, none⟩ = some (.slice LA ln lc) := (H0.out.2.1.cell 0).trans rfl
  have c1 : w0.cell? ⟨w.heap.size, 1, none⟩ = some (.int .i64 (n : Int)) := by rw [← HR.out.1]; exact (H0.out.2.1.cell 1).trans rfl
  have hBr := HBk.out.keep (w' := w0) (ψ := (· < w.heap.size)) (fun b hb => H0.out.1.block b hb) (fun b hb => hb)
  obtain ⟨ad, hLA, hab, cs, hWB, hc18⟩ := hBr.at_ (i := n) hnl
  obtain ⟨q, hq⟩ : ∃ q, q = bs.getD n default := ⟨_, rfl⟩
  rw [← hq] at hWB
  obtain ⟨v2, v3, v4, v5, v6, v7, v9, v10, v11, v12, TA, tn, tc, IA, ic, v15, v16, v17, rfl, h1c, hTs, hIs⟩ := hWB
  have X0 := Lib.hid (show ∀ jj vv, ([.int .i64 q.id, .int .i64 q.pz, v2, v3, v4, v5, v6, v7, .int .i64 q.ct, v9, v10, v11, v12, .slice TA tn tc, .slice IA q.ns.length ic, v15, v16, v17] : List Value)[jj]? = some vv → w0.cell? ((ad.add (n * 18)).add jj) = some vv from hc18)
  have X1 := Lib.hid (show (#[.int .i64 q.id, .int .i64 q.pz, v2, v3, v4, v5, v6, v7, .int .i64 q.ct, v9, v10, v11, v12, .slice TA tn tc, .slice IA q.ns.length ic, v15, v16, v17] : Array Value).all (·.oneCell') = true from all_one h1c)
  have HD := Lib.hid (And.intro hq (And.intro hTs hIs))
  clear hc18 h1c hq hTs hIs
  rw [hLA] at c0
  have HLA := Lib.hid hLA
  clear hLA
  have hqid := HD.out.1
  rw [← HG.out.2.2.2.1] at hqid
  have HQ0 := Lib.hid hqid
  clear hqid hBr
  go_upto_region 2 with (first
    | (refine wpList_load_at rfl 45 _ rfl (ad.add (n * 18)) rfl [.int .i64 q.id, .int .i64 q.pz, v2, v3, v4, v5, v6, v7, .int .i64 q.ct, v9, v10, v11, v12, .slice TA tn tc, .slice IA q.ns.length ic, v15, v16, v17] X0.out _ Try.underlying45 rfl blkInfo ?_)
    | (refine wpList_store_box rfl 45 _ _ rfl (w0.heap.size) #[.int .i64 q.id, .int .i64 q.pz, v2, v3, v4, v5, v6, v7, .int .i64 q.ct, v9, v10, v11, v12, .slice TA tn tc, .slice IA q.ns.length ic, v15, v16, v17] rfl rfl 45 #[.int .i64 0, .int .i64 0, .int .i64 0, .int .i64 0, .int .i64 0, .int .i64 0, .int .i64 0, .int .i64 0, .int .i64 0, .int .i64 0, .int .i64 0, .int .i64 0, .slice none 0 0, .slice none 0 0, .slice none 0 0, .slice none 0 0, .slice none 0 0, .slice none 0 0] (Blk.new w0 _ _) blkInfo rfl X1.out ?_)
    | fail)
  intro w3 hB3 hg3
  have hb3 : Below w0.heap.size w0 w3 := ((Below.refl _ _).alloc (Nat.le_refl _) _).grown hg3 (by simp) (fun b e => by injection e with e; omega)
  have hsz3 := hb3.size
  have H3 := Lib.hid (show Below w.heap.size w w3 ∧ Blk w3 w.heap.size 33 (dwC LA ln lc KA kn kc d) ∧ Blk w3 (w.heap.size + 1) 33 #[.slice none 0 0, .int .i64 0, .int .i64 0, .int .i64 0, .bool false, .int .i64 0, .int .i64 0, .slice none 0 0, .bool false, .int .i64 0, .int .i64 0, .int .i64 0] ∧ Blk w3 w0.heap.size 45 #[.int .i64 q.id, .int .i64 q.pz, v2, v3, v4, v5, v6, v7, .int .i64 q.ct, v9, v10, v11, v12, .slice TA tn tc, .slice IA q.ns.length ic, v15, v16, v17] from ⟨H0.out.1.trans (hb3.mono hs0), H0.out.2.1.below hb3 H0.out.2.1.lt, H0.out.2.2.below hb3 hql, hB3⟩)
  have hg0l := hB3.lt
  clear c0 c1 hB3 hg3 hb3 X0 X1
  have p0 : w3.cell? ⟨w0.heap.size, 0, none⟩ = some (.int .i64 35) := by rw [← HID.out, ← HQ0.out]; exact (H3.out.2.2.2.cell 0).trans rfl
  have c1 : w3.cell? ⟨w.heap.size, 1, none⟩ = some (.int .i64 (n : Int)) := by rw [← HR.out.1]; exact (H3.out.2.1.cell 1).trans rfl
  have f1 : w3.frozen? ⟨w.heap.size, 1, none⟩ = false := H3.out.2.1.frozen 1
  have hs3 := H3.out.1.size
  have hrd : Reads w3 w3.heap.size 1 KA kn (s.tk.reverse.map (Value.int .i64)) := ((HG.out.2.2.2.2.2.1.reads (B := w.heap.size) HPH.out).below H3.out.1).more hs3
  have hin := inD_any w3 (n : Int) KA kn kc s.tk.reverse hrd (by omega)
  have HRD := Lib.hid hrd
  clear hrd
  have c7 : w3.cell? ⟨w.heap.size, 7, none⟩ = some (.slice KA kn kc) := (H3.out.2.1.cell 7).trans rfl
  have f7 : w3.frozen? ⟨w.heap.size, 7, none⟩ = false := H3.out.2.1.frozen 7
  by_cases hmem : s.at_ ∈ s.tk
  · have hdm : decide ((n : Int) ∈ s.tk.reverse) = true := by rw [← HG.out.2.2.1]; simpa using hmem
    rw [hdm] at hin
    have HM := Lib.hid hmem
    clear hdm hmem
    go_wp2_with fail
    refine hin.mono ?_
    rintro x w' ⟨rfl, rfl⟩
    clear hin c7 f7
    have hat : 0 ≤ d.at_ ∧ d.at_ ≤ 60 := by have := HR.out.1; omega
    have htl := told_any w3 LA ln lc KA kn kc d 4 11 hat
    clear hat
    have hPz := H3.out.2.1
    go_wp2_with (first
      | (refine wpList_load_box rfl 33 _ rfl (w.heap.size) rfl 33 (dwC LA ln lc KA kn kc d) hPz _ Try.underlying33 rfl dwInfo (fun (_ : Hid _) => ?_))
      | fail)
    refine htl.mono ?_
    rintro x w5 ⟨rfl, hb5⟩
    clear htl hPz c1 f1
    have hs3 := H3.out.1.size
    have hQ5 : Blk w5 (w.heap.size + 1) 33 #[.slice none 0 0, .int .i64 0, .int .i64 0, .int .i64 0, .bool false, .int .i64 0, .int .i64 0, .slice none 0 0, .bool false, .int .i64 0, .int .i64 0, .int .i64 0] := H3.out.2.2.1.below hb5 (H3.out.2.2.1.lt)
    have H5 := Lib.hid (show Below w.heap.size w w5 from H3.out.1.trans (hb5.mono hs3))
    have hs5 := hb5.size
    clear hb5
    go_wp2_with (first
      | (refine wpList_store_box rfl 33 _ _ rfl (w.heap.size + 1) (dwC LA ln lc KA kn kc (toldD d 4 11)) rfl rfl 33 #[.slice none 0 0, .int .i64 0, .int .i64 0, .int .i64 0, .bool false, .int .i64 0, .int .i64 0, .slice none 0 0, .bool false, .int .i64 0, .int .i64 0, .int .i64 0] hQ5 dwInfo rfl dwOne ?_)
      | fail)
    intro w9 hB9 hg9
    have H9 := Lib.hid (show Below w.heap.size w w9 from H5.out.grown hg9 H5.out.size (fun b e => by injection e with e; omega))
    clear hg9 hQ5
    go_wp2_with fail
    refine bodyPost_ret (results_cell_tmp9 rfl _ _ (w.heap.size + 1) 33 _ (0, 0) _ rfl hB9 Try.underlying33 rfl dwInfo) rfl ?_
    have hle : leadE bs s = 11 := by unfold leadE; rw [if_pos HID.out, if_pos HM.out]
    exact ⟨H9.out, .inr ⟨by rw [hle]; decide, by rw [hle] <;> rfl⟩⟩
  · have hdm : decide ((n : Int) ∈ s.tk.reverse) = false := by rw [← HG.out.2.2.1]; simpa using hmem
    rw [hdm] at hin
    have HM := Lib.hid hmem
    clear hdm hmem
    go_wp2_with fail
    refine hin.mono ?_
    rintro x w' ⟨rfl, rfl⟩
    clear hin
    have hqid : q.id = 35 := by rw [HQ0.out]; exact HID.out
    have hne := HG.out.2.2.2.2.1.2.1 (by rw [← HG.out.2.2.2.1]; exact HID.out)
    rw [← HD.out.1] at hne
    have htl0 : q.ts.length = tn := reads_len (HD.out.2.1.reads (B := w.heap.size) (fun b h => h))
    have htn60 : tn ≤ 60 := by have := HG.out.2.2.2.2.1.1; rw [← HD.out.1] at this; omega
    have hts : 0 < tn := by rw [← htl0]; exact List.length_pos_iff.2 hne
    have hti : (0 : Int) < (tn : Int) := by omega
    obtain ⟨tad, rfl, htb, hx⟩ := i32_at (HD.out.2.1.reads (B := w.heap.size) (fun b h => h)) hts
    have hx0 := HG.out.2.2.2.2.1.2.2.1 (.inl (by rw [← HG.out.2.2.2.1]; exact HID.out)) (q.ts.getD 0 0) (by rw [← HD.out.1]; exact getD_mem (by rw [htl0]; exact hts))
    obtain ⟨x, hxd⟩ : ∃ x : Int, x = q.ts.getD 0 0 := ⟨_, rfl⟩
    rw [← hxd] at hx hx0
    have HXD := Lib.hid hxd
    rw [show tad.add 0 = tad from rfl] at hx
    have HXW := Lib.hid (show w.cell? tad = some (.int .i64 x) from (H0.out.1.cell (p := tad) htb).symm.trans hx)
    have hwx : IntKind.i64.wrap ((n : Int) + x) = (n : Int) + x := by rw [IntKind.wrap_i64]; have := HG.out.2.2.2.2.2.2; omega
    clear hqid hne htl0 hxd hx
    go_upto_region 7 with fail
    obtain ⟨i1, hj, hy0, hy1, hy2⟩ := info_parts intInfo4
    have HSO := Lib.hid (show ∀ w', Below w3.heap.size w3 w' → (w'.cell? ⟨w.heap.size, 1, none⟩ = some (.int .i64 (n : Int))) from fun w' hb => (hb.cell (p := ⟨w.heap.size, 1, none⟩) H3.out.2.1.lt).trans c1)
    have HS7 := Lib.hid (show ∀ w', Below w3.heap.size w3 w' → w'.cell? ⟨w.heap.size, 7, none⟩ = some (.slice KA kn kc) from fun w' hb => (hb.cell (p := ⟨w.heap.size, 7, none⟩) H3.out.2.1.lt).trans c7)
    clear c1 f1 c7 f7 p0
    refine wp_region_held_drew (S := fun w' => w'.cell? ⟨w.heap.size, 1, none⟩ = some (.int .i64 (n : Int))) (by kernel_rfl) ?_ (fun hHeld => ?_)
    · exact HSO.out w3.drew (Below.refl _ _).drew
    have HZ := Lib.hid (show Below w3.heap.size w3 w3.drew from (Below.refl _ _).drew)
    generalize w3.drew = W0 at *
    refine wpAnyH_take (i := 1) (oi := _) (v := ?_) (by simp only [List.getElem?_toArray, List.getElem?_cons_succ, List.getElem?_cons_zero]; rfl) (by kernel_rfl) (by kernel_rfl) (by kernel_rfl) (by intro _ _ _ h; exact h) (Or.inl ⟨by rfl, ?_⟩) (by assumption) ?_
    rotate_left
    · intro w hSw
      try dsimp only at hSw
      go_simp
      try with_reducible rfl
    try simp only [Act.put, List.setIfInBounds_toArray, List.set_cons_zero, List.set_cons_succ]
    refine wpAnyH_take (i := 4) (oi := _) (v := ?_) (by simp only [List.getElem?_toArray, List.getElem?_cons_succ, List.getElem?_cons_zero]; rfl) (by kernel_rfl) (by kernel_rfl) (by kernel_rfl) (by intro _ _ _ h; exact h) (Or.inl ⟨by rfl, ?_⟩) (by assumption) ?_
    rotate_left
    · intro w hSw
      try dsimp only at hSw
      go_simp
      try with_reducible rfl
    try simp only [Act.put, List.setIfInBounds_toArray, List.set_cons_zero, List.set_cons_succ]
    refine wpAnyH_take (i := 5) (oi := _) (v := ?_) (by simp only [List.getElem?_toArray, List.getElem?_cons_succ, List.getElem?_cons_zero]; rfl) (by kernel_rfl) (by kernel_rfl) (by kernel_rfl) (by intro _ _ _ h; exact h) (Or.inl ⟨by rfl, ?_⟩) (by assumption) ?_
    rotate_left
    · intro w hSw
      try dsimp only at hSw
      go_simp
      try with_reducible rfl
    try simp only [Act.put, List.setIfInBounds_toArray, List.set_cons_zero, List.set_cons_succ]
    refine wpAnyH_ready (rs := [0, 2, 6]) (by kernel_rfl) (by simp) ?_
    refine AllReadyH.cons (o := _) (by simp only [List.getElem?_toArray, List.getElem?_cons_succ, List.getElem?_cons_zero]; rfl) (fun K hK => ?_) (AllReadyH.cons (o := _) (by simp only [List.getElem?_toArray, List.getElem?_cons_succ, List.getElem?_cons_zero]; rfl) (fun K hK => ?_) (AllReadyH.cons (o := _) (by simp only [List.getElem?_toArray, List.getElem?_cons_succ, List.getElem?_cons_zero]; rfl) (fun K hK => ?_) AllReadyH.nil))
    · have hA : Below w3.heap.size w3 (W0.alloc (.cells #[] 3)) := HZ.out.alloc HZ.out.size _
      have hO := Lib.hid (show (W0.alloc (.cells #[] 3)).ownsRow w3.heap.size 3 1 (Value.slice (some ⟨W0.heap.size, 0, none⟩) 0 0) 0 [] from World.ownsRow_lit W0 #[] 0 HZ.out.size (by unfold maxLen; omega) rfl)
      go_simp
      refine hK.out _ _ ?_ (fun hHeld => ?_)
      · exact HSO.out _ hA
      clear hK K
      try simp only [Act.put, List.setIfInBounds_toArray, List.set_cons_zero, List.set_cons_succ]
      have hA2 := Lib.hid hA
      clear HZ hA
      have HZ := hA2
      clear hA2
      have HO := hO
      clear hO
      generalize (W0.alloc (.cells #[] 3)) = W1 at *
      refine wpAnyH_ready (rs := [2, 6]) (by kernel_rfl) (by simp) ?_
      refine AllReadyH.cons (o := _) (by simp only [List.getElem?_toArray, List.getElem?_cons_succ, List.getElem?_cons_zero]; rfl) (fun K hK => ?_) (AllReadyH.cons (o := _) (by simp only [List.getElem?_toArray, List.getElem?_cons_succ, List.getElem?_cons_zero]; rfl) (fun K hK => ?_) AllReadyH.nil)
      · have c7w := HS7.out _ HZ.out
        go_simp
        refine hK.out _ _ ?_ (fun hHeld => ?_)
        · exact HSO.out _ HZ.out
        clear hK K
        try simp only [Act.put, List.setIfInBounds_toArray, List.set_cons_zero, List.set_cons_succ]
        clear c7w
        refine wpAnyH_ready (rs := [3, 6]) (by kernel_rfl) (by simp) ?_
        refine AllReadyH.cons (o := _) (by simp only [List.getElem?_toArray, List.getElem?_cons_succ, List.getElem?_cons_zero]; rfl) (fun K hK => ?_) (AllReadyH.cons (o := _) (by simp only [List.getElem?_toArray, List.getElem?_cons_succ, List.getElem?_cons_zero]; rfl) (fun K hK => ?_) AllReadyH.nil)
        · have hR3 := HRD.out.below HZ.out
          have hb9 := HZ.out.size
          refine step_append_any _ (by rfl) _ _ _ (by rfl) w3.heap.size 3 i1 (.int .i64 0) 1 8 Try.underlying31 hj hy0 hy1 hy2 rfl (by decide) (Value.slice (some ⟨W0.heap.size, 0, none⟩) 0 0) 0 [] (by rfl) HO.out w3.heap.size KA kn kc (s.tk.reverse.map (Value.int .i64)) (by rfl) hR3 (by intro u hu; obtain ⟨x, _, rfl⟩ := List.mem_map.1 hu; rfl) (by unfold maxLen; omega) (by omega) hb9 ?_
          intro v3 W2 own3 hg3 hv3
          rw [Nat.zero_add, List.nil_append] at own3
          obtain ⟨A3, c3, rfl⟩ := own_slice own3
          have hA : Below w3.heap.size w3 W2 := HZ.out.grown hg3 HZ.out.size (fun b e => (HO.out.lt b e).1)
          refine hK.out _ _ ?_ (fun hHeld => ?_)
          · exact HSO.out _ hA
          clear hK K
          try simp only [Act.put, List.setIfInBounds_toArray, List.set_cons_zero, List.set_cons_succ]
          have hA2 := Lib.hid hA
          clear HZ hA HO hR3 hb9
          have HZ := hA2
          have HO := Lib.hid own3
          clear hA2 own3 hg3 hv3
          refine wpAnyH_ready (rs := [6]) (by kernel_rfl) (by simp) ?_
          refine AllReadyH.cons (o := _) (by simp only [List.getElem?_toArray, List.getElem?_cons_succ, List.getElem?_cons_zero]; rfl) (fun K hK => ?_) AllReadyH.nil
          have hA : Below w3.heap.size w3 (W2.alloc (.cells #[.int .i64 (n : Int)] 3)) := HZ.out.alloc HZ.out.size _
          have hL0 : (W2.alloc (.cells #[.int .i64 (n : Int)] 3)).cell? ⟨W2.heap.size, 0, none⟩ = some (.int .i64 (n : Int)) := lit_cells W2 [.int .i64 (n : Int)] 3 0 _ rfl
          have hO := Lib.hid (show (W2.alloc (.cells #[.int .i64 (n : Int)] 3)).ownsRow w3.heap.size 3 1 (Value.slice A3 kn c3) kn (s.tk.reverse.map (Value.int .i64)) from HO.out.alloc _)
          have hL := Lib.hid (show (W2.alloc (.cells #[.int .i64 (n : Int)] 3)).cell? ⟨W2.heap.size, 0, none⟩ = some (.int .i64 (n : Int)) ∧ W2.heap.size < (W2.alloc (.cells #[.int .i64 (n : Int)] 3)).heap.size ∧ (Value.slice A3 kn c3).ownBlock ≠ some W2.heap.size from ⟨hL0, by simp, fun e => by have := (HO.out.lt _ e).2; omega⟩)
          clear hL0
          go_simp
          refine hK.out _ _ ?_ (fun hHeld => ?_)
          · exact HSO.out _ hA
          clear hK K
          try simp only [Act.put, List.setIfInBounds_toArray, List.set_cons_zero, List.set_cons_succ]
          have hA2 := Lib.hid hA
          clear HZ hA
          have HZ := hA2
          clear hA2
          clear HO
          have HO := hO
          clear hO
          have HL := hL
          clear hL
          generalize (W2.alloc (.cells #[.int .i64 (n : Int)] 3)) = W3 at *
          refine wpAnyH_ready (rs := [7]) (by kernel_rfl) (by simp) ?_
          refine AllReadyH.cons (o := _) (by simp only [List.getElem?_toArray, List.getElem?_cons_succ, List.getElem?_cons_zero]; rfl) (fun K hK => ?_) AllReadyH.nil
          have hb9 := HZ.out.size
          have hRL : Reads W3 W3.heap.size 1 (some ⟨W2.heap.size, 0, none⟩) 1 [.int .i64 (n : Int)] := ⟨rfl, fun _ => ⟨_, rfl, HL.out.2.1, fun j u hu => by
            rcases j with _ | j
            · injection hu with hu; subst hu; exact HL.out.1
            · simp at hu⟩⟩
          refine step_append_any _ (by rfl) _ _ _ (by rfl) w3.heap.size 3 i1 (.int .i64 0) 1 8 Try.underlying31 hj hy0 hy1 hy2 rfl (by decide) (Value.slice A3 kn c3) kn (s.tk.reverse.map (Value.int .i64)) (by rfl) HO.out W3.heap.size (some ⟨W2.heap.size, 0, none⟩) 1 1 [.int .i64 (n : Int)] (by rfl) hRL (by simp [Value.oneCell']) (by unfold maxLen; omega) (by omega) hb9 ?_
          intro v7 W9 own7 hg7 hv7
          obtain ⟨A7, c7', rfl⟩ := own_slice own7
          have hA : Below w3.heap.size w3 W9 := HZ.out.grown hg7 HZ.out.size (fun b e => (HO.out.lt b e).1)
          refine hK.out _ _ ?_ (fun hHeld => ?_)
          · exact HSO.out _ hA
          clear hK K
          try simp only [Act.put, List.setIfInBounds_toArray, List.set_cons_zero, List.set_cons_succ]
          have HZ9 := Lib.hid (And.intro hA own7)
          clear hA own7 hg7 hv7 hRL hb9 HZ HO HL
          refine wpAnyH_take (i := 8) (oi := _) (v := ?_) (by simp only [List.getElem?_toArray, List.getElem?_cons_succ, List.getElem?_cons_zero]; rfl) (by kernel_rfl) (by kernel_rfl) (by kernel_rfl) (by intro _ _ _ h; exact h) (Or.inl ⟨by rfl, ?_⟩) (by assumption) ?_
          rotate_left
          · intro w hSw
            try dsimp only at hSw
            go_simp
            try with_reducible rfl
          try simp only [Act.put, List.setIfInBounds_toArray, List.set_cons_zero, List.set_cons_succ]
          have d7 := HS7.out _ HZ9.out.1
          have e7 : W9.frozen? ⟨w.heap.size, 7, none⟩ = false := (H3.out.2.1.below HZ9.out.1 H3.out.2.1.lt).frozen 7
          have c1k : W9.cell? ⟨w.heap.size, 1, none⟩ = some (.int .i64 (n : Int)) := HSO.out _ HZ9.out.1
          refine wpAnyH_ready (rs := [9]) (by kernel_rfl) (by simp) ?_
          refine AllReadyH.cons (o := _) (by simp only [List.getElem?_toArray, List.getElem?_cons_succ, List.getElem?_cons_zero]; rfl) (fun K hK => ?_) AllReadyH.nil
          go_simp
          refine hK.out _ _ ?_ (fun hHeld => ?_)
          · exact (World.cell?_setCell_other _ _ _ _ (by intro e; injection e with _ e; exact absurd e (by decide))).trans c1k
          clear hK K
          try simp only [Act.put, List.setIfInBounds_toArray, List.set_cons_zero, List.set_cons_succ]
          refine wpAnyH_done (by kernel_rfl) ?_ _
          clear d7 e7 c1k
          have HE := Lib.hid (show Below w.heap.size w (W9.setCell ⟨w.heap.size, 7, none⟩ (.slice A7 (kn + 1) c7')) ∧ Blk (W9.setCell ⟨w.heap.size, 7, none⟩ (.slice A7 (kn + 1) c7')) w.heap.size 33 (dwC LA ln lc A7 (kn + 1) c7' d) ∧ Blk (W9.setCell ⟨w.heap.size, 7, none⟩ (.slice A7 (kn + 1) c7')) (w.heap.size + 1) 33 #[.slice none 0 0, .int .i64 0, .int .i64 0, .int .i64 0, .bool false, .int .i64 0, .int .i64 0, .slice none 0 0, .bool false, .int .i64 0, .int .i64 0, .int .i64 0] ∧ Blk (W9.setCell ⟨w.heap.size, 7, none⟩ (.slice A7 (kn + 1) c7')) w0.heap.size 45 #[.int .i64 q.id, .int .i64 q.pz, v2, v3, v4, v5, v6, v7, .int .i64 q.ct, v9, v10, v11, v12, .slice (some tad) tn tc, .slice IA q.ns.length ic, v15, v16, v17] ∧ (W9.setCell ⟨w.heap.size, 7, none⟩ (.slice A7 (kn + 1) c7')).ownsRow w3.heap.size 3 1 (.slice A7 (kn + 1) c7') (kn + 1) ((s.tk.reverse.map (Value.int .i64)) ++ [.int .i64 (n : Int)]) from ⟨(H3.out.1.trans (HZ9.out.1.mono hs3)).setCell (by show w.heap.size ≤ w.heap.size; omega) _, (H3.out.2.1.below HZ9.out.1 H3.out.2.1.lt).set_ 7 _, (H3.out.2.2.1.below HZ9.out.1 H3.out.2.2.1.lt).far (by show w.heap.size + 1 ≠ w.heap.size; omega) _, (H3.out.2.2.2.below HZ9.out.1 H3.out.2.2.2.lt).far (by show w0.heap.size ≠ w.heap.size; omega) _, ownsRow_setCell_below HZ9.out.2 (by show w.heap.size < w3.heap.size; omega) _⟩)
          generalize (W9.setCell ⟨w.heap.size, 7, none⟩ (.slice A7 (kn + 1) c7')) = wa at *
          have c1 : wa.cell? ⟨w.heap.size, 1, none⟩ = some (.int .i64 (n : Int)) := by rw [← HR.out.1]; exact (HE.out.2.1.cell 1).trans rfl
          have p13 : wa.cell? ⟨w0.heap.size, 13, none⟩ = some (.slice (some tad) tn tc) := (HE.out.2.2.2.1.cell 13).trans rfl
          have hxa : wa.cell? tad = some (.int .i64 x) := (Below.cell (p := tad) HE.out.1 htb).trans HXW.out
          go_upto_region 8 with fail
          go_quiet (fail)
          have H5 := Lib.hid (show Below w.heap.size w (wa.drewN nq) ∧ Blk (wa.drewN nq) w.heap.size 33 (dwC LA ln lc A7 (kn + 1) c7' d) ∧ Blk (wa.drewN nq) (w.heap.size + 1) 33 #[.slice none 0 0, .int .i64 0, .int .i64 0, .int .i64 0, .bool false, .int .i64 0, .int .i64 0, .slice none 0 0, .bool false, .int .i64 0, .int .i64 0, .int .i64 0] ∧ (wa.drewN nq).ownsRow w3.heap.size 3 1 (.slice A7 (kn + 1) c7') (kn + 1) ((s.tk.reverse.map (Value.int .i64)) ++ [.int .i64 (n : Int)]) from ⟨HE.out.1.drewK nq, HE.out.2.1, HE.out.2.2.1, HE.out.2.2.2.2⟩)
          clear HE c1 p13 hxa HZ9
          generalize wa.drewN nq = wb at *
          have c1 : wb.cell? ⟨w.heap.size, 1, none⟩ = some (.int .i64 (n : Int)) := by rw [← HR.out.1]; exact (H5.out.2.1.cell 1).trans rfl
          have f1 : wb.frozen? ⟨w.heap.size, 1, none⟩ = false := H5.out.2.1.frozen 1
          go_upto_region 40 with fail
          have HZ := Lib.hid (show Blk ((wb.setCell ⟨w.heap.size, 1, none⟩ (.int .i64 ((n : Int) + x)))) w.heap.size 33 (dwC LA ln lc A7 (kn + 1) c7' ({ d with at_ := (n : Int) + x })) ∧ Blk ((wb.setCell ⟨w.heap.size, 1, none⟩ (.int .i64 ((n : Int) + x)))) (w.heap.size + 1) 33 #[.slice none 0 0, .int .i64 0, .int .i64 0, .int .i64 0, .bool false, .int .i64 0, .int .i64 0, .slice none 0 0, .bool false, .int .i64 0, .int .i64 0, .int .i64 0] ∧ Below w.heap.size w ((wb.setCell ⟨w.heap.size, 1, none⟩ (.int .i64 ((n : Int) + x)))) ∧ ((wb.setCell ⟨w.heap.size, 1, none⟩ (.int .i64 ((n : Int) + x)))).ownsRow w3.heap.size 3 1 (.slice A7 (kn + 1) c7') (kn + 1) ((s.tk.reverse.map (Value.int .i64)) ++ [.int .i64 (n : Int)]) from ⟨(H5.out.2.1.set_ 1 _), (H5.out.2.2.1.far (by show w.heap.size + 1 ≠ w.heap.size; omega) _), (H5.out.1.setCell (by show w.heap.size ≤ w.heap.size; omega) _), ownsRow_setCell_below H5.out.2.2.2 (by show w.heap.size < w3.heap.size; omega) _⟩)
          clear c1 f1
          generalize (wb.setCell ⟨w.heap.size, 1, none⟩ (.int .i64 ((n : Int) + x))) = wz at *
          have hPz := HZ.out.1
          have hQz := HZ.out.2.1
          go_wp2_with (first
            | (refine wpList_load_box rfl 33 _ rfl (w.heap.size) rfl 33 (dwC LA ln lc A7 (kn + 1) c7' ({ d with at_ := (n : Int) + x })) hPz _ Try.underlying33 rfl dwInfo (fun (_ : Hid _) => ?_))
            | (refine wpList_store_box rfl 33 _ _ rfl (w.heap.size + 1) (dwC LA ln lc A7 (kn + 1) c7' ({ d with at_ := (n : Int) + x })) rfl rfl 33 #[.slice none 0 0, .int .i64 0, .int .i64 0, .int .i64 0, .bool false, .int .i64 0, .int .i64 0, .slice none 0 0, .bool false, .int .i64 0, .int .i64 0, .int .i64 0] hQz dwInfo rfl dwOne ?_)
            | fail)
          intro w9 hB9 hg9
          have H9 := Lib.hid (show Below w.heap.size w w9 from (HZ.out.2.2.1).grown hg9 (HZ.out.2.2.1).size (fun b e => by injection e with e; omega))
          have HG9 := Lib.hid hg9
          clear hg9
          clear hPz hQz
          go_wp2_with fail
          refine bodyPost_ret (results_cell_tmp9 rfl _ _ (w.heap.size + 1) 33 _ (0, 0) _ rfl hB9 Try.underlying33 rfl dwInfo) rfl ?_
          have hle : leadE bs s = 0 := by unfold leadE; rw [if_pos HID.out, if_neg HM.out]
          have hls : leadS bs s = { s with tk := s.at_ :: s.tk, at_ := (n : Int) + x } := by
            unfold leadS; rw [if_pos HID.out, ← HQ0.out, ← HXD.out, HG.out.2.2.1]
          have htk : (leadS bs s).tk = s.at_ :: s.tk := by rw [hls]
          have hdr : DR (leadS bs s) { d with at_ := (n : Int) + x } := by
            rw [hls]
            exact ⟨rfl, HR.out.2.1, HR.out.2.2.1, HR.out.2.2.2.1, HR.out.2.2.2.2.1, HR.out.2.2.2.2.2.1, HR.out.2.2.2.2.2.2.1, HR.out.2.2.2.2.2.2.2⟩
          refine ⟨H9.out, .inl ⟨hle, _, _, _, _, rfl, hdr, ?_⟩⟩
          rw [htk, List.reverse_cons, List.map_append, HG.out.2.2.1]
          have hq3 := H3.out.2.2.1.lt
          exact (RdP.of_own (HZ.out.2.2.2.kept HG9.out (.inr (fun e => by have := (HZ.out.2.2.2.lt _ e).1; omega)))).keep (fun _ _ => rfl) (fun b hb => .inr ⟨by have := hb.1; omega, hb.2⟩)
        · have hA : Below w3.heap.size w3 (W1.alloc (.cells #[.int .i64 (n : Int)] 3)) := HZ.out.alloc HZ.out.size _
          have hL0 : (W1.alloc (.cells #[.int .i64 (n : Int)] 3)).cell? ⟨W1.heap.size, 0, none⟩ = some (.int .i64 (n : Int)) := lit_cells W1 [.int .i64 (n : Int)] 3 0 _ rfl
          have hO := Lib.hid (show (W1.alloc (.cells #[.int .i64 (n : Int)] 3)).ownsRow w3.heap.size 3 1 (Value.slice (some ⟨W0.heap.size, 0, none⟩) 0 0) 0 [] from HO.out.alloc _)
          have hL := Lib.hid (show (W1.alloc (.cells #[.int .i64 (n : Int)] 3)).cell? ⟨W1.heap.size, 0, none⟩ = some (.int .i64 (n : Int)) ∧ W1.heap.size < (W1.alloc (.cells #[.int .i64 (n : Int)] 3)).heap.size ∧ (Value.slice (some ⟨W0.heap.size, 0, none⟩) 0 0).ownBlock ≠ some W1.heap.size from ⟨hL0, by simp, fun e => by have := (HO.out.lt _ e).2; omega⟩)
          clear hL0
          go_simp
          refine hK.out _ _ ?_ (fun hHeld => ?_)
          · exact HSO.out _ hA
          clear hK K
          try simp only [Act.put, List.setIfInBounds_toArray, List.set_cons_zero, List.set_cons_succ]
          have hA2 := Lib.hid hA
          clear HZ hA
          have HZ := hA2
          clear hA2
          clear HO
          have HO := hO
          clear hO
          have HL := hL
          clear hL
          generalize (W1.alloc (.cells #[.int .i64 (n : Int)] 3)) = W2 at *
          refine wpAnyH_ready (rs := [3]) (by kernel_rfl) (by simp) ?_
          refine AllReadyH.cons (o := _) (by simp only [List.getElem?_toArray, List.getElem?_cons_succ, List.getElem?_cons_zero]; rfl) (fun K hK => ?_) AllReadyH.nil
          have hR3 := HRD.out.below HZ.out
          have hb9 := HZ.out.size
          refine step_append_any _ (by rfl) _ _ _ (by rfl) w3.heap.size 3 i1 (.int .i64 0) 1 8 Try.underlying31 hj hy0 hy1 hy2 rfl (by decide) (Value.slice (some ⟨W0.heap.size, 0, none⟩) 0 0) 0 [] (by rfl) HO.out w3.heap.size KA kn kc (s.tk.reverse.map (Value.int .i64)) (by rfl) hR3 (by intro u hu; obtain ⟨x, _, rfl⟩ := List.mem_map.1 hu; rfl) (by unfold maxLen; omega) (by omega) hb9 ?_
          intro v3 W3 own3 hg3 hv3
          rw [Nat.zero_add, List.nil_append] at own3
          obtain ⟨A3, c3, rfl⟩ := own_slice own3
          have hA : Below w3.heap.size w3 W3 := HZ.out.grown hg3 HZ.out.size (fun b e => (HO.out.lt b e).1)
          have hL := Lib.hid (show W3.cell? ⟨W1.heap.size, 0, none⟩ = some (.int .i64 (n : Int)) ∧ W1.heap.size < W3.heap.size ∧ (Value.slice A3 kn c3).ownBlock ≠ some W1.heap.size from ⟨hg3.cell HL.out.1 (fun e => HL.out.2.2 e.symm), Nat.lt_of_lt_of_le HL.out.2.1 hg3.size, fun e => by rcases hv3 with h | h; exact HL.out.2.2 (h ▸ e); rw [h] at e; injection e with e; have := HL.out.2.1; omega⟩)
          refine hK.out _ _ ?_ (fun hHeld => ?_)
          · exact HSO.out _ hA
          clear hK K
          try simp only [Act.put, List.setIfInBounds_toArray, List.set_cons_zero, List.set_cons_succ]
          have hA2 := Lib.hid hA
          clear HZ hA HO hR3 hb9
          have HZ := hA2
          have HO := Lib.hid own3
          clear hA2 own3 hg3 hv3
          clear HL
          have HL := hL
          clear hL
          refine wpAnyH_ready (rs := [7]) (by kernel_rfl) (by simp) ?_
          refine AllReadyH.cons (o := _) (by simp only [List.getElem?_toArray, List.getElem?_cons_succ, List.getElem?_cons_zero]; rfl) (fun K hK => ?_) AllReadyH.nil
          have hb9 := HZ.out.size
          have hRL : Reads W3 W3.heap.size 1 (some ⟨W1.heap.size, 0, none⟩) 1 [.int .i64 (n : Int)] := ⟨rfl, fun _ => ⟨_, rfl, HL.out.2.1, fun j u hu => by
            rcases j with _ | j
            · injection hu with hu; subst hu; exact HL.out.1
            · simp at hu⟩⟩
          refine step_append_any _ (by rfl) _ _ _ (by rfl) w3.heap.size 3 i1 (.int .i64 0) 1 8 Try.underlying31 hj hy0 hy1 hy2 rfl (by decide) (Value.slice A3 kn c3) kn (s.tk.reverse.map (Value.int .i64)) (by rfl) HO.out W3.heap.size (some ⟨W1.heap.size, 0, none⟩) 1 1 [.int .i64 (n : Int)] (by rfl) hRL (by simp [Value.oneCell']) (by unfold maxLen; omega) (by omega) hb9 ?_
          intro v7 W9 own7 hg7 hv7
          obtain ⟨A7, c7', rfl⟩ := own_slice own7
          have hA : Below w3.heap.size w3 W9 := HZ.out.grown hg7 HZ.out.size (fun b e => (HO.out.lt b e).1)
          refine hK.out _ _ ?_ (fun hHeld => ?_)
          · exact HSO.out _ hA
          clear hK K
          try simp only [Act.put, List.setIfInBounds_toArray, List.set_cons_zero, List.set_cons_succ]
          have HZ9 := Lib.hid (And.intro hA own7)
          clear hA own7 hg7 hv7 hRL hb9 HZ HO HL
          refine wpAnyH_take (i := 8) (oi := _) (v := ?_) (by simp only [List.getElem?_toArray, List.getElem?_cons_succ, List.getElem?_cons_zero]; rfl) (by kernel_rfl) (by kernel_rfl) (by kernel_rfl) (by intro _ _ _ h; exact h) (Or.inl ⟨by rfl, ?_⟩) (by assumption) ?_
          rotate_left
          · intro w hSw
            try dsimp only at hSw
            go_simp
            try with_reducible rfl
          try simp only [Act.put, List.setIfInBounds_toArray, List.set_cons_zero, List.set_cons_succ]
          have d7 := HS7.out _ HZ9.out.1
          have e7 : W9.frozen? ⟨w.heap.size, 7, none⟩ = false := (H3.out.2.1.below HZ9.out.1 H3.out.2.1.lt).frozen 7
          have c1k : W9.cell? ⟨w.heap.size, 1, none⟩ = some (.int .i64 (n : Int)) := HSO.out _ HZ9.out.1
          refine wpAnyH_ready (rs := [9]) (by kernel_rfl) (by simp) ?_
          refine AllReadyH.cons (o := _) (by simp only [List.getElem?_toArray, List.getElem?_cons_succ, List.getElem?_cons_zero]; rfl) (fun K hK => ?_) AllReadyH.nil
          go_simp
          refine hK.out _ _ ?_ (fun hHeld => ?_)
          · exact (World.cell?_setCell_other _ _ _ _ (by intro e; injection e with _ e; exact absurd e (by decide))).trans c1k
          clear hK K
          try simp only [Act.put, List.setIfInBounds_toArray, List.set_cons_zero, List.set_cons_succ]
          refine wpAnyH_done (by kernel_rfl) ?_ _
          clear d7 e7 c1k
          have HE := Lib.hid (show Below w.heap.size w (W9.setCell ⟨w.heap.size, 7, none⟩ (.slice A7 (kn + 1) c7')) ∧ Blk (W9.setCell ⟨w.heap.size, 7, none⟩ (.slice A7 (kn + 1) c7')) w.heap.size 33 (dwC LA ln lc A7 (kn + 1) c7' d) ∧ Blk (W9.setCell ⟨w.heap.size, 7, none⟩ (.slice A7 (kn + 1) c7')) (w.heap.size + 1) 33 #[.slice none 0 0, .int .i64 0, .int .i64 0, .int .i64 0, .bool false, .int .i64 0, .int .i64 0, .slice none 0 0, .bool false, .int .i64 0, .int .i64 0, .int .i64 0] ∧ Blk (W9.setCell ⟨w.heap.size, 7, none⟩ (.slice A7 (kn + 1) c7')) w0.heap.size 45 #[.int .i64 q.id, .int .i64 q.pz, v2, v3, v4, v5, v6, v7, .int .i64 q.ct, v9, v10, v11, v12, .slice (some tad) tn tc, .slice IA q.ns.length ic, v15, v16, v17] ∧ (W9.setCell ⟨w.heap.size, 7, none⟩ (.slice A7 (kn + 1) c7')).ownsRow w3.heap.size 3 1 (.slice A7 (kn + 1) c7') (kn + 1) ((s.tk.reverse.map (Value.int .i64)) ++ [.int .i64 (n : Int)]) from ⟨(H3.out.1.trans (HZ9.out.1.mono hs3)).setCell (by show w.heap.size ≤ w.heap.size; omega) _, (H3.out.2.1.below HZ9.out.1 H3.out.2.1.lt).set_ 7 _, (H3.out.2.2.1.below HZ9.out.1 H3.out.2.2.1.lt).far (by show w.heap.size + 1 ≠ w.heap.size; omega) _, (H3.out.2.2.2.below HZ9.out.1 H3.out.2.2.2.lt).far (by show w0.heap.size ≠ w.heap.size; omega) _, ownsRow_setCell_below HZ9.out.2 (by show w.heap.size < w3.heap.size; omega) _⟩)
          generalize (W9.setCell ⟨w.heap.size, 7, none⟩ (.slice A7 (kn + 1) c7')) = wa at *
          have c1 : wa.cell? ⟨w.heap.size, 1, none⟩ = some (.int .i64 (n : Int)) := by rw [← HR.out.1]; exact (HE.out.2.1.cell 1).trans rfl
          have p13 : wa.cell? ⟨w0.heap.size, 13, none⟩ = some (.slice (some tad) tn tc) := (HE.out.2.2.2.1.cell 13).trans rfl
          have hxa : wa.cell? tad = some (.int .i64 x) := (Below.cell (p := tad) HE.out.1 htb).trans HXW.out
          go_upto_region 8 with fail
          go_quiet (fail)
          have H5 := Lib.hid (show Below w.heap.size w (wa.drewN nq) ∧ Blk (wa.drewN nq) w.heap.size 33 (dwC LA ln lc A7 (kn + 1) c7' d) ∧ Blk (wa.drewN nq) (w.heap.size + 1) 33 #[.slice none 0 0, .int .i64 0, .int .i64 0, .int .i64 0, .bool false, .int .i64 0, .int .i64 0, .slice none 0 0, .bool false, .int .i64 0, .int .i64 0, .int .i64 0] ∧ (wa.drewN nq).ownsRow w3.heap.size 3 1 (.slice A7 (kn + 1) c7') (kn + 1) ((s.tk.reverse.map (Value.int .i64)) ++ [.int .i64 (n : Int)]) from ⟨HE.out.1.drewK nq, HE.out.2.1, HE.out.2.2.1, HE.out.2.2.2.2⟩)
          clear HE c1 p13 hxa HZ9
          generalize wa.drewN nq = wb at *
          have c1 : wb.cell? ⟨w.heap.size, 1, none⟩ = some (.int .i64 (n : Int)) := by rw [← HR.out.1]; exact (H5.out.2.1.cell 1).trans rfl
          have f1 : wb.frozen? ⟨w.heap.size, 1, none⟩ = false := H5.out.2.1.frozen 1
          go_upto_region 40 with fail
          have HZ := Lib.hid (show Blk ((wb.setCell ⟨w.heap.size, 1, none⟩ (.int .i64 ((n : Int) + x)))) w.heap.size 33 (dwC LA ln lc A7 (kn + 1) c7' ({ d with at_ := (n : Int) + x })) ∧ Blk ((wb.setCell ⟨w.heap.size, 1, none⟩ (.int .i64 ((n : Int) + x)))) (w.heap.size + 1) 33 #[.slice none 0 0, .int .i64 0, .int .i64 0, .int .i64 0, .bool false, .int .i64 0, .int .i64 0, .slice none 0 0, .bool false, .int .i64 0, .int .i64 0, .int .i64 0] ∧ Below w.heap.size w ((wb.setCell ⟨w.heap.size, 1, none⟩ (.int .i64 ((n : Int) + x)))) ∧ ((wb.setCell ⟨w.heap.size, 1, none⟩ (.int .i64 ((n : Int) + x)))).ownsRow w3.heap.size 3 1 (.slice A7 (kn + 1) c7') (kn + 1) ((s.tk.reverse.map (Value.int .i64)) ++ [.int .i64 (n : Int)]) from ⟨(H5.out.2.1.set_ 1 _), (H5.out.2.2.1.far (by show w.heap.size + 1 ≠ w.heap.size; omega) _), (H5.out.1.setCell (by show w.heap.size ≤ w.heap.size; omega) _), ownsRow_setCell_below H5.out.2.2.2 (by show w.heap.size < w3.heap.size; omega) _⟩)
          clear c1 f1
          generalize (wb.setCell ⟨w.heap.size, 1, none⟩ (.int .i64 ((n : Int) + x))) = wz at *
          have hPz := HZ.out.1
          have hQz := HZ.out.2.1
          go_wp2_with (first
            | (refine wpList_load_box rfl 33 _ rfl (w.heap.size) rfl 33 (dwC LA ln lc A7 (kn + 1) c7' ({ d with at_ := (n : Int) + x })) hPz _ Try.underlying33 rfl dwInfo (fun (_ : Hid _) => ?_))
            | (refine wpList_store_box rfl 33 _ _ rfl (w.heap.size + 1) (dwC LA ln lc A7 (kn + 1) c7' ({ d with at_ := (n : Int) + x })) rfl rfl 33 #[.slice none 0 0, .int .i64 0, .int .i64 0, .int .i64 0, .bool false, .int .i64 0, .int .i64 0, .slice none 0 0, .bool false, .int .i64 0, .int .i64 0, .int .i64 0] hQz dwInfo rfl dwOne ?_)
            | fail)
          intro w9 hB9 hg9
          have H9 := Lib.hid (show Below w.heap.size w w9 from (HZ.out.2.2.1).grown hg9 (HZ.out.2.2.1).size (fun b e => by injection e with e; omega))
          have HG9 := Lib.hid hg9
          clear hg9
          clear hPz hQz
          go_wp2_with fail
          refine bodyPost_ret (results_cell_tmp9 rfl _ _ (w.heap.size + 1) 33 _ (0, 0) _ rfl hB9 Try.underlying33 rfl dwInfo) rfl ?_
          have hle : leadE bs s = 0 := by unfold leadE; rw [if_pos HID.out, if_neg HM.out]
          have hls : leadS bs s = { s with tk := s.at_ :: s.tk, at_ := (n : Int) + x } := by
            unfold leadS; rw [if_pos HID.out, ← HQ0.out, ← HXD.out, HG.out.2.2.1]
          have htk : (leadS bs s).tk = s.at_ :: s.tk := by rw [hls]
          have hdr : DR (leadS bs s) { d with at_ := (n : Int) + x } := by
            rw [hls]
            exact ⟨rfl, HR.out.2.1, HR.out.2.2.1, HR.out.2.2.2.1, HR.out.2.2.2.2.1, HR.out.2.2.2.2.2.1, HR.out.2.2.2.2.2.2.1, HR.out.2.2.2.2.2.2.2⟩
          refine ⟨H9.out, .inl ⟨hle, _, _, _, _, rfl, hdr, ?_⟩⟩
          rw [htk, List.reverse_cons, List.map_append, HG.out.2.2.1]
          have hq3 := H3.out.2.2.1.lt
          exact (RdP.of_own (HZ.out.2.2.2.kept HG9.out (.inr (fun e => by have := (HZ.out.2.2.2.lt _ e).1; omega)))).keep (fun _ _ => rfl) (fun b hb => .inr ⟨by have := hb.1; omega, hb.2⟩)
      · have hA : Below w3.heap.size w3 (W1.alloc (.cells #[.int .i64 (n : Int)] 3)) := HZ.out.alloc HZ.out.size _
        have hL0 : (W1.alloc (.cells #[.int .i64 (n : Int)] 3)).cell? ⟨W1.heap.size, 0, none⟩ = some (.int .i64 (n : Int)) := lit_cells W1 [.int .i64 (n : Int)] 3 0 _ rfl
        have hO := Lib.hid (show (W1.alloc (.cells #[.int .i64 (n : Int)] 3)).ownsRow w3.heap.size 3 1 (Value.slice (some ⟨W0.heap.size, 0, none⟩) 0 0) 0 [] from HO.out.alloc _)
        have hL := Lib.hid (show (W1.alloc (.cells #[.int .i64 (n : Int)] 3)).cell? ⟨W1.heap.size, 0, none⟩ = some (.int .i64 (n : Int)) ∧ W1.heap.size < (W1.alloc (.cells #[.int .i64 (n : Int)] 3)).heap.size ∧ (Value.slice (some ⟨W0.heap.size, 0, none⟩) 0 0).ownBlock ≠ some W1.heap.size from ⟨hL0, by simp, fun e => by have := (HO.out.lt _ e).2; omega⟩)
        clear hL0
        go_simp
        refine hK.out _ _ ?_ (fun hHeld => ?_)
        · exact HSO.out _ hA
        clear hK K
        try simp only [Act.put, List.setIfInBounds_toArray, List.set_cons_zero, List.set_cons_succ]
        have hA2 := Lib.hid hA
        clear HZ hA
        have HZ := hA2
        clear hA2
        clear HO
        have HO := hO
        clear hO
        have HL := hL
        clear hL
        generalize (W1.alloc (.cells #[.int .i64 (n : Int)] 3)) = W2 at *
        refine wpAnyH_ready (rs := [2]) (by kernel_rfl) (by simp) ?_
        refine AllReadyH.cons (o := _) (by simp only [List.getElem?_toArray, List.getElem?_cons_succ, List.getElem?_cons_zero]; rfl) (fun K hK => ?_) AllReadyH.nil
        have c7w := HS7.out _ HZ.out
        go_simp
        refine hK.out _ _ ?_ (fun hHeld => ?_)
        · exact HSO.out _ HZ.out
        clear hK K
        try simp only [Act.put, List.setIfInBounds_toArray, List.set_cons_zero, List.set_cons_succ]
        clear c7w
        refine wpAnyH_ready (rs := [3]) (by kernel_rfl) (by simp) ?_
        refine AllReadyH.cons (o := _) (by simp only [List.getElem?_toArray, List.getElem?_cons_succ, List.getElem?_cons_zero]; rfl) (fun K hK => ?_) AllReadyH.nil
        have hR3 := HRD.out.below HZ.out
        have hb9 := HZ.out.size
        refine step_append_any _ (by rfl) _ _ _ (by rfl) w3.heap.size 3 i1 (.int .i64 0) 1 8 Try.underlying31 hj hy0 hy1 hy2 rfl (by decide) (Value.slice (some ⟨W0.heap.size, 0, none⟩) 0 0) 0 [] (by rfl) HO.out w3.heap.size KA kn kc (s.tk.reverse.map (Value.int .i64)) (by rfl) hR3 (by intro u hu; obtain ⟨x, _, rfl⟩ := List.mem_map.1 hu; rfl) (by unfold maxLen; omega) (by omega) hb9 ?_
        intro v3 W3 own3 hg3 hv3
        rw [Nat.zero_add, List.nil_append] at own3
        obtain ⟨A3, c3, rfl⟩ := own_slice own3
        have hA : Below w3.heap.size w3 W3 := HZ.out.grown hg3 HZ.out.size (fun b e => (HO.out.lt b e).1)
        have hL := Lib.hid (show W3.cell? ⟨W1.heap.size, 0, none⟩ = some (.int .i64 (n : Int)) ∧ W1.heap.size < W3.heap.size ∧ (Value.slice A3 kn c3).ownBlock ≠ some W1.heap.size from ⟨hg3.cell HL.out.1 (fun e => HL.out.2.2 e.symm), Nat.lt_of_lt_of_le HL.out.2.1 hg3.size, fun e => by rcases hv3 with h | h; exact HL.out.2.2 (h ▸ e); rw [h] at e; injection e with e; have := HL.out.2.1; omega⟩)
        refine hK.out _ _ ?_ (fun hHeld => ?_)
        · exact HSO.out _ hA
        clear hK K
        try simp only [Act.put, List.setIfInBounds_toArray, List.set_cons_zero, List.set_cons_succ]
        have hA2 := Lib.hid hA
        clear HZ hA HO hR3 hb9
        have HZ := hA2
        have HO := Lib.hid own3
        clear hA2 own3 hg3 hv3
        clear HL
        have HL := hL
        clear hL
        refine wpAnyH_ready (rs := [7]) (by kernel_rfl) (by simp) ?_
        refine AllReadyH.cons (o := _) (by simp only [List.getElem?_toArray, List.getElem?_cons_succ, List.getElem?_cons_zero]; rfl) (fun K hK => ?_) AllReadyH.nil
        have hb9 := HZ.out.size
        have hRL : Reads W3 W3.heap.size 1 (some ⟨W1.heap.size, 0, none⟩) 1 [.int .i64 (n : Int)] := ⟨rfl, fun _ => ⟨_, rfl, HL.out.2.1, fun j u hu => by
          rcases j with _ | j
          · injection hu with hu; subst hu; exact HL.out.1
          · simp at hu⟩⟩
        refine step_append_any _ (by rfl) _ _ _ (by rfl) w3.heap.size 3 i1 (.int .i64 0) 1 8 Try.underlying31 hj hy0 hy1 hy2 rfl (by decide) (Value.slice A3 kn c3) kn (s.tk.reverse.map (Value.int .i64)) (by rfl) HO.out W3.heap.size (some ⟨W1.heap.size, 0, none⟩) 1 1 [.int .i64 (n : Int)] (by rfl) hRL (by simp [Value.oneCell']) (by unfold maxLen; omega) (by omega) hb9 ?_
        intro v7 W9 own7 hg7 hv7
        obtain ⟨A7, c7', rfl⟩ := own_slice own7
        have hA : Below w3.heap.size w3 W9 := HZ.out.grown hg7 HZ.out.size (fun b e => (HO.out.lt b e).1)
        refine hK.out _ _ ?_ (fun hHeld => ?_)
        · exact HSO.out _ hA
        clear hK K
        try simp only [Act.put, List.setIfInBounds_toArray, List.set_cons_zero, List.set_cons_succ]
        have HZ9 := Lib.hid (And.intro hA own7)
        clear hA own7 hg7 hv7 hRL hb9 HZ HO HL
        refine wpAnyH_take (i := 8) (oi := _) (v := ?_) (by simp only [List.getElem?_toArray, List.getElem?_cons_succ, List.getElem?_cons_zero]; rfl) (by kernel_rfl) (by kernel_rfl) (by kernel_rfl) (by intro _ _ _ h; exact h) (Or.inl ⟨by rfl, ?_⟩) (by assumption) ?_
        rotate_left
        · intro w hSw
          try dsimp only at hSw
          go_simp
          try with_reducible rfl
        try simp only [Act.put, List.setIfInBounds_toArray, List.set_cons_zero, List.set_cons_succ]
        have d7 := HS7.out _ HZ9.out.1
        have e7 : W9.frozen? ⟨w.heap.size, 7, none⟩ = false := (H3.out.2.1.below HZ9.out.1 H3.out.2.1.lt).frozen 7
        have c1k : W9.cell? ⟨w.heap.size, 1, none⟩ = some (.int .i64 (n : Int)) := HSO.out _ HZ9.out.1
        refine wpAnyH_ready (rs := [9]) (by kernel_rfl) (by simp) ?_
        refine AllReadyH.cons (o := _) (by simp only [List.getElem?_toArray, List.getElem?_cons_succ, List.getElem?_cons_zero]; rfl) (fun K hK => ?_) AllReadyH.nil
        go_simp
        refine hK.out _ _ ?_ (fun hHeld => ?_)
        · exact (World.cell?_setCell_other _ _ _ _ (by intro e; injection e with _ e; exact absurd e (by decide))).trans c1k
        clear hK K
        try simp only [Act.put, List.setIfInBounds_toArray, List.set_cons_zero, List.set_cons_succ]
        refine wpAnyH_done (by kernel_rfl) ?_ _
        clear d7 e7 c1k
        have HE := Lib.hid (show Below w.heap.size w (W9.setCell ⟨w.heap.size, 7, none⟩ (.slice A7 (kn + 1) c7')) ∧ Blk (W9.setCell ⟨w.heap.size, 7, none⟩ (.slice A7 (kn + 1) c7')) w.heap.size 33 (dwC LA ln lc A7 (kn + 1) c7' d) ∧ Blk (W9.setCell ⟨w.heap.size, 7, none⟩ (.slice A7 (kn + 1) c7')) (w.heap.size + 1) 33 #[.slice none 0 0, .int .i64 0, .int .i64 0, .int .i64 0, .bool false, .int .i64 0, .int .i64 0, .slice none 0 0, .bool false, .int .i64 0, .int .i64 0, .int .i64 0] ∧ Blk (W9.setCell ⟨w.heap.size, 7, none⟩ (.slice A7 (kn + 1) c7')) w0.heap.size 45 #[.int .i64 q.id, .int .i64 q.pz, v2, v3, v4, v5, v6, v7, .int .i64 q.ct, v9, v10, v11, v12, .slice (some tad) tn tc, .slice IA q.ns.length ic, v15, v16, v17] ∧ (W9.setCell ⟨w.heap.size, 7, none⟩ (.slice A7 (kn + 1) c7')).ownsRow w3.heap.size 3 1 (.slice A7 (kn + 1) c7') (kn + 1) ((s.tk.reverse.map (Value.int .i64)) ++ [.int .i64 (n : Int)]) from ⟨(H3.out.1.trans (HZ9.out.1.mono hs3)).setCell (by show w.heap.size ≤ w.heap.size; omega) _, (H3.out.2.1.below HZ9.out.1 H3.out.2.1.lt).set_ 7 _, (H3.out.2.2.1.below HZ9.out.1 H3.out.2.2.1.lt).far (by show w.heap.size + 1 ≠ w.heap.size; omega) _, (H3.out.2.2.2.below HZ9.out.1 H3.out.2.2.2.lt).far (by show w0.heap.size ≠ w.heap.size; omega) _, ownsRow_setCell_below HZ9.out.2 (by show w.heap.size < w3.heap.size; omega) _⟩)
        generalize (W9.setCell ⟨w.heap.size, 7, none⟩ (.slice A7 (kn + 1) c7')) = wa at *
        have c1 : wa.cell? ⟨w.heap.size, 1, none⟩ = some (.int .i64 (n : Int)) := by rw [← HR.out.1]; exact (HE.out.2.1.cell 1).trans rfl
        have p13 : wa.cell? ⟨w0.heap.size, 13, none⟩ = some (.slice (some tad) tn tc) := (HE.out.2.2.2.1.cell 13).trans rfl
        have hxa : wa.cell? tad = some (.int .i64 x) := (Below.cell (p := tad) HE.out.1 htb).trans HXW.out
        go_upto_region 8 with fail
        go_quiet (fail)
        have H5 := Lib.hid (show Below w.heap.size w (wa.drewN nq) ∧ Blk (wa.drewN nq) w.heap.size 33 (dwC LA ln lc A7 (kn + 1) c7' d) ∧ Blk (wa.drewN nq) (w.heap.size + 1) 33 #[.slice none 0 0, .int .i64 0, .int .i64 0, .int .i64 0, .bool false, .int .i64 0, .int .i64 0, .slice none 0 0, .bool false, .int .i64 0, .int .i64 0, .int .i64 0] ∧ (wa.drewN nq).ownsRow w3.heap.size 3 1 (.slice A7 (kn + 1) c7') (kn + 1) ((s.tk.reverse.map (Value.int .i64)) ++ [.int .i64 (n : Int)]) from ⟨HE.out.1.drewK nq, HE.out.2.1, HE.out.2.2.1, HE.out.2.2.2.2⟩)
        clear HE c1 p13 hxa HZ9
        generalize wa.drewN nq = wb at *
        have c1 : wb.cell? ⟨w.heap.size, 1, none⟩ = some (.int .i64 (n : Int)) := by rw [← HR.out.1]; exact (H5.out.2.1.cell 1).trans rfl
        have f1 : wb.frozen? ⟨w.heap.size, 1, none⟩ = false := H5.out.2.1.frozen 1
        go_upto_region 40 with fail
        have HZ := Lib.hid (show Blk ((wb.setCell ⟨w.heap.size, 1, none⟩ (.int .i64 ((n : Int) + x)))) w.heap.size 33 (dwC LA ln lc A7 (kn + 1) c7' ({ d with at_ := (n : Int) + x })) ∧ Blk ((wb.setCell ⟨w.heap.size, 1, none⟩ (.int .i64 ((n : Int) + x)))) (w.heap.size + 1) 33 #[.slice none 0 0, .int .i64 0, .int .i64 0, .int .i64 0, .bool false, .int .i64 0, .int .i64 0, .slice none 0 0, .bool false, .int .i64 0, .int .i64 0, .int .i64 0] ∧ Below w.heap.size w ((wb.setCell ⟨w.heap.size, 1, none⟩ (.int .i64 ((n : Int) + x)))) ∧ ((wb.setCell ⟨w.heap.size, 1, none⟩ (.int .i64 ((n : Int) + x)))).ownsRow w3.heap.size 3 1 (.slice A7 (kn + 1) c7') (kn + 1) ((s.tk.reverse.map (Value.int .i64)) ++ [.int .i64 (n : Int)]) from ⟨(H5.out.2.1.set_ 1 _), (H5.out.2.2.1.far (by show w.heap.size + 1 ≠ w.heap.size; omega) _), (H5.out.1.setCell (by show w.heap.size ≤ w.heap.size; omega) _), ownsRow_setCell_below H5.out.2.2.2 (by show w.heap.size < w3.heap.size; omega) _⟩)
        clear c1 f1
        generalize (wb.setCell ⟨w.heap.size, 1, none⟩ (.int .i64 ((n : Int) + x))) = wz at *
        have hPz := HZ.out.1
        have hQz := HZ.out.2.1
        go_wp2_with (first
          | (refine wpList_load_box rfl 33 _ rfl (w.heap.size) rfl 33 (dwC LA ln lc A7 (kn + 1) c7' ({ d with at_ := (n : Int) + x })) hPz _ Try.underlying33 rfl dwInfo (fun (_ : Hid _) => ?_))
          | (refine wpList_store_box rfl 33 _ _ rfl (w.heap.size + 1) (dwC LA ln lc A7 (kn + 1) c7' ({ d with at_ := (n : Int) + x })) rfl rfl 33 #[.slice none 0 0, .int .i64 0, .int .i64 0, .int .i64 0, .bool false, .int .i64 0, .int .i64 0, .slice none 0 0, .bool false, .int .i64 0, .int .i64 0, .int .i64 0] hQz dwInfo rfl dwOne ?_)
          | fail)
        intro w9 hB9 hg9
        have H9 := Lib.hid (show Below w.heap.size w w9 from (HZ.out.2.2.1).grown hg9 (HZ.out.2.2.1).size (fun b e => by injection e with e; omega))
        have HG9 := Lib.hid hg9
        clear hg9
        clear hPz hQz
        go_wp2_with fail
        refine bodyPost_ret (results_cell_tmp9 rfl _ _ (w.heap.size + 1) 33 _ (0, 0) _ rfl hB9 Try.underlying33 rfl dwInfo) rfl ?_
        have hle : leadE bs s = 0 := by unfold leadE; rw [if_pos HID.out, if_neg HM.out]
        have hls : leadS bs s = { s with tk := s.at_ :: s.tk, at_ := (n : Int) + x } := by
          unfold leadS; rw [if_pos HID.out, ← HQ0.out, ← HXD.out, HG.out.2.2.1]
        have htk : (leadS bs s).tk = s.at_ :: s.tk := by rw [hls]
        have hdr : DR (leadS bs s) { d with at_ := (n : Int) + x } := by
          rw [hls]
          exact ⟨rfl, HR.out.2.1, HR.out.2.2.1, HR.out.2.2.2.1, HR.out.2.2.2.2.1, HR.out.2.2.2.2.2.1, HR.out.2.2.2.2.2.2.1, HR.out.2.2.2.2.2.2.2⟩
        refine ⟨H9.out, .inl ⟨hle, _, _, _, _, rfl, hdr, ?_⟩⟩
        rw [htk, List.reverse_cons, List.map_append, HG.out.2.2.1]
        have hq3 := H3.out.2.2.1.lt
        exact (RdP.of_own (HZ.out.2.2.2.kept HG9.out (.inr (fun e => by have := (HZ.out.2.2.2.lt _ e).1; omega)))).keep (fun _ _ => rfl) (fun b hb => .inr ⟨by have := hb.1; omega, hb.2⟩)
    · have c7w := HS7.out _ HZ.out
      go_simp
      refine hK.out _ _ ?_ (fun hHeld => ?_)
      · exact HSO.out _ HZ.out
      clear hK K
      try simp only [Act.put, List.setIfInBounds_toArray, List.set_cons_zero, List.set_cons_succ]
      clear c7w
      refine wpAnyH_ready (rs := [0, 6]) (by kernel_rfl) (by simp) ?_
      refine AllReadyH.cons (o := _) (by simp only [List.getElem?_toArray, List.getElem?_cons_succ, List.getElem?_cons_zero]; rfl) (fun K hK => ?_) (AllReadyH.cons (o := _) (by simp only [List.getElem?_toArray, List.getElem?_cons_succ, List.getElem?_cons_zero]; rfl) (fun K hK => ?_) AllReadyH.nil)
      · have hA : Below w3.heap.size w3 (W0.alloc (.cells #[] 3)) := HZ.out.alloc HZ.out.size _
        have hO := Lib.hid (show (W0.alloc (.cells #[] 3)).ownsRow w3.heap.size 3 1 (Value.slice (some ⟨W0.heap.size, 0, none⟩) 0 0) 0 [] from World.ownsRow_lit W0 #[] 0 HZ.out.size (by unfold maxLen; omega) rfl)
        go_simp
        refine hK.out _ _ ?_ (fun hHeld => ?_)
        · exact HSO.out _ hA
        clear hK K
        try simp only [Act.put, List.setIfInBounds_toArray, List.set_cons_zero, List.set_cons_succ]
        have hA2 := Lib.hid hA
        clear HZ hA
        have HZ := hA2
        clear hA2
        have HO := hO
        clear hO
        generalize (W0.alloc (.cells #[] 3)) = W1 at *
        refine wpAnyH_ready (rs := [3, 6]) (by kernel_rfl) (by simp) ?_
        refine AllReadyH.cons (o := _) (by simp only [List.getElem?_toArray, List.getElem?_cons_succ, List.getElem?_cons_zero]; rfl) (fun K hK => ?_) (AllReadyH.cons (o := _) (by simp only [List.getElem?_toArray, List.getElem?_cons_succ, List.getElem?_cons_zero]; rfl) (fun K hK => ?_) AllReadyH.nil)
        · have hR3 := HRD.out.below HZ.out
          have hb9 := HZ.out.size
          refine step_append_any _ (by rfl) _ _ _ (by rfl) w3.heap.size 3 i1 (.int .i64 0) 1 8 Try.underlying31 hj hy0 hy1 hy2 rfl (by decide) (Value.slice (some ⟨W0.heap.size, 0, none⟩) 0 0) 0 [] (by rfl) HO.out w3.heap.size KA kn kc (s.tk.reverse.map (Value.int .i64)) (by rfl) hR3 (by intro u hu; obtain ⟨x, _, rfl⟩ := List.mem_map.1 hu; rfl) (by unfold maxLen; omega) (by omega) hb9 ?_
          intro v3 W2 own3 hg3 hv3
          rw [Nat.zero_add, List.nil_append] at own3
          obtain ⟨A3, c3, rfl⟩ := own_slice own3
          have hA : Below w3.heap.size w3 W2 := HZ.out.grown hg3 HZ.out.size (fun b e => (HO.out.lt b e).1)
          refine hK.out _ _ ?_ (fun hHeld => ?_)
          · exact HSO.out _ hA
          clear hK K
          try simp only [Act.put, List.setIfInBounds_toArray, List.set_cons_zero, List.set_cons_succ]
          have hA2 := Lib.hid hA
          clear HZ hA HO hR3 hb9
          have HZ := hA2
          have HO := Lib.hid own3
          clear hA2 own3 hg3 hv3
          refine wpAnyH_ready (rs := [6]) (by kernel_rfl) (by simp) ?_
          refine AllReadyH.cons (o := _) (by simp only [List.getElem?_toArray, List.getElem?_cons_succ, List.getElem?_cons_zero]; rfl) (fun K hK => ?_) AllReadyH.nil
          have hA : Below w3.heap.size w3 (W2.alloc (.cells #[.int .i64 (n : Int)] 3)) := HZ.out.alloc HZ.out.size _
          have hL0 : (W2.alloc (.cells #[.int .i64 (n : Int)] 3)).cell? ⟨W2.heap.size, 0, none⟩ = some (.int .i64 (n : Int)) := lit_cells W2 [.int .i64 (n : Int)] 3 0 _ rfl
          have hO := Lib.hid (show (W2.alloc (.cells #[.int .i64 (n : Int)] 3)).ownsRow w3.heap.size 3 1 (Value.slice A3 kn c3) kn (s.tk.reverse.map (Value.int .i64)) from HO.out.alloc _)
          have hL := Lib.hid (show (W2.alloc (.cells #[.int .i64 (n : Int)] 3)).cell? ⟨W2.heap.size, 0, none⟩ = some (.int .i64 (n : Int)) ∧ W2.heap.size < (W2.alloc (.cells #[.int .i64 (n : Int)] 3)).heap.size ∧ (Value.slice A3 kn c3).ownBlock ≠ some W2.heap.size from ⟨hL0, by simp, fun e => by have := (HO.out.lt _ e).2; omega⟩)
          clear hL0
          go_simp
          refine hK.out _ _ ?_ (fun hHeld => ?_)
          · exact HSO.out _ hA
          clear hK K
          try simp only [Act.put, List.setIfInBounds_toArray, List.set_cons_zero, List.set_cons_succ]
          have hA2 := Lib.hid hA
          clear HZ hA
          have HZ := hA2
          clear hA2
          clear HO
          have HO := hO
          clear hO
          have HL := hL
          clear hL
          generalize (W2.alloc (.cells #[.int .i64 (n : Int)] 3)) = W3 at *
          refine wpAnyH_ready (rs := [7]) (by kernel_rfl) (by simp) ?_
          refine AllReadyH.cons (o := _) (by simp only [List.getElem?_toArray, List.getElem?_cons_succ, List.getElem?_cons_zero]; rfl) (fun K hK => ?_) AllReadyH.nil
          have hb9 := HZ.out.size
          have hRL : Reads W3 W3.heap.size 1 (some ⟨W2.heap.size, 0, none⟩) 1 [.int .i64 (n : Int)] := ⟨rfl, fun _ => ⟨_, rfl, HL.out.2.1, fun j u hu => by
            rcases j with _ | j
            · injection hu with hu; subst hu; exact HL.out.1
            · simp at hu⟩⟩
          refine step_append_any _ (by rfl) _ _ _ (by rfl) w3.heap.size 3 i1 (.int .i64 0) 1 8 Try.underlying31 hj hy0 hy1 hy2 rfl (by decide) (Value.slice A3 kn c3) kn (s.tk.reverse.map (Value.int .i64)) (by rfl) HO.out W3.heap.size (some ⟨W2.heap.size, 0, none⟩) 1 1 [.int .i64 (n : Int)] (by rfl) hRL (by simp [Value.oneCell']) (by unfold maxLen; omega) (by omega) hb9 ?_
          intro v7 W9 own7 hg7 hv7
          obtain ⟨A7, c7', rfl⟩ := own_slice own7
          have hA : Below w3.heap.size w3 W9 := HZ.out.grown hg7 HZ.out.size (fun b e => (HO.out.lt b e).1)
          refine hK.out _ _ ?_ (fun hHeld => ?_)
          · exact HSO.out _ hA
          clear hK K
          try simp only [Act.put, List.setIfInBounds_toArray, List.set_cons_zero, List.set_cons_succ]
          have HZ9 := Lib.hid (And.intro hA own7)
          clear hA own7 hg7 hv7 hRL hb9 HZ HO HL
          refine wpAnyH_take (i := 8) (oi := _) (v := ?_) (by simp only [List.getElem?_toArray, List.getElem?_cons_succ, List.getElem?_cons_zero]; rfl) (by kernel_rfl) (by kernel_rfl) (by kernel_rfl) (by intro _ _ _ h; exact h) (Or.inl ⟨by rfl, ?_⟩) (by assumption) ?_
          rotate_left
          · intro w hSw
            try dsimp only at hSw
            go_simp
            try with_reducible rfl
          try simp only [Act.put, List.setIfInBounds_toArray, List.set_cons_zero, List.set_cons_succ]
          have d7 := HS7.out _ HZ9.out.1
          have e7 : W9.frozen? ⟨w.heap.size, 7, none⟩ = false := (H3.out.2.1.below HZ9.out.1 H3.out.2.1.lt).frozen 7
          have c1k : W9.cell? ⟨w.heap.size, 1, none⟩ = some (.int .i64 (n : Int)) := HSO.out _ HZ9.out.1
          refine wpAnyH_ready (rs := [9]) (by kernel_rfl) (by simp) ?_
          refine AllReadyH.cons (o := _) (by simp only [List.getElem?_toArray, List.getElem?_cons_succ, List.getElem?_cons_zero]; rfl) (fun K hK => ?_) AllReadyH.nil
          go_simp
          refine hK.out _ _ ?_ (fun hHeld => ?_)
          · exact (World.cell?_setCell_other _ _ _ _ (by intro e; injection e with _ e; exact absurd e (by decide))).trans c1k
          clear hK K
          try simp only [Act.put, List.setIfInBounds_toArray, List.set_cons_zero, List.set_cons_succ]
          refine wpAnyH_done (by kernel_rfl) ?_ _
          clear d7 e7 c1k
          have HE := Lib.hid (show Below w.heap.size w (W9.setCell ⟨w.heap.size, 7, none⟩ (.slice A7 (kn + 1) c7')) ∧ Blk (W9.setCell ⟨w.heap.size, 7, none⟩ (.slice A7 (kn + 1) c7')) w.heap.size 33 (dwC LA ln lc A7 (kn + 1) c7' d) ∧ Blk (W9.setCell ⟨w.heap.size, 7, none⟩ (.slice A7 (kn + 1) c7')) (w.heap.size + 1) 33 #[.slice none 0 0, .int .i64 0, .int .i64 0, .int .i64 0, .bool false, .int .i64 0, .int .i64 0, .slice none 0 0, .bool false, .int .i64 0, .int .i64 0, .int .i64 0] ∧ Blk (W9.setCell ⟨w.heap.size, 7, none⟩ (.slice A7 (kn + 1) c7')) w0.heap.size 45 #[.int .i64 q.id, .int .i64 q.pz, v2, v3, v4, v5, v6, v7, .int .i64 q.ct, v9, v10, v11, v12, .slice (some tad) tn tc, .slice IA q.ns.length ic, v15, v16, v17] ∧ (W9.setCell ⟨w.heap.size, 7, none⟩ (.slice A7 (kn + 1) c7')).ownsRow w3.heap.size 3 1 (.slice A7 (kn + 1) c7') (kn + 1) ((s.tk.reverse.map (Value.int .i64)) ++ [.int .i64 (n : Int)]) from ⟨(H3.out.1.trans (HZ9.out.1.mono hs3)).setCell (by show w.heap.size ≤ w.heap.size; omega) _, (H3.out.2.1.below HZ9.out.1 H3.out.2.1.lt).set_ 7 _, (H3.out.2.2.1.below HZ9.out.1 H3.out.2.2.1.lt).far (by show w.heap.size + 1 ≠ w.heap.size; omega) _, (H3.out.2.2.2.below HZ9.out.1 H3.out.2.2.2.lt).far (by show w0.heap.size ≠ w.heap.size; omega) _, ownsRow_setCell_below HZ9.out.2 (by show w.heap.size < w3.heap.size; omega) _⟩)
          generalize (W9.setCell ⟨w.heap.size, 7, none⟩ (.slice A7 (kn + 1) c7')) = wa at *
          have c1 : wa.cell? ⟨w.heap.size, 1, none⟩ = some (.int .i64 (n : Int)) := by rw [← HR.out.1]; exact (HE.out.2.1.cell 1).trans rfl
          have p13 : wa.cell? ⟨w0.heap.size, 13, none⟩ = some (.slice (some tad) tn tc) := (HE.out.2.2.2.1.cell 13).trans rfl
          have hxa : wa.cell? tad = some (.int .i64 x) := (Below.cell (p := tad) HE.out.1 htb).trans HXW.out
          go_upto_region 8 with fail
          go_quiet (fail)
          have H5 := Lib.hid (show Below w.heap.size w (wa.drewN nq) ∧ Blk (wa.drewN nq) w.heap.size 33 (dwC LA ln lc A7 (kn + 1) c7' d) ∧ Blk (wa.drewN nq) (w.heap.size + 1) 33 #[.slice none 0 0, .int .i64 0, .int .i64 0, .int .i64 0, .bool false, .int .i64 0, .int .i64 0, .slice none 0 0, .bool false, .int .i64 0, .int .i64 0, .int .i64 0] ∧ (wa.drewN nq).ownsRow w3.heap.size 3 1 (.slice A7 (kn + 1) c7') (kn + 1) ((s.tk.reverse.map (Value.int .i64)) ++ [.int .i64 (n : Int)]) from ⟨HE.out.1.drewK nq, HE.out.2.1, HE.out.2.2.1, HE.out.2.2.2.2⟩)
          clear HE c1 p13 hxa HZ9
          generalize wa.drewN nq = wb at *
          have c1 : wb.cell? ⟨w.heap.size, 1, none⟩ = some (.int .i64 (n : Int)) := by rw [← HR.out.1]; exact (H5.out.2.1.cell 1).trans rfl
          have f1 : wb.frozen? ⟨w.heap.size, 1, none⟩ = false := H5.out.2.1.frozen 1
          go_upto_region 40 with fail
          have HZ := Lib.hid (show Blk ((wb.setCell ⟨w.heap.size, 1, none⟩ (.int .i64 ((n : Int) + x)))) w.heap.size 33 (dwC LA ln lc A7 (kn + 1) c7' ({ d with at_ := (n : Int) + x })) ∧ Blk ((wb.setCell ⟨w.heap.size, 1, none⟩ (.int .i64 ((n : Int) + x)))) (w.heap.size + 1) 33 #[.slice none 0 0, .int .i64 0, .int .i64 0, .int .i64 0, .bool false, .int .i64 0, .int .i64 0, .slice none 0 0, .bool false, .int .i64 0, .int .i64 0, .int .i64 0] ∧ Below w.heap.size w ((wb.setCell ⟨w.heap.size, 1, none⟩ (.int .i64 ((n : Int) + x)))) ∧ ((wb.setCell ⟨w.heap.size, 1, none⟩ (.int .i64 ((n : Int) + x)))).ownsRow w3.heap.size 3 1 (.slice A7 (kn + 1) c7') (kn + 1) ((s.tk.reverse.map (Value.int .i64)) ++ [.int .i64 (n : Int)]) from ⟨(H5.out.2.1.set_ 1 _), (H5.out.2.2.1.far (by show w.heap.size + 1 ≠ w.heap.size; omega) _), (H5.out.1.setCell (by show w.heap.size ≤ w.heap.size; omega) _), ownsRow_setCell_below H5.out.2.2.2 (by show w.heap.size < w3.heap.size; omega) _⟩)
          clear c1 f1
          generalize (wb.setCell ⟨w.heap.size, 1, none⟩ (.int .i64 ((n : Int) + x))) = wz at *
          have hPz := HZ.out.1
          have hQz := HZ.out.2.1
          go_wp2_with (first
            | (refine wpList_load_box rfl 33 _ rfl (w.heap.size) rfl 33 (dwC LA ln lc A7 (kn + 1) c7' ({ d with at_ := (n : Int) + x })) hPz _ Try.underlying33 rfl dwInfo (fun (_ : Hid _) => ?_))
            | (refine wpList_store_box rfl 33 _ _ rfl (w.heap.size + 1) (dwC LA ln lc A7 (kn + 1) c7' ({ d with at_ := (n : Int) + x })) rfl rfl 33 #[.slice none 0 0, .int .i64 0, .int .i64 0, .int .i64 0, .bool false, .int .i64 0, .int .i64 0, .slice none 0 0, .bool false, .int .i64 0, .int .i64 0, .int .i64 0] hQz dwInfo rfl dwOne ?_)
            | fail)
          intro w9 hB9 hg9
          have H9 := Lib.hid (show Below w.heap.size w w9 from (HZ.out.2.2.1).grown hg9 (HZ.out.2.2.1).size (fun b e => by injection e with e; omega))
          have HG9 := Lib.hid hg9
          clear hg9
          clear hPz hQz
          go_wp2_with fail
          refine bodyPost_ret (results_cell_tmp9 rfl _ _ (w.heap.size + 1) 33 _ (0, 0) _ rfl hB9 Try.underlying33 rfl dwInfo) rfl ?_
          have hle : leadE bs s = 0 := by unfold leadE; rw [if_pos HID.out, if_neg HM.out]
          have hls : leadS bs s = { s with tk := s.at_ :: s.tk, at_ := (n : Int) + x } := by
            unfold leadS; rw [if_pos HID.out, ← HQ0.out, ← HXD.out, HG.out.2.2.1]
          have htk : (leadS bs s).tk = s.at_ :: s.tk := by rw [hls]
          have hdr : DR (leadS bs s) { d with at_ := (n : Int) + x } := by
            rw [hls]
            exact ⟨rfl, HR.out.2.1, HR.out.2.2.1, HR.out.2.2.2.1, HR.out.2.2.2.2.1, HR.out.2.2.2.2.2.1, HR.out.2.2.2.2.2.2.1, HR.out.2.2.2.2.2.2.2⟩
          refine ⟨H9.out, .inl ⟨hle, _, _, _, _, rfl, hdr, ?_⟩⟩
          rw [htk, List.reverse_cons, List.map_append, HG.out.2.2.1]
          have hq3 := H3.out.2.2.1.lt
          exact (RdP.of_own (HZ.out.2.2.2.kept HG9.out (.inr (fun e => by have := (HZ.out.2.2.2.lt _ e).1; omega)))).keep (fun _ _ => rfl) (fun b hb => .inr ⟨by have := hb.1; omega, hb.2⟩)
        · have hA : Below w3.heap.size w3 (W1.alloc (.cells #[.int .i64 (n : Int)] 3)) := HZ.out.alloc HZ.out.size _
          have hL0 : (W1.alloc (.cells #[.int .i64 (n : Int)] 3)).cell? ⟨W1.heap.size, 0, none⟩ = some (.int .i64 (n : Int)) := lit_cells W1 [.int .i64 (n : Int)] 3 0 _ rfl
          have hO := Lib.hid (show (W1.alloc (.cells #[.int .i64 (n : Int)] 3)).ownsRow w3.heap.size 3 1 (Value.slice (some ⟨W0.heap.size, 0, none⟩) 0 0) 0 [] from HO.out.alloc _)
          have hL := Lib.hid (show (W1.alloc (.cells #[.int .i64 (n : Int)] 3)).cell? ⟨W1.heap.size, 0, none⟩ = some (.int .i64 (n : Int)) ∧ W1.heap.size < (W1.alloc (.cells #[.int .i64 (n : Int)] 3)).heap.size ∧ (Value.slice (some ⟨W0.heap.size, 0, none⟩) 0 0).ownBlock ≠ some W1.heap.size from ⟨hL0, by simp, fun e => by have := (HO.out.lt _ e).2; omega⟩)
          clear hL0
          go_simp
          refine hK.out _ _ ?_ (fun hHeld => ?_)
          · exact HSO.out _ hA
          clear hK K
          try simp only [Act.put, List.setIfInBounds_toArray, List.set_cons_zero, List.set_cons_succ]
          have hA2 := Lib.hid hA
          clear HZ hA
          have HZ := hA2
          clear hA2
          clear HO
          have HO := hO
          clear hO
          have HL := hL
          clear hL
          generalize (W1.alloc (.cells #[.int .i64 (n : Int)] 3)) = W2 at *
          refine wpAnyH_ready (rs := [3]) (by kernel_rfl) (by simp) ?_
          refine AllReadyH.cons (o := _) (by simp only [List.getElem?_toArray, List.getElem?_cons_succ, List.getElem?_cons_zero]; rfl) (fun K hK => ?_) AllReadyH.nil
          have hR3 := HRD.out.below HZ.out
          have hb9 := HZ.out.size
          refine step_append_any _ (by rfl) _ _ _ (by rfl) w3.heap.size 3 i1 (.int .i64 0) 1 8 Try.underlying31 hj hy0 hy1 hy2 rfl (by decide) (Value.slice (some ⟨W0.heap.size, 0, none⟩) 0 0) 0 [] (by rfl) HO.out w3.heap.size KA kn kc (s.tk.reverse.map (Value.int .i64)) (by rfl) hR3 (by intro u hu; obtain ⟨x, _, rfl⟩ := List.mem_map.1 hu; rfl) (by unfold maxLen; omega) (by omega) hb9 ?_
          intro v3 W3 own3 hg3 hv3
          rw [Nat.zero_add, List.nil_append] at own3
          obtain ⟨A3, c3, rfl⟩ := own_slice own3
          have hA : Below w3.heap.size w3 W3 := HZ.out.grown hg3 HZ.out.size (fun b e => (HO.out.lt b e).1)
          have hL := Lib.hid (show W3.cell? ⟨W1.heap.size, 0, none⟩ = some (.int .i64 (n : Int)) ∧ W1.heap.size < W3.heap.size ∧ (Value.slice A3 kn c3).ownBlock ≠ some W1.heap.size from ⟨hg3.cell HL.out.1 (fun e => HL.out.2.2 e.symm), Nat.lt_of_lt_of_le HL.out.2.1 hg3.size, fun e => by rcases hv3 with h | h; exact HL.out.2.2 (h ▸ e); rw [h] at e; injection e with e; have := HL.out.2.1; omega⟩)
          refine hK.out _ _ ?_ (fun hHeld => ?_)
          · exact HSO.out _ hA
          clear hK K
          try simp only [Act.put, List.setIfInBounds_toArray, List.set_cons_zero, List.set_cons_succ]
          have hA2 := Lib.hid hA
          clear HZ hA HO hR3 hb9
          have HZ := hA2
          have HO := Lib.hid own3
          clear hA2 own3 hg3 hv3
          clear HL
          have HL := hL
          clear hL
          refine wpAnyH_ready (rs := [7]) (by kernel_rfl) (by simp) ?_
          refine AllReadyH.cons (o := _) (by simp only [List.getElem?_toArray, List.getElem?_cons_succ, List.getElem?_cons_zero]; rfl) (fun K hK => ?_) AllReadyH.nil
          have hb9 := HZ.out.size
          have hRL : Reads W3 W3.heap.size 1 (some ⟨W1.heap.size, 0, none⟩) 1 [.int .i64 (n : Int)] := ⟨rfl, fun _ => ⟨_, rfl, HL.out.2.1, fun j u hu => by
            rcases j with _ | j
            · injection hu with hu; subst hu; exact HL.out.1
            · simp at hu⟩⟩
          refine step_append_any _ (by rfl) _ _ _ (by rfl) w3.heap.size 3 i1 (.int .i64 0) 1 8 Try.underlying31 hj hy0 hy1 hy2 rfl (by decide) (Value.slice A3 kn c3) kn (s.tk.reverse.map (Value.int .i64)) (by rfl) HO.out W3.heap.size (some ⟨W1.heap.size, 0, none⟩) 1 1 [.int .i64 (n : Int)] (by rfl) hRL (by simp [Value.oneCell']) (by unfold maxLen; omega) (by omega) hb9 ?_
          intro v7 W9 own7 hg7 hv7
          obtain ⟨A7, c7', rfl⟩ := own_slice own7
          have hA : Below w3.heap.size w3 W9 := HZ.out.grown hg7 HZ.out.size (fun b e => (HO.out.lt b e).1)
          refine hK.out _ _ ?_ (fun hHeld => ?_)
          · exact HSO.out _ hA
          clear hK K
          try simp only [Act.put, List.setIfInBounds_toArray, List.set_cons_zero, List.set_cons_succ]
          have HZ9 := Lib.hid (And.intro hA own7)
          clear hA own7 hg7 hv7 hRL hb9 HZ HO HL
          refine wpAnyH_take (i := 8) (oi := _) (v := ?_) (by simp only [List.getElem?_toArray, List.getElem?_cons_succ, List.getElem?_cons_zero]; rfl) (by kernel_rfl) (by kernel_rfl) (by kernel_rfl) (by intro _ _ _ h; exact h) (Or.inl ⟨by rfl, ?_⟩) (by assumption) ?_
          rotate_left
          · intro w hSw
            try dsimp only at hSw
            go_simp
            try with_reducible rfl
          try simp only [Act.put, List.setIfInBounds_toArray, List.set_cons_zero, List.set_cons_succ]
          have d7 := HS7.out _ HZ9.out.1
          have e7 : W9.frozen? ⟨w.heap.size, 7, none⟩ = false := (H3.out.2.1.below HZ9.out.1 H3.out.2.1.lt).frozen 7
          have c1k : W9.cell? ⟨w.heap.size, 1, none⟩ = some (.int .i64 (n : Int)) := HSO.out _ HZ9.out.1
          refine wpAnyH_ready (rs := [9]) (by kernel_rfl) (by simp) ?_
          refine AllReadyH.cons (o := _) (by simp only [List.getElem?_toArray, List.getElem?_cons_succ, List.getElem?_cons_zero]; rfl) (fun K hK => ?_) AllReadyH.nil
          go_simp
          refine hK.out _ _ ?_ (fun hHeld => ?_)
          · exact (World.cell?_setCell_other _ _ _ _ (by intro e; injection e with _ e; exact absurd e (by decide))).trans c1k
          clear hK K
          try simp only [Act.put, List.setIfInBounds_toArray, List.set_cons_zero, List.set_cons_succ]
          refine wpAnyH_done (by kernel_rfl) ?_ _
          clear d7 e7 c1k
          have HE := Lib.hid (show Below w.heap.size w (W9.setCell ⟨w.heap.size, 7, none⟩ (.slice A7 (kn + 1) c7')) ∧ Blk (W9.setCell ⟨w.heap.size, 7, none⟩ (.slice A7 (kn + 1) c7')) w.heap.size 33 (dwC LA ln lc A7 (kn + 1) c7' d) ∧ Blk (W9.setCell ⟨w.heap.size, 7, none⟩ (.slice A7 (kn + 1) c7')) (w.heap.size + 1) 33 #[.slice none 0 0, .int .i64 0, .int .i64 0, .int .i64 0, .bool false, .int .i64 0, .int .i64 0, .slice none 0 0, .bool false, .int .i64 0, .int .i64 0, .int .i64 0] ∧ Blk (W9.setCell ⟨w.heap.size, 7, none⟩ (.slice A7 (kn + 1) c7')) w0.heap.size 45 #[.int .i64 q.id, .int .i64 q.pz, v2, v3, v4, v5, v6, v7, .int .i64 q.ct, v9, v10, v11, v12, .slice (some tad) tn tc, .slice IA q.ns.length ic, v15, v16, v17] ∧ (W9.setCell ⟨w.heap.size, 7, none⟩ (.slice A7 (kn + 1) c7')).ownsRow w3.heap.size 3 1 (.slice A7 (kn + 1) c7') (kn + 1) ((s.tk.reverse.map (Value.int .i64)) ++ [.int .i64 (n : Int)]) from ⟨(H3.out.1.trans (HZ9.out.1.mono hs3)).setCell (by show w.heap.size ≤ w.heap.size; omega) _, (H3.out.2.1.below HZ9.out.1 H3.out.2.1.lt).set_ 7 _, (H3.out.2.2.1.below HZ9.out.1 H3.out.2.2.1.lt).far (by show w.heap.size + 1 ≠ w.heap.size; omega) _, (H3.out.2.2.2.below HZ9.out.1 H3.out.2.2.2.lt).far (by show w0.heap.size ≠ w.heap.size; omega) _, ownsRow_setCell_below HZ9.out.2 (by show w.heap.size < w3.heap.size; omega) _⟩)
          generalize (W9.setCell ⟨w.heap.size, 7, none⟩ (.slice A7 (kn + 1) c7')) = wa at *
          have c1 : wa.cell? ⟨w.heap.size, 1, none⟩ = some (.int .i64 (n : Int)) := by rw [← HR.out.1]; exact (HE.out.2.1.cell 1).trans rfl
          have p13 : wa.cell? ⟨w0.heap.size, 13, none⟩ = some (.slice (some tad) tn tc) := (HE.out.2.2.2.1.cell 13).trans rfl
          have hxa : wa.cell? tad = some (.int .i64 x) := (Below.cell (p := tad) HE.out.1 htb).trans HXW.out
          go_upto_region 8 with fail
          go_quiet (fail)
          have H5 := Lib.hid (show Below w.heap.size w (wa.drewN nq) ∧ Blk (wa.drewN nq) w.heap.size 33 (dwC LA ln lc A7 (kn + 1) c7' d) ∧ Blk (wa.drewN nq) (w.heap.size + 1) 33 #[.slice none 0 0, .int .i64 0, .int .i64 0, .int .i64 0, .bool false, .int .i64 0, .int .i64 0, .slice none 0 0, .bool false, .int .i64 0, .int .i64 0, .int .i64 0] ∧ (wa.drewN nq).ownsRow w3.heap.size 3 1 (.slice A7 (kn + 1) c7') (kn + 1) ((s.tk.reverse.map (Value.int .i64)) ++ [.int .i64 (n : Int)]) from ⟨HE.out.1.drewK nq, HE.out.2.1, HE.out.2.2.1, HE.out.2.2.2.2⟩)
          clear HE c1 p13 hxa HZ9
          generalize wa.drewN nq = wb at *
          have c1 : wb.cell? ⟨w.heap.size, 1, none⟩ = some (.int .i64 (n : Int)) := by rw [← HR.out.1]; exact (H5.out.2.1.cell 1).trans rfl
          have f1 : wb.frozen? ⟨w.heap.size, 1, none⟩ = false := H5.out.2.1.frozen 1
          go_upto_region 40 with fail
          have HZ := Lib.hid (show Blk ((wb.setCell ⟨w.heap.size, 1, none⟩ (.int .i64 ((n : Int) + x)))) w.heap.size 33 (dwC LA ln lc A7 (kn + 1) c7' ({ d with at_ := (n : Int) + x })) ∧ Blk ((wb.setCell ⟨w.heap.size, 1, none⟩ (.int .i64 ((n : Int) + x)))) (w.heap.size + 1) 33 #[.slice none 0 0, .int .i64 0, .int .i64 0, .int .i64 0, .bool false, .int .i64 0, .int .i64 0, .slice none 0 0, .bool false, .int .i64 0, .int .i64 0, .int .i64 0] ∧ Below w.heap.size w ((wb.setCell ⟨w.heap.size, 1, none⟩ (.int .i64 ((n : Int) + x)))) ∧ ((wb.setCell ⟨w.heap.size, 1, none⟩ (.int .i64 ((n : Int) + x)))).ownsRow w3.heap.size 3 1 (.slice A7 (kn + 1) c7') (kn + 1) ((s.tk.reverse.map (Value.int .i64)) ++ [.int .i64 (n : Int)]) from ⟨(H5.out.2.1.set_ 1 _), (H5.out.2.2.1.far (by show w.heap.size + 1 ≠ w.heap.size; omega) _), (H5.out.1.setCell (by show w.heap.size ≤ w.heap.size; omega) _), ownsRow_setCell_below H5.out.2.2.2 (by show w.heap.size < w3.heap.size; omega) _⟩)
          clear c1 f1
          generalize (wb.setCell ⟨w.heap.size, 1, none⟩ (.int .i64 ((n : Int) + x))) = wz at *
          have hPz := HZ.out.1
          have hQz := HZ.out.2.1
          go_wp2_with (first
            | (refine wpList_load_box rfl 33 _ rfl (w.heap.size) rfl 33 (dwC LA ln lc A7 (kn + 1) c7' ({ d with at_ := (n : Int) + x })) hPz _ Try.underlying33 rfl dwInfo (fun (_ : Hid _) => ?_))
            | (refine wpList_store_box rfl 33 _ _ rfl (w.heap.size + 1) (dwC LA ln lc A7 (kn + 1) c7' ({ d with at_ := (n : Int) + x })) rfl rfl 33 #[.slice none 0 0, .int .i64 0, .int .i64 0, .int .i64 0, .bool false, .int .i64 0, .int .i64 0, .slice none 0 0, .bool false, .int .i64 0, .int .i64 0, .int .i64 0] hQz dwInfo rfl dwOne ?_)
            | fail)
          intro w9 hB9 hg9
          have H9 := Lib.hid (show Below w.heap.size w w9 from (HZ.out.2.2.1).grown hg9 (HZ.out.2.2.1).size (fun b e => by injection e with e; omega))
          have HG9 := Lib.hid hg9
          clear hg9
          clear hPz hQz
          go_wp2_with fail
          refine bodyPost_ret (results_cell_tmp9 rfl _ _ (w.heap.size + 1) 33 _ (0, 0) _ rfl hB9 Try.underlying33 rfl dwInfo) rfl ?_
          have hle : leadE bs s = 0 := by unfold leadE; rw [if_pos HID.out, if_neg HM.out]
          have hls : leadS bs s = { s with tk := s.at_ :: s.tk, at_ := (n : Int) + x } := by
            unfold leadS; rw [if_pos HID.out, ← HQ0.out, ← HXD.out, HG.out.2.2.1]
          have htk : (leadS bs s).tk = s.at_ :: s.tk := by rw [hls]
          have hdr : DR (leadS bs s) { d with at_ := (n : Int) + x } := by
            rw [hls]
            exact ⟨rfl, HR.out.2.1, HR.out.2.2.1, HR.out.2.2.2.1, HR.out.2.2.2.2.1, HR.out.2.2.2.2.2.1, HR.out.2.2.2.2.2.2.1, HR.out.2.2.2.2.2.2.2⟩
          refine ⟨H9.out, .inl ⟨hle, _, _, _, _, rfl, hdr, ?_⟩⟩
          rw [htk, List.reverse_cons, List.map_append, HG.out.2.2.1]
          have hq3 := H3.out.2.2.1.lt
          exact (RdP.of_own (HZ.out.2.2.2.kept HG9.out (.inr (fun e => by have := (HZ.out.2.2.2.lt _ e).1; omega)))).keep (fun _ _ => rfl) (fun b hb => .inr ⟨by have := hb.1; omega, hb.2⟩)
      · have hA : Below w3.heap.size w3 (W0.alloc (.cells #[.int .i64 (n : Int)] 3)) := HZ.out.alloc HZ.out.size _
        have hL0 : (W0.alloc (.cells #[.int .i64 (n : Int)] 3)).cell? ⟨W0.heap.size, 0, none⟩ = some (.int .i64 (n : Int)) := lit_cells W0 [.int .i64 (n : Int)] 3 0 _ rfl
        have hL := Lib.hid (show (W0.alloc (.cells #[.int .i64 (n : Int)] 3)).cell? ⟨W0.heap.size, 0, none⟩ = some (.int .i64 (n : Int)) ∧ W0.heap.size < (W0.alloc (.cells #[.int .i64 (n : Int)] 3)).heap.size ∧ True from ⟨hL0, by simp, trivial⟩)
        clear hL0
        go_simp
        refine hK.out _ _ ?_ (fun hHeld => ?_)
        · exact HSO.out _ hA
        clear hK K
        try simp only [Act.put, List.setIfInBounds_toArray, List.set_cons_zero, List.set_cons_succ]
        have hA2 := Lib.hid hA
        clear HZ hA
        have HZ := hA2
        clear hA2
        have HL := hL
        clear hL
        generalize (W0.alloc (.cells #[.int .i64 (n : Int)] 3)) = W1 at *
        refine wpAnyH_ready (rs := [0]) (by kernel_rfl) (by simp) ?_
        refine AllReadyH.cons (o := _) (by simp only [List.getElem?_toArray, List.getElem?_cons_succ, List.getElem?_cons_zero]; rfl) (fun K hK => ?_) AllReadyH.nil
        have hA : Below w3.heap.size w3 (W1.alloc (.cells #[] 3)) := HZ.out.alloc HZ.out.size _
        have hO := Lib.hid (show (W1.alloc (.cells #[] 3)).ownsRow w3.heap.size 3 1 (Value.slice (some ⟨W1.heap.size, 0, none⟩) 0 0) 0 [] from World.ownsRow_lit W1 #[] 0 HZ.out.size (by unfold maxLen; omega) rfl)
        have hL := Lib.hid (show (W1.alloc (.cells #[] 3)).cell? ⟨W0.heap.size, 0, none⟩ = some (.int .i64 (n : Int)) ∧ W0.heap.size < (W1.alloc (.cells #[] 3)).heap.size ∧ W1.heap.size ≠ W0.heap.size from ⟨alloc_of HL.out.1, by have := HL.out.2; simp; omega, by have := HL.out.2; omega⟩)
        go_simp
        refine hK.out _ _ ?_ (fun hHeld => ?_)
        · exact HSO.out _ hA
        clear hK K
        try simp only [Act.put, List.setIfInBounds_toArray, List.set_cons_zero, List.set_cons_succ]
        have hA2 := Lib.hid hA
        clear HZ hA
        have HZ := hA2
        clear hA2
        have HO := hO
        clear hO
        clear HL
        have HL := hL
        clear hL
        generalize (W1.alloc (.cells #[] 3)) = W2 at *
        have hL := Lib.hid (show W2.cell? ⟨W0.heap.size, 0, none⟩ = some (.int .i64 (n : Int)) ∧ W0.heap.size < W2.heap.size ∧ (Value.slice (some ⟨W1.heap.size, 0, none⟩) 0 0).ownBlock ≠ some W0.heap.size from ⟨HL.out.1, HL.out.2.1, fun e => HL.out.2.2 (by injection e)⟩)
        clear HL
        have HL := hL
        clear hL
        refine wpAnyH_ready (rs := [3]) (by kernel_rfl) (by simp) ?_
        refine AllReadyH.cons (o := _) (by simp only [List.getElem?_toArray, List.getElem?_cons_succ, List.getElem?_cons_zero]; rfl) (fun K hK => ?_) AllReadyH.nil
        have hR3 := HRD.out.below HZ.out
        have hb9 := HZ.out.size
        refine step_append_any _ (by rfl) _ _ _ (by rfl) w3.heap.size 3 i1 (.int .i64 0) 1 8 Try.underlying31 hj hy0 hy1 hy2 rfl (by decide) (Value.slice (some ⟨W1.heap.size, 0, none⟩) 0 0) 0 [] (by rfl) HO.out w3.heap.size KA kn kc (s.tk.reverse.map (Value.int .i64)) (by rfl) hR3 (by intro u hu; obtain ⟨x, _, rfl⟩ := List.mem_map.1 hu; rfl) (by unfold maxLen; omega) (by omega) hb9 ?_
        intro v3 W3 own3 hg3 hv3
        rw [Nat.zero_add, List.nil_append] at own3
        obtain ⟨A3, c3, rfl⟩ := own_slice own3
        have hA : Below w3.heap.size w3 W3 := HZ.out.grown hg3 HZ.out.size (fun b e => (HO.out.lt b e).1)
        have hL := Lib.hid (show W3.cell? ⟨W0.heap.size, 0, none⟩ = some (.int .i64 (n : Int)) ∧ W0.heap.size < W3.heap.size ∧ (Value.slice A3 kn c3).ownBlock ≠ some W0.heap.size from ⟨hg3.cell HL.out.1 (fun e => HL.out.2.2 e.symm), Nat.lt_of_lt_of_le HL.out.2.1 hg3.size, fun e => by rcases hv3 with h | h; exact HL.out.2.2 (h ▸ e); rw [h] at e; injection e with e; have := HL.out.2.1; omega⟩)
        refine hK.out _ _ ?_ (fun hHeld => ?_)
        · exact HSO.out _ hA
        clear hK K
        try simp only [Act.put, List.setIfInBounds_toArray, List.set_cons_zero, List.set_cons_succ]
        have hA2 := Lib.hid hA
        clear HZ hA HO hR3 hb9
        have HZ := hA2
        have HO := Lib.hid own3
        clear hA2 own3 hg3 hv3
        clear HL
        have HL := hL
        clear hL
        refine wpAnyH_ready (rs := [7]) (by kernel_rfl) (by simp) ?_
        refine AllReadyH.cons (o := _) (by simp only [List.getElem?_toArray, List.getElem?_cons_succ, List.getElem?_cons_zero]; rfl) (fun K hK => ?_) AllReadyH.nil
        have hb9 := HZ.out.size
        have hRL : Reads W3 W3.heap.size 1 (some ⟨W0.heap.size, 0, none⟩) 1 [.int .i64 (n : Int)] := ⟨rfl, fun _ => ⟨_, rfl, HL.out.2.1, fun j u hu => by
          rcases j with _ | j
          · injection hu with hu; subst hu; exact HL.out.1
          · simp at hu⟩⟩
        refine step_append_any _ (by rfl) _ _ _ (by rfl) w3.heap.size 3 i1 (.int .i64 0) 1 8 Try.underlying31 hj hy0 hy1 hy2 rfl (by decide) (Value.slice A3 kn c3) kn (s.tk.reverse.map (Value.int .i64)) (by rfl) HO.out W3.heap.size (some ⟨W0.heap.size, 0, none⟩) 1 1 [.int .i64 (n : Int)] (by rfl) hRL (by simp [Value.oneCell']) (by unfold maxLen; omega) (by omega) hb9 ?_
        intro v7 W9 own7 hg7 hv7
        obtain ⟨A7, c7', rfl⟩ := own_slice own7
        have hA : Below w3.heap.size w3 W9 := HZ.out.grown hg7 HZ.out.size (fun b e => (HO.out.lt b e).1)
        refine hK.out _ _ ?_ (fun hHeld => ?_)
        · exact HSO.out _ hA
        clear hK K
        try simp only [Act.put, List.setIfInBounds_toArray, List.set_cons_zero, List.set_cons_succ]
        have HZ9 := Lib.hid (And.intro hA own7)
        clear hA own7 hg7 hv7 hRL hb9 HZ HO HL
        refine wpAnyH_take (i := 8) (oi := _) (v := ?_) (by simp only [List.getElem?_toArray, List.getElem?_cons_succ, List.getElem?_cons_zero]; rfl) (by kernel_rfl) (by kernel_rfl) (by kernel_rfl) (by intro _ _ _ h; exact h) (Or.inl ⟨by rfl, ?_⟩) (by assumption) ?_
        rotate_left
        · intro w hSw
          try dsimp only at hSw
          go_simp
          try with_reducible rfl
        try simp only [Act.put, List.setIfInBounds_toArray, List.set_cons_zero, List.set_cons_succ]
        have d7 := HS7.out _ HZ9.out.1
        have e7 : W9.frozen? ⟨w.heap.size, 7, none⟩ = false := (H3.out.2.1.below HZ9.out.1 H3.out.2.1.lt).frozen 7
        have c1k : W9.cell? ⟨w.heap.size, 1, none⟩ = some (.int .i64 (n : Int)) := HSO.out _ HZ9.out.1
        refine wpAnyH_ready (rs := [9]) (by kernel_rfl) (by simp) ?_
        refine AllReadyH.cons (o := _) (by simp only [List.getElem?_toArray, List.getElem?_cons_succ, List.getElem?_cons_zero]; rfl) (fun K hK => ?_) AllReadyH.nil
        go_simp
        refine hK.out _ _ ?_ (fun hHeld => ?_)
        · exact (World.cell?_setCell_other _ _ _ _ (by intro e; injection e with _ e; exact absurd e (by decide))).trans c1k
        clear hK K
        try simp only [Act.put, List.setIfInBounds_toArray, List.set_cons_zero, List.set_cons_succ]
        refine wpAnyH_done (by kernel_rfl) ?_ _
        clear d7 e7 c1k
        have HE := Lib.hid (show Below w.heap.size w (W9.setCell ⟨w.heap.size, 7, none⟩ (.slice A7 (kn + 1) c7')) ∧ Blk (W9.setCell ⟨w.heap.size, 7, none⟩ (.slice A7 (kn + 1) c7')) w.heap.size 33 (dwC LA ln lc A7 (kn + 1) c7' d) ∧ Blk (W9.setCell ⟨w.heap.size, 7, none⟩ (.slice A7 (kn + 1) c7')) (w.heap.size + 1) 33 #[.slice none 0 0, .int .i64 0, .int .i64 0, .int .i64 0, .bool false, .int .i64 0, .int .i64 0, .slice none 0 0, .bool false, .int .i64 0, .int .i64 0, .int .i64 0] ∧ Blk (W9.setCell ⟨w.heap.size, 7, none⟩ (.slice A7 (kn + 1) c7')) w0.heap.size 45 #[.int .i64 q.id, .int .i64 q.pz, v2, v3, v4, v5, v6, v7, .int .i64 q.ct, v9, v10, v11, v12, .slice (some tad) tn tc, .slice IA q.ns.length ic, v15, v16, v17] ∧ (W9.setCell ⟨w.heap.size, 7, none⟩ (.slice A7 (kn + 1) c7')).ownsRow w3.heap.size 3 1 (.slice A7 (kn + 1) c7') (kn + 1) ((s.tk.reverse.map (Value.int .i64)) ++ [.int .i64 (n : Int)]) from ⟨(H3.out.1.trans (HZ9.out.1.mono hs3)).setCell (by show w.heap.size ≤ w.heap.size; omega) _, (H3.out.2.1.below HZ9.out.1 H3.out.2.1.lt).set_ 7 _, (H3.out.2.2.1.below HZ9.out.1 H3.out.2.2.1.lt).far (by show w.heap.size + 1 ≠ w.heap.size; omega) _, (H3.out.2.2.2.below HZ9.out.1 H3.out.2.2.2.lt).far (by show w0.heap.size ≠ w.heap.size; omega) _, ownsRow_setCell_below HZ9.out.2 (by show w.heap.size < w3.heap.size; omega) _⟩)
        generalize (W9.setCell ⟨w.heap.size, 7, none⟩ (.slice A7 (kn + 1) c7')) = wa at *
        have c1 : wa.cell? ⟨w.heap.size, 1, none⟩ = some (.int .i64 (n : Int)) := by rw [← HR.out.1]; exact (HE.out.2.1.cell 1).trans rfl
        have p13 : wa.cell? ⟨w0.heap.size, 13, none⟩ = some (.slice (some tad) tn tc) := (HE.out.2.2.2.1.cell 13).trans rfl
        have hxa : wa.cell? tad = some (.int .i64 x) := (Below.cell (p := tad) HE.out.1 htb).trans HXW.out
        go_upto_region 8 with fail
        go_quiet (fail)
        have H5 := Lib.hid (show Below w.heap.size w (wa.drewN nq) ∧ Blk (wa.drewN nq) w.heap.size 33 (dwC LA ln lc A7 (kn + 1) c7' d) ∧ Blk (wa.drewN nq) (w.heap.size + 1) 33 #[.slice none 0 0, .int .i64 0, .int .i64 0, .int .i64 0, .bool false, .int .i64 0, .int .i64 0, .slice none 0 0, .bool false, .int .i64 0, .int .i64 0, .int .i64 0] ∧ (wa.drewN nq).ownsRow w3.heap.size 3 1 (.slice A7 (kn + 1) c7') (kn + 1) ((s.tk.reverse.map (Value.int .i64)) ++ [.int .i64 (n : Int)]) from ⟨HE.out.1.drewK nq, HE.out.2.1, HE.out.2.2.1, HE.out.2.2.2.2⟩)
        clear HE c1 p13 hxa HZ9
        generalize wa.drewN nq = wb at *
        have c1 : wb.cell? ⟨w.heap.size, 1, none⟩ = some (.int .i64 (n : Int)) := by rw [← HR.out.1]; exact (H5.out.2.1.cell 1).trans rfl
        have f1 : wb.frozen? ⟨w.heap.size, 1, none⟩ = false := H5.out.2.1.frozen 1
        go_upto_region 40 with fail
        have HZ := Lib.hid (show Blk ((wb.setCell ⟨w.heap.size, 1, none⟩ (.int .i64 ((n : Int) + x)))) w.heap.size 33 (dwC LA ln lc A7 (kn + 1) c7' ({ d with at_ := (n : Int) + x })) ∧ Blk ((wb.setCell ⟨w.heap.size, 1, none⟩ (.int .i64 ((n : Int) + x)))) (w.heap.size + 1) 33 #[.slice none 0 0, .int .i64 0, .int .i64 0, .int .i64 0, .bool false, .int .i64 0, .int .i64 0, .slice none 0 0, .bool false, .int .i64 0, .int .i64 0, .int .i64 0] ∧ Below w.heap.size w ((wb.setCell ⟨w.heap.size, 1, none⟩ (.int .i64 ((n : Int) + x)))) ∧ ((wb.setCell ⟨w.heap.size, 1, none⟩ (.int .i64 ((n : Int) + x)))).ownsRow w3.heap.size 3 1 (.slice A7 (kn + 1) c7') (kn + 1) ((s.tk.reverse.map (Value.int .i64)) ++ [.int .i64 (n : Int)]) from ⟨(H5.out.2.1.set_ 1 _), (H5.out.2.2.1.far (by show w.heap.size + 1 ≠ w.heap.size; omega) _), (H5.out.1.setCell (by show w.heap.size ≤ w.heap.size; omega) _), ownsRow_setCell_below H5.out.2.2.2 (by show w.heap.size < w3.heap.size; omega) _⟩)
        clear c1 f1
        generalize (wb.setCell ⟨w.heap.size, 1, none⟩ (.int .i64 ((n : Int) + x))) = wz at *
        have hPz := HZ.out.1
        have hQz := HZ.out.2.1
        go_wp2_with (first
          | (refine wpList_load_box rfl 33 _ rfl (w.heap.size) rfl 33 (dwC LA ln lc A7 (kn + 1) c7' ({ d with at_ := (n : Int) + x })) hPz _ Try.underlying33 rfl dwInfo (fun (_ : Hid _) => ?_))
          | (refine wpList_store_box rfl 33 _ _ rfl (w.heap.size + 1) (dwC LA ln lc A7 (kn + 1) c7' ({ d with at_ := (n : Int) + x })) rfl rfl 33 #[.slice none 0 0, .int .i64 0, .int .i64 0, .int .i64 0, .bool false, .int .i64 0, .int .i64 0, .slice none 0 0, .bool false, .int .i64 0, .int .i64 0, .int .i64 0] hQz dwInfo rfl dwOne ?_)
          | fail)
        intro w9 hB9 hg9
        have H9 := Lib.hid (show Below w.heap.size w w9 from (HZ.out.2.2.1).grown hg9 (HZ.out.2.2.1).size (fun b e => by injection e with e; omega))
        have HG9 := Lib.hid hg9
        clear hg9
        clear hPz hQz
        go_wp2_with fail
        refine bodyPost_ret (results_cell_tmp9 rfl _ _ (w.heap.size + 1) 33 _ (0, 0) _ rfl hB9 Try.underlying33 rfl dwInfo) rfl ?_
        have hle : leadE bs s = 0 := by unfold leadE; rw [if_pos HID.out, if_neg HM.out]
        have hls : leadS bs s = { s with tk := s.at_ :: s.tk, at_ := (n : Int) + x } := by
          unfold leadS; rw [if_pos HID.out, ← HQ0.out, ← HXD.out, HG.out.2.2.1]
        have htk : (leadS bs s).tk = s.at_ :: s.tk := by rw [hls]
        have hdr : DR (leadS bs s) { d with at_ := (n : Int) + x } := by
          rw [hls]
          exact ⟨rfl, HR.out.2.1, HR.out.2.2.1, HR.out.2.2.2.1, HR.out.2.2.2.2.1, HR.out.2.2.2.2.2.1, HR.out.2.2.2.2.2.2.1, HR.out.2.2.2.2.2.2.2⟩
        refine ⟨H9.out, .inl ⟨hle, _, _, _, _, rfl, hdr, ?_⟩⟩
        rw [htk, List.reverse_cons, List.map_append, HG.out.2.2.1]
        have hq3 := H3.out.2.2.1.lt
        exact (RdP.of_own (HZ.out.2.2.2.kept HG9.out (.inr (fun e => by have := (HZ.out.2.2.2.lt _ e).1; omega)))).keep (fun _ _ => rfl) (fun b hb => .inr ⟨by have := hb.1; omega, hb.2⟩)
    · have hA : Below w3.heap.size w3 (W0.alloc (.cells #[.int .i64 (n : Int)] 3)) := HZ.out.alloc HZ.out.size _
      have hL0 : (W0.alloc (.cells #[.int .i64 (n : Int)] 3)).cell? ⟨W0.heap.size, 0, none⟩ = some (.int .i64 (n : Int)) := lit_cells W0 [.int .i64 (n : Int)] 3 0 _ rfl
      have hL := Lib.hid (show (W0.alloc (.cells #[.int .i64 (n : Int)] 3)).cell? ⟨W0.heap.size, 0, none⟩ = some (.int .i64 (n : Int)) ∧ W0.heap.size < (W0.alloc (.cells #[.int .i64 (n : Int)] 3)).heap.size ∧ True from ⟨hL0, by simp, trivial⟩)
      clear hL0
      go_simp
      refine hK.out _ _ ?_ (fun hHeld => ?_)
      · exact HSO.out _ hA
      clear hK K
      try simp only [Act.put, List.setIfInBounds_toArray, List.set_cons_zero, List.set_cons_succ]
      have hA2 := Lib.hid hA
      clear HZ hA
      have HZ := hA2
      clear hA2
      have HL := hL
      clear hL
      generalize (W0.alloc (.cells #[.int .i64 (n : Int)] 3)) = W1 at *
      refine wpAnyH_ready (rs := [0, 2]) (by kernel_rfl) (by simp) ?_
      refine AllReadyH.cons (o := _) (by simp only [List.getElem?_toArray, List.getElem?_cons_succ, List.getElem?_cons_zero]; rfl) (fun K hK => ?_) (AllReadyH.cons (o := _) (by simp only [List.getElem?_toArray, List.getElem?_cons_succ, List.getElem?_cons_zero]; rfl) (fun K hK => ?_) AllReadyH.nil)
      · have hA : Below w3.heap.size w3 (W1.alloc (.cells #[] 3)) := HZ.out.alloc HZ.out.size _
        have hO := Lib.hid (show (W1.alloc (.cells #[] 3)).ownsRow w3.heap.size 3 1 (Value.slice (some ⟨W1.heap.size, 0, none⟩) 0 0) 0 [] from World.ownsRow_lit W1 #[] 0 HZ.out.size (by unfold maxLen; omega) rfl)
        have hL := Lib.hid (show (W1.alloc (.cells #[] 3)).cell? ⟨W0.heap.size, 0, none⟩ = some (.int .i64 (n : Int)) ∧ W0.heap.size < (W1.alloc (.cells #[] 3)).heap.size ∧ W1.heap.size ≠ W0.heap.size from ⟨alloc_of HL.out.1, by have := HL.out.2; simp; omega, by have := HL.out.2; omega⟩)
        go_simp
        refine hK.out _ _ ?_ (fun hHeld => ?_)
        · exact HSO.out _ hA
        clear hK K
        try simp only [Act.put, List.setIfInBounds_toArray, List.set_cons_zero, List.set_cons_succ]
        have hA2 := Lib.hid hA
        clear HZ hA
        have HZ := hA2
        clear hA2
        have HO := hO
        clear hO
        clear HL
        have HL := hL
        clear hL
        generalize (W1.alloc (.cells #[] 3)) = W2 at *
        have hL := Lib.hid (show W2.cell? ⟨W0.heap.size, 0, none⟩ = some (.int .i64 (n : Int)) ∧ W0.heap.size < W2.heap.size ∧ (Value.slice (some ⟨W1.heap.size, 0, none⟩) 0 0).ownBlock ≠ some W0.heap.size from ⟨HL.out.1, HL.out.2.1, fun e => HL.out.2.2 (by injection e)⟩)
        clear HL
        have HL := hL
        clear hL
        refine wpAnyH_ready (rs := [2]) (by kernel_rfl) (by simp) ?_
        refine AllReadyH.cons (o := _) (by simp only [List.getElem?_toArray, List.getElem?_cons_succ, List.getElem?_cons_zero]; rfl) (fun K hK => ?_) AllReadyH.nil
        have c7w := HS7.out _ HZ.out
        go_simp
        refine hK.out _ _ ?_ (fun hHeld => ?_)
        · exact HSO.out _ HZ.out
        clear hK K
        try simp only [Act.put, List.setIfInBounds_toArray, List.set_cons_zero, List.set_cons_succ]
        clear c7w
        refine wpAnyH_ready (rs := [3]) (by kernel_rfl) (by simp) ?_
        refine AllReadyH.cons (o := _) (by simp only [List.getElem?_toArray, List.getElem?_cons_succ, List.getElem?_cons_zero]; rfl) (fun K hK => ?_) AllReadyH.nil
        have hR3 := HRD.out.below HZ.out
        have hb9 := HZ.out.size
        refine step_append_any _ (by rfl) _ _ _ (by rfl) w3.heap.size 3 i1 (.int .i64 0) 1 8 Try.underlying31 hj hy0 hy1 hy2 rfl (by decide) (Value.slice (some ⟨W1.heap.size, 0, none⟩) 0 0) 0 [] (by rfl) HO.out w3.heap.size KA kn kc (s.tk.reverse.map (Value.int .i64)) (by rfl) hR3 (by intro u hu; obtain ⟨x, _, rfl⟩ := List.mem_map.1 hu; rfl) (by unfold maxLen; omega) (by omega) hb9 ?_
        intro v3 W3 own3 hg3 hv3
        rw [Nat.zero_add, List.nil_append] at own3
        obtain ⟨A3, c3, rfl⟩ := own_slice own3
        have hA : Below w3.heap.size w3 W3 := HZ.out.grown hg3 HZ.out.size (fun b e => (HO.out.lt b e).1)
        have hL := Lib.hid (show W3.cell? ⟨W0.heap.size, 0, none⟩ = some (.int .i64 (n : Int)) ∧ W0.heap.size < W3.heap.size ∧ (Value.slice A3 kn c3).ownBlock ≠ some W0.heap.size from ⟨hg3.cell HL.out.1 (fun e => HL.out.2.2 e.symm), Nat.lt_of_lt_of_le HL.out.2.1 hg3.size, fun e => by rcases hv3 with h | h; exact HL.out.2.2 (h ▸ e); rw [h] at e; injection e with e; have := HL.out.2.1; omega⟩)
        refine hK.out _ _ ?_ (fun hHeld => ?_)
        · exact HSO.out _ hA
        clear hK K
        try simp only [Act.put, List.setIfInBounds_toArray, List.set_cons_zero, List.set_cons_succ]
        have hA2 := Lib.hid hA
        clear HZ hA HO hR3 hb9
        have HZ := hA2
        have HO := Lib.hid own3
        clear hA2 own3 hg3 hv3
        clear HL
        have HL := hL
        clear hL
        refine wpAnyH_ready (rs := [7]) (by kernel_rfl) (by simp) ?_
        refine AllReadyH.cons (o := _) (by simp only [List.getElem?_toArray, List.getElem?_cons_succ, List.getElem?_cons_zero]; rfl) (fun K hK => ?_) AllReadyH.nil
        have hb9 := HZ.out.size
        have hRL : Reads W3 W3.heap.size 1 (some ⟨W0.heap.size, 0, none⟩) 1 [.int .i64 (n : Int)] := ⟨rfl, fun _ => ⟨_, rfl, HL.out.2.1, fun j u hu => by
          rcases j with _ | j
          · injection hu with hu; subst hu; exact HL.out.1
          · simp at hu⟩⟩
        refine step_append_any _ (by rfl) _ _ _ (by rfl) w3.heap.size 3 i1 (.int .i64 0) 1 8 Try.underlying31 hj hy0 hy1 hy2 rfl (by decide) (Value.slice A3 kn c3) kn (s.tk.reverse.map (Value.int .i64)) (by rfl) HO.out W3.heap.size (some ⟨W0.heap.size, 0, none⟩) 1 1 [.int .i64 (n : Int)] (by rfl) hRL (by simp [Value.oneCell']) (by unfold maxLen; omega) (by omega) hb9 ?_
        intro v7 W9 own7 hg7 hv7
        obtain ⟨A7, c7', rfl⟩ := own_slice own7
        have hA : Below w3.heap.size w3 W9 := HZ.out.grown hg7 HZ.out.size (fun b e => (HO.out.lt b e).1)
        refine hK.out _ _ ?_ (fun hHeld => ?_)
        · exact HSO.out _ hA
        clear hK K
        try simp only [Act.put, List.setIfInBounds_toArray, List.set_cons_zero, List.set_cons_succ]
        have HZ9 := Lib.hid (And.intro hA own7)
        clear hA own7 hg7 hv7 hRL hb9 HZ HO HL
        refine wpAnyH_take (i := 8) (oi := _) (v := ?_) (by simp only [List.getElem?_toArray, List.getElem?_cons_succ, List.getElem?_cons_zero]; rfl) (by kernel_rfl) (by kernel_rfl) (by kernel_rfl) (by intro _ _ _ h; exact h) (Or.inl ⟨by rfl, ?_⟩) (by assumption) ?_
        rotate_left
        · intro w hSw
          try dsimp only at hSw
          go_simp
          try with_reducible rfl
        try simp only [Act.put, List.setIfInBounds_toArray, List.set_cons_zero, List.set_cons_succ]
        have d7 := HS7.out _ HZ9.out.1
        have e7 : W9.frozen? ⟨w.heap.size, 7, none⟩ = false := (H3.out.2.1.below HZ9.out.1 H3.out.2.1.lt).frozen 7
        have c1k : W9.cell? ⟨w.heap.size, 1, none⟩ = some (.int .i64 (n : Int)) := HSO.out _ HZ9.out.1
        refine wpAnyH_ready (rs := [9]) (by kernel_rfl) (by simp) ?_
        refine AllReadyH.cons (o := _) (by simp only [List.getElem?_toArray, List.getElem?_cons_succ, List.getElem?_cons_zero]; rfl) (fun K hK => ?_) AllReadyH.nil
        go_simp
        refine hK.out _ _ ?_ (fun hHeld => ?_)
        · exact (World.cell?_setCell_other _ _ _ _ (by intro e; injection e with _ e; exact absurd e (by decide))).trans c1k
        clear hK K
        try simp only [Act.put, List.setIfInBounds_toArray, List.set_cons_zero, List.set_cons_succ]
        refine wpAnyH_done (by kernel_rfl) ?_ _
        clear d7 e7 c1k
        have HE := Lib.hid (show Below w.heap.size w (W9.setCell ⟨w.heap.size, 7, none⟩ (.slice A7 (kn + 1) c7')) ∧ Blk (W9.setCell ⟨w.heap.size, 7, none⟩ (.slice A7 (kn + 1) c7')) w.heap.size 33 (dwC LA ln lc A7 (kn + 1) c7' d) ∧ Blk (W9.setCell ⟨w.heap.size, 7, none⟩ (.slice A7 (kn + 1) c7')) (w.heap.size + 1) 33 #[.slice none 0 0, .int .i64 0, .int .i64 0, .int .i64 0, .bool false, .int .i64 0, .int .i64 0, .slice none 0 0, .bool false, .int .i64 0, .int .i64 0, .int .i64 0] ∧ Blk (W9.setCell ⟨w.heap.size, 7, none⟩ (.slice A7 (kn + 1) c7')) w0.heap.size 45 #[.int .i64 q.id, .int .i64 q.pz, v2, v3, v4, v5, v6, v7, .int .i64 q.ct, v9, v10, v11, v12, .slice (some tad) tn tc, .slice IA q.ns.length ic, v15, v16, v17] ∧ (W9.setCell ⟨w.heap.size, 7, none⟩ (.slice A7 (kn + 1) c7')).ownsRow w3.heap.size 3 1 (.slice A7 (kn + 1) c7') (kn + 1) ((s.tk.reverse.map (Value.int .i64)) ++ [.int .i64 (n : Int)]) from ⟨(H3.out.1.trans (HZ9.out.1.mono hs3)).setCell (by show w.heap.size ≤ w.heap.size; omega) _, (H3.out.2.1.below HZ9.out.1 H3.out.2.1.lt).set_ 7 _, (H3.out.2.2.1.below HZ9.out.1 H3.out.2.2.1.lt).far (by show w.heap.size + 1 ≠ w.heap.size; omega) _, (H3.out.2.2.2.below HZ9.out.1 H3.out.2.2.2.lt).far (by show w0.heap.size ≠ w.heap.size; omega) _, ownsRow_setCell_below HZ9.out.2 (by show w.heap.size < w3.heap.size; omega) _⟩)
        generalize (W9.setCell ⟨w.heap.size, 7, none⟩ (.slice A7 (kn + 1) c7')) = wa at *
        have c1 : wa.cell? ⟨w.heap.size, 1, none⟩ = some (.int .i64 (n : Int)) := by rw [← HR.out.1]; exact (HE.out.2.1.cell 1).trans rfl
        have p13 : wa.cell? ⟨w0.heap.size, 13, none⟩ = some (.slice (some tad) tn tc) := (HE.out.2.2.2.1.cell 13).trans rfl
        have hxa : wa.cell? tad = some (.int .i64 x) := (Below.cell (p := tad) HE.out.1 htb).trans HXW.out
        go_upto_region 8 with fail
        go_quiet (fail)
        have H5 := Lib.hid (show Below w.heap.size w (wa.drewN nq) ∧ Blk (wa.drewN nq) w.heap.size 33 (dwC LA ln lc A7 (kn + 1) c7' d) ∧ Blk (wa.drewN nq) (w.heap.size + 1) 33 #[.slice none 0 0, .int .i64 0, .int .i64 0, .int .i64 0, .bool false, .int .i64 0, .int .i64 0, .slice none 0 0, .bool false, .int .i64 0, .int .i64 0, .int .i64 0] ∧ (wa.drewN nq).ownsRow w3.heap.size 3 1 (.slice A7 (kn + 1) c7') (kn + 1) ((s.tk.reverse.map (Value.int .i64)) ++ [.int .i64 (n : Int)]) from ⟨HE.out.1.drewK nq, HE.out.2.1, HE.out.2.2.1, HE.out.2.2.2.2⟩)
        clear HE c1 p13 hxa HZ9
        generalize wa.drewN nq = wb at *
        have c1 : wb.cell? ⟨w.heap.size, 1, none⟩ = some (.int .i64 (n : Int)) := by rw [← HR.out.1]; exact (H5.out.2.1.cell 1).trans rfl
        have f1 : wb.frozen? ⟨w.heap.size, 1, none⟩ = false := H5.out.2.1.frozen 1
        go_upto_region 40 with fail
        have HZ := Lib.hid (show Blk ((wb.setCell ⟨w.heap.size, 1, none⟩ (.int .i64 ((n : Int) + x)))) w.heap.size 33 (dwC LA ln lc A7 (kn + 1) c7' ({ d with at_ := (n : Int) + x })) ∧ Blk ((wb.setCell ⟨w.heap.size, 1, none⟩ (.int .i64 ((n : Int) + x)))) (w.heap.size + 1) 33 #[.slice none 0 0, .int .i64 0, .int .i64 0, .int .i64 0, .bool false, .int .i64 0, .int .i64 0, .slice none 0 0, .bool false, .int .i64 0, .int .i64 0, .int .i64 0] ∧ Below w.heap.size w ((wb.setCell ⟨w.heap.size, 1, none⟩ (.int .i64 ((n : Int) + x)))) ∧ ((wb.setCell ⟨w.heap.size, 1, none⟩ (.int .i64 ((n : Int) + x)))).ownsRow w3.heap.size 3 1 (.slice A7 (kn + 1) c7') (kn + 1) ((s.tk.reverse.map (Value.int .i64)) ++ [.int .i64 (n : Int)]) from ⟨(H5.out.2.1.set_ 1 _), (H5.out.2.2.1.far (by show w.heap.size + 1 ≠ w.heap.size; omega) _), (H5.out.1.setCell (by show w.heap.size ≤ w.heap.size; omega) _), ownsRow_setCell_below H5.out.2.2.2 (by show w.heap.size < w3.heap.size; omega) _⟩)
        clear c1 f1
        generalize (wb.setCell ⟨w.heap.size, 1, none⟩ (.int .i64 ((n : Int) + x))) = wz at *
        have hPz := HZ.out.1
        have hQz := HZ.out.2.1
        go_wp2_with (first
          | (refine wpList_load_box rfl 33 _ rfl (w.heap.size) rfl 33 (dwC LA ln lc A7 (kn + 1) c7' ({ d with at_ := (n : Int) + x })) hPz _ Try.underlying33 rfl dwInfo (fun (_ : Hid _) => ?_))
          | (refine wpList_store_box rfl 33 _ _ rfl (w.heap.size + 1) (dwC LA ln lc A7 (kn + 1) c7' ({ d with at_ := (n : Int) + x })) rfl rfl 33 #[.slice none 0 0, .int .i64 0, .int .i64 0, .int .i64 0, .bool false, .int .i64 0, .int .i64 0, .slice none 0 0, .bool false, .int .i64 0, .int .i64 0, .int .i64 0] hQz dwInfo rfl dwOne ?_)
          | fail)
        intro w9 hB9 hg9
        have H9 := Lib.hid (show Below w.heap.size w w9 from (HZ.out.2.2.1).grown hg9 (HZ.out.2.2.1).size (fun b e => by injection e with e; omega))
        have HG9 := Lib.hid hg9
        clear hg9
        clear hPz hQz
        go_wp2_with fail
        refine bodyPost_ret (results_cell_tmp9 rfl _ _ (w.heap.size + 1) 33 _ (0, 0) _ rfl hB9 Try.underlying33 rfl dwInfo) rfl ?_
        have hle : leadE bs s = 0 := by unfold leadE; rw [if_pos HID.out, if_neg HM.out]
        have hls : leadS bs s = { s with tk := s.at_ :: s.tk, at_ := (n : Int) + x } := by
          unfold leadS; rw [if_pos HID.out, ← HQ0.out, ← HXD.out, HG.out.2.2.1]
        have htk : (leadS bs s).tk = s.at_ :: s.tk := by rw [hls]
        have hdr : DR (leadS bs s) { d with at_ := (n : Int) + x } := by
          rw [hls]
          exact ⟨rfl, HR.out.2.1, HR.out.2.2.1, HR.out.2.2.2.1, HR.out.2.2.2.2.1, HR.out.2.2.2.2.2.1, HR.out.2.2.2.2.2.2.1, HR.out.2.2.2.2.2.2.2⟩
        refine ⟨H9.out, .inl ⟨hle, _, _, _, _, rfl, hdr, ?_⟩⟩
        rw [htk, List.reverse_cons, List.map_append, HG.out.2.2.1]
        have hq3 := H3.out.2.2.1.lt
        exact (RdP.of_own (HZ.out.2.2.2.kept HG9.out (.inr (fun e => by have := (HZ.out.2.2.2.lt _ e).1; omega)))).keep (fun _ _ => rfl) (fun b hb => .inr ⟨by have := hb.1; omega, hb.2⟩)
      · have c7w := HS7.out _ HZ.out
        go_simp
        refine hK.out _ _ ?_ (fun hHeld => ?_)
        · exact HSO.out _ HZ.out
        clear hK K
        try simp only [Act.put, List.setIfInBounds_toArray, List.set_cons_zero, List.set_cons_succ]
        clear c7w
        refine wpAnyH_ready (rs := [0]) (by kernel_rfl) (by simp) ?_
        refine AllReadyH.cons (o := _) (by simp only [List.getElem?_toArray, List.getElem?_cons_succ, List.getElem?_cons_zero]; rfl) (fun K hK => ?_) AllReadyH.nil
        have hA : Below w3.heap.size w3 (W1.alloc (.cells #[] 3)) := HZ.out.alloc HZ.out.size _
        have hO := Lib.hid (show (W1.alloc (.cells #[] 3)).ownsRow w3.heap.size 3 1 (Value.slice (some ⟨W1.heap.size, 0, none⟩) 0 0) 0 [] from World.ownsRow_lit W1 #[] 0 HZ.out.size (by unfold maxLen; omega) rfl)
        have hL := Lib.hid (show (W1.alloc (.cells #[] 3)).cell? ⟨W0.heap.size, 0, none⟩ = some (.int .i64 (n : Int)) ∧ W0.heap.size < (W1.alloc (.cells #[] 3)).heap.size ∧ W1.heap.size ≠ W0.heap.size from ⟨alloc_of HL.out.1, by have := HL.out.2; simp; omega, by have := HL.out.2; omega⟩)
        go_simp
        refine hK.out _ _ ?_ (fun hHeld => ?_)
        · exact HSO.out _ hA
        clear hK K
        try simp only [Act.put, List.setIfInBounds_toArray, List.set_cons_zero, List.set_cons_succ]
        have hA2 := Lib.hid hA
        clear HZ hA
        have HZ := hA2
        clear hA2
        have HO := hO
        clear hO
        clear HL
        have HL := hL
        clear hL
        generalize (W1.alloc (.cells #[] 3)) = W2 at *
        have hL := Lib.hid (show W2.cell? ⟨W0.heap.size, 0, none⟩ = some (.int .i64 (n : Int)) ∧ W0.heap.size < W2.heap.size ∧ (Value.slice (some ⟨W1.heap.size, 0, none⟩) 0 0).ownBlock ≠ some W0.heap.size from ⟨HL.out.1, HL.out.2.1, fun e => HL.out.2.2 (by injection e)⟩)
        clear HL
        have HL := hL
        clear hL
        refine wpAnyH_ready (rs := [3]) (by kernel_rfl) (by simp) ?_
        refine AllReadyH.cons (o := _) (by simp only [List.getElem?_toArray, List.getElem?_cons_succ, List.getElem?_cons_zero]; rfl) (fun K hK => ?_) AllReadyH.nil
        have hR3 := HRD.out.below HZ.out
        have hb9 := HZ.out.size
        refine step_append_any _ (by rfl) _ _ _ (by rfl) w3.heap.size 3 i1 (.int .i64 0) 1 8 Try.underlying31 hj hy0 hy1 hy2 rfl (by decide) (Value.slice (some ⟨W1.heap.size, 0, none⟩) 0 0) 0 [] (by rfl) HO.out w3.heap.size KA kn kc (s.tk.reverse.map (Value.int .i64)) (by rfl) hR3 (by intro u hu; obtain ⟨x, _, rfl⟩ := List.mem_map.1 hu; rfl) (by unfold maxLen; omega) (by omega) hb9 ?_
        intro v3 W3 own3 hg3 hv3
        rw [Nat.zero_add, List.nil_append] at own3
        obtain ⟨A3, c3, rfl⟩ := own_slice own3
        have hA : Below w3.heap.size w3 W3 := HZ.out.grown hg3 HZ.out.size (fun b e => (HO.out.lt b e).1)
        have hL := Lib.hid (show W3.cell? ⟨W0.heap.size, 0, none⟩ = some (.int .i64 (n : Int)) ∧ W0.heap.size < W3.heap.size ∧ (Value.slice A3 kn c3).ownBlock ≠ some W0.heap.size from ⟨hg3.cell HL.out.1 (fun e => HL.out.2.2 e.symm), Nat.lt_of_lt_of_le HL.out.2.1 hg3.size, fun e => by rcases hv3 with h | h; exact HL.out.2.2 (h ▸ e); rw [h] at e; injection e with e; have := HL.out.2.1; omega⟩)
        refine hK.out _ _ ?_ (fun hHeld => ?_)
        · exact HSO.out _ hA
        clear hK K
        try simp only [Act.put, List.setIfInBounds_toArray, List.set_cons_zero, List.set_cons_succ]
        have hA2 := Lib.hid hA
        clear HZ hA HO hR3 hb9
        have HZ := hA2
        have HO := Lib.hid own3
        clear hA2 own3 hg3 hv3
        clear HL
        have HL := hL
        clear hL
        refine wpAnyH_ready (rs := [7]) (by kernel_rfl) (by simp) ?_
        refine AllReadyH.cons (o := _) (by simp only [List.getElem?_toArray, List.getElem?_cons_succ, List.getElem?_cons_zero]; rfl) (fun K hK => ?_) AllReadyH.nil
        have hb9 := HZ.out.size
        have hRL : Reads W3 W3.heap.size 1 (some ⟨W0.heap.size, 0, none⟩) 1 [.int .i64 (n : Int)] := ⟨rfl, fun _ => ⟨_, rfl, HL.out.2.1, fun j u hu => by
          rcases j with _ | j
          · injection hu with hu; subst hu; exact HL.out.1
          · simp at hu⟩⟩
        refine step_append_any _ (by rfl) _ _ _ (by rfl) w3.heap.size 3 i1 (.int .i64 0) 1 8 Try.underlying31 hj hy0 hy1 hy2 rfl (by decide) (Value.slice A3 kn c3) kn (s.tk.reverse.map (Value.int .i64)) (by rfl) HO.out W3.heap.size (some ⟨W0.heap.size, 0, none⟩) 1 1 [.int .i64 (n : Int)] (by rfl) hRL (by simp [Value.oneCell']) (by unfold maxLen; omega) (by omega) hb9 ?_
        intro v7 W9 own7 hg7 hv7
        obtain ⟨A7, c7', rfl⟩ := own_slice own7
        have hA : Below w3.heap.size w3 W9 := HZ.out.grown hg7 HZ.out.size (fun b e => (HO.out.lt b e).1)
        refine hK.out _ _ ?_ (fun hHeld => ?_)
        · exact HSO.out _ hA
        clear hK K
        try simp only [Act.put, List.setIfInBounds_toArray, List.set_cons_zero, List.set_cons_succ]
        have HZ9 := Lib.hid (And.intro hA own7)
        clear hA own7 hg7 hv7 hRL hb9 HZ HO HL
        refine wpAnyH_take (i := 8) (oi := _) (v := ?_) (by simp only [List.getElem?_toArray, List.getElem?_cons_succ, List.getElem?_cons_zero]; rfl) (by kernel_rfl) (by kernel_rfl) (by kernel_rfl) (by intro _ _ _ h; exact h) (Or.inl ⟨by rfl, ?_⟩) (by assumption) ?_
        rotate_left
        · intro w hSw
          try dsimp only at hSw
          go_simp
          try with_reducible rfl
        try simp only [Act.put, List.setIfInBounds_toArray, List.set_cons_zero, List.set_cons_succ]
        have d7 := HS7.out _ HZ9.out.1
        have e7 : W9.frozen? ⟨w.heap.size, 7, none⟩ = false := (H3.out.2.1.below HZ9.out.1 H3.out.2.1.lt).frozen 7
        have c1k : W9.cell? ⟨w.heap.size, 1, none⟩ = some (.int .i64 (n : Int)) := HSO.out _ HZ9.out.1
        refine wpAnyH_ready (rs := [9]) (by kernel_rfl) (by simp) ?_
        refine AllReadyH.cons (o := _) (by simp only [List.getElem?_toArray, List.getElem?_cons_succ, List.getElem?_cons_zero]; rfl) (fun K hK => ?_) AllReadyH.nil
        go_simp
        refine hK.out _ _ ?_ (fun hHeld => ?_)
        · exact (World.cell?_setCell_other _ _ _ _ (by intro e; injection e with _ e; exact absurd e (by decide))).trans c1k
        clear hK K
        try simp only [Act.put, List.setIfInBounds_toArray, List.set_cons_zero, List.set_cons_succ]
        refine wpAnyH_done (by kernel_rfl) ?_ _
        clear d7 e7 c1k
        have HE := Lib.hid (show Below w.heap.size w (W9.setCell ⟨w.heap.size, 7, none⟩ (.slice A7 (kn + 1) c7')) ∧ Blk (W9.setCell ⟨w.heap.size, 7, none⟩ (.slice A7 (kn + 1) c7')) w.heap.size 33 (dwC LA ln lc A7 (kn + 1) c7' d) ∧ Blk (W9.setCell ⟨w.heap.size, 7, none⟩ (.slice A7 (kn + 1) c7')) (w.heap.size + 1) 33 #[.slice none 0 0, .int .i64 0, .int .i64 0, .int .i64 0, .bool false, .int .i64 0, .int .i64 0, .slice none 0 0, .bool false, .int .i64 0, .int .i64 0, .int .i64 0] ∧ Blk (W9.setCell ⟨w.heap.size, 7, none⟩ (.slice A7 (kn + 1) c7')) w0.heap.size 45 #[.int .i64 q.id, .int .i64 q.pz, v2, v3, v4, v5, v6, v7, .int .i64 q.ct, v9, v10, v11, v12, .slice (some tad) tn tc, .slice IA q.ns.length ic, v15, v16, v17] ∧ (W9.setCell ⟨w.heap.size, 7, none⟩ (.slice A7 (kn + 1) c7')).ownsRow w3.heap.size 3 1 (.slice A7 (kn + 1) c7') (kn + 1) ((s.tk.reverse.map (Value.int .i64)) ++ [.int .i64 (n : Int)]) from ⟨(H3.out.1.trans (HZ9.out.1.mono hs3)).setCell (by show w.heap.size ≤ w.heap.size; omega) _, (H3.out.2.1.below HZ9.out.1 H3.out.2.1.lt).set_ 7 _, (H3.out.2.2.1.below HZ9.out.1 H3.out.2.2.1.lt).far (by show w.heap.size + 1 ≠ w.heap.size; omega) _, (H3.out.2.2.2.below HZ9.out.1 H3.out.2.2.2.lt).far (by show w0.heap.size ≠ w.heap.size; omega) _, ownsRow_setCell_below HZ9.out.2 (by show w.heap.size < w3.heap.size; omega) _⟩)
        generalize (W9.setCell ⟨w.heap.size, 7, none⟩ (.slice A7 (kn + 1) c7')) = wa at *
        have c1 : wa.cell? ⟨w.heap.size, 1, none⟩ = some (.int .i64 (n : Int)) := by rw [← HR.out.1]; exact (HE.out.2.1.cell 1).trans rfl
        have p13 : wa.cell? ⟨w0.heap.size, 13, none⟩ = some (.slice (some tad) tn tc) := (HE.out.2.2.2.1.cell 13).trans rfl
        have hxa : wa.cell? tad = some (.int .i64 x) := (Below.cell (p := tad) HE.out.1 htb).trans HXW.out
        go_upto_region 8 with fail
        go_quiet (fail)
        have H5 := Lib.hid (show Below w.heap.size w (wa.drewN nq) ∧ Blk (wa.drewN nq) w.heap.size 33 (dwC LA ln lc A7 (kn + 1) c7' d) ∧ Blk (wa.drewN nq) (w.heap.size + 1) 33 #[.slice none 0 0, .int .i64 0, .int .i64 0, .int .i64 0, .bool false, .int .i64 0, .int .i64 0, .slice none 0 0, .bool false, .int .i64 0, .int .i64 0, .int .i64 0] ∧ (wa.drewN nq).ownsRow w3.heap.size 3 1 (.slice A7 (kn + 1) c7') (kn + 1) ((s.tk.reverse.map (Value.int .i64)) ++ [.int .i64 (n : Int)]) from ⟨HE.out.1.drewK nq, HE.out.2.1, HE.out.2.2.1, HE.out.2.2.2.2⟩)
        clear HE c1 p13 hxa HZ9
        generalize wa.drewN nq = wb at *
        have c1 : wb.cell? ⟨w.heap.size, 1, none⟩ = some (.int .i64 (n : Int)) := by rw [← HR.out.1]; exact (H5.out.2.1.cell 1).trans rfl
        have f1 : wb.frozen? ⟨w.heap.size, 1, none⟩ = false := H5.out.2.1.frozen 1
        go_upto_region 40 with fail
        have HZ := Lib.hid (show Blk ((wb.setCell ⟨w.heap.size, 1, none⟩ (.int .i64 ((n : Int) + x)))) w.heap.size 33 (dwC LA ln lc A7 (kn + 1) c7' ({ d with at_ := (n : Int) + x })) ∧ Blk ((wb.setCell ⟨w.heap.size, 1, none⟩ (.int .i64 ((n : Int) + x)))) (w.heap.size + 1) 33 #[.slice none 0 0, .int .i64 0, .int .i64 0, .int .i64 0, .bool false, .int .i64 0, .int .i64 0, .slice none 0 0, .bool false, .int .i64 0, .int .i64 0, .int .i64 0] ∧ Below w.heap.size w ((wb.setCell ⟨w.heap.size, 1, none⟩ (.int .i64 ((n : Int) + x)))) ∧ ((wb.setCell ⟨w.heap.size, 1, none⟩ (.int .i64 ((n : Int) + x)))).ownsRow w3.heap.size 3 1 (.slice A7 (kn + 1) c7') (kn + 1) ((s.tk.reverse.map (Value.int .i64)) ++ [.int .i64 (n : Int)]) from ⟨(H5.out.2.1.set_ 1 _), (H5.out.2.2.1.far (by show w.heap.size + 1 ≠ w.heap.size; omega) _), (H5.out.1.setCell (by show w.heap.size ≤ w.heap.size; omega) _), ownsRow_setCell_below H5.out.2.2.2 (by show w.heap.size < w3.heap.size; omega) _⟩)
        clear c1 f1
        generalize (wb.setCell ⟨w.heap.size, 1, none⟩ (.int .i64 ((n : Int) + x))) = wz at *
        have hPz := HZ.out.1
        have hQz := HZ.out.2.1
        go_wp2_with (first
          | (refine wpList_load_box rfl 33 _ rfl (w.heap.size) rfl 33 (dwC LA ln lc A7 (kn + 1) c7' ({ d with at_ := (n : Int) + x })) hPz _ Try.underlying33 rfl dwInfo (fun (_ : Hid _) => ?_))
          | (refine wpList_store_box rfl 33 _ _ rfl (w.heap.size + 1) (dwC LA ln lc A7 (kn + 1) c7' ({ d with at_ := (n : Int) + x })) rfl rfl 33 #[.slice none 0 0, .int .i64 0, .int .i64 0, .int .i64 0, .bool false, .int .i64 0, .int .i64 0, .slice none 0 0, .bool false, .int .i64 0, .int .i64 0, .int .i64 0] hQz dwInfo rfl dwOne ?_)
          | fail)
        intro w9 hB9 hg9
        have H9 := Lib.hid (show Below w.heap.size w w9 from (HZ.out.2.2.1).grown hg9 (HZ.out.2.2.1).size (fun b e => by injection e with e; omega))
        have HG9 := Lib.hid hg9
        clear hg9
        clear hPz hQz
        go_wp2_with fail
        refine bodyPost_ret (results_cell_tmp9 rfl _ _ (w.heap.size + 1) 33 _ (0, 0) _ rfl hB9 Try.underlying33 rfl dwInfo) rfl ?_
        have hle : leadE bs s = 0 := by unfold leadE; rw [if_pos HID.out, if_neg HM.out]
        have hls : leadS bs s = { s with tk := s.at_ :: s.tk, at_ := (n : Int) + x } := by
          unfold leadS; rw [if_pos HID.out, ← HQ0.out, ← HXD.out, HG.out.2.2.1]
        have htk : (leadS bs s).tk = s.at_ :: s.tk := by rw [hls]
        have hdr : DR (leadS bs s) { d with at_ := (n : Int) + x } := by
          rw [hls]
          exact ⟨rfl, HR.out.2.1, HR.out.2.2.1, HR.out.2.2.2.1, HR.out.2.2.2.2.1, HR.out.2.2.2.2.2.1, HR.out.2.2.2.2.2.2.1, HR.out.2.2.2.2.2.2.2⟩
        refine ⟨H9.out, .inl ⟨hle, _, _, _, _, rfl, hdr, ?_⟩⟩
        rw [htk, List.reverse_cons, List.map_append, HG.out.2.2.1]
        have hq3 := H3.out.2.2.1.lt
        exact (RdP.of_own (HZ.out.2.2.2.kept HG9.out (.inr (fun e => by have := (HZ.out.2.2.2.lt _ e).1; omega)))).keep (fun _ _ => rfl) (fun b hb => .inr ⟨by have := hb.1; omega, hb.2⟩)
end Go.Proofs.Ytnmapncgnceldaa
