/- Layer 24: contract of where a jump leads. -/
import Derived.Test.YtnmapncgnceldaaWk9
import Derived.Deep.RegionHeld3
import Derived.Deep.QuietTactic
import Derived.BigQuiet
namespace Go.Proofs.Ytnmapncgnceldaa
open Go.RowKit

theorem WalkAt.upd {w w2 : World} {g mb : Nat} {LA : Option Addr} {ln lc : Nat} {bs : List WB} {s : WS} {tk' : List Int} (h : WalkAt w g mb LA ln lc bs s) (hg : w.grownBy w2 (some mb)) (hT : TkAt w2 mb tk') : WalkAt w2 g mb LA ln lc bs { s with tk := tk' } ∧ Mv w w2 g mb := by
  have hM : Mv w w2 g mb := Mv.of_grown hg (.inr rfl)
  have hne := h.2.1.ne h.1
  have hs := hM.size
  exact ⟨⟨h.1.grown hg (fun e => by injection e with e; exact hne e.symm), hT, h.2.2.keep (fun b hp => hM.block b hp.2.2 hp.1 hp.2.1) (fun b hp => ⟨hp.1, hp.2.1, by have := hp.2.2; omega⟩)⟩, hM⟩
theorem TkAt.lookupN {w : World} {b : Nat} {tk : List Int} (h : TkAt w b tk) {n : Nat} (hn : n ≤ 1000) (k : Nat) : (Instr.lookup 52 (.map (some b)) (.int .i64 (n : Int)) false).run Try.prog (w.drewN k) = .ok (.bool (decide ((n : Int) ∈ tk))) (w.drewN k) := (h.kept (w' := w.drewN k) rfl).lookup (wf_small hn)

set_option maxRecDepth 100000 in
set_option maxHeartbeats 8000000 in
theorem lead35_any (w : World) (g mb : Nat) (LA : Option Addr) (ln lc : Nat) (bs : List WB) (s : WS) (d : WB) (v2 v3 v4 v5 v6 v7 v9 v10 v11 v12 : Value) (TA : Option Addr) (tn tc : Nat) (IA : Option Addr) (ic : Nat) (v15 v16 v17 : Value) (h : WalkAt w g mb LA ln lc bs s) (hok : s.ok bs) (hf : Fine bs) (hln : bs.length = ln) (hlt : s.at_ < ln) (hd : d = atB bs s.at_) (hid : d.id = 35) (hT : RdP w (fun b => b ≠ g ∧ b ≠ mb ∧ b < w.heap.size) 1 TA tn (d.ts.map (Value.int .i64))) :
    Calls Try.prog 29 #[.pointer (some ⟨g, 0, none⟩), .agg #[.int .i64 d.id, .int .i64 d.pz, v2, v3, v4, v5, v6, v7, .int .i64 d.ct, v9, v10, v11, v12, .slice TA tn tc, .slice IA d.ns.length ic, v15, v16, v17]] w fun x w' => LeadO w w' x g mb LA ln lc bs s := by
  rw [hid]
  have HI := Lib.hid hid
  clear hid
  obtain ⟨n, hn⟩ : ∃ n : Nat, s.at_ = (n : Int) := ⟨s.at_.toNat, by have := hok.1; omega⟩
  have hnl : n < ln := by omega
  have hl60 : ln ≤ 60 := by have := hf.1; omega
  have hdn : d = bs.getD n default := by rw [hd, hn]; rfl
  have hfn := hf.2 n (by omega)
  rw [← hdn] at hfn
  have hwn : IntKind.i64.wrap ((n : Int) + 1) = (n : Int) + 1 := by rw [IntKind.wrap_i64]; omega
  have hn0 : (0 : Int) ≤ (n : Int) := Int.natCast_nonneg _
  have hb2 : Below w.heap.size w ((w.alloc (.cells #[.int .i64 35, .int .i64 d.pz, v2, v3, v4, v5, v6, v7, .int .i64 d.ct, v9, v10, v11, v12, .slice TA tn tc, .slice IA d.ns.length ic, v15, v16, v17] 45)).alloc (.cells #[.int .i64 0, .int .i64 0, .int .i64 0] 36)) := ((Below.refl _ _).alloc (Nat.le_refl _) _).alloc (by simp) _
  have hP : Blk ((w.alloc (.cells #[.int .i64 35, .int .i64 d.pz, v2, v3, v4, v5, v6, v7, .int .i64 d.ct, v9, v10, v11, v12, .slice TA tn tc, .slice IA d.ns.length ic, v15, v16, v17] 45)).alloc (.cells #[.int .i64 0, .int .i64 0, .int .i64 0] 36)) w.heap.size 45 #[.int .i64 35, .int .i64 d.pz, v2, v3, v4, v5, v6, v7, .int .i64 d.ct, v9, v10, v11, v12, .slice TA tn tc, .slice IA d.ns.length ic, v15, v16, v17] := (Blk.new w _ _).alloc _
  have hQ : Blk ((w.alloc (.cells #[.int .i64 35, .int .i64 d.pz, v2, v3, v4, v5, v6, v7, .int .i64 d.ct, v9, v10, v11, v12, .slice TA tn tc, .slice IA d.ns.length ic, v15, v16, v17] 45)).alloc (.cells #[.int .i64 0, .int .i64 0, .int .i64 0] 36)) (w.heap.size + 1) 36 #[.int .i64 0, .int .i64 0, .int .i64 0] := by
    have := Blk.new (w.alloc (.cells #[.int .i64 35, .int .i64 d.pz, v2, v3, v4, v5, v6, v7, .int .i64 d.ct, v9, v10, v11, v12, .slice TA tn tc, .slice IA d.ns.length ic, v15, v16, v17] 45)) 36 #[.int .i64 0, .int .i64 0, .int .i64 0]
    simpa using this
  have hgl := h.1.lt
  have hml := h.2.1.lt
  have hne := h.2.1.ne h.1
  have HH := Lib.hid (And.intro (h.below hb2) (And.intro hb2 (And.intro hP (And.intro hQ (And.intro h (And.intro hok (And.intro hd (And.intro hn (And.intro hfn hT)))))))))
  have HN := Lib.hid hln
  clear h hb2 hP hQ hok hf hln hlt hd hn hdn hfn hT
  go_enter Try.func29, Try.ntmps29
  go_upto_region 1 with fail
  generalize ((w.alloc (.cells #[.int .i64 35, .int .i64 d.pz, v2, v3, v4, v5, v6, v7, .int .i64 d.ct, v9, v10, v11, v12, .slice TA tn tc, .slice IA d.ns.length ic, v15, v16, v17] 45)).alloc (.cells #[.int .i64 0, .int .i64 0, .int .i64 0] 36)) = w0 at *
  have hws := HH.out.2.1.size
  have hql := HH.out.2.2.2.1.lt
  have c1 : w0.cell? ⟨g, 1, none⟩ = some (.int .i64 n) := by rw [← HH.out.2.2.2.2.2.2.2.1]; exact (HH.out.1.1.cell 1).trans rfl
  have f1 : w0.frozen? ⟨g, 1, none⟩ = false := HH.out.1.1.frozen 1
  have p0 : w0.cell? ⟨w.heap.size, 0, none⟩ = some (.int .i64 35) := (HH.out.2.2.1.cell 0).trans rfl
  have p13 : w0.cell? ⟨w.heap.size, 13, none⟩ = some (.slice TA tn tc) := (HH.out.2.2.1.cell 13).trans rfl
  have htl : d.ts.length = tn := reads_len (HH.out.2.2.2.2.2.2.2.2.2.reads (B := w.heap.size) (fun b h => h.2.2))
  have HTL := Lib.hid htl
  have hts : 0 < tn := by have h9 := HH.out.2.2.2.2.2.2.2.2.1.2.1 HI.out; rw [← HTL.out]; exact List.length_pos_iff.2 h9
  have htn60 : tn ≤ 60 := by have := HH.out.2.2.2.2.2.2.2.2.1.1; omega
  clear htl
  have htk60 : s.tk.length < 1000 := by obtain ⟨_, _, _, _, _, _, h9⟩ := HH.out.2.2.2.2.2.1; have := HN.out; omega
  have c9 : w0.cell? ⟨g, 9, none⟩ = some (.map (some mb)) := (HH.out.1.1.cell 9).trans rfl
  have hlk := HH.out.1.2.1.lookupN (n := n) (by omega)
  have hlk0 := hlk 0
  have hlk1 := hlk 1
  by_cases hin : (n : Int) ∈ s.tk
  · have HIN := Lib.hid hin
    rw [decide_eq_true hin] at hlk0 hlk1
    simp only [decide_eq_true hin] at hlk
    clear hin
    go_upto_region 4 with fail
    go_quiet (fail)
    have HZ := Lib.hid (show WalkAt (w0.drewN nq) g mb LA ln lc bs s ∧ Mv w (w0.drewN nq) g mb ∧ Blk (w0.drewN nq) (w.heap.size + 1) 36 #[.int .i64 0, .int .i64 0, .int .i64 0] from ⟨HH.out.1.drewN nq, (Mv.of_below HH.out.2.1 : Mv w w0 g mb).trans ⟨rfl, rfl, rfl, Nat.le_refl _, fun _ _ _ _ => rfl⟩, HH.out.2.2.2.1⟩)
    clear hlk hlk0 hlk1 c1 f1 c9 p13 p0
    generalize w0.drewN nq = wz at *
    have hfl := fault_any wz g mb LA ln lc bs s 11 HZ.out.1
    go_wp2_with fail
    refine hfl.mono ?_
    rintro x w8 ⟨rfl, hW8, hM8⟩
    clear hfl
    have hQ8 : Blk w8 (w.heap.size + 1) 36 #[.int .i64 0, .int .i64 0, .int .i64 0] := (hM8.block _ HZ.out.2.2.lt (by omega) (by omega)).trans HZ.out.2.2
    have H8 := Lib.hid (And.intro hW8 (HZ.out.2.1.trans hM8))
    clear hW8 hM8
    go_wp2_with (first
      | (refine wpList_store_box rfl 36 _ _ rfl (w.heap.size + 1) #[.int .i64 4, .int .i64 s.at_, .int .i64 11] rfl rfl 36 #[.int .i64 0, .int .i64 0, .int .i64 0] hQ8 stepInfo rfl (by simp [Value.oneCell']) ?_)
      | fail)
    intro w9 hB9 hg9
    have H9 := Lib.hid hg9
    clear hg9 hQ8
    go_wp2_with fail
    refine bodyPost_ret (results_cell_tmp9 rfl _ _ (w.heap.size + 1) 36 _ (0, 0) _ rfl hB9 Try.underlying36 rfl stepInfo) rfl ?_
    obtain ⟨q1, q2⟩ := lead_fin HH.out.2.2.2.2.1 H8.out.1 H8.out.2 H9.out
    have hle : leadE bs s = 11 := by unfold leadE; rw [← HH.out.2.2.2.2.2.2.1, if_pos HI.out, if_pos (by rw [HH.out.2.2.2.2.2.2.2.1]; exact HIN.out)]
    exact ⟨q2, .inr ⟨by rw [hle]; decide, by rw [hle] <;> rfl, by rw [hle]; exact q1⟩⟩
  · have HIN := Lib.hid hin
    rw [decide_eq_false hin] at hlk0 hlk1
    simp only [decide_eq_false hin] at hlk
    clear hin
    go_upto_region 4 with fail
    go_quiet (fail)
    have HZ0 := Lib.hid (show WalkAt (w0.drewN nq) g mb LA ln lc bs s ∧ Mv w (w0.drewN nq) g mb ∧ Blk (w0.drewN nq) (w.heap.size + 1) 36 #[.int .i64 0, .int .i64 0, .int .i64 0] ∧ Blk (w0.drewN nq) w.heap.size 45 #[.int .i64 35, .int .i64 d.pz, v2, v3, v4, v5, v6, v7, .int .i64 d.ct, v9, v10, v11, v12, .slice TA tn tc, .slice IA d.ns.length ic, v15, v16, v17] ∧ Below w.heap.size w (w0.drewN nq) from ⟨HH.out.1.drewN nq, (Mv.of_below HH.out.2.1 : Mv w w0 g mb).trans ⟨rfl, rfl, rfl, Nat.le_refl _, fun _ _ _ _ => rfl⟩, HH.out.2.2.2.1, HH.out.2.2.1, ⟨HH.out.2.1.os, HH.out.2.1.tape, HH.out.2.1.output, HH.out.2.1.size, HH.out.2.1.block⟩⟩)
    clear hlk hlk0 hlk1 c1 f1 c9 p13 p0
    generalize w0.drewN nq = wz at *
    go_upto_region 6 with fail
    have c1 : wz.drew.cell? ⟨g, 1, none⟩ = some (.int .i64 n) := (HZ0.out.1.1.cell 1).trans (by show some (Value.int .i64 s.at_) = some (Value.int .i64 (n : Int)); rw [HH.out.2.2.2.2.2.2.2.1])
    have c9 : wz.drew.cell? ⟨g, 9, none⟩ = some (.map (some mb)) := (HZ0.out.1.1.cell 9).trans rfl
    refine wp_region_held_drew (S := fun w' => w'.cell? ⟨g, 1, none⟩ = some (.int .i64 n) ∧ w'.cell? ⟨g, 9, none⟩ = some (.map (some mb))) (by kernel_rfl) ?_ (fun hHeld => ?_)
    · exact ⟨c1, c9⟩
    have HZ1 := Lib.hid (show WalkAt wz.drew g mb LA ln lc bs s ∧ Mv w wz.drew g mb ∧ Blk wz.drew (w.heap.size + 1) 36 #[.int .i64 0, .int .i64 0, .int .i64 0] ∧ Blk wz.drew w.heap.size 45 #[.int .i64 35, .int .i64 d.pz, v2, v3, v4, v5, v6, v7, .int .i64 d.ct, v9, v10, v11, v12, .slice TA tn tc, .slice IA d.ns.length ic, v15, v16, v17] ∧ Below w.heap.size w wz.drew from ⟨HZ0.out.1.drewN 1, HZ0.out.2.1.trans ⟨rfl, rfl, rfl, Nat.le_refl _, fun _ _ _ _ => rfl⟩, HZ0.out.2.2.1, HZ0.out.2.2.2.1, HZ0.out.2.2.2.2.drew⟩)
    clear HZ0
    generalize wz.drew = W at *
    obtain ⟨w2, hrun, hT2, hg2⟩ := HZ1.out.1.2.1.update (x := (n : Int)) (wf_small (by omega)) htk60
    obtain ⟨hW2, hM2⟩ := HZ1.out.1.upd hg2 hT2
    have HZ2 := Lib.hid (show WalkAt w2 g mb LA ln lc bs { s with tk := (n : Int) :: s.tk } ∧ Mv w w2 g mb ∧ Blk w2 (w.heap.size + 1) 36 #[.int .i64 0, .int .i64 0, .int .i64 0] ∧ Blk w2 w.heap.size 45 #[.int .i64 35, .int .i64 d.pz, v2, v3, v4, v5, v6, v7, .int .i64 d.ct, v9, v10, v11, v12, .slice TA tn tc, .slice IA d.ns.length ic, v15, v16, v17] ∧ (∀ b, b < w.heap.size → b ≠ mb → w2.heap[b]? = w.heap[b]?) from ⟨hW2, HZ1.out.2.1.trans hM2, HZ1.out.2.2.1.grown hg2 (fun e => by injection e with e; omega), HZ1.out.2.2.2.1.grown hg2 (fun e => by injection e with e; omega), fun b hb h9 => (hg2.block b (by have := HZ1.out.2.2.2.2.size; omega) (fun e => by injection e with e; exact h9 e)).trans (HZ1.out.2.2.2.2.block b hb)⟩)
    have s1 : w2.cell? ⟨g, 1, none⟩ = some (.int .i64 n) := (hW2.1.cell 1).trans (by show some (Value.int .i64 s.at_) = some (Value.int .i64 (n : Int)); rw [HH.out.2.2.2.2.2.2.2.1])
    have s9 : w2.cell? ⟨g, 9, none⟩ = some (.map (some mb)) := (hW2.1.cell 9).trans rfl
    clear hT2 hg2 hW2 hM2
    refine wpAnyH_take (i := 0) (oi := _) (v := ?_) (by simp only [List.getElem?_toArray, List.getElem?_cons_succ, List.getElem?_cons_zero]; rfl) (by kernel_rfl) (by kernel_rfl) (by kernel_rfl) (by intro _ _ _ h; exact h) (Or.inl ⟨by rfl, ?_⟩) (by assumption) ?_
    rotate_left
    · intro w hSw
      try dsimp only at hSw
      obtain ⟨sa, sb⟩ := hSw
      go_simp
      try with_reducible rfl
    try simp only [Act.put, List.setIfInBounds_toArray, List.set_cons_zero, List.set_cons_succ]
    refine wpAnyH_take (i := 1) (oi := _) (v := ?_) (by simp only [List.getElem?_toArray, List.getElem?_cons_succ, List.getElem?_cons_zero]; rfl) (by kernel_rfl) (by kernel_rfl) (by kernel_rfl) (by intro _ _ _ h; exact h) (Or.inl ⟨by rfl, ?_⟩) (by assumption) ?_
    rotate_left
    · intro w hSw
      try dsimp only at hSw
      obtain ⟨sa, sb⟩ := hSw
      go_simp
      try with_reducible rfl
    try simp only [Act.put, List.setIfInBounds_toArray, List.set_cons_zero, List.set_cons_succ]
    refine wpAnyH_take (i := 2) (oi := _) (v := ?_) (by simp only [List.getElem?_toArray, List.getElem?_cons_succ, List.getElem?_cons_zero]; rfl) (by kernel_rfl) (by kernel_rfl) (by kernel_rfl) (by intro _ _ _ h; exact h) (Or.inl ⟨by rfl, ?_⟩) (by assumption) ?_
    rotate_left
    · intro w hSw
      try dsimp only at hSw
      obtain ⟨sa, sb⟩ := hSw
      go_simp
      try with_reducible rfl
    try simp only [Act.put, List.setIfInBounds_toArray, List.set_cons_zero, List.set_cons_succ]
    refine wpAnyH_take (i := 3) (oi := _) (v := ?_) (by simp only [List.getElem?_toArray, List.getElem?_cons_succ, List.getElem?_cons_zero]; rfl) (by kernel_rfl) (by kernel_rfl) (by kernel_rfl) (by intro _ _ _ h; exact h) (Or.inl ⟨by rfl, ?_⟩) (by assumption) ?_
    rotate_left
    · intro w hSw
      try dsimp only at hSw
      obtain ⟨sa, sb⟩ := hSw
      go_simp
      try with_reducible rfl
    try simp only [Act.put, List.setIfInBounds_toArray, List.set_cons_zero, List.set_cons_succ]
    refine wpAnyH_take (i := 4) (oi := _) (v := ?_) (by simp only [List.getElem?_toArray, List.getElem?_cons_succ, List.getElem?_cons_zero]; rfl) (by kernel_rfl) (by kernel_rfl) (by kernel_rfl) (by intro _ _ _ h; exact h) (Or.inl ⟨by rfl, ?_⟩) (by assumption) ?_
    rotate_left
    · intro w hSw
      try dsimp only at hSw
      obtain ⟨sa, sb⟩ := hSw
      go_simp
      try with_reducible rfl
    try simp only [Act.put, List.setIfInBounds_toArray, List.set_cons_zero, List.set_cons_succ]
    refine wpAnyH_take (i := 5) (oi := _) (v := ?_) (by simp only [List.getElem?_toArray, List.getElem?_cons_succ, List.getElem?_cons_zero]; rfl) (by kernel_rfl) (by kernel_rfl) (by kernel_rfl) (by intro _ _ _ h; exact h) (Or.inl ⟨by rfl, ?_⟩) (by assumption) ?_
    rotate_left
    · intro w hSw
      try dsimp only at hSw
      obtain ⟨sa, sb⟩ := hSw
      go_simp
      try with_reducible rfl
    try simp only [Act.put, List.setIfInBounds_toArray, List.set_cons_zero, List.set_cons_succ]
    refine wpAnyH_take (i := 6) (oi := _) (v := ?_) (by simp only [List.getElem?_toArray, List.getElem?_cons_succ, List.getElem?_cons_zero]; rfl) (by kernel_rfl) (by kernel_rfl) (by kernel_rfl) (by intro _ _ _ h; exact h) (Or.inl ⟨by rfl, ?_⟩) (by assumption) ?_
    rotate_left
    · intro w hSw
      try dsimp only at hSw
      obtain ⟨sa, sb⟩ := hSw
      go_simp
      try with_reducible rfl
    try simp only [Act.put, List.setIfInBounds_toArray, List.set_cons_zero, List.set_cons_succ]
    refine wpAnyH_take (i := 7) (oi := _) (v := ?_) (by simp only [List.getElem?_toArray, List.getElem?_cons_succ, List.getElem?_cons_zero]; rfl) (by kernel_rfl) (by kernel_rfl) (by kernel_rfl) (by intro _ _ _ h; exact h) (Or.inl ⟨by rfl, ?_⟩) (by assumption) ?_
    rotate_left
    · intro w hSw
      try dsimp only at hSw
      obtain ⟨sa, sb⟩ := hSw
      go_simp
      try with_reducible rfl
    try simp only [Act.put, List.setIfInBounds_toArray, List.set_cons_zero, List.set_cons_succ]
    refine wpAnyH_ready (rs := [8]) (by kernel_rfl) (by simp) ?_
    refine AllReadyH.cons (o := _) (by simp only [List.getElem?_toArray, List.getElem?_cons_succ, List.getElem?_cons_zero]; rfl) (fun K hK => ?_) AllReadyH.nil
    go_simp
    refine hK.out _ _ ?_ (fun hHeld => ?_)
    · exact ⟨s1, s9⟩
    clear hK K
    try simp only [Act.put, List.setIfInBounds_toArray, List.set_cons_zero, List.set_cons_succ]
    refine wpAnyH_done (by kernel_rfl) ?_ _
    clear hrun c1 c9 s9
    obtain ⟨tad, rfl, htb, hx⟩ := i32_at (HH.out.2.2.2.2.2.2.2.2.2.reads (B := w.heap.size) (fun b h => h.2.2)) hts
    have hgt : tad.block ≠ mb := by
      obtain ⟨t9, e9, hp9, _⟩ := HH.out.2.2.2.2.2.2.2.2.2.2 (by omega)
      injection e9 with e9
      subst e9
      exact hp9.2.1
    have hx0 := HH.out.2.2.2.2.2.2.2.2.1.2.2.1 (.inl HI.out) (d.ts.getD 0 0) (getD_mem (by rw [HTL.out]; exact hts))
    obtain ⟨x, hxd⟩ : ∃ x : Int, x = d.ts.getD 0 0 := ⟨_, rfl⟩
    rw [← hxd] at hx hx0
    have HXD := Lib.hid hxd
    clear hxd
    rw [show tad.add 0 = tad from rfl] at hx
    have hxw : w2.cell? tad = some (.int .i64 x) := (World.cell?_of_block (a := tad) (HZ2.out.2.2.2.2 tad.block htb hgt)).trans hx
    have hwx : IntKind.i64.wrap ((n : Int) + x) = (n : Int) + x := by rw [IntKind.wrap_i64]; have := HN.out; omega
    have q2 : w2.cell? ⟨w.heap.size, 13, none⟩ = some (.slice (some tad) tn tc) := (HZ2.out.2.2.2.1.cell 13).trans rfl
    have hti : (0 : Int) < (tn : Int) := by omega
    go_upto_region 7 with fail
    go_quiet (fail)
    have HZ := Lib.hid (show WalkAt (w2.drewN nq) g mb LA ln lc bs { s with tk := (n : Int) :: s.tk } ∧ Mv w (w2.drewN nq) g mb ∧ Blk (w2.drewN nq) (w.heap.size + 1) 36 #[.int .i64 0, .int .i64 0, .int .i64 0] from ⟨HZ2.out.1.drewN nq, HZ2.out.2.1.trans ⟨rfl, rfl, rfl, Nat.le_refl _, fun _ _ _ _ => rfl⟩, HZ2.out.2.2.1⟩)
    clear HZ2 q2 hxw hx s1
    generalize w2.drewN nq = wz2 at *
    have hwz := HZ.out.1.1.lt
    have d1 : wz2.cell? ⟨g, 1, none⟩ = some (.int .i64 n) := (HZ.out.1.1.cell 1).trans (by show some (Value.int .i64 s.at_) = some (Value.int .i64 (n : Int)); rw [HH.out.2.2.2.2.2.2.2.1])
    have e1 : wz2.frozen? ⟨g, 1, none⟩ = false := HZ.out.1.1.frozen 1
    go_upto_region 29 with fail
    have HY := Lib.hid (show WalkAt (wz2.setCell ⟨g, 1, none⟩ (.int .i64 ((n : Int) + x))) g mb LA ln lc bs { s with tk := (n : Int) :: s.tk, at_ := (n : Int) + x } ∧ Mv w (wz2.setCell ⟨g, 1, none⟩ (.int .i64 ((n : Int) + x))) g mb ∧ Blk (wz2.setCell ⟨g, 1, none⟩ (.int .i64 ((n : Int) + x))) (w.heap.size + 1) 36 #[.int .i64 0, .int .i64 0, .int .i64 0] from ⟨HZ.out.1.set_ _ rfl rfl, HZ.out.2.1.set_ _, HZ.out.2.2.far (by show w.heap.size + 1 ≠ g; omega) _⟩)
    clear d1 e1
    generalize wz2.setCell ⟨g, 1, none⟩ (.int .i64 ((n : Int) + x)) = wy at *
    have hQy := HY.out.2.2
    go_wp2_with (first
      | (refine wpList_store_box rfl 36 _ _ rfl (w.heap.size + 1) #[.int .i64 0, .int .i64 0, .int .i64 0] rfl rfl 36 #[.int .i64 0, .int .i64 0, .int .i64 0] hQy stepInfo rfl (by simp [Value.oneCell']) ?_)
      | fail)
    intro w9 hB9 hg9
    have H9 := Lib.hid hg9
    clear hg9 hQy
    go_wp2_with fail
    refine bodyPost_ret (results_cell_tmp9 rfl _ _ (w.heap.size + 1) 36 _ (0, 0) _ rfl hB9 Try.underlying36 rfl stepInfo) rfl ?_
    obtain ⟨q1, q2⟩ := lead_fin HH.out.2.2.2.2.1 HY.out.1 HY.out.2.1 H9.out
    refine ⟨q2, .inl ⟨by unfold leadE; rw [← HH.out.2.2.2.2.2.2.1, if_pos HI.out, if_neg (by rw [HH.out.2.2.2.2.2.2.2.1]; exact HIN.out)], rfl, ?_⟩⟩
    rw [show leadS bs s = { s with tk := (n : Int) :: s.tk, at_ := (n : Int) + x } from by unfold leadS; rw [← HH.out.2.2.2.2.2.2.1, if_pos HI.out, ← HXD.out, HH.out.2.2.2.2.2.2.2.1]]
    exact q1
end Go.Proofs.Ytnmapncgnceldaa
