/- Part 3 of the proof: lemmas on what the program computes; no condition. -/
import Derived.Deep.QuietTactic
import Derived.BigQuiet
import Derived.Deep.LoopGhost
import Derived.Deep.RegionHeld3
import Derived.Deep.CutRange
import Derived.Deep.AppendLies
import Derived.StillTailTactics
import Derived.BigRegion
import Derived.Test.YtnlaedfnifimkaaGreatJ2
import Derived.Test.YtnlaedfnifimkaaGreatJ1
set_option linter.unusedVariables false
set_option linter.unusedSimpArgs false
set_option linter.unusedSectionVars false
namespace Go.Proofs.YtnlaedfnifimkaaGreat
open Go.RowKit
theorem nextW_enough {bs : List WB} (hf : Fine bs) {f : Nat} : ∀ {k : Nat} {s : WS}, s.ok bs → roundsN bs s < f → roundsN bs s < k → nextW bs f s = nextW bs k s := by
  induction f with
  | zero => intro k s _ h; exact absurd h (Nat.not_lt_zero _)
  | succ f ih =>
    intro k s hs h1 h2
    cases k with
    | zero => exact absurd h2 (Nat.not_lt_zero _)
    | succ k =>
      rw [nextW, nextW]
      by_cases hlt : s.at_ < bs.length
      · rw [if_pos hlt, if_pos hlt]
        by_cases ht : toldK (atB bs s.at_) = 3
        · rw [if_pos ht, if_pos ht]
          by_cases he : leadE bs s = 0
          · rw [if_pos he, if_pos he]
            obtain ⟨ho, hr⟩ := lead_ok hf hs hlt he
            exact ih ho (Nat.lt_of_lt_of_le hr (Nat.le_of_lt_succ h1)) (Nat.lt_of_lt_of_le hr (Nat.le_of_lt_succ h2))
          · rw [if_neg he, if_neg he]
        · rw [if_neg ht, if_neg ht]
      · rw [if_neg hlt, if_neg hlt]
def nextS (bs : List WB) (s : WS) : Tell × WS := if s.ov = true then (⟨s.lk, s.lb, s.le⟩, s) else nextW bs (roundsN bs s + 1) s
theorem alloc_of {w : World} {a : Addr} {o : Obj} {v : Value} (h : w.cell? a = some v) : (w.alloc o).cell? a = some v := by rw [World.cell?_alloc_some _ _ _ (by simp [h])]; exact h
theorem cells_mv {w w' : World} {g mb m : Nat} {ad : Addr} {l : List Value} (h : ∀ jj vv, l[jj]? = some vv → w.cell? ((ad.add m).add jj) = some vv) (hM : Mv w w' g mb) (hab : ad.block ≠ g ∧ ad.block ≠ mb ∧ ad.block < w.heap.size) : ∀ jj vv, l[jj]? = some vv → w'.cell? ((ad.add m).add jj) = some vv :=
  fun jj vv hjj => by
    have hb : ((ad.add m).add jj).block = ad.block := by unfold Addr.add; split <;> split <;> rfl
    exact (World.cell?_of_block (a := (ad.add m).add jj) (show w'.heap[((ad.add m).add jj).block]? = w.heap[((ad.add m).add jj).block]? by rw [hb]; exact hM.block ad.block hab.2.2 hab.1 hab.2.1)).trans (h jj vv hjj)
theorem here_step {w w' : World} {x : Ending} {g mb : Nat} {LA : Option Addr} {ln lc : Nat} {bs : List WB} {s : WS} (h : HereO w w' x g mb LA ln lc bs s) (hlt : s.at_ < bs.length) :
    ∃ (k b e : Int) (okb : Bool) (s' : WS), x = .returned (.tuple #[.agg #[.int .i64 k, .int .i64 b, .int .i64 e], .bool okb]) ∧ WalkAt w' g mb LA ln lc bs s' ∧ Mv w w' g mb ∧
      ((okb = false ∧ s' = leadS bs s ∧ leadE bs s = 0 ∧ ∀ f, nextW bs (f + 1) s = nextW bs f s') ∨ (okb = true ∧ ∀ f, nextW bs (f + 1) s = (⟨k, b, e⟩, s'))) := by
  obtain ⟨hM, ⟨h3, he, rfl, hW⟩ | ⟨h3, he, rfl, hW⟩ | ⟨h3, rfl, hW⟩⟩ := h
  · exact ⟨_, _, _, _, _, rfl, hW, hM, .inl ⟨rfl, rfl, he, fun f => by rw [nextW, if_pos hlt, if_pos h3, if_pos he]⟩⟩
  · exact ⟨_, _, _, _, _, rfl, hW, hM, .inr ⟨rfl, fun f => by rw [nextW, if_pos hlt, if_pos h3, if_neg he]⟩⟩
  · exact ⟨_, _, _, _, _, rfl, hW, hM, .inr ⟨rfl, fun f => by rw [nextW, if_pos hlt, if_neg h3]⟩⟩
theorem nextW_ok {bs : List WB} (hf : Fine bs) : ∀ {f : Nat} {s : WS}, s.ok bs → (nextW bs f s).2.ok bs
  | 0, _, h => h
  | f + 1, s, h => by
    unfold nextW
    split
    · rename_i hlt
      split
      · split
        · rename_i he
          exact nextW_ok hf (lead_ok hf h hlt he).1
        · exact h
      · obtain ⟨a0, a1, r⟩ := h
        exact ⟨by show 0 ≤ s.at_ + 1; omega, by show s.at_ + 1 ≤ _; omega, r⟩
    · exact h
theorem nextS_ok {bs : List WB} {s : WS} (hf : Fine bs) (h : s.ok bs) : (nextS bs s).2.ok bs := by
  unfold nextS
  split
  · exact h
  · exact nextW_ok hf h
def stepV (t : Tell) : Value := .agg #[.int .i64 t.k, .int .i64 t.b, .int .i64 t.e]
set_option maxRecDepth 100000 in
set_option maxHeartbeats 8000000 in
theorem next_any (w : World) (g mb : Nat) (LA : Option Addr) (ln lc : Nat) (bs : List WB) (s : WS) (h : WalkAt w g mb LA ln lc bs s) (hok : s.ok bs) (hf : Fine bs) :
    Calls Tryz.prog 152 #[.pointer (some ⟨g, 0, none⟩)] w fun x w' => x = .returned (stepV (nextS bs s).1) ∧ WalkAt w' g mb LA ln lc bs (nextS bs s).2 ∧ Mv w w' g mb := by
  have hln := h.2.2.len
  have hl60 : ln ≤ 300 := by have := hf.1; omega
  have hgl := h.1.lt
  have hml := h.2.1.lt
  have hne := h.2.1.ne h.1
  have hb1 : Below w.heap.size w (w.alloc (.cells #[.int .i64 0, .int .i64 0, .int .i64 0] 215)) := (Below.refl _ _).alloc (Nat.le_refl _) _
  have HH := Lib.hid (And.intro (h.below hb1) (And.intro hb1 (And.intro (Blk.new w 215 #[.int .i64 0, .int .i64 0, .int .i64 0]) (And.intro h (And.intro hok hf)))))
  have HN := Lib.hid hln
  clear h hb1 hok hf hln
  go_enter Tryz.func152, Tryz.ntmps152
  go_upto_region 1 with fail
  generalize w.alloc (.cells #[.int .i64 0, .int .i64 0, .int .i64 0] 215) = w0 at *
  have hws := Lib.hid HH.out.2.1.size
  have c13 : w0.cell? ⟨g, 13, none⟩ = some (.bool s.ov) := (HH.out.1.1.cell 13).trans rfl
  cases hov : s.ov with
  | true =>
    rw [hov] at c13
    have HOV := Lib.hid hov
    clear hov
    have hL : ∀ jj vv, ([.int .i64 s.lk, .int .i64 s.lb, .int .i64 s.le] : List Value)[jj]? = some vv → w0.cell? ((⟨g, 10, none⟩ : Addr).add jj) = some vv := by
      intro jj vv hjj
      rcases jj with _ | _ | _ | jj
      · cases hjj; exact (HH.out.1.1.cell 10).trans rfl
      · cases hjj; exact (HH.out.1.1.cell 11).trans rfl
      · cases hjj; exact (HH.out.1.1.cell 12).trans rfl
      · simp at hjj
    have X0 := Lib.hid hL
    have hQ := HH.out.2.2.1
    clear hL
    go_wp2_with (first
      | (refine wpList_load_at rfl 215 _ rfl ⟨g, 10, none⟩ rfl [.int .i64 s.lk, .int .i64 s.lb, .int .i64 s.le] X0.out _ Tryz.underlying215 rfl stepInfo ?_)
      | (refine wpList_store_box rfl 215 _ _ rfl (w.heap.size) #[.int .i64 s.lk, .int .i64 s.lb, .int .i64 s.le] rfl rfl 215 #[.int .i64 0, .int .i64 0, .int .i64 0] hQ stepInfo rfl (by simp [Value.oneCell']) ?_)
      | fail)
    intro w9 hB9 hg9
    have H9 := Lib.hid hg9
    clear hg9 hQ
    go_wp2_with fail
    refine bodyPost_ret (results_cell_row rfl _ _ w.heap.size 215 _ (0, 0) _ rfl hB9 Tryz.underlying215 rfl stepInfo) rfl ?_
    obtain ⟨q1, q2⟩ := HH.out.2.2.2.1.out HH.out.1 (Mv.of_below HH.out.2.1) H9.out (Nat.le_refl _)
    have hS : nextS bs s = (⟨s.lk, s.lb, s.le⟩, s) := if_pos HOV.out
    rw [hS]
    exact ⟨rfl, q1, q2⟩
  | false =>
    rw [hov] at c13
    have hS : nextS bs s = nextW bs (roundsN bs s + 1) s := if_neg (by rw [hov]; decide)
    have HS := Lib.hid hS
    clear hov hS
    go_wp2_with fail
    have HST := Lib.hid (show ∃ r : WS, r.ok bs ∧ WalkAt w0 g mb LA ln lc bs r ∧ Mv w w0 g mb ∧ nextS bs s = nextW bs (roundsN bs r + 1) r ∧ Blk w0 w.heap.size 215 #[.int .i64 0, .int .i64 0, .int .i64 0] ∧ roundsN bs s = roundsN bs r from ⟨s, HH.out.2.2.2.2.1, HH.out.1, Mv.of_below HH.out.2.1, HS.out, HH.out.2.2.1, rfl⟩)
    clear c13
    go_loopg [] (roundsN bs s) (fun k wr => ∃ r : WS, r.ok bs ∧ WalkAt wr g mb LA ln lc bs r ∧ Mv w wr g mb ∧ nextS bs s = nextW bs (roundsN bs r + 1) r ∧ Blk wr w.heap.size 215 #[.int .i64 0, .int .i64 0, .int .i64 0] ∧ k = roundsN bs r)
    case atStart => exact HST.out
    case round =>
      obtain ⟨r, hrk, hW, hM, hnx, hQ, rfl⟩ := hrel
      obtain ⟨n, hn⟩ : ∃ n : Nat, r.at_ = (n : Int) := ⟨r.at_.toNat, by have := hrk.1; omega⟩
      have hn0 : (0 : Int) ≤ (n : Int) := Int.natCast_nonneg _
      have c0 : wr.cell? ⟨g, 0, none⟩ = some (.slice LA ln lc) := (hW.1.cell 0).trans rfl
      have c1 : wr.cell? ⟨g, 1, none⟩ = some (.int .i64 n) := by rw [← hn]; exact (hW.1.cell 1).trans rfl
      by_cases hlt : n < ln
      · have hltI : (n : Int) < (ln : Int) := by omega
        obtain ⟨ad, rfl, hab, cs, hWB, hc18⟩ := hW.2.2.at_ (i := n) hlt
        obtain ⟨d, hd⟩ : ∃ d, d = bs.getD n default := ⟨_, rfl⟩
        rw [← hd] at hWB
        obtain ⟨v2, v3, v4, v5, v6, v7, v9, v10, v11, v12, TA, tn, tc, IA, ic, v15, v16, v17, rfl, h1c, hTs, hIs⟩ := hWB
        have X0 := Lib.hid (show ∀ jj vv, ([.int .i64 d.id, .int .i64 d.pz, v2, v3, v4, v5, v6, v7, .int .i64 d.ct, v9, v10, v11, v12, .slice TA tn tc, .slice IA d.ns.length ic, v15, v16, v17] : List Value)[jj]? = some vv → wr.cell? ((ad.add (n * 18)).add jj) = some vv from hc18)
        have X1 := Lib.hid (show (#[.int .i64 d.id, .int .i64 d.pz, v2, v3, v4, v5, v6, v7, .int .i64 d.ct, v9, v10, v11, v12, .slice TA tn tc, .slice IA d.ns.length ic, v15, v16, v17] : Array Value).all (·.oneCell') = true from all_one h1c)
        have HD := Lib.hid (And.intro hd (And.intro hTs hIs))
        clear hc18 h1c hd hTs hIs
        have HR := Lib.hid (And.intro hrk (And.intro hW (And.intro hM (And.intro hnx (And.intro hQ hn)))))
        clear hrk hW hM hnx hQ hn
        go_upto_region 5 with fail
        go_quiet (fail)
        go_upto_region 6 with fail
        refine wp_region_held_drew (S := fun w' => w'.cell? ⟨g, 0, none⟩ = some (.slice (some ad) ln lc) ∧ (∀ jj vv, ([.int .i64 d.id, .int .i64 d.pz, v2, v3, v4, v5, v6, v7, .int .i64 d.ct, v9, v10, v11, v12, .slice TA tn tc, .slice IA d.ns.length ic, v15, v16, v17] : List Value)[jj]? = some vv → w'.cell? ((ad.add (n * 18)).add jj) = some vv)) (by kernel_rfl) ?_ (fun hHeld => ?_)
        · exact ⟨c0, X0.out⟩
        have HW := Lib.hid (show WalkAt (wr.drewN nq).drew g mb (some ad) ln lc bs r ∧ Mv w (wr.drewN nq).drew g mb ∧ Blk (wr.drewN nq).drew w.heap.size 215 #[.int .i64 0, .int .i64 0, .int .i64 0] ∧ RdP (wr.drewN nq).drew (fun b => b ≠ g ∧ b ≠ mb ∧ b < (wr.drewN nq).drew.heap.size) 1 TA tn (d.ts.map (Value.int .i64)) ∧ (∀ jj vv, ([.int .i64 d.id, .int .i64 d.pz, v2, v3, v4, v5, v6, v7, .int .i64 d.ct, v9, v10, v11, v12, .slice TA tn tc, .slice IA d.ns.length ic, v15, v16, v17] : List Value)[jj]? = some vv → (wr.drewN nq).drew.cell? ((ad.add (n * 18)).add jj) = some vv) ∧ (ad.block ≠ g ∧ ad.block ≠ mb ∧ ad.block < (wr.drewN nq).drew.heap.size) from ⟨HR.out.2.1.drewN (nq + 1), HR.out.2.2.1.trans ⟨rfl, rfl, rfl, Nat.le_refl _, fun _ _ _ _ => rfl⟩, HR.out.2.2.2.2.1, HD.out.2.1.keep (fun b hp => rfl) (fun b hp => hp), X0.out, hab⟩)
        have c1w : (wr.drewN nq).drew.cell? ⟨g, 1, none⟩ = some (.int .i64 n) := c1
        clear c0 c1 X0 hab
        generalize (wr.drewN nq).drew = W at *
        refine wpAnyH_take (i := 0) (oi := _) (v := ?_) (by simp only [List.getElem?_toArray, List.getElem?_cons_succ, List.getElem?_cons_zero]; rfl) (by kernel_rfl) (by kernel_rfl) (by kernel_rfl) (by intro _ _ _ h; exact h) (Or.inl ⟨by rfl, ?_⟩) (by assumption) ?_
        rotate_left
        · intro w hSw
          try dsimp only at hSw
          obtain ⟨sa, sb⟩ := hSw
          go_simp
          try with_reducible rfl
        try simp only [Act.put, List.setIfInBounds_toArray, List.set_cons_zero, List.set_cons_succ]
        refine wpAnyH_take (i := 1) (oi := _) (v := ?_) (by simp only [List.getElem?_toArray, List.getElem?_cons_succ, List.getElem?_cons_zero]; rfl) (by kernel_rfl) (by kernel_rfl) (by kernel_rfl) (by intro _ _ _ h; exact h) (Or.inl ⟨by rfl, ?_⟩) (by assumption) ?_
        rotate_left
        · intro w hSw
          try dsimp only at hSw
          obtain ⟨sa, sb⟩ := hSw
          go_simp
          try with_reducible rfl
        try simp only [Act.put, List.setIfInBounds_toArray, List.set_cons_zero, List.set_cons_succ]
        refine wpAnyH_take (i := 2) (oi := _) (v := ?_) (by simp only [List.getElem?_toArray, List.getElem?_cons_succ, List.getElem?_cons_zero]; rfl) (by kernel_rfl) (by kernel_rfl) (by kernel_rfl) (by intro _ _ _ h; exact h) (Or.inl ⟨by rfl, ?_⟩) (by assumption) ?_
        rotate_left
        · intro w hSw
          try dsimp only at hSw
          obtain ⟨sa, sb⟩ := hSw
          go_simp
          try with_reducible rfl
        try simp only [Act.put, List.setIfInBounds_toArray, List.set_cons_zero, List.set_cons_succ]
        refine wpAnyH_take (i := 3) (oi := _) (v := ?_) (by simp only [List.getElem?_toArray, List.getElem?_cons_succ, List.getElem?_cons_zero]; rfl) (by kernel_rfl) (by kernel_rfl) (by kernel_rfl) (by intro _ _ _ h; exact h) (Or.inl ⟨by rfl, ?_⟩) (by assumption) ?_
        rotate_left
        · intro w hSw
          try dsimp only at hSw
          obtain ⟨sa, sb⟩ := hSw
          go_simp
          try with_reducible rfl
        try simp only [Act.put, List.setIfInBounds_toArray, List.set_cons_zero, List.set_cons_succ]
        refine wpAnyH_take (i := 4) (oi := _) (v := ?_) (by simp only [List.getElem?_toArray, List.getElem?_cons_succ, List.getElem?_cons_zero]; rfl) (by kernel_rfl) (by kernel_rfl) (by kernel_rfl) (by intro _ _ _ h; exact h) (Or.inl ⟨by rfl, ?_⟩) (by assumption) ?_
        rotate_left
        · intro w hSw
          try dsimp only at hSw
          obtain ⟨sa, sb⟩ := hSw
          go_simp
          try with_reducible rfl
        try simp only [Act.put, List.setIfInBounds_toArray, List.set_cons_zero, List.set_cons_succ]
        refine wpAnyH_take (i := 5) (oi := _) (v := ?_) (by simp only [List.getElem?_toArray, List.getElem?_cons_succ, List.getElem?_cons_zero]; rfl) (by kernel_rfl) (by kernel_rfl) (by kernel_rfl) (by intro _ _ _ h; exact h) (Or.inl ⟨by rfl, ?_⟩) (by assumption) ?_
        rotate_left
        · intro w hSw
          try dsimp only at hSw
          obtain ⟨sa, sb⟩ := hSw
          go_simp
          try with_reducible rfl
        try simp only [Act.put, List.setIfInBounds_toArray, List.set_cons_zero, List.set_cons_succ]
        refine wpAnyH_take (i := 6) (oi := _) (v := ?_) (by simp only [List.getElem?_toArray, List.getElem?_cons_succ, List.getElem?_cons_zero]; rfl) (by kernel_rfl) (by kernel_rfl) (by kernel_rfl) (by intro _ _ _ h; exact h) (Or.inl ⟨by rfl, ?_⟩) (by assumption) ?_
        rotate_left
        · intro w hSw
          try dsimp only at hSw
          obtain ⟨sa, sb⟩ := hSw
          go_simp
          try with_reducible rfl
        try simp only [Act.put, List.setIfInBounds_toArray, List.set_cons_zero, List.set_cons_succ]
        refine wpAnyH_take (i := 7) (oi := _) (v := ?_) (by simp only [List.getElem?_toArray, List.getElem?_cons_succ, List.getElem?_cons_zero]; rfl) (by kernel_rfl) (by kernel_rfl) (by kernel_rfl) (by intro _ _ _ h; exact h) (Or.inl ⟨by rfl, ?_⟩) (by assumption) ?_
        rotate_left
        · intro w hSw
          try dsimp only at hSw
          obtain ⟨sa, sb⟩ := hSw
          go_simp
          try with_reducible rfl
        try simp only [Act.put, List.setIfInBounds_toArray, List.set_cons_zero, List.set_cons_succ]
        refine wpAnyH_ready (rs := [8, 15]) (by kernel_rfl) (by simp) ?_
        refine AllReadyH.cons (o := _) (by simp only [List.getElem?_toArray, List.getElem?_cons_succ, List.getElem?_cons_zero]; rfl) (fun K hK => ?_) (AllReadyH.cons (o := _) (by simp only [List.getElem?_toArray, List.getElem?_cons_succ, List.getElem?_cons_zero]; rfl) (fun K hK => ?_) AllReadyH.nil)
        · go_simp
          refine hK.out _ _ ?_ (fun hHeld => ?_)
          · exact ⟨(HW.out.1.1.cell 0).trans rfl, HW.out.2.2.2.2.1⟩
          clear hK K
          try simp only [Act.put, List.setIfInBounds_toArray, List.set_cons_zero, List.set_cons_succ]
          refine wpAnyH_take (i := 9) (oi := _) (v := ?_) (by simp only [List.getElem?_toArray, List.getElem?_cons_succ, List.getElem?_cons_zero]; rfl) (by kernel_rfl) (by kernel_rfl) (by kernel_rfl) (by intro _ _ _ h; exact h) (Or.inl ⟨by rfl, ?_⟩) (by assumption) ?_
          rotate_left
          · intro w hSw
            try dsimp only at hSw
            obtain ⟨sa, sb⟩ := hSw
            go_simp
            try with_reducible rfl
          try simp only [Act.put, List.setIfInBounds_toArray, List.set_cons_zero, List.set_cons_succ]
          refine wpAnyH_take (i := 10) (oi := _) (v := ?_) (by simp only [List.getElem?_toArray, List.getElem?_cons_succ, List.getElem?_cons_zero]; rfl) (by kernel_rfl) (by kernel_rfl) (by kernel_rfl) (by intro _ _ _ h; exact h) (Or.inl ⟨by rfl, ?_⟩) (by assumption) ?_
          rotate_left
          · intro w hSw
            refine run_load_at (P := Tryz.prog) 34 (.tmp 36) ?_ (ad.add (n * 18)) ?_ [.int .i64 d.id, .int .i64 d.pz, v2, v3, v4, v5, v6, v7, .int .i64 d.ct, v9, v10, v11, v12, .slice TA tn tc, .slice IA d.ns.length ic, v15, v16, v17] hSw.2 _ Tryz.underlying34 rfl blkInfo
            · rfl
            · rfl
          try simp only [Act.put, List.setIfInBounds_toArray, List.set_cons_zero, List.set_cons_succ]
          refine wpAnyH_ready (rs := [11, 15]) (by kernel_rfl) (by simp) ?_
          refine AllReadyH.cons (o := _) (by simp only [List.getElem?_toArray, List.getElem?_cons_succ, List.getElem?_cons_zero]; rfl) (fun K hK => ?_) (AllReadyH.cons (o := _) (by simp only [List.getElem?_toArray, List.getElem?_cons_succ, List.getElem?_cons_zero]; rfl) (fun K hK => ?_) AllReadyH.nil)
          · go_simp
            go_wp2_with fail
            have hhe := here_any W g mb (some ad) ln lc bs r d v2 v3 v4 v5 v6 v7 v9 v10 v11 v12 TA tn tc IA ic v15 v16 v17 HW.out.1 HR.out.1 HH.out.2.2.2.2.2 HN.out (by rw [HR.out.2.2.2.2.2]; exact hltI) (by rw [HD.out.1, HR.out.2.2.2.2.2]; rfl) HW.out.2.2.2.1
            refine hhe.mono ?_
            intro x w2 hHO
            clear hhe
            obtain ⟨k9, b9, e9, okb, s9, rfl, hW2, hM2, hst⟩ := here_step hHO (by rw [HR.out.2.2.2.2.2, HN.out]; exact hltI)
            have H2 := Lib.hid (show WalkAt w2 g mb (some ad) ln lc bs s9 ∧ Mv W w2 g mb ∧ ((okb = false ∧ s9 = leadS bs r ∧ leadE bs r = 0 ∧ ∀ f, nextW bs (f + 1) r = nextW bs f s9) ∨ (okb = true ∧ ∀ f, nextW bs (f + 1) r = (⟨k9, b9, e9⟩, s9))) ∧ (∀ jj vv, ([.int .i64 d.id, .int .i64 d.pz, v2, v3, v4, v5, v6, v7, .int .i64 d.ct, v9, v10, v11, v12, .slice TA tn tc, .slice IA d.ns.length ic, v15, v16, v17] : List Value)[jj]? = some vv → w2.cell? ((ad.add (n * 18)).add jj) = some vv) from ⟨hW2, hM2, hst, cells_mv HW.out.2.2.2.2.1 hM2 HW.out.2.2.2.2.2⟩)
            clear hHO hW2 hM2 hst
            refine hK.out _ _ ?_ (fun hHeld => ?_)
            · exact ⟨(H2.out.1.1.cell 0).trans rfl, H2.out.2.2.2⟩
            clear hK K
            try simp only [Act.put, List.setIfInBounds_toArray, List.set_cons_zero, List.set_cons_succ]
            refine wpAnyH_take (i := 12) (oi := _) (v := ?_) (by simp only [List.getElem?_toArray, List.getElem?_cons_succ, List.getElem?_cons_zero]; rfl) (by kernel_rfl) (by kernel_rfl) (by kernel_rfl) (by intro _ _ _ h; exact h) (Or.inl ⟨by rfl, ?_⟩) (by assumption) ?_
            rotate_left
            · intro w hSw
              try dsimp only at hSw
              go_simp
              try with_reducible rfl
            try simp only [Act.put, List.setIfInBounds_toArray, List.set_cons_zero, List.set_cons_succ]
            refine wpAnyH_take (i := 13) (oi := _) (v := ?_) (by simp only [List.getElem?_toArray, List.getElem?_cons_succ, List.getElem?_cons_zero]; rfl) (by kernel_rfl) (by kernel_rfl) (by kernel_rfl) (by intro _ _ _ h; exact h) (Or.inl ⟨by rfl, ?_⟩) (by assumption) ?_
            rotate_left
            · intro w hSw
              try dsimp only at hSw
              go_simp
              try with_reducible rfl
            try simp only [Act.put, List.setIfInBounds_toArray, List.set_cons_zero, List.set_cons_succ]
            refine wpAnyH_take (i := 14) (oi := _) (v := ?_) (by simp only [List.getElem?_toArray, List.getElem?_cons_succ, List.getElem?_cons_zero]; rfl) (by kernel_rfl) (by kernel_rfl) (by kernel_rfl) (by intro _ _ _ h; exact h) (Or.inl ⟨by rfl, ?_⟩) (by assumption) ?_
            rotate_left
            · intro w hSw
              try dsimp only at hSw
              go_simp
              try with_reducible rfl
            try simp only [Act.put, List.setIfInBounds_toArray, List.set_cons_zero, List.set_cons_succ]
            refine wpAnyH_ready (rs := [15]) (by kernel_rfl) (by simp) ?_
            refine AllReadyH.cons (o := _) (by simp only [List.getElem?_toArray, List.getElem?_cons_succ, List.getElem?_cons_zero]; rfl) (fun K hK => ?_) AllReadyH.nil
            have HB2 := Lib.hid (H2.out.1.below ((Below.refl _ _).alloc (Nat.le_refl _) (.cells #[.int .i64 0, .int .i64 0, .int .i64 0] 215)))
            go_simp
            refine hK.out _ _ ?_ (fun hHeld => ?_)
            · exact ⟨(HB2.out.1.cell 0).trans rfl, fun jj vv hjj => alloc_of (H2.out.2.2.2 jj vv hjj)⟩
            clear hK K
            try simp only [Act.put, List.setIfInBounds_toArray, List.set_cons_zero, List.set_cons_succ]
            refine wpAnyH_ready (rs := [16]) (by kernel_rfl) (by simp) ?_
            refine AllReadyH.cons (o := _) (by simp only [List.getElem?_toArray, List.getElem?_cons_succ, List.getElem?_cons_zero]; rfl) (fun K hK => ?_) AllReadyH.nil
            refine step_store_box rfl 215 _ _ (by rfl) (w2.heap.size) #[.int .i64 k9, .int .i64 b9, .int .i64 e9] (by rfl) (by rfl) 215 #[.int .i64 0, .int .i64 0, .int .i64 0] (Blk.new w2 _ _) stepInfo rfl (by simp [Value.oneCell']) ?_
            intro w3 hB3 hg3
            obtain ⟨q1, q2⟩ := HW.out.1.out HB2.out (H2.out.2.1.trans (Mv.of_below ((Below.refl _ _).alloc (Nat.le_refl _) _))) hg3 (by have := H2.out.2.1.size; omega)
            have hQ3 : Blk w3 w.heap.size 215 #[.int .i64 0, .int .i64 0, .int .i64 0] := (q2.block _ HW.out.2.2.1.lt (by omega) (by omega)).trans HW.out.2.2.1
            refine hK.out _ _ ?_ (fun hHeld => ?_)
            · exact ⟨(q1.1.cell 0).trans rfl, cells_mv HW.out.2.2.2.2.1 q2 HW.out.2.2.2.2.2⟩
            clear hK K
            try simp only [Act.put, List.setIfInBounds_toArray, List.set_cons_zero, List.set_cons_succ]
            refine wpAnyH_take (i := 17) (oi := _) (v := ?_) (by simp only [List.getElem?_toArray, List.getElem?_cons_succ, List.getElem?_cons_zero]; rfl) (by kernel_rfl) (by kernel_rfl) (by kernel_rfl) (by intro _ _ _ h; exact h) (Or.inl ⟨by rfl, ?_⟩) (by assumption) ?_
            rotate_left
            · intro w hSw
              try dsimp only at hSw
              go_simp
              try with_reducible rfl
            try simp only [Act.put, List.setIfInBounds_toArray, List.set_cons_zero, List.set_cons_succ]
            refine wpAnyH_done (by kernel_rfl) ?_ _
            have HX := Lib.hid (And.intro q1 q2)
            clear q1 q2
            rcases H2.out.2.2.1 with ⟨rfl, h1, h2, h3⟩ | ⟨rfl, h3⟩
            · have HF := Lib.hid (And.intro h1 (And.intro h2 h3))
              clear h1 h2 h3 hB3
              have HQ3 := Lib.hid hQ3
              clear hQ3
              go_wp2
              obtain ⟨ho, hr⟩ := lead_ok HH.out.2.2.2.2.2 HR.out.1 (by rw [HR.out.2.2.2.2.2, HN.out]; exact hltI) HF.out.2.1
              rw [← HF.out.1] at ho hr
              go_roundg (roundsN bs s9)
              case rel => exact ⟨s9, ho, HX.out.1, HW.out.2.1.trans HX.out.2, by rw [HR.out.2.2.2.1, HF.out.2.2]; exact nextW_enough HH.out.2.2.2.2.2 ho hr (Nat.lt_succ_self _), HQ3.out, rfl⟩
              case measure => exact hr
            · have HF := Lib.hid h3
              clear h3
              go_upto_region 8 with fail
              go_wp2_with (first
                | (refine wpList_load_box rfl 215 _ rfl (w2.heap.size) rfl 215 #[.int .i64 k9, .int .i64 b9, .int .i64 e9] hB3 _ Tryz.underlying215 rfl stepInfo (fun (_ : Hid _) => ?_))
                | (refine wpList_store_box rfl 215 _ _ rfl (w.heap.size) #[.int .i64 k9, .int .i64 b9, .int .i64 e9] rfl rfl 215 #[.int .i64 0, .int .i64 0, .int .i64 0] hQ3 stepInfo rfl (by simp [Value.oneCell']) ?_)
                | fail)
              intro w9 hB9 hg9
              have H9 := Lib.hid hg9
              clear hg9 hQ3 hB3
              go_wp2_with fail
              refine bodyPost_ret (results_cell_row rfl _ _ w.heap.size 215 _ (0, 0) _ rfl hB9 Tryz.underlying215 rfl stepInfo) rfl ?_
              obtain ⟨p1, p2⟩ := HH.out.2.2.2.1.out HX.out.1 (HW.out.2.1.trans HX.out.2) H9.out (Nat.le_refl _)
              rw [HR.out.2.2.2.1, HF.out]
              exact ⟨rfl, p1, p2⟩
          · have HA := Lib.hid (show WalkAt (W.alloc (.cells #[.int .i64 0, .int .i64 0, .int .i64 0] 215)) g mb (some ad) ln lc bs r ∧ Mv w (W.alloc (.cells #[.int .i64 0, .int .i64 0, .int .i64 0] 215)) g mb ∧ Blk (W.alloc (.cells #[.int .i64 0, .int .i64 0, .int .i64 0] 215)) w.heap.size 215 #[.int .i64 0, .int .i64 0, .int .i64 0] ∧ RdP (W.alloc (.cells #[.int .i64 0, .int .i64 0, .int .i64 0] 215)) (fun b => b ≠ g ∧ b ≠ mb ∧ b < (W.alloc (.cells #[.int .i64 0, .int .i64 0, .int .i64 0] 215)).heap.size) 1 TA tn (d.ts.map (Value.int .i64)) ∧ (∀ jj vv, ([.int .i64 d.id, .int .i64 d.pz, v2, v3, v4, v5, v6, v7, .int .i64 d.ct, v9, v10, v11, v12, .slice TA tn tc, .slice IA d.ns.length ic, v15, v16, v17] : List Value)[jj]? = some vv → (W.alloc (.cells #[.int .i64 0, .int .i64 0, .int .i64 0] 215)).cell? ((ad.add (n * 18)).add jj) = some vv) from ⟨HW.out.1.below ((Below.refl _ _).alloc (Nat.le_refl _) _), HW.out.2.1.trans (Mv.of_below ((Below.refl _ _).alloc (Nat.le_refl _) _)), HW.out.2.2.1.alloc _, HW.out.2.2.2.1.keep (fun b hp => Below.heap_alloc _ _ _ hp.2.2) (fun b hp => ⟨hp.1, hp.2.1, by have := hp.2.2; simp; omega⟩), fun jj vv hjj => alloc_of (HW.out.2.2.2.2.1 jj vv hjj)⟩)
            have c1a : (W.alloc (.cells #[.int .i64 0, .int .i64 0, .int .i64 0] 215)).cell? ⟨g, 1, none⟩ = some (.int .i64 n) := alloc_of c1w
            go_simp
            refine hK.out _ _ ?_ (fun hHeld => ?_)
            · exact ⟨(HA.out.1.1.cell 0).trans rfl, HA.out.2.2.2.2⟩
            clear hK K
            try simp only [Act.put, List.setIfInBounds_toArray, List.set_cons_zero, List.set_cons_succ]
            refine wpAnyH_ready (rs := [11]) (by kernel_rfl) (by simp) ?_
            refine AllReadyH.cons (o := _) (by simp only [List.getElem?_toArray, List.getElem?_cons_succ, List.getElem?_cons_zero]; rfl) (fun K hK => ?_) AllReadyH.nil
            go_simp
            go_wp2_with fail
            have hhe := here_any (W.alloc (.cells #[.int .i64 0, .int .i64 0, .int .i64 0] 215)) g mb (some ad) ln lc bs r d v2 v3 v4 v5 v6 v7 v9 v10 v11 v12 TA tn tc IA ic v15 v16 v17 HA.out.1 HR.out.1 HH.out.2.2.2.2.2 HN.out (by rw [HR.out.2.2.2.2.2]; exact hltI) (by rw [HD.out.1, HR.out.2.2.2.2.2]; rfl) HA.out.2.2.2.1
            refine hhe.mono ?_
            intro x w2 hHO
            clear hhe
            obtain ⟨k9, b9, e9, okb, s9, rfl, hW2, hM2, hst⟩ := here_step hHO (by rw [HR.out.2.2.2.2.2, HN.out]; exact hltI)
            have H2 := Lib.hid (show WalkAt w2 g mb (some ad) ln lc bs s9 ∧ Mv (W.alloc (.cells #[.int .i64 0, .int .i64 0, .int .i64 0] 215)) w2 g mb ∧ ((okb = false ∧ s9 = leadS bs r ∧ leadE bs r = 0 ∧ ∀ f, nextW bs (f + 1) r = nextW bs f s9) ∨ (okb = true ∧ ∀ f, nextW bs (f + 1) r = (⟨k9, b9, e9⟩, s9))) ∧ (∀ jj vv, ([.int .i64 d.id, .int .i64 d.pz, v2, v3, v4, v5, v6, v7, .int .i64 d.ct, v9, v10, v11, v12, .slice TA tn tc, .slice IA d.ns.length ic, v15, v16, v17] : List Value)[jj]? = some vv → w2.cell? ((ad.add (n * 18)).add jj) = some vv) from ⟨hW2, hM2, hst, cells_mv HA.out.2.2.2.2 hM2 ⟨HW.out.2.2.2.2.2.1, HW.out.2.2.2.2.2.2.1, by have := HW.out.2.2.2.2.2.2.2; simp; omega⟩⟩)
            clear hHO hW2 hM2 hst
            refine hK.out _ _ ?_ (fun hHeld => ?_)
            · exact ⟨(H2.out.1.1.cell 0).trans rfl, H2.out.2.2.2⟩
            clear hK K
            try simp only [Act.put, List.setIfInBounds_toArray, List.set_cons_zero, List.set_cons_succ]
            refine wpAnyH_take (i := 12) (oi := _) (v := ?_) (by simp only [List.getElem?_toArray, List.getElem?_cons_succ, List.getElem?_cons_zero]; rfl) (by kernel_rfl) (by kernel_rfl) (by kernel_rfl) (by intro _ _ _ h; exact h) (Or.inl ⟨by rfl, ?_⟩) (by assumption) ?_
            rotate_left
            · intro w hSw
              try dsimp only at hSw
              go_simp
              try with_reducible rfl
            try simp only [Act.put, List.setIfInBounds_toArray, List.set_cons_zero, List.set_cons_succ]
            refine wpAnyH_take (i := 13) (oi := _) (v := ?_) (by simp only [List.getElem?_toArray, List.getElem?_cons_succ, List.getElem?_cons_zero]; rfl) (by kernel_rfl) (by kernel_rfl) (by kernel_rfl) (by intro _ _ _ h; exact h) (Or.inl ⟨by rfl, ?_⟩) (by assumption) ?_
            rotate_left
            · intro w hSw
              try dsimp only at hSw
              go_simp
              try with_reducible rfl
            try simp only [Act.put, List.setIfInBounds_toArray, List.set_cons_zero, List.set_cons_succ]
            refine wpAnyH_take (i := 14) (oi := _) (v := ?_) (by simp only [List.getElem?_toArray, List.getElem?_cons_succ, List.getElem?_cons_zero]; rfl) (by kernel_rfl) (by kernel_rfl) (by kernel_rfl) (by intro _ _ _ h; exact h) (Or.inl ⟨by rfl, ?_⟩) (by assumption) ?_
            rotate_left
            · intro w hSw
              try dsimp only at hSw
              go_simp
              try with_reducible rfl
            try simp only [Act.put, List.setIfInBounds_toArray, List.set_cons_zero, List.set_cons_succ]
            refine wpAnyH_ready (rs := [16]) (by kernel_rfl) (by simp) ?_
            refine AllReadyH.cons (o := _) (by simp only [List.getElem?_toArray, List.getElem?_cons_succ, List.getElem?_cons_zero]; rfl) (fun K hK => ?_) AllReadyH.nil
            refine step_store_box rfl 215 _ _ (by rfl) (W.heap.size) #[.int .i64 k9, .int .i64 b9, .int .i64 e9] (by rfl) (by rfl) 215 #[.int .i64 0, .int .i64 0, .int .i64 0] ((H2.out.2.1.block _ (by simp) (by have := HW.out.1.1.lt; omega) (by have := HW.out.1.2.1.lt; omega)).trans (Blk.new W _ _)) stepInfo rfl (by simp [Value.oneCell']) ?_
            intro w3 hB3 hg3
            obtain ⟨q1, q2⟩ := HW.out.1.out H2.out.1 ((Mv.of_below ((Below.refl _ _).alloc (Nat.le_refl _) _)).trans H2.out.2.1) hg3 (by have := H2.out.2.1.size; omega)
            have hQ3 : Blk w3 w.heap.size 215 #[.int .i64 0, .int .i64 0, .int .i64 0] := (q2.block _ HW.out.2.2.1.lt (by omega) (by omega)).trans HW.out.2.2.1
            refine hK.out _ _ ?_ (fun hHeld => ?_)
            · exact ⟨(q1.1.cell 0).trans rfl, cells_mv HW.out.2.2.2.2.1 q2 HW.out.2.2.2.2.2⟩
            clear hK K
            try simp only [Act.put, List.setIfInBounds_toArray, List.set_cons_zero, List.set_cons_succ]
            refine wpAnyH_take (i := 17) (oi := _) (v := ?_) (by simp only [List.getElem?_toArray, List.getElem?_cons_succ, List.getElem?_cons_zero]; rfl) (by kernel_rfl) (by kernel_rfl) (by kernel_rfl) (by intro _ _ _ h; exact h) (Or.inl ⟨by rfl, ?_⟩) (by assumption) ?_
            rotate_left
            · intro w hSw
              try dsimp only at hSw
              go_simp
              try with_reducible rfl
            try simp only [Act.put, List.setIfInBounds_toArray, List.set_cons_zero, List.set_cons_succ]
            refine wpAnyH_done (by kernel_rfl) ?_ _
            have HX := Lib.hid (And.intro q1 q2)
            clear q1 q2
            rcases H2.out.2.2.1 with ⟨rfl, h1, h2, h3⟩ | ⟨rfl, h3⟩
            · have HF := Lib.hid (And.intro h1 (And.intro h2 h3))
              clear h1 h2 h3 hB3
              have HQ3 := Lib.hid hQ3
              clear hQ3
              go_wp2
              obtain ⟨ho, hr⟩ := lead_ok HH.out.2.2.2.2.2 HR.out.1 (by rw [HR.out.2.2.2.2.2, HN.out]; exact hltI) HF.out.2.1
              rw [← HF.out.1] at ho hr
              go_roundg (roundsN bs s9)
              case rel => exact ⟨s9, ho, HX.out.1, HW.out.2.1.trans HX.out.2, by rw [HR.out.2.2.2.1, HF.out.2.2]; exact nextW_enough HH.out.2.2.2.2.2 ho hr (Nat.lt_succ_self _), HQ3.out, rfl⟩
              case measure => exact hr
            · have HF := Lib.hid h3
              clear h3
              go_upto_region 8 with fail
              go_wp2_with (first
                | (refine wpList_load_box rfl 215 _ rfl (W.heap.size) rfl 215 #[.int .i64 k9, .int .i64 b9, .int .i64 e9] hB3 _ Tryz.underlying215 rfl stepInfo (fun (_ : Hid _) => ?_))
                | (refine wpList_store_box rfl 215 _ _ rfl (w.heap.size) #[.int .i64 k9, .int .i64 b9, .int .i64 e9] rfl rfl 215 #[.int .i64 0, .int .i64 0, .int .i64 0] hQ3 stepInfo rfl (by simp [Value.oneCell']) ?_)
                | fail)
              intro w9 hB9 hg9
              have H9 := Lib.hid hg9
              clear hg9 hQ3 hB3
              go_wp2_with fail
              refine bodyPost_ret (results_cell_row rfl _ _ w.heap.size 215 _ (0, 0) _ rfl hB9 Tryz.underlying215 rfl stepInfo) rfl ?_
              obtain ⟨p1, p2⟩ := HH.out.2.2.2.1.out HX.out.1 (HW.out.2.1.trans HX.out.2) H9.out (Nat.le_refl _)
              rw [HR.out.2.2.2.1, HF.out]
              exact ⟨rfl, p1, p2⟩
        · have HA := Lib.hid (show WalkAt (W.alloc (.cells #[.int .i64 0, .int .i64 0, .int .i64 0] 215)) g mb (some ad) ln lc bs r ∧ Mv w (W.alloc (.cells #[.int .i64 0, .int .i64 0, .int .i64 0] 215)) g mb ∧ Blk (W.alloc (.cells #[.int .i64 0, .int .i64 0, .int .i64 0] 215)) w.heap.size 215 #[.int .i64 0, .int .i64 0, .int .i64 0] ∧ RdP (W.alloc (.cells #[.int .i64 0, .int .i64 0, .int .i64 0] 215)) (fun b => b ≠ g ∧ b ≠ mb ∧ b < (W.alloc (.cells #[.int .i64 0, .int .i64 0, .int .i64 0] 215)).heap.size) 1 TA tn (d.ts.map (Value.int .i64)) ∧ (∀ jj vv, ([.int .i64 d.id, .int .i64 d.pz, v2, v3, v4, v5, v6, v7, .int .i64 d.ct, v9, v10, v11, v12, .slice TA tn tc, .slice IA d.ns.length ic, v15, v16, v17] : List Value)[jj]? = some vv → (W.alloc (.cells #[.int .i64 0, .int .i64 0, .int .i64 0] 215)).cell? ((ad.add (n * 18)).add jj) = some vv) from ⟨HW.out.1.below ((Below.refl _ _).alloc (Nat.le_refl _) _), HW.out.2.1.trans (Mv.of_below ((Below.refl _ _).alloc (Nat.le_refl _) _)), HW.out.2.2.1.alloc _, HW.out.2.2.2.1.keep (fun b hp => Below.heap_alloc _ _ _ hp.2.2) (fun b hp => ⟨hp.1, hp.2.1, by have := hp.2.2; simp; omega⟩), fun jj vv hjj => alloc_of (HW.out.2.2.2.2.1 jj vv hjj)⟩)
          have c1a : (W.alloc (.cells #[.int .i64 0, .int .i64 0, .int .i64 0] 215)).cell? ⟨g, 1, none⟩ = some (.int .i64 n) := alloc_of c1w
          go_simp
          refine hK.out _ _ ?_ (fun hHeld => ?_)
          · exact ⟨(HA.out.1.1.cell 0).trans rfl, HA.out.2.2.2.2⟩
          clear hK K
          try simp only [Act.put, List.setIfInBounds_toArray, List.set_cons_zero, List.set_cons_succ]
          refine wpAnyH_ready (rs := [8]) (by kernel_rfl) (by simp) ?_
          refine AllReadyH.cons (o := _) (by simp only [List.getElem?_toArray, List.getElem?_cons_succ, List.getElem?_cons_zero]; rfl) (fun K hK => ?_) AllReadyH.nil
          go_simp
          refine hK.out _ _ ?_ (fun hHeld => ?_)
          · exact ⟨(HA.out.1.1.cell 0).trans rfl, HA.out.2.2.2.2⟩
          clear hK K
          try simp only [Act.put, List.setIfInBounds_toArray, List.set_cons_zero, List.set_cons_succ]
          refine wpAnyH_take (i := 9) (oi := _) (v := ?_) (by simp only [List.getElem?_toArray, List.getElem?_cons_succ, List.getElem?_cons_zero]; rfl) (by kernel_rfl) (by kernel_rfl) (by kernel_rfl) (by intro _ _ _ h; exact h) (Or.inl ⟨by rfl, ?_⟩) (by assumption) ?_
          rotate_left
          · intro w hSw
            try dsimp only at hSw
            obtain ⟨sa, sb⟩ := hSw
            go_simp
            try with_reducible rfl
          try simp only [Act.put, List.setIfInBounds_toArray, List.set_cons_zero, List.set_cons_succ]
          refine wpAnyH_take (i := 10) (oi := _) (v := ?_) (by simp only [List.getElem?_toArray, List.getElem?_cons_succ, List.getElem?_cons_zero]; rfl) (by kernel_rfl) (by kernel_rfl) (by kernel_rfl) (by intro _ _ _ h; exact h) (Or.inl ⟨by rfl, ?_⟩) (by assumption) ?_
          rotate_left
          · intro w hSw
            refine run_load_at (P := Tryz.prog) 34 (.tmp 36) ?_ (ad.add (n * 18)) ?_ [.int .i64 d.id, .int .i64 d.pz, v2, v3, v4, v5, v6, v7, .int .i64 d.ct, v9, v10, v11, v12, .slice TA tn tc, .slice IA d.ns.length ic, v15, v16, v17] hSw.2 _ Tryz.underlying34 rfl blkInfo
            · rfl
            · rfl
          try simp only [Act.put, List.setIfInBounds_toArray, List.set_cons_zero, List.set_cons_succ]
          refine wpAnyH_ready (rs := [11]) (by kernel_rfl) (by simp) ?_
          refine AllReadyH.cons (o := _) (by simp only [List.getElem?_toArray, List.getElem?_cons_succ, List.getElem?_cons_zero]; rfl) (fun K hK => ?_) AllReadyH.nil
          go_simp
          go_wp2_with fail
          have hhe := here_any (W.alloc (.cells #[.int .i64 0, .int .i64 0, .int .i64 0] 215)) g mb (some ad) ln lc bs r d v2 v3 v4 v5 v6 v7 v9 v10 v11 v12 TA tn tc IA ic v15 v16 v17 HA.out.1 HR.out.1 HH.out.2.2.2.2.2 HN.out (by rw [HR.out.2.2.2.2.2]; exact hltI) (by rw [HD.out.1, HR.out.2.2.2.2.2]; rfl) HA.out.2.2.2.1
          refine hhe.mono ?_
          intro x w2 hHO
          clear hhe
          obtain ⟨k9, b9, e9, okb, s9, rfl, hW2, hM2, hst⟩ := here_step hHO (by rw [HR.out.2.2.2.2.2, HN.out]; exact hltI)
          have H2 := Lib.hid (show WalkAt w2 g mb (some ad) ln lc bs s9 ∧ Mv (W.alloc (.cells #[.int .i64 0, .int .i64 0, .int .i64 0] 215)) w2 g mb ∧ ((okb = false ∧ s9 = leadS bs r ∧ leadE bs r = 0 ∧ ∀ f, nextW bs (f + 1) r = nextW bs f s9) ∨ (okb = true ∧ ∀ f, nextW bs (f + 1) r = (⟨k9, b9, e9⟩, s9))) ∧ (∀ jj vv, ([.int .i64 d.id, .int .i64 d.pz, v2, v3, v4, v5, v6, v7, .int .i64 d.ct, v9, v10, v11, v12, .slice TA tn tc, .slice IA d.ns.length ic, v15, v16, v17] : List Value)[jj]? = some vv → w2.cell? ((ad.add (n * 18)).add jj) = some vv) from ⟨hW2, hM2, hst, cells_mv HA.out.2.2.2.2 hM2 ⟨HW.out.2.2.2.2.2.1, HW.out.2.2.2.2.2.2.1, by have := HW.out.2.2.2.2.2.2.2; simp; omega⟩⟩)
          clear hHO hW2 hM2 hst
          refine hK.out _ _ ?_ (fun hHeld => ?_)
          · exact ⟨(H2.out.1.1.cell 0).trans rfl, H2.out.2.2.2⟩
          clear hK K
          try simp only [Act.put, List.setIfInBounds_toArray, List.set_cons_zero, List.set_cons_succ]
          refine wpAnyH_take (i := 12) (oi := _) (v := ?_) (by simp only [List.getElem?_toArray, List.getElem?_cons_succ, List.getElem?_cons_zero]; rfl) (by kernel_rfl) (by kernel_rfl) (by kernel_rfl) (by intro _ _ _ h; exact h) (Or.inl ⟨by rfl, ?_⟩) (by assumption) ?_
          rotate_left
          · intro w hSw
            try dsimp only at hSw
            go_simp
            try with_reducible rfl
          try simp only [Act.put, List.setIfInBounds_toArray, List.set_cons_zero, List.set_cons_succ]
          refine wpAnyH_take (i := 13) (oi := _) (v := ?_) (by simp only [List.getElem?_toArray, List.getElem?_cons_succ, List.getElem?_cons_zero]; rfl) (by kernel_rfl) (by kernel_rfl) (by kernel_rfl) (by intro _ _ _ h; exact h) (Or.inl ⟨by rfl, ?_⟩) (by assumption) ?_
          rotate_left
          · intro w hSw
            try dsimp only at hSw
            go_simp
            try with_reducible rfl
          try simp only [Act.put, List.setIfInBounds_toArray, List.set_cons_zero, List.set_cons_succ]
          refine wpAnyH_take (i := 14) (oi := _) (v := ?_) (by simp only [List.getElem?_toArray, List.getElem?_cons_succ, List.getElem?_cons_zero]; rfl) (by kernel_rfl) (by kernel_rfl) (by kernel_rfl) (by intro _ _ _ h; exact h) (Or.inl ⟨by rfl, ?_⟩) (by assumption) ?_
          rotate_left
          · intro w hSw
            try dsimp only at hSw
            go_simp
            try with_reducible rfl
          try simp only [Act.put, List.setIfInBounds_toArray, List.set_cons_zero, List.set_cons_succ]
          refine wpAnyH_ready (rs := [16]) (by kernel_rfl) (by simp) ?_
          refine AllReadyH.cons (o := _) (by simp only [List.getElem?_toArray, List.getElem?_cons_succ, List.getElem?_cons_zero]; rfl) (fun K hK => ?_) AllReadyH.nil
          refine step_store_box rfl 215 _ _ (by rfl) (W.heap.size) #[.int .i64 k9, .int .i64 b9, .int .i64 e9] (by rfl) (by rfl) 215 #[.int .i64 0, .int .i64 0, .int .i64 0] ((H2.out.2.1.block _ (by simp) (by have := HW.out.1.1.lt; omega) (by have := HW.out.1.2.1.lt; omega)).trans (Blk.new W _ _)) stepInfo rfl (by simp [Value.oneCell']) ?_
          intro w3 hB3 hg3
          obtain ⟨q1, q2⟩ := HW.out.1.out H2.out.1 ((Mv.of_below ((Below.refl _ _).alloc (Nat.le_refl _) _)).trans H2.out.2.1) hg3 (by have := H2.out.2.1.size; omega)
          have hQ3 : Blk w3 w.heap.size 215 #[.int .i64 0, .int .i64 0, .int .i64 0] := (q2.block _ HW.out.2.2.1.lt (by omega) (by omega)).trans HW.out.2.2.1
          refine hK.out _ _ ?_ (fun hHeld => ?_)
          · exact ⟨(q1.1.cell 0).trans rfl, cells_mv HW.out.2.2.2.2.1 q2 HW.out.2.2.2.2.2⟩
          clear hK K
          try simp only [Act.put, List.setIfInBounds_toArray, List.set_cons_zero, List.set_cons_succ]
          refine wpAnyH_take (i := 17) (oi := _) (v := ?_) (by simp only [List.getElem?_toArray, List.getElem?_cons_succ, List.getElem?_cons_zero]; rfl) (by kernel_rfl) (by kernel_rfl) (by kernel_rfl) (by intro _ _ _ h; exact h) (Or.inl ⟨by rfl, ?_⟩) (by assumption) ?_
          rotate_left
          · intro w hSw
            try dsimp only at hSw
            go_simp
            try with_reducible rfl
          try simp only [Act.put, List.setIfInBounds_toArray, List.set_cons_zero, List.set_cons_succ]
          refine wpAnyH_done (by kernel_rfl) ?_ _
          have HX := Lib.hid (And.intro q1 q2)
          clear q1 q2
          rcases H2.out.2.2.1 with ⟨rfl, h1, h2, h3⟩ | ⟨rfl, h3⟩
          · have HF := Lib.hid (And.intro h1 (And.intro h2 h3))
            clear h1 h2 h3 hB3
            have HQ3 := Lib.hid hQ3
            clear hQ3
            go_wp2
            obtain ⟨ho, hr⟩ := lead_ok HH.out.2.2.2.2.2 HR.out.1 (by rw [HR.out.2.2.2.2.2, HN.out]; exact hltI) HF.out.2.1
            rw [← HF.out.1] at ho hr
            go_roundg (roundsN bs s9)
            case rel => exact ⟨s9, ho, HX.out.1, HW.out.2.1.trans HX.out.2, by rw [HR.out.2.2.2.1, HF.out.2.2]; exact nextW_enough HH.out.2.2.2.2.2 ho hr (Nat.lt_succ_self _), HQ3.out, rfl⟩
            case measure => exact hr
          · have HF := Lib.hid h3
            clear h3
            go_upto_region 8 with fail
            go_wp2_with (first
              | (refine wpList_load_box rfl 215 _ rfl (W.heap.size) rfl 215 #[.int .i64 k9, .int .i64 b9, .int .i64 e9] hB3 _ Tryz.underlying215 rfl stepInfo (fun (_ : Hid _) => ?_))
              | (refine wpList_store_box rfl 215 _ _ rfl (w.heap.size) #[.int .i64 k9, .int .i64 b9, .int .i64 e9] rfl rfl 215 #[.int .i64 0, .int .i64 0, .int .i64 0] hQ3 stepInfo rfl (by simp [Value.oneCell']) ?_)
              | fail)
            intro w9 hB9 hg9
            have H9 := Lib.hid hg9
            clear hg9 hQ3 hB3
            go_wp2_with fail
            refine bodyPost_ret (results_cell_row rfl _ _ w.heap.size 215 _ (0, 0) _ rfl hB9 Tryz.underlying215 rfl stepInfo) rfl ?_
            obtain ⟨p1, p2⟩ := HH.out.2.2.2.1.out HX.out.1 (HW.out.2.1.trans HX.out.2) H9.out (Nat.le_refl _)
            rw [HR.out.2.2.2.1, HF.out]
            exact ⟨rfl, p1, p2⟩
      · have hltI : ¬ (n : Int) < (ln : Int) := by omega
        have hnn : nextW bs (roundsN bs r + 1) r = (⟨3, bs.length, 0⟩, stayS r 3 bs.length 0) := by rw [nextW, if_neg (by rw [hn, HN.out]; exact hltI)]
        have HR := Lib.hid (And.intro hrk (And.intro hW (And.intro hM (And.intro (hnx.trans hnn) (And.intro hQ hn)))))
        clear hrk hW hM hnx hQ hn hnn
        go_upto_region 5 with fail
        go_quiet (fail)
        have HW := Lib.hid (show WalkAt (wr.drewN nq) g mb LA ln lc bs r ∧ Mv w (wr.drewN nq) g mb ∧ Blk (wr.drewN nq) w.heap.size 215 #[.int .i64 0, .int .i64 0, .int .i64 0] from ⟨HR.out.2.1.drewN nq, HR.out.2.2.1.trans ⟨rfl, rfl, rfl, Nat.le_refl _, fun _ _ _ _ => rfl⟩, HR.out.2.2.2.2.1⟩)
        clear c1
        have c0w : (wr.drewN nq).cell? ⟨g, 0, none⟩ = some (.slice LA ln lc) := c0
        clear c0
        generalize wr.drewN nq = W at *
        have hsy := stay_any W g mb LA ln lc bs r 3 ln 0 HW.out.1
        go_wp2_with fail
        refine hsy.mono ?_
        rintro x w8 ⟨rfl, hW8, hM8⟩
        clear hsy c0w
        have hQ8 : Blk w8 w.heap.size 215 #[.int .i64 0, .int .i64 0, .int .i64 0] := (hM8.block _ HW.out.2.2.lt (by omega) (by omega)).trans HW.out.2.2
        have H8 := Lib.hid (And.intro hW8 (HW.out.2.1.trans hM8))
        clear hW8 hM8
        go_wp2_with (first
          | (refine wpList_store_box rfl 215 _ _ rfl (w.heap.size) #[.int .i64 3, .int .i64 ln, .int .i64 0] rfl rfl 215 #[.int .i64 0, .int .i64 0, .int .i64 0] hQ8 stepInfo rfl (by simp [Value.oneCell']) ?_)
          | fail)
        intro w9 hB9 hg9
        have H9 := Lib.hid hg9
        clear hg9 hQ8
        go_wp2_with fail
        refine bodyPost_ret (results_cell_row rfl _ _ w.heap.size 215 _ (0, 0) _ rfl hB9 Tryz.underlying215 rfl stepInfo) rfl ?_
        obtain ⟨p1, p2⟩ := HH.out.2.2.2.1.out H8.out.1 H8.out.2 H9.out (Nat.le_refl _)
        rw [HR.out.2.2.2.1, HN.out]
        exact ⟨rfl, p1, p2⟩
end Go.Proofs.YtnlaedfnifimkaaGreat
namespace Go.Proofs.YtnlaedfnifimkaaGreat
open Go.RowKit
def heardS (s : WS) : WS := { s with heard := true, tk := [] }
theorem heardS_ok {bs : List WB} {s : WS} (h : s.ok bs) : (heardS s).ok bs := by
  obtain ⟨a0, a1, a2, a3, a4, a5, _⟩ := h
  have := left_le bs []
  exact ⟨a0, a1, a2, a3, a4, a5, by show ([] : List Int).length + leftN bs [] ≤ _; simpa using this⟩
set_option maxRecDepth 100000 in
set_option maxHeartbeats 4000000 in
theorem heard_any (w : World) (g mb : Nat) (LA : Option Addr) (ln lc : Nat) (bs : List WB) (s : WS) (h : WalkAt w g mb LA ln lc bs s) :
    Calls Tryz.prog 151 #[.pointer (some ⟨g, 0, none⟩)] w fun x w' => (∃ v, x = .returned v) ∧ WalkAt w' g mb LA ln lc bs (heardS s) ∧ Mv w w' g mb := by
  have c3 : w.cell? ⟨g, 3, none⟩ = some (.bool s.heard) := (h.1.cell 3).trans rfl
  have f3 : w.frozen? ⟨g, 3, none⟩ = false := h.1.frozen 3
  have HY := Lib.hid (show WalkAt (w.setCell ⟨g, 3, none⟩ (.bool true)) g mb LA ln lc bs { s with heard := true } ∧ Mv w (w.setCell ⟨g, 3, none⟩ (.bool true)) g mb from ⟨h.set_ _ rfl rfl, (Mv.refl w g mb).set_ _⟩)
  clear h
  go_enter Tryz.func151, Tryz.ntmps151
  go_upto_region 2 with fail
  clear c3 f3
  generalize w.setCell ⟨g, 3, none⟩ (.bool true) = W at *
  have c9 : W.cell? ⟨g, 9, none⟩ = some (.map (some mb)) := (HY.out.1.1.cell 9).trans rfl
  obtain ⟨v, w2, hrun, hT, hg⟩ := HY.out.1.2.1.clear 0
  obtain ⟨hW2, hM2⟩ := HY.out.1.upd hg hT
  have H2 := Lib.hid (And.intro hW2 (HY.out.2.trans hM2))
  clear hT hg hW2 hM2
  go_wp2
  first | go_end0 | refine bodyPost_ret (results_none rfl _ _ _) rfl ?_
  exact ⟨⟨_, rfl⟩, H2.out.1, H2.out.2⟩
end Go.Proofs.YtnlaedfnifimkaaGreat
namespace Go.Proofs.YtnlaedfnifimkaaGreat
open Go.RowKit
theorem blkInfo4 : (Tryz.prog.info? 34).map (fun i => (i.zero, i.size, i.bytes)) = some (some (.agg #[.int .i64 0, .int .i64 0, .int .i64 0, .int .i64 0, .int .i64 0, .int .i64 0, .int .i64 0, .int .i64 0, .int .i64 0, .int .i64 0, .int .i64 0, .int .i64 0, .slice none 0 0, .slice none 0 0, .slice none 0 0, .slice none 0 0, .slice none 0 0, .slice none 0 0]), 18, 240) := by kernel_rfl
theorem RdP.of_own {w : World} {base : Nat} {e : TypeId} {size n c : Nat} {A : Option Addr} {xs : List Value} (h : w.ownsRow base e size (.slice A n c) n xs) : RdP w (fun b => base ≤ b ∧ b < w.heap.size) size A n xs := by
  have hr := Reads.of_own h
  refine ⟨hr.1, fun hn => ?_⟩
  obtain ⟨ad, e, hb, hc⟩ := hr.2 hn
  subst e
  exact ⟨ad, rfl, ⟨(h.lt ad.block rfl).1, hb⟩, hc⟩
def emptyJ (bs : List WB) : Prop := ∃ i : Nat, i < bs.length ∧ (bs.getD i default).id = 35 ∧ (bs.getD i default).ts = []
end Go.Proofs.YtnlaedfnifimkaaGreat
namespace Go.Proofs.YtnlaedfnifimkaaGreat
open Go.RowKit
def gapsF : Int → List Int → Option (List Int)
  | _, [] => some []
  | f, t :: l => if t ≤ f then none else (gapsF t l).map ((t - f) :: ·)
theorem gapsF_cons (f t : Int) (l : List Int) (h : f < t) : gapsF f (t :: l) = (gapsF t l).map ((t - f) :: ·) := by
  show (if t ≤ f then none else (gapsF t l).map ((t - f) :: ·)) = _
  rw [if_neg (by omega)]
theorem gapsF_in : ∀ {l : List Int} {f T : Int} {g : List Int}, gapsF f l = some g → 0 ≤ f → (∀ z ∈ l, z ≤ T) → ∀ x ∈ g, 1 ≤ x ∧ x ≤ T
  | [], _, _, _, h, _, _ => by cases h; nofun
  | t :: l, f, T, g, h, h0, hz => by
    unfold gapsF at h
    split at h
    · cases h
    · rename_i hlt
      obtain ⟨r, hr, rfl⟩ := Option.map_eq_some_iff.1 h
      intro x hx
      have h1 := hz t (by simp)
      rcases List.mem_cons.1 hx with rfl | hx
      · omega
      · exact gapsF_in hr (by omega) (fun z hz' => hz z (by simp [hz'])) x hx
theorem gapsF_many : ∀ {l : List Int} {f T : Int} {g : List Int}, gapsF f l = some g → f ≤ T → (∀ z ∈ l, z ≤ T) → (g.length : Int) ≤ T - f
  | [], _, _, _, h, h0, _ => by cases h; simp; omega
  | t :: l, f, T, g, h, h0, hz => by
    unfold gapsF at h
    split at h
    · cases h
    · rename_i hlt
      obtain ⟨r, hr, rfl⟩ := Option.map_eq_some_iff.1 h
      have h1 := hz t (by simp)
      have := gapsF_many hr h1 (fun z hz' => hz z (by simp [hz']))
      simp only [List.length_cons]
      omega
theorem u32Info : (Tryz.prog.info? 50).map (fun i => (i.zero, i.size, i.bytes)) = some (some (.int .u32 0), 1, 4) := by kernel_rfl
theorem rd_at {w : World} {B n : Nat} {A : Option Addr} {kd : IntKind} {zs : List Int} (h : Reads w B 1 A n (zs.map (Value.int kd))) {k : Nat} (hk : k < n) :
    ∃ ad, A = some ad ∧ ad.block < B ∧ w.cell? (ad.add k) = some (.int kd (zs.getD k 0)) := by
  obtain ⟨ad, u, e, hb, hx, hc⟩ := h.at_ hk
  refine ⟨ad, e, hb, hc.trans ?_⟩
  rw [← hx]
  have hl : k < zs.length := by have := h.1; simp at this; omega
  simp [List.getD_eq_getElem?_getD, hl]
theorem rd_len {w : World} {B n : Nat} {A : Option Addr} {kd : IntKind} {zs : List Int} (h : Reads w B 1 A n (zs.map (Value.int kd))) : zs.length = n := by have := h.1; simpa using this
theorem mem_getD {zs : List Int} {k : Nat} (h : k < zs.length) : zs.getD k 0 ∈ zs := by
  rw [List.getD_eq_getElem?_getD, List.getElem?_eq_getElem h]
  exact List.getElem_mem h
theorem drop_getD {zs : List Int} {k : Nat} (h : k < zs.length) : zs.drop k = zs.getD k 0 :: zs.drop (k + 1) := by
  rw [List.drop_eq_getElem_cons h, List.getD_eq_getElem?_getD, List.getElem?_eq_getElem h]; rfl
def GapsO (w w' : World) (e : Ending) (f : Int) (zs : List Int) : Prop :=
  Below w.heap.size w w' ∧ ((gapsF f zs = none ∧ e = .returned (.tuple #[.slice none 0 0, .int .i64 5])) ∨
    ∃ gs V cV, gapsF f zs = some gs ∧ e = .returned (.tuple #[.slice V gs.length cV, .int .i64 0]) ∧ w'.ownsRow w.heap.size 50 1 (.slice V gs.length cV) gs.length (gs.map (Value.int .u32)))
set_option maxRecDepth 100000 in
set_option maxHeartbeats 4000000 in
theorem gaps_any (w : World) (A : Option Addr) (n c : Nat) (f : Int) (zs : List Int) (hr : Reads w w.heap.size 1 A n (zs.map (Value.int .u64))) (f0 : 0 ≤ f) (f1 : f ≤ 1000000000) (hz : ∀ z ∈ zs, 0 ≤ z ∧ z ≤ 1000000000) (hn : n ≤ 1000000000) :
    Calls Tryz.prog 45 #[.int .u64 f, .slice A n c] w fun e w' => GapsO w w' e f zs := by
  obtain ⟨i0, hi, hz0, hz1, hz2⟩ := info_parts u32Info
  have hlen := rd_len hr
  have HL := Lib.hid hlen
  clear hlen
  go_enter Tryz.func45, Tryz.ntmps45
  go_wp2
  go_loopw [0, 6, 11] (fun x l i wr => ∃ (k : Nat) (q : Int) (gs : List Int), k ≤ n ∧ i = .int .i64 k ∧ x = .int .u64 q ∧ 0 ≤ q ∧ q ≤ 1000000000 ∧ gs.length = k ∧ wr.ownsRow w.heap.size 50 1 l k (gs.map (Value.int .u32)) ∧ Hid (gapsF f zs = (gapsF q (zs.drop k)).map (gs ++ ·)) ∧ Below w.heap.size w wr) (fun _ _ i _ => n - (intOf i).toNat)
  case atStart => exact ⟨0, f, [], by omega, rfl, rfl, f0, f1, rfl, World.ownsRow_nil _ _ _ _, Lib.hid (by simp), Below.refl _ _⟩
  case round =>
    obtain ⟨k, q, gs, hk, rfl, rfl, q0, q1, hgl, hown, hgf, hb⟩ := hrel
    have HG := Lib.hid hgl
    clear hgl
    by_cases hlt : k < n
    · have hzk := hz (zs.getD k 0) (mem_getD (by rw [HL.out]; exact hlt))
      have hdr := Lib.hid (drop_getD (zs := zs) (k := k) (by rw [HL.out]; exact hlt))
      obtain ⟨ad, rfl, hab, hc⟩ := rd_at (hr.below hb) hlt
      generalize zs.getD k 0 = z at *
      have hbs := hb.size
      by_cases hle : z ≤ q
      · go_wp2
        go_ret2
        exact ⟨hb, .inl ⟨by rw [hgf.out, hdr.out]; unfold gapsF; rw [if_pos hle]; rfl, rfl⟩⟩
      · have hw64 : IntKind.u64.wrap (z - q) = z - q := by simp [IntKind.wrap, IntKind.bits, IntKind.signed]; omega
        have hw32 : IntKind.u32.wrap (z - q) = z - q := by simp [IntKind.wrap, IntKind.bits, IntKind.signed]; omega
        go_wp2_with (first
          | (at_builtin; refine wpList_append_any _ rfl _ _ 61 rfl w.heap.size 50 i0 (.int .u32 0) 1 4 Tryz.underlying61 hi hz0 hz1 hz2 rfl (by decide) _ k _ rfl (hown.alloc _) _ (some ⟨wr.heap.size, 0, none⟩) 1 1 [.int .u32 (z - q)] rfl (reads_new wr _ #[.int .u32 (z - q)] [.int .u32 (z - q)] rfl) (by simp [Value.oneCell']) (by unfold maxLen; omega) (by omega) (by simp; omega) ?_)
          | go_in)
        intro v' w3 hown' hgrow hor
        have hb3 : Below w.heap.size w w3 := (hb.alloc hb.size _).grown hgrow (by simp; omega) (fun b he => (hown.lt b he).1)
        have hown3 : w3.ownsRow w.heap.size 50 1 v' (k + 1) ((gs ++ [z - q]).map (Value.int .u32)) := by simpa using hown'
        clear hgrow hor hown hown' hb
        go_wp2
        go_roundw
        case rel => exact ⟨k + 1, z, gs ++ [z - q], by omega, by go_num, rfl, hzk.1, hzk.2, by simp [HG.out], hown3, Lib.hid (by rw [hgf.out, hdr.out, gapsF_cons q z _ hle]; cases gapsF z (zs.drop (k + 1)) <;> simp), hb3⟩
        case measure => simp [intOf]; omega
    · obtain rfl : k = n := by omega
      have hd : gapsF f zs = some gs := by
        rw [hgf.out, List.drop_of_length_le (by rw [HL.out]; omega)]
        simp [gapsF]
      have HD := Lib.hid hd
      have hgl := HG.out
      clear hd hgf HL hlt HG
      subst hgl
      obtain ⟨V, cV, rfl⟩ := own_slice hown
      go_wp2
      go_ret2
      exact ⟨hb, .inr ⟨gs, V, cV, HD.out, rfl, hown⟩⟩
theorem capOf {w : World} {B e size n c : Nat} {A : Option Addr} {xs : List Value} (h : w.ownsRow B e size (.slice A n c) n xs) : n ≤ c := by
  obtain ⟨A', c', e1, h1⟩ := own_sliceC h
  injection e1 with _ _ e1
  omega
theorem own_low {w : World} {B B' e size n : Nat} {v : Value} {xs : List Value} (h : w.ownsRow B e size v n xs) (hB : B' ≤ B) : w.ownsRow B' e size v n xs := by
  refine ⟨h.1, ?_⟩
  rcases h.2 with h | ⟨g, cap, cur, h1, h2, h3⟩
  · exact .inl h
  · exact .inr ⟨g, cap, cur, h1, Nat.le_trans hB h2, h3⟩
end Go.Proofs.YtnlaedfnifimkaaGreat
namespace Go.Proofs.YtnlaedfnifimkaaGreat
open Go.RowKit
namespace Tl
theorem _root_.Go.Proofs.YtnlaedfnifimkaaGreat.RdP.none_ {w : World} {φ : Nat → Prop} {size : Nat} {A : Option Addr} : RdP w φ size A 0 [] := ⟨by simp, fun h => absurd h (by omega)⟩
def isU32 (zs : List Int) : Prop := ∀ z ∈ zs, 1 ≤ z ∧ z ≤ 65535
theorem isU32_at {zs : List Int} (h : isU32 zs) {k : Nat} (hk : k < zs.length) : 1 ≤ zs.getD k 0 ∧ zs.getD k 0 ≤ 65535 := h _ (mem_getD hk)
structure BD where
  i0 : Int
  i9 : Int
  ts : List Int
instance : Inhabited BD := ⟨⟨0, 0, []⟩⟩
def BlkAt (w : World) (φ : Nat → Prop) (d : BD) (cs : List Value) : Prop :=
  ∃ (ta : Option Addr) (tn tc : Nat), cs = [.int .i64 d.i0, .int .i64 0, .int .i64 0, .int .i64 0, .int .i64 0, .int .i64 0, .int .i64 0, .int .i64 0, .int .i64 0, .int .i64 d.i9, .int .i64 0, .int .i64 0, .slice none 0 0, .slice ta tn tc, .slice none 0 0, .slice none 0 0, .slice none 0 0, .slice none 0 0] ∧ RdP w φ 1 ta tn (d.ts.map (Value.int .i64)) ∧ tn ≤ tc ∧ (tn = 0 → ta = none ∧ tc = 0)
theorem BlkAt.keep {w w' : World} {φ ψ : Nat → Prop} {d : BD} {cs : List Value} (h : BlkAt w φ d cs) (hk : ∀ b, φ b → w'.heap[b]? = w.heap[b]?) (hψ : ∀ b, φ b → ψ b) : BlkAt w' ψ d cs := by
  obtain ⟨ta, tn, tc, h0, h1, h2⟩ := h
  exact ⟨ta, tn, tc, h0, h1.keep hk hψ, h2⟩
theorem BlkAt.len {w : World} {φ : Nat → Prop} {d : BD} {cs : List Value} (h : BlkAt w φ d cs) : cs.length = 18 := by
  obtain ⟨ta, tn, tc, h0, _⟩ := h
  rw [h0]; rfl
theorem BlkAt.one {w : World} {φ : Nat → Prop} {d : BD} {cs : List Value} (h : BlkAt w φ d cs) : ∀ u ∈ cs, u.oneCell' = true := by
  obtain ⟨ta, tn, tc, h0, _⟩ := h
  rw [h0]
  simp [Value.oneCell']
def BlksAt (w : World) (φ : Nat → Prop) : List BD → List Value → Prop
  | [], xs => xs = []
  | d :: l, xs => ∃ cs ys, xs = cs ++ ys ∧ BlkAt w φ d cs ∧ BlksAt w φ l ys
theorem BlksAt.keep {w w' : World} {φ ψ : Nat → Prop} (hk : ∀ b, φ b → w'.heap[b]? = w.heap[b]?) (hψ : ∀ b, φ b → ψ b) : ∀ {l : List BD} {xs : List Value}, BlksAt w φ l xs → BlksAt w' ψ l xs
  | [], _, h => h
  | _ :: _, _, ⟨cs, ys, e, h1, h2⟩ => ⟨cs, ys, e, h1.keep hk hψ, BlksAt.keep hk hψ h2⟩
theorem BlksAt.len {w : World} {φ : Nat → Prop} : ∀ {l : List BD} {xs : List Value}, BlksAt w φ l xs → xs.length = l.length * 18
  | [], xs, h => by subst h; rfl
  | _ :: l, xs, ⟨cs, ys, e, h1, h2⟩ => by
    have := BlksAt.len h2
    have := h1.len
    rw [e, List.length_append, List.length_cons]
    omega
theorem BlksAt.one {w : World} {φ : Nat → Prop} : ∀ {l : List BD} {xs : List Value}, BlksAt w φ l xs → ∀ u ∈ xs, u.oneCell' = true
  | [], xs, h => by subst h; nofun
  | _ :: l, xs, ⟨cs, ys, e, h1, h2⟩ => by
    intro u hu
    rw [e, List.mem_append] at hu
    rcases hu with hu | hu
    · exact h1.one u hu
    · exact BlksAt.one h2 u hu
theorem BlksAt.app {w : World} {φ : Nat → Prop} : ∀ {l l' : List BD} {xs xs' : List Value}, BlksAt w φ l xs → BlksAt w φ l' xs' → BlksAt w φ (l ++ l') (xs ++ xs')
  | [], l', xs, xs', h, h' => by subst h; exact h'
  | _ :: l, l', xs, xs', ⟨cs, ys, e, h1, h2⟩, h' => ⟨cs, ys ++ xs', by rw [e, List.append_assoc], h1, BlksAt.app h2 h'⟩
theorem BlksAt.single {w : World} {φ : Nat → Prop} {d : BD} {cs : List Value} (h : BlkAt w φ d cs) : BlksAt w φ [d] cs := ⟨cs, [], by simp, h, rfl⟩
theorem BlksAt.at_ {w : World} {φ : Nat → Prop} : ∀ {l : List BD} {xs : List Value} {i : Nat} {d : BD}, BlksAt w φ l xs → l[i]? = some d → ∃ cs, BlkAt w φ d cs ∧ ∀ k u, cs[k]? = some u → xs[i * 18 + k]? = some u
  | [], xs, i, d, h, hd => by cases hd
  | q :: l, xs, 0, d, ⟨cs, ys, e, h1, h2⟩, hd => by
    obtain rfl : q = d := by simpa using hd
    refine ⟨cs, h1, fun k u hk => ?_⟩
    have hlt : k < cs.length := by
      rcases Nat.lt_or_ge k cs.length with h | h
      · exact h
      · rw [List.getElem?_eq_none h] at hk; cases hk
    rw [e, show 0 * 18 + k = k by omega, List.getElem?_append_left hlt]
    exact hk
  | q :: l, xs, i + 1, d, ⟨cs, ys, e, h1, h2⟩, hd => by
    obtain ⟨ds, hB, hx⟩ := BlksAt.at_ h2 (i := i) (d := d) (by simpa using hd)
    refine ⟨ds, hB, fun k u hk => ?_⟩
    rw [e, List.getElem?_append_right (by rw [h1.len]; omega), h1.len, show (i + 1) * 18 + k - 18 = i * 18 + k by omega]
    exact hx k u hk
def shN (ls : List Int) : Nat := ((ls.take 255).takeWhile fun z => decide (z ≤ 65535)).length
theorem take_while_lt {α : Type} {p : α → Bool} {d : α} : ∀ {l : List α} {k : Nat}, k < (l.takeWhile p).length → k < l.length ∧ p (l.getD k d) = true
  | [], k, h => by simp at h
  | a :: l, k, h => by
    by_cases ha : p a = true
    · rw [List.takeWhile_cons_of_pos ha, List.length_cons] at h
      match k with
      | 0 => exact ⟨by simp, by simpa using ha⟩
      | k + 1 =>
        obtain ⟨h1, h2⟩ := take_while_lt (p := p) (l := l) (k := k) (d := d) (by omega)
        exact ⟨by simp; omega, by simpa using h2⟩
    · rw [List.takeWhile_cons_of_neg ha] at h; simp at h
theorem take_while_end {α : Type} {p : α → Bool} {d : α} : ∀ {l : List α}, (l.takeWhile p).length < l.length → p (l.getD (l.takeWhile p).length d) = false
  | [], h => by simp at h
  | a :: l, h => by
    by_cases ha : p a = true
    · rw [List.takeWhile_cons_of_pos ha] at h ⊢
      have := take_while_end (p := p) (l := l) (d := d) (by simpa using h)
      simpa using this
    · rw [List.takeWhile_cons_of_neg ha]; simpa using ha
theorem shN_in {ls : List Int} {k : Nat} (h : k < shN ls) : k < ls.length ∧ k < 255 ∧ ls.getD k 0 ≤ 65535 := by
  obtain ⟨h1, h2⟩ := take_while_lt (d := 0) h
  simp only [List.length_take] at h1
  have e : (ls.take 255).getD k 0 = ls.getD k 0 := by
    rw [List.getD_eq_getElem?_getD, List.getElem?_take, if_pos (by omega), ← List.getD_eq_getElem?_getD]
  rw [e] at h2
  exact ⟨by omega, by omega, by simpa using h2⟩
theorem shN_le (ls : List Int) : shN ls ≤ ls.length ∧ shN ls ≤ 255 := by
  have := (List.takeWhile_sublist (l := ls.take 255) (fun z => decide (z ≤ 65535))).length_le
  simp only [List.length_take] at this
  unfold shN
  omega
theorem shN_end {ls : List Int} (h1 : shN ls < ls.length) (h2 : shN ls < 255) : 65535 < ls.getD (shN ls) 0 := by
  have := take_while_end (d := 0) (l := ls.take 255) (p := fun z => decide (z ≤ 65535)) (by
    have e : (ls.take 255).length = min 255 ls.length := List.length_take
    unfold shN at h1 h2
    omega)
  have e : (ls.take 255).getD (shN ls) 0 = ls.getD (shN ls) 0 := by
    rw [List.getD_eq_getElem?_getD, List.getElem?_take, if_pos h2, ← List.getD_eq_getElem?_getD]
  have e2 : decide ((ls.take 255).getD (shN ls) 0 ≤ 65535) = false := this
  rw [e] at e2
  have := of_decide_eq_false e2
  omega
set_option maxRecDepth 100000 in
set_option maxHeartbeats 4000000 in
theorem shorts_any (w : World) (B n c : Nat) (A : Option Addr) (ls : List Int) (hr : Reads w B 1 A n (ls.map (Value.int .i64))) (hn : n ≤ 1000000) :
    Calls Tryz.prog 81 #[.slice A n c] w fun e w' => e = .returned (.int .i64 (shN ls)) ∧ w = w' := by
  have hl := reads_len hr
  have HIN := Lib.hid (fun k (h : k < shN ls) => shN_in h)
  have HEND := Lib.hid (fun (h1 : shN ls < ls.length) (h2 : shN ls < 255) => shN_end h1 h2)
  have HLE := shN_le ls
  have HR := Lib.hid (And.intro hr hl)
  clear hr
  generalize shN ls = K at *
  have HLL := HLE
  rw [hl] at HLL
  clear HLE hl
  go_enter Tryz.func81, Tryz.ntmps81
  go_wp2
  go_loop [3] (fun x => ∃ j : Nat, j ≤ K ∧ x = .int .i64 j) (fun x => K + 1 - (intOf x).toNat)
  case atStart => exact ⟨0, by omega, rfl⟩
  case round =>
    obtain ⟨j, hj, rfl⟩ := hrel
    have hj0 : (0 : Int) ≤ (j : Int) := Int.natCast_nonneg _
    have hwj : IntKind.i64.wrap ((j : Int) + 1) = (j : Int) + 1 := by rw [IntKind.wrap_i64]; omega
    by_cases hlt : j < K
    · obtain ⟨h1, h2, h3⟩ := HIN.out j hlt
      rw [HR.out.2] at h1
      obtain ⟨ad, rfl, _, hc⟩ := i32_at HR.out.1 h1
      generalize ls.getD j 0 = z at *
      have i1 : (j : Int) < (n : Int) := by omega
      have i2 : (j : Int) < 255 := by omega
      have i3 : z ≤ 65535 := h3
      have HJ := Lib.hid hlt
      clear hlt h1 h2 h3 hj HLL
      go_wp2
      go_round
      case rel => exact ⟨j + 1, HJ.out, by go_num⟩
      case measure => have := HJ.out; simp [intOf]; omega
    · obtain rfl : j = K := by omega
      by_cases h1 : j < n
      · have i1 : (j : Int) < (n : Int) := by omega
        by_cases h2 : j < 255
        · have h3 := HEND.out (by rw [HR.out.2]; exact h1) h2
          obtain ⟨ad, rfl, _, hc⟩ := i32_at HR.out.1 h1
          generalize ls.getD j 0 = z at *
          have i2 : (j : Int) < 255 := by omega
          have i3 : ¬ z ≤ 65535 := by omega
          clear hlt h1 h2 h3 hj HLL
          go_wp2
          go_ret
          exact ⟨rfl, rfl⟩
        · have i2 : ¬ (j : Int) < 255 := by omega
          clear hlt h1 h2 hj HLL
          go_wp2
          go_ret
          exact ⟨rfl, rfl⟩
      · have i1 : ¬ (j : Int) < (n : Int) := by omega
        clear hlt h1 hj HLL
        go_wp2
        go_ret
        exact ⟨rfl, rfl⟩
def pulD (l : List Int) : BD := ⟨19, 0, l⟩
def lvlD (u : Int) : BD := ⟨43, u, []⟩
def chD (a : Int) (l : List Int) : BD := pulD ((a :: l).take (shN (a :: l)))
def chK (a : Int) (l : List Int) : Nat := shN (a :: l)
def chF : Nat → List Int → List BD
  | 0, _ => []
  | _ + 1, [] => []
  | f + 1, a :: l => chD a l :: chF f ((a :: l).drop (chK a l))
theorem chF_nil (f : Nat) : chF f [] = [] := by cases f <;> rfl
def exG (gs : List Int) : List Int := if gs = [] then [] else gs ++ [3500]
def useI (high : Bool) : Int := if high then 0 else 1
def exL (high : Bool) (gs : List Int) : List BD := if (0 : Int) ∈ gs then [] else lvlD (useI high) :: chF (exG gs).length (exG gs)
def exV (gs : List Int) : Int × Int × Int := if (0 : Int) ∈ gs then (0, 0, 5) else (1, 20, 0)
theorem exG_len (gs : List Int) : (exG gs).length ≤ gs.length + 1 := by unfold exG; split <;> simp
theorem exG_in {gs : List Int} (hz : isU32 gs) : ∀ z ∈ exG gs, 1 ≤ z ∧ z ≤ 65535 := by
  unfold exG
  split
  · intro z hm; simp at hm
  · intro z hm
    rcases List.mem_append.1 hm with hm | hm
    · exact hz z hm
    · rcases List.mem_singleton.1 hm with rfl; omega
theorem shN_all {ls : List Int} (h : ∀ z ∈ ls, z ≤ 65535) : shN ls = min 255 ls.length := by
  obtain ⟨h1, h2⟩ := shN_le ls
  by_cases h3 : shN ls < ls.length ∧ shN ls < 255
  · have := shN_end h3.1 h3.2
    have := h _ (mem_getD h3.1)
    omega
  · omega
theorem chK_in {a : Int} {l : List Int} (h : ∀ z ∈ a :: l, z ≤ 65535) : 1 ≤ chK a l ∧ chK a l ≤ (a :: l).length ∧ (chK a l = 255 ∨ chK a l = (a :: l).length) := by
  have := shN_all h
  unfold chK
  simp only [List.length_cons] at *
  omega
theorem tape3Info : (Tryz.prog.info? 66).map (·.size) = some 3 := by kernel_rfl
theorem intInfo4 : (Tryz.prog.info? 3).map (fun i => (i.zero, i.size, i.bytes)) = some (some (.int .i64 0), 1, 8) := by kernel_rfl
theorem blkInfo4 : (Tryz.prog.info? 34).map (fun i => (i.zero, i.size, i.bytes)) = some (some (.agg #[.int .i64 0, .int .i64 0, .int .i64 0, .int .i64 0, .int .i64 0, .int .i64 0, .int .i64 0, .int .i64 0, .int .i64 0, .int .i64 0, .int .i64 0, .int .i64 0, .slice none 0 0, .slice none 0 0, .slice none 0 0, .slice none 0 0, .slice none 0 0, .slice none 0 0]), 18, 240) := by kernel_rfl
set_option maxRecDepth 100000 in
theorem make_i64 (w : World) (n : Nat) (hn : n ≤ 2000000) : (Instr.makeSlice 29 (.int .i64 0) (.int .i64 ((n : Int) + 1))).run Tryz.prog w = .ok (.slice (some ⟨w.heap.size, 0, none⟩) 0 (n + 1)) (w.alloc (.cells (Array.replicate (n + 1) (Value.int .i64 0)) 3)) := by
  obtain ⟨i0, hi, hz0, hz1, hz2⟩ := info_parts intInfo4
  have h := run_makeSlice (P := Tryz.prog) w 29 3 i0 (.int .i64 0) Tryz.underlying29 hi hz0 .i64 .i64 0 ((n : Int) + 1) (by omega) (by omega) (by rw [hz1]; omega) (by rw [hz2]; omega) (by omega)
  rw [hz1, show ((n : Int) + 1).toNat = n + 1 by omega, Nat.mul_one] at h
  rw [h]
  congr 3
  apply Array.ext'
  rw [show (Value.int .i64 0).cells = #[Value.int .i64 0] from rfl, toList_madeCells_one]
  simp
theorem results_cell_tmp9 {P : Program} {fn : Func} {p u : Tmp} {ty : TypeId} (h : fn.results = #[.cell p ty, .tmp u]) (tmps : Array Value) (w : World) (g : Nat) (t : TypeId) (cs : Array Value) (fr : Nat × Nat) (d : TypeDesc)
    (hp : tmps.getD p undef = .pointer (some ⟨g, 0, none⟩)) (hg : w.heap[g]? = some (.cells cs t fr))
    (hu : P.underlying ty = some d) (hd : (match d with | .struct _ | .array _ _ => true | _ => false) = true) (hi : (P.info? ty).map (·.size) = some cs.size) :
    (results fn tmps).run P w = .ok (.tuple #[.agg cs, tmps.getD u undef]) w := by
  rw [results_cell_tmp h, hp]
  simp [asAddr, Result.andThen, run_loadVar_row w g t ty cs fr d hg hu hd hi]
theorem mem_of_getD {gs : List Int} {j : Nat} {z : Int} (hj : j < gs.length) (h : gs.getD j 0 = z) : z ∈ gs := by
  rw [List.getD_eq_getElem?_getD, List.getElem?_eq_getElem hj] at h
  exact h ▸ List.getElem_mem hj
theorem nz_of_all {gs : List Int} (h : ∀ k, k < gs.length → gs.getD k 0 ≠ 0) : (0 : Int) ∉ gs := by
  intro hm
  obtain ⟨k, hk, e⟩ := List.getElem_of_mem hm
  exact h k hk (by rw [List.getD_eq_getElem?_getD, List.getElem?_eq_getElem hk]; simpa using e)
theorem ex_new (w : World) : Blk ((w.alloc (.cells #[.int .i64 43, .int .i64 0, .int .i64 0, .int .i64 0, .int .i64 0, .int .i64 0, .int .i64 0, .int .i64 0, .int .i64 0, .int .i64 1, .int .i64 0, .int .i64 0, .slice none 0 0, .slice none 0 0, .slice none 0 0, .slice none 0 0, .slice none 0 0, .slice none 0 0] 34)).alloc (.cells #[.int .i64 0, .int .i64 0, .slice none 0 0] 66)) (w.heap.size + 1) 66 #[.int .i64 0, .int .i64 0, .slice none 0 0] := by
  have := Blk.new (w.alloc (.cells #[.int .i64 43, .int .i64 0, .int .i64 0, .int .i64 0, .int .i64 0, .int .i64 0, .int .i64 0, .int .i64 0, .int .i64 0, .int .i64 1, .int .i64 0, .int .i64 0, .slice none 0 0, .slice none 0 0, .slice none 0 0, .slice none 0 0, .slice none 0 0, .slice none 0 0] 34)) 66 #[.int .i64 0, .int .i64 0, .slice none 0 0]
  simpa using this
def PhiT (w : World) (base tb : Nat) (V : Value) : Nat → Prop := fun b => base ≤ b ∧ b < w.heap.size ∧ b ≠ tb ∧ V.ownBlock ≠ some b
def TB (w : World) (base tb : Nat) (V : Value) (dl : List BD) : Prop :=
  Blk w tb 66 #[.int .i64 1, .int .i64 20, V] ∧ ∃ xs, w.ownsRow base 34 18 V dl.length xs ∧ BlksAt w (PhiT w base tb V) dl xs
def XS (w : World) (base tb : Nat) (V : Value) (dl : List BD) (Al : Option Addr) (rs : List Int) : Prop := TB w base tb V dl ∧ RdP w (PhiT w base tb V) 1 Al rs.length (rs.map (Value.int .i64))
theorem XS.below {w w' : World} {base tb : Nat} {V : Value} {dl : List BD} {Al : Option Addr} {rs : List Int} (h : XS w base tb V dl Al rs) (hb : Below w.heap.size w w') : XS w' base tb V dl Al rs := by
  obtain ⟨⟨hB, xs, ho, hk⟩, hl⟩ := h
  have hs := hb.size
  have h1 : ∀ b, PhiT w base tb V b → w'.heap[b]? = w.heap[b]? := fun b hp => hb.block b hp.2.1
  have h2 : ∀ b, PhiT w base tb V b → PhiT w' base tb V b := fun b hp => ⟨hp.1, by have := hp.2.1; omega, hp.2.2⟩
  refine ⟨⟨hB.below hb hB.lt, xs, ?_, hk.keep h1 h2⟩, hl.keep h1 h2⟩
  refine ⟨ho.1, ?_⟩
  rcases ho.2 with hn | ⟨g, cap, cur, rfl, hg, hh, hr⟩
  · exact .inl hn
  · exact .inr ⟨g, cap, cur, rfl, hg, (hb.block g (Blk.lt hh)).trans hh, hr⟩
theorem lvl_at (w : World) (φ : Nat → Prop) (u : Int) : BlkAt w φ (lvlD u) [.int .i64 43, .int .i64 0, .int .i64 0, .int .i64 0, .int .i64 0, .int .i64 0, .int .i64 0, .int .i64 0, .int .i64 0, .int .i64 u, .int .i64 0, .int .i64 0, .slice none 0 0, .slice none 0 0, .slice none 0 0, .slice none 0 0, .slice none 0 0, .slice none 0 0] :=
  ⟨none, 0, 0, rfl, RdP.none_, Nat.le_refl _, fun _ => ⟨rfl, rfl⟩⟩
theorem xs_start {wc wx : World} {s0 r cl : Nat} {u : Int} {Al : Option Addr} {rs : List Int} (hT : Blk wc (s0 + 1) 66 #[.int .i64 1, .int .i64 20, .slice (some ⟨s0, 0, none⟩) 1 1]) (hR : Blk wc s0 34 #[.int .i64 43, .int .i64 0, .int .i64 0, .int .i64 0, .int .i64 0, .int .i64 0, .int .i64 0, .int .i64 0, .int .i64 0, .int .i64 u, .int .i64 0, .int .i64 0, .slice none 0 0, .slice none 0 0, .slice none 0 0, .slice none 0 0, .slice none 0 0, .slice none 0 0])
    (ho : wx.ownsRow wc.heap.size 3 1 (.slice Al r cl) r (rs.map (Value.int .i64))) (hb : Below wc.heap.size wc wx) (hr : r = rs.length) :
    XS wx s0 (s0 + 1) (.slice (some ⟨s0, 0, none⟩) 1 1) [lvlD u] Al rs := by
  subst hr
  have hl := hT.lt
  refine ⟨⟨hT.below hb hl, [.int .i64 43, .int .i64 0, .int .i64 0, .int .i64 0, .int .i64 0, .int .i64 0, .int .i64 0, .int .i64 0, .int .i64 0, .int .i64 u, .int .i64 0, .int .i64 0, .slice none 0 0, .slice none 0 0, .slice none 0 0, .slice none 0 0, .slice none 0 0, .slice none 0 0], ⟨rfl, .inr ⟨s0, 1, #[.int .i64 43, .int .i64 0, .int .i64 0, .int .i64 0, .int .i64 0, .int .i64 0, .int .i64 0, .int .i64 0, .int .i64 0, .int .i64 u, .int .i64 0, .int .i64 0, .slice none 0 0, .slice none 0 0, .slice none 0 0, .slice none 0 0, .slice none 0 0, .slice none 0 0], rfl, Nat.le_refl _, hR.below hb (by omega), Nat.le_refl _, by decide, rfl, rfl⟩⟩, BlksAt.single (lvl_at _ _ u)⟩, ?_⟩
  exact (RdP.of_own ho).keep (fun b _ => rfl) (fun b hp => ⟨by omega, hp.2, by omega, by simp [Value.ownBlock]; omega⟩)
theorem _root_.Go.Proofs.YtnlaedfnifimkaaGreat.RdP.take_ {w : World} {φ : Nat → Prop} {n k : Nat} {A : Option Addr} {zs : List Int} (h : RdP w φ 1 A n (zs.map (Value.int .i64))) (hk : k ≤ n) : RdP w φ 1 A k ((zs.take k).map (Value.int .i64)) := by
  have hl := h.1
  rw [List.length_map] at hl
  refine ⟨by rw [List.length_map, List.length_take]; omega, fun h0 => ?_⟩
  obtain ⟨ad, e, hp, hc⟩ := h.2 (by omega)
  refine ⟨ad, e, hp, fun j u hu => hc j u ?_⟩
  rw [List.getElem?_map, List.getElem?_take] at hu
  rw [List.getElem?_map]
  split at hu
  · exact hu
  · simp at hu
theorem _root_.Go.Proofs.YtnlaedfnifimkaaGreat.RdP.drop_ {w : World} {φ : Nat → Prop} {n k : Nat} {ad : Addr} {zs : List Int} (h : RdP w φ 1 (some ad) n (zs.map (Value.int .i64))) (hk : k ≤ n) : RdP w φ 1 (some (ad.add k)) (n - k) ((zs.drop k).map (Value.int .i64)) := by
  have hl := h.1
  rw [List.length_map] at hl
  refine ⟨by rw [List.length_map, List.length_drop]; omega, fun h0 => ?_⟩
  obtain ⟨ad', e, hp, hc⟩ := h.2 (by omega)
  injection e with e
  subst e
  refine ⟨_, rfl, by rw [block_of_add]; exact hp, fun j u hu => ?_⟩
  rw [add_of_add]
  refine hc _ _ ?_
  rw [List.getElem?_map, List.getElem?_drop] at hu
  rw [List.getElem?_map]
  exact hu
theorem _root_.Go.Proofs.YtnlaedfnifimkaaGreat.RdP.cut_ {w : World} {φ : Nat → Prop} {n k cl : Nat} {ad : Addr} {zs : List Int} (h : RdP w φ 1 (some ad) n (zs.map (Value.int .i64))) (hk : k ≤ n) (hc : n ≤ cl) : RdP w φ 1 (if cl = k then some ad else some (ad.add k)) (zs.drop k).length ((zs.drop k).map (Value.int .i64)) := by
  have hl := h.1
  rw [List.length_map] at hl
  have hd := h.drop_ hk
  have e : n - k = (zs.drop k).length := by rw [List.length_drop]; omega
  rw [e] at hd
  split
  · have h0 : (zs.drop k).length = 0 := by rw [List.length_drop]; omega
    have hz : zs.drop k = [] := List.eq_nil_of_length_eq_zero h0
    rw [hz]
    exact RdP.none_
  · exact hd
theorem xs_step {w w2 : World} {base tb : Nat} {V v' : Value} {dl : List BD} {Al : Option Addr} {rs : List Int} {d : BD} {cs xs : List Value} (hB : Blk w tb 66 #[.int .i64 1, .int .i64 20, V]) (hbk : BlksAt w (PhiT w base tb V) dl xs) (hl : RdP w (PhiT w base tb V) 1 Al rs.length (rs.map (Value.int .i64))) (hc : BlkAt w (PhiT w base tb V) d cs)
    (ho : w2.ownsRow base 34 18 v' (dl.length + 1) (xs ++ cs)) (hg : (w.alloc (.cells cs.toArray 34)).grownBy w2 V.ownBlock) (hv : v'.ownBlock = V.ownBlock ∨ v'.ownBlock = some (w.alloc (.cells cs.toArray 34)).heap.size) (hne : V.ownBlock ≠ some tb) :
    XS (w2.setCell ⟨tb, 2, none⟩ v') base tb v' (dl ++ [d]) Al rs := by
  have hs1 : (w.alloc (.cells cs.toArray 34)).heap.size = w.heap.size + 1 := by simp
  have hs2 := hg.size
  have htb := hB.lt
  have hs3 : (w2.setCell ⟨tb, 2, none⟩ v').heap.size = w2.heap.size := by simp [World.setCell]
  have hB2 : Blk w2 tb 66 #[.int .i64 1, .int .i64 20, V] := (hB.alloc _).grown hg (fun e => hne e.symm)
  have h1 : ∀ b, PhiT w base tb V b → (w2.setCell ⟨tb, 2, none⟩ v').heap[b]? = w.heap[b]? := fun b hp =>
    (Below.heap_setCell _ _ _ _ (by have := hp.2.2.1; show b ≠ tb; exact this)).trans ((hg.block b (by have := hp.2.1; omega) (fun e => hp.2.2.2 e.symm)).trans (Below.heap_alloc _ _ _ hp.2.1))
  have h2 : ∀ b, PhiT w base tb V b → PhiT (w2.setCell ⟨tb, 2, none⟩ v') base tb v' b := fun b hp => ⟨hp.1, by have := hp.2.1; omega, hp.2.2.1, by
    rcases hv with e | e
    · rw [e]; exact hp.2.2.2
    · rw [e, hs1]; intro e2; injection e2 with e2; have := hp.2.1; omega⟩
  refine ⟨⟨hB2.set_ 2 v', xs ++ cs, ?_, (hbk.keep h1 h2).app (BlksAt.single (hc.keep h1 h2))⟩, hl.keep h1 h2⟩
  have := ownsRow_setCell_other ho (a := ⟨tb, 2, none⟩) (own_blk_ne ho hB2 (by decide)) v'
  rw [List.length_append]
  exact this
def LoopE (w0 : World) (u : Int) (gs : List Int) (l : Value) (wr : World) : Prop := ∃ (Al : Option Addr) (cl f : Nat) (rs : List Int) (dl : List BD) (V : Value), l = .slice Al rs.length cl ∧ rs.length ≤ cl ∧ XS wr w0.heap.size (w0.heap.size + 1) V dl Al rs ∧ dl ++ chF f rs = lvlD u :: chF (exG gs).length (exG gs) ∧ rs.length ≤ f ∧ 255 * dl.length + rs.length ≤ 510 + 100001 - (if rs = [] then 0 else 255) ∧ (∀ z ∈ rs, 1 ≤ z ∧ z ≤ 65535) ∧ Below w0.heap.size w0 wr
def lenV : Value → Nat
  | .slice _ n _ => n
  | _ => 0
set_option maxRecDepth 100000 in
set_option maxHeartbeats 8000000 in
theorem exact_any (w : World) (high : Bool) (A : Option Addr) (n c : Nat) (gs : List Int) (hr : Reads w w.heap.size 1 A n (gs.map (Value.int .u32))) (hz : isU32 gs) (hn : n ≤ 100000) :
    Calls Tryz.prog 46 #[.bool high, .slice A n c] w fun e w' => ∃ A' m c' xs, e = .returned (.tuple #[.agg #[.int .i64 (exV gs).1, .int .i64 (exV gs).2.1, .slice A' m c'], .int .i64 (exV gs).2.2]) ∧ RdP w' (fun b => w.heap.size ≤ b ∧ b < w'.heap.size) 18 A' m xs ∧ BlksAt w' (fun b => w.heap.size ≤ b ∧ b < w'.heap.size) (exL high gs) xs ∧ Below w.heap.size w w' := by
  obtain ⟨i0, hi, hz0, hz1, hz2⟩ := info_parts intInfo4
  obtain ⟨i1, hj, hy0, hy1, hy2⟩ := info_parts blkInfo4
  have hl := reads_len hr
  have HG := Lib.hid (And.intro hr (And.intro hz hl))
  clear hr hz hl
  go_enter Tryz.func46, Tryz.ntmps46
  go_upto_region 1 with fail
  have hs0 : (w.alloc (.cells #[.int .i64 0, .int .i64 0, .slice none 0 0] 66)).heap.size = w.heap.size + 1 := by simp
  have hR0 : Blk (w.alloc (.cells #[.int .i64 0, .int .i64 0, .slice none 0 0] 66)) w.heap.size 66 #[.int .i64 0, .int .i64 0, .slice none 0 0] := Blk.new w _ _
  have hb0 : Below w.heap.size w (w.alloc (.cells #[.int .i64 0, .int .i64 0, .slice none 0 0] 66)) := (Below.refl _ _).alloc (Nat.le_refl _) _
  generalize (w.alloc (.cells #[.int .i64 0, .int .i64 0, .slice none 0 0] 66)) = w0 at *
  have HM := Lib.hid (And.intro hs0 (And.intro hR0 hb0))
  clear hs0 hR0 hb0
  go_upto_region 2 with (first
    | (refine wpList_store_box rfl 66 _ _ rfl (w0.heap.size + 1) #[.int .i64 1, .int .i64 20, .slice (some ⟨w0.heap.size, 0, none⟩) 1 1] rfl rfl 66 #[.int .i64 0, .int .i64 0, .slice none 0 0] (ex_new w0) tape3Info rfl (by simp [Value.oneCell']) ?_)
    | fail)
  intro w6 hB6 hg6
  have hR6 : Blk w6 w0.heap.size 34 #[.int .i64 43, .int .i64 0, .int .i64 0, .int .i64 0, .int .i64 0, .int .i64 0, .int .i64 0, .int .i64 0, .int .i64 0, .int .i64 1, .int .i64 0, .int .i64 0, .slice none 0 0, .slice none 0 0, .slice none 0 0, .slice none 0 0, .slice none 0 0, .slice none 0 0] := (Blk.alloc (Blk.new w0 _ _) _).grown hg6 (fun e => by injection e with e; omega)
  have hb6 : Below w0.heap.size w0 w6 := (((Below.refl _ _).alloc (Nat.le_refl _) _).alloc (by simp) _).grown hg6 (by simp; omega) (fun b hb => by injection hb with hb; omega)
  have H6 := Lib.hid (And.intro hB6 (And.intro hR6 hb6))
  clear hB6 hR6 hb6 hg6
  go_upto_region 2 with fail
  obtain ⟨u, hu⟩ : ∃ u : Int, u = useI high := ⟨_, rfl⟩
  have HU := Lib.hid hu
  clear hu
  go_upto_if 15 with fail
  go_cut [] from 16 to 19 (fun wx => Blk wx (w0.heap.size + 1) 66 #[.int .i64 1, .int .i64 20, .slice (some ⟨w0.heap.size, 0, none⟩) 1 1] ∧ Blk wx w0.heap.size 34 #[.int .i64 43, .int .i64 0, .int .i64 0, .int .i64 0, .int .i64 0, .int .i64 0, .int .i64 0, .int .i64 0, .int .i64 0, .int .i64 u, .int .i64 0, .int .i64 0, .slice none 0 0, .slice none 0 0, .slice none 0 0, .slice none 0 0, .slice none 0 0, .slice none 0 0] ∧ Below w0.heap.size w0 wx)
  case first =>
    cases high with
    | true =>
      have c2 : w6.cell? ⟨w0.heap.size + 1, 2, none⟩ = some (.slice (some ⟨w0.heap.size, 0, none⟩) 1 1) := (H6.out.1.cell 2).trans rfl
      have f9 : w6.frozen? ⟨w0.heap.size, 9, none⟩ = false := H6.out.2.1.frozen 9
      have c9 : w6.cell? ⟨w0.heap.size, 9, none⟩ = some (.int .i64 1) := (H6.out.2.1.cell 9).trans rfl
      go_wp2_with fail
      go_meet
      have hu0 : u = 0 := HU.out
      subst hu0
      exact ⟨H6.out.1.far (p := ⟨w0.heap.size, 9, none⟩) (by show w0.heap.size + 1 ≠ w0.heap.size; omega) _, H6.out.2.1.set_ 9 _, H6.out.2.2.setCell (Nat.le_refl _) _⟩
    | false =>
      go_wp2_with fail
      go_meet
      have hu0 : u = 1 := HU.out
      subst hu0
      exact H6.out
  case rest =>
  rename World => wd
  obtain ⟨hT, hR, hb⟩ := hcut
  have HT := Lib.hid (And.intro hT (And.intro hR hb))
  have hmk := make_i64 wd n (by omega)
  have hwn : IntKind.i64.wrap ((n : Int) + 1) = (n : Int) + 1 := by rw [IntKind.wrap_i64]; omega
  have hV : (wd.alloc (.cells (Array.replicate (n + 1) (Value.int .i64 0)) 3)).ownsRow wd.heap.size 3 1 (.slice (some ⟨wd.heap.size, 0, none⟩) 0 (n + 1)) 0 [] := World.ownsRow_made wd _ (n + 1) (Nat.le_refl _) (by unfold maxLen; omega) (by simp)
  have hVb : Below wd.heap.size wd (wd.alloc (.cells (Array.replicate (n + 1) (Value.int .i64 0)) 3)) := (Below.refl _ _).alloc (Nat.le_refl _) _
  have HV := Lib.hid (And.intro hV hVb)
  clear hT hR hb hV hVb
  go_upto_region 5 with fail
  generalize (wd.alloc (.cells (Array.replicate (n + 1) (Value.int .i64 0)) 3)) = w7 at *
  clear hmk hwn
  go_wp2_with fail
  go_loopw [7, 26] (fun v i wr => ∃ j : Nat, j ≤ n ∧ i = .int .i64 j ∧ wr.ownsRow wd.heap.size 3 1 v j ((gs.take j).map (Value.int .i64)) ∧ (∀ k, k < j → gs.getD k 0 ≠ 0) ∧ Below wd.heap.size wd wr) (fun _ i _ => n - (intOf i).toNat)
  case atStart => exact ⟨0, by omega, rfl, by simpa using HV.out.1, fun k hk => absurd hk (by omega), HV.out.2⟩
  case round =>
    obtain ⟨j, hjn, rfl, hown, hne, hbl⟩ := hrel
    have hj0 : (0 : Int) ≤ (j : Int) := Int.natCast_nonneg _
    have hsz := hbl.size
    by_cases hlt : j < n
    · have hwj : IntKind.i64.wrap ((j : Int) + 1) = (j : Int) + 1 := by rw [IntKind.wrap_i64]; omega
      have hjI : (j : Int) < (n : Int) := by omega
      have hbw : Below w.heap.size w wr := (HM.out.2.2.trans (HT.out.2.2.mono (by rw [HM.out.1]; omega))).trans (hbl.mono (by have := HT.out.2.2.size; have := HM.out.1; omega))
      obtain ⟨ad, rfl, _, hc⟩ := i32_at (HG.out.1.below hbw) hlt
      obtain ⟨z0, z1⟩ := isU32_at HG.out.2.1 (k := j) (by rw [HG.out.2.2]; exact hlt)
      have hsn := take_snocI gs j (by rw [HG.out.2.2]; exact hlt)
      have HSN := Lib.hid hsn
      clear hsn
      have HNE := Lib.hid hne
      clear hne
      by_cases hg0 : gs.getD j 0 = 0
      · rw [hg0] at hc
        have HMEM := Lib.hid (mem_of_getD (by rw [HG.out.2.2]; exact hlt) hg0)
        have hRx : Blk wr w.heap.size 66 #[.int .i64 0, .int .i64 0, .slice none 0 0] := (HM.out.2.1.below HT.out.2.2 (by rw [HM.out.1]; omega)).below hbl (by have := HT.out.2.2.size; have := HM.out.1; omega)
        have HBW := Lib.hid hbw
        clear hbw hbl hown hg0 z0 z1 HNE HSN
        go_wp2_with (first
          | (refine wpList_store_box rfl 66 _ _ rfl (w.heap.size) #[.int .i64 0, .int .i64 0, .slice none 0 0] rfl rfl 66 #[.int .i64 0, .int .i64 0, .slice none 0 0] hRx tape3Info rfl (by simp [Value.oneCell']) ?_)
          | fail)
        intro w9 hB9 hg9
        have HZ := Lib.hid (HBW.out.grown hg9 HBW.out.size (fun b hb => by injection hb with hb; omega))
        clear hRx hg9
        go_wp2_with fail
        refine bodyPost_ret (results_cell_tmp9 rfl _ _ w.heap.size 66 _ (0, 0) _ rfl hB9 Tryz.underlying66 rfl tape3Info) rfl ?_
        have hm := HMEM.out
        rw [show exV gs = (0, 0, 5) from if_pos hm, show exL high gs = [] from if_pos hm]
        exact ⟨none, 0, 0, [], rfl, RdP.none_, rfl, HZ.out⟩
      · have HG0 := Lib.hid hg0
        generalize hzd : gs.getD j 0 = z at *
        have HZD := Lib.hid hzd
        clear hzd
        have hwz : IntKind.i64.wrap z = z := by rw [IntKind.wrap_i64]; omega
        have hz9 : (z == 0) = false := by simpa using hg0
        have HC := Lib.hid (And.intro (lit_cells wr [.int .i64 z] 3) (And.intro (show ∀ u ∈ [Value.int .i64 z], u.oneCell' = true by intro u hu; simp at hu; rcases hu with rfl; rfl) (And.intro (show j + 1 ≤ maxLen by unfold maxLen; omega) (And.intro (show (j + 1) * 8 ≤ 140737488355328 by omega) (show wd.heap.size ≤ (wr.alloc (.cells #[.int .i64 z] 3)).heap.size by simp; omega)))))
        have HX := Lib.hid (And.intro hown hbl)
        have hown9 := hown.alloc (.cells #[.int .i64 z] 3)
        clear hbw hbl hown
        go_wp2_with (first
          | (at_builtin; refine wpList_append_own _ rfl _ _ 29 rfl wd.heap.size 3 i0 (.int .i64 0) 1 8 Tryz.underlying29 hi hz0 hz1 hz2 rfl (by decide) _ _ _ rfl hown9 ⟨wr.heap.size, 0, none⟩ 1 1 [.int .i64 z] rfl rfl HC.out.1 HC.out.2.1 HC.out.2.2.1 HC.out.2.2.2.1 HC.out.2.2.2.2 ?_)
          | go_in)
        intro v' w1 hown' hgrow _
        obtain ⟨hown, hbl⟩ := HX.out
        have hb1 : Below wd.heap.size wd w1 := (hbl.alloc hsz (.cells #[.int .i64 z] 3)).grown hgrow (by simp; omega) (fun i hi => (hown.lt i hi).1)
        have hsn := HSN.out
        have HR := Lib.hid (show w1.ownsRow wd.heap.size 3 1 v' (j + 1) ((gs.take (j + 1)).map (Value.int .i64)) by rw [hsn, List.map_append]; simpa using hown')
        have HR2 := Lib.hid hb1
        clear hown hbl hown' hgrow hb1 hsn hown9
        go_wp2
        go_roundw
        case rel => exact ⟨j + 1, by omega, by go_num, HR.out, fun k hk => by
            rcases Nat.lt_or_ge k j with h | h
            · exact HNE.out k h
            · obtain rfl : k = j := by omega
              rw [HZD.out]; exact HG0.out, HR2.out⟩
        case measure => simp [intOf]; omega
    · obtain rfl : j = n := by omega
      rw [show gs.take j = gs by rw [← HG.out.2.2, List.take_length]] at hown
      have hnz := nz_of_all (gs := gs) (fun k hk => hne k (by rw [← HG.out.2.2]; exact hk))
      have HNZ := Lib.hid hnz
      have HX := Lib.hid (And.intro hown hbl)
      clear hne hnz
      obtain ⟨A1, c1, rfl⟩ := own_slice hown
      clear hown hbl
      go_upto_if 41 with fail
      go_cut [7, 41] from 42 to 44 (fun v _ wx => ∃ (r : Nat), r = (exG gs).length ∧ wx.ownsRow wd.heap.size 3 1 v r ((exG gs).map (Value.int .i64)) ∧ Below wd.heap.size wd wx)
      case first =>
        obtain ⟨hown, hbl⟩ := HX.out
        by_cases hjp : 0 < j
        · have hjI : (0 : Int) < (j : Int) := by omega
          have hgx : exG gs = gs ++ [3500] := by unfold exG; rw [if_neg (by intro e; have := HG.out.2.2; rw [e] at this; simp at this; omega)]
          have HGX := Lib.hid hgx
          have HC := Lib.hid (And.intro (lit_cells wr [.int .i64 3500] 3) (And.intro (show ∀ u ∈ [Value.int .i64 3500], u.oneCell' = true by intro u hu; simp at hu; rcases hu with rfl; rfl) (And.intro (show j + 1 ≤ maxLen by unfold maxLen; omega) (And.intro (show (j + 1) * 8 ≤ 140737488355328 by omega) (show wd.heap.size ≤ (wr.alloc (.cells #[.int .i64 3500] 3)).heap.size by simp; omega)))))
          have hown9 := hown.alloc (.cells #[.int .i64 3500] 3)
          clear hown hbl hgx
          go_wp2_with (first
            | (at_builtin; refine wpList_append_own _ rfl _ _ 29 rfl wd.heap.size 3 i0 (.int .i64 0) 1 8 Tryz.underlying29 hi hz0 hz1 hz2 rfl (by decide) _ _ _ rfl hown9 ⟨wr.heap.size, 0, none⟩ 1 1 [.int .i64 3500] rfl rfl HC.out.1 HC.out.2.1 HC.out.2.2.1 HC.out.2.2.2.1 HC.out.2.2.2.2 ?_)
            | go_in)
          intro v' w1 hown' hgrow _
          obtain ⟨hown, hbl⟩ := HX.out
          have hb1 : Below wd.heap.size wd w1 := (hbl.alloc hsz (.cells #[.int .i64 3500] 3)).grown hgrow (by simp; omega) (fun i hi => (hown.lt i hi).1)
          have HR := Lib.hid (And.intro hown' hb1)
          clear hown hbl hown' hgrow hb1 hown9
          go_wp2_with fail
          go_meet
          refine ⟨j + 1, by rw [HGX.out, List.length_append, HG.out.2.2]; rfl, ?_, HR.out.2⟩
          rw [HGX.out, List.map_append]
          exact HR.out.1
        · obtain rfl : j = 0 := by omega
          have hgx : gs = [] := List.eq_nil_of_length_eq_zero HG.out.2.2
          have HGX := Lib.hid hgx
          clear hown hbl hgx
          go_wp2_with fail
          go_meet
          refine ⟨0, by rw [HGX.out]; rfl, ?_, HX.out.2⟩
          have := HX.out.1
          rw [HGX.out] at this ⊢
          exact this
      case rest =>
      obtain ⟨r, hr, hown, hbl⟩ := hcut
      obtain ⟨A2, c2, rfl⟩ := own_slice hown
      have hrc : r ≤ c2 := by
        obtain ⟨A3, c3, e, h⟩ := own_sliceC hown
        injection e with _ _ e
        omega
      have hst := xs_start (u := u) HT.out.1 HT.out.2.1 hown hbl hr
      have hbw : Below w0.heap.size w0 wc := HT.out.2.2.trans (hbl.mono (by have := HT.out.2.2.size; omega))
      have HS := Lib.hid (And.intro hst (And.intro hbw (And.intro hrc hr)))
      clear hown hbl hst hbw
      go_wp2_with fail
      clear hrc hr
      go_loopw [7] (fun l wr => LoopE w0 u gs l wr) (fun l _ => lenV l)
      case atStart =>
        obtain ⟨h1, h2, h3, h4⟩ := HS.out
        subst h4
        exact ⟨A2, c2, (exG gs).length, exG gs, [lvlD u], _, rfl, h3, h1, rfl, Nat.le_refl _, by have := exG_len gs; have := HG.out.2.2; simp only [List.length_singleton]; split <;> omega, exG_in HG.out.2.1, h2⟩
      case round =>
        obtain ⟨Al, cl, f, rs, dl, V, rfl, hcl, hXS, hch, hf, hdl, hin, hbl⟩ := hrel
        have hXS9 := hXS
        obtain ⟨⟨hB, xs, hown, hbk⟩, hl⟩ := hXS9
        obtain ⟨Av, cv, rfl⟩ := own_slice hown
        cases rs with
        | nil =>
          have hnil : dl = lvlD u :: chF (exG gs).length (exG gs) := by rw [chF_nil, List.append_nil] at hch; exact hch
          have hRx : Blk wr w.heap.size 66 #[.int .i64 0, .int .i64 0, .slice none 0 0] := HM.out.2.1.below hbl (by rw [HM.out.1]; omega)
          have hbw : Below w.heap.size w wr := HM.out.2.2.trans (hbl.mono (by rw [HM.out.1]; omega))
          have HX := Lib.hid (And.intro hown (And.intro hbk (And.intro hnil hbw)))
          clear hXS hown hbk hl hch hf hdl hin hbl hnil hbw
          go_wp2_with (first
            | (refine wpList_load_box rfl 66 _ rfl (w0.heap.size + 1) rfl 66 #[.int .i64 1, .int .i64 20, .slice Av dl.length cv] hB _ Tryz.underlying66 rfl tape3Info ?_)
            | (refine wpList_store_box rfl 66 _ _ rfl (w.heap.size) #[.int .i64 1, .int .i64 20, .slice Av dl.length cv] rfl rfl 66 #[.int .i64 0, .int .i64 0, .slice none 0 0] hRx tape3Info rfl (by simp [Value.oneCell']) ?_)
            | fail)
          try (refine fun (_ : Hid _) => ?_)
          refine wpList_store_box rfl 66 _ _ rfl (w.heap.size) #[.int .i64 1, .int .i64 20, .slice Av dl.length cv] rfl rfl 66 #[.int .i64 0, .int .i64 0, .slice none 0 0] hRx tape3Info rfl (by simp [Value.oneCell']) ?_
          intro w9 hB9 hg9
          have H9 := Lib.hid hg9
          clear hRx hB hg9
          go_wp2_with fail
          refine bodyPost_ret (results_cell_tmp9 rfl _ _ w.heap.size 66 _ (0, 0) _ rfl hB9 Tryz.underlying66 rfl tape3Info) rfl ?_
          obtain ⟨hown, hbk, hnil, hbw⟩ := HX.out
          have hs0 := HM.out.1
          have hg9 := H9.out
          have hs9 := hg9.size
          have hnz : ¬ (0 : Int) ∈ gs := HNZ.out
          rw [show exV gs = (1, 20, 0) from if_neg hnz]
          refine ⟨Av, _, cv, xs, rfl, ?_, ?_, hbw.grown hg9 hbw.size (fun b hb => by injection hb with hb; omega)⟩
          · exact (RdP.of_own (hown.kept hg9 (.inr (fun e => by have := (hown.lt _ e).1; omega)))).keep (fun b _ => rfl) (fun b hp => ⟨by omega, hp.2⟩)
          · rw [show exL high gs = lvlD (useI high) :: chF (exG gs).length (exG gs) from if_neg hnz, ← HU.out, ← hnil]
            exact hbk.keep (fun b hp => hg9.block b hp.2.1 (by intro e; injection e with e; have := hp.1; omega)) (fun b hp => ⟨by have := hp.1; omega, by have := hp.2.1; omega⟩)
        | cons a rs =>
          obtain ⟨f, rfl⟩ : ∃ g, f = g + 1 := ⟨f - 1, by simp at hf; omega⟩
          obtain ⟨k1, k2, k3⟩ := chK_in (a := a) (l := rs) (fun z hz => (hin z hz).2)
          have ha := hin a (by simp)
          obtain ⟨m, rfl⟩ : ∃ m : Nat, a = (m : Int) := ⟨a.toNat, by omega⟩
          have hlen : ((m : Int) :: rs).length = rs.length + 1 := List.length_cons
          have hLR : Reads wr wr.heap.size 1 Al ((m : Int) :: rs).length (((m : Int) :: rs).map (Value.int .i64)) := hl.reads (fun b hp => hp.2.1)
          obtain ⟨ad, rfl, _, hc0⟩ := i32_at hLR (k := 0) (by simp)
          rw [show ad.add 0 = ad from rfl, show ((m : Int) :: rs).getD 0 0 = (m : Int) from rfl] at hc0
          have hsh := shorts_any wr wr.heap.size _ cl _ ((m : Int) :: rs) hLR (by omega)
          obtain ⟨hK1, hK2⟩ := shN_le ((m : Int) :: rs)
          have HK := Lib.hid (show chF (f + 1) ((m : Int) :: rs) = chD m rs :: chF f (((m : Int) :: rs).drop (chK m rs)) from rfl)
          obtain ⟨R, hR⟩ : ∃ R : Nat, R = ((m : Int) :: rs).length := ⟨_, rfl⟩
          rw [← hR] at hK1 hcl hsh hLR ⊢
          have c2 : wr.cell? ⟨w0.heap.size + 1, 2, none⟩ = some (.slice Av dl.length cv) := (hB.cell 2).trans rfl
          have hd1 : ¬ (dl.length : Int) = 4096 := by rw [if_neg (by simp)] at hdl; omega
          have hR0 : (0 : Int) < (R : Int) := by rw [hR, hlen]; omega
          have HX := Lib.hid (And.intro hXS (And.intro hch (And.intro hf (And.intro hdl (And.intro hin hbl)))))
          have HXR := Lib.hid (And.intro hR (And.intro hLR (And.intro hown (And.intro hbk (And.intro hl hB)))))
          have HPO := Lib.hid (And.intro k1 (And.intro k2 (And.intro ha (And.intro hlen k3))))
          clear hXS hch hf hdl hin hbl hR hLR hown hbk hl hB k1 k2 k3 ha hlen
          go_wp2_with fail
          refine hsh.mono ?_
          rintro e w1 ⟨rfl, rfl⟩
          clear hsh
          have HKD := Lib.hid (show chD m rs = pulD (((m : Int) :: rs).take (shN ((m : Int) :: rs))) from rfl)
          have HKK := Lib.hid (show chK m rs = shN ((m : Int) :: rs) from rfl)
          have HEND := Lib.hid (show shN ((m : Int) :: rs) = 0 → 65535 < (m : Int) from fun h0 => by
            have := shN_end (ls := (m : Int) :: rs) (by rw [h0]; simp) (by omega)
            rw [h0] at this
            exact this)
          generalize shN ((m : Int) :: rs) = K at *
          have hKc : (K : Int) ≤ (cl : Int) := by omega
          have hK0 : (0 : Int) ≤ (K : Int) := Int.natCast_nonneg _
          have hKcN : K ≤ cl := by omega
          go_upto_region 19 with (first
            | (refine wpList_store_box rfl 34 _ _ rfl (wr.heap.size) #[.int .i64 19, .int .i64 0, .int .i64 0, .int .i64 0, .int .i64 0, .int .i64 0, .int .i64 0, .int .i64 0, .int .i64 0, .int .i64 0, .int .i64 0, .int .i64 0, .slice none 0 0, .slice (some ad) K K, .slice none 0 0, .slice none 0 0, .slice none 0 0, .slice none 0 0] rfl rfl 34 #[.int .i64 0, .int .i64 0, .int .i64 0, .int .i64 0, .int .i64 0, .int .i64 0, .int .i64 0, .int .i64 0, .int .i64 0, .int .i64 0, .int .i64 0, .int .i64 0, .slice none 0 0, .slice none 0 0, .slice none 0 0, .slice none 0 0, .slice none 0 0, .slice none 0 0] (Blk.new wr _ _) blkInfo rfl (by simp [Value.oneCell']) ?_)
            | fail)
          intro w5 hB5 hg5
          have hb5 : Below wr.heap.size wr w5 := ((Below.refl _ _).alloc (Nat.le_refl _) _).grown hg5 (by simp) (fun b hb => by injection hb with hb; omega)
          have H5 := Lib.hid (And.intro hB5 hb5)
          clear hB5 hg5 hb5
          go_upto_if 61 with fail
          go_cut [10, 61] from 62 to 65 (fun k _ wx => ∃ (K' : Nat) (cs : List Value), k = .int .i64 K' ∧ K' = chK m rs ∧ Blk wx wr.heap.size 34 cs.toArray ∧ BlkAt wx (PhiT wx w0.heap.size (w0.heap.size + 1) (.slice Av dl.length cv)) (chD m rs) cs ∧ Below wr.heap.size wr wx)
          case first =>
            have hb5 := H5.out.2
            have hs5 := hb5.size
            by_cases hKz : K = 0
            · subst hKz
              exact absurd (HEND.out rfl) (by have := HPO.out.2.2.1.2; omega)
            · have hKI : ¬ (K : Int) = 0 := by omega
              have hKB : ((K : Int) == 0) = false := by simpa using hKI
              go_wp2_with fail
              go_meet
              refine ⟨K, [.int .i64 19, .int .i64 0, .int .i64 0, .int .i64 0, .int .i64 0, .int .i64 0, .int .i64 0, .int .i64 0, .int .i64 0, .int .i64 0, .int .i64 0, .int .i64 0, .slice none 0 0, .slice (some ad) K K, .slice none 0 0, .slice none 0 0, .slice none 0 0, .slice none 0 0], rfl, HKK.out.symm, H5.out.1, ?_, hb5⟩
              rw [HKD.out]
              have hl := (HXR.out.2.2.2.2.1.take_ (k := K) (by rw [← HXR.out.1]; omega)).keep (w' := w5) (ψ := PhiT w5 w0.heap.size (w0.heap.size + 1) (.slice Av dl.length cv)) (fun b hp => hb5.block b hp.2.1) (fun b hp => ⟨hp.1, by have := hp.2.1; omega, hp.2.2⟩)
              exact ⟨some ad, K, K, rfl, hl, Nat.le_refl _, fun e => absurd e hKz⟩
          case rest =>
          obtain ⟨K', cs, rfl, hKe, hBc, hcs, hbc⟩ := hcut
          have hXW := HX.out.1.below hbc
          obtain ⟨⟨hB, ys, hown, hbk⟩, hl⟩ := hXW
          have hKR : K' ≤ R := by rw [hKe, HXR.out.1]; exact HPO.out.2.1
          have hKn : (K' : Int) ≤ (R : Int) := by omega
          have hKp : (0 : Int) ≤ (K' : Int) := Int.natCast_nonneg _
          have hKc2 : (K' : Int) ≤ (cl : Int) := by omega
          have HKE := Lib.hid hKe
          have hdl9 : dl.length ≤ 4003 := by have := HX.out.2.2.2.1; omega
          have hbs : w0.heap.size ≤ wc.heap.size := by have := HX.out.2.2.2.2.2.size; have := hbc.size; omega
          generalize hdd : chD m rs = d at *
          have HDD := Lib.hid hdd
          have HCS := Lib.hid hcs
          obtain ⟨ta, tn, tc, rfl, _⟩ := hcs
          have HB := Lib.hid (And.intro hB (And.intro hbk (And.intro hl hbc)))
          have HOW := Lib.hid (And.intro hown hBc)
          have HOL := Lib.hid hown.lt
          clear hB hbk hl hbc hKe hdd hown hBc c2 hc0
          go_upto_region 21 with fail
          refine wp_region_held_drew (S := fun w' => True) (by kernel_rfl) ?_ (fun hHeld => ?_)
          · trivial
          obtain ⟨hB, hbk, hl, hbc⟩ := HB.out
          obtain ⟨hown, hBc⟩ := HOW.out
          have HF := Lib.hid (And.intro (show Blk wc.drew (w0.heap.size + 1) 66 #[.int .i64 1, .int .i64 20, .slice Av dl.length cv] from hB) (And.intro (show BlksAt wc.drew (PhiT wc.drew w0.heap.size (w0.heap.size + 1) (.slice Av dl.length cv)) dl ys from BlksAt.keep (w := wc) (w' := wc.drew) (φ := PhiT wc w0.heap.size (w0.heap.size + 1) (.slice Av dl.length cv)) (fun _ _ => rfl) (fun _ h => h) hbk) (And.intro (show RdP wc.drew (PhiT wc.drew w0.heap.size (w0.heap.size + 1) (.slice Av dl.length cv)) 1 (some ad) ((m : Int) :: rs).length (((m : Int) :: rs).map (Value.int .i64)) from hl) (And.intro (show BlkAt wc.drew (PhiT wc.drew w0.heap.size (w0.heap.size + 1) (.slice Av dl.length cv)) d [.int .i64 d.i0, .int .i64 0, .int .i64 0, .int .i64 0, .int .i64 0, .int .i64 0, .int .i64 0, .int .i64 0, .int .i64 0, .int .i64 d.i9, .int .i64 0, .int .i64 0, .slice none 0 0, .slice ta tn tc, .slice none 0 0, .slice none 0 0, .slice none 0 0, .slice none 0 0] from BlkAt.keep (w := wc) (w' := wc.drew) (φ := PhiT wc w0.heap.size (w0.heap.size + 1) (.slice Av dl.length cv)) HCS.out (fun _ _ => rfl) (fun _ h => h)) (hbc.drew)))))
          have hown : wc.drew.ownsRow w0.heap.size 34 18 (.slice Av dl.length cv) dl.length ys := hown
          have hBc : Blk wc.drew wr.heap.size 34 #[.int .i64 d.i0, .int .i64 0, .int .i64 0, .int .i64 0, .int .i64 0, .int .i64 0, .int .i64 0, .int .i64 0, .int .i64 0, .int .i64 d.i9, .int .i64 0, .int .i64 0, .slice none 0 0, .slice ta tn tc, .slice none 0 0, .slice none 0 0, .slice none 0 0, .slice none 0 0] := hBc
          have hbs : w0.heap.size ≤ wc.drew.heap.size := hbs
          clear hB hbk hl hbc HB HOW HCS
          generalize wc.drew = W at *
          have HC := Lib.hid (And.intro (lit_cells W [.int .i64 d.i0, .int .i64 0, .int .i64 0, .int .i64 0, .int .i64 0, .int .i64 0, .int .i64 0, .int .i64 0, .int .i64 0, .int .i64 d.i9, .int .i64 0, .int .i64 0, .slice none 0 0, .slice ta tn tc, .slice none 0 0, .slice none 0 0, .slice none 0 0, .slice none 0 0] 34) (And.intro HF.out.2.2.2.1.one (And.intro (show dl.length + 1 ≤ maxLen by unfold maxLen; omega) (And.intro (show (dl.length + 1) * 240 ≤ 140737488355328 by omega) (show w0.heap.size ≤ (W.alloc (.cells #[.int .i64 d.i0, .int .i64 0, .int .i64 0, .int .i64 0, .int .i64 0, .int .i64 0, .int .i64 0, .int .i64 0, .int .i64 0, .int .i64 d.i9, .int .i64 0, .int .i64 0, .slice none 0 0, .slice ta tn tc, .slice none 0 0, .slice none 0 0, .slice none 0 0, .slice none 0 0] 34)).heap.size by simp; omega)))))
          have hown9 := hown.alloc (.cells #[.int .i64 d.i0, .int .i64 0, .int .i64 0, .int .i64 0, .int .i64 0, .int .i64 0, .int .i64 0, .int .i64 0, .int .i64 0, .int .i64 d.i9, .int .i64 0, .int .i64 0, .slice none 0 0, .slice ta tn tc, .slice none 0 0, .slice none 0 0, .slice none 0 0, .slice none 0 0] 34)
          have hrd : Reads (W.alloc (.cells #[.int .i64 d.i0, .int .i64 0, .int .i64 0, .int .i64 0, .int .i64 0, .int .i64 0, .int .i64 0, .int .i64 0, .int .i64 0, .int .i64 d.i9, .int .i64 0, .int .i64 0, .slice none 0 0, .slice ta tn tc, .slice none 0 0, .slice none 0 0, .slice none 0 0, .slice none 0 0] 34)) (W.heap.size + 1) 18 (some ⟨W.heap.size, 0, none⟩) 1 [.int .i64 d.i0, .int .i64 0, .int .i64 0, .int .i64 0, .int .i64 0, .int .i64 0, .int .i64 0, .int .i64 0, .int .i64 0, .int .i64 d.i9, .int .i64 0, .int .i64 0, .slice none 0 0, .slice ta tn tc, .slice none 0 0, .slice none 0 0, .slice none 0 0, .slice none 0 0] := ⟨rfl, fun _ => ⟨_, rfl, by show W.heap.size < W.heap.size + 1; omega, HC.out.1⟩⟩
          have HRD := Lib.hid hrd
          clear hrd
          have c2W : W.cell? ⟨w0.heap.size + 1, 2, none⟩ = some (.slice Av dl.length cv) := (HF.out.1.cell 2).trans rfl
          have c2A : (W.alloc (.cells #[.int .i64 d.i0, .int .i64 0, .int .i64 0, .int .i64 0, .int .i64 0, .int .i64 0, .int .i64 0, .int .i64 0, .int .i64 0, .int .i64 d.i9, .int .i64 0, .int .i64 0, .slice none 0 0, .slice ta tn tc, .slice none 0 0, .slice none 0 0, .slice none 0 0, .slice none 0 0] 34)).cell? ⟨w0.heap.size + 1, 2, none⟩ = some (.slice Av dl.length cv) := ((HF.out.1.alloc _).cell 2).trans rfl
          refine wpAnyH_take (i := 0) (oi := _) (v := ?_) (by simp only [List.getElem?_toArray, List.getElem?_cons_succ, List.getElem?_cons_zero]; rfl) (by kernel_rfl) (by kernel_rfl) (by kernel_rfl) (by intro _ _ _ h; exact h) (Or.inl ⟨by rfl, ?_⟩) trivial ?_
          rotate_left
          · intro w hSw
            try dsimp only at hSw
            go_simp
            try with_reducible rfl
          try simp only [Act.put, List.setIfInBounds_toArray, List.set_cons_zero, List.set_cons_succ]
          refine wpAnyH_take (i := 5) (oi := _) (v := ?_) (by simp only [List.getElem?_toArray, List.getElem?_cons_succ, List.getElem?_cons_zero]; rfl) (by kernel_rfl) (by kernel_rfl) (by kernel_rfl) (by intro _ _ _ h; exact h) (Or.inl ⟨by rfl, ?_⟩) trivial ?_
          rotate_left
          · intro w hSw
            try dsimp only at hSw
            go_simp
            try with_reducible rfl
          try simp only [Act.put, List.setIfInBounds_toArray, List.set_cons_zero, List.set_cons_succ]
          refine wpAnyH_take (i := 6) (oi := _) (v := ?_) (by simp only [List.getElem?_toArray, List.getElem?_cons_succ, List.getElem?_cons_zero]; rfl) (by kernel_rfl) (by kernel_rfl) (by kernel_rfl) (by intro _ _ _ h; exact h) (Or.inl ⟨by rfl, ?_⟩) trivial ?_
          rotate_left
          · intro w hSw
            try dsimp only at hSw
            go_simp
            try with_reducible rfl
          try simp only [Act.put, List.setIfInBounds_toArray, List.set_cons_zero, List.set_cons_succ]
          refine wpAnyH_take (i := 7) (oi := _) (v := ?_) (by simp only [List.getElem?_toArray, List.getElem?_cons_succ, List.getElem?_cons_zero]; rfl) (by kernel_rfl) (by kernel_rfl) (by kernel_rfl) (by intro _ _ _ h; exact h) (Or.inl ⟨by rfl, ?_⟩) trivial ?_
          rotate_left
          · intro w hSw
            try dsimp only at hSw
            go_simp
            try with_reducible rfl
          try simp only [Act.put, List.setIfInBounds_toArray, List.set_cons_zero, List.set_cons_succ]
          refine wpAnyH_ready (rs := [1, 2]) (by kernel_rfl) (by simp) ?_
          refine AllReadyH.cons (o := _) (by simp only [List.getElem?_toArray, List.getElem?_cons_succ, List.getElem?_cons_zero]; rfl) (fun K hK => ?_) (AllReadyH.cons (o := _) (by simp only [List.getElem?_toArray, List.getElem?_cons_succ, List.getElem?_cons_zero]; rfl) (fun K hK => ?_) AllReadyH.nil)
          · go_simp
            refine hK.out _ _ ?_ (fun hHeld => ?_)
            · trivial
            clear hK K
            try simp only [Act.put, List.setIfInBounds_toArray, List.set_cons_zero, List.set_cons_succ]
            refine wpAnyH_ready (rs := [2]) (by kernel_rfl) (by simp) ?_
            refine AllReadyH.cons (o := _) (by simp only [List.getElem?_toArray, List.getElem?_cons_succ, List.getElem?_cons_zero]; rfl) (fun K hK => ?_) AllReadyH.nil
            refine step_load_box rfl 34 _ (by rfl) wr.heap.size (by rfl) 34 #[.int .i64 d.i0, .int .i64 0, .int .i64 0, .int .i64 0, .int .i64 0, .int .i64 0, .int .i64 0, .int .i64 0, .int .i64 0, .int .i64 d.i9, .int .i64 0, .int .i64 0, .slice none 0 0, .slice ta tn tc, .slice none 0 0, .slice none 0 0, .slice none 0 0, .slice none 0 0] hBc _ Tryz.underlying34 rfl blkInfo ?_
            refine hK.out _ _ ?_ (fun hHeld => ?_)
            · trivial
            clear hK K
            try simp only [Act.put, List.setIfInBounds_toArray, List.set_cons_zero, List.set_cons_succ]
            refine wpAnyH_ready (rs := [3]) (by kernel_rfl) (by simp) ?_
            refine AllReadyH.cons (o := _) (by simp only [List.getElem?_toArray, List.getElem?_cons_succ, List.getElem?_cons_zero]; rfl) (fun K hK => ?_) AllReadyH.nil
            go_simp
            refine hK.out _ _ ?_ (fun hHeld => ?_)
            · trivial
            clear hK K
            try simp only [Act.put, List.setIfInBounds_toArray, List.set_cons_zero, List.set_cons_succ]
            refine wpAnyH_ready (rs := [4]) (by kernel_rfl) (by simp) ?_
            refine AllReadyH.cons (o := _) (by simp only [List.getElem?_toArray, List.getElem?_cons_succ, List.getElem?_cons_zero]; rfl) (fun K hK => ?_) AllReadyH.nil
            refine step_append_any _ (by rfl) _ _ _ (by rfl) w0.heap.size 34 i1 (.agg #[.int .i64 0, .int .i64 0, .int .i64 0, .int .i64 0, .int .i64 0, .int .i64 0, .int .i64 0, .int .i64 0, .int .i64 0, .int .i64 0, .int .i64 0, .int .i64 0, .slice none 0 0, .slice none 0 0, .slice none 0 0, .slice none 0 0, .slice none 0 0, .slice none 0 0]) 18 240 Tryz.underlying64 hj hy0 hy1 hy2 rfl (by decide) (.slice Av dl.length cv) dl.length ys (by rfl) hown9 (W.heap.size + 1) (some ⟨W.heap.size, 0, none⟩) 1 1 [.int .i64 d.i0, .int .i64 0, .int .i64 0, .int .i64 0, .int .i64 0, .int .i64 0, .int .i64 0, .int .i64 0, .int .i64 0, .int .i64 d.i9, .int .i64 0, .int .i64 0, .slice none 0 0, .slice ta tn tc, .slice none 0 0, .slice none 0 0, .slice none 0 0, .slice none 0 0] (by rfl) HRD.out HC.out.2.1 HC.out.2.2.1 HC.out.2.2.2.1 HC.out.2.2.2.2 ?_
            intro v3 w3 own3 hg3 hv3
            obtain ⟨A3, c3, rfl⟩ := own_slice own3
            have hBw3 : Blk w3 (w0.heap.size + 1) 66 #[.int .i64 1, .int .i64 20, .slice Av dl.length cv] := (HF.out.1.alloc _).grown hg3 (fun e => own_blk_ne hown HF.out.1 (by decide) e.symm)
            refine hK.out _ _ ?_ (fun hHeld => ?_)
            · trivial
            clear hK K
            try simp only [Act.put, List.setIfInBounds_toArray, List.set_cons_zero, List.set_cons_succ]
            have c3w : w3.cell? ⟨w0.heap.size + 1, 2, none⟩ = some (.slice Av dl.length cv) := (hBw3.cell 2).trans rfl
            have f3w : w3.frozen? ⟨w0.heap.size + 1, 2, none⟩ = false := hBw3.frozen 2
            have HEN := Lib.hid (And.intro own3 (And.intro hg3 (And.intro hv3 (And.intro hBw3 (own_blk_ne hown HF.out.1 (by decide))))))
            clear own3 hg3 hv3 hBw3 hown9 hown hBc c2W c2A
            refine wpAnyH_take (i := 8) (oi := _) (v := ?_) (by simp only [List.getElem?_toArray, List.getElem?_cons_succ, List.getElem?_cons_zero]; rfl) (by kernel_rfl) (by kernel_rfl) (by kernel_rfl) (by intro _ _ _ h; exact h) (Or.inl ⟨by rfl, ?_⟩) trivial ?_
            rotate_left
            · intro w hSw
              try dsimp only at hSw
              go_simp
              try with_reducible rfl
            try simp only [Act.put, List.setIfInBounds_toArray, List.set_cons_zero, List.set_cons_succ]
            refine wpAnyH_ready (rs := [9]) (by kernel_rfl) (by simp) ?_
            refine AllReadyH.cons (o := _) (by simp only [List.getElem?_toArray, List.getElem?_cons_succ, List.getElem?_cons_zero]; rfl) (fun K hK => ?_) AllReadyH.nil
            go_simp
            refine hK.out _ _ ?_ (fun hHeld => ?_)
            · trivial
            clear hK K
            try simp only [Act.put, List.setIfInBounds_toArray, List.set_cons_zero, List.set_cons_succ]
            refine wpAnyH_ready (rs := [10]) (by kernel_rfl) (by simp) ?_
            refine AllReadyH.cons (o := _) (by simp only [List.getElem?_toArray, List.getElem?_cons_succ, List.getElem?_cons_zero]; rfl) (fun K hK => ?_) AllReadyH.nil
            go_simp
            refine hK.out _ _ ?_ (fun hHeld => ?_)
            · trivial
            clear hK K
            try simp only [Act.put, List.setIfInBounds_toArray, List.set_cons_zero, List.set_cons_succ]
            refine wpAnyH_done (by kernel_rfl) ?_ _
            have hcut9 := HF.out.2.2.1.cut_ (k := K') (cl := cl) (by rw [← HXR.out.1]; exact hKR) (by rw [← HXR.out.1]; exact hcl)
            generalize (if cl = K' then some ad else some (ad.add K')) = Al9 at *
            have HCUT := Lib.hid hcut9
            clear hcut9
            go_wp2
            go_roundw
            case rel =>
              obtain ⟨hB, hbk, hl, hc, hbc⟩ := HF.out
              obtain ⟨own3, hg3, hv3, hBw3, hne⟩ := HEN.out
              obtain ⟨hXS, hch, hf, hdl, hin, hbl⟩ := HX.out
              obtain ⟨k1, k2, _, hlen, k3⟩ := HPO.out
              have hKe := HKE.out
              have hR := HXR.out.1
              have hst := xs_step hB hbk HCUT.out hc own3 hg3 hv3 hne
              have hb9 : Below w0.heap.size w0 (w3.setCell ⟨w0.heap.size + 1, 2, none⟩ (.slice A3 (dl.length + 1) c3)) := (((hbl.trans (hbc.mono hbl.size)).alloc hbs _).grown hg3 (by simp; omega) (fun b hb => by have := (HOL.out b hb).1; exact this)).setCell (by show w0.heap.size ≤ w0.heap.size + 1; omega) _
              have hld : (((m : Int) :: rs).drop K').length = R - K' := by rw [List.length_drop, hR]
              refine ⟨_, cl - K', f, ((m : Int) :: rs).drop K', dl ++ [d], .slice A3 (dl.length + 1) c3, by rw [hld], by rw [hld]; omega, hst, ?_, ?_, ?_, fun z hz => hin z (List.mem_of_mem_drop hz), hb9⟩
              · rw [List.append_assoc, ← hch, HK.out, hKe]; rfl
              · rw [hld, hR]; omega
              · rw [List.length_append, hld]; have hdl := hdl; rw [if_neg (by simp)] at hdl; rw [← hKe] at k1 k3; rw [← hR] at k3 hdl; simp only [List.length_singleton]; split <;> first | omega | (rename_i hne9; have : (((m : Int) :: rs).drop K').length ≠ 0 := fun e => hne9 (List.eq_nil_of_length_eq_zero e); rw [hld] at this; omega)
            case measure => simp [lenV]; have := HPO.out.1; have := HKE.out; omega
          · refine step_load_box rfl 34 _ (by rfl) wr.heap.size (by rfl) 34 #[.int .i64 d.i0, .int .i64 0, .int .i64 0, .int .i64 0, .int .i64 0, .int .i64 0, .int .i64 0, .int .i64 0, .int .i64 0, .int .i64 d.i9, .int .i64 0, .int .i64 0, .slice none 0 0, .slice ta tn tc, .slice none 0 0, .slice none 0 0, .slice none 0 0, .slice none 0 0] hBc _ Tryz.underlying34 rfl blkInfo ?_
            refine hK.out _ _ ?_ (fun hHeld => ?_)
            · trivial
            clear hK K
            try simp only [Act.put, List.setIfInBounds_toArray, List.set_cons_zero, List.set_cons_succ]
            refine wpAnyH_ready (rs := [1, 3]) (by kernel_rfl) (by simp) ?_
            refine AllReadyH.cons (o := _) (by simp only [List.getElem?_toArray, List.getElem?_cons_succ, List.getElem?_cons_zero]; rfl) (fun K hK => ?_) (AllReadyH.cons (o := _) (by simp only [List.getElem?_toArray, List.getElem?_cons_succ, List.getElem?_cons_zero]; rfl) (fun K hK => ?_) AllReadyH.nil)
            · go_simp
              refine hK.out _ _ ?_ (fun hHeld => ?_)
              · trivial
              clear hK K
              try simp only [Act.put, List.setIfInBounds_toArray, List.set_cons_zero, List.set_cons_succ]
              refine wpAnyH_ready (rs := [3]) (by kernel_rfl) (by simp) ?_
              refine AllReadyH.cons (o := _) (by simp only [List.getElem?_toArray, List.getElem?_cons_succ, List.getElem?_cons_zero]; rfl) (fun K hK => ?_) AllReadyH.nil
              go_simp
              refine hK.out _ _ ?_ (fun hHeld => ?_)
              · trivial
              clear hK K
              try simp only [Act.put, List.setIfInBounds_toArray, List.set_cons_zero, List.set_cons_succ]
              refine wpAnyH_ready (rs := [4]) (by kernel_rfl) (by simp) ?_
              refine AllReadyH.cons (o := _) (by simp only [List.getElem?_toArray, List.getElem?_cons_succ, List.getElem?_cons_zero]; rfl) (fun K hK => ?_) AllReadyH.nil
              refine step_append_any _ (by rfl) _ _ _ (by rfl) w0.heap.size 34 i1 (.agg #[.int .i64 0, .int .i64 0, .int .i64 0, .int .i64 0, .int .i64 0, .int .i64 0, .int .i64 0, .int .i64 0, .int .i64 0, .int .i64 0, .int .i64 0, .int .i64 0, .slice none 0 0, .slice none 0 0, .slice none 0 0, .slice none 0 0, .slice none 0 0, .slice none 0 0]) 18 240 Tryz.underlying64 hj hy0 hy1 hy2 rfl (by decide) (.slice Av dl.length cv) dl.length ys (by rfl) hown9 (W.heap.size + 1) (some ⟨W.heap.size, 0, none⟩) 1 1 [.int .i64 d.i0, .int .i64 0, .int .i64 0, .int .i64 0, .int .i64 0, .int .i64 0, .int .i64 0, .int .i64 0, .int .i64 0, .int .i64 d.i9, .int .i64 0, .int .i64 0, .slice none 0 0, .slice ta tn tc, .slice none 0 0, .slice none 0 0, .slice none 0 0, .slice none 0 0] (by rfl) HRD.out HC.out.2.1 HC.out.2.2.1 HC.out.2.2.2.1 HC.out.2.2.2.2 ?_
              intro v3 w3 own3 hg3 hv3
              obtain ⟨A3, c3, rfl⟩ := own_slice own3
              have hBw3 : Blk w3 (w0.heap.size + 1) 66 #[.int .i64 1, .int .i64 20, .slice Av dl.length cv] := (HF.out.1.alloc _).grown hg3 (fun e => own_blk_ne hown HF.out.1 (by decide) e.symm)
              refine hK.out _ _ ?_ (fun hHeld => ?_)
              · trivial
              clear hK K
              try simp only [Act.put, List.setIfInBounds_toArray, List.set_cons_zero, List.set_cons_succ]
              have c3w : w3.cell? ⟨w0.heap.size + 1, 2, none⟩ = some (.slice Av dl.length cv) := (hBw3.cell 2).trans rfl
              have f3w : w3.frozen? ⟨w0.heap.size + 1, 2, none⟩ = false := hBw3.frozen 2
              have HEN := Lib.hid (And.intro own3 (And.intro hg3 (And.intro hv3 (And.intro hBw3 (own_blk_ne hown HF.out.1 (by decide))))))
              clear own3 hg3 hv3 hBw3 hown9 hown hBc c2W c2A
              refine wpAnyH_take (i := 8) (oi := _) (v := ?_) (by simp only [List.getElem?_toArray, List.getElem?_cons_succ, List.getElem?_cons_zero]; rfl) (by kernel_rfl) (by kernel_rfl) (by kernel_rfl) (by intro _ _ _ h; exact h) (Or.inl ⟨by rfl, ?_⟩) trivial ?_
              rotate_left
              · intro w hSw
                try dsimp only at hSw
                go_simp
                try with_reducible rfl
              try simp only [Act.put, List.setIfInBounds_toArray, List.set_cons_zero, List.set_cons_succ]
              refine wpAnyH_ready (rs := [9]) (by kernel_rfl) (by simp) ?_
              refine AllReadyH.cons (o := _) (by simp only [List.getElem?_toArray, List.getElem?_cons_succ, List.getElem?_cons_zero]; rfl) (fun K hK => ?_) AllReadyH.nil
              go_simp
              refine hK.out _ _ ?_ (fun hHeld => ?_)
              · trivial
              clear hK K
              try simp only [Act.put, List.setIfInBounds_toArray, List.set_cons_zero, List.set_cons_succ]
              refine wpAnyH_ready (rs := [10]) (by kernel_rfl) (by simp) ?_
              refine AllReadyH.cons (o := _) (by simp only [List.getElem?_toArray, List.getElem?_cons_succ, List.getElem?_cons_zero]; rfl) (fun K hK => ?_) AllReadyH.nil
              go_simp
              refine hK.out _ _ ?_ (fun hHeld => ?_)
              · trivial
              clear hK K
              try simp only [Act.put, List.setIfInBounds_toArray, List.set_cons_zero, List.set_cons_succ]
              refine wpAnyH_done (by kernel_rfl) ?_ _
              have hcut9 := HF.out.2.2.1.cut_ (k := K') (cl := cl) (by rw [← HXR.out.1]; exact hKR) (by rw [← HXR.out.1]; exact hcl)
              generalize (if cl = K' then some ad else some (ad.add K')) = Al9 at *
              have HCUT := Lib.hid hcut9
              clear hcut9
              go_wp2
              go_roundw
              case rel =>
                obtain ⟨hB, hbk, hl, hc, hbc⟩ := HF.out
                obtain ⟨own3, hg3, hv3, hBw3, hne⟩ := HEN.out
                obtain ⟨hXS, hch, hf, hdl, hin, hbl⟩ := HX.out
                obtain ⟨k1, k2, _, hlen, k3⟩ := HPO.out
                have hKe := HKE.out
                have hR := HXR.out.1
                have hst := xs_step hB hbk HCUT.out hc own3 hg3 hv3 hne
                have hb9 : Below w0.heap.size w0 (w3.setCell ⟨w0.heap.size + 1, 2, none⟩ (.slice A3 (dl.length + 1) c3)) := (((hbl.trans (hbc.mono hbl.size)).alloc hbs _).grown hg3 (by simp; omega) (fun b hb => by have := (HOL.out b hb).1; exact this)).setCell (by show w0.heap.size ≤ w0.heap.size + 1; omega) _
                have hld : (((m : Int) :: rs).drop K').length = R - K' := by rw [List.length_drop, hR]
                refine ⟨_, cl - K', f, ((m : Int) :: rs).drop K', dl ++ [d], .slice A3 (dl.length + 1) c3, by rw [hld], by rw [hld]; omega, hst, ?_, ?_, ?_, fun z hz => hin z (List.mem_of_mem_drop hz), hb9⟩
                · rw [List.append_assoc, ← hch, HK.out, hKe]; rfl
                · rw [hld, hR]; omega
                · rw [List.length_append, hld]; have hdl := hdl; rw [if_neg (by simp)] at hdl; rw [← hKe] at k1 k3; rw [← hR] at k3 hdl; simp only [List.length_singleton]; split <;> first | omega | (rename_i hne9; have : (((m : Int) :: rs).drop K').length ≠ 0 := fun e => hne9 (List.eq_nil_of_length_eq_zero e); rw [hld] at this; omega)
              case measure => simp [lenV]; have := HPO.out.1; have := HKE.out; omega
            · go_simp
              refine hK.out _ _ ?_ (fun hHeld => ?_)
              · trivial
              clear hK K
              try simp only [Act.put, List.setIfInBounds_toArray, List.set_cons_zero, List.set_cons_succ]
              refine wpAnyH_ready (rs := [1]) (by kernel_rfl) (by simp) ?_
              refine AllReadyH.cons (o := _) (by simp only [List.getElem?_toArray, List.getElem?_cons_succ, List.getElem?_cons_zero]; rfl) (fun K hK => ?_) AllReadyH.nil
              go_simp
              refine hK.out _ _ ?_ (fun hHeld => ?_)
              · trivial
              clear hK K
              try simp only [Act.put, List.setIfInBounds_toArray, List.set_cons_zero, List.set_cons_succ]
              refine wpAnyH_ready (rs := [4]) (by kernel_rfl) (by simp) ?_
              refine AllReadyH.cons (o := _) (by simp only [List.getElem?_toArray, List.getElem?_cons_succ, List.getElem?_cons_zero]; rfl) (fun K hK => ?_) AllReadyH.nil
              refine step_append_any _ (by rfl) _ _ _ (by rfl) w0.heap.size 34 i1 (.agg #[.int .i64 0, .int .i64 0, .int .i64 0, .int .i64 0, .int .i64 0, .int .i64 0, .int .i64 0, .int .i64 0, .int .i64 0, .int .i64 0, .int .i64 0, .int .i64 0, .slice none 0 0, .slice none 0 0, .slice none 0 0, .slice none 0 0, .slice none 0 0, .slice none 0 0]) 18 240 Tryz.underlying64 hj hy0 hy1 hy2 rfl (by decide) (.slice Av dl.length cv) dl.length ys (by rfl) hown9 (W.heap.size + 1) (some ⟨W.heap.size, 0, none⟩) 1 1 [.int .i64 d.i0, .int .i64 0, .int .i64 0, .int .i64 0, .int .i64 0, .int .i64 0, .int .i64 0, .int .i64 0, .int .i64 0, .int .i64 d.i9, .int .i64 0, .int .i64 0, .slice none 0 0, .slice ta tn tc, .slice none 0 0, .slice none 0 0, .slice none 0 0, .slice none 0 0] (by rfl) HRD.out HC.out.2.1 HC.out.2.2.1 HC.out.2.2.2.1 HC.out.2.2.2.2 ?_
              intro v3 w3 own3 hg3 hv3
              obtain ⟨A3, c3, rfl⟩ := own_slice own3
              have hBw3 : Blk w3 (w0.heap.size + 1) 66 #[.int .i64 1, .int .i64 20, .slice Av dl.length cv] := (HF.out.1.alloc _).grown hg3 (fun e => own_blk_ne hown HF.out.1 (by decide) e.symm)
              refine hK.out _ _ ?_ (fun hHeld => ?_)
              · trivial
              clear hK K
              try simp only [Act.put, List.setIfInBounds_toArray, List.set_cons_zero, List.set_cons_succ]
              have c3w : w3.cell? ⟨w0.heap.size + 1, 2, none⟩ = some (.slice Av dl.length cv) := (hBw3.cell 2).trans rfl
              have f3w : w3.frozen? ⟨w0.heap.size + 1, 2, none⟩ = false := hBw3.frozen 2
              have HEN := Lib.hid (And.intro own3 (And.intro hg3 (And.intro hv3 (And.intro hBw3 (own_blk_ne hown HF.out.1 (by decide))))))
              clear own3 hg3 hv3 hBw3 hown9 hown hBc c2W c2A
              refine wpAnyH_take (i := 8) (oi := _) (v := ?_) (by simp only [List.getElem?_toArray, List.getElem?_cons_succ, List.getElem?_cons_zero]; rfl) (by kernel_rfl) (by kernel_rfl) (by kernel_rfl) (by intro _ _ _ h; exact h) (Or.inl ⟨by rfl, ?_⟩) trivial ?_
              rotate_left
              · intro w hSw
                try dsimp only at hSw
                go_simp
                try with_reducible rfl
              try simp only [Act.put, List.setIfInBounds_toArray, List.set_cons_zero, List.set_cons_succ]
              refine wpAnyH_ready (rs := [9]) (by kernel_rfl) (by simp) ?_
              refine AllReadyH.cons (o := _) (by simp only [List.getElem?_toArray, List.getElem?_cons_succ, List.getElem?_cons_zero]; rfl) (fun K hK => ?_) AllReadyH.nil
              go_simp
              refine hK.out _ _ ?_ (fun hHeld => ?_)
              · trivial
              clear hK K
              try simp only [Act.put, List.setIfInBounds_toArray, List.set_cons_zero, List.set_cons_succ]
              refine wpAnyH_ready (rs := [10]) (by kernel_rfl) (by simp) ?_
              refine AllReadyH.cons (o := _) (by simp only [List.getElem?_toArray, List.getElem?_cons_succ, List.getElem?_cons_zero]; rfl) (fun K hK => ?_) AllReadyH.nil
              go_simp
              refine hK.out _ _ ?_ (fun hHeld => ?_)
              · trivial
              clear hK K
              try simp only [Act.put, List.setIfInBounds_toArray, List.set_cons_zero, List.set_cons_succ]
              refine wpAnyH_done (by kernel_rfl) ?_ _
              have hcut9 := HF.out.2.2.1.cut_ (k := K') (cl := cl) (by rw [← HXR.out.1]; exact hKR) (by rw [← HXR.out.1]; exact hcl)
              generalize (if cl = K' then some ad else some (ad.add K')) = Al9 at *
              have HCUT := Lib.hid hcut9
              clear hcut9
              go_wp2
              go_roundw
              case rel =>
                obtain ⟨hB, hbk, hl, hc, hbc⟩ := HF.out
                obtain ⟨own3, hg3, hv3, hBw3, hne⟩ := HEN.out
                obtain ⟨hXS, hch, hf, hdl, hin, hbl⟩ := HX.out
                obtain ⟨k1, k2, _, hlen, k3⟩ := HPO.out
                have hKe := HKE.out
                have hR := HXR.out.1
                have hst := xs_step hB hbk HCUT.out hc own3 hg3 hv3 hne
                have hb9 : Below w0.heap.size w0 (w3.setCell ⟨w0.heap.size + 1, 2, none⟩ (.slice A3 (dl.length + 1) c3)) := (((hbl.trans (hbc.mono hbl.size)).alloc hbs _).grown hg3 (by simp; omega) (fun b hb => by have := (HOL.out b hb).1; exact this)).setCell (by show w0.heap.size ≤ w0.heap.size + 1; omega) _
                have hld : (((m : Int) :: rs).drop K').length = R - K' := by rw [List.length_drop, hR]
                refine ⟨_, cl - K', f, ((m : Int) :: rs).drop K', dl ++ [d], .slice A3 (dl.length + 1) c3, by rw [hld], by rw [hld]; omega, hst, ?_, ?_, ?_, fun z hz => hin z (List.mem_of_mem_drop hz), hb9⟩
                · rw [List.append_assoc, ← hch, HK.out, hKe]; rfl
                · rw [hld, hR]; omega
                · rw [List.length_append, hld]; have hdl := hdl; rw [if_neg (by simp)] at hdl; rw [← hKe] at k1 k3; rw [← hR] at k3 hdl; simp only [List.length_singleton]; split <;> first | omega | (rename_i hne9; have : (((m : Int) :: rs).drop K').length ≠ 0 := fun e => hne9 (List.eq_nil_of_length_eq_zero e); rw [hld] at this; omega)
              case measure => simp [lenV]; have := HPO.out.1; have := HKE.out; omega
end Tl
end Go.Proofs.YtnlaedfnifimkaaGreat
namespace Go.Proofs.YtnlaedfnifimkaaGreat
open Go.RowKit
namespace Tl
set_option maxRecDepth 100000 in
set_option maxHeartbeats 4000000 in
theorem fit_any (w : World) (B : Nat) (A : Option Addr) (n c : Nat) (most : Int) (zs : List Int) (hr : Reads w B 1 A n (zs.map (Value.int .i64))) (hz : ∀ z ∈ zs, 0 ≤ z ∧ z ≤ most) (hn : n ≤ 1000000) :
    Calls Tryz.prog 47 #[.int .i64 most, .slice A n c] w fun x w' => x = .returned (.bool true) ∧ w = w' := by
  have HL := Lib.hid (rd_len hr)
  go_enter Tryz.func47, Tryz.ntmps47
  go_wp2
  go_loop [9] (fun i => ∃ k : Nat, k ≤ n ∧ i = .int .i64 k) (fun i => n - (intOf i).toNat)
  case atStart => exact ⟨0, by omega, rfl⟩
  case round =>
    obtain ⟨k, hk, rfl⟩ := hrel
    by_cases hlt : k < n
    · obtain ⟨z0, z1⟩ := hz (zs.getD k 0) (mem_getD (by rw [HL.out]; exact hlt))
      obtain ⟨ad, rfl, hab, hc⟩ := rd_at hr hlt
      generalize zs.getD k 0 = z at *
      go_wp2
      go_round
      case rel => exact ⟨k + 1, by omega, by go_num⟩
      case measure => simp [intOf]; omega
    · go_wp2
      go_ret
      exact ⟨rfl, rfl⟩
theorem lit_ints (w : World) (t : TypeId) (zs : List Int) (cs : Array Value) (hc : cs = (zs.map (Value.int .i64)).toArray) : Reads (w.alloc (.cells cs t)) (w.alloc (.cells cs t)).heap.size 1 (some ⟨w.heap.size, 0, none⟩) zs.length (zs.map (Value.int .i64)) := by
  have := reads_new w t cs (zs.map (Value.int .i64)) (by rw [hc])
  rw [List.length_map] at this
  exact this
theorem fit_lit (w : World) (t : TypeId) (zs : List Int) (cs : Array Value) (n c : Nat) (most : Int) (hc : cs = (zs.map (Value.int .i64)).toArray) (hl : n = zs.length) (hz : ∀ z ∈ zs, 0 ≤ z ∧ z ≤ most) (hn : n ≤ 1000000) :
    Calls Tryz.prog 47 #[.int .i64 most, .slice (some ⟨w.heap.size, 0, none⟩) n c] (w.alloc (.cells cs t)) fun x w' => x = .returned (.bool true) ∧ (w.alloc (.cells cs t)) = w' := by
  subst hl
  exact fit_any _ _ _ _ _ most zs (lit_ints w t zs cs hc) hz hn
theorem blkInfo' : (Tryz.prog.info? 34).map (·.size) = some 18 := by kernel_rfl
set_option maxRecDepth 100000 in
set_option maxHeartbeats 4000000 in
theorem empty_any (w : World) (I : Int) : Calls Tryz.prog 84 #[.agg #[.int .i64 I, .int .i64 0, .int .i64 0, .int .i64 0, .int .i64 0, .int .i64 0, .int .i64 0, .int .i64 0, .int .i64 0, .int .i64 0, .int .i64 0, .int .i64 0, .slice none 0 0, .slice none 0 0, .slice none 0 0, .slice none 0 0, .slice none 0 0, .slice none 0 0]] w fun x w' => x = .returned (.bool true) ∧ Below w.heap.size w w' := by
  go_enter Tryz.func84, Tryz.ntmps84
  go_upto_region 1 with fail
  have hb0 : Below w.heap.size w (w.alloc (.cells #[.int .i64 I, .int .i64 0, .int .i64 0, .int .i64 0, .int .i64 0, .int .i64 0, .int .i64 0, .int .i64 0, .int .i64 0, .int .i64 0, .int .i64 0, .int .i64 0, .slice none 0 0, .slice none 0 0, .slice none 0 0, .slice none 0 0, .slice none 0 0, .slice none 0 0] 34)) := (Below.refl _ _).alloc (Nat.le_refl _) _
  have hB := Blk.new w 34 #[.int .i64 I, .int .i64 0, .int .i64 0, .int .i64 0, .int .i64 0, .int .i64 0, .int .i64 0, .int .i64 0, .int .i64 0, .int .i64 0, .int .i64 0, .int .i64 0, .slice none 0 0, .slice none 0 0, .slice none 0 0, .slice none 0 0, .slice none 0 0, .slice none 0 0]
  generalize (w.alloc (.cells #[.int .i64 I, .int .i64 0, .int .i64 0, .int .i64 0, .int .i64 0, .int .i64 0, .int .i64 0, .int .i64 0, .int .i64 0, .int .i64 0, .int .i64 0, .int .i64 0, .slice none 0 0, .slice none 0 0, .slice none 0 0, .slice none 0 0, .slice none 0 0, .slice none 0 0] 34)) = W at *
  have c1 : W.cell? ⟨w.heap.size, 1, none⟩ = some (.int .i64 0) := (hB.cell 1).trans rfl
  have c2 : W.cell? ⟨w.heap.size, 2, none⟩ = some (.int .i64 0) := (hB.cell 2).trans rfl
  have c3 : W.cell? ⟨w.heap.size, 3, none⟩ = some (.int .i64 0) := (hB.cell 3).trans rfl
  have c4 : W.cell? ⟨w.heap.size, 4, none⟩ = some (.int .i64 0) := (hB.cell 4).trans rfl
  have c5 : W.cell? ⟨w.heap.size, 5, none⟩ = some (.int .i64 0) := (hB.cell 5).trans rfl
  have c6 : W.cell? ⟨w.heap.size, 6, none⟩ = some (.int .i64 0) := (hB.cell 6).trans rfl
  have c7 : W.cell? ⟨w.heap.size, 7, none⟩ = some (.int .i64 0) := (hB.cell 7).trans rfl
  have c8 : W.cell? ⟨w.heap.size, 8, none⟩ = some (.int .i64 0) := (hB.cell 8).trans rfl
  have c9 : W.cell? ⟨w.heap.size, 9, none⟩ = some (.int .i64 0) := (hB.cell 9).trans rfl
  have c10 : W.cell? ⟨w.heap.size, 10, none⟩ = some (.int .i64 0) := (hB.cell 10).trans rfl
  have c11 : W.cell? ⟨w.heap.size, 11, none⟩ = some (.int .i64 0) := (hB.cell 11).trans rfl
  have c12 : W.cell? ⟨w.heap.size, 12, none⟩ = some (.slice none 0 0) := (hB.cell 12).trans rfl
  have c13 : W.cell? ⟨w.heap.size, 13, none⟩ = some (.slice none 0 0) := (hB.cell 13).trans rfl
  have c14 : W.cell? ⟨w.heap.size, 14, none⟩ = some (.slice none 0 0) := (hB.cell 14).trans rfl
  have c15 : W.cell? ⟨w.heap.size, 15, none⟩ = some (.slice none 0 0) := (hB.cell 15).trans rfl
  have c16 : W.cell? ⟨w.heap.size, 16, none⟩ = some (.slice none 0 0) := (hB.cell 16).trans rfl
  have c17 : W.cell? ⟨w.heap.size, 17, none⟩ = some (.slice none 0 0) := (hB.cell 17).trans rfl
  have H0 := Lib.hid hb0
  clear hb0 hB
  go_wp2_with fail
  refine (fit_lit W _ (List.replicate 17 0) _ 17 17 0 rfl rfl (by intro z hz; have := List.eq_of_mem_replicate hz; omega) (by omega)).mono ?_
  rintro e w1 ⟨rfl, rfl⟩
  go_wp2
  go_ret
  exact ⟨rfl, bthen H0.out ((Below.refl _ _).alloc (Nat.le_refl _) _)⟩
def bk (i0 i9 : Int) (T : Value) : Array Value := #[.int .i64 i0, .int .i64 0, .int .i64 0, .int .i64 0, .int .i64 0, .int .i64 0, .int .i64 0, .int .i64 0, .int .i64 0, .int .i64 i9, .int .i64 0, .int .i64 0, .slice none 0 0, T, .slice none 0 0, .slice none 0 0, .slice none 0 0, .slice none 0 0]
theorem bk_one (i0 i9 : Int) (A : Option Addr) (n c : Nat) : (bk i0 i9 (.slice A n c)).all (·.oneCell') = true := by simp [bk, Value.oneCell']
theorem results_tmp_cell0 {P : Program} {fn : Func} {p u : Tmp} {ty : TypeId} (h : fn.results = #[.tmp u, .cell p ty]) (tmps : Array Value) (w : World) :
    (results fn tmps).run P w = ((asAddr (tmps.getD p undef)).run P w).andThen fun a w₁ => ((loadVar ty a).run P w₁).andThen fun v w₂ => .ok (.tuple #[tmps.getD u undef, v]) w₂ := by
  simp only [results, h]
  simp [Sem.run_bind, Result.andThen]
theorem results_tmp_cell {P : Program} {fn : Func} {p u : Tmp} {ty : TypeId} (h : fn.results = #[.tmp u, .cell p ty]) (tmps : Array Value) (w : World) (g : Nat) (t : TypeId) (cs : Array Value) (fr : Nat × Nat) (d : TypeDesc)
    (hp : tmps.getD p undef = .pointer (some ⟨g, 0, none⟩)) (hg : w.heap[g]? = some (.cells cs t fr))
    (hu : P.underlying ty = some d) (hd : (match d with | .struct _ | .array _ _ => true | _ => false) = true) (hi : (P.info? ty).map (·.size) = some cs.size) :
    (results fn tmps).run P w = .ok (.tuple #[tmps.getD u undef, .agg cs]) w := by
  rw [results_tmp_cell0 h, hp]
  simp [asAddr, Result.andThen, run_loadVar_row w g t ty cs fr d hg hu hd hi]
set_option maxRecDepth 100000 in
set_option maxHeartbeats 8000000 in
theorem sound19_any (w : World) (B : Nat) (TA : Option Addr) (tn tc : Nat) (ts : List Int) (hr : Reads w B 1 TA tn (ts.map (Value.int .i64))) (hB : B ≤ w.heap.size) (hz : ∀ z ∈ ts, 0 ≤ z ∧ z ≤ 65535) (hn : tn ≤ 255) :
    Calls Tryz.prog 83 #[.agg (bk 19 0 (.slice TA tn tc))] w fun x w' => x = .returned (.tuple #[.bool true, .agg (bk 19 0 (.slice none 0 0))]) ∧ Below w.heap.size w w' := by
  go_enter Tryz.func83, Tryz.ntmps83
  go_upto_region 1 with fail
  have hB1 : Blk ((w.alloc (.cells (bk 19 0 (.slice TA tn tc)) 34)).alloc (.cells (bk 0 0 (.slice none 0 0)) 34)) w.heap.size 34 (bk 19 0 (.slice TA tn tc)) := (Blk.new w _ _).alloc _
  have hB2 : Blk ((w.alloc (.cells (bk 19 0 (.slice TA tn tc)) 34)).alloc (.cells (bk 0 0 (.slice none 0 0)) 34)) (w.heap.size + 1) 34 (bk 0 0 (.slice none 0 0)) := by
    have := Blk.new (w.alloc (.cells (bk 19 0 (.slice TA tn tc)) 34)) 34 (bk 0 0 (.slice none 0 0))
    simpa using this
  have hb0 : Below w.heap.size w ((w.alloc (.cells (bk 19 0 (.slice TA tn tc)) 34)).alloc (.cells (bk 0 0 (.slice none 0 0)) 34)) := ((Below.refl _ _).alloc (Nat.le_refl _) _).alloc (by simp) _
  have hs : ((w.alloc (.cells (bk 19 0 (.slice TA tn tc)) 34)).alloc (.cells (bk 0 0 (.slice none 0 0)) 34)).heap.size = w.heap.size + 2 := by simp
  change Code.wp _ _ _ _ ((w.alloc (.cells (bk 19 0 (.slice TA tn tc)) 34)).alloc (.cells (bk 0 0 (.slice none 0 0)) 34))
  generalize ((w.alloc (.cells (bk 19 0 (.slice TA tn tc)) 34)).alloc (.cells (bk 0 0 (.slice none 0 0)) 34)) = W at *
  have HS := Lib.hid hs
  clear hs
  go_upto_region 2 with (first
    | (refine wpList_load_box rfl 34 _ rfl w.heap.size rfl 34 (bk 19 0 (.slice TA tn tc)) hB1 _ Tryz.underlying34 rfl blkInfo' ?_)
    | fail)
  refine fun (_ : Hid _) => ?_
  go_upto_region 2 with (first
    | (refine wpList_store_box rfl 34 _ _ rfl W.heap.size (bk 19 0 (.slice TA tn tc)) rfl rfl 34 (bk 0 0 (.slice none 0 0)) (Blk.new W _ _) blkInfo' rfl (bk_one _ _ _ _ _) ?_)
    | fail)
  intro w3 hB3 hg3
  have hb3 : Below W.heap.size W w3 := ((Below.refl _ _).alloc (Nat.le_refl _) _).grown hg3 (by simp) (fun b hb => by injection hb with hb; omega)
  have hR1 : Blk w3 w.heap.size 34 (bk 19 0 (.slice TA tn tc)) := hB1.below hb3 hB1.lt
  have hR2 : Blk w3 (w.heap.size + 1) 34 (bk 0 0 (.slice none 0 0)) := hB2.below hb3 hB2.lt
  have c0 : w3.cell? ⟨w.heap.size, 0, none⟩ = some (.int .i64 19) := (hR1.cell 0).trans rfl
  have c13 : w3.cell? ⟨w.heap.size, 13, none⟩ = some (.slice TA tn tc) := (hR1.cell 13).trans rfl
  have hbw : Below w.heap.size w w3 := bthen hb0 hb3
  have hr3 := hr.below (hbw.mono hB)
  have H3 := Lib.hid (And.intro hB3 (And.intro hR2 (And.intro hbw hr3)))
  clear hB1 hB2 hb0 hB3 hg3 hb3 hR1 hR2 hbw hr hr3
  go_wp2_with fail
  refine (fit_lit w3 _ [(tn : Int)] _ 1 1 255 rfl rfl (by intro z hz; simp at hz; omega) (by omega)).mono ?_
  rintro e w4 ⟨rfl, rfl⟩
  have hb4 : Below w3.heap.size w3 (w3.alloc (.cells ([(tn : Int)].map (Value.int .i64)).toArray 3)) := (Below.refl _ _).alloc (Nat.le_refl _) _
  have hw3 : w.heap.size < w3.heap.size := by have := H3.out.2.1.lt; omega
  generalize (w3.alloc (.cells ([(tn : Int)].map (Value.int .i64)).toArray 3)) = w4 at *
  have d13 : w4.cell? ⟨w.heap.size, 13, none⟩ = some (.slice TA tn tc) := (hb4.cell (p := ⟨w.heap.size, 13, none⟩) hw3).trans c13
  have H4 := Lib.hid hb4
  clear hb4 c0 c13
  go_wp2_with fail
  refine (fit_any w4 B TA tn tc 65535 ts (H3.out.2.2.2.below (H4.out.mono (by omega))) hz (by omega)).mono ?_
  rintro e w5 ⟨rfl, rfl⟩
  have hB4 := H3.out.1.below H4.out H3.out.1.lt
  have hR4 := H3.out.2.1.below H4.out H3.out.2.1.lt
  have f13 : w4.frozen? ⟨W.heap.size, 13, none⟩ = false := hB4.frozen 13
  have e13 : w4.cell? ⟨W.heap.size, 13, none⟩ = some (.slice TA tn tc) := (hB4.cell 13).trans rfl
  have H5 := Lib.hid (And.intro hB4 (And.intro hR4 (bthen H3.out.2.2.1 H4.out)))
  clear hB4 hR4 H3 H4 d13
  go_wp2_with fail
  refine wp_region_held_drew (S := fun w' => Blk w' W.heap.size 34 (bk 19 0 (.slice none 0 0))) (by kernel_rfl) ?_ (fun hHeld => ?_)
  · exact H5.out.1.set_ 13 _
  have hR6 : Blk (w4.setCell ⟨W.heap.size, 13, none⟩ (.slice none 0 0)).drew (w.heap.size + 1) 34 (bk 0 0 (.slice none 0 0)) := H5.out.2.1.far (p := ⟨W.heap.size, 13, none⟩) (by have := HS.out; show w.heap.size + 1 ≠ W.heap.size; omega) _
  have hb6 : Below w.heap.size w (w4.setCell ⟨W.heap.size, 13, none⟩ (.slice none 0 0)).drew := (H5.out.2.2.setCell (by have := HS.out; show w.heap.size ≤ W.heap.size; omega) _).drew
  generalize (w4.setCell ⟨W.heap.size, 13, none⟩ (.slice none 0 0)).drew = w6 at *
  refine wpAnyH_take (i := 0) (oi := _) (v := ?_) (by simp only [List.getElem?_toArray, List.getElem?_cons_succ, List.getElem?_cons_zero]; rfl) (by kernel_rfl) (by kernel_rfl) (by kernel_rfl) (by intro _ _ _ h; exact h) (Or.inl ⟨by rfl, ?_⟩) (by assumption) ?_
  rotate_left
  · intro w hSw
    try dsimp only at hSw
    go_simp
    try with_reducible rfl
  try simp only [Act.put, List.setIfInBounds_toArray, List.set_cons_zero, List.set_cons_succ]
  refine wpAnyH_take (i := 1) (oi := _) (v := ?_) (by simp only [List.getElem?_toArray, List.getElem?_cons_succ, List.getElem?_cons_zero]; rfl) (by kernel_rfl) (by kernel_rfl) (by kernel_rfl) (by intro _ _ _ h; exact h) (Or.inl ⟨by rfl, ?_⟩) (by assumption) ?_
  rotate_left
  · intro w hSw
    try dsimp only at hSw
    refine run_load_box 34 (.tmp 4) ?_ W.heap.size ?_ 34 (bk 19 0 (.slice none 0 0)) hSw _ Tryz.underlying34 rfl blkInfo'
    · rfl
    · rfl
  try simp only [Act.put, List.setIfInBounds_toArray, List.set_cons_zero, List.set_cons_succ]
  refine wpAnyH_take (i := 2) (oi := _) (v := ?_) (by simp only [List.getElem?_toArray, List.getElem?_cons_succ, List.getElem?_cons_zero]; rfl) (by kernel_rfl) (by kernel_rfl) (by kernel_rfl) (by intro _ _ _ h; exact h) (Or.inl ⟨by rfl, ?_⟩) (by assumption) ?_
  rotate_left
  · intro w hSw
    try dsimp only at hSw
    go_simp
    try with_reducible rfl
  try simp only [Act.put, List.setIfInBounds_toArray, List.set_cons_zero, List.set_cons_succ]
  refine wpAnyH_ready (rs := [3]) (by kernel_rfl) (by simp) ?_
  refine AllReadyH.cons (o := _) (by simp only [List.getElem?_toArray, List.getElem?_cons_succ, List.getElem?_cons_zero]; rfl) (fun K hK => ?_) AllReadyH.nil
  refine step_store_box rfl 34 _ _ rfl (w.heap.size + 1) (bk 19 0 (.slice none 0 0)) rfl rfl 34 (bk 0 0 (.slice none 0 0)) hR6 blkInfo' rfl (bk_one _ _ _ _ _) ?_
  intro w7 hB7 hg7
  refine hK.out _ _ ?_ (fun hHeld => ?_)
  · exact hHeld.grown hg7 (fun e => by have := HS.out; injection e with e; omega)
  clear hK K
  try simp only [Act.put, List.setIfInBounds_toArray, List.set_cons_zero, List.set_cons_succ]
  refine wpAnyH_done (by kernel_rfl) ?_ _
  have H7 := Lib.hid (hb6.grown hg7 hb6.size (fun b hb => by injection hb with hb; omega))
  clear hg7 hb6
  go_wp2
  exact bodyPost_ret (results_tmp_cell rfl _ w7 (w.heap.size + 1) 34 _ (0, 0) _ rfl hB7 Tryz.underlying34 rfl blkInfo') rfl ⟨rfl, H7.out⟩
set_option maxRecDepth 100000 in
set_option maxHeartbeats 8000000 in
theorem other43_any (w : World) (u : Int) (u0 : 0 ≤ u) (u1 : u ≤ 1) :
    Calls Tryz.prog 120 #[.agg (bk 43 u (.slice none 0 0))] w fun x w' => x = .returned (.tuple #[.bool true, .agg (bk 43 0 (.slice none 0 0))]) ∧ Below w.heap.size w w' := by
  go_enter Tryz.func120, Tryz.ntmps120
  go_upto_region 1 with fail
  have hB1 : Blk ((w.alloc (.cells (bk 43 u (.slice none 0 0)) 34)).alloc (.cells (bk 0 0 (.slice none 0 0)) 34)) w.heap.size 34 (bk 43 u (.slice none 0 0)) := (Blk.new w _ _).alloc _
  have hB2 : Blk ((w.alloc (.cells (bk 43 u (.slice none 0 0)) 34)).alloc (.cells (bk 0 0 (.slice none 0 0)) 34)) (w.heap.size + 1) 34 (bk 0 0 (.slice none 0 0)) := by
    have := Blk.new (w.alloc (.cells (bk 43 u (.slice none 0 0)) 34)) 34 (bk 0 0 (.slice none 0 0))
    simpa using this
  have hb0 : Below w.heap.size w ((w.alloc (.cells (bk 43 u (.slice none 0 0)) 34)).alloc (.cells (bk 0 0 (.slice none 0 0)) 34)) := ((Below.refl _ _).alloc (Nat.le_refl _) _).alloc (by simp) _
  have hs : ((w.alloc (.cells (bk 43 u (.slice none 0 0)) 34)).alloc (.cells (bk 0 0 (.slice none 0 0)) 34)).heap.size = w.heap.size + 2 := by simp
  change Code.wp _ _ _ _ ((w.alloc (.cells (bk 43 u (.slice none 0 0)) 34)).alloc (.cells (bk 0 0 (.slice none 0 0)) 34))
  generalize ((w.alloc (.cells (bk 43 u (.slice none 0 0)) 34)).alloc (.cells (bk 0 0 (.slice none 0 0)) 34)) = W at *
  have HS := Lib.hid hs
  clear hs
  go_upto_region 2 with (first
    | (refine wpList_load_box rfl 34 _ rfl w.heap.size rfl 34 (bk 43 u (.slice none 0 0)) hB1 _ Tryz.underlying34 rfl blkInfo' ?_)
    | fail)
  refine fun (_ : Hid _) => ?_
  go_upto_region 2 with (first
    | (refine wpList_store_box rfl 34 _ _ rfl W.heap.size (bk 43 u (.slice none 0 0)) rfl rfl 34 (bk 0 0 (.slice none 0 0)) (Blk.new W _ _) blkInfo' rfl (bk_one _ _ _ _ _) ?_)
    | fail)
  intro w3 hB3 hg3
  have hb3 : Below W.heap.size W w3 := ((Below.refl _ _).alloc (Nat.le_refl _) _).grown hg3 (by simp) (fun b hb => by injection hb with hb; omega)
  have hR1 : Blk w3 w.heap.size 34 (bk 43 u (.slice none 0 0)) := hB1.below hb3 hB1.lt
  have hR2 : Blk w3 (w.heap.size + 1) 34 (bk 0 0 (.slice none 0 0)) := hB2.below hb3 hB2.lt
  have c0 : w3.cell? ⟨w.heap.size, 0, none⟩ = some (.int .i64 43) := (hR1.cell 0).trans rfl
  have c9 : w3.cell? ⟨w.heap.size, 9, none⟩ = some (.int .i64 u) := (hR1.cell 9).trans rfl
  have hbw : Below w.heap.size w w3 := bthen hb0 hb3
  have H3 := Lib.hid (And.intro hB3 (And.intro hR2 hbw))
  clear hB1 hB2 hb0 hB3 hg3 hb3 hR1 hR2 hbw
  go_wp2_with fail
  refine (fit_lit w3 _ [u] _ 1 1 1 rfl rfl (by intro z hz; simp at hz; omega) (by omega)).mono ?_
  rintro e w4 ⟨rfl, rfl⟩
  have hb4 : Below w3.heap.size w3 (w3.alloc (.cells ([u].map (Value.int .i64)).toArray 3)) := (Below.refl _ _).alloc (Nat.le_refl _) _
  generalize (w3.alloc (.cells ([u].map (Value.int .i64)).toArray 3)) = w4 at *
  have H4 := Lib.hid hb4
  clear hb4 c0 c9
  have hB4 := H3.out.1.below H4.out H3.out.1.lt
  have hR4 := H3.out.2.1.below H4.out H3.out.2.1.lt
  have f9 : w4.frozen? ⟨W.heap.size, 9, none⟩ = false := hB4.frozen 9
  have e9 : w4.cell? ⟨W.heap.size, 9, none⟩ = some (.int .i64 u) := (hB4.cell 9).trans rfl
  have H5 := Lib.hid (And.intro hB4 (And.intro hR4 (bthen H3.out.2.2 H4.out)))
  clear hB4 hR4 H3 H4
  go_wp2_with fail
  refine wp_region_held_drew (S := fun w' => Blk w' W.heap.size 34 (bk 43 0 (.slice none 0 0))) (by kernel_rfl) ?_ (fun hHeld => ?_)
  · exact H5.out.1.set_ 9 _
  have hR6 : Blk (w4.setCell ⟨W.heap.size, 9, none⟩ (.int .i64 0)).drew (w.heap.size + 1) 34 (bk 0 0 (.slice none 0 0)) := H5.out.2.1.far (p := ⟨W.heap.size, 9, none⟩) (by have := HS.out; show w.heap.size + 1 ≠ W.heap.size; omega) _
  have hb6 : Below w.heap.size w (w4.setCell ⟨W.heap.size, 9, none⟩ (.int .i64 0)).drew := (H5.out.2.2.setCell (by have := HS.out; show w.heap.size ≤ W.heap.size; omega) _).drew
  generalize (w4.setCell ⟨W.heap.size, 9, none⟩ (.int .i64 0)).drew = w6 at *
  refine wpAnyH_take (i := 0) (oi := _) (v := ?_) (by simp only [List.getElem?_toArray, List.getElem?_cons_succ, List.getElem?_cons_zero]; rfl) (by kernel_rfl) (by kernel_rfl) (by kernel_rfl) (by intro _ _ _ h; exact h) (Or.inl ⟨by rfl, ?_⟩) (by assumption) ?_
  rotate_left
  · intro w hSw
    try dsimp only at hSw
    go_simp
    try with_reducible rfl
  try simp only [Act.put, List.setIfInBounds_toArray, List.set_cons_zero, List.set_cons_succ]
  refine wpAnyH_take (i := 1) (oi := _) (v := ?_) (by simp only [List.getElem?_toArray, List.getElem?_cons_succ, List.getElem?_cons_zero]; rfl) (by kernel_rfl) (by kernel_rfl) (by kernel_rfl) (by intro _ _ _ h; exact h) (Or.inl ⟨by rfl, ?_⟩) (by assumption) ?_
  rotate_left
  · intro w hSw
    try dsimp only at hSw
    refine run_load_box 34 (.tmp 4) ?_ W.heap.size ?_ 34 (bk 43 0 (.slice none 0 0)) hSw _ Tryz.underlying34 rfl blkInfo'
    · rfl
    · rfl
  try simp only [Act.put, List.setIfInBounds_toArray, List.set_cons_zero, List.set_cons_succ]
  refine wpAnyH_take (i := 2) (oi := _) (v := ?_) (by simp only [List.getElem?_toArray, List.getElem?_cons_succ, List.getElem?_cons_zero]; rfl) (by kernel_rfl) (by kernel_rfl) (by kernel_rfl) (by intro _ _ _ h; exact h) (Or.inl ⟨by rfl, ?_⟩) (by assumption) ?_
  rotate_left
  · intro w hSw
    try dsimp only at hSw
    go_simp
    try with_reducible rfl
  try simp only [Act.put, List.setIfInBounds_toArray, List.set_cons_zero, List.set_cons_succ]
  refine wpAnyH_ready (rs := [3]) (by kernel_rfl) (by simp) ?_
  refine AllReadyH.cons (o := _) (by simp only [List.getElem?_toArray, List.getElem?_cons_succ, List.getElem?_cons_zero]; rfl) (fun K hK => ?_) AllReadyH.nil
  refine step_store_box rfl 34 _ _ rfl (w.heap.size + 1) (bk 43 0 (.slice none 0 0)) rfl rfl 34 (bk 0 0 (.slice none 0 0)) hR6 blkInfo' rfl (bk_one _ _ _ _ _) ?_
  intro w7 hB7 hg7
  refine hK.out _ _ ?_ (fun hHeld => ?_)
  · exact hHeld.grown hg7 (fun e => by have := HS.out; injection e with e; omega)
  clear hK K
  try simp only [Act.put, List.setIfInBounds_toArray, List.set_cons_zero, List.set_cons_succ]
  refine wpAnyH_done (by kernel_rfl) ?_ _
  have H7 := Lib.hid (hb6.grown hg7 hb6.size (fun b hb => by injection hb with hb; omega))
  clear hg7 hb6
  go_wp2
  exact bodyPost_ret (results_tmp_cell rfl _ w7 (w.heap.size + 1) 34 _ (0, 0) _ rfl hB7 Tryz.underlying34 rfl blkInfo') rfl ⟨rfl, H7.out⟩
end Tl
end Go.Proofs.YtnlaedfnifimkaaGreat
