/- Layer 24: contract of the next step. -/
import Derived.Test.YtnmapncgnceldaaWk11
import Derived.Deep.QuietTactic
import Derived.BigQuiet
import Derived.Deep.LoopGhost
namespace Go.Proofs.Ytnmapncgnceldaa
open Go.RowKit

/-- enough rounds -/
theorem nextW_enough {bs : List WB} (hf : Fine bs) {f : Nat} : ∀ {k : Nat} {s : WS}, s.ok bs → roundsN bs s < f → roundsN bs s < k → nextW bs f s = nextW bs k s := by
  induction f with
  | zero => intro k s _ h; exact absurd h (Nat.not_lt_zero _)
  | succ f ih =>
    intro k s hs h1 h2
    cases k with
    | zero => exact absurd h2 (Nat.not_lt_zero _)
    | succ k =>
      rw [nextW, nextW]
      by_cases hlt : s.at_ < bs.length
      · rw [if_pos hlt, if_pos hlt]
        by_cases ht : toldK (atB bs s.at_) = 3
        · rw [if_pos ht, if_pos ht]
          by_cases he : leadE bs s = 0
          · rw [if_pos he, if_pos he]
            obtain ⟨ho, hr⟩ := lead_ok hf hs hlt he
            exact ih ho (Nat.lt_of_lt_of_le hr (Nat.le_of_lt_succ h1)) (Nat.lt_of_lt_of_le hr (Nat.le_of_lt_succ h2))
          · rw [if_neg he, if_neg he]
        · rw [if_neg ht, if_neg ht]
      · rw [if_neg hlt, if_neg hlt]
/-- the next step of a way -/
def nextS (bs : List WB) (s : WS) : Tell × WS := if s.ov = true then (⟨s.lk, s.lb, s.le⟩, s) else nextW bs (roundsN bs s + 1) s
theorem alloc_of {w : World} {a : Addr} {o : Obj} {v : Value} (h : w.cell? a = some v) : (w.alloc o).cell? a = some v := by rw [World.cell?_alloc_some _ _ _ (by simp [h])]; exact h
theorem cells_mv {w w' : World} {g mb m : Nat} {ad : Addr} {l : List Value} (h : ∀ jj vv, l[jj]? = some vv → w.cell? ((ad.add m).add jj) = some vv) (hM : Mv w w' g mb) (hab : ad.block ≠ g ∧ ad.block ≠ mb ∧ ad.block < w.heap.size) : ∀ jj vv, l[jj]? = some vv → w'.cell? ((ad.add m).add jj) = some vv :=
  fun jj vv hjj => by
    have hb : ((ad.add m).add jj).block = ad.block := by unfold Addr.add; split <;> split <;> rfl
    exact (World.cell?_of_block (a := (ad.add m).add jj) (show w'.heap[((ad.add m).add jj).block]? = w.heap[((ad.add m).add jj).block]? by rw [hb]; exact hM.block ad.block hab.2.2 hab.1 hab.2.1)).trans (h jj vv hjj)
/-- what a block leaves, in one form -/
theorem here_step {w w' : World} {x : Ending} {g mb : Nat} {LA : Option Addr} {ln lc : Nat} {bs : List WB} {s : WS} (h : HereO w w' x g mb LA ln lc bs s) (hlt : s.at_ < bs.length) :
    ∃ (k b e : Int) (okb : Bool) (s' : WS), x = .returned (.tuple #[.agg #[.int .i64 k, .int .i64 b, .int .i64 e], .bool okb]) ∧ WalkAt w' g mb LA ln lc bs s' ∧ Mv w w' g mb ∧
      ((okb = false ∧ s' = leadS bs s ∧ leadE bs s = 0 ∧ ∀ f, nextW bs (f + 1) s = nextW bs f s') ∨ (okb = true ∧ ∀ f, nextW bs (f + 1) s = (⟨k, b, e⟩, s'))) := by
  obtain ⟨hM, ⟨h3, he, rfl, hW⟩ | ⟨h3, he, rfl, hW⟩ | ⟨h3, rfl, hW⟩⟩ := h
  · exact ⟨_, _, _, _, _, rfl, hW, hM, .inl ⟨rfl, rfl, he, fun f => by rw [nextW, if_pos hlt, if_pos h3, if_pos he]⟩⟩
  · exact ⟨_, _, _, _, _, rfl, hW, hM, .inr ⟨rfl, fun f => by rw [nextW, if_pos hlt, if_pos h3, if_neg he]⟩⟩
  · exact ⟨_, _, _, _, _, rfl, hW, hM, .inr ⟨rfl, fun f => by rw [nextW, if_pos hlt, if_neg h3]⟩⟩
/-- a way is gone on to where it tells -/
theorem nextW_ok {bs : List WB} (hf : Fine bs) : ∀ {f : Nat} {s : WS}, s.ok bs → (nextW bs f s).2.ok bs
  | 0, _, h => h
  | f + 1, s, h => by
    unfold nextW
    split
    · rename_i hlt
      split
      · split
        · rename_i he
          exact nextW_ok hf (lead_ok hf h hlt he).1
        · exact h
      · obtain ⟨a0, a1, r⟩ := h
        exact ⟨by show 0 ≤ s.at_ + 1; omega, by show s.at_ + 1 ≤ _; omega, r⟩
    · exact h
theorem nextS_ok {bs : List WB} {s : WS} (hf : Fine bs) (h : s.ok bs) : (nextS bs s).2.ok bs := by
  unfold nextS
  split
  · exact h
  · exact nextW_ok hf h
def stepV (t : Tell) : Value := .agg #[.int .i64 t.k, .int .i64 t.b, .int .i64 t.e]

set_option maxRecDepth 100000 in
set_option maxHeartbeats 8000000 in
theorem next_nil (w : World) : Calls Try.prog 12 #[.pointer none] w fun x w' => x = .returned (stepV ⟨3, 0, 0⟩) ∧ Below w.heap.size w w' := by
  have hb1 : Below w.heap.size w (w.alloc (.cells #[.int .i64 0, .int .i64 0, .int .i64 0] 36)) := (Below.refl _ _).alloc (Nat.le_refl _) _
  have HB := Lib.hid hb1
  clear hb1
  go_enter Try.func12, Try.ntmps12
  go_upto_region 1 with fail
  have hQ := Blk.new w 36 #[.int .i64 0, .int .i64 0, .int .i64 0]
  generalize w.alloc (.cells #[.int .i64 0, .int .i64 0, .int .i64 0] 36) = w0 at *
  go_wp2_with (first
    | (refine wpList_store_box rfl 36 _ _ rfl (w.heap.size) #[.int .i64 3, .int .i64 0, .int .i64 0] rfl rfl 36 #[.int .i64 0, .int .i64 0, .int .i64 0] hQ stepInfo rfl (by simp [Value.oneCell']) ?_)
    | fail)
  intro w9 hB9 hg9
  have H9 := Lib.hid hg9
  clear hg9 hQ
  go_wp2_with fail
  refine bodyPost_ret (results_cell_row rfl _ _ w.heap.size 36 _ (0, 0) _ rfl hB9 Try.underlying36 rfl stepInfo) rfl ?_
  exact ⟨rfl, HB.out.grown H9.out HB.out.size (fun b e => by injection e with e; omega)⟩

set_option maxRecDepth 100000 in
set_option maxHeartbeats 8000000 in
theorem next_any (w : World) (g mb : Nat) (LA : Option Addr) (ln lc : Nat) (bs : List WB) (s : WS) (h : WalkAt w g mb LA ln lc bs s) (hok : s.ok bs) (hf : Fine bs) :
    Calls Try.prog 12 #[.pointer (some ⟨g, 0, none⟩)] w fun x w' => x = .returned (stepV (nextS bs s).1) ∧ WalkAt w' g mb LA ln lc bs (nextS bs s).2 ∧ Mv w w' g mb := by
  have hln := h.2.2.len
  have hl60 : ln ≤ 60 := by have := hf.1; omega
  have hgl := h.1.lt
  have hml := h.2.1.lt
  have hne := h.2.1.ne h.1
  have hb1 : Below w.heap.size w (w.alloc (.cells #[.int .i64 0, .int .i64 0, .int .i64 0] 36)) := (Below.refl _ _).alloc (Nat.le_refl _) _
  have HH := Lib.hid (And.intro (h.below hb1) (And.intro hb1 (And.intro (Blk.new w 36 #[.int .i64 0, .int .i64 0, .int .i64 0]) (And.intro h (And.intro hok hf)))))
  have HN := Lib.hid hln
  clear h hb1 hok hf hln
  go_enter Try.func12, Try.ntmps12
  go_upto_region 1 with fail
  generalize w.alloc (.cells #[.int .i64 0, .int .i64 0, .int .i64 0] 36) = w0 at *
  have hws := Lib.hid HH.out.2.1.size
  have c13 : w0.cell? ⟨g, 13, none⟩ = some (.bool s.ov) := (HH.out.1.1.cell 13).trans rfl
  cases hov : s.ov with
  | true =>
    rw [hov] at c13
    have HOV := Lib.hid hov
    clear hov
    have hL : ∀ jj vv, ([.int .i64 s.lk, .int .i64 s.lb, .int .i64 s.le] : List Value)[jj]? = some vv → w0.cell? ((⟨g, 10, none⟩ : Addr).add jj) = some vv := by
      intro jj vv hjj
      rcases jj with _ | _ | _ | jj
      · cases hjj; exact (HH.out.1.1.cell 10).trans rfl
      · cases hjj; exact (HH.out.1.1.cell 11).trans rfl
      · cases hjj; exact (HH.out.1.1.cell 12).trans rfl
      · simp at hjj
    have X0 := Lib.hid hL
    have hQ := HH.out.2.2.1
    clear hL
    go_wp2_with (first
      | (refine wpList_load_at rfl 36 _ rfl ⟨g, 10, none⟩ rfl [.int .i64 s.lk, .int .i64 s.lb, .int .i64 s.le] X0.out _ Try.underlying36 rfl stepInfo ?_)
      | (refine wpList_store_box rfl 36 _ _ rfl (w.heap.size) #[.int .i64 s.lk, .int .i64 s.lb, .int .i64 s.le] rfl rfl 36 #[.int .i64 0, .int .i64 0, .int .i64 0] hQ stepInfo rfl (by simp [Value.oneCell']) ?_)
      | fail)
    intro w9 hB9 hg9
    have H9 := Lib.hid hg9
    clear hg9 hQ
    go_wp2_with fail
    refine bodyPost_ret (results_cell_row rfl _ _ w.heap.size 36 _ (0, 0) _ rfl hB9 Try.underlying36 rfl stepInfo) rfl ?_
    obtain ⟨q1, q2⟩ := HH.out.2.2.2.1.out HH.out.1 (Mv.of_below HH.out.2.1) H9.out (Nat.le_refl _)
    have hS : nextS bs s = (⟨s.lk, s.lb, s.le⟩, s) := if_pos HOV.out
    rw [hS]
    exact ⟨rfl, q1, q2⟩
  | false =>
    rw [hov] at c13
    have hS : nextS bs s = nextW bs (roundsN bs s + 1) s := if_neg (by rw [hov]; decide)
    have HS := Lib.hid hS
    clear hov hS
    go_wp2_with fail
    have HST := Lib.hid (show ∃ r : WS, r.ok bs ∧ WalkAt w0 g mb LA ln lc bs r ∧ Mv w w0 g mb ∧ nextS bs s = nextW bs (roundsN bs r + 1) r ∧ Blk w0 w.heap.size 36 #[.int .i64 0, .int .i64 0, .int .i64 0] ∧ roundsN bs s = roundsN bs r from ⟨s, HH.out.2.2.2.2.1, HH.out.1, Mv.of_below HH.out.2.1, HS.out, HH.out.2.2.1, rfl⟩)
    clear c13
    go_loopg [] (roundsN bs s) (fun k wr => ∃ r : WS, r.ok bs ∧ WalkAt wr g mb LA ln lc bs r ∧ Mv w wr g mb ∧ nextS bs s = nextW bs (roundsN bs r + 1) r ∧ Blk wr w.heap.size 36 #[.int .i64 0, .int .i64 0, .int .i64 0] ∧ k = roundsN bs r)
    case atStart => exact HST.out
    case round =>
      obtain ⟨r, hrk, hW, hM, hnx, hQ, rfl⟩ := hrel
      obtain ⟨n, hn⟩ : ∃ n : Nat, r.at_ = (n : Int) := ⟨r.at_.toNat, by have := hrk.1; omega⟩
      have hn0 : (0 : Int) ≤ (n : Int) := Int.natCast_nonneg _
      have c0 : wr.cell? ⟨g, 0, none⟩ = some (.slice LA ln lc) := (hW.1.cell 0).trans rfl
      have c1 : wr.cell? ⟨g, 1, none⟩ = some (.int .i64 n) := by rw [← hn]; exact (hW.1.cell 1).trans rfl
      by_cases hlt : n < ln
      · have hltI : (n : Int) < (ln : Int) := by omega
        obtain ⟨ad, rfl, hab, cs, hWB, hc18⟩ := hW.2.2.at_ (i := n) hlt
        obtain ⟨d, hd⟩ : ∃ d, d = bs.getD n default := ⟨_, rfl⟩
        rw [← hd] at hWB
        obtain ⟨v2, v3, v4, v5, v6, v7, v9, v10, v11, v12, TA, tn, tc, IA, ic, v15, v16, v17, rfl, h1c, hTs, hIs⟩ := hWB
        have X0 := Lib.hid (show ∀ jj vv, ([.int .i64 d.id, .int .i64 d.pz, v2, v3, v4, v5, v6, v7, .int .i64 d.ct, v9, v10, v11, v12, .slice TA tn tc, .slice IA d.ns.length ic, v15, v16, v17] : List Value)[jj]? = some vv → wr.cell? ((ad.add (n * 18)).add jj) = some vv from hc18)
        have X1 := Lib.hid (show (#[.int .i64 d.id, .int .i64 d.pz, v2, v3, v4, v5, v6, v7, .int .i64 d.ct, v9, v10, v11, v12, .slice TA tn tc, .slice IA d.ns.length ic, v15, v16, v17] : Array Value).all (·.oneCell') = true from all_one h1c)
        have HD := Lib.hid (And.intro hd (And.intro hTs hIs))
        clear hc18 h1c hd hTs hIs
        have HR := Lib.hid (And.intro hrk (And.intro hW (And.intro hM (And.intro hnx (And.intro hQ hn)))))
        clear hrk hW hM hnx hQ hn
        go_upto_region 5 with fail
        go_quiet (fail)
        go_upto_region 6 with fail
        refine wp_region_held_drew (S := fun w' => w'.cell? ⟨g, 0, none⟩ = some (.slice (some ad) ln lc) ∧ (∀ jj vv, ([.int .i64 d.id, .int .i64 d.pz, v2, v3, v4, v5, v6, v7, .int .i64 d.ct, v9, v10, v11, v12, .slice TA tn tc, .slice IA d.ns.length ic, v15, v16, v17] : List Value)[jj]? = some vv → w'.cell? ((ad.add (n * 18)).add jj) = some vv)) (by kernel_rfl) ?_ (fun hHeld => ?_)
        · exact ⟨c0, X0.out⟩
        have HW := Lib.hid (show WalkAt (wr.drewN nq).drew g mb (some ad) ln lc bs r ∧ Mv w (wr.drewN nq).drew g mb ∧ Blk (wr.drewN nq).drew w.heap.size 36 #[.int .i64 0, .int .i64 0, .int .i64 0] ∧ RdP (wr.drewN nq).drew (fun b => b ≠ g ∧ b ≠ mb ∧ b < (wr.drewN nq).drew.heap.size) 1 TA tn (d.ts.map (Value.int .i64)) ∧ (∀ jj vv, ([.int .i64 d.id, .int .i64 d.pz, v2, v3, v4, v5, v6, v7, .int .i64 d.ct, v9, v10, v11, v12, .slice TA tn tc, .slice IA d.ns.length ic, v15, v16, v17] : List Value)[jj]? = some vv → (wr.drewN nq).drew.cell? ((ad.add (n * 18)).add jj) = some vv) ∧ (ad.block ≠ g ∧ ad.block ≠ mb ∧ ad.block < (wr.drewN nq).drew.heap.size) from ⟨HR.out.2.1.drewN (nq + 1), HR.out.2.2.1.trans ⟨rfl, rfl, rfl, Nat.le_refl _, fun _ _ _ _ => rfl⟩, HR.out.2.2.2.2.1, HD.out.2.1.keep (fun b hp => rfl) (fun b hp => hp), X0.out, hab⟩)
        have c1w : (wr.drewN nq).drew.cell? ⟨g, 1, none⟩ = some (.int .i64 n) := c1
        clear c0 c1 X0 hab
        generalize (wr.drewN nq).drew = W at *
        refine wpAnyH_take (i := 0) (oi := _) (v := ?_) (by simp only [List.getElem?_toArray, List.getElem?_cons_succ, List.getElem?_cons_zero]; rfl) (by kernel_rfl) (by kernel_rfl) (by kernel_rfl) (by intro _ _ _ h; exact h) (Or.inl ⟨by rfl, ?_⟩) (by assumption) ?_
        rotate_left
        · intro w hSw
          try dsimp only at hSw
          obtain ⟨sa, sb⟩ := hSw
          go_simp
          try with_reducible rfl
        try simp only [Act.put, List.setIfInBounds_toArray, List.set_cons_zero, List.set_cons_succ]
        refine wpAnyH_take (i := 1) (oi := _) (v := ?_) (by simp only [List.getElem?_toArray, List.getElem?_cons_succ, List.getElem?_cons_zero]; rfl) (by kernel_rfl) (by kernel_rfl) (by kernel_rfl) (by intro _ _ _ h; exact h) (Or.inl ⟨by rfl, ?_⟩) (by assumption) ?_
        rotate_left
        · intro w hSw
          try dsimp only at hSw
          obtain ⟨sa, sb⟩ := hSw
          go_simp
          try with_reducible rfl
        try simp only [Act.put, List.setIfInBounds_toArray, List.set_cons_zero, List.set_cons_succ]
        refine wpAnyH_take (i := 2) (oi := _) (v := ?_) (by simp only [List.getElem?_toArray, List.getElem?_cons_succ, List.getElem?_cons_zero]; rfl) (by kernel_rfl) (by kernel_rfl) (by kernel_rfl) (by intro _ _ _ h; exact h) (Or.inl ⟨by rfl, ?_⟩) (by assumption) ?_
        rotate_left
        · intro w hSw
          try dsimp only at hSw
          obtain ⟨sa, sb⟩ := hSw
          go_simp
          try with_reducible rfl
        try simp only [Act.put, List.setIfInBounds_toArray, List.set_cons_zero, List.set_cons_succ]
        refine wpAnyH_take (i := 3) (oi := _) (v := ?_) (by simp only [List.getElem?_toArray, List.getElem?_cons_succ, List.getElem?_cons_zero]; rfl) (by kernel_rfl) (by kernel_rfl) (by kernel_rfl) (by intro _ _ _ h; exact h) (Or.inl ⟨by rfl, ?_⟩) (by assumption) ?_
        rotate_left
        · intro w hSw
          try dsimp only at hSw
          obtain ⟨sa, sb⟩ := hSw
          go_simp
          try with_reducible rfl
        try simp only [Act.put, List.setIfInBounds_toArray, List.set_cons_zero, List.set_cons_succ]
        refine wpAnyH_take (i := 4) (oi := _) (v := ?_) (by simp only [List.getElem?_toArray, List.getElem?_cons_succ, List.getElem?_cons_zero]; rfl) (by kernel_rfl) (by kernel_rfl) (by kernel_rfl) (by intro _ _ _ h; exact h) (Or.inl ⟨by rfl, ?_⟩) (by assumption) ?_
        rotate_left
        · intro w hSw
          try dsimp only at hSw
          obtain ⟨sa, sb⟩ := hSw
          go_simp
          try with_reducible rfl
        try simp only [Act.put, List.setIfInBounds_toArray, List.set_cons_zero, List.set_cons_succ]
        refine wpAnyH_take (i := 5) (oi := _) (v := ?_) (by simp only [List.getElem?_toArray, List.getElem?_cons_succ, List.getElem?_cons_zero]; rfl) (by kernel_rfl) (by kernel_rfl) (by kernel_rfl) (by intro _ _ _ h; exact h) (Or.inl ⟨by rfl, ?_⟩) (by assumption) ?_
        rotate_left
        · intro w hSw
          try dsimp only at hSw
          obtain ⟨sa, sb⟩ := hSw
          go_simp
          try with_reducible rfl
        try simp only [Act.put, List.setIfInBounds_toArray, List.set_cons_zero, List.set_cons_succ]
        refine wpAnyH_take (i := 6) (oi := _) (v := ?_) (by simp only [List.getElem?_toArray, List.getElem?_cons_succ, List.getElem?_cons_zero]; rfl) (by kernel_rfl) (by kernel_rfl) (by kernel_rfl) (by intro _ _ _ h; exact h) (Or.inl ⟨by rfl, ?_⟩) (by assumption) ?_
        rotate_left
        · intro w hSw
          try dsimp only at hSw
          obtain ⟨sa, sb⟩ := hSw
          go_simp
          try with_reducible rfl
        try simp only [Act.put, List.setIfInBounds_toArray, List.set_cons_zero, List.set_cons_succ]
        refine wpAnyH_take (i := 7) (oi := _) (v := ?_) (by simp only [List.getElem?_toArray, List.getElem?_cons_succ, List.getElem?_cons_zero]; rfl) (by kernel_rfl) (by kernel_rfl) (by kernel_rfl) (by intro _ _ _ h; exact h) (Or.inl ⟨by rfl, ?_⟩) (by assumption) ?_
        rotate_left
        · intro w hSw
          try dsimp only at hSw
          obtain ⟨sa, sb⟩ := hSw
          go_simp
          try with_reducible rfl
        try simp only [Act.put, List.setIfInBounds_toArray, List.set_cons_zero, List.set_cons_succ]
        refine wpAnyH_ready (rs := [8, 15]) (by kernel_rfl) (by simp) ?_
        refine AllReadyH.cons (o := _) (by simp only [List.getElem?_toArray, List.getElem?_cons_succ, List.getElem?_cons_zero]; rfl) (fun K hK => ?_) (AllReadyH.cons (o := _) (by simp only [List.getElem?_toArray, List.getElem?_cons_succ, List.getElem?_cons_zero]; rfl) (fun K hK => ?_) AllReadyH.nil)
        · go_simp
          refine hK.out _ _ ?_ (fun hHeld => ?_)
          · exact ⟨(HW.out.1.1.cell 0).trans rfl, HW.out.2.2.2.2.1⟩
          clear hK K
          try simp only [Act.put, List.setIfInBounds_toArray, List.set_cons_zero, List.set_cons_succ]
          refine wpAnyH_take (i := 9) (oi := _) (v := ?_) (by simp only [List.getElem?_toArray, List.getElem?_cons_succ, List.getElem?_cons_zero]; rfl) (by kernel_rfl) (by kernel_rfl) (by kernel_rfl) (by intro _ _ _ h; exact h) (Or.inl ⟨by rfl, ?_⟩) (by assumption) ?_
          rotate_left
          · intro w hSw
            try dsimp only at hSw
            obtain ⟨sa, sb⟩ := hSw
            go_simp
            try with_reducible rfl
          try simp only [Act.put, List.setIfInBounds_toArray, List.set_cons_zero, List.set_cons_succ]
          refine wpAnyH_take (i := 10) (oi := _) (v := ?_) (by simp only [List.getElem?_toArray, List.getElem?_cons_succ, List.getElem?_cons_zero]; rfl) (by kernel_rfl) (by kernel_rfl) (by kernel_rfl) (by intro _ _ _ h; exact h) (Or.inl ⟨by rfl, ?_⟩) (by assumption) ?_
          rotate_left
          · intro w hSw
            refine run_load_at (P := Try.prog) 45 (.tmp 36) ?_ (ad.add (n * 18)) ?_ [.int .i64 d.id, .int .i64 d.pz, v2, v3, v4, v5, v6, v7, .int .i64 d.ct, v9, v10, v11, v12, .slice TA tn tc, .slice IA d.ns.length ic, v15, v16, v17] hSw.2 _ Try.underlying45 rfl blkInfo
            · rfl
            · rfl
          try simp only [Act.put, List.setIfInBounds_toArray, List.set_cons_zero, List.set_cons_succ]
          refine wpAnyH_ready (rs := [11, 15]) (by kernel_rfl) (by simp) ?_
          refine AllReadyH.cons (o := _) (by simp only [List.getElem?_toArray, List.getElem?_cons_succ, List.getElem?_cons_zero]; rfl) (fun K hK => ?_) (AllReadyH.cons (o := _) (by simp only [List.getElem?_toArray, List.getElem?_cons_succ, List.getElem?_cons_zero]; rfl) (fun K hK => ?_) AllReadyH.nil)
          · go_simp
            go_wp2_with fail
            have hhe := here_any W g mb (some ad) ln lc bs r d v2 v3 v4 v5 v6 v7 v9 v10 v11 v12 TA tn tc IA ic v15 v16 v17 HW.out.1 HR.out.1 HH.out.2.2.2.2.2 HN.out (by rw [HR.out.2.2.2.2.2]; exact hltI) (by rw [HD.out.1, HR.out.2.2.2.2.2]; rfl) HW.out.2.2.2.1
            refine hhe.mono ?_
            intro x w2 hHO
            clear hhe
            obtain ⟨k9, b9, e9, okb, s9, rfl, hW2, hM2, hst⟩ := here_step hHO (by rw [HR.out.2.2.2.2.2, HN.out]; exact hltI)
            have H2 := Lib.hid (show WalkAt w2 g mb (some ad) ln lc bs s9 ∧ Mv W w2 g mb ∧ ((okb = false ∧ s9 = leadS bs r ∧ leadE bs r = 0 ∧ ∀ f, nextW bs (f + 1) r = nextW bs f s9) ∨ (okb = true ∧ ∀ f, nextW bs (f + 1) r = (⟨k9, b9, e9⟩, s9))) ∧ (∀ jj vv, ([.int .i64 d.id, .int .i64 d.pz, v2, v3, v4, v5, v6, v7, .int .i64 d.ct, v9, v10, v11, v12, .slice TA tn tc, .slice IA d.ns.length ic, v15, v16, v17] : List Value)[jj]? = some vv → w2.cell? ((ad.add (n * 18)).add jj) = some vv) from ⟨hW2, hM2, hst, cells_mv HW.out.2.2.2.2.1 hM2 HW.out.2.2.2.2.2⟩)
            clear hHO hW2 hM2 hst
            refine hK.out _ _ ?_ (fun hHeld => ?_)
            · exact ⟨(H2.out.1.1.cell 0).trans rfl, H2.out.2.2.2⟩
            clear hK K
            try simp only [Act.put, List.setIfInBounds_toArray, List.set_cons_zero, List.set_cons_succ]
            refine wpAnyH_take (i := 12) (oi := _) (v := ?_) (by simp only [List.getElem?_toArray, List.getElem?_cons_succ, List.getElem?_cons_zero]; rfl) (by kernel_rfl) (by kernel_rfl) (by kernel_rfl) (by intro _ _ _ h; exact h) (Or.inl ⟨by rfl, ?_⟩) (by assumption) ?_
            rotate_left
            · intro w hSw
              try dsimp only at hSw
              go_simp
              try with_reducible rfl
            try simp only [Act.put, List.setIfInBounds_toArray, List.set_cons_zero, List.set_cons_succ]
            refine wpAnyH_take (i := 13) (oi := _) (v := ?_) (by simp only [List.getElem?_toArray, List.getElem?_cons_succ, List.getElem?_cons_zero]; rfl) (by kernel_rfl) (by kernel_rfl) (by kernel_rfl) (by intro _ _ _ h; exact h) (Or.inl ⟨by rfl, ?_⟩) (by assumption) ?_
            rotate_left
            · intro w hSw
              try dsimp only at hSw
              go_simp
              try with_reducible rfl
            try simp only [Act.put, List.setIfInBounds_toArray, List.set_cons_zero, List.set_cons_succ]
            refine wpAnyH_take (i := 14) (oi := _) (v := ?_) (by simp only [List.getElem?_toArray, List.getElem?_cons_succ, List.getElem?_cons_zero]; rfl) (by kernel_rfl) (by kernel_rfl) (by kernel_rfl) (by intro _ _ _ h; exact h) (Or.inl ⟨by rfl, ?_⟩) (by assumption) ?_
            rotate_left
            · intro w hSw
              try dsimp only at hSw
              go_simp
              try with_reducible rfl
            try simp only [Act.put, List.setIfInBounds_toArray, List.set_cons_zero, List.set_cons_succ]
            refine wpAnyH_ready (rs := [15]) (by kernel_rfl) (by simp) ?_
            refine AllReadyH.cons (o := _) (by simp only [List.getElem?_toArray, List.getElem?_cons_succ, List.getElem?_cons_zero]; rfl) (fun K hK => ?_) AllReadyH.nil
            have HB2 := Lib.hid (H2.out.1.below ((Below.refl _ _).alloc (Nat.le_refl _) (.cells #[.int .i64 0, .int .i64 0, .int .i64 0] 36)))
            go_simp
            refine hK.out _ _ ?_ (fun hHeld => ?_)
            · exact ⟨(HB2.out.1.cell 0).trans rfl, fun jj vv hjj => alloc_of (H2.out.2.2.2 jj vv hjj)⟩
            clear hK K
            try simp only [Act.put, List.setIfInBounds_toArray, List.set_cons_zero, List.set_cons_succ]
            refine wpAnyH_ready (rs := [16]) (by kernel_rfl) (by simp) ?_
            refine AllReadyH.cons (o := _) (by simp only [List.getElem?_toArray, List.getElem?_cons_succ, List.getElem?_cons_zero]; rfl) (fun K hK => ?_) AllReadyH.nil
            refine step_store_box rfl 36 _ _ (by rfl) (w2.heap.size) #[.int .i64 k9, .int .i64 b9, .int .i64 e9] (by rfl) (by rfl) 36 #[.int .i64 0, .int .i64 0, .int .i64 0] (Blk.new w2 _ _) stepInfo rfl (by simp [Value.oneCell']) ?_
            intro w3 hB3 hg3
            obtain ⟨q1, q2⟩ := HW.out.1.out HB2.out (H2.out.2.1.trans (Mv.of_below ((Below.refl _ _).alloc (Nat.le_refl _) _))) hg3 (by have := H2.out.2.1.size; omega)
            have hQ3 : Blk w3 w.heap.size 36 #[.int .i64 0, .int .i64 0, .int .i64 0] := (q2.block _ HW.out.2.2.1.lt (by omega) (by omega)).trans HW.out.2.2.1
            refine hK.out _ _ ?_ (fun hHeld => ?_)
            · exact ⟨(q1.1.cell 0).trans rfl, cells_mv HW.out.2.2.2.2.1 q2 HW.out.2.2.2.2.2⟩
            clear hK K
            try simp only [Act.put, List.setIfInBounds_toArray, List.set_cons_zero, List.set_cons_succ]
            refine wpAnyH_take (i := 17) (oi := _) (v := ?_) (by simp only [List.getElem?_toArray, List.getElem?_cons_succ, List.getElem?_cons_zero]; rfl) (by kernel_rfl) (by kernel_rfl) (by kernel_rfl) (by intro _ _ _ h; exact h) (Or.inl ⟨by rfl, ?_⟩) (by assumption) ?_
            rotate_left
            · intro w hSw
              try dsimp only at hSw
              go_simp
              try with_reducible rfl
            try simp only [Act.put, List.setIfInBounds_toArray, List.set_cons_zero, List.set_cons_succ]
            refine wpAnyH_done (by kernel_rfl) ?_ _
            have HX := Lib.hid (And.intro q1 q2)
            clear q1 q2
            rcases H2.out.2.2.1 with ⟨rfl, h1, h2, h3⟩ | ⟨rfl, h3⟩
            · have HF := Lib.hid (And.intro h1 (And.intro h2 h3))
              clear h1 h2 h3 hB3
              have HQ3 := Lib.hid hQ3
              clear hQ3
              go_wp2
              obtain ⟨ho, hr⟩ := lead_ok HH.out.2.2.2.2.2 HR.out.1 (by rw [HR.out.2.2.2.2.2, HN.out]; exact hltI) HF.out.2.1
              rw [← HF.out.1] at ho hr
              go_roundg (roundsN bs s9)
              case rel => exact ⟨s9, ho, HX.out.1, HW.out.2.1.trans HX.out.2, by rw [HR.out.2.2.2.1, HF.out.2.2]; exact nextW_enough HH.out.2.2.2.2.2 ho hr (Nat.lt_succ_self _), HQ3.out, rfl⟩
              case measure => exact hr
            · have HF := Lib.hid h3
              clear h3
              go_upto_region 8 with fail
              go_wp2_with (first
                | (refine wpList_load_box rfl 36 _ rfl (w2.heap.size) rfl 36 #[.int .i64 k9, .int .i64 b9, .int .i64 e9] hB3 _ Try.underlying36 rfl stepInfo (fun (_ : Hid _) => ?_))
                | (refine wpList_store_box rfl 36 _ _ rfl (w.heap.size) #[.int .i64 k9, .int .i64 b9, .int .i64 e9] rfl rfl 36 #[.int .i64 0, .int .i64 0, .int .i64 0] hQ3 stepInfo rfl (by simp [Value.oneCell']) ?_)
                | fail)
              intro w9 hB9 hg9
              have H9 := Lib.hid hg9
              clear hg9 hQ3 hB3
              go_wp2_with fail
              refine bodyPost_ret (results_cell_row rfl _ _ w.heap.size 36 _ (0, 0) _ rfl hB9 Try.underlying36 rfl stepInfo) rfl ?_
              obtain ⟨p1, p2⟩ := HH.out.2.2.2.1.out HX.out.1 (HW.out.2.1.trans HX.out.2) H9.out (Nat.le_refl _)
              rw [HR.out.2.2.2.1, HF.out]
              exact ⟨rfl, p1, p2⟩
          · have HA := Lib.hid (show WalkAt (W.alloc (.cells #[.int .i64 0, .int .i64 0, .int .i64 0] 36)) g mb (some ad) ln lc bs r ∧ Mv w (W.alloc (.cells #[.int .i64 0, .int .i64 0, .int .i64 0] 36)) g mb ∧ Blk (W.alloc (.cells #[.int .i64 0, .int .i64 0, .int .i64 0] 36)) w.heap.size 36 #[.int .i64 0, .int .i64 0, .int .i64 0] ∧ RdP (W.alloc (.cells #[.int .i64 0, .int .i64 0, .int .i64 0] 36)) (fun b => b ≠ g ∧ b ≠ mb ∧ b < (W.alloc (.cells #[.int .i64 0, .int .i64 0, .int .i64 0] 36)).heap.size) 1 TA tn (d.ts.map (Value.int .i64)) ∧ (∀ jj vv, ([.int .i64 d.id, .int .i64 d.pz, v2, v3, v4, v5, v6, v7, .int .i64 d.ct, v9, v10, v11, v12, .slice TA tn tc, .slice IA d.ns.length ic, v15, v16, v17] : List Value)[jj]? = some vv → (W.alloc (.cells #[.int .i64 0, .int .i64 0, .int .i64 0] 36)).cell? ((ad.add (n * 18)).add jj) = some vv) from ⟨HW.out.1.below ((Below.refl _ _).alloc (Nat.le_refl _) _), HW.out.2.1.trans (Mv.of_below ((Below.refl _ _).alloc (Nat.le_refl _) _)), HW.out.2.2.1.alloc _, HW.out.2.2.2.1.keep (fun b hp => Below.heap_alloc _ _ _ hp.2.2) (fun b hp => ⟨hp.1, hp.2.1, by have := hp.2.2; simp; omega⟩), fun jj vv hjj => alloc_of (HW.out.2.2.2.2.1 jj vv hjj)⟩)
            have c1a : (W.alloc (.cells #[.int .i64 0, .int .i64 0, .int .i64 0] 36)).cell? ⟨g, 1, none⟩ = some (.int .i64 n) := alloc_of c1w
            go_simp
            refine hK.out _ _ ?_ (fun hHeld => ?_)
            · exact ⟨(HA.out.1.1.cell 0).trans rfl, HA.out.2.2.2.2⟩
            clear hK K
            try simp only [Act.put, List.setIfInBounds_toArray, List.set_cons_zero, List.set_cons_succ]
            refine wpAnyH_ready (rs := [11]) (by kernel_rfl) (by simp) ?_
            refine AllReadyH.cons (o := _) (by simp only [List.getElem?_toArray, List.getElem?_cons_succ, List.getElem?_cons_zero]; rfl) (fun K hK => ?_) AllReadyH.nil
            go_simp
            go_wp2_with fail
            have hhe := here_any (W.alloc (.cells #[.int .i64 0, .int .i64 0, .int .i64 0] 36)) g mb (some ad) ln lc bs r d v2 v3 v4 v5 v6 v7 v9 v10 v11 v12 TA tn tc IA ic v15 v16 v17 HA.out.1 HR.out.1 HH.out.2.2.2.2.2 HN.out (by rw [HR.out.2.2.2.2.2]; exact hltI) (by rw [HD.out.1, HR.out.2.2.2.2.2]; rfl) HA.out.2.2.2.1
            refine hhe.mono ?_
            intro x w2 hHO
            clear hhe
            obtain ⟨k9, b9, e9, okb, s9, rfl, hW2, hM2, hst⟩ := here_step hHO (by rw [HR.out.2.2.2.2.2, HN.out]; exact hltI)
            have H2 := Lib.hid (show WalkAt w2 g mb (some ad) ln lc bs s9 ∧ Mv (W.alloc (.cells #[.int .i64 0, .int .i64 0, .int .i64 0] 36)) w2 g mb ∧ ((okb = false ∧ s9 = leadS bs r ∧ leadE bs r = 0 ∧ ∀ f, nextW bs (f + 1) r = nextW bs f s9) ∨ (okb = true ∧ ∀ f, nextW bs (f + 1) r = (⟨k9, b9, e9⟩, s9))) ∧ (∀ jj vv, ([.int .i64 d.id, .int .i64 d.pz, v2, v3, v4, v5, v6, v7, .int .i64 d.ct, v9, v10, v11, v12, .slice TA tn tc, .slice IA d.ns.length ic, v15, v16, v17] : List Value)[jj]? = some vv → w2.cell? ((ad.add (n * 18)).add jj) = some vv) from ⟨hW2, hM2, hst, cells_mv HA.out.2.2.2.2 hM2 ⟨HW.out.2.2.2.2.2.1, HW.out.2.2.2.2.2.2.1, by have := HW.out.2.2.2.2.2.2.2; simp; omega⟩⟩)
            clear hHO hW2 hM2 hst
            refine hK.out _ _ ?_ (fun hHeld => ?_)
            · exact ⟨(H2.out.1.1.cell 0).trans rfl, H2.out.2.2.2⟩
            clear hK K
            try simp only [Act.put, List.setIfInBounds_toArray, List.set_cons_zero, List.set_cons_succ]
            refine wpAnyH_take (i := 12) (oi := _) (v := ?_) (by simp only [List.getElem?_toArray, List.getElem?_cons_succ, List.getElem?_cons_zero]; rfl) (by kernel_rfl) (by kernel_rfl) (by kernel_rfl) (by intro _ _ _ h; exact h) (Or.inl ⟨by rfl, ?_⟩) (by assumption) ?_
            rotate_left
            · intro w hSw
              try dsimp only at hSw
              go_simp
              try with_reducible rfl
            try simp only [Act.put, List.setIfInBounds_toArray, List.set_cons_zero, List.set_cons_succ]
            refine wpAnyH_take (i := 13) (oi := _) (v := ?_) (by simp only [List.getElem?_toArray, List.getElem?_cons_succ, List.getElem?_cons_zero]; rfl) (by kernel_rfl) (by kernel_rfl) (by kernel_rfl) (by intro _ _ _ h; exact h) (Or.inl ⟨by rfl, ?_⟩) (by assumption) ?_
            rotate_left
            · intro w hSw
              try dsimp only at hSw
              go_simp
              try with_reducible rfl
            try simp only [Act.put, List.setIfInBounds_toArray, List.set_cons_zero, List.set_cons_succ]
            refine wpAnyH_take (i := 14) (oi := _) (v := ?_) (by simp only [List.getElem?_toArray, List.getElem?_cons_succ, List.getElem?_cons_zero]; rfl) (by kernel_rfl) (by kernel_rfl) (by kernel_rfl) (by intro _ _ _ h; exact h) (Or.inl ⟨by rfl, ?_⟩) (by assumption) ?_
            rotate_left
            · intro w hSw
              try dsimp only at hSw
              go_simp
              try with_reducible rfl
            try simp only [Act.put, List.setIfInBounds_toArray, List.set_cons_zero, List.set_cons_succ]
            refine wpAnyH_ready (rs := [16]) (by kernel_rfl) (by simp) ?_
            refine AllReadyH.cons (o := _) (by simp only [List.getElem?_toArray, List.getElem?_cons_succ, List.getElem?_cons_zero]; rfl) (fun K hK => ?_) AllReadyH.nil
            refine step_store_box rfl 36 _ _ (by rfl) (W.heap.size) #[.int .i64 k9, .int .i64 b9, .int .i64 e9] (by rfl) (by rfl) 36 #[.int .i64 0, .int .i64 0, .int .i64 0] ((H2.out.2.1.block _ (by simp) (by have := HW.out.1.1.lt; omega) (by have := HW.out.1.2.1.lt; omega)).trans (Blk.new W _ _)) stepInfo rfl (by simp [Value.oneCell']) ?_
            intro w3 hB3 hg3
            obtain ⟨q1, q2⟩ := HW.out.1.out H2.out.1 ((Mv.of_below ((Below.refl _ _).alloc (Nat.le_refl _) _)).trans H2.out.2.1) hg3 (by have := H2.out.2.1.size; omega)
            have hQ3 : Blk w3 w.heap.size 36 #[.int .i64 0, .int .i64 0, .int .i64 0] := (q2.block _ HW.out.2.2.1.lt (by omega) (by omega)).trans HW.out.2.2.1
            refine hK.out _ _ ?_ (fun hHeld => ?_)
            · exact ⟨(q1.1.cell 0).trans rfl, cells_mv HW.out.2.2.2.2.1 q2 HW.out.2.2.2.2.2⟩
            clear hK K
            try simp only [Act.put, List.setIfInBounds_toArray, List.set_cons_zero, List.set_cons_succ]
            refine wpAnyH_take (i := 17) (oi := _) (v := ?_) (by simp only [List.getElem?_toArray, List.getElem?_cons_succ, List.getElem?_cons_zero]; rfl) (by kernel_rfl) (by kernel_rfl) (by kernel_rfl) (by intro _ _ _ h; exact h) (Or.inl ⟨by rfl, ?_⟩) (by assumption) ?_
            rotate_left
            · intro w hSw
              try dsimp only at hSw
              go_simp
              try with_reducible rfl
            try simp only [Act.put, List.setIfInBounds_toArray, List.set_cons_zero, List.set_cons_succ]
            refine wpAnyH_done (by kernel_rfl) ?_ _
            have HX := Lib.hid (And.intro q1 q2)
            clear q1 q2
            rcases H2.out.2.2.1 with ⟨rfl, h1, h2, h3⟩ | ⟨rfl, h3⟩
            · have HF := Lib.hid (And.intro h1 (And.intro h2 h3))
              clear h1 h2 h3 hB3
              have HQ3 := Lib.hid hQ3
              clear hQ3
              go_wp2
              obtain ⟨ho, hr⟩ := lead_ok HH.out.2.2.2.2.2 HR.out.1 (by rw [HR.out.2.2.2.2.2, HN.out]; exact hltI) HF.out.2.1
              rw [← HF.out.1] at ho hr
              go_roundg (roundsN bs s9)
              case rel => exact ⟨s9, ho, HX.out.1, HW.out.2.1.trans HX.out.2, by rw [HR.out.2.2.2.1, HF.out.2.2]; exact nextW_enough HH.out.2.2.2.2.2 ho hr (Nat.lt_succ_self _), HQ3.out, rfl⟩
              case measure => exact hr
            · have HF := Lib.hid h3
              clear h3
              go_upto_region 8 with fail
              go_wp2_with (first
                | (refine wpList_load_box rfl 36 _ rfl (W.heap.size) rfl 36 #[.int .i64 k9, .int .i64 b9, .int .i64 e9] hB3 _ Try.underlying36 rfl stepInfo (fun (_ : Hid _) => ?_))
                | (refine wpList_store_box rfl 36 _ _ rfl (w.heap.size) #[.int .i64 k9, .int .i64 b9, .int .i64 e9] rfl rfl 36 #[.int .i64 0, .int .i64 0, .int .i64 0] hQ3 stepInfo rfl (by simp [Value.oneCell']) ?_)
                | fail)
              intro w9 hB9 hg9
              have H9 := Lib.hid hg9
              clear hg9 hQ3 hB3
              go_wp2_with fail
              refine bodyPost_ret (results_cell_row rfl _ _ w.heap.size 36 _ (0, 0) _ rfl hB9 Try.underlying36 rfl stepInfo) rfl ?_
              obtain ⟨p1, p2⟩ := HH.out.2.2.2.1.out HX.out.1 (HW.out.2.1.trans HX.out.2) H9.out (Nat.le_refl _)
              rw [HR.out.2.2.2.1, HF.out]
              exact ⟨rfl, p1, p2⟩
        · have HA := Lib.hid (show WalkAt (W.alloc (.cells #[.int .i64 0, .int .i64 0, .int .i64 0] 36)) g mb (some ad) ln lc bs r ∧ Mv w (W.alloc (.cells #[.int .i64 0, .int .i64 0, .int .i64 0] 36)) g mb ∧ Blk (W.alloc (.cells #[.int .i64 0, .int .i64 0, .int .i64 0] 36)) w.heap.size 36 #[.int .i64 0, .int .i64 0, .int .i64 0] ∧ RdP (W.alloc (.cells #[.int .i64 0, .int .i64 0, .int .i64 0] 36)) (fun b => b ≠ g ∧ b ≠ mb ∧ b < (W.alloc (.cells #[.int .i64 0, .int .i64 0, .int .i64 0] 36)).heap.size) 1 TA tn (d.ts.map (Value.int .i64)) ∧ (∀ jj vv, ([.int .i64 d.id, .int .i64 d.pz, v2, v3, v4, v5, v6, v7, .int .i64 d.ct, v9, v10, v11, v12, .slice TA tn tc, .slice IA d.ns.length ic, v15, v16, v17] : List Value)[jj]? = some vv → (W.alloc (.cells #[.int .i64 0, .int .i64 0, .int .i64 0] 36)).cell? ((ad.add (n * 18)).add jj) = some vv) from ⟨HW.out.1.below ((Below.refl _ _).alloc (Nat.le_refl _) _), HW.out.2.1.trans (Mv.of_below ((Below.refl _ _).alloc (Nat.le_refl _) _)), HW.out.2.2.1.alloc _, HW.out.2.2.2.1.keep (fun b hp => Below.heap_alloc _ _ _ hp.2.2) (fun b hp => ⟨hp.1, hp.2.1, by have := hp.2.2; simp; omega⟩), fun jj vv hjj => alloc_of (HW.out.2.2.2.2.1 jj vv hjj)⟩)
          have c1a : (W.alloc (.cells #[.int .i64 0, .int .i64 0, .int .i64 0] 36)).cell? ⟨g, 1, none⟩ = some (.int .i64 n) := alloc_of c1w
          go_simp
          refine hK.out _ _ ?_ (fun hHeld => ?_)
          · exact ⟨(HA.out.1.1.cell 0).trans rfl, HA.out.2.2.2.2⟩
          clear hK K
          try simp only [Act.put, List.setIfInBounds_toArray, List.set_cons_zero, List.set_cons_succ]
          refine wpAnyH_ready (rs := [8]) (by kernel_rfl) (by simp) ?_
          refine AllReadyH.cons (o := _) (by simp only [List.getElem?_toArray, List.getElem?_cons_succ, List.getElem?_cons_zero]; rfl) (fun K hK => ?_) AllReadyH.nil
          go_simp
          refine hK.out _ _ ?_ (fun hHeld => ?_)
          · exact ⟨(HA.out.1.1.cell 0).trans rfl, HA.out.2.2.2.2⟩
          clear hK K
          try simp only [Act.put, List.setIfInBounds_toArray, List.set_cons_zero, List.set_cons_succ]
          refine wpAnyH_take (i := 9) (oi := _) (v := ?_) (by simp only [List.getElem?_toArray, List.getElem?_cons_succ, List.getElem?_cons_zero]; rfl) (by kernel_rfl) (by kernel_rfl) (by kernel_rfl) (by intro _ _ _ h; exact h) (Or.inl ⟨by rfl, ?_⟩) (by assumption) ?_
          rotate_left
          · intro w hSw
            try dsimp only at hSw
            obtain ⟨sa, sb⟩ := hSw
            go_simp
            try with_reducible rfl
          try simp only [Act.put, List.setIfInBounds_toArray, List.set_cons_zero, List.set_cons_succ]
          refine wpAnyH_take (i := 10) (oi := _) (v := ?_) (by simp only [List.getElem?_toArray, List.getElem?_cons_succ, List.getElem?_cons_zero]; rfl) (by kernel_rfl) (by kernel_rfl) (by kernel_rfl) (by intro _ _ _ h; exact h) (Or.inl ⟨by rfl, ?_⟩) (by assumption) ?_
          rotate_left
          · intro w hSw
            refine run_load_at (P := Try.prog) 45 (.tmp 36) ?_ (ad.add (n * 18)) ?_ [.int .i64 d.id, .int .i64 d.pz, v2, v3, v4, v5, v6, v7, .int .i64 d.ct, v9, v10, v11, v12, .slice TA tn tc, .slice IA d.ns.length ic, v15, v16, v17] hSw.2 _ Try.underlying45 rfl blkInfo
            · rfl
            · rfl
          try simp only [Act.put, List.setIfInBounds_toArray, List.set_cons_zero, List.set_cons_succ]
          refine wpAnyH_ready (rs := [11]) (by kernel_rfl) (by simp) ?_
          refine AllReadyH.cons (o := _) (by simp only [List.getElem?_toArray, List.getElem?_cons_succ, List.getElem?_cons_zero]; rfl) (fun K hK => ?_) AllReadyH.nil
          go_simp
          go_wp2_with fail
          have hhe := here_any (W.alloc (.cells #[.int .i64 0, .int .i64 0, .int .i64 0] 36)) g mb (some ad) ln lc bs r d v2 v3 v4 v5 v6 v7 v9 v10 v11 v12 TA tn tc IA ic v15 v16 v17 HA.out.1 HR.out.1 HH.out.2.2.2.2.2 HN.out (by rw [HR.out.2.2.2.2.2]; exact hltI) (by rw [HD.out.1, HR.out.2.2.2.2.2]; rfl) HA.out.2.2.2.1
          refine hhe.mono ?_
          intro x w2 hHO
          clear hhe
          obtain ⟨k9, b9, e9, okb, s9, rfl, hW2, hM2, hst⟩ := here_step hHO (by rw [HR.out.2.2.2.2.2, HN.out]; exact hltI)
          have H2 := Lib.hid (show WalkAt w2 g mb (some ad) ln lc bs s9 ∧ Mv (W.alloc (.cells #[.int .i64 0, .int .i64 0, .int .i64 0] 36)) w2 g mb ∧ ((okb = false ∧ s9 = leadS bs r ∧ leadE bs r = 0 ∧ ∀ f, nextW bs (f + 1) r = nextW bs f s9) ∨ (okb = true ∧ ∀ f, nextW bs (f + 1) r = (⟨k9, b9, e9⟩, s9))) ∧ (∀ jj vv, ([.int .i64 d.id, .int .i64 d.pz, v2, v3, v4, v5, v6, v7, .int .i64 d.ct, v9, v10, v11, v12, .slice TA tn tc, .slice IA d.ns.length ic, v15, v16, v17] : List Value)[jj]? = some vv → w2.cell? ((ad.add (n * 18)).add jj) = some vv) from ⟨hW2, hM2, hst, cells_mv HA.out.2.2.2.2 hM2 ⟨HW.out.2.2.2.2.2.1, HW.out.2.2.2.2.2.2.1, by have := HW.out.2.2.2.2.2.2.2; simp; omega⟩⟩)
          clear hHO hW2 hM2 hst
          refine hK.out _ _ ?_ (fun hHeld => ?_)
          · exact ⟨(H2.out.1.1.cell 0).trans rfl, H2.out.2.2.2⟩
          clear hK K
          try simp only [Act.put, List.setIfInBounds_toArray, List.set_cons_zero, List.set_cons_succ]
          refine wpAnyH_take (i := 12) (oi := _) (v := ?_) (by simp only [List.getElem?_toArray, List.getElem?_cons_succ, List.getElem?_cons_zero]; rfl) (by kernel_rfl) (by kernel_rfl) (by kernel_rfl) (by intro _ _ _ h; exact h) (Or.inl ⟨by rfl, ?_⟩) (by assumption) ?_
          rotate_left
          · intro w hSw
            try dsimp only at hSw
            go_simp
            try with_reducible rfl
          try simp only [Act.put, List.setIfInBounds_toArray, List.set_cons_zero, List.set_cons_succ]
          refine wpAnyH_take (i := 13) (oi := _) (v := ?_) (by simp only [List.getElem?_toArray, List.getElem?_cons_succ, List.getElem?_cons_zero]; rfl) (by kernel_rfl) (by kernel_rfl) (by kernel_rfl) (by intro _ _ _ h; exact h) (Or.inl ⟨by rfl, ?_⟩) (by assumption) ?_
          rotate_left
          · intro w hSw
            try dsimp only at hSw
            go_simp
            try with_reducible rfl
          try simp only [Act.put, List.setIfInBounds_toArray, List.set_cons_zero, List.set_cons_succ]
          refine wpAnyH_take (i := 14) (oi := _) (v := ?_) (by simp only [List.getElem?_toArray, List.getElem?_cons_succ, List.getElem?_cons_zero]; rfl) (by kernel_rfl) (by kernel_rfl) (by kernel_rfl) (by intro _ _ _ h; exact h) (Or.inl ⟨by rfl, ?_⟩) (by assumption) ?_
          rotate_left
          · intro w hSw
            try dsimp only at hSw
            go_simp
            try with_reducible rfl
          try simp only [Act.put, List.setIfInBounds_toArray, List.set_cons_zero, List.set_cons_succ]
          refine wpAnyH_ready (rs := [16]) (by kernel_rfl) (by simp) ?_
          refine AllReadyH.cons (o := _) (by simp only [List.getElem?_toArray, List.getElem?_cons_succ, List.getElem?_cons_zero]; rfl) (fun K hK => ?_) AllReadyH.nil
          refine step_store_box rfl 36 _ _ (by rfl) (W.heap.size) #[.int .i64 k9, .int .i64 b9, .int .i64 e9] (by rfl) (by rfl) 36 #[.int .i64 0, .int .i64 0, .int .i64 0] ((H2.out.2.1.block _ (by simp) (by have := HW.out.1.1.lt; omega) (by have := HW.out.1.2.1.lt; omega)).trans (Blk.new W _ _)) stepInfo rfl (by simp [Value.oneCell']) ?_
          intro w3 hB3 hg3
          obtain ⟨q1, q2⟩ := HW.out.1.out H2.out.1 ((Mv.of_below ((Below.refl _ _).alloc (Nat.le_refl _) _)).trans H2.out.2.1) hg3 (by have := H2.out.2.1.size; omega)
          have hQ3 : Blk w3 w.heap.size 36 #[.int .i64 0, .int .i64 0, .int .i64 0] := (q2.block _ HW.out.2.2.1.lt (by omega) (by omega)).trans HW.out.2.2.1
          refine hK.out _ _ ?_ (fun hHeld => ?_)
          · exact ⟨(q1.1.cell 0).trans rfl, cells_mv HW.out.2.2.2.2.1 q2 HW.out.2.2.2.2.2⟩
          clear hK K
          try simp only [Act.put, List.setIfInBounds_toArray, List.set_cons_zero, List.set_cons_succ]
          refine wpAnyH_take (i := 17) (oi := _) (v := ?_) (by simp only [List.getElem?_toArray, List.getElem?_cons_succ, List.getElem?_cons_zero]; rfl) (by kernel_rfl) (by kernel_rfl) (by kernel_rfl) (by intro _ _ _ h; exact h) (Or.inl ⟨by rfl, ?_⟩) (by assumption) ?_
          rotate_left
          · intro w hSw
            try dsimp only at hSw
            go_simp
            try with_reducible rfl
          try simp only [Act.put, List.setIfInBounds_toArray, List.set_cons_zero, List.set_cons_succ]
          refine wpAnyH_done (by kernel_rfl) ?_ _
          have HX := Lib.hid (And.intro q1 q2)
          clear q1 q2
          rcases H2.out.2.2.1 with ⟨rfl, h1, h2, h3⟩ | ⟨rfl, h3⟩
          · have HF := Lib.hid (And.intro h1 (And.intro h2 h3))
            clear h1 h2 h3 hB3
            have HQ3 := Lib.hid hQ3
            clear hQ3
            go_wp2
            obtain ⟨ho, hr⟩ := lead_ok HH.out.2.2.2.2.2 HR.out.1 (by rw [HR.out.2.2.2.2.2, HN.out]; exact hltI) HF.out.2.1
            rw [← HF.out.1] at ho hr
            go_roundg (roundsN bs s9)
            case rel => exact ⟨s9, ho, HX.out.1, HW.out.2.1.trans HX.out.2, by rw [HR.out.2.2.2.1, HF.out.2.2]; exact nextW_enough HH.out.2.2.2.2.2 ho hr (Nat.lt_succ_self _), HQ3.out, rfl⟩
            case measure => exact hr
          · have HF := Lib.hid h3
            clear h3
            go_upto_region 8 with fail
            go_wp2_with (first
              | (refine wpList_load_box rfl 36 _ rfl (W.heap.size) rfl 36 #[.int .i64 k9, .int .i64 b9, .int .i64 e9] hB3 _ Try.underlying36 rfl stepInfo (fun (_ : Hid _) => ?_))
              | (refine wpList_store_box rfl 36 _ _ rfl (w.heap.size) #[.int .i64 k9, .int .i64 b9, .int .i64 e9] rfl rfl 36 #[.int .i64 0, .int .i64 0, .int .i64 0] hQ3 stepInfo rfl (by simp [Value.oneCell']) ?_)
              | fail)
            intro w9 hB9 hg9
            have H9 := Lib.hid hg9
            clear hg9 hQ3 hB3
            go_wp2_with fail
            refine bodyPost_ret (results_cell_row rfl _ _ w.heap.size 36 _ (0, 0) _ rfl hB9 Try.underlying36 rfl stepInfo) rfl ?_
            obtain ⟨p1, p2⟩ := HH.out.2.2.2.1.out HX.out.1 (HW.out.2.1.trans HX.out.2) H9.out (Nat.le_refl _)
            rw [HR.out.2.2.2.1, HF.out]
            exact ⟨rfl, p1, p2⟩
      · have hltI : ¬ (n : Int) < (ln : Int) := by omega
        have hnn : nextW bs (roundsN bs r + 1) r = (⟨3, bs.length, 0⟩, stayS r 3 bs.length 0) := by rw [nextW, if_neg (by rw [hn, HN.out]; exact hltI)]
        have HR := Lib.hid (And.intro hrk (And.intro hW (And.intro hM (And.intro (hnx.trans hnn) (And.intro hQ hn)))))
        clear hrk hW hM hnx hQ hn hnn
        go_upto_region 5 with fail
        go_quiet (fail)
        have HW := Lib.hid (show WalkAt (wr.drewN nq) g mb LA ln lc bs r ∧ Mv w (wr.drewN nq) g mb ∧ Blk (wr.drewN nq) w.heap.size 36 #[.int .i64 0, .int .i64 0, .int .i64 0] from ⟨HR.out.2.1.drewN nq, HR.out.2.2.1.trans ⟨rfl, rfl, rfl, Nat.le_refl _, fun _ _ _ _ => rfl⟩, HR.out.2.2.2.2.1⟩)
        clear c1
        have c0w : (wr.drewN nq).cell? ⟨g, 0, none⟩ = some (.slice LA ln lc) := c0
        clear c0
        generalize wr.drewN nq = W at *
        have hsy := stay_any W g mb LA ln lc bs r 3 ln 0 HW.out.1
        go_wp2_with fail
        refine hsy.mono ?_
        rintro x w8 ⟨rfl, hW8, hM8⟩
        clear hsy c0w
        have hQ8 : Blk w8 w.heap.size 36 #[.int .i64 0, .int .i64 0, .int .i64 0] := (hM8.block _ HW.out.2.2.lt (by omega) (by omega)).trans HW.out.2.2
        have H8 := Lib.hid (And.intro hW8 (HW.out.2.1.trans hM8))
        clear hW8 hM8
        go_wp2_with (first
          | (refine wpList_store_box rfl 36 _ _ rfl (w.heap.size) #[.int .i64 3, .int .i64 ln, .int .i64 0] rfl rfl 36 #[.int .i64 0, .int .i64 0, .int .i64 0] hQ8 stepInfo rfl (by simp [Value.oneCell']) ?_)
          | fail)
        intro w9 hB9 hg9
        have H9 := Lib.hid hg9
        clear hg9 hQ8
        go_wp2_with fail
        refine bodyPost_ret (results_cell_row rfl _ _ w.heap.size 36 _ (0, 0) _ rfl hB9 Try.underlying36 rfl stepInfo) rfl ?_
        obtain ⟨p1, p2⟩ := HH.out.2.2.2.1.out H8.out.1 H8.out.2 H9.out (Nat.le_refl _)
        rw [HR.out.2.2.2.1, HN.out]
        exact ⟨rfl, p1, p2⟩
end Go.Proofs.Ytnmapncgnceldaa
