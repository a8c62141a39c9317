/- Layer 24: contracts of where any block leads, of what comes at a block. -/
import Derived.Test.YtnmapncgnceldaaWk10
namespace Go.Proofs.Ytnmapncgnceldaa
open Go.RowKit

theorem leads_any (w : World) (g mb : Nat) (LA : Option Addr) (ln lc : Nat) (bs : List WB) (s : WS) (d : WB) (v2 v3 v4 v5 v6 v7 v9 v10 v11 v12 : Value) (TA : Option Addr) (tn tc : Nat) (IA : Option Addr) (ic : Nat) (v15 v16 v17 : Value) (h : WalkAt w g mb LA ln lc bs s) (hok : s.ok bs) (hf : Fine bs) (hln : bs.length = ln) (hlt : s.at_ < ln) (hd : d = atB bs s.at_) (hT : RdP w (fun b => b ≠ g ∧ b ≠ mb ∧ b < w.heap.size) 1 TA tn (d.ts.map (Value.int .i64))) :
    Calls Try.prog 29 #[.pointer (some ⟨g, 0, none⟩), .agg #[.int .i64 d.id, .int .i64 d.pz, v2, v3, v4, v5, v6, v7, .int .i64 d.ct, v9, v10, v11, v12, .slice TA tn tc, .slice IA d.ns.length ic, v15, v16, v17]] w fun x w' => LeadO w w' x g mb LA ln lc bs s := by
  by_cases h35 : d.id = 35
  · exact lead35_any w g mb LA ln lc bs s d v2 v3 v4 v5 v6 v7 v9 v10 v11 v12 TA tn tc IA ic v15 v16 v17 h hok hf hln hlt hd h35 hT
  · by_cases h36 : d.id = 36
    · exact lead36_any w g mb LA ln lc bs s d v2 v3 v4 v5 v6 v7 v9 v10 v11 v12 TA tn tc IA ic v15 v16 v17 h hok hf hln hlt hd h36 hT
    · by_cases h37 : d.id = 37
      · exact lead37_any w g mb LA ln lc bs s d v2 v3 v4 v5 v6 v7 v9 v10 v11 v12 TA tn tc IA ic v15 v16 v17 h hok hf hln hlt hd h37 hT
      · by_cases h38 : d.id = 38
        · exact lead38_any w g mb LA ln lc bs s d v2 v3 v4 v5 v6 v7 v9 v10 v11 v12 TA tn tc IA ic v15 v16 v17 h hok hf hln hlt hd h38 hT
        · by_cases h39 : d.id = 39
          · exact lead39_any w g mb LA ln lc bs s d v2 v3 v4 v5 v6 v7 v9 v10 v11 v12 TA tn tc IA ic v15 v16 v17 h hok hf hln hlt hd h39 hf hT
          · exact lead0_any w g mb LA ln lc bs s d v2 v3 v4 v5 v6 v7 v9 v10 v11 v12 TA tn tc IA ic v15 v16 v17 h hok hf hln hlt hd ⟨h35, h36, h37, h38, h39⟩ hT

/-- what a block leaves -/
def HereO (w w' : World) (x : Ending) (g mb : Nat) (LA : Option Addr) (ln lc : Nat) (bs : List WB) (s : WS) : Prop :=
  Mv w w' g mb ∧ ((toldK (atB bs s.at_) = 3 ∧ leadE bs s = 0 ∧ x = .returned (.tuple #[.agg #[.int .i64 0, .int .i64 0, .int .i64 0], .bool false]) ∧ WalkAt w' g mb LA ln lc bs (leadS bs s)) ∨
    (toldK (atB bs s.at_) = 3 ∧ leadE bs s ≠ 0 ∧ x = .returned (.tuple #[.agg #[.int .i64 4, .int .i64 s.at_, .int .i64 (leadE bs s)], .bool true]) ∧ WalkAt w' g mb LA ln lc bs (stayS s 4 s.at_ (leadE bs s))) ∨
    (toldK (atB bs s.at_) ≠ 3 ∧ x = .returned (.tuple #[.agg #[.int .i64 (toldK (atB bs s.at_)), .int .i64 s.at_, .int .i64 0], .bool true]) ∧ WalkAt w' g mb LA ln lc bs { s with at_ := s.at_ + 1 }))

set_option maxRecDepth 100000 in
set_option maxHeartbeats 8000000 in
theorem here32_any (w : World) (g mb : Nat) (LA : Option Addr) (ln lc : Nat) (bs : List WB) (s : WS) (d : WB) (v2 v3 v4 v5 v6 v7 v9 v10 v11 v12 : Value) (TA : Option Addr) (tn tc : Nat) (IA : Option Addr) (ic : Nat) (v15 v16 v17 : Value) (I pz : Int) (hI : I = d.id) (hpz : pz = d.pz) (h : WalkAt w g mb LA ln lc bs s) (hok : s.ok bs) (hf : Fine bs) (hln : bs.length = ln) (hlt : s.at_ < ln) (hd : d = atB bs s.at_) (hT : RdP w (fun b => b ≠ g ∧ b ≠ mb ∧ b < w.heap.size) 1 TA tn (d.ts.map (Value.int .i64))) (hA : I = 32 ∧ pz = 0) :
    Calls Try.prog 19 #[.pointer (some ⟨g, 0, none⟩), .agg #[.int .i64 I, .int .i64 pz, v2, v3, v4, v5, v6, v7, .int .i64 d.ct, v9, v10, v11, v12, .slice TA tn tc, .slice IA d.ns.length ic, v15, v16, v17]] w fun x w' => HereO w w' x g mb LA ln lc bs s := by
  obtain ⟨n, hn⟩ : ∃ n : Nat, s.at_ = (n : Int) := ⟨s.at_.toNat, by have := hok.1; omega⟩
  have hnl : n < ln := by omega
  have hl60 : ln ≤ 60 := by have := hf.1; omega
  have hwn : IntKind.i64.wrap ((n : Int) + 1) = (n : Int) + 1 := by rw [IntKind.wrap_i64]; omega
  have hb2 : Below w.heap.size w ((w.alloc (.cells #[.int .i64 I, .int .i64 pz, v2, v3, v4, v5, v6, v7, .int .i64 d.ct, v9, v10, v11, v12, .slice TA tn tc, .slice IA d.ns.length ic, v15, v16, v17] 45)).alloc (.cells #[.int .i64 0, .int .i64 0, .int .i64 0] 36)) := ((Below.refl _ _).alloc (Nat.le_refl _) _).alloc (by simp) _
  have hP : Blk ((w.alloc (.cells #[.int .i64 I, .int .i64 pz, v2, v3, v4, v5, v6, v7, .int .i64 d.ct, v9, v10, v11, v12, .slice TA tn tc, .slice IA d.ns.length ic, v15, v16, v17] 45)).alloc (.cells #[.int .i64 0, .int .i64 0, .int .i64 0] 36)) w.heap.size 45 #[.int .i64 I, .int .i64 pz, v2, v3, v4, v5, v6, v7, .int .i64 d.ct, v9, v10, v11, v12, .slice TA tn tc, .slice IA d.ns.length ic, v15, v16, v17] := (Blk.new w _ _).alloc _
  have hQ : Blk ((w.alloc (.cells #[.int .i64 I, .int .i64 pz, v2, v3, v4, v5, v6, v7, .int .i64 d.ct, v9, v10, v11, v12, .slice TA tn tc, .slice IA d.ns.length ic, v15, v16, v17] 45)).alloc (.cells #[.int .i64 0, .int .i64 0, .int .i64 0] 36)) (w.heap.size + 1) 36 #[.int .i64 0, .int .i64 0, .int .i64 0] := by
    have := Blk.new (w.alloc (.cells #[.int .i64 I, .int .i64 pz, v2, v3, v4, v5, v6, v7, .int .i64 d.ct, v9, v10, v11, v12, .slice TA tn tc, .slice IA d.ns.length ic, v15, v16, v17] 45)) 36 #[.int .i64 0, .int .i64 0, .int .i64 0]
    simpa using this
  have hgl := h.1.lt
  have hml := h.2.1.lt
  have hne := h.2.1.ne h.1
  have HI := Lib.hid (And.intro hI hpz)
  have HH := Lib.hid (And.intro (h.below hb2) (And.intro hb2 (And.intro hP (And.intro hQ (And.intro h (And.intro hok (And.intro hd (And.intro hn (And.intro hf hT)))))))))
  have HN := Lib.hid hln
  clear h hb2 hP hQ hok hf hln hlt hd hn hT hI hpz
  have HA := Lib.hid hA
  clear hA
  go_enter Try.func19, Try.ntmps19
  go_upto_region 1 with fail
  generalize ((w.alloc (.cells #[.int .i64 I, .int .i64 pz, v2, v3, v4, v5, v6, v7, .int .i64 d.ct, v9, v10, v11, v12, .slice TA tn tc, .slice IA d.ns.length ic, v15, v16, v17] 45)).alloc (.cells #[.int .i64 0, .int .i64 0, .int .i64 0] 36)) = w0 at *
  have hws := Lib.hid HH.out.2.1.size
  have hql := HH.out.2.2.2.1.lt
  have c1 : w0.cell? ⟨g, 1, none⟩ = some (.int .i64 n) := by rw [← HH.out.2.2.2.2.2.2.2.1]; exact (HH.out.1.1.cell 1).trans rfl
  obtain ⟨B, hBd⟩ : ∃ B, B = w0.heap.size := ⟨_, rfl⟩
  have HBD := Lib.hid hBd
  have hB1 : w.heap.size + 1 < B := by omega
  clear hBd hql
  go_upto_region 2 with (first
    | (refine wpList_store_box rfl 36 _ _ rfl w0.heap.size #[.int .i64 0, .int .i64 n, .int .i64 0] rfl rfl 36 #[.int .i64 0, .int .i64 0, .int .i64 0] (Blk.new w0 _ _) stepInfo rfl (by simp [Value.oneCell']) ?_)
    | fail)
  intro w1 hB9 hg9
  rw [← HBD.out] at hB9 hg9 ⊢
  have H1 := Lib.hid (show WalkAt w1 g mb LA ln lc bs s ∧ Mv w w1 g mb ∧ Blk w1 (w.heap.size + 1) 36 #[.int .i64 0, .int .i64 0, .int .i64 0] ∧ Blk w1 w.heap.size 45 #[.int .i64 I, .int .i64 pz, v2, v3, v4, v5, v6, v7, .int .i64 d.ct, v9, v10, v11, v12, .slice TA tn tc, .slice IA d.ns.length ic, v15, v16, v17] ∧ Blk w1 B 36 #[.int .i64 0, .int .i64 n, .int .i64 0] ∧ Below w.heap.size w w1 from
    have hba : Below w.heap.size w (w0.alloc (.cells #[.int .i64 0, .int .i64 0, .int .i64 0] 36)) := HH.out.2.1.alloc hws.out _
    have hb1 : Below w.heap.size w w1 := hba.grown hg9 (by have := hba.size; omega) (fun k e => by injection e with e; omega)
    ⟨HH.out.2.2.2.2.1.below hb1, Mv.of_below hb1, (HH.out.2.2.2.1.alloc _).grown hg9 (fun e => by injection e with e; omega), (HH.out.2.2.1.alloc _).grown hg9 (fun e => by injection e with e; omega), hB9, hb1⟩)
  clear hB9 hg9 c1
  have p0 : w1.cell? ⟨w.heap.size, 0, none⟩ = some (.int .i64 I) := (H1.out.2.2.2.1.cell 0).trans rfl
  have p1 : w1.cell? ⟨w.heap.size, 1, none⟩ = some (.int .i64 pz) := (H1.out.2.2.2.1.cell 1).trans rfl
  rw [HA.out.1] at p0
  rw [HA.out.2] at p1
  have d0 : w1.cell? ⟨B, 0, none⟩ = some (.int .i64 0) := (H1.out.2.2.2.2.1.cell 0).trans rfl
  have e0 : w1.frozen? ⟨B, 0, none⟩ = false := H1.out.2.2.2.2.1.frozen 0
  go_upto_region 9 with fail
  have HZ := Lib.hid (show WalkAt (w1.setCell ⟨B, 0, none⟩ (.int .i64 1)) g mb LA ln lc bs s ∧ Mv w (w1.setCell ⟨B, 0, none⟩ (.int .i64 1)) g mb ∧ Blk (w1.setCell ⟨B, 0, none⟩ (.int .i64 1)) (w.heap.size + 1) 36 #[.int .i64 0, .int .i64 0, .int .i64 0] ∧ Blk (w1.setCell ⟨B, 0, none⟩ (.int .i64 1)) B 36 #[.int .i64 1, .int .i64 n, .int .i64 0] from
    have hbb : Below w.heap.size w (w1.setCell ⟨B, 0, none⟩ (.int .i64 1)) := H1.out.2.2.2.2.2.setCell (p := ⟨B, 0, none⟩) (by show w.heap.size ≤ B; omega) _
    ⟨HH.out.2.2.2.2.1.below hbb, Mv.of_below hbb, H1.out.2.2.1.far (by show w.heap.size + 1 ≠ B; omega) _, H1.out.2.2.2.2.1.set_ 0 _⟩)
  clear d0 e0 p0 p1
  generalize w1.setCell ⟨B, 0, none⟩ (.int .i64 1) = wz at *
  have d1 : wz.cell? ⟨g, 1, none⟩ = some (.int .i64 n) := (HZ.out.1.1.cell 1).trans (by show some (Value.int .i64 s.at_) = some (Value.int .i64 (n : Int)); rw [HH.out.2.2.2.2.2.2.2.1])
  have e1 : wz.frozen? ⟨g, 1, none⟩ = false := HZ.out.1.1.frozen 1
  go_upto_region 10 with fail
  have HY := Lib.hid (show WalkAt (wz.setCell ⟨g, 1, none⟩ (.int .i64 ((n : Int) + 1))) g mb LA ln lc bs { s with at_ := (n : Int) + 1 } ∧ Mv w (wz.setCell ⟨g, 1, none⟩ (.int .i64 ((n : Int) + 1))) g mb ∧ Blk (wz.setCell ⟨g, 1, none⟩ (.int .i64 ((n : Int) + 1))) (w.heap.size + 1) 36 #[.int .i64 0, .int .i64 0, .int .i64 0] ∧ Blk (wz.setCell ⟨g, 1, none⟩ (.int .i64 ((n : Int) + 1))) B 36 #[.int .i64 1, .int .i64 n, .int .i64 0] from ⟨HZ.out.1.set_ _ rfl rfl, HZ.out.2.1.set_ _, HZ.out.2.2.1.far (by show w.heap.size + 1 ≠ g; omega) _, HZ.out.2.2.2.far (by show B ≠ g; omega) _⟩)
  clear d1 e1
  generalize wz.setCell ⟨g, 1, none⟩ (.int .i64 ((n : Int) + 1)) = wy at *
  have hQy := HY.out.2.2.1
  have hBy := HY.out.2.2.2
  go_wp2_with (first
    | (refine wpList_load_box rfl 36 _ rfl B rfl 36 #[.int .i64 1, .int .i64 n, .int .i64 0] hBy _ Try.underlying36 rfl stepInfo (fun (_ : Hid _) => ?_))
    | (refine wpList_store_box rfl 36 _ _ rfl (w.heap.size + 1) #[.int .i64 1, .int .i64 n, .int .i64 0] rfl rfl 36 #[.int .i64 0, .int .i64 0, .int .i64 0] hQy stepInfo rfl (by simp [Value.oneCell']) ?_)
    | fail)
  intro w9 hB9 hg9
  have H9 := Lib.hid hg9
  clear hg9 hQy hBy
  go_wp2_with fail
  refine bodyPost_ret (results_cell_tmp9 rfl _ _ (w.heap.size + 1) 36 _ (0, 0) _ rfl hB9 Try.underlying36 rfl stepInfo) rfl ?_
  obtain ⟨q1, q2⟩ := lead_fin HH.out.2.2.2.2.1 HY.out.1 HY.out.2.1 H9.out
  have hK : toldK (atB bs s.at_) = 1 := by rw [← HH.out.2.2.2.2.2.2.1]; exact by unfold toldK; rw [if_pos (.inl ⟨HI.out.1 ▸ HA.out.1, HI.out.2 ▸ HA.out.2⟩)]
  exact ⟨q2, .inr (.inr ⟨by rw [hK]; decide, by rw [hK, HH.out.2.2.2.2.2.2.2.1] <;> rfl, by rw [HH.out.2.2.2.2.2.2.2.1]; exact q1⟩)⟩

set_option maxRecDepth 100000 in
set_option maxHeartbeats 8000000 in
theorem here42_any (w : World) (g mb : Nat) (LA : Option Addr) (ln lc : Nat) (bs : List WB) (s : WS) (d : WB) (v2 v3 v4 v5 v6 v7 v9 v10 v11 v12 : Value) (TA : Option Addr) (tn tc : Nat) (IA : Option Addr) (ic : Nat) (v15 v16 v17 : Value) (I pz : Int) (hI : I = d.id) (hpz : pz = d.pz) (h : WalkAt w g mb LA ln lc bs s) (hok : s.ok bs) (hf : Fine bs) (hln : bs.length = ln) (hlt : s.at_ < ln) (hd : d = atB bs s.at_) (hT : RdP w (fun b => b ≠ g ∧ b ≠ mb ∧ b < w.heap.size) 1 TA tn (d.ts.map (Value.int .i64))) (hA : I = 42) :
    Calls Try.prog 19 #[.pointer (some ⟨g, 0, none⟩), .agg #[.int .i64 I, .int .i64 pz, v2, v3, v4, v5, v6, v7, .int .i64 d.ct, v9, v10, v11, v12, .slice TA tn tc, .slice IA d.ns.length ic, v15, v16, v17]] w fun x w' => HereO w w' x g mb LA ln lc bs s := by
  obtain ⟨n, hn⟩ : ∃ n : Nat, s.at_ = (n : Int) := ⟨s.at_.toNat, by have := hok.1; omega⟩
  have hnl : n < ln := by omega
  have hl60 : ln ≤ 60 := by have := hf.1; omega
  have hwn : IntKind.i64.wrap ((n : Int) + 1) = (n : Int) + 1 := by rw [IntKind.wrap_i64]; omega
  have hb2 : Below w.heap.size w ((w.alloc (.cells #[.int .i64 I, .int .i64 pz, v2, v3, v4, v5, v6, v7, .int .i64 d.ct, v9, v10, v11, v12, .slice TA tn tc, .slice IA d.ns.length ic, v15, v16, v17] 45)).alloc (.cells #[.int .i64 0, .int .i64 0, .int .i64 0] 36)) := ((Below.refl _ _).alloc (Nat.le_refl _) _).alloc (by simp) _
  have hP : Blk ((w.alloc (.cells #[.int .i64 I, .int .i64 pz, v2, v3, v4, v5, v6, v7, .int .i64 d.ct, v9, v10, v11, v12, .slice TA tn tc, .slice IA d.ns.length ic, v15, v16, v17] 45)).alloc (.cells #[.int .i64 0, .int .i64 0, .int .i64 0] 36)) w.heap.size 45 #[.int .i64 I, .int .i64 pz, v2, v3, v4, v5, v6, v7, .int .i64 d.ct, v9, v10, v11, v12, .slice TA tn tc, .slice IA d.ns.length ic, v15, v16, v17] := (Blk.new w _ _).alloc _
  have hQ : Blk ((w.alloc (.cells #[.int .i64 I, .int .i64 pz, v2, v3, v4, v5, v6, v7, .int .i64 d.ct, v9, v10, v11, v12, .slice TA tn tc, .slice IA d.ns.length ic, v15, v16, v17] 45)).alloc (.cells #[.int .i64 0, .int .i64 0, .int .i64 0] 36)) (w.heap.size + 1) 36 #[.int .i64 0, .int .i64 0, .int .i64 0] := by
    have := Blk.new (w.alloc (.cells #[.int .i64 I, .int .i64 pz, v2, v3, v4, v5, v6, v7, .int .i64 d.ct, v9, v10, v11, v12, .slice TA tn tc, .slice IA d.ns.length ic, v15, v16, v17] 45)) 36 #[.int .i64 0, .int .i64 0, .int .i64 0]
    simpa using this
  have hgl := h.1.lt
  have hml := h.2.1.lt
  have hne := h.2.1.ne h.1
  have HI := Lib.hid (And.intro hI hpz)
  have HH := Lib.hid (And.intro (h.below hb2) (And.intro hb2 (And.intro hP (And.intro hQ (And.intro h (And.intro hok (And.intro hd (And.intro hn (And.intro hf hT)))))))))
  have HN := Lib.hid hln
  clear h hb2 hP hQ hok hf hln hlt hd hn hT hI hpz
  have HA := Lib.hid hA
  clear hA
  go_enter Try.func19, Try.ntmps19
  go_upto_region 1 with fail
  generalize ((w.alloc (.cells #[.int .i64 I, .int .i64 pz, v2, v3, v4, v5, v6, v7, .int .i64 d.ct, v9, v10, v11, v12, .slice TA tn tc, .slice IA d.ns.length ic, v15, v16, v17] 45)).alloc (.cells #[.int .i64 0, .int .i64 0, .int .i64 0] 36)) = w0 at *
  have hws := Lib.hid HH.out.2.1.size
  have hql := HH.out.2.2.2.1.lt
  have c1 : w0.cell? ⟨g, 1, none⟩ = some (.int .i64 n) := by rw [← HH.out.2.2.2.2.2.2.2.1]; exact (HH.out.1.1.cell 1).trans rfl
  obtain ⟨B, hBd⟩ : ∃ B, B = w0.heap.size := ⟨_, rfl⟩
  have HBD := Lib.hid hBd
  have hB1 : w.heap.size + 1 < B := by omega
  clear hBd hql
  go_upto_region 2 with (first
    | (refine wpList_store_box rfl 36 _ _ rfl w0.heap.size #[.int .i64 0, .int .i64 n, .int .i64 0] rfl rfl 36 #[.int .i64 0, .int .i64 0, .int .i64 0] (Blk.new w0 _ _) stepInfo rfl (by simp [Value.oneCell']) ?_)
    | fail)
  intro w1 hB9 hg9
  rw [← HBD.out] at hB9 hg9 ⊢
  have H1 := Lib.hid (show WalkAt w1 g mb LA ln lc bs s ∧ Mv w w1 g mb ∧ Blk w1 (w.heap.size + 1) 36 #[.int .i64 0, .int .i64 0, .int .i64 0] ∧ Blk w1 w.heap.size 45 #[.int .i64 I, .int .i64 pz, v2, v3, v4, v5, v6, v7, .int .i64 d.ct, v9, v10, v11, v12, .slice TA tn tc, .slice IA d.ns.length ic, v15, v16, v17] ∧ Blk w1 B 36 #[.int .i64 0, .int .i64 n, .int .i64 0] ∧ Below w.heap.size w w1 from
    have hba : Below w.heap.size w (w0.alloc (.cells #[.int .i64 0, .int .i64 0, .int .i64 0] 36)) := HH.out.2.1.alloc hws.out _
    have hb1 : Below w.heap.size w w1 := hba.grown hg9 (by have := hba.size; omega) (fun k e => by injection e with e; omega)
    ⟨HH.out.2.2.2.2.1.below hb1, Mv.of_below hb1, (HH.out.2.2.2.1.alloc _).grown hg9 (fun e => by injection e with e; omega), (HH.out.2.2.1.alloc _).grown hg9 (fun e => by injection e with e; omega), hB9, hb1⟩)
  clear hB9 hg9 c1
  have p0 : w1.cell? ⟨w.heap.size, 0, none⟩ = some (.int .i64 I) := (H1.out.2.2.2.1.cell 0).trans rfl
  have p1 : w1.cell? ⟨w.heap.size, 1, none⟩ = some (.int .i64 pz) := (H1.out.2.2.2.1.cell 1).trans rfl
  rw [HA.out] at p0
  have d0 : w1.cell? ⟨B, 0, none⟩ = some (.int .i64 0) := (H1.out.2.2.2.2.1.cell 0).trans rfl
  have e0 : w1.frozen? ⟨B, 0, none⟩ = false := H1.out.2.2.2.2.1.frozen 0
  go_upto_region 9 with fail
  have HZ := Lib.hid (show WalkAt (w1.setCell ⟨B, 0, none⟩ (.int .i64 1)) g mb LA ln lc bs s ∧ Mv w (w1.setCell ⟨B, 0, none⟩ (.int .i64 1)) g mb ∧ Blk (w1.setCell ⟨B, 0, none⟩ (.int .i64 1)) (w.heap.size + 1) 36 #[.int .i64 0, .int .i64 0, .int .i64 0] ∧ Blk (w1.setCell ⟨B, 0, none⟩ (.int .i64 1)) B 36 #[.int .i64 1, .int .i64 n, .int .i64 0] from
    have hbb : Below w.heap.size w (w1.setCell ⟨B, 0, none⟩ (.int .i64 1)) := H1.out.2.2.2.2.2.setCell (p := ⟨B, 0, none⟩) (by show w.heap.size ≤ B; omega) _
    ⟨HH.out.2.2.2.2.1.below hbb, Mv.of_below hbb, H1.out.2.2.1.far (by show w.heap.size + 1 ≠ B; omega) _, H1.out.2.2.2.2.1.set_ 0 _⟩)
  clear d0 e0 p0 p1
  generalize w1.setCell ⟨B, 0, none⟩ (.int .i64 1) = wz at *
  have d1 : wz.cell? ⟨g, 1, none⟩ = some (.int .i64 n) := (HZ.out.1.1.cell 1).trans (by show some (Value.int .i64 s.at_) = some (Value.int .i64 (n : Int)); rw [HH.out.2.2.2.2.2.2.2.1])
  have e1 : wz.frozen? ⟨g, 1, none⟩ = false := HZ.out.1.1.frozen 1
  go_upto_region 10 with fail
  have HY := Lib.hid (show WalkAt (wz.setCell ⟨g, 1, none⟩ (.int .i64 ((n : Int) + 1))) g mb LA ln lc bs { s with at_ := (n : Int) + 1 } ∧ Mv w (wz.setCell ⟨g, 1, none⟩ (.int .i64 ((n : Int) + 1))) g mb ∧ Blk (wz.setCell ⟨g, 1, none⟩ (.int .i64 ((n : Int) + 1))) (w.heap.size + 1) 36 #[.int .i64 0, .int .i64 0, .int .i64 0] ∧ Blk (wz.setCell ⟨g, 1, none⟩ (.int .i64 ((n : Int) + 1))) B 36 #[.int .i64 1, .int .i64 n, .int .i64 0] from ⟨HZ.out.1.set_ _ rfl rfl, HZ.out.2.1.set_ _, HZ.out.2.2.1.far (by show w.heap.size + 1 ≠ g; omega) _, HZ.out.2.2.2.far (by show B ≠ g; omega) _⟩)
  clear d1 e1
  generalize wz.setCell ⟨g, 1, none⟩ (.int .i64 ((n : Int) + 1)) = wy at *
  have hQy := HY.out.2.2.1
  have hBy := HY.out.2.2.2
  go_wp2_with (first
    | (refine wpList_load_box rfl 36 _ rfl B rfl 36 #[.int .i64 1, .int .i64 n, .int .i64 0] hBy _ Try.underlying36 rfl stepInfo (fun (_ : Hid _) => ?_))
    | (refine wpList_store_box rfl 36 _ _ rfl (w.heap.size + 1) #[.int .i64 1, .int .i64 n, .int .i64 0] rfl rfl 36 #[.int .i64 0, .int .i64 0, .int .i64 0] hQy stepInfo rfl (by simp [Value.oneCell']) ?_)
    | fail)
  intro w9 hB9 hg9
  have H9 := Lib.hid hg9
  clear hg9 hQy hBy
  go_wp2_with fail
  refine bodyPost_ret (results_cell_tmp9 rfl _ _ (w.heap.size + 1) 36 _ (0, 0) _ rfl hB9 Try.underlying36 rfl stepInfo) rfl ?_
  obtain ⟨q1, q2⟩ := lead_fin HH.out.2.2.2.2.1 HY.out.1 HY.out.2.1 H9.out
  have hK : toldK (atB bs s.at_) = 1 := by rw [← HH.out.2.2.2.2.2.2.1]; exact by unfold toldK; rw [if_pos (.inr (HI.out.1 ▸ HA.out))]
  exact ⟨q2, .inr (.inr ⟨by rw [hK]; decide, by rw [hK, HH.out.2.2.2.2.2.2.2.1] <;> rfl, by rw [HH.out.2.2.2.2.2.2.2.1]; exact q1⟩)⟩

set_option maxRecDepth 100000 in
set_option maxHeartbeats 8000000 in
theorem here43_any (w : World) (g mb : Nat) (LA : Option Addr) (ln lc : Nat) (bs : List WB) (s : WS) (d : WB) (v2 v3 v4 v5 v6 v7 v9 v10 v11 v12 : Value) (TA : Option Addr) (tn tc : Nat) (IA : Option Addr) (ic : Nat) (v15 v16 v17 : Value) (I pz : Int) (hI : I = d.id) (hpz : pz = d.pz) (h : WalkAt w g mb LA ln lc bs s) (hok : s.ok bs) (hf : Fine bs) (hln : bs.length = ln) (hlt : s.at_ < ln) (hd : d = atB bs s.at_) (hT : RdP w (fun b => b ≠ g ∧ b ≠ mb ∧ b < w.heap.size) 1 TA tn (d.ts.map (Value.int .i64))) (hA : I = 43) :
    Calls Try.prog 19 #[.pointer (some ⟨g, 0, none⟩), .agg #[.int .i64 I, .int .i64 pz, v2, v3, v4, v5, v6, v7, .int .i64 d.ct, v9, v10, v11, v12, .slice TA tn tc, .slice IA d.ns.length ic, v15, v16, v17]] w fun x w' => HereO w w' x g mb LA ln lc bs s := by
  obtain ⟨n, hn⟩ : ∃ n : Nat, s.at_ = (n : Int) := ⟨s.at_.toNat, by have := hok.1; omega⟩
  have hnl : n < ln := by omega
  have hl60 : ln ≤ 60 := by have := hf.1; omega
  have hwn : IntKind.i64.wrap ((n : Int) + 1) = (n : Int) + 1 := by rw [IntKind.wrap_i64]; omega
  have hb2 : Below w.heap.size w ((w.alloc (.cells #[.int .i64 I, .int .i64 pz, v2, v3, v4, v5, v6, v7, .int .i64 d.ct, v9, v10, v11, v12, .slice TA tn tc, .slice IA d.ns.length ic, v15, v16, v17] 45)).alloc (.cells #[.int .i64 0, .int .i64 0, .int .i64 0] 36)) := ((Below.refl _ _).alloc (Nat.le_refl _) _).alloc (by simp) _
  have hP : Blk ((w.alloc (.cells #[.int .i64 I, .int .i64 pz, v2, v3, v4, v5, v6, v7, .int .i64 d.ct, v9, v10, v11, v12, .slice TA tn tc, .slice IA d.ns.length ic, v15, v16, v17] 45)).alloc (.cells #[.int .i64 0, .int .i64 0, .int .i64 0] 36)) w.heap.size 45 #[.int .i64 I, .int .i64 pz, v2, v3, v4, v5, v6, v7, .int .i64 d.ct, v9, v10, v11, v12, .slice TA tn tc, .slice IA d.ns.length ic, v15, v16, v17] := (Blk.new w _ _).alloc _
  have hQ : Blk ((w.alloc (.cells #[.int .i64 I, .int .i64 pz, v2, v3, v4, v5, v6, v7, .int .i64 d.ct, v9, v10, v11, v12, .slice TA tn tc, .slice IA d.ns.length ic, v15, v16, v17] 45)).alloc (.cells #[.int .i64 0, .int .i64 0, .int .i64 0] 36)) (w.heap.size + 1) 36 #[.int .i64 0, .int .i64 0, .int .i64 0] := by
    have := Blk.new (w.alloc (.cells #[.int .i64 I, .int .i64 pz, v2, v3, v4, v5, v6, v7, .int .i64 d.ct, v9, v10, v11, v12, .slice TA tn tc, .slice IA d.ns.length ic, v15, v16, v17] 45)) 36 #[.int .i64 0, .int .i64 0, .int .i64 0]
    simpa using this
  have hgl := h.1.lt
  have hml := h.2.1.lt
  have hne := h.2.1.ne h.1
  have HI := Lib.hid (And.intro hI hpz)
  have HH := Lib.hid (And.intro (h.below hb2) (And.intro hb2 (And.intro hP (And.intro hQ (And.intro h (And.intro hok (And.intro hd (And.intro hn (And.intro hf hT)))))))))
  have HN := Lib.hid hln
  clear h hb2 hP hQ hok hf hln hlt hd hn hT hI hpz
  have HA := Lib.hid hA
  clear hA
  go_enter Try.func19, Try.ntmps19
  go_upto_region 1 with fail
  generalize ((w.alloc (.cells #[.int .i64 I, .int .i64 pz, v2, v3, v4, v5, v6, v7, .int .i64 d.ct, v9, v10, v11, v12, .slice TA tn tc, .slice IA d.ns.length ic, v15, v16, v17] 45)).alloc (.cells #[.int .i64 0, .int .i64 0, .int .i64 0] 36)) = w0 at *
  have hws := Lib.hid HH.out.2.1.size
  have hql := HH.out.2.2.2.1.lt
  have c1 : w0.cell? ⟨g, 1, none⟩ = some (.int .i64 n) := by rw [← HH.out.2.2.2.2.2.2.2.1]; exact (HH.out.1.1.cell 1).trans rfl
  obtain ⟨B, hBd⟩ : ∃ B, B = w0.heap.size := ⟨_, rfl⟩
  have HBD := Lib.hid hBd
  have hB1 : w.heap.size + 1 < B := by omega
  clear hBd hql
  go_upto_region 2 with (first
    | (refine wpList_store_box rfl 36 _ _ rfl w0.heap.size #[.int .i64 0, .int .i64 n, .int .i64 0] rfl rfl 36 #[.int .i64 0, .int .i64 0, .int .i64 0] (Blk.new w0 _ _) stepInfo rfl (by simp [Value.oneCell']) ?_)
    | fail)
  intro w1 hB9 hg9
  rw [← HBD.out] at hB9 hg9 ⊢
  have H1 := Lib.hid (show WalkAt w1 g mb LA ln lc bs s ∧ Mv w w1 g mb ∧ Blk w1 (w.heap.size + 1) 36 #[.int .i64 0, .int .i64 0, .int .i64 0] ∧ Blk w1 w.heap.size 45 #[.int .i64 I, .int .i64 pz, v2, v3, v4, v5, v6, v7, .int .i64 d.ct, v9, v10, v11, v12, .slice TA tn tc, .slice IA d.ns.length ic, v15, v16, v17] ∧ Blk w1 B 36 #[.int .i64 0, .int .i64 n, .int .i64 0] ∧ Below w.heap.size w w1 from
    have hba : Below w.heap.size w (w0.alloc (.cells #[.int .i64 0, .int .i64 0, .int .i64 0] 36)) := HH.out.2.1.alloc hws.out _
    have hb1 : Below w.heap.size w w1 := hba.grown hg9 (by have := hba.size; omega) (fun k e => by injection e with e; omega)
    ⟨HH.out.2.2.2.2.1.below hb1, Mv.of_below hb1, (HH.out.2.2.2.1.alloc _).grown hg9 (fun e => by injection e with e; omega), (HH.out.2.2.1.alloc _).grown hg9 (fun e => by injection e with e; omega), hB9, hb1⟩)
  clear hB9 hg9 c1
  have p0 : w1.cell? ⟨w.heap.size, 0, none⟩ = some (.int .i64 I) := (H1.out.2.2.2.1.cell 0).trans rfl
  have p1 : w1.cell? ⟨w.heap.size, 1, none⟩ = some (.int .i64 pz) := (H1.out.2.2.2.1.cell 1).trans rfl
  rw [HA.out] at p0
  have d0 : w1.cell? ⟨B, 0, none⟩ = some (.int .i64 0) := (H1.out.2.2.2.2.1.cell 0).trans rfl
  have e0 : w1.frozen? ⟨B, 0, none⟩ = false := H1.out.2.2.2.2.1.frozen 0
  go_upto_region 9 with fail
  have HZ := Lib.hid (show WalkAt (w1.setCell ⟨B, 0, none⟩ (.int .i64 2)) g mb LA ln lc bs s ∧ Mv w (w1.setCell ⟨B, 0, none⟩ (.int .i64 2)) g mb ∧ Blk (w1.setCell ⟨B, 0, none⟩ (.int .i64 2)) (w.heap.size + 1) 36 #[.int .i64 0, .int .i64 0, .int .i64 0] ∧ Blk (w1.setCell ⟨B, 0, none⟩ (.int .i64 2)) B 36 #[.int .i64 2, .int .i64 n, .int .i64 0] from
    have hbb : Below w.heap.size w (w1.setCell ⟨B, 0, none⟩ (.int .i64 2)) := H1.out.2.2.2.2.2.setCell (p := ⟨B, 0, none⟩) (by show w.heap.size ≤ B; omega) _
    ⟨HH.out.2.2.2.2.1.below hbb, Mv.of_below hbb, H1.out.2.2.1.far (by show w.heap.size + 1 ≠ B; omega) _, H1.out.2.2.2.2.1.set_ 0 _⟩)
  clear d0 e0 p0 p1
  generalize w1.setCell ⟨B, 0, none⟩ (.int .i64 2) = wz at *
  have d1 : wz.cell? ⟨g, 1, none⟩ = some (.int .i64 n) := (HZ.out.1.1.cell 1).trans (by show some (Value.int .i64 s.at_) = some (Value.int .i64 (n : Int)); rw [HH.out.2.2.2.2.2.2.2.1])
  have e1 : wz.frozen? ⟨g, 1, none⟩ = false := HZ.out.1.1.frozen 1
  go_upto_region 10 with fail
  have HY := Lib.hid (show WalkAt (wz.setCell ⟨g, 1, none⟩ (.int .i64 ((n : Int) + 1))) g mb LA ln lc bs { s with at_ := (n : Int) + 1 } ∧ Mv w (wz.setCell ⟨g, 1, none⟩ (.int .i64 ((n : Int) + 1))) g mb ∧ Blk (wz.setCell ⟨g, 1, none⟩ (.int .i64 ((n : Int) + 1))) (w.heap.size + 1) 36 #[.int .i64 0, .int .i64 0, .int .i64 0] ∧ Blk (wz.setCell ⟨g, 1, none⟩ (.int .i64 ((n : Int) + 1))) B 36 #[.int .i64 2, .int .i64 n, .int .i64 0] from ⟨HZ.out.1.set_ _ rfl rfl, HZ.out.2.1.set_ _, HZ.out.2.2.1.far (by show w.heap.size + 1 ≠ g; omega) _, HZ.out.2.2.2.far (by show B ≠ g; omega) _⟩)
  clear d1 e1
  generalize wz.setCell ⟨g, 1, none⟩ (.int .i64 ((n : Int) + 1)) = wy at *
  have hQy := HY.out.2.2.1
  have hBy := HY.out.2.2.2
  go_wp2_with (first
    | (refine wpList_load_box rfl 36 _ rfl B rfl 36 #[.int .i64 2, .int .i64 n, .int .i64 0] hBy _ Try.underlying36 rfl stepInfo (fun (_ : Hid _) => ?_))
    | (refine wpList_store_box rfl 36 _ _ rfl (w.heap.size + 1) #[.int .i64 2, .int .i64 n, .int .i64 0] rfl rfl 36 #[.int .i64 0, .int .i64 0, .int .i64 0] hQy stepInfo rfl (by simp [Value.oneCell']) ?_)
    | fail)
  intro w9 hB9 hg9
  have H9 := Lib.hid hg9
  clear hg9 hQy hBy
  go_wp2_with fail
  refine bodyPost_ret (results_cell_tmp9 rfl _ _ (w.heap.size + 1) 36 _ (0, 0) _ rfl hB9 Try.underlying36 rfl stepInfo) rfl ?_
  obtain ⟨q1, q2⟩ := lead_fin HH.out.2.2.2.2.1 HY.out.1 HY.out.2.1 H9.out
  have hK : toldK (atB bs s.at_) = 2 := by rw [← HH.out.2.2.2.2.2.2.1]; exact by have h1 : d.id = 43 := HI.out.1 ▸ HA.out; unfold toldK; rw [h1]; rfl
  exact ⟨q2, .inr (.inr ⟨by rw [hK]; decide, by rw [hK, HH.out.2.2.2.2.2.2.2.1] <;> rfl, by rw [HH.out.2.2.2.2.2.2.2.1]; exact q1⟩)⟩

set_option maxRecDepth 100000 in
set_option maxHeartbeats 8000000 in
theorem hereS32_any (w : World) (g mb : Nat) (LA : Option Addr) (ln lc : Nat) (bs : List WB) (s : WS) (d : WB) (v2 v3 v4 v5 v6 v7 v9 v10 v11 v12 : Value) (TA : Option Addr) (tn tc : Nat) (IA : Option Addr) (ic : Nat) (v15 v16 v17 : Value) (I pz : Int) (hI : I = d.id) (hpz : pz = d.pz) (h : WalkAt w g mb LA ln lc bs s) (hok : s.ok bs) (hf : Fine bs) (hln : bs.length = ln) (hlt : s.at_ < ln) (hd : d = atB bs s.at_) (hT : RdP w (fun b => b ≠ g ∧ b ≠ mb ∧ b < w.heap.size) 1 TA tn (d.ts.map (Value.int .i64))) (hA : I = 32 ∧ pz ≠ 0) :
    Calls Try.prog 19 #[.pointer (some ⟨g, 0, none⟩), .agg #[.int .i64 I, .int .i64 pz, v2, v3, v4, v5, v6, v7, .int .i64 d.ct, v9, v10, v11, v12, .slice TA tn tc, .slice IA d.ns.length ic, v15, v16, v17]] w fun x w' => HereO w w' x g mb LA ln lc bs s := by
  obtain ⟨n, hn⟩ : ∃ n : Nat, s.at_ = (n : Int) := ⟨s.at_.toNat, by have := hok.1; omega⟩
  have hnl : n < ln := by omega
  have hl60 : ln ≤ 60 := by have := hf.1; omega
  have hwn : IntKind.i64.wrap ((n : Int) + 1) = (n : Int) + 1 := by rw [IntKind.wrap_i64]; omega
  have hb2 : Below w.heap.size w ((w.alloc (.cells #[.int .i64 I, .int .i64 pz, v2, v3, v4, v5, v6, v7, .int .i64 d.ct, v9, v10, v11, v12, .slice TA tn tc, .slice IA d.ns.length ic, v15, v16, v17] 45)).alloc (.cells #[.int .i64 0, .int .i64 0, .int .i64 0] 36)) := ((Below.refl _ _).alloc (Nat.le_refl _) _).alloc (by simp) _
  have hP : Blk ((w.alloc (.cells #[.int .i64 I, .int .i64 pz, v2, v3, v4, v5, v6, v7, .int .i64 d.ct, v9, v10, v11, v12, .slice TA tn tc, .slice IA d.ns.length ic, v15, v16, v17] 45)).alloc (.cells #[.int .i64 0, .int .i64 0, .int .i64 0] 36)) w.heap.size 45 #[.int .i64 I, .int .i64 pz, v2, v3, v4, v5, v6, v7, .int .i64 d.ct, v9, v10, v11, v12, .slice TA tn tc, .slice IA d.ns.length ic, v15, v16, v17] := (Blk.new w _ _).alloc _
  have hQ : Blk ((w.alloc (.cells #[.int .i64 I, .int .i64 pz, v2, v3, v4, v5, v6, v7, .int .i64 d.ct, v9, v10, v11, v12, .slice TA tn tc, .slice IA d.ns.length ic, v15, v16, v17] 45)).alloc (.cells #[.int .i64 0, .int .i64 0, .int .i64 0] 36)) (w.heap.size + 1) 36 #[.int .i64 0, .int .i64 0, .int .i64 0] := by
    have := Blk.new (w.alloc (.cells #[.int .i64 I, .int .i64 pz, v2, v3, v4, v5, v6, v7, .int .i64 d.ct, v9, v10, v11, v12, .slice TA tn tc, .slice IA d.ns.length ic, v15, v16, v17] 45)) 36 #[.int .i64 0, .int .i64 0, .int .i64 0]
    simpa using this
  have hgl := h.1.lt
  have hml := h.2.1.lt
  have hne := h.2.1.ne h.1
  have HI := Lib.hid (And.intro hI hpz)
  have HH := Lib.hid (And.intro (h.below hb2) (And.intro hb2 (And.intro hP (And.intro hQ (And.intro h (And.intro hok (And.intro hd (And.intro hn (And.intro hf hT)))))))))
  have HN := Lib.hid hln
  clear h hb2 hP hQ hok hf hln hlt hd hn hT hI hpz
  have HA := Lib.hid hA
  clear hA
  go_enter Try.func19, Try.ntmps19
  go_upto_region 1 with fail
  generalize ((w.alloc (.cells #[.int .i64 I, .int .i64 pz, v2, v3, v4, v5, v6, v7, .int .i64 d.ct, v9, v10, v11, v12, .slice TA tn tc, .slice IA d.ns.length ic, v15, v16, v17] 45)).alloc (.cells #[.int .i64 0, .int .i64 0, .int .i64 0] 36)) = w0 at *
  have hws := Lib.hid HH.out.2.1.size
  have hql := HH.out.2.2.2.1.lt
  have c1 : w0.cell? ⟨g, 1, none⟩ = some (.int .i64 n) := by rw [← HH.out.2.2.2.2.2.2.2.1]; exact (HH.out.1.1.cell 1).trans rfl
  obtain ⟨B, hBd⟩ : ∃ B, B = w0.heap.size := ⟨_, rfl⟩
  have HBD := Lib.hid hBd
  have hB1 : w.heap.size + 1 < B := by omega
  clear hBd hql
  go_upto_region 2 with (first
    | (refine wpList_store_box rfl 36 _ _ rfl w0.heap.size #[.int .i64 0, .int .i64 n, .int .i64 0] rfl rfl 36 #[.int .i64 0, .int .i64 0, .int .i64 0] (Blk.new w0 _ _) stepInfo rfl (by simp [Value.oneCell']) ?_)
    | fail)
  intro w1 hB9 hg9
  rw [← HBD.out] at hB9 hg9 ⊢
  have H1 := Lib.hid (show WalkAt w1 g mb LA ln lc bs s ∧ Mv w w1 g mb ∧ Blk w1 (w.heap.size + 1) 36 #[.int .i64 0, .int .i64 0, .int .i64 0] ∧ Blk w1 w.heap.size 45 #[.int .i64 I, .int .i64 pz, v2, v3, v4, v5, v6, v7, .int .i64 d.ct, v9, v10, v11, v12, .slice TA tn tc, .slice IA d.ns.length ic, v15, v16, v17] ∧ Blk w1 B 36 #[.int .i64 0, .int .i64 n, .int .i64 0] ∧ Below w.heap.size w w1 from
    have hba : Below w.heap.size w (w0.alloc (.cells #[.int .i64 0, .int .i64 0, .int .i64 0] 36)) := HH.out.2.1.alloc hws.out _
    have hb1 : Below w.heap.size w w1 := hba.grown hg9 (by have := hba.size; omega) (fun k e => by injection e with e; omega)
    ⟨HH.out.2.2.2.2.1.below hb1, Mv.of_below hb1, (HH.out.2.2.2.1.alloc _).grown hg9 (fun e => by injection e with e; omega), (HH.out.2.2.1.alloc _).grown hg9 (fun e => by injection e with e; omega), hB9, hb1⟩)
  clear hB9 hg9 c1
  have p0 : w1.cell? ⟨w.heap.size, 0, none⟩ = some (.int .i64 I) := (H1.out.2.2.2.1.cell 0).trans rfl
  have p1 : w1.cell? ⟨w.heap.size, 1, none⟩ = some (.int .i64 pz) := (H1.out.2.2.2.1.cell 1).trans rfl
  rw [HA.out.1] at p0
  have hpf : (pz == 0) = false := by simpa using HA.out.2
  have hs := sounds_any w1 32
  go_wp2_with fail
  rw [show soundsB 32 = true from rfl] at hs
  refine hs.mono ?_
  rintro _ _ ⟨rfl, rfl⟩
  clear hs
  clear hpf p0 p1
  have HZ := Lib.hid (show WalkAt w1 g mb LA ln lc bs s ∧ Mv w w1 g mb ∧ Blk w1 (w.heap.size + 1) 36 #[.int .i64 0, .int .i64 0, .int .i64 0] ∧ Blk w1 B 36 #[.int .i64 0, .int .i64 n, .int .i64 0] from ⟨H1.out.1, H1.out.2.1, H1.out.2.2.1, H1.out.2.2.2.2.1⟩)
  have d1 : w1.cell? ⟨g, 1, none⟩ = some (.int .i64 n) := (HZ.out.1.1.cell 1).trans (by show some (Value.int .i64 s.at_) = some (Value.int .i64 (n : Int)); rw [HH.out.2.2.2.2.2.2.2.1])
  have e1 : w1.frozen? ⟨g, 1, none⟩ = false := HZ.out.1.1.frozen 1
  go_upto_region 10 with fail
  have HY := Lib.hid (show WalkAt (w1.setCell ⟨g, 1, none⟩ (.int .i64 ((n : Int) + 1))) g mb LA ln lc bs { s with at_ := (n : Int) + 1 } ∧ Mv w (w1.setCell ⟨g, 1, none⟩ (.int .i64 ((n : Int) + 1))) g mb ∧ Blk (w1.setCell ⟨g, 1, none⟩ (.int .i64 ((n : Int) + 1))) (w.heap.size + 1) 36 #[.int .i64 0, .int .i64 0, .int .i64 0] ∧ Blk (w1.setCell ⟨g, 1, none⟩ (.int .i64 ((n : Int) + 1))) B 36 #[.int .i64 0, .int .i64 n, .int .i64 0] from ⟨HZ.out.1.set_ _ rfl rfl, HZ.out.2.1.set_ _, HZ.out.2.2.1.far (by show w.heap.size + 1 ≠ g; omega) _, HZ.out.2.2.2.far (by show B ≠ g; omega) _⟩)
  clear d1 e1
  generalize w1.setCell ⟨g, 1, none⟩ (.int .i64 ((n : Int) + 1)) = wy at *
  have hQy := HY.out.2.2.1
  have hBy := HY.out.2.2.2
  go_wp2_with (first
    | (refine wpList_load_box rfl 36 _ rfl B rfl 36 #[.int .i64 0, .int .i64 n, .int .i64 0] hBy _ Try.underlying36 rfl stepInfo (fun (_ : Hid _) => ?_))
    | (refine wpList_store_box rfl 36 _ _ rfl (w.heap.size + 1) #[.int .i64 0, .int .i64 n, .int .i64 0] rfl rfl 36 #[.int .i64 0, .int .i64 0, .int .i64 0] hQy stepInfo rfl (by simp [Value.oneCell']) ?_)
    | fail)
  intro w9 hB9 hg9
  have H9 := Lib.hid hg9
  clear hg9 hQy hBy
  go_wp2_with fail
  refine bodyPost_ret (results_cell_tmp9 rfl _ _ (w.heap.size + 1) 36 _ (0, 0) _ rfl hB9 Try.underlying36 rfl stepInfo) rfl ?_
  obtain ⟨q1, q2⟩ := lead_fin HH.out.2.2.2.2.1 HY.out.1 HY.out.2.1 H9.out
  have hK : toldK (atB bs s.at_) = 0 := by rw [← HH.out.2.2.2.2.2.2.1]; exact by have h1 : d.id = 32 := HI.out.1 ▸ HA.out.1; have h2 : ¬ d.pz = 0 := HI.out.2 ▸ HA.out.2; unfold toldK; rw [h1, if_neg (by rintro (h | h); exact h2 h.2; exact absurd h (by decide)), if_neg (by decide), if_pos (show soundsB 32 = true from rfl)]
  exact ⟨q2, .inr (.inr ⟨by rw [hK]; decide, by rw [hK, HH.out.2.2.2.2.2.2.2.1] <;> rfl, by rw [HH.out.2.2.2.2.2.2.2.1]; exact q1⟩)⟩

set_option maxRecDepth 100000 in
set_option maxHeartbeats 8000000 in
theorem hereS_any (w : World) (g mb : Nat) (LA : Option Addr) (ln lc : Nat) (bs : List WB) (s : WS) (d : WB) (v2 v3 v4 v5 v6 v7 v9 v10 v11 v12 : Value) (TA : Option Addr) (tn tc : Nat) (IA : Option Addr) (ic : Nat) (v15 v16 v17 : Value) (I pz : Int) (hI : I = d.id) (hpz : pz = d.pz) (h : WalkAt w g mb LA ln lc bs s) (hok : s.ok bs) (hf : Fine bs) (hln : bs.length = ln) (hlt : s.at_ < ln) (hd : d = atB bs s.at_) (hT : RdP w (fun b => b ≠ g ∧ b ≠ mb ∧ b < w.heap.size) 1 TA tn (d.ts.map (Value.int .i64))) (hA : I ≠ 32 ∧ I ≠ 42 ∧ I ≠ 43 ∧ soundsB I = true) :
    Calls Try.prog 19 #[.pointer (some ⟨g, 0, none⟩), .agg #[.int .i64 I, .int .i64 pz, v2, v3, v4, v5, v6, v7, .int .i64 d.ct, v9, v10, v11, v12, .slice TA tn tc, .slice IA d.ns.length ic, v15, v16, v17]] w fun x w' => HereO w w' x g mb LA ln lc bs s := by
  obtain ⟨n, hn⟩ : ∃ n : Nat, s.at_ = (n : Int) := ⟨s.at_.toNat, by have := hok.1; omega⟩
  have hnl : n < ln := by omega
  have hl60 : ln ≤ 60 := by have := hf.1; omega
  have hwn : IntKind.i64.wrap ((n : Int) + 1) = (n : Int) + 1 := by rw [IntKind.wrap_i64]; omega
  have hb2 : Below w.heap.size w ((w.alloc (.cells #[.int .i64 I, .int .i64 pz, v2, v3, v4, v5, v6, v7, .int .i64 d.ct, v9, v10, v11, v12, .slice TA tn tc, .slice IA d.ns.length ic, v15, v16, v17] 45)).alloc (.cells #[.int .i64 0, .int .i64 0, .int .i64 0] 36)) := ((Below.refl _ _).alloc (Nat.le_refl _) _).alloc (by simp) _
  have hP : Blk ((w.alloc (.cells #[.int .i64 I, .int .i64 pz, v2, v3, v4, v5, v6, v7, .int .i64 d.ct, v9, v10, v11, v12, .slice TA tn tc, .slice IA d.ns.length ic, v15, v16, v17] 45)).alloc (.cells #[.int .i64 0, .int .i64 0, .int .i64 0] 36)) w.heap.size 45 #[.int .i64 I, .int .i64 pz, v2, v3, v4, v5, v6, v7, .int .i64 d.ct, v9, v10, v11, v12, .slice TA tn tc, .slice IA d.ns.length ic, v15, v16, v17] := (Blk.new w _ _).alloc _
  have hQ : Blk ((w.alloc (.cells #[.int .i64 I, .int .i64 pz, v2, v3, v4, v5, v6, v7, .int .i64 d.ct, v9, v10, v11, v12, .slice TA tn tc, .slice IA d.ns.length ic, v15, v16, v17] 45)).alloc (.cells #[.int .i64 0, .int .i64 0, .int .i64 0] 36)) (w.heap.size + 1) 36 #[.int .i64 0, .int .i64 0, .int .i64 0] := by
    have := Blk.new (w.alloc (.cells #[.int .i64 I, .int .i64 pz, v2, v3, v4, v5, v6, v7, .int .i64 d.ct, v9, v10, v11, v12, .slice TA tn tc, .slice IA d.ns.length ic, v15, v16, v17] 45)) 36 #[.int .i64 0, .int .i64 0, .int .i64 0]
    simpa using this
  have hgl := h.1.lt
  have hml := h.2.1.lt
  have hne := h.2.1.ne h.1
  have HI := Lib.hid (And.intro hI hpz)
  have HH := Lib.hid (And.intro (h.below hb2) (And.intro hb2 (And.intro hP (And.intro hQ (And.intro h (And.intro hok (And.intro hd (And.intro hn (And.intro hf hT)))))))))
  have HN := Lib.hid hln
  clear h hb2 hP hQ hok hf hln hlt hd hn hT hI hpz
  have HA := Lib.hid hA
  clear hA
  go_enter Try.func19, Try.ntmps19
  go_upto_region 1 with fail
  generalize ((w.alloc (.cells #[.int .i64 I, .int .i64 pz, v2, v3, v4, v5, v6, v7, .int .i64 d.ct, v9, v10, v11, v12, .slice TA tn tc, .slice IA d.ns.length ic, v15, v16, v17] 45)).alloc (.cells #[.int .i64 0, .int .i64 0, .int .i64 0] 36)) = w0 at *
  have hws := Lib.hid HH.out.2.1.size
  have hql := HH.out.2.2.2.1.lt
  have c1 : w0.cell? ⟨g, 1, none⟩ = some (.int .i64 n) := by rw [← HH.out.2.2.2.2.2.2.2.1]; exact (HH.out.1.1.cell 1).trans rfl
  obtain ⟨B, hBd⟩ : ∃ B, B = w0.heap.size := ⟨_, rfl⟩
  have HBD := Lib.hid hBd
  have hB1 : w.heap.size + 1 < B := by omega
  clear hBd hql
  go_upto_region 2 with (first
    | (refine wpList_store_box rfl 36 _ _ rfl w0.heap.size #[.int .i64 0, .int .i64 n, .int .i64 0] rfl rfl 36 #[.int .i64 0, .int .i64 0, .int .i64 0] (Blk.new w0 _ _) stepInfo rfl (by simp [Value.oneCell']) ?_)
    | fail)
  intro w1 hB9 hg9
  rw [← HBD.out] at hB9 hg9 ⊢
  have H1 := Lib.hid (show WalkAt w1 g mb LA ln lc bs s ∧ Mv w w1 g mb ∧ Blk w1 (w.heap.size + 1) 36 #[.int .i64 0, .int .i64 0, .int .i64 0] ∧ Blk w1 w.heap.size 45 #[.int .i64 I, .int .i64 pz, v2, v3, v4, v5, v6, v7, .int .i64 d.ct, v9, v10, v11, v12, .slice TA tn tc, .slice IA d.ns.length ic, v15, v16, v17] ∧ Blk w1 B 36 #[.int .i64 0, .int .i64 n, .int .i64 0] ∧ Below w.heap.size w w1 from
    have hba : Below w.heap.size w (w0.alloc (.cells #[.int .i64 0, .int .i64 0, .int .i64 0] 36)) := HH.out.2.1.alloc hws.out _
    have hb1 : Below w.heap.size w w1 := hba.grown hg9 (by have := hba.size; omega) (fun k e => by injection e with e; omega)
    ⟨HH.out.2.2.2.2.1.below hb1, Mv.of_below hb1, (HH.out.2.2.2.1.alloc _).grown hg9 (fun e => by injection e with e; omega), (HH.out.2.2.1.alloc _).grown hg9 (fun e => by injection e with e; omega), hB9, hb1⟩)
  clear hB9 hg9 c1
  have p0 : w1.cell? ⟨w.heap.size, 0, none⟩ = some (.int .i64 I) := (H1.out.2.2.2.1.cell 0).trans rfl
  have p1 : w1.cell? ⟨w.heap.size, 1, none⟩ = some (.int .i64 pz) := (H1.out.2.2.2.1.cell 1).trans rfl
  have h32 : (I == 32) = false := by simpa using HA.out.1
  have h42 : (I == 42) = false := by simpa using HA.out.2.1
  have h43 : (I == 43) = false := by simpa using HA.out.2.2.1
  have hs := sounds_any w1 I
  go_wp2_with fail
  rw [show soundsB I = true from HA.out.2.2.2] at hs
  refine hs.mono ?_
  rintro _ _ ⟨rfl, rfl⟩
  clear hs
  clear h32 h42 h43 p0 p1
  have HZ := Lib.hid (show WalkAt w1 g mb LA ln lc bs s ∧ Mv w w1 g mb ∧ Blk w1 (w.heap.size + 1) 36 #[.int .i64 0, .int .i64 0, .int .i64 0] ∧ Blk w1 B 36 #[.int .i64 0, .int .i64 n, .int .i64 0] from ⟨H1.out.1, H1.out.2.1, H1.out.2.2.1, H1.out.2.2.2.2.1⟩)
  have d1 : w1.cell? ⟨g, 1, none⟩ = some (.int .i64 n) := (HZ.out.1.1.cell 1).trans (by show some (Value.int .i64 s.at_) = some (Value.int .i64 (n : Int)); rw [HH.out.2.2.2.2.2.2.2.1])
  have e1 : w1.frozen? ⟨g, 1, none⟩ = false := HZ.out.1.1.frozen 1
  go_upto_region 10 with fail
  have HY := Lib.hid (show WalkAt (w1.setCell ⟨g, 1, none⟩ (.int .i64 ((n : Int) + 1))) g mb LA ln lc bs { s with at_ := (n : Int) + 1 } ∧ Mv w (w1.setCell ⟨g, 1, none⟩ (.int .i64 ((n : Int) + 1))) g mb ∧ Blk (w1.setCell ⟨g, 1, none⟩ (.int .i64 ((n : Int) + 1))) (w.heap.size + 1) 36 #[.int .i64 0, .int .i64 0, .int .i64 0] ∧ Blk (w1.setCell ⟨g, 1, none⟩ (.int .i64 ((n : Int) + 1))) B 36 #[.int .i64 0, .int .i64 n, .int .i64 0] from ⟨HZ.out.1.set_ _ rfl rfl, HZ.out.2.1.set_ _, HZ.out.2.2.1.far (by show w.heap.size + 1 ≠ g; omega) _, HZ.out.2.2.2.far (by show B ≠ g; omega) _⟩)
  clear d1 e1
  generalize w1.setCell ⟨g, 1, none⟩ (.int .i64 ((n : Int) + 1)) = wy at *
  have hQy := HY.out.2.2.1
  have hBy := HY.out.2.2.2
  go_wp2_with (first
    | (refine wpList_load_box rfl 36 _ rfl B rfl 36 #[.int .i64 0, .int .i64 n, .int .i64 0] hBy _ Try.underlying36 rfl stepInfo (fun (_ : Hid _) => ?_))
    | (refine wpList_store_box rfl 36 _ _ rfl (w.heap.size + 1) #[.int .i64 0, .int .i64 n, .int .i64 0] rfl rfl 36 #[.int .i64 0, .int .i64 0, .int .i64 0] hQy stepInfo rfl (by simp [Value.oneCell']) ?_)
    | fail)
  intro w9 hB9 hg9
  have H9 := Lib.hid hg9
  clear hg9 hQy hBy
  go_wp2_with fail
  refine bodyPost_ret (results_cell_tmp9 rfl _ _ (w.heap.size + 1) 36 _ (0, 0) _ rfl hB9 Try.underlying36 rfl stepInfo) rfl ?_
  obtain ⟨q1, q2⟩ := lead_fin HH.out.2.2.2.2.1 HY.out.1 HY.out.2.1 H9.out
  have hK : toldK (atB bs s.at_) = 0 := by rw [← HH.out.2.2.2.2.2.2.1]; exact by have h1 : ¬ d.id = 32 := HI.out.1 ▸ HA.out.1; have h2 : ¬ d.id = 42 := HI.out.1 ▸ HA.out.2.1; have h3 : ¬ d.id = 43 := HI.out.1 ▸ HA.out.2.2.1; have h4 : soundsB d.id = true := HI.out.1 ▸ HA.out.2.2.2; unfold toldK; rw [if_neg (by rintro (h | h); exact h1 h.1; exact h2 h), if_neg h3, if_pos h4]
  exact ⟨q2, .inr (.inr ⟨by rw [hK]; decide, by rw [hK, HH.out.2.2.2.2.2.2.2.1] <;> rfl, by rw [HH.out.2.2.2.2.2.2.2.1]; exact q1⟩)⟩

set_option maxRecDepth 100000 in
set_option maxHeartbeats 8000000 in
theorem hereL_any (w : World) (g mb : Nat) (LA : Option Addr) (ln lc : Nat) (bs : List WB) (s : WS) (d : WB) (v2 v3 v4 v5 v6 v7 v9 v10 v11 v12 : Value) (TA : Option Addr) (tn tc : Nat) (IA : Option Addr) (ic : Nat) (v15 v16 v17 : Value) (I pz : Int) (hI : I = d.id) (hpz : pz = d.pz) (h : WalkAt w g mb LA ln lc bs s) (hok : s.ok bs) (hf : Fine bs) (hln : bs.length = ln) (hlt : s.at_ < ln) (hd : d = atB bs s.at_) (hT : RdP w (fun b => b ≠ g ∧ b ≠ mb ∧ b < w.heap.size) 1 TA tn (d.ts.map (Value.int .i64))) (hA : I ≠ 32 ∧ I ≠ 42 ∧ I ≠ 43 ∧ soundsB I = false) :
    Calls Try.prog 19 #[.pointer (some ⟨g, 0, none⟩), .agg #[.int .i64 I, .int .i64 pz, v2, v3, v4, v5, v6, v7, .int .i64 d.ct, v9, v10, v11, v12, .slice TA tn tc, .slice IA d.ns.length ic, v15, v16, v17]] w fun x w' => HereO w w' x g mb LA ln lc bs s := by
  obtain ⟨n, hn⟩ : ∃ n : Nat, s.at_ = (n : Int) := ⟨s.at_.toNat, by have := hok.1; omega⟩
  have hnl : n < ln := by omega
  have hl60 : ln ≤ 60 := by have := hf.1; omega
  have hwn : IntKind.i64.wrap ((n : Int) + 1) = (n : Int) + 1 := by rw [IntKind.wrap_i64]; omega
  have hb2 : Below w.heap.size w ((w.alloc (.cells #[.int .i64 I, .int .i64 pz, v2, v3, v4, v5, v6, v7, .int .i64 d.ct, v9, v10, v11, v12, .slice TA tn tc, .slice IA d.ns.length ic, v15, v16, v17] 45)).alloc (.cells #[.int .i64 0, .int .i64 0, .int .i64 0] 36)) := ((Below.refl _ _).alloc (Nat.le_refl _) _).alloc (by simp) _
  have hP : Blk ((w.alloc (.cells #[.int .i64 I, .int .i64 pz, v2, v3, v4, v5, v6, v7, .int .i64 d.ct, v9, v10, v11, v12, .slice TA tn tc, .slice IA d.ns.length ic, v15, v16, v17] 45)).alloc (.cells #[.int .i64 0, .int .i64 0, .int .i64 0] 36)) w.heap.size 45 #[.int .i64 I, .int .i64 pz, v2, v3, v4, v5, v6, v7, .int .i64 d.ct, v9, v10, v11, v12, .slice TA tn tc, .slice IA d.ns.length ic, v15, v16, v17] := (Blk.new w _ _).alloc _
  have hQ : Blk ((w.alloc (.cells #[.int .i64 I, .int .i64 pz, v2, v3, v4, v5, v6, v7, .int .i64 d.ct, v9, v10, v11, v12, .slice TA tn tc, .slice IA d.ns.length ic, v15, v16, v17] 45)).alloc (.cells #[.int .i64 0, .int .i64 0, .int .i64 0] 36)) (w.heap.size + 1) 36 #[.int .i64 0, .int .i64 0, .int .i64 0] := by
    have := Blk.new (w.alloc (.cells #[.int .i64 I, .int .i64 pz, v2, v3, v4, v5, v6, v7, .int .i64 d.ct, v9, v10, v11, v12, .slice TA tn tc, .slice IA d.ns.length ic, v15, v16, v17] 45)) 36 #[.int .i64 0, .int .i64 0, .int .i64 0]
    simpa using this
  have hgl := h.1.lt
  have hml := h.2.1.lt
  have hne := h.2.1.ne h.1
  have HI := Lib.hid (And.intro hI hpz)
  have HH := Lib.hid (And.intro (h.below hb2) (And.intro hb2 (And.intro hP (And.intro hQ (And.intro h (And.intro hok (And.intro hd (And.intro hn (And.intro hf hT)))))))))
  have HN := Lib.hid hln
  clear h hb2 hP hQ hok hf hln hlt hd hn hT hI hpz
  have HA := Lib.hid hA
  clear hA
  go_enter Try.func19, Try.ntmps19
  go_upto_region 1 with fail
  generalize ((w.alloc (.cells #[.int .i64 I, .int .i64 pz, v2, v3, v4, v5, v6, v7, .int .i64 d.ct, v9, v10, v11, v12, .slice TA tn tc, .slice IA d.ns.length ic, v15, v16, v17] 45)).alloc (.cells #[.int .i64 0, .int .i64 0, .int .i64 0] 36)) = w0 at *
  have hws := Lib.hid HH.out.2.1.size
  have hql := HH.out.2.2.2.1.lt
  have c1 : w0.cell? ⟨g, 1, none⟩ = some (.int .i64 n) := by rw [← HH.out.2.2.2.2.2.2.2.1]; exact (HH.out.1.1.cell 1).trans rfl
  obtain ⟨B, hBd⟩ : ∃ B, B = w0.heap.size := ⟨_, rfl⟩
  have HBD := Lib.hid hBd
  have hB1 : w.heap.size + 1 < B := by omega
  clear hBd hql
  go_upto_region 2 with (first
    | (refine wpList_store_box rfl 36 _ _ rfl w0.heap.size #[.int .i64 0, .int .i64 n, .int .i64 0] rfl rfl 36 #[.int .i64 0, .int .i64 0, .int .i64 0] (Blk.new w0 _ _) stepInfo rfl (by simp [Value.oneCell']) ?_)
    | fail)
  intro w1 hB9 hg9
  rw [← HBD.out] at hB9 hg9 ⊢
  have H1 := Lib.hid (show WalkAt w1 g mb LA ln lc bs s ∧ Mv w w1 g mb ∧ Blk w1 (w.heap.size + 1) 36 #[.int .i64 0, .int .i64 0, .int .i64 0] ∧ Blk w1 w.heap.size 45 #[.int .i64 I, .int .i64 pz, v2, v3, v4, v5, v6, v7, .int .i64 d.ct, v9, v10, v11, v12, .slice TA tn tc, .slice IA d.ns.length ic, v15, v16, v17] ∧ Blk w1 B 36 #[.int .i64 0, .int .i64 n, .int .i64 0] ∧ Below w.heap.size w w1 from
    have hba : Below w.heap.size w (w0.alloc (.cells #[.int .i64 0, .int .i64 0, .int .i64 0] 36)) := HH.out.2.1.alloc hws.out _
    have hb1 : Below w.heap.size w w1 := hba.grown hg9 (by have := hba.size; omega) (fun k e => by injection e with e; omega)
    ⟨HH.out.2.2.2.2.1.below hb1, Mv.of_below hb1, (HH.out.2.2.2.1.alloc _).grown hg9 (fun e => by injection e with e; omega), (HH.out.2.2.1.alloc _).grown hg9 (fun e => by injection e with e; omega), hB9, hb1⟩)
  clear hB9 hg9 c1
  have p0 : w1.cell? ⟨w.heap.size, 0, none⟩ = some (.int .i64 I) := (H1.out.2.2.2.1.cell 0).trans rfl
  have p1 : w1.cell? ⟨w.heap.size, 1, none⟩ = some (.int .i64 pz) := (H1.out.2.2.2.1.cell 1).trans rfl
  have h32 : (I == 32) = false := by simpa using HA.out.1
  have h42 : (I == 42) = false := by simpa using HA.out.2.1
  have h43 : (I == 43) = false := by simpa using HA.out.2.2.1
  have hs := sounds_any w1 I
  go_wp2_with fail
  rw [show soundsB I = false from HA.out.2.2.2] at hs
  refine hs.mono ?_
  rintro _ _ ⟨rfl, rfl⟩
  clear hs
  clear h32 h42 h43 p0 p1
  have hP1 := H1.out.2.2.2.1
  go_wp2_with (first
    | (refine wpList_load_box rfl 45 _ rfl w.heap.size rfl 45 #[.int .i64 I, .int .i64 pz, v2, v3, v4, v5, v6, v7, .int .i64 d.ct, v9, v10, v11, v12, .slice TA tn tc, .slice IA d.ns.length ic, v15, v16, v17] hP1 _ Try.underlying45 rfl blkInfo (fun (_ : Hid _) => ?_))
    | fail)
  have hle := leads_any w1 g mb LA ln lc bs s d v2 v3 v4 v5 v6 v7 v9 v10 v11 v12 TA tn tc IA ic v15 v16 v17 H1.out.1 HH.out.2.2.2.2.2.1 HH.out.2.2.2.2.2.2.2.2.1 HN.out (by rw [HH.out.2.2.2.2.2.2.2.1]; omega) HH.out.2.2.2.2.2.2.1 (HH.out.2.2.2.2.2.2.2.2.2.keep (fun b hp => H1.out.2.2.2.2.2.block b hp.2.2) (fun b hp => ⟨hp.1, hp.2.1, by have := hp.2.2; have := H1.out.2.2.2.2.2.size; omega⟩))
  rw [← HI.out.1, ← HI.out.2] at hle
  refine hle.mono ?_
  clear hle hP1
  rintro x w8 ⟨hM8, ⟨he, rfl, hW8⟩ | ⟨he, rfl, hW8⟩⟩
  · have H8 := Lib.hid (And.intro hM8 (And.intro he hW8))
    clear hM8 he hW8
    have hQ8 : Blk w8 (w.heap.size + 1) 36 #[.int .i64 0, .int .i64 0, .int .i64 0] := (H8.out.1.block _ H1.out.2.2.1.lt (by omega) (by omega)).trans H1.out.2.2.1
    go_wp2_with (first
      | (refine wpList_store_box rfl 36 _ _ rfl (w.heap.size + 1) #[.int .i64 0, .int .i64 0, .int .i64 0] rfl rfl 36 #[.int .i64 0, .int .i64 0, .int .i64 0] hQ8 stepInfo rfl (by simp [Value.oneCell']) ?_)
      | fail)
    intro w9 hB9 hg9
    have H9 := Lib.hid hg9
    clear hg9 hQ8
    go_wp2_with fail
    refine bodyPost_ret (results_cell_tmp9 rfl _ _ (w.heap.size + 1) 36 _ (0, 0) _ rfl hB9 Try.underlying36 rfl stepInfo) rfl ?_
    obtain ⟨q1, q2⟩ := lead_fin HH.out.2.2.2.2.1 H8.out.2.2 (H1.out.2.1.trans H8.out.1) H9.out
    have hK : toldK (atB bs s.at_) = 3 := by rw [← HH.out.2.2.2.2.2.2.1]; exact by have h1 : ¬ d.id = 32 := HI.out.1 ▸ HA.out.1; have h2 : ¬ d.id = 42 := HI.out.1 ▸ HA.out.2.1; have h3 : ¬ d.id = 43 := HI.out.1 ▸ HA.out.2.2.1; have h4 : soundsB d.id = false := HI.out.1 ▸ HA.out.2.2.2; unfold toldK; rw [if_neg (by rintro (h | h); exact h1 h.1; exact h2 h), if_neg h3, if_neg (by rw [h4]; decide)]
    exact ⟨q2, .inl ⟨hK, H8.out.2.1, rfl, q1⟩⟩
  · have H8 := Lib.hid (And.intro hM8 (And.intro he hW8))
    clear hM8 he hW8
    generalize hle : leadE bs s = le at *
    have HLE := Lib.hid hle
    clear hle
    have hQ8 : Blk w8 (w.heap.size + 1) 36 #[.int .i64 0, .int .i64 0, .int .i64 0] := (H8.out.1.block _ H1.out.2.2.1.lt (by omega) (by omega)).trans H1.out.2.2.1
    go_wp2_with (first
      | (refine wpList_store_box rfl 36 _ _ rfl (w.heap.size + 1) #[.int .i64 4, .int .i64 s.at_, .int .i64 le] rfl rfl 36 #[.int .i64 0, .int .i64 0, .int .i64 0] hQ8 stepInfo rfl (by simp [Value.oneCell']) ?_)
      | fail)
    intro w9 hB9 hg9
    have H9 := Lib.hid hg9
    clear hg9 hQ8
    go_wp2_with fail
    refine bodyPost_ret (results_cell_tmp9 rfl _ _ (w.heap.size + 1) 36 _ (0, 0) _ rfl hB9 Try.underlying36 rfl stepInfo) rfl ?_
    obtain ⟨q1, q2⟩ := lead_fin HH.out.2.2.2.2.1 H8.out.2.2 (H1.out.2.1.trans H8.out.1) H9.out
    have hK : toldK (atB bs s.at_) = 3 := by rw [← HH.out.2.2.2.2.2.2.1]; exact by have h1 : ¬ d.id = 32 := HI.out.1 ▸ HA.out.1; have h2 : ¬ d.id = 42 := HI.out.1 ▸ HA.out.2.1; have h3 : ¬ d.id = 43 := HI.out.1 ▸ HA.out.2.2.1; have h4 : soundsB d.id = false := HI.out.1 ▸ HA.out.2.2.2; unfold toldK; rw [if_neg (by rintro (h | h); exact h1 h.1; exact h2 h), if_neg h3, if_neg (by rw [h4]; decide)]
    refine ⟨q2, .inr (.inl ⟨hK, ?_, ?_, ?_⟩)⟩
    · rw [HLE.out]; exact H8.out.2.1
    · rw [HLE.out] <;> rfl
    · rw [HLE.out]; exact q1

theorem here_any (w : World) (g mb : Nat) (LA : Option Addr) (ln lc : Nat) (bs : List WB) (s : WS) (d : WB) (v2 v3 v4 v5 v6 v7 v9 v10 v11 v12 : Value) (TA : Option Addr) (tn tc : Nat) (IA : Option Addr) (ic : Nat) (v15 v16 v17 : Value) (h : WalkAt w g mb LA ln lc bs s) (hok : s.ok bs) (hf : Fine bs) (hln : bs.length = ln) (hlt : s.at_ < ln) (hd : d = atB bs s.at_) (hT : RdP w (fun b => b ≠ g ∧ b ≠ mb ∧ b < w.heap.size) 1 TA tn (d.ts.map (Value.int .i64))) :
    Calls Try.prog 19 #[.pointer (some ⟨g, 0, none⟩), .agg #[.int .i64 d.id, .int .i64 d.pz, v2, v3, v4, v5, v6, v7, .int .i64 d.ct, v9, v10, v11, v12, .slice TA tn tc, .slice IA d.ns.length ic, v15, v16, v17]] w fun x w' => HereO w w' x g mb LA ln lc bs s := by
  by_cases h32 : d.id = 32
  · by_cases hp : d.pz = 0
    · exact here32_any w g mb LA ln lc bs s d v2 v3 v4 v5 v6 v7 v9 v10 v11 v12 TA tn tc IA ic v15 v16 v17 d.id d.pz rfl rfl h hok hf hln hlt hd hT ⟨h32, hp⟩
    · exact hereS32_any w g mb LA ln lc bs s d v2 v3 v4 v5 v6 v7 v9 v10 v11 v12 TA tn tc IA ic v15 v16 v17 d.id d.pz rfl rfl h hok hf hln hlt hd hT ⟨h32, hp⟩
  · by_cases h42 : d.id = 42
    · exact here42_any w g mb LA ln lc bs s d v2 v3 v4 v5 v6 v7 v9 v10 v11 v12 TA tn tc IA ic v15 v16 v17 d.id d.pz rfl rfl h hok hf hln hlt hd hT h42
    · by_cases h43 : d.id = 43
      · exact here43_any w g mb LA ln lc bs s d v2 v3 v4 v5 v6 v7 v9 v10 v11 v12 TA tn tc IA ic v15 v16 v17 d.id d.pz rfl rfl h hok hf hln hlt hd hT h43
      · cases hs : soundsB d.id with
        | true => exact hereS_any w g mb LA ln lc bs s d v2 v3 v4 v5 v6 v7 v9 v10 v11 v12 TA tn tc IA ic v15 v16 v17 d.id d.pz rfl rfl h hok hf hln hlt hd hT ⟨h32, h42, h43, hs⟩
        | false => exact hereL_any w g mb LA ln lc bs s d v2 v3 v4 v5 v6 v7 v9 v10 v11 v12 TA tn tc IA ic v15 v16 v17 d.id d.pz rfl rfl h hok hf hln hlt hd hT ⟨h32, h42, h43, hs⟩
end Go.Proofs.Ytnmapncgnceldaa
