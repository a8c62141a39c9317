/- Part 2 of the proof: lemmas on what the program computes; no condition. -/
import Derived.Deep.RegionHeld3
import Derived.Deep.QuietTactic
import Derived.BigQuiet
import Derived.Test.YtnlaedfnifimkaaGreatJ1
set_option linter.unusedVariables false
set_option linter.unusedSimpArgs false
set_option linter.unusedSectionVars false
namespace Go.Proofs.YtnlaedfnifimkaaGreat
open Go.RowKit
set_option maxRecDepth 100000 in
set_option maxHeartbeats 8000000 in
theorem lead37_any (w : World) (g mb : Nat) (LA : Option Addr) (ln lc : Nat) (bs : List WB) (s : WS) (d : WB) (v2 v3 v4 v5 v6 v7 v9 v10 v11 v12 : Value) (TA : Option Addr) (tn tc : Nat) (IA : Option Addr) (ic : Nat) (v15 v16 v17 : Value) (h : WalkAt w g mb LA ln lc bs s) (hok : s.ok bs) (hf : Fine bs) (hln : bs.length = ln) (hlt : s.at_ < ln) (hd : d = atB bs s.at_) (hid : d.id = 37) (hT : RdP w (fun b => b ≠ g ∧ b ≠ mb ∧ b < w.heap.size) 1 TA tn (d.ts.map (Value.int .i64))) :
    Calls Tryz.prog 199 #[.pointer (some ⟨g, 0, none⟩), .agg #[.int .i64 d.id, .int .i64 d.pz, v2, v3, v4, v5, v6, v7, .int .i64 d.ct, v9, v10, v11, v12, .slice TA tn tc, .slice IA d.ns.length ic, v15, v16, v17]] w fun x w' => LeadO w w' x g mb LA ln lc bs s := by
  rw [hid]
  have HI := Lib.hid hid
  clear hid
  obtain ⟨n, hn⟩ : ∃ n : Nat, s.at_ = (n : Int) := ⟨s.at_.toNat, by have := hok.1; omega⟩
  have hnl : n < ln := by omega
  have hl60 : ln ≤ 300 := by have := hf.1; omega
  have hdn : d = bs.getD n default := by rw [hd, hn]; rfl
  have hfn := hf.2 n (by omega)
  rw [← hdn] at hfn
  have hwn : IntKind.i64.wrap ((n : Int) + 1) = (n : Int) + 1 := by rw [IntKind.wrap_i64]; omega
  have hn0 : (0 : Int) ≤ (n : Int) := Int.natCast_nonneg _
  have hb2 : Below w.heap.size w ((w.alloc (.cells #[.int .i64 37, .int .i64 d.pz, v2, v3, v4, v5, v6, v7, .int .i64 d.ct, v9, v10, v11, v12, .slice TA tn tc, .slice IA d.ns.length ic, v15, v16, v17] 34)).alloc (.cells #[.int .i64 0, .int .i64 0, .int .i64 0] 215)) := ((Below.refl _ _).alloc (Nat.le_refl _) _).alloc (by simp) _
  have hP : Blk ((w.alloc (.cells #[.int .i64 37, .int .i64 d.pz, v2, v3, v4, v5, v6, v7, .int .i64 d.ct, v9, v10, v11, v12, .slice TA tn tc, .slice IA d.ns.length ic, v15, v16, v17] 34)).alloc (.cells #[.int .i64 0, .int .i64 0, .int .i64 0] 215)) w.heap.size 34 #[.int .i64 37, .int .i64 d.pz, v2, v3, v4, v5, v6, v7, .int .i64 d.ct, v9, v10, v11, v12, .slice TA tn tc, .slice IA d.ns.length ic, v15, v16, v17] := (Blk.new w _ _).alloc _
  have hQ : Blk ((w.alloc (.cells #[.int .i64 37, .int .i64 d.pz, v2, v3, v4, v5, v6, v7, .int .i64 d.ct, v9, v10, v11, v12, .slice TA tn tc, .slice IA d.ns.length ic, v15, v16, v17] 34)).alloc (.cells #[.int .i64 0, .int .i64 0, .int .i64 0] 215)) (w.heap.size + 1) 215 #[.int .i64 0, .int .i64 0, .int .i64 0] := by
    have := Blk.new (w.alloc (.cells #[.int .i64 37, .int .i64 d.pz, v2, v3, v4, v5, v6, v7, .int .i64 d.ct, v9, v10, v11, v12, .slice TA tn tc, .slice IA d.ns.length ic, v15, v16, v17] 34)) 215 #[.int .i64 0, .int .i64 0, .int .i64 0]
    simpa using this
  have hgl := h.1.lt
  have hml := h.2.1.lt
  have hne := h.2.1.ne h.1
  have HH := Lib.hid (And.intro (h.below hb2) (And.intro hb2 (And.intro hP (And.intro hQ (And.intro h (And.intro hok (And.intro hd (And.intro hn (And.intro hfn hT)))))))))
  have HN := Lib.hid hln
  clear h hb2 hP hQ hok hf hln hlt hd hn hdn hfn hT
  go_enter Tryz.func199, Tryz.ntmps199
  go_upto_region 1 with fail
  generalize ((w.alloc (.cells #[.int .i64 37, .int .i64 d.pz, v2, v3, v4, v5, v6, v7, .int .i64 d.ct, v9, v10, v11, v12, .slice TA tn tc, .slice IA d.ns.length ic, v15, v16, v17] 34)).alloc (.cells #[.int .i64 0, .int .i64 0, .int .i64 0] 215)) = w0 at *
  have hws := HH.out.2.1.size
  have hql := HH.out.2.2.2.1.lt
  have c1 : w0.cell? ⟨g, 1, none⟩ = some (.int .i64 n) := by rw [← HH.out.2.2.2.2.2.2.2.1]; exact (HH.out.1.1.cell 1).trans rfl
  have f1 : w0.frozen? ⟨g, 1, none⟩ = false := HH.out.1.1.frozen 1
  have p0 : w0.cell? ⟨w.heap.size, 0, none⟩ = some (.int .i64 37) := (HH.out.2.2.1.cell 0).trans rfl
  have c2 : w0.cell? ⟨g, 2, none⟩ = some (.bool s.on) := (HH.out.1.1.cell 2).trans rfl
  have f2 : w0.frozen? ⟨g, 2, none⟩ = false := HH.out.1.1.frozen 2
  have c3 : w0.cell? ⟨g, 3, none⟩ = some (.bool s.heard) := (HH.out.1.1.cell 3).trans rfl
  have f3 : w0.frozen? ⟨g, 3, none⟩ = false := HH.out.1.1.frozen 3
  have c4 : w0.cell? ⟨g, 4, none⟩ = some (.int .i64 s.frm) := (HH.out.1.1.cell 4).trans rfl
  have f4 : w0.frozen? ⟨g, 4, none⟩ = false := HH.out.1.1.frozen 4
  have c5 : w0.cell? ⟨g, 5, none⟩ = some (.int .i64 s.times) := (HH.out.1.1.cell 5).trans rfl
  have f5 : w0.frozen? ⟨g, 5, none⟩ = false := HH.out.1.1.frozen 5
  obtain ⟨_, _, hon, _, ht0, ht1, _⟩ := HH.out.2.2.2.2.2.1
  have hwt : 0 < s.times → IntKind.i64.wrap (s.times - 1) = s.times - 1 := fun h => by rw [IntKind.wrap_i64]; omega
  cases hso : s.on with
  | false =>
    have HSO := Lib.hid hso
    rw [hso] at c2
    clear hso
    have HZ := Lib.hid (And.intro HH.out.1 (And.intro (Mv.of_below HH.out.2.1 : Mv w w0 g mb) HH.out.2.2.2.1))
    clear c3 f3 c4 f4 c5 f5
    clear hwt
    have hfl := fault_any w0 g mb LA ln lc bs s 6 HZ.out.1
    go_wp2_with fail
    refine hfl.mono ?_
    rintro x w8 ⟨rfl, hW8, hM8⟩
    clear hfl
    have hQ8 : Blk w8 (w.heap.size + 1) 215 #[.int .i64 0, .int .i64 0, .int .i64 0] := (hM8.block _ HZ.out.2.2.lt (by omega) (by omega)).trans HZ.out.2.2
    have H8 := Lib.hid (And.intro hW8 (HZ.out.2.1.trans hM8))
    clear hW8 hM8
    go_wp2_with (first
      | (refine wpList_store_box rfl 215 _ _ rfl (w.heap.size + 1) #[.int .i64 4, .int .i64 s.at_, .int .i64 6] rfl rfl 215 #[.int .i64 0, .int .i64 0, .int .i64 0] hQ8 stepInfo rfl (by simp [Value.oneCell']) ?_)
      | fail)
    intro w9 hB9 hg9
    have H9 := Lib.hid hg9
    clear hg9 hQ8
    go_wp2_with fail
    refine bodyPost_ret (results_cell_tmp9 rfl _ _ (w.heap.size + 1) 215 _ (0, 0) _ rfl hB9 Tryz.underlying215 rfl stepInfo) rfl ?_
    obtain ⟨q1, q2⟩ := lead_fin HH.out.2.2.2.2.1 H8.out.1 H8.out.2 H9.out
    have hle : leadE bs s = 6 := by unfold leadE; rw [← HH.out.2.2.2.2.2.2.1, if_neg (by rw [HI.out]; decide), if_pos HI.out, if_pos HSO.out]
    exact ⟨q2, .inr ⟨by rw [hle]; decide, by rw [hle] <;> rfl, by rw [hle]; exact q1⟩⟩
  | true =>
    have HSO := Lib.hid hso
    rw [hso] at c2
    clear hso
    by_cases hts : 0 < s.times
    · cases hhd : s.heard with
      | true =>
        have hwt2 := hwt hts
        clear hwt
        rw [hhd] at c3
        have HHD := Lib.hid hhd
        clear hhd
        have HZ := Lib.hid (show WalkAt ((w0.setCell ⟨g, 5, none⟩ (.int .i64 (s.times - 1))).setCell ⟨g, 3, none⟩ (.bool false)) g mb LA ln lc bs { s with times := s.times - 1, heard := false } ∧ Mv w ((w0.setCell ⟨g, 5, none⟩ (.int .i64 (s.times - 1))).setCell ⟨g, 3, none⟩ (.bool false)) g mb ∧ Blk ((w0.setCell ⟨g, 5, none⟩ (.int .i64 (s.times - 1))).setCell ⟨g, 3, none⟩ (.bool false)) (w.heap.size + 1) 215 #[.int .i64 0, .int .i64 0, .int .i64 0] from ⟨(HH.out.1.set_ (s' := { s with times := s.times - 1 }) _ rfl rfl).set_ _ rfl rfl, ((Mv.of_below HH.out.2.1 : Mv w w0 g mb).set_ _).set_ _, (HH.out.2.2.2.1.far (by show w.heap.size + 1 ≠ g; omega) _).far (by show w.heap.size + 1 ≠ g; omega) _⟩)
        go_upto_region 28 with fail
        clear c1 f1
        clear c2 f2 c3 f3 c4 f4 c5 f5
        generalize (w0.setCell ⟨g, 5, none⟩ (.int .i64 (s.times - 1))).setCell ⟨g, 3, none⟩ (.bool false) = wz at *
        have hwz := HZ.out.1.1.lt
        have d1 : wz.cell? ⟨g, 1, none⟩ = some (.int .i64 n) := (HZ.out.1.1.cell 1).trans (by show some (Value.int .i64 s.at_) = some (Value.int .i64 (n : Int)); rw [HH.out.2.2.2.2.2.2.2.1])
        have e1 : wz.frozen? ⟨g, 1, none⟩ = false := HZ.out.1.1.frozen 1
        go_upto_region 29 with fail
        have HY := Lib.hid (show WalkAt (wz.setCell ⟨g, 1, none⟩ (.int .i64 (s.frm))) g mb LA ln lc bs { s with times := s.times - 1, heard := false, at_ := s.frm } ∧ Mv w (wz.setCell ⟨g, 1, none⟩ (.int .i64 (s.frm))) g mb ∧ Blk (wz.setCell ⟨g, 1, none⟩ (.int .i64 (s.frm))) (w.heap.size + 1) 215 #[.int .i64 0, .int .i64 0, .int .i64 0] from ⟨HZ.out.1.set_ _ rfl rfl, HZ.out.2.1.set_ _, HZ.out.2.2.far (by show w.heap.size + 1 ≠ g; omega) _⟩)
        clear d1 e1
        generalize wz.setCell ⟨g, 1, none⟩ (.int .i64 (s.frm)) = wy at *
        have hQy := HY.out.2.2
        go_wp2_with (first
          | (refine wpList_store_box rfl 215 _ _ rfl (w.heap.size + 1) #[.int .i64 0, .int .i64 0, .int .i64 0] rfl rfl 215 #[.int .i64 0, .int .i64 0, .int .i64 0] hQy stepInfo rfl (by simp [Value.oneCell']) ?_)
          | fail)
        intro w9 hB9 hg9
        have H9 := Lib.hid hg9
        clear hg9 hQy
        go_wp2_with fail
        refine bodyPost_ret (results_cell_tmp9 rfl _ _ (w.heap.size + 1) 215 _ (0, 0) _ rfl hB9 Tryz.underlying215 rfl stepInfo) rfl ?_
        obtain ⟨q1, q2⟩ := lead_fin HH.out.2.2.2.2.1 HY.out.1 HY.out.2.1 H9.out
        refine ⟨q2, .inl ⟨by unfold leadE; rw [← HH.out.2.2.2.2.2.2.1, if_neg (by rw [HI.out]; decide), if_pos HI.out, if_neg (by rw [HSO.out]; decide)], rfl, ?_⟩⟩
        rw [show leadS bs s = { s with times := s.times - 1, heard := false, at_ := s.frm } from by unfold leadS; rw [← HH.out.2.2.2.2.2.2.1, if_neg (by rw [HI.out]; decide), if_neg (by rw [HI.out]; decide), if_pos HI.out, if_pos ⟨hts, HHD.out⟩]]
        exact q1
      | false =>
        have HHD := Lib.hid hhd
        rw [hhd] at c3
        clear hhd hwt
        have HZ := Lib.hid (show WalkAt ((((w0.setCell ⟨g, 2, none⟩ (.bool false)).setCell ⟨g, 3, none⟩ (.bool false)).setCell ⟨g, 4, none⟩ (.int .i64 0)).setCell ⟨g, 5, none⟩ (.int .i64 0)) g mb LA ln lc bs { s with on := false, heard := false, frm := 0, times := 0 } ∧ Mv w ((((w0.setCell ⟨g, 2, none⟩ (.bool false)).setCell ⟨g, 3, none⟩ (.bool false)).setCell ⟨g, 4, none⟩ (.int .i64 0)).setCell ⟨g, 5, none⟩ (.int .i64 0)) g mb ∧ Blk ((((w0.setCell ⟨g, 2, none⟩ (.bool false)).setCell ⟨g, 3, none⟩ (.bool false)).setCell ⟨g, 4, none⟩ (.int .i64 0)).setCell ⟨g, 5, none⟩ (.int .i64 0)) (w.heap.size + 1) 215 #[.int .i64 0, .int .i64 0, .int .i64 0] from ⟨(((HH.out.1.set_ (s' := { s with on := false }) _ rfl rfl).set_ (s' := { s with on := false, heard := false }) _ rfl rfl).set_ (s' := { s with on := false, heard := false, frm := 0 }) _ rfl rfl).set_ _ rfl rfl, ((((Mv.of_below HH.out.2.1 : Mv w w0 g mb).set_ _).set_ _).set_ _).set_ _, (((HH.out.2.2.2.1.far (by show w.heap.size + 1 ≠ g; omega) _).far (by show w.heap.size + 1 ≠ g; omega) _).far (by show w.heap.size + 1 ≠ g; omega) _).far (by show w.heap.size + 1 ≠ g; omega) _⟩)
        go_upto_region 28 with fail
        clear c1 f1
        clear c2 f2 c3 f3 c4 f4 c5 f5
        generalize (((w0.setCell ⟨g, 2, none⟩ (.bool false)).setCell ⟨g, 3, none⟩ (.bool false)).setCell ⟨g, 4, none⟩ (.int .i64 0)).setCell ⟨g, 5, none⟩ (.int .i64 0) = wz at *
        have hwz := HZ.out.1.1.lt
        have d1 : wz.cell? ⟨g, 1, none⟩ = some (.int .i64 n) := (HZ.out.1.1.cell 1).trans (by show some (Value.int .i64 s.at_) = some (Value.int .i64 (n : Int)); rw [HH.out.2.2.2.2.2.2.2.1])
        have e1 : wz.frozen? ⟨g, 1, none⟩ = false := HZ.out.1.1.frozen 1
        go_upto_region 29 with fail
        have HY := Lib.hid (show WalkAt (wz.setCell ⟨g, 1, none⟩ (.int .i64 ((n : Int) + 1))) g mb LA ln lc bs { s with on := false, heard := false, frm := 0, times := 0, at_ := (n : Int) + 1 } ∧ Mv w (wz.setCell ⟨g, 1, none⟩ (.int .i64 ((n : Int) + 1))) g mb ∧ Blk (wz.setCell ⟨g, 1, none⟩ (.int .i64 ((n : Int) + 1))) (w.heap.size + 1) 215 #[.int .i64 0, .int .i64 0, .int .i64 0] from ⟨HZ.out.1.set_ _ rfl rfl, HZ.out.2.1.set_ _, HZ.out.2.2.far (by show w.heap.size + 1 ≠ g; omega) _⟩)
        clear d1 e1
        generalize wz.setCell ⟨g, 1, none⟩ (.int .i64 ((n : Int) + 1)) = wy at *
        have hQy := HY.out.2.2
        go_wp2_with (first
          | (refine wpList_store_box rfl 215 _ _ rfl (w.heap.size + 1) #[.int .i64 0, .int .i64 0, .int .i64 0] rfl rfl 215 #[.int .i64 0, .int .i64 0, .int .i64 0] hQy stepInfo rfl (by simp [Value.oneCell']) ?_)
          | fail)
        intro w9 hB9 hg9
        have H9 := Lib.hid hg9
        clear hg9 hQy
        go_wp2_with fail
        refine bodyPost_ret (results_cell_tmp9 rfl _ _ (w.heap.size + 1) 215 _ (0, 0) _ rfl hB9 Tryz.underlying215 rfl stepInfo) rfl ?_
        obtain ⟨q1, q2⟩ := lead_fin HH.out.2.2.2.2.1 HY.out.1 HY.out.2.1 H9.out
        refine ⟨q2, .inl ⟨by unfold leadE; rw [← HH.out.2.2.2.2.2.2.1, if_neg (by rw [HI.out]; decide), if_pos HI.out, if_neg (by rw [HSO.out]; decide)], rfl, ?_⟩⟩
        rw [show leadS bs s = { s with on := false, heard := false, frm := 0, times := 0, at_ := (n : Int) + 1 } from by unfold leadS; rw [← HH.out.2.2.2.2.2.2.1, if_neg (by rw [HI.out]; decide), if_neg (by rw [HI.out]; decide), if_pos HI.out, if_neg (fun h => by rw [HHD.out] at h; exact absurd h.2 (by decide)), HH.out.2.2.2.2.2.2.2.1]]
        exact q1
    · clear hwt
      have HZ := Lib.hid (show WalkAt ((((w0.setCell ⟨g, 2, none⟩ (.bool false)).setCell ⟨g, 3, none⟩ (.bool false)).setCell ⟨g, 4, none⟩ (.int .i64 0)).setCell ⟨g, 5, none⟩ (.int .i64 0)) g mb LA ln lc bs { s with on := false, heard := false, frm := 0, times := 0 } ∧ Mv w ((((w0.setCell ⟨g, 2, none⟩ (.bool false)).setCell ⟨g, 3, none⟩ (.bool false)).setCell ⟨g, 4, none⟩ (.int .i64 0)).setCell ⟨g, 5, none⟩ (.int .i64 0)) g mb ∧ Blk ((((w0.setCell ⟨g, 2, none⟩ (.bool false)).setCell ⟨g, 3, none⟩ (.bool false)).setCell ⟨g, 4, none⟩ (.int .i64 0)).setCell ⟨g, 5, none⟩ (.int .i64 0)) (w.heap.size + 1) 215 #[.int .i64 0, .int .i64 0, .int .i64 0] from ⟨(((HH.out.1.set_ (s' := { s with on := false }) _ rfl rfl).set_ (s' := { s with on := false, heard := false }) _ rfl rfl).set_ (s' := { s with on := false, heard := false, frm := 0 }) _ rfl rfl).set_ _ rfl rfl, ((((Mv.of_below HH.out.2.1 : Mv w w0 g mb).set_ _).set_ _).set_ _).set_ _, (((HH.out.2.2.2.1.far (by show w.heap.size + 1 ≠ g; omega) _).far (by show w.heap.size + 1 ≠ g; omega) _).far (by show w.heap.size + 1 ≠ g; omega) _).far (by show w.heap.size + 1 ≠ g; omega) _⟩)
      go_upto_region 28 with fail
      clear c1 f1
      clear c2 f2 c3 f3 c4 f4 c5 f5
      generalize (((w0.setCell ⟨g, 2, none⟩ (.bool false)).setCell ⟨g, 3, none⟩ (.bool false)).setCell ⟨g, 4, none⟩ (.int .i64 0)).setCell ⟨g, 5, none⟩ (.int .i64 0) = wz at *
      have hwz := HZ.out.1.1.lt
      have d1 : wz.cell? ⟨g, 1, none⟩ = some (.int .i64 n) := (HZ.out.1.1.cell 1).trans (by show some (Value.int .i64 s.at_) = some (Value.int .i64 (n : Int)); rw [HH.out.2.2.2.2.2.2.2.1])
      have e1 : wz.frozen? ⟨g, 1, none⟩ = false := HZ.out.1.1.frozen 1
      go_upto_region 29 with fail
      have HY := Lib.hid (show WalkAt (wz.setCell ⟨g, 1, none⟩ (.int .i64 ((n : Int) + 1))) g mb LA ln lc bs { s with on := false, heard := false, frm := 0, times := 0, at_ := (n : Int) + 1 } ∧ Mv w (wz.setCell ⟨g, 1, none⟩ (.int .i64 ((n : Int) + 1))) g mb ∧ Blk (wz.setCell ⟨g, 1, none⟩ (.int .i64 ((n : Int) + 1))) (w.heap.size + 1) 215 #[.int .i64 0, .int .i64 0, .int .i64 0] from ⟨HZ.out.1.set_ _ rfl rfl, HZ.out.2.1.set_ _, HZ.out.2.2.far (by show w.heap.size + 1 ≠ g; omega) _⟩)
      clear d1 e1
      generalize wz.setCell ⟨g, 1, none⟩ (.int .i64 ((n : Int) + 1)) = wy at *
      have hQy := HY.out.2.2
      go_wp2_with (first
        | (refine wpList_store_box rfl 215 _ _ rfl (w.heap.size + 1) #[.int .i64 0, .int .i64 0, .int .i64 0] rfl rfl 215 #[.int .i64 0, .int .i64 0, .int .i64 0] hQy stepInfo rfl (by simp [Value.oneCell']) ?_)
        | fail)
      intro w9 hB9 hg9
      have H9 := Lib.hid hg9
      clear hg9 hQy
      go_wp2_with fail
      refine bodyPost_ret (results_cell_tmp9 rfl _ _ (w.heap.size + 1) 215 _ (0, 0) _ rfl hB9 Tryz.underlying215 rfl stepInfo) rfl ?_
      obtain ⟨q1, q2⟩ := lead_fin HH.out.2.2.2.2.1 HY.out.1 HY.out.2.1 H9.out
      refine ⟨q2, .inl ⟨by unfold leadE; rw [← HH.out.2.2.2.2.2.2.1, if_neg (by rw [HI.out]; decide), if_pos HI.out, if_neg (by rw [HSO.out]; decide)], rfl, ?_⟩⟩
      rw [show leadS bs s = { s with on := false, heard := false, frm := 0, times := 0, at_ := (n : Int) + 1 } from by unfold leadS; rw [← HH.out.2.2.2.2.2.2.1, if_neg (by rw [HI.out]; decide), if_neg (by rw [HI.out]; decide), if_pos HI.out, if_neg (fun h => absurd h.1 (by omega)), HH.out.2.2.2.2.2.2.2.1]]
      exact q1
set_option maxRecDepth 100000 in
set_option maxHeartbeats 8000000 in
theorem lead38_any (w : World) (g mb : Nat) (LA : Option Addr) (ln lc : Nat) (bs : List WB) (s : WS) (d : WB) (v2 v3 v4 v5 v6 v7 v9 v10 v11 v12 : Value) (TA : Option Addr) (tn tc : Nat) (IA : Option Addr) (ic : Nat) (v15 v16 v17 : Value) (h : WalkAt w g mb LA ln lc bs s) (hok : s.ok bs) (hf : Fine bs) (hln : bs.length = ln) (hlt : s.at_ < ln) (hd : d = atB bs s.at_) (hid : d.id = 38) (hT : RdP w (fun b => b ≠ g ∧ b ≠ mb ∧ b < w.heap.size) 1 TA tn (d.ts.map (Value.int .i64))) :
    Calls Tryz.prog 199 #[.pointer (some ⟨g, 0, none⟩), .agg #[.int .i64 d.id, .int .i64 d.pz, v2, v3, v4, v5, v6, v7, .int .i64 d.ct, v9, v10, v11, v12, .slice TA tn tc, .slice IA d.ns.length ic, v15, v16, v17]] w fun x w' => LeadO w w' x g mb LA ln lc bs s := by
  rw [hid]
  have HI := Lib.hid hid
  clear hid
  obtain ⟨n, hn⟩ : ∃ n : Nat, s.at_ = (n : Int) := ⟨s.at_.toNat, by have := hok.1; omega⟩
  have hnl : n < ln := by omega
  have hl60 : ln ≤ 300 := by have := hf.1; omega
  have hdn : d = bs.getD n default := by rw [hd, hn]; rfl
  have hfn := hf.2 n (by omega)
  rw [← hdn] at hfn
  have hwn : IntKind.i64.wrap ((n : Int) + 1) = (n : Int) + 1 := by rw [IntKind.wrap_i64]; omega
  have hn0 : (0 : Int) ≤ (n : Int) := Int.natCast_nonneg _
  have hb2 : Below w.heap.size w ((w.alloc (.cells #[.int .i64 38, .int .i64 d.pz, v2, v3, v4, v5, v6, v7, .int .i64 d.ct, v9, v10, v11, v12, .slice TA tn tc, .slice IA d.ns.length ic, v15, v16, v17] 34)).alloc (.cells #[.int .i64 0, .int .i64 0, .int .i64 0] 215)) := ((Below.refl _ _).alloc (Nat.le_refl _) _).alloc (by simp) _
  have hP : Blk ((w.alloc (.cells #[.int .i64 38, .int .i64 d.pz, v2, v3, v4, v5, v6, v7, .int .i64 d.ct, v9, v10, v11, v12, .slice TA tn tc, .slice IA d.ns.length ic, v15, v16, v17] 34)).alloc (.cells #[.int .i64 0, .int .i64 0, .int .i64 0] 215)) w.heap.size 34 #[.int .i64 38, .int .i64 d.pz, v2, v3, v4, v5, v6, v7, .int .i64 d.ct, v9, v10, v11, v12, .slice TA tn tc, .slice IA d.ns.length ic, v15, v16, v17] := (Blk.new w _ _).alloc _
  have hQ : Blk ((w.alloc (.cells #[.int .i64 38, .int .i64 d.pz, v2, v3, v4, v5, v6, v7, .int .i64 d.ct, v9, v10, v11, v12, .slice TA tn tc, .slice IA d.ns.length ic, v15, v16, v17] 34)).alloc (.cells #[.int .i64 0, .int .i64 0, .int .i64 0] 215)) (w.heap.size + 1) 215 #[.int .i64 0, .int .i64 0, .int .i64 0] := by
    have := Blk.new (w.alloc (.cells #[.int .i64 38, .int .i64 d.pz, v2, v3, v4, v5, v6, v7, .int .i64 d.ct, v9, v10, v11, v12, .slice TA tn tc, .slice IA d.ns.length ic, v15, v16, v17] 34)) 215 #[.int .i64 0, .int .i64 0, .int .i64 0]
    simpa using this
  have hgl := h.1.lt
  have hml := h.2.1.lt
  have hne := h.2.1.ne h.1
  have HH := Lib.hid (And.intro (h.below hb2) (And.intro hb2 (And.intro hP (And.intro hQ (And.intro h (And.intro hok (And.intro hd (And.intro hn (And.intro hfn hT)))))))))
  have HN := Lib.hid hln
  clear h hb2 hP hQ hok hf hln hlt hd hn hdn hfn hT
  go_enter Tryz.func199, Tryz.ntmps199
  go_upto_region 1 with fail
  generalize ((w.alloc (.cells #[.int .i64 38, .int .i64 d.pz, v2, v3, v4, v5, v6, v7, .int .i64 d.ct, v9, v10, v11, v12, .slice TA tn tc, .slice IA d.ns.length ic, v15, v16, v17] 34)).alloc (.cells #[.int .i64 0, .int .i64 0, .int .i64 0] 215)) = w0 at *
  have hws := HH.out.2.1.size
  have hql := HH.out.2.2.2.1.lt
  have c1 : w0.cell? ⟨g, 1, none⟩ = some (.int .i64 n) := by rw [← HH.out.2.2.2.2.2.2.2.1]; exact (HH.out.1.1.cell 1).trans rfl
  have f1 : w0.frozen? ⟨g, 1, none⟩ = false := HH.out.1.1.frozen 1
  have p0 : w0.cell? ⟨w.heap.size, 0, none⟩ = some (.int .i64 38) := (HH.out.2.2.1.cell 0).trans rfl
  have c6 : w0.cell? ⟨g, 6, none⟩ = some (.bool s.con) := (HH.out.1.1.cell 6).trans rfl
  have f6 : w0.frozen? ⟨g, 6, none⟩ = false := HH.out.1.1.frozen 6
  have c7 : w0.cell? ⟨g, 7, none⟩ = some (.int .i64 s.cfrom) := (HH.out.1.1.cell 7).trans rfl
  have f7 : w0.frozen? ⟨g, 7, none⟩ = false := HH.out.1.1.frozen 7
  have c8 : w0.cell? ⟨g, 8, none⟩ = some (.int .i64 s.cnext) := (HH.out.1.1.cell 8).trans rfl
  have f8 : w0.frozen? ⟨g, 8, none⟩ = false := HH.out.1.1.frozen 8
  have p13 : w0.cell? ⟨w.heap.size, 13, none⟩ = some (.slice TA tn tc) := (HH.out.2.2.1.cell 13).trans rfl
  have htl : d.ts.length = tn := reads_len (HH.out.2.2.2.2.2.2.2.2.2.reads (B := w.heap.size) (fun b h => h.2.2))
  have HTL := Lib.hid htl
  have htn60 : tn ≤ 300 := by have := HH.out.2.2.2.2.2.2.2.2.1.1; omega
  clear htl
  cases hsc : s.con with
  | true =>
    have HSC := Lib.hid hsc
    rw [hsc] at c6
    clear hsc
    have HZ := Lib.hid (And.intro HH.out.1 (And.intro (Mv.of_below HH.out.2.1 : Mv w w0 g mb) HH.out.2.2.2.1))
    clear c7 f7 c8 f8
    clear p13
    have hfl := fault_any w0 g mb LA ln lc bs s 6 HZ.out.1
    go_wp2_with fail
    refine hfl.mono ?_
    rintro x w8 ⟨rfl, hW8, hM8⟩
    clear hfl
    have hQ8 : Blk w8 (w.heap.size + 1) 215 #[.int .i64 0, .int .i64 0, .int .i64 0] := (hM8.block _ HZ.out.2.2.lt (by omega) (by omega)).trans HZ.out.2.2
    have H8 := Lib.hid (And.intro hW8 (HZ.out.2.1.trans hM8))
    clear hW8 hM8
    go_wp2_with (first
      | (refine wpList_store_box rfl 215 _ _ rfl (w.heap.size + 1) #[.int .i64 4, .int .i64 s.at_, .int .i64 6] rfl rfl 215 #[.int .i64 0, .int .i64 0, .int .i64 0] hQ8 stepInfo rfl (by simp [Value.oneCell']) ?_)
      | fail)
    intro w9 hB9 hg9
    have H9 := Lib.hid hg9
    clear hg9 hQ8
    go_wp2_with fail
    refine bodyPost_ret (results_cell_tmp9 rfl _ _ (w.heap.size + 1) 215 _ (0, 0) _ rfl hB9 Tryz.underlying215 rfl stepInfo) rfl ?_
    obtain ⟨q1, q2⟩ := lead_fin HH.out.2.2.2.2.1 H8.out.1 H8.out.2 H9.out
    have hle : leadE bs s = 6 := by unfold leadE; rw [← HH.out.2.2.2.2.2.2.1, if_neg (by rw [HI.out]; decide), if_neg (by rw [HI.out]; decide), if_pos HI.out, if_pos HSC.out]
    exact ⟨q2, .inr ⟨by rw [hle]; decide, by rw [hle] <;> rfl, by rw [hle]; exact q1⟩⟩
  | false =>
    have HSC := Lib.hid hsc
    rw [hsc] at c6
    clear hsc
    by_cases hts : 0 < tn
    · have hti : (0 : Int) < (tn : Int) := by omega
      obtain ⟨tad, rfl, htb, hx⟩ := i32_at (HH.out.2.2.2.2.2.2.2.2.2.reads (B := w.heap.size) (fun b h => h.2.2)) hts
      have hgt : tad.block ≠ g := by
        obtain ⟨t9, e9, hp9, _⟩ := HH.out.2.2.2.2.2.2.2.2.2.2 (by omega)
        injection e9 with e9
        subst e9
        exact hp9.1
      have hx0 := HH.out.2.2.2.2.2.2.2.2.1.2.2.1 (.inr HI.out) (d.ts.getD 0 0) (getD_mem (by rw [HTL.out]; exact hts))
      obtain ⟨x, hxd⟩ : ∃ x : Int, x = d.ts.getD 0 0 := ⟨_, rfl⟩
      rw [← hxd] at hx hx0
      have HXD := Lib.hid hxd
      clear hxd
      rw [show tad.add 0 = tad from rfl] at hx
      have hxw : w0.cell? tad = some (.int .i64 x) := (HH.out.2.1.cell (p := tad) (by omega)).trans hx
      have hwx : IntKind.i64.wrap ((n : Int) + x) = (n : Int) + x := by rw [IntKind.wrap_i64]; have := HN.out; omega
      go_upto_region 23 with fail
      have hne0 : tad ≠ ⟨g, 6, none⟩ := fun e => hgt (by rw [e])
      have hne1 : tad ≠ ⟨g, 7, none⟩ := fun e => hgt (by rw [e])
      have hne2 : tad ≠ ⟨g, 8, none⟩ := fun e => hgt (by rw [e])
      have q1 : (((w0.setCell ⟨g, 6, none⟩ (.bool true)).setCell ⟨g, 7, none⟩ (.int .i64 n)).setCell ⟨g, 8, none⟩ (.int .i64 1)).cell? tad = some (.int .i64 x) := (World.cell?_of_block (a := tad) ((Below.heap_setCell _ _ _ _ (by show tad.block ≠ g; exact hgt)).trans ((Below.heap_setCell _ _ _ _ (by show tad.block ≠ g; exact hgt)).trans (Below.heap_setCell _ _ _ _ (by show tad.block ≠ g; exact hgt))))).trans hxw
      have HZ := Lib.hid (show WalkAt (((w0.setCell ⟨g, 6, none⟩ (.bool true)).setCell ⟨g, 7, none⟩ (.int .i64 n)).setCell ⟨g, 8, none⟩ (.int .i64 1)) g mb LA ln lc bs { s with con := true, cfrom := (n : Int), cnext := 1 } ∧ Mv w (((w0.setCell ⟨g, 6, none⟩ (.bool true)).setCell ⟨g, 7, none⟩ (.int .i64 n)).setCell ⟨g, 8, none⟩ (.int .i64 1)) g mb ∧ Blk (((w0.setCell ⟨g, 6, none⟩ (.bool true)).setCell ⟨g, 7, none⟩ (.int .i64 n)).setCell ⟨g, 8, none⟩ (.int .i64 1)) (w.heap.size + 1) 215 #[.int .i64 0, .int .i64 0, .int .i64 0] from ⟨((HH.out.1.set_ (s' := { s with con := true }) _ rfl rfl).set_ (s' := { s with con := true, cfrom := (n : Int) }) _ rfl rfl).set_ _ rfl rfl, (((Mv.of_below HH.out.2.1 : Mv w w0 g mb).set_ _).set_ _).set_ _, ((HH.out.2.2.2.1.far (by show w.heap.size + 1 ≠ g; omega) _).far (by show w.heap.size + 1 ≠ g; omega) _).far (by show w.heap.size + 1 ≠ g; omega) _⟩)
      have q2 : (((w0.setCell ⟨g, 6, none⟩ (.bool true)).setCell ⟨g, 7, none⟩ (.int .i64 n)).setCell ⟨g, 8, none⟩ (.int .i64 1)).cell? ⟨w.heap.size, 13, none⟩ = some (.slice (some tad) tn tc) := (((HH.out.2.2.1.far (by show w.heap.size ≠ g; omega) _).far (by show w.heap.size ≠ g; omega) _).far (by show w.heap.size ≠ g; omega) _).cell 13 |>.trans rfl
      have q3 : (((w0.setCell ⟨g, 6, none⟩ (.bool true)).setCell ⟨g, 7, none⟩ (.int .i64 n)).setCell ⟨g, 8, none⟩ (.int .i64 1)).cell? ⟨g, 1, none⟩ = some (.int .i64 n) := (HZ.out.1.1.cell 1).trans (by show some (Value.int .i64 s.at_) = some (Value.int .i64 (n : Int)); rw [HH.out.2.2.2.2.2.2.2.1])
      clear c1 f1 p13 hxw hx hne0 hne1 hne2
      clear c6 f6 c7 f7 c8 f8
      generalize ((w0.setCell ⟨g, 6, none⟩ (.bool true)).setCell ⟨g, 7, none⟩ (.int .i64 n)).setCell ⟨g, 8, none⟩ (.int .i64 1) = wz at *
      go_quiet (fail)
      have HZ2 := Lib.hid (show WalkAt (wz.drewN nq) g mb LA ln lc bs { s with con := true, cfrom := (n : Int), cnext := 1 } ∧ Mv w (wz.drewN nq) g mb ∧ Blk (wz.drewN nq) (w.heap.size + 1) 215 #[.int .i64 0, .int .i64 0, .int .i64 0] from ⟨HZ.out.1.drewN nq, HZ.out.2.1.trans ⟨rfl, rfl, rfl, Nat.le_refl _, fun _ _ _ _ => rfl⟩, HZ.out.2.2⟩)
      clear HZ q1 q2 q3
      have HZ := HZ2
      clear HZ2
      generalize wz.drewN nq = wz2 at *
      have hwz := HZ.out.1.1.lt
      have d1 : wz2.cell? ⟨g, 1, none⟩ = some (.int .i64 n) := (HZ.out.1.1.cell 1).trans (by show some (Value.int .i64 s.at_) = some (Value.int .i64 (n : Int)); rw [HH.out.2.2.2.2.2.2.2.1])
      have e1 : wz2.frozen? ⟨g, 1, none⟩ = false := HZ.out.1.1.frozen 1
      go_upto_region 29 with fail
      have HY := Lib.hid (show WalkAt (wz2.setCell ⟨g, 1, none⟩ (.int .i64 ((n : Int) + x))) g mb LA ln lc bs { s with con := true, cfrom := (n : Int), cnext := 1, at_ := (n : Int) + x } ∧ Mv w (wz2.setCell ⟨g, 1, none⟩ (.int .i64 ((n : Int) + x))) g mb ∧ Blk (wz2.setCell ⟨g, 1, none⟩ (.int .i64 ((n : Int) + x))) (w.heap.size + 1) 215 #[.int .i64 0, .int .i64 0, .int .i64 0] from ⟨HZ.out.1.set_ _ rfl rfl, HZ.out.2.1.set_ _, HZ.out.2.2.far (by show w.heap.size + 1 ≠ g; omega) _⟩)
      clear d1 e1
      generalize wz2.setCell ⟨g, 1, none⟩ (.int .i64 ((n : Int) + x)) = wy at *
      have hQy := HY.out.2.2
      go_wp2_with (first
        | (refine wpList_store_box rfl 215 _ _ rfl (w.heap.size + 1) #[.int .i64 0, .int .i64 0, .int .i64 0] rfl rfl 215 #[.int .i64 0, .int .i64 0, .int .i64 0] hQy stepInfo rfl (by simp [Value.oneCell']) ?_)
        | fail)
      intro w9 hB9 hg9
      have H9 := Lib.hid hg9
      clear hg9 hQy
      go_wp2_with fail
      refine bodyPost_ret (results_cell_tmp9 rfl _ _ (w.heap.size + 1) 215 _ (0, 0) _ rfl hB9 Tryz.underlying215 rfl stepInfo) rfl ?_
      obtain ⟨q1, q2⟩ := lead_fin HH.out.2.2.2.2.1 HY.out.1 HY.out.2.1 H9.out
      refine ⟨q2, .inl ⟨by unfold leadE; rw [← HH.out.2.2.2.2.2.2.1, if_neg (by rw [HI.out]; decide), if_neg (by rw [HI.out]; decide), if_pos HI.out, if_neg (by rw [HSC.out]; decide)], rfl, ?_⟩⟩
      rw [show leadS bs s = { s with con := true, cfrom := (n : Int), cnext := 1, at_ := (n : Int) + x } from by unfold leadS; rw [← HH.out.2.2.2.2.2.2.1, if_neg (by rw [HI.out]; decide), if_neg (by rw [HI.out]; decide), if_neg (by rw [HI.out]; decide), if_pos HI.out, if_pos (by rw [HTL.out]; omega), ← HXD.out, HH.out.2.2.2.2.2.2.2.1]]
      exact q1
    · have hti : ¬ (0 : Int) < (tn : Int) := by omega
      have HZ := Lib.hid (And.intro HH.out.1 (And.intro (Mv.of_below HH.out.2.1 : Mv w w0 g mb) HH.out.2.2.2.1))
      go_upto_region 28 with fail
      clear c1 f1 p13
      clear c6 f6 c7 f7 c8 f8
      have hwz := HZ.out.1.1.lt
      have d1 : w0.cell? ⟨g, 1, none⟩ = some (.int .i64 n) := (HZ.out.1.1.cell 1).trans (by show some (Value.int .i64 s.at_) = some (Value.int .i64 (n : Int)); rw [HH.out.2.2.2.2.2.2.2.1])
      have e1 : w0.frozen? ⟨g, 1, none⟩ = false := HZ.out.1.1.frozen 1
      go_upto_region 29 with fail
      have HY := Lib.hid (show WalkAt (w0.setCell ⟨g, 1, none⟩ (.int .i64 ((n : Int) + 1))) g mb LA ln lc bs { s with at_ := (n : Int) + 1 } ∧ Mv w (w0.setCell ⟨g, 1, none⟩ (.int .i64 ((n : Int) + 1))) g mb ∧ Blk (w0.setCell ⟨g, 1, none⟩ (.int .i64 ((n : Int) + 1))) (w.heap.size + 1) 215 #[.int .i64 0, .int .i64 0, .int .i64 0] from ⟨HZ.out.1.set_ _ rfl rfl, HZ.out.2.1.set_ _, HZ.out.2.2.far (by show w.heap.size + 1 ≠ g; omega) _⟩)
      clear d1 e1
      generalize w0.setCell ⟨g, 1, none⟩ (.int .i64 ((n : Int) + 1)) = wy at *
      have hQy := HY.out.2.2
      go_wp2_with (first
        | (refine wpList_store_box rfl 215 _ _ rfl (w.heap.size + 1) #[.int .i64 0, .int .i64 0, .int .i64 0] rfl rfl 215 #[.int .i64 0, .int .i64 0, .int .i64 0] hQy stepInfo rfl (by simp [Value.oneCell']) ?_)
        | fail)
      intro w9 hB9 hg9
      have H9 := Lib.hid hg9
      clear hg9 hQy
      go_wp2_with fail
      refine bodyPost_ret (results_cell_tmp9 rfl _ _ (w.heap.size + 1) 215 _ (0, 0) _ rfl hB9 Tryz.underlying215 rfl stepInfo) rfl ?_
      obtain ⟨q1, q2⟩ := lead_fin HH.out.2.2.2.2.1 HY.out.1 HY.out.2.1 H9.out
      refine ⟨q2, .inl ⟨by unfold leadE; rw [← HH.out.2.2.2.2.2.2.1, if_neg (by rw [HI.out]; decide), if_neg (by rw [HI.out]; decide), if_pos HI.out, if_neg (by rw [HSC.out]; decide)], rfl, ?_⟩⟩
      rw [show leadS bs s = { s with at_ := (n : Int) + 1 } from by unfold leadS; rw [← HH.out.2.2.2.2.2.2.1, if_neg (by rw [HI.out]; decide), if_neg (by rw [HI.out]; decide), if_neg (by rw [HI.out]; decide), if_pos HI.out, if_neg (by rw [HTL.out]; omega), HH.out.2.2.2.2.2.2.2.1]]
      exact q1
set_option maxRecDepth 100000 in
set_option maxHeartbeats 8000000 in
theorem lead39_any (w : World) (g mb : Nat) (LA : Option Addr) (ln lc : Nat) (bs : List WB) (s : WS) (d : WB) (v2 v3 v4 v5 v6 v7 v9 v10 v11 v12 : Value) (TA : Option Addr) (tn tc : Nat) (IA : Option Addr) (ic : Nat) (v15 v16 v17 : Value) (h : WalkAt w g mb LA ln lc bs s) (hok : s.ok bs) (hf : Fine bs) (hln : bs.length = ln) (hlt : s.at_ < ln) (hd : d = atB bs s.at_) (hid : d.id = 39) (hfw : Fine bs) (hT : RdP w (fun b => b ≠ g ∧ b ≠ mb ∧ b < w.heap.size) 1 TA tn (d.ts.map (Value.int .i64))) :
    Calls Tryz.prog 199 #[.pointer (some ⟨g, 0, none⟩), .agg #[.int .i64 d.id, .int .i64 d.pz, v2, v3, v4, v5, v6, v7, .int .i64 d.ct, v9, v10, v11, v12, .slice TA tn tc, .slice IA d.ns.length ic, v15, v16, v17]] w fun x w' => LeadO w w' x g mb LA ln lc bs s := by
  rw [hid]
  have HI := Lib.hid hid
  clear hid
  obtain ⟨n, hn⟩ : ∃ n : Nat, s.at_ = (n : Int) := ⟨s.at_.toNat, by have := hok.1; omega⟩
  have hnl : n < ln := by omega
  have hl60 : ln ≤ 300 := by have := hf.1; omega
  have hdn : d = bs.getD n default := by rw [hd, hn]; rfl
  have hfn := hf.2 n (by omega)
  rw [← hdn] at hfn
  have hwn : IntKind.i64.wrap ((n : Int) + 1) = (n : Int) + 1 := by rw [IntKind.wrap_i64]; omega
  have hn0 : (0 : Int) ≤ (n : Int) := Int.natCast_nonneg _
  have hb2 : Below w.heap.size w ((w.alloc (.cells #[.int .i64 39, .int .i64 d.pz, v2, v3, v4, v5, v6, v7, .int .i64 d.ct, v9, v10, v11, v12, .slice TA tn tc, .slice IA d.ns.length ic, v15, v16, v17] 34)).alloc (.cells #[.int .i64 0, .int .i64 0, .int .i64 0] 215)) := ((Below.refl _ _).alloc (Nat.le_refl _) _).alloc (by simp) _
  have hP : Blk ((w.alloc (.cells #[.int .i64 39, .int .i64 d.pz, v2, v3, v4, v5, v6, v7, .int .i64 d.ct, v9, v10, v11, v12, .slice TA tn tc, .slice IA d.ns.length ic, v15, v16, v17] 34)).alloc (.cells #[.int .i64 0, .int .i64 0, .int .i64 0] 215)) w.heap.size 34 #[.int .i64 39, .int .i64 d.pz, v2, v3, v4, v5, v6, v7, .int .i64 d.ct, v9, v10, v11, v12, .slice TA tn tc, .slice IA d.ns.length ic, v15, v16, v17] := (Blk.new w _ _).alloc _
  have hQ : Blk ((w.alloc (.cells #[.int .i64 39, .int .i64 d.pz, v2, v3, v4, v5, v6, v7, .int .i64 d.ct, v9, v10, v11, v12, .slice TA tn tc, .slice IA d.ns.length ic, v15, v16, v17] 34)).alloc (.cells #[.int .i64 0, .int .i64 0, .int .i64 0] 215)) (w.heap.size + 1) 215 #[.int .i64 0, .int .i64 0, .int .i64 0] := by
    have := Blk.new (w.alloc (.cells #[.int .i64 39, .int .i64 d.pz, v2, v3, v4, v5, v6, v7, .int .i64 d.ct, v9, v10, v11, v12, .slice TA tn tc, .slice IA d.ns.length ic, v15, v16, v17] 34)) 215 #[.int .i64 0, .int .i64 0, .int .i64 0]
    simpa using this
  have hgl := h.1.lt
  have hml := h.2.1.lt
  have hne := h.2.1.ne h.1
  have HH := Lib.hid (And.intro (h.below hb2) (And.intro hb2 (And.intro hP (And.intro hQ (And.intro h (And.intro hok (And.intro hd (And.intro hn (And.intro hfn hT)))))))))
  have HN := Lib.hid hln
  clear h hb2 hP hQ hok hf hln hlt hd hn hdn hfn hT
  go_enter Tryz.func199, Tryz.ntmps199
  go_upto_region 1 with fail
  generalize ((w.alloc (.cells #[.int .i64 39, .int .i64 d.pz, v2, v3, v4, v5, v6, v7, .int .i64 d.ct, v9, v10, v11, v12, .slice TA tn tc, .slice IA d.ns.length ic, v15, v16, v17] 34)).alloc (.cells #[.int .i64 0, .int .i64 0, .int .i64 0] 215)) = w0 at *
  have hws := HH.out.2.1.size
  have hql := HH.out.2.2.2.1.lt
  have c1 : w0.cell? ⟨g, 1, none⟩ = some (.int .i64 n) := by rw [← HH.out.2.2.2.2.2.2.2.1]; exact (HH.out.1.1.cell 1).trans rfl
  have f1 : w0.frozen? ⟨g, 1, none⟩ = false := HH.out.1.1.frozen 1
  have p0 : w0.cell? ⟨w.heap.size, 0, none⟩ = some (.int .i64 39) := (HH.out.2.2.1.cell 0).trans rfl
  have c6 : w0.cell? ⟨g, 6, none⟩ = some (.bool s.con) := (HH.out.1.1.cell 6).trans rfl
  have f6 : w0.frozen? ⟨g, 6, none⟩ = false := HH.out.1.1.frozen 6
  cases hsc : s.con with
  | false =>
    have HSC := Lib.hid hsc
    rw [hsc] at c6
    clear hsc
    have HZ := Lib.hid (And.intro HH.out.1 (And.intro (Mv.of_below HH.out.2.1 : Mv w w0 g mb) HH.out.2.2.2.1))
    have hfl := fault_any w0 g mb LA ln lc bs s 9 HZ.out.1
    go_wp2_with fail
    refine hfl.mono ?_
    rintro x w8 ⟨rfl, hW8, hM8⟩
    clear hfl
    have hQ8 : Blk w8 (w.heap.size + 1) 215 #[.int .i64 0, .int .i64 0, .int .i64 0] := (hM8.block _ HZ.out.2.2.lt (by omega) (by omega)).trans HZ.out.2.2
    have H8 := Lib.hid (And.intro hW8 (HZ.out.2.1.trans hM8))
    clear hW8 hM8
    go_wp2_with (first
      | (refine wpList_store_box rfl 215 _ _ rfl (w.heap.size + 1) #[.int .i64 4, .int .i64 s.at_, .int .i64 9] rfl rfl 215 #[.int .i64 0, .int .i64 0, .int .i64 0] hQ8 stepInfo rfl (by simp [Value.oneCell']) ?_)
      | fail)
    intro w9 hB9 hg9
    have H9 := Lib.hid hg9
    clear hg9 hQ8
    go_wp2_with fail
    refine bodyPost_ret (results_cell_tmp9 rfl _ _ (w.heap.size + 1) 215 _ (0, 0) _ rfl hB9 Tryz.underlying215 rfl stepInfo) rfl ?_
    obtain ⟨q1, q2⟩ := lead_fin HH.out.2.2.2.2.1 H8.out.1 H8.out.2 H9.out
    have hle : leadE bs s = 9 := by unfold leadE; rw [← HH.out.2.2.2.2.2.2.1, if_neg (by rw [HI.out]; decide), if_neg (by rw [HI.out]; decide), if_neg (by rw [HI.out]; decide), if_pos HI.out, if_pos HSC.out]
    exact ⟨q2, .inr ⟨by rw [hle]; decide, by rw [hle] <;> rfl, by rw [hle]; exact q1⟩⟩
  | true =>
    obtain ⟨_, _, _, hcn, _⟩ := HH.out.2.2.2.2.2.1
    obtain ⟨k0, k1, k2, k3, k4⟩ := hcn hsc
    obtain ⟨m, hm⟩ : ∃ m : Nat, s.cfrom = (m : Int) := ⟨s.cfrom.toNat, by omega⟩
    obtain ⟨u1, _, u3, _⟩ := hfw.2 m (by omega)
    have hat : atB bs s.cfrom = bs.getD m default := by rw [hm]; rfl
    have hl9 := HN.out
    have hre := returned_any w0 g mb LA ln lc bs s HH.out.1 hsc k0 (by omega) k2 (fun q hq => by rw [hat] at hq k4; have := u3 (.inr k4) q hq; omega) hl60 (by rw [hat]; exact u1)
    have HSC := Lib.hid hsc
    rw [hsc] at c6
    clear hsc hcn k0 k1 k2 k3 k4 hm u1 u3 hat hl9 hfw
    go_wp2_with fail
    refine hre.mono ?_
    rintro x w8 ⟨rfl, hW8, hM8⟩
    clear hre c6 f6 c1 f1
    have HZ := Lib.hid (show WalkAt w8 g mb LA ln lc bs (retS bs s) ∧ Mv w w8 g mb ∧ Blk w8 (w.heap.size + 1) 215 #[.int .i64 0, .int .i64 0, .int .i64 0] from ⟨hW8, (Mv.of_below HH.out.2.1 : Mv w w0 g mb).trans hM8, (hM8.block _ hql (by omega) (by omega)).trans HH.out.2.2.2.1⟩)
    clear hW8 hM8
    have hwz := HZ.out.1.1.lt
    have d1 : w8.cell? ⟨g, 1, none⟩ = some (.int .i64 (retS bs s).at_) := (HZ.out.1.1.cell 1).trans rfl
    have e1 : w8.frozen? ⟨g, 1, none⟩ = false := HZ.out.1.1.frozen 1
    go_upto_region 29 with fail
    have HY := Lib.hid (show WalkAt (w8.setCell ⟨g, 1, none⟩ (.int .i64 (retT bs s))) g mb LA ln lc bs { retS bs s with at_ := retT bs s } ∧ Mv w (w8.setCell ⟨g, 1, none⟩ (.int .i64 (retT bs s))) g mb ∧ Blk (w8.setCell ⟨g, 1, none⟩ (.int .i64 (retT bs s))) (w.heap.size + 1) 215 #[.int .i64 0, .int .i64 0, .int .i64 0] from ⟨HZ.out.1.set_ _ rfl rfl, HZ.out.2.1.set_ _, HZ.out.2.2.far (by show w.heap.size + 1 ≠ g; omega) _⟩)
    clear d1 e1
    generalize w8.setCell ⟨g, 1, none⟩ (.int .i64 (retT bs s)) = wy at *
    have hQy := HY.out.2.2
    go_wp2_with (first
      | (refine wpList_store_box rfl 215 _ _ rfl (w.heap.size + 1) #[.int .i64 0, .int .i64 0, .int .i64 0] rfl rfl 215 #[.int .i64 0, .int .i64 0, .int .i64 0] hQy stepInfo rfl (by simp [Value.oneCell']) ?_)
      | fail)
    intro w9 hB9 hg9
    have H9 := Lib.hid hg9
    clear hg9 hQy
    go_wp2_with fail
    refine bodyPost_ret (results_cell_tmp9 rfl _ _ (w.heap.size + 1) 215 _ (0, 0) _ rfl hB9 Tryz.underlying215 rfl stepInfo) rfl ?_
    obtain ⟨q1, q2⟩ := lead_fin HH.out.2.2.2.2.1 HY.out.1 HY.out.2.1 H9.out
    refine ⟨q2, .inl ⟨by unfold leadE; rw [← HH.out.2.2.2.2.2.2.1, if_neg (by rw [HI.out]; decide), if_neg (by rw [HI.out]; decide), if_neg (by rw [HI.out]; decide), if_pos HI.out, if_neg (by rw [HSC.out]; decide)], rfl, ?_⟩⟩
    rw [show leadS bs s = { retS bs s with at_ := retT bs s } from by unfold leadS retS retT; rw [← HH.out.2.2.2.2.2.2.1, if_neg (by rw [HI.out]; decide), if_neg (by rw [HI.out]; decide), if_neg (by rw [HI.out]; decide), if_neg (by rw [HI.out]; decide), if_pos HI.out]; split <;> rfl]
    exact q1
end Go.Proofs.YtnlaedfnifimkaaGreat
namespace Go.Proofs.YtnlaedfnifimkaaGreat
open Go.RowKit
theorem WalkAt.upd {w w2 : World} {g mb : Nat} {LA : Option Addr} {ln lc : Nat} {bs : List WB} {s : WS} {tk' : List Int} (h : WalkAt w g mb LA ln lc bs s) (hg : w.grownBy w2 (some mb)) (hT : TkAt w2 mb tk') : WalkAt w2 g mb LA ln lc bs { s with tk := tk' } ∧ Mv w w2 g mb := by
  have hM : Mv w w2 g mb := Mv.of_grown hg (.inr rfl)
  have hne := h.2.1.ne h.1
  have hs := hM.size
  exact ⟨⟨h.1.grown hg (fun e => by injection e with e; exact hne e.symm), hT, h.2.2.keep (fun b hp => hM.block b hp.2.2 hp.1 hp.2.1) (fun b hp => ⟨hp.1, hp.2.1, by have := hp.2.2; omega⟩)⟩, hM⟩
theorem TkAt.lookupN {w : World} {b : Nat} {tk : List Int} (h : TkAt w b tk) {n : Nat} (hn : n ≤ 1000) (k : Nat) : (Instr.lookup 209 (.map (some b)) (.int .i64 (n : Int)) false).run Tryz.prog (w.drewN k) = .ok (.bool (decide ((n : Int) ∈ tk))) (w.drewN k) := (h.kept (w' := w.drewN k) rfl).lookup (wf_small hn)
set_option maxRecDepth 100000 in
set_option maxHeartbeats 8000000 in
theorem lead35_any (w : World) (g mb : Nat) (LA : Option Addr) (ln lc : Nat) (bs : List WB) (s : WS) (d : WB) (v2 v3 v4 v5 v6 v7 v9 v10 v11 v12 : Value) (TA : Option Addr) (tn tc : Nat) (IA : Option Addr) (ic : Nat) (v15 v16 v17 : Value) (h : WalkAt w g mb LA ln lc bs s) (hok : s.ok bs) (hf : Fine bs) (hln : bs.length = ln) (hlt : s.at_ < ln) (hd : d = atB bs s.at_) (hid : d.id = 35) (hT : RdP w (fun b => b ≠ g ∧ b ≠ mb ∧ b < w.heap.size) 1 TA tn (d.ts.map (Value.int .i64))) :
    Calls Tryz.prog 199 #[.pointer (some ⟨g, 0, none⟩), .agg #[.int .i64 d.id, .int .i64 d.pz, v2, v3, v4, v5, v6, v7, .int .i64 d.ct, v9, v10, v11, v12, .slice TA tn tc, .slice IA d.ns.length ic, v15, v16, v17]] w fun x w' => LeadO w w' x g mb LA ln lc bs s := by
  rw [hid]
  have HI := Lib.hid hid
  clear hid
  obtain ⟨n, hn⟩ : ∃ n : Nat, s.at_ = (n : Int) := ⟨s.at_.toNat, by have := hok.1; omega⟩
  have hnl : n < ln := by omega
  have hl60 : ln ≤ 300 := by have := hf.1; omega
  have hdn : d = bs.getD n default := by rw [hd, hn]; rfl
  have hfn := hf.2 n (by omega)
  rw [← hdn] at hfn
  have hwn : IntKind.i64.wrap ((n : Int) + 1) = (n : Int) + 1 := by rw [IntKind.wrap_i64]; omega
  have hn0 : (0 : Int) ≤ (n : Int) := Int.natCast_nonneg _
  have hb2 : Below w.heap.size w ((w.alloc (.cells #[.int .i64 35, .int .i64 d.pz, v2, v3, v4, v5, v6, v7, .int .i64 d.ct, v9, v10, v11, v12, .slice TA tn tc, .slice IA d.ns.length ic, v15, v16, v17] 34)).alloc (.cells #[.int .i64 0, .int .i64 0, .int .i64 0] 215)) := ((Below.refl _ _).alloc (Nat.le_refl _) _).alloc (by simp) _
  have hP : Blk ((w.alloc (.cells #[.int .i64 35, .int .i64 d.pz, v2, v3, v4, v5, v6, v7, .int .i64 d.ct, v9, v10, v11, v12, .slice TA tn tc, .slice IA d.ns.length ic, v15, v16, v17] 34)).alloc (.cells #[.int .i64 0, .int .i64 0, .int .i64 0] 215)) w.heap.size 34 #[.int .i64 35, .int .i64 d.pz, v2, v3, v4, v5, v6, v7, .int .i64 d.ct, v9, v10, v11, v12, .slice TA tn tc, .slice IA d.ns.length ic, v15, v16, v17] := (Blk.new w _ _).alloc _
  have hQ : Blk ((w.alloc (.cells #[.int .i64 35, .int .i64 d.pz, v2, v3, v4, v5, v6, v7, .int .i64 d.ct, v9, v10, v11, v12, .slice TA tn tc, .slice IA d.ns.length ic, v15, v16, v17] 34)).alloc (.cells #[.int .i64 0, .int .i64 0, .int .i64 0] 215)) (w.heap.size + 1) 215 #[.int .i64 0, .int .i64 0, .int .i64 0] := by
    have := Blk.new (w.alloc (.cells #[.int .i64 35, .int .i64 d.pz, v2, v3, v4, v5, v6, v7, .int .i64 d.ct, v9, v10, v11, v12, .slice TA tn tc, .slice IA d.ns.length ic, v15, v16, v17] 34)) 215 #[.int .i64 0, .int .i64 0, .int .i64 0]
    simpa using this
  have hgl := h.1.lt
  have hml := h.2.1.lt
  have hne := h.2.1.ne h.1
  have HH := Lib.hid (And.intro (h.below hb2) (And.intro hb2 (And.intro hP (And.intro hQ (And.intro h (And.intro hok (And.intro hd (And.intro hn (And.intro hfn hT)))))))))
  have HN := Lib.hid hln
  clear h hb2 hP hQ hok hf hln hlt hd hn hdn hfn hT
  go_enter Tryz.func199, Tryz.ntmps199
  go_upto_region 1 with fail
  generalize ((w.alloc (.cells #[.int .i64 35, .int .i64 d.pz, v2, v3, v4, v5, v6, v7, .int .i64 d.ct, v9, v10, v11, v12, .slice TA tn tc, .slice IA d.ns.length ic, v15, v16, v17] 34)).alloc (.cells #[.int .i64 0, .int .i64 0, .int .i64 0] 215)) = w0 at *
  have hws := HH.out.2.1.size
  have hql := HH.out.2.2.2.1.lt
  have c1 : w0.cell? ⟨g, 1, none⟩ = some (.int .i64 n) := by rw [← HH.out.2.2.2.2.2.2.2.1]; exact (HH.out.1.1.cell 1).trans rfl
  have f1 : w0.frozen? ⟨g, 1, none⟩ = false := HH.out.1.1.frozen 1
  have p0 : w0.cell? ⟨w.heap.size, 0, none⟩ = some (.int .i64 35) := (HH.out.2.2.1.cell 0).trans rfl
  have p13 : w0.cell? ⟨w.heap.size, 13, none⟩ = some (.slice TA tn tc) := (HH.out.2.2.1.cell 13).trans rfl
  have htl : d.ts.length = tn := reads_len (HH.out.2.2.2.2.2.2.2.2.2.reads (B := w.heap.size) (fun b h => h.2.2))
  have HTL := Lib.hid htl
  have hts : 0 < tn := by have h9 := HH.out.2.2.2.2.2.2.2.2.1.2.1 HI.out; rw [← HTL.out]; exact List.length_pos_iff.2 h9
  have htn60 : tn ≤ 300 := by have := HH.out.2.2.2.2.2.2.2.2.1.1; omega
  clear htl
  have htk60 : s.tk.length < 1000 := by obtain ⟨_, _, _, _, _, _, h9⟩ := HH.out.2.2.2.2.2.1; have := HN.out; omega
  have c9 : w0.cell? ⟨g, 9, none⟩ = some (.map (some mb)) := (HH.out.1.1.cell 9).trans rfl
  have hlk := HH.out.1.2.1.lookupN (n := n) (by omega)
  have hlk0 := hlk 0
  have hlk1 := hlk 1
  by_cases hin : (n : Int) ∈ s.tk
  · have HIN := Lib.hid hin
    rw [decide_eq_true hin] at hlk0 hlk1
    simp only [decide_eq_true hin] at hlk
    clear hin
    go_upto_region 4 with fail
    go_quiet (fail)
    have HZ := Lib.hid (show WalkAt (w0.drewN nq) g mb LA ln lc bs s ∧ Mv w (w0.drewN nq) g mb ∧ Blk (w0.drewN nq) (w.heap.size + 1) 215 #[.int .i64 0, .int .i64 0, .int .i64 0] from ⟨HH.out.1.drewN nq, (Mv.of_below HH.out.2.1 : Mv w w0 g mb).trans ⟨rfl, rfl, rfl, Nat.le_refl _, fun _ _ _ _ => rfl⟩, HH.out.2.2.2.1⟩)
    clear hlk hlk0 hlk1 c1 f1 c9 p13 p0
    generalize w0.drewN nq = wz at *
    have hfl := fault_any wz g mb LA ln lc bs s 11 HZ.out.1
    go_wp2_with fail
    refine hfl.mono ?_
    rintro x w8 ⟨rfl, hW8, hM8⟩
    clear hfl
    have hQ8 : Blk w8 (w.heap.size + 1) 215 #[.int .i64 0, .int .i64 0, .int .i64 0] := (hM8.block _ HZ.out.2.2.lt (by omega) (by omega)).trans HZ.out.2.2
    have H8 := Lib.hid (And.intro hW8 (HZ.out.2.1.trans hM8))
    clear hW8 hM8
    go_wp2_with (first
      | (refine wpList_store_box rfl 215 _ _ rfl (w.heap.size + 1) #[.int .i64 4, .int .i64 s.at_, .int .i64 11] rfl rfl 215 #[.int .i64 0, .int .i64 0, .int .i64 0] hQ8 stepInfo rfl (by simp [Value.oneCell']) ?_)
      | fail)
    intro w9 hB9 hg9
    have H9 := Lib.hid hg9
    clear hg9 hQ8
    go_wp2_with fail
    refine bodyPost_ret (results_cell_tmp9 rfl _ _ (w.heap.size + 1) 215 _ (0, 0) _ rfl hB9 Tryz.underlying215 rfl stepInfo) rfl ?_
    obtain ⟨q1, q2⟩ := lead_fin HH.out.2.2.2.2.1 H8.out.1 H8.out.2 H9.out
    have hle : leadE bs s = 11 := by unfold leadE; rw [← HH.out.2.2.2.2.2.2.1, if_pos HI.out, if_pos (by rw [HH.out.2.2.2.2.2.2.2.1]; exact HIN.out)]
    exact ⟨q2, .inr ⟨by rw [hle]; decide, by rw [hle] <;> rfl, by rw [hle]; exact q1⟩⟩
  · have HIN := Lib.hid hin
    rw [decide_eq_false hin] at hlk0 hlk1
    simp only [decide_eq_false hin] at hlk
    clear hin
    go_upto_region 4 with fail
    go_quiet (fail)
    have HZ0 := Lib.hid (show WalkAt (w0.drewN nq) g mb LA ln lc bs s ∧ Mv w (w0.drewN nq) g mb ∧ Blk (w0.drewN nq) (w.heap.size + 1) 215 #[.int .i64 0, .int .i64 0, .int .i64 0] ∧ Blk (w0.drewN nq) w.heap.size 34 #[.int .i64 35, .int .i64 d.pz, v2, v3, v4, v5, v6, v7, .int .i64 d.ct, v9, v10, v11, v12, .slice TA tn tc, .slice IA d.ns.length ic, v15, v16, v17] ∧ Below w.heap.size w (w0.drewN nq) from ⟨HH.out.1.drewN nq, (Mv.of_below HH.out.2.1 : Mv w w0 g mb).trans ⟨rfl, rfl, rfl, Nat.le_refl _, fun _ _ _ _ => rfl⟩, HH.out.2.2.2.1, HH.out.2.2.1, ⟨HH.out.2.1.os, HH.out.2.1.tape, HH.out.2.1.output, HH.out.2.1.size, HH.out.2.1.block⟩⟩)
    clear hlk hlk0 hlk1 c1 f1 c9 p13 p0
    generalize w0.drewN nq = wz at *
    go_upto_region 6 with fail
    have c1 : wz.drew.cell? ⟨g, 1, none⟩ = some (.int .i64 n) := (HZ0.out.1.1.cell 1).trans (by show some (Value.int .i64 s.at_) = some (Value.int .i64 (n : Int)); rw [HH.out.2.2.2.2.2.2.2.1])
    have c9 : wz.drew.cell? ⟨g, 9, none⟩ = some (.map (some mb)) := (HZ0.out.1.1.cell 9).trans rfl
    refine wp_region_held_drew (S := fun w' => w'.cell? ⟨g, 1, none⟩ = some (.int .i64 n) ∧ w'.cell? ⟨g, 9, none⟩ = some (.map (some mb))) (by kernel_rfl) ?_ (fun hHeld => ?_)
    · exact ⟨c1, c9⟩
    have HZ1 := Lib.hid (show WalkAt wz.drew g mb LA ln lc bs s ∧ Mv w wz.drew g mb ∧ Blk wz.drew (w.heap.size + 1) 215 #[.int .i64 0, .int .i64 0, .int .i64 0] ∧ Blk wz.drew w.heap.size 34 #[.int .i64 35, .int .i64 d.pz, v2, v3, v4, v5, v6, v7, .int .i64 d.ct, v9, v10, v11, v12, .slice TA tn tc, .slice IA d.ns.length ic, v15, v16, v17] ∧ Below w.heap.size w wz.drew from ⟨HZ0.out.1.drewN 1, HZ0.out.2.1.trans ⟨rfl, rfl, rfl, Nat.le_refl _, fun _ _ _ _ => rfl⟩, HZ0.out.2.2.1, HZ0.out.2.2.2.1, HZ0.out.2.2.2.2.drew⟩)
    clear HZ0
    generalize wz.drew = W at *
    obtain ⟨w2, hrun, hT2, hg2⟩ := HZ1.out.1.2.1.update (x := (n : Int)) (wf_small (by omega)) htk60
    obtain ⟨hW2, hM2⟩ := HZ1.out.1.upd hg2 hT2
    have HZ2 := Lib.hid (show WalkAt w2 g mb LA ln lc bs { s with tk := (n : Int) :: s.tk } ∧ Mv w w2 g mb ∧ Blk w2 (w.heap.size + 1) 215 #[.int .i64 0, .int .i64 0, .int .i64 0] ∧ Blk w2 w.heap.size 34 #[.int .i64 35, .int .i64 d.pz, v2, v3, v4, v5, v6, v7, .int .i64 d.ct, v9, v10, v11, v12, .slice TA tn tc, .slice IA d.ns.length ic, v15, v16, v17] ∧ (∀ b, b < w.heap.size → b ≠ mb → w2.heap[b]? = w.heap[b]?) from ⟨hW2, HZ1.out.2.1.trans hM2, HZ1.out.2.2.1.grown hg2 (fun e => by injection e with e; omega), HZ1.out.2.2.2.1.grown hg2 (fun e => by injection e with e; omega), fun b hb h9 => (hg2.block b (by have := HZ1.out.2.2.2.2.size; omega) (fun e => by injection e with e; exact h9 e)).trans (HZ1.out.2.2.2.2.block b hb)⟩)
    have s1 : w2.cell? ⟨g, 1, none⟩ = some (.int .i64 n) := (hW2.1.cell 1).trans (by show some (Value.int .i64 s.at_) = some (Value.int .i64 (n : Int)); rw [HH.out.2.2.2.2.2.2.2.1])
    have s9 : w2.cell? ⟨g, 9, none⟩ = some (.map (some mb)) := (hW2.1.cell 9).trans rfl
    clear hT2 hg2 hW2 hM2
    refine wpAnyH_take (i := 0) (oi := _) (v := ?_) (by simp only [List.getElem?_toArray, List.getElem?_cons_succ, List.getElem?_cons_zero]; rfl) (by kernel_rfl) (by kernel_rfl) (by kernel_rfl) (by intro _ _ _ h; exact h) (Or.inl ⟨by rfl, ?_⟩) (by assumption) ?_
    rotate_left
    · intro w hSw
      try dsimp only at hSw
      obtain ⟨sa, sb⟩ := hSw
      go_simp
      try with_reducible rfl
    try simp only [Act.put, List.setIfInBounds_toArray, List.set_cons_zero, List.set_cons_succ]
    refine wpAnyH_take (i := 1) (oi := _) (v := ?_) (by simp only [List.getElem?_toArray, List.getElem?_cons_succ, List.getElem?_cons_zero]; rfl) (by kernel_rfl) (by kernel_rfl) (by kernel_rfl) (by intro _ _ _ h; exact h) (Or.inl ⟨by rfl, ?_⟩) (by assumption) ?_
    rotate_left
    · intro w hSw
      try dsimp only at hSw
      obtain ⟨sa, sb⟩ := hSw
      go_simp
      try with_reducible rfl
    try simp only [Act.put, List.setIfInBounds_toArray, List.set_cons_zero, List.set_cons_succ]
    refine wpAnyH_take (i := 2) (oi := _) (v := ?_) (by simp only [List.getElem?_toArray, List.getElem?_cons_succ, List.getElem?_cons_zero]; rfl) (by kernel_rfl) (by kernel_rfl) (by kernel_rfl) (by intro _ _ _ h; exact h) (Or.inl ⟨by rfl, ?_⟩) (by assumption) ?_
    rotate_left
    · intro w hSw
      try dsimp only at hSw
      obtain ⟨sa, sb⟩ := hSw
      go_simp
      try with_reducible rfl
    try simp only [Act.put, List.setIfInBounds_toArray, List.set_cons_zero, List.set_cons_succ]
    refine wpAnyH_take (i := 3) (oi := _) (v := ?_) (by simp only [List.getElem?_toArray, List.getElem?_cons_succ, List.getElem?_cons_zero]; rfl) (by kernel_rfl) (by kernel_rfl) (by kernel_rfl) (by intro _ _ _ h; exact h) (Or.inl ⟨by rfl, ?_⟩) (by assumption) ?_
    rotate_left
    · intro w hSw
      try dsimp only at hSw
      obtain ⟨sa, sb⟩ := hSw
      go_simp
      try with_reducible rfl
    try simp only [Act.put, List.setIfInBounds_toArray, List.set_cons_zero, List.set_cons_succ]
    refine wpAnyH_take (i := 4) (oi := _) (v := ?_) (by simp only [List.getElem?_toArray, List.getElem?_cons_succ, List.getElem?_cons_zero]; rfl) (by kernel_rfl) (by kernel_rfl) (by kernel_rfl) (by intro _ _ _ h; exact h) (Or.inl ⟨by rfl, ?_⟩) (by assumption) ?_
    rotate_left
    · intro w hSw
      try dsimp only at hSw
      obtain ⟨sa, sb⟩ := hSw
      go_simp
      try with_reducible rfl
    try simp only [Act.put, List.setIfInBounds_toArray, List.set_cons_zero, List.set_cons_succ]
    refine wpAnyH_take (i := 5) (oi := _) (v := ?_) (by simp only [List.getElem?_toArray, List.getElem?_cons_succ, List.getElem?_cons_zero]; rfl) (by kernel_rfl) (by kernel_rfl) (by kernel_rfl) (by intro _ _ _ h; exact h) (Or.inl ⟨by rfl, ?_⟩) (by assumption) ?_
    rotate_left
    · intro w hSw
      try dsimp only at hSw
      obtain ⟨sa, sb⟩ := hSw
      go_simp
      try with_reducible rfl
    try simp only [Act.put, List.setIfInBounds_toArray, List.set_cons_zero, List.set_cons_succ]
    refine wpAnyH_take (i := 6) (oi := _) (v := ?_) (by simp only [List.getElem?_toArray, List.getElem?_cons_succ, List.getElem?_cons_zero]; rfl) (by kernel_rfl) (by kernel_rfl) (by kernel_rfl) (by intro _ _ _ h; exact h) (Or.inl ⟨by rfl, ?_⟩) (by assumption) ?_
    rotate_left
    · intro w hSw
      try dsimp only at hSw
      obtain ⟨sa, sb⟩ := hSw
      go_simp
      try with_reducible rfl
    try simp only [Act.put, List.setIfInBounds_toArray, List.set_cons_zero, List.set_cons_succ]
    refine wpAnyH_take (i := 7) (oi := _) (v := ?_) (by simp only [List.getElem?_toArray, List.getElem?_cons_succ, List.getElem?_cons_zero]; rfl) (by kernel_rfl) (by kernel_rfl) (by kernel_rfl) (by intro _ _ _ h; exact h) (Or.inl ⟨by rfl, ?_⟩) (by assumption) ?_
    rotate_left
    · intro w hSw
      try dsimp only at hSw
      obtain ⟨sa, sb⟩ := hSw
      go_simp
      try with_reducible rfl
    try simp only [Act.put, List.setIfInBounds_toArray, List.set_cons_zero, List.set_cons_succ]
    refine wpAnyH_ready (rs := [8]) (by kernel_rfl) (by simp) ?_
    refine AllReadyH.cons (o := _) (by simp only [List.getElem?_toArray, List.getElem?_cons_succ, List.getElem?_cons_zero]; rfl) (fun K hK => ?_) AllReadyH.nil
    go_simp
    refine hK.out _ _ ?_ (fun hHeld => ?_)
    · exact ⟨s1, s9⟩
    clear hK K
    try simp only [Act.put, List.setIfInBounds_toArray, List.set_cons_zero, List.set_cons_succ]
    refine wpAnyH_done (by kernel_rfl) ?_ _
    clear hrun c1 c9 s9
    obtain ⟨tad, rfl, htb, hx⟩ := i32_at (HH.out.2.2.2.2.2.2.2.2.2.reads (B := w.heap.size) (fun b h => h.2.2)) hts
    have hgt : tad.block ≠ mb := by
      obtain ⟨t9, e9, hp9, _⟩ := HH.out.2.2.2.2.2.2.2.2.2.2 (by omega)
      injection e9 with e9
      subst e9
      exact hp9.2.1
    have hx0 := HH.out.2.2.2.2.2.2.2.2.1.2.2.1 (.inl HI.out) (d.ts.getD 0 0) (getD_mem (by rw [HTL.out]; exact hts))
    obtain ⟨x, hxd⟩ : ∃ x : Int, x = d.ts.getD 0 0 := ⟨_, rfl⟩
    rw [← hxd] at hx hx0
    have HXD := Lib.hid hxd
    clear hxd
    rw [show tad.add 0 = tad from rfl] at hx
    have hxw : w2.cell? tad = some (.int .i64 x) := (World.cell?_of_block (a := tad) (HZ2.out.2.2.2.2 tad.block htb hgt)).trans hx
    have hwx : IntKind.i64.wrap ((n : Int) + x) = (n : Int) + x := by rw [IntKind.wrap_i64]; have := HN.out; omega
    have q2 : w2.cell? ⟨w.heap.size, 13, none⟩ = some (.slice (some tad) tn tc) := (HZ2.out.2.2.2.1.cell 13).trans rfl
    have hti : (0 : Int) < (tn : Int) := by omega
    go_upto_region 7 with fail
    go_quiet (fail)
    have HZ := Lib.hid (show WalkAt (w2.drewN nq) g mb LA ln lc bs { s with tk := (n : Int) :: s.tk } ∧ Mv w (w2.drewN nq) g mb ∧ Blk (w2.drewN nq) (w.heap.size + 1) 215 #[.int .i64 0, .int .i64 0, .int .i64 0] from ⟨HZ2.out.1.drewN nq, HZ2.out.2.1.trans ⟨rfl, rfl, rfl, Nat.le_refl _, fun _ _ _ _ => rfl⟩, HZ2.out.2.2.1⟩)
    clear HZ2 q2 hxw hx s1
    generalize w2.drewN nq = wz2 at *
    have hwz := HZ.out.1.1.lt
    have d1 : wz2.cell? ⟨g, 1, none⟩ = some (.int .i64 n) := (HZ.out.1.1.cell 1).trans (by show some (Value.int .i64 s.at_) = some (Value.int .i64 (n : Int)); rw [HH.out.2.2.2.2.2.2.2.1])
    have e1 : wz2.frozen? ⟨g, 1, none⟩ = false := HZ.out.1.1.frozen 1
    go_upto_region 29 with fail
    have HY := Lib.hid (show WalkAt (wz2.setCell ⟨g, 1, none⟩ (.int .i64 ((n : Int) + x))) g mb LA ln lc bs { s with tk := (n : Int) :: s.tk, at_ := (n : Int) + x } ∧ Mv w (wz2.setCell ⟨g, 1, none⟩ (.int .i64 ((n : Int) + x))) g mb ∧ Blk (wz2.setCell ⟨g, 1, none⟩ (.int .i64 ((n : Int) + x))) (w.heap.size + 1) 215 #[.int .i64 0, .int .i64 0, .int .i64 0] from ⟨HZ.out.1.set_ _ rfl rfl, HZ.out.2.1.set_ _, HZ.out.2.2.far (by show w.heap.size + 1 ≠ g; omega) _⟩)
    clear d1 e1
    generalize wz2.setCell ⟨g, 1, none⟩ (.int .i64 ((n : Int) + x)) = wy at *
    have hQy := HY.out.2.2
    go_wp2_with (first
      | (refine wpList_store_box rfl 215 _ _ rfl (w.heap.size + 1) #[.int .i64 0, .int .i64 0, .int .i64 0] rfl rfl 215 #[.int .i64 0, .int .i64 0, .int .i64 0] hQy stepInfo rfl (by simp [Value.oneCell']) ?_)
      | fail)
    intro w9 hB9 hg9
    have H9 := Lib.hid hg9
    clear hg9 hQy
    go_wp2_with fail
    refine bodyPost_ret (results_cell_tmp9 rfl _ _ (w.heap.size + 1) 215 _ (0, 0) _ rfl hB9 Tryz.underlying215 rfl stepInfo) rfl ?_
    obtain ⟨q1, q2⟩ := lead_fin HH.out.2.2.2.2.1 HY.out.1 HY.out.2.1 H9.out
    refine ⟨q2, .inl ⟨by unfold leadE; rw [← HH.out.2.2.2.2.2.2.1, if_pos HI.out, if_neg (by rw [HH.out.2.2.2.2.2.2.2.1]; exact HIN.out)], rfl, ?_⟩⟩
    rw [show leadS bs s = { s with tk := (n : Int) :: s.tk, at_ := (n : Int) + x } from by unfold leadS; rw [← HH.out.2.2.2.2.2.2.1, if_pos HI.out, ← HXD.out, HH.out.2.2.2.2.2.2.2.1]]
    exact q1
end Go.Proofs.YtnlaedfnifimkaaGreat
namespace Go.Proofs.YtnlaedfnifimkaaGreat
open Go.RowKit
theorem leads_any (w : World) (g mb : Nat) (LA : Option Addr) (ln lc : Nat) (bs : List WB) (s : WS) (d : WB) (v2 v3 v4 v5 v6 v7 v9 v10 v11 v12 : Value) (TA : Option Addr) (tn tc : Nat) (IA : Option Addr) (ic : Nat) (v15 v16 v17 : Value) (h : WalkAt w g mb LA ln lc bs s) (hok : s.ok bs) (hf : Fine bs) (hln : bs.length = ln) (hlt : s.at_ < ln) (hd : d = atB bs s.at_) (hT : RdP w (fun b => b ≠ g ∧ b ≠ mb ∧ b < w.heap.size) 1 TA tn (d.ts.map (Value.int .i64))) :
    Calls Tryz.prog 199 #[.pointer (some ⟨g, 0, none⟩), .agg #[.int .i64 d.id, .int .i64 d.pz, v2, v3, v4, v5, v6, v7, .int .i64 d.ct, v9, v10, v11, v12, .slice TA tn tc, .slice IA d.ns.length ic, v15, v16, v17]] w fun x w' => LeadO w w' x g mb LA ln lc bs s := by
  by_cases h35 : d.id = 35
  · exact lead35_any w g mb LA ln lc bs s d v2 v3 v4 v5 v6 v7 v9 v10 v11 v12 TA tn tc IA ic v15 v16 v17 h hok hf hln hlt hd h35 hT
  · by_cases h36 : d.id = 36
    · exact lead36_any w g mb LA ln lc bs s d v2 v3 v4 v5 v6 v7 v9 v10 v11 v12 TA tn tc IA ic v15 v16 v17 h hok hf hln hlt hd h36 hT
    · by_cases h37 : d.id = 37
      · exact lead37_any w g mb LA ln lc bs s d v2 v3 v4 v5 v6 v7 v9 v10 v11 v12 TA tn tc IA ic v15 v16 v17 h hok hf hln hlt hd h37 hT
      · by_cases h38 : d.id = 38
        · exact lead38_any w g mb LA ln lc bs s d v2 v3 v4 v5 v6 v7 v9 v10 v11 v12 TA tn tc IA ic v15 v16 v17 h hok hf hln hlt hd h38 hT
        · by_cases h39 : d.id = 39
          · exact lead39_any w g mb LA ln lc bs s d v2 v3 v4 v5 v6 v7 v9 v10 v11 v12 TA tn tc IA ic v15 v16 v17 h hok hf hln hlt hd h39 hf hT
          · exact lead0_any w g mb LA ln lc bs s d v2 v3 v4 v5 v6 v7 v9 v10 v11 v12 TA tn tc IA ic v15 v16 v17 h hok hf hln hlt hd ⟨h35, h36, h37, h38, h39⟩ hT
def HereO (w w' : World) (x : Ending) (g mb : Nat) (LA : Option Addr) (ln lc : Nat) (bs : List WB) (s : WS) : Prop :=
  Mv w w' g mb ∧ ((toldK (atB bs s.at_) = 3 ∧ leadE bs s = 0 ∧ x = .returned (.tuple #[.agg #[.int .i64 0, .int .i64 0, .int .i64 0], .bool false]) ∧ WalkAt w' g mb LA ln lc bs (leadS bs s)) ∨
    (toldK (atB bs s.at_) = 3 ∧ leadE bs s ≠ 0 ∧ x = .returned (.tuple #[.agg #[.int .i64 4, .int .i64 s.at_, .int .i64 (leadE bs s)], .bool true]) ∧ WalkAt w' g mb LA ln lc bs (stayS s 4 s.at_ (leadE bs s))) ∨
    (toldK (atB bs s.at_) ≠ 3 ∧ x = .returned (.tuple #[.agg #[.int .i64 (toldK (atB bs s.at_)), .int .i64 s.at_, .int .i64 0], .bool true]) ∧ WalkAt w' g mb LA ln lc bs { s with at_ := s.at_ + 1 }))
set_option maxRecDepth 100000 in
set_option maxHeartbeats 8000000 in
theorem here32_any (w : World) (g mb : Nat) (LA : Option Addr) (ln lc : Nat) (bs : List WB) (s : WS) (d : WB) (v2 v3 v4 v5 v6 v7 v9 v10 v11 v12 : Value) (TA : Option Addr) (tn tc : Nat) (IA : Option Addr) (ic : Nat) (v15 v16 v17 : Value) (I pz : Int) (hI : I = d.id) (hpz : pz = d.pz) (h : WalkAt w g mb LA ln lc bs s) (hok : s.ok bs) (hf : Fine bs) (hln : bs.length = ln) (hlt : s.at_ < ln) (hd : d = atB bs s.at_) (hT : RdP w (fun b => b ≠ g ∧ b ≠ mb ∧ b < w.heap.size) 1 TA tn (d.ts.map (Value.int .i64))) (hA : I = 32 ∧ pz = 0) :
    Calls Tryz.prog 176 #[.pointer (some ⟨g, 0, none⟩), .agg #[.int .i64 I, .int .i64 pz, v2, v3, v4, v5, v6, v7, .int .i64 d.ct, v9, v10, v11, v12, .slice TA tn tc, .slice IA d.ns.length ic, v15, v16, v17]] w fun x w' => HereO w w' x g mb LA ln lc bs s := by
  obtain ⟨n, hn⟩ : ∃ n : Nat, s.at_ = (n : Int) := ⟨s.at_.toNat, by have := hok.1; omega⟩
  have hnl : n < ln := by omega
  have hl60 : ln ≤ 300 := by have := hf.1; omega
  have hwn : IntKind.i64.wrap ((n : Int) + 1) = (n : Int) + 1 := by rw [IntKind.wrap_i64]; omega
  have hb2 : Below w.heap.size w ((w.alloc (.cells #[.int .i64 I, .int .i64 pz, v2, v3, v4, v5, v6, v7, .int .i64 d.ct, v9, v10, v11, v12, .slice TA tn tc, .slice IA d.ns.length ic, v15, v16, v17] 34)).alloc (.cells #[.int .i64 0, .int .i64 0, .int .i64 0] 215)) := ((Below.refl _ _).alloc (Nat.le_refl _) _).alloc (by simp) _
  have hP : Blk ((w.alloc (.cells #[.int .i64 I, .int .i64 pz, v2, v3, v4, v5, v6, v7, .int .i64 d.ct, v9, v10, v11, v12, .slice TA tn tc, .slice IA d.ns.length ic, v15, v16, v17] 34)).alloc (.cells #[.int .i64 0, .int .i64 0, .int .i64 0] 215)) w.heap.size 34 #[.int .i64 I, .int .i64 pz, v2, v3, v4, v5, v6, v7, .int .i64 d.ct, v9, v10, v11, v12, .slice TA tn tc, .slice IA d.ns.length ic, v15, v16, v17] := (Blk.new w _ _).alloc _
  have hQ : Blk ((w.alloc (.cells #[.int .i64 I, .int .i64 pz, v2, v3, v4, v5, v6, v7, .int .i64 d.ct, v9, v10, v11, v12, .slice TA tn tc, .slice IA d.ns.length ic, v15, v16, v17] 34)).alloc (.cells #[.int .i64 0, .int .i64 0, .int .i64 0] 215)) (w.heap.size + 1) 215 #[.int .i64 0, .int .i64 0, .int .i64 0] := by
    have := Blk.new (w.alloc (.cells #[.int .i64 I, .int .i64 pz, v2, v3, v4, v5, v6, v7, .int .i64 d.ct, v9, v10, v11, v12, .slice TA tn tc, .slice IA d.ns.length ic, v15, v16, v17] 34)) 215 #[.int .i64 0, .int .i64 0, .int .i64 0]
    simpa using this
  have hgl := h.1.lt
  have hml := h.2.1.lt
  have hne := h.2.1.ne h.1
  have HI := Lib.hid (And.intro hI hpz)
  have HH := Lib.hid (And.intro (h.below hb2) (And.intro hb2 (And.intro hP (And.intro hQ (And.intro h (And.intro hok (And.intro hd (And.intro hn (And.intro hf hT)))))))))
  have HN := Lib.hid hln
  clear h hb2 hP hQ hok hf hln hlt hd hn hT hI hpz
  have HA := Lib.hid hA
  clear hA
  go_enter Tryz.func176, Tryz.ntmps176
  go_upto_region 1 with fail
  generalize ((w.alloc (.cells #[.int .i64 I, .int .i64 pz, v2, v3, v4, v5, v6, v7, .int .i64 d.ct, v9, v10, v11, v12, .slice TA tn tc, .slice IA d.ns.length ic, v15, v16, v17] 34)).alloc (.cells #[.int .i64 0, .int .i64 0, .int .i64 0] 215)) = w0 at *
  have hws := Lib.hid HH.out.2.1.size
  have hql := HH.out.2.2.2.1.lt
  have c1 : w0.cell? ⟨g, 1, none⟩ = some (.int .i64 n) := by rw [← HH.out.2.2.2.2.2.2.2.1]; exact (HH.out.1.1.cell 1).trans rfl
  obtain ⟨B, hBd⟩ : ∃ B, B = w0.heap.size := ⟨_, rfl⟩
  have HBD := Lib.hid hBd
  have hB1 : w.heap.size + 1 < B := by omega
  clear hBd hql
  go_upto_region 2 with (first
    | (refine wpList_store_box rfl 215 _ _ rfl w0.heap.size #[.int .i64 0, .int .i64 n, .int .i64 0] rfl rfl 215 #[.int .i64 0, .int .i64 0, .int .i64 0] (Blk.new w0 _ _) stepInfo rfl (by simp [Value.oneCell']) ?_)
    | fail)
  intro w1 hB9 hg9
  rw [← HBD.out] at hB9 hg9 ⊢
  have H1 := Lib.hid (show WalkAt w1 g mb LA ln lc bs s ∧ Mv w w1 g mb ∧ Blk w1 (w.heap.size + 1) 215 #[.int .i64 0, .int .i64 0, .int .i64 0] ∧ Blk w1 w.heap.size 34 #[.int .i64 I, .int .i64 pz, v2, v3, v4, v5, v6, v7, .int .i64 d.ct, v9, v10, v11, v12, .slice TA tn tc, .slice IA d.ns.length ic, v15, v16, v17] ∧ Blk w1 B 215 #[.int .i64 0, .int .i64 n, .int .i64 0] ∧ Below w.heap.size w w1 from
    have hba : Below w.heap.size w (w0.alloc (.cells #[.int .i64 0, .int .i64 0, .int .i64 0] 215)) := HH.out.2.1.alloc hws.out _
    have hb1 : Below w.heap.size w w1 := hba.grown hg9 (by have := hba.size; omega) (fun k e => by injection e with e; omega)
    ⟨HH.out.2.2.2.2.1.below hb1, Mv.of_below hb1, (HH.out.2.2.2.1.alloc _).grown hg9 (fun e => by injection e with e; omega), (HH.out.2.2.1.alloc _).grown hg9 (fun e => by injection e with e; omega), hB9, hb1⟩)
  clear hB9 hg9 c1
  have p0 : w1.cell? ⟨w.heap.size, 0, none⟩ = some (.int .i64 I) := (H1.out.2.2.2.1.cell 0).trans rfl
  have p1 : w1.cell? ⟨w.heap.size, 1, none⟩ = some (.int .i64 pz) := (H1.out.2.2.2.1.cell 1).trans rfl
  rw [HA.out.1] at p0
  rw [HA.out.2] at p1
  have d0 : w1.cell? ⟨B, 0, none⟩ = some (.int .i64 0) := (H1.out.2.2.2.2.1.cell 0).trans rfl
  have e0 : w1.frozen? ⟨B, 0, none⟩ = false := H1.out.2.2.2.2.1.frozen 0
  go_upto_region 9 with fail
  have HZ := Lib.hid (show WalkAt (w1.setCell ⟨B, 0, none⟩ (.int .i64 1)) g mb LA ln lc bs s ∧ Mv w (w1.setCell ⟨B, 0, none⟩ (.int .i64 1)) g mb ∧ Blk (w1.setCell ⟨B, 0, none⟩ (.int .i64 1)) (w.heap.size + 1) 215 #[.int .i64 0, .int .i64 0, .int .i64 0] ∧ Blk (w1.setCell ⟨B, 0, none⟩ (.int .i64 1)) B 215 #[.int .i64 1, .int .i64 n, .int .i64 0] from
    have hbb : Below w.heap.size w (w1.setCell ⟨B, 0, none⟩ (.int .i64 1)) := H1.out.2.2.2.2.2.setCell (p := ⟨B, 0, none⟩) (by show w.heap.size ≤ B; omega) _
    ⟨HH.out.2.2.2.2.1.below hbb, Mv.of_below hbb, H1.out.2.2.1.far (by show w.heap.size + 1 ≠ B; omega) _, H1.out.2.2.2.2.1.set_ 0 _⟩)
  clear d0 e0 p0 p1
  generalize w1.setCell ⟨B, 0, none⟩ (.int .i64 1) = wz at *
  have d1 : wz.cell? ⟨g, 1, none⟩ = some (.int .i64 n) := (HZ.out.1.1.cell 1).trans (by show some (Value.int .i64 s.at_) = some (Value.int .i64 (n : Int)); rw [HH.out.2.2.2.2.2.2.2.1])
  have e1 : wz.frozen? ⟨g, 1, none⟩ = false := HZ.out.1.1.frozen 1
  go_upto_region 10 with fail
  have HY := Lib.hid (show WalkAt (wz.setCell ⟨g, 1, none⟩ (.int .i64 ((n : Int) + 1))) g mb LA ln lc bs { s with at_ := (n : Int) + 1 } ∧ Mv w (wz.setCell ⟨g, 1, none⟩ (.int .i64 ((n : Int) + 1))) g mb ∧ Blk (wz.setCell ⟨g, 1, none⟩ (.int .i64 ((n : Int) + 1))) (w.heap.size + 1) 215 #[.int .i64 0, .int .i64 0, .int .i64 0] ∧ Blk (wz.setCell ⟨g, 1, none⟩ (.int .i64 ((n : Int) + 1))) B 215 #[.int .i64 1, .int .i64 n, .int .i64 0] from ⟨HZ.out.1.set_ _ rfl rfl, HZ.out.2.1.set_ _, HZ.out.2.2.1.far (by show w.heap.size + 1 ≠ g; omega) _, HZ.out.2.2.2.far (by show B ≠ g; omega) _⟩)
  clear d1 e1
  generalize wz.setCell ⟨g, 1, none⟩ (.int .i64 ((n : Int) + 1)) = wy at *
  have hQy := HY.out.2.2.1
  have hBy := HY.out.2.2.2
  go_wp2_with (first
    | (refine wpList_load_box rfl 215 _ rfl B rfl 215 #[.int .i64 1, .int .i64 n, .int .i64 0] hBy _ Tryz.underlying215 rfl stepInfo (fun (_ : Hid _) => ?_))
    | (refine wpList_store_box rfl 215 _ _ rfl (w.heap.size + 1) #[.int .i64 1, .int .i64 n, .int .i64 0] rfl rfl 215 #[.int .i64 0, .int .i64 0, .int .i64 0] hQy stepInfo rfl (by simp [Value.oneCell']) ?_)
    | fail)
  intro w9 hB9 hg9
  have H9 := Lib.hid hg9
  clear hg9 hQy hBy
  go_wp2_with fail
  refine bodyPost_ret (results_cell_tmp9 rfl _ _ (w.heap.size + 1) 215 _ (0, 0) _ rfl hB9 Tryz.underlying215 rfl stepInfo) rfl ?_
  obtain ⟨q1, q2⟩ := lead_fin HH.out.2.2.2.2.1 HY.out.1 HY.out.2.1 H9.out
  have hK : toldK (atB bs s.at_) = 1 := by rw [← HH.out.2.2.2.2.2.2.1]; exact by unfold toldK; rw [if_pos (.inl ⟨HI.out.1 ▸ HA.out.1, HI.out.2 ▸ HA.out.2⟩)]
  exact ⟨q2, .inr (.inr ⟨by rw [hK]; decide, by rw [hK, HH.out.2.2.2.2.2.2.2.1] <;> rfl, by rw [HH.out.2.2.2.2.2.2.2.1]; exact q1⟩)⟩
set_option maxRecDepth 100000 in
set_option maxHeartbeats 8000000 in
theorem here42_any (w : World) (g mb : Nat) (LA : Option Addr) (ln lc : Nat) (bs : List WB) (s : WS) (d : WB) (v2 v3 v4 v5 v6 v7 v9 v10 v11 v12 : Value) (TA : Option Addr) (tn tc : Nat) (IA : Option Addr) (ic : Nat) (v15 v16 v17 : Value) (I pz : Int) (hI : I = d.id) (hpz : pz = d.pz) (h : WalkAt w g mb LA ln lc bs s) (hok : s.ok bs) (hf : Fine bs) (hln : bs.length = ln) (hlt : s.at_ < ln) (hd : d = atB bs s.at_) (hT : RdP w (fun b => b ≠ g ∧ b ≠ mb ∧ b < w.heap.size) 1 TA tn (d.ts.map (Value.int .i64))) (hA : I = 42) :
    Calls Tryz.prog 176 #[.pointer (some ⟨g, 0, none⟩), .agg #[.int .i64 I, .int .i64 pz, v2, v3, v4, v5, v6, v7, .int .i64 d.ct, v9, v10, v11, v12, .slice TA tn tc, .slice IA d.ns.length ic, v15, v16, v17]] w fun x w' => HereO w w' x g mb LA ln lc bs s := by
  obtain ⟨n, hn⟩ : ∃ n : Nat, s.at_ = (n : Int) := ⟨s.at_.toNat, by have := hok.1; omega⟩
  have hnl : n < ln := by omega
  have hl60 : ln ≤ 300 := by have := hf.1; omega
  have hwn : IntKind.i64.wrap ((n : Int) + 1) = (n : Int) + 1 := by rw [IntKind.wrap_i64]; omega
  have hb2 : Below w.heap.size w ((w.alloc (.cells #[.int .i64 I, .int .i64 pz, v2, v3, v4, v5, v6, v7, .int .i64 d.ct, v9, v10, v11, v12, .slice TA tn tc, .slice IA d.ns.length ic, v15, v16, v17] 34)).alloc (.cells #[.int .i64 0, .int .i64 0, .int .i64 0] 215)) := ((Below.refl _ _).alloc (Nat.le_refl _) _).alloc (by simp) _
  have hP : Blk ((w.alloc (.cells #[.int .i64 I, .int .i64 pz, v2, v3, v4, v5, v6, v7, .int .i64 d.ct, v9, v10, v11, v12, .slice TA tn tc, .slice IA d.ns.length ic, v15, v16, v17] 34)).alloc (.cells #[.int .i64 0, .int .i64 0, .int .i64 0] 215)) w.heap.size 34 #[.int .i64 I, .int .i64 pz, v2, v3, v4, v5, v6, v7, .int .i64 d.ct, v9, v10, v11, v12, .slice TA tn tc, .slice IA d.ns.length ic, v15, v16, v17] := (Blk.new w _ _).alloc _
  have hQ : Blk ((w.alloc (.cells #[.int .i64 I, .int .i64 pz, v2, v3, v4, v5, v6, v7, .int .i64 d.ct, v9, v10, v11, v12, .slice TA tn tc, .slice IA d.ns.length ic, v15, v16, v17] 34)).alloc (.cells #[.int .i64 0, .int .i64 0, .int .i64 0] 215)) (w.heap.size + 1) 215 #[.int .i64 0, .int .i64 0, .int .i64 0] := by
    have := Blk.new (w.alloc (.cells #[.int .i64 I, .int .i64 pz, v2, v3, v4, v5, v6, v7, .int .i64 d.ct, v9, v10, v11, v12, .slice TA tn tc, .slice IA d.ns.length ic, v15, v16, v17] 34)) 215 #[.int .i64 0, .int .i64 0, .int .i64 0]
    simpa using this
  have hgl := h.1.lt
  have hml := h.2.1.lt
  have hne := h.2.1.ne h.1
  have HI := Lib.hid (And.intro hI hpz)
  have HH := Lib.hid (And.intro (h.below hb2) (And.intro hb2 (And.intro hP (And.intro hQ (And.intro h (And.intro hok (And.intro hd (And.intro hn (And.intro hf hT)))))))))
  have HN := Lib.hid hln
  clear h hb2 hP hQ hok hf hln hlt hd hn hT hI hpz
  have HA := Lib.hid hA
  clear hA
  go_enter Tryz.func176, Tryz.ntmps176
  go_upto_region 1 with fail
  generalize ((w.alloc (.cells #[.int .i64 I, .int .i64 pz, v2, v3, v4, v5, v6, v7, .int .i64 d.ct, v9, v10, v11, v12, .slice TA tn tc, .slice IA d.ns.length ic, v15, v16, v17] 34)).alloc (.cells #[.int .i64 0, .int .i64 0, .int .i64 0] 215)) = w0 at *
  have hws := Lib.hid HH.out.2.1.size
  have hql := HH.out.2.2.2.1.lt
  have c1 : w0.cell? ⟨g, 1, none⟩ = some (.int .i64 n) := by rw [← HH.out.2.2.2.2.2.2.2.1]; exact (HH.out.1.1.cell 1).trans rfl
  obtain ⟨B, hBd⟩ : ∃ B, B = w0.heap.size := ⟨_, rfl⟩
  have HBD := Lib.hid hBd
  have hB1 : w.heap.size + 1 < B := by omega
  clear hBd hql
  go_upto_region 2 with (first
    | (refine wpList_store_box rfl 215 _ _ rfl w0.heap.size #[.int .i64 0, .int .i64 n, .int .i64 0] rfl rfl 215 #[.int .i64 0, .int .i64 0, .int .i64 0] (Blk.new w0 _ _) stepInfo rfl (by simp [Value.oneCell']) ?_)
    | fail)
  intro w1 hB9 hg9
  rw [← HBD.out] at hB9 hg9 ⊢
  have H1 := Lib.hid (show WalkAt w1 g mb LA ln lc bs s ∧ Mv w w1 g mb ∧ Blk w1 (w.heap.size + 1) 215 #[.int .i64 0, .int .i64 0, .int .i64 0] ∧ Blk w1 w.heap.size 34 #[.int .i64 I, .int .i64 pz, v2, v3, v4, v5, v6, v7, .int .i64 d.ct, v9, v10, v11, v12, .slice TA tn tc, .slice IA d.ns.length ic, v15, v16, v17] ∧ Blk w1 B 215 #[.int .i64 0, .int .i64 n, .int .i64 0] ∧ Below w.heap.size w w1 from
    have hba : Below w.heap.size w (w0.alloc (.cells #[.int .i64 0, .int .i64 0, .int .i64 0] 215)) := HH.out.2.1.alloc hws.out _
    have hb1 : Below w.heap.size w w1 := hba.grown hg9 (by have := hba.size; omega) (fun k e => by injection e with e; omega)
    ⟨HH.out.2.2.2.2.1.below hb1, Mv.of_below hb1, (HH.out.2.2.2.1.alloc _).grown hg9 (fun e => by injection e with e; omega), (HH.out.2.2.1.alloc _).grown hg9 (fun e => by injection e with e; omega), hB9, hb1⟩)
  clear hB9 hg9 c1
  have p0 : w1.cell? ⟨w.heap.size, 0, none⟩ = some (.int .i64 I) := (H1.out.2.2.2.1.cell 0).trans rfl
  have p1 : w1.cell? ⟨w.heap.size, 1, none⟩ = some (.int .i64 pz) := (H1.out.2.2.2.1.cell 1).trans rfl
  rw [HA.out] at p0
  have d0 : w1.cell? ⟨B, 0, none⟩ = some (.int .i64 0) := (H1.out.2.2.2.2.1.cell 0).trans rfl
  have e0 : w1.frozen? ⟨B, 0, none⟩ = false := H1.out.2.2.2.2.1.frozen 0
  go_upto_region 9 with fail
  have HZ := Lib.hid (show WalkAt (w1.setCell ⟨B, 0, none⟩ (.int .i64 1)) g mb LA ln lc bs s ∧ Mv w (w1.setCell ⟨B, 0, none⟩ (.int .i64 1)) g mb ∧ Blk (w1.setCell ⟨B, 0, none⟩ (.int .i64 1)) (w.heap.size + 1) 215 #[.int .i64 0, .int .i64 0, .int .i64 0] ∧ Blk (w1.setCell ⟨B, 0, none⟩ (.int .i64 1)) B 215 #[.int .i64 1, .int .i64 n, .int .i64 0] from
    have hbb : Below w.heap.size w (w1.setCell ⟨B, 0, none⟩ (.int .i64 1)) := H1.out.2.2.2.2.2.setCell (p := ⟨B, 0, none⟩) (by show w.heap.size ≤ B; omega) _
    ⟨HH.out.2.2.2.2.1.below hbb, Mv.of_below hbb, H1.out.2.2.1.far (by show w.heap.size + 1 ≠ B; omega) _, H1.out.2.2.2.2.1.set_ 0 _⟩)
  clear d0 e0 p0 p1
  generalize w1.setCell ⟨B, 0, none⟩ (.int .i64 1) = wz at *
  have d1 : wz.cell? ⟨g, 1, none⟩ = some (.int .i64 n) := (HZ.out.1.1.cell 1).trans (by show some (Value.int .i64 s.at_) = some (Value.int .i64 (n : Int)); rw [HH.out.2.2.2.2.2.2.2.1])
  have e1 : wz.frozen? ⟨g, 1, none⟩ = false := HZ.out.1.1.frozen 1
  go_upto_region 10 with fail
  have HY := Lib.hid (show WalkAt (wz.setCell ⟨g, 1, none⟩ (.int .i64 ((n : Int) + 1))) g mb LA ln lc bs { s with at_ := (n : Int) + 1 } ∧ Mv w (wz.setCell ⟨g, 1, none⟩ (.int .i64 ((n : Int) + 1))) g mb ∧ Blk (wz.setCell ⟨g, 1, none⟩ (.int .i64 ((n : Int) + 1))) (w.heap.size + 1) 215 #[.int .i64 0, .int .i64 0, .int .i64 0] ∧ Blk (wz.setCell ⟨g, 1, none⟩ (.int .i64 ((n : Int) + 1))) B 215 #[.int .i64 1, .int .i64 n, .int .i64 0] from ⟨HZ.out.1.set_ _ rfl rfl, HZ.out.2.1.set_ _, HZ.out.2.2.1.far (by show w.heap.size + 1 ≠ g; omega) _, HZ.out.2.2.2.far (by show B ≠ g; omega) _⟩)
  clear d1 e1
  generalize wz.setCell ⟨g, 1, none⟩ (.int .i64 ((n : Int) + 1)) = wy at *
  have hQy := HY.out.2.2.1
  have hBy := HY.out.2.2.2
  go_wp2_with (first
    | (refine wpList_load_box rfl 215 _ rfl B rfl 215 #[.int .i64 1, .int .i64 n, .int .i64 0] hBy _ Tryz.underlying215 rfl stepInfo (fun (_ : Hid _) => ?_))
    | (refine wpList_store_box rfl 215 _ _ rfl (w.heap.size + 1) #[.int .i64 1, .int .i64 n, .int .i64 0] rfl rfl 215 #[.int .i64 0, .int .i64 0, .int .i64 0] hQy stepInfo rfl (by simp [Value.oneCell']) ?_)
    | fail)
  intro w9 hB9 hg9
  have H9 := Lib.hid hg9
  clear hg9 hQy hBy
  go_wp2_with fail
  refine bodyPost_ret (results_cell_tmp9 rfl _ _ (w.heap.size + 1) 215 _ (0, 0) _ rfl hB9 Tryz.underlying215 rfl stepInfo) rfl ?_
  obtain ⟨q1, q2⟩ := lead_fin HH.out.2.2.2.2.1 HY.out.1 HY.out.2.1 H9.out
  have hK : toldK (atB bs s.at_) = 1 := by rw [← HH.out.2.2.2.2.2.2.1]; exact by unfold toldK; rw [if_pos (.inr (HI.out.1 ▸ HA.out))]
  exact ⟨q2, .inr (.inr ⟨by rw [hK]; decide, by rw [hK, HH.out.2.2.2.2.2.2.2.1] <;> rfl, by rw [HH.out.2.2.2.2.2.2.2.1]; exact q1⟩)⟩
set_option maxRecDepth 100000 in
set_option maxHeartbeats 8000000 in
theorem here43_any (w : World) (g mb : Nat) (LA : Option Addr) (ln lc : Nat) (bs : List WB) (s : WS) (d : WB) (v2 v3 v4 v5 v6 v7 v9 v10 v11 v12 : Value) (TA : Option Addr) (tn tc : Nat) (IA : Option Addr) (ic : Nat) (v15 v16 v17 : Value) (I pz : Int) (hI : I = d.id) (hpz : pz = d.pz) (h : WalkAt w g mb LA ln lc bs s) (hok : s.ok bs) (hf : Fine bs) (hln : bs.length = ln) (hlt : s.at_ < ln) (hd : d = atB bs s.at_) (hT : RdP w (fun b => b ≠ g ∧ b ≠ mb ∧ b < w.heap.size) 1 TA tn (d.ts.map (Value.int .i64))) (hA : I = 43) :
    Calls Tryz.prog 176 #[.pointer (some ⟨g, 0, none⟩), .agg #[.int .i64 I, .int .i64 pz, v2, v3, v4, v5, v6, v7, .int .i64 d.ct, v9, v10, v11, v12, .slice TA tn tc, .slice IA d.ns.length ic, v15, v16, v17]] w fun x w' => HereO w w' x g mb LA ln lc bs s := by
  obtain ⟨n, hn⟩ : ∃ n : Nat, s.at_ = (n : Int) := ⟨s.at_.toNat, by have := hok.1; omega⟩
  have hnl : n < ln := by omega
  have hl60 : ln ≤ 300 := by have := hf.1; omega
  have hwn : IntKind.i64.wrap ((n : Int) + 1) = (n : Int) + 1 := by rw [IntKind.wrap_i64]; omega
  have hb2 : Below w.heap.size w ((w.alloc (.cells #[.int .i64 I, .int .i64 pz, v2, v3, v4, v5, v6, v7, .int .i64 d.ct, v9, v10, v11, v12, .slice TA tn tc, .slice IA d.ns.length ic, v15, v16, v17] 34)).alloc (.cells #[.int .i64 0, .int .i64 0, .int .i64 0] 215)) := ((Below.refl _ _).alloc (Nat.le_refl _) _).alloc (by simp) _
  have hP : Blk ((w.alloc (.cells #[.int .i64 I, .int .i64 pz, v2, v3, v4, v5, v6, v7, .int .i64 d.ct, v9, v10, v11, v12, .slice TA tn tc, .slice IA d.ns.length ic, v15, v16, v17] 34)).alloc (.cells #[.int .i64 0, .int .i64 0, .int .i64 0] 215)) w.heap.size 34 #[.int .i64 I, .int .i64 pz, v2, v3, v4, v5, v6, v7, .int .i64 d.ct, v9, v10, v11, v12, .slice TA tn tc, .slice IA d.ns.length ic, v15, v16, v17] := (Blk.new w _ _).alloc _
  have hQ : Blk ((w.alloc (.cells #[.int .i64 I, .int .i64 pz, v2, v3, v4, v5, v6, v7, .int .i64 d.ct, v9, v10, v11, v12, .slice TA tn tc, .slice IA d.ns.length ic, v15, v16, v17] 34)).alloc (.cells #[.int .i64 0, .int .i64 0, .int .i64 0] 215)) (w.heap.size + 1) 215 #[.int .i64 0, .int .i64 0, .int .i64 0] := by
    have := Blk.new (w.alloc (.cells #[.int .i64 I, .int .i64 pz, v2, v3, v4, v5, v6, v7, .int .i64 d.ct, v9, v10, v11, v12, .slice TA tn tc, .slice IA d.ns.length ic, v15, v16, v17] 34)) 215 #[.int .i64 0, .int .i64 0, .int .i64 0]
    simpa using this
  have hgl := h.1.lt
  have hml := h.2.1.lt
  have hne := h.2.1.ne h.1
  have HI := Lib.hid (And.intro hI hpz)
  have HH := Lib.hid (And.intro (h.below hb2) (And.intro hb2 (And.intro hP (And.intro hQ (And.intro h (And.intro hok (And.intro hd (And.intro hn (And.intro hf hT)))))))))
  have HN := Lib.hid hln
  clear h hb2 hP hQ hok hf hln hlt hd hn hT hI hpz
  have HA := Lib.hid hA
  clear hA
  go_enter Tryz.func176, Tryz.ntmps176
  go_upto_region 1 with fail
  generalize ((w.alloc (.cells #[.int .i64 I, .int .i64 pz, v2, v3, v4, v5, v6, v7, .int .i64 d.ct, v9, v10, v11, v12, .slice TA tn tc, .slice IA d.ns.length ic, v15, v16, v17] 34)).alloc (.cells #[.int .i64 0, .int .i64 0, .int .i64 0] 215)) = w0 at *
  have hws := Lib.hid HH.out.2.1.size
  have hql := HH.out.2.2.2.1.lt
  have c1 : w0.cell? ⟨g, 1, none⟩ = some (.int .i64 n) := by rw [← HH.out.2.2.2.2.2.2.2.1]; exact (HH.out.1.1.cell 1).trans rfl
  obtain ⟨B, hBd⟩ : ∃ B, B = w0.heap.size := ⟨_, rfl⟩
  have HBD := Lib.hid hBd
  have hB1 : w.heap.size + 1 < B := by omega
  clear hBd hql
  go_upto_region 2 with (first
    | (refine wpList_store_box rfl 215 _ _ rfl w0.heap.size #[.int .i64 0, .int .i64 n, .int .i64 0] rfl rfl 215 #[.int .i64 0, .int .i64 0, .int .i64 0] (Blk.new w0 _ _) stepInfo rfl (by simp [Value.oneCell']) ?_)
    | fail)
  intro w1 hB9 hg9
  rw [← HBD.out] at hB9 hg9 ⊢
  have H1 := Lib.hid (show WalkAt w1 g mb LA ln lc bs s ∧ Mv w w1 g mb ∧ Blk w1 (w.heap.size + 1) 215 #[.int .i64 0, .int .i64 0, .int .i64 0] ∧ Blk w1 w.heap.size 34 #[.int .i64 I, .int .i64 pz, v2, v3, v4, v5, v6, v7, .int .i64 d.ct, v9, v10, v11, v12, .slice TA tn tc, .slice IA d.ns.length ic, v15, v16, v17] ∧ Blk w1 B 215 #[.int .i64 0, .int .i64 n, .int .i64 0] ∧ Below w.heap.size w w1 from
    have hba : Below w.heap.size w (w0.alloc (.cells #[.int .i64 0, .int .i64 0, .int .i64 0] 215)) := HH.out.2.1.alloc hws.out _
    have hb1 : Below w.heap.size w w1 := hba.grown hg9 (by have := hba.size; omega) (fun k e => by injection e with e; omega)
    ⟨HH.out.2.2.2.2.1.below hb1, Mv.of_below hb1, (HH.out.2.2.2.1.alloc _).grown hg9 (fun e => by injection e with e; omega), (HH.out.2.2.1.alloc _).grown hg9 (fun e => by injection e with e; omega), hB9, hb1⟩)
  clear hB9 hg9 c1
  have p0 : w1.cell? ⟨w.heap.size, 0, none⟩ = some (.int .i64 I) := (H1.out.2.2.2.1.cell 0).trans rfl
  have p1 : w1.cell? ⟨w.heap.size, 1, none⟩ = some (.int .i64 pz) := (H1.out.2.2.2.1.cell 1).trans rfl
  rw [HA.out] at p0
  have d0 : w1.cell? ⟨B, 0, none⟩ = some (.int .i64 0) := (H1.out.2.2.2.2.1.cell 0).trans rfl
  have e0 : w1.frozen? ⟨B, 0, none⟩ = false := H1.out.2.2.2.2.1.frozen 0
  go_upto_region 9 with fail
  have HZ := Lib.hid (show WalkAt (w1.setCell ⟨B, 0, none⟩ (.int .i64 2)) g mb LA ln lc bs s ∧ Mv w (w1.setCell ⟨B, 0, none⟩ (.int .i64 2)) g mb ∧ Blk (w1.setCell ⟨B, 0, none⟩ (.int .i64 2)) (w.heap.size + 1) 215 #[.int .i64 0, .int .i64 0, .int .i64 0] ∧ Blk (w1.setCell ⟨B, 0, none⟩ (.int .i64 2)) B 215 #[.int .i64 2, .int .i64 n, .int .i64 0] from
    have hbb : Below w.heap.size w (w1.setCell ⟨B, 0, none⟩ (.int .i64 2)) := H1.out.2.2.2.2.2.setCell (p := ⟨B, 0, none⟩) (by show w.heap.size ≤ B; omega) _
    ⟨HH.out.2.2.2.2.1.below hbb, Mv.of_below hbb, H1.out.2.2.1.far (by show w.heap.size + 1 ≠ B; omega) _, H1.out.2.2.2.2.1.set_ 0 _⟩)
  clear d0 e0 p0 p1
  generalize w1.setCell ⟨B, 0, none⟩ (.int .i64 2) = wz at *
  have d1 : wz.cell? ⟨g, 1, none⟩ = some (.int .i64 n) := (HZ.out.1.1.cell 1).trans (by show some (Value.int .i64 s.at_) = some (Value.int .i64 (n : Int)); rw [HH.out.2.2.2.2.2.2.2.1])
  have e1 : wz.frozen? ⟨g, 1, none⟩ = false := HZ.out.1.1.frozen 1
  go_upto_region 10 with fail
  have HY := Lib.hid (show WalkAt (wz.setCell ⟨g, 1, none⟩ (.int .i64 ((n : Int) + 1))) g mb LA ln lc bs { s with at_ := (n : Int) + 1 } ∧ Mv w (wz.setCell ⟨g, 1, none⟩ (.int .i64 ((n : Int) + 1))) g mb ∧ Blk (wz.setCell ⟨g, 1, none⟩ (.int .i64 ((n : Int) + 1))) (w.heap.size + 1) 215 #[.int .i64 0, .int .i64 0, .int .i64 0] ∧ Blk (wz.setCell ⟨g, 1, none⟩ (.int .i64 ((n : Int) + 1))) B 215 #[.int .i64 2, .int .i64 n, .int .i64 0] from ⟨HZ.out.1.set_ _ rfl rfl, HZ.out.2.1.set_ _, HZ.out.2.2.1.far (by show w.heap.size + 1 ≠ g; omega) _, HZ.out.2.2.2.far (by show B ≠ g; omega) _⟩)
  clear d1 e1
  generalize wz.setCell ⟨g, 1, none⟩ (.int .i64 ((n : Int) + 1)) = wy at *
  have hQy := HY.out.2.2.1
  have hBy := HY.out.2.2.2
  go_wp2_with (first
    | (refine wpList_load_box rfl 215 _ rfl B rfl 215 #[.int .i64 2, .int .i64 n, .int .i64 0] hBy _ Tryz.underlying215 rfl stepInfo (fun (_ : Hid _) => ?_))
    | (refine wpList_store_box rfl 215 _ _ rfl (w.heap.size + 1) #[.int .i64 2, .int .i64 n, .int .i64 0] rfl rfl 215 #[.int .i64 0, .int .i64 0, .int .i64 0] hQy stepInfo rfl (by simp [Value.oneCell']) ?_)
    | fail)
  intro w9 hB9 hg9
  have H9 := Lib.hid hg9
  clear hg9 hQy hBy
  go_wp2_with fail
  refine bodyPost_ret (results_cell_tmp9 rfl _ _ (w.heap.size + 1) 215 _ (0, 0) _ rfl hB9 Tryz.underlying215 rfl stepInfo) rfl ?_
  obtain ⟨q1, q2⟩ := lead_fin HH.out.2.2.2.2.1 HY.out.1 HY.out.2.1 H9.out
  have hK : toldK (atB bs s.at_) = 2 := by rw [← HH.out.2.2.2.2.2.2.1]; exact by have h1 : d.id = 43 := HI.out.1 ▸ HA.out; unfold toldK; rw [h1]; rfl
  exact ⟨q2, .inr (.inr ⟨by rw [hK]; decide, by rw [hK, HH.out.2.2.2.2.2.2.2.1] <;> rfl, by rw [HH.out.2.2.2.2.2.2.2.1]; exact q1⟩)⟩
set_option maxRecDepth 100000 in
set_option maxHeartbeats 8000000 in
theorem hereS32_any (w : World) (g mb : Nat) (LA : Option Addr) (ln lc : Nat) (bs : List WB) (s : WS) (d : WB) (v2 v3 v4 v5 v6 v7 v9 v10 v11 v12 : Value) (TA : Option Addr) (tn tc : Nat) (IA : Option Addr) (ic : Nat) (v15 v16 v17 : Value) (I pz : Int) (hI : I = d.id) (hpz : pz = d.pz) (h : WalkAt w g mb LA ln lc bs s) (hok : s.ok bs) (hf : Fine bs) (hln : bs.length = ln) (hlt : s.at_ < ln) (hd : d = atB bs s.at_) (hT : RdP w (fun b => b ≠ g ∧ b ≠ mb ∧ b < w.heap.size) 1 TA tn (d.ts.map (Value.int .i64))) (hA : I = 32 ∧ pz ≠ 0) :
    Calls Tryz.prog 176 #[.pointer (some ⟨g, 0, none⟩), .agg #[.int .i64 I, .int .i64 pz, v2, v3, v4, v5, v6, v7, .int .i64 d.ct, v9, v10, v11, v12, .slice TA tn tc, .slice IA d.ns.length ic, v15, v16, v17]] w fun x w' => HereO w w' x g mb LA ln lc bs s := by
  obtain ⟨n, hn⟩ : ∃ n : Nat, s.at_ = (n : Int) := ⟨s.at_.toNat, by have := hok.1; omega⟩
  have hnl : n < ln := by omega
  have hl60 : ln ≤ 300 := by have := hf.1; omega
  have hwn : IntKind.i64.wrap ((n : Int) + 1) = (n : Int) + 1 := by rw [IntKind.wrap_i64]; omega
  have hb2 : Below w.heap.size w ((w.alloc (.cells #[.int .i64 I, .int .i64 pz, v2, v3, v4, v5, v6, v7, .int .i64 d.ct, v9, v10, v11, v12, .slice TA tn tc, .slice IA d.ns.length ic, v15, v16, v17] 34)).alloc (.cells #[.int .i64 0, .int .i64 0, .int .i64 0] 215)) := ((Below.refl _ _).alloc (Nat.le_refl _) _).alloc (by simp) _
  have hP : Blk ((w.alloc (.cells #[.int .i64 I, .int .i64 pz, v2, v3, v4, v5, v6, v7, .int .i64 d.ct, v9, v10, v11, v12, .slice TA tn tc, .slice IA d.ns.length ic, v15, v16, v17] 34)).alloc (.cells #[.int .i64 0, .int .i64 0, .int .i64 0] 215)) w.heap.size 34 #[.int .i64 I, .int .i64 pz, v2, v3, v4, v5, v6, v7, .int .i64 d.ct, v9, v10, v11, v12, .slice TA tn tc, .slice IA d.ns.length ic, v15, v16, v17] := (Blk.new w _ _).alloc _
  have hQ : Blk ((w.alloc (.cells #[.int .i64 I, .int .i64 pz, v2, v3, v4, v5, v6, v7, .int .i64 d.ct, v9, v10, v11, v12, .slice TA tn tc, .slice IA d.ns.length ic, v15, v16, v17] 34)).alloc (.cells #[.int .i64 0, .int .i64 0, .int .i64 0] 215)) (w.heap.size + 1) 215 #[.int .i64 0, .int .i64 0, .int .i64 0] := by
    have := Blk.new (w.alloc (.cells #[.int .i64 I, .int .i64 pz, v2, v3, v4, v5, v6, v7, .int .i64 d.ct, v9, v10, v11, v12, .slice TA tn tc, .slice IA d.ns.length ic, v15, v16, v17] 34)) 215 #[.int .i64 0, .int .i64 0, .int .i64 0]
    simpa using this
  have hgl := h.1.lt
  have hml := h.2.1.lt
  have hne := h.2.1.ne h.1
  have HI := Lib.hid (And.intro hI hpz)
  have HH := Lib.hid (And.intro (h.below hb2) (And.intro hb2 (And.intro hP (And.intro hQ (And.intro h (And.intro hok (And.intro hd (And.intro hn (And.intro hf hT)))))))))
  have HN := Lib.hid hln
  clear h hb2 hP hQ hok hf hln hlt hd hn hT hI hpz
  have HA := Lib.hid hA
  clear hA
  go_enter Tryz.func176, Tryz.ntmps176
  go_upto_region 1 with fail
  generalize ((w.alloc (.cells #[.int .i64 I, .int .i64 pz, v2, v3, v4, v5, v6, v7, .int .i64 d.ct, v9, v10, v11, v12, .slice TA tn tc, .slice IA d.ns.length ic, v15, v16, v17] 34)).alloc (.cells #[.int .i64 0, .int .i64 0, .int .i64 0] 215)) = w0 at *
  have hws := Lib.hid HH.out.2.1.size
  have hql := HH.out.2.2.2.1.lt
  have c1 : w0.cell? ⟨g, 1, none⟩ = some (.int .i64 n) := by rw [← HH.out.2.2.2.2.2.2.2.1]; exact (HH.out.1.1.cell 1).trans rfl
  obtain ⟨B, hBd⟩ : ∃ B, B = w0.heap.size := ⟨_, rfl⟩
  have HBD := Lib.hid hBd
  have hB1 : w.heap.size + 1 < B := by omega
  clear hBd hql
  go_upto_region 2 with (first
    | (refine wpList_store_box rfl 215 _ _ rfl w0.heap.size #[.int .i64 0, .int .i64 n, .int .i64 0] rfl rfl 215 #[.int .i64 0, .int .i64 0, .int .i64 0] (Blk.new w0 _ _) stepInfo rfl (by simp [Value.oneCell']) ?_)
    | fail)
  intro w1 hB9 hg9
  rw [← HBD.out] at hB9 hg9 ⊢
  have H1 := Lib.hid (show WalkAt w1 g mb LA ln lc bs s ∧ Mv w w1 g mb ∧ Blk w1 (w.heap.size + 1) 215 #[.int .i64 0, .int .i64 0, .int .i64 0] ∧ Blk w1 w.heap.size 34 #[.int .i64 I, .int .i64 pz, v2, v3, v4, v5, v6, v7, .int .i64 d.ct, v9, v10, v11, v12, .slice TA tn tc, .slice IA d.ns.length ic, v15, v16, v17] ∧ Blk w1 B 215 #[.int .i64 0, .int .i64 n, .int .i64 0] ∧ Below w.heap.size w w1 from
    have hba : Below w.heap.size w (w0.alloc (.cells #[.int .i64 0, .int .i64 0, .int .i64 0] 215)) := HH.out.2.1.alloc hws.out _
    have hb1 : Below w.heap.size w w1 := hba.grown hg9 (by have := hba.size; omega) (fun k e => by injection e with e; omega)
    ⟨HH.out.2.2.2.2.1.below hb1, Mv.of_below hb1, (HH.out.2.2.2.1.alloc _).grown hg9 (fun e => by injection e with e; omega), (HH.out.2.2.1.alloc _).grown hg9 (fun e => by injection e with e; omega), hB9, hb1⟩)
  clear hB9 hg9 c1
  have p0 : w1.cell? ⟨w.heap.size, 0, none⟩ = some (.int .i64 I) := (H1.out.2.2.2.1.cell 0).trans rfl
  have p1 : w1.cell? ⟨w.heap.size, 1, none⟩ = some (.int .i64 pz) := (H1.out.2.2.2.1.cell 1).trans rfl
  rw [HA.out.1] at p0
  have hpf : (pz == 0) = false := by simpa using HA.out.2
  have hs := sounds_any w1 32
  go_wp2_with fail
  rw [show soundsB 32 = true from rfl] at hs
  refine hs.mono ?_
  rintro _ _ ⟨rfl, rfl⟩
  clear hs
  clear hpf p0 p1
  have HZ := Lib.hid (show WalkAt w1 g mb LA ln lc bs s ∧ Mv w w1 g mb ∧ Blk w1 (w.heap.size + 1) 215 #[.int .i64 0, .int .i64 0, .int .i64 0] ∧ Blk w1 B 215 #[.int .i64 0, .int .i64 n, .int .i64 0] from ⟨H1.out.1, H1.out.2.1, H1.out.2.2.1, H1.out.2.2.2.2.1⟩)
  have d1 : w1.cell? ⟨g, 1, none⟩ = some (.int .i64 n) := (HZ.out.1.1.cell 1).trans (by show some (Value.int .i64 s.at_) = some (Value.int .i64 (n : Int)); rw [HH.out.2.2.2.2.2.2.2.1])
  have e1 : w1.frozen? ⟨g, 1, none⟩ = false := HZ.out.1.1.frozen 1
  go_upto_region 10 with fail
  have HY := Lib.hid (show WalkAt (w1.setCell ⟨g, 1, none⟩ (.int .i64 ((n : Int) + 1))) g mb LA ln lc bs { s with at_ := (n : Int) + 1 } ∧ Mv w (w1.setCell ⟨g, 1, none⟩ (.int .i64 ((n : Int) + 1))) g mb ∧ Blk (w1.setCell ⟨g, 1, none⟩ (.int .i64 ((n : Int) + 1))) (w.heap.size + 1) 215 #[.int .i64 0, .int .i64 0, .int .i64 0] ∧ Blk (w1.setCell ⟨g, 1, none⟩ (.int .i64 ((n : Int) + 1))) B 215 #[.int .i64 0, .int .i64 n, .int .i64 0] from ⟨HZ.out.1.set_ _ rfl rfl, HZ.out.2.1.set_ _, HZ.out.2.2.1.far (by show w.heap.size + 1 ≠ g; omega) _, HZ.out.2.2.2.far (by show B ≠ g; omega) _⟩)
  clear d1 e1
  generalize w1.setCell ⟨g, 1, none⟩ (.int .i64 ((n : Int) + 1)) = wy at *
  have hQy := HY.out.2.2.1
  have hBy := HY.out.2.2.2
  go_wp2_with (first
    | (refine wpList_load_box rfl 215 _ rfl B rfl 215 #[.int .i64 0, .int .i64 n, .int .i64 0] hBy _ Tryz.underlying215 rfl stepInfo (fun (_ : Hid _) => ?_))
    | (refine wpList_store_box rfl 215 _ _ rfl (w.heap.size + 1) #[.int .i64 0, .int .i64 n, .int .i64 0] rfl rfl 215 #[.int .i64 0, .int .i64 0, .int .i64 0] hQy stepInfo rfl (by simp [Value.oneCell']) ?_)
    | fail)
  intro w9 hB9 hg9
  have H9 := Lib.hid hg9
  clear hg9 hQy hBy
  go_wp2_with fail
  refine bodyPost_ret (results_cell_tmp9 rfl _ _ (w.heap.size + 1) 215 _ (0, 0) _ rfl hB9 Tryz.underlying215 rfl stepInfo) rfl ?_
  obtain ⟨q1, q2⟩ := lead_fin HH.out.2.2.2.2.1 HY.out.1 HY.out.2.1 H9.out
  have hK : toldK (atB bs s.at_) = 0 := by rw [← HH.out.2.2.2.2.2.2.1]; exact by have h1 : d.id = 32 := HI.out.1 ▸ HA.out.1; have h2 : ¬ d.pz = 0 := HI.out.2 ▸ HA.out.2; unfold toldK; rw [h1, if_neg (by rintro (h | h); exact h2 h.2; exact absurd h (by decide)), if_neg (by decide), if_pos (show soundsB 32 = true from rfl)]
  exact ⟨q2, .inr (.inr ⟨by rw [hK]; decide, by rw [hK, HH.out.2.2.2.2.2.2.2.1] <;> rfl, by rw [HH.out.2.2.2.2.2.2.2.1]; exact q1⟩)⟩
set_option maxRecDepth 100000 in
set_option maxHeartbeats 8000000 in
theorem hereS_any (w : World) (g mb : Nat) (LA : Option Addr) (ln lc : Nat) (bs : List WB) (s : WS) (d : WB) (v2 v3 v4 v5 v6 v7 v9 v10 v11 v12 : Value) (TA : Option Addr) (tn tc : Nat) (IA : Option Addr) (ic : Nat) (v15 v16 v17 : Value) (I pz : Int) (hI : I = d.id) (hpz : pz = d.pz) (h : WalkAt w g mb LA ln lc bs s) (hok : s.ok bs) (hf : Fine bs) (hln : bs.length = ln) (hlt : s.at_ < ln) (hd : d = atB bs s.at_) (hT : RdP w (fun b => b ≠ g ∧ b ≠ mb ∧ b < w.heap.size) 1 TA tn (d.ts.map (Value.int .i64))) (hA : I ≠ 32 ∧ I ≠ 42 ∧ I ≠ 43 ∧ soundsB I = true) :
    Calls Tryz.prog 176 #[.pointer (some ⟨g, 0, none⟩), .agg #[.int .i64 I, .int .i64 pz, v2, v3, v4, v5, v6, v7, .int .i64 d.ct, v9, v10, v11, v12, .slice TA tn tc, .slice IA d.ns.length ic, v15, v16, v17]] w fun x w' => HereO w w' x g mb LA ln lc bs s := by
  obtain ⟨n, hn⟩ : ∃ n : Nat, s.at_ = (n : Int) := ⟨s.at_.toNat, by have := hok.1; omega⟩
  have hnl : n < ln := by omega
  have hl60 : ln ≤ 300 := by have := hf.1; omega
  have hwn : IntKind.i64.wrap ((n : Int) + 1) = (n : Int) + 1 := by rw [IntKind.wrap_i64]; omega
  have hb2 : Below w.heap.size w ((w.alloc (.cells #[.int .i64 I, .int .i64 pz, v2, v3, v4, v5, v6, v7, .int .i64 d.ct, v9, v10, v11, v12, .slice TA tn tc, .slice IA d.ns.length ic, v15, v16, v17] 34)).alloc (.cells #[.int .i64 0, .int .i64 0, .int .i64 0] 215)) := ((Below.refl _ _).alloc (Nat.le_refl _) _).alloc (by simp) _
  have hP : Blk ((w.alloc (.cells #[.int .i64 I, .int .i64 pz, v2, v3, v4, v5, v6, v7, .int .i64 d.ct, v9, v10, v11, v12, .slice TA tn tc, .slice IA d.ns.length ic, v15, v16, v17] 34)).alloc (.cells #[.int .i64 0, .int .i64 0, .int .i64 0] 215)) w.heap.size 34 #[.int .i64 I, .int .i64 pz, v2, v3, v4, v5, v6, v7, .int .i64 d.ct, v9, v10, v11, v12, .slice TA tn tc, .slice IA d.ns.length ic, v15, v16, v17] := (Blk.new w _ _).alloc _
  have hQ : Blk ((w.alloc (.cells #[.int .i64 I, .int .i64 pz, v2, v3, v4, v5, v6, v7, .int .i64 d.ct, v9, v10, v11, v12, .slice TA tn tc, .slice IA d.ns.length ic, v15, v16, v17] 34)).alloc (.cells #[.int .i64 0, .int .i64 0, .int .i64 0] 215)) (w.heap.size + 1) 215 #[.int .i64 0, .int .i64 0, .int .i64 0] := by
    have := Blk.new (w.alloc (.cells #[.int .i64 I, .int .i64 pz, v2, v3, v4, v5, v6, v7, .int .i64 d.ct, v9, v10, v11, v12, .slice TA tn tc, .slice IA d.ns.length ic, v15, v16, v17] 34)) 215 #[.int .i64 0, .int .i64 0, .int .i64 0]
    simpa using this
  have hgl := h.1.lt
  have hml := h.2.1.lt
  have hne := h.2.1.ne h.1
  have HI := Lib.hid (And.intro hI hpz)
  have HH := Lib.hid (And.intro (h.below hb2) (And.intro hb2 (And.intro hP (And.intro hQ (And.intro h (And.intro hok (And.intro hd (And.intro hn (And.intro hf hT)))))))))
  have HN := Lib.hid hln
  clear h hb2 hP hQ hok hf hln hlt hd hn hT hI hpz
  have HA := Lib.hid hA
  clear hA
  go_enter Tryz.func176, Tryz.ntmps176
  go_upto_region 1 with fail
  generalize ((w.alloc (.cells #[.int .i64 I, .int .i64 pz, v2, v3, v4, v5, v6, v7, .int .i64 d.ct, v9, v10, v11, v12, .slice TA tn tc, .slice IA d.ns.length ic, v15, v16, v17] 34)).alloc (.cells #[.int .i64 0, .int .i64 0, .int .i64 0] 215)) = w0 at *
  have hws := Lib.hid HH.out.2.1.size
  have hql := HH.out.2.2.2.1.lt
  have c1 : w0.cell? ⟨g, 1, none⟩ = some (.int .i64 n) := by rw [← HH.out.2.2.2.2.2.2.2.1]; exact (HH.out.1.1.cell 1).trans rfl
  obtain ⟨B, hBd⟩ : ∃ B, B = w0.heap.size := ⟨_, rfl⟩
  have HBD := Lib.hid hBd
  have hB1 : w.heap.size + 1 < B := by omega
  clear hBd hql
  go_upto_region 2 with (first
    | (refine wpList_store_box rfl 215 _ _ rfl w0.heap.size #[.int .i64 0, .int .i64 n, .int .i64 0] rfl rfl 215 #[.int .i64 0, .int .i64 0, .int .i64 0] (Blk.new w0 _ _) stepInfo rfl (by simp [Value.oneCell']) ?_)
    | fail)
  intro w1 hB9 hg9
  rw [← HBD.out] at hB9 hg9 ⊢
  have H1 := Lib.hid (show WalkAt w1 g mb LA ln lc bs s ∧ Mv w w1 g mb ∧ Blk w1 (w.heap.size + 1) 215 #[.int .i64 0, .int .i64 0, .int .i64 0] ∧ Blk w1 w.heap.size 34 #[.int .i64 I, .int .i64 pz, v2, v3, v4, v5, v6, v7, .int .i64 d.ct, v9, v10, v11, v12, .slice TA tn tc, .slice IA d.ns.length ic, v15, v16, v17] ∧ Blk w1 B 215 #[.int .i64 0, .int .i64 n, .int .i64 0] ∧ Below w.heap.size w w1 from
    have hba : Below w.heap.size w (w0.alloc (.cells #[.int .i64 0, .int .i64 0, .int .i64 0] 215)) := HH.out.2.1.alloc hws.out _
    have hb1 : Below w.heap.size w w1 := hba.grown hg9 (by have := hba.size; omega) (fun k e => by injection e with e; omega)
    ⟨HH.out.2.2.2.2.1.below hb1, Mv.of_below hb1, (HH.out.2.2.2.1.alloc _).grown hg9 (fun e => by injection e with e; omega), (HH.out.2.2.1.alloc _).grown hg9 (fun e => by injection e with e; omega), hB9, hb1⟩)
  clear hB9 hg9 c1
  have p0 : w1.cell? ⟨w.heap.size, 0, none⟩ = some (.int .i64 I) := (H1.out.2.2.2.1.cell 0).trans rfl
  have p1 : w1.cell? ⟨w.heap.size, 1, none⟩ = some (.int .i64 pz) := (H1.out.2.2.2.1.cell 1).trans rfl
  have h32 : (I == 32) = false := by simpa using HA.out.1
  have h42 : (I == 42) = false := by simpa using HA.out.2.1
  have h43 : (I == 43) = false := by simpa using HA.out.2.2.1
  have hs := sounds_any w1 I
  go_wp2_with fail
  rw [show soundsB I = true from HA.out.2.2.2] at hs
  refine hs.mono ?_
  rintro _ _ ⟨rfl, rfl⟩
  clear hs
  clear h32 h42 h43 p0 p1
  have HZ := Lib.hid (show WalkAt w1 g mb LA ln lc bs s ∧ Mv w w1 g mb ∧ Blk w1 (w.heap.size + 1) 215 #[.int .i64 0, .int .i64 0, .int .i64 0] ∧ Blk w1 B 215 #[.int .i64 0, .int .i64 n, .int .i64 0] from ⟨H1.out.1, H1.out.2.1, H1.out.2.2.1, H1.out.2.2.2.2.1⟩)
  have d1 : w1.cell? ⟨g, 1, none⟩ = some (.int .i64 n) := (HZ.out.1.1.cell 1).trans (by show some (Value.int .i64 s.at_) = some (Value.int .i64 (n : Int)); rw [HH.out.2.2.2.2.2.2.2.1])
  have e1 : w1.frozen? ⟨g, 1, none⟩ = false := HZ.out.1.1.frozen 1
  go_upto_region 10 with fail
  have HY := Lib.hid (show WalkAt (w1.setCell ⟨g, 1, none⟩ (.int .i64 ((n : Int) + 1))) g mb LA ln lc bs { s with at_ := (n : Int) + 1 } ∧ Mv w (w1.setCell ⟨g, 1, none⟩ (.int .i64 ((n : Int) + 1))) g mb ∧ Blk (w1.setCell ⟨g, 1, none⟩ (.int .i64 ((n : Int) + 1))) (w.heap.size + 1) 215 #[.int .i64 0, .int .i64 0, .int .i64 0] ∧ Blk (w1.setCell ⟨g, 1, none⟩ (.int .i64 ((n : Int) + 1))) B 215 #[.int .i64 0, .int .i64 n, .int .i64 0] from ⟨HZ.out.1.set_ _ rfl rfl, HZ.out.2.1.set_ _, HZ.out.2.2.1.far (by show w.heap.size + 1 ≠ g; omega) _, HZ.out.2.2.2.far (by show B ≠ g; omega) _⟩)
  clear d1 e1
  generalize w1.setCell ⟨g, 1, none⟩ (.int .i64 ((n : Int) + 1)) = wy at *
  have hQy := HY.out.2.2.1
  have hBy := HY.out.2.2.2
  go_wp2_with (first
    | (refine wpList_load_box rfl 215 _ rfl B rfl 215 #[.int .i64 0, .int .i64 n, .int .i64 0] hBy _ Tryz.underlying215 rfl stepInfo (fun (_ : Hid _) => ?_))
    | (refine wpList_store_box rfl 215 _ _ rfl (w.heap.size + 1) #[.int .i64 0, .int .i64 n, .int .i64 0] rfl rfl 215 #[.int .i64 0, .int .i64 0, .int .i64 0] hQy stepInfo rfl (by simp [Value.oneCell']) ?_)
    | fail)
  intro w9 hB9 hg9
  have H9 := Lib.hid hg9
  clear hg9 hQy hBy
  go_wp2_with fail
  refine bodyPost_ret (results_cell_tmp9 rfl _ _ (w.heap.size + 1) 215 _ (0, 0) _ rfl hB9 Tryz.underlying215 rfl stepInfo) rfl ?_
  obtain ⟨q1, q2⟩ := lead_fin HH.out.2.2.2.2.1 HY.out.1 HY.out.2.1 H9.out
  have hK : toldK (atB bs s.at_) = 0 := by rw [← HH.out.2.2.2.2.2.2.1]; exact by have h1 : ¬ d.id = 32 := HI.out.1 ▸ HA.out.1; have h2 : ¬ d.id = 42 := HI.out.1 ▸ HA.out.2.1; have h3 : ¬ d.id = 43 := HI.out.1 ▸ HA.out.2.2.1; have h4 : soundsB d.id = true := HI.out.1 ▸ HA.out.2.2.2; unfold toldK; rw [if_neg (by rintro (h | h); exact h1 h.1; exact h2 h), if_neg h3, if_pos h4]
  exact ⟨q2, .inr (.inr ⟨by rw [hK]; decide, by rw [hK, HH.out.2.2.2.2.2.2.2.1] <;> rfl, by rw [HH.out.2.2.2.2.2.2.2.1]; exact q1⟩)⟩
set_option maxRecDepth 100000 in
set_option maxHeartbeats 8000000 in
theorem hereL_any (w : World) (g mb : Nat) (LA : Option Addr) (ln lc : Nat) (bs : List WB) (s : WS) (d : WB) (v2 v3 v4 v5 v6 v7 v9 v10 v11 v12 : Value) (TA : Option Addr) (tn tc : Nat) (IA : Option Addr) (ic : Nat) (v15 v16 v17 : Value) (I pz : Int) (hI : I = d.id) (hpz : pz = d.pz) (h : WalkAt w g mb LA ln lc bs s) (hok : s.ok bs) (hf : Fine bs) (hln : bs.length = ln) (hlt : s.at_ < ln) (hd : d = atB bs s.at_) (hT : RdP w (fun b => b ≠ g ∧ b ≠ mb ∧ b < w.heap.size) 1 TA tn (d.ts.map (Value.int .i64))) (hA : I ≠ 32 ∧ I ≠ 42 ∧ I ≠ 43 ∧ soundsB I = false) :
    Calls Tryz.prog 176 #[.pointer (some ⟨g, 0, none⟩), .agg #[.int .i64 I, .int .i64 pz, v2, v3, v4, v5, v6, v7, .int .i64 d.ct, v9, v10, v11, v12, .slice TA tn tc, .slice IA d.ns.length ic, v15, v16, v17]] w fun x w' => HereO w w' x g mb LA ln lc bs s := by
  obtain ⟨n, hn⟩ : ∃ n : Nat, s.at_ = (n : Int) := ⟨s.at_.toNat, by have := hok.1; omega⟩
  have hnl : n < ln := by omega
  have hl60 : ln ≤ 300 := by have := hf.1; omega
  have hwn : IntKind.i64.wrap ((n : Int) + 1) = (n : Int) + 1 := by rw [IntKind.wrap_i64]; omega
  have hb2 : Below w.heap.size w ((w.alloc (.cells #[.int .i64 I, .int .i64 pz, v2, v3, v4, v5, v6, v7, .int .i64 d.ct, v9, v10, v11, v12, .slice TA tn tc, .slice IA d.ns.length ic, v15, v16, v17] 34)).alloc (.cells #[.int .i64 0, .int .i64 0, .int .i64 0] 215)) := ((Below.refl _ _).alloc (Nat.le_refl _) _).alloc (by simp) _
  have hP : Blk ((w.alloc (.cells #[.int .i64 I, .int .i64 pz, v2, v3, v4, v5, v6, v7, .int .i64 d.ct, v9, v10, v11, v12, .slice TA tn tc, .slice IA d.ns.length ic, v15, v16, v17] 34)).alloc (.cells #[.int .i64 0, .int .i64 0, .int .i64 0] 215)) w.heap.size 34 #[.int .i64 I, .int .i64 pz, v2, v3, v4, v5, v6, v7, .int .i64 d.ct, v9, v10, v11, v12, .slice TA tn tc, .slice IA d.ns.length ic, v15, v16, v17] := (Blk.new w _ _).alloc _
  have hQ : Blk ((w.alloc (.cells #[.int .i64 I, .int .i64 pz, v2, v3, v4, v5, v6, v7, .int .i64 d.ct, v9, v10, v11, v12, .slice TA tn tc, .slice IA d.ns.length ic, v15, v16, v17] 34)).alloc (.cells #[.int .i64 0, .int .i64 0, .int .i64 0] 215)) (w.heap.size + 1) 215 #[.int .i64 0, .int .i64 0, .int .i64 0] := by
    have := Blk.new (w.alloc (.cells #[.int .i64 I, .int .i64 pz, v2, v3, v4, v5, v6, v7, .int .i64 d.ct, v9, v10, v11, v12, .slice TA tn tc, .slice IA d.ns.length ic, v15, v16, v17] 34)) 215 #[.int .i64 0, .int .i64 0, .int .i64 0]
    simpa using this
  have hgl := h.1.lt
  have hml := h.2.1.lt
  have hne := h.2.1.ne h.1
  have HI := Lib.hid (And.intro hI hpz)
  have HH := Lib.hid (And.intro (h.below hb2) (And.intro hb2 (And.intro hP (And.intro hQ (And.intro h (And.intro hok (And.intro hd (And.intro hn (And.intro hf hT)))))))))
  have HN := Lib.hid hln
  clear h hb2 hP hQ hok hf hln hlt hd hn hT hI hpz
  have HA := Lib.hid hA
  clear hA
  go_enter Tryz.func176, Tryz.ntmps176
  go_upto_region 1 with fail
  generalize ((w.alloc (.cells #[.int .i64 I, .int .i64 pz, v2, v3, v4, v5, v6, v7, .int .i64 d.ct, v9, v10, v11, v12, .slice TA tn tc, .slice IA d.ns.length ic, v15, v16, v17] 34)).alloc (.cells #[.int .i64 0, .int .i64 0, .int .i64 0] 215)) = w0 at *
  have hws := Lib.hid HH.out.2.1.size
  have hql := HH.out.2.2.2.1.lt
  have c1 : w0.cell? ⟨g, 1, none⟩ = some (.int .i64 n) := by rw [← HH.out.2.2.2.2.2.2.2.1]; exact (HH.out.1.1.cell 1).trans rfl
  obtain ⟨B, hBd⟩ : ∃ B, B = w0.heap.size := ⟨_, rfl⟩
  have HBD := Lib.hid hBd
  have hB1 : w.heap.size + 1 < B := by omega
  clear hBd hql
  go_upto_region 2 with (first
    | (refine wpList_store_box rfl 215 _ _ rfl w0.heap.size #[.int .i64 0, .int .i64 n, .int .i64 0] rfl rfl 215 #[.int .i64 0, .int .i64 0, .int .i64 0] (Blk.new w0 _ _) stepInfo rfl (by simp [Value.oneCell']) ?_)
    | fail)
  intro w1 hB9 hg9
  rw [← HBD.out] at hB9 hg9 ⊢
  have H1 := Lib.hid (show WalkAt w1 g mb LA ln lc bs s ∧ Mv w w1 g mb ∧ Blk w1 (w.heap.size + 1) 215 #[.int .i64 0, .int .i64 0, .int .i64 0] ∧ Blk w1 w.heap.size 34 #[.int .i64 I, .int .i64 pz, v2, v3, v4, v5, v6, v7, .int .i64 d.ct, v9, v10, v11, v12, .slice TA tn tc, .slice IA d.ns.length ic, v15, v16, v17] ∧ Blk w1 B 215 #[.int .i64 0, .int .i64 n, .int .i64 0] ∧ Below w.heap.size w w1 from
    have hba : Below w.heap.size w (w0.alloc (.cells #[.int .i64 0, .int .i64 0, .int .i64 0] 215)) := HH.out.2.1.alloc hws.out _
    have hb1 : Below w.heap.size w w1 := hba.grown hg9 (by have := hba.size; omega) (fun k e => by injection e with e; omega)
    ⟨HH.out.2.2.2.2.1.below hb1, Mv.of_below hb1, (HH.out.2.2.2.1.alloc _).grown hg9 (fun e => by injection e with e; omega), (HH.out.2.2.1.alloc _).grown hg9 (fun e => by injection e with e; omega), hB9, hb1⟩)
  clear hB9 hg9 c1
  have p0 : w1.cell? ⟨w.heap.size, 0, none⟩ = some (.int .i64 I) := (H1.out.2.2.2.1.cell 0).trans rfl
  have p1 : w1.cell? ⟨w.heap.size, 1, none⟩ = some (.int .i64 pz) := (H1.out.2.2.2.1.cell 1).trans rfl
  have h32 : (I == 32) = false := by simpa using HA.out.1
  have h42 : (I == 42) = false := by simpa using HA.out.2.1
  have h43 : (I == 43) = false := by simpa using HA.out.2.2.1
  have hs := sounds_any w1 I
  go_wp2_with fail
  rw [show soundsB I = false from HA.out.2.2.2] at hs
  refine hs.mono ?_
  rintro _ _ ⟨rfl, rfl⟩
  clear hs
  clear h32 h42 h43 p0 p1
  have hP1 := H1.out.2.2.2.1
  go_wp2_with (first
    | (refine wpList_load_box rfl 34 _ rfl w.heap.size rfl 34 #[.int .i64 I, .int .i64 pz, v2, v3, v4, v5, v6, v7, .int .i64 d.ct, v9, v10, v11, v12, .slice TA tn tc, .slice IA d.ns.length ic, v15, v16, v17] hP1 _ Tryz.underlying34 rfl blkInfo (fun (_ : Hid _) => ?_))
    | fail)
  have hle := leads_any w1 g mb LA ln lc bs s d v2 v3 v4 v5 v6 v7 v9 v10 v11 v12 TA tn tc IA ic v15 v16 v17 H1.out.1 HH.out.2.2.2.2.2.1 HH.out.2.2.2.2.2.2.2.2.1 HN.out (by rw [HH.out.2.2.2.2.2.2.2.1]; omega) HH.out.2.2.2.2.2.2.1 (HH.out.2.2.2.2.2.2.2.2.2.keep (fun b hp => H1.out.2.2.2.2.2.block b hp.2.2) (fun b hp => ⟨hp.1, hp.2.1, by have := hp.2.2; have := H1.out.2.2.2.2.2.size; omega⟩))
  rw [← HI.out.1, ← HI.out.2] at hle
  refine hle.mono ?_
  clear hle hP1
  rintro x w8 ⟨hM8, ⟨he, rfl, hW8⟩ | ⟨he, rfl, hW8⟩⟩
  · have H8 := Lib.hid (And.intro hM8 (And.intro he hW8))
    clear hM8 he hW8
    have hQ8 : Blk w8 (w.heap.size + 1) 215 #[.int .i64 0, .int .i64 0, .int .i64 0] := (H8.out.1.block _ H1.out.2.2.1.lt (by omega) (by omega)).trans H1.out.2.2.1
    go_wp2_with (first
      | (refine wpList_store_box rfl 215 _ _ rfl (w.heap.size + 1) #[.int .i64 0, .int .i64 0, .int .i64 0] rfl rfl 215 #[.int .i64 0, .int .i64 0, .int .i64 0] hQ8 stepInfo rfl (by simp [Value.oneCell']) ?_)
      | fail)
    intro w9 hB9 hg9
    have H9 := Lib.hid hg9
    clear hg9 hQ8
    go_wp2_with fail
    refine bodyPost_ret (results_cell_tmp9 rfl _ _ (w.heap.size + 1) 215 _ (0, 0) _ rfl hB9 Tryz.underlying215 rfl stepInfo) rfl ?_
    obtain ⟨q1, q2⟩ := lead_fin HH.out.2.2.2.2.1 H8.out.2.2 (H1.out.2.1.trans H8.out.1) H9.out
    have hK : toldK (atB bs s.at_) = 3 := by rw [← HH.out.2.2.2.2.2.2.1]; exact by have h1 : ¬ d.id = 32 := HI.out.1 ▸ HA.out.1; have h2 : ¬ d.id = 42 := HI.out.1 ▸ HA.out.2.1; have h3 : ¬ d.id = 43 := HI.out.1 ▸ HA.out.2.2.1; have h4 : soundsB d.id = false := HI.out.1 ▸ HA.out.2.2.2; unfold toldK; rw [if_neg (by rintro (h | h); exact h1 h.1; exact h2 h), if_neg h3, if_neg (by rw [h4]; decide)]
    exact ⟨q2, .inl ⟨hK, H8.out.2.1, rfl, q1⟩⟩
  · have H8 := Lib.hid (And.intro hM8 (And.intro he hW8))
    clear hM8 he hW8
    generalize hle : leadE bs s = le at *
    have HLE := Lib.hid hle
    clear hle
    have hQ8 : Blk w8 (w.heap.size + 1) 215 #[.int .i64 0, .int .i64 0, .int .i64 0] := (H8.out.1.block _ H1.out.2.2.1.lt (by omega) (by omega)).trans H1.out.2.2.1
    go_wp2_with (first
      | (refine wpList_store_box rfl 215 _ _ rfl (w.heap.size + 1) #[.int .i64 4, .int .i64 s.at_, .int .i64 le] rfl rfl 215 #[.int .i64 0, .int .i64 0, .int .i64 0] hQ8 stepInfo rfl (by simp [Value.oneCell']) ?_)
      | fail)
    intro w9 hB9 hg9
    have H9 := Lib.hid hg9
    clear hg9 hQ8
    go_wp2_with fail
    refine bodyPost_ret (results_cell_tmp9 rfl _ _ (w.heap.size + 1) 215 _ (0, 0) _ rfl hB9 Tryz.underlying215 rfl stepInfo) rfl ?_
    obtain ⟨q1, q2⟩ := lead_fin HH.out.2.2.2.2.1 H8.out.2.2 (H1.out.2.1.trans H8.out.1) H9.out
    have hK : toldK (atB bs s.at_) = 3 := by rw [← HH.out.2.2.2.2.2.2.1]; exact by have h1 : ¬ d.id = 32 := HI.out.1 ▸ HA.out.1; have h2 : ¬ d.id = 42 := HI.out.1 ▸ HA.out.2.1; have h3 : ¬ d.id = 43 := HI.out.1 ▸ HA.out.2.2.1; have h4 : soundsB d.id = false := HI.out.1 ▸ HA.out.2.2.2; unfold toldK; rw [if_neg (by rintro (h | h); exact h1 h.1; exact h2 h), if_neg h3, if_neg (by rw [h4]; decide)]
    refine ⟨q2, .inr (.inl ⟨hK, ?_, ?_, ?_⟩)⟩
    · rw [HLE.out]; exact H8.out.2.1
    · rw [HLE.out] <;> rfl
    · rw [HLE.out]; exact q1
theorem here_any (w : World) (g mb : Nat) (LA : Option Addr) (ln lc : Nat) (bs : List WB) (s : WS) (d : WB) (v2 v3 v4 v5 v6 v7 v9 v10 v11 v12 : Value) (TA : Option Addr) (tn tc : Nat) (IA : Option Addr) (ic : Nat) (v15 v16 v17 : Value) (h : WalkAt w g mb LA ln lc bs s) (hok : s.ok bs) (hf : Fine bs) (hln : bs.length = ln) (hlt : s.at_ < ln) (hd : d = atB bs s.at_) (hT : RdP w (fun b => b ≠ g ∧ b ≠ mb ∧ b < w.heap.size) 1 TA tn (d.ts.map (Value.int .i64))) :
    Calls Tryz.prog 176 #[.pointer (some ⟨g, 0, none⟩), .agg #[.int .i64 d.id, .int .i64 d.pz, v2, v3, v4, v5, v6, v7, .int .i64 d.ct, v9, v10, v11, v12, .slice TA tn tc, .slice IA d.ns.length ic, v15, v16, v17]] w fun x w' => HereO w w' x g mb LA ln lc bs s := by
  by_cases h32 : d.id = 32
  · by_cases hp : d.pz = 0
    · exact here32_any w g mb LA ln lc bs s d v2 v3 v4 v5 v6 v7 v9 v10 v11 v12 TA tn tc IA ic v15 v16 v17 d.id d.pz rfl rfl h hok hf hln hlt hd hT ⟨h32, hp⟩
    · exact hereS32_any w g mb LA ln lc bs s d v2 v3 v4 v5 v6 v7 v9 v10 v11 v12 TA tn tc IA ic v15 v16 v17 d.id d.pz rfl rfl h hok hf hln hlt hd hT ⟨h32, hp⟩
  · by_cases h42 : d.id = 42
    · exact here42_any w g mb LA ln lc bs s d v2 v3 v4 v5 v6 v7 v9 v10 v11 v12 TA tn tc IA ic v15 v16 v17 d.id d.pz rfl rfl h hok hf hln hlt hd hT h42
    · by_cases h43 : d.id = 43
      · exact here43_any w g mb LA ln lc bs s d v2 v3 v4 v5 v6 v7 v9 v10 v11 v12 TA tn tc IA ic v15 v16 v17 d.id d.pz rfl rfl h hok hf hln hlt hd hT h43
      · cases hs : soundsB d.id with
        | true => exact hereS_any w g mb LA ln lc bs s d v2 v3 v4 v5 v6 v7 v9 v10 v11 v12 TA tn tc IA ic v15 v16 v17 d.id d.pz rfl rfl h hok hf hln hlt hd hT ⟨h32, h42, h43, hs⟩
        | false => exact hereL_any w g mb LA ln lc bs s d v2 v3 v4 v5 v6 v7 v9 v10 v11 v12 TA tn tc IA ic v15 v16 v17 d.id d.pz rfl rfl h hok hf hln hlt hd hT ⟨h32, h42, h43, hs⟩
end Go.Proofs.YtnlaedfnifimkaaGreat
