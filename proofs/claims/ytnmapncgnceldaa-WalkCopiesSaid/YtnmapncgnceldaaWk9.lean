/- Layer 24: contracts of where a loop's end, a call, a return lead. -/
import Derived.Test.YtnmapncgnceldaaWk8
import Derived.Deep.RegionHeld3
import Derived.Deep.QuietTactic
import Derived.BigQuiet
namespace Go.Proofs.Ytnmapncgnceldaa
open Go.RowKit


set_option maxRecDepth 100000 in
set_option maxHeartbeats 8000000 in
theorem lead37_any (w : World) (g mb : Nat) (LA : Option Addr) (ln lc : Nat) (bs : List WB) (s : WS) (d : WB) (v2 v3 v4 v5 v6 v7 v9 v10 v11 v12 : Value) (TA : Option Addr) (tn tc : Nat) (IA : Option Addr) (ic : Nat) (v15 v16 v17 : Value) (h : WalkAt w g mb LA ln lc bs s) (hok : s.ok bs) (hf : Fine bs) (hln : bs.length = ln) (hlt : s.at_ < ln) (hd : d = atB bs s.at_) (hid : d.id = 37) (hT : RdP w (fun b => b ≠ g ∧ b ≠ mb ∧ b < w.heap.size) 1 TA tn (d.ts.map (Value.int .i64))) :
    Calls Try.prog 29 #[.pointer (some ⟨g, 0, none⟩), .agg #[.int .i64 d.id, .int .i64 d.pz, v2, v3, v4, v5, v6, v7, .int .i64 d.ct, v9, v10, v11, v12, .slice TA tn tc, .slice IA d.ns.length ic, v15, v16, v17]] w fun x w' => LeadO w w' x g mb LA ln lc bs s := by
  rw [hid]
  have HI := Lib.hid hid
  clear hid
  obtain ⟨n, hn⟩ : ∃ n : Nat, s.at_ = (n : Int) := ⟨s.at_.toNat, by have := hok.1; omega⟩
  have hnl : n < ln := by omega
  have hl60 : ln ≤ 60 := by have := hf.1; omega
  have hdn : d = bs.getD n default := by rw [hd, hn]; rfl
  have hfn := hf.2 n (by omega)
  rw [← hdn] at hfn
  have hwn : IntKind.i64.wrap ((n : Int) + 1) = (n : Int) + 1 := by rw [IntKind.wrap_i64]; omega
  have hn0 : (0 : Int) ≤ (n : Int) := Int.natCast_nonneg _
  have hb2 : Below w.heap.size w ((w.alloc (.cells #[.int .i64 37, .int .i64 d.pz, v2, v3, v4, v5, v6, v7, .int .i64 d.ct, v9, v10, v11, v12, .slice TA tn tc, .slice IA d.ns.length ic, v15, v16, v17] 45)).alloc (.cells #[.int .i64 0, .int .i64 0, .int .i64 0] 36)) := ((Below.refl _ _).alloc (Nat.le_refl _) _).alloc (by simp) _
  have hP : Blk ((w.alloc (.cells #[.int .i64 37, .int .i64 d.pz, v2, v3, v4, v5, v6, v7, .int .i64 d.ct, v9, v10, v11, v12, .slice TA tn tc, .slice IA d.ns.length ic, v15, v16, v17] 45)).alloc (.cells #[.int .i64 0, .int .i64 0, .int .i64 0] 36)) w.heap.size 45 #[.int .i64 37, .int .i64 d.pz, v2, v3, v4, v5, v6, v7, .int .i64 d.ct, v9, v10, v11, v12, .slice TA tn tc, .slice IA d.ns.length ic, v15, v16, v17] := (Blk.new w _ _).alloc _
  have hQ : Blk ((w.alloc (.cells #[.int .i64 37, .int .i64 d.pz, v2, v3, v4, v5, v6, v7, .int .i64 d.ct, v9, v10, v11, v12, .slice TA tn tc, .slice IA d.ns.length ic, v15, v16, v17] 45)).alloc (.cells #[.int .i64 0, .int .i64 0, .int .i64 0] 36)) (w.heap.size + 1) 36 #[.int .i64 0, .int .i64 0, .int .i64 0] := by
    have := Blk.new (w.alloc (.cells #[.int .i64 37, .int .i64 d.pz, v2, v3, v4, v5, v6, v7, .int .i64 d.ct, v9, v10, v11, v12, .slice TA tn tc, .slice IA d.ns.length ic, v15, v16, v17] 45)) 36 #[.int .i64 0, .int .i64 0, .int .i64 0]
    simpa using this
  have hgl := h.1.lt
  have hml := h.2.1.lt
  have hne := h.2.1.ne h.1
  have HH := Lib.hid (And.intro (h.below hb2) (And.intro hb2 (And.intro hP (And.intro hQ (And.intro h (And.intro hok (And.intro hd (And.intro hn (And.intro hfn hT)))))))))
  have HN := Lib.hid hln
  clear h hb2 hP hQ hok hf hln hlt hd hn hdn hfn hT
  go_enter Try.func29, Try.ntmps29
  go_upto_region 1 with fail
  generalize ((w.alloc (.cells #[.int .i64 37, .int .i64 d.pz, v2, v3, v4, v5, v6, v7, .int .i64 d.ct, v9, v10, v11, v12, .slice TA tn tc, .slice IA d.ns.length ic, v15, v16, v17] 45)).alloc (.cells #[.int .i64 0, .int .i64 0, .int .i64 0] 36)) = w0 at *
  have hws := HH.out.2.1.size
  have hql := HH.out.2.2.2.1.lt
  have c1 : w0.cell? ⟨g, 1, none⟩ = some (.int .i64 n) := by rw [← HH.out.2.2.2.2.2.2.2.1]; exact (HH.out.1.1.cell 1).trans rfl
  have f1 : w0.frozen? ⟨g, 1, none⟩ = false := HH.out.1.1.frozen 1
  have p0 : w0.cell? ⟨w.heap.size, 0, none⟩ = some (.int .i64 37) := (HH.out.2.2.1.cell 0).trans rfl
  have c2 : w0.cell? ⟨g, 2, none⟩ = some (.bool s.on) := (HH.out.1.1.cell 2).trans rfl
  have f2 : w0.frozen? ⟨g, 2, none⟩ = false := HH.out.1.1.frozen 2
  have c3 : w0.cell? ⟨g, 3, none⟩ = some (.bool s.heard) := (HH.out.1.1.cell 3).trans rfl
  have f3 : w0.frozen? ⟨g, 3, none⟩ = false := HH.out.1.1.frozen 3
  have c4 : w0.cell? ⟨g, 4, none⟩ = some (.int .i64 s.frm) := (HH.out.1.1.cell 4).trans rfl
  have f4 : w0.frozen? ⟨g, 4, none⟩ = false := HH.out.1.1.frozen 4
  have c5 : w0.cell? ⟨g, 5, none⟩ = some (.int .i64 s.times) := (HH.out.1.1.cell 5).trans rfl
  have f5 : w0.frozen? ⟨g, 5, none⟩ = false := HH.out.1.1.frozen 5
  obtain ⟨_, _, hon, _, ht0, ht1, _⟩ := HH.out.2.2.2.2.2.1
  have hwt : 0 < s.times → IntKind.i64.wrap (s.times - 1) = s.times - 1 := fun h => by rw [IntKind.wrap_i64]; omega
  cases hso : s.on with
  | false =>
    have HSO := Lib.hid hso
    rw [hso] at c2
    clear hso
    have HZ := Lib.hid (And.intro HH.out.1 (And.intro (Mv.of_below HH.out.2.1 : Mv w w0 g mb) HH.out.2.2.2.1))
    clear c3 f3 c4 f4 c5 f5
    clear hwt
    have hfl := fault_any w0 g mb LA ln lc bs s 6 HZ.out.1
    go_wp2_with fail
    refine hfl.mono ?_
    rintro x w8 ⟨rfl, hW8, hM8⟩
    clear hfl
    have hQ8 : Blk w8 (w.heap.size + 1) 36 #[.int .i64 0, .int .i64 0, .int .i64 0] := (hM8.block _ HZ.out.2.2.lt (by omega) (by omega)).trans HZ.out.2.2
    have H8 := Lib.hid (And.intro hW8 (HZ.out.2.1.trans hM8))
    clear hW8 hM8
    go_wp2_with (first
      | (refine wpList_store_box rfl 36 _ _ rfl (w.heap.size + 1) #[.int .i64 4, .int .i64 s.at_, .int .i64 6] rfl rfl 36 #[.int .i64 0, .int .i64 0, .int .i64 0] hQ8 stepInfo rfl (by simp [Value.oneCell']) ?_)
      | fail)
    intro w9 hB9 hg9
    have H9 := Lib.hid hg9
    clear hg9 hQ8
    go_wp2_with fail
    refine bodyPost_ret (results_cell_tmp9 rfl _ _ (w.heap.size + 1) 36 _ (0, 0) _ rfl hB9 Try.underlying36 rfl stepInfo) rfl ?_
    obtain ⟨q1, q2⟩ := lead_fin HH.out.2.2.2.2.1 H8.out.1 H8.out.2 H9.out
    have hle : leadE bs s = 6 := by unfold leadE; rw [← HH.out.2.2.2.2.2.2.1, if_neg (by rw [HI.out]; decide), if_pos HI.out, if_pos HSO.out]
    exact ⟨q2, .inr ⟨by rw [hle]; decide, by rw [hle] <;> rfl, by rw [hle]; exact q1⟩⟩
  | true =>
    have HSO := Lib.hid hso
    rw [hso] at c2
    clear hso
    by_cases hts : 0 < s.times
    · cases hhd : s.heard with
      | true =>
        have hwt2 := hwt hts
        clear hwt
        rw [hhd] at c3
        have HHD := Lib.hid hhd
        clear hhd
        have HZ := Lib.hid (show WalkAt ((w0.setCell ⟨g, 5, none⟩ (.int .i64 (s.times - 1))).setCell ⟨g, 3, none⟩ (.bool false)) g mb LA ln lc bs { s with times := s.times - 1, heard := false } ∧ Mv w ((w0.setCell ⟨g, 5, none⟩ (.int .i64 (s.times - 1))).setCell ⟨g, 3, none⟩ (.bool false)) g mb ∧ Blk ((w0.setCell ⟨g, 5, none⟩ (.int .i64 (s.times - 1))).setCell ⟨g, 3, none⟩ (.bool false)) (w.heap.size + 1) 36 #[.int .i64 0, .int .i64 0, .int .i64 0] from ⟨(HH.out.1.set_ (s' := { s with times := s.times - 1 }) _ rfl rfl).set_ _ rfl rfl, ((Mv.of_below HH.out.2.1 : Mv w w0 g mb).set_ _).set_ _, (HH.out.2.2.2.1.far (by show w.heap.size + 1 ≠ g; omega) _).far (by show w.heap.size + 1 ≠ g; omega) _⟩)
        go_upto_region 28 with fail
        clear c1 f1
        clear c2 f2 c3 f3 c4 f4 c5 f5
        generalize (w0.setCell ⟨g, 5, none⟩ (.int .i64 (s.times - 1))).setCell ⟨g, 3, none⟩ (.bool false) = wz at *
        have hwz := HZ.out.1.1.lt
        have d1 : wz.cell? ⟨g, 1, none⟩ = some (.int .i64 n) := (HZ.out.1.1.cell 1).trans (by show some (Value.int .i64 s.at_) = some (Value.int .i64 (n : Int)); rw [HH.out.2.2.2.2.2.2.2.1])
        have e1 : wz.frozen? ⟨g, 1, none⟩ = false := HZ.out.1.1.frozen 1
        go_upto_region 29 with fail
        have HY := Lib.hid (show WalkAt (wz.setCell ⟨g, 1, none⟩ (.int .i64 (s.frm))) g mb LA ln lc bs { s with times := s.times - 1, heard := false, at_ := s.frm } ∧ Mv w (wz.setCell ⟨g, 1, none⟩ (.int .i64 (s.frm))) g mb ∧ Blk (wz.setCell ⟨g, 1, none⟩ (.int .i64 (s.frm))) (w.heap.size + 1) 36 #[.int .i64 0, .int .i64 0, .int .i64 0] from ⟨HZ.out.1.set_ _ rfl rfl, HZ.out.2.1.set_ _, HZ.out.2.2.far (by show w.heap.size + 1 ≠ g; omega) _⟩)
        clear d1 e1
        generalize wz.setCell ⟨g, 1, none⟩ (.int .i64 (s.frm)) = wy at *
        have hQy := HY.out.2.2
        go_wp2_with (first
          | (refine wpList_store_box rfl 36 _ _ rfl (w.heap.size + 1) #[.int .i64 0, .int .i64 0, .int .i64 0] rfl rfl 36 #[.int .i64 0, .int .i64 0, .int .i64 0] hQy stepInfo rfl (by simp [Value.oneCell']) ?_)
          | fail)
        intro w9 hB9 hg9
        have H9 := Lib.hid hg9
        clear hg9 hQy
        go_wp2_with fail
        refine bodyPost_ret (results_cell_tmp9 rfl _ _ (w.heap.size + 1) 36 _ (0, 0) _ rfl hB9 Try.underlying36 rfl stepInfo) rfl ?_
        obtain ⟨q1, q2⟩ := lead_fin HH.out.2.2.2.2.1 HY.out.1 HY.out.2.1 H9.out
        refine ⟨q2, .inl ⟨by unfold leadE; rw [← HH.out.2.2.2.2.2.2.1, if_neg (by rw [HI.out]; decide), if_pos HI.out, if_neg (by rw [HSO.out]; decide)], rfl, ?_⟩⟩
        rw [show leadS bs s = { s with times := s.times - 1, heard := false, at_ := s.frm } from by unfold leadS; rw [← HH.out.2.2.2.2.2.2.1, if_neg (by rw [HI.out]; decide), if_neg (by rw [HI.out]; decide), if_pos HI.out, if_pos ⟨hts, HHD.out⟩]]
        exact q1
      | false =>
        have HHD := Lib.hid hhd
        rw [hhd] at c3
        clear hhd hwt
        have HZ := Lib.hid (show WalkAt ((((w0.setCell ⟨g, 2, none⟩ (.bool false)).setCell ⟨g, 3, none⟩ (.bool false)).setCell ⟨g, 4, none⟩ (.int .i64 0)).setCell ⟨g, 5, none⟩ (.int .i64 0)) g mb LA ln lc bs { s with on := false, heard := false, frm := 0, times := 0 } ∧ Mv w ((((w0.setCell ⟨g, 2, none⟩ (.bool false)).setCell ⟨g, 3, none⟩ (.bool false)).setCell ⟨g, 4, none⟩ (.int .i64 0)).setCell ⟨g, 5, none⟩ (.int .i64 0)) g mb ∧ Blk ((((w0.setCell ⟨g, 2, none⟩ (.bool false)).setCell ⟨g, 3, none⟩ (.bool false)).setCell ⟨g, 4, none⟩ (.int .i64 0)).setCell ⟨g, 5, none⟩ (.int .i64 0)) (w.heap.size + 1) 36 #[.int .i64 0, .int .i64 0, .int .i64 0] from ⟨(((HH.out.1.set_ (s' := { s with on := false }) _ rfl rfl).set_ (s' := { s with on := false, heard := false }) _ rfl rfl).set_ (s' := { s with on := false, heard := false, frm := 0 }) _ rfl rfl).set_ _ rfl rfl, ((((Mv.of_below HH.out.2.1 : Mv w w0 g mb).set_ _).set_ _).set_ _).set_ _, (((HH.out.2.2.2.1.far (by show w.heap.size + 1 ≠ g; omega) _).far (by show w.heap.size + 1 ≠ g; omega) _).far (by show w.heap.size + 1 ≠ g; omega) _).far (by show w.heap.size + 1 ≠ g; omega) _⟩)
        go_upto_region 28 with fail
        clear c1 f1
        clear c2 f2 c3 f3 c4 f4 c5 f5
        generalize (((w0.setCell ⟨g, 2, none⟩ (.bool false)).setCell ⟨g, 3, none⟩ (.bool false)).setCell ⟨g, 4, none⟩ (.int .i64 0)).setCell ⟨g, 5, none⟩ (.int .i64 0) = wz at *
        have hwz := HZ.out.1.1.lt
        have d1 : wz.cell? ⟨g, 1, none⟩ = some (.int .i64 n) := (HZ.out.1.1.cell 1).trans (by show some (Value.int .i64 s.at_) = some (Value.int .i64 (n : Int)); rw [HH.out.2.2.2.2.2.2.2.1])
        have e1 : wz.frozen? ⟨g, 1, none⟩ = false := HZ.out.1.1.frozen 1
        go_upto_region 29 with fail
        have HY := Lib.hid (show WalkAt (wz.setCell ⟨g, 1, none⟩ (.int .i64 ((n : Int) + 1))) g mb LA ln lc bs { s with on := false, heard := false, frm := 0, times := 0, at_ := (n : Int) + 1 } ∧ Mv w (wz.setCell ⟨g, 1, none⟩ (.int .i64 ((n : Int) + 1))) g mb ∧ Blk (wz.setCell ⟨g, 1, none⟩ (.int .i64 ((n : Int) + 1))) (w.heap.size + 1) 36 #[.int .i64 0, .int .i64 0, .int .i64 0] from ⟨HZ.out.1.set_ _ rfl rfl, HZ.out.2.1.set_ _, HZ.out.2.2.far (by show w.heap.size + 1 ≠ g; omega) _⟩)
        clear d1 e1
        generalize wz.setCell ⟨g, 1, none⟩ (.int .i64 ((n : Int) + 1)) = wy at *
        have hQy := HY.out.2.2
        go_wp2_with (first
          | (refine wpList_store_box rfl 36 _ _ rfl (w.heap.size + 1) #[.int .i64 0, .int .i64 0, .int .i64 0] rfl rfl 36 #[.int .i64 0, .int .i64 0, .int .i64 0] hQy stepInfo rfl (by simp [Value.oneCell']) ?_)
          | fail)
        intro w9 hB9 hg9
        have H9 := Lib.hid hg9
        clear hg9 hQy
        go_wp2_with fail
        refine bodyPost_ret (results_cell_tmp9 rfl _ _ (w.heap.size + 1) 36 _ (0, 0) _ rfl hB9 Try.underlying36 rfl stepInfo) rfl ?_
        obtain ⟨q1, q2⟩ := lead_fin HH.out.2.2.2.2.1 HY.out.1 HY.out.2.1 H9.out
        refine ⟨q2, .inl ⟨by unfold leadE; rw [← HH.out.2.2.2.2.2.2.1, if_neg (by rw [HI.out]; decide), if_pos HI.out, if_neg (by rw [HSO.out]; decide)], rfl, ?_⟩⟩
        rw [show leadS bs s = { s with on := false, heard := false, frm := 0, times := 0, at_ := (n : Int) + 1 } from by unfold leadS; rw [← HH.out.2.2.2.2.2.2.1, if_neg (by rw [HI.out]; decide), if_neg (by rw [HI.out]; decide), if_pos HI.out, if_neg (fun h => by rw [HHD.out] at h; exact absurd h.2 (by decide)), HH.out.2.2.2.2.2.2.2.1]]
        exact q1
    · clear hwt
      have HZ := Lib.hid (show WalkAt ((((w0.setCell ⟨g, 2, none⟩ (.bool false)).setCell ⟨g, 3, none⟩ (.bool false)).setCell ⟨g, 4, none⟩ (.int .i64 0)).setCell ⟨g, 5, none⟩ (.int .i64 0)) g mb LA ln lc bs { s with on := false, heard := false, frm := 0, times := 0 } ∧ Mv w ((((w0.setCell ⟨g, 2, none⟩ (.bool false)).setCell ⟨g, 3, none⟩ (.bool false)).setCell ⟨g, 4, none⟩ (.int .i64 0)).setCell ⟨g, 5, none⟩ (.int .i64 0)) g mb ∧ Blk ((((w0.setCell ⟨g, 2, none⟩ (.bool false)).setCell ⟨g, 3, none⟩ (.bool false)).setCell ⟨g, 4, none⟩ (.int .i64 0)).setCell ⟨g, 5, none⟩ (.int .i64 0)) (w.heap.size + 1) 36 #[.int .i64 0, .int .i64 0, .int .i64 0] from ⟨(((HH.out.1.set_ (s' := { s with on := false }) _ rfl rfl).set_ (s' := { s with on := false, heard := false }) _ rfl rfl).set_ (s' := { s with on := false, heard := false, frm := 0 }) _ rfl rfl).set_ _ rfl rfl, ((((Mv.of_below HH.out.2.1 : Mv w w0 g mb).set_ _).set_ _).set_ _).set_ _, (((HH.out.2.2.2.1.far (by show w.heap.size + 1 ≠ g; omega) _).far (by show w.heap.size + 1 ≠ g; omega) _).far (by show w.heap.size + 1 ≠ g; omega) _).far (by show w.heap.size + 1 ≠ g; omega) _⟩)
      go_upto_region 28 with fail
      clear c1 f1
      clear c2 f2 c3 f3 c4 f4 c5 f5
      generalize (((w0.setCell ⟨g, 2, none⟩ (.bool false)).setCell ⟨g, 3, none⟩ (.bool false)).setCell ⟨g, 4, none⟩ (.int .i64 0)).setCell ⟨g, 5, none⟩ (.int .i64 0) = wz at *
      have hwz := HZ.out.1.1.lt
      have d1 : wz.cell? ⟨g, 1, none⟩ = some (.int .i64 n) := (HZ.out.1.1.cell 1).trans (by show some (Value.int .i64 s.at_) = some (Value.int .i64 (n : Int)); rw [HH.out.2.2.2.2.2.2.2.1])
      have e1 : wz.frozen? ⟨g, 1, none⟩ = false := HZ.out.1.1.frozen 1
      go_upto_region 29 with fail
      have HY := Lib.hid (show WalkAt (wz.setCell ⟨g, 1, none⟩ (.int .i64 ((n : Int) + 1))) g mb LA ln lc bs { s with on := false, heard := false, frm := 0, times := 0, at_ := (n : Int) + 1 } ∧ Mv w (wz.setCell ⟨g, 1, none⟩ (.int .i64 ((n : Int) + 1))) g mb ∧ Blk (wz.setCell ⟨g, 1, none⟩ (.int .i64 ((n : Int) + 1))) (w.heap.size + 1) 36 #[.int .i64 0, .int .i64 0, .int .i64 0] from ⟨HZ.out.1.set_ _ rfl rfl, HZ.out.2.1.set_ _, HZ.out.2.2.far (by show w.heap.size + 1 ≠ g; omega) _⟩)
      clear d1 e1
      generalize wz.setCell ⟨g, 1, none⟩ (.int .i64 ((n : Int) + 1)) = wy at *
      have hQy := HY.out.2.2
      go_wp2_with (first
        | (refine wpList_store_box rfl 36 _ _ rfl (w.heap.size + 1) #[.int .i64 0, .int .i64 0, .int .i64 0] rfl rfl 36 #[.int .i64 0, .int .i64 0, .int .i64 0] hQy stepInfo rfl (by simp [Value.oneCell']) ?_)
        | fail)
      intro w9 hB9 hg9
      have H9 := Lib.hid hg9
      clear hg9 hQy
      go_wp2_with fail
      refine bodyPost_ret (results_cell_tmp9 rfl _ _ (w.heap.size + 1) 36 _ (0, 0) _ rfl hB9 Try.underlying36 rfl stepInfo) rfl ?_
      obtain ⟨q1, q2⟩ := lead_fin HH.out.2.2.2.2.1 HY.out.1 HY.out.2.1 H9.out
      refine ⟨q2, .inl ⟨by unfold leadE; rw [← HH.out.2.2.2.2.2.2.1, if_neg (by rw [HI.out]; decide), if_pos HI.out, if_neg (by rw [HSO.out]; decide)], rfl, ?_⟩⟩
      rw [show leadS bs s = { s with on := false, heard := false, frm := 0, times := 0, at_ := (n : Int) + 1 } from by unfold leadS; rw [← HH.out.2.2.2.2.2.2.1, if_neg (by rw [HI.out]; decide), if_neg (by rw [HI.out]; decide), if_pos HI.out, if_neg (fun h => absurd h.1 (by omega)), HH.out.2.2.2.2.2.2.2.1]]
      exact q1

set_option maxRecDepth 100000 in
set_option maxHeartbeats 8000000 in
theorem lead38_any (w : World) (g mb : Nat) (LA : Option Addr) (ln lc : Nat) (bs : List WB) (s : WS) (d : WB) (v2 v3 v4 v5 v6 v7 v9 v10 v11 v12 : Value) (TA : Option Addr) (tn tc : Nat) (IA : Option Addr) (ic : Nat) (v15 v16 v17 : Value) (h : WalkAt w g mb LA ln lc bs s) (hok : s.ok bs) (hf : Fine bs) (hln : bs.length = ln) (hlt : s.at_ < ln) (hd : d = atB bs s.at_) (hid : d.id = 38) (hT : RdP w (fun b => b ≠ g ∧ b ≠ mb ∧ b < w.heap.size) 1 TA tn (d.ts.map (Value.int .i64))) :
    Calls Try.prog 29 #[.pointer (some ⟨g, 0, none⟩), .agg #[.int .i64 d.id, .int .i64 d.pz, v2, v3, v4, v5, v6, v7, .int .i64 d.ct, v9, v10, v11, v12, .slice TA tn tc, .slice IA d.ns.length ic, v15, v16, v17]] w fun x w' => LeadO w w' x g mb LA ln lc bs s := by
  rw [hid]
  have HI := Lib.hid hid
  clear hid
  obtain ⟨n, hn⟩ : ∃ n : Nat, s.at_ = (n : Int) := ⟨s.at_.toNat, by have := hok.1; omega⟩
  have hnl : n < ln := by omega
  have hl60 : ln ≤ 60 := by have := hf.1; omega
  have hdn : d = bs.getD n default := by rw [hd, hn]; rfl
  have hfn := hf.2 n (by omega)
  rw [← hdn] at hfn
  have hwn : IntKind.i64.wrap ((n : Int) + 1) = (n : Int) + 1 := by rw [IntKind.wrap_i64]; omega
  have hn0 : (0 : Int) ≤ (n : Int) := Int.natCast_nonneg _
  have hb2 : Below w.heap.size w ((w.alloc (.cells #[.int .i64 38, .int .i64 d.pz, v2, v3, v4, v5, v6, v7, .int .i64 d.ct, v9, v10, v11, v12, .slice TA tn tc, .slice IA d.ns.length ic, v15, v16, v17] 45)).alloc (.cells #[.int .i64 0, .int .i64 0, .int .i64 0] 36)) := ((Below.refl _ _).alloc (Nat.le_refl _) _).alloc (by simp) _
  have hP : Blk ((w.alloc (.cells #[.int .i64 38, .int .i64 d.pz, v2, v3, v4, v5, v6, v7, .int .i64 d.ct, v9, v10, v11, v12, .slice TA tn tc, .slice IA d.ns.length ic, v15, v16, v17] 45)).alloc (.cells #[.int .i64 0, .int .i64 0, .int .i64 0] 36)) w.heap.size 45 #[.int .i64 38, .int .i64 d.pz, v2, v3, v4, v5, v6, v7, .int .i64 d.ct, v9, v10, v11, v12, .slice TA tn tc, .slice IA d.ns.length ic, v15, v16, v17] := (Blk.new w _ _).alloc _
  have hQ : Blk ((w.alloc (.cells #[.int .i64 38, .int .i64 d.pz, v2, v3, v4, v5, v6, v7, .int .i64 d.ct, v9, v10, v11, v12, .slice TA tn tc, .slice IA d.ns.length ic, v15, v16, v17] 45)).alloc (.cells #[.int .i64 0, .int .i64 0, .int .i64 0] 36)) (w.heap.size + 1) 36 #[.int .i64 0, .int .i64 0, .int .i64 0] := by
    have := Blk.new (w.alloc (.cells #[.int .i64 38, .int .i64 d.pz, v2, v3, v4, v5, v6, v7, .int .i64 d.ct, v9, v10, v11, v12, .slice TA tn tc, .slice IA d.ns.length ic, v15, v16, v17] 45)) 36 #[.int .i64 0, .int .i64 0, .int .i64 0]
    simpa using this
  have hgl := h.1.lt
  have hml := h.2.1.lt
  have hne := h.2.1.ne h.1
  have HH := Lib.hid (And.intro (h.below hb2) (And.intro hb2 (And.intro hP (And.intro hQ (And.intro h (And.intro hok (And.intro hd (And.intro hn (And.intro hfn hT)))))))))
  have HN := Lib.hid hln
  clear h hb2 hP hQ hok hf hln hlt hd hn hdn hfn hT
  go_enter Try.func29, Try.ntmps29
  go_upto_region 1 with fail
  generalize ((w.alloc (.cells #[.int .i64 38, .int .i64 d.pz, v2, v3, v4, v5, v6, v7, .int .i64 d.ct, v9, v10, v11, v12, .slice TA tn tc, .slice IA d.ns.length ic, v15, v16, v17] 45)).alloc (.cells #[.int .i64 0, .int .i64 0, .int .i64 0] 36)) = w0 at *
  have hws := HH.out.2.1.size
  have hql := HH.out.2.2.2.1.lt
  have c1 : w0.cell? ⟨g, 1, none⟩ = some (.int .i64 n) := by rw [← HH.out.2.2.2.2.2.2.2.1]; exact (HH.out.1.1.cell 1).trans rfl
  have f1 : w0.frozen? ⟨g, 1, none⟩ = false := HH.out.1.1.frozen 1
  have p0 : w0.cell? ⟨w.heap.size, 0, none⟩ = some (.int .i64 38) := (HH.out.2.2.1.cell 0).trans rfl
  have c6 : w0.cell? ⟨g, 6, none⟩ = some (.bool s.con) := (HH.out.1.1.cell 6).trans rfl
  have f6 : w0.frozen? ⟨g, 6, none⟩ = false := HH.out.1.1.frozen 6
  have c7 : w0.cell? ⟨g, 7, none⟩ = some (.int .i64 s.cfrom) := (HH.out.1.1.cell 7).trans rfl
  have f7 : w0.frozen? ⟨g, 7, none⟩ = false := HH.out.1.1.frozen 7
  have c8 : w0.cell? ⟨g, 8, none⟩ = some (.int .i64 s.cnext) := (HH.out.1.1.cell 8).trans rfl
  have f8 : w0.frozen? ⟨g, 8, none⟩ = false := HH.out.1.1.frozen 8
  have p13 : w0.cell? ⟨w.heap.size, 13, none⟩ = some (.slice TA tn tc) := (HH.out.2.2.1.cell 13).trans rfl
  have htl : d.ts.length = tn := reads_len (HH.out.2.2.2.2.2.2.2.2.2.reads (B := w.heap.size) (fun b h => h.2.2))
  have HTL := Lib.hid htl
  have htn60 : tn ≤ 60 := by have := HH.out.2.2.2.2.2.2.2.2.1.1; omega
  clear htl
  cases hsc : s.con with
  | true =>
    have HSC := Lib.hid hsc
    rw [hsc] at c6
    clear hsc
    have HZ := Lib.hid (And.intro HH.out.1 (And.intro (Mv.of_below HH.out.2.1 : Mv w w0 g mb) HH.out.2.2.2.1))
    clear c7 f7 c8 f8
    clear p13
    have hfl := fault_any w0 g mb LA ln lc bs s 6 HZ.out.1
    go_wp2_with fail
    refine hfl.mono ?_
    rintro x w8 ⟨rfl, hW8, hM8⟩
    clear hfl
    have hQ8 : Blk w8 (w.heap.size + 1) 36 #[.int .i64 0, .int .i64 0, .int .i64 0] := (hM8.block _ HZ.out.2.2.lt (by omega) (by omega)).trans HZ.out.2.2
    have H8 := Lib.hid (And.intro hW8 (HZ.out.2.1.trans hM8))
    clear hW8 hM8
    go_wp2_with (first
      | (refine wpList_store_box rfl 36 _ _ rfl (w.heap.size + 1) #[.int .i64 4, .int .i64 s.at_, .int .i64 6] rfl rfl 36 #[.int .i64 0, .int .i64 0, .int .i64 0] hQ8 stepInfo rfl (by simp [Value.oneCell']) ?_)
      | fail)
    intro w9 hB9 hg9
    have H9 := Lib.hid hg9
    clear hg9 hQ8
    go_wp2_with fail
    refine bodyPost_ret (results_cell_tmp9 rfl _ _ (w.heap.size + 1) 36 _ (0, 0) _ rfl hB9 Try.underlying36 rfl stepInfo) rfl ?_
    obtain ⟨q1, q2⟩ := lead_fin HH.out.2.2.2.2.1 H8.out.1 H8.out.2 H9.out
    have hle : leadE bs s = 6 := by unfold leadE; rw [← HH.out.2.2.2.2.2.2.1, if_neg (by rw [HI.out]; decide), if_neg (by rw [HI.out]; decide), if_pos HI.out, if_pos HSC.out]
    exact ⟨q2, .inr ⟨by rw [hle]; decide, by rw [hle] <;> rfl, by rw [hle]; exact q1⟩⟩
  | false =>
    have HSC := Lib.hid hsc
    rw [hsc] at c6
    clear hsc
    by_cases hts : 0 < tn
    · have hti : (0 : Int) < (tn : Int) := by omega
      obtain ⟨tad, rfl, htb, hx⟩ := i32_at (HH.out.2.2.2.2.2.2.2.2.2.reads (B := w.heap.size) (fun b h => h.2.2)) hts
      have hgt : tad.block ≠ g := by
        obtain ⟨t9, e9, hp9, _⟩ := HH.out.2.2.2.2.2.2.2.2.2.2 (by omega)
        injection e9 with e9
        subst e9
        exact hp9.1
      have hx0 := HH.out.2.2.2.2.2.2.2.2.1.2.2.1 (.inr HI.out) (d.ts.getD 0 0) (getD_mem (by rw [HTL.out]; exact hts))
      obtain ⟨x, hxd⟩ : ∃ x : Int, x = d.ts.getD 0 0 := ⟨_, rfl⟩
      rw [← hxd] at hx hx0
      have HXD := Lib.hid hxd
      clear hxd
      rw [show tad.add 0 = tad from rfl] at hx
      have hxw : w0.cell? tad = some (.int .i64 x) := (HH.out.2.1.cell (p := tad) (by omega)).trans hx
      have hwx : IntKind.i64.wrap ((n : Int) + x) = (n : Int) + x := by rw [IntKind.wrap_i64]; have := HN.out; omega
      go_upto_region 23 with fail
      have hne0 : tad ≠ ⟨g, 6, none⟩ := fun e => hgt (by rw [e])
      have hne1 : tad ≠ ⟨g, 7, none⟩ := fun e => hgt (by rw [e])
      have hne2 : tad ≠ ⟨g, 8, none⟩ := fun e => hgt (by rw [e])
      have q1 : (((w0.setCell ⟨g, 6, none⟩ (.bool true)).setCell ⟨g, 7, none⟩ (.int .i64 n)).setCell ⟨g, 8, none⟩ (.int .i64 1)).cell? tad = some (.int .i64 x) := (World.cell?_of_block (a := tad) ((Below.heap_setCell _ _ _ _ (by show tad.block ≠ g; exact hgt)).trans ((Below.heap_setCell _ _ _ _ (by show tad.block ≠ g; exact hgt)).trans (Below.heap_setCell _ _ _ _ (by show tad.block ≠ g; exact hgt))))).trans hxw
      have HZ := Lib.hid (show WalkAt (((w0.setCell ⟨g, 6, none⟩ (.bool true)).setCell ⟨g, 7, none⟩ (.int .i64 n)).setCell ⟨g, 8, none⟩ (.int .i64 1)) g mb LA ln lc bs { s with con := true, cfrom := (n : Int), cnext := 1 } ∧ Mv w (((w0.setCell ⟨g, 6, none⟩ (.bool true)).setCell ⟨g, 7, none⟩ (.int .i64 n)).setCell ⟨g, 8, none⟩ (.int .i64 1)) g mb ∧ Blk (((w0.setCell ⟨g, 6, none⟩ (.bool true)).setCell ⟨g, 7, none⟩ (.int .i64 n)).setCell ⟨g, 8, none⟩ (.int .i64 1)) (w.heap.size + 1) 36 #[.int .i64 0, .int .i64 0, .int .i64 0] from ⟨((HH.out.1.set_ (s' := { s with con := true }) _ rfl rfl).set_ (s' := { s with con := true, cfrom := (n : Int) }) _ rfl rfl).set_ _ rfl rfl, (((Mv.of_below HH.out.2.1 : Mv w w0 g mb).set_ _).set_ _).set_ _, ((HH.out.2.2.2.1.far (by show w.heap.size + 1 ≠ g; omega) _).far (by show w.heap.size + 1 ≠ g; omega) _).far (by show w.heap.size + 1 ≠ g; omega) _⟩)
      have q2 : (((w0.setCell ⟨g, 6, none⟩ (.bool true)).setCell ⟨g, 7, none⟩ (.int .i64 n)).setCell ⟨g, 8, none⟩ (.int .i64 1)).cell? ⟨w.heap.size, 13, none⟩ = some (.slice (some tad) tn tc) := (((HH.out.2.2.1.far (by show w.heap.size ≠ g; omega) _).far (by show w.heap.size ≠ g; omega) _).far (by show w.heap.size ≠ g; omega) _).cell 13 |>.trans rfl
      have q3 : (((w0.setCell ⟨g, 6, none⟩ (.bool true)).setCell ⟨g, 7, none⟩ (.int .i64 n)).setCell ⟨g, 8, none⟩ (.int .i64 1)).cell? ⟨g, 1, none⟩ = some (.int .i64 n) := (HZ.out.1.1.cell 1).trans (by show some (Value.int .i64 s.at_) = some (Value.int .i64 (n : Int)); rw [HH.out.2.2.2.2.2.2.2.1])
      clear c1 f1 p13 hxw hx hne0 hne1 hne2
      clear c6 f6 c7 f7 c8 f8
      generalize ((w0.setCell ⟨g, 6, none⟩ (.bool true)).setCell ⟨g, 7, none⟩ (.int .i64 n)).setCell ⟨g, 8, none⟩ (.int .i64 1) = wz at *
      go_quiet (fail)
      have HZ2 := Lib.hid (show WalkAt (wz.drewN nq) g mb LA ln lc bs { s with con := true, cfrom := (n : Int), cnext := 1 } ∧ Mv w (wz.drewN nq) g mb ∧ Blk (wz.drewN nq) (w.heap.size + 1) 36 #[.int .i64 0, .int .i64 0, .int .i64 0] from ⟨HZ.out.1.drewN nq, HZ.out.2.1.trans ⟨rfl, rfl, rfl, Nat.le_refl _, fun _ _ _ _ => rfl⟩, HZ.out.2.2⟩)
      clear HZ q1 q2 q3
      have HZ := HZ2
      clear HZ2
      generalize wz.drewN nq = wz2 at *
      have hwz := HZ.out.1.1.lt
      have d1 : wz2.cell? ⟨g, 1, none⟩ = some (.int .i64 n) := (HZ.out.1.1.cell 1).trans (by show some (Value.int .i64 s.at_) = some (Value.int .i64 (n : Int)); rw [HH.out.2.2.2.2.2.2.2.1])
      have e1 : wz2.frozen? ⟨g, 1, none⟩ = false := HZ.out.1.1.frozen 1
      go_upto_region 29 with fail
      have HY := Lib.hid (show WalkAt (wz2.setCell ⟨g, 1, none⟩ (.int .i64 ((n : Int) + x))) g mb LA ln lc bs { s with con := true, cfrom := (n : Int), cnext := 1, at_ := (n : Int) + x } ∧ Mv w (wz2.setCell ⟨g, 1, none⟩ (.int .i64 ((n : Int) + x))) g mb ∧ Blk (wz2.setCell ⟨g, 1, none⟩ (.int .i64 ((n : Int) + x))) (w.heap.size + 1) 36 #[.int .i64 0, .int .i64 0, .int .i64 0] from ⟨HZ.out.1.set_ _ rfl rfl, HZ.out.2.1.set_ _, HZ.out.2.2.far (by show w.heap.size + 1 ≠ g; omega) _⟩)
      clear d1 e1
      generalize wz2.setCell ⟨g, 1, none⟩ (.int .i64 ((n : Int) + x)) = wy at *
      have hQy := HY.out.2.2
      go_wp2_with (first
        | (refine wpList_store_box rfl 36 _ _ rfl (w.heap.size + 1) #[.int .i64 0, .int .i64 0, .int .i64 0] rfl rfl 36 #[.int .i64 0, .int .i64 0, .int .i64 0] hQy stepInfo rfl (by simp [Value.oneCell']) ?_)
        | fail)
      intro w9 hB9 hg9
      have H9 := Lib.hid hg9
      clear hg9 hQy
      go_wp2_with fail
      refine bodyPost_ret (results_cell_tmp9 rfl _ _ (w.heap.size + 1) 36 _ (0, 0) _ rfl hB9 Try.underlying36 rfl stepInfo) rfl ?_
      obtain ⟨q1, q2⟩ := lead_fin HH.out.2.2.2.2.1 HY.out.1 HY.out.2.1 H9.out
      refine ⟨q2, .inl ⟨by unfold leadE; rw [← HH.out.2.2.2.2.2.2.1, if_neg (by rw [HI.out]; decide), if_neg (by rw [HI.out]; decide), if_pos HI.out, if_neg (by rw [HSC.out]; decide)], rfl, ?_⟩⟩
      rw [show leadS bs s = { s with con := true, cfrom := (n : Int), cnext := 1, at_ := (n : Int) + x } from by unfold leadS; rw [← HH.out.2.2.2.2.2.2.1, if_neg (by rw [HI.out]; decide), if_neg (by rw [HI.out]; decide), if_neg (by rw [HI.out]; decide), if_pos HI.out, if_pos (by rw [HTL.out]; omega), ← HXD.out, HH.out.2.2.2.2.2.2.2.1]]
      exact q1
    · have hti : ¬ (0 : Int) < (tn : Int) := by omega
      have HZ := Lib.hid (And.intro HH.out.1 (And.intro (Mv.of_below HH.out.2.1 : Mv w w0 g mb) HH.out.2.2.2.1))
      go_upto_region 28 with fail
      clear c1 f1 p13
      clear c6 f6 c7 f7 c8 f8
      have hwz := HZ.out.1.1.lt
      have d1 : w0.cell? ⟨g, 1, none⟩ = some (.int .i64 n) := (HZ.out.1.1.cell 1).trans (by show some (Value.int .i64 s.at_) = some (Value.int .i64 (n : Int)); rw [HH.out.2.2.2.2.2.2.2.1])
      have e1 : w0.frozen? ⟨g, 1, none⟩ = false := HZ.out.1.1.frozen 1
      go_upto_region 29 with fail
      have HY := Lib.hid (show WalkAt (w0.setCell ⟨g, 1, none⟩ (.int .i64 ((n : Int) + 1))) g mb LA ln lc bs { s with at_ := (n : Int) + 1 } ∧ Mv w (w0.setCell ⟨g, 1, none⟩ (.int .i64 ((n : Int) + 1))) g mb ∧ Blk (w0.setCell ⟨g, 1, none⟩ (.int .i64 ((n : Int) + 1))) (w.heap.size + 1) 36 #[.int .i64 0, .int .i64 0, .int .i64 0] from ⟨HZ.out.1.set_ _ rfl rfl, HZ.out.2.1.set_ _, HZ.out.2.2.far (by show w.heap.size + 1 ≠ g; omega) _⟩)
      clear d1 e1
      generalize w0.setCell ⟨g, 1, none⟩ (.int .i64 ((n : Int) + 1)) = wy at *
      have hQy := HY.out.2.2
      go_wp2_with (first
        | (refine wpList_store_box rfl 36 _ _ rfl (w.heap.size + 1) #[.int .i64 0, .int .i64 0, .int .i64 0] rfl rfl 36 #[.int .i64 0, .int .i64 0, .int .i64 0] hQy stepInfo rfl (by simp [Value.oneCell']) ?_)
        | fail)
      intro w9 hB9 hg9
      have H9 := Lib.hid hg9
      clear hg9 hQy
      go_wp2_with fail
      refine bodyPost_ret (results_cell_tmp9 rfl _ _ (w.heap.size + 1) 36 _ (0, 0) _ rfl hB9 Try.underlying36 rfl stepInfo) rfl ?_
      obtain ⟨q1, q2⟩ := lead_fin HH.out.2.2.2.2.1 HY.out.1 HY.out.2.1 H9.out
      refine ⟨q2, .inl ⟨by unfold leadE; rw [← HH.out.2.2.2.2.2.2.1, if_neg (by rw [HI.out]; decide), if_neg (by rw [HI.out]; decide), if_pos HI.out, if_neg (by rw [HSC.out]; decide)], rfl, ?_⟩⟩
      rw [show leadS bs s = { s with at_ := (n : Int) + 1 } from by unfold leadS; rw [← HH.out.2.2.2.2.2.2.1, if_neg (by rw [HI.out]; decide), if_neg (by rw [HI.out]; decide), if_neg (by rw [HI.out]; decide), if_pos HI.out, if_neg (by rw [HTL.out]; omega), HH.out.2.2.2.2.2.2.2.1]]
      exact q1

set_option maxRecDepth 100000 in
set_option maxHeartbeats 8000000 in
theorem lead39_any (w : World) (g mb : Nat) (LA : Option Addr) (ln lc : Nat) (bs : List WB) (s : WS) (d : WB) (v2 v3 v4 v5 v6 v7 v9 v10 v11 v12 : Value) (TA : Option Addr) (tn tc : Nat) (IA : Option Addr) (ic : Nat) (v15 v16 v17 : Value) (h : WalkAt w g mb LA ln lc bs s) (hok : s.ok bs) (hf : Fine bs) (hln : bs.length = ln) (hlt : s.at_ < ln) (hd : d = atB bs s.at_) (hid : d.id = 39) (hfw : Fine bs) (hT : RdP w (fun b => b ≠ g ∧ b ≠ mb ∧ b < w.heap.size) 1 TA tn (d.ts.map (Value.int .i64))) :
    Calls Try.prog 29 #[.pointer (some ⟨g, 0, none⟩), .agg #[.int .i64 d.id, .int .i64 d.pz, v2, v3, v4, v5, v6, v7, .int .i64 d.ct, v9, v10, v11, v12, .slice TA tn tc, .slice IA d.ns.length ic, v15, v16, v17]] w fun x w' => LeadO w w' x g mb LA ln lc bs s := by
  rw [hid]
  have HI := Lib.hid hid
  clear hid
  obtain ⟨n, hn⟩ : ∃ n : Nat, s.at_ = (n : Int) := ⟨s.at_.toNat, by have := hok.1; omega⟩
  have hnl : n < ln := by omega
  have hl60 : ln ≤ 60 := by have := hf.1; omega
  have hdn : d = bs.getD n default := by rw [hd, hn]; rfl
  have hfn := hf.2 n (by omega)
  rw [← hdn] at hfn
  have hwn : IntKind.i64.wrap ((n : Int) + 1) = (n : Int) + 1 := by rw [IntKind.wrap_i64]; omega
  have hn0 : (0 : Int) ≤ (n : Int) := Int.natCast_nonneg _
  have hb2 : Below w.heap.size w ((w.alloc (.cells #[.int .i64 39, .int .i64 d.pz, v2, v3, v4, v5, v6, v7, .int .i64 d.ct, v9, v10, v11, v12, .slice TA tn tc, .slice IA d.ns.length ic, v15, v16, v17] 45)).alloc (.cells #[.int .i64 0, .int .i64 0, .int .i64 0] 36)) := ((Below.refl _ _).alloc (Nat.le_refl _) _).alloc (by simp) _
  have hP : Blk ((w.alloc (.cells #[.int .i64 39, .int .i64 d.pz, v2, v3, v4, v5, v6, v7, .int .i64 d.ct, v9, v10, v11, v12, .slice TA tn tc, .slice IA d.ns.length ic, v15, v16, v17] 45)).alloc (.cells #[.int .i64 0, .int .i64 0, .int .i64 0] 36)) w.heap.size 45 #[.int .i64 39, .int .i64 d.pz, v2, v3, v4, v5, v6, v7, .int .i64 d.ct, v9, v10, v11, v12, .slice TA tn tc, .slice IA d.ns.length ic, v15, v16, v17] := (Blk.new w _ _).alloc _
  have hQ : Blk ((w.alloc (.cells #[.int .i64 39, .int .i64 d.pz, v2, v3, v4, v5, v6, v7, .int .i64 d.ct, v9, v10, v11, v12, .slice TA tn tc, .slice IA d.ns.length ic, v15, v16, v17] 45)).alloc (.cells #[.int .i64 0, .int .i64 0, .int .i64 0] 36)) (w.heap.size + 1) 36 #[.int .i64 0, .int .i64 0, .int .i64 0] := by
    have := Blk.new (w.alloc (.cells #[.int .i64 39, .int .i64 d.pz, v2, v3, v4, v5, v6, v7, .int .i64 d.ct, v9, v10, v11, v12, .slice TA tn tc, .slice IA d.ns.length ic, v15, v16, v17] 45)) 36 #[.int .i64 0, .int .i64 0, .int .i64 0]
    simpa using this
  have hgl := h.1.lt
  have hml := h.2.1.lt
  have hne := h.2.1.ne h.1
  have HH := Lib.hid (And.intro (h.below hb2) (And.intro hb2 (And.intro hP (And.intro hQ (And.intro h (And.intro hok (And.intro hd (And.intro hn (And.intro hfn hT)))))))))
  have HN := Lib.hid hln
  clear h hb2 hP hQ hok hf hln hlt hd hn hdn hfn hT
  go_enter Try.func29, Try.ntmps29
  go_upto_region 1 with fail
  generalize ((w.alloc (.cells #[.int .i64 39, .int .i64 d.pz, v2, v3, v4, v5, v6, v7, .int .i64 d.ct, v9, v10, v11, v12, .slice TA tn tc, .slice IA d.ns.length ic, v15, v16, v17] 45)).alloc (.cells #[.int .i64 0, .int .i64 0, .int .i64 0] 36)) = w0 at *
  have hws := HH.out.2.1.size
  have hql := HH.out.2.2.2.1.lt
  have c1 : w0.cell? ⟨g, 1, none⟩ = some (.int .i64 n) := by rw [← HH.out.2.2.2.2.2.2.2.1]; exact (HH.out.1.1.cell 1).trans rfl
  have f1 : w0.frozen? ⟨g, 1, none⟩ = false := HH.out.1.1.frozen 1
  have p0 : w0.cell? ⟨w.heap.size, 0, none⟩ = some (.int .i64 39) := (HH.out.2.2.1.cell 0).trans rfl
  have c6 : w0.cell? ⟨g, 6, none⟩ = some (.bool s.con) := (HH.out.1.1.cell 6).trans rfl
  have f6 : w0.frozen? ⟨g, 6, none⟩ = false := HH.out.1.1.frozen 6
  cases hsc : s.con with
  | false =>
    have HSC := Lib.hid hsc
    rw [hsc] at c6
    clear hsc
    have HZ := Lib.hid (And.intro HH.out.1 (And.intro (Mv.of_below HH.out.2.1 : Mv w w0 g mb) HH.out.2.2.2.1))
    have hfl := fault_any w0 g mb LA ln lc bs s 9 HZ.out.1
    go_wp2_with fail
    refine hfl.mono ?_
    rintro x w8 ⟨rfl, hW8, hM8⟩
    clear hfl
    have hQ8 : Blk w8 (w.heap.size + 1) 36 #[.int .i64 0, .int .i64 0, .int .i64 0] := (hM8.block _ HZ.out.2.2.lt (by omega) (by omega)).trans HZ.out.2.2
    have H8 := Lib.hid (And.intro hW8 (HZ.out.2.1.trans hM8))
    clear hW8 hM8
    go_wp2_with (first
      | (refine wpList_store_box rfl 36 _ _ rfl (w.heap.size + 1) #[.int .i64 4, .int .i64 s.at_, .int .i64 9] rfl rfl 36 #[.int .i64 0, .int .i64 0, .int .i64 0] hQ8 stepInfo rfl (by simp [Value.oneCell']) ?_)
      | fail)
    intro w9 hB9 hg9
    have H9 := Lib.hid hg9
    clear hg9 hQ8
    go_wp2_with fail
    refine bodyPost_ret (results_cell_tmp9 rfl _ _ (w.heap.size + 1) 36 _ (0, 0) _ rfl hB9 Try.underlying36 rfl stepInfo) rfl ?_
    obtain ⟨q1, q2⟩ := lead_fin HH.out.2.2.2.2.1 H8.out.1 H8.out.2 H9.out
    have hle : leadE bs s = 9 := by unfold leadE; rw [← HH.out.2.2.2.2.2.2.1, if_neg (by rw [HI.out]; decide), if_neg (by rw [HI.out]; decide), if_neg (by rw [HI.out]; decide), if_pos HI.out, if_pos HSC.out]
    exact ⟨q2, .inr ⟨by rw [hle]; decide, by rw [hle] <;> rfl, by rw [hle]; exact q1⟩⟩
  | true =>
    obtain ⟨_, _, _, hcn, _⟩ := HH.out.2.2.2.2.2.1
    obtain ⟨k0, k1, k2, k3, k4⟩ := hcn hsc
    obtain ⟨m, hm⟩ : ∃ m : Nat, s.cfrom = (m : Int) := ⟨s.cfrom.toNat, by omega⟩
    obtain ⟨u1, _, u3, _⟩ := hfw.2 m (by omega)
    have hat : atB bs s.cfrom = bs.getD m default := by rw [hm]; rfl
    have hl9 := HN.out
    have hre := returned_any w0 g mb LA ln lc bs s HH.out.1 hsc k0 (by omega) k2 (fun q hq => by rw [hat] at hq k4; have := u3 (.inr k4) q hq; omega) hl60 (by rw [hat]; exact u1)
    have HSC := Lib.hid hsc
    rw [hsc] at c6
    clear hsc hcn k0 k1 k2 k3 k4 hm u1 u3 hat hl9 hfw
    go_wp2_with fail
    refine hre.mono ?_
    rintro x w8 ⟨rfl, hW8, hM8⟩
    clear hre c6 f6 c1 f1
    have HZ := Lib.hid (show WalkAt w8 g mb LA ln lc bs (retS bs s) ∧ Mv w w8 g mb ∧ Blk w8 (w.heap.size + 1) 36 #[.int .i64 0, .int .i64 0, .int .i64 0] from ⟨hW8, (Mv.of_below HH.out.2.1 : Mv w w0 g mb).trans hM8, (hM8.block _ hql (by omega) (by omega)).trans HH.out.2.2.2.1⟩)
    clear hW8 hM8
    have hwz := HZ.out.1.1.lt
    have d1 : w8.cell? ⟨g, 1, none⟩ = some (.int .i64 (retS bs s).at_) := (HZ.out.1.1.cell 1).trans rfl
    have e1 : w8.frozen? ⟨g, 1, none⟩ = false := HZ.out.1.1.frozen 1
    go_upto_region 29 with fail
    have HY := Lib.hid (show WalkAt (w8.setCell ⟨g, 1, none⟩ (.int .i64 (retT bs s))) g mb LA ln lc bs { retS bs s with at_ := retT bs s } ∧ Mv w (w8.setCell ⟨g, 1, none⟩ (.int .i64 (retT bs s))) g mb ∧ Blk (w8.setCell ⟨g, 1, none⟩ (.int .i64 (retT bs s))) (w.heap.size + 1) 36 #[.int .i64 0, .int .i64 0, .int .i64 0] from ⟨HZ.out.1.set_ _ rfl rfl, HZ.out.2.1.set_ _, HZ.out.2.2.far (by show w.heap.size + 1 ≠ g; omega) _⟩)
    clear d1 e1
    generalize w8.setCell ⟨g, 1, none⟩ (.int .i64 (retT bs s)) = wy at *
    have hQy := HY.out.2.2
    go_wp2_with (first
      | (refine wpList_store_box rfl 36 _ _ rfl (w.heap.size + 1) #[.int .i64 0, .int .i64 0, .int .i64 0] rfl rfl 36 #[.int .i64 0, .int .i64 0, .int .i64 0] hQy stepInfo rfl (by simp [Value.oneCell']) ?_)
      | fail)
    intro w9 hB9 hg9
    have H9 := Lib.hid hg9
    clear hg9 hQy
    go_wp2_with fail
    refine bodyPost_ret (results_cell_tmp9 rfl _ _ (w.heap.size + 1) 36 _ (0, 0) _ rfl hB9 Try.underlying36 rfl stepInfo) rfl ?_
    obtain ⟨q1, q2⟩ := lead_fin HH.out.2.2.2.2.1 HY.out.1 HY.out.2.1 H9.out
    refine ⟨q2, .inl ⟨by unfold leadE; rw [← HH.out.2.2.2.2.2.2.1, if_neg (by rw [HI.out]; decide), if_neg (by rw [HI.out]; decide), if_neg (by rw [HI.out]; decide), if_pos HI.out, if_neg (by rw [HSC.out]; decide)], rfl, ?_⟩⟩
    rw [show leadS bs s = { retS bs s with at_ := retT bs s } from by unfold leadS retS retT; rw [← HH.out.2.2.2.2.2.2.1, if_neg (by rw [HI.out]; decide), if_neg (by rw [HI.out]; decide), if_neg (by rw [HI.out]; decide), if_neg (by rw [HI.out]; decide), if_pos HI.out]; split <;> rfl]
    exact q1
end Go.Proofs.Ytnmapncgnceldaa
