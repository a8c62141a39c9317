/- Layer 24: contracts of where a block leads. -/
import Derived.Test.YtnmapncgnceldaaWk7
import Derived.Deep.RegionHeld3
namespace Go.Proofs.Ytnmapncgnceldaa
open Go.RowKit

/-- what a block's lead leaves -/
def LeadO (w w' : World) (x : Ending) (g mb : Nat) (LA : Option Addr) (ln lc : Nat) (bs : List WB) (s : WS) : Prop :=
  Mv w w' g mb ∧ ((leadE bs s = 0 ∧ x = .returned (.tuple #[.agg #[.int .i64 0, .int .i64 0, .int .i64 0], .bool false]) ∧ WalkAt w' g mb LA ln lc bs (leadS bs s)) ∨
    (leadE bs s ≠ 0 ∧ x = .returned (.tuple #[.agg #[.int .i64 4, .int .i64 s.at_, .int .i64 (leadE bs s)], .bool true]) ∧ WalkAt w' g mb LA ln lc bs (stayS s 4 s.at_ (leadE bs s))))
theorem wf_small {n : Nat} (h : n ≤ 1000) : (Lit.int .i64 (n : Int)).wf = true := by
  simp [Lit.wf, IntKind.min, IntKind.max, IntKind.bits, IntKind.signed]
  omega
/-- a step that isn't told: its box is written -/
theorem lead_fin {w wz w9 : World} {g mb : Nat} {LA : Option Addr} {ln lc : Nat} {bs : List WB} {s s' : WS} (h : WalkAt w g mb LA ln lc bs s) (hz : WalkAt wz g mb LA ln lc bs s') (hM : Mv w wz g mb) (hg : wz.grownBy w9 (some (w.heap.size + 1))) : WalkAt w9 g mb LA ln lc bs s' ∧ Mv w w9 g mb := h.out hz hM hg (by omega)

set_option maxRecDepth 100000 in
set_option maxHeartbeats 8000000 in
theorem lead0_any (w : World) (g mb : Nat) (LA : Option Addr) (ln lc : Nat) (bs : List WB) (s : WS) (d : WB) (v2 v3 v4 v5 v6 v7 v9 v10 v11 v12 : Value) (TA : Option Addr) (tn tc : Nat) (IA : Option Addr) (ic : Nat) (v15 v16 v17 : Value) (h : WalkAt w g mb LA ln lc bs s) (hok : s.ok bs) (hf : Fine bs) (hln : bs.length = ln) (hlt : s.at_ < ln) (hd : d = atB bs s.at_) (hid : ¬ d.id = 35 ∧ ¬ d.id = 36 ∧ ¬ d.id = 37 ∧ ¬ d.id = 38 ∧ ¬ d.id = 39) (hT : RdP w (fun b => b ≠ g ∧ b ≠ mb ∧ b < w.heap.size) 1 TA tn (d.ts.map (Value.int .i64))) :
    Calls Try.prog 29 #[.pointer (some ⟨g, 0, none⟩), .agg #[.int .i64 d.id, .int .i64 d.pz, v2, v3, v4, v5, v6, v7, .int .i64 d.ct, v9, v10, v11, v12, .slice TA tn tc, .slice IA d.ns.length ic, v15, v16, v17]] w fun x w' => LeadO w w' x g mb LA ln lc bs s := by
  have HI := Lib.hid hid
  clear hid
  generalize hI : d.id = I
  have HII := Lib.hid hI
  clear hI
  obtain ⟨n, hn⟩ : ∃ n : Nat, s.at_ = (n : Int) := ⟨s.at_.toNat, by have := hok.1; omega⟩
  have hnl : n < ln := by omega
  have hl60 : ln ≤ 60 := by have := hf.1; omega
  have hdn : d = bs.getD n default := by rw [hd, hn]; rfl
  have hfn := hf.2 n (by omega)
  rw [← hdn] at hfn
  have hwn : IntKind.i64.wrap ((n : Int) + 1) = (n : Int) + 1 := by rw [IntKind.wrap_i64]; omega
  have hn0 : (0 : Int) ≤ (n : Int) := Int.natCast_nonneg _
  have hb2 : Below w.heap.size w ((w.alloc (.cells #[.int .i64 I, .int .i64 d.pz, v2, v3, v4, v5, v6, v7, .int .i64 d.ct, v9, v10, v11, v12, .slice TA tn tc, .slice IA d.ns.length ic, v15, v16, v17] 45)).alloc (.cells #[.int .i64 0, .int .i64 0, .int .i64 0] 36)) := ((Below.refl _ _).alloc (Nat.le_refl _) _).alloc (by simp) _
  have hP : Blk ((w.alloc (.cells #[.int .i64 I, .int .i64 d.pz, v2, v3, v4, v5, v6, v7, .int .i64 d.ct, v9, v10, v11, v12, .slice TA tn tc, .slice IA d.ns.length ic, v15, v16, v17] 45)).alloc (.cells #[.int .i64 0, .int .i64 0, .int .i64 0] 36)) w.heap.size 45 #[.int .i64 I, .int .i64 d.pz, v2, v3, v4, v5, v6, v7, .int .i64 d.ct, v9, v10, v11, v12, .slice TA tn tc, .slice IA d.ns.length ic, v15, v16, v17] := (Blk.new w _ _).alloc _
  have hQ : Blk ((w.alloc (.cells #[.int .i64 I, .int .i64 d.pz, v2, v3, v4, v5, v6, v7, .int .i64 d.ct, v9, v10, v11, v12, .slice TA tn tc, .slice IA d.ns.length ic, v15, v16, v17] 45)).alloc (.cells #[.int .i64 0, .int .i64 0, .int .i64 0] 36)) (w.heap.size + 1) 36 #[.int .i64 0, .int .i64 0, .int .i64 0] := by
    have := Blk.new (w.alloc (.cells #[.int .i64 I, .int .i64 d.pz, v2, v3, v4, v5, v6, v7, .int .i64 d.ct, v9, v10, v11, v12, .slice TA tn tc, .slice IA d.ns.length ic, v15, v16, v17] 45)) 36 #[.int .i64 0, .int .i64 0, .int .i64 0]
    simpa using this
  have hgl := h.1.lt
  have hml := h.2.1.lt
  have hne := h.2.1.ne h.1
  have HH := Lib.hid (And.intro (h.below hb2) (And.intro hb2 (And.intro hP (And.intro hQ (And.intro h (And.intro hok (And.intro hd (And.intro hn (And.intro hfn hT)))))))))
  have HN := Lib.hid hln
  clear h hb2 hP hQ hok hf hln hlt hd hn hdn hfn hT
  go_enter Try.func29, Try.ntmps29
  go_upto_region 1 with fail
  generalize ((w.alloc (.cells #[.int .i64 I, .int .i64 d.pz, v2, v3, v4, v5, v6, v7, .int .i64 d.ct, v9, v10, v11, v12, .slice TA tn tc, .slice IA d.ns.length ic, v15, v16, v17] 45)).alloc (.cells #[.int .i64 0, .int .i64 0, .int .i64 0] 36)) = w0 at *
  have hws := HH.out.2.1.size
  have hql := HH.out.2.2.2.1.lt
  have c1 : w0.cell? ⟨g, 1, none⟩ = some (.int .i64 n) := by rw [← HH.out.2.2.2.2.2.2.2.1]; exact (HH.out.1.1.cell 1).trans rfl
  have f1 : w0.frozen? ⟨g, 1, none⟩ = false := HH.out.1.1.frozen 1
  have p0 : w0.cell? ⟨w.heap.size, 0, none⟩ = some (.int .i64 I) := (HH.out.2.2.1.cell 0).trans rfl
  have h35 : (I == 35) = false := by simpa using (show ¬ I = 35 by rw [← HII.out]; exact HI.out.1)
  have h36 : (I == 36) = false := by simpa using (show ¬ I = 36 by rw [← HII.out]; exact HI.out.2.1)
  have h37 : (I == 37) = false := by simpa using (show ¬ I = 37 by rw [← HII.out]; exact HI.out.2.2.1)
  have h38 : (I == 38) = false := by simpa using (show ¬ I = 38 by rw [← HII.out]; exact HI.out.2.2.2.1)
  have h39 : (I == 39) = false := by simpa using (show ¬ I = 39 by rw [← HII.out]; exact HI.out.2.2.2.2)
  have HZ := Lib.hid (And.intro HH.out.1 (And.intro (Mv.of_below HH.out.2.1 : Mv w w0 g mb) HH.out.2.2.2.1))
  go_upto_region 28 with fail
  clear c1 f1
  have hwz := HZ.out.1.1.lt
  have d1 : w0.cell? ⟨g, 1, none⟩ = some (.int .i64 n) := (HZ.out.1.1.cell 1).trans (by show some (Value.int .i64 s.at_) = some (Value.int .i64 (n : Int)); rw [HH.out.2.2.2.2.2.2.2.1])
  have e1 : w0.frozen? ⟨g, 1, none⟩ = false := HZ.out.1.1.frozen 1
  go_upto_region 29 with fail
  have HY := Lib.hid (show WalkAt (w0.setCell ⟨g, 1, none⟩ (.int .i64 ((n : Int) + 1))) g mb LA ln lc bs { s with at_ := (n : Int) + 1 } ∧ Mv w (w0.setCell ⟨g, 1, none⟩ (.int .i64 ((n : Int) + 1))) g mb ∧ Blk (w0.setCell ⟨g, 1, none⟩ (.int .i64 ((n : Int) + 1))) (w.heap.size + 1) 36 #[.int .i64 0, .int .i64 0, .int .i64 0] from ⟨HZ.out.1.set_ _ rfl rfl, HZ.out.2.1.set_ _, HZ.out.2.2.far (by show w.heap.size + 1 ≠ g; omega) _⟩)
  clear d1 e1
  generalize w0.setCell ⟨g, 1, none⟩ (.int .i64 ((n : Int) + 1)) = wy at *
  have hQy := HY.out.2.2
  go_wp2_with (first
    | (refine wpList_store_box rfl 36 _ _ rfl (w.heap.size + 1) #[.int .i64 0, .int .i64 0, .int .i64 0] rfl rfl 36 #[.int .i64 0, .int .i64 0, .int .i64 0] hQy stepInfo rfl (by simp [Value.oneCell']) ?_)
    | fail)
  intro w9 hB9 hg9
  have H9 := Lib.hid hg9
  clear hg9 hQy
  go_wp2_with fail
  refine bodyPost_ret (results_cell_tmp9 rfl _ _ (w.heap.size + 1) 36 _ (0, 0) _ rfl hB9 Try.underlying36 rfl stepInfo) rfl ?_
  obtain ⟨q1, q2⟩ := lead_fin HH.out.2.2.2.2.1 HY.out.1 HY.out.2.1 H9.out
  refine ⟨q2, .inl ⟨by unfold leadE; rw [← HH.out.2.2.2.2.2.2.1, if_neg HI.out.1, if_neg HI.out.2.2.1, if_neg HI.out.2.2.2.1, if_neg HI.out.2.2.2.2], rfl, ?_⟩⟩
  rw [show leadS bs s = { s with at_ := (n : Int) + 1 } from by unfold leadS; rw [← HH.out.2.2.2.2.2.2.1, if_neg HI.out.1, if_neg HI.out.2.1, if_neg HI.out.2.2.1, if_neg HI.out.2.2.2.1, if_neg HI.out.2.2.2.2, HH.out.2.2.2.2.2.2.2.1]]
  exact q1

set_option maxRecDepth 100000 in
set_option maxHeartbeats 8000000 in
theorem lead36_any (w : World) (g mb : Nat) (LA : Option Addr) (ln lc : Nat) (bs : List WB) (s : WS) (d : WB) (v2 v3 v4 v5 v6 v7 v9 v10 v11 v12 : Value) (TA : Option Addr) (tn tc : Nat) (IA : Option Addr) (ic : Nat) (v15 v16 v17 : Value) (h : WalkAt w g mb LA ln lc bs s) (hok : s.ok bs) (hf : Fine bs) (hln : bs.length = ln) (hlt : s.at_ < ln) (hd : d = atB bs s.at_) (hid : d.id = 36) (hT : RdP w (fun b => b ≠ g ∧ b ≠ mb ∧ b < w.heap.size) 1 TA tn (d.ts.map (Value.int .i64))) :
    Calls Try.prog 29 #[.pointer (some ⟨g, 0, none⟩), .agg #[.int .i64 d.id, .int .i64 d.pz, v2, v3, v4, v5, v6, v7, .int .i64 d.ct, v9, v10, v11, v12, .slice TA tn tc, .slice IA d.ns.length ic, v15, v16, v17]] w fun x w' => LeadO w w' x g mb LA ln lc bs s := by
  rw [hid]
  have HI := Lib.hid hid
  clear hid
  obtain ⟨n, hn⟩ : ∃ n : Nat, s.at_ = (n : Int) := ⟨s.at_.toNat, by have := hok.1; omega⟩
  have hnl : n < ln := by omega
  have hl60 : ln ≤ 60 := by have := hf.1; omega
  have hdn : d = bs.getD n default := by rw [hd, hn]; rfl
  have hfn := hf.2 n (by omega)
  rw [← hdn] at hfn
  have hwn : IntKind.i64.wrap ((n : Int) + 1) = (n : Int) + 1 := by rw [IntKind.wrap_i64]; omega
  have hn0 : (0 : Int) ≤ (n : Int) := Int.natCast_nonneg _
  have hb2 : Below w.heap.size w ((w.alloc (.cells #[.int .i64 36, .int .i64 d.pz, v2, v3, v4, v5, v6, v7, .int .i64 d.ct, v9, v10, v11, v12, .slice TA tn tc, .slice IA d.ns.length ic, v15, v16, v17] 45)).alloc (.cells #[.int .i64 0, .int .i64 0, .int .i64 0] 36)) := ((Below.refl _ _).alloc (Nat.le_refl _) _).alloc (by simp) _
  have hP : Blk ((w.alloc (.cells #[.int .i64 36, .int .i64 d.pz, v2, v3, v4, v5, v6, v7, .int .i64 d.ct, v9, v10, v11, v12, .slice TA tn tc, .slice IA d.ns.length ic, v15, v16, v17] 45)).alloc (.cells #[.int .i64 0, .int .i64 0, .int .i64 0] 36)) w.heap.size 45 #[.int .i64 36, .int .i64 d.pz, v2, v3, v4, v5, v6, v7, .int .i64 d.ct, v9, v10, v11, v12, .slice TA tn tc, .slice IA d.ns.length ic, v15, v16, v17] := (Blk.new w _ _).alloc _
  have hQ : Blk ((w.alloc (.cells #[.int .i64 36, .int .i64 d.pz, v2, v3, v4, v5, v6, v7, .int .i64 d.ct, v9, v10, v11, v12, .slice TA tn tc, .slice IA d.ns.length ic, v15, v16, v17] 45)).alloc (.cells #[.int .i64 0, .int .i64 0, .int .i64 0] 36)) (w.heap.size + 1) 36 #[.int .i64 0, .int .i64 0, .int .i64 0] := by
    have := Blk.new (w.alloc (.cells #[.int .i64 36, .int .i64 d.pz, v2, v3, v4, v5, v6, v7, .int .i64 d.ct, v9, v10, v11, v12, .slice TA tn tc, .slice IA d.ns.length ic, v15, v16, v17] 45)) 36 #[.int .i64 0, .int .i64 0, .int .i64 0]
    simpa using this
  have hgl := h.1.lt
  have hml := h.2.1.lt
  have hne := h.2.1.ne h.1
  have HH := Lib.hid (And.intro (h.below hb2) (And.intro hb2 (And.intro hP (And.intro hQ (And.intro h (And.intro hok (And.intro hd (And.intro hn (And.intro hfn hT)))))))))
  have HN := Lib.hid hln
  clear h hb2 hP hQ hok hf hln hlt hd hn hdn hfn hT
  go_enter Try.func29, Try.ntmps29
  go_upto_region 1 with fail
  generalize ((w.alloc (.cells #[.int .i64 36, .int .i64 d.pz, v2, v3, v4, v5, v6, v7, .int .i64 d.ct, v9, v10, v11, v12, .slice TA tn tc, .slice IA d.ns.length ic, v15, v16, v17] 45)).alloc (.cells #[.int .i64 0, .int .i64 0, .int .i64 0] 36)) = w0 at *
  have hws := HH.out.2.1.size
  have hql := HH.out.2.2.2.1.lt
  have c1 : w0.cell? ⟨g, 1, none⟩ = some (.int .i64 n) := by rw [← HH.out.2.2.2.2.2.2.2.1]; exact (HH.out.1.1.cell 1).trans rfl
  have f1 : w0.frozen? ⟨g, 1, none⟩ = false := HH.out.1.1.frozen 1
  have p0 : w0.cell? ⟨w.heap.size, 0, none⟩ = some (.int .i64 36) := (HH.out.2.2.1.cell 0).trans rfl
  have p8 : w0.cell? ⟨w.heap.size, 8, none⟩ = some (.int .i64 d.ct) := (HH.out.2.2.1.cell 8).trans rfl
  have c2 : w0.cell? ⟨g, 2, none⟩ = some (.bool s.on) := (HH.out.1.1.cell 2).trans rfl
  have f2 : w0.frozen? ⟨g, 2, none⟩ = false := HH.out.1.1.frozen 2
  have c3 : w0.cell? ⟨g, 3, none⟩ = some (.bool s.heard) := (HH.out.1.1.cell 3).trans rfl
  have f3 : w0.frozen? ⟨g, 3, none⟩ = false := HH.out.1.1.frozen 3
  have c4 : w0.cell? ⟨g, 4, none⟩ = some (.int .i64 s.frm) := (HH.out.1.1.cell 4).trans rfl
  have f4 : w0.frozen? ⟨g, 4, none⟩ = false := HH.out.1.1.frozen 4
  have c5 : w0.cell? ⟨g, 5, none⟩ = some (.int .i64 s.times) := (HH.out.1.1.cell 5).trans rfl
  have f5 : w0.frozen? ⟨g, 5, none⟩ = false := HH.out.1.1.frozen 5
  obtain ⟨T, hTm⟩ : ∃ T : Int, T = (if d.ct < 1 then 1 else d.ct) - 1 := ⟨_, rfl⟩
  have hct := HH.out.2.2.2.2.2.2.2.2.1.2.2.2
  have hT1 : 0 ≤ T ∧ T ≤ 9223372036854775806 := by split at hTm <;> omega
  have HTM := Lib.hid hTm
  clear hTm
  have HZ := Lib.hid (show WalkAt ((((w0.setCell ⟨g, 2, none⟩ (.bool true)).setCell ⟨g, 3, none⟩ (.bool false)).setCell ⟨g, 4, none⟩ (.int .i64 ((n : Int) + 1))).setCell ⟨g, 5, none⟩ (.int .i64 T)) g mb LA ln lc bs { s with on := true, heard := false, frm := (n : Int) + 1, times := T } ∧ Mv w ((((w0.setCell ⟨g, 2, none⟩ (.bool true)).setCell ⟨g, 3, none⟩ (.bool false)).setCell ⟨g, 4, none⟩ (.int .i64 ((n : Int) + 1))).setCell ⟨g, 5, none⟩ (.int .i64 T)) g mb ∧ Blk ((((w0.setCell ⟨g, 2, none⟩ (.bool true)).setCell ⟨g, 3, none⟩ (.bool false)).setCell ⟨g, 4, none⟩ (.int .i64 ((n : Int) + 1))).setCell ⟨g, 5, none⟩ (.int .i64 T)) (w.heap.size + 1) 36 #[.int .i64 0, .int .i64 0, .int .i64 0] from
    ⟨(((HH.out.1.set_ (s' := { s with on := true }) _ rfl rfl).set_ (s' := { s with on := true, heard := false }) _ rfl rfl).set_ (s' := { s with on := true, heard := false, frm := (n : Int) + 1 }) _ rfl rfl).set_ _ rfl rfl, ((((Mv.of_below HH.out.2.1 : Mv w w0 g mb).set_ _).set_ _).set_ _).set_ _, (((HH.out.2.2.2.1.far (by show w.heap.size + 1 ≠ g; omega) _).far (by show w.heap.size + 1 ≠ g; omega) _).far (by show w.heap.size + 1 ≠ g; omega) _).far (by show w.heap.size + 1 ≠ g; omega) _⟩)
  by_cases hc1 : d.ct < 1
  · have hT0 : T = 0 := by have := HTM.out; rw [if_pos hc1] at this; omega
    have hc2 : d.ct ≤ 1 := by omega
    rw [hT0] at HZ
    go_upto_region 28 with fail
    clear c1 f1 p8 c2 f2 c3 f3 c4 f4 c5 f5
    generalize (((w0.setCell ⟨g, 2, none⟩ (.bool true)).setCell ⟨g, 3, none⟩ (.bool false)).setCell ⟨g, 4, none⟩ (.int .i64 ((n : Int) + 1))).setCell ⟨g, 5, none⟩ (.int .i64 0) = wz at *
    have hwz := HZ.out.1.1.lt
    have d1 : wz.cell? ⟨g, 1, none⟩ = some (.int .i64 n) := (HZ.out.1.1.cell 1).trans (by show some (Value.int .i64 s.at_) = some (Value.int .i64 (n : Int)); rw [HH.out.2.2.2.2.2.2.2.1])
    have e1 : wz.frozen? ⟨g, 1, none⟩ = false := HZ.out.1.1.frozen 1
    go_upto_region 29 with fail
    have HY := Lib.hid (show WalkAt (wz.setCell ⟨g, 1, none⟩ (.int .i64 ((n : Int) + 1))) g mb LA ln lc bs { s with on := true, heard := false, frm := (n : Int) + 1, times := 0, at_ := (n : Int) + 1 } ∧ Mv w (wz.setCell ⟨g, 1, none⟩ (.int .i64 ((n : Int) + 1))) g mb ∧ Blk (wz.setCell ⟨g, 1, none⟩ (.int .i64 ((n : Int) + 1))) (w.heap.size + 1) 36 #[.int .i64 0, .int .i64 0, .int .i64 0] from ⟨HZ.out.1.set_ _ rfl rfl, HZ.out.2.1.set_ _, HZ.out.2.2.far (by show w.heap.size + 1 ≠ g; omega) _⟩)
    clear d1 e1
    generalize wz.setCell ⟨g, 1, none⟩ (.int .i64 ((n : Int) + 1)) = wy at *
    have hQy := HY.out.2.2
    go_wp2_with (first
      | (refine wpList_store_box rfl 36 _ _ rfl (w.heap.size + 1) #[.int .i64 0, .int .i64 0, .int .i64 0] rfl rfl 36 #[.int .i64 0, .int .i64 0, .int .i64 0] hQy stepInfo rfl (by simp [Value.oneCell']) ?_)
      | fail)
    intro w9 hB9 hg9
    have H9 := Lib.hid hg9
    clear hg9 hQy
    go_wp2_with fail
    refine bodyPost_ret (results_cell_tmp9 rfl _ _ (w.heap.size + 1) 36 _ (0, 0) _ rfl hB9 Try.underlying36 rfl stepInfo) rfl ?_
    obtain ⟨q1, q2⟩ := lead_fin HH.out.2.2.2.2.1 HY.out.1 HY.out.2.1 H9.out
    refine ⟨q2, .inl ⟨by unfold leadE; rw [← HH.out.2.2.2.2.2.2.1, if_neg (by rw [HI.out]; decide), if_neg (by rw [HI.out]; decide), if_neg (by rw [HI.out]; decide), if_neg (by rw [HI.out]; decide)], rfl, ?_⟩⟩
    rw [show leadS bs s = { s with on := true, heard := false, frm := (n : Int) + 1, times := 0, at_ := (n : Int) + 1 } from by unfold leadS; rw [← HH.out.2.2.2.2.2.2.1, if_neg (by rw [HI.out]; decide), if_pos HI.out, ← HTM.out, hT0, HH.out.2.2.2.2.2.2.2.1]]
    exact q1
  by_cases hc3 : d.ct = 1
  · have hT0 : T = 0 := by have := HTM.out; rw [if_neg hc1] at this; omega
    rw [hc3] at p8
    rw [hT0] at HZ
    have HC3 := Lib.hid hc3
    clear hc1 hc3 hct
    go_upto_region 28 with fail
    clear c1 f1 p8 c2 f2 c3 f3 c4 f4 c5 f5
    generalize (((w0.setCell ⟨g, 2, none⟩ (.bool true)).setCell ⟨g, 3, none⟩ (.bool false)).setCell ⟨g, 4, none⟩ (.int .i64 ((n : Int) + 1))).setCell ⟨g, 5, none⟩ (.int .i64 0) = wz at *
    have hwz := HZ.out.1.1.lt
    have d1 : wz.cell? ⟨g, 1, none⟩ = some (.int .i64 n) := (HZ.out.1.1.cell 1).trans (by show some (Value.int .i64 s.at_) = some (Value.int .i64 (n : Int)); rw [HH.out.2.2.2.2.2.2.2.1])
    have e1 : wz.frozen? ⟨g, 1, none⟩ = false := HZ.out.1.1.frozen 1
    go_upto_region 29 with fail
    have HY := Lib.hid (show WalkAt (wz.setCell ⟨g, 1, none⟩ (.int .i64 ((n : Int) + 1))) g mb LA ln lc bs { s with on := true, heard := false, frm := (n : Int) + 1, times := 0, at_ := (n : Int) + 1 } ∧ Mv w (wz.setCell ⟨g, 1, none⟩ (.int .i64 ((n : Int) + 1))) g mb ∧ Blk (wz.setCell ⟨g, 1, none⟩ (.int .i64 ((n : Int) + 1))) (w.heap.size + 1) 36 #[.int .i64 0, .int .i64 0, .int .i64 0] from ⟨HZ.out.1.set_ _ rfl rfl, HZ.out.2.1.set_ _, HZ.out.2.2.far (by show w.heap.size + 1 ≠ g; omega) _⟩)
    clear d1 e1
    generalize wz.setCell ⟨g, 1, none⟩ (.int .i64 ((n : Int) + 1)) = wy at *
    have hQy := HY.out.2.2
    go_wp2_with (first
      | (refine wpList_store_box rfl 36 _ _ rfl (w.heap.size + 1) #[.int .i64 0, .int .i64 0, .int .i64 0] rfl rfl 36 #[.int .i64 0, .int .i64 0, .int .i64 0] hQy stepInfo rfl (by simp [Value.oneCell']) ?_)
      | fail)
    intro w9 hB9 hg9
    have H9 := Lib.hid hg9
    clear hg9 hQy
    go_wp2_with fail
    refine bodyPost_ret (results_cell_tmp9 rfl _ _ (w.heap.size + 1) 36 _ (0, 0) _ rfl hB9 Try.underlying36 rfl stepInfo) rfl ?_
    obtain ⟨q1, q2⟩ := lead_fin HH.out.2.2.2.2.1 HY.out.1 HY.out.2.1 H9.out
    refine ⟨q2, .inl ⟨by unfold leadE; rw [← HH.out.2.2.2.2.2.2.1, if_neg (by rw [HI.out]; decide), if_neg (by rw [HI.out]; decide), if_neg (by rw [HI.out]; decide), if_neg (by rw [HI.out]; decide)], rfl, ?_⟩⟩
    rw [show leadS bs s = { s with on := true, heard := false, frm := (n : Int) + 1, times := 0, at_ := (n : Int) + 1 } from by unfold leadS; rw [← HH.out.2.2.2.2.2.2.1, if_neg (by rw [HI.out]; decide), if_pos HI.out, ← HTM.out, hT0, HH.out.2.2.2.2.2.2.2.1]]
    exact q1
  · have hTf : d.ct - 1 = T := by have := HTM.out; rw [if_neg hc1] at this; omega
    have hTe : IntKind.i64.wrap (d.ct - 1) = T := by rw [IntKind.wrap_i64]; omega
    have hc4 : 1 < d.ct := by omega
    have hc5 : ¬ d.ct ≤ 1 := by omega
    go_upto_region 28 with fail
    clear c1 f1 p8 c2 f2 c3 f3 c4 f4 c5 f5
    generalize (((w0.setCell ⟨g, 2, none⟩ (.bool true)).setCell ⟨g, 3, none⟩ (.bool false)).setCell ⟨g, 4, none⟩ (.int .i64 ((n : Int) + 1))).setCell ⟨g, 5, none⟩ (.int .i64 T) = wz at *
    have hwz := HZ.out.1.1.lt
    have d1 : wz.cell? ⟨g, 1, none⟩ = some (.int .i64 n) := (HZ.out.1.1.cell 1).trans (by show some (Value.int .i64 s.at_) = some (Value.int .i64 (n : Int)); rw [HH.out.2.2.2.2.2.2.2.1])
    have e1 : wz.frozen? ⟨g, 1, none⟩ = false := HZ.out.1.1.frozen 1
    go_upto_region 29 with fail
    have HY := Lib.hid (show WalkAt (wz.setCell ⟨g, 1, none⟩ (.int .i64 ((n : Int) + 1))) g mb LA ln lc bs { s with on := true, heard := false, frm := (n : Int) + 1, times := T, at_ := (n : Int) + 1 } ∧ Mv w (wz.setCell ⟨g, 1, none⟩ (.int .i64 ((n : Int) + 1))) g mb ∧ Blk (wz.setCell ⟨g, 1, none⟩ (.int .i64 ((n : Int) + 1))) (w.heap.size + 1) 36 #[.int .i64 0, .int .i64 0, .int .i64 0] from ⟨HZ.out.1.set_ _ rfl rfl, HZ.out.2.1.set_ _, HZ.out.2.2.far (by show w.heap.size + 1 ≠ g; omega) _⟩)
    clear d1 e1
    generalize wz.setCell ⟨g, 1, none⟩ (.int .i64 ((n : Int) + 1)) = wy at *
    have hQy := HY.out.2.2
    go_wp2_with (first
      | (refine wpList_store_box rfl 36 _ _ rfl (w.heap.size + 1) #[.int .i64 0, .int .i64 0, .int .i64 0] rfl rfl 36 #[.int .i64 0, .int .i64 0, .int .i64 0] hQy stepInfo rfl (by simp [Value.oneCell']) ?_)
      | fail)
    intro w9 hB9 hg9
    have H9 := Lib.hid hg9
    clear hg9 hQy
    go_wp2_with fail
    refine bodyPost_ret (results_cell_tmp9 rfl _ _ (w.heap.size + 1) 36 _ (0, 0) _ rfl hB9 Try.underlying36 rfl stepInfo) rfl ?_
    obtain ⟨q1, q2⟩ := lead_fin HH.out.2.2.2.2.1 HY.out.1 HY.out.2.1 H9.out
    refine ⟨q2, .inl ⟨by unfold leadE; rw [← HH.out.2.2.2.2.2.2.1, if_neg (by rw [HI.out]; decide), if_neg (by rw [HI.out]; decide), if_neg (by rw [HI.out]; decide), if_neg (by rw [HI.out]; decide)], rfl, ?_⟩⟩
    rw [show leadS bs s = { s with on := true, heard := false, frm := (n : Int) + 1, times := T, at_ := (n : Int) + 1 } from by unfold leadS; rw [← HH.out.2.2.2.2.2.2.1, if_neg (by rw [HI.out]; decide), if_pos HI.out, ← HTM.out, HH.out.2.2.2.2.2.2.2.1]]
    exact q1
end Go.Proofs.Ytnmapncgnceldaa
