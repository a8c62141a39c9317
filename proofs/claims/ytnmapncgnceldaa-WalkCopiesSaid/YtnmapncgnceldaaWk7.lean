/- Layer 24: contracts of a fault, of where a call goes on. -/
import Derived.Test.YtnmapncgnceldaaWk6
namespace Go.Proofs.Ytnmapncgnceldaa
open Go.RowKit

theorem WalkAt.out {w w1 w9 : World} {g mb r : Nat} {LA : Option Addr} {ln lc : Nat} {bs : List WB} {s s' : WS} (h : WalkAt w g mb LA ln lc bs s) (h1 : WalkAt w1 g mb LA ln lc bs s') (hm : Mv w w1 g mb) (hg : w1.grownBy w9 (some r)) (hr : w.heap.size ≤ r) : WalkAt w9 g mb LA ln lc bs s' ∧ Mv w w9 g mb := by
  have hM := hm.new hg hr
  have hgl := h.1.lt
  have hml := h.2.1.lt
  have hs := hm.size
  have hs9 := hM.size
  exact ⟨⟨h1.1.grown hg (fun e => by injection e with e; omega), h1.2.1.kept (hg.block mb (by omega) (fun e => by injection e with e; omega)), h.2.2.keep (fun b hp => hM.block b hp.2.2 hp.1 hp.2.1) (fun b hp => ⟨hp.1, hp.2.1, by have := hp.2.2; omega⟩)⟩, hM⟩
theorem WalkAt.drewN {w : World} {g mb : Nat} {LA : Option Addr} {ln lc : Nat} {bs : List WB} {s : WS} (h : WalkAt w g mb LA ln lc bs s) (k : Nat) : WalkAt (w.drewN k) g mb LA ln lc bs s := ⟨h.1, h.2.1.kept rfl, h.2.2.keep (fun _ _ => rfl) (fun _ hp => hp)⟩
theorem WalkAt.set_ {w : World} {g mb i : Nat} {LA : Option Addr} {ln lc : Nat} {bs : List WB} {s s' : WS} (h : WalkAt w g mb LA ln lc bs s) (v : Value) (hc : (wkC LA ln lc mb s).setIfInBounds i v = wkC LA ln lc mb s') (ht : s'.tk = s.tk) : WalkAt (w.setCell ⟨g, i, none⟩ v) g mb LA ln lc bs s' :=
  h.box ((Mv.refl w g mb).set_ v) (by rw [← hc]; exact h.1.set_ i v) (Below.heap_setCell _ _ _ _ (h.2.1.ne h.1)) ht
theorem results_cell_tmp9 {P : Program} {fn : Func} {p u : Tmp} {ty : TypeId} (h : fn.results = #[.cell p ty, .tmp u]) (tmps : Array Value) (w : World) (g : Nat) (t : TypeId) (cs : Array Value) (fr : Nat × Nat) (d : TypeDesc)
    (hp : tmps.getD p undef = .pointer (some ⟨g, 0, none⟩)) (hg : w.heap[g]? = some (.cells cs t fr))
    (hu : P.underlying ty = some d) (hd : (match d with | .struct _ | .array _ _ => true | _ => false) = true) (hi : (P.info? ty).map (·.size) = some cs.size) :
    (results fn tmps).run P w = .ok (.tuple #[.agg cs, tmps.getD u undef]) w := by
  rw [results_cell_tmp h, hp]
  simp [asAddr, Result.andThen, run_loadVar_row w g t ty cs fr d hg hu hd hi]

set_option maxRecDepth 100000 in
set_option maxHeartbeats 4000000 in
theorem fault_any (w : World) (g mb : Nat) (LA : Option Addr) (ln lc : Nat) (bs : List WB) (s : WS) (e : Int) (h : WalkAt w g mb LA ln lc bs s) :
    Calls Try.prog 32 #[.pointer (some ⟨g, 0, none⟩), .int .i64 e] w fun x w' => x = .returned (.tuple #[.agg #[.int .i64 4, .int .i64 s.at_, .int .i64 e], .bool true]) ∧ WalkAt w' g mb LA ln lc bs (stayS s 4 s.at_ e) ∧ Mv w w' g mb := by
  have hb1 : Below w.heap.size w (w.alloc (.cells #[.int .i64 0, .int .i64 0, .int .i64 0] 36)) := (Below.refl _ _).alloc (Nat.le_refl _) _
  have hP : Blk (w.alloc (.cells #[.int .i64 0, .int .i64 0, .int .i64 0] 36)) w.heap.size 36 #[.int .i64 0, .int .i64 0, .int .i64 0] := Blk.new w _ _
  have HH := Lib.hid (And.intro (h.below hb1) (And.intro hb1 (And.intro hP h)))
  clear h hb1 hP
  go_enter Try.func32, Try.ntmps32
  go_upto_region 1 with fail
  generalize (w.alloc (.cells #[.int .i64 0, .int .i64 0, .int .i64 0] 36)) = w0 at *
  have c1 : w0.cell? ⟨g, 1, none⟩ = some (.int .i64 s.at_) := (HH.out.1.1.cell 1).trans rfl
  have hst := stay_any w0 g mb LA ln lc bs s 4 s.at_ e HH.out.1
  go_wp2_with fail
  refine hst.mono ?_
  rintro x w1 ⟨rfl, hW, hM⟩
  clear hst c1
  have h0 := HH.out.2.2.2
  have hgl := h0.1.lt
  have hml := h0.2.1.lt
  have hpl := HH.out.2.2.1.lt
  have hP1 : Blk w1 w.heap.size 36 #[.int .i64 0, .int .i64 0, .int .i64 0] := (hM.block w.heap.size hpl (by omega) (by omega)).trans HH.out.2.2.1
  have H1 := Lib.hid (And.intro h0 (And.intro hW ((Mv.of_below HH.out.2.1).trans hM)))
  clear hW hM h0
  go_wp2_with (first
    | (refine wpList_store_box rfl 36 _ _ rfl (w.heap.size) #[.int .i64 4, .int .i64 s.at_, .int .i64 e] rfl rfl 36 #[.int .i64 0, .int .i64 0, .int .i64 0] hP1 stepInfo rfl (by simp [Value.oneCell']) ?_)
    | fail)
  intro w9 hB9 hg9
  have H9 := Lib.hid hg9
  clear hg9 hP1
  go_wp2_with fail
  refine bodyPost_ret (results_cell_tmp9 rfl _ _ (w.heap.size) 36 _ (0, 0) _ rfl hB9 Try.underlying36 rfl stepInfo) rfl ?_
  obtain ⟨q1, q2⟩ := H1.out.1.out H1.out.2.1 H1.out.2.2 H9.out (Nat.le_refl _)
  exact ⟨rfl, q1, q2⟩

/-- where a call goes on: where to, and how the way stands -/
def retS (bs : List WB) (s : WS) : WS := if s.cnext < (atB bs s.cfrom).ts.length then { s with cnext := s.cnext + 1 } else { s with con := false, cfrom := 0, cnext := 0 }
def retT (bs : List WB) (s : WS) : Int := if s.cnext < (atB bs s.cfrom).ts.length then s.cfrom + (atB bs s.cfrom).ts.getD s.cnext.toNat 0 else s.cfrom + 1

set_option maxRecDepth 100000 in
set_option maxHeartbeats 8000000 in
theorem returned_any (w : World) (g mb : Nat) (LA : Option Addr) (ln lc : Nat) (bs : List WB) (s : WS) (h : WalkAt w g mb LA ln lc bs s) (hc : s.con = true) (h0 : 0 ≤ s.cfrom) (h1 : s.cfrom < ln) (h2 : 1 ≤ s.cnext) (hf : ∀ d ∈ (atB bs s.cfrom).ts, 0 ≤ s.cfrom + d ∧ s.cfrom + d ≤ 60) (hl : ln ≤ 60) (hts : (atB bs s.cfrom).ts.length ≤ 60) :
    Calls Try.prog 33 #[.pointer (some ⟨g, 0, none⟩)] w fun x w' => x = .returned (.int .i64 (retT bs s)) ∧ WalkAt w' g mb LA ln lc bs (retS bs s) ∧ Mv w w' g mb := by
  obtain ⟨n, hn⟩ : ∃ n : Nat, s.cfrom = (n : Int) := ⟨s.cfrom.toNat, by omega⟩
  have hnl : n < ln := by omega
  obtain ⟨ad, rfl, hab, cs, hWB, hc18⟩ := h.2.2.at_ hnl
  have hat : atB bs s.cfrom = bs.getD n default := by rw [hn]; rfl
  obtain ⟨v2, v3, v4, v5, v6, v7, v9, v10, v11, v12, TA, tn, tc, IA, ic, v15, v16, v17, rfl, h1c, hTs, hIs⟩ := hWB
  have k13 : w.cell? ⟨(ad.add (n * 18)).block, (ad.add (n * 18)).off + 13, none⟩ = some (.slice TA tn tc) := by
    have := hc18 13 (.slice TA tn tc) rfl
    rw [show (ad.add (n * 18)).add 13 = ⟨(ad.add (n * 18)).block, (ad.add (n * 18)).off + 13, none⟩ from by unfold Addr.add; rw [if_neg (by decide)]] at this
    exact this
  have htl : (bs.getD n default).ts.length = tn := reads_len (hTs.reads (B := w.heap.size) (fun b h => h.2.2))
  obtain ⟨m, hm⟩ : ∃ m : Nat, s.cnext = (m : Int) := ⟨s.cnext.toNat, by omega⟩
  have hT := hTs.reads (B := w.heap.size) (fun b h => h.2.2)
  rw [hat] at hf hts
  have HTB := Lib.hid hTs
  have HT := Lib.hid (And.intro hT (And.intro hat (And.intro htl (And.intro hf (And.intro hm hn)))))
  have hB := h.1
  have d0 : w.cell? ⟨g, 0, none⟩ = some (.slice (some ad) ln lc) := (hB.cell 0).trans rfl
  have d7 : w.cell? ⟨g, 7, none⟩ = some (.int .i64 n) := by rw [← hn]; exact (hB.cell 7).trans rfl
  have d8 : w.cell? ⟨g, 8, none⟩ = some (.int .i64 m) := by rw [← hm]; exact (hB.cell 8).trans rfl
  have e6 : w.frozen? ⟨g, 6, none⟩ = false := hB.frozen 6
  have e7 : w.frozen? ⟨g, 7, none⟩ = false := hB.frozen 7
  have e8 : w.frozen? ⟨g, 8, none⟩ = false := hB.frozen 8
  have d6 : w.cell? ⟨g, 6, none⟩ = some (.bool s.con) := (hB.cell 6).trans rfl
  have hnI : (n : Int) < (ln : Int) := by omega
  have hn0 : (0 : Int) ≤ (n : Int) := Int.natCast_nonneg _
  have htn60 : tn ≤ 60 := by omega
  have hm1 : 1 ≤ m := by omega
  have HH := Lib.hid h
  clear h hc h0 h1 h2 hf hts hab hc18 h1c hTs hIs hat htl hT hm hn hB
  go_enter Try.func33, Try.ntmps33
  go_upto_region 1 with fail
  go_quiet (fail)
  have hW0 : WalkAt (w.drewN nq) g mb (some ad) ln lc bs s := HH.out.drewN nq
  have hM0 : Mv w (w.drewN nq) g mb := ⟨rfl, rfl, rfl, Nat.le_refl _, fun _ _ _ _ => rfl⟩
  have hT0 : Reads (w.drewN nq) w.heap.size 1 TA tn ((bs.getD n default).ts.map (Value.int .i64)) := HT.out.1
  have D7 : (w.drewN nq).cell? ⟨g, 7, none⟩ = some (.int .i64 n) := d7
  have D8 : (w.drewN nq).cell? ⟨g, 8, none⟩ = some (.int .i64 m) := d8
  have D6 : (w.drewN nq).cell? ⟨g, 6, none⟩ = some (.bool s.con) := d6
  have E6 : (w.drewN nq).frozen? ⟨g, 6, none⟩ = false := e6
  have E7 : (w.drewN nq).frozen? ⟨g, 7, none⟩ = false := e7
  have E8 : (w.drewN nq).frozen? ⟨g, 8, none⟩ = false := e8
  have hsz0 : (w.drewN nq).heap.size = w.heap.size := rfl
  clear d0 d6 d7 d8 e6 e7 e8 k13
  generalize w.drewN nq = w0 at *
  have H0 := Lib.hid (And.intro hW0 (And.intro hM0 (And.intro hT0 hsz0)))
  clear hW0 hM0 hT0 hsz0
  by_cases hlt : m < tn
  · have hmI : (m : Int) < (tn : Int) := by omega
    have hwm : IntKind.i64.wrap ((m : Int) + 1) = (m : Int) + 1 := by rw [IntKind.wrap_i64]; omega
    have hrt := Lib.hid (show retS bs s = { s with cnext := s.cnext + 1 } ∧ retT bs s = (n : Int) + (bs.getD n default).ts.getD m 0 from by
      have h9 : s.cnext < (atB bs s.cfrom).ts.length := by rw [HT.out.2.1, HT.out.2.2.1, HT.out.2.2.2.2.1]; omega
      unfold retS retT
      rw [if_pos h9, if_pos h9, HT.out.2.1, HT.out.2.2.2.2.1, HT.out.2.2.2.2.2]
      exact ⟨rfl, rfl⟩)
    go_upto_region 4 with fail
    have hW2 : WalkAt (w0.setCell ⟨g, 8, none⟩ (.int .i64 ((m : Int) + 1))) g mb (some ad) ln lc bs { s with cnext := s.cnext + 1 } := H0.out.1.set_ _ (by rw [← HT.out.2.2.2.2.1]; rfl) rfl
    have hM2 : Mv w (w0.setCell ⟨g, 8, none⟩ (.int .i64 ((m : Int) + 1))) g mb := H0.out.2.1.set_ _
    obtain ⟨tad, rfl, htb, hcx⟩ := i32_at H0.out.2.2.1 hlt
    have hgt : tad.block ≠ g := by
      obtain ⟨t9, e9, hp9, _⟩ := HTB.out.2 (by omega)
      injection e9 with e9
      subst e9
      exact hp9.1
    have hx0 := HT.out.2.2.2.1 ((bs.getD n default).ts.getD m 0) (getD_mem (by rw [HT.out.2.2.1]; exact hlt))
    rw [HT.out.2.2.2.2.2] at hx0
    generalize (bs.getD n default).ts.getD m 0 = x at *
    have hcx2 : (w0.setCell ⟨g, 8, none⟩ (.int .i64 ((m : Int) + 1))).cell? (tad.add m) = some (.int .i64 x) := (World.cell?_setCell_other w0 _ _ _ (fun e => by
      have h9 := congrArg Addr.block e
      rw [block_of_add] at h9
      exact hgt (by first | exact h9 | exact h9.symm))).trans hcx
    have hc7 : (w0.setCell ⟨g, 8, none⟩ (.int .i64 ((m : Int) + 1))).cell? ⟨g, 7, none⟩ = some (.int .i64 n) := (hW2.1.cell 7).trans (by show some (Value.int .i64 s.cfrom) = some (Value.int .i64 (n : Int)); rw [HT.out.2.2.2.2.2])
    have hc8 : (w0.setCell ⟨g, 8, none⟩ (.int .i64 ((m : Int) + 1))).cell? ⟨g, 8, none⟩ = some (.int .i64 ((m : Int) + 1)) := (hW2.1.cell 8).trans (by show some (Value.int .i64 (s.cnext + 1)) = some (Value.int .i64 ((m : Int) + 1)); rw [HT.out.2.2.2.2.1])
    have H2 := Lib.hid (And.intro hW2 hM2)
    clear hW2 hM2 D6 D7 D8 E6 E7 E8 hcx
    generalize (w0.setCell ⟨g, 8, none⟩ (.int .i64 ((m : Int) + 1))) = w2 at *
    have hws : IntKind.i64.wrap ((m : Int) + 1 - 1) = (m : Int) := by rw [IntKind.wrap_i64]; omega
    have hwx : IntKind.i64.wrap ((n : Int) + x) = (n : Int) + x := by rw [IntKind.wrap_i64]; omega
    have hm0 : (0 : Int) ≤ (m : Int) := Int.natCast_nonneg _
    go_quiet (fail)
    have H3 := Lib.hid (show WalkAt (w2.drewN nq) g mb (some ad) ln lc bs { s with cnext := s.cnext + 1 } ∧ Mv w (w2.drewN nq) g mb from ⟨H2.out.1.drewN nq, H2.out.2.trans ⟨rfl, rfl, rfl, Nat.le_refl _, fun _ _ _ _ => rfl⟩⟩)
    clear hcx2 hc7 hc8
    go_wp2
    go_ret
    rw [hrt.out.1, hrt.out.2]
    exact ⟨rfl, H3.out.1, H3.out.2⟩
  · have hmI : ¬ (m : Int) < (tn : Int) := by omega
    have hwn : IntKind.i64.wrap ((n : Int) + 1) = (n : Int) + 1 := by rw [IntKind.wrap_i64]; omega
    have hrt := Lib.hid (show retS bs s = { s with con := false, cfrom := 0, cnext := 0 } ∧ retT bs s = (n : Int) + 1 from by
      have h9 : ¬ s.cnext < (atB bs s.cfrom).ts.length := by rw [HT.out.2.1, HT.out.2.2.1, HT.out.2.2.2.2.1]; omega
      unfold retS retT
      rw [if_neg h9, if_neg h9, HT.out.2.2.2.2.2]
      exact ⟨rfl, rfl⟩)
    have H2 := Lib.hid (show WalkAt (((w0.setCell ⟨g, 6, none⟩ (.bool false)).setCell ⟨g, 7, none⟩ (.int .i64 0)).setCell ⟨g, 8, none⟩ (.int .i64 0)) g mb (some ad) ln lc bs { s with con := false, cfrom := 0, cnext := 0 } ∧ Mv w (((w0.setCell ⟨g, 6, none⟩ (.bool false)).setCell ⟨g, 7, none⟩ (.int .i64 0)).setCell ⟨g, 8, none⟩ (.int .i64 0)) g mb from
      ⟨((H0.out.1.set_ (s' := { s with con := false }) _ rfl rfl).set_ (s' := { s with con := false, cfrom := 0 }) _ rfl rfl).set_ _ rfl rfl, ((H0.out.2.1.set_ _).set_ _).set_ _⟩)
    go_wp2
    go_ret
    rw [hrt.out.1, hrt.out.2]
    exact ⟨rfl, H2.out.1, H2.out.2⟩
end Go.Proofs.Ytnmapncgnceldaa
