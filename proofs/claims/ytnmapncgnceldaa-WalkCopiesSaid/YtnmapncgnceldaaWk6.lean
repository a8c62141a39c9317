/- Layer 24: how a way stands in memory; contracts of Sounds, stay, fault. -/
import Derived.Test.YtnmapncgnceldaaWk5
namespace Go.Proofs.Ytnmapncgnceldaa
open Go.RowKit

def wkC (LA : Option Addr) (ln lc mb : Nat) (s : WS) : Array Value :=
  #[.slice LA ln lc, .int .i64 s.at_, .bool s.on, .bool s.heard, .int .i64 s.frm, .int .i64 s.times, .bool s.con, .int .i64 s.cfrom, .int .i64 s.cnext, .map (some mb), .int .i64 s.lk, .int .i64 s.lb, .int .i64 s.le, .bool s.ov]
/-- a way in memory: its box g, its map mb, its blocks elsewhere -/
def WalkAt (w : World) (g mb : Nat) (LA : Option Addr) (ln lc : Nat) (bs : List WB) (s : WS) : Prop :=
  Blk w g 58 (wkC LA ln lc mb s) ∧ TkAt w mb s.tk ∧ BlksR w (fun b => b ≠ g ∧ b ≠ mb ∧ b < w.heap.size) LA ln bs
/-- what a way's methods leave as it was: all but its box and its map -/
structure Mv (w w' : World) (g mb : Nat) : Prop where
  os : w'.os = w.os
  tape : w'.tape = w.tape
  output : w'.output = w.output
  size : w.heap.size ≤ w'.heap.size
  block : ∀ k, k < w.heap.size → k ≠ g → k ≠ mb → w'.heap[k]? = w.heap[k]?
theorem Mv.refl (w : World) (g mb : Nat) : Mv w w g mb := ⟨rfl, rfl, rfl, Nat.le_refl _, fun _ _ _ _ => rfl⟩
theorem Mv.trans {a b c : World} {g mb : Nat} (h : Mv a b g mb) (k : Mv b c g mb) : Mv a c g mb :=
  ⟨k.os.trans h.os, k.tape.trans h.tape, k.output.trans h.output, Nat.le_trans h.size k.size, fun i hi h1 h2 => (k.block i (Nat.lt_of_lt_of_le hi h.size) h1 h2).trans (h.block i hi h1 h2)⟩
theorem Mv.of_below {w w' : World} {g mb : Nat} (h : Below w.heap.size w w') : Mv w w' g mb := ⟨h.os, h.tape, h.output, h.size, fun k hk _ _ => h.block k hk⟩
theorem Mv.of_grown {w w' : World} {g mb r : Nat} (h : w.grownBy w' (some r)) (hr : r = g ∨ r = mb) : Mv w w' g mb :=
  ⟨h.os, h.tape, h.output, h.size, fun k hk h1 h2 => h.block k hk (fun e => by injection e with e; subst e; rcases hr with h | h; exact h1 h; exact h2 h)⟩
theorem Mv.set_ {w w' : World} {g mb i : Nat} (h : Mv w w' g mb) (v : Value) : Mv w (w'.setCell ⟨g, i, none⟩ v) g mb :=
  h.trans ⟨rfl, rfl, rfl, by simp [World.setCell], fun k _ h1 _ => Below.heap_setCell _ _ _ _ h1⟩
theorem Mv.new {w w4 w9 : World} {g mb r : Nat} (h : Mv w w4 g mb) (hg : w4.grownBy w9 (some r)) (hr : w.heap.size ≤ r) : Mv w w9 g mb :=
  ⟨hg.os.trans h.os, hg.tape.trans h.tape, hg.output.trans h.output, Nat.le_trans h.size hg.size, fun k hk h1 h2 => (hg.block k (Nat.lt_of_lt_of_le hk h.size) (fun e => by injection e with e; omega)).trans (h.block k hk h1 h2)⟩
theorem Mv.below {w w' : World} {g mb B : Nat} (h : Mv w w' g mb) (hB : B ≤ w.heap.size) (hg : B ≤ g) (hm : B ≤ mb) : Below B w w' :=
  ⟨h.os, h.tape, h.output, h.size, fun k hk => h.block k (by omega) (by omega) (by omega)⟩
theorem TkAt.lt {w : World} {b : Nat} {tk : List Int} (h : TkAt w b tk) : b < w.heap.size := by
  obtain ⟨D, hown, _⟩ := h
  exact hown.lt
theorem TkAt.ne {w : World} {b g : Nat} {tk : List Int} {t : TypeId} {cs : Array Value} (h : TkAt w b tk) (hB : Blk w g t cs) : b ≠ g := by
  rintro rfl
  obtain ⟨D, ⟨es, clock, hb, _⟩, _⟩ := h
  unfold Blk at hB
  rw [hB] at hb
  cases hb
/-- the way stands as it did while other memory is made -/
theorem WalkAt.below {w w' : World} {g mb : Nat} {LA : Option Addr} {ln lc : Nat} {bs : List WB} {s : WS} (h : WalkAt w g mb LA ln lc bs s) (hb : Below w.heap.size w w') : WalkAt w' g mb LA ln lc bs s := by
  obtain ⟨h1, h2, h3⟩ := h
  have hs := hb.size
  exact ⟨h1.below hb h1.lt, h2.kept (hb.block _ h2.lt), h3.keep (fun b hp => hb.block b hp.2.2) (fun b hp => ⟨hp.1, hp.2.1, by omega⟩)⟩
/-- another's methods leave it as it was -/
theorem WalkAt.mv {w w' : World} {g mb g2 mb2 : Nat} {LA : Option Addr} {ln lc : Nat} {bs : List WB} {s : WS} (h : WalkAt w g mb LA ln lc bs s) (hm : Mv w w' g2 mb2) (h1 : g ≠ g2 ∧ g ≠ mb2) (h2 : mb ≠ g2 ∧ mb ≠ mb2) (h3 : BlksR w (fun b => b ≠ g ∧ b ≠ mb ∧ b ≠ g2 ∧ b ≠ mb2 ∧ b < w.heap.size) LA ln bs) : WalkAt w' g mb LA ln lc bs s := by
  obtain ⟨q1, q2, _⟩ := h
  have hs := hm.size
  refine ⟨(hm.block g q1.lt h1.1 h1.2).trans q1, q2.kept (hm.block mb q2.lt h2.1 h2.2), h3.keep (fun b hp => hm.block b hp.2.2.2.2 hp.2.2.1 hp.2.2.2.1) (fun b hp => ⟨hp.1, hp.2.1, by have := hp.2.2.2.2; omega⟩)⟩
/-- its box is written anew -/
theorem WalkAt.box {w w' : World} {g mb : Nat} {LA : Option Addr} {ln lc : Nat} {bs : List WB} {s s' : WS} (h : WalkAt w g mb LA ln lc bs s) (hm : Mv w w' g mb) (hB : Blk w' g 58 (wkC LA ln lc mb s')) (hk : w'.heap[mb]? = w.heap[mb]?) (ht : s'.tk = s.tk) : WalkAt w' g mb LA ln lc bs s' := by
  obtain ⟨_, h2, h3⟩ := h
  have hs := hm.size
  rw [← ht] at h2
  exact ⟨hB, h2.kept hk, h3.keep (fun b hp => hm.block b hp.2.2 hp.1 hp.2.1) (fun b hp => ⟨hp.1, hp.2.1, by have := hp.2.2; omega⟩)⟩
theorem stepInfo : (Try.prog.info? 36).map (·.size) = some 3 := by kernel_rfl

set_option maxRecDepth 100000 in
set_option maxHeartbeats 4000000 in
theorem sounds_any (w : World) (i : Int) : Calls Try.prog 28 #[.int .i64 i] w fun e w' => e = .returned (.bool (soundsB i)) ∧ w = w' := by
  by_cases h : 16 ≤ i ∧ i ≤ 21 ∨ i = 24 ∨ i = 25 ∨ i = 32
  · have HY := Lib.hid (show soundsB i = true from decide_eq_true h)
    obtain rfl | rfl | rfl | rfl | rfl | rfl | rfl | rfl | rfl : i = 16 ∨ i = 17 ∨ i = 18 ∨ i = 19 ∨ i = 20 ∨ i = 21 ∨ i = 24 ∨ i = 25 ∨ i = 32 := by omega
    all_goals
      clear h
      go_enter Try.func28, Try.ntmps28
      go_wp2
      go_ret
      rw [HY.out]
      exact ⟨rfl, rfl⟩
  · have HY := Lib.hid (show soundsB i = false from decide_eq_false h)
    have h1 : (i == 16) = false := by simpa using (show ¬ i = 16 by omega)
    have h2 : (i == 17) = false := by simpa using (show ¬ i = 17 by omega)
    have h3 : (i == 18) = false := by simpa using (show ¬ i = 18 by omega)
    have h4 : (i == 19) = false := by simpa using (show ¬ i = 19 by omega)
    have h5 : (i == 20) = false := by simpa using (show ¬ i = 20 by omega)
    have h6 : (i == 21) = false := by simpa using (show ¬ i = 21 by omega)
    have h7 : (i == 24) = false := by simpa using (show ¬ i = 24 by omega)
    have h8 : (i == 25) = false := by simpa using (show ¬ i = 25 by omega)
    have h9 : (i == 32) = false := by simpa using (show ¬ i = 32 by omega)
    clear h
    go_enter Try.func28, Try.ntmps28
    go_wp2
    go_ret
    rw [HY.out]
    exact ⟨rfl, rfl⟩

set_option maxRecDepth 100000 in
set_option maxHeartbeats 8000000 in
theorem stay_any (w : World) (g mb : Nat) (LA : Option Addr) (ln lc : Nat) (bs : List WB) (s : WS) (k b e : Int) (h : WalkAt w g mb LA ln lc bs s) :
    Calls Try.prog 20 #[.pointer (some ⟨g, 0, none⟩), .agg #[.int .i64 k, .int .i64 b, .int .i64 e]] w fun x w' => x = .returned (.agg #[.int .i64 k, .int .i64 b, .int .i64 e]) ∧ WalkAt w' g mb LA ln lc bs (stayS s k b e) ∧ Mv w w' g mb := by
  have hB := h.1
  have hb1 : Below w.heap.size w (w.alloc (.cells #[.int .i64 k, .int .i64 b, .int .i64 e] 36)) := (Below.refl _ _).alloc (Nat.le_refl _) _
  have hb2 : Below w.heap.size w ((w.alloc (.cells #[.int .i64 k, .int .i64 b, .int .i64 e] 36)).alloc (.cells #[.int .i64 0, .int .i64 0, .int .i64 0] 36)) := hb1.alloc hb1.size _
  have hP : Blk ((w.alloc (.cells #[.int .i64 k, .int .i64 b, .int .i64 e] 36)).alloc (.cells #[.int .i64 0, .int .i64 0, .int .i64 0] 36)) w.heap.size 36 #[.int .i64 k, .int .i64 b, .int .i64 e] := (Blk.new w _ _).alloc _
  have hQ : Blk ((w.alloc (.cells #[.int .i64 k, .int .i64 b, .int .i64 e] 36)).alloc (.cells #[.int .i64 0, .int .i64 0, .int .i64 0] 36)) (w.heap.size + 1) 36 #[.int .i64 0, .int .i64 0, .int .i64 0] := by
    have := Blk.new (w.alloc (.cells #[.int .i64 k, .int .i64 b, .int .i64 e] 36)) 36 #[.int .i64 0, .int .i64 0, .int .i64 0]
    simpa using this
  have HH := Lib.hid (And.intro (h.below hb2) (And.intro hb2 (And.intro hP (And.intro hQ (And.intro hB.lt h)))))
  clear h hB hb1 hb2 hP hQ
  go_enter Try.func20, Try.ntmps20
  go_upto_region 1 with fail
  generalize ((w.alloc (.cells #[.int .i64 k, .int .i64 b, .int .i64 e] 36)).alloc (.cells #[.int .i64 0, .int .i64 0, .int .i64 0] 36)) = w0 at *
  have hP := HH.out.2.2.1
  have hB := HH.out.1.1
  have hgl := HH.out.2.2.2.2.1
  have c10 : w0.cell? ⟨g, 10, none⟩ = some (.int .i64 s.lk) := (hB.cell 10).trans rfl
  have c11 : w0.cell? ⟨g, 11, none⟩ = some (.int .i64 s.lb) := (hB.cell 11).trans rfl
  have c12 : w0.cell? ⟨g, 12, none⟩ = some (.int .i64 s.le) := (hB.cell 12).trans rfl
  have c13 : w0.cell? ⟨g, 13, none⟩ = some (.bool s.ov) := (hB.cell 13).trans rfl
  have f10 : w0.frozen? ⟨g, 10, none⟩ = false := hB.frozen 10
  have f11 : w0.frozen? ⟨g, 11, none⟩ = false := hB.frozen 11
  have f12 : w0.frozen? ⟨g, 12, none⟩ = false := hB.frozen 12
  have f13 : w0.frozen? ⟨g, 13, none⟩ = false := hB.frozen 13
  go_upto_region 2 with (first
    | (refine wpList_load_box rfl 36 _ rfl (w.heap.size) rfl 36 #[.int .i64 k, .int .i64 b, .int .i64 e] hP _ Try.underlying36 rfl stepInfo (fun (_ : Hid _) => ?_))
    | fail)
  have hB4 : Blk ((((w0.setCell ⟨g, 10, none⟩ (.int .i64 k)).setCell ⟨g, 11, none⟩ (.int .i64 b)).setCell ⟨g, 12, none⟩ (.int .i64 e)).setCell ⟨g, 13, none⟩ (.bool true)) g 58 (wkC LA ln lc mb (stayS s k b e)) := (((hB.set_ 10 _).set_ 11 _).set_ 12 _).set_ 13 _
  have hP4 : Blk ((((w0.setCell ⟨g, 10, none⟩ (.int .i64 k)).setCell ⟨g, 11, none⟩ (.int .i64 b)).setCell ⟨g, 12, none⟩ (.int .i64 e)).setCell ⟨g, 13, none⟩ (.bool true)) w.heap.size 36 #[.int .i64 k, .int .i64 b, .int .i64 e] := (((hP.far (by show w.heap.size ≠ g; omega) _).far (by show w.heap.size ≠ g; omega) _).far (by show w.heap.size ≠ g; omega) _).far (by show w.heap.size ≠ g; omega) _
  have hQ4 : Blk ((((w0.setCell ⟨g, 10, none⟩ (.int .i64 k)).setCell ⟨g, 11, none⟩ (.int .i64 b)).setCell ⟨g, 12, none⟩ (.int .i64 e)).setCell ⟨g, 13, none⟩ (.bool true)) (w.heap.size + 1) 36 #[.int .i64 0, .int .i64 0, .int .i64 0] := (((HH.out.2.2.2.1.far (by show w.heap.size + 1 ≠ g; omega) _).far (by show w.heap.size + 1 ≠ g; omega) _).far (by show w.heap.size + 1 ≠ g; omega) _).far (by show w.heap.size + 1 ≠ g; omega) _
  have hM4 : Mv w0 ((((w0.setCell ⟨g, 10, none⟩ (.int .i64 k)).setCell ⟨g, 11, none⟩ (.int .i64 b)).setCell ⟨g, 12, none⟩ (.int .i64 e)).setCell ⟨g, 13, none⟩ (.bool true)) g mb := ((((Mv.refl w0 g mb).set_ _).set_ _).set_ _).set_ _
  have hne := HH.out.1.2.1.ne HH.out.1.1
  have hk4 : ((((w0.setCell ⟨g, 10, none⟩ (.int .i64 k)).setCell ⟨g, 11, none⟩ (.int .i64 b)).setCell ⟨g, 12, none⟩ (.int .i64 e)).setCell ⟨g, 13, none⟩ (.bool true)).heap[mb]? = w0.heap[mb]? := (Below.heap_setCell _ _ _ _ hne).trans ((Below.heap_setCell _ _ _ _ hne).trans ((Below.heap_setCell _ _ _ _ hne).trans (Below.heap_setCell _ _ _ _ hne)))
  have H4 := Lib.hid (And.intro hB4 (And.intro ((Mv.of_below HH.out.2.1).trans hM4) (And.intro hk4 hM4.size)))
  clear c10 c11 c12 c13 f10 f11 f12 f13 hB hP hB4 hM4 hne hk4
  generalize ((((w0.setCell ⟨g, 10, none⟩ (.int .i64 k)).setCell ⟨g, 11, none⟩ (.int .i64 b)).setCell ⟨g, 12, none⟩ (.int .i64 e)).setCell ⟨g, 13, none⟩ (.bool true)) = w4 at *
  go_wp2_with (first
    | (refine wpList_load_box rfl 36 _ rfl (w.heap.size) rfl 36 #[.int .i64 k, .int .i64 b, .int .i64 e] hP4 _ Try.underlying36 rfl stepInfo (fun (_ : Hid _) => ?_))
    | (refine wpList_store_box rfl 36 _ _ rfl (w.heap.size + 1) #[.int .i64 k, .int .i64 b, .int .i64 e] rfl rfl 36 #[.int .i64 0, .int .i64 0, .int .i64 0] hQ4 stepInfo rfl (by simp [Value.oneCell']) ?_)
    | fail)
  intro w9 hB9 hg9
  have H9 := Lib.hid hg9
  clear hg9 hP4 hQ4
  go_wp2_with fail
  refine bodyPost_ret (results_cell_row rfl _ _ (w.heap.size + 1) 36 _ (0, 0) _ rfl hB9 Try.underlying36 rfl stepInfo) rfl ?_
  have h0 := HH.out.2.2.2.2.2
  have hMv : Mv w w9 g mb := H4.out.2.1.new H9.out (by omega)
  have hml := h0.2.1.lt
  refine ⟨rfl, h0.box hMv (H4.out.1.grown H9.out (fun e => by injection e with e; omega)) ((H9.out.block mb (by have := H4.out.2.1.size; omega) (fun e => by injection e with e; omega)).trans (H4.out.2.2.1.trans (HH.out.2.1.block mb hml))) rfl, hMv⟩
end Go.Proofs.Ytnmapncgnceldaa
