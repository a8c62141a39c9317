/- Layer 24: the document's way, how it stands; contracts of its small functions. -/
import Derived.Test.YtnmapncgnceldaaWk20
namespace Go.Proofs.Ytnmapncgnceldaa
open Go.RowKit

/-- how the document's way stands -/
structure DW where
  at_ : Int
  loop : Int
  left : Int
  heard : Bool
  call : Int
  nth : Int
  over : Bool
  kind : Int
  block : Int
  e : Int
def dwC (LA : Option Addr) (ln lc : Nat) (TA : Option Addr) (tn tc : Nat) (d : DW) : Array Value := #[.slice LA ln lc, .int .i64 (d.at_), .int .i64 (d.loop), .int .i64 (d.left), .bool (d.heard), .int .i64 (d.call), .int .i64 (d.nth), .slice TA tn tc, .bool (d.over), .int .i64 (d.kind), .int .i64 (d.block), .int .i64 (d.e)]
def dw0 : DW := ⟨0, -1, 0, false, -1, 0, false, 0, 0, 0⟩
def toldD (d : DW) (k e : Int) : DW := { d with kind := k, block := d.at_, e := e, over := decide (3 ≤ k), at_ := if k < 3 then d.at_ + 1 else d.at_ }
theorem dwInfo : (Try.prog.info? 33).map (·.size) = some 12 := by kernel_rfl
theorem dwOne {LA : Option Addr} {ln lc : Nat} {TA : Option Addr} {tn tc : Nat} {d : DW} : (dwC LA ln lc TA tn tc d).all (·.oneCell') = true := by simp [dwC, Value.oneCell']

set_option maxRecDepth 100000 in
set_option maxHeartbeats 4000000 in
theorem told_lo (w : World) (LA : Option Addr) (ln lc : Nat) (TA : Option Addr) (tn tc : Nat) (d : DW) (k e : Int) (h0 : 0 ≤ d.at_ ∧ d.at_ ≤ 60) (hk : k < 3) :
    Calls Try.prog 21 #[.agg (dwC LA ln lc TA tn tc d), .int .i64 k, .int .i64 e] w fun x w' => x = .returned (.agg (dwC LA ln lc TA tn tc (toldD d k e))) ∧ Below w.heap.size w w' := by
  obtain ⟨h0, h1⟩ := h0
  have hb2 : Below w.heap.size w ((w.alloc (.cells (dwC LA ln lc TA tn tc d) 33)).alloc (.cells #[.slice none 0 0, .int .i64 0, .int .i64 0, .int .i64 0, .bool false, .int .i64 0, .int .i64 0, .slice none 0 0, .bool false, .int .i64 0, .int .i64 0, .int .i64 0] 33)) := ((Below.refl _ _).alloc (Nat.le_refl _) _).alloc (by simp) _
  have hP : Blk ((w.alloc (.cells (dwC LA ln lc TA tn tc d) 33)).alloc (.cells #[.slice none 0 0, .int .i64 0, .int .i64 0, .int .i64 0, .bool false, .int .i64 0, .int .i64 0, .slice none 0 0, .bool false, .int .i64 0, .int .i64 0, .int .i64 0] 33)) w.heap.size 33 (dwC LA ln lc TA tn tc d) := (Blk.new w _ _).alloc _
  have hQ : Blk ((w.alloc (.cells (dwC LA ln lc TA tn tc d) 33)).alloc (.cells #[.slice none 0 0, .int .i64 0, .int .i64 0, .int .i64 0, .bool false, .int .i64 0, .int .i64 0, .slice none 0 0, .bool false, .int .i64 0, .int .i64 0, .int .i64 0] 33)) (w.heap.size + 1) 33 #[.slice none 0 0, .int .i64 0, .int .i64 0, .int .i64 0, .bool false, .int .i64 0, .int .i64 0, .slice none 0 0, .bool false, .int .i64 0, .int .i64 0, .int .i64 0] := by
    have := Blk.new (w.alloc (.cells (dwC LA ln lc TA tn tc d) 33)) 33 #[.slice none 0 0, .int .i64 0, .int .i64 0, .int .i64 0, .bool false, .int .i64 0, .int .i64 0, .slice none 0 0, .bool false, .int .i64 0, .int .i64 0, .int .i64 0]
    simpa using this
  have H0 := Lib.hid (And.intro hb2 (And.intro hP hQ))
  clear hb2 hP hQ
  go_enter Try.func21, Try.ntmps21
  go_upto_region 1 with fail
  generalize ((w.alloc (.cells (dwC LA ln lc TA tn tc d) 33)).alloc (.cells #[.slice none 0 0, .int .i64 0, .int .i64 0, .int .i64 0, .bool false, .int .i64 0, .int .i64 0, .slice none 0 0, .bool false, .int .i64 0, .int .i64 0, .int .i64 0] 33)) = w0 at *
  have c1 : w0.cell? ⟨w.heap.size, 1, none⟩ = some (.int .i64 (d.at_)) := (H0.out.2.1.cell 1).trans rfl
  have c8 : w0.cell? ⟨w.heap.size, 8, none⟩ = some (.bool (d.over)) := (H0.out.2.1.cell 8).trans rfl
  have c9 : w0.cell? ⟨w.heap.size, 9, none⟩ = some (.int .i64 (d.kind)) := (H0.out.2.1.cell 9).trans rfl
  have c10 : w0.cell? ⟨w.heap.size, 10, none⟩ = some (.int .i64 (d.block)) := (H0.out.2.1.cell 10).trans rfl
  have c11 : w0.cell? ⟨w.heap.size, 11, none⟩ = some (.int .i64 (d.e)) := (H0.out.2.1.cell 11).trans rfl
  have f1 : w0.frozen? ⟨w.heap.size, 1, none⟩ = false := H0.out.2.1.frozen 1
  have f8 : w0.frozen? ⟨w.heap.size, 8, none⟩ = false := H0.out.2.1.frozen 8
  have f9 : w0.frozen? ⟨w.heap.size, 9, none⟩ = false := H0.out.2.1.frozen 9
  have f10 : w0.frozen? ⟨w.heap.size, 10, none⟩ = false := H0.out.2.1.frozen 10
  have f11 : w0.frozen? ⟨w.heap.size, 11, none⟩ = false := H0.out.2.1.frozen 11
  have hwa : IntKind.i64.wrap (d.at_ + 1) = d.at_ + 1 := by rw [IntKind.wrap_i64]; omega
  have hkd : decide (3 ≤ k) = false := by simp; omega
  go_upto_region 7 with fail
  have HD : dwC LA ln lc TA tn tc (toldD d k e) = #[.slice LA ln lc, .int .i64 (if k < 3 then d.at_ + 1 else d.at_), .int .i64 (d.loop), .int .i64 (d.left), .bool (d.heard), .int .i64 (d.call), .int .i64 (d.nth), .slice TA tn tc, .bool (decide (3 ≤ k)), .int .i64 (k), .int .i64 (d.at_), .int .i64 (e)] := by
    rfl
  rw [hkd, if_pos (by omega)] at HD
  have HZ := Lib.hid (show Blk (((((w0.setCell ⟨w.heap.size, 9, none⟩ (.int .i64 k)).setCell ⟨w.heap.size, 10, none⟩ (.int .i64 d.at_)).setCell ⟨w.heap.size, 11, none⟩ (.int .i64 e)).setCell ⟨w.heap.size, 8, none⟩ (.bool false)).setCell ⟨w.heap.size, 1, none⟩ (.int .i64 (d.at_ + 1))) w.heap.size 33 (dwC LA ln lc TA tn tc (toldD d k e)) ∧ Blk (((((w0.setCell ⟨w.heap.size, 9, none⟩ (.int .i64 k)).setCell ⟨w.heap.size, 10, none⟩ (.int .i64 d.at_)).setCell ⟨w.heap.size, 11, none⟩ (.int .i64 e)).setCell ⟨w.heap.size, 8, none⟩ (.bool false)).setCell ⟨w.heap.size, 1, none⟩ (.int .i64 (d.at_ + 1))) (w.heap.size + 1) 33 #[.slice none 0 0, .int .i64 0, .int .i64 0, .int .i64 0, .bool false, .int .i64 0, .int .i64 0, .slice none 0 0, .bool false, .int .i64 0, .int .i64 0, .int .i64 0] ∧ Below w.heap.size w (((((w0.setCell ⟨w.heap.size, 9, none⟩ (.int .i64 k)).setCell ⟨w.heap.size, 10, none⟩ (.int .i64 d.at_)).setCell ⟨w.heap.size, 11, none⟩ (.int .i64 e)).setCell ⟨w.heap.size, 8, none⟩ (.bool false)).setCell ⟨w.heap.size, 1, none⟩ (.int .i64 (d.at_ + 1))) from ⟨by rw [HD]; exact (((((H0.out.2.1.set_ 9 _).set_ 10 _).set_ 11 _).set_ 8 _).set_ 1 _), (((((H0.out.2.2.far (by show w.heap.size + 1 ≠ w.heap.size; omega) _).far (by show w.heap.size + 1 ≠ w.heap.size; omega) _).far (by show w.heap.size + 1 ≠ w.heap.size; omega) _).far (by show w.heap.size + 1 ≠ w.heap.size; omega) _).far (by show w.heap.size + 1 ≠ w.heap.size; omega) _), (((((H0.out.1.setCell (by show w.heap.size ≤ w.heap.size; omega) _).setCell (by show w.heap.size ≤ w.heap.size; omega) _).setCell (by show w.heap.size ≤ w.heap.size; omega) _).setCell (by show w.heap.size ≤ w.heap.size; omega) _).setCell (by show w.heap.size ≤ w.heap.size; omega) _)⟩)
  clear c1 c8 c9 c10 c11 f1 f8 f9 f10 f11 HD
  generalize (((((w0.setCell ⟨w.heap.size, 9, none⟩ (.int .i64 k)).setCell ⟨w.heap.size, 10, none⟩ (.int .i64 d.at_)).setCell ⟨w.heap.size, 11, none⟩ (.int .i64 e)).setCell ⟨w.heap.size, 8, none⟩ (.bool false)).setCell ⟨w.heap.size, 1, none⟩ (.int .i64 (d.at_ + 1))) = wz at *
  have hPz := HZ.out.1
  have hQz := HZ.out.2.1
  go_wp2_with (first
    | (refine wpList_load_box rfl 33 _ rfl (w.heap.size) rfl 33 (dwC LA ln lc TA tn tc (toldD d k e)) hPz _ Try.underlying33 rfl dwInfo (fun (_ : Hid _) => ?_))
    | (refine wpList_store_box rfl 33 _ _ rfl (w.heap.size + 1) (dwC LA ln lc TA tn tc (toldD d k e)) rfl rfl 33 #[.slice none 0 0, .int .i64 0, .int .i64 0, .int .i64 0, .bool false, .int .i64 0, .int .i64 0, .slice none 0 0, .bool false, .int .i64 0, .int .i64 0, .int .i64 0] hQz dwInfo rfl dwOne ?_)
    | fail)
  intro w9 hB9 hg9
  have H9 := Lib.hid (show Below w.heap.size w w9 from (HZ.out.2.2).grown hg9 (HZ.out.2.2).size (fun b e => by injection e with e; omega))
  have HG9 := Lib.hid hg9
  clear hg9
  clear hPz hQz
  go_wp2_with fail
  refine bodyPost_ret (results_cell_row rfl _ _ (w.heap.size + 1) 33 _ (0, 0) _ rfl hB9 Try.underlying33 rfl dwInfo) rfl ?_
  exact ⟨rfl, H9.out⟩

set_option maxRecDepth 100000 in
set_option maxHeartbeats 4000000 in
theorem told_hi (w : World) (LA : Option Addr) (ln lc : Nat) (TA : Option Addr) (tn tc : Nat) (d : DW) (k e : Int) (h0 : 0 ≤ d.at_ ∧ d.at_ ≤ 60) (hk : 3 ≤ k) :
    Calls Try.prog 21 #[.agg (dwC LA ln lc TA tn tc d), .int .i64 k, .int .i64 e] w fun x w' => x = .returned (.agg (dwC LA ln lc TA tn tc (toldD d k e))) ∧ Below w.heap.size w w' := by
  obtain ⟨h0, h1⟩ := h0
  have hb2 : Below w.heap.size w ((w.alloc (.cells (dwC LA ln lc TA tn tc d) 33)).alloc (.cells #[.slice none 0 0, .int .i64 0, .int .i64 0, .int .i64 0, .bool false, .int .i64 0, .int .i64 0, .slice none 0 0, .bool false, .int .i64 0, .int .i64 0, .int .i64 0] 33)) := ((Below.refl _ _).alloc (Nat.le_refl _) _).alloc (by simp) _
  have hP : Blk ((w.alloc (.cells (dwC LA ln lc TA tn tc d) 33)).alloc (.cells #[.slice none 0 0, .int .i64 0, .int .i64 0, .int .i64 0, .bool false, .int .i64 0, .int .i64 0, .slice none 0 0, .bool false, .int .i64 0, .int .i64 0, .int .i64 0] 33)) w.heap.size 33 (dwC LA ln lc TA tn tc d) := (Blk.new w _ _).alloc _
  have hQ : Blk ((w.alloc (.cells (dwC LA ln lc TA tn tc d) 33)).alloc (.cells #[.slice none 0 0, .int .i64 0, .int .i64 0, .int .i64 0, .bool false, .int .i64 0, .int .i64 0, .slice none 0 0, .bool false, .int .i64 0, .int .i64 0, .int .i64 0] 33)) (w.heap.size + 1) 33 #[.slice none 0 0, .int .i64 0, .int .i64 0, .int .i64 0, .bool false, .int .i64 0, .int .i64 0, .slice none 0 0, .bool false, .int .i64 0, .int .i64 0, .int .i64 0] := by
    have := Blk.new (w.alloc (.cells (dwC LA ln lc TA tn tc d) 33)) 33 #[.slice none 0 0, .int .i64 0, .int .i64 0, .int .i64 0, .bool false, .int .i64 0, .int .i64 0, .slice none 0 0, .bool false, .int .i64 0, .int .i64 0, .int .i64 0]
    simpa using this
  have H0 := Lib.hid (And.intro hb2 (And.intro hP hQ))
  clear hb2 hP hQ
  go_enter Try.func21, Try.ntmps21
  go_upto_region 1 with fail
  generalize ((w.alloc (.cells (dwC LA ln lc TA tn tc d) 33)).alloc (.cells #[.slice none 0 0, .int .i64 0, .int .i64 0, .int .i64 0, .bool false, .int .i64 0, .int .i64 0, .slice none 0 0, .bool false, .int .i64 0, .int .i64 0, .int .i64 0] 33)) = w0 at *
  have c1 : w0.cell? ⟨w.heap.size, 1, none⟩ = some (.int .i64 (d.at_)) := (H0.out.2.1.cell 1).trans rfl
  have c8 : w0.cell? ⟨w.heap.size, 8, none⟩ = some (.bool (d.over)) := (H0.out.2.1.cell 8).trans rfl
  have c9 : w0.cell? ⟨w.heap.size, 9, none⟩ = some (.int .i64 (d.kind)) := (H0.out.2.1.cell 9).trans rfl
  have c10 : w0.cell? ⟨w.heap.size, 10, none⟩ = some (.int .i64 (d.block)) := (H0.out.2.1.cell 10).trans rfl
  have c11 : w0.cell? ⟨w.heap.size, 11, none⟩ = some (.int .i64 (d.e)) := (H0.out.2.1.cell 11).trans rfl
  have f1 : w0.frozen? ⟨w.heap.size, 1, none⟩ = false := H0.out.2.1.frozen 1
  have f8 : w0.frozen? ⟨w.heap.size, 8, none⟩ = false := H0.out.2.1.frozen 8
  have f9 : w0.frozen? ⟨w.heap.size, 9, none⟩ = false := H0.out.2.1.frozen 9
  have f10 : w0.frozen? ⟨w.heap.size, 10, none⟩ = false := H0.out.2.1.frozen 10
  have f11 : w0.frozen? ⟨w.heap.size, 11, none⟩ = false := H0.out.2.1.frozen 11
  have hwa : IntKind.i64.wrap (d.at_ + 1) = d.at_ + 1 := by rw [IntKind.wrap_i64]; omega
  have hkd : decide (3 ≤ k) = true := by simp; omega
  go_upto_region 7 with fail
  have HD : dwC LA ln lc TA tn tc (toldD d k e) = #[.slice LA ln lc, .int .i64 (if k < 3 then d.at_ + 1 else d.at_), .int .i64 (d.loop), .int .i64 (d.left), .bool (d.heard), .int .i64 (d.call), .int .i64 (d.nth), .slice TA tn tc, .bool (decide (3 ≤ k)), .int .i64 (k), .int .i64 (d.at_), .int .i64 (e)] := by
    rfl
  rw [hkd, if_neg (by omega)] at HD
  have HZ := Lib.hid (show Blk ((((w0.setCell ⟨w.heap.size, 9, none⟩ (.int .i64 k)).setCell ⟨w.heap.size, 10, none⟩ (.int .i64 d.at_)).setCell ⟨w.heap.size, 11, none⟩ (.int .i64 e)).setCell ⟨w.heap.size, 8, none⟩ (.bool true)) w.heap.size 33 (dwC LA ln lc TA tn tc (toldD d k e)) ∧ Blk ((((w0.setCell ⟨w.heap.size, 9, none⟩ (.int .i64 k)).setCell ⟨w.heap.size, 10, none⟩ (.int .i64 d.at_)).setCell ⟨w.heap.size, 11, none⟩ (.int .i64 e)).setCell ⟨w.heap.size, 8, none⟩ (.bool true)) (w.heap.size + 1) 33 #[.slice none 0 0, .int .i64 0, .int .i64 0, .int .i64 0, .bool false, .int .i64 0, .int .i64 0, .slice none 0 0, .bool false, .int .i64 0, .int .i64 0, .int .i64 0] ∧ Below w.heap.size w ((((w0.setCell ⟨w.heap.size, 9, none⟩ (.int .i64 k)).setCell ⟨w.heap.size, 10, none⟩ (.int .i64 d.at_)).setCell ⟨w.heap.size, 11, none⟩ (.int .i64 e)).setCell ⟨w.heap.size, 8, none⟩ (.bool true)) from ⟨by rw [HD]; exact ((((H0.out.2.1.set_ 9 _).set_ 10 _).set_ 11 _).set_ 8 _), ((((H0.out.2.2.far (by show w.heap.size + 1 ≠ w.heap.size; omega) _).far (by show w.heap.size + 1 ≠ w.heap.size; omega) _).far (by show w.heap.size + 1 ≠ w.heap.size; omega) _).far (by show w.heap.size + 1 ≠ w.heap.size; omega) _), ((((H0.out.1.setCell (by show w.heap.size ≤ w.heap.size; omega) _).setCell (by show w.heap.size ≤ w.heap.size; omega) _).setCell (by show w.heap.size ≤ w.heap.size; omega) _).setCell (by show w.heap.size ≤ w.heap.size; omega) _)⟩)
  clear c1 c8 c9 c10 c11 f1 f8 f9 f10 f11 HD
  generalize ((((w0.setCell ⟨w.heap.size, 9, none⟩ (.int .i64 k)).setCell ⟨w.heap.size, 10, none⟩ (.int .i64 d.at_)).setCell ⟨w.heap.size, 11, none⟩ (.int .i64 e)).setCell ⟨w.heap.size, 8, none⟩ (.bool true)) = wz at *
  have hPz := HZ.out.1
  have hQz := HZ.out.2.1
  go_wp2_with (first
    | (refine wpList_load_box rfl 33 _ rfl (w.heap.size) rfl 33 (dwC LA ln lc TA tn tc (toldD d k e)) hPz _ Try.underlying33 rfl dwInfo (fun (_ : Hid _) => ?_))
    | (refine wpList_store_box rfl 33 _ _ rfl (w.heap.size + 1) (dwC LA ln lc TA tn tc (toldD d k e)) rfl rfl 33 #[.slice none 0 0, .int .i64 0, .int .i64 0, .int .i64 0, .bool false, .int .i64 0, .int .i64 0, .slice none 0 0, .bool false, .int .i64 0, .int .i64 0, .int .i64 0] hQz dwInfo rfl dwOne ?_)
    | fail)
  intro w9 hB9 hg9
  have H9 := Lib.hid (show Below w.heap.size w w9 from (HZ.out.2.2).grown hg9 (HZ.out.2.2).size (fun b e => by injection e with e; omega))
  have HG9 := Lib.hid hg9
  clear hg9
  clear hPz hQz
  go_wp2_with fail
  refine bodyPost_ret (results_cell_row rfl _ _ (w.heap.size + 1) 33 _ (0, 0) _ rfl hB9 Try.underlying33 rfl dwInfo) rfl ?_
  exact ⟨rfl, H9.out⟩
theorem told_any (w : World) (LA : Option Addr) (ln lc : Nat) (TA : Option Addr) (tn tc : Nat) (d : DW) (k e : Int) (h0 : 0 ≤ d.at_ ∧ d.at_ ≤ 60) :
    Calls Try.prog 21 #[.agg (dwC LA ln lc TA tn tc d), .int .i64 k, .int .i64 e] w fun x w' => x = .returned (.agg (dwC LA ln lc TA tn tc (toldD d k e))) ∧ Below w.heap.size w w' := by
  by_cases hk : k < 3
  · exact told_lo w LA ln lc TA tn tc d k e h0 hk
  · exact told_hi w LA ln lc TA tn tc d k e h0 (by omega)

set_option maxRecDepth 100000 in
set_option maxHeartbeats 4000000 in
theorem heardD_any (w : World) (LA : Option Addr) (ln lc : Nat) (TA : Option Addr) (tn tc : Nat) (d : DW) :
    Calls Try.prog 15 #[.agg (dwC LA ln lc TA tn tc d)] w fun x w' => x = .returned (.agg (dwC LA ln lc none 0 0 { d with heard := true })) ∧ Below w.heap.size w w' := by
  have hb2 : Below w.heap.size w ((w.alloc (.cells (dwC LA ln lc TA tn tc d) 33)).alloc (.cells #[.slice none 0 0, .int .i64 0, .int .i64 0, .int .i64 0, .bool false, .int .i64 0, .int .i64 0, .slice none 0 0, .bool false, .int .i64 0, .int .i64 0, .int .i64 0] 33)) := ((Below.refl _ _).alloc (Nat.le_refl _) _).alloc (by simp) _
  have hP : Blk ((w.alloc (.cells (dwC LA ln lc TA tn tc d) 33)).alloc (.cells #[.slice none 0 0, .int .i64 0, .int .i64 0, .int .i64 0, .bool false, .int .i64 0, .int .i64 0, .slice none 0 0, .bool false, .int .i64 0, .int .i64 0, .int .i64 0] 33)) w.heap.size 33 (dwC LA ln lc TA tn tc d) := (Blk.new w _ _).alloc _
  have hQ : Blk ((w.alloc (.cells (dwC LA ln lc TA tn tc d) 33)).alloc (.cells #[.slice none 0 0, .int .i64 0, .int .i64 0, .int .i64 0, .bool false, .int .i64 0, .int .i64 0, .slice none 0 0, .bool false, .int .i64 0, .int .i64 0, .int .i64 0] 33)) (w.heap.size + 1) 33 #[.slice none 0 0, .int .i64 0, .int .i64 0, .int .i64 0, .bool false, .int .i64 0, .int .i64 0, .slice none 0 0, .bool false, .int .i64 0, .int .i64 0, .int .i64 0] := by
    have := Blk.new (w.alloc (.cells (dwC LA ln lc TA tn tc d) 33)) 33 #[.slice none 0 0, .int .i64 0, .int .i64 0, .int .i64 0, .bool false, .int .i64 0, .int .i64 0, .slice none 0 0, .bool false, .int .i64 0, .int .i64 0, .int .i64 0]
    simpa using this
  have H0 := Lib.hid (And.intro hb2 (And.intro hP hQ))
  clear hb2 hP hQ
  go_enter Try.func15, Try.ntmps15
  go_upto_region 1 with fail
  generalize ((w.alloc (.cells (dwC LA ln lc TA tn tc d) 33)).alloc (.cells #[.slice none 0 0, .int .i64 0, .int .i64 0, .int .i64 0, .bool false, .int .i64 0, .int .i64 0, .slice none 0 0, .bool false, .int .i64 0, .int .i64 0, .int .i64 0] 33)) = w0 at *
  have c4 : w0.cell? ⟨w.heap.size, 4, none⟩ = some (.bool (d.heard)) := (H0.out.2.1.cell 4).trans rfl
  have c7 : w0.cell? ⟨w.heap.size, 7, none⟩ = some (.slice TA tn tc) := (H0.out.2.1.cell 7).trans rfl
  have f4 : w0.frozen? ⟨w.heap.size, 4, none⟩ = false := H0.out.2.1.frozen 4
  have f7 : w0.frozen? ⟨w.heap.size, 7, none⟩ = false := H0.out.2.1.frozen 7
  go_upto_region 3 with fail
  have HZ := Lib.hid (show Blk ((w0.setCell ⟨w.heap.size, 4, none⟩ (.bool true)).setCell ⟨w.heap.size, 7, none⟩ (.slice none 0 0)) w.heap.size 33 (dwC LA ln lc none 0 0 { d with heard := true }) ∧ Blk ((w0.setCell ⟨w.heap.size, 4, none⟩ (.bool true)).setCell ⟨w.heap.size, 7, none⟩ (.slice none 0 0)) (w.heap.size + 1) 33 #[.slice none 0 0, .int .i64 0, .int .i64 0, .int .i64 0, .bool false, .int .i64 0, .int .i64 0, .slice none 0 0, .bool false, .int .i64 0, .int .i64 0, .int .i64 0] ∧ Below w.heap.size w ((w0.setCell ⟨w.heap.size, 4, none⟩ (.bool true)).setCell ⟨w.heap.size, 7, none⟩ (.slice none 0 0)) from ⟨((H0.out.2.1.set_ 4 _).set_ 7 _), ((H0.out.2.2.far (by show w.heap.size + 1 ≠ w.heap.size; omega) _).far (by show w.heap.size + 1 ≠ w.heap.size; omega) _), ((H0.out.1.setCell (by show w.heap.size ≤ w.heap.size; omega) _).setCell (by show w.heap.size ≤ w.heap.size; omega) _)⟩)
  clear c4 c7 f4 f7
  generalize ((w0.setCell ⟨w.heap.size, 4, none⟩ (.bool true)).setCell ⟨w.heap.size, 7, none⟩ (.slice none 0 0)) = wz at *
  have hPz := HZ.out.1
  have hQz := HZ.out.2.1
  go_wp2_with (first
    | (refine wpList_load_box rfl 33 _ rfl (w.heap.size) rfl 33 (dwC LA ln lc none 0 0 { d with heard := true }) hPz _ Try.underlying33 rfl dwInfo (fun (_ : Hid _) => ?_))
    | (refine wpList_store_box rfl 33 _ _ rfl (w.heap.size + 1) (dwC LA ln lc none 0 0 { d with heard := true }) rfl rfl 33 #[.slice none 0 0, .int .i64 0, .int .i64 0, .int .i64 0, .bool false, .int .i64 0, .int .i64 0, .slice none 0 0, .bool false, .int .i64 0, .int .i64 0, .int .i64 0] hQz dwInfo rfl dwOne ?_)
    | fail)
  intro w9 hB9 hg9
  have H9 := Lib.hid (show Below w.heap.size w w9 from (HZ.out.2.2).grown hg9 (HZ.out.2.2).size (fun b e => by injection e with e; omega))
  have HG9 := Lib.hid hg9
  clear hg9
  clear hPz hQz
  go_wp2_with fail
  refine bodyPost_ret (results_cell_row rfl _ _ (w.heap.size + 1) 33 _ (0, 0) _ rfl hB9 Try.underlying33 rfl dwInfo) rfl ?_
  exact ⟨rfl, H9.out⟩

set_option maxRecDepth 100000 in
set_option maxHeartbeats 4000000 in
theorem inD_any (w : World) (n : Int) (A : Option Addr) (m c : Nat) (zs : List Int) (hr : Reads w w.heap.size 1 A m (zs.map (Value.int .i64))) (hm : m ≤ 1000) :
    Calls Try.prog 30 #[.int .i64 n, .slice A m c] w fun x w' => x = .returned (.bool (decide (n ∈ zs))) ∧ w = w' := by
  have hl : zs.length = m := reads_len hr
  have HR := Lib.hid (And.intro hr hl)
  clear hr hl
  go_enter Try.func30, Try.ntmps30
  go_upto_region 2 with fail
  go_loop [5] (fun x => ∃ k : Nat, x = .int .i64 (k : Int) ∧ k ≤ m ∧ ∀ i, i < k → zs.getD i 0 ≠ n) (fun x => m - (intOf x).toNat)
  case atStart => exact ⟨0, rfl, by omega, fun i hi => absurd hi (by omega)⟩
  case round =>
    obtain ⟨k, rfl, hkm, hno⟩ := hrel
    have hk0 : (0 : Int) ≤ (k : Int) := Int.natCast_nonneg _
    have HNO := Lib.hid hno
    clear hno
    by_cases hlt : k < m
    · have hkI : (k : Int) < (m : Int) := by omega
      have hwk : IntKind.i64.wrap ((k : Int) + 1) = (k : Int) + 1 := by rw [IntKind.wrap_i64]; omega
      obtain ⟨ad, rfl, hab, hx⟩ := i32_at HR.out.1 hlt
      obtain ⟨z, hz⟩ : ∃ z, z = zs.getD k 0 := ⟨_, rfl⟩
      rw [← hz] at hx
      have HZ := Lib.hid hz
      clear hz
      by_cases hzn : z = n
      · subst hzn
        have hin : decide (z ∈ zs) = true := by simp only [decide_eq_true_eq]; rw [HZ.out]; exact getD_mem (by rw [HR.out.2]; exact hlt)
        have HIN := Lib.hid hin
        clear hin
        go_wp2
        go_ret
        exact ⟨ret_bool HIN.out.symm, rfl⟩
      · have hzf : (z == n) = false := by simpa using hzn
        have HZN := Lib.hid hzn
        clear hzn
        go_wp2
        go_round
        case rel => exact ⟨k + 1, by go_num, by omega, fun i hi => by
          by_cases hik : i = k
          · rw [hik, ← HZ.out]; exact HZN.out
          · exact HNO.out i (by omega)⟩
        case measure => simp [intOf]; omega
    · obtain rfl : k = m := by omega
      have hkI : ¬ (k : Int) < (k : Int) := by omega
      have hin : decide (n ∈ zs) = false := by
        simp only [decide_eq_false_iff_not]
        intro h
        obtain ⟨i, hi, he⟩ := List.getElem_of_mem h
        exact HNO.out i (by rw [HR.out.2] at hi; exact hi) (by rw [List.getD_eq_getElem?_getD, List.getElem?_eq_getElem hi]; exact he)
      have HIN := Lib.hid hin
      clear hin
      go_wp2
      go_ret
      exact ⟨ret_bool HIN.out.symm, rfl⟩

set_option maxRecDepth 100000 in
theorem soundsD_any (i : Int) (w : World) : Calls Try.prog 22 #[.int .i64 i] w fun x w' => x = .returned (.bool (soundsB i)) ∧ w = w' := by
  by_cases a : 16 ≤ i ∧ i ≤ 21
  · have hs : soundsB i = true := by unfold soundsB; simp; omega
    rw [hs]
    clear hs
    obtain ⟨a1, a2⟩ := a
    go_enter Try.func22, Try.ntmps22
    go_wp2
    go_ret
    exact ⟨rfl, rfl⟩
  · by_cases b : i = 24
    · subst b
      go_enter Try.func22, Try.ntmps22
      go_wp2
      go_ret
      exact ⟨rfl, rfl⟩
    · by_cases c : i = 25
      · subst c
        go_enter Try.func22, Try.ntmps22
        go_wp2
        go_ret
        exact ⟨rfl, rfl⟩
      · have hs : soundsB i = decide (i = 32) := by unfold soundsB; rw [Bool.eq_iff_iff]; simp only [decide_eq_true_eq]; omega
        rw [hs]
        clear hs
        have b' : (i == 24) = false := by simpa using b
        have c' : (i == 25) = false := by simpa using c
        clear b c
        by_cases d : i = 32
        · subst d
          go_enter Try.func22, Try.ntmps22
          go_wp2
          go_ret
          exact ⟨rfl, rfl⟩
        · have d' : (i == 32) = false := by simpa using d
          have hd : decide (i = 32) = false := by simpa using d
          rw [hd]
          clear d hd
          by_cases e : 16 ≤ i
          · have e2 : ¬ i ≤ 21 := fun h => a ⟨e, h⟩
            clear a
            go_enter Try.func22, Try.ntmps22
            go_wp2
            go_ret
            exact ⟨rfl, rfl⟩
          · clear a
            go_enter Try.func22, Try.ntmps22
            go_wp2
            go_ret
            exact ⟨rfl, rfl⟩

set_option maxRecDepth 100000 in
theorem newD_any (w : World) (LA : Option Addr) (ln lc : Nat) : Calls Try.prog 11 #[.slice LA ln lc] w fun x w' => x = .returned (.agg (dwC LA ln lc none 0 0 dw0)) ∧ Below w.heap.size w w' := by
  have HB := Lib.hid (show Below w.heap.size w (w.alloc (.cells #[.slice none 0 0, .int .i64 0, .int .i64 0, .int .i64 0, .bool false, .int .i64 0, .int .i64 0, .slice none 0 0, .bool false, .int .i64 0, .int .i64 0, .int .i64 0] 33)) from (Below.refl _ _).alloc (Nat.le_refl _) _)
  have hQ := Blk.new w 33 #[.slice none 0 0, .int .i64 0, .int .i64 0, .int .i64 0, .bool false, .int .i64 0, .int .i64 0, .slice none 0 0, .bool false, .int .i64 0, .int .i64 0, .int .i64 0]
  go_enter Try.func11, Try.ntmps11
  go_upto_region 1 with fail
  generalize (w.alloc (.cells #[.slice none 0 0, .int .i64 0, .int .i64 0, .int .i64 0, .bool false, .int .i64 0, .int .i64 0, .slice none 0 0, .bool false, .int .i64 0, .int .i64 0, .int .i64 0] 33)) = w0 at *
  go_wp2_with (first
    | (refine wpList_store_box rfl 33 _ _ rfl (w.heap.size) (dwC LA ln lc none 0 0 dw0) rfl rfl 33 #[.slice none 0 0, .int .i64 0, .int .i64 0, .int .i64 0, .bool false, .int .i64 0, .int .i64 0, .slice none 0 0, .bool false, .int .i64 0, .int .i64 0, .int .i64 0] hQ dwInfo rfl dwOne ?_)
    | fail)
  intro w9 hB9 hg9
  have H9 := Lib.hid (show Below w.heap.size w w9 from HB.out.grown hg9 HB.out.size (fun b e => by injection e with e; omega))
  clear hg9 hQ
  go_wp2_with fail
  refine bodyPost_ret (results_cell_row rfl _ _ (w.heap.size) 33 _ (0, 0) _ rfl hB9 Try.underlying33 rfl dwInfo) rfl ?_
  exact ⟨rfl, H9.out⟩
end Go.Proofs.Ytnmapncgnceldaa
