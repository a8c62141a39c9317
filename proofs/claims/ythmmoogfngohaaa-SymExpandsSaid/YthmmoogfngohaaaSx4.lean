/- Layer 22: contracts of a row's data: any block. -/
import Derived.Test.YthmmoogfngohaaaSx2
import Derived.Test.YthmmoogfngohaaaSx3
import Derived.Test.YthmmoogfngohaaaSym4
namespace Go.Proofs.Ythmmoogfngohaaa
open Go.RowKit

def datS (zs : List Int) (b : Nat) (sy : List Edges) (r : Res) : Nat → Res
  | 0 => r
  | i + 1 => if (datS zs b sy r i).1 ≠ 0 then datS zs b sy r i else match symS zs b i with
    | none => (5, (datS zs b sy r i).2)
    | some v => if v < sy.length then putS (datS zs b sy r i) (sy.getD v []) else (5, (datS zs b sy r i).2)
def cntS (c : Int) (r : Res) : Res := if r.1 = 0 ∧ 1048576 < c then (8, r.2) else r
def datR (zs : List Int) (b : Nat) (sy : List Edges) (c : Int) (r : Res) : Res := datS zs b sy (cntS c r) c.toNat
theorem datS_len {zs : List Int} {b : Nat} {sy : List Edges} {r : Res} (h : r.2.length ≤ 1048576) : ∀ n, (datS zs b sy r n).2.length ≤ 1048576
  | 0 => h
  | n + 1 => by
    have ih := datS_len (zs := zs) (b := b) (sy := sy) h n
    rw [datS]
    split
    · exact ih
    · split
      · exact ih
      · split
        · exact putS_len ih
        · exact ih
theorem datS_stop {zs : List Int} {b : Nat} {sy : List Edges} {r : Res} {k : Nat} (h : (datS zs b sy r k).1 ≠ 0) : ∀ n, k ≤ n → datS zs b sy r n = datS zs b sy r k
  | 0, hk => by
    have h0 : k = 0 := by omega
    rw [h0]
  | n + 1, hk => by
    by_cases e : k = n + 1
    · subst e; rfl
    · have ih := datS_stop h n (by omega)
      rw [datS, ih, if_pos h]
theorem datS_none {zs : List Int} {b : Nat} {sy : List Edges} {r : Res} {k : Nat} (h : (datS zs b sy r k).1 = 0) (hs : symS zs b k = none) (n : Nat) (hn : k < n) : datS zs b sy r n = (5, (datS zs b sy r k).2) := by
  have e : datS zs b sy r (k + 1) = (5, (datS zs b sy r k).2) := by rw [datS, if_neg (by simpa using h), hs]
  rw [datS_stop (k := k + 1) (by rw [e]; simp) n (by omega), e]
theorem datS_far {zs : List Int} {b : Nat} {sy : List Edges} {r : Res} {k v : Nat} (h : (datS zs b sy r k).1 = 0) (hs : symS zs b k = some v) (hv : ¬ v < sy.length) (n : Nat) (hn : k < n) : datS zs b sy r n = (5, (datS zs b sy r k).2) := by
  have e : datS zs b sy r (k + 1) = (5, (datS zs b sy r k).2) := by rw [datS, if_neg (by simpa using h), hs]; exact if_neg hv
  rw [datS_stop (k := k + 1) (by rw [e]; simp) n (by omega), e]
theorem datS_next {zs : List Int} {b : Nat} {sy : List Edges} {r : Res} {k v : Nat} (h : (datS zs b sy r k).1 = 0) (hs : symS zs b k = some v) (hv : v < sy.length) : datS zs b sy r (k + 1) = putS (datS zs b sy r k) (sy.getD v []) := by
  rw [datS, if_neg (by simpa using h), hs]; exact if_pos hv
theorem cntS_len {c : Int} {r : Res} (h : r.2.length ≤ 1048576) : (cntS c r).2.length ≤ 1048576 := by unfold cntS; split <;> exact h
theorem cntS_ok {zs : List Int} {b : Nat} {sy : List Edges} {c : Int} {r : Res} {k : Nat} (h : (datS zs b sy (cntS c r) k).1 = 0) : c ≤ 1048576 := by
  by_cases hc : 1048576 < c
  · exfalso
    have h1 : (cntS c r).1 ≠ 0 := by
      unfold cntS
      split
      · simp
      · rename_i hn; exact fun e => hn ⟨e, hc⟩
    have := datS_stop (zs := zs) (b := b) (sy := sy) (r := cntS c r) (k := 0) h1 k (by omega)
    rw [this] at h
    exact h1 h
  · omega
theorem cntS_no {c : Int} {r : Res} (h : ¬ (r.1 = 0 ∧ 1048576 < c)) : cntS c r = r := if_neg h
theorem cntS_yes {c : Int} {L : Edges} (h : 1048576 < c) : cntS c (0, L) = (8, L) := if_pos ⟨rfl, h⟩
theorem symS_lt {zs : List Int} {b i v : Nat} (h : symS zs b i = some v) (hb : b ≤ 8) : v ≤ 255 := by
  unfold symS at h
  split at h
  · cases h
  · injection h with h
    have := valD_in zs (b * i) b
    have hp : (2 : Int) ^ b ≤ 256 := by
      rcases (show b = 0 ∨ b = 1 ∨ b = 2 ∨ b = 3 ∨ b = 4 ∨ b = 5 ∨ b = 6 ∨ b = 7 ∨ b = 8 by omega) with rfl | rfl | rfl | rfl | rfl | rfl | rfl | rfl | rfl <;> decide
    omega

/-- rows of edges, of the first j symbols, in a block of their own -/
def Rows (w : World) (ab : Nat) (l : List Edges) (V : Value) (j : Nat) : Prop :=
  ∃ Os : Array Value, Os.size = l.length ∧ Blk w ab 31 Os ∧ (∀ k, j ≤ k → k < l.length → Os[k]? = some (.slice none 0 0)) ∧
    ∀ k, k < j → k < l.length → ∃ O, Os[k]? = some O ∧ w.ownsRow 0 45 2 O (l.getD k []).length (fl (l.getD k [])) ∧ (O.ownBlock = none ∨ O.ownBlock ≠ V.ownBlock)
theorem grown_cell (w : World) (ab j : Nat) (u : Value) : w.grownBy (w.setCell ⟨ab, j, none⟩ u) (some ab) := ⟨rfl, rfl, rfl, by simp [World.setCell], fun i _ hne => Below.heap_setCell w ⟨ab, j, none⟩ u i (fun e => hne (by rw [e]))⟩
theorem Rows.new (w : World) (l : List Edges) (V : Value) : Rows (w.alloc (.cells (Array.replicate l.length (.slice none 0 0)) 31)) w.heap.size l V 0 :=
  ⟨_, by simp, Blk.new w _ _, fun k _ hk => by simp [Array.getElem?_replicate, hk], fun k hk _ => by omega⟩
theorem Rows.put {w : World} {ab : Nat} {l : List Edges} {V O : Value} {j : Nat} (h : Rows w ab l V j) (hj : j < l.length) (ho : w.ownsRow 0 45 2 O (l.getD j []).length (fl (l.getD j []))) (hv : O.ownBlock = none ∨ O.ownBlock ≠ V.ownBlock) : Rows (w.setCell ⟨ab, j, none⟩ O) ab l V (j + 1) := by
  obtain ⟨Os, hs, hB, hn, ho'⟩ := h
  refine ⟨Os.setIfInBounds j O, by simpa using hs, hB.set_ j O, fun k hk hkl => ?_, fun k hk hkl => ?_⟩
  · rw [Array.getElem?_setIfInBounds_ne (by omega)]; exact hn k (by omega) hkl
  · by_cases e : k = j
    · subst e
      exact ⟨O, by rw [Array.getElem?_setIfInBounds_self_of_lt (by omega)], ho.kept (grown_cell w ab k O) (.inr (own_blk_ne ho hB (by decide))), hv⟩
    · obtain ⟨P, h1, h2, h3⟩ := ho' k (by omega) hkl
      exact ⟨P, by rw [Array.getElem?_setIfInBounds_ne (by omega)]; exact h1, h2.kept (grown_cell w ab j O) (.inr (own_blk_ne h2 hB (by decide))), h3⟩
theorem Rows.alloc {w : World} {ab : Nat} {l : List Edges} {V : Value} {j : Nat} (h : Rows w ab l V j) (o : Obj) : Rows (w.alloc o) ab l V j := by
  obtain ⟨Os, hs, hB, hn, ho'⟩ := h
  refine ⟨Os, hs, hB.alloc o, hn, fun k hk hkl => ?_⟩
  obtain ⟨P, h1, h2, h3⟩ := ho' k hk hkl
  exact ⟨P, h1, h2.alloc o, h3⟩
theorem Rows.below {w w' : World} {ab : Nat} {l : List Edges} {V : Value} {j : Nat} (h : Rows w ab l V j) (hb : Below w.heap.size w w') : Rows w' ab l V j := by
  obtain ⟨Os, hs, hB, hn, ho'⟩ := h
  refine ⟨Os, hs, hB.below hb hB.lt, hn, fun k hk hkl => ?_⟩
  obtain ⟨P, h1, h2, h3⟩ := ho' k hk hkl
  exact ⟨P, h1, own_kept h2 hb, h3⟩
theorem Rows.chg {w w' : World} {ab g base : Nat} {l : List Edges} {V V' : Value} {r : Res} {j : Nat} (h : Rows w ab l V j) (hS : St w g base V r) (k : Chg w w' g V.ownBlock) (mv : V'.ownBlock = V.ownBlock ∨ ∃ b, V'.ownBlock = some b ∧ w.heap.size ≤ b) : Rows w' ab l V' j := by
  obtain ⟨Os, hs, hB, hn, ho'⟩ := h
  refine ⟨Os, hs, k.blk hB (fun e => Blk.ne_ hB hS.1 (by decide) e) (fun e => own_blk_ne hS.2 hB (by decide) e.symm), hn, fun i hi hil => ?_⟩
  obtain ⟨P, h1, h2, h3⟩ := ho' i hi hil
  exact ⟨P, h1, k.own h2 (own_blk_ne h2 hS.1 (by decide)) h3, own_ne_of h2 mv h3⟩
theorem Rows.nil_ {w : World} {ab : Nat} {l : List Edges} {V : Value} {j : Nat} (h : Rows w ab l V j) (hj : j < l.length) : w.cell? ⟨ab, j, none⟩ = some (.slice none 0 0) ∧ w.frozen? ⟨ab, j, none⟩ = false := by
  obtain ⟨Os, hs, hB, hn, ho'⟩ := h
  exact ⟨(hB.cell j).trans (hn j (Nat.le_refl _) hj), hB.frozen j⟩
theorem Rows.at_ {w : World} {ab : Nat} {l : List Edges} {V : Value} {j k : Nat} (h : Rows w ab l V j) (hk : k < j) (hkl : k < l.length) : ∃ A c, w.cell? ⟨ab, k, none⟩ = some (.slice A (l.getD k []).length c) ∧ Reads w w.heap.size 2 A (l.getD k []).length (fl (l.getD k [])) := by
  obtain ⟨Os, hs, hB, hn, ho'⟩ := h
  obtain ⟨P, h1, h2, h3⟩ := ho' k hk hkl
  obtain ⟨A, c, rfl⟩ := own_slice h2
  exact ⟨A, c, (hB.cell k).trans h1, Reads.of_own h2⟩
theorem Rows.lt {w : World} {ab : Nat} {l : List Edges} {V : Value} {j : Nat} (h : Rows w ab l V j) : ab < w.heap.size := by
  obtain ⟨Os, hs, hB, hn, ho'⟩ := h
  exact hB.lt
theorem make_rows (w : World) (n : Nat) (hn : n ≤ 256) : (Instr.makeSlice 57 (.int .i64 n) (.int .i64 n)).run Try.prog w = .ok (.slice (some ⟨w.heap.size, 0, none⟩) n n) (w.alloc (.cells (Array.replicate n (.slice none 0 0)) 31)) := by
  obtain ⟨i0, hi, hz0, hz1, hz2⟩ := info_parts rowInfoE
  have h := run_makeSlice (P := Try.prog) w 57 31 i0 (.slice none 0 0) Try.underlying57 hi hz0 .i64 .i64 n n (by omega) (by omega) (by rw [hz1]; omega) (by rw [hz2]; simp; omega) (by omega)
  rw [hz1] at h
  rw [h]
  congr 3
  apply Array.ext'
  rw [show (Value.slice none 0 0).cells = #[Value.slice none 0 0] from rfl, toList_madeCells_one]
  simp

set_option maxRecDepth 100000 in
set_option maxHeartbeats 8000000 in
theorem data_gen (w : World) (g base B : Nat) (V : Value) (r : Res) (sy : List SymD) (zs : List Int) (i0 i1 i2 i3 i4 i5 i6 i7 i8 i9 i10 i11 : Int) (DA ta ia PA YA RA : Option Addr) (dn dc tn tc im ic pn pc yn yc rn rc : Nat)
    (hS : St w g base V r) (hrl : r.2.length ≤ 1048576) (hY : Reads w B 2 YA yn (symV sy)) (hok : ∀ q ∈ sy, q.ok w B) (hD : Reads w B 1 DA dn (zs.map (Value.int .u8))) (hz : ∀ z ∈ zs, 0 ≤ z ∧ z ≤ 255)
    (hBg : B ≤ g) (hBb : B ≤ base) (hbw : base ≤ w.heap.size) (hyn : yn ≤ 256) (hdn : dn ≤ 1000) (hc0 : -9223372036854775808 ≤ i8) (hc1 : i8 ≤ 9223372036854775807) :
    Calls Try.prog 12 #[.pointer (some ⟨g, 0, none⟩), .agg #[.int .i64 i0, .int .i64 i1, .int .i64 i2, .int .i64 i3, .int .i64 i4, .int .i64 i5, .int .i64 i6, .int .i64 i7, .int .i64 i8, .int .i64 i9, .int .i64 i10, .int .i64 i11, .slice DA dn dc, .slice ta tn tc, .slice ia im ic, .slice PA pn pc, .slice YA yn yc, .slice RA rn rc]] w fun e w' => e = .returned (.tuple #[]) ∧ ∃ V', St w' g base V' (datR zs (bitsN yn) (sy.map SymD.es) i8 r) ∧ Chg w w' g V.ownBlock ∧ (V'.ownBlock = V.ownBlock ∨ ∃ b, V'.ownBlock = some b ∧ w.heap.size ≤ b) := by
  have hg := hS.1.lt
  have hyl : sy.length = yn := by have := hY.1; rw [symV_len] at this; omega
  have hC0 : Chg w (w.alloc (.cells #[.int .i64 i0, .int .i64 i1, .int .i64 i2, .int .i64 i3, .int .i64 i4, .int .i64 i5, .int .i64 i6, .int .i64 i7, .int .i64 i8, .int .i64 i9, .int .i64 i10, .int .i64 i11, .slice DA dn dc, .slice ta tn tc, .slice ia im ic, .slice PA pn pc, .slice YA yn yc, .slice RA rn rc] 28)) g V.ownBlock := (Chg.refl w g _).trans3 (chg_alloc w _ g) (fun x hx => by cases hx)
  have hB0 : Blk (w.alloc (.cells #[.int .i64 i0, .int .i64 i1, .int .i64 i2, .int .i64 i3, .int .i64 i4, .int .i64 i5, .int .i64 i6, .int .i64 i7, .int .i64 i8, .int .i64 i9, .int .i64 i10, .int .i64 i11, .slice DA dn dc, .slice ta tn tc, .slice ia im ic, .slice PA pn pc, .slice YA yn yc, .slice RA rn rc] 28)) w.heap.size 28 #[.int .i64 i0, .int .i64 i1, .int .i64 i2, .int .i64 i3, .int .i64 i4, .int .i64 i5, .int .i64 i6, .int .i64 i7, .int .i64 i8, .int .i64 i9, .int .i64 i10, .int .i64 i11, .slice DA dn dc, .slice ta tn tc, .slice ia im ic, .slice PA pn pc, .slice YA yn yc, .slice RA rn rc] := Blk.new w _ _
  have hS0 : St (w.alloc (.cells #[.int .i64 i0, .int .i64 i1, .int .i64 i2, .int .i64 i3, .int .i64 i4, .int .i64 i5, .int .i64 i6, .int .i64 i7, .int .i64 i8, .int .i64 i9, .int .i64 i10, .int .i64 i11, .slice DA dn dc, .slice ta tn tc, .slice ia im ic, .slice PA pn pc, .slice YA yn yc, .slice RA rn rc] 28)) g base V r := ⟨hS.1.alloc _, hS.2.alloc _⟩
  have k8 : (w.alloc (.cells #[.int .i64 i0, .int .i64 i1, .int .i64 i2, .int .i64 i3, .int .i64 i4, .int .i64 i5, .int .i64 i6, .int .i64 i7, .int .i64 i8, .int .i64 i9, .int .i64 i10, .int .i64 i11, .slice DA dn dc, .slice ta tn tc, .slice ia im ic, .slice PA pn pc, .slice YA yn yc, .slice RA rn rc] 28)).cell? ⟨w.heap.size, 8, none⟩ = some (.int .i64 i8) := (hB0.cell 8).trans rfl
  have hVB : ∀ b, V.ownBlock = some b → B ≤ b := fun b hb => by have := (hS.2.lt b hb).1; omega
  have HM := Lib.hid (And.intro hY (And.intro hok (And.intro hD (And.intro hz hVB))))
  have HYL := Lib.hid hyl
  have HBT := Lib.hid (bits_le yn (by omega))
  clear hS hY hok hD hz hVB hyl
  go_enter Try.func12, Try.ntmps12
  go_upto_region 1 with fail
  generalize w.alloc (.cells #[.int .i64 i0, .int .i64 i1, .int .i64 i2, .int .i64 i3, .int .i64 i4, .int .i64 i5, .int .i64 i6, .int .i64 i7, .int .i64 i8, .int .i64 i9, .int .i64 i10, .int .i64 i11, .slice DA dn dc, .slice ta tn tc, .slice ia im ic, .slice PA pn pc, .slice YA yn yc, .slice RA rn rc] 28) = W at *
  go_cut [20] from 11 to 20 (fun s wx => ∃ t : Bool, s = .bool t ∧ t = decide (r.1 = 0 ∧ 1048576 < i8) ∧ W = wx)
  case first =>
    obtain ⟨e, L⟩ := r
    have r1 : W.cell? ⟨g, 1, none⟩ = some (.int .i64 e) := (hS0.1.cell 1).trans rfl
    clear hS0 hB0 hC0
    by_cases he : e = 0
    · subst he
      by_cases hc : 1048576 < i8
      · have hcx := Lib.hid (show true = decide (((0, L) : Res).1 = 0 ∧ 1048576 < i8) by simp [hc])
        go_wp2_with fail
        go_meet
        exact ⟨true, rfl, hcx.out, rfl⟩
      · have hcx := Lib.hid (show false = decide (((0, L) : Res).1 = 0 ∧ 1048576 < i8) by simp; omega)
        go_wp2_with fail
        go_meet
        exact ⟨false, rfl, hcx.out, rfl⟩
    · have heI : (e == 0) = false := by simpa using he
      have hcx := Lib.hid (show false = decide (((e, L) : Res).1 = 0 ∧ 1048576 < i8) by simp [he])
      clear he
      go_wp2_with fail
      go_meet
      exact ⟨false, rfl, hcx.out, rfl⟩
  case rest =>
  obtain ⟨t, rfl, ht, rfl⟩ := hcut
  have HT := Lib.hid ht
  clear ht
  go_upto_if 20 with fail
  go_cut [] from 21 to 23 (fun wx => ∃ e, e = cntS i8 r ∧ St wx g base V e ∧ Blk wx w.heap.size 28 #[.int .i64 i0, .int .i64 i1, .int .i64 i2, .int .i64 i3, .int .i64 i4, .int .i64 i5, .int .i64 i6, .int .i64 i7, .int .i64 i8, .int .i64 i9, .int .i64 i10, .int .i64 i11, .slice DA dn dc, .slice ta tn tc, .slice ia im ic, .slice PA pn pc, .slice YA yn yc, .slice RA rn rc] ∧ Chg w wx g V.ownBlock)
  case first =>
    cases t with
    | true =>
      obtain ⟨e, L⟩ := r
      have hh : e = 0 ∧ 1048576 < i8 := by simpa using HT.out
      obtain ⟨rfl, hc⟩ := hh
      have r1 : W.cell? ⟨g, 1, none⟩ = some (.int .i64 0) := (hS0.1.cell 1).trans rfl
      have rf := hS0.1.frozen 1
      have HF := Lib.hid (show St (W.setCell ⟨g, 1, none⟩ (.int .i64 8)) g base V (8, L) ∧ Blk (W.setCell ⟨g, 1, none⟩ (.int .i64 8)) w.heap.size 28 #[.int .i64 i0, .int .i64 i1, .int .i64 i2, .int .i64 i3, .int .i64 i4, .int .i64 i5, .int .i64 i6, .int .i64 i7, .int .i64 i8, .int .i64 i9, .int .i64 i10, .int .i64 i11, .slice DA dn dc, .slice ta tn tc, .slice ia im ic, .slice PA pn pc, .slice YA yn yc, .slice RA rn rc] ∧ Chg w (W.setCell ⟨g, 1, none⟩ (.int .i64 8)) g V.ownBlock from
            ⟨⟨hS0.1.set_ 1 _, ownsRow_setCell_other hS0.2 (a := ⟨g, 1, none⟩) (own_blk_ne hS0.2 hS0.1 (by decide)) _⟩, hB0.far (p := ⟨g, 1, none⟩) (by show w.heap.size ≠ g; omega) _, hC0.trans3 (r2 := none) ⟨rfl, rfl, rfl, by simp [World.setCell], fun i hi hig _ => Below.heap_setCell W ⟨g, 1, none⟩ _ i hig⟩ (fun x hx => by cases hx)⟩)
      have HCN := Lib.hid (cntS_yes (L := L) hc)
      clear hS0 hB0 hC0 hc
      go_wp2_with fail
      go_meet
      exact ⟨_, HCN.out.symm, HF.out⟩
    | false =>
      have hh : ¬ (r.1 = 0 ∧ 1048576 < i8) := by simpa using HT.out
      have HF := Lib.hid (And.intro hS0 (And.intro hB0 hC0))
      have HCN := Lib.hid (cntS_no hh)
      clear hS0 hB0 hC0 hh
      go_wp2_with fail
      go_meet
      exact ⟨_, HCN.out.symm, HF.out⟩
  case rest =>
  obtain ⟨R1, hR1, hS, hB, hC⟩ := hcut
  have HR1 := Lib.hid hR1
  have hRl : R1.2.length ≤ 1048576 := by rw [hR1]; exact cntS_len hrl
  clear hS0 hB0 hC0 k8 hR1
  have k16 : wc.cell? ⟨w.heap.size, 16, none⟩ = some (.slice YA yn yc) := (hB.cell 16).trans rfl
  have hmk := make_rows wc yn hyn
  have hszc := hB.lt
  have k16a : (wc.alloc (.cells (Array.replicate yn (.slice none 0 0)) 31)).cell? ⟨w.heap.size, 16, none⟩ = some (.slice YA yn yc) := (World.cell?_alloc_lt _ _ _ (by show w.heap.size < _; omega)).trans k16
  have HW := Lib.hid (And.intro hS (And.intro hB hC))
  clear hS hB hC
  go_wp2_with fail
  refine (bits_any _ yn hyn).mono ?_
  rintro e w1 ⟨rfl, rfl⟩
  go_wp2_with fail
  obtain ⟨hS, hB, hC⟩ := HW.out
  have hA1 : Rows (wc.alloc (.cells (Array.replicate yn (.slice none 0 0)) 31)) wc.heap.size (sy.map SymD.es) V 0 := by
    have := Rows.new wc (sy.map SymD.es) V
    rw [List.length_map, HYL.out] at this
    exact this
  have hS1 : St (wc.alloc (.cells (Array.replicate yn (.slice none 0 0)) 31)) g base V R1 := ⟨hS.1.alloc _, hS.2.alloc _⟩
  have hB1 := hB.alloc (.cells (Array.replicate yn (.slice none 0 0)) 31)
  have hC1 := hC.trans3 (chg_alloc wc (.cells (Array.replicate yn (.slice none 0 0)) 31) g) (fun x hx => by cases hx)
  clear hS hB hC HW hmk k16 k16a
  generalize wc.alloc (.cells (Array.replicate yn (.slice none 0 0)) 31) = W1 at *
  generalize wc.heap.size = ab at *
  go_loopw [35] (fun x wr => ∃ j : Nat, j ≤ yn ∧ x = .int .i64 j ∧ Rows wr ab (sy.map SymD.es) V j ∧ St wr g base V R1 ∧ Blk wr w.heap.size 28 #[.int .i64 i0, .int .i64 i1, .int .i64 i2, .int .i64 i3, .int .i64 i4, .int .i64 i5, .int .i64 i6, .int .i64 i7, .int .i64 i8, .int .i64 i9, .int .i64 i10, .int .i64 i11, .slice DA dn dc, .slice ta tn tc, .slice ia im ic, .slice PA pn pc, .slice YA yn yc, .slice RA rn rc] ∧ Chg w wr g V.ownBlock) (fun x _ => yn + 1 - (intOf x).toNat)
  case atStart => exact ⟨0, by omega, rfl, hA1, hS1, hB1, hC1⟩
  case round =>
    obtain ⟨j, hj, rfl, hA, hS, hB, hC⟩ := hrel
    clear hA1 hS1 hB1 hC1
    by_cases hlt : j < yn
    · have hjI : (j : Int) < (yn : Int) := by omega
      have hj0 : (0 : Int) ≤ (j : Int) := Int.natCast_nonneg _
      have hwj : IntKind.i64.wrap ((j : Int) + 1) = (j : Int) + 1 := by rw [IntKind.wrap_i64]; omega
      obtain ⟨q, hq⟩ := idx_some (l := sy) (i := j) (by rw [HYL.out]; exact hlt)
      obtain ⟨p1, p2⟩ := symV_at hq
      have hwB : B ≤ w.heap.size := by omega
      obtain ⟨pa, rfl, hpab, c0, c1⟩ := pair_at (hC.reads HM.out.1 hBg hwB HM.out.2.2.2.2) hlt p1 p2
      have hqk := HM.out.2.1 q (List.mem_of_getElem? hq)
      have hEl := sym_es_len hqk
      have HEQ := Lib.hid (es_at hq)
      clear p1 p2 hq
      obtain ⟨qk, qa, qn, qc, qz⟩ := q
      simp only [SymD.es] at c0 c1 hEl HEQ
      obtain ⟨k0, k1, hrq', hqn⟩ := hqk
      simp only at k0 k1 hrq' hqn
      have hBs : B ≤ wr.heap.size := by have := hB.lt; omega
      have hrq := (hC.reads hrq' hBg hwB HM.out.2.2.2.2).alloc hBs (.cells #[.int .i64 qk, .slice qa qn qc] 40)
      have hAa := hA.alloc (.cells #[.int .i64 qk, .slice qa qn qc] 40)
      have hSa : St (wr.alloc (.cells #[.int .i64 qk, .slice qa qn qc] 40)) g base V R1 := ⟨hS.1.alloc _, hS.2.alloc _⟩
      have hBa := hB.alloc (.cells #[.int .i64 qk, .slice qa qn qc] 40)
      have hXa : Blk (wr.alloc (.cells #[.int .i64 qk, .slice qa qn qc] 40)) wr.heap.size 40 #[.int .i64 qk, .slice qa qn qc] := Blk.new wr _ _
      have hCa := hC.trans3 (chg_alloc wr (.cells #[.int .i64 qk, .slice qa qn qc] 40) g) (fun x hx => by cases hx)
      have x0 : (wr.alloc (.cells #[.int .i64 qk, .slice qa qn qc] 40)).cell? ⟨wr.heap.size, 0, none⟩ = some (.int .i64 qk) := (hXa.cell 0).trans rfl
      have x1 : (wr.alloc (.cells #[.int .i64 qk, .slice qa qn qc] 40)).cell? ⟨wr.heap.size, 1, none⟩ = some (.slice qa qn qc) := (hXa.cell 1).trans rfl
      have hszW : wr.heap.size < (wr.alloc (.cells #[.int .i64 qk, .slice qa qn qc] 40)).heap.size := by simp
      clear hA hS hB hC hXa hrq'
      go_upto_region 8 with fail
      generalize hWA : (wr.alloc (.cells #[.int .i64 qk, .slice qa qn qc] 40)) = WA at *
      clear c0 c1 hWA
      generalize wr.heap.size = xb at *
      go_wp2_with fail
      refine (symOf_any qk qa qn qc qz WA k0 k1 (hrq.more (by omega)) (by omega)).mono ?_
      rintro e w1 ⟨O, rfl, ownO', hb1⟩
      rw [← es_fl, ← es_len (qk % 4)] at ownO'
      have hA1 := hAa.below hb1
      have hS1 := hSa.below hb1
      have hB1 := hBa.below hb1 hBa.lt
      have hC1 := hCa.trans3 (chg_below (g := g) hb1) (fun x hx => by cases hx)
      have hneV : O.ownBlock = none ∨ O.ownBlock ≠ V.ownBlock := by
        cases hv : O.ownBlock with
        | none => exact .inl rfl
        | some x =>
          refine .inr (fun e => ?_)
          have h1 := (ownO'.lt x hv).1
          have h2 := (hSa.2.lt x e.symm).2
          omega
      have ownO : w1.ownsRow 0 45 2 O (es (qk % 4) qz).length (fl (es (qk % 4) qz)) := Joins.ownsRow_le ownO' (by omega)
      obtain ⟨OA, oc, rfl⟩ := own_slice ownO
      clear hAa hSa hBa hCa x0 x1 ownO' hrq
      have hml : j < (sy.map SymD.es).length := by rw [List.length_map, HYL.out]; exact hlt
      obtain ⟨a0, af⟩ := hA1.nil_ hml
      have hgA : ab ≠ g := by
        obtain ⟨Os, _, hAB, _⟩ := hA1
        exact fun e => Blk.ne_ hAB hS1.1 (by decide) e
      have hgX : w.heap.size ≠ ab := by
        obtain ⟨Os, _, hAB, _⟩ := hA1
        exact fun e => Blk.ne_ hB1 hAB (by decide) e
      have hg1 := grown_cell w1 ab j (.slice OA (es (qk % 4) qz).length oc)
      have hVA : V.ownBlock ≠ some ab := by
        obtain ⟨Os, _, hAB, _⟩ := hA1
        exact own_blk_ne hS1.2 hAB (by decide)
      have HF := Lib.hid (show Rows (w1.setCell ⟨ab, j, none⟩ (.slice OA (es (qk % 4) qz).length oc)) ab (sy.map SymD.es) V (j + 1) ∧ St (w1.setCell ⟨ab, j, none⟩ (.slice OA (es (qk % 4) qz).length oc)) g base V R1 ∧ Blk (w1.setCell ⟨ab, j, none⟩ (.slice OA (es (qk % 4) qz).length oc)) w.heap.size 28 #[.int .i64 i0, .int .i64 i1, .int .i64 i2, .int .i64 i3, .int .i64 i4, .int .i64 i5, .int .i64 i6, .int .i64 i7, .int .i64 i8, .int .i64 i9, .int .i64 i10, .int .i64 i11, .slice DA dn dc, .slice ta tn tc, .slice ia im ic, .slice PA pn pc, .slice (some pa) yn yc, .slice RA rn rc] ∧ Chg w (w1.setCell ⟨ab, j, none⟩ (.slice OA (es (qk % 4) qz).length oc)) g V.ownBlock from
        ⟨hA1.put hml (by rw [HEQ.out]; exact ownO) hneV, ⟨hS1.1.grown hg1 (fun e => by injection e with e; omega), hS1.2.kept hg1 (.inr hVA)⟩, hB1.grown hg1 (fun e => by injection e with e; omega), hC1.trans3 (r2 := some ab) ⟨rfl, rfl, rfl, by simp [World.setCell], fun i hi _ hir => Below.heap_setCell w1 ⟨ab, j, none⟩ _ i (fun e => hir (by rw [e]))⟩ (fun x hx => .inr (by injection hx with hx; omega))⟩)
      clear hA1 hS1 hB1 hC1 ownO hg1
      go_wp2
      go_roundw
      case rel => exact ⟨j + 1, by omega, by go_num, HF.out⟩
      case measure => simp [intOf]; omega
    · obtain rfl : j = yn := by omega
      have hjI : ¬ (j : Int) < (j : Int) := by omega
      have HA := Lib.hid hA
      have HST0 := Lib.hid (fun k => datS_stop (zs := zs) (b := bitsN j) (sy := sy.map SymD.es) (r := R1) (k := k))
      have hBT := HBT.out
      have HDR := Lib.hid (show datR zs (bitsN j) (sy.map SymD.es) i8 r = datS zs (bitsN j) (sy.map SymD.es) R1 i8.toNat by unfold datR; rw [HR1.out])
      have HOK := Lib.hid (fun k (h : (datS zs (bitsN j) (sy.map SymD.es) R1 k).1 = 0) => cntS_ok (zs := zs) (b := bitsN j) (sy := sy.map SymD.es) (c := i8) (r := r) (k := k) (by rw [← HR1.out]; exact h))
      have HNO := Lib.hid (fun k => datS_none (zs := zs) (b := bitsN j) (sy := sy.map SymD.es) (r := R1) (k := k))
      have HFA := Lib.hid (fun k v => datS_far (zs := zs) (b := bitsN j) (sy := sy.map SymD.es) (r := R1) (k := k) (v := v))
      have HNX := Lib.hid (fun k v => datS_next (zs := zs) (b := bitsN j) (sy := sy.map SymD.es) (r := R1) (k := k) (v := v))
      have HLE := Lib.hid (fun k => datS_len (zs := zs) (b := bitsN j) (sy := sy.map SymD.es) (r := R1) hRl k)
      have HSL := Lib.hid (fun k v (h : symS zs (bitsN j) k = some v) => symS_lt h hBT)
      have HLM := Lib.hid (show (sy.map SymD.es).length = j by rw [List.length_map, HYL.out])
      have HEL := Lib.hid (show ∀ v, v < j → ((sy.map SymD.es).getD v []).length ≤ 300 from fun v hv => by
        obtain ⟨q, hq⟩ := idx_some (l := sy) (i := v) (by rw [HYL.out]; exact hv)
        rw [es_at hq]
        exact sym_es_len (HM.out.2.1 q (List.mem_of_getElem? hq)))
      generalize hbn : bitsN j = bn at *
      have HBN := Lib.hid hbn
      clear hbn
      go_wp2_with fail
      go_loopw [8] (fun x wv => ∃ (i : Nat) (V2 : Value), i ≤ 1048576 ∧ i ≤ i8.toNat ∧ x = .int .i64 i ∧ Rows wv ab (sy.map SymD.es) V2 j ∧ St wv g base V2 (datS zs bn (sy.map SymD.es) R1 i) ∧ Blk wv w.heap.size 28 #[.int .i64 i0, .int .i64 i1, .int .i64 i2, .int .i64 i3, .int .i64 i4, .int .i64 i5, .int .i64 i6, .int .i64 i7, .int .i64 i8, .int .i64 i9, .int .i64 i10, .int .i64 i11, .slice DA dn dc, .slice ta tn tc, .slice ia im ic, .slice PA pn pc, .slice YA j yc, .slice RA rn rc] ∧ Chg w wv g V.ownBlock ∧ (V2.ownBlock = V.ownBlock ∨ ∃ b, V2.ownBlock = some b ∧ w.heap.size ≤ b)) (fun x _ => 1048577 - (intOf x).toNat)
      case atStart => exact ⟨0, V, by omega, by omega, rfl, hA, hS, hB, hC, .inl rfl⟩
      case round =>
        obtain ⟨i, V2, hi, hic, rfl, hA2, hS2, hB2, hC2, hmv⟩ := hrel
        clear hA hS hB hC
        have k8 : wr.cell? ⟨w.heap.size, 8, none⟩ = some (.int .i64 i8) := (hB2.cell 8).trans rfl
        have k12 : wr.cell? ⟨w.heap.size, 12, none⟩ = some (.slice DA dn dc) := (hB2.cell 12).trans rfl
        have hwB : B ≤ w.heap.size := by omega
        have hsz2 := hB2.lt
        have hLl := HLE.out i
        have HSTi := Lib.hid (HST0.out i)
        have HOKi := Lib.hid (HOK.out i)
        have HNOi := Lib.hid (HNO.out i)
        have HFAi := Lib.hid (HFA.out i)
        have HNXi := Lib.hid (HNX.out i)
        generalize hRe : datS zs bn (sy.map SymD.es) R1 i = R at *
        obtain ⟨e, L⟩ := R
        simp only at hLl
        have HRE := Lib.hid hRe
        clear hRe
        have r1 : wr.cell? ⟨g, 1, none⟩ = some (.int .i64 e) := (hS2.1.cell 1).trans rfl
        have HF := Lib.hid (And.intro hA2 (And.intro hS2 (And.intro hB2 (And.intro hC2 hmv))))
        have hwi : IntKind.i64.wrap ((i : Int) + 1) = (i : Int) + 1 := by rw [IntKind.wrap_i64]; omega
        by_cases hlt2 : (i : Int) < i8
        · by_cases he : e = 0
          · subst he
            have hc8 := HOKi.out rfl
            have hsym := symbol_gen wr B dn dc bn i DA zs (hC2.reads HM.out.2.2.1 hBg hwB HM.out.2.2.2.2) HM.out.2.2.2.1 hdn hBT hi
            have HLT := Lib.hid (show i < i8.toNat by omega)
            cases hv : symS zs bn i with
            | none =>
              have HE := Lib.hid (HNOi.out rfl hv i8.toNat HLT.out)
              rw [hv] at hsym
              have rf := hS2.1.frozen 1
              have HG := Lib.hid (show St (wr.setCell ⟨g, 1, none⟩ (.int .i64 5)) g base V2 (5, L) ∧ Chg w (wr.setCell ⟨g, 1, none⟩ (.int .i64 5)) g V.ownBlock from
                ⟨⟨hS2.1.set_ 1 _, ownsRow_setCell_other hS2.2 (a := ⟨g, 1, none⟩) (own_blk_ne hS2.2 hS2.1 (by decide)) _⟩, hC2.trans3 (r2 := none) ⟨rfl, rfl, rfl, by simp [World.setCell], fun i hi hig _ => Below.heap_setCell wr ⟨g, 1, none⟩ _ i hig⟩ (fun x hx => by cases hx)⟩)
              have HMV := Lib.hid hmv
              clear hA2 hS2 hB2 hC2 hmv hv
              go_wp2_with fail
              refine hsym.mono ?_
              rintro e w1 ⟨rfl, rfl⟩
              clear hsym
              have hno : (none : Option Nat).isSome = false := rfl
              rw [hno]
              clear hno
              go_wp2
              first | go_end0 | refine bodyPost_ret (results_none rfl _ _ _) rfl ?_
              rw [HBN.out, HDR.out, HE.out]
              exact ⟨rfl, V2, HG.out.1, HG.out.2, HMV.out⟩
            | some v =>
              rw [hv] at hsym
              have hv255 := HSL.out i v hv
              by_cases hvj : v < j
              · have HN1 := Lib.hid (HNXi.out v rfl hv (by rw [HLM.out]; exact hvj))
                have hEl := HEL.out v hvj
                obtain ⟨PA, pcx, a0, hrd⟩ := hA2.at_ hvj (by rw [HLM.out]; exact hvj)
                generalize (sy.map SymD.es).getD v [] = EE at *
                have hput := put_gen hS2 hrd (c := pcx) (by omega) hLl (by omega)
                have hvI : (v : Int) < (j : Int) := by omega
                have hv0 : (0 : Int) ≤ (v : Int) := Int.natCast_nonneg _
                have hvI2 : ¬ (j : Int) ≤ (v : Int) := by omega
                clear hA2 hS2 hB2 hC2 hmv hv hrd
                go_wp2_with fail
                refine hsym.mono ?_
                rintro e w1 ⟨rfl, rfl⟩
                clear hsym
                have hno : (some v).isSome = true := rfl
                have hgd : (some v).getD 0 = v := rfl
                rw [hno, hgd]
                clear hno hgd
                go_wp2_with fail
                refine hput.mono ?_
                rintro e w2 ⟨rfl, V3, hS3, hch, hmv3⟩
                clear hput a0 k8 k12 r1
                obtain ⟨hA2, hS2, hB2, hC2, hmv⟩ := HF.out
                have hA3 := hA2.chg hS2 hch hmv3
                have hB3 := hch.blk hB2 (fun e => Blk.ne_ hB2 hS2.1 (by decide) e) (fun e => own_blk_ne hS2.2 hB2 (by decide) e.symm)
                have hC3 := hC2.trans3 hch (mv_some hmv)
                have hmv4 := mv_trans hmv (Nat.le_of_lt hsz2) hmv3
                rw [← HN1.out] at hS3
                have HG := Lib.hid (And.intro hA3 (And.intro hS3 (And.intro hB3 (And.intro hC3 hmv4))))
                clear hA3 hS3 hB3 hC3 hmv4 hA2 hS2 hB2 hC2 hmv hch hmv3
                go_wp2
                go_roundw
                case rel => exact ⟨i + 1, V3, by omega, by have := HLT.out; omega, by go_num, HG.out⟩
                case measure => simp [intOf]; omega
              · have HE := Lib.hid (HFAi.out v rfl hv (by rw [HLM.out]; exact hvj) i8.toNat HLT.out)
                have rf := hS2.1.frozen 1
                have HG := Lib.hid (show St (wr.setCell ⟨g, 1, none⟩ (.int .i64 5)) g base V2 (5, L) ∧ Chg w (wr.setCell ⟨g, 1, none⟩ (.int .i64 5)) g V.ownBlock from
                  ⟨⟨hS2.1.set_ 1 _, ownsRow_setCell_other hS2.2 (a := ⟨g, 1, none⟩) (own_blk_ne hS2.2 hS2.1 (by decide)) _⟩, hC2.trans3 (r2 := none) ⟨rfl, rfl, rfl, by simp [World.setCell], fun i hi hig _ => Below.heap_setCell wr ⟨g, 1, none⟩ _ i hig⟩ (fun x hx => by cases hx)⟩)
                have HMV := Lib.hid hmv
                have hvI : (j : Int) ≤ (v : Int) := by omega
                clear hA2 hS2 hB2 hC2 hmv hv
                go_wp2_with fail
                refine hsym.mono ?_
                rintro e w1 ⟨rfl, rfl⟩
                clear hsym
                have hno : (some v).isSome = true := rfl
                have hgd : (some v).getD 0 = v := rfl
                rw [hno, hgd]
                clear hno hgd
                go_wp2
                first | go_end0 | refine bodyPost_ret (results_none rfl _ _ _) rfl ?_
                rw [HBN.out, HDR.out, HE.out]
                exact ⟨rfl, V2, HG.out.1, HG.out.2, HMV.out⟩
          · have heI : (e == 0) = false := by simpa using he
            have HE := Lib.hid (HSTi.out he i8.toNat hic)
            clear hA2 hS2 hB2 hC2 hmv
            go_wp2
            first | go_end0 | refine bodyPost_ret (results_none rfl _ _ _) rfl ?_
            rw [HBN.out, HDR.out, HE.out]
            obtain ⟨hA2, hS2, hB2, hC2, hmv⟩ := HF.out
            exact ⟨rfl, V2, hS2, hC2, hmv⟩
        · have HE := Lib.hid (show i = i8.toNat by omega)
          clear hA2 hS2 hB2 hC2 hmv
          go_wp2
          first | go_end0 | refine bodyPost_ret (results_none rfl _ _ _) rfl ?_
          rw [HBN.out, HDR.out, ← HE.out, HRE.out]
          obtain ⟨hA2, hS2, hB2, hC2, hmv⟩ := HF.out
          exact ⟨rfl, V2, hS2, hC2, hmv⟩



end Go.Proofs.Ythmmoogfngohaaa
