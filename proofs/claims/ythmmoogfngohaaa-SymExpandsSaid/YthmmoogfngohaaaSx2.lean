/- Layer 22: contracts of a row's pilots: any block. -/
import Derived.Test.YthmmoogfngohaaaSx1
import Derived.Deep.CutRange
namespace Go.Proofs.Ythmmoogfngohaaa
open Go.RowKit

theorem pilS_app (pil : List Edges) : ∀ (a b : List (Int × Int)) (r : Res), pilS pil r (a ++ b) = pilS pil (pilS pil r a) b
  | [], b, r => rfl
  | (s, t) :: a, b, r => by rw [List.cons_append, pilS, pilS]; exact pilS_app pil a b _
theorem pilS_next {pil : List Edges} {r : Res} {reps : List (Int × Int)} {j : Nat} {s t : Int} (h : reps[j]? = some (s, t)) :
    pilS pil r (reps.take (j + 1)) = (if (pilS pil r (reps.take j)).1 ≠ 0 then pilS pil r (reps.take j) else if s < 0 ∨ (pil.length : Int) ≤ s then (5, (pilS pil r (reps.take j)).2) else repS (pilS pil r (reps.take j)) (pil.getD s.toNat []) t.toNat) := by
  rw [List.take_add_one, h, pilS_app]
  rfl
theorem pilS_end {pil : List Edges} {r : Res} {reps : List (Int × Int)} {j : Nat} (h : (pilS pil r (reps.take j)).1 ≠ 0) : pilS pil r reps = pilS pil r (reps.take j) := by
  conv => lhs; rw [← List.take_append_drop j reps, pilS_app]
  exact pilS_bad h _
theorem mv_trans {w : World} {V V' V2 : Value} {r : Nat} (h : V'.ownBlock = V.ownBlock ∨ ∃ b, V'.ownBlock = some b ∧ w.heap.size ≤ b) (hr : w.heap.size ≤ r) (k : V2.ownBlock = V'.ownBlock ∨ ∃ b, V2.ownBlock = some b ∧ r ≤ b) : V2.ownBlock = V.ownBlock ∨ ∃ b, V2.ownBlock = some b ∧ w.heap.size ≤ b := by
  rcases k with k | ⟨b, k, kb⟩
  · rw [k]; exact h
  · exact .inr ⟨b, k, by omega⟩
theorem Chg.trans3 {w a b : World} {g : Nat} {r r2 : Option Nat} (h : Chg w a g r) (k : Chg a b g r2) (hr : ∀ x, r2 = some x → some x = r ∨ w.heap.size ≤ x) : Chg w b g r :=
  ⟨k.1.trans h.1, k.2.1.trans h.2.1, k.2.2.1.trans h.2.2.1, Nat.le_trans h.2.2.2.1 k.2.2.2.1, fun j hj hg hjr => (k.2.2.2.2 j (Nat.lt_of_lt_of_le hj h.2.2.2.1) hg (fun e => by
    rcases hr j e.symm with h1 | h1
    · exact hjr h1
    · omega)).trans (h.2.2.2.2 j hj hg hjr)⟩
theorem mv_some {w : World} {V V' : Value} (h : V'.ownBlock = V.ownBlock ∨ ∃ b, V'.ownBlock = some b ∧ w.heap.size ≤ b) : ∀ x, V'.ownBlock = some x → some x = V.ownBlock ∨ w.heap.size ≤ x := by
  intro x hx
  rcases h with h | ⟨b, h, hb⟩
  · exact .inl (by rw [← h, hx])
  · rw [hx] at h; injection h with h; exact .inr (by omega)
theorem pilS_end5 {pil : List Edges} {r X : Res} {reps : List (Int × Int)} {j : Nat} {s : Int} {L : Edges} (h : pilS pil r (reps.take (j + 1)) = (if ((0, L) : Res).1 ≠ 0 then (0, L) else if s < 0 ∨ (pil.length : Int) ≤ s then (5, ((0, L) : Res).2) else X)) (hb : s < 0 ∨ (pil.length : Int) ≤ s) : pilS pil r reps = (5, L) := by
  rw [if_neg (by simp), if_pos hb] at h
  rw [pilS_end (j := j + 1) (by rw [h]; simp), h]
theorem pilS_good {pil : List Edges} {r X : Res} {reps : List (Int × Int)} {j : Nat} {s : Int} {L : Edges} (h : pilS pil r (reps.take (j + 1)) = (if ((0, L) : Res).1 ≠ 0 then (0, L) else if s < 0 ∨ (pil.length : Int) ≤ s then (5, ((0, L) : Res).2) else X)) (hb : ¬ (s < 0 ∨ (pil.length : Int) ≤ s)) : pilS pil r (reps.take (j + 1)) = X := by
  rw [h, if_neg (by simp), if_neg hb]
theorem es_at {pil : List SymD} {i : Nat} {q : SymD} (h : pil[i]? = some q) : (pil.map SymD.es).getD i [] = q.es := by
  rw [List.getD_eq_getElem?_getD, List.getElem?_map, h]; rfl

set_option maxRecDepth 100000 in
set_option maxHeartbeats 8000000 in
theorem pilots_gen (w : World) (g base B : Nat) (V : Value) (r : Res) (pil : List SymD) (reps : List (Int × Int)) (i0 i1 i2 i3 i4 i5 i6 i7 i8 i9 i10 i11 : Int) (DA ta ia PA YA RA : Option Addr) (dn dc tn tc im ic pn pc yn yc rn rc : Nat)
    (hS : St w g base V r) (hrl : r.2.length ≤ 1048576) (hP : Reads w B 2 PA pn (symV pil)) (hok : ∀ q ∈ pil, q.ok w B) (hRp : Reads w B 2 RA rn (fl reps)) (hrb : ∀ p ∈ reps, -9223372036854775808 ≤ p.1 ∧ p.1 ≤ 9223372036854775807 ∧ -9223372036854775808 ≤ p.2 ∧ p.2 ≤ 9223372036854775807)
    (hBg : B ≤ g) (hBb : B ≤ base) (hbw : base ≤ w.heap.size) (hpn : pn ≤ 256) (hrn2 : rn ≤ 200000) :
    Calls Try.prog 11 #[.pointer (some ⟨g, 0, none⟩), .agg #[.int .i64 i0, .int .i64 i1, .int .i64 i2, .int .i64 i3, .int .i64 i4, .int .i64 i5, .int .i64 i6, .int .i64 i7, .int .i64 i8, .int .i64 i9, .int .i64 i10, .int .i64 i11, .slice DA dn dc, .slice ta tn tc, .slice ia im ic, .slice PA pn pc, .slice YA yn yc, .slice RA rn rc]] w fun e w' => e = .returned (.tuple #[]) ∧ ∃ V', St w' g base V' (pilS (pil.map SymD.es) r reps) ∧ Chg w w' g V.ownBlock ∧ (V'.ownBlock = V.ownBlock ∨ ∃ b, V'.ownBlock = some b ∧ w.heap.size ≤ b) := by
  have hg := hS.1.lt
  have hpl : pil.length = pn := by have := hP.1; rw [symV_len] at this; omega
  have hrn : reps.length = rn := by have := hRp.1; rw [fl_len] at this; omega
  have hC0 : Chg w (w.alloc (.cells #[.int .i64 i0, .int .i64 i1, .int .i64 i2, .int .i64 i3, .int .i64 i4, .int .i64 i5, .int .i64 i6, .int .i64 i7, .int .i64 i8, .int .i64 i9, .int .i64 i10, .int .i64 i11, .slice DA dn dc, .slice ta tn tc, .slice ia im ic, .slice PA pn pc, .slice YA yn yc, .slice RA rn rc] 28)) g V.ownBlock := (Chg.refl w g _).trans3 (chg_alloc w _ g) (fun x hx => by cases hx)
  have hB0 : Blk (w.alloc (.cells #[.int .i64 i0, .int .i64 i1, .int .i64 i2, .int .i64 i3, .int .i64 i4, .int .i64 i5, .int .i64 i6, .int .i64 i7, .int .i64 i8, .int .i64 i9, .int .i64 i10, .int .i64 i11, .slice DA dn dc, .slice ta tn tc, .slice ia im ic, .slice PA pn pc, .slice YA yn yc, .slice RA rn rc] 28)) w.heap.size 28 #[.int .i64 i0, .int .i64 i1, .int .i64 i2, .int .i64 i3, .int .i64 i4, .int .i64 i5, .int .i64 i6, .int .i64 i7, .int .i64 i8, .int .i64 i9, .int .i64 i10, .int .i64 i11, .slice DA dn dc, .slice ta tn tc, .slice ia im ic, .slice PA pn pc, .slice YA yn yc, .slice RA rn rc] := Blk.new w _ _
  have hS0 : St (w.alloc (.cells #[.int .i64 i0, .int .i64 i1, .int .i64 i2, .int .i64 i3, .int .i64 i4, .int .i64 i5, .int .i64 i6, .int .i64 i7, .int .i64 i8, .int .i64 i9, .int .i64 i10, .int .i64 i11, .slice DA dn dc, .slice ta tn tc, .slice ia im ic, .slice PA pn pc, .slice YA yn yc, .slice RA rn rc] 28)) g base V r := ⟨hS.1.alloc _, hS.2.alloc _⟩
  have k17 : (w.alloc (.cells #[.int .i64 i0, .int .i64 i1, .int .i64 i2, .int .i64 i3, .int .i64 i4, .int .i64 i5, .int .i64 i6, .int .i64 i7, .int .i64 i8, .int .i64 i9, .int .i64 i10, .int .i64 i11, .slice DA dn dc, .slice ta tn tc, .slice ia im ic, .slice PA pn pc, .slice YA yn yc, .slice RA rn rc] 28)).cell? ⟨w.heap.size, 17, none⟩ = some (.slice RA rn rc) := (hB0.cell 17).trans rfl
  have hVB : ∀ b, V.ownBlock = some b → B ≤ b := fun b hb => by have := (hS.2.lt b hb).1; omega
  have HM := Lib.hid (And.intro hP (And.intro hok (And.intro hRp (And.intro hrb hVB))))
  have HPL := Lib.hid hpl
  have HRN := Lib.hid hrn
  clear hS hP hok hRp hrb hVB hpl hrn
  go_enter Try.func11, Try.ntmps11
  go_upto_region 1 with fail
  generalize w.alloc (.cells #[.int .i64 i0, .int .i64 i1, .int .i64 i2, .int .i64 i3, .int .i64 i4, .int .i64 i5, .int .i64 i6, .int .i64 i7, .int .i64 i8, .int .i64 i9, .int .i64 i10, .int .i64 i11, .slice DA dn dc, .slice ta tn tc, .slice ia im ic, .slice PA pn pc, .slice YA yn yc, .slice RA rn rc] 28) = W at *
  go_wp2_with fail
  go_loopw [11] (fun x wr => ∃ (j : Nat) (V' : Value), j ≤ rn ∧ x = .int .i64 j ∧ St wr g base V' (pilS (pil.map SymD.es) r (reps.take j)) ∧ Blk wr w.heap.size 28 #[.int .i64 i0, .int .i64 i1, .int .i64 i2, .int .i64 i3, .int .i64 i4, .int .i64 i5, .int .i64 i6, .int .i64 i7, .int .i64 i8, .int .i64 i9, .int .i64 i10, .int .i64 i11, .slice DA dn dc, .slice ta tn tc, .slice ia im ic, .slice PA pn pc, .slice YA yn yc, .slice RA rn rc] ∧ Chg w wr g V.ownBlock ∧ (V'.ownBlock = V.ownBlock ∨ ∃ b, V'.ownBlock = some b ∧ w.heap.size ≤ b)) (fun x _ => rn + 1 - (intOf x).toNat)
  case atStart => exact ⟨0, V, by omega, rfl, hS0, hB0, hC0, .inl rfl⟩
  case round =>
    obtain ⟨j, V', hj, rfl, hS, hB, hC, hmv⟩ := hrel
    clear k17 hB0 hC0 hS0
    have hsz := hB.lt
    have hLl := pilS_len (pil := pil.map SymD.es) (reps.take j) r hrl
    by_cases hlt : j < rn
    · have hjI : (j : Int) < (rn : Int) := by omega
      have HJ := Lib.hid hlt
      have hwj : IntKind.i64.wrap ((j : Int) + 1) = (j : Int) + 1 := by rw [IntKind.wrap_i64]; omega
      have hj0 : (0 : Int) ≤ (j : Int) := Int.natCast_nonneg _
      obtain ⟨⟨s, t⟩, hst⟩ := idx_some (l := reps) (i := j) (by rw [HRN.out]; exact hlt)
      obtain ⟨f1, f2⟩ := fl_at hst
      have hRp := hC.reads HM.out.2.2.1 hBg (by omega) HM.out.2.2.2.2
      obtain ⟨ra, rfl, hrab, q0, q1⟩ := pair_at hRp hlt f1 f2
      have hbd := HM.out.2.2.2.1 _ (List.mem_of_getElem? hst)
      simp only at q0 q1 hbd
      have HNX := Lib.hid (pilS_next (pil := pil.map SymD.es) (r := r) hst)
      have HEND := Lib.hid (fun h => pilS_end (pil := pil.map SymD.es) (r := r) (reps := reps) (j := j) h)
      generalize pilS (pil.map SymD.es) r (reps.take j) = R at *
      obtain ⟨e, L⟩ := R
      simp only at hLl
      have hBa := hB.alloc (.cells #[.int .i64 s, .int .i64 t] 43)
      have hSa : St (wr.alloc (.cells #[.int .i64 s, .int .i64 t] 43)) g base V' (e, L) := ⟨hS.1.alloc _, hS.2.alloc _⟩
      have hXa : Blk (wr.alloc (.cells #[.int .i64 s, .int .i64 t] 43)) wr.heap.size 43 #[.int .i64 s, .int .i64 t] := Blk.new wr _ _
      have hCa := hC.trans3 (chg_alloc wr (.cells #[.int .i64 s, .int .i64 t] 43) g) (fun x hx => by cases hx)
      have r1 : (wr.alloc (.cells #[.int .i64 s, .int .i64 t] 43)).cell? ⟨g, 1, none⟩ = some (.int .i64 e) := (hSa.1.cell 1).trans rfl
      have hszA : wr.heap.size < (wr.alloc (.cells #[.int .i64 s, .int .i64 t] 43)).heap.size := by simp
      clear hB hS hC hRp f1 f2 hst
      go_upto_region 4 with fail
      generalize hWA : wr.alloc (.cells #[.int .i64 s, .int .i64 t] 43) = WA at *
      clear q0 q1 hWA
      generalize wr.heap.size = xb at *
      by_cases he : e = 0
      · subst he
        have x0 : WA.cell? ⟨xb, 0, none⟩ = some (.int .i64 s) := (hXa.cell 0).trans rfl
        have b15 : WA.cell? ⟨w.heap.size, 15, none⟩ = some (.slice PA pn pc) := (hBa.cell 15).trans rfl
        by_cases hbad : s < 0 ∨ (pn : Int) ≤ s
        · have HE := Lib.hid (show pilS (pil.map SymD.es) r reps = (5, L) by
            rw [pilS_end5 HNX.out (by rw [List.length_map, HPL.out]; exact hbad)])
          have rf := hSa.1.frozen 1
          have HF := Lib.hid (show St (WA.setCell ⟨g, 1, none⟩ (.int .i64 5)) g base V' (5, L) ∧ Chg w (WA.setCell ⟨g, 1, none⟩ (.int .i64 5)) g V.ownBlock from
            ⟨⟨hSa.1.set_ 1 _, ownsRow_setCell_other hSa.2 (a := ⟨g, 1, none⟩) (own_blk_ne hSa.2 hSa.1 (by decide)) _⟩, hCa.trans3 (r2 := none) ⟨rfl, rfl, rfl, by simp [World.setCell], fun i hi hig _ => Below.heap_setCell WA ⟨g, 1, none⟩ _ i hig⟩ (fun x hx => by cases hx)⟩)
          have HMV := Lib.hid hmv
          clear hSa hXa hBa hCa hmv
          by_cases hneg : s < 0
          · go_wp2
            first | go_end0 | refine bodyPost_ret (results_none rfl _ _ _) rfl ?_
            rw [HE.out]
            exact ⟨rfl, V', HF.out.1, HF.out.2, HMV.out⟩
          · have hge : (pn : Int) ≤ s := by omega
            go_wp2
            first | go_end0 | refine bodyPost_ret (results_none rfl _ _ _) rfl ?_
            rw [HE.out]
            exact ⟨rfl, V', HF.out.1, HF.out.2, HMV.out⟩
        · have hok := hbad
          obtain ⟨sn, rfl⟩ : ∃ sn : Nat, s = sn := ⟨s.toNat, by omega⟩
          have hsn : sn < pn := by omega
          obtain ⟨q, hq⟩ := idx_some (l := pil) (i := sn) (by rw [HPL.out]; exact hsn)
          obtain ⟨p1, p2⟩ := symV_at hq
          obtain ⟨pa, rfl, hpab, c0, c1⟩ := pair_at (hCa.reads HM.out.1 hBg (by omega) HM.out.2.2.2.2) hsn p1 p2
          have hqk := HM.out.2.1 q (List.mem_of_getElem? hq)
          have hEl := sym_es_len hqk
          have HST := Lib.hid (show pilS (pil.map SymD.es) r (reps.take (j + 1)) = repS (0, L) q.es t.toNat by
            have := pilS_good HNX.out (by rw [List.length_map, HPL.out]; exact hbad)
            rw [Int.toNat_natCast, es_at hq] at this
            exact this)
          clear HNX HEND p1 p2 hq
          obtain ⟨qk, qa, qn, qc, qz⟩ := q
          simp only [SymD.es] at c0 c1 hEl
          obtain ⟨k0, k1, hrq', hqn⟩ := hqk
          simp only at k0 k1 hrq' hqn
          have hrq := hCa.reads hrq' hBg (by omega) HM.out.2.2.2.2
          have hnegI : ¬ (sn : Int) < 0 := by omega
          have hgeI : ¬ (pn : Int) ≤ (sn : Int) := by omega
          have hsnI : (sn : Int) < (pn : Int) := by omega
          have hsn0 : (0 : Int) ≤ (sn : Int) := Int.natCast_nonneg _
          have HF := Lib.hid (And.intro hSa (And.intro hXa (And.intro hBa (And.intro hCa hmv))))
          clear hSa hXa hBa hCa hmv hrq'
          go_wp2_with fail
          refine (symOf_any qk qa qn qc qz WA k0 k1 (hrq.more (by omega)) (by omega)).mono ?_
          rintro e w1 ⟨O, rfl, ownO', hb1⟩
          clear r1 x0 b15 c0 c1 hrq
          obtain ⟨hSa, hXa, hBa, hCa, hmv⟩ := HF.out
          rw [← es_fl, ← es_len (qk % 4)] at ownO'
          have hC1 := hCa.trans3 (chg_below (g := g) hb1) (fun x hx => by cases hx)
          have hB1 := hBa.below hb1 (by omega)
          have hX1 := hXa.below hb1 hszA
          have hS1 := hSa.below hb1
          have hneO : O.ownBlock = none ∨ O.ownBlock ≠ V'.ownBlock := by
            cases ho : O.ownBlock with
            | none => exact .inl rfl
            | some x =>
              refine .inr (fun e => ?_)
              have h1 := (ownO'.lt x ho).1
              have h2 := (hSa.2.lt x e.symm).2
              omega
          have ownO : w1.ownsRow 0 45 2 O (es (qk % 4) qz).length (fl (es (qk % 4) qz)) := Joins.ownsRow_le ownO' (by omega)
          obtain ⟨OA, oc, rfl⟩ := own_slice ownO
          clear hCa hBa hXa hSa ownO' HF
          have HST2 := Lib.hid (show pilS (pil.map SymD.es) r (reps.take (j + 1)) = repS (0, L) (es (qk % 4) qz) t.toNat from HST.out)
          clear HST
          generalize es (qk % 4) qz = EE at *
          have hbt : t ≤ 9223372036854775807 := hbd.2.2.2
          go_wp2_with fail
          go_loopw [7] (fun y wv => ∃ (i : Nat) (V2 : Value), i ≤ t.toNat ∧ y = .int .i64 i ∧ St wv g base V2 (repS (0, L) EE i) ∧ wv.ownsRow 0 45 2 (.slice OA EE.length oc) EE.length (fl EE) ∧ ((Value.slice OA EE.length oc).ownBlock = none ∨ (Value.slice OA EE.length oc).ownBlock ≠ V2.ownBlock) ∧ Blk wv w.heap.size 28 #[.int .i64 i0, .int .i64 i1, .int .i64 i2, .int .i64 i3, .int .i64 i4, .int .i64 i5, .int .i64 i6, .int .i64 i7, .int .i64 i8, .int .i64 i9, .int .i64 i10, .int .i64 i11, .slice DA dn dc, .slice ta tn tc, .slice ia im ic, .slice (some pa) pn pc, .slice YA yn yc, .slice (some ra) rn rc] ∧ Blk wv xb 43 #[.int .i64 (sn : Int), .int .i64 t] ∧ Chg w wv g V.ownBlock ∧ (V2.ownBlock = V.ownBlock ∨ ∃ b, V2.ownBlock = some b ∧ w.heap.size ≤ b) ∧ w.heap.size < wv.heap.size) (fun y _ => t.toNat + 1 - (intOf y).toNat)
          case atStart => exact ⟨0, V', by omega, rfl, hS1, ownO, hneO, hB1, hX1, hC1, hmv, hB1.lt⟩
          case round =>
            obtain ⟨i, V2, hi, rfl, hS2, ownO2, hne2, hB2, hX2, hC2, hmv2, hsz2⟩ := hrel
            clear hS1 ownO hneO hB1 hX1 hC1 hmv
            have hRl := repS_len (r := (0, L)) (X := EE) hLl i
            have x1 : wr.cell? ⟨xb, 1, none⟩ = some (.int .i64 t) := (hX2.cell 1).trans rfl
            have HN1 := Lib.hid (show repS (0, L) EE (i + 1) = putS (repS (0, L) EE i) EE from rfl)
            have HSP := Lib.hid (fun h => repS_stop (r := (0, L)) (X := EE) (k := i) h t.toNat hi)
            have HNL := Lib.hid (show EE.length = 0 → repS (0, L) EE i = repS (0, L) EE t.toNat from fun h => by
              obtain rfl := List.eq_nil_of_length_eq_zero h
              rw [repS_nil hLl, repS_nil hLl])
            generalize hRe : repS (0, L) EE i = R at *
            obtain ⟨ei, Li⟩ := R
            simp only at hRl
            have HRE := Lib.hid hRe
            clear hRe
            have r1 : wr.cell? ⟨g, 1, none⟩ = some (.int .i64 ei) := (hS2.1.cell 1).trans rfl
            have HF := Lib.hid (And.intro hS2 (And.intro ownO2 (And.intro hne2 (And.intro hB2 (And.intro hX2 (And.intro hC2 hmv2))))))
            by_cases hit : (i : Int) < t
            · by_cases hE0 : EE.length = 0
              · have hEI : ¬ (0 : Int) < (EE.length : Int) := by omega
                clear hS2 ownO2 hne2 hB2 hX2 hC2 hmv2
                go_wp2
                go_roundw
                case rel =>
                  obtain ⟨hS2, ownO2, hne2, hB2, hX2, hC2, hmv2⟩ := HF.out
                  exact ⟨j + 1, V2, HJ.out, by go_num, by rw [HST2.out, ← HNL.out hE0]; exact hS2, hB2, hC2, hmv2⟩
                case measure => have := HJ.out; simp [intOf]; omega
              · have hEI : (0 : Int) < (EE.length : Int) := by omega
                by_cases hei : ei = 0
                · subst hei
                  have hput := put_gen hS2 (Reads.of_own ownO2) (c := oc) (by omega) hRl (by omega)
                  have hwi : IntKind.i64.wrap ((i : Int) + 1) = (i : Int) + 1 := by rw [IntKind.wrap_i64]; omega
                  clear hS2 ownO2 hne2 hB2 hX2 hC2 hmv2
                  go_wp2_with fail
                  refine hput.mono ?_
                  rintro e w2 ⟨rfl, V3, hS3, hch, hmv3⟩
                  clear hput r1 x1
                  obtain ⟨hS2, ownO2, hne2, hB2, hX2, hC2, hmv2⟩ := HF.out
                  have ownO3 := hch.own ownO2 (own_blk_ne ownO2 hS2.1 (by decide)) hne2
                  have hne3 := own_ne_of ownO2 hmv3 hne2
                  have hB3 := hch.blk hB2 (fun e => Blk.ne_ hB2 hS2.1 (by decide) e) (fun e => own_blk_ne hS2.2 hB2 (by decide) e.symm)
                  have hX3 := hch.blk hX2 (fun e => Blk.ne_ hX2 hS2.1 (by decide) e) (fun e => own_blk_ne hS2.2 hX2 (by decide) e.symm)
                  have hC3 := hC2.trans3 hch (mv_some hmv2)
                  have hmv4 := mv_trans hmv2 (Nat.le_of_lt hsz2) hmv3
                  have hsz3 : w.heap.size < w2.heap.size := Nat.lt_of_lt_of_le hsz2 hch.2.2.2.1
                  rw [← HN1.out] at hS3
                  have HG := Lib.hid (And.intro hS3 (And.intro ownO3 (And.intro hne3 (And.intro hB3 (And.intro hX3 (And.intro hC3 (And.intro hmv4 hsz3)))))))
                  clear hS3 ownO3 hne3 hB3 hX3 hC3 hmv4 hsz3 hS2 ownO2 hne2 hB2 hX2 hC2 hmv2 hch hmv3
                  go_wp2
                  go_roundw
                  case rel => exact ⟨i + 1, V3, by omega, by go_num, HG.out⟩
                  case measure => simp [intOf]; omega
                · have heI : (ei == 0) = false := by simpa using hei
                  clear hS2 ownO2 hne2 hB2 hX2 hC2 hmv2
                  go_wp2
                  go_roundw
                  case rel =>
                    obtain ⟨hS2, ownO2, hne2, hB2, hX2, hC2, hmv2⟩ := HF.out
                    exact ⟨j + 1, V2, HJ.out, by go_num, by rw [HST2.out, HSP.out hei]; exact hS2, hB2, hC2, hmv2⟩
                  case measure => have := HJ.out; simp [intOf]; omega
            · have hti : i = t.toNat := by omega
              have HTI := Lib.hid hti
              clear hti hS2 ownO2 hne2 hB2 hX2 hC2 hmv2
              go_wp2
              go_roundw
              case rel =>
                obtain ⟨hS2, ownO2, hne2, hB2, hX2, hC2, hmv2⟩ := HF.out
                exact ⟨j + 1, V2, HJ.out, by go_num, by rw [HST2.out, ← HTI.out, HRE.out]; exact hS2, hB2, hC2, hmv2⟩
              case measure => have := HJ.out; simp [intOf]; omega
      · have HE := Lib.hid (HEND.out he)
        have heI : (e == 0) = false := by simpa using he
        have HF := Lib.hid (And.intro hSa (And.intro hCa hmv))
        clear hSa hXa hBa hCa hmv
        go_wp2
        first | go_end0 | refine bodyPost_ret (results_none rfl _ _ _) rfl ?_
        rw [HE.out]
        exact ⟨rfl, V', HF.out⟩
    · obtain rfl : j = rn := by omega
      have hjI : ¬ (j : Int) < (j : Int) := by omega
      have HT := Lib.hid (show reps.take j = reps by rw [List.take_of_length_le]; rw [HRN.out]; exact Nat.le_refl _)
      rw [HT.out] at hS
      have HF := Lib.hid (And.intro hS (And.intro hC hmv))
      clear hS hC hmv hB
      go_wp2
      first | go_end0 | refine bodyPost_ret (results_none rfl _ _ _) rfl ?_
      exact ⟨rfl, V', HF.out⟩

end Go.Proofs.Ythmmoogfngohaaa
