/- Layer 22, the document's answer: the contract of Expand: any block. -/
import Derived.Test.YthmmoogfngohaaaSx5
import Derived.Test.YthmmoogfngohaaaSx6
namespace Go.Proofs.Ythmmoogfngohaaa
open Go.RowKit

theorem allS_pil {pil sy : List Edges} {reps : List (Int × Int)} {zs : List Int} {b : Nat} {c : Int} (h : (pilS pil (0, []) reps).1 ≠ 0) : allS pil sy reps zs b c = pilS pil (0, []) reps := by
  unfold allS datR
  rw [cntS_no (fun e => h e.1)]
  exact datS_stop (k := 0) h _ (by omega)
theorem allS_cnt {pil sy : List Edges} {reps : List (Int × Int)} {zs : List Int} {b : Nat} {c : Int} {L : Edges} (h : pilS pil (0, []) reps = (0, L)) (hc : 1048576 < c) : allS pil sy reps zs b c = (8, L) := by
  unfold allS datR
  rw [h, cntS_yes hc]
  exact datS_stop (zs := zs) (b := b) (sy := sy) (r := (8, L)) (k := 0) (by simp [datS]) _ (by omega)
theorem allS_dat {pil sy : List Edges} {reps : List (Int × Int)} {zs : List Int} {b : Nat} {c : Int} {L : Edges} (h : pilS pil (0, []) reps = (0, L)) (hc : ¬ 1048576 < c) : allS pil sy reps zs b c = datS zs b sy (0, L) c.toNat := by
  unfold allS datR
  rw [h, cntS_no (fun e => hc e.2)]
theorem fl_len2 (l : Edges) : (fl l).length = l.length * 2 := fl_len l
theorem ownR_app {w : World} {B : Nat} {V : Value} {L X : Edges} (h : w.ownsRow B 55 2 V (L.length + X.length) (fl L ++ fl X)) : w.ownsRow B 55 2 V (L ++ X).length (fl (L ++ X)) := by
  rw [fl_app, List.length_append]; exact h

set_option maxRecDepth 100000 in
set_option maxHeartbeats 8000000 in
theorem expandR_gen (w : World) (pil sy : List SymD) (reps : List (Int × Int)) (zs : List Int) (i0 i1 i2 i3 i4 i5 i6 i7 i8 i9 i10 i11 : Int) (DA ta ia PA YA RA : Option Addr) (dn dc tn tc im ic pn pc yn yc rn rc : Nat)
    (hP : Reads w w.heap.size 2 PA pn (symV pil)) (hokp : ∀ q ∈ pil, q.ok w w.heap.size) (hRp : Reads w w.heap.size 2 RA rn (fl reps)) (hrb : ∀ p ∈ reps, -9223372036854775808 ≤ p.1 ∧ p.1 ≤ 9223372036854775807 ∧ -9223372036854775808 ≤ p.2 ∧ p.2 ≤ 9223372036854775807)
    (hY : Reads w w.heap.size 2 YA yn (symV sy)) (hok : ∀ q ∈ sy, q.ok w w.heap.size) (hD : Reads w w.heap.size 1 DA dn (zs.map (Value.int .u8))) (hz : ∀ z ∈ zs, 0 ≤ z ∧ z ≤ 255)
    (hpn : pn ≤ 256) (hrn2 : rn ≤ 200000) (hyn : yn ≤ 256) (hdn : dn ≤ 1000) (hc0 : -9223372036854775808 ≤ i8) (hc1 : i8 ≤ 9223372036854775807) :
    Calls Try.prog 8 #[.agg #[.int .i64 i0, .int .i64 i1, .int .i64 i2, .int .i64 i3, .int .i64 i4, .int .i64 i5, .int .i64 i6, .int .i64 i7, .int .i64 i8, .int .i64 i9, .int .i64 i10, .int .i64 i11, .slice DA dn dc, .slice ta tn tc, .slice ia im ic, .slice PA pn pc, .slice YA yn yc, .slice RA rn rc]] w fun e w' => ∃ V, e = .returned (.tuple #[V, .int .i64 (expS (pil.map SymD.es) (sy.map SymD.es) reps zs (bitsN yn) i0 i8).1]) ∧ w'.ownsRow w.heap.size 55 2 V (expS (pil.map SymD.es) (sy.map SymD.es) reps zs (bitsN yn) i0 i8).2.length (fl (expS (pil.map SymD.es) (sy.map SymD.es) reps zs (bitsN yn) i0 i8).2) ∧ Below w.heap.size w w' := by
  obtain ⟨ti, hti, htz0, htz1, htz2⟩ := info_parts edgeInfo2
  have hB1 : Blk (w.alloc (.cells #[.int .i64 i0, .int .i64 i1, .int .i64 i2, .int .i64 i3, .int .i64 i4, .int .i64 i5, .int .i64 i6, .int .i64 i7, .int .i64 i8, .int .i64 i9, .int .i64 i10, .int .i64 i11, .slice DA dn dc, .slice ta tn tc, .slice ia im ic, .slice PA pn pc, .slice YA yn yc, .slice RA rn rc] 28)) w.heap.size 28 #[.int .i64 i0, .int .i64 i1, .int .i64 i2, .int .i64 i3, .int .i64 i4, .int .i64 i5, .int .i64 i6, .int .i64 i7, .int .i64 i8, .int .i64 i9, .int .i64 i10, .int .i64 i11, .slice DA dn dc, .slice ta tn tc, .slice ia im ic, .slice PA pn pc, .slice YA yn yc, .slice RA rn rc] := Blk.new w _ _
  have k0 : (w.alloc (.cells #[.int .i64 i0, .int .i64 i1, .int .i64 i2, .int .i64 i3, .int .i64 i4, .int .i64 i5, .int .i64 i6, .int .i64 i7, .int .i64 i8, .int .i64 i9, .int .i64 i10, .int .i64 i11, .slice DA dn dc, .slice ta tn tc, .slice ia im ic, .slice PA pn pc, .slice YA yn yc, .slice RA rn rc] 28)).cell? ⟨w.heap.size, 0, none⟩ = some (.int .i64 i0) := (hB1.cell 0).trans rfl
  by_cases hid : i0 = 25
  · subst hid
    have hb : Below w.heap.size w (w.alloc (.cells #[.int .i64 25, .int .i64 i1, .int .i64 i2, .int .i64 i3, .int .i64 i4, .int .i64 i5, .int .i64 i6, .int .i64 i7, .int .i64 i8, .int .i64 i9, .int .i64 i10, .int .i64 i11, .slice DA dn dc, .slice ta tn tc, .slice ia im ic, .slice PA pn pc, .slice YA yn yc, .slice RA rn rc] 28)) := (Below.refl _ _).alloc (Nat.le_refl _) _
    have hszW : (w.alloc (.cells #[.int .i64 25, .int .i64 i1, .int .i64 i2, .int .i64 i3, .int .i64 i4, .int .i64 i5, .int .i64 i6, .int .i64 i7, .int .i64 i8, .int .i64 i9, .int .i64 i10, .int .i64 i11, .slice DA dn dc, .slice ta tn tc, .slice ia im ic, .slice PA pn pc, .slice YA yn yc, .slice RA rn rc] 28)).heap.size = w.heap.size + 1 := by simp
    have hpl : pil.length = pn := by have := hP.1; rw [symV_len] at this; omega
    have hyl : sy.length = yn := by have := hY.1; rw [symV_len] at this; omega
    have hrn : reps.length = rn := by have := hRp.1; rw [fl_len] at this; omega
    have HM := Lib.hid (And.intro hP (And.intro hokp (And.intro hRp (And.intro hrb (And.intro hY (And.intro hok (And.intro hD hz)))))))
    have HPL := Lib.hid hpl
    have HYL := Lib.hid hyl
    have HRN := Lib.hid hrn
    have HBT := Lib.hid (bits_le yn (by omega))
    have HH := Lib.hid (And.intro hb hB1)
    clear hP hokp hRp hrb hY hok hD hz hb hB1 hpl hyl hrn
    go_enter Try.func8, Try.ntmps8
    go_upto_region 3 with fail
    generalize w.alloc (.cells #[.int .i64 25, .int .i64 i1, .int .i64 i2, .int .i64 i3, .int .i64 i4, .int .i64 i5, .int .i64 i6, .int .i64 i7, .int .i64 i8, .int .i64 i9, .int .i64 i10, .int .i64 i11, .slice DA dn dc, .slice ta tn tc, .slice ia im ic, .slice PA pn pc, .slice YA yn yc, .slice RA rn rc] 28) = W at *
    clear k0
    go_wp2_with fail
    go_loopw [4, 5] (fun v x wr => ∃ (j : Nat) (V : Value) (L : Edges), j ≤ rn ∧ V = v ∧ x = .int .i64 j ∧ pilS (pil.map SymD.es) (0, []) (reps.take j) = (0, L) ∧ L.length ≤ 1048576 ∧ wr.ownsRow (w.heap.size + 1) 55 2 V L.length (fl L) ∧ Below (w.heap.size + 1) W wr) (fun _ x _ => rn + 1 - (intOf x).toNat)
    case atStart => exact ⟨0, _, [], by omega, rfl, rfl, rfl, by simp, World.ownsRow_nil _ _ _ _, Below.refl _ _⟩
    case round =>
      obtain ⟨j, V, L, hj, rfl, rfl, hpil, hLl, hown, hbl⟩ := hrel
      obtain ⟨hb, hB⟩ := HH.out
      have hwW : Below w.heap.size w wr := hb.trans (hbl.mono (by omega))
      have hBr := hbl.block w.heap.size (by omega)
      have hBw : Blk wr w.heap.size 28 #[.int .i64 25, .int .i64 i1, .int .i64 i2, .int .i64 i3, .int .i64 i4, .int .i64 i5, .int .i64 i6, .int .i64 i7, .int .i64 i8, .int .i64 i9, .int .i64 i10, .int .i64 i11, .slice DA dn dc, .slice ta tn tc, .slice ia im ic, .slice PA pn pc, .slice YA yn yc, .slice RA rn rc] := hBr.trans hB
      have k17 : wr.cell? ⟨w.heap.size, 17, none⟩ = some (.slice RA rn rc) := (hBw.cell 17).trans rfl
      have hszr : w.heap.size + 1 ≤ wr.heap.size := by have := hbl.size; omega
      clear hB hb hBr
      by_cases hlt : j < rn
      · have hjI : (j : Int) < (rn : Int) := by omega
        have HJ := Lib.hid hlt
        have hwj : IntKind.i64.wrap ((j : Int) + 1) = (j : Int) + 1 := by rw [IntKind.wrap_i64]; omega
        have hj0 : (0 : Int) ≤ (j : Int) := Int.natCast_nonneg _
        obtain ⟨⟨s, t⟩, hst⟩ := idx_some (l := reps) (i := j) (by rw [HRN.out]; exact hlt)
        obtain ⟨f1, f2⟩ := fl_at hst
        obtain ⟨ra, rfl, hrab, q0, q1⟩ := pair_at (HM.out.2.2.1.below hwW) hlt f1 f2
        have hbd := HM.out.2.2.2.1 _ (List.mem_of_getElem? hst)
        simp only at q0 q1 hbd
        have HNX := Lib.hid (pilS_next (pil := pil.map SymD.es) (r := (0, [])) hst)
        rw [hpil] at HNX
        have HPI := Lib.hid hpil
        have hXa : Blk (wr.alloc (.cells #[.int .i64 s, .int .i64 t] 43)) wr.heap.size 43 #[.int .i64 s, .int .i64 t] := Blk.new wr _ _
        have hBa := hBw.alloc (.cells #[.int .i64 s, .int .i64 t] 43)
        have howna := hown.alloc (.cells #[.int .i64 s, .int .i64 t] 43)
        have hbla := hbl.alloc hszr (.cells #[.int .i64 s, .int .i64 t] 43)
        have x0 : (wr.alloc (.cells #[.int .i64 s, .int .i64 t] 43)).cell? ⟨wr.heap.size, 0, none⟩ = some (.int .i64 s) := (hXa.cell 0).trans rfl
        have x1 : (wr.alloc (.cells #[.int .i64 s, .int .i64 t] 43)).cell? ⟨wr.heap.size, 1, none⟩ = some (.int .i64 t) := (hXa.cell 1).trans rfl
        have hszA : wr.heap.size < (wr.alloc (.cells #[.int .i64 s, .int .i64 t] 43)).heap.size := by simp
        clear hBw hown hbl hwW f1 f2 hst hpil
        go_upto_region 8 with fail
        generalize hWA : wr.alloc (.cells #[.int .i64 s, .int .i64 t] 43) = WA at *
        clear q0 q1 hWA k17
        generalize wr.heap.size = xb at *
        have b15 : WA.cell? ⟨w.heap.size, 15, none⟩ = some (.slice PA pn pc) := (hBa.cell 15).trans rfl
        by_cases hbad : s < 0 ∨ (pn : Int) ≤ s
        · have hp5 : pilS (pil.map SymD.es) (0, []) reps = (5, L) := pilS_end5 HNX.out (by rw [List.length_map, HPL.out]; exact hbad)
          have hb3 : Below w.heap.size w WA := HH.out.1.trans (hbla.mono (by omega))
          have HE := Lib.hid (show expS (pil.map SymD.es) (sy.map SymD.es) reps zs (bitsN yn) 25 i8 = (5, []) by
            have h1 := allS_pil (pil := pil.map SymD.es) (sy := sy.map SymD.es) (reps := reps) (zs := zs) (b := bitsN yn) (c := i8) (by rw [hp5]; simp)
            rw [expS_bad (by rw [h1, hp5]; simp), h1, hp5])
          have HF := Lib.hid hb3
          clear hXa hBa howna hbla hp5 hb3
          by_cases hneg : s < 0
          · go_wp2
            go_ret2
            rw [HE.out]
            exact ⟨.slice none 0 0, rfl, World.ownsRow_nil _ _ _ _, HF.out⟩
          · have hge : (pn : Int) ≤ s := by omega
            go_wp2
            go_ret2
            rw [HE.out]
            exact ⟨.slice none 0 0, rfl, World.ownsRow_nil _ _ _ _, HF.out⟩
        · obtain ⟨sn, rfl⟩ : ∃ sn : Nat, s = sn := ⟨s.toNat, by omega⟩
          have hsn : sn < pn := by omega
          obtain ⟨q, hq⟩ := idx_some (l := pil) (i := sn) (by rw [HPL.out]; exact hsn)
          obtain ⟨p1, p2⟩ := symV_at hq
          have hwA : Below w.heap.size w WA := HH.out.1.trans (hbla.mono (by omega))
          obtain ⟨pa, rfl, hpab, c0, c1⟩ := pair_at (HM.out.1.below hwA) hsn p1 p2
          have hqk := HM.out.2.1 q (List.mem_of_getElem? hq)
          have hEl := sym_es_len hqk
          have HST := Lib.hid (show pilS (pil.map SymD.es) (0, []) (reps.take (j + 1)) = repS (0, L) q.es t.toNat by
            have := pilS_good HNX.out (by rw [List.length_map, HPL.out]; exact hbad)
            rw [Int.toNat_natCast, es_at hq] at this
            exact this)
          clear HNX p1 p2 hq
          obtain ⟨qk, qa, qn, qc, qz⟩ := q
          simp only [SymD.es] at c0 c1 hEl
          obtain ⟨y0, y1, hrq', hqn⟩ := hqk
          simp only at y0 y1 hrq' hqn
          have hrq := hrq'.below hwA
          have hnegI : ¬ (sn : Int) < 0 := by omega
          have hgeI : ¬ (pn : Int) ≤ (sn : Int) := by omega
          have hsnI : (sn : Int) < (pn : Int) := by omega
          have hsn0 : (0 : Int) ≤ (sn : Int) := Int.natCast_nonneg _
          have HF := Lib.hid (And.intro hXa (And.intro hBa (And.intro howna hbla)))
          clear hXa hBa howna hbla hrq' hwA hbad
          go_wp2_with fail
          refine (symOfR_any qk qa qn qc qz WA y0 y1 (hrq.more (by omega)) (by omega)).mono ?_
          rintro e w1 ⟨O, rfl, ownO', hb1⟩
          clear x0 x1 b15 c0 c1 hrq
          obtain ⟨hXa, hBa, howna, hbla⟩ := HF.out
          rw [← es_fl, ← es_len (qk % 4)] at ownO'
          have hX1 := hXa.below hb1 hszA
          have hown1 := own_kept howna hb1
          have hbl1 : Below (w.heap.size + 1) W w1 := hbla.trans (hb1.mono (by omega))
          have hneO : O.ownBlock = none ∨ O.ownBlock ≠ V.ownBlock := by
            cases ho : O.ownBlock with
            | none => exact .inl rfl
            | some x =>
              refine .inr (fun e => ?_)
              have h1 := (ownO'.lt x ho).1
              have h2 := (howna.lt x e.symm).2
              omega
          have ownO : w1.ownsRow 0 55 2 O (es (qk % 4) qz).length (fl (es (qk % 4) qz)) := Joins.ownsRow_le ownO' (by omega)
          obtain ⟨OA, oc, rfl⟩ := own_slice ownO
          have HST2 := Lib.hid (show pilS (pil.map SymD.es) (0, []) (reps.take (j + 1)) = repS (0, L) (es (qk % 4) qz) t.toNat from HST.out)
          clear hbla hBa hXa howna ownO' HF HST
          generalize es (qk % 4) qz = EE at *
          have hbt : t ≤ 9223372036854775807 := hbd.2.2.2
          go_wp2_with fail
          go_loopw [4, 8] (fun v y wv => ∃ (i : Nat) (V2 : Value) (L2 : Edges), i ≤ t.toNat ∧ V2 = v ∧ y = .int .i64 i ∧ repS (0, L) EE i = (0, L2) ∧ L2.length ≤ 1048576 ∧ wv.ownsRow (w.heap.size + 1) 55 2 V2 L2.length (fl L2) ∧ wv.ownsRow 0 55 2 (.slice OA EE.length oc) EE.length (fl EE) ∧ ((Value.slice OA EE.length oc).ownBlock = none ∨ (Value.slice OA EE.length oc).ownBlock ≠ V2.ownBlock) ∧ Blk wv xb 43 #[.int .i64 (sn : Int), .int .i64 t] ∧ Below (w.heap.size + 1) W wv ∧ w.heap.size + 1 ≤ wv.heap.size) (fun _ y _ => t.toNat + 1 - (intOf y).toNat)
          case atStart => exact ⟨0, V, L, by omega, rfl, rfl, rfl, hLl, hown1, ownO, hneO, hX1, hbl1, by have := hX1.lt; omega⟩
          case round =>
            obtain ⟨i, V2, L2, hi, rfl, rfl, hrep, hLl2, hown2, ownO2, hne2, hX2, hbl2, hsz2⟩ := hrel
            clear hown1 ownO hneO hX1 hbl1
            have x1 : wr.cell? ⟨xb, 1, none⟩ = some (.int .i64 t) := (hX2.cell 1).trans rfl
            have HREP := Lib.hid hrep
            have HSP := Lib.hid (fun k h => repS_stop (r := (0, L)) (X := EE) (k := k) h t.toNat)
            have HN1 := Lib.hid (show repS (0, L) EE (i + 1) = putS (0, L2) EE by rw [repS, hrep])
            have HNL := Lib.hid (show EE.length = 0 → repS (0, L) EE t.toNat = (0, L2) from fun h => by
              obtain rfl := List.eq_nil_of_length_eq_zero h
              rw [repS_nil hLl] at hrep ⊢
              exact hrep)
            have HF := Lib.hid (And.intro hown2 hbl2)
            clear hrep
            by_cases hit : (i : Int) < t
            · by_cases hE0 : EE.length = 0
              · have hEI : ¬ (0 : Int) < (EE.length : Int) := by omega
                clear hown2 ownO2 hne2 hX2 hbl2
                go_wp2
                go_roundw
                case rel => exact ⟨j + 1, V2, L2, HJ.out, rfl, by go_num, by rw [HST2.out, HNL.out hE0], hLl2, HF.out⟩
                case measure => have := HJ.out; simp [intOf]; omega
              · have hEI : (0 : Int) < (EE.length : Int) := by omega
                have hwi : IntKind.i64.wrap ((i : Int) + 1) = (i : Int) + 1 := by rw [IntKind.wrap_i64]; omega
                obtain ⟨VA2, vc2, rfl⟩ := own_slice hown2
                have HXB := Lib.hid hX2
                clear hbl2 hX2
                go_wp2_with (first
                  | (at_builtin; refine wpList_append_any _ rfl _ _ 35 rfl (w.heap.size + 1) 55 ti (.agg #[.int .i64 0, .int .i64 0]) 2 16 Try.underlying35 hti htz0 htz1 htz2 rfl (by decide) _ L2.length (fl L2) rfl hown2 _ OA EE.length oc (fl EE) rfl (Reads.of_own ownO2) (fl_one EE) (by unfold maxLen; omega) (by omega) (by omega) ?_)
                  | fail)
                intro V3 w2 own3 hg2 hm2
                obtain ⟨hown2', hbl2⟩ := HF.out
                by_cases hlong : 1048576 < L2.length + EE.length
                · have hlI : (1048576 : Int) < ((L2.length + EE.length : Nat) : Int) := by omega
                  have hp8 : pilS (pil.map SymD.es) (0, []) reps = (8, L2) := by
                    have h1 : repS (0, L) EE (i + 1) = (8, L2) := by rw [HN1.out, putS_long hlong]
                    have h2 := HSP.out (i + 1) (by rw [h1]; simp) (by omega)
                    have h3 : pilS (pil.map SymD.es) (0, []) (reps.take (j + 1)) = (8, L2) := by rw [HST2.out, h2, h1]
                    rw [pilS_end (j := j + 1) (by rw [h3]; simp), h3]
                  have HE := Lib.hid (show expS (pil.map SymD.es) (sy.map SymD.es) reps zs (bitsN yn) 25 i8 = (8, []) by
                    have h1 := allS_pil (pil := pil.map SymD.es) (sy := sy.map SymD.es) (reps := reps) (zs := zs) (b := bitsN yn) (c := i8) (by rw [hp8]; simp)
                    rw [expS_bad (by rw [h1, hp8]; simp), h1, hp8])
                  have hb3 : Below (w.heap.size + 1) W w2 := hbl2.grown hg2 (by omega) (fun i hi => (hown2'.lt i hi).1)
                  have HX := Lib.hid (show Below w.heap.size w w2 from HH.out.1.trans (hb3.mono (by omega)))
                  obtain ⟨VA3, vc3, rfl⟩ := own_slice own3
                  clear hown2 ownO2 hne2 hbl2 own3 hg2 hm2 hb3 hp8 hown2'
                  go_wp2
                  go_ret2
                  rw [HE.out]
                  exact ⟨.slice none 0 0, rfl, World.ownsRow_nil _ _ _ _, HX.out⟩
                · have hlI : ¬ (1048576 : Int) < ((L2.length + EE.length : Nat) : Int) := by omega
                  have hb3 : Below (w.heap.size + 1) W w2 := hbl2.grown hg2 (by omega) (fun i hi => (hown2'.lt i hi).1)
                  have ownO3 := ownO2.kept hg2 hne2
                  have hne3 := own_ne_of ownO2 (v' := V3) (by rcases hm2 with h | h; exact .inl h; exact .inr ⟨_, h, Nat.le_refl _⟩) hne2
                  have hX3 := HXB.out.grown hg2 (fun e => own_blk_ne hown2' HXB.out (by decide) e.symm)
                  have hput : repS (0, L) EE (i + 1) = (0, L2 ++ EE) := by rw [HN1.out, putS_ok hlong]
                  have HG := Lib.hid (show repS (0, L) EE (i + 1) = (0, L2 ++ EE) ∧ (L2 ++ EE).length ≤ 1048576 ∧ w2.ownsRow (w.heap.size + 1) 55 2 V3 (L2 ++ EE).length (fl (L2 ++ EE)) ∧ w2.ownsRow 0 55 2 (.slice OA EE.length oc) EE.length (fl EE) ∧ ((Value.slice OA EE.length oc).ownBlock = none ∨ (Value.slice OA EE.length oc).ownBlock ≠ V3.ownBlock) ∧ Blk w2 xb 43 #[.int .i64 (sn : Int), .int .i64 t] ∧ Below (w.heap.size + 1) W w2 ∧ w.heap.size + 1 ≤ w2.heap.size from
                    ⟨hput, by rw [List.length_append]; omega, ownR_app own3, ownO3, hne3, hX3, hb3, Nat.le_trans hsz2 hg2.size⟩)
                  obtain ⟨VA3, vc3, rfl⟩ := own_slice own3
                  clear hown2 ownO2 hne2 hbl2 own3 hg2 hm2 hb3 hown2' ownO3 hne3 hX3 hput
                  go_wp2
                  go_roundw
                  case rel => exact ⟨i + 1, _, L2 ++ EE, by omega, rfl, by go_num, HG.out⟩
                  case measure => simp [intOf]; omega
            · have HTI := Lib.hid (show i = t.toNat by omega)
              clear hown2 ownO2 hne2 hX2 hbl2
              go_wp2
              go_roundw
              case rel => exact ⟨j + 1, V2, L2, HJ.out, rfl, by go_num, by rw [HST2.out, ← HTI.out, HREP.out], hLl2, HF.out⟩
              case measure => have := HJ.out; simp [intOf]; omega
      · obtain rfl : j = rn := by omega
        have hjI : ¬ (j : Int) < (j : Int) := by omega
        have hpA : pilS (pil.map SymD.es) (0, []) reps = (0, L) := by
          rw [← hpil, List.take_of_length_le]; rw [HRN.out]; exact Nat.le_refl _
        have HPA := Lib.hid hpA
        have HF := Lib.hid (And.intro hown hbl)
        have k8 : wr.cell? ⟨w.heap.size, 8, none⟩ = some (.int .i64 i8) := (hBw.cell 8).trans rfl
        by_cases hcnt : 1048576 < i8
        · have HE := Lib.hid (show expS (pil.map SymD.es) (sy.map SymD.es) reps zs (bitsN yn) 25 i8 = (8, []) by
            have h1 := allS_cnt (sy := sy.map SymD.es) (zs := zs) (b := bitsN yn) hpA hcnt
            rw [expS_bad (by rw [h1]; simp), h1])
          have HX := Lib.hid hwW
          clear hpA hpil hown hbl hwW hBw
          go_wp2
          go_ret2
          rw [HE.out]
          exact ⟨.slice none 0 0, rfl, World.ownsRow_nil _ _ _ _, HX.out⟩
        · have HALL := Lib.hid (allS_dat (sy := sy.map SymD.es) (zs := zs) (b := bitsN yn) hpA hcnt)
          have k16 : wr.cell? ⟨w.heap.size, 16, none⟩ = some (.slice YA yn yc) := (hBw.cell 16).trans rfl
          have HLM := Lib.hid (show (sy.map SymD.es).length = yn by rw [List.length_map, HYL.out])
          have hBT := HBT.out
          clear hpA hpil hown hbl hwW hBw
          go_wp2_with fail
          refine (bitsR_any _ yn hyn).mono ?_
          rintro e w1 ⟨rfl, rfl⟩
          clear k16 k17 k8
          have hLl0 := hLl
          generalize hbn : bitsN yn = bn at *
          have HBN := Lib.hid hbn
          clear hbn
          go_wp2_with fail
          go_loopw [4, 10] (fun v x wv => ∃ (i : Nat) (V2 : Value) (L2 : Edges), i ≤ i8.toNat ∧ V2 = v ∧ x = .int .i64 i ∧ datS zs bn (sy.map SymD.es) (0, L) i = (0, L2) ∧ L2.length ≤ 1048576 ∧ wv.ownsRow (w.heap.size + 1) 55 2 V2 L2.length (fl L2) ∧ Below (w.heap.size + 1) W wv) (fun _ x _ => i8.toNat + 1 - (intOf x).toNat)
          case atStart => exact ⟨0, V, L, by omega, rfl, rfl, rfl, hLl, HF.out.1, HF.out.2⟩
          case round =>
            obtain ⟨i, V2, L2, hi, rfl, rfl, hdat, hLl2, hown, hbl⟩ := hrel
            obtain ⟨hb, hB⟩ := HH.out
            have hwW : Below w.heap.size w wr := hb.trans (hbl.mono (by omega))
            have hBr := hbl.block w.heap.size (by omega)
            have hBw : Blk wr w.heap.size 28 #[.int .i64 25, .int .i64 i1, .int .i64 i2, .int .i64 i3, .int .i64 i4, .int .i64 i5, .int .i64 i6, .int .i64 i7, .int .i64 i8, .int .i64 i9, .int .i64 i10, .int .i64 i11, .slice DA dn dc, .slice ta tn tc, .slice ia im ic, .slice PA pn pc, .slice YA yn yc, .slice RA j rc] := hBr.trans hB
            have k8 : wr.cell? ⟨w.heap.size, 8, none⟩ = some (.int .i64 i8) := (hBw.cell 8).trans rfl
            have k12 : wr.cell? ⟨w.heap.size, 12, none⟩ = some (.slice DA dn dc) := (hBw.cell 12).trans rfl
            have k16 : wr.cell? ⟨w.heap.size, 16, none⟩ = some (.slice YA yn yc) := (hBw.cell 16).trans rfl
            have hszr : w.heap.size + 1 ≤ wr.heap.size := by have := hbl.size; omega
            clear hB hb hBr hBw
            by_cases hlt2 : (i : Int) < i8
            · have hi2 : i ≤ 1048576 := by omega
              have hwi : IntKind.i64.wrap ((i : Int) + 1) = (i : Int) + 1 := by rw [IntKind.wrap_i64]; omega
              have HLT := Lib.hid (show i < i8.toNat by omega)
              have hsym := symbolR_gen wr w.heap.size dn dc bn i DA zs (HM.out.2.2.2.2.2.2.1.below hwW) HM.out.2.2.2.2.2.2.2 hdn hBT hi2
              cases hv : symS zs bn i with
              | none =>
                have hd5 : datS zs bn (sy.map SymD.es) (0, L) i8.toNat = (5, L2) := by
                  have := datS_none (zs := zs) (b := bn) (sy := sy.map SymD.es) (r := (0, L)) (k := i) (by rw [hdat]) hv i8.toNat HLT.out
                  rw [this, hdat]
                have HE := Lib.hid (show expS (pil.map SymD.es) (sy.map SymD.es) reps zs bn 25 i8 = (5, []) by
                  have h1 := HALL.out
                  rw [hd5] at h1
                  rw [expS_bad (by rw [h1]; simp), h1])
                have HX := Lib.hid hwW
                rw [hv] at hsym
                clear hown hbl hwW hdat hd5 hv
                go_wp2_with fail
                refine hsym.mono ?_
                rintro e w1 ⟨rfl, rfl⟩
                clear hsym
                have hno : (none : Option Nat).isSome = false := rfl
                rw [hno]
                clear hno
                go_wp2
                go_ret2
                rw [HBN.out, HE.out]
                exact ⟨.slice none 0 0, rfl, World.ownsRow_nil _ _ _ _, HX.out⟩
              | some v =>
                rw [hv] at hsym
                by_cases hvj : v < yn
                · have hvI : (v : Int) < (yn : Int) := by omega
                  have hv0 : (0 : Int) ≤ (v : Int) := Int.natCast_nonneg _
                  have hvI2 : ¬ (yn : Int) ≤ (v : Int) := by omega
                  obtain ⟨q, hq⟩ := idx_some (l := sy) (i := v) (by rw [HYL.out]; exact hvj)
                  obtain ⟨p1, p2⟩ := symV_at hq
                  obtain ⟨pa, rfl, hpab, c0, c1⟩ := pair_at (HM.out.2.2.2.2.1.below hwW) hvj p1 p2
                  have hqk := HM.out.2.2.2.2.2.1 q (List.mem_of_getElem? hq)
                  have hEl := sym_es_len hqk
                  have HN1 := Lib.hid (show datS zs bn (sy.map SymD.es) (0, L) (i + 1) = putS (0, L2) q.es by
                    have := datS_next (zs := zs) (b := bn) (sy := sy.map SymD.es) (r := (0, L)) (k := i) (by rw [hdat]) hv (by rw [HLM.out]; exact hvj)
                    rw [this, hdat, es_at hq])
                  clear p1 p2 hq
                  obtain ⟨qk, qa, qn, qc, qz⟩ := q
                  simp only [SymD.es] at c0 c1 hEl HN1
                  obtain ⟨y0, y1, hrq', hqn⟩ := hqk
                  simp only at y0 y1 hrq' hqn
                  have hrq := hrq'.below hwW
                  have HG0 := Lib.hid (And.intro hown hbl)
                  have hszx := hwW.size
                  clear hown hbl hdat hv hrq' hwW
                  go_wp2_with fail
                  refine hsym.mono ?_
                  rintro e w1 ⟨rfl, rfl⟩
                  clear hsym
                  have hno : (some v).isSome = true := rfl
                  have hgd : (some v).getD 0 = v := rfl
                  rw [hno, hgd]
                  clear hno hgd
                  go_wp2_with fail
                  refine (symOfR_any qk qa qn qc qz wr y0 y1 (hrq.more (by omega)) (by omega)).mono ?_
                  rintro e w1 ⟨O, rfl, ownO', hb1⟩
                  clear c0 c1 k8 k12 k16 hrq
                  obtain ⟨hown, hbl⟩ := HG0.out
                  rw [← es_fl, ← es_len (qk % 4)] at ownO'
                  have hown1 := own_kept hown hb1
                  have hbl1 : Below (w.heap.size + 1) W w1 := hbl.trans (hb1.mono (by omega))
                  obtain ⟨OA, oc, rfl⟩ := own_slice ownO'
                  have hrO := Reads.of_own ownO'
                  have hszb := hb1.size
                  clear hbl hown ownO'
                  generalize es (qk % 4) qz = EE at *
                  obtain ⟨VA2, vc2, rfl⟩ := own_slice hown1
                  have HG1 := Lib.hid (And.intro hown1 hbl1)
                  clear hbl1
                  go_wp2_with (first
                    | (at_builtin; refine wpList_append_any _ rfl _ _ 35 rfl (w.heap.size + 1) 55 ti (.agg #[.int .i64 0, .int .i64 0]) 2 16 Try.underlying35 hti htz0 htz1 htz2 rfl (by decide) _ L2.length (fl L2) rfl hown1 _ OA EE.length oc (fl EE) rfl hrO (fl_one EE) (by unfold maxLen; omega) (by omega) (by omega) ?_)
                    | fail)
                  intro V3 w2 own3 hg2 hm2
                  obtain ⟨hown1', hbl1⟩ := HG1.out
                  have hb3 : Below (w.heap.size + 1) W w2 := hbl1.grown hg2 (by omega) (fun i hi => (hown1'.lt i hi).1)
                  by_cases hlong : 1048576 < L2.length + EE.length
                  · have hlI : (1048576 : Int) < ((L2.length + EE.length : Nat) : Int) := by omega
                    have hd8 : datS zs bn (sy.map SymD.es) (0, L) i8.toNat = (8, L2) := by
                      have h1 : datS zs bn (sy.map SymD.es) (0, L) (i + 1) = (8, L2) := by rw [HN1.out, putS_long hlong]
                      rw [datS_stop (k := i + 1) (by rw [h1]; simp) _ HLT.out, h1]
                    have HE := Lib.hid (show expS (pil.map SymD.es) (sy.map SymD.es) reps zs bn 25 i8 = (8, []) by
                      have h1 := HALL.out
                      rw [hd8] at h1
                      rw [expS_bad (by rw [h1]; simp), h1])
                    have HX := Lib.hid (show Below w.heap.size w w2 from HH.out.1.trans (hb3.mono (by omega)))
                    obtain ⟨VA3, vc3, rfl⟩ := own_slice own3
                    clear hown1 hbl1 own3 hg2 hm2 hb3 hd8 hown1' hrO
                    go_wp2
                    go_ret2
                    rw [HBN.out, HE.out]
                    exact ⟨.slice none 0 0, rfl, World.ownsRow_nil _ _ _ _, HX.out⟩
                  · have hlI : ¬ (1048576 : Int) < ((L2.length + EE.length : Nat) : Int) := by omega
                    have HG := Lib.hid (show datS zs bn (sy.map SymD.es) (0, L) (i + 1) = (0, L2 ++ EE) ∧ (L2 ++ EE).length ≤ 1048576 ∧ w2.ownsRow (w.heap.size + 1) 55 2 V3 (L2 ++ EE).length (fl (L2 ++ EE)) ∧ Below (w.heap.size + 1) W w2 from
                      ⟨by rw [HN1.out, putS_ok hlong], by rw [List.length_append]; omega, ownR_app own3, hb3⟩)
                    obtain ⟨VA3, vc3, rfl⟩ := own_slice own3
                    clear hown1 hbl1 own3 hg2 hm2 hb3 hown1' hrO
                    go_wp2
                    go_roundw
                    case rel => exact ⟨i + 1, _, L2 ++ EE, HLT.out, rfl, by go_num, HG.out⟩
                    case measure => have := HLT.out; simp [intOf]; omega
                · have hd5 : datS zs bn (sy.map SymD.es) (0, L) i8.toNat = (5, L2) := by
                    have := datS_far (zs := zs) (b := bn) (sy := sy.map SymD.es) (r := (0, L)) (k := i) (by rw [hdat]) hv (by rw [HLM.out]; exact hvj) i8.toNat HLT.out
                    rw [this, hdat]
                  have HE := Lib.hid (show expS (pil.map SymD.es) (sy.map SymD.es) reps zs bn 25 i8 = (5, []) by
                    have h1 := HALL.out
                    rw [hd5] at h1
                    rw [expS_bad (by rw [h1]; simp), h1])
                  have HX := Lib.hid hwW
                  have hvI : (yn : Int) ≤ (v : Int) := by omega
                  clear hown hbl hwW hdat hd5 hv
                  go_wp2_with fail
                  refine hsym.mono ?_
                  rintro e w1 ⟨rfl, rfl⟩
                  clear hsym
                  have hno : (some v).isSome = true := rfl
                  have hgd : (some v).getD 0 = v := rfl
                  rw [hno, hgd]
                  clear hno hgd
                  go_wp2
                  go_ret2
                  rw [HBN.out, HE.out]
                  exact ⟨.slice none 0 0, rfl, World.ownsRow_nil _ _ _ _, HX.out⟩
            · have HE := Lib.hid (show expS (pil.map SymD.es) (sy.map SymD.es) reps zs bn 25 i8 = (0, L2) by
                have h1 := HALL.out
                rw [show i8.toNat = i by omega, hdat] at h1
                rw [expS_ok (by rw [h1]), h1])
              have HX := Lib.hid (And.intro (Joins.ownsRow_le hown (Nat.le_succ _)) hwW)
              clear hown hbl hwW hdat
              go_wp2
              go_ret2
              rw [HBN.out, HE.out]
              exact ⟨V2, rfl, HX.out⟩

  · have hidI : (i0 == 25) = false := by simpa using hid
    have HE := Lib.hid (show Below w.heap.size w (w.alloc (.cells #[.int .i64 i0, .int .i64 i1, .int .i64 i2, .int .i64 i3, .int .i64 i4, .int .i64 i5, .int .i64 i6, .int .i64 i7, .int .i64 i8, .int .i64 i9, .int .i64 i10, .int .i64 i11, .slice DA dn dc, .slice ta tn tc, .slice ia im ic, .slice PA pn pc, .slice YA yn yc, .slice RA rn rc] 28)) from (Below.refl _ _).alloc (Nat.le_refl _) _)
    have HXP := Lib.hid (expS_arg (pil := pil.map SymD.es) (sy := sy.map SymD.es) (reps := reps) (zs := zs) (b := bitsN yn) (c := i8) hid)
    clear hP hokp hRp hrb hY hok hD hz hB1 hid
    go_enter Try.func8, Try.ntmps8
    go_wp2
    go_ret2
    rw [HXP.out]
    exact ⟨.slice none 0 0, rfl, World.ownsRow_nil _ _ _ _, HE.out⟩

end Go.Proofs.Ythmmoogfngohaaa
