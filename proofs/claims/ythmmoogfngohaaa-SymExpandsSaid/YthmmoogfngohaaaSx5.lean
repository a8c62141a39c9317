/- Layer 22: the contract of Expand: any block. -/
import Derived.Test.YthmmoogfngohaaaSx4
import Derived.Test.YthmmoogfngohaaaSym5
namespace Go.Proofs.Ythmmoogfngohaaa
open Go.RowKit

/-- all of a block's edges, or why there are none -/
def allS (pil sy : List Edges) (reps : List (Int × Int)) (zs : List Int) (b : Nat) (c : Int) : Res := datR zs b sy c (pilS pil (0, []) reps)
def expS (pil sy : List Edges) (reps : List (Int × Int)) (zs : List Int) (b : Nat) (id c : Int) : Res :=
  if id = 25 then (if (allS pil sy reps zs b c).1 = 0 then allS pil sy reps zs b c else ((allS pil sy reps zs b c).1, [])) else (1, [])
theorem expS_arg {pil sy : List Edges} {reps : List (Int × Int)} {zs : List Int} {b : Nat} {id c : Int} (h : id ≠ 25) : expS pil sy reps zs b id c = (1, []) := if_neg h
theorem expS_bad {pil sy : List Edges} {reps : List (Int × Int)} {zs : List Int} {b : Nat} {c : Int} (h : (allS pil sy reps zs b c).1 ≠ 0) : expS pil sy reps zs b 25 c = ((allS pil sy reps zs b c).1, []) := by unfold expS; rw [if_pos rfl, if_neg h]
theorem expS_ok {pil sy : List Edges} {reps : List (Int × Int)} {zs : List Int} {b : Nat} {c : Int} (h : (allS pil sy reps zs b c).1 = 0) : expS pil sy reps zs b 25 c = allS pil sy reps zs b c := by unfold expS; rw [if_pos rfl, if_pos h]

set_option maxRecDepth 100000 in
set_option maxHeartbeats 8000000 in
theorem expand_gen (w : World) (pil sy : List SymD) (reps : List (Int × Int)) (zs : List Int) (i0 i1 i2 i3 i4 i5 i6 i7 i8 i9 i10 i11 : Int) (DA ta ia PA YA RA : Option Addr) (dn dc tn tc im ic pn pc yn yc rn rc : Nat)
    (hP : Reads w w.heap.size 2 PA pn (symV pil)) (hokp : ∀ q ∈ pil, q.ok w w.heap.size) (hRp : Reads w w.heap.size 2 RA rn (fl reps)) (hrb : ∀ p ∈ reps, -9223372036854775808 ≤ p.1 ∧ p.1 ≤ 9223372036854775807 ∧ -9223372036854775808 ≤ p.2 ∧ p.2 ≤ 9223372036854775807)
    (hY : Reads w w.heap.size 2 YA yn (symV sy)) (hok : ∀ q ∈ sy, q.ok w w.heap.size) (hD : Reads w w.heap.size 1 DA dn (zs.map (Value.int .u8))) (hz : ∀ z ∈ zs, 0 ≤ z ∧ z ≤ 255)
    (hpn : pn ≤ 256) (hrn : rn ≤ 200000) (hyn : yn ≤ 256) (hdn : dn ≤ 1000) (hc0 : -9223372036854775808 ≤ i8) (hc1 : i8 ≤ 9223372036854775807) :
    Calls Try.prog 7 #[.agg #[.int .i64 i0, .int .i64 i1, .int .i64 i2, .int .i64 i3, .int .i64 i4, .int .i64 i5, .int .i64 i6, .int .i64 i7, .int .i64 i8, .int .i64 i9, .int .i64 i10, .int .i64 i11, .slice DA dn dc, .slice ta tn tc, .slice ia im ic, .slice PA pn pc, .slice YA yn yc, .slice RA rn rc]] w fun e w' => ∃ V, e = .returned (.tuple #[V, .int .i64 (expS (pil.map SymD.es) (sy.map SymD.es) reps zs (bitsN yn) i0 i8).1]) ∧ w'.ownsRow w.heap.size 45 2 V (expS (pil.map SymD.es) (sy.map SymD.es) reps zs (bitsN yn) i0 i8).2.length (fl (expS (pil.map SymD.es) (sy.map SymD.es) reps zs (bitsN yn) i0 i8).2) ∧ Below w.heap.size w w' := by
  have hB1 : Blk (w.alloc (.cells #[.int .i64 i0, .int .i64 i1, .int .i64 i2, .int .i64 i3, .int .i64 i4, .int .i64 i5, .int .i64 i6, .int .i64 i7, .int .i64 i8, .int .i64 i9, .int .i64 i10, .int .i64 i11, .slice DA dn dc, .slice ta tn tc, .slice ia im ic, .slice PA pn pc, .slice YA yn yc, .slice RA rn rc] 28)) w.heap.size 28 #[.int .i64 i0, .int .i64 i1, .int .i64 i2, .int .i64 i3, .int .i64 i4, .int .i64 i5, .int .i64 i6, .int .i64 i7, .int .i64 i8, .int .i64 i9, .int .i64 i10, .int .i64 i11, .slice DA dn dc, .slice ta tn tc, .slice ia im ic, .slice PA pn pc, .slice YA yn yc, .slice RA rn rc] := Blk.new w _ _
  have k0 : (w.alloc (.cells #[.int .i64 i0, .int .i64 i1, .int .i64 i2, .int .i64 i3, .int .i64 i4, .int .i64 i5, .int .i64 i6, .int .i64 i7, .int .i64 i8, .int .i64 i9, .int .i64 i10, .int .i64 i11, .slice DA dn dc, .slice ta tn tc, .slice ia im ic, .slice PA pn pc, .slice YA yn yc, .slice RA rn rc] 28)).cell? ⟨w.heap.size, 0, none⟩ = some (.int .i64 i0) := (hB1.cell 0).trans rfl
  by_cases hid : i0 = 25
  · subst hid
    have hb : Below w.heap.size w ((w.alloc (.cells #[.int .i64 25, .int .i64 i1, .int .i64 i2, .int .i64 i3, .int .i64 i4, .int .i64 i5, .int .i64 i6, .int .i64 i7, .int .i64 i8, .int .i64 i9, .int .i64 i10, .int .i64 i11, .slice DA dn dc, .slice ta tn tc, .slice ia im ic, .slice PA pn pc, .slice YA yn yc, .slice RA rn rc] 28)).alloc (.cells #[.slice none 0 0, .int .i64 0] 49)) := ((Below.refl _ _).alloc (Nat.le_refl _) _).alloc (by simp) _
    have hB : Blk ((w.alloc (.cells #[.int .i64 25, .int .i64 i1, .int .i64 i2, .int .i64 i3, .int .i64 i4, .int .i64 i5, .int .i64 i6, .int .i64 i7, .int .i64 i8, .int .i64 i9, .int .i64 i10, .int .i64 i11, .slice DA dn dc, .slice ta tn tc, .slice ia im ic, .slice PA pn pc, .slice YA yn yc, .slice RA rn rc] 28)).alloc (.cells #[.slice none 0 0, .int .i64 0] 49)) w.heap.size 28 #[.int .i64 25, .int .i64 i1, .int .i64 i2, .int .i64 i3, .int .i64 i4, .int .i64 i5, .int .i64 i6, .int .i64 i7, .int .i64 i8, .int .i64 i9, .int .i64 i10, .int .i64 i11, .slice DA dn dc, .slice ta tn tc, .slice ia im ic, .slice PA pn pc, .slice YA yn yc, .slice RA rn rc] := hB1.alloc _
    have hR : Blk ((w.alloc (.cells #[.int .i64 25, .int .i64 i1, .int .i64 i2, .int .i64 i3, .int .i64 i4, .int .i64 i5, .int .i64 i6, .int .i64 i7, .int .i64 i8, .int .i64 i9, .int .i64 i10, .int .i64 i11, .slice DA dn dc, .slice ta tn tc, .slice ia im ic, .slice PA pn pc, .slice YA yn yc, .slice RA rn rc] 28)).alloc (.cells #[.slice none 0 0, .int .i64 0] 49)) (w.heap.size + 1) 49 #[.slice none 0 0, .int .i64 0] := by
      have := Blk.new (w.alloc (.cells #[.int .i64 25, .int .i64 i1, .int .i64 i2, .int .i64 i3, .int .i64 i4, .int .i64 i5, .int .i64 i6, .int .i64 i7, .int .i64 i8, .int .i64 i9, .int .i64 i10, .int .i64 i11, .slice DA dn dc, .slice ta tn tc, .slice ia im ic, .slice PA pn pc, .slice YA yn yc, .slice RA rn rc] 28)) 49 #[.slice none 0 0, .int .i64 0]
      simpa using this
    have HM := Lib.hid (And.intro hP (And.intro hokp (And.intro hRp (And.intro hrb (And.intro hY (And.intro hok (And.intro hD hz)))))))
    have HH := Lib.hid (And.intro hb hR)
    have hBB := hB
    clear hP hokp hRp hrb hY hok hD hz hb hR hB1 hB
    go_enter Try.func7, Try.ntmps7
    go_wp2_with (first
      | (refine wpList_load_box rfl 28 _ rfl w.heap.size rfl 28 #[.int .i64 25, .int .i64 i1, .int .i64 i2, .int .i64 i3, .int .i64 i4, .int .i64 i5, .int .i64 i6, .int .i64 i7, .int .i64 i8, .int .i64 i9, .int .i64 i10, .int .i64 i11, .slice DA dn dc, .slice ta tn tc, .slice ia im ic, .slice PA pn pc, .slice YA yn yc, .slice RA rn rc] hBB _ Try.underlying28 rfl blkInfo ?_)
      | fail)
    try (refine fun (_ : Hid _) => ?_)
    obtain ⟨hb, hR⟩ := HH.out
    clear HH k0
    generalize (w.alloc (.cells #[.int .i64 25, .int .i64 i1, .int .i64 i2, .int .i64 i3, .int .i64 i4, .int .i64 i5, .int .i64 i6, .int .i64 i7, .int .i64 i8, .int .i64 i9, .int .i64 i10, .int .i64 i11, .slice DA dn dc, .slice ta tn tc, .slice ia im ic, .slice PA pn pc, .slice YA yn yc, .slice RA rn rc] 28)).alloc (.cells #[.slice none 0 0, .int .i64 0] 49) = W at *
    have hRl := hR.lt
    have hokp : ∀ q ∈ pil, q.ok W w.heap.size := fun q hq => ⟨(HM.out.2.1 q hq).1, (HM.out.2.1 q hq).2.1, (HM.out.2.1 q hq).2.2.1.below hb, (HM.out.2.1 q hq).2.2.2⟩
    have hp := pilots_gen W (w.heap.size + 1) W.heap.size w.heap.size (.slice none 0 0) (0, []) pil reps 25 i1 i2 i3 i4 i5 i6 i7 i8 i9 i10 i11 DA ta ia PA YA RA dn dc tn tc im ic pn pc yn yc rn rc ⟨hR, World.ownsRow_nil _ _ _ _⟩ (by simp) (HM.out.1.below hb) hokp (HM.out.2.2.1.below hb) HM.out.2.2.2.1 (by omega) (by omega) (Nat.le_refl _) hpn hrn
    clear hokp
    have HW := Lib.hid (And.intro hb hBB)
    clear hb hBB hR
    first
      | (refine hp.mono ?_)
      | (go_wp2_with fail; refine hp.mono ?_)
    rintro e w3 ⟨rfl, V, hS3, hC3, hmv⟩
    clear hp
    obtain ⟨hb, hB⟩ := HW.out
    have hB3 := hC3.blk hB (by omega) (by simp [Value.ownBlock])
    have hb3 := hC3.below hb (by omega) hb.size (fun b hb => by simp [Value.ownBlock] at hb)
    have hsz3 : W.heap.size ≤ w3.heap.size := hC3.2.2.2.1
    have hok3 : ∀ q ∈ sy, q.ok w3 w.heap.size := fun q hq => ⟨(HM.out.2.2.2.2.2.1 q hq).1, (HM.out.2.2.2.2.2.1 q hq).2.1, (HM.out.2.2.2.2.2.1 q hq).2.2.1.below hb3, (HM.out.2.2.2.2.2.1 q hq).2.2.2⟩
    have hd := data_gen w3 (w.heap.size + 1) W.heap.size w.heap.size V (pilS (pil.map SymD.es) (0, []) reps) sy zs 25 i1 i2 i3 i4 i5 i6 i7 i8 i9 i10 i11 DA ta ia PA YA RA dn dc tn tc im ic pn pc yn yc rn rc hS3 (pilS_len _ _ (by simp)) (HM.out.2.2.2.2.1.below hb3) hok3 (HM.out.2.2.2.2.2.2.1.below hb3) HM.out.2.2.2.2.2.2.2 (by omega) (by omega) hsz3 hyn hdn hc0 hc1
    have HX := Lib.hid (And.intro hS3 (And.intro hb3 hb.size))
    clear hok3 hS3 hb3 hb hB hC3 hmv HW
    go_wp2_with (first
      | (refine wpList_load_box rfl 28 _ rfl w.heap.size rfl 28 #[.int .i64 25, .int .i64 i1, .int .i64 i2, .int .i64 i3, .int .i64 i4, .int .i64 i5, .int .i64 i6, .int .i64 i7, .int .i64 i8, .int .i64 i9, .int .i64 i10, .int .i64 i11, .slice DA dn dc, .slice ta tn tc, .slice ia im ic, .slice PA pn pc, .slice YA yn yc, .slice RA rn rc] hB3 _ Try.underlying28 rfl blkInfo ?_)
      | fail)
    try (refine fun (_ : Hid _) => ?_)
    clear hB3
    first
      | (refine hd.mono ?_)
      | (go_wp2_with fail; refine hd.mono ?_)
    rintro e w4 ⟨rfl, V4, hS4, hC4, hmv4⟩
    clear hd
    obtain ⟨hS3, hb3, hbs⟩ := HX.out
    have hb4 := hC4.below hb3 (by omega) hb3.size (fun b hb => by have := (hS3.2.lt b hb).1; omega)
    have HAL := Lib.hid (show datR zs (bitsN yn) (sy.map SymD.es) i8 (pilS (pil.map SymD.es) (0, []) reps) = allS (pil.map SymD.es) (sy.map SymD.es) reps zs (bitsN yn) i8 from rfl)
    rw [HAL.out] at hS4
    have HBAD := Lib.hid (expS_bad (pil := pil.map SymD.es) (sy := sy.map SymD.es) (reps := reps) (zs := zs) (b := bitsN yn) (c := i8))
    have HOKK := Lib.hid (expS_ok (pil := pil.map SymD.es) (sy := sy.map SymD.es) (reps := reps) (zs := zs) (b := bitsN yn) (c := i8))
    generalize allS (pil.map SymD.es) (sy.map SymD.es) reps zs (bitsN yn) i8 = R at *
    obtain ⟨e, L⟩ := R
    have r0 : w4.cell? ⟨w.heap.size + 1, 0, none⟩ = some V4 := (hS4.1.cell 0).trans rfl
    have r1 : w4.cell? ⟨w.heap.size + 1, 1, none⟩ = some (.int .i64 e) := (hS4.1.cell 1).trans rfl
    have HE := Lib.hid (And.intro (Joins.ownsRow_le hS4.2 hbs) hb4)
    clear hS3 hb3 hC4 hS4 hb4 hmv4
    by_cases he : e = 0
    · subst he
      have HXP := Lib.hid (HOKK.out rfl)
      clear HBAD HOKK
      go_wp2
      go_ret2
      rw [HXP.out]
      exact ⟨V4, rfl, HE.out⟩
    · have HXP := Lib.hid (HBAD.out he)
      have heI : (e == 0) = false := by simpa using he
      clear HBAD HOKK
      go_wp2
      try (go_quiet (fail))
      try go_wp2
      go_ret2
      rw [HXP.out]
      exact ⟨.slice none 0 0, rfl, World.ownsRow_nil _ _ _ _, by first | exact HE.out.2 | exact below_drewN HE.out.2 _⟩
  · have hidI : (i0 == 25) = false := by simpa using hid
    have HE := Lib.hid (show Below w.heap.size w (w.alloc (.cells #[.int .i64 i0, .int .i64 i1, .int .i64 i2, .int .i64 i3, .int .i64 i4, .int .i64 i5, .int .i64 i6, .int .i64 i7, .int .i64 i8, .int .i64 i9, .int .i64 i10, .int .i64 i11, .slice DA dn dc, .slice ta tn tc, .slice ia im ic, .slice PA pn pc, .slice YA yn yc, .slice RA rn rc] 28)) from (Below.refl _ _).alloc (Nat.le_refl _) _)
    have HXP := Lib.hid (expS_arg (pil := pil.map SymD.es) (sy := sy.map SymD.es) (reps := reps) (zs := zs) (b := bitsN yn) (c := i8) hid)
    clear hP hokp hRp hrb hY hok hD hz hB1 hid
    go_enter Try.func7, Try.ntmps7
    go_wp2
    go_ret2
    rw [HXP.out]
    exact ⟨.slice none 0 0, rfl, World.ownsRow_nil _ _ _ _, HE.out⟩

end Go.Proofs.Ythmmoogfngohaaa
