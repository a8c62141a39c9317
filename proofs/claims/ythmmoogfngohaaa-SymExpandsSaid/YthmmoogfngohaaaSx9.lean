/- The law SymExpands walked, joined. -/
import Derived.Test.YthmmoogfngohaaaSx8
import Derived.OpenShut
import Derived.Deep.SlicePairs
namespace Go.Proofs.Ythmmoogfngohaaa
open Go.RowKit Go.Joins

theorem expS_len {pil sy : List Edges} {reps : List (Int × Int)} {zs : List Int} {b : Nat} {id c : Int} : (expS pil sy reps zs b id c).2.length ≤ 1048576 := by
  unfold expS
  split
  · split
    · unfold allS datR
      exact datS_len (cntS_len (pilS_len _ _ (by simp))) _
    · simp
  · simp
theorem rowU8 {w : World} {a : Option Addr} {len cap : Nat} {zs : List Int} (h : IsRow .u8 w a len cap zs) :
    Reads w w.heap.size 1 a len ((zs.take len).map (Value.int .u8)) ∧ ∀ z ∈ zs.take len, 0 ≤ z ∧ z ≤ 255 := by
  rcases h with ⟨rfl, rfl, rfl, rfl⟩ | ⟨x, rfl, hb, hl, hc, hz, hcell, hw⟩
  · exact ⟨Reads.none_, by intro z hz; simp at hz⟩
  · refine ⟨⟨by simp; omega, fun hn => ⟨x, rfl, by rcases hb with h0 | h0; omega; exact h0, fun j u hu => ?_⟩⟩, fun z hz' => bounds_u8 (hw z (List.mem_of_mem_take hz'))⟩
    simp only [List.getElem?_map, List.getElem?_take, Option.map_eq_some_iff] at hu
    obtain ⟨v, hv, rfl⟩ := hu
    split at hv
    · have hj : j < zs.length := by
        rcases Nat.lt_or_ge j zs.length with h | h
        · exact h
        · rw [List.getElem?_eq_none h] at hv; cases hv
      rw [hcell j hj, List.getD_eq_getElem?_getD, hv]
      rfl
    · cases hv
theorem readsPair {w : World} {B n : Nat} {x : Addr} {xs : List Value} (hx : xs.length = n * 2) (hlt : 0 < n → x.block < B) (V0 V1 : Nat → Value) (hc : ∀ i, i < n → w.cell? (x.add (i * 2)) = some (V0 i) ∧ w.cell? (x.add (i * 2 + 1)) = some (V1 i))
    (hv : ∀ i, i < n → xs[i * 2]? = some (V0 i) ∧ xs[i * 2 + 1]? = some (V1 i)) : Reads w B 2 (some x) n xs := by
  refine ⟨hx, fun hn => ⟨x, rfl, hlt hn, fun j u hu => ?_⟩⟩
  have hj : j < n * 2 := by
    rcases Nat.lt_or_ge j (n * 2) with h | h
    · exact h
    · rw [List.getElem?_eq_none (by omega)] at hu; cases hu
  have hi : j / 2 < n := by omega
  obtain ⟨c0, c1⟩ := hc _ hi
  obtain ⟨e0, e1⟩ := hv _ hi
  rcases Nat.mod_two_eq_zero_or_one j with h | h
  · rw [show j / 2 * 2 = j by omega] at e0 c0
    rw [hu] at e0
    rw [c0, ← e0]
  · rw [show j / 2 * 2 + 1 = j by omega] at e1 c1
    rw [hu] at e1
    rw [c1, ← e1]
theorem symsOf {W : World} {x : Addr} {n : Nat} (hlt : 0 < n → x.block < W.heap.size) (V0 V1 : Nat → Value) (hc : ∀ i, i < n → W.cell? (x.add (i * 2)) = some (V0 i) ∧ W.cell? (x.add (i * 2 + 1)) = some (V1 i))
    (hv : ∀ i, i < n → ∃ q : SymD, V0 i = .int .i64 q.k ∧ V1 i = .slice q.a q.n q.c ∧ q.okw W W.heap.size) : ∃ l : List SymD, Reads W W.heap.size 2 (some x) n (symV l) ∧ ∀ q ∈ l, q.okw W W.heap.size := by
  have : ∃ Q : Nat → SymD, ∀ i, i < n → V0 i = .int .i64 (Q i).k ∧ V1 i = .slice (Q i).a (Q i).n (Q i).c ∧ (Q i).okw W W.heap.size :=
    ⟨fun i => if h : i < n then (hv i h).choose else ⟨0, none, 0, 0, []⟩, fun i hi => by simp only [hi, dif_pos]; exact (hv i hi).choose_spec⟩
  obtain ⟨Q, hQ⟩ := this
  have hl : ((List.range n).map Q).length = n := by simp
  refine ⟨(List.range n).map Q, readsPair (by rw [symV_len, hl]) hlt V0 V1 hc (fun i hi => ?_), fun q hq => ?_⟩
  · obtain ⟨h0, h1⟩ := symV_at (l := (List.range n).map Q) (i := i) (p := Q i) (by simp [hi])
    rw [h0, h1, (hQ i hi).1, (hQ i hi).2.1]
    exact ⟨rfl, rfl⟩
  · obtain ⟨i, hi, rfl⟩ := List.mem_map.1 hq
    exact (hQ i (List.mem_range.1 hi)).2.2
theorem repsOf {W : World} {x : Addr} {n : Nat} (hlt : 0 < n → x.block < W.heap.size) (V0 V1 : Nat → Value) (hc : ∀ i, i < n → W.cell? (x.add (i * 2)) = some (V0 i) ∧ W.cell? (x.add (i * 2 + 1)) = some (V1 i))
    (hv : ∀ i, i < n → ∃ q : Int × Int, V0 i = .int .i64 q.1 ∧ V1 i = .int .i64 q.2 ∧ (Lit.int .i64 q.1).wf = true ∧ (Lit.int .i64 q.2).wf = true) : ∃ l : List (Int × Int), Reads W W.heap.size 2 (some x) n (fl l) ∧ ∀ p ∈ l, -9223372036854775808 ≤ p.1 ∧ p.1 ≤ 9223372036854775807 ∧ -9223372036854775808 ≤ p.2 ∧ p.2 ≤ 9223372036854775807 := by
  have : ∃ Q : Nat → Int × Int, ∀ i, i < n → V0 i = .int .i64 (Q i).1 ∧ V1 i = .int .i64 (Q i).2 ∧ (Lit.int .i64 (Q i).1).wf = true ∧ (Lit.int .i64 (Q i).2).wf = true :=
    ⟨fun i => if h : i < n then (hv i h).choose else (0, 0), fun i hi => by simp only [hi, dif_pos]; exact (hv i hi).choose_spec⟩
  obtain ⟨Q, hQ⟩ := this
  have hl : ((List.range n).map Q).length = n := by simp
  refine ⟨(List.range n).map Q, readsPair (by rw [fl_len, hl]) hlt V0 V1 hc (fun i hi => ?_), fun q hq => ?_⟩
  · obtain ⟨h0, h1⟩ := fl_at (l := (List.range n).map Q) (i := i) (p := Q i) (by simp [hi])
    rw [h0, h1, (hQ i hi).1, (hQ i hi).2.1]
    exact ⟨rfl, rfl⟩
  · obtain ⟨i, hi, rfl⟩ := List.mem_map.1 hq
    obtain ⟨_, _, w0, w1⟩ := hQ i (List.mem_range.1 hi)
    obtain ⟨a0, a1⟩ := bounds_i64 w0
    obtain ⟨b0, b1⟩ := bounds_i64 w1
    exact ⟨a0, a1, b0, b1⟩

set_option maxRecDepth 100000 in
set_option maxHeartbeats 8000000 in
theorem symExpands_walk (w : World) (pil sy : List SymD) (reps : List (Int × Int)) (zd : List Int) (i0 i1 i2 i3 i4 i5 i6 i7 i8 i9 i10 i11 : Int) (DA ta ia PA YA RA : Option Addr) (dn dc tn tc im ic pn pc yn yc rn rc : Nat)
    (w8 : (Lit.int .i64 i8).wf = true) (wD : IsRow .u8 w DA dn dc zd)
    (hP : Reads w w.heap.size 2 PA pn (symV pil)) (hokp : ∀ q ∈ pil, q.okw w w.heap.size) (hY : Reads w w.heap.size 2 YA yn (symV sy)) (hoky : ∀ q ∈ sy, q.okw w w.heap.size)
    (hRp : Reads w w.heap.size 2 RA rn (fl reps)) (hrb : ∀ p ∈ reps, -9223372036854775808 ≤ p.1 ∧ p.1 ≤ 9223372036854775807 ∧ -9223372036854775808 ≤ p.2 ∧ p.2 ≤ 9223372036854775807) :
    Calls Try.prog 3 #[.agg #[.int .i64 i0, .int .i64 i1, .int .i64 i2, .int .i64 i3, .int .i64 i4, .int .i64 i5, .int .i64 i6, .int .i64 i7, .int .i64 i8, .int .i64 i9, .int .i64 i10, .int .i64 i11, .slice DA dn dc, .slice ta tn tc, .slice ia im ic, .slice PA pn pc, .slice YA yn yc, .slice RA rn rc]] w fun e w' => e = .returned (.bool true) ∧ Below w.heap.size w w' := by
  obtain ⟨hc0, hc1⟩ := bounds_i64 w8
  obtain ⟨hD, hz⟩ := rowU8 wD
  clear w8 wD
  generalize zd.take dn = zs at *
  have hBB : Blk (w.alloc (.cells #[.int .i64 i0, .int .i64 i1, .int .i64 i2, .int .i64 i3, .int .i64 i4, .int .i64 i5, .int .i64 i6, .int .i64 i7, .int .i64 i8, .int .i64 i9, .int .i64 i10, .int .i64 i11, .slice DA dn dc, .slice ta tn tc, .slice ia im ic, .slice PA pn pc, .slice YA yn yc, .slice RA rn rc] 28)) w.heap.size 28 #[.int .i64 i0, .int .i64 i1, .int .i64 i2, .int .i64 i3, .int .i64 i4, .int .i64 i5, .int .i64 i6, .int .i64 i7, .int .i64 i8, .int .i64 i9, .int .i64 i10, .int .i64 i11, .slice DA dn dc, .slice ta tn tc, .slice ia im ic, .slice PA pn pc, .slice YA yn yc, .slice RA rn rc] := Blk.new w _ _
  have hb : Below w.heap.size w (w.alloc (.cells #[.int .i64 i0, .int .i64 i1, .int .i64 i2, .int .i64 i3, .int .i64 i4, .int .i64 i5, .int .i64 i6, .int .i64 i7, .int .i64 i8, .int .i64 i9, .int .i64 i10, .int .i64 i11, .slice DA dn dc, .slice ta tn tc, .slice ia im ic, .slice PA pn pc, .slice YA yn yc, .slice RA rn rc] 28)) := (Below.refl _ _).alloc (Nat.le_refl _) _
  have HM := Lib.hid (And.intro hP (And.intro hokp (And.intro hRp (And.intro hrb (And.intro hY (And.intro hoky (And.intro hD hz)))))))
  have HB := Lib.hid hb
  clear hP hokp hRp hrb hY hoky hD hz hb
  go_enter Try.func3, Try.ntmps3
  go_upto_region 1 with fail
  generalize w.alloc (.cells #[.int .i64 i0, .int .i64 i1, .int .i64 i2, .int .i64 i3, .int .i64 i4, .int .i64 i5, .int .i64 i6, .int .i64 i7, .int .i64 i8, .int .i64 i9, .int .i64 i10, .int .i64 i11, .slice DA dn dc, .slice ta tn tc, .slice ia im ic, .slice PA pn pc, .slice YA yn yc, .slice RA rn rc] 28) = W at *
  have hbs := HB.out.size
  have hl := light_gen W pil sy reps i0 i1 i2 i3 i4 i5 i6 i7 i8 i9 i10 i11 DA ta ia PA YA RA dn dc tn tc im ic pn pc yn yc rn rc ((HM.out.1.below HB.out).more hbs) ((HM.out.2.2.1.below HB.out).more hbs) HM.out.2.2.2.1 ((HM.out.2.2.2.2.1.below HB.out).more hbs)
  have HBK := Lib.hid hBB
  go_wp2_with (first
    | (refine wpList_load_box rfl 28 _ rfl w.heap.size rfl 28 #[.int .i64 i0, .int .i64 i1, .int .i64 i2, .int .i64 i3, .int .i64 i4, .int .i64 i5, .int .i64 i6, .int .i64 i7, .int .i64 i8, .int .i64 i9, .int .i64 i10, .int .i64 i11, .slice DA dn dc, .slice ta tn tc, .slice ia im ic, .slice PA pn pc, .slice YA yn yc, .slice RA rn rc] hBB _ Try.underlying28 rfl blkInfo ?_)
    | fail)
  try (refine fun (_ : Hid _) => ?_)
  clear hBB
  first
    | (refine hl.mono ?_)
    | (go_wp2_with fail; refine hl.mono ?_)
  rintro e w1 ⟨b, rfl, hsm, hb1⟩
  clear hl
  have hB1 := HBK.out.below hb1 HBK.out.lt
  have hbw1 := bthen HB.out hb1
  have hs1 := hb1.size
  cases b with
  | false =>
    have HX := Lib.hid hbw1
    clear hsm hb1 hB1 hbw1
    go_wp2_with fail
    refine (lives22 _).mono ?_
    rintro e wd ⟨rfl, hbd⟩
    have HY := Lib.hid (bthen HX.out hbd)
    clear hbd
    go_wp2
    go_ret
    exact ⟨rfl, HY.out⟩
  | true =>
    obtain ⟨hrn, hpn, hyn, hdn, hpq, hyq⟩ := hsm rfl
    have he := expand_gen w1 pil sy reps zs i0 i1 i2 i3 i4 i5 i6 i7 i8 i9 i10 i11 DA ta ia PA YA RA dn dc tn tc im ic pn pc yn yc rn rc ((HM.out.1.below hbw1).more hbw1.size) (fun q hq => ⟨(HM.out.2.1 q hq).1, (HM.out.2.1 q hq).2.1, ((HM.out.2.1 q hq).2.2.below hbw1).more hbw1.size, hpq q hq⟩) ((HM.out.2.2.1.below hbw1).more hbw1.size) HM.out.2.2.2.1
      ((HM.out.2.2.2.2.1.below hbw1).more hbw1.size) (fun q hq => ⟨(HM.out.2.2.2.2.2.1 q hq).1, (HM.out.2.2.2.2.2.1 q hq).2.1, ((HM.out.2.2.2.2.2.1 q hq).2.2.below hbw1).more hbw1.size, hyq q hq⟩) ((HM.out.2.2.2.2.2.2.1.below hbw1).more hbw1.size) HM.out.2.2.2.2.2.2.2 hpn (by omega) hyn hdn hc0 hc1
    have HX := Lib.hid (And.intro hb1 (And.intro hbw1 (And.intro hpq hyq)))
    have HBK1 := Lib.hid hB1
    clear hsm hb1 hbw1 hpq hyq
    go_wp2_with (first
      | (refine wpList_load_box rfl 28 _ rfl w.heap.size rfl 28 #[.int .i64 i0, .int .i64 i1, .int .i64 i2, .int .i64 i3, .int .i64 i4, .int .i64 i5, .int .i64 i6, .int .i64 i7, .int .i64 i8, .int .i64 i9, .int .i64 i10, .int .i64 i11, .slice DA dn dc, .slice ta tn tc, .slice ia im ic, .slice PA pn pc, .slice YA yn yc, .slice RA rn rc] hB1 _ Try.underlying28 rfl blkInfo ?_)
      | fail)
    try (refine fun (_ : Hid _) => ?_)
    clear hB1
    first
      | (refine he.mono ?_)
      | (go_wp2_with fail; refine he.mono ?_)
    rintro e w2 ⟨V, rfl, own1, hb2⟩
    clear he
    have hB2 := HBK1.out.below hb2 HBK1.out.lt
    obtain ⟨hb1, hbw1, hpq, hyq⟩ := HX.out
    have hbw2 := bthen hbw1 hb2
    have he := expandR_gen w2 pil sy reps zs i0 i1 i2 i3 i4 i5 i6 i7 i8 i9 i10 i11 DA ta ia PA YA RA dn dc tn tc im ic pn pc yn yc rn rc ((HM.out.1.below hbw2).more hbw2.size) (fun q hq => ⟨(HM.out.2.1 q hq).1, (HM.out.2.1 q hq).2.1, ((HM.out.2.1 q hq).2.2.below hbw2).more hbw2.size, hpq q hq⟩) ((HM.out.2.2.1.below hbw2).more hbw2.size) HM.out.2.2.2.1
      ((HM.out.2.2.2.2.1.below hbw2).more hbw2.size) (fun q hq => ⟨(HM.out.2.2.2.2.2.1 q hq).1, (HM.out.2.2.2.2.2.1 q hq).2.1, ((HM.out.2.2.2.2.2.1 q hq).2.2.below hbw2).more hbw2.size, hyq q hq⟩) ((HM.out.2.2.2.2.2.2.1.below hbw2).more hbw2.size) HM.out.2.2.2.2.2.2.2 hpn (by omega) hyn hdn hc0 hc1
    have HO := Lib.hid (And.intro own1 hbw2)
    have hLl := expS_len (pil := pil.map SymD.es) (sy := sy.map SymD.es) (reps := reps) (zs := zs) (b := bitsN yn) (id := i0) (c := i8)
    generalize expS (pil.map SymD.es) (sy.map SymD.es) reps zs (bitsN yn) i0 i8 = R at *
    obtain ⟨er, L⟩ := R
    simp only at he HO hLl own1
    obtain ⟨VA, vc, rfl⟩ := own_slice own1
    clear own1 hbw1 hb1 hbw2 hb2 hpq hyq HX
    go_wp2_with (first
      | (refine wpList_load_box rfl 28 _ rfl w.heap.size rfl 28 #[.int .i64 i0, .int .i64 i1, .int .i64 i2, .int .i64 i3, .int .i64 i4, .int .i64 i5, .int .i64 i6, .int .i64 i7, .int .i64 i8, .int .i64 i9, .int .i64 i10, .int .i64 i11, .slice DA dn dc, .slice ta tn tc, .slice ia im ic, .slice PA pn pc, .slice YA yn yc, .slice RA rn rc] hB2 _ Try.underlying28 rfl blkInfo ?_)
      | fail)
    try (refine fun (_ : Hid _) => ?_)
    clear hB2
    first
      | (refine he.mono ?_)
      | (go_wp2_with fail; refine he.mono ?_)
    rintro e w3 ⟨V2, rfl, own2, hb3⟩
    clear he
    obtain ⟨own1, hbw2⟩ := HO.out
    have own1' := own_kept own1 hb3
    have hsame := same_gen w3 _ V2 _ _ L own1' own2 hLl
    have HP := Lib.hid (bthen hbw2 hb3)
    obtain ⟨VB, vd, rfl⟩ := own_slice own2
    clear own1 own1' own2 hbw2 hb3 hLl HO
    go_wp2_with fail
    refine hsame.mono ?_
    rintro e w4 ⟨rfl, nq, rfl⟩
    clear hsame
    go_wp2_with fail
    refine (lives22 _).mono ?_
    rintro e wd ⟨rfl, hbd⟩
    have HY := Lib.hid (bthen (bthen HP.out (below_drewN (Below.refl _ _) nq)) hbd)
    clear hbd
    go_wp2
    go_ret
    exact ⟨rfl, HY.out⟩

end Go.Proofs.Ythmmoogfngohaaa
