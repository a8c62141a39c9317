/- Layer 27: contract of a block by the first timing that fits. -/
import Derived.Test.YtckgmnlmimogjaaNk6
namespace Go.Proofs.Ytckgmnlmimogjaa
open Go.RowKit

structure TmD where
  p : Int
  s1 : Int
  s2 : Int
  z : Int
  o : Int
def tmC (t : TmD) : List Value := [.int .i64 t.p, .int .i64 t.s1, .int .i64 t.s2, .int .i64 t.z, .int .i64 t.o]
def tmV (l : List TmD) : List Value := l.flatMap tmC
def stdT : TmD := ⟨2168, 667, 735, 855, 1710⟩
theorem tmV_len : ∀ l : List TmD, (tmV l).length = l.length * 5
  | [] => rfl
  | t :: l => by
    have := tmV_len l
    simp only [tmV, List.flatMap_cons, List.length_append, List.length_cons] at this ⊢
    have h5 : (tmC t).length = 5 := rfl
    omega
theorem tmV_at : ∀ {l : List TmD} {i : Nat} {t : TmD}, l[i]? = some t → ∀ k u, (tmC t)[k]? = some u → (tmV l)[i * 5 + k]? = some u
  | [], i, t, h => by cases h
  | q :: l, 0, t, h => by
    obtain rfl : q = t := by simpa using h
    intro k u hk
    have hlt : k < (tmC q).length := by
      rcases Nat.lt_or_ge k (tmC q).length with h | h
      · exact h
      · rw [List.getElem?_eq_none h] at hk; cases hk
    show (tmC q ++ tmV l)[0 * 5 + k]? = some u
    rw [show 0 * 5 + k = k by omega, List.getElem?_append_left hlt]
    exact hk
  | q :: l, i + 1, t, h => by
    intro k u hk
    have := tmV_at (l := l) (i := i) (t := t) (by simpa using h) k u hk
    show (tmC q ++ tmV l)[(i + 1) * 5 + k]? = some u
    have h5 : (tmC q).length = 5 := rfl
    rw [List.getElem?_append_right (by rw [h5]; omega), h5, show (i + 1) * 5 + k - 5 = i * 5 + k by omega]
    exact this
theorem tmV_one (l : List TmD) : ∀ u ∈ tmV l, u.oneCell' = true := by
  intro u hu
  simp only [tmV, tmC, List.mem_flatMap, List.mem_cons, List.not_mem_nil, or_false] at hu
  obtain ⟨p, _, rfl | rfl | rfl | rfl | rfl⟩ := hu <;> rfl
def fndT (zs : List Int) (a tol : Int) (t : TmD) : Option (List Int × Nat × Int × Nat) := fnd zs a t.p t.s1 t.s2 t.z t.o tol
def fstL (zs : List Int) (a tol : Int) : List TmD → Option (TmD × List Int × Nat × Int × Nat)
  | [] => none
  | t :: l => match fndT zs a tol t with
    | some r => some (t, r)
    | none => fstL zs a tol l
theorem fstL_yes {zs : List Int} {a tol : Int} {t : TmD} {l : List TmD} {r : List Int × Nat × Int × Nat} (h : fndT zs a tol t = some r) : fstL zs a tol (t :: l) = some (t, r) := by unfold fstL; rw [h]
theorem fstL_no {zs : List Int} {a tol : Int} {t : TmD} {l : List TmD} (h : fndT zs a tol t = none) : fstL zs a tol (t :: l) = fstL zs a tol l := by rw [fstL, h]
theorem drop_consT {l : List TmD} {i : Nat} {t : TmD} (h : l[i]? = some t) : l.drop i = t :: l.drop (i + 1) := by
  obtain ⟨hi, e⟩ := List.getElem?_eq_some_iff.1 h
  rw [List.drop_eq_getElem_cons hi, e]
def tmB (t : TmD) (m : Nat) (pa : Int) (V : Value) : Array Value := blkV (stdB t.p t.s1 t.s2 t.z t.o) t.p t.s1 t.s2 t.z t.o m pa V
/-- the answer of the first timing that fits -/
def FirstO (w w' : World) (e : Ending) (zs : List Int) (a tol : Int) (l : List TmD) : Prop :=
  (fstL zs a tol l = none ∧ e = .returned (.tuple #[.agg blkZ, .int .i64 0, .bool false])) ∨
  ∃ (t : TmD) (d : List Int) (m : Nat) (pa : Int) (k : Nat) (V : Value), fstL zs a tol l = some (t, d, m, pa, k) ∧ e = .returned (.tuple #[.agg (tmB t m pa V), .int .i64 k, .bool true]) ∧ w'.ownsRow w.heap.size 5 1 V d.length (d.map (Value.int .u8)) ∧ isU8 d
theorem tmInfo7 : (Try.prog.info? 36).map (fun i => (i.zero, i.size, i.bytes)) = some (some (.agg #[.int .i64 0, .int .i64 0, .int .i64 0, .int .i64 0, .int .i64 0]), 5, 40) := by kernel_rfl
theorem own_new5 (w : World) : (w.alloc (.cells #[.int .i64 2168, .int .i64 667, .int .i64 735, .int .i64 855, .int .i64 1710] 36)).ownsRow w.heap.size 36 5 (.slice (some ⟨w.heap.size, 0, none⟩) 1 1) 1 (tmV [stdT]) := World.ownsRow_lit w #[.int .i64 2168, .int .i64 667, .int .i64 735, .int .i64 855, .int .i64 1710] 1 (Nat.le_refl _) (by decide) rfl

theorem load5 {w : World} {B n : Nat} {ad : Addr} {xs : List Value} (h : Reads w B 5 (some ad) n xs) {i : Nat} (hi : i < n) (cs : List Value) (hc : ∀ k u, cs[k]? = some u → xs[i * 5 + k]? = some u) : ∀ j v, cs[j]? = some v → w.cell? ((ad.add (i * 5)).add j) = some v := by
  obtain ⟨ad', e, hb, hcell⟩ := h.2 (by omega)
  injection e with e
  subst e
  intro j v hv
  rw [add_of_add]; exact hcell _ _ (hc j v hv)
theorem timInfoL (a b c d e : Value) : (Try.prog.info? 36).map (·.size) = some [a, b, c, d, e].length := timInfo
theorem blkZ_info : (Try.prog.info? 33).map (·.size) = some blkZ.size := blkInfo
theorem blkZ_one : blkZ.all (·.oneCell') = true := by simp [blkZ, Value.oneCell']
theorem tmB_size (t : TmD) (m : Nat) (pa : Int) (V : Value) : (tmB t m pa V).size = 18 := by unfold tmB blkV; split <;> rfl
theorem tmB_one (t : TmD) (m : Nat) (pa : Int) (A : Option Addr) (n c : Nat) : (tmB t m pa (.slice A n c)).all (·.oneCell') = true := by unfold tmB blkV; split <;> simp [Value.oneCell']
set_option maxRecDepth 100000 in
set_option maxHeartbeats 8000000 in
theorem first_any (w : World) (A L : Option Addr) (N c ln lc : Nat) (a tol : Int) (zs : List Int) (tms : List TmD) (hr : Reads w w.heap.size 1 A N (zs.map (Value.int .u32))) (hz : isU32 zs) (hN : N ≤ 5000) (hL : Reads w w.heap.size 5 L ln (tmV tms)) (hln : ln ≤ 100) :
    Calls Try.prog 29 #[.slice A N c, .int .i64 a, .int .i64 tol, .slice L ln lc] w fun e w' => Below w.heap.size w w' ∧ FirstO w w' e zs a tol (stdT :: tms) := by
  obtain ⟨i1, hj, hy0, hy1, hy2⟩ := info_parts tmInfo7
  have HR := Lib.hid (And.intro hr (And.intro hz (And.intro hL (show tms.length = ln by have := hL.1; rw [tmV_len] at this; omega))))
  clear hr hz hL
  go_enter Try.func29, Try.ntmps29
  go_upto_region 1 with fail
  have hs0 : (w.alloc (.cells #[.int .i64 0, .int .i64 0, .int .i64 0, .int .i64 0, .int .i64 0, .int .i64 0, .int .i64 0, .int .i64 0, .int .i64 0, .int .i64 0, .int .i64 0, .int .i64 0, .slice none 0 0, .slice none 0 0, .slice none 0 0, .slice none 0 0, .slice none 0 0, .slice none 0 0] 33)).heap.size = w.heap.size + 1 := by simp
  have hR0 : Blk (w.alloc (.cells #[.int .i64 0, .int .i64 0, .int .i64 0, .int .i64 0, .int .i64 0, .int .i64 0, .int .i64 0, .int .i64 0, .int .i64 0, .int .i64 0, .int .i64 0, .int .i64 0, .slice none 0 0, .slice none 0 0, .slice none 0 0, .slice none 0 0, .slice none 0 0, .slice none 0 0] 33)) w.heap.size 33 #[.int .i64 0, .int .i64 0, .int .i64 0, .int .i64 0, .int .i64 0, .int .i64 0, .int .i64 0, .int .i64 0, .int .i64 0, .int .i64 0, .int .i64 0, .int .i64 0, .slice none 0 0, .slice none 0 0, .slice none 0 0, .slice none 0 0, .slice none 0 0, .slice none 0 0] := Blk.new w _ _
  have hb0 : Below w.heap.size w (w.alloc (.cells #[.int .i64 0, .int .i64 0, .int .i64 0, .int .i64 0, .int .i64 0, .int .i64 0, .int .i64 0, .int .i64 0, .int .i64 0, .int .i64 0, .int .i64 0, .int .i64 0, .slice none 0 0, .slice none 0 0, .slice none 0 0, .slice none 0 0, .slice none 0 0, .slice none 0 0] 33)) := (Below.refl _ _).alloc (Nat.le_refl _) _
  generalize (w.alloc (.cells #[.int .i64 0, .int .i64 0, .int .i64 0, .int .i64 0, .int .i64 0, .int .i64 0, .int .i64 0, .int .i64 0, .int .i64 0, .int .i64 0, .int .i64 0, .int .i64 0, .slice none 0 0, .slice none 0 0, .slice none 0 0, .slice none 0 0, .slice none 0 0, .slice none 0 0] 33)) = w0 at *
  go_wp2_with fail
  refine (standard_any w0).mono ?_
  rintro e w1 ⟨rfl, hb1⟩
  have hs1 := hb1.size
  have hbw1 : Below w.heap.size w w1 := hb0.trans (hb1.mono (by omega))
  have hRA : Reads (w1.alloc (.cells #[.int .i64 2168, .int .i64 667, .int .i64 735, .int .i64 855, .int .i64 1710] 36)) w.heap.size 5 L ln (tmV tms) := HR.out.2.2.1.below (hbw1.alloc (by omega) _)
  have HC := Lib.hid (And.intro (own_new5 w1) (And.intro (hRA.more (show w.heap.size ≤ (w1.alloc (.cells #[.int .i64 2168, .int .i64 667, .int .i64 735, .int .i64 855, .int .i64 1710] 36)).heap.size by simp; omega)) (And.intro (tmV_one tms) (And.intro (show 1 + ln ≤ maxLen by unfold maxLen; omega) (And.intro (show (1 + ln) * 40 ≤ 140737488355328 by omega) (show w1.heap.size ≤ (w1.alloc (.cells #[.int .i64 2168, .int .i64 667, .int .i64 735, .int .i64 855, .int .i64 1710] 36)).heap.size by simp))))))
  have HM := Lib.hid (And.intro hs0 (And.intro (hR0.below hb1 (by omega)) hbw1))
  clear hs0 hR0 hb0 hb1 hs1 hbw1 hRA
  go_wp2_with (first
    | (at_builtin; refine wpList_append_any _ rfl _ _ 79 rfl w1.heap.size 36 i1 (.agg #[.int .i64 0, .int .i64 0, .int .i64 0, .int .i64 0, .int .i64 0]) 5 40 Try.underlying79 hj hy0 hy1 hy2 rfl (by decide) (.slice (some ⟨w1.heap.size, 0, none⟩) 1 1) 1 (tmV [stdT]) rfl HC.out.1 (w1.alloc (.cells #[.int .i64 2168, .int .i64 667, .int .i64 735, .int .i64 855, .int .i64 1710] 36)).heap.size L ln lc (tmV tms) rfl HC.out.2.1 HC.out.2.2.1 HC.out.2.2.2.1 HC.out.2.2.2.2.1 HC.out.2.2.2.2.2 ?_)
    | go_in)
  intro v' w2 hown hg hv
  obtain ⟨A', c', rfl⟩ := own_slice hown
  have hb2 : Below w.heap.size w w2 := (HM.out.2.2.alloc HM.out.2.2.size _).grown hg (by have := HM.out.2.2.size; simp; omega) (fun b hb => by have := (HC.out.1.lt b hb).1; have := HM.out.2.2.size; omega)
  have hR2 : Blk w2 w.heap.size 33 #[.int .i64 0, .int .i64 0, .int .i64 0, .int .i64 0, .int .i64 0, .int .i64 0, .int .i64 0, .int .i64 0, .int .i64 0, .int .i64 0, .int .i64 0, .int .i64 0, .slice none 0 0, .slice none 0 0, .slice none 0 0, .slice none 0 0, .slice none 0 0, .slice none 0 0] := (HM.out.2.1.alloc _).grown hg (fun e => by have := (HC.out.1.lt _ e.symm).1; have := HM.out.2.1.lt; omega)
  have hT2 : Reads w2 w2.heap.size 5 A' (1 + ln) (tmV (stdT :: tms)) := Reads.of_own hown
  have H2 := Lib.hid (And.intro hb2 (And.intro hR2 hT2))
  clear hb2 hR2 hT2 hown hg hv HC HM
  go_wp2_with fail
  go_loopw [21] (fun x wr => ∃ j : Nat, j ≤ 1 + ln ∧ x = .int .i64 j ∧ fstL zs a tol (stdT :: tms) = fstL zs a tol ((stdT :: tms).drop j) ∧ Below w2.heap.size w2 wr) (fun x _ => 1 + ln - (intOf x).toNat)
  case atStart => exact ⟨0, by omega, rfl, rfl, Below.refl _ _⟩
  case round =>
    obtain ⟨j, hjn, rfl, hfl, hbl⟩ := hrel
    have hj0 : (0 : Int) ≤ (j : Int) := Int.natCast_nonneg _
    have hsz := hbl.size
    have hRx : Blk wr w.heap.size 33 #[.int .i64 0, .int .i64 0, .int .i64 0, .int .i64 0, .int .i64 0, .int .i64 0, .int .i64 0, .int .i64 0, .int .i64 0, .int .i64 0, .int .i64 0, .int .i64 0, .slice none 0 0, .slice none 0 0, .slice none 0 0, .slice none 0 0, .slice none 0 0, .slice none 0 0] := H2.out.2.1.below hbl H2.out.2.1.lt
    have HF := Lib.hid hfl
    have HBL := Lib.hid hbl
    by_cases hlt : j < 1 + ln
    · have hwj : IntKind.i64.wrap ((j : Int) + 1) = (j : Int) + 1 := by rw [IntKind.wrap_i64]; omega
      have hjI : (j : Int) < 1 + (ln : Int) := by omega
      obtain ⟨t, ht⟩ := idx_some (l := stdT :: tms) (i := j) (by rw [List.length_cons, HR.out.2.2.2]; omega)
      have hdr := drop_consT ht
      rw [hdr] at hfl
      have HFT := Lib.hid hfl
      have hTr := H2.out.2.2.below hbl
      obtain ⟨ad, rfl, _⟩ := hTr.2 (by omega)
      have hl5 := load5 hTr hlt (tmC t) (tmV_at ht)
      obtain ⟨p, s1, s2, z, o⟩ := t
      have X0 := Lib.hid (show ∀ j_1 v, [Value.int .i64 p, Value.int .i64 s1, Value.int .i64 s2, Value.int .i64 z, Value.int .i64 o][j_1]? = some v → wr.cell? ((ad.add (j * 5)).add j_1) = some v from hl5)
      have HRX := Lib.hid hRx
      clear hfl hTr hl5 hdr ht hbl hRx
      go_wp2_with (first
        | (refine wpList_load_at rfl 36 _ rfl (ad.add (j * 5)) rfl [.int .i64 p, .int .i64 s1, .int .i64 s2, .int .i64 z, .int .i64 o] X0.out _ Try.underlying36 rfl (timInfoL _ _ _ _ _) ?_)
        | (refine wpList_store_box rfl 36 _ _ rfl (wr.heap.size) #[.int .i64 p, .int .i64 s1, .int .i64 s2, .int .i64 z, .int .i64 o] rfl rfl 36 #[.int .i64 0, .int .i64 0, .int .i64 0, .int .i64 0, .int .i64 0] (Blk.new wr _ _) timInfo rfl (by simp [Value.oneCell']) ?_)
        | fail)
      intro w3 hB3 hg3
      have hb3 : Below w2.heap.size w2 w3 := (HBL.out.alloc hsz _).grown hg3 (by simp; omega) (fun b hb => by injection hb with hb; omega)
      have hbw3 : Below w.heap.size w w3 := H2.out.1.trans (hb3.mono H2.out.1.size)
      have hfd := find_any w3 A N c zs a p s1 s2 z o tol ((HR.out.1.below hbw3).more hbw3.size) HR.out.2.1 hN
      have H3 := Lib.hid (And.intro hb3 hbw3)
      clear hg3 hb3 hbw3
      go_wp2_with (first
        | (refine wpList_load_box rfl 36 _ rfl (wr.heap.size) rfl 36 #[.int .i64 p, .int .i64 s1, .int .i64 s2, .int .i64 z, .int .i64 o] hB3 _ Try.underlying36 rfl timInfo ?_)
        | fail)
      try (refine fun (_ : Hid _) => ?_)
      clear hB3
      go_wp2_with fail
      refine hfd.mono ?_
      rintro e w4 ⟨hb4, hF⟩
      clear hfd
      have hb4w : Below w2.heap.size w2 w4 := H3.out.1.trans (hb4.mono H3.out.1.size)
      have hbw4 : Below w.heap.size w w4 := H3.out.2.trans (hb4.mono H3.out.2.size)
      have hR4 : Blk w4 w.heap.size 33 #[.int .i64 0, .int .i64 0, .int .i64 0, .int .i64 0, .int .i64 0, .int .i64 0, .int .i64 0, .int .i64 0, .int .i64 0, .int .i64 0, .int .i64 0, .int .i64 0, .slice none 0 0, .slice none 0 0, .slice none 0 0, .slice none 0 0, .slice none 0 0, .slice none 0 0] := H2.out.2.1.below hb4w H2.out.2.1.lt
      have hw3 := H3.out.2.size
      rcases hF with ⟨hn, rfl⟩ | ⟨d, m, pa, k, V, hs, rfl, hown, hu8⟩
      · have HN := Lib.hid (fstL_no (l := (stdT :: tms).drop (j + 1)) (show fndT zs a tol ⟨p, s1, s2, z, o⟩ = none from hn))
        have H4 := Lib.hid (And.intro hb4w hR4)
        clear hn hb4w hbw4 hR4 hb4
        go_wp2_with (first
          | (refine wpList_store_box rfl 33 _ _ rfl (w4.heap.size) blkZ rfl rfl 33 #[.int .i64 0, .int .i64 0, .int .i64 0, .int .i64 0, .int .i64 0, .int .i64 0, .int .i64 0, .int .i64 0, .int .i64 0, .int .i64 0, .int .i64 0, .int .i64 0, .slice none 0 0, .slice none 0 0, .slice none 0 0, .slice none 0 0, .slice none 0 0, .slice none 0 0] (Blk.new w4 _ _) blkZ_info rfl blkZ_one ?_)
          | fail)
        intro w5 hB5 hg5
        have hb5 : Below w2.heap.size w2 w5 := (H4.out.1.alloc H4.out.1.size _).grown hg5 (by have := H4.out.1.size; simp; omega) (fun b hb => by injection hb with hb; have := H4.out.1.size; omega)
        have H5 := Lib.hid hb5
        clear hB5 hg5 hb5
        go_wp2
        go_roundw
        case rel => exact ⟨j + 1, by omega, by go_num, by rw [HFT.out]; exact HN.out, H5.out⟩
        case measure => simp [intOf]; omega
      · obtain ⟨VA, vc, rfl⟩ := own_slice hown
        have HN := Lib.hid (fstL_yes (l := (stdT :: tms).drop (j + 1)) (show fndT zs a tol ⟨p, s1, s2, z, o⟩ = some (d, m, pa, k) from hs))
        have hsz9 : (18 : Nat) = (tmB ⟨p, s1, s2, z, o⟩ m pa (.slice VA d.length vc)).size := (tmB_size _ _ _ _).symm
        have hon9 := tmB_one ⟨p, s1, s2, z, o⟩ m pa VA d.length vc
        rw [show blkV (stdB p s1 s2 z o) p s1 s2 z o m pa (.slice VA d.length vc) = tmB ⟨p, s1, s2, z, o⟩ m pa (.slice VA d.length vc) from rfl]
        obtain ⟨CB, hCB⟩ : ∃ CB, CB = tmB ⟨p, s1, s2, z, o⟩ m pa (.slice VA d.length vc) := ⟨_, rfl⟩
        rw [← hCB] at hsz9 hon9 ⊢
        have hci : (Try.prog.info? 33).map (·.size) = some CB.size := by rw [← hsz9]; exact blkInfo
        have HCB := Lib.hid (And.intro hCB (And.intro hci (And.intro hsz9 hon9)))
        have H4 := Lib.hid (And.intro hbw4 (And.intro hown (And.intro hu8 (And.intro hR4 hb4.size))))
        clear hs hCB hci hsz9 hon9 hbw4 hown hu8 hR4 hb4 hb4w
        go_wp2_with (first
          | (refine wpList_store_box rfl 33 _ _ rfl (w4.heap.size) CB rfl rfl 33 #[.int .i64 0, .int .i64 0, .int .i64 0, .int .i64 0, .int .i64 0, .int .i64 0, .int .i64 0, .int .i64 0, .int .i64 0, .int .i64 0, .int .i64 0, .int .i64 0, .slice none 0 0, .slice none 0 0, .slice none 0 0, .slice none 0 0, .slice none 0 0, .slice none 0 0] ?hb ?h1 ?h2 ?h3 ?_)
          | fail)
        case h1 => exact HCB.out.2.1
        case h2 => exact HCB.out.2.2.1
        case h3 => exact HCB.out.2.2.2
        case hb => exact (Blk.new w4 _ _)
        intro w5 hB5 hg5
        have hs4 := H4.out.1.size
        have hb5 : Below w.heap.size w w5 := (H4.out.1.alloc hs4 _).grown hg5 (by simp; omega) (fun b hb => by injection hb with hb; omega)
        have hR5 : Blk w5 w.heap.size 33 #[.int .i64 0, .int .i64 0, .int .i64 0, .int .i64 0, .int .i64 0, .int .i64 0, .int .i64 0, .int .i64 0, .int .i64 0, .int .i64 0, .int .i64 0, .int .i64 0, .slice none 0 0, .slice none 0 0, .slice none 0 0, .slice none 0 0, .slice none 0 0, .slice none 0 0] := (H4.out.2.2.2.1.alloc _).grown hg5 (fun e => by injection e with e; have := H4.out.2.2.2.1.lt; omega)
        have hown5 := (H4.out.2.1.alloc _).kept hg5 (.inr (fun e => by have := (H4.out.2.1.lt _ e).2; omega))
        have H5 := Lib.hid (And.intro hb5 hown5)
        clear hg5 hb5 hown5
        go_wp2_with (first
          | (refine wpList_load_box rfl 33 _ rfl (w4.heap.size) rfl 33 CB hB5 _ Try.underlying33 rfl HCB.out.2.1 (fun (_ : Hid _) => ?_))
          | (refine wpList_store_box rfl 33 _ _ rfl (w.heap.size) CB rfl rfl 33 #[.int .i64 0, .int .i64 0, .int .i64 0, .int .i64 0, .int .i64 0, .int .i64 0, .int .i64 0, .int .i64 0, .int .i64 0, .int .i64 0, .int .i64 0, .int .i64 0, .slice none 0 0, .slice none 0 0, .slice none 0 0, .slice none 0 0, .slice none 0 0, .slice none 0 0] ?hb ?h1 ?h2 ?h3 ?_)
          | fail)
        case h1 => exact HCB.out.2.1
        case h2 => exact HCB.out.2.2.1
        case h3 => exact HCB.out.2.2.2
        case hb => exact hR5
        intro w6 hB6 hg6
        have H6 := Lib.hid hg6
        clear hB5 hR5 hg6
        go_wp2_with fail
        refine bodyPost_ret (results_cell3 rfl _ _ w.heap.size 33 _ (0, 0) _ rfl hB6 Try.underlying33 rfl HCB.out.2.1) rfl ?_
        refine ⟨H5.out.1.grown H6.out H5.out.1.size (fun b hb => by injection hb with hb; omega), .inr ⟨⟨p, s1, s2, z, o⟩, d, m, pa, k, _, by rw [HFT.out]; exact HN.out, by rw [← HCB.out.1]; rfl, ?_, H4.out.2.2.1⟩⟩
        exact ownsRow_le' (H5.out.2.kept H6.out (.inr (fun e => by have := (H5.out.2.lt _ e).1; have := H3.out.1.size; have := H2.out.2.1.lt; omega))) H3.out.2.size
    · obtain rfl : j = 1 + ln := by omega
      have hdn : (stdT :: tms).drop (1 + ln) = [] := List.drop_eq_nil_of_le (by rw [List.length_cons, HR.out.2.2.2]; omega)
      rw [hdn] at hfl
      have HFN := Lib.hid hfl
      clear hfl hbl
      have hlt' : ¬ (1 + ln) < 1 + ln := by omega
      go_wp2_with (first
        | (refine wpList_store_box rfl 33 _ _ rfl (w.heap.size) #[.int .i64 0, .int .i64 0, .int .i64 0, .int .i64 0, .int .i64 0, .int .i64 0, .int .i64 0, .int .i64 0, .int .i64 0, .int .i64 0, .int .i64 0, .int .i64 0, .slice none 0 0, .slice none 0 0, .slice none 0 0, .slice none 0 0, .slice none 0 0, .slice none 0 0] rfl rfl 33 #[.int .i64 0, .int .i64 0, .int .i64 0, .int .i64 0, .int .i64 0, .int .i64 0, .int .i64 0, .int .i64 0, .int .i64 0, .int .i64 0, .int .i64 0, .int .i64 0, .slice none 0 0, .slice none 0 0, .slice none 0 0, .slice none 0 0, .slice none 0 0, .slice none 0 0] hRx blkZ_info rfl blkZ_one ?_)
        | fail)
      intro w5 hB5 hg5
      have H5 := Lib.hid ((H2.out.1.trans (HBL.out.mono H2.out.1.size)).grown hg5 (by have := H2.out.1.size; omega) (fun b hb => by injection hb with hb; omega))
      clear hRx hg5
      go_wp2_with fail
      refine bodyPost_ret (results_cell3 rfl _ _ w.heap.size 33 _ (0, 0) _ rfl hB5 Try.underlying33 rfl blkZ_info) rfl ?_
      exact ⟨H5.out, .inl ⟨HFN.out, rfl⟩⟩
end Go.Proofs.Ytckgmnlmimogjaa
