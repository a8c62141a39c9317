/- The law NormTidies of squeallaw27: the walk: for every input it returns true and writes nothing that was there; no condition. -/
import Derived.Test.YtckgmnlmimogjaaNt4
namespace Go.Proofs.Ytckgmnlmimogjaa
open Go.RowKit

theorem nrm_len {zs : List Int} {tol : Int} {tms : List TmD} {lv : Bool} : ∀ (f fr at_ : Nat) (dl : List BD), dl.length ≤ 4096 → (nrmS zs tol tms lv f fr at_ dl).2.length ≤ 4096
  | 0, fr, at_, dl, h => h
  | f + 1, fr, at_, dl, h => by
    have h1 := restD_len (zs := zs) (lv := lv) (a := fr) (b := zs.length) h
    have h2 := restD_len (zs := zs) (lv := lv) (a := fr) (b := at_) h
    by_cases hlt : at_ < zs.length
    · cases hf : fstL zs at_ tol (stdT :: tms) with
      | none => rw [nrm_no hlt hf]; exact nrm_len f fr (at_ + 1) dl h
      | some r =>
        obtain ⟨t, d, m, pa, k⟩ := r
        rw [nrm_some hlt hf]
        split
        · simp
        · split
          · simp
          · exact nrm_len f _ _ _ (by rw [List.length_append]; simp; omega)
    · rw [nrm_end hlt]
      split
      · simp
      · exact h1
/-- a tape in a box, and its blocks -/
def TapeAt (w : World) (g : Nat) (a b : Int) (A : Option Addr) (L : List BD) (c : Nat) : Prop :=
  Blk w g 45 #[.int .i64 a, .int .i64 b, .slice A L.length c] ∧ ∃ xs, Reads w w.heap.size 18 A L.length xs ∧ BlksAt w (· < w.heap.size) L xs
theorem TapeAt.below {w w' : World} {g : Nat} {a b : Int} {A : Option Addr} {L : List BD} {c : Nat} (h : TapeAt w g a b A L c) (hb : Below w.heap.size w w') : TapeAt w' g a b A L c := by
  obtain ⟨hB, xs, hr, hk⟩ := h
  have hs := hb.size
  exact ⟨hB.below hb hB.lt, xs, (hr.below hb).more hs, BlksAt.keep (fun b hp => hb.block b hp) (fun b (hp : b < w.heap.size) => (by omega : b < w'.heap.size)) hk⟩
theorem TapeAt.new {w w' : World} {a b : Int} {A : Option Addr} {L : List BD} {m c : Nat} {xs : List Value} (hr : RdP w' (fun b => w.heap.size ≤ b ∧ b < w'.heap.size) 18 A m xs) (hk : BlksAt w' (fun b => w.heap.size ≤ b ∧ b < w'.heap.size) L xs) :
    m = L.length ∧ TapeAt (w'.alloc (.cells #[.int .i64 a, .int .i64 b, .slice A L.length c] 45)) w'.heap.size a b A L c := by
  have hm := blks_len hr hk
  subst hm
  have hb : Below w'.heap.size w' (w'.alloc (.cells #[.int .i64 a, .int .i64 b, .slice A L.length c] 45)) := (Below.refl _ _).alloc (Nat.le_refl _) _
  refine ⟨rfl, Blk.new w' _ _, xs, ((hr.reads (B := w'.heap.size) (fun b hp => hp.2)).below hb).more hb.size, BlksAt.keep (fun b hp => hb.block b hp.2) (fun b hp => (by have := hp.2; have := hb.size; show b < _; omega)) hk⟩

set_option maxRecDepth 100000 in
set_option maxHeartbeats 8000000 in
theorem normTidies_walk (A : Option Addr) (n c : Nat) (zs : List Int) (tol p s1 s2 z o : Int) (w : World) (w0 : IsRow .u32 w A n c zs) :
    Calls Try.prog 4 #[.slice A n c, .int .i64 tol, .agg #[.int .i64 p, .int .i64 s1, .int .i64 s2, .int .i64 z, .int .i64 o]] w fun e w' => e = .returned (.bool true) ∧ Below w.heap.size w w' := by
  obtain ⟨hr, hz, hnc, hc⟩ := row_u32 w0
  clear w0
  generalize zs.take n = ys at *
  clear zs
  have hbT : Below w.heap.size w (w.alloc (.cells #[.int .i64 p, .int .i64 s1, .int .i64 s2, .int .i64 z, .int .i64 o] 25)) := (Below.refl _ _).alloc (Nat.le_refl _) _
  have hBT : Blk (w.alloc (.cells #[.int .i64 p, .int .i64 s1, .int .i64 s2, .int .i64 z, .int .i64 o] 25)) w.heap.size 25 #[.int .i64 p, .int .i64 s1, .int .i64 s2, .int .i64 z, .int .i64 o] := Blk.new w _ _
  by_cases hn : (3000 : Int) < (n : Int)
  · clear hr hz hBT
    have H0 := Lib.hid hbT
    clear hbT
    go_enter Try.func4, Try.ntmps4
    go_wp2_with fail
    refine (lives27 _).mono ?_
    rintro e w9 ⟨rfl, hb9⟩
    have H9 := Lib.hid (bthen H0.out hb9)
    clear hb9
    go_wp2
    go_ret
    exact ⟨rfl, H9.out⟩
  · have hl := reads_len hr
    have HR := Lib.hid (And.intro hr (And.intro hz hl))
    have HN := Lib.hid (show ∀ (wx : World) (lv : Bool) (L : Option Addr) (ln lc : Nat) (tms : List TmD), Below w.heap.size w wx → Reads wx wx.heap.size 5 L ln (tmV tms) → ln ≤ 100 → Calls Try.prog 14 #[.bool lv, .slice A n c, .int .i64 tol, .slice L ln lc] wx fun e w' => TapeO wx w' e (nrmS ys tol tms lv (ys.length + 1) 0 0 []) from
      fun wx lv L ln lc tms hb hL h100 => normal_any wx lv A L n c ln lc tol ys tms ((hr.below hb).more hb.size) hz (by omega) hnc hL h100)
    have HM := Lib.hid (show ∀ (wx : World) (lv : Bool) (L : Option Addr) (ln lc : Nat) (tms : List TmD), Below w.heap.size w wx → Reads wx wx.heap.size 5 L ln (tmV tms) → ln ≤ 100 → Calls Try.prog 15 #[.bool lv, .slice A n c, .int .i64 tol, .slice L ln lc] wx fun e w' => TapeO wx w' e (nrmS ys tol tms lv (ys.length + 1) 0 0 []) from
      fun wx lv L ln lc tms hb hL h100 => normalR_any wx lv A L n c ln lc tol ys tms ((hr.below hb).more hb.size) hz (by omega) hnc hL h100)
    have HL1 := nrm_len (zs := ys) (tol := tol) (tms := [⟨p, s1, s2, z, o⟩]) (lv := false) (ys.length + 1) 0 0 [] (by simp)
    have HL2 := nrm_len (zs := ys) (tol := tol) (tms := []) (lv := true) (ys.length + 1) 0 0 [] (by simp)
    clear hr hz hl
    have H0 := Lib.hid hbT
    have HB0 := Lib.hid hBT
    clear hbT hBT
    go_enter Try.func4, Try.ntmps4
    go_upto_region 1 with fail
    generalize (w.alloc (.cells #[.int .i64 p, .int .i64 s1, .int .i64 s2, .int .i64 z, .int .i64 o] 25)) = w0 at *
    have hBT := HB0.out
    go_wp2_with (first
      | (refine wpList_load_box rfl 25 _ rfl (w.heap.size) rfl 25 #[.int .i64 p, .int .i64 s1, .int .i64 s2, .int .i64 z, .int .i64 o] hBT _ Try.underlying25 rfl timInfo2 (fun (_ : Hid _) => ?_))
      | fail)
    refine (ours_any w0 p s1 s2 z o).mono ?_
    rintro e w1 ⟨rfl, hb1⟩
    have hbw1 := bthen H0.out hb1
    have hBT1 := hBT.below hb1 hBT.lt
    have hc1 : Reads (w1.alloc (.cells #[.int .i64 p, .int .i64 s1, .int .i64 s2, .int .i64 z, .int .i64 o] 36)) (w1.heap.size + 1) 5 (some ⟨w1.heap.size, 0, none⟩) 1 (tmV [⟨p, s1, s2, z, o⟩]) := ⟨rfl, fun _ => ⟨_, rfl, by show w1.heap.size < w1.heap.size + 1; omega, lit_cells w1 [.int .i64 p, .int .i64 s1, .int .i64 s2, .int .i64 z, .int .i64 o] 36⟩⟩
    have hca := HN.out (w1.alloc (.cells #[.int .i64 p, .int .i64 s1, .int .i64 s2, .int .i64 z, .int .i64 o] 36)) false (some ⟨w1.heap.size, 0, none⟩) 1 1 [⟨p, s1, s2, z, o⟩] (hbw1.alloc hbw1.size _) (hc1.more (by simp)) (by omega)
    have H1 := Lib.hid (And.intro (hbw1.alloc hbw1.size (.cells #[.int .i64 p, .int .i64 s1, .int .i64 s2, .int .i64 z, .int .i64 o] 36)) (hBT1.alloc (.cells #[.int .i64 p, .int .i64 s1, .int .i64 s2, .int .i64 z, .int .i64 o] 36)))
    clear hb1 hbw1 hBT1 hc1 hBT
    obtain ⟨R1, hR1⟩ : ∃ R, R = nrmS ys tol [⟨p, s1, s2, z, o⟩] false (ys.length + 1) 0 0 [] := ⟨_, rfl⟩
    obtain ⟨R2, hR2⟩ : ∃ R, R = nrmS ys tol [] true (ys.length + 1) 0 0 [] := ⟨_, rfl⟩
    have HN2 := Lib.hid (fun (wx : World) (hb : Below w.heap.size w wx) => HN.out wx true none 0 0 [] hb Reads.none_ (by omega))
    have HM1 := Lib.hid (fun (wx : World) (L : Option Addr) (hb : Below w.heap.size w wx) (hL : Reads wx wx.heap.size 5 L 1 (tmV [⟨p, s1, s2, z, o⟩])) => HM.out wx false L 1 1 [⟨p, s1, s2, z, o⟩] hb hL (by omega))
    have HM2 := Lib.hid (fun (wx : World) (hb : Below w.heap.size w wx) => HM.out wx true none 0 0 [] hb Reads.none_ (by omega))
    rw [← hR1] at hca HM1 HL1
    rw [← hR2] at HN2 HM2 HL2
    clear hR1 hR2 HN HM
    obtain ⟨E1, L1⟩ := R1
    obtain ⟨E2, L2⟩ := R2
    simp only at HL1 HL2
    unfold TapeO at hca HM1 HN2 HM2
    simp only at hca HM1 HN2 HM2
    generalize (if E1 = 0 then (1 : Int) else 0) = a1 at *
    generalize (if E1 = 0 then (20 : Int) else 0) = b1 at *
    generalize (if E2 = 0 then (1 : Int) else 0) = a2 at *
    generalize (if E2 = 0 then (20 : Int) else 0) = b2 at *
    go_wp2_with fail
    refine hca.mono ?_
    rintro e w2 ⟨X1, m1, c1, xs1, rfl, hr1, hk1, hb2⟩
    clear hca
    obtain ⟨rfl, hT1⟩ := TapeAt.new (a := a1) (b := b1) (c := c1) hr1 hk1
    have hbw := bthen H1.out.1 hb2
    have H2 := Lib.hid (And.intro (hbw.alloc hbw.size (.cells #[.int .i64 a1, .int .i64 b1, .slice X1 L1.length c1] 45)) (And.intro ((H1.out.2.below hb2 H1.out.2.lt).alloc (.cells #[.int .i64 a1, .int .i64 b1, .slice X1 L1.length c1] 45)) hT1))
    have hcb := HN2.out _ H2.out.1
    clear hr1 hk1 hb2 hT1 hbw
    go_wp2_with fail
    refine hcb.mono ?_
    rintro e w3 ⟨X2, m2, c2, xs2, rfl, hr2, hk2, hb3⟩
    clear hcb
    obtain ⟨rfl, hT2⟩ := TapeAt.new (a := a2) (b := b2) (c := c2) hr2 hk2
    have hbw := bthen H2.out.1 hb3
    have hal : Below w3.heap.size w3 (w3.alloc (.cells #[.int .i64 a2, .int .i64 b2, .slice X2 L2.length c2] 45)) := (Below.refl _ _).alloc (Nat.le_refl _) _
    have H3 := Lib.hid (And.intro (bthen hbw hal) (And.intro ((H2.out.2.1.below hb3 H2.out.2.1.lt).alloc (.cells #[.int .i64 a2, .int .i64 b2, .slice X2 L2.length c2] 45)) (And.intro ((H2.out.2.2.below hb3).below hal) hT2)))
    clear hr2 hk2 hb3 hT2 hbw hal
    go_upto_region 5 with fail
    generalize (w3.alloc (.cells #[.int .i64 a2, .int .i64 b2, .slice X2 L2.length c2] 45)) = w3a at *
    have hBT := H3.out.2.1
    have hc1 : Reads (w3a.alloc (.cells #[.int .i64 p, .int .i64 s1, .int .i64 s2, .int .i64 z, .int .i64 o] 25)) (w3a.heap.size + 1) 5 (some ⟨w3a.heap.size, 0, none⟩) 1 (tmV [⟨p, s1, s2, z, o⟩]) := ⟨rfl, fun _ => ⟨_, rfl, by show w3a.heap.size < w3a.heap.size + 1; omega, lit_cells w3a [.int .i64 p, .int .i64 s1, .int .i64 s2, .int .i64 z, .int .i64 o] 25⟩⟩
    have hal : Below w3a.heap.size w3a (w3a.alloc (.cells #[.int .i64 p, .int .i64 s1, .int .i64 s2, .int .i64 z, .int .i64 o] 25)) := (Below.refl _ _).alloc (Nat.le_refl _) _
    have hcc := HM1.out (w3a.alloc (.cells #[.int .i64 p, .int .i64 s1, .int .i64 s2, .int .i64 z, .int .i64 o] 25)) (some ⟨w3a.heap.size, 0, none⟩) (bthen H3.out.1 hal) (hc1.more (by simp))
    have H4 := Lib.hid (And.intro (bthen H3.out.1 hal) (And.intro (H3.out.2.2.1.below hal) (H3.out.2.2.2.below hal)))
    clear hc1 hal
    go_wp2_with (first
      | (refine wpList_load_box rfl 25 _ rfl (w.heap.size) rfl 25 #[.int .i64 p, .int .i64 s1, .int .i64 s2, .int .i64 z, .int .i64 o] hBT _ Try.underlying25 rfl timInfo2 (fun (_ : Hid _) => ?_))
      | fail)
    refine hcc.mono ?_
    rintro e w4 ⟨X3, m3, c3, xs3, rfl, hr3, hk3, hb4⟩
    clear hcc hBT
    obtain ⟨rfl, hT3⟩ := TapeAt.new (a := a1) (b := b1) (c := c3) hr3 hk3
    have hal : Below w4.heap.size w4 (w4.alloc (.cells #[.int .i64 a1, .int .i64 b1, .slice X3 L1.length c3] 45)) := (Below.refl _ _).alloc (Nat.le_refl _) _
    have H5 := Lib.hid (And.intro (bthen (bthen H4.out.1 hb4) hal) (And.intro ((H4.out.2.1.below hb4).below hal) (And.intro ((H4.out.2.2.below hb4).below hal) hT3)))
    clear hr3 hk3 hb4 hT3 hal
    have hcd := HM2.out _ H5.out.1
    go_wp2_with fail
    refine hcd.mono ?_
    rintro e w5 ⟨X4, m4, c4, xs4, rfl, hr4, hk4, hb5⟩
    clear hcd
    obtain ⟨rfl, hT4⟩ := TapeAt.new (a := a2) (b := b2) (c := c4) hr4 hk4
    have hal : Below w5.heap.size w5 (w5.alloc (.cells #[.int .i64 a2, .int .i64 b2, .slice X4 L2.length c4] 45)) := (Below.refl _ _).alloc (Nat.le_refl _) _
    have H6 := Lib.hid (And.intro (bthen (bthen H5.out.1 hb5) hal) (And.intro ((H5.out.2.1.below hb5).below hal) (And.intro ((H5.out.2.2.1.below hb5).below hal) (And.intro ((H5.out.2.2.2.below hb5).below hal) hT4))))
    clear hr4 hk4 hb5 hT4 hal
    go_upto_region 7 with fail
    generalize (w5.alloc (.cells #[.int .i64 a2, .int .i64 b2, .slice X4 L2.length c4] 45)) = w6 at *
    obtain ⟨hbw6, ⟨q1, xs1, r1, k1⟩, ⟨q2, xs2, r2, k2⟩, ⟨q3, xs3, r3, k3⟩, ⟨q4, xs4, r4, k4⟩⟩ := H6.out
    have hst := sameTape_gen w6 L1.length c1 c3 X1 X3 xs1 xs3 L1 a1 b1 r1 r3 k1 k3 (by omega)
    have HQ := Lib.hid (And.intro q1 q3)
    clear hbw6 q1 r1 k1 q2 r2 k2 q3 r3 k3 q4 r4 k4
    go_wp2_with (first
      | (refine wpList_load_box rfl 45 _ rfl w2.heap.size rfl 45 #[.int .i64 a1, .int .i64 b1, .slice X1 L1.length c1] HQ.out.1 _ Try.underlying45 rfl tape3Info (fun (_ : Hid _) => ?_))
      | (refine wpList_load_box rfl 45 _ rfl w4.heap.size rfl 45 #[.int .i64 a1, .int .i64 b1, .slice X3 L1.length c3] HQ.out.2 _ Try.underlying45 rfl tape3Info (fun (_ : Hid _) => ?_))
      | fail)
    refine hst.mono ?_
    rintro e w7 ⟨rfl, hb7⟩
    clear hst
    have hbw7 := bthen H6.out.1 hb7
    obtain ⟨q2, xs2, r2, k2⟩ := H6.out.2.2.1.below hb7
    obtain ⟨q4, xs4, r4, k4⟩ := H6.out.2.2.2.2.below hb7
    have hst := sameTape_gen w7 L2.length c2 c4 X2 X4 xs2 xs4 L2 a2 b2 r2 r4 k2 k4 (by omega)
    have HQ2 := Lib.hid (And.intro q2 q4)
    have H7 := Lib.hid hbw7
    clear hb7 hbw7 q2 r2 k2 q4 r4 k4
    go_wp2_with (first
      | (refine wpList_load_boxg rfl 45 _ rfl w3.heap.size rfl 45 #[.int .i64 a2, .int .i64 b2, .slice X2 L2.length c2] HQ2.out.1 _ Try.underlying45 rfl tape3Info (fun (_ : Hid _) => ?_))
      | (refine wpList_load_boxg rfl 45 _ rfl w5.heap.size rfl 45 #[.int .i64 a2, .int .i64 b2, .slice X4 L2.length c4] HQ2.out.2 _ Try.underlying45 rfl tape3Info (fun (_ : Hid _) => ?_))
      | fail)
    refine hst.mono ?_
    rintro e w8 ⟨rfl, hb8⟩
    clear hst
    have H8 := Lib.hid (bthen H7.out hb8)
    clear hb8
    go_wp2_with fail
    refine (lives27 _).mono ?_
    rintro e w9 ⟨rfl, hb9⟩
    have H9 := Lib.hid (bthen H8.out hb9)
    clear hb9
    go_wp2
    go_ret
    exact ⟨rfl, H9.out⟩
end Go.Proofs.Ytckgmnlmimogjaa
