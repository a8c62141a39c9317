/- Layer 27: contract of the document's tidy tape. -/
import Derived.Test.YtckgmnlmimogjaaNt3
import Derived.Test.YtckgmnlmimogjaaNorm7f
namespace Go.Proofs.Ytckgmnlmimogjaa
open Go.RowKit

theorem tmInfoR : (Try.prog.info? 25).map (fun i => (i.zero, i.size, i.bytes)) = some (some (.agg #[.int .i64 0, .int .i64 0, .int .i64 0, .int .i64 0, .int .i64 0]), 5, 40) := by kernel_rfl
theorem timInfoRL (a b c d e : Value) : (Try.prog.info? 25).map (·.size) = some [a, b, c, d, e].length := timInfo2
theorem std_cells (w : World) : Reads (w.alloc (.cells #[.int .i64 2168, .int .i64 667, .int .i64 735, .int .i64 855, .int .i64 1710] 25)) (w.heap.size + 1) 5 (some ⟨w.heap.size, 0, none⟩) 1 (tmV [stdT]) := ⟨rfl, fun _ => ⟨_, rfl, by show w.heap.size < w.heap.size + 1; omega, lit_cells w [.int .i64 2168, .int .i64 667, .int .i64 735, .int .i64 855, .int .i64 1710] 25⟩⟩
theorem own_mono {w : World} {base base' : Nat} {e : TypeId} {size n : Nat} {v : Value} {xs : List Value} (h : w.ownsRow base e size v n xs) (hb : base' ≤ base) : w.ownsRow base' e size v n xs := by
  refine ⟨h.1, ?_⟩
  rcases h.2 with hn | ⟨g, cap, cur, rfl, hg, hr⟩
  · exact .inl hn
  · exact .inr ⟨g, cap, cur, rfl, Nat.le_trans hb hg, hr⟩
def SearchR (wo : World) (zs : List Int) (at_ : Nat) (tol : Int) (all : List TmD) (ln1 : Nat) (n i : Value) (wx : World) : Prop :=
  ∃ j : Nat, j ≤ ln1 ∧ i = .int .i64 j ∧ Below wo.heap.size wo wx ∧
    ((n = .int .i64 0 ∧ fstL zs at_ tol all = fstL zs at_ tol (all.drop j) ∧ Blk wx wo.heap.size 33 #[.int .i64 0, .int .i64 0, .int .i64 0, .int .i64 0, .int .i64 0, .int .i64 0, .int .i64 0, .int .i64 0, .int .i64 0, .int .i64 0, .int .i64 0, .int .i64 0, .slice none 0 0, .slice none 0 0, .slice none 0 0, .slice none 0 0, .slice none 0 0, .slice none 0 0]) ∨
      ∃ (t : TmD) (d : List Int) (m : Nat) (pa : Int) (k : Nat) (VA : Option Addr) (dn vc : Nat) (D : BD), n = .int .i64 k ∧ fstL zs at_ tol all = some (t, d, m, pa, k) ∧ D = fndD t d m pa ∧ dn = d.length ∧ Blk wx wo.heap.size 33 #[.int .i64 D.i0, .int .i64 D.i1, .int .i64 D.i2, .int .i64 D.i3, .int .i64 D.i4, .int .i64 D.i5, .int .i64 D.i6, .int .i64 D.i7, .int .i64 D.i8, .int .i64 D.i9, .int .i64 D.i10, .int .i64 D.i11, .slice VA dn vc, .slice none 0 0, .slice none 0 0, .slice none 0 0, .slice none 0 0, .slice none 0 0] ∧ wx.ownsRow wo.heap.size 5 1 (.slice VA dn vc) dn (d.map (Value.int .u8)))
def LoopQ (zs : List Int) (tol : Int) (tms : List TmD) (lv : Bool) (wb : World) (x y : Value) (wr : World) : Prop :=
  ∃ (f fr at_ : Nat) (dl : List BD) (V : Value) (xs : List Value), x = .int .i64 fr ∧ y = .int .i64 at_ ∧ fr ≤ at_ ∧ at_ ≤ zs.length ∧ Blk wr wb.heap.size 45 #[.int .i64 1, .int .i64 20, V] ∧ wr.ownsRow wb.heap.size 33 18 V dl.length xs ∧ BlksAt wr (PhiT wr wb.heap.size wb.heap.size V) dl xs ∧ dl.length ≤ 4096 ∧ nrmS zs tol tms lv (zs.length + 1) 0 0 [] = nrmS zs tol tms lv f fr at_ dl ∧ zs.length < f + at_ ∧ Below wb.heap.size wb wr

theorem RdP.of_ownB {w : World} {base : Nat} {e : TypeId} {size n c : Nat} {A : Option Addr} {xs : List Value} (h : w.ownsRow base e size (.slice A n c) n xs) : RdP w (fun b => base ≤ b ∧ b < w.heap.size ∧ (Value.slice A n c).ownBlock = some b) size A n xs := by
  have hr := Reads.of_own h
  refine ⟨hr.1, fun hn => ?_⟩
  obtain ⟨ad, e, hb, hc⟩ := hr.2 hn
  subst e
  exact ⟨ad, rfl, ⟨(h.lt ad.block rfl).1, hb, rfl⟩, hc⟩
theorem rs_step {w w2 : World} {base tb : Nat} {V0 V v' : Value} {dl : List BD} {d : BD} {cs xs : List Value} (hB : Blk w tb 45 #[.int .i64 1, .int .i64 20, V0]) (hbk : BlksAt w (PhiT w base tb V) dl xs) (hc : BlkAt w (PhiT w base tb V) d cs)
    (ho : w2.ownsRow base 33 18 v' (dl.length + 1) (xs ++ cs)) (hg : (w.alloc (.cells cs.toArray 33)).grownBy w2 V.ownBlock) (hv : v'.ownBlock = V.ownBlock ∨ v'.ownBlock = some (w.alloc (.cells cs.toArray 33)).heap.size) (hne : V.ownBlock ≠ some tb) :
    Blk (w2.setCell ⟨tb, 2, none⟩ v') tb 45 #[.int .i64 1, .int .i64 20, v'] ∧ (w2.setCell ⟨tb, 2, none⟩ v').ownsRow base 33 18 v' (dl ++ [d]).length (xs ++ cs) ∧ BlksAt (w2.setCell ⟨tb, 2, none⟩ v') (PhiT (w2.setCell ⟨tb, 2, none⟩ v') base tb v') (dl ++ [d]) (xs ++ cs) := by
  have hs1 : (w.alloc (.cells cs.toArray 33)).heap.size = w.heap.size + 1 := by simp
  have hs2 := hg.size
  have htb := hB.lt
  have hs3 : (w2.setCell ⟨tb, 2, none⟩ v').heap.size = w2.heap.size := by simp [World.setCell]
  have hB2 : Blk w2 tb 45 #[.int .i64 1, .int .i64 20, V0] := (hB.alloc _).grown hg (fun e => hne e.symm)
  have h1 : ∀ b, PhiT w base tb V b → (w2.setCell ⟨tb, 2, none⟩ v').heap[b]? = w.heap[b]? := fun b hp =>
    (Below.heap_setCell _ _ _ _ (by have := hp.2.2.1; show b ≠ tb; exact this)).trans ((hg.block b (by have := hp.2.1; omega) (fun e => hp.2.2.2 e.symm)).trans (Below.heap_alloc _ _ _ hp.2.1))
  have h2 : ∀ b, PhiT w base tb V b → PhiT (w2.setCell ⟨tb, 2, none⟩ v') base tb v' b := fun b hp => ⟨hp.1, by have := hp.2.1; omega, hp.2.2.1, by
    rcases hv with e | e
    · rw [e]; exact hp.2.2.2
    · rw [e, hs1]; intro e2; injection e2 with e2; have := hp.2.1; omega⟩
  refine ⟨hB2.set_ 2 v', ?_, (hbk.keep h1 h2).app (BlksAt.single (hc.keep h1 h2))⟩
  have := ownsRow_setCell_other ho (a := ⟨tb, 2, none⟩) (own_blk_ne ho hB2 (by decide)) v'
  rw [List.length_append]
  exact this

set_option maxRecDepth 100000 in
set_option maxHeartbeats 16000000 in
theorem normalR_any (w : World) (lv : Bool) (A L : Option Addr) (N c ln lc : Nat) (tol : Int) (zs : List Int) (tms : List TmD) (hr : Reads w w.heap.size 1 A N (zs.map (Value.int .u32))) (hz : isU32 zs) (hN : N ≤ 4000) (hc : N ≤ c) (hL : Reads w w.heap.size 5 L ln (tmV tms)) (hln : ln ≤ 100) :
    Calls Try.prog 15 #[.bool lv, .slice A N c, .int .i64 tol, .slice L ln lc] w fun e w' => TapeO w w' e (nrmS zs tol tms lv (zs.length + 1) 0 0 []) := by
  obtain ⟨i1, hj, hy0, hy1, hy2⟩ := info_parts tmInfoR
  obtain ⟨i2, hk, hx0, hx1, hx2⟩ := info_parts blkInfo4
  have hzl := reads_len hr
  have hll : tms.length = ln := by have := hL.1; rw [tmV_len] at this; omega
  have HR := Lib.hid (And.intro hr (And.intro hz (And.intro hL (And.intro hzl hll))))
  clear hr hz hL hzl hll
  go_enter Try.func15, Try.ntmps15
  go_upto_region 1 with fail
  have hs0 : (w.alloc (.cells #[.int .i64 0, .int .i64 0, .slice none 0 0] 45)).heap.size = w.heap.size + 1 := by simp
  have hR0 : Blk (w.alloc (.cells #[.int .i64 0, .int .i64 0, .slice none 0 0] 45)) w.heap.size 45 #[.int .i64 0, .int .i64 0, .slice none 0 0] := Blk.new w _ _
  have hb0 : Below w.heap.size w (w.alloc (.cells #[.int .i64 0, .int .i64 0, .slice none 0 0] 45)) := (Below.refl _ _).alloc (Nat.le_refl _) _
  generalize (w.alloc (.cells #[.int .i64 0, .int .i64 0, .slice none 0 0] 45)) = w0 at *
  have HM := Lib.hid (And.intro hs0 (And.intro hR0 hb0))
  clear hs0 hR0 hb0
  go_wp2_with fail
  refine (standardR_any w0).mono ?_
  rintro e w1 ⟨rfl, hb1⟩
  have hbw1 : Below w.heap.size w w1 := HM.out.2.2.trans (hb1.mono (by have := HM.out.1; omega))
  have hsz1 : w.heap.size ≤ w1.heap.size := hbw1.size
  have HB1 := Lib.hid (And.intro hbw1 (HM.out.2.1.below hb1 (by have := HM.out.1; omega)))
  have hnil : (w1.alloc (.cells #[.int .i64 2168, .int .i64 667, .int .i64 735, .int .i64 855, .int .i64 1710] 25)).ownsRow w1.heap.size 25 5 (.slice none 0 0) 0 [] := World.ownsRow_nil _ _ _ _
  have HC := Lib.hid (And.intro (std_cells w1) (And.intro (tmV_one [stdT]) (And.intro (show 0 + 1 ≤ maxLen by unfold maxLen; omega) (And.intro (show (0 + 1) * 40 ≤ 140737488355328 by omega) (show w1.heap.size ≤ (w1.alloc (.cells #[.int .i64 2168, .int .i64 667, .int .i64 735, .int .i64 855, .int .i64 1710] 25)).heap.size by simp)))))
  clear hb1 hbw1
  go_wp2_with (first
    | (at_builtin; refine wpList_append_any _ rfl _ _ 50 rfl w1.heap.size 25 i1 (.agg #[.int .i64 0, .int .i64 0, .int .i64 0, .int .i64 0, .int .i64 0]) 5 40 Try.underlying50 hj hy0 hy1 hy2 rfl (by decide) (.slice none 0 0) 0 [] rfl hnil (w1.heap.size + 1) (some ⟨w1.heap.size, 0, none⟩) 1 1 (tmV [stdT]) rfl HC.out.1 HC.out.2.1 HC.out.2.2.1 HC.out.2.2.2.1 HC.out.2.2.2.2 ?_)
    | fail)
  intro v2 w2 own2 hg2 hv2
  obtain ⟨A2, c2, rfl⟩ := own_slice own2
  have hb2 : Below w.heap.size w w2 := (HB1.out.1.alloc hsz1 _).grown hg2 (by simp; omega) (fun b hb => by simp [Value.ownBlock] at hb)
  have hR2 : Blk w2 w.heap.size 45 #[.int .i64 0, .int .i64 0, .slice none 0 0] := (HB1.out.2.alloc _).grown hg2 (by simp [Value.ownBlock])
  have hs12 : w1.heap.size ≤ w2.heap.size := by have := hg2.size; simp at this; omega
  have HC2 := Lib.hid (And.intro ((HR.out.2.2.1.below hb2).more hb2.size) (And.intro (tmV_one tms) (And.intro (show 0 + 1 + ln ≤ maxLen by unfold maxLen; omega) (And.intro (show (0 + 1 + ln) * 40 ≤ 140737488355328 by omega) hs12))))
  have H2 := Lib.hid (And.intro hb2 hR2)
  clear hb2 hR2 hg2 hv2 hnil
  go_wp2_with (first
    | (at_builtin; refine wpList_append_any _ rfl _ _ 50 rfl w1.heap.size 25 i1 (.agg #[.int .i64 0, .int .i64 0, .int .i64 0, .int .i64 0, .int .i64 0]) 5 40 Try.underlying50 hj hy0 hy1 hy2 rfl (by decide) (.slice A2 (0 + 1) c2) (0 + 1) ([] ++ tmV [stdT]) rfl own2 w2.heap.size L ln lc (tmV tms) rfl HC2.out.1 HC2.out.2.1 HC2.out.2.2.1 HC2.out.2.2.2.1 HC2.out.2.2.2.2 ?_)
    | fail)
  intro v3 w3 own3 hg3 hv3
  obtain ⟨A3, c3, rfl⟩ := own_slice own3
  have hw12 : w.heap.size ≤ w2.heap.size := by omega
  have hb3 : Below w.heap.size w w3 := H2.out.1.grown hg3 hw12 (fun b hb => by have := (own2.lt b hb).1; omega)
  have hR3 : Blk w3 w.heap.size 45 #[.int .i64 0, .int .i64 0, .slice none 0 0] := H2.out.2.grown hg3 (fun e => by have := (own2.lt _ e.symm).1; have := HB1.out.2.lt; omega)
  have hT3 : Reads w3 w3.heap.size 5 A3 (1 + ln) (tmV (stdT :: tms)) := by
    have h9 := Reads.of_own own3
    rw [show 0 + 1 + ln = 1 + ln by omega] at h9
    rw [show tmV (stdT :: tms) = [] ++ tmV [stdT] ++ tmV tms by simp [tmV]]
    exact h9
  have hZ3 : Blk w3 w.heap.size 45 #[.int .i64 0, .int .i64 0, .slice none 0 0] := hR3
  have H3 := Lib.hid (And.intro hb3 (And.intro hR3 hT3))
  have hnn : (0 + 1 + ln) = 1 + ln := by omega
  rw [hnn]
  clear hb3 hR3 hT3 hZ3 own2 own3 hg3 hv3 HC HC2 H2 HB1 hsz1 hs12 hw12 hnn
  go_upto_region 4 with (first
    | (refine wpList_store_box rfl 45 _ _ rfl (w3.heap.size) #[.int .i64 1, .int .i64 20, .slice none 0 0] rfl rfl 45 #[.int .i64 0, .int .i64 0, .slice none 0 0] (Blk.new w3 _ _) tape3Info rfl (by simp [Value.oneCell']) ?_)
    | fail)
  intro w4 hB4 hg4
  have hb4 : Below w3.heap.size w3 w4 := ((Below.refl _ _).alloc (Nat.le_refl _) _).grown hg4 (by simp) (fun b hb => by injection hb with hb; omega)
  have H4 := Lib.hid (And.intro hB4 hb4)
  clear hB4 hb4 hg4
  go_wp2_with fail
  go_loopw [12, 13] (fun x y wr => LoopQ zs tol tms lv w3 x y wr) (fun _ y _ => N - (intOf y).toNat)
  case atStart => exact ⟨zs.length + 1, 0, 0, [], .slice none 0 0, [], rfl, rfl, Nat.le_refl _, Nat.zero_le _, H4.out.1, World.ownsRow_nil _ _ _ _, rfl, by simp, rfl, by omega, H4.out.2⟩
  case round =>
    obtain ⟨f, fr, at_, dl, V, xs, rfl, rfl, hfa, haN, hB, hV, hkb, hdl, hnr, hfu, hbl⟩ := hrel
    obtain ⟨wo, rfl⟩ : ∃ wo : World, wo = wr := ⟨_, rfl⟩
    rw [HR.out.2.2.2.1] at haN
    obtain ⟨Av, cv, rfl⟩ := own_slice hV
    have hj0 : (0 : Int) ≤ (at_ : Int) := Int.natCast_nonneg _
    obtain ⟨f, rfl⟩ : ∃ g, f = g + 1 := ⟨f - 1, by have := HR.out.2.2.2.1; omega⟩
    have hbw : Below w.heap.size w wo := H3.out.1.trans (hbl.mono H3.out.1.size)
    have hsw : w3.heap.size < wo.heap.size := hB.lt
    have hs30 : w.heap.size < w3.heap.size := H3.out.2.1.lt
    have hRx : Blk wo w.heap.size 45 #[.int .i64 0, .int .i64 0, .slice none 0 0] := H3.out.2.1.below hbl hs30
    have c2o : wo.cell? ⟨w3.heap.size, 2, none⟩ = some (.slice Av dl.length cv) := (hB.cell 2).trans rfl
    by_cases hlt : at_ < N
    · have hlI : (at_ : Int) < (N : Int) := by omega
      have hlz : at_ < zs.length := by rw [HR.out.2.2.2.1]; exact hlt
      have HO := Lib.hid (And.intro hB (And.intro hV (And.intro hkb (And.intro hnr (And.intro hfu (And.intro hbl (And.intro hRx hbw)))))))
      clear hB hV hkb hnr hfu hbl hRx hbw c2o
      go_wp2_with fail
      go_loopw [14, 16] (fun n i wx => SearchR wo zs at_ tol (stdT :: tms) (1 + ln) n i wx) (fun _ i _ => 1 + ln - (intOf i).toNat)
      case atStart => exact ⟨0, by omega, rfl, (Below.refl _ _).alloc (Nat.le_refl _) _, .inl ⟨rfl, rfl, Blk.new wo _ _⟩⟩
      case round =>
        obtain ⟨j, hjn, rfl, hbx, hF⟩ := hrel
        have hjj : (0 : Int) ≤ (j : Int) := Int.natCast_nonneg _
        have hsx := hbx.size
        have hb3x : Below w3.heap.size w3 wr := HO.out.2.2.2.2.2.1.trans (hbx.mono (by omega))
        have hbwx : Below w.heap.size w wr := HO.out.2.2.2.2.2.2.2.trans (hbx.mono (by omega))
        rcases hF with ⟨rfl, hfl, hBx⟩ | ⟨t, d, m, pa, k, VA, dn, vc, D, rfl, hfs, hD, hdn, hBx, hown⟩
        · by_cases hjl : j < 1 + ln
          · have hwj : IntKind.i64.wrap ((j : Int) + 1) = (j : Int) + 1 := by rw [IntKind.wrap_i64]; omega
            have hjI : (j : Int) < 1 + (ln : Int) := by omega
            obtain ⟨t, ht⟩ := idx_some (l := stdT :: tms) (i := j) (by rw [List.length_cons, HR.out.2.2.2.2]; omega)
            have hdr := drop_consT ht
            rw [hdr] at hfl
            have HFT := Lib.hid hfl
            have hTr := H3.out.2.2.below hb3x
            obtain ⟨ad, rfl, _⟩ := hTr.2 (by omega)
            have hl5 := load5 hTr hjl (tmC t) (tmV_at ht)
            obtain ⟨p, s1, s2, z, o⟩ := t
            have X0 := Lib.hid (show ∀ j_1 v, [Value.int .i64 p, Value.int .i64 s1, Value.int .i64 s2, Value.int .i64 z, Value.int .i64 o][j_1]? = some v → wr.cell? ((ad.add (j * 5)).add j_1) = some v from hl5)
            have hfd := findR_any wr A N c zs at_ p s1 s2 z o tol ((HR.out.1.below hbwx).more hbwx.size) HR.out.2.1 (by omega)
            have HX := Lib.hid (And.intro hbx hBx)
            clear hfl hTr hl5 hdr ht hbx hb3x hbwx hBx
            go_wp2_with (first
              | (refine wpList_load_at rfl 25 _ rfl (ad.add (j * 5)) rfl [.int .i64 p, .int .i64 s1, .int .i64 s2, .int .i64 z, .int .i64 o] X0.out _ Try.underlying25 rfl (timInfoRL _ _ _ _ _) ?_)
              | fail)
            refine hfd.mono ?_
            rintro e w6 ⟨hb6, hF6⟩
            clear hfd
            have hb6o : Below wo.heap.size wo w6 := HX.out.1.trans (hb6.mono HX.out.1.size)
            have hB6 : Blk w6 wo.heap.size 33 #[.int .i64 0, .int .i64 0, .int .i64 0, .int .i64 0, .int .i64 0, .int .i64 0, .int .i64 0, .int .i64 0, .int .i64 0, .int .i64 0, .int .i64 0, .int .i64 0, .slice none 0 0, .slice none 0 0, .slice none 0 0, .slice none 0 0, .slice none 0 0, .slice none 0 0] := HX.out.2.below hb6 HX.out.2.lt
            have hs6 := hb6.size
            have hxl := HX.out.2.lt
            rcases hF6 with ⟨hn, rfl⟩ | ⟨d, m, pa, k, V9, hs, rfl, hown, hu8⟩
            · have HN := Lib.hid (fstL_no (l := (stdT :: tms).drop (j + 1)) (show fndT zs at_ tol ⟨p, s1, s2, z, o⟩ = none from hn))
              have H6 := Lib.hid hb6o
              clear hn hb6o hb6
              go_wp2_with (first
                | (refine wpList_store_box rfl 33 _ _ rfl (wo.heap.size) blkZ rfl rfl 33 #[.int .i64 0, .int .i64 0, .int .i64 0, .int .i64 0, .int .i64 0, .int .i64 0, .int .i64 0, .int .i64 0, .int .i64 0, .int .i64 0, .int .i64 0, .int .i64 0, .slice none 0 0, .slice none 0 0, .slice none 0 0, .slice none 0 0, .slice none 0 0, .slice none 0 0] hB6 blkZ_info rfl blkZ_one ?_)
                | fail)
              intro w7 hB7 hg7
              have hb7 : Below wo.heap.size wo w7 := H6.out.grown hg7 H6.out.size (fun b hb => by injection hb with hb; omega)
              have H7 := Lib.hid (And.intro hB7 hb7)
              clear hB7 hg7 hb7 hB6
              go_wp2
              go_roundw
              case rel => exact ⟨j + 1, by omega, by go_num, H7.out.2, .inl ⟨rfl, by rw [HFT.out]; exact HN.out, H7.out.1⟩⟩
              case measure => simp [intOf]; omega
            · obtain ⟨VA, vc, rfl⟩ := own_slice hown
              have HN := Lib.hid (fstL_yes (l := (stdT :: tms).drop (j + 1)) (show fndT zs at_ tol ⟨p, s1, s2, z, o⟩ = some (d, m, pa, k) from hs))
              obtain ⟨D, hD⟩ : ∃ D, D = fndD ⟨p, s1, s2, z, o⟩ d m pa := ⟨_, rfl⟩
              rw [show blkV (stdB p s1 s2 z o) p s1 s2 z o m pa (.slice VA d.length vc) = tmB ⟨p, s1, s2, z, o⟩ m pa (.slice VA d.length vc) from rfl, tmB_cells hD]
              have HD := Lib.hid (And.intro hD (And.intro hown (And.intro hu8 hb6o)))
              clear hs hD hown hu8 hb6o hb6
              obtain ⟨dn, hdn⟩ : ∃ dn, dn = d.length := ⟨_, rfl⟩
              have HDN := Lib.hid hdn
              rw [← hdn]
              clear hdn
              go_wp2_with (first
                | (refine wpList_store_box rfl 33 _ _ rfl (wo.heap.size) #[.int .i64 D.i0, .int .i64 D.i1, .int .i64 D.i2, .int .i64 D.i3, .int .i64 D.i4, .int .i64 D.i5, .int .i64 D.i6, .int .i64 D.i7, .int .i64 D.i8, .int .i64 D.i9, .int .i64 D.i10, .int .i64 D.i11, .slice VA dn vc, .slice none 0 0, .slice none 0 0, .slice none 0 0, .slice none 0 0, .slice none 0 0] rfl rfl 33 #[.int .i64 0, .int .i64 0, .int .i64 0, .int .i64 0, .int .i64 0, .int .i64 0, .int .i64 0, .int .i64 0, .int .i64 0, .int .i64 0, .int .i64 0, .int .i64 0, .slice none 0 0, .slice none 0 0, .slice none 0 0, .slice none 0 0, .slice none 0 0, .slice none 0 0] hB6 blkInfo rfl (by simp [Value.oneCell']) ?_)
                | fail)
              intro w7 hB7 hg7
              have hb7 : Below wo.heap.size wo w7 := HD.out.2.2.2.grown hg7 HD.out.2.2.2.size (fun b hb => by injection hb with hb; omega)
              have hown7 := HD.out.2.1.kept hg7 (.inr (fun e => by have := (HD.out.2.1.lt _ e).1; omega))
              have H7 := Lib.hid (And.intro hB7 (And.intro hb7 hown7))
              clear hB7 hg7 hb7 hB6 hown7
              go_wp2
              go_roundw
              case rel =>
                have ho := H7.out.2.2
                rw [← HDN.out] at ho
                exact ⟨j + 1, by omega, by go_num, H7.out.2.1, .inr ⟨_, _, m, pa, k, VA, dn, vc, D, rfl, by rw [HFT.out]; exact HN.out, HD.out.1, HDN.out, H7.out.1, own_mono ho (by omega)⟩⟩
              case measure => simp [intOf]; omega
          · obtain rfl : j = 1 + ln := by omega
            have hjI : ¬ (((1 + ln : Nat)) : Int) < 1 + (ln : Int) := by omega
            rw [show (stdT :: tms).drop (1 + ln) = [] from List.drop_eq_nil_of_le (by rw [List.length_cons, HR.out.2.2.2.2]; omega)] at hfl
            have HNN := Lib.hid (nrm_no (lv := lv) (f := f) (fr := fr) (dl := dl) hlz hfl)
            have hwa : IntKind.i64.wrap ((at_ : Int) + 1) = (at_ : Int) + 1 := by rw [IntKind.wrap_i64]; omega
            have HX := Lib.hid hbx
            clear hfl hbx hBx hb3x hbwx
            go_wp2
            go_roundw
            case rel =>
              obtain ⟨hB, hV, hkb, hnr, hfu, hbl, _, _⟩ := HO.out
              have hbx := HX.out
              exact ⟨f, fr, at_ + 1, dl, .slice Av dl.length cv, xs, rfl, by go_num, by omega, by omega, hB.below hbx hB.lt, own_below hV hbx, BlksAt.keep (fun b hp => hbx.block b hp.2.1) (fun b hp => ⟨hp.1, by have := hp.2.1; omega, hp.2.2⟩) hkb, hdl, by rw [hnr, HNN.out], by omega, hbl.trans (hbx.mono hbl.size)⟩
            case measure => simp [intOf]; omega
        · obtain ⟨k1, k2⟩ := fstL_pos hfs
          have hkI : ¬ (k : Int) = 0 := by omega
          have hkB : ((k : Int) == 0) = false := by simpa using hkI
          have hns := nrm_some (lv := lv) (f := f) (fr := fr) (dl := dl) hlz hfs
          rw [← hD] at hns
          obtain ⟨E, hE⟩ : ∃ E : Int, E = restE zs lv fr at_ dl := ⟨_, rfl⟩
          obtain ⟨hB, hV, hkb, hnr, hfu, hbl, hRx, hbw⟩ := HO.out
          have hBt := hB.below hbx hB.lt
          have hVt := own_below hV hbx
          have hkt : BlksAt wr (PhiT wr w3.heap.size w3.heap.size (.slice Av dl.length cv)) dl xs := BlksAt.keep (fun b hp => hbx.block b hp.2.1) (fun b hp => ⟨hp.1, by have := hp.2.1; omega, hp.2.2⟩) hkb
          have hre := restR_any wr w3.heap.size w3.heap.size fr at_ N c lv (.slice Av dl.length cv) A zs dl xs hVt hkt (own_blk_ne hVt hBt (by decide)) (by omega) (by omega) ((HR.out.1.below hbwx).more (by omega)) HR.out.2.1 hfa (by omega) hN hc hdl
          obtain ⟨RD, hRD⟩ : ∃ RD, RD = restD zs lv fr at_ dl := ⟨_, rfl⟩
          rw [← hE, ← hRD] at hns hre
          have hdr := restD_len (zs := zs) (lv := lv) (a := fr) (b := at_) hdl
          rw [← hRD] at hdr
          rw [HR.out.2.2.2.1] at k2
          have c2x : wr.cell? ⟨w3.heap.size, 2, none⟩ = some (.slice Av dl.length cv) := (hBt.cell 2).trans rfl
          have HNS := Lib.hid (And.intro (hnr.trans hns) (And.intro hfu (And.intro hD hdn)))
          have HX := Lib.hid (And.intro hBx (And.intro hown (And.intro hbx (And.intro hb3x (And.intro hbwx (And.intro hBt (And.intro hVt (hRx.below hbx (by omega)))))))))
          clear hfs hD hdn hns hE hRD hB hV hkb hnr hfu hbl hRx hbw hBt hVt hkt hBx hown hbx hb3x hbwx
          by_cases hjl : j < 1 + ln
          · have hjI : (j : Int) < 1 + (ln : Int) := by omega
            go_wp2_with fail
            refine hre.mono ?_
            rintro e w9 ⟨V', ys, rfl, hok, hg9⟩
            clear hre c2x
            have hgv : ∀ b, (Value.slice Av dl.length cv).ownBlock = some b → w3.heap.size ≤ b ∧ b < wo.heap.size := fun b hb => ⟨(HO.out.2.1.lt b hb).1, (HO.out.2.1.lt b hb).2⟩
            have hbw9 : Below w.heap.size w w9 := HX.out.2.2.2.2.1.grown hg9 HX.out.2.2.2.2.1.size (fun b hb => by have := hgv b hb; omega)
            have hR9 : Blk w9 w.heap.size 45 #[.int .i64 0, .int .i64 0, .slice none 0 0] := HX.out.2.2.2.2.2.2.2.grown hg9 (fun e => by have := hgv _ e.symm; omega)
            have hs9 := hg9.size
            by_cases hE0 : E = 0
            · subst hE0
              obtain ⟨own9, hk9, hn9⟩ := hok rfl
              obtain ⟨A9, c9, rfl⟩ := own_slice own9
              by_cases hlim : 4096 ≤ RD.length
              · have hlI : (4096 : Int) ≤ (RD.length : Int) := by omega
                have HLM := Lib.hid hlim
                have HEZ := Lib.hid (show ¬ (8 : Int) = 0 by decide)
                clear own9 hk9 hn9 hlim
                have H9 := Lib.hid hbw9
                clear hbw9 hok hg9 hgv
                go_wp2_with (first
                  | (refine wpList_store_box rfl 45 _ _ rfl (w.heap.size) #[.int .i64 0, .int .i64 0, .slice none 0 0] rfl rfl 45 #[.int .i64 0, .int .i64 0, .slice none 0 0] hR9 tape3Info rfl (by simp [Value.oneCell']) ?_)
                  | fail)
                intro w11 hB11 hg11
                have H11 := Lib.hid hg11
                clear hg11
                go_wp2_with fail
                refine bodyPost_ret (results_cell_tmp9 rfl _ _ w.heap.size 45 _ (0, 0) _ rfl hB11 Try.underlying45 rfl tape3Info) rfl ?_
                rw [HNS.out.1, if_neg (by simp), if_pos (by have := HLM.out; omega)]
                refine ⟨none, 0, 0, [], ?_, RdP.none_, rfl, H9.out.grown H11.out H9.out.size (fun b hb => by injection hb with hb; omega)⟩
                show _ = Ending.returned (.tuple #[.agg #[.int .i64 (if (8 : Int) = 0 then 1 else 0), .int .i64 (if (8 : Int) = 0 then 20 else 0), .slice none 0 0], .int .i64 (8 : Int)])
                rw [if_neg HEZ.out, if_neg HEZ.out]
                rfl
              · have hlI : ¬ (4096 : Int) ≤ (RD.length : Int) := by omega
                have HLM := Lib.hid hlim
                have hBx : Blk w9 wo.heap.size 33 #[.int .i64 D.i0, .int .i64 D.i1, .int .i64 D.i2, .int .i64 D.i3, .int .i64 D.i4, .int .i64 D.i5, .int .i64 D.i6, .int .i64 D.i7, .int .i64 D.i8, .int .i64 D.i9, .int .i64 D.i10, .int .i64 D.i11, .slice VA dn vc, .slice none 0 0, .slice none 0 0, .slice none 0 0, .slice none 0 0, .slice none 0 0] := HX.out.1.grown hg9 (fun e => by have := hgv _ e.symm; omega)
                have hown9 : w9.ownsRow wo.heap.size 5 1 (.slice VA dn vc) dn (d.map (Value.int .u8)) := HX.out.2.1.kept hg9 (own_own_ne HX.out.2.1 HX.out.2.2.2.2.2.2.1 (by decide))
                have hB9 : Blk w9 w3.heap.size 45 #[.int .i64 1, .int .i64 20, .slice Av dl.length cv] := HX.out.2.2.2.2.2.1.grown hg9 (fun e => own_blk_ne HX.out.2.2.2.2.2.2.1 HX.out.2.2.2.2.2.1 (by decide) e.symm)
                have hbk9 : BlkAt w9 (PhiT w9 w3.heap.size w3.heap.size (.slice A9 RD.length c9)) D [.int .i64 D.i0, .int .i64 D.i1, .int .i64 D.i2, .int .i64 D.i3, .int .i64 D.i4, .int .i64 D.i5, .int .i64 D.i6, .int .i64 D.i7, .int .i64 D.i8, .int .i64 D.i9, .int .i64 D.i10, .int .i64 D.i11, .slice VA dn vc, .slice none 0 0, .slice none 0 0, .slice none 0 0, .slice none 0 0, .slice none 0 0] := fndD_at HNS.out.2.2.1 ((RdP.of_ownB hown9).keep (fun b _ => rfl) (fun b hp => ⟨by have := hp.1; omega, hp.2.1, by have := hp.1; omega, fun e => by
                  rcases own_own_ne hown9 own9 (by decide) with h9 | h9
                  · rw [hp.2.2] at h9; cases h9
                  · rw [hp.2.2, e] at h9; exact h9 rfl⟩))
                have c29 : w9.cell? ⟨w3.heap.size, 2, none⟩ = some (.slice Av dl.length cv) := (hB9.cell 2).trans rfl
                have own9a := own9.alloc (.cells #[.int .i64 D.i0, .int .i64 D.i1, .int .i64 D.i2, .int .i64 D.i3, .int .i64 D.i4, .int .i64 D.i5, .int .i64 D.i6, .int .i64 D.i7, .int .i64 D.i8, .int .i64 D.i9, .int .i64 D.i10, .int .i64 D.i11, .slice VA dn vc, .slice none 0 0, .slice none 0 0, .slice none 0 0, .slice none 0 0, .slice none 0 0] 33)
                have HC := Lib.hid (And.intro (lit_cells w9 [.int .i64 D.i0, .int .i64 D.i1, .int .i64 D.i2, .int .i64 D.i3, .int .i64 D.i4, .int .i64 D.i5, .int .i64 D.i6, .int .i64 D.i7, .int .i64 D.i8, .int .i64 D.i9, .int .i64 D.i10, .int .i64 D.i11, .slice VA dn vc, .slice none 0 0, .slice none 0 0, .slice none 0 0, .slice none 0 0, .slice none 0 0] 33) (And.intro hbk9.one (And.intro (show RD.length + 1 ≤ maxLen by unfold maxLen; omega) (And.intro (show (RD.length + 1) * 240 ≤ 140737488355328 by omega) (show w3.heap.size ≤ (w9.alloc (.cells #[.int .i64 D.i0, .int .i64 D.i1, .int .i64 D.i2, .int .i64 D.i3, .int .i64 D.i4, .int .i64 D.i5, .int .i64 D.i6, .int .i64 D.i7, .int .i64 D.i8, .int .i64 D.i9, .int .i64 D.i10, .int .i64 D.i11, .slice VA dn vc, .slice none 0 0, .slice none 0 0, .slice none 0 0, .slice none 0 0, .slice none 0 0] 33)).heap.size by have := HX.out.2.2.1.size; simp; omega)))))
                have HRD := Lib.hid (show Reads (w9.alloc (.cells #[.int .i64 D.i0, .int .i64 D.i1, .int .i64 D.i2, .int .i64 D.i3, .int .i64 D.i4, .int .i64 D.i5, .int .i64 D.i6, .int .i64 D.i7, .int .i64 D.i8, .int .i64 D.i9, .int .i64 D.i10, .int .i64 D.i11, .slice VA dn vc, .slice none 0 0, .slice none 0 0, .slice none 0 0, .slice none 0 0, .slice none 0 0] 33)) (w9.heap.size + 1) 18 (some ⟨w9.heap.size, 0, none⟩) 1 [.int .i64 D.i0, .int .i64 D.i1, .int .i64 D.i2, .int .i64 D.i3, .int .i64 D.i4, .int .i64 D.i5, .int .i64 D.i6, .int .i64 D.i7, .int .i64 D.i8, .int .i64 D.i9, .int .i64 D.i10, .int .i64 D.i11, .slice VA dn vc, .slice none 0 0, .slice none 0 0, .slice none 0 0, .slice none 0 0, .slice none 0 0] from ⟨rfl, fun _ => ⟨_, rfl, by show w9.heap.size < w9.heap.size + 1; omega, HC.out.1⟩⟩)
                have HF := Lib.hid (And.intro hB9 (And.intro hk9 (And.intro hbk9 (And.intro own9 hn9))))
                have hb39 : Below w3.heap.size w3 w9 := HX.out.2.2.2.1.grown hg9 HX.out.2.2.2.1.size (fun b hb => (hgv b hb).1)
                have H9 := Lib.hid hb39
                have hwk : IntKind.i64.wrap ((at_ : Int) + (k : Int)) = (at_ : Int) + (k : Int) := by rw [IntKind.wrap_i64]; omega
                clear hB9 hk9 hbk9 own9 hn9 hb39 hg9 hok hgv hbw9 hR9 hown9 hlim
                go_wp2_with (first
                  | (refine wpList_load_box rfl 33 _ rfl (wo.heap.size) rfl 33 #[.int .i64 D.i0, .int .i64 D.i1, .int .i64 D.i2, .int .i64 D.i3, .int .i64 D.i4, .int .i64 D.i5, .int .i64 D.i6, .int .i64 D.i7, .int .i64 D.i8, .int .i64 D.i9, .int .i64 D.i10, .int .i64 D.i11, .slice VA dn vc, .slice none 0 0, .slice none 0 0, .slice none 0 0, .slice none 0 0, .slice none 0 0] hBx _ Try.underlying33 rfl blkInfo (fun (_ : Hid _) => ?_))
                  | (at_builtin; refine wpList_append_any _ rfl _ _ 43 rfl w3.heap.size 33 i2 (.agg #[.int .i64 0, .int .i64 0, .int .i64 0, .int .i64 0, .int .i64 0, .int .i64 0, .int .i64 0, .int .i64 0, .int .i64 0, .int .i64 0, .int .i64 0, .int .i64 0, .slice none 0 0, .slice none 0 0, .slice none 0 0, .slice none 0 0, .slice none 0 0, .slice none 0 0]) 18 240 Try.underlying43 hk hx0 hx1 hx2 rfl (by decide) (.slice A9 RD.length c9) RD.length ys rfl own9a (w9.heap.size + 1) (some ⟨w9.heap.size, 0, none⟩) 1 1 [.int .i64 D.i0, .int .i64 D.i1, .int .i64 D.i2, .int .i64 D.i3, .int .i64 D.i4, .int .i64 D.i5, .int .i64 D.i6, .int .i64 D.i7, .int .i64 D.i8, .int .i64 D.i9, .int .i64 D.i10, .int .i64 D.i11, .slice VA dn vc, .slice none 0 0, .slice none 0 0, .slice none 0 0, .slice none 0 0, .slice none 0 0] rfl HRD.out HC.out.2.1 HC.out.2.2.1 HC.out.2.2.2.1 HC.out.2.2.2.2 ?_)
                  | fail)
                intro v10 w10 own10 hg10 hv10
                obtain ⟨A10, c10, rfl⟩ := own_slice own10
                have hB10 : Blk w10 w3.heap.size 45 #[.int .i64 1, .int .i64 20, .slice Av dl.length cv] := (HF.out.1.alloc _).grown hg10 (fun e => HF.out.2.2.2.2 e.symm)
                have c210 : w10.cell? ⟨w3.heap.size, 2, none⟩ = some (.slice Av dl.length cv) := (hB10.cell 2).trans rfl
                have f210 : w10.frozen? ⟨w3.heap.size, 2, none⟩ = false := hB10.frozen 2
                have HEN := Lib.hid (And.intro own10 (And.intro hg10 hv10))
                clear own10 hg10 hv10 hB10 own9a hBx c29
                go_wp2
                go_roundw
                case rel =>
                  obtain ⟨own10, hg10, hv10⟩ := HEN.out
                  obtain ⟨q1, q2, q3⟩ := rs_step HF.out.1 HF.out.2.1 HF.out.2.2.1 own10 hg10 (by simpa using hv10) HF.out.2.2.2.2
                  have hb9 : Below w3.heap.size w3 (w10.setCell ⟨w3.heap.size, 2, none⟩ (.slice A10 (RD.length + 1) c10)) := ((H9.out.alloc H9.out.size _).grown hg10 (by have := H9.out.size; simp; omega) (fun b hb => (HF.out.2.2.2.1.lt b hb).1)).setCell (Nat.le_refl _) _
                  exact ⟨f, at_ + k, at_ + k, RD ++ [D], .slice A10 (RD.length + 1) c10, ys ++ [.int .i64 D.i0, .int .i64 D.i1, .int .i64 D.i2, .int .i64 D.i3, .int .i64 D.i4, .int .i64 D.i5, .int .i64 D.i6, .int .i64 D.i7, .int .i64 D.i8, .int .i64 D.i9, .int .i64 D.i10, .int .i64 D.i11, .slice VA dn vc, .slice none 0 0, .slice none 0 0, .slice none 0 0, .slice none 0 0, .slice none 0 0], by go_num, by go_num, Nat.le_refl _, by rw [HR.out.2.2.2.1]; omega, q1, q2, q3, by rw [List.length_append]; have := HLM.out; simp; omega, by rw [HNS.out.1, if_neg (by simp), if_neg (by have := HLM.out; omega)], by have := HNS.out.2.1; omega, hb9⟩
                case measure => simp [intOf]; omega
            · have hEB : (E == 0) = false := by simpa using hE0
              have HEZ := Lib.hid hE0
              have H9 := Lib.hid hbw9
              clear hbw9 hok hg9 hgv
              go_wp2_with (first
                | (refine wpList_store_box rfl 45 _ _ rfl (w.heap.size) #[.int .i64 0, .int .i64 0, .slice none 0 0] rfl rfl 45 #[.int .i64 0, .int .i64 0, .slice none 0 0] hR9 tape3Info rfl (by simp [Value.oneCell']) ?_)
                | fail)
              intro w11 hB11 hg11
              have H11 := Lib.hid hg11
              clear hg11
              go_wp2_with fail
              refine bodyPost_ret (results_cell_tmp9 rfl _ _ w.heap.size 45 _ (0, 0) _ rfl hB11 Try.underlying45 rfl tape3Info) rfl ?_
              rw [HNS.out.1, if_pos HEZ.out]
              refine ⟨none, 0, 0, [], ?_, RdP.none_, rfl, H9.out.grown H11.out H9.out.size (fun b hb => by injection hb with hb; omega)⟩
              show _ = Ending.returned (.tuple #[.agg #[.int .i64 (if E = 0 then 1 else 0), .int .i64 (if E = 0 then 20 else 0), .slice none 0 0], .int .i64 E])
              rw [if_neg HEZ.out, if_neg HEZ.out]
              rfl
          · have hjI : ¬ (j : Int) < 1 + (ln : Int) := by omega
            go_wp2_with fail
            refine hre.mono ?_
            rintro e w9 ⟨V', ys, rfl, hok, hg9⟩
            clear hre c2x
            have hgv : ∀ b, (Value.slice Av dl.length cv).ownBlock = some b → w3.heap.size ≤ b ∧ b < wo.heap.size := fun b hb => ⟨(HO.out.2.1.lt b hb).1, (HO.out.2.1.lt b hb).2⟩
            have hbw9 : Below w.heap.size w w9 := HX.out.2.2.2.2.1.grown hg9 HX.out.2.2.2.2.1.size (fun b hb => by have := hgv b hb; omega)
            have hR9 : Blk w9 w.heap.size 45 #[.int .i64 0, .int .i64 0, .slice none 0 0] := HX.out.2.2.2.2.2.2.2.grown hg9 (fun e => by have := hgv _ e.symm; omega)
            have hs9 := hg9.size
            by_cases hE0 : E = 0
            · subst hE0
              obtain ⟨own9, hk9, hn9⟩ := hok rfl
              obtain ⟨A9, c9, rfl⟩ := own_slice own9
              by_cases hlim : 4096 ≤ RD.length
              · have hlI : (4096 : Int) ≤ (RD.length : Int) := by omega
                have HLM := Lib.hid hlim
                have HEZ := Lib.hid (show ¬ (8 : Int) = 0 by decide)
                clear own9 hk9 hn9 hlim
                have H9 := Lib.hid hbw9
                clear hbw9 hok hg9 hgv
                go_wp2_with (first
                  | (refine wpList_store_box rfl 45 _ _ rfl (w.heap.size) #[.int .i64 0, .int .i64 0, .slice none 0 0] rfl rfl 45 #[.int .i64 0, .int .i64 0, .slice none 0 0] hR9 tape3Info rfl (by simp [Value.oneCell']) ?_)
                  | fail)
                intro w11 hB11 hg11
                have H11 := Lib.hid hg11
                clear hg11
                go_wp2_with fail
                refine bodyPost_ret (results_cell_tmp9 rfl _ _ w.heap.size 45 _ (0, 0) _ rfl hB11 Try.underlying45 rfl tape3Info) rfl ?_
                rw [HNS.out.1, if_neg (by simp), if_pos (by have := HLM.out; omega)]
                refine ⟨none, 0, 0, [], ?_, RdP.none_, rfl, H9.out.grown H11.out H9.out.size (fun b hb => by injection hb with hb; omega)⟩
                show _ = Ending.returned (.tuple #[.agg #[.int .i64 (if (8 : Int) = 0 then 1 else 0), .int .i64 (if (8 : Int) = 0 then 20 else 0), .slice none 0 0], .int .i64 (8 : Int)])
                rw [if_neg HEZ.out, if_neg HEZ.out]
                rfl
              · have hlI : ¬ (4096 : Int) ≤ (RD.length : Int) := by omega
                have HLM := Lib.hid hlim
                have hBx : Blk w9 wo.heap.size 33 #[.int .i64 D.i0, .int .i64 D.i1, .int .i64 D.i2, .int .i64 D.i3, .int .i64 D.i4, .int .i64 D.i5, .int .i64 D.i6, .int .i64 D.i7, .int .i64 D.i8, .int .i64 D.i9, .int .i64 D.i10, .int .i64 D.i11, .slice VA dn vc, .slice none 0 0, .slice none 0 0, .slice none 0 0, .slice none 0 0, .slice none 0 0] := HX.out.1.grown hg9 (fun e => by have := hgv _ e.symm; omega)
                have hown9 : w9.ownsRow wo.heap.size 5 1 (.slice VA dn vc) dn (d.map (Value.int .u8)) := HX.out.2.1.kept hg9 (own_own_ne HX.out.2.1 HX.out.2.2.2.2.2.2.1 (by decide))
                have hB9 : Blk w9 w3.heap.size 45 #[.int .i64 1, .int .i64 20, .slice Av dl.length cv] := HX.out.2.2.2.2.2.1.grown hg9 (fun e => own_blk_ne HX.out.2.2.2.2.2.2.1 HX.out.2.2.2.2.2.1 (by decide) e.symm)
                have hbk9 : BlkAt w9 (PhiT w9 w3.heap.size w3.heap.size (.slice A9 RD.length c9)) D [.int .i64 D.i0, .int .i64 D.i1, .int .i64 D.i2, .int .i64 D.i3, .int .i64 D.i4, .int .i64 D.i5, .int .i64 D.i6, .int .i64 D.i7, .int .i64 D.i8, .int .i64 D.i9, .int .i64 D.i10, .int .i64 D.i11, .slice VA dn vc, .slice none 0 0, .slice none 0 0, .slice none 0 0, .slice none 0 0, .slice none 0 0] := fndD_at HNS.out.2.2.1 ((RdP.of_ownB hown9).keep (fun b _ => rfl) (fun b hp => ⟨by have := hp.1; omega, hp.2.1, by have := hp.1; omega, fun e => by
                  rcases own_own_ne hown9 own9 (by decide) with h9 | h9
                  · rw [hp.2.2] at h9; cases h9
                  · rw [hp.2.2, e] at h9; exact h9 rfl⟩))
                have c29 : w9.cell? ⟨w3.heap.size, 2, none⟩ = some (.slice Av dl.length cv) := (hB9.cell 2).trans rfl
                have own9a := own9.alloc (.cells #[.int .i64 D.i0, .int .i64 D.i1, .int .i64 D.i2, .int .i64 D.i3, .int .i64 D.i4, .int .i64 D.i5, .int .i64 D.i6, .int .i64 D.i7, .int .i64 D.i8, .int .i64 D.i9, .int .i64 D.i10, .int .i64 D.i11, .slice VA dn vc, .slice none 0 0, .slice none 0 0, .slice none 0 0, .slice none 0 0, .slice none 0 0] 33)
                have HC := Lib.hid (And.intro (lit_cells w9 [.int .i64 D.i0, .int .i64 D.i1, .int .i64 D.i2, .int .i64 D.i3, .int .i64 D.i4, .int .i64 D.i5, .int .i64 D.i6, .int .i64 D.i7, .int .i64 D.i8, .int .i64 D.i9, .int .i64 D.i10, .int .i64 D.i11, .slice VA dn vc, .slice none 0 0, .slice none 0 0, .slice none 0 0, .slice none 0 0, .slice none 0 0] 33) (And.intro hbk9.one (And.intro (show RD.length + 1 ≤ maxLen by unfold maxLen; omega) (And.intro (show (RD.length + 1) * 240 ≤ 140737488355328 by omega) (show w3.heap.size ≤ (w9.alloc (.cells #[.int .i64 D.i0, .int .i64 D.i1, .int .i64 D.i2, .int .i64 D.i3, .int .i64 D.i4, .int .i64 D.i5, .int .i64 D.i6, .int .i64 D.i7, .int .i64 D.i8, .int .i64 D.i9, .int .i64 D.i10, .int .i64 D.i11, .slice VA dn vc, .slice none 0 0, .slice none 0 0, .slice none 0 0, .slice none 0 0, .slice none 0 0] 33)).heap.size by have := HX.out.2.2.1.size; simp; omega)))))
                have HRD := Lib.hid (show Reads (w9.alloc (.cells #[.int .i64 D.i0, .int .i64 D.i1, .int .i64 D.i2, .int .i64 D.i3, .int .i64 D.i4, .int .i64 D.i5, .int .i64 D.i6, .int .i64 D.i7, .int .i64 D.i8, .int .i64 D.i9, .int .i64 D.i10, .int .i64 D.i11, .slice VA dn vc, .slice none 0 0, .slice none 0 0, .slice none 0 0, .slice none 0 0, .slice none 0 0] 33)) (w9.heap.size + 1) 18 (some ⟨w9.heap.size, 0, none⟩) 1 [.int .i64 D.i0, .int .i64 D.i1, .int .i64 D.i2, .int .i64 D.i3, .int .i64 D.i4, .int .i64 D.i5, .int .i64 D.i6, .int .i64 D.i7, .int .i64 D.i8, .int .i64 D.i9, .int .i64 D.i10, .int .i64 D.i11, .slice VA dn vc, .slice none 0 0, .slice none 0 0, .slice none 0 0, .slice none 0 0, .slice none 0 0] from ⟨rfl, fun _ => ⟨_, rfl, by show w9.heap.size < w9.heap.size + 1; omega, HC.out.1⟩⟩)
                have HF := Lib.hid (And.intro hB9 (And.intro hk9 (And.intro hbk9 (And.intro own9 hn9))))
                have hb39 : Below w3.heap.size w3 w9 := HX.out.2.2.2.1.grown hg9 HX.out.2.2.2.1.size (fun b hb => (hgv b hb).1)
                have H9 := Lib.hid hb39
                have hwk : IntKind.i64.wrap ((at_ : Int) + (k : Int)) = (at_ : Int) + (k : Int) := by rw [IntKind.wrap_i64]; omega
                clear hB9 hk9 hbk9 own9 hn9 hb39 hg9 hok hgv hbw9 hR9 hown9 hlim
                go_wp2_with (first
                  | (refine wpList_load_box rfl 33 _ rfl (wo.heap.size) rfl 33 #[.int .i64 D.i0, .int .i64 D.i1, .int .i64 D.i2, .int .i64 D.i3, .int .i64 D.i4, .int .i64 D.i5, .int .i64 D.i6, .int .i64 D.i7, .int .i64 D.i8, .int .i64 D.i9, .int .i64 D.i10, .int .i64 D.i11, .slice VA dn vc, .slice none 0 0, .slice none 0 0, .slice none 0 0, .slice none 0 0, .slice none 0 0] hBx _ Try.underlying33 rfl blkInfo (fun (_ : Hid _) => ?_))
                  | (at_builtin; refine wpList_append_any _ rfl _ _ 43 rfl w3.heap.size 33 i2 (.agg #[.int .i64 0, .int .i64 0, .int .i64 0, .int .i64 0, .int .i64 0, .int .i64 0, .int .i64 0, .int .i64 0, .int .i64 0, .int .i64 0, .int .i64 0, .int .i64 0, .slice none 0 0, .slice none 0 0, .slice none 0 0, .slice none 0 0, .slice none 0 0, .slice none 0 0]) 18 240 Try.underlying43 hk hx0 hx1 hx2 rfl (by decide) (.slice A9 RD.length c9) RD.length ys rfl own9a (w9.heap.size + 1) (some ⟨w9.heap.size, 0, none⟩) 1 1 [.int .i64 D.i0, .int .i64 D.i1, .int .i64 D.i2, .int .i64 D.i3, .int .i64 D.i4, .int .i64 D.i5, .int .i64 D.i6, .int .i64 D.i7, .int .i64 D.i8, .int .i64 D.i9, .int .i64 D.i10, .int .i64 D.i11, .slice VA dn vc, .slice none 0 0, .slice none 0 0, .slice none 0 0, .slice none 0 0, .slice none 0 0] rfl HRD.out HC.out.2.1 HC.out.2.2.1 HC.out.2.2.2.1 HC.out.2.2.2.2 ?_)
                  | fail)
                intro v10 w10 own10 hg10 hv10
                obtain ⟨A10, c10, rfl⟩ := own_slice own10
                have hB10 : Blk w10 w3.heap.size 45 #[.int .i64 1, .int .i64 20, .slice Av dl.length cv] := (HF.out.1.alloc _).grown hg10 (fun e => HF.out.2.2.2.2 e.symm)
                have c210 : w10.cell? ⟨w3.heap.size, 2, none⟩ = some (.slice Av dl.length cv) := (hB10.cell 2).trans rfl
                have f210 : w10.frozen? ⟨w3.heap.size, 2, none⟩ = false := hB10.frozen 2
                have HEN := Lib.hid (And.intro own10 (And.intro hg10 hv10))
                clear own10 hg10 hv10 hB10 own9a hBx c29
                go_wp2
                go_roundw
                case rel =>
                  obtain ⟨own10, hg10, hv10⟩ := HEN.out
                  obtain ⟨q1, q2, q3⟩ := rs_step HF.out.1 HF.out.2.1 HF.out.2.2.1 own10 hg10 (by simpa using hv10) HF.out.2.2.2.2
                  have hb9 : Below w3.heap.size w3 (w10.setCell ⟨w3.heap.size, 2, none⟩ (.slice A10 (RD.length + 1) c10)) := ((H9.out.alloc H9.out.size _).grown hg10 (by have := H9.out.size; simp; omega) (fun b hb => (HF.out.2.2.2.1.lt b hb).1)).setCell (Nat.le_refl _) _
                  exact ⟨f, at_ + k, at_ + k, RD ++ [D], .slice A10 (RD.length + 1) c10, ys ++ [.int .i64 D.i0, .int .i64 D.i1, .int .i64 D.i2, .int .i64 D.i3, .int .i64 D.i4, .int .i64 D.i5, .int .i64 D.i6, .int .i64 D.i7, .int .i64 D.i8, .int .i64 D.i9, .int .i64 D.i10, .int .i64 D.i11, .slice VA dn vc, .slice none 0 0, .slice none 0 0, .slice none 0 0, .slice none 0 0, .slice none 0 0], by go_num, by go_num, Nat.le_refl _, by rw [HR.out.2.2.2.1]; omega, q1, q2, q3, by rw [List.length_append]; have := HLM.out; simp; omega, by rw [HNS.out.1, if_neg (by simp), if_neg (by have := HLM.out; omega)], by have := HNS.out.2.1; omega, hb9⟩
                case measure => simp [intOf]; omega
            · have hEB : (E == 0) = false := by simpa using hE0
              have HEZ := Lib.hid hE0
              have H9 := Lib.hid hbw9
              clear hbw9 hok hg9 hgv
              go_wp2_with (first
                | (refine wpList_store_box rfl 45 _ _ rfl (w.heap.size) #[.int .i64 0, .int .i64 0, .slice none 0 0] rfl rfl 45 #[.int .i64 0, .int .i64 0, .slice none 0 0] hR9 tape3Info rfl (by simp [Value.oneCell']) ?_)
                | fail)
              intro w11 hB11 hg11
              have H11 := Lib.hid hg11
              clear hg11
              go_wp2_with fail
              refine bodyPost_ret (results_cell_tmp9 rfl _ _ w.heap.size 45 _ (0, 0) _ rfl hB11 Try.underlying45 rfl tape3Info) rfl ?_
              rw [HNS.out.1, if_pos HEZ.out]
              refine ⟨none, 0, 0, [], ?_, RdP.none_, rfl, H9.out.grown H11.out H9.out.size (fun b hb => by injection hb with hb; omega)⟩
              show _ = Ending.returned (.tuple #[.agg #[.int .i64 (if E = 0 then 1 else 0), .int .i64 (if E = 0 then 20 else 0), .slice none 0 0], .int .i64 E])
              rw [if_neg HEZ.out, if_neg HEZ.out]
              rfl
    · obtain rfl : N = at_ := by omega
      have hlI : ¬ (N : Int) < (N : Int) := by omega
      have hre := restR_any wo w3.heap.size w3.heap.size fr N N c lv (.slice Av dl.length cv) A zs dl xs hV hkb (own_blk_ne hV hB (by decide)) (by omega) (by omega) ((HR.out.1.below hbw).more (by omega)) HR.out.2.1 hfa (Nat.le_refl _) hN hc hdl
      have hne := nrm_end (tol := tol) (tms := tms) (lv := lv) (f := f) (fr := fr) (dl := dl) (zs := zs) (at_ := N) (by rw [HR.out.2.2.2.1]; omega)
      rw [HR.out.2.2.2.1] at hne
      rw [hne] at hnr
      obtain ⟨E, hE⟩ : ∃ E : Int, E = restE zs lv fr N dl := ⟨_, rfl⟩
      obtain ⟨RD, hRD⟩ : ∃ RD, RD = restD zs lv fr N dl := ⟨_, rfl⟩
      rw [← hE, ← hRD] at hnr hre
      have HS := Lib.hid (And.intro hnr (And.intro hRx (And.intro hbw (And.intro hB hV))))
      clear hnr hRx hbw hB hV hkb hne hE hRD hfu hbl
      go_wp2_with fail
      refine hre.mono ?_
      rintro e w9 ⟨V', ys, rfl, hok, hg9⟩
      clear hre
      have hgv : ∀ b, (Value.slice Av dl.length cv).ownBlock = some b → w3.heap.size ≤ b := fun b hb => (HS.out.2.2.2.2.lt b hb).1
      have hbw9 : Below w.heap.size w w9 := HS.out.2.2.1.grown hg9 HS.out.2.2.1.size (fun b hb => by have := hgv b hb; omega)
      have hR9 : Blk w9 w.heap.size 45 #[.int .i64 0, .int .i64 0, .slice none 0 0] := HS.out.2.1.grown hg9 (fun e => by have := hgv _ e.symm; omega)
      by_cases hE0 : E = 0
      · subst hE0
        obtain ⟨own9, hk9, hn9⟩ := hok rfl
        obtain ⟨A9, c9, rfl⟩ := own_slice own9
        have hB9 : Blk w9 w3.heap.size 45 #[.int .i64 1, .int .i64 20, .slice Av dl.length cv] := HS.out.2.2.2.1.grown hg9 (fun e => own_blk_ne HS.out.2.2.2.2 HS.out.2.2.2.1 (by decide) e.symm)
        have c29 : w9.cell? ⟨w3.heap.size, 2, none⟩ = some (.slice Av dl.length cv) := (hB9.cell 2).trans rfl
        have f29 : w9.frozen? ⟨w3.heap.size, 2, none⟩ = false := hB9.frozen 2
        have hBs := hB9.set_ 2 (.slice A9 RD.length c9)
        have hRs : Blk (w9.setCell ⟨w3.heap.size, 2, none⟩ (.slice A9 RD.length c9)) w.heap.size 45 #[.int .i64 0, .int .i64 0, .slice none 0 0] := hR9.far (by show w.heap.size ≠ w3.heap.size; omega) _
        have hbs := hbw9.setCell (p := ⟨w3.heap.size, 2, none⟩) (by show w.heap.size ≤ w3.heap.size; omega) (.slice A9 RD.length c9)
        have hos := ownsRow_setCell_other own9 (a := ⟨w3.heap.size, 2, none⟩) hn9 (.slice A9 RD.length c9)
        have hks : BlksAt (w9.setCell ⟨w3.heap.size, 2, none⟩ (.slice A9 RD.length c9)) (PhiT w9 w3.heap.size w3.heap.size (.slice A9 RD.length c9)) RD ys := BlksAt.keep (fun b hp => Below.heap_setCell _ _ _ _ hp.2.2.1) (fun b hp => hp) hk9
        have hss : (w9.setCell ⟨w3.heap.size, 2, none⟩ (.slice A9 RD.length c9)).heap.size = w9.heap.size := by simp [World.setCell]
        have H9 := Lib.hid (And.intro hBs (And.intro hRs (And.intro hbs (And.intro hos (And.intro hks hss)))))
        clear own9 hk9 hn9 hB9 hR9 hbw9 hg9 hok hBs hRs hbs hos hks hss hgv
        go_upto_region 26 with fail
        clear c29 f29
        generalize w9.setCell ⟨w3.heap.size, 2, none⟩ (.slice A9 RD.length c9) = w10 at *
        have hBx := H9.out.1
        have hRx := H9.out.2.1
        go_wp2_with (first
          | (refine wpList_load_box rfl 45 _ rfl (w3.heap.size) rfl 45 #[.int .i64 1, .int .i64 20, .slice A9 RD.length c9] hBx _ Try.underlying45 rfl tape3Info (fun (_ : Hid _) => ?_))
          | (refine wpList_store_box rfl 45 _ _ rfl (w.heap.size) #[.int .i64 1, .int .i64 20, .slice A9 RD.length c9] rfl rfl 45 #[.int .i64 0, .int .i64 0, .slice none 0 0] hRx tape3Info rfl (by simp [Value.oneCell']) ?_)
          | fail)
        intro w11 hB11 hg11
        have H11 := Lib.hid hg11
        clear hg11 hBx hRx
        go_wp2_with fail
        refine bodyPost_ret (results_cell_tmp9 rfl _ _ w.heap.size 45 _ (0, 0) _ rfl hB11 Try.underlying45 rfl tape3Info) rfl ?_
        obtain ⟨_, _, hbs, hos, hks, hss⟩ := H9.out
        have hg11 := H11.out
        have hs11 := hg11.size
        rw [HS.out.1, if_neg (by simp)]
        refine ⟨A9, _, c9, ys, rfl, ?_, BlksAt.keep (fun b hp => hg11.block b (by have := hp.2.1; omega) (by intro e; injection e with e; have := hp.1; omega)) (fun b hp => ⟨by have := hp.1; omega, by have := hp.2.1; omega⟩) hks, hbs.grown hg11 hbs.size (fun b hb => by injection hb with hb; omega)⟩
        exact (RdP.of_own (hos.kept hg11 (.inr (fun e => by have := (hos.lt _ e).1; omega)))).keep (fun b _ => rfl) (fun b hp => ⟨by have := hp.1; omega, hp.2⟩)
      · have hEB : (E == 0) = false := by simpa using hE0
        have HEZ := Lib.hid hE0
        have H9 := Lib.hid hbw9
        clear hbw9 hok hg9 hgv
        go_wp2_with (first
          | (refine wpList_store_box rfl 45 _ _ rfl (w.heap.size) #[.int .i64 0, .int .i64 0, .slice none 0 0] rfl rfl 45 #[.int .i64 0, .int .i64 0, .slice none 0 0] hR9 tape3Info rfl (by simp [Value.oneCell']) ?_)
          | fail)
        intro w11 hB11 hg11
        have H11 := Lib.hid hg11
        clear hg11
        go_wp2_with fail
        refine bodyPost_ret (results_cell_tmp9 rfl _ _ w.heap.size 45 _ (0, 0) _ rfl hB11 Try.underlying45 rfl tape3Info) rfl ?_
        rw [HS.out.1, if_pos HEZ.out]
        refine ⟨none, 0, 0, [], ?_, RdP.none_, rfl, H9.out.grown H11.out H9.out.size (fun b hb => by injection hb with hb; omega)⟩
        show _ = Ending.returned (.tuple #[.agg #[.int .i64 (if E = 0 then 1 else 0), .int .i64 (if E = 0 then 20 else 0), .slice none 0 0], .int .i64 E])
        rw [if_neg HEZ.out, if_neg HEZ.out]
        rfl
end Go.Proofs.Ytckgmnlmimogjaa
