/- Layer 26 for 27: the document's tape of a recording. -/
import Derived.Test.YtckgmnlmimogjaaNt1
import Derived.Deep.CutRange
import Derived.Deep.RegionHeld3
namespace Go.Proofs.Ytckgmnlmimogjaa
open Go.RowKit

theorem shN_zero {a : Int} {l : List Int} (h : 65535 < a) : shN (a :: l) = 0 := by
  unfold shN
  rw [List.take_succ_cons, List.takeWhile_cons_of_neg (by simpa using h)]
  rfl
theorem shN_pos {a : Int} {l : List Int} (h : a ≤ 65535) : 1 ≤ shN (a :: l) := by
  unfold shN
  rw [List.take_succ_cons, List.takeWhile_cons_of_pos (by simpa using h), List.length_cons]
  omega
theorem drop_get {l : List Int} {k : Nat} (h : k < l.length) : l.drop k = l.getD k 0 :: l.drop (k + 1) := by
  rw [List.drop_eq_getElem_cons h, List.getD_eq_getElem?_getD, List.getElem?_eq_getElem h]
  rfl
theorem xs_zero {w w6 : World} {base n c : Nat} {Al : Option Addr} {ls : List Int} (ho : w.ownsRow base 3 1 (.slice Al n c) n (ls.map (Value.int .i64))) (hn : n = ls.length) (hb : Blk w6 w.heap.size 45 #[.int .i64 1, .int .i64 20, .slice none 0 0]) (hg : Below w.heap.size w w6) :
    XS w6 base w.heap.size (.slice none 0 0) [] Al ls := by
  subst hn
  refine ⟨⟨hb, [], World.ownsRow_nil _ _ _ _, rfl⟩, ?_⟩
  have hs := hb.lt
  exact (RdP.of_own ho).keep (fun b hp => hg.block b hp.2) (fun b hp => ⟨hp.1, by omega, by omega, by simp [Value.ownBlock]⟩)
def LoopR (w0 : World) (tb : Nat) (u : Int) (Al : Option Addr) (ls : List Int) (x : Value) (wr : World) : Prop :=
  ∃ (k f : Nat) (dl : List BD) (V : Value), x = .int .i64 k ∧ k ≤ ls.length ∧ XS wr w0.heap.size tb V dl Al ls ∧ dl ++ chF f (ls.drop k) = lvlD u :: chF ls.length ls ∧ ls.length ≤ f + k ∧ dl.length + (ls.length - k) ≤ 4003 ∧ Below w0.heap.size w0 wr
def LoopI (wb : World) (k K : Nat) (zs : List Int) (x : Value) (wx : World) : Prop :=
  ∃ (j : Nat) (tv : Value), x = .int .i64 (k + j) ∧ j ≤ K ∧ Blk wx wb.heap.size 33 #[.int .i64 19, .int .i64 0, .int .i64 0, .int .i64 0, .int .i64 0, .int .i64 0, .int .i64 0, .int .i64 0, .int .i64 0, .int .i64 0, .int .i64 0, .int .i64 0, .slice none 0 0, tv, .slice none 0 0, .slice none 0 0, .slice none 0 0, .slice none 0 0] ∧ wx.ownsRow wb.heap.size 3 1 tv j ((zs.take j).map (Value.int .i64)) ∧ Below wb.heap.size wb wx

set_option maxRecDepth 100000 in
set_option maxHeartbeats 16000000 in
theorem exactr_any (w : World) (high : Bool) (A : Option Addr) (n c : Nat) (gs : List Int) (hr : Reads w w.heap.size 1 A n (gs.map (Value.int .u32))) (hz : isU32 gs) (hn : n ≤ 4000) :
    Calls Try.prog 44 #[.bool high, .slice A n c] w fun e w' => ∃ A' m c' xs, e = .returned (.tuple #[.agg #[.int .i64 (exV gs).1, .int .i64 (exV gs).2.1, .slice A' m c'], .int .i64 (exV gs).2.2]) ∧ RdP w' (fun b => w.heap.size ≤ b ∧ b < w'.heap.size) 18 A' m xs ∧ BlksAt w' (fun b => w.heap.size ≤ b ∧ b < w'.heap.size) (exL high gs) xs ∧ Below w.heap.size w w' := by
  obtain ⟨i0, hi, hz0, hz1, hz2⟩ := info_parts intInfo4
  obtain ⟨i1, hj, hy0, hy1, hy2⟩ := info_parts blkInfo4
  have hl := reads_len hr
  have HG := Lib.hid (And.intro hr (And.intro hz hl))
  clear hr hz hl
  go_enter Try.func44, Try.ntmps44
  go_upto_region 1 with fail
  have hs0 : (w.alloc (.cells #[.int .i64 0, .int .i64 0, .slice none 0 0] 45)).heap.size = w.heap.size + 1 := by simp
  have hR0 : Blk (w.alloc (.cells #[.int .i64 0, .int .i64 0, .slice none 0 0] 45)) w.heap.size 45 #[.int .i64 0, .int .i64 0, .slice none 0 0] := Blk.new w _ _
  have hb0 : Below w.heap.size w (w.alloc (.cells #[.int .i64 0, .int .i64 0, .slice none 0 0] 45)) := (Below.refl _ _).alloc (Nat.le_refl _) _
  generalize (w.alloc (.cells #[.int .i64 0, .int .i64 0, .slice none 0 0] 45)) = w0 at *
  have HM := Lib.hid (And.intro hs0 (And.intro hR0 hb0))
  clear hs0 hR0 hb0
  go_wp2_with fail
  go_loopw [6, 7] (fun v i wr => ∃ j : Nat, j ≤ n ∧ i = .int .i64 j ∧ wr.ownsRow w0.heap.size 3 1 v j ((gs.take j).map (Value.int .i64)) ∧ (∀ k, k < j → gs.getD k 0 ≠ 0) ∧ Below w0.heap.size w0 wr) (fun _ i _ => n - (intOf i).toNat)
  case atStart => exact ⟨0, by omega, rfl, World.ownsRow_nil _ _ _ _, fun k hk => absurd hk (by omega), Below.refl _ _⟩
  case round =>
    obtain ⟨j, hjn, rfl, hown, hne, hbl⟩ := hrel
    have hj0 : (0 : Int) ≤ (j : Int) := Int.natCast_nonneg _
    have hsz := hbl.size
    by_cases hlt : j < n
    · have hwj : IntKind.i64.wrap ((j : Int) + 1) = (j : Int) + 1 := by rw [IntKind.wrap_i64]; omega
      have hjI : (j : Int) < (n : Int) := by omega
      have hbw : Below w.heap.size w wr := HM.out.2.2.trans (hbl.mono (by have := HM.out.1; omega))
      obtain ⟨ad, rfl, _, hc⟩ := i32_at (HG.out.1.below hbw) hlt
      obtain ⟨z0, z1⟩ := isU32_at HG.out.2.1 (k := j) (by rw [HG.out.2.2]; exact hlt)
      have hsn := take_snocI gs j (by rw [HG.out.2.2]; exact hlt)
      have HSN := Lib.hid hsn
      clear hsn
      have HNE := Lib.hid hne
      clear hne
      by_cases hg0 : gs.getD j 0 = 0
      · rw [hg0] at hc
        have HMEM := Lib.hid (mem_of_getD (by rw [HG.out.2.2]; exact hlt) hg0)
        have hRx : Blk wr w.heap.size 45 #[.int .i64 0, .int .i64 0, .slice none 0 0] := HM.out.2.1.below hbl (by have := HM.out.1; omega)
        have HBW := Lib.hid hbw
        clear hbw hbl hown hg0 z0 z1 HNE HSN
        go_wp2_with (first
          | (refine wpList_store_box rfl 45 _ _ rfl (w.heap.size) #[.int .i64 0, .int .i64 0, .slice none 0 0] rfl rfl 45 #[.int .i64 0, .int .i64 0, .slice none 0 0] hRx tape3Info rfl (by simp [Value.oneCell']) ?_)
          | fail)
        intro w9 hB9 hg9
        have HZ := Lib.hid (HBW.out.grown hg9 HBW.out.size (fun b hb => by injection hb with hb; omega))
        clear hRx hg9
        go_wp2_with fail
        refine bodyPost_ret (results_cell_tmp9 rfl _ _ w.heap.size 45 _ (0, 0) _ rfl hB9 Try.underlying45 rfl tape3Info) rfl ?_
        have hm := HMEM.out
        rw [show exV gs = (0, 0, 5) from if_pos hm, show exL high gs = [] from if_pos hm]
        exact ⟨none, 0, 0, [], rfl, RdP.none_, rfl, HZ.out⟩
      · have HG0 := Lib.hid hg0
        generalize hzd : gs.getD j 0 = z at *
        have HZD := Lib.hid hzd
        clear hzd
        have hwz : IntKind.i64.wrap z = z := by rw [IntKind.wrap_i64]; omega
        have hz9 : (z == 0) = false := by simpa using hg0
        have HC := Lib.hid (And.intro (lit_cells wr [.int .i64 z] 3) (And.intro (show ∀ u ∈ [Value.int .i64 z], u.oneCell' = true by intro u hu; simp at hu; rcases hu with rfl; rfl) (And.intro (show j + 1 ≤ maxLen by unfold maxLen; omega) (And.intro (show (j + 1) * 8 ≤ 140737488355328 by omega) (show w0.heap.size ≤ (wr.alloc (.cells #[.int .i64 z] 3)).heap.size by simp; omega)))))
        have HX := Lib.hid (And.intro hown hbl)
        have hown9 := hown.alloc (.cells #[.int .i64 z] 3)
        clear hbw hbl hown
        go_wp2_with (first
          | (at_builtin; refine wpList_append_own _ rfl _ _ 28 rfl w0.heap.size 3 i0 (.int .i64 0) 1 8 Try.underlying28 hi hz0 hz1 hz2 rfl (by decide) _ _ _ rfl hown9 ⟨wr.heap.size, 0, none⟩ 1 1 [.int .i64 z] rfl rfl HC.out.1 HC.out.2.1 HC.out.2.2.1 HC.out.2.2.2.1 HC.out.2.2.2.2 ?_)
          | go_in)
        intro v' w1 hown' hgrow _
        obtain ⟨hown, hbl⟩ := HX.out
        have hb1 : Below w0.heap.size w0 w1 := (hbl.alloc hsz (.cells #[.int .i64 z] 3)).grown hgrow (by simp; omega) (fun i hi => (hown.lt i hi).1)
        have hsn := HSN.out
        have HR := Lib.hid (show w1.ownsRow w0.heap.size 3 1 v' (j + 1) ((gs.take (j + 1)).map (Value.int .i64)) by rw [hsn, List.map_append]; simpa using hown')
        have HR2 := Lib.hid hb1
        clear hown hbl hown' hgrow hb1 hsn hown9
        go_wp2
        go_roundw
        case rel => exact ⟨j + 1, by omega, by go_num, HR.out, fun k hk => by
            rcases Nat.lt_or_ge k j with h | h
            · exact HNE.out k h
            · obtain rfl : k = j := by omega
              rw [HZD.out]; exact HG0.out, HR2.out⟩
        case measure => simp [intOf]; omega
    · obtain rfl : j = n := by omega
      rw [show gs.take j = gs by rw [← HG.out.2.2, List.take_length]] at hown
      have hnz := nz_of_all (gs := gs) (fun k hk => hne k (by rw [← HG.out.2.2]; exact hk))
      have HNZ := Lib.hid hnz
      have HX := Lib.hid (And.intro hown hbl)
      clear hne hnz
      obtain ⟨A1, c1, rfl⟩ := own_slice hown
      clear hown hbl
      go_upto_if 34 with fail
      go_cut [6, 34] from 35 to 37 (fun v _ wx => ∃ (r : Nat), r = (exG gs).length ∧ wx.ownsRow w0.heap.size 3 1 v r ((exG gs).map (Value.int .i64)) ∧ Below w0.heap.size w0 wx)
      case first =>
        obtain ⟨hown, hbl⟩ := HX.out
        by_cases hjp : 0 < j
        · have hjI : (0 : Int) < (j : Int) := by omega
          have hgx : exG gs = gs ++ [3500] := by unfold exG; rw [if_neg (by intro e; have := HG.out.2.2; rw [e] at this; simp at this; omega)]
          have HGX := Lib.hid hgx
          have HC := Lib.hid (And.intro (lit_cells wr [.int .i64 3500] 3) (And.intro (show ∀ u ∈ [Value.int .i64 3500], u.oneCell' = true by intro u hu; simp at hu; rcases hu with rfl; rfl) (And.intro (show j + 1 ≤ maxLen by unfold maxLen; omega) (And.intro (show (j + 1) * 8 ≤ 140737488355328 by omega) (show w0.heap.size ≤ (wr.alloc (.cells #[.int .i64 3500] 3)).heap.size by simp; omega)))))
          have hown9 := hown.alloc (.cells #[.int .i64 3500] 3)
          clear hown hbl hgx
          go_wp2_with (first
            | (at_builtin; refine wpList_append_own _ rfl _ _ 28 rfl w0.heap.size 3 i0 (.int .i64 0) 1 8 Try.underlying28 hi hz0 hz1 hz2 rfl (by decide) _ _ _ rfl hown9 ⟨wr.heap.size, 0, none⟩ 1 1 [.int .i64 3500] rfl rfl HC.out.1 HC.out.2.1 HC.out.2.2.1 HC.out.2.2.2.1 HC.out.2.2.2.2 ?_)
            | go_in)
          intro v' w1 hown' hgrow _
          obtain ⟨hown, hbl⟩ := HX.out
          have hb1 : Below w0.heap.size w0 w1 := (hbl.alloc hsz (.cells #[.int .i64 3500] 3)).grown hgrow (by simp; omega) (fun i hi => (hown.lt i hi).1)
          have HR := Lib.hid (And.intro hown' hb1)
          clear hown hbl hown' hgrow hb1 hown9
          go_wp2_with fail
          go_meet
          refine ⟨j + 1, by rw [HGX.out, List.length_append, HG.out.2.2]; rfl, ?_, HR.out.2⟩
          rw [HGX.out, List.map_append]
          exact HR.out.1
        · obtain rfl : j = 0 := by omega
          have hgx : gs = [] := List.eq_nil_of_length_eq_zero HG.out.2.2
          have HGX := Lib.hid hgx
          clear hown hbl hgx
          go_wp2_with fail
          go_meet
          refine ⟨0, by rw [HGX.out]; rfl, ?_, HX.out.2⟩
          have := HX.out.1
          rw [HGX.out] at this ⊢
          exact this
      case rest =>
      rename World => wc
      obtain ⟨r, hr, hown, hbl⟩ := hcut
      obtain ⟨A2, c2, rfl⟩ := own_slice hown
      clear HX hsz
      have hlR : r ≤ 4001 := by have := exG_len gs; have := HG.out.2.2; omega
      have HIN := Lib.hid (exG_in HG.out.2.1)
      have HEX := Lib.hid (show ∀ (u : Int) (dl : List BD), u = useI high → dl = lvlD u :: chF (exG gs).length (exG gs) → exL high gs = dl from fun u dl hu hd => by rw [hd, hu]; exact if_neg HNZ.out)
      have HEV := Lib.hid (show exV gs = (1, 20, 0) from if_neg HNZ.out)
      generalize exG gs = ls at *
      have HO := Lib.hid (And.intro hown (And.intro hr hbl))
      clear hown hr hbl
      obtain ⟨u, hu⟩ : ∃ u : Int, u = useI high := ⟨_, rfl⟩
      have HU := Lib.hid hu
      clear hu
      go_upto_if 38 with fail
      go_cut [8] from 8 to 8 (fun x wx => x = .int .i64 u ∧ wc = wx)
      case first =>
        cases high with
        | true =>
          go_wp2_with fail
          go_meet
          exact ⟨by rw [HU.out]; rfl, rfl⟩
        | false =>
          go_wp2_with fail
          go_meet
          exact ⟨by rw [HU.out]; rfl, rfl⟩
      case rest =>
      obtain ⟨rfl, rfl⟩ := hcut
      go_upto_region 14 with (first
        | (refine wpList_store_box rfl 45 _ _ rfl (wc.heap.size) #[.int .i64 1, .int .i64 20, .slice none 0 0] rfl rfl 45 #[.int .i64 0, .int .i64 0, .slice none 0 0] (Blk.new wc _ _) tape3Info rfl (by simp [Value.oneCell']) ?_)
        | fail)
      intro w6 hB6 hg6
      have hb6 : Below wc.heap.size wc w6 := ((Below.refl _ _).alloc (Nat.le_refl _) _).grown hg6 (by simp) (fun b hb => by injection hb with hb; omega)
      have hX6 := xs_zero HO.out.1 HO.out.2.1 hB6 hb6
      have hbl6 : Below w0.heap.size w0 w6 := HO.out.2.2.trans (hb6.mono HO.out.2.2.size)
      have hrl : r = ls.length := HO.out.2.1
      obtain ⟨tb, htb⟩ : ∃ tb : Nat, tb = wc.heap.size := ⟨_, rfl⟩
      rw [← htb] at hX6 hB6
      have hbt : w0.heap.size ≤ tb := by rw [htb]; exact HO.out.2.2.size
      have htl : tb < w6.heap.size := hB6.lt
      have c2t : w6.cell? ⟨tb, 2, none⟩ = some (.slice none 0 0) := (hB6.cell 2).trans rfl
      have f2t : w6.frozen? ⟨tb, 2, none⟩ = false := hB6.frozen 2
      have HCB := Lib.hid (And.intro (lit_cells w6 [.int .i64 43, .int .i64 0, .int .i64 0, .int .i64 0, .int .i64 0, .int .i64 0, .int .i64 0, .int .i64 0, .int .i64 0, .int .i64 u, .int .i64 0, .int .i64 0, .slice none 0 0, .slice none 0 0, .slice none 0 0, .slice none 0 0, .slice none 0 0, .slice none 0 0] 33) (And.intro (lvl_at w6 (fun _ => True) u).one (And.intro (show (0 : Nat) + 1 ≤ maxLen by unfold maxLen; omega) (And.intro (show (0 + 1) * 240 ≤ 140737488355328 by omega) (show w0.heap.size ≤ (w6.alloc (.cells #[.int .i64 43, .int .i64 0, .int .i64 0, .int .i64 0, .int .i64 0, .int .i64 0, .int .i64 0, .int .i64 0, .int .i64 0, .int .i64 u, .int .i64 0, .int .i64 0, .slice none 0 0, .slice none 0 0, .slice none 0 0, .slice none 0 0, .slice none 0 0, .slice none 0 0] 33)).heap.size by simp; omega)))))
      have HRD := Lib.hid (show Reads (w6.alloc (.cells #[.int .i64 43, .int .i64 0, .int .i64 0, .int .i64 0, .int .i64 0, .int .i64 0, .int .i64 0, .int .i64 0, .int .i64 0, .int .i64 u, .int .i64 0, .int .i64 0, .slice none 0 0, .slice none 0 0, .slice none 0 0, .slice none 0 0, .slice none 0 0, .slice none 0 0] 33)) (w6.heap.size + 1) 18 (some ⟨w6.heap.size, 0, none⟩) 1 [.int .i64 43, .int .i64 0, .int .i64 0, .int .i64 0, .int .i64 0, .int .i64 0, .int .i64 0, .int .i64 0, .int .i64 0, .int .i64 u, .int .i64 0, .int .i64 0, .slice none 0 0, .slice none 0 0, .slice none 0 0, .slice none 0 0, .slice none 0 0, .slice none 0 0] from ⟨rfl, fun _ => ⟨_, rfl, by show w6.heap.size < w6.heap.size + 1; omega, HCB.out.1⟩⟩)
      have hown0 : (w6.alloc (.cells #[.int .i64 43, .int .i64 0, .int .i64 0, .int .i64 0, .int .i64 0, .int .i64 0, .int .i64 0, .int .i64 0, .int .i64 0, .int .i64 u, .int .i64 0, .int .i64 0, .slice none 0 0, .slice none 0 0, .slice none 0 0, .slice none 0 0, .slice none 0 0, .slice none 0 0] 33)).ownsRow w0.heap.size 33 18 (.slice none 0 0) 0 [] := World.ownsRow_nil _ _ _ _
      have H6 := Lib.hid (And.intro hX6 (And.intro hbl6 hB6))
      clear hX6 hbl6 hB6 hb6 hg6
      try rw [← htb]
      clear htb
      go_upto_region 15 with (first
        | (at_builtin; refine wpList_append_any _ rfl _ _ 43 rfl w0.heap.size 33 i1 (.agg #[.int .i64 0, .int .i64 0, .int .i64 0, .int .i64 0, .int .i64 0, .int .i64 0, .int .i64 0, .int .i64 0, .int .i64 0, .int .i64 0, .int .i64 0, .int .i64 0, .slice none 0 0, .slice none 0 0, .slice none 0 0, .slice none 0 0, .slice none 0 0, .slice none 0 0]) 18 240 Try.underlying43 hj hy0 hy1 hy2 rfl (by decide) _ _ _ rfl hown0 (w6.heap.size + 1) (some ⟨w6.heap.size, 0, none⟩) 1 1 [.int .i64 43, .int .i64 0, .int .i64 0, .int .i64 0, .int .i64 0, .int .i64 0, .int .i64 0, .int .i64 0, .int .i64 0, .int .i64 u, .int .i64 0, .int .i64 0, .slice none 0 0, .slice none 0 0, .slice none 0 0, .slice none 0 0, .slice none 0 0, .slice none 0 0] rfl HRD.out HCB.out.2.1 HCB.out.2.2.1 HCB.out.2.2.2.1 HCB.out.2.2.2.2 ?_)
        | go_in)
      intro v' w7 hown' hgrow hv'
      obtain ⟨A7, c7, rfl⟩ := own_slice hown'
      obtain ⟨hX6, hbl6, hB6⟩ := H6.out
      have hB7 := (hB6.alloc (.cells #[.int .i64 43, .int .i64 0, .int .i64 0, .int .i64 0, .int .i64 0, .int .i64 0, .int .i64 0, .int .i64 0, .int .i64 0, .int .i64 u, .int .i64 0, .int .i64 0, .slice none 0 0, .slice none 0 0, .slice none 0 0, .slice none 0 0, .slice none 0 0, .slice none 0 0] 33)).grown hgrow (by simp [Value.ownBlock])
      have c2t7 : w7.cell? ⟨tb, 2, none⟩ = some (.slice none 0 0) := (hB7.cell 2).trans rfl
      have f2t7 : w7.frozen? ⟨tb, 2, none⟩ = false := hB7.frozen 2
      have hX7 := xs_step (V := .slice none 0 0) (v' := .slice A7 (0 + 1) c7) (dl := []) (xs := []) hB6 rfl hX6.2 (lvl_at _ _ u) hown' hgrow (by simpa using hv') (by simp [Value.ownBlock])
      have hbl7 : Below w0.heap.size w0 (w7.setCell ⟨tb, 2, none⟩ (.slice A7 (0 + 1) c7)) := ((hbl6.alloc hbl6.size _).grown hgrow (by simp; omega) (by simp [Value.ownBlock])).setCell hbt _
      have H7 := Lib.hid (And.intro hX7 hbl7)
      clear hX6 hbl6 hB6 hB7 hX7 hbl7 hown' hgrow hv' hown0 c2t f2t HCB
      go_wp2_with fail
      clear c2t7 f2t7
      go_loopw [10] (fun x wr => LoopR w0 tb u A2 ls x wr) (fun x _ => ls.length - (intOf x).toNat)
      case atStart =>
        have h7 := H7.out
        exact ⟨0, ls.length, [lvlD u], _, rfl, Nat.zero_le _, h7.1, rfl, Nat.le_refl _, by simp; omega, h7.2⟩
      case round =>
        obtain ⟨k, f, dl, V, rfl, hk, hXS, hch, hf, hdl, hbl⟩ := hrel
        obtain ⟨wo, rfl⟩ : ∃ wo : World, wo = wr := ⟨_, rfl⟩
        have hXS9 := hXS
        obtain ⟨⟨hB, xs, hown, hbk⟩, hl⟩ := hXS9
        obtain ⟨Av, cv, rfl⟩ := own_slice hown
        have hk0 : (0 : Int) ≤ (k : Int) := Int.natCast_nonneg _
        by_cases hkl : k < r
        · have hkI : (k : Int) < (r : Int) := by omega
          have hkL : k < ls.length := by omega
          obtain ⟨f, rfl⟩ : ∃ g, f = g + 1 := ⟨f - 1, by omega⟩
          have hdr := drop_get hkL
          have hLR : Reads wo wo.heap.size 1 A2 ls.length (ls.map (Value.int .i64)) := hl.reads (fun b hp => hp.2.1)
          obtain ⟨ad, rfl, had, hc0⟩ := i32_at hLR (k := k) hkL
          obtain ⟨a, haD⟩ : ∃ a : Int, a = ls.getD k 0 := ⟨_, rfl⟩
          have ha := HIN.out a (by rw [haD]; exact mem_of_getD hkL rfl)
          rw [← haD] at hdr hc0
          have hch9 : dl ++ (chD a (ls.drop (k + 1)) :: chF f (ls.drop (k + chK a (ls.drop (k + 1))))) = lvlD u :: chF ls.length ls := by
            rw [← hch, hdr]
            show _ = dl ++ (chD a (ls.drop (k + 1)) :: chF f ((a :: ls.drop (k + 1)).drop (chK a (ls.drop (k + 1)))))
            rw [← hdr, List.drop_drop]
          obtain ⟨k1, k2⟩ := chK_in a (ls.drop (k + 1))
          rw [← hdr, List.length_drop] at k2
          have hbs : w0.heap.size ≤ wo.heap.size := hbl.size
          have htb9 : tb < wo.heap.size := hB.lt
          have HDR := Lib.hid (And.intro hdr (And.intro haD hLR))
          have HCH := Lib.hid (And.intro hch9 (And.intro k1 k2))
          have HXS := Lib.hid (And.intro hXS (And.intro hB (And.intro hown (And.intro hbk (And.intro hl hbl)))))
          have HDL := Lib.hid (And.intro hdl hf)
          have hdl9 : dl.length ≤ 4003 := by omega
          clear hXS hch hdr hLR haD hch9 k1 k2 hown hbk hl hbl hB hf hdl
          have h20 : w0.heap.size ≤ wo.heap.size := hbs
          by_cases hbig : 65535 < a
          · have hS0 := shN_zero (l := ls.drop (k + 1)) hbig
            have HS0 := Lib.hid hS0
            clear hS0
            obtain ⟨m, rfl⟩ : ∃ m : Nat, a = (m : Int) := ⟨a.toNat, by omega⟩
            have HLG := Lib.hid (fun (W : World) => longr_any W m (by omega) (by omega))
            have hgI : (65535 : Int) < (m : Int) := hbig
            go_upto_region 18 with fail
            obtain ⟨d, hd⟩ : ∃ d : BD, d = longD m := ⟨_, rfl⟩
            rw [← hd] at HLG
            have HD := Lib.hid hd
            clear hd
            obtain ⟨ad', e9, hphi, _⟩ := HXS.out.2.2.2.2.1.2 (by omega)
            injection e9 with e9
            subst e9
            have HPH := Lib.hid hphi
            clear hphi
            have hbW : Below wo.heap.size wo wo.drew := (Below.refl _ _).drew
            have c2W : wo.drew.cell? ⟨tb, 2, none⟩ = some (.slice Av dl.length cv) := (HXS.out.2.1.cell 2).trans rfl
            refine wp_region_held_drew (S := fun w' => w'.cell? (ad.add k) = some (.int .i64 (m : Int))) (by kernel_rfl) ?_ (fun hHeld => ?_)
            · exact hc0
            have HBW := Lib.hid hbW
            clear hbW
            have hSW : wo.drew.cell? (ad.add k) = some (.int .i64 (m : Int)) := hHeld
            generalize wo.drew = W at *
            refine wpAnyH_take (i := 0) (oi := _) (v := ?_) (by simp only [List.getElem?_toArray, List.getElem?_cons_succ, List.getElem?_cons_zero]; rfl) (by kernel_rfl) (by kernel_rfl) (by kernel_rfl) (by intro _ _ _ h; exact h) (Or.inl ⟨by rfl, ?_⟩) (by assumption) ?_
            rotate_left
            · intro w hSw
              try dsimp only at hSw
              go_simp
              try with_reducible rfl
            try simp only [Act.put, List.setIfInBounds_toArray, List.set_cons_zero, List.set_cons_succ]
            refine wpAnyH_take (i := 2) (oi := _) (v := ?_) (by simp only [List.getElem?_toArray, List.getElem?_cons_succ, List.getElem?_cons_zero]; rfl) (by kernel_rfl) (by kernel_rfl) (by kernel_rfl) (by intro _ _ _ h; exact h) (Or.inl ⟨by rfl, ?_⟩) (by assumption) ?_
            rotate_left
            · intro w hSw
              try dsimp only at hSw
              go_simp
              try with_reducible rfl
            try simp only [Act.put, List.setIfInBounds_toArray, List.set_cons_zero, List.set_cons_succ]
            refine wpAnyH_take (i := 3) (oi := _) (v := ?_) (by simp only [List.getElem?_toArray, List.getElem?_cons_succ, List.getElem?_cons_zero]; rfl) (by kernel_rfl) (by kernel_rfl) (by kernel_rfl) (by intro _ _ _ h; exact h) (Or.inl ⟨by rfl, ?_⟩) (by assumption) ?_
            rotate_left
            · intro w hSw
              try dsimp only at hSw
              go_simp
              try with_reducible rfl
            try simp only [Act.put, List.setIfInBounds_toArray, List.set_cons_zero, List.set_cons_succ]
            refine wpAnyH_take (i := 4) (oi := _) (v := ?_) (by simp only [List.getElem?_toArray, List.getElem?_cons_succ, List.getElem?_cons_zero]; rfl) (by kernel_rfl) (by kernel_rfl) (by kernel_rfl) (by intro _ _ _ h; exact h) (Or.inl ⟨by rfl, ?_⟩) (by assumption) ?_
            rotate_left
            · intro w hSw
              try dsimp only at hSw
              go_simp
              try with_reducible rfl
            try simp only [Act.put, List.setIfInBounds_toArray, List.set_cons_zero, List.set_cons_succ]
            refine wpAnyH_take (i := 5) (oi := _) (v := ?_) (by simp only [List.getElem?_toArray, List.getElem?_cons_succ, List.getElem?_cons_zero]; rfl) (by kernel_rfl) (by kernel_rfl) (by kernel_rfl) (by intro _ _ _ h; exact h) (Or.inl ⟨by rfl, ?_⟩) (by assumption) ?_
            rotate_left
            · intro w hSw
              try dsimp only at hSw
              go_simp
              try with_reducible rfl
            try simp only [Act.put, List.setIfInBounds_toArray, List.set_cons_zero, List.set_cons_succ]
            refine wpAnyH_ready (rs := [1, 6]) (by kernel_rfl) (by simp) ?_
            refine AllReadyH.cons (o := _) (by simp only [List.getElem?_toArray, List.getElem?_cons_succ, List.getElem?_cons_zero]; rfl) (fun K hK => ?_) (AllReadyH.cons (o := _) (by simp only [List.getElem?_toArray, List.getElem?_cons_succ, List.getElem?_cons_zero]; rfl) (fun K hK => ?_) AllReadyH.nil)
            · go_simp
              refine hK.out _ _ ?_ (fun hHeld => ?_)
              · assumption
              clear hK K
              try simp only [Act.put, List.setIfInBounds_toArray, List.set_cons_zero, List.set_cons_succ]
              refine wpAnyH_ready (rs := [6]) (by kernel_rfl) (by simp) ?_
              refine AllReadyH.cons (o := _) (by simp only [List.getElem?_toArray, List.getElem?_cons_succ, List.getElem?_cons_zero]; rfl) (fun K hK => ?_) AllReadyH.nil
              go_simp
              go_wp2_with fail
              refine (HLG.out _).mono ?_
              rintro e w2 ⟨cs, rfl, hcs, hb2⟩
              have hbr2 : Below wo.heap.size wo w2 := HBW.out.trans (hb2.mono HBW.out.size)
              have hs2 := hb2.size
              have hsW := HBW.out.size
              obtain ⟨⟨hB2, ys, hown2, hbk2⟩, hl2⟩ := HXS.out.1.below hbr2
              have hc2 := hcs.keep (w' := w2) (ψ := PhiT w2 w0.heap.size tb (.slice Av dl.length cv)) (fun _ _ => rfl) (fun b hb => ⟨by omega, hb.2, by omega, fun e => by have := (HXS.out.2.2.1.lt b e).2; omega⟩)
              have hS2 : w2.cell? (ad.add k) = some (.int .i64 (m : Int)) := (hbr2.cell (p := ad.add k) (by rw [block_of_add]; exact HPH.out.2.1)).trans hc0
              have c22 : w2.cell? ⟨tb, 2, none⟩ = some (.slice Av dl.length cv) := (hB2.cell 2).trans rfl
              obtain ⟨DA, dn, dc, ta, tn, tc, PA, pn, pc, RA, rn, rc, pl, rfl, _⟩ := hcs
              have HC := Lib.hid (And.intro (lit_cells w2 [.int .i64 d.i0, .int .i64 d.i1, .int .i64 d.i2, .int .i64 d.i3, .int .i64 d.i4, .int .i64 d.i5, .int .i64 d.i6, .int .i64 d.i7, .int .i64 d.i8, .int .i64 d.i9, .int .i64 d.i10, .int .i64 d.i11, .slice DA dn dc, .slice ta tn tc, .slice none 0 0, .slice PA pn pc, .slice none 0 0, .slice RA rn rc] 33) (And.intro hc2.one (And.intro (show dl.length + 1 ≤ maxLen by unfold maxLen; omega) (And.intro (show (dl.length + 1) * 240 ≤ 140737488355328 by omega) (show w0.heap.size ≤ (w2.alloc (.cells #[.int .i64 d.i0, .int .i64 d.i1, .int .i64 d.i2, .int .i64 d.i3, .int .i64 d.i4, .int .i64 d.i5, .int .i64 d.i6, .int .i64 d.i7, .int .i64 d.i8, .int .i64 d.i9, .int .i64 d.i10, .int .i64 d.i11, .slice DA dn dc, .slice ta tn tc, .slice none 0 0, .slice PA pn pc, .slice none 0 0, .slice RA rn rc] 33)).heap.size by simp; omega)))))
              have hown9 := hown2.alloc (.cells #[.int .i64 d.i0, .int .i64 d.i1, .int .i64 d.i2, .int .i64 d.i3, .int .i64 d.i4, .int .i64 d.i5, .int .i64 d.i6, .int .i64 d.i7, .int .i64 d.i8, .int .i64 d.i9, .int .i64 d.i10, .int .i64 d.i11, .slice DA dn dc, .slice ta tn tc, .slice none 0 0, .slice PA pn pc, .slice none 0 0, .slice RA rn rc] 33)
              have HRD := Lib.hid (show Reads (w2.alloc (.cells #[.int .i64 d.i0, .int .i64 d.i1, .int .i64 d.i2, .int .i64 d.i3, .int .i64 d.i4, .int .i64 d.i5, .int .i64 d.i6, .int .i64 d.i7, .int .i64 d.i8, .int .i64 d.i9, .int .i64 d.i10, .int .i64 d.i11, .slice DA dn dc, .slice ta tn tc, .slice none 0 0, .slice PA pn pc, .slice none 0 0, .slice RA rn rc] 33)) (w2.heap.size + 1) 18 (some ⟨w2.heap.size, 0, none⟩) 1 [.int .i64 d.i0, .int .i64 d.i1, .int .i64 d.i2, .int .i64 d.i3, .int .i64 d.i4, .int .i64 d.i5, .int .i64 d.i6, .int .i64 d.i7, .int .i64 d.i8, .int .i64 d.i9, .int .i64 d.i10, .int .i64 d.i11, .slice DA dn dc, .slice ta tn tc, .slice none 0 0, .slice PA pn pc, .slice none 0 0, .slice RA rn rc] from ⟨rfl, fun _ => ⟨_, rfl, by show w2.heap.size < w2.heap.size + 1; omega, HC.out.1⟩⟩)
              have c2A : (w2.alloc (.cells #[.int .i64 d.i0, .int .i64 d.i1, .int .i64 d.i2, .int .i64 d.i3, .int .i64 d.i4, .int .i64 d.i5, .int .i64 d.i6, .int .i64 d.i7, .int .i64 d.i8, .int .i64 d.i9, .int .i64 d.i10, .int .i64 d.i11, .slice DA dn dc, .slice ta tn tc, .slice none 0 0, .slice PA pn pc, .slice none 0 0, .slice RA rn rc] 33)).cell? ⟨tb, 2, none⟩ = some (.slice Av dl.length cv) := ((hB2.alloc _).cell 2).trans rfl
              have hS3 : (w2.alloc (.cells #[.int .i64 d.i0, .int .i64 d.i1, .int .i64 d.i2, .int .i64 d.i3, .int .i64 d.i4, .int .i64 d.i5, .int .i64 d.i6, .int .i64 d.i7, .int .i64 d.i8, .int .i64 d.i9, .int .i64 d.i10, .int .i64 d.i11, .slice DA dn dc, .slice ta tn tc, .slice none 0 0, .slice PA pn pc, .slice none 0 0, .slice RA rn rc] 33)).cell? (ad.add k) = some (.int .i64 (m : Int)) := (World.cell?_alloc_lt w2 _ _ (by rw [block_of_add]; have := HPH.out.2.1; omega)).trans hS2
              have HF := Lib.hid (And.intro hB2 (And.intro hbk2 (And.intro hl2 (And.intro hc2 hbr2))))
              have HS := Lib.hid (And.intro hS2 hS3)
              have HSZ := Lib.hid (show wo.heap.size ≤ w2.heap.size by omega)
              clear hB2 hown2 hbk2 hl2 hc2 hS2 hS3 hbr2 hb2 hs2 hsW
              refine hK.out _ _ ?_ (fun hHeld => ?_)
              · exact HS.out.1
              clear hK K
              try simp only [Act.put, List.setIfInBounds_toArray, List.set_cons_zero, List.set_cons_succ]
              refine wpAnyH_ready (rs := [7]) (by kernel_rfl) (by simp) ?_
              refine AllReadyH.cons (o := _) (by simp only [List.getElem?_toArray, List.getElem?_cons_succ, List.getElem?_cons_zero]; rfl) (fun K hK => ?_) AllReadyH.nil
              go_simp
              refine hK.out _ _ ?_ (fun hHeld => ?_)
              · exact HS.out.2
              clear hK K
              try simp only [Act.put, List.setIfInBounds_toArray, List.set_cons_zero, List.set_cons_succ]
              refine wpAnyH_ready (rs := [8]) (by kernel_rfl) (by simp) ?_
              refine AllReadyH.cons (o := _) (by simp only [List.getElem?_toArray, List.getElem?_cons_succ, List.getElem?_cons_zero]; rfl) (fun K hK => ?_) AllReadyH.nil
              refine step_append_any _ (by rfl) _ _ _ (by rfl) w0.heap.size 33 i1 (.agg #[.int .i64 0, .int .i64 0, .int .i64 0, .int .i64 0, .int .i64 0, .int .i64 0, .int .i64 0, .int .i64 0, .int .i64 0, .int .i64 0, .int .i64 0, .int .i64 0, .slice none 0 0, .slice none 0 0, .slice none 0 0, .slice none 0 0, .slice none 0 0, .slice none 0 0]) 18 240 Try.underlying43 hj hy0 hy1 hy2 rfl (by decide) (.slice Av dl.length cv) dl.length ys (by rfl) hown9 (w2.heap.size + 1) (some ⟨w2.heap.size, 0, none⟩) 1 1 [.int .i64 d.i0, .int .i64 d.i1, .int .i64 d.i2, .int .i64 d.i3, .int .i64 d.i4, .int .i64 d.i5, .int .i64 d.i6, .int .i64 d.i7, .int .i64 d.i8, .int .i64 d.i9, .int .i64 d.i10, .int .i64 d.i11, .slice DA dn dc, .slice ta tn tc, .slice none 0 0, .slice PA pn pc, .slice none 0 0, .slice RA rn rc] (by rfl) HRD.out HC.out.2.1 HC.out.2.2.1 HC.out.2.2.2.1 HC.out.2.2.2.2 ?_
              intro v3 w3 own3 hg3 hv3
              obtain ⟨A3, c3, rfl⟩ := own_slice own3
              have hBw3 : Blk w3 tb 45 #[.int .i64 1, .int .i64 20, .slice Av dl.length cv] := (HF.out.1.alloc _).grown hg3 (fun e => own_blk_ne HXS.out.2.2.1 HXS.out.2.1 (by decide) e.symm)
              have hS4 : w3.cell? (ad.add k) = some (.int .i64 (m : Int)) := (World.cell?_of_block (by rw [block_of_add]; exact hg3.block ad.block (by simp; have := HPH.out.2.1; have := HSZ.out; omega) (fun e => HPH.out.2.2.2 e.symm))).trans HS.out.2
              have hS5 : (w3.setCell ⟨tb, 2, none⟩ (.slice A3 (dl.length + 1) c3)).cell? (ad.add k) = some (.int .i64 (m : Int)) := (World.cell?_setCell_other w3 _ _ _ (fun e => HPH.out.2.2.1 (by have h9 := congrArg Addr.block e; rw [block_of_add] at h9; first | exact h9 | exact h9.symm))).trans hS4
              have HS5 := Lib.hid hS5
              clear hS5
              refine hK.out _ _ ?_ (fun hHeld => ?_)
              · exact hS4
              clear hK K
              try simp only [Act.put, List.setIfInBounds_toArray, List.set_cons_zero, List.set_cons_succ]
              have c3w : w3.cell? ⟨tb, 2, none⟩ = some (.slice Av dl.length cv) := (hBw3.cell 2).trans rfl
              have f3w : w3.frozen? ⟨tb, 2, none⟩ = false := hBw3.frozen 2
              have HEN := Lib.hid (And.intro own3 (And.intro hg3 (And.intro hv3 hBw3)))
              clear own3 hg3 hv3 hBw3 hown9 c2A c22 c2W hSW hS4
              refine wpAnyH_take (i := 9) (oi := _) (v := ?_) (by simp only [List.getElem?_toArray, List.getElem?_cons_succ, List.getElem?_cons_zero]; rfl) (by kernel_rfl) (by kernel_rfl) (by kernel_rfl) (by intro _ _ _ h; exact h) (Or.inl ⟨by rfl, ?_⟩) (by assumption) ?_
              rotate_left
              · intro w hSw
                try dsimp only at hSw
                go_simp
                try with_reducible rfl
              try simp only [Act.put, List.setIfInBounds_toArray, List.set_cons_zero, List.set_cons_succ]
              refine wpAnyH_ready (rs := [10]) (by kernel_rfl) (by simp) ?_
              refine AllReadyH.cons (o := _) (by simp only [List.getElem?_toArray, List.getElem?_cons_succ, List.getElem?_cons_zero]; rfl) (fun K hK => ?_) AllReadyH.nil
              go_simp
              refine hK.out _ _ ?_ (fun hHeld => ?_)
              · exact HS5.out
              clear hK K
              try simp only [Act.put, List.setIfInBounds_toArray, List.set_cons_zero, List.set_cons_succ]
              refine wpAnyH_done (by kernel_rfl) ?_ _
              clear c3w f3w
              have hwk : IntKind.i64.wrap ((k : Int) + 1) = (k : Int) + 1 := by rw [IntKind.wrap_i64]; omega
              go_wp2
              go_roundw
              case rel =>
                obtain ⟨hB, hbk, hl, hc, hbc⟩ := HF.out
                obtain ⟨own3, hg3, hv3, hBw3⟩ := HEN.out
                obtain ⟨hch, k1, k2⟩ := HCH.out
                obtain ⟨hdl, hf⟩ := HDL.out
                have hst := xs_step hB hbk hl hc own3 hg3 hv3 (own_blk_ne HXS.out.2.2.1 HXS.out.2.1 (by decide))
                have hb9 : Below w0.heap.size w0 (w3.setCell ⟨tb, 2, none⟩ (.slice A3 (dl.length + 1) c3)) := (((HXS.out.2.2.2.2.2.trans (hbc.mono (by omega))).alloc (by have := HSZ.out; omega) _).grown hg3 (by simp; have := HSZ.out; omega) (fun b hb => (HXS.out.2.2.1.lt b hb).1)).setCell hbt _
                have hK1 : chK (m : Int) (ls.drop (k + 1)) = 1 := by unfold chK; rw [HS0.out]; rfl
                have hD1 : chD (m : Int) (ls.drop (k + 1)) = d := by unfold chD; rw [HS0.out, HD.out]; rfl
                rw [hK1, hD1] at hch
                exact ⟨k + 1, f, dl ++ [d], .slice A3 (dl.length + 1) c3, by go_num, by omega, hst, by rw [List.append_assoc]; exact hch, by omega, by rw [List.length_append]; simp; omega, hb9⟩
              case measure => simp [intOf]; omega
            · go_simp
              go_wp2_with fail
              refine (HLG.out _).mono ?_
              rintro e w2 ⟨cs, rfl, hcs, hb2⟩
              have hbr2 : Below wo.heap.size wo w2 := HBW.out.trans (hb2.mono HBW.out.size)
              have hs2 := hb2.size
              have hsW := HBW.out.size
              obtain ⟨⟨hB2, ys, hown2, hbk2⟩, hl2⟩ := HXS.out.1.below hbr2
              have hc2 := hcs.keep (w' := w2) (ψ := PhiT w2 w0.heap.size tb (.slice Av dl.length cv)) (fun _ _ => rfl) (fun b hb => ⟨by omega, hb.2, by omega, fun e => by have := (HXS.out.2.2.1.lt b e).2; omega⟩)
              have hS2 : w2.cell? (ad.add k) = some (.int .i64 (m : Int)) := (hbr2.cell (p := ad.add k) (by rw [block_of_add]; exact HPH.out.2.1)).trans hc0
              have c22 : w2.cell? ⟨tb, 2, none⟩ = some (.slice Av dl.length cv) := (hB2.cell 2).trans rfl
              obtain ⟨DA, dn, dc, ta, tn, tc, PA, pn, pc, RA, rn, rc, pl, rfl, _⟩ := hcs
              have HC := Lib.hid (And.intro (lit_cells w2 [.int .i64 d.i0, .int .i64 d.i1, .int .i64 d.i2, .int .i64 d.i3, .int .i64 d.i4, .int .i64 d.i5, .int .i64 d.i6, .int .i64 d.i7, .int .i64 d.i8, .int .i64 d.i9, .int .i64 d.i10, .int .i64 d.i11, .slice DA dn dc, .slice ta tn tc, .slice none 0 0, .slice PA pn pc, .slice none 0 0, .slice RA rn rc] 33) (And.intro hc2.one (And.intro (show dl.length + 1 ≤ maxLen by unfold maxLen; omega) (And.intro (show (dl.length + 1) * 240 ≤ 140737488355328 by omega) (show w0.heap.size ≤ (w2.alloc (.cells #[.int .i64 d.i0, .int .i64 d.i1, .int .i64 d.i2, .int .i64 d.i3, .int .i64 d.i4, .int .i64 d.i5, .int .i64 d.i6, .int .i64 d.i7, .int .i64 d.i8, .int .i64 d.i9, .int .i64 d.i10, .int .i64 d.i11, .slice DA dn dc, .slice ta tn tc, .slice none 0 0, .slice PA pn pc, .slice none 0 0, .slice RA rn rc] 33)).heap.size by simp; omega)))))
              have hown9 := hown2.alloc (.cells #[.int .i64 d.i0, .int .i64 d.i1, .int .i64 d.i2, .int .i64 d.i3, .int .i64 d.i4, .int .i64 d.i5, .int .i64 d.i6, .int .i64 d.i7, .int .i64 d.i8, .int .i64 d.i9, .int .i64 d.i10, .int .i64 d.i11, .slice DA dn dc, .slice ta tn tc, .slice none 0 0, .slice PA pn pc, .slice none 0 0, .slice RA rn rc] 33)
              have HRD := Lib.hid (show Reads (w2.alloc (.cells #[.int .i64 d.i0, .int .i64 d.i1, .int .i64 d.i2, .int .i64 d.i3, .int .i64 d.i4, .int .i64 d.i5, .int .i64 d.i6, .int .i64 d.i7, .int .i64 d.i8, .int .i64 d.i9, .int .i64 d.i10, .int .i64 d.i11, .slice DA dn dc, .slice ta tn tc, .slice none 0 0, .slice PA pn pc, .slice none 0 0, .slice RA rn rc] 33)) (w2.heap.size + 1) 18 (some ⟨w2.heap.size, 0, none⟩) 1 [.int .i64 d.i0, .int .i64 d.i1, .int .i64 d.i2, .int .i64 d.i3, .int .i64 d.i4, .int .i64 d.i5, .int .i64 d.i6, .int .i64 d.i7, .int .i64 d.i8, .int .i64 d.i9, .int .i64 d.i10, .int .i64 d.i11, .slice DA dn dc, .slice ta tn tc, .slice none 0 0, .slice PA pn pc, .slice none 0 0, .slice RA rn rc] from ⟨rfl, fun _ => ⟨_, rfl, by show w2.heap.size < w2.heap.size + 1; omega, HC.out.1⟩⟩)
              have c2A : (w2.alloc (.cells #[.int .i64 d.i0, .int .i64 d.i1, .int .i64 d.i2, .int .i64 d.i3, .int .i64 d.i4, .int .i64 d.i5, .int .i64 d.i6, .int .i64 d.i7, .int .i64 d.i8, .int .i64 d.i9, .int .i64 d.i10, .int .i64 d.i11, .slice DA dn dc, .slice ta tn tc, .slice none 0 0, .slice PA pn pc, .slice none 0 0, .slice RA rn rc] 33)).cell? ⟨tb, 2, none⟩ = some (.slice Av dl.length cv) := ((hB2.alloc _).cell 2).trans rfl
              have hS3 : (w2.alloc (.cells #[.int .i64 d.i0, .int .i64 d.i1, .int .i64 d.i2, .int .i64 d.i3, .int .i64 d.i4, .int .i64 d.i5, .int .i64 d.i6, .int .i64 d.i7, .int .i64 d.i8, .int .i64 d.i9, .int .i64 d.i10, .int .i64 d.i11, .slice DA dn dc, .slice ta tn tc, .slice none 0 0, .slice PA pn pc, .slice none 0 0, .slice RA rn rc] 33)).cell? (ad.add k) = some (.int .i64 (m : Int)) := (World.cell?_alloc_lt w2 _ _ (by rw [block_of_add]; have := HPH.out.2.1; omega)).trans hS2
              have HF := Lib.hid (And.intro hB2 (And.intro hbk2 (And.intro hl2 (And.intro hc2 hbr2))))
              have HS := Lib.hid (And.intro hS2 hS3)
              have HSZ := Lib.hid (show wo.heap.size ≤ w2.heap.size by omega)
              clear hB2 hown2 hbk2 hl2 hc2 hS2 hS3 hbr2 hb2 hs2 hsW
              refine hK.out _ _ ?_ (fun hHeld => ?_)
              · exact HS.out.1
              clear hK K
              try simp only [Act.put, List.setIfInBounds_toArray, List.set_cons_zero, List.set_cons_succ]
              refine wpAnyH_ready (rs := [1, 7]) (by kernel_rfl) (by simp) ?_
              refine AllReadyH.cons (o := _) (by simp only [List.getElem?_toArray, List.getElem?_cons_succ, List.getElem?_cons_zero]; rfl) (fun K hK => ?_) (AllReadyH.cons (o := _) (by simp only [List.getElem?_toArray, List.getElem?_cons_succ, List.getElem?_cons_zero]; rfl) (fun K hK => ?_) AllReadyH.nil)
              · go_simp
                refine hK.out _ _ ?_ (fun hHeld => ?_)
                · assumption
                clear hK K
                try simp only [Act.put, List.setIfInBounds_toArray, List.set_cons_zero, List.set_cons_succ]
                refine wpAnyH_ready (rs := [7]) (by kernel_rfl) (by simp) ?_
                refine AllReadyH.cons (o := _) (by simp only [List.getElem?_toArray, List.getElem?_cons_succ, List.getElem?_cons_zero]; rfl) (fun K hK => ?_) AllReadyH.nil
                go_simp
                refine hK.out _ _ ?_ (fun hHeld => ?_)
                · exact HS.out.2
                clear hK K
                try simp only [Act.put, List.setIfInBounds_toArray, List.set_cons_zero, List.set_cons_succ]
                refine wpAnyH_ready (rs := [8]) (by kernel_rfl) (by simp) ?_
                refine AllReadyH.cons (o := _) (by simp only [List.getElem?_toArray, List.getElem?_cons_succ, List.getElem?_cons_zero]; rfl) (fun K hK => ?_) AllReadyH.nil
                refine step_append_any _ (by rfl) _ _ _ (by rfl) w0.heap.size 33 i1 (.agg #[.int .i64 0, .int .i64 0, .int .i64 0, .int .i64 0, .int .i64 0, .int .i64 0, .int .i64 0, .int .i64 0, .int .i64 0, .int .i64 0, .int .i64 0, .int .i64 0, .slice none 0 0, .slice none 0 0, .slice none 0 0, .slice none 0 0, .slice none 0 0, .slice none 0 0]) 18 240 Try.underlying43 hj hy0 hy1 hy2 rfl (by decide) (.slice Av dl.length cv) dl.length ys (by rfl) hown9 (w2.heap.size + 1) (some ⟨w2.heap.size, 0, none⟩) 1 1 [.int .i64 d.i0, .int .i64 d.i1, .int .i64 d.i2, .int .i64 d.i3, .int .i64 d.i4, .int .i64 d.i5, .int .i64 d.i6, .int .i64 d.i7, .int .i64 d.i8, .int .i64 d.i9, .int .i64 d.i10, .int .i64 d.i11, .slice DA dn dc, .slice ta tn tc, .slice none 0 0, .slice PA pn pc, .slice none 0 0, .slice RA rn rc] (by rfl) HRD.out HC.out.2.1 HC.out.2.2.1 HC.out.2.2.2.1 HC.out.2.2.2.2 ?_
                intro v3 w3 own3 hg3 hv3
                obtain ⟨A3, c3, rfl⟩ := own_slice own3
                have hBw3 : Blk w3 tb 45 #[.int .i64 1, .int .i64 20, .slice Av dl.length cv] := (HF.out.1.alloc _).grown hg3 (fun e => own_blk_ne HXS.out.2.2.1 HXS.out.2.1 (by decide) e.symm)
                have hS4 : w3.cell? (ad.add k) = some (.int .i64 (m : Int)) := (World.cell?_of_block (by rw [block_of_add]; exact hg3.block ad.block (by simp; have := HPH.out.2.1; have := HSZ.out; omega) (fun e => HPH.out.2.2.2 e.symm))).trans HS.out.2
                have hS5 : (w3.setCell ⟨tb, 2, none⟩ (.slice A3 (dl.length + 1) c3)).cell? (ad.add k) = some (.int .i64 (m : Int)) := (World.cell?_setCell_other w3 _ _ _ (fun e => HPH.out.2.2.1 (by have h9 := congrArg Addr.block e; rw [block_of_add] at h9; first | exact h9 | exact h9.symm))).trans hS4
                have HS5 := Lib.hid hS5
                clear hS5
                refine hK.out _ _ ?_ (fun hHeld => ?_)
                · exact hS4
                clear hK K
                try simp only [Act.put, List.setIfInBounds_toArray, List.set_cons_zero, List.set_cons_succ]
                have c3w : w3.cell? ⟨tb, 2, none⟩ = some (.slice Av dl.length cv) := (hBw3.cell 2).trans rfl
                have f3w : w3.frozen? ⟨tb, 2, none⟩ = false := hBw3.frozen 2
                have HEN := Lib.hid (And.intro own3 (And.intro hg3 (And.intro hv3 hBw3)))
                clear own3 hg3 hv3 hBw3 hown9 c2A c22 c2W hSW hS4
                refine wpAnyH_take (i := 9) (oi := _) (v := ?_) (by simp only [List.getElem?_toArray, List.getElem?_cons_succ, List.getElem?_cons_zero]; rfl) (by kernel_rfl) (by kernel_rfl) (by kernel_rfl) (by intro _ _ _ h; exact h) (Or.inl ⟨by rfl, ?_⟩) (by assumption) ?_
                rotate_left
                · intro w hSw
                  try dsimp only at hSw
                  go_simp
                  try with_reducible rfl
                try simp only [Act.put, List.setIfInBounds_toArray, List.set_cons_zero, List.set_cons_succ]
                refine wpAnyH_ready (rs := [10]) (by kernel_rfl) (by simp) ?_
                refine AllReadyH.cons (o := _) (by simp only [List.getElem?_toArray, List.getElem?_cons_succ, List.getElem?_cons_zero]; rfl) (fun K hK => ?_) AllReadyH.nil
                go_simp
                refine hK.out _ _ ?_ (fun hHeld => ?_)
                · exact HS5.out
                clear hK K
                try simp only [Act.put, List.setIfInBounds_toArray, List.set_cons_zero, List.set_cons_succ]
                refine wpAnyH_done (by kernel_rfl) ?_ _
                clear c3w f3w
                have hwk : IntKind.i64.wrap ((k : Int) + 1) = (k : Int) + 1 := by rw [IntKind.wrap_i64]; omega
                go_wp2
                go_roundw
                case rel =>
                  obtain ⟨hB, hbk, hl, hc, hbc⟩ := HF.out
                  obtain ⟨own3, hg3, hv3, hBw3⟩ := HEN.out
                  obtain ⟨hch, k1, k2⟩ := HCH.out
                  obtain ⟨hdl, hf⟩ := HDL.out
                  have hst := xs_step hB hbk hl hc own3 hg3 hv3 (own_blk_ne HXS.out.2.2.1 HXS.out.2.1 (by decide))
                  have hb9 : Below w0.heap.size w0 (w3.setCell ⟨tb, 2, none⟩ (.slice A3 (dl.length + 1) c3)) := (((HXS.out.2.2.2.2.2.trans (hbc.mono (by omega))).alloc (by have := HSZ.out; omega) _).grown hg3 (by simp; have := HSZ.out; omega) (fun b hb => (HXS.out.2.2.1.lt b hb).1)).setCell hbt _
                  have hK1 : chK (m : Int) (ls.drop (k + 1)) = 1 := by unfold chK; rw [HS0.out]; rfl
                  have hD1 : chD (m : Int) (ls.drop (k + 1)) = d := by unfold chD; rw [HS0.out, HD.out]; rfl
                  rw [hK1, hD1] at hch
                  exact ⟨k + 1, f, dl ++ [d], .slice A3 (dl.length + 1) c3, by go_num, by omega, hst, by rw [List.append_assoc]; exact hch, by omega, by rw [List.length_append]; simp; omega, hb9⟩
                case measure => simp [intOf]; omega
              · go_simp
                refine hK.out _ _ ?_ (fun hHeld => ?_)
                · exact HS.out.2
                clear hK K
                try simp only [Act.put, List.setIfInBounds_toArray, List.set_cons_zero, List.set_cons_succ]
                refine wpAnyH_ready (rs := [1]) (by kernel_rfl) (by simp) ?_
                refine AllReadyH.cons (o := _) (by simp only [List.getElem?_toArray, List.getElem?_cons_succ, List.getElem?_cons_zero]; rfl) (fun K hK => ?_) AllReadyH.nil
                go_simp
                refine hK.out _ _ ?_ (fun hHeld => ?_)
                · assumption
                clear hK K
                try simp only [Act.put, List.setIfInBounds_toArray, List.set_cons_zero, List.set_cons_succ]
                refine wpAnyH_ready (rs := [8]) (by kernel_rfl) (by simp) ?_
                refine AllReadyH.cons (o := _) (by simp only [List.getElem?_toArray, List.getElem?_cons_succ, List.getElem?_cons_zero]; rfl) (fun K hK => ?_) AllReadyH.nil
                refine step_append_any _ (by rfl) _ _ _ (by rfl) w0.heap.size 33 i1 (.agg #[.int .i64 0, .int .i64 0, .int .i64 0, .int .i64 0, .int .i64 0, .int .i64 0, .int .i64 0, .int .i64 0, .int .i64 0, .int .i64 0, .int .i64 0, .int .i64 0, .slice none 0 0, .slice none 0 0, .slice none 0 0, .slice none 0 0, .slice none 0 0, .slice none 0 0]) 18 240 Try.underlying43 hj hy0 hy1 hy2 rfl (by decide) (.slice Av dl.length cv) dl.length ys (by rfl) hown9 (w2.heap.size + 1) (some ⟨w2.heap.size, 0, none⟩) 1 1 [.int .i64 d.i0, .int .i64 d.i1, .int .i64 d.i2, .int .i64 d.i3, .int .i64 d.i4, .int .i64 d.i5, .int .i64 d.i6, .int .i64 d.i7, .int .i64 d.i8, .int .i64 d.i9, .int .i64 d.i10, .int .i64 d.i11, .slice DA dn dc, .slice ta tn tc, .slice none 0 0, .slice PA pn pc, .slice none 0 0, .slice RA rn rc] (by rfl) HRD.out HC.out.2.1 HC.out.2.2.1 HC.out.2.2.2.1 HC.out.2.2.2.2 ?_
                intro v3 w3 own3 hg3 hv3
                obtain ⟨A3, c3, rfl⟩ := own_slice own3
                have hBw3 : Blk w3 tb 45 #[.int .i64 1, .int .i64 20, .slice Av dl.length cv] := (HF.out.1.alloc _).grown hg3 (fun e => own_blk_ne HXS.out.2.2.1 HXS.out.2.1 (by decide) e.symm)
                have hS4 : w3.cell? (ad.add k) = some (.int .i64 (m : Int)) := (World.cell?_of_block (by rw [block_of_add]; exact hg3.block ad.block (by simp; have := HPH.out.2.1; have := HSZ.out; omega) (fun e => HPH.out.2.2.2 e.symm))).trans HS.out.2
                have hS5 : (w3.setCell ⟨tb, 2, none⟩ (.slice A3 (dl.length + 1) c3)).cell? (ad.add k) = some (.int .i64 (m : Int)) := (World.cell?_setCell_other w3 _ _ _ (fun e => HPH.out.2.2.1 (by have h9 := congrArg Addr.block e; rw [block_of_add] at h9; first | exact h9 | exact h9.symm))).trans hS4
                have HS5 := Lib.hid hS5
                clear hS5
                refine hK.out _ _ ?_ (fun hHeld => ?_)
                · exact hS4
                clear hK K
                try simp only [Act.put, List.setIfInBounds_toArray, List.set_cons_zero, List.set_cons_succ]
                have c3w : w3.cell? ⟨tb, 2, none⟩ = some (.slice Av dl.length cv) := (hBw3.cell 2).trans rfl
                have f3w : w3.frozen? ⟨tb, 2, none⟩ = false := hBw3.frozen 2
                have HEN := Lib.hid (And.intro own3 (And.intro hg3 (And.intro hv3 hBw3)))
                clear own3 hg3 hv3 hBw3 hown9 c2A c22 c2W hSW hS4
                refine wpAnyH_take (i := 9) (oi := _) (v := ?_) (by simp only [List.getElem?_toArray, List.getElem?_cons_succ, List.getElem?_cons_zero]; rfl) (by kernel_rfl) (by kernel_rfl) (by kernel_rfl) (by intro _ _ _ h; exact h) (Or.inl ⟨by rfl, ?_⟩) (by assumption) ?_
                rotate_left
                · intro w hSw
                  try dsimp only at hSw
                  go_simp
                  try with_reducible rfl
                try simp only [Act.put, List.setIfInBounds_toArray, List.set_cons_zero, List.set_cons_succ]
                refine wpAnyH_ready (rs := [10]) (by kernel_rfl) (by simp) ?_
                refine AllReadyH.cons (o := _) (by simp only [List.getElem?_toArray, List.getElem?_cons_succ, List.getElem?_cons_zero]; rfl) (fun K hK => ?_) AllReadyH.nil
                go_simp
                refine hK.out _ _ ?_ (fun hHeld => ?_)
                · exact HS5.out
                clear hK K
                try simp only [Act.put, List.setIfInBounds_toArray, List.set_cons_zero, List.set_cons_succ]
                refine wpAnyH_done (by kernel_rfl) ?_ _
                clear c3w f3w
                have hwk : IntKind.i64.wrap ((k : Int) + 1) = (k : Int) + 1 := by rw [IntKind.wrap_i64]; omega
                go_wp2
                go_roundw
                case rel =>
                  obtain ⟨hB, hbk, hl, hc, hbc⟩ := HF.out
                  obtain ⟨own3, hg3, hv3, hBw3⟩ := HEN.out
                  obtain ⟨hch, k1, k2⟩ := HCH.out
                  obtain ⟨hdl, hf⟩ := HDL.out
                  have hst := xs_step hB hbk hl hc own3 hg3 hv3 (own_blk_ne HXS.out.2.2.1 HXS.out.2.1 (by decide))
                  have hb9 : Below w0.heap.size w0 (w3.setCell ⟨tb, 2, none⟩ (.slice A3 (dl.length + 1) c3)) := (((HXS.out.2.2.2.2.2.trans (hbc.mono (by omega))).alloc (by have := HSZ.out; omega) _).grown hg3 (by simp; have := HSZ.out; omega) (fun b hb => (HXS.out.2.2.1.lt b hb).1)).setCell hbt _
                  have hK1 : chK (m : Int) (ls.drop (k + 1)) = 1 := by unfold chK; rw [HS0.out]; rfl
                  have hD1 : chD (m : Int) (ls.drop (k + 1)) = d := by unfold chD; rw [HS0.out, HD.out]; rfl
                  rw [hK1, hD1] at hch
                  exact ⟨k + 1, f, dl ++ [d], .slice A3 (dl.length + 1) c3, by go_num, by omega, hst, by rw [List.append_assoc]; exact hch, by omega, by rw [List.length_append]; simp; omega, hb9⟩
                case measure => simp [intOf]; omega
          · have hS1 := shN_pos (l := ls.drop (k + 1)) (a := a) (by omega)
            have hgI : ¬ (65535 : Int) < a := hbig
            obtain ⟨K, hK⟩ : ∃ K : Nat, K = shN (a :: ls.drop (k + 1)) := ⟨_, rfl⟩
            have hK9 := shN_le (a :: ls.drop (k + 1))
            rw [← hK] at hS1 hK9
            have hKin := fun i (h : i < K) => shN_in (ls := a :: ls.drop (k + 1)) (k := i) (by rw [← hK]; exact h)
            have hKend := fun (h1 : K < (a :: ls.drop (k + 1)).length) (h2 : K < 255) => (show 65535 < (a :: ls.drop (k + 1)).getD K 0 by rw [hK]; exact shN_end (by rw [← hK]; exact h1) (by rw [← hK]; exact h2))
            have hgd : ∀ i, (a :: ls.drop (k + 1)).getD i 0 = ls.getD (k + i) 0 := fun i => by
              rw [← HDR.out.1, List.getD_eq_getElem?_getD, List.getD_eq_getElem?_getD, List.getElem?_drop]
            have hlen : (a :: ls.drop (k + 1)).length = ls.length - k := by rw [← HDR.out.1, List.length_drop]
            rw [hlen] at hK9 hKend
            simp only [hlen, hgd] at hKin hKend
            have HK := Lib.hid (And.intro hK (And.intro hKin (And.intro hKend (And.intro hK9 hS1))))
            clear hKin hKend hgd hlen hK hK9 hS1
            go_upto_region 21 with (first
              | (refine wpList_store_box rfl 33 _ _ rfl (wo.heap.size) #[.int .i64 19, .int .i64 0, .int .i64 0, .int .i64 0, .int .i64 0, .int .i64 0, .int .i64 0, .int .i64 0, .int .i64 0, .int .i64 0, .int .i64 0, .int .i64 0, .slice none 0 0, .slice none 0 0, .slice none 0 0, .slice none 0 0, .slice none 0 0, .slice none 0 0] rfl rfl 33 #[.int .i64 0, .int .i64 0, .int .i64 0, .int .i64 0, .int .i64 0, .int .i64 0, .int .i64 0, .int .i64 0, .int .i64 0, .int .i64 0, .int .i64 0, .int .i64 0, .slice none 0 0, .slice none 0 0, .slice none 0 0, .slice none 0 0, .slice none 0 0, .slice none 0 0] (Blk.new wo _ _) blkInfo rfl (by simp [Value.oneCell']) ?_)
              | fail)
            intro wb hBb hgb
            have hbb : Below wo.heap.size wo wb := ((Below.refl _ _).alloc (Nat.le_refl _) _).grown hgb (by simp) (fun b hb => by injection hb with hb; omega)
            have HBB := Lib.hid (And.intro hBb hbb)
            clear hBb hgb hbb
            go_wp2_with fail
            go_loopw [10] (fun x wx => ∃ (q j : Nat) (tv : Value), x = .int .i64 q ∧ q = k + j ∧ j ≤ K ∧ Blk wx wo.heap.size 33 #[.int .i64 19, .int .i64 0, .int .i64 0, .int .i64 0, .int .i64 0, .int .i64 0, .int .i64 0, .int .i64 0, .int .i64 0, .int .i64 0, .int .i64 0, .int .i64 0, .slice none 0 0, tv, .slice none 0 0, .slice none 0 0, .slice none 0 0, .slice none 0 0] ∧ wx.ownsRow wo.heap.size 3 1 tv j (((ls.drop k).take j).map (Value.int .i64)) ∧ Below wo.heap.size wo wx) (fun x _ => k + K - (intOf x).toNat)
            case atStart => exact ⟨k, 0, .slice none 0 0, rfl, rfl, Nat.zero_le _, HBB.out.1, World.ownsRow_nil _ _ _ _, HBB.out.2⟩
            case round =>
              obtain ⟨q, j, tv, rfl, hq, hjK, hBx, hown, hbx⟩ := hrel
              obtain ⟨At, ct, rfl⟩ := own_slice hown
              have hq0 : (0 : Int) ≤ (q : Int) := Int.natCast_nonneg _
              have hj0 : (0 : Int) ≤ (j : Int) := Int.natCast_nonneg _
              have c13 : wr.cell? ⟨wo.heap.size, 13, none⟩ = some (.slice At j ct) := (hBx.cell 13).trans rfl
              have hsx := hbx.size
              have HK4 := HK.out.2.2.2
              have hjr : j ≤ 255 := by omega
              have HQ := Lib.hid hq
              have HI := Lib.hid (And.intro hBx (And.intro hown hbx))
              have hrL : r = ls.length := hrl
              by_cases hlt : j < K
              · obtain ⟨h1, h2, h3⟩ := HK.out.2.1 j hlt
                have hql : q < ls.length := by omega
                obtain ⟨ad9, e9, _, hcq⟩ := i32_at HDR.out.2.2 (k := q) hql
                injection e9 with e9
                subst e9
                rw [← hq] at h3
                have hsn := take_snocI (ls.drop k) j (by rw [List.length_drop]; omega)
                rw [List.getD_eq_getElem?_getD, List.getElem?_drop, ← hq, ← List.getD_eq_getElem?_getD] at hsn
                have hz3 : ls.getD q 0 ≤ 65535 := h3
                generalize ls.getD q 0 = z at *
                have hcx : wr.cell? (ad.add q) = some (.int .i64 z) := (hbx.cell (p := ad.add q) (by rw [block_of_add]; exact had)).trans hcq
                have hqr : (q : Int) < (r : Int) := by omega
                have hjI : (j : Int) < 255 := by omega
                have hwq : IntKind.i64.wrap ((q : Int) + 1) = (q : Int) + 1 := by rw [IntKind.wrap_i64]; omega
                have HSN := Lib.hid hsn
                have HQ := Lib.hid (And.intro hq hlt)
                clear hsn hq hlt hBx hown hbx hcq h1 h2 h3 HK4 hjK hrL
                go_upto_region 22 with fail
                have c13W : wr.drew.cell? ⟨wo.heap.size, 13, none⟩ = some (.slice At j ct) := c13
                have hownW : wr.drew.ownsRow wo.heap.size 3 1 (.slice At j ct) j (((ls.drop k).take j).map (Value.int .i64)) := HI.out.2.1
                have HBW := Lib.hid (And.intro (show Blk wr.drew wo.heap.size 33 #[.int .i64 19, .int .i64 0, .int .i64 0, .int .i64 0, .int .i64 0, .int .i64 0, .int .i64 0, .int .i64 0, .int .i64 0, .int .i64 0, .int .i64 0, .int .i64 0, .slice none 0 0, .slice At j ct, .slice none 0 0, .slice none 0 0, .slice none 0 0, .slice none 0 0] from HI.out.1) (show Below wo.heap.size wo wr.drew from HI.out.2.2.drew))
                refine wp_region_held_drew (S := fun w' => w'.cell? (ad.add q) = some (.int .i64 z)) (by kernel_rfl) ?_ (fun hHeld => ?_)
                · exact hcx
                have hSW : wr.drew.cell? (ad.add q) = some (.int .i64 z) := hHeld
                generalize wr.drew = W at *
                have hsW := HBW.out.2.size
                have HC := Lib.hid (And.intro (lit_cells W [.int .i64 z] 3) (And.intro (show ∀ u ∈ [Value.int .i64 z], u.oneCell' = true by intro u hu; simp at hu; rcases hu with rfl; rfl) (And.intro (show j + 1 ≤ maxLen by unfold maxLen; omega) (And.intro (show (j + 1) * 8 ≤ 140737488355328 by omega) (show wo.heap.size ≤ (W.alloc (.cells #[.int .i64 z] 3)).heap.size by simp; omega)))))
                have HRD := Lib.hid (show Reads (W.alloc (.cells #[.int .i64 z] 3)) (W.heap.size + 1) 1 (some ⟨W.heap.size, 0, none⟩) 1 [.int .i64 z] from ⟨rfl, fun _ => ⟨_, rfl, by show W.heap.size < W.heap.size + 1; omega, HC.out.1⟩⟩)
                have hown9 := hownW.alloc (.cells #[.int .i64 z] 3)
                have c13A : (W.alloc (.cells #[.int .i64 z] 3)).cell? ⟨wo.heap.size, 13, none⟩ = some (.slice At j ct) := ((HBW.out.1.alloc _).cell 13).trans rfl
                have hS3 : (W.alloc (.cells #[.int .i64 z] 3)).cell? (ad.add q) = some (.int .i64 z) := (World.cell?_alloc_lt W _ _ (by rw [block_of_add]; omega)).trans hSW
                refine wpAnyH_take (i := 0) (oi := _) (v := ?_) (by simp only [List.getElem?_toArray, List.getElem?_cons_succ, List.getElem?_cons_zero]; rfl) (by kernel_rfl) (by kernel_rfl) (by kernel_rfl) (by intro _ _ _ h; exact h) (Or.inl ⟨by rfl, ?_⟩) (by assumption) ?_
                rotate_left
                · intro w hSw
                  try dsimp only at hSw
                  go_simp
                  try with_reducible rfl
                try simp only [Act.put, List.setIfInBounds_toArray, List.set_cons_zero, List.set_cons_succ]
                refine wpAnyH_take (i := 2) (oi := _) (v := ?_) (by simp only [List.getElem?_toArray, List.getElem?_cons_succ, List.getElem?_cons_zero]; rfl) (by kernel_rfl) (by kernel_rfl) (by kernel_rfl) (by intro _ _ _ h; exact h) (Or.inl ⟨by rfl, ?_⟩) (by assumption) ?_
                rotate_left
                · intro w hSw
                  try dsimp only at hSw
                  go_simp
                  try with_reducible rfl
                try simp only [Act.put, List.setIfInBounds_toArray, List.set_cons_zero, List.set_cons_succ]
                refine wpAnyH_take (i := 3) (oi := _) (v := ?_) (by simp only [List.getElem?_toArray, List.getElem?_cons_succ, List.getElem?_cons_zero]; rfl) (by kernel_rfl) (by kernel_rfl) (by kernel_rfl) (by intro _ _ _ h; exact h) (Or.inl ⟨by rfl, ?_⟩) (by assumption) ?_
                rotate_left
                · intro w hSw
                  try dsimp only at hSw
                  go_simp
                  try with_reducible rfl
                try simp only [Act.put, List.setIfInBounds_toArray, List.set_cons_zero, List.set_cons_succ]
                refine wpAnyH_take (i := 4) (oi := _) (v := ?_) (by simp only [List.getElem?_toArray, List.getElem?_cons_succ, List.getElem?_cons_zero]; rfl) (by kernel_rfl) (by kernel_rfl) (by kernel_rfl) (by intro _ _ _ h; exact h) (Or.inl ⟨by rfl, ?_⟩) (by assumption) ?_
                rotate_left
                · intro w hSw
                  try dsimp only at hSw
                  go_simp
                  try with_reducible rfl
                try simp only [Act.put, List.setIfInBounds_toArray, List.set_cons_zero, List.set_cons_succ]
                refine wpAnyH_take (i := 5) (oi := _) (v := ?_) (by simp only [List.getElem?_toArray, List.getElem?_cons_succ, List.getElem?_cons_zero]; rfl) (by kernel_rfl) (by kernel_rfl) (by kernel_rfl) (by intro _ _ _ h; exact h) (Or.inl ⟨by rfl, ?_⟩) (by assumption) ?_
                rotate_left
                · intro w hSw
                  try dsimp only at hSw
                  go_simp
                  try with_reducible rfl
                try simp only [Act.put, List.setIfInBounds_toArray, List.set_cons_zero, List.set_cons_succ]
                refine wpAnyH_ready (rs := [1, 6]) (by kernel_rfl) (by simp) ?_
                refine AllReadyH.cons (o := _) (by simp only [List.getElem?_toArray, List.getElem?_cons_succ, List.getElem?_cons_zero]; rfl) (fun K hK => ?_) (AllReadyH.cons (o := _) (by simp only [List.getElem?_toArray, List.getElem?_cons_succ, List.getElem?_cons_zero]; rfl) (fun K hK => ?_) AllReadyH.nil)
                · go_simp
                  refine hK.out _ _ ?_ (fun hHeld => ?_)
                  · assumption
                  clear hK K
                  try simp only [Act.put, List.setIfInBounds_toArray, List.set_cons_zero, List.set_cons_succ]
                  refine wpAnyH_ready (rs := [6]) (by kernel_rfl) (by simp) ?_
                  refine AllReadyH.cons (o := _) (by simp only [List.getElem?_toArray, List.getElem?_cons_succ, List.getElem?_cons_zero]; rfl) (fun K hK => ?_) AllReadyH.nil
                  go_simp
                  refine hK.out _ _ ?_ (fun hHeld => ?_)
                  · exact hS3
                  clear hK K
                  try simp only [Act.put, List.setIfInBounds_toArray, List.set_cons_zero, List.set_cons_succ]
                  refine wpAnyH_ready (rs := [7]) (by kernel_rfl) (by simp) ?_
                  refine AllReadyH.cons (o := _) (by simp only [List.getElem?_toArray, List.getElem?_cons_succ, List.getElem?_cons_zero]; rfl) (fun K hK => ?_) AllReadyH.nil
                  refine step_append_any _ (by rfl) _ _ _ (by rfl) wo.heap.size 3 i0 (.int .i64 0) 1 8 Try.underlying28 hi hz0 hz1 hz2 rfl (by decide) (.slice At j ct) j (((ls.drop k).take j).map (Value.int .i64)) (by rfl) hown9 (W.heap.size + 1) (some ⟨W.heap.size, 0, none⟩) 1 1 [.int .i64 z] (by rfl) HRD.out HC.out.2.1 HC.out.2.2.1 HC.out.2.2.2.1 HC.out.2.2.2.2 ?_
                  intro v3 w3 own3 hg3 hv3
                  obtain ⟨A3, c3, rfl⟩ := own_slice own3
                  have hBw3 : Blk w3 wo.heap.size 33 #[.int .i64 19, .int .i64 0, .int .i64 0, .int .i64 0, .int .i64 0, .int .i64 0, .int .i64 0, .int .i64 0, .int .i64 0, .int .i64 0, .int .i64 0, .int .i64 0, .slice none 0 0, .slice At j ct, .slice none 0 0, .slice none 0 0, .slice none 0 0, .slice none 0 0] := (HBW.out.1.alloc _).grown hg3 (fun e => own_blk_ne HI.out.2.1 HI.out.1 (by decide) e.symm)
                  have hS4 : w3.cell? (ad.add q) = some (.int .i64 z) := (World.cell?_of_block (by rw [block_of_add]; exact hg3.block ad.block (by simp; omega) (fun e => by have := (HI.out.2.1.lt _ e.symm).1; omega))).trans hS3
                  have hS5 : (w3.setCell ⟨wo.heap.size, 13, none⟩ (.slice A3 (j + 1) c3)).cell? (ad.add q) = some (.int .i64 z) := (World.cell?_setCell_other w3 _ _ _ (fun e => (show ad.block ≠ wo.heap.size from by omega) (by have h9 := congrArg Addr.block e; rw [block_of_add] at h9; first | exact h9 | exact h9.symm))).trans hS4
                  have HS5 := Lib.hid hS5
                  clear hS5
                  refine hK.out _ _ ?_ (fun hHeld => ?_)
                  · exact hS4
                  clear hK K
                  try simp only [Act.put, List.setIfInBounds_toArray, List.set_cons_zero, List.set_cons_succ]
                  have c3w : w3.cell? ⟨wo.heap.size, 13, none⟩ = some (.slice At j ct) := (hBw3.cell 13).trans rfl
                  have f3w : w3.frozen? ⟨wo.heap.size, 13, none⟩ = false := hBw3.frozen 13
                  have HEN := Lib.hid (And.intro own3 (And.intro hg3 hBw3))
                  clear own3 hg3 hv3 hBw3 hown9 hownW c13W c13A hSW hS3 hS4 c13 hcx
                  refine wpAnyH_take (i := 8) (oi := _) (v := ?_) (by simp only [List.getElem?_toArray, List.getElem?_cons_succ, List.getElem?_cons_zero]; rfl) (by kernel_rfl) (by kernel_rfl) (by kernel_rfl) (by intro _ _ _ h; exact h) (Or.inl ⟨by rfl, ?_⟩) (by assumption) ?_
                  rotate_left
                  · intro w hSw
                    try dsimp only at hSw
                    go_simp
                    try with_reducible rfl
                  try simp only [Act.put, List.setIfInBounds_toArray, List.set_cons_zero, List.set_cons_succ]
                  refine wpAnyH_ready (rs := [9]) (by kernel_rfl) (by simp) ?_
                  refine AllReadyH.cons (o := _) (by simp only [List.getElem?_toArray, List.getElem?_cons_succ, List.getElem?_cons_zero]; rfl) (fun K hK => ?_) AllReadyH.nil
                  go_simp
                  refine hK.out _ _ ?_ (fun hHeld => ?_)
                  · exact HS5.out
                  clear hK K
                  try simp only [Act.put, List.setIfInBounds_toArray, List.set_cons_zero, List.set_cons_succ]
                  refine wpAnyH_done (by kernel_rfl) ?_ _
                  clear c3w f3w
                  go_wp2
                  go_roundw
                  case rel =>
                    obtain ⟨own3, hg3, hBw3⟩ := HEN.out
                    obtain ⟨hq, hlt⟩ := HQ.out
                    have hB9 := hBw3.set_ 13 (.slice A3 (j + 1) c3)
                    have how9 := ownsRow_setCell_other own3 (a := ⟨wo.heap.size, 13, none⟩) (own_blk_ne own3 hBw3 (by decide)) (.slice A3 (j + 1) c3)
                    have hb9 : Below wo.heap.size wo (w3.setCell ⟨wo.heap.size, 13, none⟩ (.slice A3 (j + 1) c3)) := ((HBW.out.2.alloc HBW.out.2.size _).grown hg3 (by simp; omega) (fun b hb => (HI.out.2.1.lt b hb).1)).setCell (Nat.le_refl _) _
                    exact ⟨q + 1, j + 1, .slice A3 (j + 1) c3, by go_num, by omega, by omega, hB9, by rw [HSN.out, List.map_append]; exact how9, hb9⟩
                  case measure => simp [intOf]; have := HQ.out; omega
                · go_simp
                  refine hK.out _ _ ?_ (fun hHeld => ?_)
                  · exact hS3
                  clear hK K
                  try simp only [Act.put, List.setIfInBounds_toArray, List.set_cons_zero, List.set_cons_succ]
                  refine wpAnyH_ready (rs := [1]) (by kernel_rfl) (by simp) ?_
                  refine AllReadyH.cons (o := _) (by simp only [List.getElem?_toArray, List.getElem?_cons_succ, List.getElem?_cons_zero]; rfl) (fun K hK => ?_) AllReadyH.nil
                  go_simp
                  refine hK.out _ _ ?_ (fun hHeld => ?_)
                  · assumption
                  clear hK K
                  try simp only [Act.put, List.setIfInBounds_toArray, List.set_cons_zero, List.set_cons_succ]
                  refine wpAnyH_ready (rs := [7]) (by kernel_rfl) (by simp) ?_
                  refine AllReadyH.cons (o := _) (by simp only [List.getElem?_toArray, List.getElem?_cons_succ, List.getElem?_cons_zero]; rfl) (fun K hK => ?_) AllReadyH.nil
                  refine step_append_any _ (by rfl) _ _ _ (by rfl) wo.heap.size 3 i0 (.int .i64 0) 1 8 Try.underlying28 hi hz0 hz1 hz2 rfl (by decide) (.slice At j ct) j (((ls.drop k).take j).map (Value.int .i64)) (by rfl) hown9 (W.heap.size + 1) (some ⟨W.heap.size, 0, none⟩) 1 1 [.int .i64 z] (by rfl) HRD.out HC.out.2.1 HC.out.2.2.1 HC.out.2.2.2.1 HC.out.2.2.2.2 ?_
                  intro v3 w3 own3 hg3 hv3
                  obtain ⟨A3, c3, rfl⟩ := own_slice own3
                  have hBw3 : Blk w3 wo.heap.size 33 #[.int .i64 19, .int .i64 0, .int .i64 0, .int .i64 0, .int .i64 0, .int .i64 0, .int .i64 0, .int .i64 0, .int .i64 0, .int .i64 0, .int .i64 0, .int .i64 0, .slice none 0 0, .slice At j ct, .slice none 0 0, .slice none 0 0, .slice none 0 0, .slice none 0 0] := (HBW.out.1.alloc _).grown hg3 (fun e => own_blk_ne HI.out.2.1 HI.out.1 (by decide) e.symm)
                  have hS4 : w3.cell? (ad.add q) = some (.int .i64 z) := (World.cell?_of_block (by rw [block_of_add]; exact hg3.block ad.block (by simp; omega) (fun e => by have := (HI.out.2.1.lt _ e.symm).1; omega))).trans hS3
                  have hS5 : (w3.setCell ⟨wo.heap.size, 13, none⟩ (.slice A3 (j + 1) c3)).cell? (ad.add q) = some (.int .i64 z) := (World.cell?_setCell_other w3 _ _ _ (fun e => (show ad.block ≠ wo.heap.size from by omega) (by have h9 := congrArg Addr.block e; rw [block_of_add] at h9; first | exact h9 | exact h9.symm))).trans hS4
                  have HS5 := Lib.hid hS5
                  clear hS5
                  refine hK.out _ _ ?_ (fun hHeld => ?_)
                  · exact hS4
                  clear hK K
                  try simp only [Act.put, List.setIfInBounds_toArray, List.set_cons_zero, List.set_cons_succ]
                  have c3w : w3.cell? ⟨wo.heap.size, 13, none⟩ = some (.slice At j ct) := (hBw3.cell 13).trans rfl
                  have f3w : w3.frozen? ⟨wo.heap.size, 13, none⟩ = false := hBw3.frozen 13
                  have HEN := Lib.hid (And.intro own3 (And.intro hg3 hBw3))
                  clear own3 hg3 hv3 hBw3 hown9 hownW c13W c13A hSW hS3 hS4 c13 hcx
                  refine wpAnyH_take (i := 8) (oi := _) (v := ?_) (by simp only [List.getElem?_toArray, List.getElem?_cons_succ, List.getElem?_cons_zero]; rfl) (by kernel_rfl) (by kernel_rfl) (by kernel_rfl) (by intro _ _ _ h; exact h) (Or.inl ⟨by rfl, ?_⟩) (by assumption) ?_
                  rotate_left
                  · intro w hSw
                    try dsimp only at hSw
                    go_simp
                    try with_reducible rfl
                  try simp only [Act.put, List.setIfInBounds_toArray, List.set_cons_zero, List.set_cons_succ]
                  refine wpAnyH_ready (rs := [9]) (by kernel_rfl) (by simp) ?_
                  refine AllReadyH.cons (o := _) (by simp only [List.getElem?_toArray, List.getElem?_cons_succ, List.getElem?_cons_zero]; rfl) (fun K hK => ?_) AllReadyH.nil
                  go_simp
                  refine hK.out _ _ ?_ (fun hHeld => ?_)
                  · exact HS5.out
                  clear hK K
                  try simp only [Act.put, List.setIfInBounds_toArray, List.set_cons_zero, List.set_cons_succ]
                  refine wpAnyH_done (by kernel_rfl) ?_ _
                  clear c3w f3w
                  go_wp2
                  go_roundw
                  case rel =>
                    obtain ⟨own3, hg3, hBw3⟩ := HEN.out
                    obtain ⟨hq, hlt⟩ := HQ.out
                    have hB9 := hBw3.set_ 13 (.slice A3 (j + 1) c3)
                    have how9 := ownsRow_setCell_other own3 (a := ⟨wo.heap.size, 13, none⟩) (own_blk_ne own3 hBw3 (by decide)) (.slice A3 (j + 1) c3)
                    have hb9 : Below wo.heap.size wo (w3.setCell ⟨wo.heap.size, 13, none⟩ (.slice A3 (j + 1) c3)) := ((HBW.out.2.alloc HBW.out.2.size _).grown hg3 (by simp; omega) (fun b hb => (HI.out.2.1.lt b hb).1)).setCell (Nat.le_refl _) _
                    exact ⟨q + 1, j + 1, .slice A3 (j + 1) c3, by go_num, by omega, by omega, hB9, by rw [HSN.out, List.map_append]; exact how9, hb9⟩
                  case measure => simp [intOf]; have := HQ.out; omega
              · obtain rfl : j = K := by omega
                by_cases hql : q < ls.length
                · obtain ⟨ad9, e9, _, hcq⟩ := i32_at HDR.out.2.2 (k := q) hql
                  injection e9 with e9
                  subst e9
                  have hcx : wr.cell? (ad.add q) = some (.int .i64 (ls.getD q 0)) := (hbx.cell (p := ad.add q) (by rw [block_of_add]; exact had)).trans hcq
                  have hqr : (q : Int) < (r : Int) := by omega
                  by_cases hz3 : ls.getD q 0 ≤ 65535
                  · have hjI : ¬ (j : Int) < 255 := by
                      intro h9
                      have := HK.out.2.2.1 (by omega) (by omega)
                      rw [← hq] at this
                      omega
                    generalize ls.getD q 0 = z at *
                    clear hcq
                    obtain ⟨wx, rfl⟩ : ∃ wx : World, wx = wr := ⟨_, rfl⟩
                    have howt := hown
                    have hownz := hown
                    clear hown hownz
                    obtain ⟨⟨hB, ys, hown, hbk⟩, hl⟩ := HXS.out.1.below hbx
                    have hsx := hbx.size
                    obtain ⟨d, hd⟩ : ∃ d : BD, d = pulD ((ls.drop k).take j) := ⟨_, rfl⟩
                    have c2x : wx.cell? ⟨tb, 2, none⟩ = some (.slice Av dl.length cv) := (hB.cell 2).trans rfl
                    have f2x : wx.frozen? ⟨tb, 2, none⟩ = false := hB.frozen 2
                    have hbw := hBx.lt
                    have hpt : RdP wx (PhiT wx w0.heap.size tb (.slice Av dl.length cv)) 1 At j (((ls.drop k).take j).map (Value.int .i64)) := (RdP.of_own howt).keep (fun b _ => rfl) (fun b hp => ⟨by have := hp.1; omega, hp.2, by have := hp.1; omega, fun e => by have := (HXS.out.2.2.1.lt b e).2; have := hp.1; omega⟩)
                    have hc2 : BlkAt wx (PhiT wx w0.heap.size tb (.slice Av dl.length cv)) d [.int .i64 19, .int .i64 0, .int .i64 0, .int .i64 0, .int .i64 0, .int .i64 0, .int .i64 0, .int .i64 0, .int .i64 0, .int .i64 0, .int .i64 0, .int .i64 0, .slice none 0 0, .slice At j ct, .slice none 0 0, .slice none 0 0, .slice none 0 0, .slice none 0 0] := by
                      rw [hd]
                      exact ⟨none, 0, 0, At, j, ct, none, 0, 0, none, 0, 0, [], rfl, RdP.none_, hpt, RdP.none_, fun q hq => absurd hq (by simp), rfl, RdP.none_, by have := HK.out.2.2.2.1; omega, by omega, by omega⟩
                    have HC := Lib.hid (And.intro (lit_cells wx [.int .i64 19, .int .i64 0, .int .i64 0, .int .i64 0, .int .i64 0, .int .i64 0, .int .i64 0, .int .i64 0, .int .i64 0, .int .i64 0, .int .i64 0, .int .i64 0, .slice none 0 0, .slice At j ct, .slice none 0 0, .slice none 0 0, .slice none 0 0, .slice none 0 0] 33) (And.intro hc2.one (And.intro (show dl.length + 1 ≤ maxLen by unfold maxLen; omega) (And.intro (show (dl.length + 1) * 240 ≤ 140737488355328 by omega) (show w0.heap.size ≤ (wx.alloc (.cells #[.int .i64 19, .int .i64 0, .int .i64 0, .int .i64 0, .int .i64 0, .int .i64 0, .int .i64 0, .int .i64 0, .int .i64 0, .int .i64 0, .int .i64 0, .int .i64 0, .slice none 0 0, .slice At j ct, .slice none 0 0, .slice none 0 0, .slice none 0 0, .slice none 0 0] 33)).heap.size by simp; omega)))))
                    have hown9 := hown.alloc (.cells #[.int .i64 19, .int .i64 0, .int .i64 0, .int .i64 0, .int .i64 0, .int .i64 0, .int .i64 0, .int .i64 0, .int .i64 0, .int .i64 0, .int .i64 0, .int .i64 0, .slice none 0 0, .slice At j ct, .slice none 0 0, .slice none 0 0, .slice none 0 0, .slice none 0 0] 33)
                    have HRD := Lib.hid (show Reads (wx.alloc (.cells #[.int .i64 19, .int .i64 0, .int .i64 0, .int .i64 0, .int .i64 0, .int .i64 0, .int .i64 0, .int .i64 0, .int .i64 0, .int .i64 0, .int .i64 0, .int .i64 0, .slice none 0 0, .slice At j ct, .slice none 0 0, .slice none 0 0, .slice none 0 0, .slice none 0 0] 33)) (wx.heap.size + 1) 18 (some ⟨wx.heap.size, 0, none⟩) 1 [.int .i64 19, .int .i64 0, .int .i64 0, .int .i64 0, .int .i64 0, .int .i64 0, .int .i64 0, .int .i64 0, .int .i64 0, .int .i64 0, .int .i64 0, .int .i64 0, .slice none 0 0, .slice At j ct, .slice none 0 0, .slice none 0 0, .slice none 0 0, .slice none 0 0] from ⟨rfl, fun _ => ⟨_, rfl, by show wx.heap.size < wx.heap.size + 1; omega, HC.out.1⟩⟩)
                    have HF := Lib.hid (And.intro hB (And.intro hbk (And.intro hl (And.intro hc2 hbx))))
                    have HQ := Lib.hid (And.intro hq hd)
                    clear hB hown hbk hl hc2 hbx hpt howt hq hd HK4 hjK hrL hlt
                    go_wp2_with (first
                      | (refine wpList_load_box rfl 33 _ rfl (wo.heap.size) rfl 33 #[.int .i64 19, .int .i64 0, .int .i64 0, .int .i64 0, .int .i64 0, .int .i64 0, .int .i64 0, .int .i64 0, .int .i64 0, .int .i64 0, .int .i64 0, .int .i64 0, .slice none 0 0, .slice At j ct, .slice none 0 0, .slice none 0 0, .slice none 0 0, .slice none 0 0] hBx _ Try.underlying33 rfl blkInfo (fun (_ : Hid _) => ?_))
                      | (at_builtin; refine wpList_append_any _ rfl _ _ 43 rfl w0.heap.size 33 i1 (.agg #[.int .i64 0, .int .i64 0, .int .i64 0, .int .i64 0, .int .i64 0, .int .i64 0, .int .i64 0, .int .i64 0, .int .i64 0, .int .i64 0, .int .i64 0, .int .i64 0, .slice none 0 0, .slice none 0 0, .slice none 0 0, .slice none 0 0, .slice none 0 0, .slice none 0 0]) 18 240 Try.underlying43 hj hy0 hy1 hy2 rfl (by decide) (.slice Av dl.length cv) dl.length ys rfl hown9 (wx.heap.size + 1) (some ⟨wx.heap.size, 0, none⟩) 1 1 [.int .i64 19, .int .i64 0, .int .i64 0, .int .i64 0, .int .i64 0, .int .i64 0, .int .i64 0, .int .i64 0, .int .i64 0, .int .i64 0, .int .i64 0, .int .i64 0, .slice none 0 0, .slice At j ct, .slice none 0 0, .slice none 0 0, .slice none 0 0, .slice none 0 0] rfl HRD.out HC.out.2.1 HC.out.2.2.1 HC.out.2.2.2.1 HC.out.2.2.2.2 ?_)
                      | fail)
                    intro v3 w3 own3 hg3 hv3
                    obtain ⟨A3, c3, rfl⟩ := own_slice own3
                    have hBw3 : Blk w3 tb 45 #[.int .i64 1, .int .i64 20, .slice Av dl.length cv] := (HF.out.1.alloc _).grown hg3 (fun e => own_blk_ne HXS.out.2.2.1 HXS.out.2.1 (by decide) e.symm)
                    have c3w : w3.cell? ⟨tb, 2, none⟩ = some (.slice Av dl.length cv) := (hBw3.cell 2).trans rfl
                    have f3w : w3.frozen? ⟨tb, 2, none⟩ = false := hBw3.frozen 2
                    have HEN := Lib.hid (And.intro own3 (And.intro hg3 hv3))
                    clear own3 hg3 hv3 hBw3 hown9 c2x f2x hBx
                    go_wp2
                    go_roundw
                    case rel =>
                      obtain ⟨hB, hbk, hl, hc, hbc⟩ := HF.out
                      obtain ⟨own3, hg3, hv3⟩ := HEN.out
                      obtain ⟨hch, k1, k2⟩ := HCH.out
                      obtain ⟨hdl, hf⟩ := HDL.out
                      have hst := xs_step hB hbk hl hc own3 hg3 (by simpa using hv3) (own_blk_ne HXS.out.2.2.1 HXS.out.2.1 (by decide))
                      have hb9 : Below w0.heap.size w0 (w3.setCell ⟨tb, 2, none⟩ (.slice A3 (dl.length + 1) c3)) := (((HXS.out.2.2.2.2.2.trans (hbc.mono (by omega))).alloc (by omega) _).grown hg3 (by simp; omega) (fun b hb => (HXS.out.2.2.1.lt b hb).1)).setCell hbt _
                      have hS1 := HK.out.2.2.2.2
                      have hK := HK.out.1
                      have hK1 : chK a (ls.drop (k + 1)) = j := by unfold chK; rw [← hK, if_neg (by omega)]
                      have hD1 : chD a (ls.drop (k + 1)) = d := by unfold chD; rw [← hK, if_neg (by omega), HQ.out.2, HDR.out.1]
                      rw [hK1, hD1] at hch
                      rw [hK1] at k2
                      exact ⟨q, f, dl ++ [d], .slice A3 (dl.length + 1) c3, rfl, by rw [HQ.out.1]; omega, hst, by rw [List.append_assoc, HQ.out.1]; exact hch, by rw [HQ.out.1]; omega, by rw [List.length_append, HQ.out.1]; simp; omega, hb9⟩
                    case measure => simp [intOf]; have := HQ.out.1; have := HK.out.2.2.2.2; omega
                  · generalize ls.getD q 0 = z at *
                    clear hcq
                    obtain ⟨wx, rfl⟩ : ∃ wx : World, wx = wr := ⟨_, rfl⟩
                    have howt := hown
                    have hownz := hown
                    clear hown hownz
                    obtain ⟨⟨hB, ys, hown, hbk⟩, hl⟩ := HXS.out.1.below hbx
                    have hsx := hbx.size
                    obtain ⟨d, hd⟩ : ∃ d : BD, d = pulD ((ls.drop k).take j) := ⟨_, rfl⟩
                    have c2x : wx.cell? ⟨tb, 2, none⟩ = some (.slice Av dl.length cv) := (hB.cell 2).trans rfl
                    have f2x : wx.frozen? ⟨tb, 2, none⟩ = false := hB.frozen 2
                    have hbw := hBx.lt
                    have hpt : RdP wx (PhiT wx w0.heap.size tb (.slice Av dl.length cv)) 1 At j (((ls.drop k).take j).map (Value.int .i64)) := (RdP.of_own howt).keep (fun b _ => rfl) (fun b hp => ⟨by have := hp.1; omega, hp.2, by have := hp.1; omega, fun e => by have := (HXS.out.2.2.1.lt b e).2; have := hp.1; omega⟩)
                    have hc2 : BlkAt wx (PhiT wx w0.heap.size tb (.slice Av dl.length cv)) d [.int .i64 19, .int .i64 0, .int .i64 0, .int .i64 0, .int .i64 0, .int .i64 0, .int .i64 0, .int .i64 0, .int .i64 0, .int .i64 0, .int .i64 0, .int .i64 0, .slice none 0 0, .slice At j ct, .slice none 0 0, .slice none 0 0, .slice none 0 0, .slice none 0 0] := by
                      rw [hd]
                      exact ⟨none, 0, 0, At, j, ct, none, 0, 0, none, 0, 0, [], rfl, RdP.none_, hpt, RdP.none_, fun q hq => absurd hq (by simp), rfl, RdP.none_, by have := HK.out.2.2.2.1; omega, by omega, by omega⟩
                    have HC := Lib.hid (And.intro (lit_cells wx [.int .i64 19, .int .i64 0, .int .i64 0, .int .i64 0, .int .i64 0, .int .i64 0, .int .i64 0, .int .i64 0, .int .i64 0, .int .i64 0, .int .i64 0, .int .i64 0, .slice none 0 0, .slice At j ct, .slice none 0 0, .slice none 0 0, .slice none 0 0, .slice none 0 0] 33) (And.intro hc2.one (And.intro (show dl.length + 1 ≤ maxLen by unfold maxLen; omega) (And.intro (show (dl.length + 1) * 240 ≤ 140737488355328 by omega) (show w0.heap.size ≤ (wx.alloc (.cells #[.int .i64 19, .int .i64 0, .int .i64 0, .int .i64 0, .int .i64 0, .int .i64 0, .int .i64 0, .int .i64 0, .int .i64 0, .int .i64 0, .int .i64 0, .int .i64 0, .slice none 0 0, .slice At j ct, .slice none 0 0, .slice none 0 0, .slice none 0 0, .slice none 0 0] 33)).heap.size by simp; omega)))))
                    have hown9 := hown.alloc (.cells #[.int .i64 19, .int .i64 0, .int .i64 0, .int .i64 0, .int .i64 0, .int .i64 0, .int .i64 0, .int .i64 0, .int .i64 0, .int .i64 0, .int .i64 0, .int .i64 0, .slice none 0 0, .slice At j ct, .slice none 0 0, .slice none 0 0, .slice none 0 0, .slice none 0 0] 33)
                    have HRD := Lib.hid (show Reads (wx.alloc (.cells #[.int .i64 19, .int .i64 0, .int .i64 0, .int .i64 0, .int .i64 0, .int .i64 0, .int .i64 0, .int .i64 0, .int .i64 0, .int .i64 0, .int .i64 0, .int .i64 0, .slice none 0 0, .slice At j ct, .slice none 0 0, .slice none 0 0, .slice none 0 0, .slice none 0 0] 33)) (wx.heap.size + 1) 18 (some ⟨wx.heap.size, 0, none⟩) 1 [.int .i64 19, .int .i64 0, .int .i64 0, .int .i64 0, .int .i64 0, .int .i64 0, .int .i64 0, .int .i64 0, .int .i64 0, .int .i64 0, .int .i64 0, .int .i64 0, .slice none 0 0, .slice At j ct, .slice none 0 0, .slice none 0 0, .slice none 0 0, .slice none 0 0] from ⟨rfl, fun _ => ⟨_, rfl, by show wx.heap.size < wx.heap.size + 1; omega, HC.out.1⟩⟩)
                    have HF := Lib.hid (And.intro hB (And.intro hbk (And.intro hl (And.intro hc2 hbx))))
                    have HQ := Lib.hid (And.intro hq hd)
                    clear hB hown hbk hl hc2 hbx hpt howt hq hd HK4 hjK hrL hlt
                    go_wp2_with (first
                      | (refine wpList_load_box rfl 33 _ rfl (wo.heap.size) rfl 33 #[.int .i64 19, .int .i64 0, .int .i64 0, .int .i64 0, .int .i64 0, .int .i64 0, .int .i64 0, .int .i64 0, .int .i64 0, .int .i64 0, .int .i64 0, .int .i64 0, .slice none 0 0, .slice At j ct, .slice none 0 0, .slice none 0 0, .slice none 0 0, .slice none 0 0] hBx _ Try.underlying33 rfl blkInfo (fun (_ : Hid _) => ?_))
                      | (at_builtin; refine wpList_append_any _ rfl _ _ 43 rfl w0.heap.size 33 i1 (.agg #[.int .i64 0, .int .i64 0, .int .i64 0, .int .i64 0, .int .i64 0, .int .i64 0, .int .i64 0, .int .i64 0, .int .i64 0, .int .i64 0, .int .i64 0, .int .i64 0, .slice none 0 0, .slice none 0 0, .slice none 0 0, .slice none 0 0, .slice none 0 0, .slice none 0 0]) 18 240 Try.underlying43 hj hy0 hy1 hy2 rfl (by decide) (.slice Av dl.length cv) dl.length ys rfl hown9 (wx.heap.size + 1) (some ⟨wx.heap.size, 0, none⟩) 1 1 [.int .i64 19, .int .i64 0, .int .i64 0, .int .i64 0, .int .i64 0, .int .i64 0, .int .i64 0, .int .i64 0, .int .i64 0, .int .i64 0, .int .i64 0, .int .i64 0, .slice none 0 0, .slice At j ct, .slice none 0 0, .slice none 0 0, .slice none 0 0, .slice none 0 0] rfl HRD.out HC.out.2.1 HC.out.2.2.1 HC.out.2.2.2.1 HC.out.2.2.2.2 ?_)
                      | fail)
                    intro v3 w3 own3 hg3 hv3
                    obtain ⟨A3, c3, rfl⟩ := own_slice own3
                    have hBw3 : Blk w3 tb 45 #[.int .i64 1, .int .i64 20, .slice Av dl.length cv] := (HF.out.1.alloc _).grown hg3 (fun e => own_blk_ne HXS.out.2.2.1 HXS.out.2.1 (by decide) e.symm)
                    have c3w : w3.cell? ⟨tb, 2, none⟩ = some (.slice Av dl.length cv) := (hBw3.cell 2).trans rfl
                    have f3w : w3.frozen? ⟨tb, 2, none⟩ = false := hBw3.frozen 2
                    have HEN := Lib.hid (And.intro own3 (And.intro hg3 hv3))
                    clear own3 hg3 hv3 hBw3 hown9 c2x f2x hBx
                    go_wp2
                    go_roundw
                    case rel =>
                      obtain ⟨hB, hbk, hl, hc, hbc⟩ := HF.out
                      obtain ⟨own3, hg3, hv3⟩ := HEN.out
                      obtain ⟨hch, k1, k2⟩ := HCH.out
                      obtain ⟨hdl, hf⟩ := HDL.out
                      have hst := xs_step hB hbk hl hc own3 hg3 (by simpa using hv3) (own_blk_ne HXS.out.2.2.1 HXS.out.2.1 (by decide))
                      have hb9 : Below w0.heap.size w0 (w3.setCell ⟨tb, 2, none⟩ (.slice A3 (dl.length + 1) c3)) := (((HXS.out.2.2.2.2.2.trans (hbc.mono (by omega))).alloc (by omega) _).grown hg3 (by simp; omega) (fun b hb => (HXS.out.2.2.1.lt b hb).1)).setCell hbt _
                      have hS1 := HK.out.2.2.2.2
                      have hK := HK.out.1
                      have hK1 : chK a (ls.drop (k + 1)) = j := by unfold chK; rw [← hK, if_neg (by omega)]
                      have hD1 : chD a (ls.drop (k + 1)) = d := by unfold chD; rw [← hK, if_neg (by omega), HQ.out.2, HDR.out.1]
                      rw [hK1, hD1] at hch
                      rw [hK1] at k2
                      exact ⟨q, f, dl ++ [d], .slice A3 (dl.length + 1) c3, rfl, by rw [HQ.out.1]; omega, hst, by rw [List.append_assoc, HQ.out.1]; exact hch, by rw [HQ.out.1]; omega, by rw [List.length_append, HQ.out.1]; simp; omega, hb9⟩
                    case measure => simp [intOf]; have := HQ.out.1; have := HK.out.2.2.2.2; omega
                · have hqr : ¬ (q : Int) < (r : Int) := by omega
                  obtain ⟨wx, rfl⟩ : ∃ wx : World, wx = wr := ⟨_, rfl⟩
                  have howt := hown
                  have hownz := hown
                  clear hown hownz
                  obtain ⟨⟨hB, ys, hown, hbk⟩, hl⟩ := HXS.out.1.below hbx
                  have hsx := hbx.size
                  obtain ⟨d, hd⟩ : ∃ d : BD, d = pulD ((ls.drop k).take j) := ⟨_, rfl⟩
                  have c2x : wx.cell? ⟨tb, 2, none⟩ = some (.slice Av dl.length cv) := (hB.cell 2).trans rfl
                  have f2x : wx.frozen? ⟨tb, 2, none⟩ = false := hB.frozen 2
                  have hbw := hBx.lt
                  have hpt : RdP wx (PhiT wx w0.heap.size tb (.slice Av dl.length cv)) 1 At j (((ls.drop k).take j).map (Value.int .i64)) := (RdP.of_own howt).keep (fun b _ => rfl) (fun b hp => ⟨by have := hp.1; omega, hp.2, by have := hp.1; omega, fun e => by have := (HXS.out.2.2.1.lt b e).2; have := hp.1; omega⟩)
                  have hc2 : BlkAt wx (PhiT wx w0.heap.size tb (.slice Av dl.length cv)) d [.int .i64 19, .int .i64 0, .int .i64 0, .int .i64 0, .int .i64 0, .int .i64 0, .int .i64 0, .int .i64 0, .int .i64 0, .int .i64 0, .int .i64 0, .int .i64 0, .slice none 0 0, .slice At j ct, .slice none 0 0, .slice none 0 0, .slice none 0 0, .slice none 0 0] := by
                    rw [hd]
                    exact ⟨none, 0, 0, At, j, ct, none, 0, 0, none, 0, 0, [], rfl, RdP.none_, hpt, RdP.none_, fun q hq => absurd hq (by simp), rfl, RdP.none_, by have := HK.out.2.2.2.1; omega, by omega, by omega⟩
                  have HC := Lib.hid (And.intro (lit_cells wx [.int .i64 19, .int .i64 0, .int .i64 0, .int .i64 0, .int .i64 0, .int .i64 0, .int .i64 0, .int .i64 0, .int .i64 0, .int .i64 0, .int .i64 0, .int .i64 0, .slice none 0 0, .slice At j ct, .slice none 0 0, .slice none 0 0, .slice none 0 0, .slice none 0 0] 33) (And.intro hc2.one (And.intro (show dl.length + 1 ≤ maxLen by unfold maxLen; omega) (And.intro (show (dl.length + 1) * 240 ≤ 140737488355328 by omega) (show w0.heap.size ≤ (wx.alloc (.cells #[.int .i64 19, .int .i64 0, .int .i64 0, .int .i64 0, .int .i64 0, .int .i64 0, .int .i64 0, .int .i64 0, .int .i64 0, .int .i64 0, .int .i64 0, .int .i64 0, .slice none 0 0, .slice At j ct, .slice none 0 0, .slice none 0 0, .slice none 0 0, .slice none 0 0] 33)).heap.size by simp; omega)))))
                  have hown9 := hown.alloc (.cells #[.int .i64 19, .int .i64 0, .int .i64 0, .int .i64 0, .int .i64 0, .int .i64 0, .int .i64 0, .int .i64 0, .int .i64 0, .int .i64 0, .int .i64 0, .int .i64 0, .slice none 0 0, .slice At j ct, .slice none 0 0, .slice none 0 0, .slice none 0 0, .slice none 0 0] 33)
                  have HRD := Lib.hid (show Reads (wx.alloc (.cells #[.int .i64 19, .int .i64 0, .int .i64 0, .int .i64 0, .int .i64 0, .int .i64 0, .int .i64 0, .int .i64 0, .int .i64 0, .int .i64 0, .int .i64 0, .int .i64 0, .slice none 0 0, .slice At j ct, .slice none 0 0, .slice none 0 0, .slice none 0 0, .slice none 0 0] 33)) (wx.heap.size + 1) 18 (some ⟨wx.heap.size, 0, none⟩) 1 [.int .i64 19, .int .i64 0, .int .i64 0, .int .i64 0, .int .i64 0, .int .i64 0, .int .i64 0, .int .i64 0, .int .i64 0, .int .i64 0, .int .i64 0, .int .i64 0, .slice none 0 0, .slice At j ct, .slice none 0 0, .slice none 0 0, .slice none 0 0, .slice none 0 0] from ⟨rfl, fun _ => ⟨_, rfl, by show wx.heap.size < wx.heap.size + 1; omega, HC.out.1⟩⟩)
                  have HF := Lib.hid (And.intro hB (And.intro hbk (And.intro hl (And.intro hc2 hbx))))
                  have HQ := Lib.hid (And.intro hq hd)
                  clear hB hown hbk hl hc2 hbx hpt howt hq hd HK4 hjK hrL hlt
                  go_wp2_with (first
                    | (refine wpList_load_box rfl 33 _ rfl (wo.heap.size) rfl 33 #[.int .i64 19, .int .i64 0, .int .i64 0, .int .i64 0, .int .i64 0, .int .i64 0, .int .i64 0, .int .i64 0, .int .i64 0, .int .i64 0, .int .i64 0, .int .i64 0, .slice none 0 0, .slice At j ct, .slice none 0 0, .slice none 0 0, .slice none 0 0, .slice none 0 0] hBx _ Try.underlying33 rfl blkInfo (fun (_ : Hid _) => ?_))
                    | (at_builtin; refine wpList_append_any _ rfl _ _ 43 rfl w0.heap.size 33 i1 (.agg #[.int .i64 0, .int .i64 0, .int .i64 0, .int .i64 0, .int .i64 0, .int .i64 0, .int .i64 0, .int .i64 0, .int .i64 0, .int .i64 0, .int .i64 0, .int .i64 0, .slice none 0 0, .slice none 0 0, .slice none 0 0, .slice none 0 0, .slice none 0 0, .slice none 0 0]) 18 240 Try.underlying43 hj hy0 hy1 hy2 rfl (by decide) (.slice Av dl.length cv) dl.length ys rfl hown9 (wx.heap.size + 1) (some ⟨wx.heap.size, 0, none⟩) 1 1 [.int .i64 19, .int .i64 0, .int .i64 0, .int .i64 0, .int .i64 0, .int .i64 0, .int .i64 0, .int .i64 0, .int .i64 0, .int .i64 0, .int .i64 0, .int .i64 0, .slice none 0 0, .slice At j ct, .slice none 0 0, .slice none 0 0, .slice none 0 0, .slice none 0 0] rfl HRD.out HC.out.2.1 HC.out.2.2.1 HC.out.2.2.2.1 HC.out.2.2.2.2 ?_)
                    | fail)
                  intro v3 w3 own3 hg3 hv3
                  obtain ⟨A3, c3, rfl⟩ := own_slice own3
                  have hBw3 : Blk w3 tb 45 #[.int .i64 1, .int .i64 20, .slice Av dl.length cv] := (HF.out.1.alloc _).grown hg3 (fun e => own_blk_ne HXS.out.2.2.1 HXS.out.2.1 (by decide) e.symm)
                  have c3w : w3.cell? ⟨tb, 2, none⟩ = some (.slice Av dl.length cv) := (hBw3.cell 2).trans rfl
                  have f3w : w3.frozen? ⟨tb, 2, none⟩ = false := hBw3.frozen 2
                  have HEN := Lib.hid (And.intro own3 (And.intro hg3 hv3))
                  clear own3 hg3 hv3 hBw3 hown9 c2x f2x hBx
                  go_wp2
                  go_roundw
                  case rel =>
                    obtain ⟨hB, hbk, hl, hc, hbc⟩ := HF.out
                    obtain ⟨own3, hg3, hv3⟩ := HEN.out
                    obtain ⟨hch, k1, k2⟩ := HCH.out
                    obtain ⟨hdl, hf⟩ := HDL.out
                    have hst := xs_step hB hbk hl hc own3 hg3 (by simpa using hv3) (own_blk_ne HXS.out.2.2.1 HXS.out.2.1 (by decide))
                    have hb9 : Below w0.heap.size w0 (w3.setCell ⟨tb, 2, none⟩ (.slice A3 (dl.length + 1) c3)) := (((HXS.out.2.2.2.2.2.trans (hbc.mono (by omega))).alloc (by omega) _).grown hg3 (by simp; omega) (fun b hb => (HXS.out.2.2.1.lt b hb).1)).setCell hbt _
                    have hS1 := HK.out.2.2.2.2
                    have hK := HK.out.1
                    have hK1 : chK a (ls.drop (k + 1)) = j := by unfold chK; rw [← hK, if_neg (by omega)]
                    have hD1 : chD a (ls.drop (k + 1)) = d := by unfold chD; rw [← hK, if_neg (by omega), HQ.out.2, HDR.out.1]
                    rw [hK1, hD1] at hch
                    rw [hK1] at k2
                    exact ⟨q, f, dl ++ [d], .slice A3 (dl.length + 1) c3, rfl, by rw [HQ.out.1]; omega, hst, by rw [List.append_assoc, HQ.out.1]; exact hch, by rw [HQ.out.1]; omega, by rw [List.length_append, HQ.out.1]; simp; omega, hb9⟩
                  case measure => simp [intOf]; have := HQ.out.1; have := HK.out.2.2.2.2; omega
        · have hnil : dl = lvlD u :: chF ls.length ls := by
            rw [show ls.drop k = [] from List.drop_eq_nil_of_le (by omega), chF_nil, List.append_nil] at hch
            exact hch
          have hkI : ¬ (k : Int) < (r : Int) := by omega
          have hd1 : ¬ (4096 : Int) < (dl.length : Int) := by omega
          have c2W : wo.cell? ⟨tb, 2, none⟩ = some (.slice Av dl.length cv) := (hB.cell 2).trans rfl
          have hRx : Blk wo w.heap.size 45 #[.int .i64 0, .int .i64 0, .slice none 0 0] := HM.out.2.1.below hbl (by rw [HM.out.1]; omega)
          have hbw : Below w.heap.size w wo := HM.out.2.2.trans (hbl.mono (by rw [HM.out.1]; omega))
          have HX := Lib.hid (And.intro hown (And.intro hbk (And.intro hnil hbw)))
          clear hXS hown hbk hl hch hf hdl hbl hnil hbw
          go_wp2_with (first
            | (refine wpList_load_box rfl 45 _ rfl tb rfl 45 #[.int .i64 1, .int .i64 20, .slice Av dl.length cv] hB _ Try.underlying45 rfl tape3Info (fun (_ : Hid _) => ?_))
            | (refine wpList_store_box rfl 45 _ _ rfl (w.heap.size) #[.int .i64 1, .int .i64 20, .slice Av dl.length cv] rfl rfl 45 #[.int .i64 0, .int .i64 0, .slice none 0 0] hRx tape3Info rfl (by simp [Value.oneCell']) ?_)
            | fail)
          intro w9 hB9 hg9
          have H9 := Lib.hid hg9
          clear hRx hB hg9
          go_wp2_with fail
          refine bodyPost_ret (results_cell_tmp9 rfl _ _ w.heap.size 45 _ (0, 0) _ rfl hB9 Try.underlying45 rfl tape3Info) rfl ?_
          obtain ⟨hown, hbk, hnil, hbw⟩ := HX.out
          have hs0 := HM.out.1
          have hg9 := H9.out
          have hs9 := hg9.size
          rw [HEV.out]
          refine ⟨Av, _, cv, xs, rfl, ?_, ?_, hbw.grown hg9 hbw.size (fun b hb => by injection hb with hb; omega)⟩
          · exact (RdP.of_own (hown.kept hg9 (.inr (fun e => by have := (hown.lt _ e).1; omega)))).keep (fun b _ => rfl) (fun b hp => ⟨by omega, hp.2⟩)
          · rw [HEX.out u dl HU.out hnil]
            exact hbk.keep (fun b hp => hg9.block b hp.2.1 (by intro e; injection e with e; have := hp.1; omega)) (fun b hp => ⟨by have := hp.1; omega, by have := hp.2.1; omega⟩)
end Go.Proofs.Ytckgmnlmimogjaa
