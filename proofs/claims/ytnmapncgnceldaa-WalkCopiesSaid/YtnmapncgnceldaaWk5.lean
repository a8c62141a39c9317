/- Layer 19 for 24: contract of the program's Sound. -/
import Derived.Test.YtnmapncgnceldaaWk4
namespace Go.Proofs.Ytnmapncgnceldaa
open Go.RowKit

/-- why a block doesn't fit -/
def wrongB (bs : List WB) (i : Nat) : Int := if (pairB bs 36 37 i || pairB bs 33 34 i) = true then 6 else if farB (bs.getD i default) i bs.length = true then 5 else 0
def soundG (bs : List WB) : Nat → Nat → Int × Int
  | 0, _ => (0, 0)
  | f + 1, i => if wrongB bs i = 0 then soundG bs f (i + 1) else ((i : Int), wrongB bs i)
def Lite (bs : List WB) : Prop := bs.length ≤ 60 ∧ ∀ i, i < bs.length → (bs.getD i default).ts.length ≤ 60 ∧ (bs.getD i default).ns.length ≤ 60

set_option maxRecDepth 100000 in
set_option maxHeartbeats 8000000 in
theorem sound_any (w : World) (A : Option Addr) (n c : Nat) (bs : List WB) (hB : BlksR w (· < w.heap.size) A n bs) (hL : Lite bs) :
    Calls Try.prog 17 #[.slice A n c] w fun x w' => x = .returned (.tuple #[.int .i64 (soundG bs bs.length 0).1, .int .i64 (soundG bs bs.length 0).2]) ∧ Below w.heap.size w w' := by
  have hl := hB.len
  have hn : n ≤ 60 := by have := hL.1; omega
  have hp1 := pairs_any w A n c 36 37 bs hB (by decide) hn
  have HB := Lib.hid (And.intro hB (And.intro hl hL))
  clear hB hl hL
  go_enter Try.func17, Try.ntmps17
  go_wp2_with fail
  refine hp1.mono ?_
  rintro e w1 ⟨g1, rfl, hg1, hG1, hb1⟩
  clear hp1
  have hp2 := pairs_any w1 A n c 33 34 bs (HB.out.1.keep (fun b hb => hb1.block b hb) (fun b (hb : b < w.heap.size) => by have := hb1.size; show b < _; omega)) (by decide) hn
  have H1 := Lib.hid (And.intro hG1 hb1)
  have hs1 := hb1.size
  have hgl := hG1.lt
  clear hG1 hb1
  go_wp2_with fail
  refine hp2.mono ?_
  rintro e w2 ⟨g2, rfl, hg2, hG2, hb2⟩
  clear hp2
  have hs2 := hb2.size
  have hgl2 := hG2.lt
  have H2 := Lib.hid (And.intro (H1.out.1.below hb2 hgl) (And.intro hG2 (H1.out.2.trans (hb2.mono hs1))))
  clear hG2 hb2
  go_wp2_with fail
  go_loopw [14] (fun x wr => ∃ k : Nat, k ≤ n ∧ x = .int .i64 k ∧ soundG bs bs.length 0 = soundG bs (bs.length - k) k ∧ Below w2.heap.size w2 wr) (fun x _ => n - (intOf x).toNat)
  case atStart => exact ⟨0, by omega, rfl, rfl, Below.refl _ _⟩
  case round =>
    obtain ⟨k, hkn, rfl, hso, hbl⟩ := hrel
    have hk0 : (0 : Int) ≤ (k : Int) := Int.natCast_nonneg _
    have hsz := hbl.size
    by_cases hlt : k < n
    · have hkI : (k : Int) < (n : Int) := by omega
      have hwk : IntKind.i64.wrap ((k : Int) + 1) = (k : Int) + 1 := by rw [IntKind.wrap_i64]; omega
      have hbw : Below w.heap.size w wr := H2.out.2.2.trans (hbl.mono (by omega))
      have hBr := HB.out.1.keep (w' := wr) (ψ := (· < w.heap.size)) (fun b hb => hbw.block b hb) (fun b hb => hb)
      have hlite := HB.out.2.2.2 k (by rw [HB.out.2.1]; exact hlt)
      obtain ⟨ad, rfl, hab, cs, hWB, hc18⟩ := hBr.at_ (i := k) hlt
      obtain ⟨d, hd⟩ : ∃ d, d = bs.getD k default := ⟨_, rfl⟩
      rw [← hd] at hWB
      obtain ⟨v2, v3, v4, v5, v6, v7, v9, v10, v11, v12, TA, tn, tc, IA, ic, v15, v16, v17, rfl, h1c, hTs, hIs⟩ := hWB
      have X0 := Lib.hid (show ∀ jj vv, ([.int .i64 d.id, .int .i64 d.pz, v2, v3, v4, v5, v6, v7, .int .i64 d.ct, v9, v10, v11, v12, .slice TA tn tc, .slice IA d.ns.length ic, v15, v16, v17] : List Value)[jj]? = some vv → wr.cell? ((ad.add (k * 18)).add jj) = some vv from hc18)
      have X1 := Lib.hid (show (#[.int .i64 d.id, .int .i64 d.pz, v2, v3, v4, v5, v6, v7, .int .i64 d.ct, v9, v10, v11, v12, .slice TA tn tc, .slice IA d.ns.length ic, v15, v16, v17] : Array Value).all (·.oneCell') = true from all_one h1c)
      have HD := Lib.hid (And.intro hd (And.intro hTs hIs))
      clear hc18 h1c hd hTs hIs
      have hbs0 : soundG bs bs.length 0 = if wrongB bs k = 0 then soundG bs (bs.length - (k + 1)) (k + 1) else ((k : Int), wrongB bs k) := by
        rw [hso, show bs.length - k = bs.length - (k + 1) + 1 by have := HB.out.2.1; omega]
        rfl
      have hwr : wrongB bs k = if (pairB bs 36 37 k || pairB bs 33 34 k) = true then 6 else if farB d k n = true then 5 else 0 := by unfold wrongB; rw [HD.out.1, HB.out.2.1]
      rw [← HD.out.1] at hlite
      have HS := Lib.hid (And.intro hbs0 (And.intro hwr (And.intro hbl (And.intro hbw hlite))))
      clear hBr hbl hbw hso hbs0 hwr hlite
      go_wp2_with (first
        | (refine wpList_load_at rfl 45 _ rfl (ad.add (k * 18)) rfl [.int .i64 d.id, .int .i64 d.pz, v2, v3, v4, v5, v6, v7, .int .i64 d.ct, v9, v10, v11, v12, .slice TA tn tc, .slice IA d.ns.length ic, v15, v16, v17] X0.out _ Try.underlying45 rfl blkInfo ?_)
        | (refine wpList_store_box rfl 45 _ _ rfl (wr.heap.size) #[.int .i64 d.id, .int .i64 d.pz, v2, v3, v4, v5, v6, v7, .int .i64 d.ct, v9, v10, v11, v12, .slice TA tn tc, .slice IA d.ns.length ic, v15, v16, v17] rfl rfl 45 #[.int .i64 0, .int .i64 0, .int .i64 0, .int .i64 0, .int .i64 0, .int .i64 0, .int .i64 0, .int .i64 0, .int .i64 0, .int .i64 0, .int .i64 0, .int .i64 0, .slice none 0 0, .slice none 0 0, .slice none 0 0, .slice none 0 0, .slice none 0 0, .slice none 0 0] (Blk.new wr _ _) blkInfo rfl X1.out ?_)
        | fail)
      intro w3 hB3 hg3
      have hb3 : Below w2.heap.size w2 w3 := (HS.out.2.2.1.alloc hsz _).grown hg3 (by simp; omega) (fun b hb => by injection hb with hb; omega)
      have hb3w : Below w.heap.size w w3 := H2.out.2.2.trans (hb3.mono (by omega))
      have had1 := add0 g1 k
      have had2 := add0 g2 k
      have ck1 : w3.cell? ⟨g1, k, none⟩ = some (.bool (pairB bs 36 37 k)) := ((H2.out.1.below hb3 (by omega)).cell k).trans (rowB_at _ hlt)
      have ck2 : w3.cell? ⟨g2, k, none⟩ = some (.bool (pairB bs 33 34 k)) := ((H2.out.2.1.below hb3 (by omega)).cell k).trans (rowB_at _ hlt)
      have hTs3 : RdP w3 (· < w3.heap.size) 1 TA tn (d.ts.map (Value.int .i64)) := (HD.out.2.1.keep (w' := w3) (ψ := (· < w3.heap.size)) (fun b hb => (hb3w.block b hb).trans (HS.out.2.2.2.1.block b hb).symm) (fun b (hb : b < w.heap.size) => by have := hb3w.size; show b < _; omega))
      have hIs3 : ItsP w3 (· < w3.heap.size) IA d.ns := (HD.out.2.2.keep (w' := w3) (ψ := (· < w3.heap.size)) (fun b hb => (hb3w.block b hb).trans (HS.out.2.2.2.1.block b hb).symm) (fun b (hb : b < w.heap.size) => by have := hb3w.size; show b < _; omega))
      have htl := reads_len (hTs3.reads (B := w3.heap.size) (fun b h => h))
      have hfa := far_any w3 k n d v2 v3 v4 v5 v6 v7 v9 v10 v11 v12 TA tn tc IA ic v15 v16 v17 hTs3 hIs3 HS.out.2.2.2.2.2 (by have := HS.out.2.2.2.2.1; omega) hlt hn
      have H3 := Lib.hid (And.intro hb3 hb3w)
      have HB3 := Lib.hid hB3
      clear hg3 hb3 hb3w hTs3 hIs3 htl
      cases hq1 : pairB bs 36 37 k with
      | true =>
        rw [hq1] at ck1
        have HW := Lib.hid (show soundG bs bs.length 0 = ((k : Int), 6) by
          have h9 : wrongB bs k = 6 := by rw [HS.out.2.1, hq1]; rfl
          rw [HS.out.1, h9]; rfl)
        clear hq1 hfa hB3
        go_wp2
        go_ret2
        rw [HW.out]
        exact ⟨rfl, H3.out.2⟩
      | false =>
        rw [hq1] at ck1
        cases hq2 : pairB bs 33 34 k with
        | true =>
          rw [hq2] at ck2
          have HW := Lib.hid (show soundG bs bs.length 0 = ((k : Int), 6) by
            have h9 : wrongB bs k = 6 := by rw [HS.out.2.1, hq1, hq2]; rfl
            rw [HS.out.1, h9]; rfl)
          clear hq1 hq2 hfa hB3
          go_wp2
          go_ret2
          rw [HW.out]
          exact ⟨rfl, H3.out.2⟩
        | false =>
          rw [hq2] at ck2
          have HW := Lib.hid (show wrongB bs k = if farB d k n = true then 5 else 0 by rw [HS.out.2.1, hq1, hq2]; rfl)
          clear hq1 hq2
          go_wp2_with (first
            | (refine wpList_load_box rfl 45 _ rfl (wr.heap.size) rfl 45 #[.int .i64 d.id, .int .i64 d.pz, v2, v3, v4, v5, v6, v7, .int .i64 d.ct, v9, v10, v11, v12, .slice TA tn tc, .slice IA d.ns.length ic, v15, v16, v17] hB3 _ Try.underlying45 rfl blkInfo (fun (_ : Hid _) => ?_))
            | fail)
          refine hfa.mono ?_
          rintro e w4 ⟨rfl, hb4⟩
          clear hfa hB3
          have hs4 := hb4.size
          have H4 := Lib.hid (And.intro (H3.out.1.trans (hb4.mono H3.out.1.size)) (H3.out.2.trans (hb4.mono H3.out.2.size)))
          clear hb4
          cases hq3 : farB d k n with
          | true =>
            have HX := Lib.hid (show soundG bs bs.length 0 = ((k : Int), 5) by
              have h9 : wrongB bs k = 5 := by rw [HW.out, hq3]; rfl
              rw [HS.out.1, h9]; rfl)
            clear hq3
            go_wp2
            go_ret2
            rw [HX.out]
            exact ⟨rfl, H4.out.2⟩
          | false =>
            have HX := Lib.hid (show soundG bs bs.length 0 = soundG bs (bs.length - (k + 1)) (k + 1) by
              have h9 : wrongB bs k = 0 := by rw [HW.out, hq3]; rfl
              rw [HS.out.1, h9]; rfl)
            clear hq3
            go_wp2
            go_roundw
            case rel => exact ⟨k + 1, by omega, by go_num, HX.out, H4.out.1⟩
            case measure => simp [intOf]; omega
    · obtain rfl : k = n := by omega
      have hkI : ¬ (k : Int) < (k : Int) := by omega
      have HX := Lib.hid (show soundG bs bs.length 0 = (0, 0) by rw [hso, show bs.length - k = 0 by have := HB.out.2.1; omega]; rfl)
      have HY := Lib.hid (H2.out.2.2.trans (hbl.mono (by omega)))
      clear hso hbl
      go_wp2
      go_ret2
      rw [HX.out]
      exact ⟨rfl, HY.out⟩
end Go.Proofs.Ytnmapncgnceldaa
