/- Layer 19 for 24: which blocks fit the others: contracts of the program's pairs, far, Sound. -/
import Derived.Test.YtnmapncgnceldaaWk2
import Derived.Deep.CutRange
namespace Go.Proofs.Ytnmapncgnceldaa
open Go.RowKit

/-- is something open ahead of block i? -/
def openB (bs : List WB) (b e : Int) : Nat → Bool
  | 0 => false
  | i + 1 => if (bs.getD i default).id = b then true else if (bs.getD i default).id = e then false else openB bs b e i
/-- the last block of a kind ahead of block i -/
def lastB (bs : List WB) (e : Int) : Nat → Int
  | 0 => -1
  | i + 1 => if (bs.getD i default).id = e then (i : Int) else lastB bs e i
def pairB (bs : List WB) (b e : Int) (i : Nat) : Bool :=
  if (bs.getD i default).id = b then (openB bs b e i || decide (lastB bs e bs.length < (i : Int))) else if (bs.getD i default).id = e then !(openB bs b e i) else false
theorem lastB_bd (bs : List WB) (e : Int) : ∀ i : Nat, -1 ≤ lastB bs e i ∧ lastB bs e i < i
  | 0 => by simp [lastB]
  | i + 1 => by
    have := lastB_bd bs e i
    unfold lastB
    split <;> omega
theorem openB_succ (bs : List WB) (b e : Int) (i : Nat) : openB bs b e (i + 1) = if (bs.getD i default).id = b then true else if (bs.getD i default).id = e then false else openB bs b e i := rfl
theorem lastB_succ (bs : List WB) (e : Int) (i : Nat) : lastB bs e (i + 1) = if (bs.getD i default).id = e then (i : Int) else lastB bs e i := rfl
theorem boolInfo3 : (Try.prog.info? 4).map (fun i => (i.zero, i.size, i.bytes)) = some (some (.bool false), 1, 1) := by kernel_rfl
set_option maxRecDepth 100000 in
theorem make_bools (w : World) (n : Nat) (hn : n ≤ 2000000) : (Instr.makeSlice 23 (.int .i64 (n : Int)) (.int .i64 (n : Int))).run Try.prog w = .ok (.slice (some ⟨w.heap.size, 0, none⟩) n n) (w.alloc (.cells (rowB (fun _ => false) n) 4)) := by
  obtain ⟨i0, hi, hz0, hz1, hz2⟩ := info_parts boolInfo3
  have h := run_makeSlice (P := Try.prog) w 23 4 i0 (.bool false) Try.underlying23 hi hz0 .i64 .i64 (n : Int) (n : Int) (by omega) (by omega) (by rw [hz1]; omega) (by rw [hz2]; omega) (by omega)
  rw [hz1, show ((n : Int)).toNat = n by omega, Nat.mul_one] at h
  rw [h]
  congr 3
  apply Array.ext'
  rw [show (Value.bool false).cells = #[Value.bool false] from rfl, toList_madeCells_one]
  unfold rowB
  simp [List.map_const']

set_option maxRecDepth 100000 in
set_option maxHeartbeats 8000000 in
theorem pairs_any (w : World) (A : Option Addr) (n c : Nat) (b e : Int) (bs : List WB) (hB : BlksR w (· < w.heap.size) A n bs) (hbe : b ≠ e) (hn : n ≤ 60) :
    Calls Try.prog 25 #[.slice A n c, .int .i64 b, .int .i64 e] w fun x w' => ∃ g, x = .returned (.slice (some ⟨g, 0, none⟩) n n) ∧ w.heap.size ≤ g ∧ Blk w' g 4 (rowB (pairB bs b e) n) ∧ Below w.heap.size w w' := by
  have hl := hB.len
  have hmk := make_bools w n (by omega)
  have HB := Lib.hid (And.intro hB hl)
  have HBE := Lib.hid hbe
  clear hB hl hbe
  go_enter Try.func25, Try.ntmps25
  go_upto_region 2 with fail
  have hG0 : Blk (w.alloc (.cells (rowB (fun _ => false) n) 4)) w.heap.size 4 (rowB (fun _ => false) n) := Blk.new w _ _
  have hb0 : Below w.heap.size w (w.alloc (.cells (rowB (fun _ => false) n) 4)) := (Below.refl _ _).alloc (Nat.le_refl _) _
  have hs0 : (w.alloc (.cells (rowB (fun _ => false) n) 4)).heap.size = w.heap.size + 1 := by simp
  generalize (w.alloc (.cells (rowB (fun _ => false) n) 4)) = w0 at *
  have H0 := Lib.hid (And.intro hG0 (And.intro hb0 hs0))
  clear hG0 hb0 hs0 hmk
  go_wp2_with fail
  go_loopw [8, 19] (fun x y wr => ∃ j : Nat, j ≤ n ∧ y = .int .i64 j ∧ x = .int .i64 (lastB bs e j) ∧ Below w0.heap.size w0 wr) (fun _ y _ => n - (intOf y).toNat)
  case atStart => exact ⟨0, by omega, rfl, rfl, Below.refl _ _⟩
  case round =>
    obtain ⟨j, hjn, rfl, rfl, hbl⟩ := hrel
    have hj0 : (0 : Int) ≤ (j : Int) := Int.natCast_nonneg _
    have hsz := hbl.size
    by_cases hlt : j < n
    · have hjI : (j : Int) < (n : Int) := by omega
      have hwj : IntKind.i64.wrap ((j : Int) + 1) = (j : Int) + 1 := by rw [IntKind.wrap_i64]; omega
      have hbw : Below w.heap.size w wr := H0.out.2.1.trans (hbl.mono (by have := H0.out.2.2; omega))
      have hBr := HB.out.1.keep (w' := wr) (ψ := (· < w.heap.size)) (fun b hb => hbw.block b hb) (fun b hb => hb)
      obtain ⟨ad, rfl, hab, cs, hWB, hc18⟩ := hBr.at_ (i := j) hlt
      obtain ⟨d, hd⟩ : ∃ d, d = bs.getD j default := ⟨_, rfl⟩
      rw [← hd] at hWB
      obtain ⟨v2, v3, v4, v5, v6, v7, v9, v10, v11, v12, TA, tn, tc, IA, ic, v15, v16, v17, rfl, h1c, hTs, hIs⟩ := hWB
      have X0 := Lib.hid (show ∀ jj vv, ([.int .i64 d.id, .int .i64 d.pz, v2, v3, v4, v5, v6, v7, .int .i64 d.ct, v9, v10, v11, v12, .slice TA tn tc, .slice IA d.ns.length ic, v15, v16, v17] : List Value)[jj]? = some vv → wr.cell? ((ad.add (j * 18)).add jj) = some vv from hc18)
      have X1 := Lib.hid (show (#[.int .i64 d.id, .int .i64 d.pz, v2, v3, v4, v5, v6, v7, .int .i64 d.ct, v9, v10, v11, v12, .slice TA tn tc, .slice IA d.ns.length ic, v15, v16, v17] : Array Value).all (·.oneCell') = true from all_one h1c)
      have HD := Lib.hid (And.intro hd (And.intro hTs hIs))
      clear hc18 h1c hd hTs hIs
      have HL := Lib.hid hbl
      have hls := lastB_succ bs e j
      rw [← HD.out.1] at hls
      have HLS := Lib.hid hls
      clear hBr hbl hbw hls
      go_wp2_with (first
        | (refine wpList_load_at rfl 45 _ rfl (ad.add (j * 18)) rfl [.int .i64 d.id, .int .i64 d.pz, v2, v3, v4, v5, v6, v7, .int .i64 d.ct, v9, v10, v11, v12, .slice TA tn tc, .slice IA d.ns.length ic, v15, v16, v17] X0.out _ Try.underlying45 rfl blkInfo ?_)
        | (refine wpList_store_box rfl 45 _ _ rfl (wr.heap.size) #[.int .i64 d.id, .int .i64 d.pz, v2, v3, v4, v5, v6, v7, .int .i64 d.ct, v9, v10, v11, v12, .slice TA tn tc, .slice IA d.ns.length ic, v15, v16, v17] rfl rfl 45 #[.int .i64 0, .int .i64 0, .int .i64 0, .int .i64 0, .int .i64 0, .int .i64 0, .int .i64 0, .int .i64 0, .int .i64 0, .int .i64 0, .int .i64 0, .int .i64 0, .slice none 0 0, .slice none 0 0, .slice none 0 0, .slice none 0 0, .slice none 0 0, .slice none 0 0] (Blk.new wr _ _) blkInfo rfl X1.out ?_)
        | fail)
      intro w3 hB3 hg3
      have hb3 : Below w0.heap.size w0 w3 := (HL.out.alloc hsz _).grown hg3 (by simp; omega) (fun b hb => by injection hb with hb; omega)
      have c0 : w3.cell? ⟨wr.heap.size, 0, none⟩ = some (.int .i64 d.id) := (hB3.cell 0).trans rfl
      have H3 := Lib.hid hb3
      clear hB3 hg3 hb3
      by_cases hid : d.id = e
      · rw [if_pos hid] at HLS
        rw [hid] at c0
        go_wp2
        go_roundw
        case rel => exact ⟨j + 1, by omega, by go_num, by rw [HLS.out], H3.out⟩
        case measure => simp [intOf]; omega
      · rw [if_neg hid] at HLS
        have hidb : (d.id == e) = false := by simpa using hid
        go_wp2
        go_roundw
        case rel => exact ⟨j + 1, by omega, by go_num, by rw [HLS.out], H3.out⟩
        case measure => simp [intOf]; omega
    · obtain rfl : j = n := by omega
      have hjI : ¬ (j : Int) < (j : Int) := by omega
      obtain ⟨q, hq⟩ : ∃ q : Int, q = lastB bs e j := ⟨_, rfl⟩
      have hqb := lastB_bd bs e j
      rw [← hq] at hqb ⊢
      have HQ := Lib.hid hq
      have H1 := Lib.hid (And.intro (H0.out.1.below hbl (by have := H0.out.2.2; omega)) (And.intro (H0.out.2.1.trans (hbl.mono (by have := H0.out.2.2; omega))) hsz))
      clear hq hbl hlt
      go_wp2_with fail
      obtain ⟨w1, rfl⟩ : ∃ w1 : World, w1 = wr := ⟨_, rfl⟩
      go_loopw [11, 32] (fun x y wx => ∃ k : Nat, k ≤ j ∧ y = .int .i64 k ∧ x = .bool (openB bs b e k) ∧ Blk wx w.heap.size 4 (rowB (fun i => decide (i < k) && pairB bs b e i) j) ∧ Below w.heap.size w wx) (fun _ y _ => j - (intOf y).toNat)
      case atStart => exact ⟨0, by omega, rfl, rfl, by rw [rowB_congr (g := fun _ => false) (fun i _ => by simp)]; exact H1.out.1, H1.out.2.1⟩
      case round =>
        obtain ⟨k, hkj, rfl, rfl, hG, hbl⟩ := hrel
        have hk0 : (0 : Int) ≤ (k : Int) := Int.natCast_nonneg _
        have hsz := hbl.size
        have hGl := hG.lt
        by_cases hlt : k < j
        · have hkI : (k : Int) < (j : Int) := by omega
          have hwk : IntKind.i64.wrap ((k : Int) + 1) = (k : Int) + 1 := by rw [IntKind.wrap_i64]; omega
          have hBr := HB.out.1.keep (w' := wr) (ψ := (· < w.heap.size)) (fun b hb => hbl.block b hb) (fun b hb => hb)
          obtain ⟨ad, rfl, hab, cs, hWB, hc18⟩ := hBr.at_ (i := k) hlt
          obtain ⟨d, hd⟩ : ∃ d, d = bs.getD k default := ⟨_, rfl⟩
          rw [← hd] at hWB
          obtain ⟨v2, v3, v4, v5, v6, v7, v9, v10, v11, v12, TA, tn, tc, IA, ic, v15, v16, v17, rfl, h1c, hTs, hIs⟩ := hWB
          have X0 := Lib.hid (show ∀ jj vv, ([.int .i64 d.id, .int .i64 d.pz, v2, v3, v4, v5, v6, v7, .int .i64 d.ct, v9, v10, v11, v12, .slice TA tn tc, .slice IA d.ns.length ic, v15, v16, v17] : List Value)[jj]? = some vv → wr.cell? ((ad.add (k * 18)).add jj) = some vv from hc18)
          have X1 := Lib.hid (show (#[.int .i64 d.id, .int .i64 d.pz, v2, v3, v4, v5, v6, v7, .int .i64 d.ct, v9, v10, v11, v12, .slice TA tn tc, .slice IA d.ns.length ic, v15, v16, v17] : Array Value).all (·.oneCell') = true from all_one h1c)
          have HD := Lib.hid (And.intro hd (And.intro hTs hIs))
          clear hc18 h1c hd hTs hIs
          have HL := Lib.hid (And.intro hbl hG)
          have hos := openB_succ bs b e k
          rw [← HD.out.1] at hos
          have hps : pairB bs b e k = if d.id = b then (openB bs b e k || decide (lastB bs e bs.length < (k : Int))) else if d.id = e then !(openB bs b e k) else false := by rw [HD.out.1]; rfl
          rw [HB.out.2, ← HQ.out] at hps
          have HOS := Lib.hid hos
          have HPS := Lib.hid hps
          clear hBr hbl hG hos hps
          generalize openB bs b e k = op at *
          go_wp2_with (first
            | (refine wpList_load_at rfl 45 _ rfl (ad.add (k * 18)) rfl [.int .i64 d.id, .int .i64 d.pz, v2, v3, v4, v5, v6, v7, .int .i64 d.ct, v9, v10, v11, v12, .slice TA tn tc, .slice IA d.ns.length ic, v15, v16, v17] X0.out _ Try.underlying45 rfl blkInfo ?_)
            | (refine wpList_store_box rfl 45 _ _ rfl (wr.heap.size) #[.int .i64 d.id, .int .i64 d.pz, v2, v3, v4, v5, v6, v7, .int .i64 d.ct, v9, v10, v11, v12, .slice TA tn tc, .slice IA d.ns.length ic, v15, v16, v17] rfl rfl 45 #[.int .i64 0, .int .i64 0, .int .i64 0, .int .i64 0, .int .i64 0, .int .i64 0, .int .i64 0, .int .i64 0, .int .i64 0, .int .i64 0, .int .i64 0, .int .i64 0, .slice none 0 0, .slice none 0 0, .slice none 0 0, .slice none 0 0, .slice none 0 0, .slice none 0 0] (Blk.new wr _ _) blkInfo rfl X1.out ?_)
            | fail)
          intro w3 hB3 hg3
          have hb3 : Below w.heap.size w w3 := (HL.out.1.alloc hsz _).grown hg3 (by simp; omega) (fun b hb => by injection hb with hb; omega)
          have hG3 : Blk w3 w.heap.size 4 (rowB (fun i => decide (i < k) && pairB bs b e i) j) := (HL.out.2.alloc _).grown hg3 (fun e => by injection e with e; omega)
          have c0 : w3.cell? ⟨wr.heap.size, 0, none⟩ = some (.int .i64 d.id) := (hB3.cell 0).trans rfl
          have had := add0 w.heap.size k
          have ck : w3.cell? ⟨w.heap.size, k, none⟩ = some (.bool (decide (k < k) && pairB bs b e k)) := (hG3.cell k).trans (rowB_at _ hlt)
          have fk : w3.frozen? ⟨w.heap.size, k, none⟩ = false := hG3.frozen k
          have H3 := Lib.hid (And.intro hb3 hG3)
          clear hB3 hg3 hb3 hG3
          by_cases hidb : d.id = b
          · have hide : ¬ b = e := HBE.out
            have hideb : (b == e) = false := by simpa using hide
            have hpv : pairB bs b e k = (op || decide (q < (k : Int))) := by rw [HPS.out, if_pos hidb]
            have hov : openB bs b e (k + 1) = true := by rw [HOS.out, if_pos hidb]
            have HV := Lib.hid (And.intro hpv hov)
            clear hpv hov
            rw [hidb] at c0
            obtain ⟨vb, hvb⟩ : ∃ vb : Bool, vb = (op || decide (q < (k : Int))) := ⟨_, rfl⟩
            have HVB := Lib.hid hvb
            clear hvb
            have hst : ∀ vb : Bool, vb = (op || decide (q < (k : Int))) → (∃ k', k' ≤ j ∧ k' = k + 1 ∧ Blk (w3.setCell ⟨w.heap.size, k, none⟩ (.bool vb)) w.heap.size 4 (rowB (fun i => decide (i < k + 1) && pairB bs b e i) j) ∧ Below w.heap.size w (w3.setCell ⟨w.heap.size, k, none⟩ (.bool vb))) := fun vb hvb => by
              refine ⟨k + 1, by omega, rfl, ?_, H3.out.1.setCell (Nat.le_refl _) _⟩
              have h9 := H3.out.2.set_ k (.bool vb)
              rw [rowB_set] at h9
              rw [rowB_congr (g := fun i => if i = k then vb else decide (i < k) && pairB bs b e i) (fun i _ => ?_)]
              · exact h9
              · by_cases hi : i = k
                · subst hi; simp [HV.out.1, hvb]
                · rw [if_neg hi]
                  congr 1
                  rw [Bool.eq_iff_iff]
                  simp
                  omega
            have HST := Lib.hid hst
            clear hst
            cases op with
            | true =>
              go_wp2
              go_roundw
              case rel =>
                obtain ⟨_, _, _, h1, h2⟩ := HST.out true (by simp)
                exact ⟨k + 1, by omega, by go_num, by rw [HV.out.2], h1, h2⟩
              case measure => simp [intOf]; omega
            | false =>
              by_cases hqk : q < (k : Int)
              · go_wp2
                go_roundw
                case rel =>
                  obtain ⟨_, _, _, h1, h2⟩ := HST.out true (by simp [hqk])
                  exact ⟨k + 1, by omega, by go_num, by rw [HV.out.2], h1, h2⟩
                case measure => simp [intOf]; omega
              · go_wp2
                go_roundw
                case rel =>
                  obtain ⟨_, _, _, h1, h2⟩ := HST.out false (by simp [hqk])
                  exact ⟨k + 1, by omega, by go_num, by rw [HV.out.2], h1, h2⟩
                case measure => simp [intOf]; omega
          · have hidbb : (d.id == b) = false := by simpa using hidb
            by_cases hide : d.id = e
            · have hpv : pairB bs b e k = !op := by rw [HPS.out, if_neg hidb, if_pos hide]
              have hov : openB bs b e (k + 1) = false := by rw [HOS.out, if_neg hidb, if_pos hide]
              have HV := Lib.hid (And.intro hpv hov)
              clear hpv hov
              have hbe2 : ¬ e = b := fun h => hidb (hide.trans h)
              have hbe2b : (e == b) = false := by simpa using hbe2
              rw [hide] at c0
              have hst : ∀ vb : Bool, vb = !op → (∃ k', k' ≤ j ∧ k' = k + 1 ∧ Blk (w3.setCell ⟨w.heap.size, k, none⟩ (.bool vb)) w.heap.size 4 (rowB (fun i => decide (i < k + 1) && pairB bs b e i) j) ∧ Below w.heap.size w (w3.setCell ⟨w.heap.size, k, none⟩ (.bool vb))) := fun vb hvb => by
                refine ⟨k + 1, by omega, rfl, ?_, H3.out.1.setCell (Nat.le_refl _) _⟩
                have h9 := H3.out.2.set_ k (.bool vb)
                rw [rowB_set] at h9
                rw [rowB_congr (g := fun i => if i = k then vb else decide (i < k) && pairB bs b e i) (fun i _ => ?_)]
                · exact h9
                · by_cases hi : i = k
                  · subst hi; simp [HV.out.1, hvb]
                  · rw [if_neg hi]
                    congr 1
                    rw [Bool.eq_iff_iff]
                    simp
                    omega
              have HST := Lib.hid hst
              clear hst
              cases op with
              | true =>
                go_wp2
                go_roundw
                case rel =>
                  obtain ⟨_, _, _, h1, h2⟩ := HST.out false rfl
                  exact ⟨k + 1, by omega, by go_num, by rw [HV.out.2], h1, h2⟩
                case measure => simp [intOf]; omega
              | false =>
                go_wp2
                go_roundw
                case rel =>
                  obtain ⟨_, _, _, h1, h2⟩ := HST.out true rfl
                  exact ⟨k + 1, by omega, by go_num, by rw [HV.out.2], h1, h2⟩
                case measure => simp [intOf]; omega
            · have hideb : (d.id == e) = false := by simpa using hide
              have HV := Lib.hid (And.intro (show pairB bs b e k = false by rw [HPS.out, if_neg hidb, if_neg hide]) (show openB bs b e (k + 1) = op by rw [HOS.out, if_neg hidb, if_neg hide]))
              go_wp2
              go_roundw
              case rel =>
                refine ⟨k + 1, by omega, by go_num, by rw [HV.out.2], ?_, H3.out.1⟩
                rw [rowB_congr (g := fun i => decide (i < k) && pairB bs b e i) (fun i _ => ?_)]
                · exact H3.out.2
                · by_cases hi : i = k
                  · subst hi; simp [HV.out.1]
                  · congr 1
                    rw [Bool.eq_iff_iff]
                    simp
                    omega
              case measure => simp [intOf]; omega
        · obtain rfl : k = j := by omega
          have hkI : ¬ (k : Int) < (k : Int) := by omega
          have HX := Lib.hid (And.intro hG hbl)
          clear hG hbl
          go_wp2
          go_ret
          refine ⟨w.heap.size, rfl, Nat.le_refl _, ?_, HX.out.2⟩
          rw [rowB_congr (g := fun i => decide (i < k) && pairB bs b e i) (fun i hi => by simp [hi])]
          exact HX.out.1
end Go.Proofs.Ytnmapncgnceldaa
