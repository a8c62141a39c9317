/- Layer 24: contract of the document's Next. -/
import Derived.Test.YtnmapncgnceldaaWk23
namespace Go.Proofs.Ytnmapncgnceldaa
open Go.RowKit

theorem silent_any (w : World) (LA : Option Addr) (ln lc : Nat) (KA : Option Addr) (kn kc : Nat) (bs : List WB) (s : WS) (d : DW) (hR : DR s d) (hok : s.ok bs) (hf : Fine bs) (hlt : s.at_ < bs.length) (hB : BlksR w (· < w.heap.size) LA ln bs) (φ : Nat → Prop) (hφ : ∀ b, φ b → b < w.heap.size) (hT : RdP w φ 1 KA kn (s.tk.reverse.map (Value.int .i64))) : Calls Try.prog 23 #[.agg (dwC LA ln lc KA kn kc d)] w fun x w' => SilO w w' x LA ln lc KA kn kc bs s d φ := by
  by_cases h35 : (atB bs s.at_).id = 35
  · exact silent35 w LA ln lc KA kn kc bs s d hR hok hf hlt hB φ hφ hT h35
  · by_cases h36 : (atB bs s.at_).id = 36
    · exact silent36 w LA ln lc KA kn kc bs s d hR hok hf hlt hB φ hφ hT h36
    · by_cases h37 : (atB bs s.at_).id = 37
      · exact silent37 w LA ln lc KA kn kc bs s d hR hok hf hlt hB φ hφ hT h37
      · by_cases h38 : (atB bs s.at_).id = 38
        · exact silent38 w LA ln lc KA kn kc bs s d hR hok hf hlt hB φ hφ hT h38
        · by_cases h39 : (atB bs s.at_).id = 39
          · exact silent39 w LA ln lc KA kn kc bs s d hR hok hf hlt hB φ hφ hT h39
          · exact silent0 w LA ln lc KA kn kc bs s d hR hok hf hlt hB φ hφ hT ⟨h35, h36, h37, h38, h39⟩
/-- what Next leaves -/
def NextDO (w w' : World) (x : Ending) (LA : Option Addr) (ln lc : Nat) (bs : List WB) (s : WS) (φ : Nat → Prop) : Prop :=
  Below w.heap.size w w' ∧ ∃ (KA : Option Addr) (kn kc : Nat) (d : DW), x = .returned (.agg (dwC LA ln lc KA kn kc d)) ∧ DR (nextS bs s).2 d ∧ (d.kind = (nextS bs s).1.k ∧ d.block = (nextS bs s).1.b ∧ d.e = (nextS bs s).1.e) ∧ RdP w' (fun b => φ b ∨ (w.heap.size ≤ b ∧ b < w'.heap.size)) 1 KA kn ((nextS bs s).2.tk.reverse.map (Value.int .i64))
/-- where a way's taken jumps lie -/
def TkP (w wr : World) (φ : Nat → Prop) (b : Nat) : Prop := φ b ∨ (w.heap.size + 2 ≤ b ∧ b < wr.heap.size)
theorem lead_ov (bs : List WB) (r : WS) : (leadS bs r).ov = r.ov := by
  unfold leadS
  split
  · rfl
  · split
    · rfl
    · split
      · split <;> rfl
      · split
        · split <;> rfl
        · split
          · split <;> rfl
          · rfl
theorem DR_lo {r : WS} {d : DW} {k e : Int} (h : DR r d) (hk : k < 3) (hov : r.ov = false) : DR { r with at_ := r.at_ + 1 } (toldD d k e) := by
  obtain ⟨h1, h2, h3, h4, h5, h6, h7, h8⟩ := h
  exact ⟨by show (if k < 3 then d.at_ + 1 else d.at_) = r.at_ + 1; rw [if_pos hk, h1], h2, h3, h4, h5, h6, by show decide (3 ≤ k) = r.ov; rw [hov]; simp; omega, h8⟩
theorem DR_hi {r : WS} {d : DW} {k b e f : Int} (h : DR r d) (hk : 3 ≤ k) : DR (stayS r k b e) (toldD d k f) := by
  obtain ⟨h1, h2, h3, h4, h5, h6, h7, h8⟩ := h
  exact ⟨by show (if k < 3 then d.at_ + 1 else d.at_) = r.at_; rw [if_neg (by omega), h1], h2, h3, h4, h5, h6, by show decide (3 ≤ k) = true; simp; omega, h8⟩
theorem nextW_told {bs : List WB} {f : Nat} {r : WS} (hlt : r.at_ < bs.length) (hk : toldK (atB bs r.at_) ≠ 3) : nextW bs (f + 1) r = (⟨toldK (atB bs r.at_), r.at_, 0⟩, { r with at_ := r.at_ + 1 }) := by rw [nextW, if_pos hlt, if_neg hk]
theorem nextW_fault {bs : List WB} {f : Nat} {r : WS} (hlt : r.at_ < bs.length) (hk : toldK (atB bs r.at_) = 3) (he : leadE bs r ≠ 0) : nextW bs (f + 1) r = (⟨4, r.at_, leadE bs r⟩, stayS r 4 r.at_ (leadE bs r)) := by rw [nextW, if_pos hlt, if_pos hk, if_neg he]
theorem nextW_lead {bs : List WB} {f : Nat} {r : WS} (hlt : r.at_ < bs.length) (hk : toldK (atB bs r.at_) = 3) (he : leadE bs r = 0) : nextW bs (f + 1) r = nextW bs f (leadS bs r) := by rw [nextW, if_pos hlt, if_pos hk, if_pos he]
theorem nextW_end {bs : List WB} {f : Nat} {r : WS} (hlt : ¬ r.at_ < bs.length) : nextW bs (f + 1) r = (⟨3, bs.length, 0⟩, stayS r 3 bs.length 0) := by rw [nextW, if_neg hlt]
/-- what is told stays -/
theorem nextW_stays {bs : List WB} : ∀ {f : Nat} {s : WS}, s.ov = false → (nextW bs f s).2.ov = true → (nextW bs f s).2.lk = (nextW bs f s).1.k ∧ (nextW bs f s).2.lb = (nextW bs f s).1.b ∧ (nextW bs f s).2.le = (nextW bs f s).1.e
  | 0, s, h0, h => by rw [nextW] at h; exact absurd (h0.symm.trans h) (by decide)
  | f + 1, s, h0, h => by
    by_cases hlt : s.at_ < bs.length
    · by_cases hk : toldK (atB bs s.at_) = 3
      · by_cases he : leadE bs s = 0
        · rw [nextW_lead hlt hk he] at h ⊢
          exact nextW_stays (by rw [lead_ov]; exact h0) h
        · rw [nextW_fault hlt hk he]
          exact ⟨rfl, rfl, rfl⟩
      · rw [nextW_told hlt hk] at h
        exact absurd (h0.symm.trans h) (by decide)
    · rw [nextW_end hlt]
      exact ⟨rfl, rfl, rfl⟩
theorem nextS_stays {bs : List WB} {s : WS} (h : (nextS bs s).2.ov = true) : (nextS bs s).2.lk = (nextS bs s).1.k ∧ (nextS bs s).2.lb = (nextS bs s).1.b ∧ (nextS bs s).2.le = (nextS bs s).1.e := by
  unfold nextS at h ⊢
  by_cases ho : s.ov = true
  · rw [if_pos ho]
    exact ⟨rfl, rfl, rfl⟩
  · rw [if_neg ho] at h ⊢
    exact nextW_stays (by simpa using ho) h
theorem tkp_lt {w wr : World} {φ : Nat → Prop} (hφ : ∀ b, φ b → b < w.heap.size) (hs : w.heap.size ≤ wr.heap.size) {b : Nat} (h : TkP w wr φ b) : b < wr.heap.size := by
  rcases h with h | h
  · have := hφ b h; omega
  · exact h.2

set_option maxRecDepth 100000 in
set_option maxHeartbeats 8000000 in
theorem nextD_any (w : World) (LA : Option Addr) (ln lc : Nat) (KA : Option Addr) (kn kc : Nat) (bs : List WB) (s : WS) (d : DW) (hR : DR s d) (hok : s.ok bs) (hf : Fine bs) (hB : BlksR w (· < w.heap.size) LA ln bs) (φ : Nat → Prop) (hφ : ∀ b, φ b → b < w.heap.size) (hT : RdP w φ 1 KA kn (s.tk.reverse.map (Value.int .i64)))
    (hov : s.ov = true → d.kind = s.lk ∧ d.block = s.lb ∧ d.e = s.le) :
    Calls Try.prog 13 #[.agg (dwC LA ln lc KA kn kc d)] w fun x w' => NextDO w w' x LA ln lc bs s φ := by
  have hln := hB.len
  have hl60 : ln ≤ 60 := by have := hf.1; omega
  have HLN := Lib.hid hln
  have HPH := Lib.hid hφ
  have HG := Lib.hid (And.intro hR (And.intro hok (And.intro hf (And.intro hT (And.intro hov hB)))))
  clear hφ hR hok hf hT hov hB hln
  have hb2 : Below w.heap.size w ((w.alloc (.cells (dwC LA ln lc KA kn kc d) 33)).alloc (.cells #[.slice none 0 0, .int .i64 0, .int .i64 0, .int .i64 0, .bool false, .int .i64 0, .int .i64 0, .slice none 0 0, .bool false, .int .i64 0, .int .i64 0, .int .i64 0] 33)) := ((Below.refl _ _).alloc (Nat.le_refl _) _).alloc (by simp) _
  have hP : Blk ((w.alloc (.cells (dwC LA ln lc KA kn kc d) 33)).alloc (.cells #[.slice none 0 0, .int .i64 0, .int .i64 0, .int .i64 0, .bool false, .int .i64 0, .int .i64 0, .slice none 0 0, .bool false, .int .i64 0, .int .i64 0, .int .i64 0] 33)) w.heap.size 33 (dwC LA ln lc KA kn kc d) := (Blk.new w _ _).alloc _
  have hQ : Blk ((w.alloc (.cells (dwC LA ln lc KA kn kc d) 33)).alloc (.cells #[.slice none 0 0, .int .i64 0, .int .i64 0, .int .i64 0, .bool false, .int .i64 0, .int .i64 0, .slice none 0 0, .bool false, .int .i64 0, .int .i64 0, .int .i64 0] 33)) (w.heap.size + 1) 33 #[.slice none 0 0, .int .i64 0, .int .i64 0, .int .i64 0, .bool false, .int .i64 0, .int .i64 0, .slice none 0 0, .bool false, .int .i64 0, .int .i64 0, .int .i64 0] := by
    have := Blk.new (w.alloc (.cells (dwC LA ln lc KA kn kc d) 33)) 33 #[.slice none 0 0, .int .i64 0, .int .i64 0, .int .i64 0, .bool false, .int .i64 0, .int .i64 0, .slice none 0 0, .bool false, .int .i64 0, .int .i64 0, .int .i64 0]
    simpa using this
  have H0 := Lib.hid (And.intro hb2 (And.intro hP hQ))
  clear hb2 hP hQ
  go_enter Try.func13, Try.ntmps13
  go_upto_region 1 with fail
  generalize ((w.alloc (.cells (dwC LA ln lc KA kn kc d) 33)).alloc (.cells #[.slice none 0 0, .int .i64 0, .int .i64 0, .int .i64 0, .bool false, .int .i64 0, .int .i64 0, .slice none 0 0, .bool false, .int .i64 0, .int .i64 0, .int .i64 0] 33)) = w0 at *
  have hs0 := H0.out.1.size
  have hql := H0.out.2.2.lt
  have c8 : w0.cell? ⟨w.heap.size, 8, none⟩ = some (.bool s.ov) := by rw [← HG.out.1.2.2.2.2.2.2.1]; exact (H0.out.2.1.cell 8).trans rfl
  cases hso : s.ov with
  | true =>
    rw [hso] at c8
    have HSO := Lib.hid hso
    clear hso
    have hPz := H0.out.2.1
    have hQz := H0.out.2.2
    go_wp2_with (first
      | (refine wpList_load_box rfl 33 _ rfl (w.heap.size) rfl 33 (dwC LA ln lc KA kn kc d) hPz _ Try.underlying33 rfl dwInfo (fun (_ : Hid _) => ?_))
      | (refine wpList_store_box rfl 33 _ _ rfl (w.heap.size + 1) (dwC LA ln lc KA kn kc d) rfl rfl 33 #[.slice none 0 0, .int .i64 0, .int .i64 0, .int .i64 0, .bool false, .int .i64 0, .int .i64 0, .slice none 0 0, .bool false, .int .i64 0, .int .i64 0, .int .i64 0] hQz dwInfo rfl dwOne ?_)
      | fail)
    intro w9 hB9 hg9
    have H9 := Lib.hid (show Below w.heap.size w w9 from H0.out.1.grown hg9 H0.out.1.size (fun b e => by injection e with e; omega))
    clear hg9 hPz hQz
    go_wp2_with fail
    refine bodyPost_ret (results_cell_row rfl _ _ (w.heap.size + 1) 33 _ (0, 0) _ rfl hB9 Try.underlying33 rfl dwInfo) rfl ?_
    have hns : nextS bs s = (⟨s.lk, s.lb, s.le⟩, s) := if_pos HSO.out
    exact ⟨H9.out, KA, kn, kc, d, rfl, by rw [hns]; exact HG.out.1, by rw [hns]; exact HG.out.2.2.2.2.1 HSO.out, by rw [hns]; exact HG.out.2.2.2.1.keep (fun b hb => H9.out.block b (HPH.out b hb)) (fun b hb => .inl hb)⟩
  | false =>
    rw [hso] at c8
    have hS : nextS bs s = nextW bs (roundsN bs s + 1) s := if_neg (by rw [hso]; decide)
    have HST := Lib.hid (show ∃ (r : WS) (d : DW) (KA : Option Addr) (kn kc : Nat), r.ok bs ∧ DR r d ∧ Blk w0 w.heap.size 33 (dwC LA ln lc KA kn kc d) ∧ Blk w0 (w.heap.size + 1) 33 #[.slice none 0 0, .int .i64 0, .int .i64 0, .int .i64 0, .bool false, .int .i64 0, .int .i64 0, .slice none 0 0, .bool false, .int .i64 0, .int .i64 0, .int .i64 0] ∧ RdP w0 (TkP w w0 φ) 1 KA kn (r.tk.reverse.map (Value.int .i64)) ∧ Below w.heap.size w w0 ∧ r.ov = false ∧ nextS bs s = nextW bs (roundsN bs r + 1) r ∧ roundsN bs s = roundsN bs r from ⟨s, d, KA, kn, kc, HG.out.2.1, HG.out.1, H0.out.2.1, H0.out.2.2, HG.out.2.2.2.1.keep (fun b hb => H0.out.1.block b (HPH.out b hb)) (fun b hb => .inl hb), H0.out.1, hso, hS, rfl⟩)
    clear hS hso
    go_upto_region 3 with fail
    clear c8
    go_loopg [] (roundsN bs s) (fun k wr => ∃ (r : WS) (d : DW) (KA : Option Addr) (kn kc : Nat), r.ok bs ∧ DR r d ∧ Blk wr w.heap.size 33 (dwC LA ln lc KA kn kc d) ∧ Blk wr (w.heap.size + 1) 33 #[.slice none 0 0, .int .i64 0, .int .i64 0, .int .i64 0, .bool false, .int .i64 0, .int .i64 0, .slice none 0 0, .bool false, .int .i64 0, .int .i64 0, .int .i64 0] ∧ RdP wr (TkP w wr φ) 1 KA kn (r.tk.reverse.map (Value.int .i64)) ∧ Below w.heap.size w wr ∧ r.ov = false ∧ nextS bs s = nextW bs (roundsN bs r + 1) r ∧ k = roundsN bs r)
    case atStart => exact HST.out
    case round =>
      obtain ⟨r, d, KA, kn, kc, hrk, hR, hP, hQ, hK, hbl, hro, hnx, rfl⟩ := hrel
      obtain ⟨n, hn⟩ : ∃ n : Nat, r.at_ = (n : Int) := ⟨r.at_.toNat, by have := hrk.1; omega⟩
      have hn0 : (0 : Int) ≤ (n : Int) := Int.natCast_nonneg _
      have hrl : n ≤ ln := by have := hrk.2.1; have := HLN.out; omega
      have hdat : d.at_ = (n : Int) := hR.1.trans hn
      have hat : 0 ≤ d.at_ ∧ d.at_ ≤ 60 := by omega
      have hsw := hbl.size
      have hqw := hQ.lt
      have c0 : wr.cell? ⟨w.heap.size, 0, none⟩ = some (.slice LA ln lc) := (hP.cell 0).trans rfl
      have c1 : wr.cell? ⟨w.heap.size, 1, none⟩ = some (.int .i64 (n : Int)) := by rw [← hdat]; exact (hP.cell 1).trans rfl
      have HAT := Lib.hid (And.intro hat hdat)
      clear hat hdat
      by_cases hlt : n < ln
      · have hltI : (n : Int) < (ln : Int) := by omega
        have hBr := HG.out.2.2.2.2.2.keep (w' := wr) (ψ := (· < w.heap.size)) (fun b hb => hbl.block b hb) (fun b hb => hb)
        obtain ⟨ad, hLA, hab, cs, hWB, hc18⟩ := hBr.at_ (i := n) hlt
        obtain ⟨q, hq⟩ : ∃ q, q = bs.getD n default := ⟨_, rfl⟩
        rw [← hq] at hWB
        obtain ⟨v2, v3, v4, v5, v6, v7, v9, v10, v11, v12, TA, tn, tc, IA, ic, v15, v16, v17, rfl, h1c, hTs, hIs⟩ := hWB
        have X0 := Lib.hid (show ∀ jj vv, ([.int .i64 q.id, .int .i64 q.pz, v2, v3, v4, v5, v6, v7, .int .i64 q.ct, v9, v10, v11, v12, .slice TA tn tc, .slice IA q.ns.length ic, v15, v16, v17] : List Value)[jj]? = some vv → wr.cell? ((ad.add (n * 18)).add jj) = some vv from hc18)
        have X1 := Lib.hid (show (#[.int .i64 q.id, .int .i64 q.pz, v2, v3, v4, v5, v6, v7, .int .i64 q.ct, v9, v10, v11, v12, .slice TA tn tc, .slice IA q.ns.length ic, v15, v16, v17] : Array Value).all (·.oneCell') = true from all_one h1c)
        have HD := Lib.hid (And.intro hq (And.intro hTs hIs))
        clear hc18 h1c hq hTs hIs
        rw [hLA] at c0
        have HR := Lib.hid (And.intro hrk (And.intro hR (And.intro hP (And.intro hQ (And.intro hK (And.intro hbl (And.intro hro (And.intro hnx hn))))))))
        have HLA := Lib.hid hLA
        clear hBr hrk hR hP hQ hK hbl hro hnx hn hLA
        have HDq := Lib.hid (show q = atB bs r.at_ from by rw [HD.out.1, HR.out.2.2.2.2.2.2.2.2]; rfl)
        go_upto_region 5 with (first
          | (refine wpList_load_at rfl 45 _ rfl (ad.add (n * 18)) rfl [.int .i64 q.id, .int .i64 q.pz, v2, v3, v4, v5, v6, v7, .int .i64 q.ct, v9, v10, v11, v12, .slice TA tn tc, .slice IA q.ns.length ic, v15, v16, v17] X0.out _ Try.underlying45 rfl blkInfo ?_)
          | (refine wpList_store_box rfl 45 _ _ rfl (wr.heap.size) #[.int .i64 q.id, .int .i64 q.pz, v2, v3, v4, v5, v6, v7, .int .i64 q.ct, v9, v10, v11, v12, .slice TA tn tc, .slice IA q.ns.length ic, v15, v16, v17] rfl rfl 45 #[.int .i64 0, .int .i64 0, .int .i64 0, .int .i64 0, .int .i64 0, .int .i64 0, .int .i64 0, .int .i64 0, .int .i64 0, .int .i64 0, .int .i64 0, .int .i64 0, .slice none 0 0, .slice none 0 0, .slice none 0 0, .slice none 0 0, .slice none 0 0, .slice none 0 0] (Blk.new wr _ _) blkInfo rfl X1.out ?_)
          | fail)
        intro w3 hB3 hg3
        have hb3 : Below wr.heap.size wr w3 := ((Below.refl _ _).alloc (Nat.le_refl _) _).grown hg3 (by simp) (fun b e => by injection e with e; omega)
        have hz3 := hb3.size
        have H3 := Lib.hid (show Blk w3 w.heap.size 33 (dwC LA ln lc KA kn kc d) ∧ Blk w3 (w.heap.size + 1) 33 #[.slice none 0 0, .int .i64 0, .int .i64 0, .int .i64 0, .bool false, .int .i64 0, .int .i64 0, .slice none 0 0, .bool false, .int .i64 0, .int .i64 0, .int .i64 0] ∧ RdP w3 (TkP w w3 φ) 1 KA kn (r.tk.reverse.map (Value.int .i64)) ∧ Below w.heap.size w w3 from ⟨HR.out.2.2.1.below hb3 HR.out.2.2.1.lt, HR.out.2.2.2.1.below hb3 hqw, HR.out.2.2.2.2.1.keep (fun b hb => hb3.block b (tkp_lt HPH.out hsw hb)) (fun b hb => hb.imp id (fun h => ⟨h.1, by omega⟩)), HR.out.2.2.2.2.2.1.trans (hb3.mono hsw)⟩)
        have p0 : w3.cell? ⟨wr.heap.size, 0, none⟩ = some (.int .i64 q.id) := (hB3.cell 0).trans rfl
        have p1 : w3.cell? ⟨wr.heap.size, 1, none⟩ = some (.int .i64 q.pz) := (hB3.cell 1).trans rfl
        clear hB3 hg3 hb3 X0 X1 c0 c1
        have hrA : r.at_ < (bs.length : Int) := by rw [HR.out.2.2.2.2.2.2.2.2, HLN.out]; exact hltI
        have HRA := Lib.hid hrA
        clear hrA
        by_cases hst : q.id = 32 ∧ q.pz = 0
        · obtain ⟨h1, h2⟩ := hst
          have HT := Lib.hid (show toldK (atB bs r.at_) = 1 from by rw [← HDq.out]; unfold toldK; rw [if_pos (.inl ⟨h1, h2⟩)])
          rw [h1] at p0
          rw [h2] at p1
          clear h1 h2
          have hat := HAT.out.1
          have htl := told_any w3 LA ln lc KA kn kc d 1 0 hat
          have hPz := H3.out.1
          go_wp2_with (first
            | (refine wpList_load_box rfl 33 _ rfl (w.heap.size) rfl 33 (dwC LA ln lc KA kn kc d) hPz _ Try.underlying33 rfl dwInfo (fun (_ : Hid _) => ?_))
            | fail)
          refine htl.mono ?_
          rintro x w5 ⟨rfl, hb5⟩
          clear htl hPz
          have hQ5 : Blk w5 (w.heap.size + 1) 33 #[.slice none 0 0, .int .i64 0, .int .i64 0, .int .i64 0, .bool false, .int .i64 0, .int .i64 0, .slice none 0 0, .bool false, .int .i64 0, .int .i64 0, .int .i64 0] := H3.out.2.1.below hb5 (H3.out.2.1.lt)
          have hs3 := H3.out.2.2.2.size
          have hs5 := hb5.size
          have H5 := Lib.hid (show Below w.heap.size w w5 ∧ RdP w5 (TkP w w5 φ) 1 KA kn (r.tk.reverse.map (Value.int .i64)) from ⟨H3.out.2.2.2.trans (hb5.mono hs3), H3.out.2.2.1.keep (fun b hb => hb5.block b (tkp_lt HPH.out hs3 hb)) (fun b hb => hb.imp id (fun h => ⟨h.1, by omega⟩))⟩)
          clear hb5
          go_wp2_with (first
            | (refine wpList_store_box rfl 33 _ _ rfl (w.heap.size + 1) (dwC LA ln lc KA kn kc (toldD d 1 0)) rfl rfl 33 #[.slice none 0 0, .int .i64 0, .int .i64 0, .int .i64 0, .bool false, .int .i64 0, .int .i64 0, .slice none 0 0, .bool false, .int .i64 0, .int .i64 0, .int .i64 0] hQ5 dwInfo rfl dwOne ?_)
            | fail)
          intro w9 hB9 hg9
          have hq5 := hQ5.lt
          have H9 := Lib.hid (show Below w.heap.size w w9 from H5.out.1.grown hg9 H5.out.1.size (fun b e => by injection e with e; omega))
          have HK9 := Lib.hid (show RdP w9 (fun b => φ b ∨ (w.heap.size ≤ b ∧ b < w9.heap.size)) 1 KA kn (r.tk.reverse.map (Value.int .i64)) from H5.out.2.keep (fun b hb => hg9.block b (tkp_lt HPH.out H5.out.1.size hb) (fun e => by injection e with e; rcases hb with h | h; have := HPH.out b h; omega; have := h.1; omega)) (fun b hb => hb.imp id (fun h => ⟨by have := h.1; omega, Nat.lt_of_lt_of_le h.2 hg9.size⟩)))
          clear hg9
          go_wp2_with fail
          refine bodyPost_ret (results_cell_row rfl _ _ (w.heap.size + 1) 33 _ (0, 0) _ rfl hB9 Try.underlying33 rfl dwInfo) rfl ?_
          have hns : nextS bs s = (⟨1, r.at_, 0⟩, { r with at_ := r.at_ + 1 }) := (HR.out.2.2.2.2.2.2.2.1).trans (by rw [nextW_told HRA.out (by rw [HT.out]; decide), HT.out])
          exact ⟨H9.out, KA, kn, kc, toldD d 1 0, rfl, by rw [hns]; exact DR_lo HR.out.2.1 (by decide) HR.out.2.2.2.2.2.2.1, by rw [hns]; exact ⟨rfl, HR.out.2.1.1, rfl⟩, by rw [hns]; exact HK9.out⟩
        by_cases h42 : q.id = 42
        · have HT := Lib.hid (show toldK (atB bs r.at_) = 1 from by rw [← HDq.out]; unfold toldK; rw [if_pos (.inr h42)])
          rw [h42] at p0
          clear h42 hst
          have hat := HAT.out.1
          have htl := told_any w3 LA ln lc KA kn kc d 1 0 hat
          have hPz := H3.out.1
          go_wp2_with (first
            | (refine wpList_load_box rfl 33 _ rfl (w.heap.size) rfl 33 (dwC LA ln lc KA kn kc d) hPz _ Try.underlying33 rfl dwInfo (fun (_ : Hid _) => ?_))
            | fail)
          refine htl.mono ?_
          rintro x w5 ⟨rfl, hb5⟩
          clear htl hPz
          have hQ5 : Blk w5 (w.heap.size + 1) 33 #[.slice none 0 0, .int .i64 0, .int .i64 0, .int .i64 0, .bool false, .int .i64 0, .int .i64 0, .slice none 0 0, .bool false, .int .i64 0, .int .i64 0, .int .i64 0] := H3.out.2.1.below hb5 (H3.out.2.1.lt)
          have hs3 := H3.out.2.2.2.size
          have hs5 := hb5.size
          have H5 := Lib.hid (show Below w.heap.size w w5 ∧ RdP w5 (TkP w w5 φ) 1 KA kn (r.tk.reverse.map (Value.int .i64)) from ⟨H3.out.2.2.2.trans (hb5.mono hs3), H3.out.2.2.1.keep (fun b hb => hb5.block b (tkp_lt HPH.out hs3 hb)) (fun b hb => hb.imp id (fun h => ⟨h.1, by omega⟩))⟩)
          clear hb5
          go_wp2_with (first
            | (refine wpList_store_box rfl 33 _ _ rfl (w.heap.size + 1) (dwC LA ln lc KA kn kc (toldD d 1 0)) rfl rfl 33 #[.slice none 0 0, .int .i64 0, .int .i64 0, .int .i64 0, .bool false, .int .i64 0, .int .i64 0, .slice none 0 0, .bool false, .int .i64 0, .int .i64 0, .int .i64 0] hQ5 dwInfo rfl dwOne ?_)
            | fail)
          intro w9 hB9 hg9
          have hq5 := hQ5.lt
          have H9 := Lib.hid (show Below w.heap.size w w9 from H5.out.1.grown hg9 H5.out.1.size (fun b e => by injection e with e; omega))
          have HK9 := Lib.hid (show RdP w9 (fun b => φ b ∨ (w.heap.size ≤ b ∧ b < w9.heap.size)) 1 KA kn (r.tk.reverse.map (Value.int .i64)) from H5.out.2.keep (fun b hb => hg9.block b (tkp_lt HPH.out H5.out.1.size hb) (fun e => by injection e with e; rcases hb with h | h; have := HPH.out b h; omega; have := h.1; omega)) (fun b hb => hb.imp id (fun h => ⟨by have := h.1; omega, Nat.lt_of_lt_of_le h.2 hg9.size⟩)))
          clear hg9
          go_wp2_with fail
          refine bodyPost_ret (results_cell_row rfl _ _ (w.heap.size + 1) 33 _ (0, 0) _ rfl hB9 Try.underlying33 rfl dwInfo) rfl ?_
          have hns : nextS bs s = (⟨1, r.at_, 0⟩, { r with at_ := r.at_ + 1 }) := (HR.out.2.2.2.2.2.2.2.1).trans (by rw [nextW_told HRA.out (by rw [HT.out]; decide), HT.out])
          exact ⟨H9.out, KA, kn, kc, toldD d 1 0, rfl, by rw [hns]; exact DR_lo HR.out.2.1 (by decide) HR.out.2.2.2.2.2.2.1, by rw [hns]; exact ⟨rfl, HR.out.2.1.1, rfl⟩, by rw [hns]; exact HK9.out⟩
        by_cases h43 : q.id = 43
        · have HT := Lib.hid (show toldK (atB bs r.at_) = 2 from by rw [← HDq.out]; unfold toldK; rw [if_neg (by omega), if_pos h43])
          rw [h43] at p0
          clear h43 hst h42
          have hat := HAT.out.1
          have htl := told_any w3 LA ln lc KA kn kc d 2 0 hat
          have hPz := H3.out.1
          go_wp2_with (first
            | (refine wpList_load_box rfl 33 _ rfl (w.heap.size) rfl 33 (dwC LA ln lc KA kn kc d) hPz _ Try.underlying33 rfl dwInfo (fun (_ : Hid _) => ?_))
            | fail)
          refine htl.mono ?_
          rintro x w5 ⟨rfl, hb5⟩
          clear htl hPz
          have hQ5 : Blk w5 (w.heap.size + 1) 33 #[.slice none 0 0, .int .i64 0, .int .i64 0, .int .i64 0, .bool false, .int .i64 0, .int .i64 0, .slice none 0 0, .bool false, .int .i64 0, .int .i64 0, .int .i64 0] := H3.out.2.1.below hb5 (H3.out.2.1.lt)
          have hs3 := H3.out.2.2.2.size
          have hs5 := hb5.size
          have H5 := Lib.hid (show Below w.heap.size w w5 ∧ RdP w5 (TkP w w5 φ) 1 KA kn (r.tk.reverse.map (Value.int .i64)) from ⟨H3.out.2.2.2.trans (hb5.mono hs3), H3.out.2.2.1.keep (fun b hb => hb5.block b (tkp_lt HPH.out hs3 hb)) (fun b hb => hb.imp id (fun h => ⟨h.1, by omega⟩))⟩)
          clear hb5
          go_wp2_with (first
            | (refine wpList_store_box rfl 33 _ _ rfl (w.heap.size + 1) (dwC LA ln lc KA kn kc (toldD d 2 0)) rfl rfl 33 #[.slice none 0 0, .int .i64 0, .int .i64 0, .int .i64 0, .bool false, .int .i64 0, .int .i64 0, .slice none 0 0, .bool false, .int .i64 0, .int .i64 0, .int .i64 0] hQ5 dwInfo rfl dwOne ?_)
            | fail)
          intro w9 hB9 hg9
          have hq5 := hQ5.lt
          have H9 := Lib.hid (show Below w.heap.size w w9 from H5.out.1.grown hg9 H5.out.1.size (fun b e => by injection e with e; omega))
          have HK9 := Lib.hid (show RdP w9 (fun b => φ b ∨ (w.heap.size ≤ b ∧ b < w9.heap.size)) 1 KA kn (r.tk.reverse.map (Value.int .i64)) from H5.out.2.keep (fun b hb => hg9.block b (tkp_lt HPH.out H5.out.1.size hb) (fun e => by injection e with e; rcases hb with h | h; have := HPH.out b h; omega; have := h.1; omega)) (fun b hb => hb.imp id (fun h => ⟨by have := h.1; omega, Nat.lt_of_lt_of_le h.2 hg9.size⟩)))
          clear hg9
          go_wp2_with fail
          refine bodyPost_ret (results_cell_row rfl _ _ (w.heap.size + 1) 33 _ (0, 0) _ rfl hB9 Try.underlying33 rfl dwInfo) rfl ?_
          have hns : nextS bs s = (⟨2, r.at_, 0⟩, { r with at_ := r.at_ + 1 }) := (HR.out.2.2.2.2.2.2.2.1).trans (by rw [nextW_told HRA.out (by rw [HT.out]; decide), HT.out])
          exact ⟨H9.out, KA, kn, kc, toldD d 2 0, rfl, by rw [hns]; exact DR_lo HR.out.2.1 (by decide) HR.out.2.2.2.2.2.2.1, by rw [hns]; exact ⟨rfl, HR.out.2.1.1, rfl⟩, by rw [hns]; exact HK9.out⟩
        by_cases h32 : q.id = 32
        · have h1 : q.id = 32 ∧ ¬ q.pz = 0 := ⟨h32, fun h => hst ⟨h32, h⟩⟩
          have HT := Lib.hid (show toldK (atB bs r.at_) = 0 from by rw [← HDq.out]; unfold toldK; rw [if_neg (by omega), if_neg h43]; rw [h32]; rfl)
          have hpz : (q.pz == 0) = false := by simpa using h1.2
          have hsd : soundsB q.id = true := by rw [h32]; rfl
          have hsn := soundsD_any 32 w3
          rw [show soundsB 32 = true from rfl] at hsn
          rw [h32] at p0
          clear h1 hst h42 h43 h32 hsd
          go_wp2_with fail
          refine hsn.mono ?_
          rintro x w' ⟨rfl, rfl⟩
          clear hsn
          have hat := HAT.out.1
          have htl := told_any w3 LA ln lc KA kn kc d 0 0 hat
          have hPz := H3.out.1
          go_wp2_with (first
            | (refine wpList_load_box rfl 33 _ rfl (w.heap.size) rfl 33 (dwC LA ln lc KA kn kc d) hPz _ Try.underlying33 rfl dwInfo (fun (_ : Hid _) => ?_))
            | fail)
          refine htl.mono ?_
          rintro x w5 ⟨rfl, hb5⟩
          clear htl hPz
          have hQ5 : Blk w5 (w.heap.size + 1) 33 #[.slice none 0 0, .int .i64 0, .int .i64 0, .int .i64 0, .bool false, .int .i64 0, .int .i64 0, .slice none 0 0, .bool false, .int .i64 0, .int .i64 0, .int .i64 0] := H3.out.2.1.below hb5 (H3.out.2.1.lt)
          have hs3 := H3.out.2.2.2.size
          have hs5 := hb5.size
          have H5 := Lib.hid (show Below w.heap.size w w5 ∧ RdP w5 (TkP w w5 φ) 1 KA kn (r.tk.reverse.map (Value.int .i64)) from ⟨H3.out.2.2.2.trans (hb5.mono hs3), H3.out.2.2.1.keep (fun b hb => hb5.block b (tkp_lt HPH.out hs3 hb)) (fun b hb => hb.imp id (fun h => ⟨h.1, by omega⟩))⟩)
          clear hb5
          go_wp2_with (first
            | (refine wpList_store_box rfl 33 _ _ rfl (w.heap.size + 1) (dwC LA ln lc KA kn kc (toldD d 0 0)) rfl rfl 33 #[.slice none 0 0, .int .i64 0, .int .i64 0, .int .i64 0, .bool false, .int .i64 0, .int .i64 0, .slice none 0 0, .bool false, .int .i64 0, .int .i64 0, .int .i64 0] hQ5 dwInfo rfl dwOne ?_)
            | fail)
          intro w9 hB9 hg9
          have hq5 := hQ5.lt
          have H9 := Lib.hid (show Below w.heap.size w w9 from H5.out.1.grown hg9 H5.out.1.size (fun b e => by injection e with e; omega))
          have HK9 := Lib.hid (show RdP w9 (fun b => φ b ∨ (w.heap.size ≤ b ∧ b < w9.heap.size)) 1 KA kn (r.tk.reverse.map (Value.int .i64)) from H5.out.2.keep (fun b hb => hg9.block b (tkp_lt HPH.out H5.out.1.size hb) (fun e => by injection e with e; rcases hb with h | h; have := HPH.out b h; omega; have := h.1; omega)) (fun b hb => hb.imp id (fun h => ⟨by have := h.1; omega, Nat.lt_of_lt_of_le h.2 hg9.size⟩)))
          clear hg9
          go_wp2_with fail
          refine bodyPost_ret (results_cell_row rfl _ _ (w.heap.size + 1) 33 _ (0, 0) _ rfl hB9 Try.underlying33 rfl dwInfo) rfl ?_
          have hns : nextS bs s = (⟨0, r.at_, 0⟩, { r with at_ := r.at_ + 1 }) := (HR.out.2.2.2.2.2.2.2.1).trans (by rw [nextW_told HRA.out (by rw [HT.out]; decide), HT.out])
          exact ⟨H9.out, KA, kn, kc, toldD d 0 0, rfl, by rw [hns]; exact DR_lo HR.out.2.1 (by decide) HR.out.2.2.2.2.2.2.1, by rw [hns]; exact ⟨rfl, HR.out.2.1.1, rfl⟩, by rw [hns]; exact HK9.out⟩
        cases hsb0 : soundsB q.id with
        | true =>
          have hsb := hsb0
          clear hsb0
          have HT := Lib.hid (show toldK (atB bs r.at_) = 0 from by rw [← HDq.out]; unfold toldK; rw [if_neg (by omega), if_neg h43, if_pos hsb])
          have hsn := soundsD_any q.id w3
          rw [hsb] at hsn
          have e32 : (q.id == 32) = false := by simpa using h32
          have e42 : (q.id == 42) = false := by simpa using h42
          have e43 : (q.id == 43) = false := by simpa using h43
          clear hst h42 h43 h32 hsb
          go_wp2_with fail
          refine hsn.mono ?_
          rintro x w' ⟨rfl, rfl⟩
          clear hsn
          have hat := HAT.out.1
          have htl := told_any w3 LA ln lc KA kn kc d 0 0 hat
          have hPz := H3.out.1
          go_wp2_with (first
            | (refine wpList_load_box rfl 33 _ rfl (w.heap.size) rfl 33 (dwC LA ln lc KA kn kc d) hPz _ Try.underlying33 rfl dwInfo (fun (_ : Hid _) => ?_))
            | fail)
          refine htl.mono ?_
          rintro x w5 ⟨rfl, hb5⟩
          clear htl hPz
          have hQ5 : Blk w5 (w.heap.size + 1) 33 #[.slice none 0 0, .int .i64 0, .int .i64 0, .int .i64 0, .bool false, .int .i64 0, .int .i64 0, .slice none 0 0, .bool false, .int .i64 0, .int .i64 0, .int .i64 0] := H3.out.2.1.below hb5 (H3.out.2.1.lt)
          have hs3 := H3.out.2.2.2.size
          have hs5 := hb5.size
          have H5 := Lib.hid (show Below w.heap.size w w5 ∧ RdP w5 (TkP w w5 φ) 1 KA kn (r.tk.reverse.map (Value.int .i64)) from ⟨H3.out.2.2.2.trans (hb5.mono hs3), H3.out.2.2.1.keep (fun b hb => hb5.block b (tkp_lt HPH.out hs3 hb)) (fun b hb => hb.imp id (fun h => ⟨h.1, by omega⟩))⟩)
          clear hb5
          go_wp2_with (first
            | (refine wpList_store_box rfl 33 _ _ rfl (w.heap.size + 1) (dwC LA ln lc KA kn kc (toldD d 0 0)) rfl rfl 33 #[.slice none 0 0, .int .i64 0, .int .i64 0, .int .i64 0, .bool false, .int .i64 0, .int .i64 0, .slice none 0 0, .bool false, .int .i64 0, .int .i64 0, .int .i64 0] hQ5 dwInfo rfl dwOne ?_)
            | fail)
          intro w9 hB9 hg9
          have hq5 := hQ5.lt
          have H9 := Lib.hid (show Below w.heap.size w w9 from H5.out.1.grown hg9 H5.out.1.size (fun b e => by injection e with e; omega))
          have HK9 := Lib.hid (show RdP w9 (fun b => φ b ∨ (w.heap.size ≤ b ∧ b < w9.heap.size)) 1 KA kn (r.tk.reverse.map (Value.int .i64)) from H5.out.2.keep (fun b hb => hg9.block b (tkp_lt HPH.out H5.out.1.size hb) (fun e => by injection e with e; rcases hb with h | h; have := HPH.out b h; omega; have := h.1; omega)) (fun b hb => hb.imp id (fun h => ⟨by have := h.1; omega, Nat.lt_of_lt_of_le h.2 hg9.size⟩)))
          clear hg9
          go_wp2_with fail
          refine bodyPost_ret (results_cell_row rfl _ _ (w.heap.size + 1) 33 _ (0, 0) _ rfl hB9 Try.underlying33 rfl dwInfo) rfl ?_
          have hns : nextS bs s = (⟨0, r.at_, 0⟩, { r with at_ := r.at_ + 1 }) := (HR.out.2.2.2.2.2.2.2.1).trans (by rw [nextW_told HRA.out (by rw [HT.out]; decide), HT.out])
          exact ⟨H9.out, KA, kn, kc, toldD d 0 0, rfl, by rw [hns]; exact DR_lo HR.out.2.1 (by decide) HR.out.2.2.2.2.2.2.1, by rw [hns]; exact ⟨rfl, HR.out.2.1.1, rfl⟩, by rw [hns]; exact HK9.out⟩
        | false =>
          have hsb := hsb0
          clear hsb0
          have HT := Lib.hid (show toldK (atB bs r.at_) = 3 from by rw [← HDq.out]; unfold toldK; rw [if_neg (by omega), if_neg h43, if_neg (by rw [hsb]; decide)])
          have hsn := soundsD_any q.id w3
          rw [hsb] at hsn
          have e32 : (q.id == 32) = false := by simpa using h32
          have e42 : (q.id == 42) = false := by simpa using h42
          have e43 : (q.id == 43) = false := by simpa using h43
          clear hst h42 h43 h32 hsb
          go_wp2_with fail
          refine hsn.mono ?_
          rintro x w' ⟨rfl, rfl⟩
          clear hsn
          have hs3 := H3.out.2.2.2.size
          have hq3 := H3.out.2.1.lt
          have hsi := silent_any w3 LA ln lc KA kn kc bs r d HR.out.2.1 HR.out.1 HG.out.2.2.1 HRA.out (HG.out.2.2.2.2.2.keep (fun b hb => H3.out.2.2.2.block b hb) (fun b (hb : b < w.heap.size) => by show b < _; omega)) (TkP w w3 φ) (fun b hb => tkp_lt HPH.out hs3 hb) H3.out.2.2.1
          have hPz := H3.out.1
          go_wp2_with (first
            | (refine wpList_load_box rfl 33 _ rfl (w.heap.size) rfl 33 (dwC LA ln lc KA kn kc d) hPz _ Try.underlying33 rfl dwInfo (fun (_ : Hid _) => ?_))
            | fail)
          refine hsi.mono ?_
          rintro x w5 ⟨hb5, ⟨hle, KA5, kn5, kc5, d5, rfl, hR5, hK5⟩ | ⟨hle, rfl⟩⟩
          · clear hsi hPz
            have hP5 : Blk w5 w.heap.size 33 (dwC LA ln lc KA kn kc d) := H3.out.1.below hb5 H3.out.1.lt
            have hQ5 : Blk w5 (w.heap.size + 1) 33 #[.slice none 0 0, .int .i64 0, .int .i64 0, .int .i64 0, .bool false, .int .i64 0, .int .i64 0, .slice none 0 0, .bool false, .int .i64 0, .int .i64 0, .int .i64 0] := H3.out.2.1.below hb5 hq3
            have hs5 := hb5.size
            have hB5 : Below w.heap.size w w5 := H3.out.2.2.2.trans (hb5.mono hs3)
            have hlp5 := hP5.lt
            have H5 := Lib.hid (And.intro hle (And.intro hR5 (And.intro hK5 (And.intro hQ5 hB5))))
            clear hle hR5 hK5 hb5 hQ5 hB5
            go_wp2_with (first
              | (refine wpList_store_box rfl 33 _ _ rfl (w.heap.size) (dwC LA ln lc KA5 kn5 kc5 d5) rfl rfl 33 (dwC LA ln lc KA kn kc d) hP5 dwInfo rfl dwOne ?_)
              | fail)
            intro w9 hB9 hg9
            have HX := Lib.hid (show Blk w9 w.heap.size 33 (dwC LA ln lc KA5 kn5 kc5 d5) ∧ Blk w9 (w.heap.size + 1) 33 #[.slice none 0 0, .int .i64 0, .int .i64 0, .int .i64 0, .bool false, .int .i64 0, .int .i64 0, .slice none 0 0, .bool false, .int .i64 0, .int .i64 0, .int .i64 0] ∧ RdP w9 (TkP w w9 φ) 1 KA5 kn5 ((leadS bs r).tk.reverse.map (Value.int .i64)) ∧ Below w.heap.size w w9 from ⟨hB9, H5.out.2.2.2.1.grown hg9 (fun e => by injection e with e; omega), H5.out.2.2.1.keep (fun b hb => hg9.block b (by rcases hb with h | h; have := tkp_lt HPH.out hs3 h; omega; exact h.2) (fun e => by injection e with e; rcases hb with (h | h) | h; have := HPH.out b h; omega; have := h.1; omega; have := h.1; omega)) (fun b hb => by rcases hb with (h | h) | h; exact .inl h; exact .inr ⟨h.1, by have := hg9.size; omega⟩; exact .inr ⟨by omega, Nat.lt_of_lt_of_le h.2 hg9.size⟩), H5.out.2.2.2.2.grown hg9 H5.out.2.2.2.2.size (fun b e => by injection e with e; omega)⟩)
            clear hB9 hg9 hP5 p0 p1
            go_wp2
            obtain ⟨ho, hr⟩ := lead_ok HG.out.2.2.1 HR.out.1 HRA.out H5.out.1
            go_roundg (roundsN bs (leadS bs r))
            case rel => exact ⟨leadS bs r, d5, KA5, kn5, kc5, ho, H5.out.2.1, HX.out.1, HX.out.2.1, HX.out.2.2.1, HX.out.2.2.2, by rw [lead_ov]; exact HR.out.2.2.2.2.2.2.1, (HR.out.2.2.2.2.2.2.2.1).trans ((nextW_lead HRA.out HT.out H5.out.1).trans (nextW_enough HG.out.2.2.1 ho hr (Nat.lt_succ_self _))), rfl⟩
            case measure => exact hr
          · clear hsi hPz
            have hP5 : Blk w5 w.heap.size 33 (dwC LA ln lc KA kn kc d) := H3.out.1.below hb5 H3.out.1.lt
            have hQ5 : Blk w5 (w.heap.size + 1) 33 #[.slice none 0 0, .int .i64 0, .int .i64 0, .int .i64 0, .bool false, .int .i64 0, .int .i64 0, .slice none 0 0, .bool false, .int .i64 0, .int .i64 0, .int .i64 0] := H3.out.2.1.below hb5 hq3
            have hs5 := hb5.size
            have hB5 : Below w.heap.size w w5 := H3.out.2.2.2.trans (hb5.mono hs3)
            have hlp5 := hP5.lt
            have H5 := Lib.hid (And.intro hle (And.intro hQ5 (And.intro hB5 (show RdP w5 (TkP w w5 φ) 1 KA kn (r.tk.reverse.map (Value.int .i64)) from H3.out.2.2.1.keep (fun b hb => hb5.block b (tkp_lt HPH.out hs3 hb)) (fun b hb => hb.imp id (fun h => ⟨h.1, by omega⟩))))))
            clear hle hb5 hQ5 hB5
            generalize hE : leadE bs r = E at H5 ⊢
            have HE := Lib.hid hE
            clear hE
            go_wp2_with (first
              | (refine wpList_store_box rfl 33 _ _ rfl (w.heap.size) (dwC LA ln lc KA kn kc (toldD d 4 E)) rfl rfl 33 (dwC LA ln lc KA kn kc d) hP5 dwInfo rfl dwOne ?_)
              | fail)
            intro w8 hB8 hg8
            have hQ8 : Blk w8 (w.heap.size + 1) 33 #[.slice none 0 0, .int .i64 0, .int .i64 0, .int .i64 0, .bool false, .int .i64 0, .int .i64 0, .slice none 0 0, .bool false, .int .i64 0, .int .i64 0, .int .i64 0] := H5.out.2.1.grown hg8 (fun e => by injection e with e; omega)
            have H8 := Lib.hid (show Below w.heap.size w w8 ∧ RdP w8 (TkP w w8 φ) 1 KA kn (r.tk.reverse.map (Value.int .i64)) from ⟨H5.out.2.2.1.grown hg8 H5.out.2.2.1.size (fun b e => by injection e with e; omega), H5.out.2.2.2.keep (fun b hb => hg8.block b (tkp_lt HPH.out (by omega) hb) (fun e => by injection e with e; rcases hb with h | h; have := HPH.out b h; omega; have := h.1; omega)) (fun b hb => hb.imp id (fun h => ⟨h.1, Nat.lt_of_lt_of_le h.2 hg8.size⟩))⟩)
            have hs8 := hg8.size
            clear hg8 hP5 p0 p1
            go_wp2_with (first
              | (refine wpList_load_box rfl 33 _ rfl (w.heap.size) rfl 33 (dwC LA ln lc KA kn kc (toldD d 4 E)) hB8 _ Try.underlying33 rfl dwInfo (fun (_ : Hid _) => ?_))
              | (refine wpList_store_box rfl 33 _ _ rfl (w.heap.size + 1) (dwC LA ln lc KA kn kc (toldD d 4 E)) rfl rfl 33 #[.slice none 0 0, .int .i64 0, .int .i64 0, .int .i64 0, .bool false, .int .i64 0, .int .i64 0, .slice none 0 0, .bool false, .int .i64 0, .int .i64 0, .int .i64 0] hQ8 dwInfo rfl dwOne ?_)
              | fail)
            intro w9 hB9 hg9
            have H9 := Lib.hid (show Below w.heap.size w w9 from H8.out.1.grown hg9 H8.out.1.size (fun b e => by injection e with e; omega))
            have HK9 := Lib.hid (show RdP w9 (fun b => φ b ∨ (w.heap.size ≤ b ∧ b < w9.heap.size)) 1 KA kn (r.tk.reverse.map (Value.int .i64)) from H8.out.2.keep (fun b hb => hg9.block b (tkp_lt HPH.out (by omega) hb) (fun e => by injection e with e; rcases hb with h | h; have := HPH.out b h; omega; have := h.1; omega)) (fun b hb => hb.imp id (fun h => ⟨by have := h.1; omega, Nat.lt_of_lt_of_le h.2 hg9.size⟩)))
            clear hg9 hB8 hQ8
            go_wp2_with fail
            refine bodyPost_ret (results_cell_row rfl _ _ (w.heap.size + 1) 33 _ (0, 0) _ rfl hB9 Try.underlying33 rfl dwInfo) rfl ?_
            have hns : nextS bs s = (⟨4, r.at_, E⟩, stayS r 4 r.at_ E) := by rw [← HE.out]; exact (HR.out.2.2.2.2.2.2.2.1).trans (nextW_fault HRA.out HT.out (by rw [HE.out]; exact H5.out.1))
            exact ⟨H9.out, KA, kn, kc, toldD d 4 E, rfl, by rw [hns]; exact DR_hi HR.out.2.1 (by decide), by rw [hns]; exact ⟨rfl, HR.out.2.1.1, rfl⟩, by rw [hns]; exact HK9.out⟩
      · have hltI : ¬ (n : Int) < (ln : Int) := by omega
        have hnn := nextW_end (bs := bs) (f := roundsN bs r) (r := r) (by rw [hn, HLN.out]; exact hltI)
        have HR := Lib.hid (And.intro hR (And.intro (hnx.trans hnn) hn))
        have H3 := Lib.hid (And.intro hP (And.intro hQ (And.intro hK hbl)))
        clear hrk hR hP hQ hK hbl hro hnx hn hnn
        have hat := HAT.out.1
        have htl := told_any wr LA ln lc KA kn kc d 3 0 hat
        have hPz := H3.out.1
        go_wp2_with (first
          | (refine wpList_load_box rfl 33 _ rfl (w.heap.size) rfl 33 (dwC LA ln lc KA kn kc d) hPz _ Try.underlying33 rfl dwInfo (fun (_ : Hid _) => ?_))
          | fail)
        refine htl.mono ?_
        rintro x w5 ⟨rfl, hb5⟩
        clear htl hPz
        have hQ5 : Blk w5 (w.heap.size + 1) 33 #[.slice none 0 0, .int .i64 0, .int .i64 0, .int .i64 0, .bool false, .int .i64 0, .int .i64 0, .slice none 0 0, .bool false, .int .i64 0, .int .i64 0, .int .i64 0] := H3.out.2.1.below hb5 (H3.out.2.1.lt)
        have hs3 := H3.out.2.2.2.size
        have hs5 := hb5.size
        have H5 := Lib.hid (show Below w.heap.size w w5 ∧ RdP w5 (TkP w w5 φ) 1 KA kn (r.tk.reverse.map (Value.int .i64)) from ⟨H3.out.2.2.2.trans (hb5.mono hs3), H3.out.2.2.1.keep (fun b hb => hb5.block b (tkp_lt HPH.out hs3 hb)) (fun b hb => hb.imp id (fun h => ⟨h.1, by omega⟩))⟩)
        clear hb5
        go_wp2_with (first
          | (refine wpList_store_box rfl 33 _ _ rfl (w.heap.size + 1) (dwC LA ln lc KA kn kc (toldD d 3 0)) rfl rfl 33 #[.slice none 0 0, .int .i64 0, .int .i64 0, .int .i64 0, .bool false, .int .i64 0, .int .i64 0, .slice none 0 0, .bool false, .int .i64 0, .int .i64 0, .int .i64 0] hQ5 dwInfo rfl dwOne ?_)
          | fail)
        intro w9 hB9 hg9
        have hq5 := hQ5.lt
        have H9 := Lib.hid (show Below w.heap.size w w9 from H5.out.1.grown hg9 H5.out.1.size (fun b e => by injection e with e; omega))
        have HK9 := Lib.hid (show RdP w9 (fun b => φ b ∨ (w.heap.size ≤ b ∧ b < w9.heap.size)) 1 KA kn (r.tk.reverse.map (Value.int .i64)) from H5.out.2.keep (fun b hb => hg9.block b (tkp_lt HPH.out H5.out.1.size hb) (fun e => by injection e with e; rcases hb with h | h; have := HPH.out b h; omega; have := h.1; omega)) (fun b hb => hb.imp id (fun h => ⟨by have := h.1; omega, Nat.lt_of_lt_of_le h.2 hg9.size⟩)))
        clear hg9
        go_wp2_with fail
        refine bodyPost_ret (results_cell_row rfl _ _ (w.heap.size + 1) 33 _ (0, 0) _ rfl hB9 Try.underlying33 rfl dwInfo) rfl ?_
        have hns : nextS bs s = (⟨3, bs.length, 0⟩, stayS r 3 bs.length 0) := HR.out.2.1
        exact ⟨H9.out, KA, kn, kc, toldD d 3 0, rfl, by rw [hns]; exact DR_hi HR.out.1 (by decide), by rw [hns]; exact ⟨rfl, by show d.at_ = bs.length; rw [HAT.out.2, HLN.out]; omega, rfl⟩, by rw [hns]; exact HK9.out⟩
end Go.Proofs.Ytnmapncgnceldaa
