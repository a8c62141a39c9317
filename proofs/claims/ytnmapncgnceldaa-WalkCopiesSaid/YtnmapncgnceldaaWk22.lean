/- Layer 24: contracts of the document's silent, a kind of block each. -/
import Derived.Test.YtnmapncgnceldaaWk21
import Derived.Deep.RegionHeld3
namespace Go.Proofs.Ytnmapncgnceldaa
open Go.RowKit

theorem _root_.Go.RowKit.Below.drewK {B : Nat} {w a : World} (h : Below B w a) (k : Nat) : Below B w (a.drewN k) := ⟨h.os, h.tape, h.output, h.size, h.block⟩
/-- the document's way stands as the program's -/
def DR (s : WS) (d : DW) : Prop := d.at_ = s.at_ ∧ d.loop = (if s.on = true then s.frm - 1 else -1) ∧ d.left = s.times ∧ d.heard = s.heard ∧ d.call = (if s.con = true then s.cfrom else -1) ∧ (s.con = true → d.nth = s.cnext) ∧ d.over = s.ov ∧ (s.on = true → 1 ≤ s.frm)
/-- what a block that isn't told leaves -/
def SilO (w w' : World) (x : Ending) (LA : Option Addr) (ln lc : Nat) (KA : Option Addr) (kn kc : Nat) (bs : List WB) (s : WS) (d : DW) (φ : Nat → Prop) : Prop :=
  Below w.heap.size w w' ∧ ((leadE bs s = 0 ∧ ∃ (KA' : Option Addr) (kn' kc' : Nat) (d' : DW), x = .returned (.tuple #[.agg (dwC LA ln lc KA' kn' kc' d'), .bool true]) ∧ DR (leadS bs s) d' ∧ RdP w' (fun b => φ b ∨ (w.heap.size ≤ b ∧ b < w'.heap.size)) 1 KA' kn' ((leadS bs s).tk.reverse.map (Value.int .i64))) ∨
    (leadE bs s ≠ 0 ∧ x = .returned (.tuple #[.agg (dwC LA ln lc KA kn kc (toldD d 4 (leadE bs s))), .bool false])))

set_option maxRecDepth 100000 in
set_option maxHeartbeats 8000000 in
theorem silent0 (w : World) (LA : Option Addr) (ln lc : Nat) (KA : Option Addr) (kn kc : Nat) (bs : List WB) (s : WS) (d : DW) (hR : DR s d) (hok : s.ok bs) (hf : Fine bs) (hlt : s.at_ < bs.length) (hB : BlksR w (· < w.heap.size) LA ln bs) (φ : Nat → Prop) (hφ : ∀ b, φ b → b < w.heap.size) (hT : RdP w φ 1 KA kn (s.tk.reverse.map (Value.int .i64))) (hid : ¬ (atB bs s.at_).id = 35 ∧ ¬ (atB bs s.at_).id = 36 ∧ ¬ (atB bs s.at_).id = 37 ∧ ¬ (atB bs s.at_).id = 38 ∧ ¬ (atB bs s.at_).id = 39) :
    Calls Try.prog 23 #[.agg (dwC LA ln lc KA kn kc d)] w fun x w' => SilO w w' x LA ln lc KA kn kc bs s d φ := by
  obtain ⟨n, hn⟩ : ∃ n : Nat, s.at_ = (n : Int) := ⟨s.at_.toNat, by have := hok.1; omega⟩
  have hln := hB.len
  have hl60 : ln ≤ 60 := by have := hf.1; omega
  have hnl : n < ln := by omega
  have hdn : atB bs s.at_ = bs.getD n default := by rw [hn]; rfl
  have hfn := hf.2 n (by omega)
  have hkl : kn ≤ 60 := by have := hok.2.2.2.2.2.2; have := reads_len (hT.reads (B := w.heap.size) hφ); simp at this; omega
  obtain ⟨r1, r2, r3, r4, r5, r6, r7, r8⟩ := hR
  rw [hn] at r1
  have hwn : IntKind.i64.wrap ((n : Int) + 1) = (n : Int) + 1 := by rw [IntKind.wrap_i64]; omega
  have hn0 : (0 : Int) ≤ (n : Int) := Int.natCast_nonneg _
  have hnI : (n : Int) < (ln : Int) := by omega
  have HR := Lib.hid (And.intro r1 (And.intro r2 (And.intro r3 (And.intro r4 (And.intro r5 (And.intro r6 (And.intro r7 r8)))))))
  have HG := Lib.hid (And.intro hok (And.intro hf (And.intro hn (And.intro hdn (And.intro hfn (And.intro hT hln))))))
  have HID := Lib.hid hid
  have HBk := Lib.hid hB
  have HPH := Lib.hid hφ
  clear hφ r1 r2 r3 r4 r5 r6 r7 r8 hok hf hn hdn hfn hT hln hid hlt hB
  have hb2 : Below w.heap.size w ((w.alloc (.cells (dwC LA ln lc KA kn kc d) 33)).alloc (.cells #[.slice none 0 0, .int .i64 0, .int .i64 0, .int .i64 0, .bool false, .int .i64 0, .int .i64 0, .slice none 0 0, .bool false, .int .i64 0, .int .i64 0, .int .i64 0] 33)) := ((Below.refl _ _).alloc (Nat.le_refl _) _).alloc (by simp) _
  have hP : Blk ((w.alloc (.cells (dwC LA ln lc KA kn kc d) 33)).alloc (.cells #[.slice none 0 0, .int .i64 0, .int .i64 0, .int .i64 0, .bool false, .int .i64 0, .int .i64 0, .slice none 0 0, .bool false, .int .i64 0, .int .i64 0, .int .i64 0] 33)) w.heap.size 33 (dwC LA ln lc KA kn kc d) := (Blk.new w _ _).alloc _
  have hQ : Blk ((w.alloc (.cells (dwC LA ln lc KA kn kc d) 33)).alloc (.cells #[.slice none 0 0, .int .i64 0, .int .i64 0, .int .i64 0, .bool false, .int .i64 0, .int .i64 0, .slice none 0 0, .bool false, .int .i64 0, .int .i64 0, .int .i64 0] 33)) (w.heap.size + 1) 33 #[.slice none 0 0, .int .i64 0, .int .i64 0, .int .i64 0, .bool false, .int .i64 0, .int .i64 0, .slice none 0 0, .bool false, .int .i64 0, .int .i64 0, .int .i64 0] := by
    have := Blk.new (w.alloc (.cells (dwC LA ln lc KA kn kc d) 33)) 33 #[.slice none 0 0, .int .i64 0, .int .i64 0, .int .i64 0, .bool false, .int .i64 0, .int .i64 0, .slice none 0 0, .bool false, .int .i64 0, .int .i64 0, .int .i64 0]
    simpa using this
  have H0 := Lib.hid (And.intro hb2 (And.intro hP hQ))
  clear hb2 hP hQ
  go_enter Try.func23, Try.ntmps23
  go_upto_region 1 with fail
  generalize ((w.alloc (.cells (dwC LA ln lc KA kn kc d) 33)).alloc (.cells #[.slice none 0 0, .int .i64 0, .int .i64 0, .int .i64 0, .bool false, .int .i64 0, .int .i64 0, .slice none 0 0, .bool false, .int .i64 0, .int .i64 0, .int .i64 0] 33)) = w0 at *
  have hs0 := H0.out.1.size
  have hql := H0.out.2.2.lt
  have c0 : w0.cell? ⟨w.heap.size, 0, none⟩ = some (.slice LA ln lc) := (H0.out.2.1.cell 0).trans rfl
  have c1 : w0.cell? ⟨w.heap.size, 1, none⟩ = some (.int .i64 (n : Int)) := by rw [← HR.out.1]; exact (H0.out.2.1.cell 1).trans rfl
  have hBr := HBk.out.keep (w' := w0) (ψ := (· < w.heap.size)) (fun b hb => H0.out.1.block b hb) (fun b hb => hb)
  obtain ⟨ad, hLA, hab, cs, hWB, hc18⟩ := hBr.at_ (i := n) hnl
  obtain ⟨q, hq⟩ : ∃ q, q = bs.getD n default := ⟨_, rfl⟩
  rw [← hq] at hWB
  obtain ⟨v2, v3, v4, v5, v6, v7, v9, v10, v11, v12, TA, tn, tc, IA, ic, v15, v16, v17, rfl, h1c, hTs, hIs⟩ := hWB
  have X0 := Lib.hid (show ∀ jj vv, ([.int .i64 q.id, .int .i64 q.pz, v2, v3, v4, v5, v6, v7, .int .i64 q.ct, v9, v10, v11, v12, .slice TA tn tc, .slice IA q.ns.length ic, v15, v16, v17] : List Value)[jj]? = some vv → w0.cell? ((ad.add (n * 18)).add jj) = some vv from hc18)
  have X1 := Lib.hid (show (#[.int .i64 q.id, .int .i64 q.pz, v2, v3, v4, v5, v6, v7, .int .i64 q.ct, v9, v10, v11, v12, .slice TA tn tc, .slice IA q.ns.length ic, v15, v16, v17] : Array Value).all (·.oneCell') = true from all_one h1c)
  have HD := Lib.hid (And.intro hq (And.intro hTs hIs))
  clear hc18 h1c hq hTs hIs
  rw [hLA] at c0
  have HLA := Lib.hid hLA
  clear hLA
  have hqid := HD.out.1
  rw [← HG.out.2.2.2.1] at hqid
  have HQ0 := Lib.hid hqid
  clear hqid hBr
  go_upto_region 2 with (first
    | (refine wpList_load_at rfl 45 _ rfl (ad.add (n * 18)) rfl [.int .i64 q.id, .int .i64 q.pz, v2, v3, v4, v5, v6, v7, .int .i64 q.ct, v9, v10, v11, v12, .slice TA tn tc, .slice IA q.ns.length ic, v15, v16, v17] X0.out _ Try.underlying45 rfl blkInfo ?_)
    | (refine wpList_store_box rfl 45 _ _ rfl (w0.heap.size) #[.int .i64 q.id, .int .i64 q.pz, v2, v3, v4, v5, v6, v7, .int .i64 q.ct, v9, v10, v11, v12, .slice TA tn tc, .slice IA q.ns.length ic, v15, v16, v17] rfl rfl 45 #[.int .i64 0, .int .i64 0, .int .i64 0, .int .i64 0, .int .i64 0, .int .i64 0, .int .i64 0, .int .i64 0, .int .i64 0, .int .i64 0, .int .i64 0, .int .i64 0, .slice none 0 0, .slice none 0 0, .slice none 0 0, .slice none 0 0, .slice none 0 0, .slice none 0 0] (Blk.new w0 _ _) blkInfo rfl X1.out ?_)
    | fail)
  intro w3 hB3 hg3
  have hb3 : Below w0.heap.size w0 w3 := ((Below.refl _ _).alloc (Nat.le_refl _) _).grown hg3 (by simp) (fun b e => by injection e with e; omega)
  have hsz3 := hb3.size
  have H3 := Lib.hid (show Below w.heap.size w w3 ∧ Blk w3 w.heap.size 33 (dwC LA ln lc KA kn kc d) ∧ Blk w3 (w.heap.size + 1) 33 #[.slice none 0 0, .int .i64 0, .int .i64 0, .int .i64 0, .bool false, .int .i64 0, .int .i64 0, .slice none 0 0, .bool false, .int .i64 0, .int .i64 0, .int .i64 0] ∧ Blk w3 w0.heap.size 45 #[.int .i64 q.id, .int .i64 q.pz, v2, v3, v4, v5, v6, v7, .int .i64 q.ct, v9, v10, v11, v12, .slice TA tn tc, .slice IA q.ns.length ic, v15, v16, v17] from ⟨H0.out.1.trans (hb3.mono hs0), H0.out.2.1.below hb3 H0.out.2.1.lt, H0.out.2.2.below hb3 hql, hB3⟩)
  have hg0l := hB3.lt
  clear c0 c1 hB3 hg3 hb3 X0 X1
  obtain ⟨I, hI⟩ : ∃ I, I = q.id := ⟨_, rfl⟩
  have p0 : w3.cell? ⟨w0.heap.size, 0, none⟩ = some (.int .i64 I) := by rw [hI]; exact (H3.out.2.2.2.cell 0).trans rfl
  have c1 : w3.cell? ⟨w.heap.size, 1, none⟩ = some (.int .i64 (n : Int)) := by rw [← HR.out.1]; exact (H3.out.2.1.cell 1).trans rfl
  have f1 : w3.frozen? ⟨w.heap.size, 1, none⟩ = false := H3.out.2.1.frozen 1
  have HI := Lib.hid hI
  clear hI
  have h35 : (I == 35) = false := by rw [HI.out, HQ0.out]; simpa using HID.out.1
  have h36 : (I == 36) = false := by rw [HI.out, HQ0.out]; simpa using HID.out.2.1
  have h37 : (I == 37) = false := by rw [HI.out, HQ0.out]; simpa using HID.out.2.2.1
  have h38 : (I == 38) = false := by rw [HI.out, HQ0.out]; simpa using HID.out.2.2.2.1
  have h39 : (I == 39) = false := by rw [HI.out, HQ0.out]; simpa using HID.out.2.2.2.2
  go_upto_region 40 with fail
  have HZ := Lib.hid (show Blk ((w3.setCell ⟨w.heap.size, 1, none⟩ (.int .i64 ((n : Int) + 1)))) w.heap.size 33 (dwC LA ln lc KA kn kc ({ d with at_ := (n : Int) + 1 })) ∧ Blk ((w3.setCell ⟨w.heap.size, 1, none⟩ (.int .i64 ((n : Int) + 1)))) (w.heap.size + 1) 33 #[.slice none 0 0, .int .i64 0, .int .i64 0, .int .i64 0, .bool false, .int .i64 0, .int .i64 0, .slice none 0 0, .bool false, .int .i64 0, .int .i64 0, .int .i64 0] ∧ Below w.heap.size w ((w3.setCell ⟨w.heap.size, 1, none⟩ (.int .i64 ((n : Int) + 1)))) from ⟨(H3.out.2.1.set_ 1 _), (H3.out.2.2.1.far (by show w.heap.size + 1 ≠ w.heap.size; omega) _), (H3.out.1.setCell (by show w.heap.size ≤ w.heap.size; omega) _)⟩)
  clear c1 f1
  generalize (w3.setCell ⟨w.heap.size, 1, none⟩ (.int .i64 ((n : Int) + 1))) = wz at *
  have hPz := HZ.out.1
  have hQz := HZ.out.2.1
  go_wp2_with (first
    | (refine wpList_load_box rfl 33 _ rfl (w.heap.size) rfl 33 (dwC LA ln lc KA kn kc ({ d with at_ := (n : Int) + 1 })) hPz _ Try.underlying33 rfl dwInfo (fun (_ : Hid _) => ?_))
    | (refine wpList_store_box rfl 33 _ _ rfl (w.heap.size + 1) (dwC LA ln lc KA kn kc ({ d with at_ := (n : Int) + 1 })) rfl rfl 33 #[.slice none 0 0, .int .i64 0, .int .i64 0, .int .i64 0, .bool false, .int .i64 0, .int .i64 0, .slice none 0 0, .bool false, .int .i64 0, .int .i64 0, .int .i64 0] hQz dwInfo rfl dwOne ?_)
    | fail)
  intro w9 hB9 hg9
  have H9 := Lib.hid (show Below w.heap.size w w9 from (HZ.out.2.2).grown hg9 (HZ.out.2.2).size (fun b e => by injection e with e; omega))
  have HG9 := Lib.hid hg9
  clear hg9
  clear hPz hQz
  go_wp2_with fail
  refine bodyPost_ret (results_cell_tmp9 rfl _ _ (w.heap.size + 1) 33 _ (0, 0) _ rfl hB9 Try.underlying33 rfl dwInfo) rfl ?_
  have hle : leadE bs s = 0 := by unfold leadE; rw [if_neg HID.out.1, if_neg HID.out.2.2.1, if_neg HID.out.2.2.2.1, if_neg HID.out.2.2.2.2]
  have hls : leadS bs s = { s with at_ := (n : Int) + 1 } := by
    unfold leadS; rw [if_neg HID.out.1, if_neg HID.out.2.1, if_neg HID.out.2.2.1, if_neg HID.out.2.2.2.1, if_neg HID.out.2.2.2.2]; rw [HG.out.2.2.1]
  have htk : (leadS bs s).tk = s.tk := by rw [hls]
  have hdr : DR (leadS bs s) { d with at_ := (n : Int) + 1 } := by
    rw [hls]
    exact ⟨rfl, HR.out.2.1, HR.out.2.2.1, HR.out.2.2.2.1, HR.out.2.2.2.2.1, HR.out.2.2.2.2.2.1, HR.out.2.2.2.2.2.2.1, HR.out.2.2.2.2.2.2.2⟩
  refine ⟨H9.out, .inl ⟨hle, _, _, _, _, rfl, hdr, ?_⟩⟩
  rw [htk]
  exact HG.out.2.2.2.2.2.1.keep (fun b hb => H9.out.block b (HPH.out b hb)) (fun b hb => .inl hb)

set_option maxRecDepth 100000 in
set_option maxHeartbeats 8000000 in
theorem silent36 (w : World) (LA : Option Addr) (ln lc : Nat) (KA : Option Addr) (kn kc : Nat) (bs : List WB) (s : WS) (d : DW) (hR : DR s d) (hok : s.ok bs) (hf : Fine bs) (hlt : s.at_ < bs.length) (hB : BlksR w (· < w.heap.size) LA ln bs) (φ : Nat → Prop) (hφ : ∀ b, φ b → b < w.heap.size) (hT : RdP w φ 1 KA kn (s.tk.reverse.map (Value.int .i64))) (hid : (atB bs s.at_).id = 36) :
    Calls Try.prog 23 #[.agg (dwC LA ln lc KA kn kc d)] w fun x w' => SilO w w' x LA ln lc KA kn kc bs s d φ := by
  obtain ⟨n, hn⟩ : ∃ n : Nat, s.at_ = (n : Int) := ⟨s.at_.toNat, by have := hok.1; omega⟩
  have hln := hB.len
  have hl60 : ln ≤ 60 := by have := hf.1; omega
  have hnl : n < ln := by omega
  have hdn : atB bs s.at_ = bs.getD n default := by rw [hn]; rfl
  have hfn := hf.2 n (by omega)
  have hkl : kn ≤ 60 := by have := hok.2.2.2.2.2.2; have := reads_len (hT.reads (B := w.heap.size) hφ); simp at this; omega
  obtain ⟨r1, r2, r3, r4, r5, r6, r7, r8⟩ := hR
  rw [hn] at r1
  have hwn : IntKind.i64.wrap ((n : Int) + 1) = (n : Int) + 1 := by rw [IntKind.wrap_i64]; omega
  have hn0 : (0 : Int) ≤ (n : Int) := Int.natCast_nonneg _
  have hnI : (n : Int) < (ln : Int) := by omega
  have HR := Lib.hid (And.intro r1 (And.intro r2 (And.intro r3 (And.intro r4 (And.intro r5 (And.intro r6 (And.intro r7 r8)))))))
  have HG := Lib.hid (And.intro hok (And.intro hf (And.intro hn (And.intro hdn (And.intro hfn (And.intro hT hln))))))
  have HID := Lib.hid hid
  have HBk := Lib.hid hB
  have HPH := Lib.hid hφ
  clear hφ r1 r2 r3 r4 r5 r6 r7 r8 hok hf hn hdn hfn hT hln hid hlt hB
  have hb2 : Below w.heap.size w ((w.alloc (.cells (dwC LA ln lc KA kn kc d) 33)).alloc (.cells #[.slice none 0 0, .int .i64 0, .int .i64 0, .int .i64 0, .bool false, .int .i64 0, .int .i64 0, .slice none 0 0, .bool false, .int .i64 0, .int .i64 0, .int .i64 0] 33)) := ((Below.refl _ _).alloc (Nat.le_refl _) _).alloc (by simp) _
  have hP : Blk ((w.alloc (.cells (dwC LA ln lc KA kn kc d) 33)).alloc (.cells #[.slice none 0 0, .int .i64 0, .int .i64 0, .int .i64 0, .bool false, .int .i64 0, .int .i64 0, .slice none 0 0, .bool false, .int .i64 0, .int .i64 0, .int .i64 0] 33)) w.heap.size 33 (dwC LA ln lc KA kn kc d) := (Blk.new w _ _).alloc _
  have hQ : Blk ((w.alloc (.cells (dwC LA ln lc KA kn kc d) 33)).alloc (.cells #[.slice none 0 0, .int .i64 0, .int .i64 0, .int .i64 0, .bool false, .int .i64 0, .int .i64 0, .slice none 0 0, .bool false, .int .i64 0, .int .i64 0, .int .i64 0] 33)) (w.heap.size + 1) 33 #[.slice none 0 0, .int .i64 0, .int .i64 0, .int .i64 0, .bool false, .int .i64 0, .int .i64 0, .slice none 0 0, .bool false, .int .i64 0, .int .i64 0, .int .i64 0] := by
    have := Blk.new (w.alloc (.cells (dwC LA ln lc KA kn kc d) 33)) 33 #[.slice none 0 0, .int .i64 0, .int .i64 0, .int .i64 0, .bool false, .int .i64 0, .int .i64 0, .slice none 0 0, .bool false, .int .i64 0, .int .i64 0, .int .i64 0]
    simpa using this
  have H0 := Lib.hid (And.intro hb2 (And.intro hP hQ))
  clear hb2 hP hQ
  go_enter Try.func23, Try.ntmps23
  go_upto_region 1 with fail
  generalize ((w.alloc (.cells (dwC LA ln lc KA kn kc d) 33)).alloc (.cells #[.slice none 0 0, .int .i64 0, .int .i64 0, .int .i64 0, .bool false, .int .i64 0, .int .i64 0, .slice none 0 0, .bool false, .int .i64 0, .int .i64 0, .int .i64 0] 33)) = w0 at *
  have hs0 := H0.out.1.size
  have hql := H0.out.2.2.lt
  have c0 : w0.cell? ⟨w.heap.size, 0, none⟩ = some (.slice LA ln lc) := (H0.out.2.1.cell 0).trans rfl
  have c1 : w0.cell? ⟨w.heap.size, 1, none⟩ = some (.int .i64 (n : Int)) := by rw [← HR.out.1]; exact (H0.out.2.1.cell 1).trans rfl
  have hBr := HBk.out.keep (w' := w0) (ψ := (· < w.heap.size)) (fun b hb => H0.out.1.block b hb) (fun b hb => hb)
  obtain ⟨ad, hLA, hab, cs, hWB, hc18⟩ := hBr.at_ (i := n) hnl
  obtain ⟨q, hq⟩ : ∃ q, q = bs.getD n default := ⟨_, rfl⟩
  rw [← hq] at hWB
  obtain ⟨v2, v3, v4, v5, v6, v7, v9, v10, v11, v12, TA, tn, tc, IA, ic, v15, v16, v17, rfl, h1c, hTs, hIs⟩ := hWB
  have X0 := Lib.hid (show ∀ jj vv, ([.int .i64 q.id, .int .i64 q.pz, v2, v3, v4, v5, v6, v7, .int .i64 q.ct, v9, v10, v11, v12, .slice TA tn tc, .slice IA q.ns.length ic, v15, v16, v17] : List Value)[jj]? = some vv → w0.cell? ((ad.add (n * 18)).add jj) = some vv from hc18)
  have X1 := Lib.hid (show (#[.int .i64 q.id, .int .i64 q.pz, v2, v3, v4, v5, v6, v7, .int .i64 q.ct, v9, v10, v11, v12, .slice TA tn tc, .slice IA q.ns.length ic, v15, v16, v17] : Array Value).all (·.oneCell') = true from all_one h1c)
  have HD := Lib.hid (And.intro hq (And.intro hTs hIs))
  clear hc18 h1c hq hTs hIs
  rw [hLA] at c0
  have HLA := Lib.hid hLA
  clear hLA
  have hqid := HD.out.1
  rw [← HG.out.2.2.2.1] at hqid
  have HQ0 := Lib.hid hqid
  clear hqid hBr
  go_upto_region 2 with (first
    | (refine wpList_load_at rfl 45 _ rfl (ad.add (n * 18)) rfl [.int .i64 q.id, .int .i64 q.pz, v2, v3, v4, v5, v6, v7, .int .i64 q.ct, v9, v10, v11, v12, .slice TA tn tc, .slice IA q.ns.length ic, v15, v16, v17] X0.out _ Try.underlying45 rfl blkInfo ?_)
    | (refine wpList_store_box rfl 45 _ _ rfl (w0.heap.size) #[.int .i64 q.id, .int .i64 q.pz, v2, v3, v4, v5, v6, v7, .int .i64 q.ct, v9, v10, v11, v12, .slice TA tn tc, .slice IA q.ns.length ic, v15, v16, v17] rfl rfl 45 #[.int .i64 0, .int .i64 0, .int .i64 0, .int .i64 0, .int .i64 0, .int .i64 0, .int .i64 0, .int .i64 0, .int .i64 0, .int .i64 0, .int .i64 0, .int .i64 0, .slice none 0 0, .slice none 0 0, .slice none 0 0, .slice none 0 0, .slice none 0 0, .slice none 0 0] (Blk.new w0 _ _) blkInfo rfl X1.out ?_)
    | fail)
  intro w3 hB3 hg3
  have hb3 : Below w0.heap.size w0 w3 := ((Below.refl _ _).alloc (Nat.le_refl _) _).grown hg3 (by simp) (fun b e => by injection e with e; omega)
  have hsz3 := hb3.size
  have H3 := Lib.hid (show Below w.heap.size w w3 ∧ Blk w3 w.heap.size 33 (dwC LA ln lc KA kn kc d) ∧ Blk w3 (w.heap.size + 1) 33 #[.slice none 0 0, .int .i64 0, .int .i64 0, .int .i64 0, .bool false, .int .i64 0, .int .i64 0, .slice none 0 0, .bool false, .int .i64 0, .int .i64 0, .int .i64 0] ∧ Blk w3 w0.heap.size 45 #[.int .i64 q.id, .int .i64 q.pz, v2, v3, v4, v5, v6, v7, .int .i64 q.ct, v9, v10, v11, v12, .slice TA tn tc, .slice IA q.ns.length ic, v15, v16, v17] from ⟨H0.out.1.trans (hb3.mono hs0), H0.out.2.1.below hb3 H0.out.2.1.lt, H0.out.2.2.below hb3 hql, hB3⟩)
  have hg0l := hB3.lt
  clear c0 c1 hB3 hg3 hb3 X0 X1
  have p0 : w3.cell? ⟨w0.heap.size, 0, none⟩ = some (.int .i64 36) := by rw [← HID.out, ← HQ0.out]; exact (H3.out.2.2.2.cell 0).trans rfl
  have c1 : w3.cell? ⟨w.heap.size, 1, none⟩ = some (.int .i64 (n : Int)) := by rw [← HR.out.1]; exact (H3.out.2.1.cell 1).trans rfl
  have f1 : w3.frozen? ⟨w.heap.size, 1, none⟩ = false := H3.out.2.1.frozen 1
  have p8 : w3.cell? ⟨w0.heap.size, 8, none⟩ = some (.int .i64 q.ct) := (H3.out.2.2.2.cell 8).trans rfl
  have f2 := H3.out.2.1.frozen 2
  have f3 := H3.out.2.1.frozen 3
  have f4 := H3.out.2.1.frozen 4
  have c2 : w3.cell? ⟨w.heap.size, 2, none⟩ = some (.int .i64 d.loop) := (H3.out.2.1.cell 2).trans rfl
  have c3 : w3.cell? ⟨w.heap.size, 3, none⟩ = some (.int .i64 d.left) := (H3.out.2.1.cell 3).trans rfl
  have c4 : w3.cell? ⟨w.heap.size, 4, none⟩ = some (.bool d.heard) := (H3.out.2.1.cell 4).trans rfl
  have hct := HG.out.2.2.2.2.1.2.2.2
  rw [← HD.out.1] at hct
  obtain ⟨TM, hTM⟩ : ∃ TM : Int, TM = (if q.ct < 1 then 1 else q.ct) - 1 := ⟨_, rfl⟩
  have hT1 : 0 ≤ TM ∧ TM ≤ 9223372036854775806 := by split at hTM <;> omega
  have HTM := Lib.hid hTM
  clear hTM
  by_cases hc1 : q.ct < 1
  · have HTE := Lib.hid (show (0 : Int) = TM by have := HTM.out; rw [if_pos hc1] at this; omega)
    have hc2 : ¬ 1 < q.ct := by omega
    go_upto_region 40 with fail
    have HZ := Lib.hid (show Blk (((((w3.setCell ⟨w.heap.size, 2, none⟩ (.int .i64 (n : Int))).setCell ⟨w.heap.size, 3, none⟩ (.int .i64 (0))).setCell ⟨w.heap.size, 4, none⟩ (.bool false)).setCell ⟨w.heap.size, 1, none⟩ (.int .i64 ((n : Int) + 1)))) w.heap.size 33 (dwC LA ln lc KA kn kc ({ d with loop := (n : Int), left := 0, heard := false, at_ := (n : Int) + 1 })) ∧ Blk (((((w3.setCell ⟨w.heap.size, 2, none⟩ (.int .i64 (n : Int))).setCell ⟨w.heap.size, 3, none⟩ (.int .i64 (0))).setCell ⟨w.heap.size, 4, none⟩ (.bool false)).setCell ⟨w.heap.size, 1, none⟩ (.int .i64 ((n : Int) + 1)))) (w.heap.size + 1) 33 #[.slice none 0 0, .int .i64 0, .int .i64 0, .int .i64 0, .bool false, .int .i64 0, .int .i64 0, .slice none 0 0, .bool false, .int .i64 0, .int .i64 0, .int .i64 0] ∧ Below w.heap.size w (((((w3.setCell ⟨w.heap.size, 2, none⟩ (.int .i64 (n : Int))).setCell ⟨w.heap.size, 3, none⟩ (.int .i64 (0))).setCell ⟨w.heap.size, 4, none⟩ (.bool false)).setCell ⟨w.heap.size, 1, none⟩ (.int .i64 ((n : Int) + 1)))) from ⟨((((H3.out.2.1.set_ 2 _).set_ 3 _).set_ 4 _).set_ 1 _), ((((H3.out.2.2.1.far (by show w.heap.size + 1 ≠ w.heap.size; omega) _).far (by show w.heap.size + 1 ≠ w.heap.size; omega) _).far (by show w.heap.size + 1 ≠ w.heap.size; omega) _).far (by show w.heap.size + 1 ≠ w.heap.size; omega) _), ((((H3.out.1.setCell (by show w.heap.size ≤ w.heap.size; omega) _).setCell (by show w.heap.size ≤ w.heap.size; omega) _).setCell (by show w.heap.size ≤ w.heap.size; omega) _).setCell (by show w.heap.size ≤ w.heap.size; omega) _)⟩)
    clear c1 f1 c2 c3 c4 f2 f3 f4 p8
    generalize ((((w3.setCell ⟨w.heap.size, 2, none⟩ (.int .i64 (n : Int))).setCell ⟨w.heap.size, 3, none⟩ (.int .i64 (0))).setCell ⟨w.heap.size, 4, none⟩ (.bool false)).setCell ⟨w.heap.size, 1, none⟩ (.int .i64 ((n : Int) + 1))) = wz at *
    have hPz := HZ.out.1
    have hQz := HZ.out.2.1
    go_wp2_with (first
      | (refine wpList_load_box rfl 33 _ rfl (w.heap.size) rfl 33 (dwC LA ln lc KA kn kc ({ d with loop := (n : Int), left := 0, heard := false, at_ := (n : Int) + 1 })) hPz _ Try.underlying33 rfl dwInfo (fun (_ : Hid _) => ?_))
      | (refine wpList_store_box rfl 33 _ _ rfl (w.heap.size + 1) (dwC LA ln lc KA kn kc ({ d with loop := (n : Int), left := 0, heard := false, at_ := (n : Int) + 1 })) rfl rfl 33 #[.slice none 0 0, .int .i64 0, .int .i64 0, .int .i64 0, .bool false, .int .i64 0, .int .i64 0, .slice none 0 0, .bool false, .int .i64 0, .int .i64 0, .int .i64 0] hQz dwInfo rfl dwOne ?_)
      | fail)
    intro w9 hB9 hg9
    have H9 := Lib.hid (show Below w.heap.size w w9 from (HZ.out.2.2).grown hg9 (HZ.out.2.2).size (fun b e => by injection e with e; omega))
    have HG9 := Lib.hid hg9
    clear hg9
    clear hPz hQz
    go_wp2_with fail
    refine bodyPost_ret (results_cell_tmp9 rfl _ _ (w.heap.size + 1) 33 _ (0, 0) _ rfl hB9 Try.underlying33 rfl dwInfo) rfl ?_
    have hle : leadE bs s = 0 := by unfold leadE; rw [if_neg (by rw [HID.out]; decide), if_neg (by rw [HID.out]; decide), if_neg (by rw [HID.out]; decide), if_neg (by rw [HID.out]; decide)]
    have hls : leadS bs s = { s with on := true, heard := false, frm := (n : Int) + 1, times := TM, at_ := (n : Int) + 1 } := by
      unfold leadS; rw [if_neg (by rw [HID.out]; decide), if_pos HID.out, ← HQ0.out, ← HTM.out, HG.out.2.2.1]
    have htk : (leadS bs s).tk = s.tk := by rw [hls]
    have hdr : DR (leadS bs s) { d with loop := (n : Int), left := 0, heard := false, at_ := (n : Int) + 1 } := by
      rw [hls]
      exact ⟨rfl, by show (n : Int) = (n : Int) + 1 - 1; omega, HTE.out, rfl, HR.out.2.2.2.2.1, HR.out.2.2.2.2.2.1, HR.out.2.2.2.2.2.2.1, fun _ => by show 1 ≤ (n : Int) + 1; omega⟩
    refine ⟨H9.out, .inl ⟨hle, _, _, _, _, rfl, hdr, ?_⟩⟩
    rw [htk]
    exact HG.out.2.2.2.2.2.1.keep (fun b hb => H9.out.block b (HPH.out b hb)) (fun b hb => .inl hb)
  by_cases hc3 : q.ct = 1
  · have HTE := Lib.hid (show (0 : Int) = TM by have := HTM.out; rw [if_neg hc1] at this; omega)
    rw [hc3] at p8
    clear hc1 hc3 hct
    go_upto_region 40 with fail
    have HZ := Lib.hid (show Blk (((((w3.setCell ⟨w.heap.size, 2, none⟩ (.int .i64 (n : Int))).setCell ⟨w.heap.size, 3, none⟩ (.int .i64 (0))).setCell ⟨w.heap.size, 4, none⟩ (.bool false)).setCell ⟨w.heap.size, 1, none⟩ (.int .i64 ((n : Int) + 1)))) w.heap.size 33 (dwC LA ln lc KA kn kc ({ d with loop := (n : Int), left := 0, heard := false, at_ := (n : Int) + 1 })) ∧ Blk (((((w3.setCell ⟨w.heap.size, 2, none⟩ (.int .i64 (n : Int))).setCell ⟨w.heap.size, 3, none⟩ (.int .i64 (0))).setCell ⟨w.heap.size, 4, none⟩ (.bool false)).setCell ⟨w.heap.size, 1, none⟩ (.int .i64 ((n : Int) + 1)))) (w.heap.size + 1) 33 #[.slice none 0 0, .int .i64 0, .int .i64 0, .int .i64 0, .bool false, .int .i64 0, .int .i64 0, .slice none 0 0, .bool false, .int .i64 0, .int .i64 0, .int .i64 0] ∧ Below w.heap.size w (((((w3.setCell ⟨w.heap.size, 2, none⟩ (.int .i64 (n : Int))).setCell ⟨w.heap.size, 3, none⟩ (.int .i64 (0))).setCell ⟨w.heap.size, 4, none⟩ (.bool false)).setCell ⟨w.heap.size, 1, none⟩ (.int .i64 ((n : Int) + 1)))) from ⟨((((H3.out.2.1.set_ 2 _).set_ 3 _).set_ 4 _).set_ 1 _), ((((H3.out.2.2.1.far (by show w.heap.size + 1 ≠ w.heap.size; omega) _).far (by show w.heap.size + 1 ≠ w.heap.size; omega) _).far (by show w.heap.size + 1 ≠ w.heap.size; omega) _).far (by show w.heap.size + 1 ≠ w.heap.size; omega) _), ((((H3.out.1.setCell (by show w.heap.size ≤ w.heap.size; omega) _).setCell (by show w.heap.size ≤ w.heap.size; omega) _).setCell (by show w.heap.size ≤ w.heap.size; omega) _).setCell (by show w.heap.size ≤ w.heap.size; omega) _)⟩)
    clear c1 f1 c2 c3 c4 f2 f3 f4 p8
    generalize ((((w3.setCell ⟨w.heap.size, 2, none⟩ (.int .i64 (n : Int))).setCell ⟨w.heap.size, 3, none⟩ (.int .i64 (0))).setCell ⟨w.heap.size, 4, none⟩ (.bool false)).setCell ⟨w.heap.size, 1, none⟩ (.int .i64 ((n : Int) + 1))) = wz at *
    have hPz := HZ.out.1
    have hQz := HZ.out.2.1
    go_wp2_with (first
      | (refine wpList_load_box rfl 33 _ rfl (w.heap.size) rfl 33 (dwC LA ln lc KA kn kc ({ d with loop := (n : Int), left := 0, heard := false, at_ := (n : Int) + 1 })) hPz _ Try.underlying33 rfl dwInfo (fun (_ : Hid _) => ?_))
      | (refine wpList_store_box rfl 33 _ _ rfl (w.heap.size + 1) (dwC LA ln lc KA kn kc ({ d with loop := (n : Int), left := 0, heard := false, at_ := (n : Int) + 1 })) rfl rfl 33 #[.slice none 0 0, .int .i64 0, .int .i64 0, .int .i64 0, .bool false, .int .i64 0, .int .i64 0, .slice none 0 0, .bool false, .int .i64 0, .int .i64 0, .int .i64 0] hQz dwInfo rfl dwOne ?_)
      | fail)
    intro w9 hB9 hg9
    have H9 := Lib.hid (show Below w.heap.size w w9 from (HZ.out.2.2).grown hg9 (HZ.out.2.2).size (fun b e => by injection e with e; omega))
    have HG9 := Lib.hid hg9
    clear hg9
    clear hPz hQz
    go_wp2_with fail
    refine bodyPost_ret (results_cell_tmp9 rfl _ _ (w.heap.size + 1) 33 _ (0, 0) _ rfl hB9 Try.underlying33 rfl dwInfo) rfl ?_
    have hle : leadE bs s = 0 := by unfold leadE; rw [if_neg (by rw [HID.out]; decide), if_neg (by rw [HID.out]; decide), if_neg (by rw [HID.out]; decide), if_neg (by rw [HID.out]; decide)]
    have hls : leadS bs s = { s with on := true, heard := false, frm := (n : Int) + 1, times := TM, at_ := (n : Int) + 1 } := by
      unfold leadS; rw [if_neg (by rw [HID.out]; decide), if_pos HID.out, ← HQ0.out, ← HTM.out, HG.out.2.2.1]
    have htk : (leadS bs s).tk = s.tk := by rw [hls]
    have hdr : DR (leadS bs s) { d with loop := (n : Int), left := 0, heard := false, at_ := (n : Int) + 1 } := by
      rw [hls]
      exact ⟨rfl, by show (n : Int) = (n : Int) + 1 - 1; omega, HTE.out, rfl, HR.out.2.2.2.2.1, HR.out.2.2.2.2.2.1, HR.out.2.2.2.2.2.2.1, fun _ => by show 1 ≤ (n : Int) + 1; omega⟩
    refine ⟨H9.out, .inl ⟨hle, _, _, _, _, rfl, hdr, ?_⟩⟩
    rw [htk]
    exact HG.out.2.2.2.2.2.1.keep (fun b hb => H9.out.block b (HPH.out b hb)) (fun b hb => .inl hb)
  · have HTE := Lib.hid (show q.ct - 1 = TM by have := HTM.out; rw [if_neg hc1] at this; omega)
    have hTe : IntKind.i64.wrap (q.ct - 1) = q.ct - 1 := by rw [IntKind.wrap_i64]; omega
    have hc4 : 1 < q.ct := by omega
    go_upto_region 40 with fail
    have HZ := Lib.hid (show Blk (((((w3.setCell ⟨w.heap.size, 2, none⟩ (.int .i64 (n : Int))).setCell ⟨w.heap.size, 3, none⟩ (.int .i64 (q.ct - 1))).setCell ⟨w.heap.size, 4, none⟩ (.bool false)).setCell ⟨w.heap.size, 1, none⟩ (.int .i64 ((n : Int) + 1)))) w.heap.size 33 (dwC LA ln lc KA kn kc ({ d with loop := (n : Int), left := q.ct - 1, heard := false, at_ := (n : Int) + 1 })) ∧ Blk (((((w3.setCell ⟨w.heap.size, 2, none⟩ (.int .i64 (n : Int))).setCell ⟨w.heap.size, 3, none⟩ (.int .i64 (q.ct - 1))).setCell ⟨w.heap.size, 4, none⟩ (.bool false)).setCell ⟨w.heap.size, 1, none⟩ (.int .i64 ((n : Int) + 1)))) (w.heap.size + 1) 33 #[.slice none 0 0, .int .i64 0, .int .i64 0, .int .i64 0, .bool false, .int .i64 0, .int .i64 0, .slice none 0 0, .bool false, .int .i64 0, .int .i64 0, .int .i64 0] ∧ Below w.heap.size w (((((w3.setCell ⟨w.heap.size, 2, none⟩ (.int .i64 (n : Int))).setCell ⟨w.heap.size, 3, none⟩ (.int .i64 (q.ct - 1))).setCell ⟨w.heap.size, 4, none⟩ (.bool false)).setCell ⟨w.heap.size, 1, none⟩ (.int .i64 ((n : Int) + 1)))) from ⟨((((H3.out.2.1.set_ 2 _).set_ 3 _).set_ 4 _).set_ 1 _), ((((H3.out.2.2.1.far (by show w.heap.size + 1 ≠ w.heap.size; omega) _).far (by show w.heap.size + 1 ≠ w.heap.size; omega) _).far (by show w.heap.size + 1 ≠ w.heap.size; omega) _).far (by show w.heap.size + 1 ≠ w.heap.size; omega) _), ((((H3.out.1.setCell (by show w.heap.size ≤ w.heap.size; omega) _).setCell (by show w.heap.size ≤ w.heap.size; omega) _).setCell (by show w.heap.size ≤ w.heap.size; omega) _).setCell (by show w.heap.size ≤ w.heap.size; omega) _)⟩)
    clear c1 f1 c2 c3 c4 f2 f3 f4 p8
    generalize ((((w3.setCell ⟨w.heap.size, 2, none⟩ (.int .i64 (n : Int))).setCell ⟨w.heap.size, 3, none⟩ (.int .i64 (q.ct - 1))).setCell ⟨w.heap.size, 4, none⟩ (.bool false)).setCell ⟨w.heap.size, 1, none⟩ (.int .i64 ((n : Int) + 1))) = wz at *
    have hPz := HZ.out.1
    have hQz := HZ.out.2.1
    go_wp2_with (first
      | (refine wpList_load_box rfl 33 _ rfl (w.heap.size) rfl 33 (dwC LA ln lc KA kn kc ({ d with loop := (n : Int), left := q.ct - 1, heard := false, at_ := (n : Int) + 1 })) hPz _ Try.underlying33 rfl dwInfo (fun (_ : Hid _) => ?_))
      | (refine wpList_store_box rfl 33 _ _ rfl (w.heap.size + 1) (dwC LA ln lc KA kn kc ({ d with loop := (n : Int), left := q.ct - 1, heard := false, at_ := (n : Int) + 1 })) rfl rfl 33 #[.slice none 0 0, .int .i64 0, .int .i64 0, .int .i64 0, .bool false, .int .i64 0, .int .i64 0, .slice none 0 0, .bool false, .int .i64 0, .int .i64 0, .int .i64 0] hQz dwInfo rfl dwOne ?_)
      | fail)
    intro w9 hB9 hg9
    have H9 := Lib.hid (show Below w.heap.size w w9 from (HZ.out.2.2).grown hg9 (HZ.out.2.2).size (fun b e => by injection e with e; omega))
    have HG9 := Lib.hid hg9
    clear hg9
    clear hPz hQz
    go_wp2_with fail
    refine bodyPost_ret (results_cell_tmp9 rfl _ _ (w.heap.size + 1) 33 _ (0, 0) _ rfl hB9 Try.underlying33 rfl dwInfo) rfl ?_
    have hle : leadE bs s = 0 := by unfold leadE; rw [if_neg (by rw [HID.out]; decide), if_neg (by rw [HID.out]; decide), if_neg (by rw [HID.out]; decide), if_neg (by rw [HID.out]; decide)]
    have hls : leadS bs s = { s with on := true, heard := false, frm := (n : Int) + 1, times := TM, at_ := (n : Int) + 1 } := by
      unfold leadS; rw [if_neg (by rw [HID.out]; decide), if_pos HID.out, ← HQ0.out, ← HTM.out, HG.out.2.2.1]
    have htk : (leadS bs s).tk = s.tk := by rw [hls]
    have hdr : DR (leadS bs s) { d with loop := (n : Int), left := q.ct - 1, heard := false, at_ := (n : Int) + 1 } := by
      rw [hls]
      exact ⟨rfl, by show (n : Int) = (n : Int) + 1 - 1; omega, HTE.out, rfl, HR.out.2.2.2.2.1, HR.out.2.2.2.2.2.1, HR.out.2.2.2.2.2.2.1, fun _ => by show 1 ≤ (n : Int) + 1; omega⟩
    refine ⟨H9.out, .inl ⟨hle, _, _, _, _, rfl, hdr, ?_⟩⟩
    rw [htk]
    exact HG.out.2.2.2.2.2.1.keep (fun b hb => H9.out.block b (HPH.out b hb)) (fun b hb => .inl hb)

set_option maxRecDepth 100000 in
set_option maxHeartbeats 8000000 in
theorem silent37 (w : World) (LA : Option Addr) (ln lc : Nat) (KA : Option Addr) (kn kc : Nat) (bs : List WB) (s : WS) (d : DW) (hR : DR s d) (hok : s.ok bs) (hf : Fine bs) (hlt : s.at_ < bs.length) (hB : BlksR w (· < w.heap.size) LA ln bs) (φ : Nat → Prop) (hφ : ∀ b, φ b → b < w.heap.size) (hT : RdP w φ 1 KA kn (s.tk.reverse.map (Value.int .i64))) (hid : (atB bs s.at_).id = 37) :
    Calls Try.prog 23 #[.agg (dwC LA ln lc KA kn kc d)] w fun x w' => SilO w w' x LA ln lc KA kn kc bs s d φ := by
  obtain ⟨n, hn⟩ : ∃ n : Nat, s.at_ = (n : Int) := ⟨s.at_.toNat, by have := hok.1; omega⟩
  have hln := hB.len
  have hl60 : ln ≤ 60 := by have := hf.1; omega
  have hnl : n < ln := by omega
  have hdn : atB bs s.at_ = bs.getD n default := by rw [hn]; rfl
  have hfn := hf.2 n (by omega)
  have hkl : kn ≤ 60 := by have := hok.2.2.2.2.2.2; have := reads_len (hT.reads (B := w.heap.size) hφ); simp at this; omega
  obtain ⟨r1, r2, r3, r4, r5, r6, r7, r8⟩ := hR
  rw [hn] at r1
  have hwn : IntKind.i64.wrap ((n : Int) + 1) = (n : Int) + 1 := by rw [IntKind.wrap_i64]; omega
  have hn0 : (0 : Int) ≤ (n : Int) := Int.natCast_nonneg _
  have hnI : (n : Int) < (ln : Int) := by omega
  have HR := Lib.hid (And.intro r1 (And.intro r2 (And.intro r3 (And.intro r4 (And.intro r5 (And.intro r6 (And.intro r7 r8)))))))
  have HG := Lib.hid (And.intro hok (And.intro hf (And.intro hn (And.intro hdn (And.intro hfn (And.intro hT hln))))))
  have HID := Lib.hid hid
  have HBk := Lib.hid hB
  have HPH := Lib.hid hφ
  clear hφ r1 r2 r3 r4 r5 r6 r7 r8 hok hf hn hdn hfn hT hln hid hlt hB
  have hb2 : Below w.heap.size w ((w.alloc (.cells (dwC LA ln lc KA kn kc d) 33)).alloc (.cells #[.slice none 0 0, .int .i64 0, .int .i64 0, .int .i64 0, .bool false, .int .i64 0, .int .i64 0, .slice none 0 0, .bool false, .int .i64 0, .int .i64 0, .int .i64 0] 33)) := ((Below.refl _ _).alloc (Nat.le_refl _) _).alloc (by simp) _
  have hP : Blk ((w.alloc (.cells (dwC LA ln lc KA kn kc d) 33)).alloc (.cells #[.slice none 0 0, .int .i64 0, .int .i64 0, .int .i64 0, .bool false, .int .i64 0, .int .i64 0, .slice none 0 0, .bool false, .int .i64 0, .int .i64 0, .int .i64 0] 33)) w.heap.size 33 (dwC LA ln lc KA kn kc d) := (Blk.new w _ _).alloc _
  have hQ : Blk ((w.alloc (.cells (dwC LA ln lc KA kn kc d) 33)).alloc (.cells #[.slice none 0 0, .int .i64 0, .int .i64 0, .int .i64 0, .bool false, .int .i64 0, .int .i64 0, .slice none 0 0, .bool false, .int .i64 0, .int .i64 0, .int .i64 0] 33)) (w.heap.size + 1) 33 #[.slice none 0 0, .int .i64 0, .int .i64 0, .int .i64 0, .bool false, .int .i64 0, .int .i64 0, .slice none 0 0, .bool false, .int .i64 0, .int .i64 0, .int .i64 0] := by
    have := Blk.new (w.alloc (.cells (dwC LA ln lc KA kn kc d) 33)) 33 #[.slice none 0 0, .int .i64 0, .int .i64 0, .int .i64 0, .bool false, .int .i64 0, .int .i64 0, .slice none 0 0, .bool false, .int .i64 0, .int .i64 0, .int .i64 0]
    simpa using this
  have H0 := Lib.hid (And.intro hb2 (And.intro hP hQ))
  clear hb2 hP hQ
  go_enter Try.func23, Try.ntmps23
  go_upto_region 1 with fail
  generalize ((w.alloc (.cells (dwC LA ln lc KA kn kc d) 33)).alloc (.cells #[.slice none 0 0, .int .i64 0, .int .i64 0, .int .i64 0, .bool false, .int .i64 0, .int .i64 0, .slice none 0 0, .bool false, .int .i64 0, .int .i64 0, .int .i64 0] 33)) = w0 at *
  have hs0 := H0.out.1.size
  have hql := H0.out.2.2.lt
  have c0 : w0.cell? ⟨w.heap.size, 0, none⟩ = some (.slice LA ln lc) := (H0.out.2.1.cell 0).trans rfl
  have c1 : w0.cell? ⟨w.heap.size, 1, none⟩ = some (.int .i64 (n : Int)) := by rw [← HR.out.1]; exact (H0.out.2.1.cell 1).trans rfl
  have hBr := HBk.out.keep (w' := w0) (ψ := (· < w.heap.size)) (fun b hb => H0.out.1.block b hb) (fun b hb => hb)
  obtain ⟨ad, hLA, hab, cs, hWB, hc18⟩ := hBr.at_ (i := n) hnl
  obtain ⟨q, hq⟩ : ∃ q, q = bs.getD n default := ⟨_, rfl⟩
  rw [← hq] at hWB
  obtain ⟨v2, v3, v4, v5, v6, v7, v9, v10, v11, v12, TA, tn, tc, IA, ic, v15, v16, v17, rfl, h1c, hTs, hIs⟩ := hWB
  have X0 := Lib.hid (show ∀ jj vv, ([.int .i64 q.id, .int .i64 q.pz, v2, v3, v4, v5, v6, v7, .int .i64 q.ct, v9, v10, v11, v12, .slice TA tn tc, .slice IA q.ns.length ic, v15, v16, v17] : List Value)[jj]? = some vv → w0.cell? ((ad.add (n * 18)).add jj) = some vv from hc18)
  have X1 := Lib.hid (show (#[.int .i64 q.id, .int .i64 q.pz, v2, v3, v4, v5, v6, v7, .int .i64 q.ct, v9, v10, v11, v12, .slice TA tn tc, .slice IA q.ns.length ic, v15, v16, v17] : Array Value).all (·.oneCell') = true from all_one h1c)
  have HD := Lib.hid (And.intro hq (And.intro hTs hIs))
  clear hc18 h1c hq hTs hIs
  rw [hLA] at c0
  have HLA := Lib.hid hLA
  clear hLA
  have hqid := HD.out.1
  rw [← HG.out.2.2.2.1] at hqid
  have HQ0 := Lib.hid hqid
  clear hqid hBr
  go_upto_region 2 with (first
    | (refine wpList_load_at rfl 45 _ rfl (ad.add (n * 18)) rfl [.int .i64 q.id, .int .i64 q.pz, v2, v3, v4, v5, v6, v7, .int .i64 q.ct, v9, v10, v11, v12, .slice TA tn tc, .slice IA q.ns.length ic, v15, v16, v17] X0.out _ Try.underlying45 rfl blkInfo ?_)
    | (refine wpList_store_box rfl 45 _ _ rfl (w0.heap.size) #[.int .i64 q.id, .int .i64 q.pz, v2, v3, v4, v5, v6, v7, .int .i64 q.ct, v9, v10, v11, v12, .slice TA tn tc, .slice IA q.ns.length ic, v15, v16, v17] rfl rfl 45 #[.int .i64 0, .int .i64 0, .int .i64 0, .int .i64 0, .int .i64 0, .int .i64 0, .int .i64 0, .int .i64 0, .int .i64 0, .int .i64 0, .int .i64 0, .int .i64 0, .slice none 0 0, .slice none 0 0, .slice none 0 0, .slice none 0 0, .slice none 0 0, .slice none 0 0] (Blk.new w0 _ _) blkInfo rfl X1.out ?_)
    | fail)
  intro w3 hB3 hg3
  have hb3 : Below w0.heap.size w0 w3 := ((Below.refl _ _).alloc (Nat.le_refl _) _).grown hg3 (by simp) (fun b e => by injection e with e; omega)
  have hsz3 := hb3.size
  have H3 := Lib.hid (show Below w.heap.size w w3 ∧ Blk w3 w.heap.size 33 (dwC LA ln lc KA kn kc d) ∧ Blk w3 (w.heap.size + 1) 33 #[.slice none 0 0, .int .i64 0, .int .i64 0, .int .i64 0, .bool false, .int .i64 0, .int .i64 0, .slice none 0 0, .bool false, .int .i64 0, .int .i64 0, .int .i64 0] ∧ Blk w3 w0.heap.size 45 #[.int .i64 q.id, .int .i64 q.pz, v2, v3, v4, v5, v6, v7, .int .i64 q.ct, v9, v10, v11, v12, .slice TA tn tc, .slice IA q.ns.length ic, v15, v16, v17] from ⟨H0.out.1.trans (hb3.mono hs0), H0.out.2.1.below hb3 H0.out.2.1.lt, H0.out.2.2.below hb3 hql, hB3⟩)
  have hg0l := hB3.lt
  clear c0 c1 hB3 hg3 hb3 X0 X1
  have p0 : w3.cell? ⟨w0.heap.size, 0, none⟩ = some (.int .i64 37) := by rw [← HID.out, ← HQ0.out]; exact (H3.out.2.2.2.cell 0).trans rfl
  have c1 : w3.cell? ⟨w.heap.size, 1, none⟩ = some (.int .i64 (n : Int)) := by rw [← HR.out.1]; exact (H3.out.2.1.cell 1).trans rfl
  have f1 : w3.frozen? ⟨w.heap.size, 1, none⟩ = false := H3.out.2.1.frozen 1
  obtain ⟨_, _, hon, _, ht0, ht1, _⟩ := HG.out.1
  cases hso : s.on with
  | false =>
    have hlo : d.loop = -1 := by rw [HR.out.2.1, hso]; rfl
    have HSO := Lib.hid hso
    clear hso hon
    have c2 : w3.cell? ⟨w.heap.size, 2, none⟩ = some (.int .i64 (-1)) := by rw [← hlo]; exact (H3.out.2.1.cell 2).trans rfl
    have f2 : w3.frozen? ⟨w.heap.size, 2, none⟩ = false := H3.out.2.1.frozen 2
    clear f2 hlo
    have hat : 0 ≤ d.at_ ∧ d.at_ ≤ 60 := by have := HR.out.1; omega
    have htl := told_any w3 LA ln lc KA kn kc d 4 6 hat
    clear hat
    have hPz := H3.out.2.1
    go_wp2_with (first
      | (refine wpList_load_box rfl 33 _ rfl (w.heap.size) rfl 33 (dwC LA ln lc KA kn kc d) hPz _ Try.underlying33 rfl dwInfo (fun (_ : Hid _) => ?_))
      | fail)
    refine htl.mono ?_
    rintro x w5 ⟨rfl, hb5⟩
    clear htl hPz c1 f1
    have hs3 := H3.out.1.size
    have hQ5 : Blk w5 (w.heap.size + 1) 33 #[.slice none 0 0, .int .i64 0, .int .i64 0, .int .i64 0, .bool false, .int .i64 0, .int .i64 0, .slice none 0 0, .bool false, .int .i64 0, .int .i64 0, .int .i64 0] := H3.out.2.2.1.below hb5 (H3.out.2.2.1.lt)
    have H5 := Lib.hid (show Below w.heap.size w w5 from H3.out.1.trans (hb5.mono hs3))
    have hs5 := hb5.size
    clear hb5
    go_wp2_with (first
      | (refine wpList_store_box rfl 33 _ _ rfl (w.heap.size + 1) (dwC LA ln lc KA kn kc (toldD d 4 6)) rfl rfl 33 #[.slice none 0 0, .int .i64 0, .int .i64 0, .int .i64 0, .bool false, .int .i64 0, .int .i64 0, .slice none 0 0, .bool false, .int .i64 0, .int .i64 0, .int .i64 0] hQ5 dwInfo rfl dwOne ?_)
      | fail)
    intro w9 hB9 hg9
    have H9 := Lib.hid (show Below w.heap.size w w9 from H5.out.grown hg9 H5.out.size (fun b e => by injection e with e; omega))
    clear hg9 hQ5
    go_wp2_with fail
    refine bodyPost_ret (results_cell_tmp9 rfl _ _ (w.heap.size + 1) 33 _ (0, 0) _ rfl hB9 Try.underlying33 rfl dwInfo) rfl ?_
    have hle : leadE bs s = 6 := by unfold leadE; rw [if_neg (by rw [HID.out]; decide), if_pos HID.out, if_pos HSO.out]
    exact ⟨H9.out, .inr ⟨by rw [hle]; decide, by rw [hle] <;> rfl⟩⟩
  | true =>
    have hfr := hon hso
    have hf1 := HR.out.2.2.2.2.2.2.2 hso
    have hlo : d.loop = s.frm - 1 := by rw [HR.out.2.1, hso]; rfl
    have HSO := Lib.hid hso
    clear hso hon
    obtain ⟨F, hF⟩ : ∃ F, F = s.frm - 1 := ⟨_, rfl⟩
    rw [← hF] at hlo
    have hF0 : 0 ≤ F ∧ F ≤ 60 := by have := HG.out.2.1.1; omega
    have HF := Lib.hid hF
    clear hF
    have c2 : w3.cell? ⟨w.heap.size, 2, none⟩ = some (.int .i64 F) := by rw [← hlo]; exact (H3.out.2.1.cell 2).trans rfl
    have f2 : w3.frozen? ⟨w.heap.size, 2, none⟩ = false := H3.out.2.1.frozen 2
    have HLO := Lib.hid hlo
    clear hlo
    have hwf : IntKind.i64.wrap (F + 1) = F + 1 := by rw [IntKind.wrap_i64]; omega
    have hF2 : ¬ F < 0 := by omega
    have c3 : w3.cell? ⟨w.heap.size, 3, none⟩ = some (.int .i64 s.times) := by rw [← HR.out.2.2.1]; exact (H3.out.2.1.cell 3).trans rfl
    have f3 : w3.frozen? ⟨w.heap.size, 3, none⟩ = false := H3.out.2.1.frozen 3
    have c4 : w3.cell? ⟨w.heap.size, 4, none⟩ = some (.bool s.heard) := by rw [← HR.out.2.2.2.1]; exact (H3.out.2.1.cell 4).trans rfl
    have f4 : w3.frozen? ⟨w.heap.size, 4, none⟩ = false := H3.out.2.1.frozen 4
    by_cases hts : 0 < s.times
    · cases hhd : s.heard with
      | true =>
        have hwt : IntKind.i64.wrap (s.times - 1) = s.times - 1 := by rw [IntKind.wrap_i64]; omega
        rw [hhd] at c4
        have HHD := Lib.hid hhd
        have HTS := Lib.hid hts
        clear hhd
        go_upto_region 40 with fail
        have HZ := Lib.hid (show Blk ((((w3.setCell ⟨w.heap.size, 3, none⟩ (.int .i64 (s.times - 1))).setCell ⟨w.heap.size, 4, none⟩ (.bool false)).setCell ⟨w.heap.size, 1, none⟩ (.int .i64 (F + 1)))) w.heap.size 33 (dwC LA ln lc KA kn kc ({ d with left := s.times - 1, heard := false, at_ := F + 1 })) ∧ Blk ((((w3.setCell ⟨w.heap.size, 3, none⟩ (.int .i64 (s.times - 1))).setCell ⟨w.heap.size, 4, none⟩ (.bool false)).setCell ⟨w.heap.size, 1, none⟩ (.int .i64 (F + 1)))) (w.heap.size + 1) 33 #[.slice none 0 0, .int .i64 0, .int .i64 0, .int .i64 0, .bool false, .int .i64 0, .int .i64 0, .slice none 0 0, .bool false, .int .i64 0, .int .i64 0, .int .i64 0] ∧ Below w.heap.size w ((((w3.setCell ⟨w.heap.size, 3, none⟩ (.int .i64 (s.times - 1))).setCell ⟨w.heap.size, 4, none⟩ (.bool false)).setCell ⟨w.heap.size, 1, none⟩ (.int .i64 (F + 1)))) from ⟨(((H3.out.2.1.set_ 3 _).set_ 4 _).set_ 1 _), (((H3.out.2.2.1.far (by show w.heap.size + 1 ≠ w.heap.size; omega) _).far (by show w.heap.size + 1 ≠ w.heap.size; omega) _).far (by show w.heap.size + 1 ≠ w.heap.size; omega) _), (((H3.out.1.setCell (by show w.heap.size ≤ w.heap.size; omega) _).setCell (by show w.heap.size ≤ w.heap.size; omega) _).setCell (by show w.heap.size ≤ w.heap.size; omega) _)⟩)
        clear c1 f1 c2 f2 c3 f3 c4 f4
        generalize (((w3.setCell ⟨w.heap.size, 3, none⟩ (.int .i64 (s.times - 1))).setCell ⟨w.heap.size, 4, none⟩ (.bool false)).setCell ⟨w.heap.size, 1, none⟩ (.int .i64 (F + 1))) = wz at *
        have hPz := HZ.out.1
        have hQz := HZ.out.2.1
        go_wp2_with (first
          | (refine wpList_load_box rfl 33 _ rfl (w.heap.size) rfl 33 (dwC LA ln lc KA kn kc ({ d with left := s.times - 1, heard := false, at_ := F + 1 })) hPz _ Try.underlying33 rfl dwInfo (fun (_ : Hid _) => ?_))
          | (refine wpList_store_box rfl 33 _ _ rfl (w.heap.size + 1) (dwC LA ln lc KA kn kc ({ d with left := s.times - 1, heard := false, at_ := F + 1 })) rfl rfl 33 #[.slice none 0 0, .int .i64 0, .int .i64 0, .int .i64 0, .bool false, .int .i64 0, .int .i64 0, .slice none 0 0, .bool false, .int .i64 0, .int .i64 0, .int .i64 0] hQz dwInfo rfl dwOne ?_)
          | fail)
        intro w9 hB9 hg9
        have H9 := Lib.hid (show Below w.heap.size w w9 from (HZ.out.2.2).grown hg9 (HZ.out.2.2).size (fun b e => by injection e with e; omega))
        have HG9 := Lib.hid hg9
        clear hg9
        clear hPz hQz
        go_wp2_with fail
        refine bodyPost_ret (results_cell_tmp9 rfl _ _ (w.heap.size + 1) 33 _ (0, 0) _ rfl hB9 Try.underlying33 rfl dwInfo) rfl ?_
        have hle : leadE bs s = 0 := by unfold leadE; rw [if_neg (by rw [HID.out]; decide), if_pos HID.out, if_neg (by rw [HSO.out]; decide)]
        have hls : leadS bs s = { s with times := s.times - 1, heard := false, at_ := s.frm } := by
          unfold leadS; rw [if_neg (by rw [HID.out]; decide), if_neg (by rw [HID.out]; decide), if_pos HID.out, if_pos ⟨HTS.out, HHD.out⟩]
        have htk : (leadS bs s).tk = s.tk := by rw [hls]
        have hdr : DR (leadS bs s) { d with left := s.times - 1, heard := false, at_ := F + 1 } := by
          rw [hls]
          exact ⟨by show F + 1 = s.frm; have := HF.out; omega, HR.out.2.1, rfl, rfl, HR.out.2.2.2.2.1, HR.out.2.2.2.2.2.1, HR.out.2.2.2.2.2.2.1, HR.out.2.2.2.2.2.2.2⟩
        refine ⟨H9.out, .inl ⟨hle, _, _, _, _, rfl, hdr, ?_⟩⟩
        rw [htk]
        exact HG.out.2.2.2.2.2.1.keep (fun b hb => H9.out.block b (HPH.out b hb)) (fun b hb => .inl hb)
      | false =>
        have HHD := Lib.hid hhd
        rw [hhd] at c4
        clear hhd
        go_upto_region 40 with fail
        have HZ := Lib.hid (show Blk (((((w3.setCell ⟨w.heap.size, 2, none⟩ (.int .i64 (-1))).setCell ⟨w.heap.size, 3, none⟩ (.int .i64 0)).setCell ⟨w.heap.size, 4, none⟩ (.bool false)).setCell ⟨w.heap.size, 1, none⟩ (.int .i64 ((n : Int) + 1)))) w.heap.size 33 (dwC LA ln lc KA kn kc ({ d with loop := -1, left := 0, heard := false, at_ := (n : Int) + 1 })) ∧ Blk (((((w3.setCell ⟨w.heap.size, 2, none⟩ (.int .i64 (-1))).setCell ⟨w.heap.size, 3, none⟩ (.int .i64 0)).setCell ⟨w.heap.size, 4, none⟩ (.bool false)).setCell ⟨w.heap.size, 1, none⟩ (.int .i64 ((n : Int) + 1)))) (w.heap.size + 1) 33 #[.slice none 0 0, .int .i64 0, .int .i64 0, .int .i64 0, .bool false, .int .i64 0, .int .i64 0, .slice none 0 0, .bool false, .int .i64 0, .int .i64 0, .int .i64 0] ∧ Below w.heap.size w (((((w3.setCell ⟨w.heap.size, 2, none⟩ (.int .i64 (-1))).setCell ⟨w.heap.size, 3, none⟩ (.int .i64 0)).setCell ⟨w.heap.size, 4, none⟩ (.bool false)).setCell ⟨w.heap.size, 1, none⟩ (.int .i64 ((n : Int) + 1)))) from ⟨((((H3.out.2.1.set_ 2 _).set_ 3 _).set_ 4 _).set_ 1 _), ((((H3.out.2.2.1.far (by show w.heap.size + 1 ≠ w.heap.size; omega) _).far (by show w.heap.size + 1 ≠ w.heap.size; omega) _).far (by show w.heap.size + 1 ≠ w.heap.size; omega) _).far (by show w.heap.size + 1 ≠ w.heap.size; omega) _), ((((H3.out.1.setCell (by show w.heap.size ≤ w.heap.size; omega) _).setCell (by show w.heap.size ≤ w.heap.size; omega) _).setCell (by show w.heap.size ≤ w.heap.size; omega) _).setCell (by show w.heap.size ≤ w.heap.size; omega) _)⟩)
        clear c1 f1 c2 f2 c3 f3 c4 f4
        generalize ((((w3.setCell ⟨w.heap.size, 2, none⟩ (.int .i64 (-1))).setCell ⟨w.heap.size, 3, none⟩ (.int .i64 0)).setCell ⟨w.heap.size, 4, none⟩ (.bool false)).setCell ⟨w.heap.size, 1, none⟩ (.int .i64 ((n : Int) + 1))) = wz at *
        have hPz := HZ.out.1
        have hQz := HZ.out.2.1
        go_wp2_with (first
          | (refine wpList_load_box rfl 33 _ rfl (w.heap.size) rfl 33 (dwC LA ln lc KA kn kc ({ d with loop := -1, left := 0, heard := false, at_ := (n : Int) + 1 })) hPz _ Try.underlying33 rfl dwInfo (fun (_ : Hid _) => ?_))
          | (refine wpList_store_box rfl 33 _ _ rfl (w.heap.size + 1) (dwC LA ln lc KA kn kc ({ d with loop := -1, left := 0, heard := false, at_ := (n : Int) + 1 })) rfl rfl 33 #[.slice none 0 0, .int .i64 0, .int .i64 0, .int .i64 0, .bool false, .int .i64 0, .int .i64 0, .slice none 0 0, .bool false, .int .i64 0, .int .i64 0, .int .i64 0] hQz dwInfo rfl dwOne ?_)
          | fail)
        intro w9 hB9 hg9
        have H9 := Lib.hid (show Below w.heap.size w w9 from (HZ.out.2.2).grown hg9 (HZ.out.2.2).size (fun b e => by injection e with e; omega))
        have HG9 := Lib.hid hg9
        clear hg9
        clear hPz hQz
        go_wp2_with fail
        refine bodyPost_ret (results_cell_tmp9 rfl _ _ (w.heap.size + 1) 33 _ (0, 0) _ rfl hB9 Try.underlying33 rfl dwInfo) rfl ?_
        have hle : leadE bs s = 0 := by unfold leadE; rw [if_neg (by rw [HID.out]; decide), if_pos HID.out, if_neg (by rw [HSO.out]; decide)]
        have hls : leadS bs s = { s with on := false, heard := false, frm := 0, times := 0, at_ := (n : Int) + 1 } := by
          unfold leadS; rw [if_neg (by rw [HID.out]; decide), if_neg (by rw [HID.out]; decide), if_pos HID.out, if_neg (fun h => by rw [HHD.out] at h; exact absurd h.2 (by decide)), HG.out.2.2.1]
        have htk : (leadS bs s).tk = s.tk := by rw [hls]
        have hdr : DR (leadS bs s) { d with loop := -1, left := 0, heard := false, at_ := (n : Int) + 1 } := by
          rw [hls]
          exact ⟨rfl, rfl, rfl, rfl, HR.out.2.2.2.2.1, HR.out.2.2.2.2.2.1, HR.out.2.2.2.2.2.2.1, fun h => absurd h (by simp)⟩
        refine ⟨H9.out, .inl ⟨hle, _, _, _, _, rfl, hdr, ?_⟩⟩
        rw [htk]
        exact HG.out.2.2.2.2.2.1.keep (fun b hb => H9.out.block b (HPH.out b hb)) (fun b hb => .inl hb)
    · have HTS := Lib.hid hts
      go_upto_region 40 with fail
      have HZ := Lib.hid (show Blk (((((w3.setCell ⟨w.heap.size, 2, none⟩ (.int .i64 (-1))).setCell ⟨w.heap.size, 3, none⟩ (.int .i64 0)).setCell ⟨w.heap.size, 4, none⟩ (.bool false)).setCell ⟨w.heap.size, 1, none⟩ (.int .i64 ((n : Int) + 1)))) w.heap.size 33 (dwC LA ln lc KA kn kc ({ d with loop := -1, left := 0, heard := false, at_ := (n : Int) + 1 })) ∧ Blk (((((w3.setCell ⟨w.heap.size, 2, none⟩ (.int .i64 (-1))).setCell ⟨w.heap.size, 3, none⟩ (.int .i64 0)).setCell ⟨w.heap.size, 4, none⟩ (.bool false)).setCell ⟨w.heap.size, 1, none⟩ (.int .i64 ((n : Int) + 1)))) (w.heap.size + 1) 33 #[.slice none 0 0, .int .i64 0, .int .i64 0, .int .i64 0, .bool false, .int .i64 0, .int .i64 0, .slice none 0 0, .bool false, .int .i64 0, .int .i64 0, .int .i64 0] ∧ Below w.heap.size w (((((w3.setCell ⟨w.heap.size, 2, none⟩ (.int .i64 (-1))).setCell ⟨w.heap.size, 3, none⟩ (.int .i64 0)).setCell ⟨w.heap.size, 4, none⟩ (.bool false)).setCell ⟨w.heap.size, 1, none⟩ (.int .i64 ((n : Int) + 1)))) from ⟨((((H3.out.2.1.set_ 2 _).set_ 3 _).set_ 4 _).set_ 1 _), ((((H3.out.2.2.1.far (by show w.heap.size + 1 ≠ w.heap.size; omega) _).far (by show w.heap.size + 1 ≠ w.heap.size; omega) _).far (by show w.heap.size + 1 ≠ w.heap.size; omega) _).far (by show w.heap.size + 1 ≠ w.heap.size; omega) _), ((((H3.out.1.setCell (by show w.heap.size ≤ w.heap.size; omega) _).setCell (by show w.heap.size ≤ w.heap.size; omega) _).setCell (by show w.heap.size ≤ w.heap.size; omega) _).setCell (by show w.heap.size ≤ w.heap.size; omega) _)⟩)
      clear c1 f1 c2 f2 c3 f3 c4 f4
      generalize ((((w3.setCell ⟨w.heap.size, 2, none⟩ (.int .i64 (-1))).setCell ⟨w.heap.size, 3, none⟩ (.int .i64 0)).setCell ⟨w.heap.size, 4, none⟩ (.bool false)).setCell ⟨w.heap.size, 1, none⟩ (.int .i64 ((n : Int) + 1))) = wz at *
      have hPz := HZ.out.1
      have hQz := HZ.out.2.1
      go_wp2_with (first
        | (refine wpList_load_box rfl 33 _ rfl (w.heap.size) rfl 33 (dwC LA ln lc KA kn kc ({ d with loop := -1, left := 0, heard := false, at_ := (n : Int) + 1 })) hPz _ Try.underlying33 rfl dwInfo (fun (_ : Hid _) => ?_))
        | (refine wpList_store_box rfl 33 _ _ rfl (w.heap.size + 1) (dwC LA ln lc KA kn kc ({ d with loop := -1, left := 0, heard := false, at_ := (n : Int) + 1 })) rfl rfl 33 #[.slice none 0 0, .int .i64 0, .int .i64 0, .int .i64 0, .bool false, .int .i64 0, .int .i64 0, .slice none 0 0, .bool false, .int .i64 0, .int .i64 0, .int .i64 0] hQz dwInfo rfl dwOne ?_)
        | fail)
      intro w9 hB9 hg9
      have H9 := Lib.hid (show Below w.heap.size w w9 from (HZ.out.2.2).grown hg9 (HZ.out.2.2).size (fun b e => by injection e with e; omega))
      have HG9 := Lib.hid hg9
      clear hg9
      clear hPz hQz
      go_wp2_with fail
      refine bodyPost_ret (results_cell_tmp9 rfl _ _ (w.heap.size + 1) 33 _ (0, 0) _ rfl hB9 Try.underlying33 rfl dwInfo) rfl ?_
      have hle : leadE bs s = 0 := by unfold leadE; rw [if_neg (by rw [HID.out]; decide), if_pos HID.out, if_neg (by rw [HSO.out]; decide)]
      have hls : leadS bs s = { s with on := false, heard := false, frm := 0, times := 0, at_ := (n : Int) + 1 } := by
        unfold leadS; rw [if_neg (by rw [HID.out]; decide), if_neg (by rw [HID.out]; decide), if_pos HID.out, if_neg (fun h => absurd h.1 (by have := HTS.out; omega)), HG.out.2.2.1]
      have htk : (leadS bs s).tk = s.tk := by rw [hls]
      have hdr : DR (leadS bs s) { d with loop := -1, left := 0, heard := false, at_ := (n : Int) + 1 } := by
        rw [hls]
        exact ⟨rfl, rfl, rfl, rfl, HR.out.2.2.2.2.1, HR.out.2.2.2.2.2.1, HR.out.2.2.2.2.2.2.1, fun h => absurd h (by simp)⟩
      refine ⟨H9.out, .inl ⟨hle, _, _, _, _, rfl, hdr, ?_⟩⟩
      rw [htk]
      exact HG.out.2.2.2.2.2.1.keep (fun b hb => H9.out.block b (HPH.out b hb)) (fun b hb => .inl hb)

set_option maxRecDepth 100000 in
set_option maxHeartbeats 8000000 in
theorem silent38 (w : World) (LA : Option Addr) (ln lc : Nat) (KA : Option Addr) (kn kc : Nat) (bs : List WB) (s : WS) (d : DW) (hR : DR s d) (hok : s.ok bs) (hf : Fine bs) (hlt : s.at_ < bs.length) (hB : BlksR w (· < w.heap.size) LA ln bs) (φ : Nat → Prop) (hφ : ∀ b, φ b → b < w.heap.size) (hT : RdP w φ 1 KA kn (s.tk.reverse.map (Value.int .i64))) (hid : (atB bs s.at_).id = 38) :
    Calls Try.prog 23 #[.agg (dwC LA ln lc KA kn kc d)] w fun x w' => SilO w w' x LA ln lc KA kn kc bs s d φ := by
  obtain ⟨n, hn⟩ : ∃ n : Nat, s.at_ = (n : Int) := ⟨s.at_.toNat, by have := hok.1; omega⟩
  have hln := hB.len
  have hl60 : ln ≤ 60 := by have := hf.1; omega
  have hnl : n < ln := by omega
  have hdn : atB bs s.at_ = bs.getD n default := by rw [hn]; rfl
  have hfn := hf.2 n (by omega)
  have hkl : kn ≤ 60 := by have := hok.2.2.2.2.2.2; have := reads_len (hT.reads (B := w.heap.size) hφ); simp at this; omega
  obtain ⟨r1, r2, r3, r4, r5, r6, r7, r8⟩ := hR
  rw [hn] at r1
  have hwn : IntKind.i64.wrap ((n : Int) + 1) = (n : Int) + 1 := by rw [IntKind.wrap_i64]; omega
  have hn0 : (0 : Int) ≤ (n : Int) := Int.natCast_nonneg _
  have hnI : (n : Int) < (ln : Int) := by omega
  have HR := Lib.hid (And.intro r1 (And.intro r2 (And.intro r3 (And.intro r4 (And.intro r5 (And.intro r6 (And.intro r7 r8)))))))
  have HG := Lib.hid (And.intro hok (And.intro hf (And.intro hn (And.intro hdn (And.intro hfn (And.intro hT hln))))))
  have HID := Lib.hid hid
  have HBk := Lib.hid hB
  have HPH := Lib.hid hφ
  clear hφ r1 r2 r3 r4 r5 r6 r7 r8 hok hf hn hdn hfn hT hln hid hlt hB
  have hb2 : Below w.heap.size w ((w.alloc (.cells (dwC LA ln lc KA kn kc d) 33)).alloc (.cells #[.slice none 0 0, .int .i64 0, .int .i64 0, .int .i64 0, .bool false, .int .i64 0, .int .i64 0, .slice none 0 0, .bool false, .int .i64 0, .int .i64 0, .int .i64 0] 33)) := ((Below.refl _ _).alloc (Nat.le_refl _) _).alloc (by simp) _
  have hP : Blk ((w.alloc (.cells (dwC LA ln lc KA kn kc d) 33)).alloc (.cells #[.slice none 0 0, .int .i64 0, .int .i64 0, .int .i64 0, .bool false, .int .i64 0, .int .i64 0, .slice none 0 0, .bool false, .int .i64 0, .int .i64 0, .int .i64 0] 33)) w.heap.size 33 (dwC LA ln lc KA kn kc d) := (Blk.new w _ _).alloc _
  have hQ : Blk ((w.alloc (.cells (dwC LA ln lc KA kn kc d) 33)).alloc (.cells #[.slice none 0 0, .int .i64 0, .int .i64 0, .int .i64 0, .bool false, .int .i64 0, .int .i64 0, .slice none 0 0, .bool false, .int .i64 0, .int .i64 0, .int .i64 0] 33)) (w.heap.size + 1) 33 #[.slice none 0 0, .int .i64 0, .int .i64 0, .int .i64 0, .bool false, .int .i64 0, .int .i64 0, .slice none 0 0, .bool false, .int .i64 0, .int .i64 0, .int .i64 0] := by
    have := Blk.new (w.alloc (.cells (dwC LA ln lc KA kn kc d) 33)) 33 #[.slice none 0 0, .int .i64 0, .int .i64 0, .int .i64 0, .bool false, .int .i64 0, .int .i64 0, .slice none 0 0, .bool false, .int .i64 0, .int .i64 0, .int .i64 0]
    simpa using this
  have H0 := Lib.hid (And.intro hb2 (And.intro hP hQ))
  clear hb2 hP hQ
  go_enter Try.func23, Try.ntmps23
  go_upto_region 1 with fail
  generalize ((w.alloc (.cells (dwC LA ln lc KA kn kc d) 33)).alloc (.cells #[.slice none 0 0, .int .i64 0, .int .i64 0, .int .i64 0, .bool false, .int .i64 0, .int .i64 0, .slice none 0 0, .bool false, .int .i64 0, .int .i64 0, .int .i64 0] 33)) = w0 at *
  have hs0 := H0.out.1.size
  have hql := H0.out.2.2.lt
  have c0 : w0.cell? ⟨w.heap.size, 0, none⟩ = some (.slice LA ln lc) := (H0.out.2.1.cell 0).trans rfl
  have c1 : w0.cell? ⟨w.heap.size, 1, none⟩ = some (.int .i64 (n : Int)) := by rw [← HR.out.1]; exact (H0.out.2.1.cell 1).trans rfl
  have hBr := HBk.out.keep (w' := w0) (ψ := (· < w.heap.size)) (fun b hb => H0.out.1.block b hb) (fun b hb => hb)
  obtain ⟨ad, hLA, hab, cs, hWB, hc18⟩ := hBr.at_ (i := n) hnl
  obtain ⟨q, hq⟩ : ∃ q, q = bs.getD n default := ⟨_, rfl⟩
  rw [← hq] at hWB
  obtain ⟨v2, v3, v4, v5, v6, v7, v9, v10, v11, v12, TA, tn, tc, IA, ic, v15, v16, v17, rfl, h1c, hTs, hIs⟩ := hWB
  have X0 := Lib.hid (show ∀ jj vv, ([.int .i64 q.id, .int .i64 q.pz, v2, v3, v4, v5, v6, v7, .int .i64 q.ct, v9, v10, v11, v12, .slice TA tn tc, .slice IA q.ns.length ic, v15, v16, v17] : List Value)[jj]? = some vv → w0.cell? ((ad.add (n * 18)).add jj) = some vv from hc18)
  have X1 := Lib.hid (show (#[.int .i64 q.id, .int .i64 q.pz, v2, v3, v4, v5, v6, v7, .int .i64 q.ct, v9, v10, v11, v12, .slice TA tn tc, .slice IA q.ns.length ic, v15, v16, v17] : Array Value).all (·.oneCell') = true from all_one h1c)
  have HD := Lib.hid (And.intro hq (And.intro hTs hIs))
  clear hc18 h1c hq hTs hIs
  rw [hLA] at c0
  have HLA := Lib.hid hLA
  clear hLA
  have hqid := HD.out.1
  rw [← HG.out.2.2.2.1] at hqid
  have HQ0 := Lib.hid hqid
  clear hqid hBr
  go_upto_region 2 with (first
    | (refine wpList_load_at rfl 45 _ rfl (ad.add (n * 18)) rfl [.int .i64 q.id, .int .i64 q.pz, v2, v3, v4, v5, v6, v7, .int .i64 q.ct, v9, v10, v11, v12, .slice TA tn tc, .slice IA q.ns.length ic, v15, v16, v17] X0.out _ Try.underlying45 rfl blkInfo ?_)
    | (refine wpList_store_box rfl 45 _ _ rfl (w0.heap.size) #[.int .i64 q.id, .int .i64 q.pz, v2, v3, v4, v5, v6, v7, .int .i64 q.ct, v9, v10, v11, v12, .slice TA tn tc, .slice IA q.ns.length ic, v15, v16, v17] rfl rfl 45 #[.int .i64 0, .int .i64 0, .int .i64 0, .int .i64 0, .int .i64 0, .int .i64 0, .int .i64 0, .int .i64 0, .int .i64 0, .int .i64 0, .int .i64 0, .int .i64 0, .slice none 0 0, .slice none 0 0, .slice none 0 0, .slice none 0 0, .slice none 0 0, .slice none 0 0] (Blk.new w0 _ _) blkInfo rfl X1.out ?_)
    | fail)
  intro w3 hB3 hg3
  have hb3 : Below w0.heap.size w0 w3 := ((Below.refl _ _).alloc (Nat.le_refl _) _).grown hg3 (by simp) (fun b e => by injection e with e; omega)
  have hsz3 := hb3.size
  have H3 := Lib.hid (show Below w.heap.size w w3 ∧ Blk w3 w.heap.size 33 (dwC LA ln lc KA kn kc d) ∧ Blk w3 (w.heap.size + 1) 33 #[.slice none 0 0, .int .i64 0, .int .i64 0, .int .i64 0, .bool false, .int .i64 0, .int .i64 0, .slice none 0 0, .bool false, .int .i64 0, .int .i64 0, .int .i64 0] ∧ Blk w3 w0.heap.size 45 #[.int .i64 q.id, .int .i64 q.pz, v2, v3, v4, v5, v6, v7, .int .i64 q.ct, v9, v10, v11, v12, .slice TA tn tc, .slice IA q.ns.length ic, v15, v16, v17] from ⟨H0.out.1.trans (hb3.mono hs0), H0.out.2.1.below hb3 H0.out.2.1.lt, H0.out.2.2.below hb3 hql, hB3⟩)
  have hg0l := hB3.lt
  clear c0 c1 hB3 hg3 hb3 X0 X1
  have p0 : w3.cell? ⟨w0.heap.size, 0, none⟩ = some (.int .i64 38) := by rw [← HID.out, ← HQ0.out]; exact (H3.out.2.2.2.cell 0).trans rfl
  have c1 : w3.cell? ⟨w.heap.size, 1, none⟩ = some (.int .i64 (n : Int)) := by rw [← HR.out.1]; exact (H3.out.2.1.cell 1).trans rfl
  have f1 : w3.frozen? ⟨w.heap.size, 1, none⟩ = false := H3.out.2.1.frozen 1
  have p13 : w3.cell? ⟨w0.heap.size, 13, none⟩ = some (.slice TA tn tc) := (H3.out.2.2.2.cell 13).trans rfl
  have htl0 : q.ts.length = tn := reads_len (HD.out.2.1.reads (B := w.heap.size) (fun b h => h))
  have HTL := Lib.hid htl0
  have htn60 : tn ≤ 60 := by have := HG.out.2.2.2.2.1.1; rw [← HD.out.1] at this; omega
  clear htl0
  cases hsc : s.con with
  | true =>
    have hca : d.call = s.cfrom := by rw [HR.out.2.2.2.2.1, hsc]; rfl
    have hcb := (HG.out.1.2.2.2.1 hsc).1
    have HSC := Lib.hid hsc
    clear hsc p13
    have c5 : w3.cell? ⟨w.heap.size, 5, none⟩ = some (.int .i64 s.cfrom) := by rw [← hca]; exact (H3.out.2.1.cell 5).trans rfl
    have f5 : w3.frozen? ⟨w.heap.size, 5, none⟩ = false := H3.out.2.1.frozen 5
    clear f5 hca
    have hat : 0 ≤ d.at_ ∧ d.at_ ≤ 60 := by have := HR.out.1; omega
    have htl := told_any w3 LA ln lc KA kn kc d 4 6 hat
    clear hat
    have hPz := H3.out.2.1
    go_wp2_with (first
      | (refine wpList_load_box rfl 33 _ rfl (w.heap.size) rfl 33 (dwC LA ln lc KA kn kc d) hPz _ Try.underlying33 rfl dwInfo (fun (_ : Hid _) => ?_))
      | fail)
    refine htl.mono ?_
    rintro x w5 ⟨rfl, hb5⟩
    clear htl hPz c1 f1
    have hs3 := H3.out.1.size
    have hQ5 : Blk w5 (w.heap.size + 1) 33 #[.slice none 0 0, .int .i64 0, .int .i64 0, .int .i64 0, .bool false, .int .i64 0, .int .i64 0, .slice none 0 0, .bool false, .int .i64 0, .int .i64 0, .int .i64 0] := H3.out.2.2.1.below hb5 (H3.out.2.2.1.lt)
    have H5 := Lib.hid (show Below w.heap.size w w5 from H3.out.1.trans (hb5.mono hs3))
    have hs5 := hb5.size
    clear hb5
    go_wp2_with (first
      | (refine wpList_store_box rfl 33 _ _ rfl (w.heap.size + 1) (dwC LA ln lc KA kn kc (toldD d 4 6)) rfl rfl 33 #[.slice none 0 0, .int .i64 0, .int .i64 0, .int .i64 0, .bool false, .int .i64 0, .int .i64 0, .slice none 0 0, .bool false, .int .i64 0, .int .i64 0, .int .i64 0] hQ5 dwInfo rfl dwOne ?_)
      | fail)
    intro w9 hB9 hg9
    have H9 := Lib.hid (show Below w.heap.size w w9 from H5.out.grown hg9 H5.out.size (fun b e => by injection e with e; omega))
    clear hg9 hQ5
    go_wp2_with fail
    refine bodyPost_ret (results_cell_tmp9 rfl _ _ (w.heap.size + 1) 33 _ (0, 0) _ rfl hB9 Try.underlying33 rfl dwInfo) rfl ?_
    have hle : leadE bs s = 6 := by unfold leadE; rw [if_neg (by rw [HID.out]; decide), if_neg (by rw [HID.out]; decide), if_pos HID.out, if_pos HSC.out]
    exact ⟨H9.out, .inr ⟨by rw [hle]; decide, by rw [hle] <;> rfl⟩⟩
  | false =>
    have hca : d.call = -1 := by rw [HR.out.2.2.2.2.1, hsc]; rfl
    have HSC := Lib.hid hsc
    clear hsc
    have c5 : w3.cell? ⟨w.heap.size, 5, none⟩ = some (.int .i64 (-1)) := by rw [← hca]; exact (H3.out.2.1.cell 5).trans rfl
    have f5 : w3.frozen? ⟨w.heap.size, 5, none⟩ = false := H3.out.2.1.frozen 5
    clear hca
    have c6 : w3.cell? ⟨w.heap.size, 6, none⟩ = some (.int .i64 d.nth) := (H3.out.2.1.cell 6).trans rfl
    have f6 := H3.out.2.1.frozen 6
    by_cases hts : 0 < tn
    · have hti : (0 : Int) < (tn : Int) := by omega
      obtain ⟨tad, rfl, htb, hx⟩ := i32_at (HD.out.2.1.reads (B := w.heap.size) (fun b h => h)) hts
      have hx0 := HG.out.2.2.2.2.1.2.2.1 (.inr (by rw [← HG.out.2.2.2.1]; exact HID.out)) (q.ts.getD 0 0) (by rw [← HD.out.1]; exact getD_mem (by rw [HTL.out]; exact hts))
      obtain ⟨x, hxd⟩ : ∃ x : Int, x = q.ts.getD 0 0 := ⟨_, rfl⟩
      rw [← hxd] at hx hx0
      have HXD := Lib.hid hxd
      clear hxd
      rw [show tad.add 0 = tad from rfl] at hx
      have hxw : w3.cell? tad = some (.int .i64 x) := (Below.cell (p := tad) (H3.out.1) htb).trans ((H0.out.1.cell (p := tad) htb).symm.trans hx)
      have hwx : IntKind.i64.wrap ((n : Int) + x) = (n : Int) + x := by rw [IntKind.wrap_i64]; have := HG.out.2.2.2.2.2.2; omega
      go_upto_region 29 with fail
      have hT2 : (((w3.setCell ⟨w.heap.size, 5, none⟩ (.int .i64 (n : Int))).setCell ⟨w.heap.size, 6, none⟩ (.int .i64 1))).cell? tad = some (.int .i64 x) := (World.cell?_of_block (a := tad) ((Below.heap_setCell _ _ _ _ (by show tad.block ≠ w.heap.size; omega)).trans (Below.heap_setCell _ _ _ _ (by show tad.block ≠ w.heap.size; omega)))).trans hxw
      have HZa := Lib.hid (show Below w.heap.size w (((w3.setCell ⟨w.heap.size, 5, none⟩ (.int .i64 (n : Int))).setCell ⟨w.heap.size, 6, none⟩ (.int .i64 1))) ∧ Blk (((w3.setCell ⟨w.heap.size, 5, none⟩ (.int .i64 (n : Int))).setCell ⟨w.heap.size, 6, none⟩ (.int .i64 1))) w.heap.size 33 (dwC LA ln lc KA kn kc { d with call := (n : Int), nth := 1 }) ∧ Blk (((w3.setCell ⟨w.heap.size, 5, none⟩ (.int .i64 (n : Int))).setCell ⟨w.heap.size, 6, none⟩ (.int .i64 1))) (w.heap.size + 1) 33 #[.slice none 0 0, .int .i64 0, .int .i64 0, .int .i64 0, .bool false, .int .i64 0, .int .i64 0, .slice none 0 0, .bool false, .int .i64 0, .int .i64 0, .int .i64 0] ∧ Blk (((w3.setCell ⟨w.heap.size, 5, none⟩ (.int .i64 (n : Int))).setCell ⟨w.heap.size, 6, none⟩ (.int .i64 1))) w0.heap.size 45 #[.int .i64 q.id, .int .i64 q.pz, v2, v3, v4, v5, v6, v7, .int .i64 q.ct, v9, v10, v11, v12, .slice (some tad) tn tc, .slice IA q.ns.length ic, v15, v16, v17] from ⟨((H3.out.1.setCell (by show w.heap.size ≤ w.heap.size; omega) _).setCell (by show w.heap.size ≤ w.heap.size; omega) _), ((H3.out.2.1.set_ 5 _).set_ 6 _), ((H3.out.2.2.1.far (by show w.heap.size + 1 ≠ w.heap.size; omega) _).far (by show w.heap.size + 1 ≠ w.heap.size; omega) _), ((H3.out.2.2.2.far (by show w0.heap.size ≠ w.heap.size; omega) _).far (by show w0.heap.size ≠ w.heap.size; omega) _)⟩)
      have p13z : (((w3.setCell ⟨w.heap.size, 5, none⟩ (.int .i64 (n : Int))).setCell ⟨w.heap.size, 6, none⟩ (.int .i64 1))).cell? ⟨w0.heap.size, 13, none⟩ = some (.slice (some tad) tn tc) := (HZa.out.2.2.2.cell 13).trans rfl
      have c1z : (((w3.setCell ⟨w.heap.size, 5, none⟩ (.int .i64 (n : Int))).setCell ⟨w.heap.size, 6, none⟩ (.int .i64 1))).cell? ⟨w.heap.size, 1, none⟩ = some (.int .i64 (n : Int)) := (HZa.out.2.1.cell 1).trans (by show some (Value.int .i64 d.at_) = some (Value.int .i64 (n : Int)); rw [HR.out.1])
      clear c1 f1 c5 f5 c6 f6 p13 p0 hxw hx
      generalize ((w3.setCell ⟨w.heap.size, 5, none⟩ (.int .i64 (n : Int))).setCell ⟨w.heap.size, 6, none⟩ (.int .i64 1)) = wa at *
      go_quiet (fail)
      have H3 := Lib.hid (show Below w.heap.size w (wa.drewN nq) ∧ Blk (wa.drewN nq) w.heap.size 33 (dwC LA ln lc KA kn kc { d with call := (n : Int), nth := 1 }) ∧ Blk (wa.drewN nq) (w.heap.size + 1) 33 #[.slice none 0 0, .int .i64 0, .int .i64 0, .int .i64 0, .bool false, .int .i64 0, .int .i64 0, .slice none 0 0, .bool false, .int .i64 0, .int .i64 0, .int .i64 0] ∧ True from ⟨HZa.out.1.drewK nq, HZa.out.2.1, HZa.out.2.2.1, trivial⟩)
      clear HZa hT2 p13z c1z
      generalize wa.drewN nq = wb at *
      have c1 : wb.cell? ⟨w.heap.size, 1, none⟩ = some (.int .i64 (n : Int)) := by rw [← HR.out.1]; exact (H3.out.2.1.cell 1).trans rfl
      have f1 : wb.frozen? ⟨w.heap.size, 1, none⟩ = false := H3.out.2.1.frozen 1
      go_upto_region 40 with fail
      have HZ := Lib.hid (show Blk ((wb.setCell ⟨w.heap.size, 1, none⟩ (.int .i64 ((n : Int) + x)))) w.heap.size 33 (dwC LA ln lc KA kn kc ({ d with call := (n : Int), nth := 1, at_ := (n : Int) + x })) ∧ Blk ((wb.setCell ⟨w.heap.size, 1, none⟩ (.int .i64 ((n : Int) + x)))) (w.heap.size + 1) 33 #[.slice none 0 0, .int .i64 0, .int .i64 0, .int .i64 0, .bool false, .int .i64 0, .int .i64 0, .slice none 0 0, .bool false, .int .i64 0, .int .i64 0, .int .i64 0] ∧ Below w.heap.size w ((wb.setCell ⟨w.heap.size, 1, none⟩ (.int .i64 ((n : Int) + x)))) from ⟨(H3.out.2.1.set_ 1 _), (H3.out.2.2.1.far (by show w.heap.size + 1 ≠ w.heap.size; omega) _), (H3.out.1.setCell (by show w.heap.size ≤ w.heap.size; omega) _)⟩)
      clear c1 f1
      generalize (wb.setCell ⟨w.heap.size, 1, none⟩ (.int .i64 ((n : Int) + x))) = wz at *
      have hPz := HZ.out.1
      have hQz := HZ.out.2.1
      go_wp2_with (first
        | (refine wpList_load_box rfl 33 _ rfl (w.heap.size) rfl 33 (dwC LA ln lc KA kn kc ({ d with call := (n : Int), nth := 1, at_ := (n : Int) + x })) hPz _ Try.underlying33 rfl dwInfo (fun (_ : Hid _) => ?_))
        | (refine wpList_store_box rfl 33 _ _ rfl (w.heap.size + 1) (dwC LA ln lc KA kn kc ({ d with call := (n : Int), nth := 1, at_ := (n : Int) + x })) rfl rfl 33 #[.slice none 0 0, .int .i64 0, .int .i64 0, .int .i64 0, .bool false, .int .i64 0, .int .i64 0, .slice none 0 0, .bool false, .int .i64 0, .int .i64 0, .int .i64 0] hQz dwInfo rfl dwOne ?_)
        | fail)
      intro w9 hB9 hg9
      have H9 := Lib.hid (show Below w.heap.size w w9 from (HZ.out.2.2).grown hg9 (HZ.out.2.2).size (fun b e => by injection e with e; omega))
      have HG9 := Lib.hid hg9
      clear hg9
      clear hPz hQz
      go_wp2_with fail
      refine bodyPost_ret (results_cell_tmp9 rfl _ _ (w.heap.size + 1) 33 _ (0, 0) _ rfl hB9 Try.underlying33 rfl dwInfo) rfl ?_
      have hle : leadE bs s = 0 := by unfold leadE; rw [if_neg (by rw [HID.out]; decide), if_neg (by rw [HID.out]; decide), if_pos HID.out, if_neg (by rw [HSC.out]; decide)]
      have hls : leadS bs s = { s with con := true, cfrom := (n : Int), cnext := 1, at_ := (n : Int) + x } := by
        unfold leadS; rw [if_neg (by rw [HID.out]; decide), if_neg (by rw [HID.out]; decide), if_neg (by rw [HID.out]; decide), if_pos HID.out, ← HQ0.out, if_pos (by rw [HTL.out]; exact hts), ← HXD.out, HG.out.2.2.1]
      have htk : (leadS bs s).tk = s.tk := by rw [hls]
      have hdr : DR (leadS bs s) { d with call := (n : Int), nth := 1, at_ := (n : Int) + x } := by
        rw [hls]
        exact ⟨rfl, HR.out.2.1, HR.out.2.2.1, HR.out.2.2.2.1, rfl, fun _ => rfl, HR.out.2.2.2.2.2.2.1, HR.out.2.2.2.2.2.2.2⟩
      refine ⟨H9.out, .inl ⟨hle, _, _, _, _, rfl, hdr, ?_⟩⟩
      rw [htk]
      exact HG.out.2.2.2.2.2.1.keep (fun b hb => H9.out.block b (HPH.out b hb)) (fun b hb => .inl hb)
    · have hti : ¬ (0 : Int) < (tn : Int) := by omega
      go_upto_region 40 with fail
      have HZ := Lib.hid (show Blk ((w3.setCell ⟨w.heap.size, 1, none⟩ (.int .i64 ((n : Int) + 1)))) w.heap.size 33 (dwC LA ln lc KA kn kc ({ d with at_ := (n : Int) + 1 })) ∧ Blk ((w3.setCell ⟨w.heap.size, 1, none⟩ (.int .i64 ((n : Int) + 1)))) (w.heap.size + 1) 33 #[.slice none 0 0, .int .i64 0, .int .i64 0, .int .i64 0, .bool false, .int .i64 0, .int .i64 0, .slice none 0 0, .bool false, .int .i64 0, .int .i64 0, .int .i64 0] ∧ Below w.heap.size w ((w3.setCell ⟨w.heap.size, 1, none⟩ (.int .i64 ((n : Int) + 1)))) from ⟨(H3.out.2.1.set_ 1 _), (H3.out.2.2.1.far (by show w.heap.size + 1 ≠ w.heap.size; omega) _), (H3.out.1.setCell (by show w.heap.size ≤ w.heap.size; omega) _)⟩)
      clear c1 f1 c5 f5 c6 f6 p13
      generalize (w3.setCell ⟨w.heap.size, 1, none⟩ (.int .i64 ((n : Int) + 1))) = wz at *
      have hPz := HZ.out.1
      have hQz := HZ.out.2.1
      go_wp2_with (first
        | (refine wpList_load_box rfl 33 _ rfl (w.heap.size) rfl 33 (dwC LA ln lc KA kn kc ({ d with at_ := (n : Int) + 1 })) hPz _ Try.underlying33 rfl dwInfo (fun (_ : Hid _) => ?_))
        | (refine wpList_store_box rfl 33 _ _ rfl (w.heap.size + 1) (dwC LA ln lc KA kn kc ({ d with at_ := (n : Int) + 1 })) rfl rfl 33 #[.slice none 0 0, .int .i64 0, .int .i64 0, .int .i64 0, .bool false, .int .i64 0, .int .i64 0, .slice none 0 0, .bool false, .int .i64 0, .int .i64 0, .int .i64 0] hQz dwInfo rfl dwOne ?_)
        | fail)
      intro w9 hB9 hg9
      have H9 := Lib.hid (show Below w.heap.size w w9 from (HZ.out.2.2).grown hg9 (HZ.out.2.2).size (fun b e => by injection e with e; omega))
      have HG9 := Lib.hid hg9
      clear hg9
      clear hPz hQz
      go_wp2_with fail
      refine bodyPost_ret (results_cell_tmp9 rfl _ _ (w.heap.size + 1) 33 _ (0, 0) _ rfl hB9 Try.underlying33 rfl dwInfo) rfl ?_
      have hle : leadE bs s = 0 := by unfold leadE; rw [if_neg (by rw [HID.out]; decide), if_neg (by rw [HID.out]; decide), if_pos HID.out, if_neg (by rw [HSC.out]; decide)]
      have hls : leadS bs s = { s with at_ := (n : Int) + 1 } := by
        unfold leadS; rw [if_neg (by rw [HID.out]; decide), if_neg (by rw [HID.out]; decide), if_neg (by rw [HID.out]; decide), if_pos HID.out, ← HQ0.out, if_neg (by rw [HTL.out]; exact hts), HG.out.2.2.1]
      have htk : (leadS bs s).tk = s.tk := by rw [hls]
      have hdr : DR (leadS bs s) { d with at_ := (n : Int) + 1 } := by
        rw [hls]
        exact ⟨rfl, HR.out.2.1, HR.out.2.2.1, HR.out.2.2.2.1, HR.out.2.2.2.2.1, HR.out.2.2.2.2.2.1, HR.out.2.2.2.2.2.2.1, HR.out.2.2.2.2.2.2.2⟩
      refine ⟨H9.out, .inl ⟨hle, _, _, _, _, rfl, hdr, ?_⟩⟩
      rw [htk]
      exact HG.out.2.2.2.2.2.1.keep (fun b hb => H9.out.block b (HPH.out b hb)) (fun b hb => .inl hb)

set_option maxRecDepth 100000 in
set_option maxHeartbeats 8000000 in
theorem silent39 (w : World) (LA : Option Addr) (ln lc : Nat) (KA : Option Addr) (kn kc : Nat) (bs : List WB) (s : WS) (d : DW) (hR : DR s d) (hok : s.ok bs) (hf : Fine bs) (hlt : s.at_ < bs.length) (hB : BlksR w (· < w.heap.size) LA ln bs) (φ : Nat → Prop) (hφ : ∀ b, φ b → b < w.heap.size) (hT : RdP w φ 1 KA kn (s.tk.reverse.map (Value.int .i64))) (hid : (atB bs s.at_).id = 39) :
    Calls Try.prog 23 #[.agg (dwC LA ln lc KA kn kc d)] w fun x w' => SilO w w' x LA ln lc KA kn kc bs s d φ := by
  obtain ⟨n, hn⟩ : ∃ n : Nat, s.at_ = (n : Int) := ⟨s.at_.toNat, by have := hok.1; omega⟩
  have hln := hB.len
  have hl60 : ln ≤ 60 := by have := hf.1; omega
  have hnl : n < ln := by omega
  have hdn : atB bs s.at_ = bs.getD n default := by rw [hn]; rfl
  have hfn := hf.2 n (by omega)
  have hkl : kn ≤ 60 := by have := hok.2.2.2.2.2.2; have := reads_len (hT.reads (B := w.heap.size) hφ); simp at this; omega
  obtain ⟨r1, r2, r3, r4, r5, r6, r7, r8⟩ := hR
  rw [hn] at r1
  have hwn : IntKind.i64.wrap ((n : Int) + 1) = (n : Int) + 1 := by rw [IntKind.wrap_i64]; omega
  have hn0 : (0 : Int) ≤ (n : Int) := Int.natCast_nonneg _
  have hnI : (n : Int) < (ln : Int) := by omega
  have HR := Lib.hid (And.intro r1 (And.intro r2 (And.intro r3 (And.intro r4 (And.intro r5 (And.intro r6 (And.intro r7 r8)))))))
  have HG := Lib.hid (And.intro hok (And.intro hf (And.intro hn (And.intro hdn (And.intro hfn (And.intro hT hln))))))
  have HID := Lib.hid hid
  have HBk := Lib.hid hB
  have HPH := Lib.hid hφ
  clear hφ r1 r2 r3 r4 r5 r6 r7 r8 hok hf hn hdn hfn hT hln hid hlt hB
  have hb2 : Below w.heap.size w ((w.alloc (.cells (dwC LA ln lc KA kn kc d) 33)).alloc (.cells #[.slice none 0 0, .int .i64 0, .int .i64 0, .int .i64 0, .bool false, .int .i64 0, .int .i64 0, .slice none 0 0, .bool false, .int .i64 0, .int .i64 0, .int .i64 0] 33)) := ((Below.refl _ _).alloc (Nat.le_refl _) _).alloc (by simp) _
  have hP : Blk ((w.alloc (.cells (dwC LA ln lc KA kn kc d) 33)).alloc (.cells #[.slice none 0 0, .int .i64 0, .int .i64 0, .int .i64 0, .bool false, .int .i64 0, .int .i64 0, .slice none 0 0, .bool false, .int .i64 0, .int .i64 0, .int .i64 0] 33)) w.heap.size 33 (dwC LA ln lc KA kn kc d) := (Blk.new w _ _).alloc _
  have hQ : Blk ((w.alloc (.cells (dwC LA ln lc KA kn kc d) 33)).alloc (.cells #[.slice none 0 0, .int .i64 0, .int .i64 0, .int .i64 0, .bool false, .int .i64 0, .int .i64 0, .slice none 0 0, .bool false, .int .i64 0, .int .i64 0, .int .i64 0] 33)) (w.heap.size + 1) 33 #[.slice none 0 0, .int .i64 0, .int .i64 0, .int .i64 0, .bool false, .int .i64 0, .int .i64 0, .slice none 0 0, .bool false, .int .i64 0, .int .i64 0, .int .i64 0] := by
    have := Blk.new (w.alloc (.cells (dwC LA ln lc KA kn kc d) 33)) 33 #[.slice none 0 0, .int .i64 0, .int .i64 0, .int .i64 0, .bool false, .int .i64 0, .int .i64 0, .slice none 0 0, .bool false, .int .i64 0, .int .i64 0, .int .i64 0]
    simpa using this
  have H0 := Lib.hid (And.intro hb2 (And.intro hP hQ))
  clear hb2 hP hQ
  go_enter Try.func23, Try.ntmps23
  go_upto_region 1 with fail
  generalize ((w.alloc (.cells (dwC LA ln lc KA kn kc d) 33)).alloc (.cells #[.slice none 0 0, .int .i64 0, .int .i64 0, .int .i64 0, .bool false, .int .i64 0, .int .i64 0, .slice none 0 0, .bool false, .int .i64 0, .int .i64 0, .int .i64 0] 33)) = w0 at *
  have hs0 := H0.out.1.size
  have hql := H0.out.2.2.lt
  have c0 : w0.cell? ⟨w.heap.size, 0, none⟩ = some (.slice LA ln lc) := (H0.out.2.1.cell 0).trans rfl
  have c1 : w0.cell? ⟨w.heap.size, 1, none⟩ = some (.int .i64 (n : Int)) := by rw [← HR.out.1]; exact (H0.out.2.1.cell 1).trans rfl
  have hBr := HBk.out.keep (w' := w0) (ψ := (· < w.heap.size)) (fun b hb => H0.out.1.block b hb) (fun b hb => hb)
  obtain ⟨ad, hLA, hab, cs, hWB, hc18⟩ := hBr.at_ (i := n) hnl
  obtain ⟨q, hq⟩ : ∃ q, q = bs.getD n default := ⟨_, rfl⟩
  rw [← hq] at hWB
  obtain ⟨v2, v3, v4, v5, v6, v7, v9, v10, v11, v12, TA, tn, tc, IA, ic, v15, v16, v17, rfl, h1c, hTs, hIs⟩ := hWB
  have X0 := Lib.hid (show ∀ jj vv, ([.int .i64 q.id, .int .i64 q.pz, v2, v3, v4, v5, v6, v7, .int .i64 q.ct, v9, v10, v11, v12, .slice TA tn tc, .slice IA q.ns.length ic, v15, v16, v17] : List Value)[jj]? = some vv → w0.cell? ((ad.add (n * 18)).add jj) = some vv from hc18)
  have X1 := Lib.hid (show (#[.int .i64 q.id, .int .i64 q.pz, v2, v3, v4, v5, v6, v7, .int .i64 q.ct, v9, v10, v11, v12, .slice TA tn tc, .slice IA q.ns.length ic, v15, v16, v17] : Array Value).all (·.oneCell') = true from all_one h1c)
  have HD := Lib.hid (And.intro hq (And.intro hTs hIs))
  clear hc18 h1c hq hTs hIs
  rw [hLA] at c0
  have HLA := Lib.hid hLA
  clear hLA
  have hqid := HD.out.1
  rw [← HG.out.2.2.2.1] at hqid
  have HQ0 := Lib.hid hqid
  clear hqid hBr
  go_upto_region 2 with (first
    | (refine wpList_load_at rfl 45 _ rfl (ad.add (n * 18)) rfl [.int .i64 q.id, .int .i64 q.pz, v2, v3, v4, v5, v6, v7, .int .i64 q.ct, v9, v10, v11, v12, .slice TA tn tc, .slice IA q.ns.length ic, v15, v16, v17] X0.out _ Try.underlying45 rfl blkInfo ?_)
    | (refine wpList_store_box rfl 45 _ _ rfl (w0.heap.size) #[.int .i64 q.id, .int .i64 q.pz, v2, v3, v4, v5, v6, v7, .int .i64 q.ct, v9, v10, v11, v12, .slice TA tn tc, .slice IA q.ns.length ic, v15, v16, v17] rfl rfl 45 #[.int .i64 0, .int .i64 0, .int .i64 0, .int .i64 0, .int .i64 0, .int .i64 0, .int .i64 0, .int .i64 0, .int .i64 0, .int .i64 0, .int .i64 0, .int .i64 0, .slice none 0 0, .slice none 0 0, .slice none 0 0, .slice none 0 0, .slice none 0 0, .slice none 0 0] (Blk.new w0 _ _) blkInfo rfl X1.out ?_)
    | fail)
  intro w3 hB3 hg3
  have hb3 : Below w0.heap.size w0 w3 := ((Below.refl _ _).alloc (Nat.le_refl _) _).grown hg3 (by simp) (fun b e => by injection e with e; omega)
  have hsz3 := hb3.size
  have H3 := Lib.hid (show Below w.heap.size w w3 ∧ Blk w3 w.heap.size 33 (dwC LA ln lc KA kn kc d) ∧ Blk w3 (w.heap.size + 1) 33 #[.slice none 0 0, .int .i64 0, .int .i64 0, .int .i64 0, .bool false, .int .i64 0, .int .i64 0, .slice none 0 0, .bool false, .int .i64 0, .int .i64 0, .int .i64 0] ∧ Blk w3 w0.heap.size 45 #[.int .i64 q.id, .int .i64 q.pz, v2, v3, v4, v5, v6, v7, .int .i64 q.ct, v9, v10, v11, v12, .slice TA tn tc, .slice IA q.ns.length ic, v15, v16, v17] from ⟨H0.out.1.trans (hb3.mono hs0), H0.out.2.1.below hb3 H0.out.2.1.lt, H0.out.2.2.below hb3 hql, hB3⟩)
  have hg0l := hB3.lt
  clear c0 c1 hB3 hg3 hb3 X0 X1
  have p0 : w3.cell? ⟨w0.heap.size, 0, none⟩ = some (.int .i64 39) := by rw [← HID.out, ← HQ0.out]; exact (H3.out.2.2.2.cell 0).trans rfl
  have c1 : w3.cell? ⟨w.heap.size, 1, none⟩ = some (.int .i64 (n : Int)) := by rw [← HR.out.1]; exact (H3.out.2.1.cell 1).trans rfl
  have f1 : w3.frozen? ⟨w.heap.size, 1, none⟩ = false := H3.out.2.1.frozen 1
  cases hsc : s.con with
  | false =>
    have hca : d.call = -1 := by rw [HR.out.2.2.2.2.1, hsc]; rfl
    have HSC := Lib.hid hsc
    clear hsc
    have c5 : w3.cell? ⟨w.heap.size, 5, none⟩ = some (.int .i64 (-1)) := by rw [← hca]; exact (H3.out.2.1.cell 5).trans rfl
    have f5 : w3.frozen? ⟨w.heap.size, 5, none⟩ = false := H3.out.2.1.frozen 5
    clear f5 hca
    have hat : 0 ≤ d.at_ ∧ d.at_ ≤ 60 := by have := HR.out.1; omega
    have htl := told_any w3 LA ln lc KA kn kc d 4 9 hat
    clear hat
    have hPz := H3.out.2.1
    go_wp2_with (first
      | (refine wpList_load_box rfl 33 _ rfl (w.heap.size) rfl 33 (dwC LA ln lc KA kn kc d) hPz _ Try.underlying33 rfl dwInfo (fun (_ : Hid _) => ?_))
      | fail)
    refine htl.mono ?_
    rintro x w5 ⟨rfl, hb5⟩
    clear htl hPz c1 f1
    have hs3 := H3.out.1.size
    have hQ5 : Blk w5 (w.heap.size + 1) 33 #[.slice none 0 0, .int .i64 0, .int .i64 0, .int .i64 0, .bool false, .int .i64 0, .int .i64 0, .slice none 0 0, .bool false, .int .i64 0, .int .i64 0, .int .i64 0] := H3.out.2.2.1.below hb5 (H3.out.2.2.1.lt)
    have H5 := Lib.hid (show Below w.heap.size w w5 from H3.out.1.trans (hb5.mono hs3))
    have hs5 := hb5.size
    clear hb5
    go_wp2_with (first
      | (refine wpList_store_box rfl 33 _ _ rfl (w.heap.size + 1) (dwC LA ln lc KA kn kc (toldD d 4 9)) rfl rfl 33 #[.slice none 0 0, .int .i64 0, .int .i64 0, .int .i64 0, .bool false, .int .i64 0, .int .i64 0, .slice none 0 0, .bool false, .int .i64 0, .int .i64 0, .int .i64 0] hQ5 dwInfo rfl dwOne ?_)
      | fail)
    intro w9 hB9 hg9
    have H9 := Lib.hid (show Below w.heap.size w w9 from H5.out.grown hg9 H5.out.size (fun b e => by injection e with e; omega))
    clear hg9 hQ5
    go_wp2_with fail
    refine bodyPost_ret (results_cell_tmp9 rfl _ _ (w.heap.size + 1) 33 _ (0, 0) _ rfl hB9 Try.underlying33 rfl dwInfo) rfl ?_
    have hle : leadE bs s = 9 := by unfold leadE; rw [if_neg (by rw [HID.out]; decide), if_neg (by rw [HID.out]; decide), if_neg (by rw [HID.out]; decide), if_pos HID.out, if_pos HSC.out]
    exact ⟨H9.out, .inr ⟨by rw [hle]; decide, by rw [hle] <;> rfl⟩⟩
  | true =>
    obtain ⟨k0, k1, k2, k3, k4⟩ := HG.out.1.2.2.2.1 hsc
    obtain ⟨m, hm⟩ : ∃ m : Nat, s.cfrom = (m : Int) := ⟨s.cfrom.toNat, by omega⟩
    have hnt := HR.out.2.2.2.2.2.1 hsc
    obtain ⟨j, hj⟩ : ∃ j : Nat, s.cnext = (j : Int) := ⟨s.cnext.toNat, by omega⟩
    rw [hj] at hnt
    have hca : d.call = (m : Int) := by rw [HR.out.2.2.2.2.1, hsc, ← hm]; rfl
    have hml : m < ln := by have := HG.out.2.2.2.2.2.2; omega
    have hat : atB bs s.cfrom = bs.getD m default := by rw [hm]; rfl
    have HSC := Lib.hid hsc
    have c5 : w3.cell? ⟨w.heap.size, 5, none⟩ = some (.int .i64 (m : Int)) := by rw [← hca]; exact (H3.out.2.1.cell 5).trans rfl
    have f5 : w3.frozen? ⟨w.heap.size, 5, none⟩ = false := H3.out.2.1.frozen 5
    have c6 : w3.cell? ⟨w.heap.size, 6, none⟩ = some (.int .i64 (j : Int)) := by rw [← hnt]; exact (H3.out.2.1.cell 6).trans rfl
    have f6 : w3.frozen? ⟨w.heap.size, 6, none⟩ = false := H3.out.2.1.frozen 6
    have c0 : w3.cell? ⟨w.heap.size, 0, none⟩ = some (.slice (some ad) ln lc) := by rw [← HLA.out]; exact (H3.out.2.1.cell 0).trans rfl
    obtain ⟨ad2, hae, hab2, cs2, hWB2, hc2⟩ := (HBk.out.keep (w' := w3) (ψ := (· < w.heap.size)) (fun b hb => H3.out.1.block b hb) (fun b hb => hb)).at_ (i := m) hml
    rw [HLA.out] at hae
    injection hae with hae
    subst hae
    obtain ⟨fm1, _, fm3, _⟩ := HG.out.2.1.2 m (by have := HG.out.2.2.2.2.2.2; omega)
    rw [hat] at k3 k4
    obtain ⟨r, hr⟩ : ∃ r, r = bs.getD m default := ⟨_, rfl⟩
    rw [← hr] at hWB2 fm1 fm3 k3 k4 hat
    obtain ⟨v2', v3', v4', v5', v6', v7', v9', v10', v11', v12', RA, rn, rc, IA', ic', v15', v16', v17', hcs2, _, hRs, _⟩ := hWB2
    subst hcs2
    have p13m : w3.cell? ⟨(ad.add (m * 18)).block, (ad.add (m * 18)).off + 13, none⟩ = some (.slice RA rn rc) := by
      have := hc2 13 (.slice RA rn rc) rfl
      rw [show (ad.add (m * 18)).add 13 = ⟨(ad.add (m * 18)).block, (ad.add (m * 18)).off + 13, none⟩ from by unfold Addr.add; rw [if_neg (by decide)]] at this
      exact this
    have hrl : r.ts.length = rn := reads_len (hRs.reads (B := w.heap.size) (fun b h => h))
    have hj0 : (0 : Int) ≤ (j : Int) := Int.natCast_nonneg _
    have hm0 : (0 : Int) ≤ (m : Int) := Int.natCast_nonneg _
    have hmI : (m : Int) < (ln : Int) := by omega
    have hrn60 : rn ≤ 60 := by omega
    have hjr : j ≤ rn := by omega
    have hwj : IntKind.i64.wrap ((j : Int) + 1) = (j : Int) + 1 := by rw [IntKind.wrap_i64]; omega
    have hwm : IntKind.i64.wrap ((m : Int) + 1) = (m : Int) + 1 := by rw [IntKind.wrap_i64]; omega
    have HM := Lib.hid (And.intro hm (And.intro hj (And.intro hat (And.intro hrl hr))))
    have HRs := Lib.hid hRs
    have HCN := Lib.hid (And.intro hca hnt)
    clear hm hj hat hrl hr hRs hc2 hca hnt hsc k0 k1 k2 k3
    by_cases hjr2 : j < rn
    · have hjI : (j : Int) < (rn : Int) := by omega
      obtain ⟨rad, rfl, hrb, hx⟩ := i32_at (HRs.out.reads (B := w.heap.size) (fun b h => h)) hjr2
      have hx0 := fm3 (.inr k4) (r.ts.getD j 0) (getD_mem (by rw [HM.out.2.2.2.1]; exact hjr2))
      obtain ⟨x, hxd⟩ : ∃ x : Int, x = r.ts.getD j 0 := ⟨_, rfl⟩
      rw [← hxd] at hx hx0
      have HXD := Lib.hid hxd
      clear hxd fm3 k4 fm1
      have hwx : IntKind.i64.wrap ((m : Int) + x) = (m : Int) + x := by rw [IntKind.wrap_i64]; have := HG.out.2.2.2.2.2.2; omega
      go_upto_region 35 with fail
      clear c0 p13m p0
      go_quiet (fail)
      have H4 := Lib.hid (show Below w.heap.size w (w3.drewN nq) ∧ Blk (w3.drewN nq) w.heap.size 33 (dwC LA ln lc KA kn kc d) ∧ Blk (w3.drewN nq) (w.heap.size + 1) 33 #[.slice none 0 0, .int .i64 0, .int .i64 0, .int .i64 0, .bool false, .int .i64 0, .int .i64 0, .slice none 0 0, .bool false, .int .i64 0, .int .i64 0, .int .i64 0] ∧ True from ⟨H3.out.1.drewK nq, H3.out.2.1, H3.out.2.2.1, trivial⟩)
      clear c1 f1 c5 f5 c6 f6 hx
      generalize w3.drewN nq = wb at *
      have c1 : wb.cell? ⟨w.heap.size, 1, none⟩ = some (.int .i64 (n : Int)) := by rw [← HR.out.1]; exact (H4.out.2.1.cell 1).trans rfl
      have f1 : wb.frozen? ⟨w.heap.size, 1, none⟩ = false := H4.out.2.1.frozen 1
      have c6 : wb.cell? ⟨w.heap.size, 6, none⟩ = some (.int .i64 (j : Int)) := by rw [← HCN.out.2]; exact (H4.out.2.1.cell 6).trans rfl
      have f6 : wb.frozen? ⟨w.heap.size, 6, none⟩ = false := H4.out.2.1.frozen 6
      go_upto_region 40 with fail
      have HZ := Lib.hid (show Blk (((wb.setCell ⟨w.heap.size, 6, none⟩ (.int .i64 ((j : Int) + 1))).setCell ⟨w.heap.size, 1, none⟩ (.int .i64 ((m : Int) + x)))) w.heap.size 33 (dwC LA ln lc KA kn kc ({ d with nth := (j : Int) + 1, at_ := (m : Int) + x })) ∧ Blk (((wb.setCell ⟨w.heap.size, 6, none⟩ (.int .i64 ((j : Int) + 1))).setCell ⟨w.heap.size, 1, none⟩ (.int .i64 ((m : Int) + x)))) (w.heap.size + 1) 33 #[.slice none 0 0, .int .i64 0, .int .i64 0, .int .i64 0, .bool false, .int .i64 0, .int .i64 0, .slice none 0 0, .bool false, .int .i64 0, .int .i64 0, .int .i64 0] ∧ Below w.heap.size w (((wb.setCell ⟨w.heap.size, 6, none⟩ (.int .i64 ((j : Int) + 1))).setCell ⟨w.heap.size, 1, none⟩ (.int .i64 ((m : Int) + x)))) from ⟨((H4.out.2.1.set_ 6 _).set_ 1 _), ((H4.out.2.2.1.far (by show w.heap.size + 1 ≠ w.heap.size; omega) _).far (by show w.heap.size + 1 ≠ w.heap.size; omega) _), ((H4.out.1.setCell (by show w.heap.size ≤ w.heap.size; omega) _).setCell (by show w.heap.size ≤ w.heap.size; omega) _)⟩)
      clear c1 f1 c6 f6
      generalize ((wb.setCell ⟨w.heap.size, 6, none⟩ (.int .i64 ((j : Int) + 1))).setCell ⟨w.heap.size, 1, none⟩ (.int .i64 ((m : Int) + x))) = wz at *
      have hPz := HZ.out.1
      have hQz := HZ.out.2.1
      go_wp2_with (first
        | (refine wpList_load_box rfl 33 _ rfl (w.heap.size) rfl 33 (dwC LA ln lc KA kn kc ({ d with nth := (j : Int) + 1, at_ := (m : Int) + x })) hPz _ Try.underlying33 rfl dwInfo (fun (_ : Hid _) => ?_))
        | (refine wpList_store_box rfl 33 _ _ rfl (w.heap.size + 1) (dwC LA ln lc KA kn kc ({ d with nth := (j : Int) + 1, at_ := (m : Int) + x })) rfl rfl 33 #[.slice none 0 0, .int .i64 0, .int .i64 0, .int .i64 0, .bool false, .int .i64 0, .int .i64 0, .slice none 0 0, .bool false, .int .i64 0, .int .i64 0, .int .i64 0] hQz dwInfo rfl dwOne ?_)
        | fail)
      intro w9 hB9 hg9
      have H9 := Lib.hid (show Below w.heap.size w w9 from (HZ.out.2.2).grown hg9 (HZ.out.2.2).size (fun b e => by injection e with e; omega))
      have HG9 := Lib.hid hg9
      clear hg9
      clear hPz hQz
      go_wp2_with fail
      refine bodyPost_ret (results_cell_tmp9 rfl _ _ (w.heap.size + 1) 33 _ (0, 0) _ rfl hB9 Try.underlying33 rfl dwInfo) rfl ?_
      have hle : leadE bs s = 0 := by unfold leadE; rw [if_neg (by rw [HID.out]; decide), if_neg (by rw [HID.out]; decide), if_neg (by rw [HID.out]; decide), if_pos HID.out, if_neg (by rw [HSC.out]; decide)]
      have hls : leadS bs s = { s with cnext := (j : Int) + 1, at_ := (m : Int) + x } := by
        unfold leadS; rw [if_neg (by rw [HID.out]; decide), if_neg (by rw [HID.out]; decide), if_neg (by rw [HID.out]; decide), if_neg (by rw [HID.out]; decide), if_pos HID.out, HM.out.2.2.1, if_pos (by rw [HM.out.2.1, HM.out.2.2.2.1]; omega), HM.out.1, HM.out.2.1, Int.toNat_natCast, ← HXD.out]
      have htk : (leadS bs s).tk = s.tk := by rw [hls]
      have hdr : DR (leadS bs s) { d with nth := (j : Int) + 1, at_ := (m : Int) + x } := by
        rw [hls]
        exact ⟨rfl, HR.out.2.1, HR.out.2.2.1, HR.out.2.2.2.1, HR.out.2.2.2.2.1, fun _ => rfl, HR.out.2.2.2.2.2.2.1, HR.out.2.2.2.2.2.2.2⟩
      refine ⟨H9.out, .inl ⟨hle, _, _, _, _, rfl, hdr, ?_⟩⟩
      rw [htk]
      exact HG.out.2.2.2.2.2.1.keep (fun b hb => H9.out.block b (HPH.out b hb)) (fun b hb => .inl hb)
    · have hjI : ¬ (j : Int) < (rn : Int) := by omega
      clear fm1 fm3 k4
      go_upto_region 40 with fail
      have HZ := Lib.hid (show Blk (((w3.setCell ⟨w.heap.size, 5, none⟩ (.int .i64 (-1))).setCell ⟨w.heap.size, 1, none⟩ (.int .i64 ((m : Int) + 1)))) w.heap.size 33 (dwC LA ln lc KA kn kc ({ d with call := -1, at_ := (m : Int) + 1 })) ∧ Blk (((w3.setCell ⟨w.heap.size, 5, none⟩ (.int .i64 (-1))).setCell ⟨w.heap.size, 1, none⟩ (.int .i64 ((m : Int) + 1)))) (w.heap.size + 1) 33 #[.slice none 0 0, .int .i64 0, .int .i64 0, .int .i64 0, .bool false, .int .i64 0, .int .i64 0, .slice none 0 0, .bool false, .int .i64 0, .int .i64 0, .int .i64 0] ∧ Below w.heap.size w (((w3.setCell ⟨w.heap.size, 5, none⟩ (.int .i64 (-1))).setCell ⟨w.heap.size, 1, none⟩ (.int .i64 ((m : Int) + 1)))) from ⟨((H3.out.2.1.set_ 5 _).set_ 1 _), ((H3.out.2.2.1.far (by show w.heap.size + 1 ≠ w.heap.size; omega) _).far (by show w.heap.size + 1 ≠ w.heap.size; omega) _), ((H3.out.1.setCell (by show w.heap.size ≤ w.heap.size; omega) _).setCell (by show w.heap.size ≤ w.heap.size; omega) _)⟩)
      clear c1 f1 c5 f5 c6 f6 c0 p13m
      generalize ((w3.setCell ⟨w.heap.size, 5, none⟩ (.int .i64 (-1))).setCell ⟨w.heap.size, 1, none⟩ (.int .i64 ((m : Int) + 1))) = wz at *
      have hPz := HZ.out.1
      have hQz := HZ.out.2.1
      go_wp2_with (first
        | (refine wpList_load_box rfl 33 _ rfl (w.heap.size) rfl 33 (dwC LA ln lc KA kn kc ({ d with call := -1, at_ := (m : Int) + 1 })) hPz _ Try.underlying33 rfl dwInfo (fun (_ : Hid _) => ?_))
        | (refine wpList_store_box rfl 33 _ _ rfl (w.heap.size + 1) (dwC LA ln lc KA kn kc ({ d with call := -1, at_ := (m : Int) + 1 })) rfl rfl 33 #[.slice none 0 0, .int .i64 0, .int .i64 0, .int .i64 0, .bool false, .int .i64 0, .int .i64 0, .slice none 0 0, .bool false, .int .i64 0, .int .i64 0, .int .i64 0] hQz dwInfo rfl dwOne ?_)
        | fail)
      intro w9 hB9 hg9
      have H9 := Lib.hid (show Below w.heap.size w w9 from (HZ.out.2.2).grown hg9 (HZ.out.2.2).size (fun b e => by injection e with e; omega))
      have HG9 := Lib.hid hg9
      clear hg9
      clear hPz hQz
      go_wp2_with fail
      refine bodyPost_ret (results_cell_tmp9 rfl _ _ (w.heap.size + 1) 33 _ (0, 0) _ rfl hB9 Try.underlying33 rfl dwInfo) rfl ?_
      have hle : leadE bs s = 0 := by unfold leadE; rw [if_neg (by rw [HID.out]; decide), if_neg (by rw [HID.out]; decide), if_neg (by rw [HID.out]; decide), if_pos HID.out, if_neg (by rw [HSC.out]; decide)]
      have hls : leadS bs s = { s with con := false, cfrom := 0, cnext := 0, at_ := (m : Int) + 1 } := by
        unfold leadS; rw [if_neg (by rw [HID.out]; decide), if_neg (by rw [HID.out]; decide), if_neg (by rw [HID.out]; decide), if_neg (by rw [HID.out]; decide), if_pos HID.out, HM.out.2.2.1, if_neg (by rw [HM.out.2.1, HM.out.2.2.2.1]; omega), HM.out.1]
      have htk : (leadS bs s).tk = s.tk := by rw [hls]
      have hdr : DR (leadS bs s) { d with call := -1, at_ := (m : Int) + 1 } := by
        rw [hls]
        exact ⟨rfl, HR.out.2.1, HR.out.2.2.1, HR.out.2.2.2.1, rfl, fun h => absurd h (by simp), HR.out.2.2.2.2.2.2.1, HR.out.2.2.2.2.2.2.2⟩
      refine ⟨H9.out, .inl ⟨hle, _, _, _, _, rfl, hdr, ?_⟩⟩
      rw [htk]
      exact HG.out.2.2.2.2.2.1.keep (fun b hb => H9.out.block b (HPH.out b hb)) (fun b hb => .inl hb)
end Go.Proofs.Ytnmapncgnceldaa
