/- Part 5 of the proof: lemmas on what the program computes; no condition. -/
import Derived.Shelf.SlMaps.Clone
import Derived.Test.YtnlaedfnifimkaaGreatJ4
import Derived.Test.YtnlaedfnifimkaaGreatJ3
set_option linter.unusedVariables false
set_option linter.unusedSimpArgs false
set_option linter.unusedSectionVars false
namespace Go.Proofs.YtnlaedfnifimkaaGreat
open Go.RowKit Go.Joins
namespace Tl
def PrsP (w : World) (B1 p g : Nat) (VB VS : Value) : Nat → Prop := fun b => B1 ≤ b ∧ b < w.heap.size ∧ b ≠ p ∧ b ≠ g ∧ VB.ownBlock ≠ some b ∧ VS.ownBlock ≠ some b
structure PrsAt (w : World) (B0 B1 p g : Nat) (A : Option Addr) (N c q : Nat) (dl : List BD) (VB VS : Value) : Prop where
  box : PBox w p g VB VS
  rd : Rd w g A N c q none
  row : ∃ xs, w.ownsRow B0 34 18 VB dl.length xs ∧ BlksAt w (PrsP w B1 p g VB VS) dl xs
  starts : ∃ ss : List Int, w.ownsRow B0 3 1 VS dl.length (ss.map (Value.int .i64))
  pu : B0 ≤ p
  gu : B0 ≤ g
structure R4 (W w : World) (B0 : Nat) (VB VS VB' VS' : Value) (n1 n2 : Nat) (xs ss : List Value) : Prop where
  os : w.os = W.os
  tape : w.tape = W.tape
  output : w.output = W.output
  size : W.heap.size ≤ w.heap.size
  keep : ∀ k, k < W.heap.size → VB.ownBlock ≠ some k → VS.ownBlock ≠ some k → w.heap[k]? = W.heap[k]?
  own1 : w.ownsRow B0 34 18 VB' n1 xs
  own2 : w.ownsRow B0 3 1 VS' n2 ss
  mv1 : VB'.ownBlock = VB.ownBlock ∨ ∃ g, W.heap.size ≤ g ∧ VB'.ownBlock = some g
  mv2 : VS'.ownBlock = VS.ownBlock ∨ ∃ g, W.heap.size ≤ g ∧ VS'.ownBlock = some g
section
variable {W w w' : World} {B0 n1 n2 g : Nat} {VB VS VB' VS' : Value} {xs ss : List Value}
theorem R4.start (h1 : W.ownsRow B0 34 18 VB n1 xs) (h2 : W.ownsRow B0 3 1 VS n2 ss) : R4 W W B0 VB VS VB VS n1 n2 xs ss := ⟨rfl, rfl, rfl, Nat.le_refl _, fun _ _ _ _ => rfl, h1, h2, .inl rfl, .inl rfl⟩
theorem R4.alloc (h : R4 W w B0 VB VS VB' VS' n1 n2 xs ss) (o : Obj) : R4 W (w.alloc o) B0 VB VS VB' VS' n1 n2 xs ss :=
  ⟨h.os, h.tape, h.output, by have := h.size; simp; omega, fun k hk a b => (Below.heap_alloc w o k (Nat.lt_of_lt_of_le hk h.size)).trans (h.keep k hk a b), h.own1.alloc o, h.own2.alloc o, h.mv1, h.mv2⟩
theorem R4.app1 {m : Nat} {V9 : Value} {ys : List Value} (h : R4 W w B0 VB VS VB' VS' n1 n2 xs ss) (own : w'.ownsRow B0 34 18 V9 m ys) (hg : w.grownBy w' VB'.ownBlock) (hv : V9.ownBlock = VB'.ownBlock ∨ V9.ownBlock = some w.heap.size) : R4 W w' B0 VB VS V9 VS' m n2 ys ss := by
  have hs := hg.size
  have hs2 := h.size
  refine ⟨hg.os.trans h.os, hg.tape.trans h.tape, hg.output.trans h.output, by omega, fun k hk a b => (hg.block k (by omega) (fun e => ?_)).trans (h.keep k hk a b), own, h.own2.kept hg ?_, ?_, h.mv2⟩
  · rcases h.mv1 with e1 | ⟨g, e1, e2⟩
    · exact a (e1 ▸ e.symm)
    · rw [e2] at e; injection e with e; omega
  · rcases own_own_ne h.own2 h.own1 (by decide) with e | e
    · exact .inl e
    · exact .inr e
  · rcases hv with e | e
    · rw [e]; exact h.mv1
    · exact .inr ⟨_, hs2, e⟩
theorem R4.app2 {m : Nat} {V9 : Value} {ys : List Value} (h : R4 W w B0 VB VS VB' VS' n1 n2 xs ss) (own : w'.ownsRow B0 3 1 V9 m ys) (hg : w.grownBy w' VS'.ownBlock) (hv : V9.ownBlock = VS'.ownBlock ∨ V9.ownBlock = some w.heap.size) : R4 W w' B0 VB VS VB' V9 n1 m xs ys := by
  have hs := hg.size
  have hs2 := h.size
  refine ⟨hg.os.trans h.os, hg.tape.trans h.tape, hg.output.trans h.output, by omega, fun k hk a b => (hg.block k (by omega) (fun e => ?_)).trans (h.keep k hk a b), h.own1.kept hg ?_, own, h.mv1, ?_⟩
  · rcases h.mv2 with e1 | ⟨g, e1, e2⟩
    · exact b (e1 ▸ e.symm)
    · rw [e2] at e; injection e with e; omega
  · rcases own_own_ne h.own1 h.own2 (by decide) with e | e
    · exact .inl e
    · exact .inr e
  · rcases hv with e | e
    · rw [e]; exact h.mv2
    · exact .inr ⟨_, hs2, e⟩
theorem R4.blk1 {t : TypeId} {cs : Array Value} (h : R4 W w B0 VB VS VB' VS' n1 n2 xs ss) (hb : Blk w g t cs) (ht : 34 ≠ t) (hg : w.grownBy w' VB'.ownBlock) : Blk w' g t cs := hb.grown hg (fun e => own_blk_ne h.own1 hb ht e.symm)
end
theorem reads_blk {w : World} {g : Nat} {t : TypeId} {cs : Array Value} (h : Blk w g t cs) (size n : Nat) (hn : cs.size = n * size) : Reads w w.heap.size size (some ⟨g, 0, none⟩) n cs.toList :=
  ⟨by simpa using hn, fun _ => ⟨_, rfl, h.lt, fun j u hu => by rw [add0, h.cell j]; simpa using hu⟩⟩
def BlockO (w w' : World) (x : Ending) (B0 B1 p g : Nat) (A : Option Addr) (N c q : Nat) (dl : List BD) (VB0 VS0 : Value) : Prop := (∃ u, x = .returned u) ∧ (Below B0 w w' ∧ ∀ k, k < w.heap.size → k ≠ p → k ≠ g → VB0.ownBlock ≠ some k → VS0.ownBlock ≠ some k → w'.heap[k]? = w.heap[k]?) ∧ ∃ VB VS, PrsAt w' B0 B1 p g A N c q dl VB VS
def MidO (w2 w : World) (g b : Nat) (A : Option Addr) (N c q : Nat) (d : BD) : Prop :=
  ∃ ta tn tc, Blk w b 34 (bk d.i0 d.i9 (.slice ta tn tc)) ∧ RdP w (fun k => w2.heap.size ≤ k ∧ k < w.heap.size) 1 ta tn (d.ts.map (Value.int .i64)) ∧ tn ≤ tc ∧ (tn = 0 → ta = none ∧ tc = 0) ∧ Rd w g A N c q none ∧ Mv w2 w g b
theorem own_eq {w w' : World} {B e size n : Nat} {v : Value} {xs : List Value} (h : w.ownsRow B e size v n xs) (hk : ∀ k, v.ownBlock = some k → w'.heap[k]? = w.heap[k]?) : w'.ownsRow B e size v n xs := by
  refine ⟨h.1, ?_⟩
  rcases h.2 with h2 | ⟨g, cap, cur, rfl, h2, h3, h4⟩
  · exact .inl h2
  · exact .inr ⟨g, cap, cur, rfl, h2, (hk g rfl).trans h3, h4⟩
structure Fore (w w2 W : World) (B0 B1 p g b : Nat) (A : Option Addr) (N c q : Nat) (dl : List BD) (VB VS : Value) (xs : List Value) (ss : List Int) : Prop where
  box : PBox w p g VB VS
  rd0 : ∃ q0 : Nat, Rd w g A N c q0 none
  row : w.ownsRow B0 34 18 VB dl.length xs
  blks : BlksAt w (PrsP w B1 p g VB VS) dl xs
  starts : w.ownsRow B0 3 1 VS dl.length (ss.map (Value.int .i64))
  pu : B0 ≤ p
  gu : B0 ≤ g
  bs : B0 ≤ w.heap.size
  bs1 : B1 ≤ w.heap.size
  up2 : w.heap.size ≤ w2.heap.size
  eq2 : ∀ k, k < w.heap.size → k ≠ g → w2.heap[k]? = w.heap[k]?
  os : w2.os = w.os
  tape : w2.tape = w.tape
  output : w2.output = w.output
  mv : Mv w2 W g b
  bu : w.heap.size ≤ b
  bl : b < w2.heap.size
  rd : Rd W g A N c q none
section
variable {w w2 W w9 : World} {B0 B1 p g b N c q n1 n2 : Nat} {A : Option Addr} {dl : List BD} {VB VS V' U' : Value} {xs ys us : List Value} {ss : List Int}
theorem Fore.far (h : Fore w w2 W B0 B1 p g b A N c q dl VB VS xs ss) {k : Nat} (hk : k < w.heap.size) (hg : k ≠ g) : W.heap[k]? = w.heap[k]? := (h.mv.block k (by have := h.up2; omega) hg (by have := h.bu; omega)).trans (h.eq2 k hk hg)
theorem Fore.neB (h : Fore w w2 W B0 B1 p g b A N c q dl VB VS xs ss) : (∀ k, w.heap.size ≤ k → VB.ownBlock ≠ some k ∧ VS.ownBlock ≠ some k) ∧ (VB.ownBlock ≠ some p ∧ VS.ownBlock ≠ some p) ∧ (VB.ownBlock ≠ some g ∧ VS.ownBlock ≠ some g) := by
  obtain ⟨q0, hr⟩ := h.rd0
  exact ⟨fun k hk => ⟨fun e => by have := (h.row.lt k e).2; omega, fun e => by have := (h.starts.lt k e).2; omega⟩, ⟨own_blk_ne h.row h.box (by decide), own_blk_ne h.starts h.box (by decide)⟩, ⟨own_blk_ne h.row hr (by decide), own_blk_ne h.starts hr (by decide)⟩⟩
theorem Fore.r4 (h : Fore w w2 W B0 B1 p g b A N c q dl VB VS xs ss) : R4 W W B0 VB VS VB VS dl.length dl.length xs (ss.map (Value.int .i64)) :=
  R4.start (own_eq h.row fun k e => h.far (h.row.lt k e).2 (fun e2 => h.neB.2.2.1 (e2 ▸ e))) (own_eq h.starts fun k e => h.far (h.starts.lt k e).2 (fun e2 => h.neB.2.2.2 (e2 ▸ e)))
theorem Fore.pbox (h : Fore w w2 W B0 B1 p g b A N c q dl VB VS xs ss) (hR : R4 W w9 B0 VB VS V' U' n1 n2 ys us) : PBox w9 p g VB VS := by
  have hpl := Blk.lt h.box
  obtain ⟨q0, hr⟩ := h.rd0
  exact (hR.keep p (by have := h.up2; have := h.mv.size; omega) h.neB.2.1.1 h.neB.2.1.2).trans ((h.far hpl (Blk.ne_ h.box hr (by decide))).trans h.box)
theorem Fore.bbox (h : Fore w w2 W B0 B1 p g b A N c q dl VB VS xs ss) {cs : Array Value} (hb : Blk W b 34 cs) (hR : R4 W w9 B0 VB VS V' U' n1 n2 ys us) : Blk w9 b 34 cs :=
  (hR.keep b hb.lt (h.neB.1 b h.bu).1 (h.neB.1 b h.bu).2).trans hb
theorem Fore.fin (h : Fore w w2 W B0 B1 p g b A N c q dl VB VS xs ss) {d : BD} {cs : List Value} {st : Int} (hR : R4 W w9 B0 VB VS V' U' (dl.length + 1) (dl.length + 1) (xs ++ cs) (ss.map (Value.int .i64) ++ [.int .i64 st])) (hd : BlkAt W (fun k => w2.heap.size ≤ k ∧ k < W.heap.size) d cs) :
    PrsAt ((w9.setCell ⟨p, 1, none⟩ V').setCell ⟨p, 2, none⟩ U') B0 B1 p g A N c q (dl ++ [d]) V' U' ∧ (Below B0 w ((w9.setCell ⟨p, 1, none⟩ V').setCell ⟨p, 2, none⟩ U') ∧ ∀ k, k < w.heap.size → k ≠ p → k ≠ g → VB.ownBlock ≠ some k → VS.ownBlock ≠ some k → ((w9.setCell ⟨p, 1, none⟩ V').setCell ⟨p, 2, none⟩ U').heap[k]? = w.heap[k]?) := by
  have hpl := Blk.lt h.box
  obtain ⟨q0, hr0⟩ := h.rd0
  have hgl := Rd.lt hr0
  have hsW : w.heap.size ≤ W.heap.size := Nat.le_trans h.up2 h.mv.size
  have hpb := h.pbox hR
  have hpg : p ≠ g := Blk.ne_ h.box hr0 (by decide)
  have hsz : ((w9.setCell ⟨p, 1, none⟩ V').setCell ⟨p, 2, none⟩ U').heap.size = w9.heap.size := by simp [World.setCell]
  have hst : ∀ k, k ≠ p → ((w9.setCell ⟨p, 1, none⟩ V').setCell ⟨p, 2, none⟩ U').heap[k]? = w9.heap[k]? := fun k hk => (Below.heap_setCell _ _ _ _ hk).trans (Below.heap_setCell _ _ _ _ hk)
  have hV1 : ∀ k, k < W.heap.size → VB.ownBlock ≠ some k → V'.ownBlock ≠ some k := fun k hk hn e => by
    rcases hR.mv1 with e1 | ⟨g1, e1, e2⟩
    · exact hn (e1 ▸ e)
    · rw [e2] at e; injection e with e; omega
  have hV2 : ∀ k, k < W.heap.size → VS.ownBlock ≠ some k → U'.ownBlock ≠ some k := fun k hk hn e => by
    rcases hR.mv2 with e1 | ⟨g1, e1, e2⟩
    · exact hn (e1 ▸ e)
    · rw [e2] at e; injection e with e; omega
  have hsR := hR.size
  refine ⟨⟨(Blk.set_ (Blk.set_ hpb 1 V') 2 U'), ?_, ⟨xs ++ cs, ?_, ?_⟩, ⟨ss ++ [st], ?_⟩, h.pu, h.gu⟩, ?_⟩
  · have h1 : Rd w9 g A N c q none := (hR.keep g (by omega) h.neB.2.2.1 h.neB.2.2.2).trans h.rd
    exact Blk.far (p := ⟨p, 2, none⟩) (Blk.far (p := ⟨p, 1, none⟩) h1 (fun e => hpg e.symm) _) (fun e => hpg e.symm) _
  · rw [List.length_append]
    exact own_eq hR.own1 fun k e => hst k (fun e2 => hV1 p (by omega) h.neB.2.1.1 (e2 ▸ e))
  · refine BlksAt.app (BlksAt.keep (fun k hk => ?_) (fun k hk => ?_) h.blks) (BlksAt.single (hd.keep (fun k hk => ?_) (fun k hk => ?_)))
    · exact (hst k hk.2.2.1).trans ((hR.keep k (by have := hk.2.1; omega) hk.2.2.2.2.1 hk.2.2.2.2.2).trans (h.far hk.2.1 hk.2.2.2.1))
    · exact ⟨hk.1, by have := hk.2.1; omega, hk.2.2.1, hk.2.2.2.1, hV1 k (by have := hk.2.1; omega) hk.2.2.2.2.1, hV2 k (by have := hk.2.1; omega) hk.2.2.2.2.2⟩
    · have hw := h.neB.1 k (by have := h.up2; omega)
      exact (hst k (by have := h.up2; omega)).trans (hR.keep k hk.2 hw.1 hw.2)
    · have hw := h.neB.1 k (by have := h.up2; omega)
      have := h.up2
      exact ⟨by have := h.bs1; omega, by have := hk.2; omega, by omega, by omega, hV1 k hk.2 hw.1, hV2 k hk.2 hw.2⟩
  · rw [List.length_append, List.map_append]
    exact own_eq hR.own2 fun k e => hst k (fun e2 => hV2 p (by omega) h.neB.2.1.2 (e2 ▸ e))
  · refine ⟨?_, fun k hk h1 h2 h3 h4 => (hst k h1).trans ((hR.keep k (by omega) h3 h4).trans (h.far hk h2))⟩
    refine ⟨hR.os.trans (h.mv.os.trans h.os), hR.tape.trans (h.mv.tape.trans h.tape), hR.output.trans (h.mv.output.trans h.output), by omega, fun k hk => ?_⟩
    have hkg : k ≠ g := by have := h.gu; omega
    exact (hst k (by have := h.pu; omega)).trans ((hR.keep k (by have := h.bs; omega) (fun e => by have := (h.row.lt k e).1; omega) (fun e => by have := (h.starts.lt k e).1; omega)).trans (h.far (by have := h.bs; omega) hkg))
end
set_option maxRecDepth 100000 in
set_option maxHeartbeats 8000000 in
theorem block_any {w : World} {B0 B1 p g N c q : Nat} {A : Option Addr} {VB VS : Value} {file : List Int} {dl : List BD} {d : BD} (pre post : List Int) (hP : PrsAt w B0 B1 p g A N c q dl VB VS) (hF : FileAt w B0 A N c file) (hB : B0 ≤ w.heap.size) (hB1 : B1 ≤ w.heap.size) (hd : OurB d) (hn : dl.length ≤ 4000) (hf : file = pre ++ (blkB d ++ post)) (hq : pre.length = q) :
    Calls Tryz.prog 116 #[.pointer (some ⟨p, 0, none⟩)] w fun x w' => BlockO w w' x B0 B1 p g A N c (q + (blkB d).length) (dl ++ [d]) VB VS := by
  obtain ⟨i1, hj, hy0, hy1, hy2⟩ := info_parts blkInfo4
  obtain ⟨i0, hi, hz0, hz1, hz2⟩ := info_parts intInfo4
  have c0 := hP.box.c0
  have hat := at_any hP.rd
  have hidR : 0 ≤ d.i0 ∧ d.i0 < 256 ^ 1 := by rcases hd with ⟨h, _⟩ | ⟨h, _⟩ <;> omega
  have hfl : flatL 1 [d.i0] = bytesL 1 d.i0 := by simp [flatL]
  have hnum := hF.num (m := 1) pre ((if d.i0 = 19 then flatL 1 [(d.ts.length : Int)] ++ flatL 2 d.ts else flatL 4 [1] ++ flatL 1 [d.i9]) ++ post) d.i0 hP.rd hP.gu (by omega) (by omega) (by rw [hf]; unfold blkB; rw [hfl, List.append_assoc]) hq hidR.1 hidR.2
  have hpl := Blk.lt hP.box
  have H0 := Lib.hid (And.intro hP (And.intro hF (And.intro hd (And.intro hf hq))))
  clear hP hF hd hf hq hidR hfl
  go_enter Tryz.func116, Tryz.ntmps116
  go_wp2_with fail
  refine hat.mono ?_
  rintro e w1 ⟨rfl, rfl⟩
  clear hat
  go_wp2_with fail
  refine hnum.mono ?_
  rintro e w1 ⟨rfl, hR1, hg1⟩
  have hP1 := H0.out.1.box.grown H0.out.1.rd hg1
  have hs1 := hg1.size
  clear hnum c0
  go_upto_region 2 with (first
    | (refine wpList_store_box rfl 34 _ _ rfl w1.heap.size (bk d.i0 0 (.slice none 0 0)) rfl rfl 34 (bk 0 0 (.slice none 0 0)) (Blk.new w1 _ _) blkInfo' rfl (bk_one _ _ _ _ _) ?_)
    | fail)
  intro w2 hb2 hg2
  have hbe2 : Below w1.heap.size w1 w2 := ((Below.refl _ _).alloc (Nat.le_refl _) _).grown hg2 (by simp) (fun b hb => by injection hb with hb; omega)
  have hbl : w1.heap.size < w2.heap.size := hb2.lt
  have hP2 : PBox w2 p g VB VS := Blk.below hP1 hbe2 (Blk.lt hP1)
  have hR2 : Rd w2 g A N c ((q + 1 : Nat) : Int) none := hR1.below hbe2
  have hF2 : FileAt w2 B0 A N c file := (H0.out.2.1.keep (grown_below hg1 hB H0.out.1.gu)).keep (hbe2.mono (Nat.le_trans hB hs1))
  have hM2 : w.heap.size ≤ w2.heap.size ∧ ∀ k, k < w.heap.size → k ≠ g → w2.heap[k]? = w.heap[k]? := ⟨Nat.le_trans hs1 hbe2.size, fun k hk h1 => (hbe2.block k (by omega)).trans (hg1.block k hk (fun e => h1 (by injection e)))⟩
  have hsame : w2.os = w.os ∧ w2.tape = w.tape ∧ w2.output = w.output := ⟨hbe2.os.trans hg1.os, hbe2.tape.trans hg1.tape, hbe2.output.trans hg1.output⟩
  have H2 := Lib.hid (And.intro hb2 (And.intro hP2 (And.intro hR2 (And.intro hF2 (And.intro hM2 hsame)))))
  have hBw2 : B0 ≤ w2.heap.size := by have := hM2.1; omega
  clear hb2 hg2 hbe2 hP1 hR1 hg1 hP2 hR2 hF2 hM2 hsame
  go_upto_region 2 with fail
  go_cut [24] from 15 to 24 (fun s wx => s = .bool false ∧ MidO w2 wx g w1.heap.size A N c (q + (blkB d).length) d)
  case first =>
    rcases H0.out.2.2.1 with ⟨e1, e2, e3, e4⟩ | ⟨e1, e2, e3, e4⟩
    · have hb9 : Blk w2 w1.heap.size 34 (bk 43 0 (.slice none 0 0)) := e1 ▸ H2.out.1
      have hsd := sound43p_any (at_ := (q : Int)) H2.out.2.1 hb9
      have hbk := Lib.hid (show blkB d = bytesL 1 d.i0 ++ (bytesL 4 1 ++ (bytesL 1 d.i9)) by unfold blkB; rw [if_neg (by omega)]; simp [flatL])
      have hld := leads43_any (at_ := (q : Int)) (q := q + 1) (u := d.i9) (pre ++ bytesL 1 d.i0) post H2.out.2.1 H2.out.2.2.1 H2.out.2.2.2.1 hb9 H0.out.1.gu hBw2 e2 e3 (by rw [H0.out.2.2.2.1, hbk.out]; simp) (by simp [H0.out.2.2.2.2, bytesL_len])
      have HE := Lib.hid (And.intro e1 e4)
      clear e1 e4 hb9
      go_wp2_with fail
      refine hsd.mono ?_
      rintro e wa ⟨rfl, rfl⟩
      clear hsd
      go_wp2_with fail
      refine hld.mono ?_
      rintro e wb ⟨rfl, hRb, hBb, hMb⟩
      have HX := Lib.hid (show MidO w2 wb g w1.heap.size A N c (q + (blkB d).length) d from ⟨none, 0, 0, by rw [HE.out.1]; exact hBb, by rw [HE.out.2]; exact RdP.none_, Nat.le_refl _, fun _ => ⟨rfl, rfl⟩, by rw [hbk.out]; simp only [List.length_append, bytesL_len]; rw [show q + (1 + (4 + 1)) = q + 1 + 5 by omega]; exact hRb, hMb⟩)
      clear hld hRb hBb hMb
      go_wp2_with fail
      go_meet
      exact ⟨rfl, HX.out⟩
    · have hb9 : Blk w2 w1.heap.size 34 (bk 19 0 (.slice none 0 0)) := e1 ▸ H2.out.1
      have hbk := Lib.hid (show blkB d = bytesL 1 d.i0 ++ (bytesL 1 (d.ts.length : Int) ++ flatL 2 d.ts) by unfold blkB; rw [if_pos e1]; simp [flatL])
      have hsd := sound19p_any (at_ := (q : Int)) (q := q + 1) (m := d.ts.length) (ts := d.ts) (pre ++ bytesL 1 d.i0) post H2.out.2.1 H2.out.2.2.1 H2.out.2.2.2.1 hb9 H0.out.1.gu hBw2 rfl e3.2 e4 (by rw [H0.out.2.2.2.1, hbk.out]; simp) (by simp [H0.out.2.2.2.2, bytesL_len])
      have HE := Lib.hid (And.intro e1 (And.intro e2 e3))
      clear e1 e2 e3 e4 hb9
      go_wp2_with fail
      refine hsd.mono ?_
      rintro e wb ⟨rfl, hRb, hMb, TA, tc, hBb, ownb⟩
      have HX := Lib.hid (show MidO w2 wb g w1.heap.size A N c (q + (blkB d).length) d from ⟨TA, d.ts.length, tc, by rw [HE.out.1, HE.out.2.1]; exact hBb, RdP.of_own ownb, capOf ownb, fun h => absurd h (by have := HE.out.2.2.1; omega), by rw [hbk.out]; simp only [List.length_append, bytesL_len, flatL_len]; rw [show q + (1 + (1 + 2 * d.ts.length)) = q + 1 + 1 + 2 * d.ts.length by omega]; exact hRb, hMb⟩)
      clear hsd hRb hBb hMb ownb
      go_wp2_with fail
      go_meet
      exact ⟨rfl, HX.out⟩
  case rest =>
  obtain ⟨rfl, hmid⟩ := hcut
  have HMID := Lib.hid hmid
  clear hmid
  go_upto_region 4 with fail
  obtain ⟨ta, tn, tc, hBb, hrd, hnc, hn0, hRd, hMv⟩ := HMID.out
  obtain ⟨xs, hrow, hblks⟩ := H0.out.1.row
  obtain ⟨ss, hst⟩ := H0.out.1.starts
  have hFo : Fore w w2 wc.drew B0 B1 p g w1.heap.size A N c (q + (blkB d).length) dl VB VS xs ss := ⟨H0.out.1.box, ⟨q, H0.out.1.rd⟩, hrow, hblks, hst, H0.out.1.pu, H0.out.1.gu, hB, hB1, H2.out.2.2.2.2.1.1, H2.out.2.2.2.2.1.2, H2.out.2.2.2.2.2.1, H2.out.2.2.2.2.2.2.1, H2.out.2.2.2.2.2.2.2, ⟨hMv.os, hMv.tape, hMv.output, hMv.size, hMv.block⟩, hs1, hbl, hRd⟩
  have hBb0 : Blk wc.drew w1.heap.size 34 #[.int .i64 d.i0, .int .i64 0, .int .i64 0, .int .i64 0, .int .i64 0, .int .i64 0, .int .i64 0, .int .i64 0, .int .i64 0, .int .i64 d.i9, .int .i64 0, .int .i64 0, .slice none 0 0, .slice ta tn tc, .slice none 0 0, .slice none 0 0, .slice none 0 0, .slice none 0 0] := hBb
  have hdd : BlkAt wc.drew (fun k => w2.heap.size ≤ k ∧ k < wc.drew.heap.size) d [.int .i64 d.i0, .int .i64 0, .int .i64 0, .int .i64 0, .int .i64 0, .int .i64 0, .int .i64 0, .int .i64 0, .int .i64 0, .int .i64 d.i9, .int .i64 0, .int .i64 0, .slice none 0 0, .slice ta tn tc, .slice none 0 0, .slice none 0 0, .slice none 0 0, .slice none 0 0] := ⟨ta, tn, tc, rfl, hrd, hnc, hn0⟩
  refine Early.begin (S := fun w' => PBox w' p g VB VS ∧ Blk w' w1.heap.size 34 #[.int .i64 d.i0, .int .i64 0, .int .i64 0, .int .i64 0, .int .i64 0, .int .i64 0, .int .i64 0, .int .i64 0, .int .i64 0, .int .i64 d.i9, .int .i64 0, .int .i64 0, .slice none 0 0, .slice ta tn tc, .slice none 0 0, .slice none 0 0, .slice none 0 0, .slice none 0 0]) (late := [18, 21]) (by kernel_rfl) ?_
  generalize wc.drew = W at *
  have HFO := Lib.hid (And.intro hFo (And.intro hdd hBb0))
  have hS0 : PBox W p g VB VS ∧ Blk W w1.heap.size 34 #[.int .i64 d.i0, .int .i64 0, .int .i64 0, .int .i64 0, .int .i64 0, .int .i64 0, .int .i64 0, .int .i64 0, .int .i64 0, .int .i64 d.i9, .int .i64 0, .int .i64 0, .slice none 0 0, .slice ta tn tc, .slice none 0 0, .slice none 0 0, .slice none 0 0, .slice none 0 0] := ⟨hFo.pbox hFo.r4, hBb0⟩
  have HR0 := Lib.hid hFo.r4
  have hlen : dl.length + 1 ≤ maxLen ∧ (dl.length + 1) * 240 ≤ 140737488355328 ∧ (dl.length + 1) * 8 ≤ 140737488355328 := by unfold maxLen; omega
  have hB0W : B0 ≤ W.heap.size := by have := hFo.bs; have := hFo.up2; have := hFo.mv.size; omega
  clear hBb hrow hblks hst hrd hn0 hRd hMv hFo hdd hBb0
  refine Early.takeW (i := 0) (oi := _) (v := ?_) (by simp only [List.getElem?_toArray, List.getElem?_cons_succ, List.getElem?_cons_zero]; rfl) (by kernel_rfl) (by kernel_rfl) (by kernel_rfl) (by kernel_rfl) (by kernel_rfl) (by intro _ _ _ h; exact h) (Or.inl ⟨by rfl, ?_⟩) (fun _ => hS0) ?_
  rotate_left
  · intro w9 _
    go_simp
    try with_reducible rfl
  try simp only [Act.put, List.setIfInBounds_toArray, List.set_cons_zero, List.set_cons_succ]
  refine Early.takeW (i := 1) (oi := _) (v := ?_) (by simp only [List.getElem?_toArray, List.getElem?_cons_succ, List.getElem?_cons_zero]; rfl) (by kernel_rfl) (by kernel_rfl) (by kernel_rfl) (by kernel_rfl) (by kernel_rfl) (by intro _ _ _ h; exact h) (Or.inl ⟨by rfl, ?_⟩) (fun _ => hS0) ?_
  rotate_left
  · intro w9 _
    go_simp
    try with_reducible rfl
  try simp only [Act.put, List.setIfInBounds_toArray, List.set_cons_zero, List.set_cons_succ]
  refine Early.takeW (i := 2) (oi := _) (v := ?_) (by simp only [List.getElem?_toArray, List.getElem?_cons_succ, List.getElem?_cons_zero]; rfl) (by kernel_rfl) (by kernel_rfl) (by kernel_rfl) (by kernel_rfl) (by kernel_rfl) (by intro _ _ _ h; exact h) (Or.inl ⟨by rfl, ?_⟩) (fun _ => hS0) ?_
  rotate_left
  · intro w9 _
    go_simp
    try with_reducible rfl
  try simp only [Act.put, List.setIfInBounds_toArray, List.set_cons_zero, List.set_cons_succ]
  refine Early.takeW (i := 3) (oi := _) (v := ?_) (by simp only [List.getElem?_toArray, List.getElem?_cons_succ, List.getElem?_cons_zero]; rfl) (by kernel_rfl) (by kernel_rfl) (by kernel_rfl) (by kernel_rfl) (by kernel_rfl) (by intro _ _ _ h; exact h) (Or.inl ⟨by rfl, ?_⟩) (fun _ => hS0) ?_
  rotate_left
  · intro w9 _
    go_simp
    try with_reducible rfl
  try simp only [Act.put, List.setIfInBounds_toArray, List.set_cons_zero, List.set_cons_succ]
  refine Early.takeW (i := 4) (oi := _) (v := ?_) (by simp only [List.getElem?_toArray, List.getElem?_cons_succ, List.getElem?_cons_zero]; rfl) (by kernel_rfl) (by kernel_rfl) (by kernel_rfl) (by kernel_rfl) (by kernel_rfl) (by intro _ _ _ h; exact h) (Or.inl ⟨by rfl, ?_⟩) (fun _ => hS0) ?_
  rotate_left
  · intro w9 _
    go_simp
    try with_reducible rfl
  try simp only [Act.put, List.setIfInBounds_toArray, List.set_cons_zero, List.set_cons_succ]
  refine Early.take (i := 5) (oi := _) (v := ?_) (by simp only [List.getElem?_toArray, List.getElem?_cons_succ, List.getElem?_cons_zero]; rfl) (by kernel_rfl) (by kernel_rfl) (by kernel_rfl) (by kernel_rfl) (by kernel_rfl) (by kernel_rfl) (by intro _ _ _ h; exact h) (Or.inl ⟨by rfl, ?_⟩) hS0 ?_
  rotate_left
  · intro w9 hSw
    have c1 : w9.cell? ⟨p, 1, none⟩ = some VB := (Blk.cell hSw.1 1).trans rfl
    go_simp
    try with_reducible rfl
  try simp only [Act.put, List.setIfInBounds_toArray, List.set_cons_zero, List.set_cons_succ]
  refine Early.take (i := 6) (oi := _) (v := ?_) (by simp only [List.getElem?_toArray, List.getElem?_cons_succ, List.getElem?_cons_zero]; rfl) (by kernel_rfl) (by kernel_rfl) (by kernel_rfl) (by kernel_rfl) (by kernel_rfl) (by kernel_rfl) (by intro _ _ _ h; exact h) (Or.inl ⟨by rfl, ?_⟩) hS0 ?_
  rotate_left
  · intro w9 hSw
    refine run_load_box 34 (.tmp 3) ?_ w1.heap.size ?_ 34 #[.int .i64 d.i0, .int .i64 0, .int .i64 0, .int .i64 0, .int .i64 0, .int .i64 0, .int .i64 0, .int .i64 0, .int .i64 0, .int .i64 d.i9, .int .i64 0, .int .i64 0, .slice none 0 0, .slice ta tn tc, .slice none 0 0, .slice none 0 0, .slice none 0 0, .slice none 0 0] hSw.2 _ Tryz.underlying34 rfl blkInfo'
    · rfl
    · rfl
  try simp only [Act.put, List.setIfInBounds_toArray, List.set_cons_zero, List.set_cons_succ]
  refine Early.takeW (i := 9) (oi := _) (v := ?_) (by simp only [List.getElem?_toArray, List.getElem?_cons_succ, List.getElem?_cons_zero]; rfl) (by kernel_rfl) (by kernel_rfl) (by kernel_rfl) (by kernel_rfl) (by kernel_rfl) (by intro _ _ _ h; exact h) (Or.inl ⟨by rfl, ?_⟩) (fun _ => hS0) ?_
  rotate_left
  · intro w9 _
    go_simp
    try with_reducible rfl
  try simp only [Act.put, List.setIfInBounds_toArray, List.set_cons_zero, List.set_cons_succ]
  refine Early.takeW (i := 10) (oi := _) (v := ?_) (by simp only [List.getElem?_toArray, List.getElem?_cons_succ, List.getElem?_cons_zero]; rfl) (by kernel_rfl) (by kernel_rfl) (by kernel_rfl) (by kernel_rfl) (by kernel_rfl) (by intro _ _ _ h; exact h) (Or.inl ⟨by rfl, ?_⟩) (fun _ => hS0) ?_
  rotate_left
  · intro w9 _
    go_simp
    try with_reducible rfl
  try simp only [Act.put, List.setIfInBounds_toArray, List.set_cons_zero, List.set_cons_succ]
  refine Early.takeW (i := 11) (oi := _) (v := ?_) (by simp only [List.getElem?_toArray, List.getElem?_cons_succ, List.getElem?_cons_zero]; rfl) (by kernel_rfl) (by kernel_rfl) (by kernel_rfl) (by kernel_rfl) (by kernel_rfl) (by intro _ _ _ h; exact h) (Or.inl ⟨by rfl, ?_⟩) (fun _ => hS0) ?_
  rotate_left
  · intro w9 _
    go_simp
    try with_reducible rfl
  try simp only [Act.put, List.setIfInBounds_toArray, List.set_cons_zero, List.set_cons_succ]
  refine Early.take (i := 12) (oi := _) (v := ?_) (by simp only [List.getElem?_toArray, List.getElem?_cons_succ, List.getElem?_cons_zero]; rfl) (by kernel_rfl) (by kernel_rfl) (by kernel_rfl) (by kernel_rfl) (by kernel_rfl) (by kernel_rfl) (by intro _ _ _ h; exact h) (Or.inl ⟨by rfl, ?_⟩) hS0 ?_
  rotate_left
  · intro w9 hSw
    have c1 : w9.cell? ⟨p, 2, none⟩ = some VS := (Blk.cell hSw.1 2).trans rfl
    go_simp
    try with_reducible rfl
  try simp only [Act.put, List.setIfInBounds_toArray, List.set_cons_zero, List.set_cons_succ]
  refine Early.takeW (i := 13) (oi := _) (v := ?_) (by simp only [List.getElem?_toArray, List.getElem?_cons_succ, List.getElem?_cons_zero]; rfl) (by kernel_rfl) (by kernel_rfl) (by kernel_rfl) (by kernel_rfl) (by kernel_rfl) (by intro _ _ _ h; exact h) (Or.inl ⟨by rfl, ?_⟩) (fun _ => hS0) ?_
  rotate_left
  · intro w9 _
    go_simp
    try with_reducible rfl
  try simp only [Act.put, List.setIfInBounds_toArray, List.set_cons_zero, List.set_cons_succ]
  refine Early.ready (rs := [7, 14]) (by kernel_rfl) (by simp) ?_
  refine Early.rest.cons (o := _) (by simp only [List.getElem?_toArray, List.getElem?_cons_succ, List.getElem?_cons_zero]; rfl) (fun K hK => ?_) (Early.rest.cons (o := _) (by simp only [List.getElem?_toArray, List.getElem?_cons_succ, List.getElem?_cons_zero]; rfl) (fun K hK => ?_) Early.rest.nil)
  · go_simp
    have hRn := HR0.out.alloc (.cells #[.int .i64 d.i0, .int .i64 0, .int .i64 0, .int .i64 0, .int .i64 0, .int .i64 0, .int .i64 0, .int .i64 0, .int .i64 0, .int .i64 d.i9, .int .i64 0, .int .i64 0, .slice none 0 0, .slice ta tn tc, .slice none 0 0, .slice none 0 0, .slice none 0 0, .slice none 0 0] 34)
    have hl1 := Blk.new W 34 #[.int .i64 d.i0, .int .i64 0, .int .i64 0, .int .i64 0, .int .i64 0, .int .i64 0, .int .i64 0, .int .i64 0, .int .i64 0, .int .i64 d.i9, .int .i64 0, .int .i64 0, .slice none 0 0, .slice ta tn tc, .slice none 0 0, .slice none 0 0, .slice none 0 0, .slice none 0 0]
    refine hK.out _ _ (fun _ => ⟨HFO.out.1.pbox hRn, HFO.out.1.bbox HFO.out.2.2 hRn⟩) ?_
    clear hK K
    try simp only [Act.put, List.setIfInBounds_toArray, List.set_cons_zero, List.set_cons_succ]
    generalize (W.alloc (.cells #[.int .i64 d.i0, .int .i64 0, .int .i64 0, .int .i64 0, .int .i64 0, .int .i64 0, .int .i64 0, .int .i64 0, .int .i64 0, .int .i64 d.i9, .int .i64 0, .int .i64 0, .slice none 0 0, .slice ta tn tc, .slice none 0 0, .slice none 0 0, .slice none 0 0, .slice none 0 0] 34)) = W1 at *
    have HR1 := Lib.hid hRn
    clear hRn
    refine Early.ready (rs := [8, 14]) (by kernel_rfl) (by simp) ?_
    refine Early.rest.cons (o := _) (by simp only [List.getElem?_toArray, List.getElem?_cons_succ, List.getElem?_cons_zero]; rfl) (fun K hK => ?_) (Early.rest.cons (o := _) (by simp only [List.getElem?_toArray, List.getElem?_cons_succ, List.getElem?_cons_zero]; rfl) (fun K hK => ?_) Early.rest.nil)
    · refine step_append_any _ (by rfl) _ _ _ (by rfl) B0 34 i1 (.agg #[.int .i64 0, .int .i64 0, .int .i64 0, .int .i64 0, .int .i64 0, .int .i64 0, .int .i64 0, .int .i64 0, .int .i64 0, .int .i64 0, .int .i64 0, .int .i64 0, .slice none 0 0, .slice none 0 0, .slice none 0 0, .slice none 0 0, .slice none 0 0, .slice none 0 0]) 18 240 Tryz.underlying64 hj hy0 hy1 hy2 rfl (by decide) VB dl.length xs (by rfl) HR1.out.own1 W1.heap.size (some ⟨W.heap.size, 0, none⟩) 1 1 [.int .i64 d.i0, .int .i64 0, .int .i64 0, .int .i64 0, .int .i64 0, .int .i64 0, .int .i64 0, .int .i64 0, .int .i64 0, .int .i64 d.i9, .int .i64 0, .int .i64 0, .slice none 0 0, .slice ta tn tc, .slice none 0 0, .slice none 0 0, .slice none 0 0, .slice none 0 0] (by rfl) (reads_blk hl1 18 1 rfl) (by simp [Value.oneCell']) hlen.1 hlen.2.1 (Nat.le_trans hB0W HR1.out.size) ?_
      intro V2 W2 own2 hg2 hv2
      obtain ⟨A2, c2, rfl⟩ := own_slice own2
      have hRn := HR1.out.app1 own2 hg2 hv2
      refine hK.out _ _ (fun _ => ⟨HFO.out.1.pbox hRn, HFO.out.1.bbox HFO.out.2.2 hRn⟩) ?_
      clear hK K
      try simp only [Act.put, List.setIfInBounds_toArray, List.set_cons_zero, List.set_cons_succ]
      have HR2 := Lib.hid hRn
      clear hRn own2 hg2 hv2
      refine Early.ready (rs := [14]) (by kernel_rfl) (by simp) ?_
      refine Early.rest.cons (o := _) (by simp only [List.getElem?_toArray, List.getElem?_cons_succ, List.getElem?_cons_zero]; rfl) (fun K hK => ?_) Early.rest.nil
      go_simp
      have hRn := HR2.out.alloc (.cells #[.int .i64 (q : Int)] 3)
      have hl3 := Blk.new W2 3 #[.int .i64 (q : Int)]
      refine hK.out _ _ (fun _ => ⟨HFO.out.1.pbox hRn, HFO.out.1.bbox HFO.out.2.2 hRn⟩) ?_
      clear hK K
      try simp only [Act.put, List.setIfInBounds_toArray, List.set_cons_zero, List.set_cons_succ]
      generalize (W2.alloc (.cells #[.int .i64 (q : Int)] 3)) = W3 at *
      have HR3 := Lib.hid hRn
      clear hRn
      refine Early.ready (rs := [15]) (by kernel_rfl) (by simp) ?_
      refine Early.rest.cons (o := _) (by simp only [List.getElem?_toArray, List.getElem?_cons_succ, List.getElem?_cons_zero]; rfl) (fun K hK => ?_) Early.rest.nil
      refine step_append_any _ (by rfl) _ _ _ (by rfl) B0 3 i0 (.int .i64 0) 1 8 Tryz.underlying29 hi hz0 hz1 hz2 rfl (by decide) VS dl.length (ss.map (Value.int .i64)) (by rfl) HR3.out.own2 W3.heap.size (some ⟨W2.heap.size, 0, none⟩) 1 1 [.int .i64 (q : Int)] (by rfl) (reads_blk hl3 1 1 rfl) (by simp [Value.oneCell']) hlen.1 hlen.2.2 (Nat.le_trans hB0W HR3.out.size) ?_
      intro V4 W4 own4 hg4 hv4
      obtain ⟨A4, c4, rfl⟩ := own_slice own4
      have hRn := HR3.out.app2 own4 hg4 hv4
      refine hK.out _ _ (fun _ => ⟨HFO.out.1.pbox hRn, HFO.out.1.bbox HFO.out.2.2 hRn⟩) ?_
      clear hK K
      try simp only [Act.put, List.setIfInBounds_toArray, List.set_cons_zero, List.set_cons_succ]
      have HR4 := Lib.hid hRn
      clear hRn own4 hg4 hv4
      have hpb := HFO.out.1.pbox HR4.out
      have hfin := Lib.hid (HFO.out.1.fin (cs := [.int .i64 d.i0, .int .i64 0, .int .i64 0, .int .i64 0, .int .i64 0, .int .i64 0, .int .i64 0, .int .i64 0, .int .i64 0, .int .i64 d.i9, .int .i64 0, .int .i64 0, .slice none 0 0, .slice ta tn tc, .slice none 0 0, .slice none 0 0, .slice none 0 0, .slice none 0 0]) HR4.out HFO.out.2.1)
      have hSz : PBox W4 p g VB VS ∧ Blk W4 w1.heap.size 34 #[.int .i64 d.i0, .int .i64 0, .int .i64 0, .int .i64 0, .int .i64 0, .int .i64 0, .int .i64 0, .int .i64 0, .int .i64 0, .int .i64 d.i9, .int .i64 0, .int .i64 0, .slice none 0 0, .slice ta tn tc, .slice none 0 0, .slice none 0 0, .slice none 0 0, .slice none 0 0] := ⟨hpb, HFO.out.1.bbox HFO.out.2.2 HR4.out⟩
      have f1 : W4.frozen? ⟨p, 1, none⟩ = false := Blk.frozen hpb 1
      have c1 : W4.cell? ⟨p, 1, none⟩ = some VB := (Blk.cell hpb 1).trans rfl
      refine Early.takeW (i := 16) (oi := _) (v := ?_) (by simp only [List.getElem?_toArray, List.getElem?_cons_succ, List.getElem?_cons_zero]; rfl) (by kernel_rfl) (by kernel_rfl) (by kernel_rfl) (by kernel_rfl) (by kernel_rfl) (by intro _ _ _ h; exact h) (Or.inl ⟨by rfl, ?_⟩) (fun _ => hSz) ?_
      rotate_left
      · intro w9 _
        go_simp
        try with_reducible rfl
      try simp only [Act.put, List.setIfInBounds_toArray, List.set_cons_zero, List.set_cons_succ]
      refine Early.takeW (i := 17) (oi := _) (v := ?_) (by simp only [List.getElem?_toArray, List.getElem?_cons_succ, List.getElem?_cons_zero]; rfl) (by kernel_rfl) (by kernel_rfl) (by kernel_rfl) (by kernel_rfl) (by kernel_rfl) (by intro _ _ _ h; exact h) (Or.inl ⟨by rfl, ?_⟩) (fun _ => hSz) ?_
      rotate_left
      · intro w9 _
        go_simp
        try with_reducible rfl
      try simp only [Act.put, List.setIfInBounds_toArray, List.set_cons_zero, List.set_cons_succ]
      refine Early.ready (rs := [18]) (by kernel_rfl) (by simp) ?_
      refine Early.rest.cons (o := _) (by simp only [List.getElem?_toArray, List.getElem?_cons_succ, List.getElem?_cons_zero]; rfl) (fun K hK => ?_) Early.rest.nil
      go_simp
      refine hK.out _ _ (fun hcl => absurd hcl (by decide)) ?_
      clear hK K
      try simp only [Act.put, List.setIfInBounds_toArray, List.set_cons_zero, List.set_cons_succ]
      refine Early.takeW (i := 19) (oi := _) (v := ?_) (by simp only [List.getElem?_toArray, List.getElem?_cons_succ, List.getElem?_cons_zero]; rfl) (by kernel_rfl) (by kernel_rfl) (by kernel_rfl) (by kernel_rfl) (by kernel_rfl) (by intro _ _ _ h; exact h) (Or.inl ⟨by rfl, ?_⟩) (fun hcl => absurd hcl (by decide)) ?_
      rotate_left
      · intro w9 _
        go_simp
        try with_reducible rfl
      try simp only [Act.put, List.setIfInBounds_toArray, List.set_cons_zero, List.set_cons_succ]
      refine Early.takeW (i := 20) (oi := _) (v := ?_) (by simp only [List.getElem?_toArray, List.getElem?_cons_succ, List.getElem?_cons_zero]; rfl) (by kernel_rfl) (by kernel_rfl) (by kernel_rfl) (by kernel_rfl) (by kernel_rfl) (by intro _ _ _ h; exact h) (Or.inl ⟨by rfl, ?_⟩) (fun hcl => absurd hcl (by decide)) ?_
      rotate_left
      · intro w9 _
        go_simp
        try with_reducible rfl
      try simp only [Act.put, List.setIfInBounds_toArray, List.set_cons_zero, List.set_cons_succ]
      have hpb2 := Blk.set_ hpb 1 (.slice A2 (dl.length + 1) c2)
      have f2 : (W4.setCell ⟨p, 1, none⟩ (.slice A2 (dl.length + 1) c2)).frozen? ⟨p, 2, none⟩ = false := Blk.frozen hpb2 2
      have c2 : (W4.setCell ⟨p, 1, none⟩ (.slice A2 (dl.length + 1) c2)).cell? ⟨p, 2, none⟩ = some VS := (Blk.cell hpb2 2).trans rfl
      refine Early.ready (rs := [21]) (by kernel_rfl) (by simp) ?_
      refine Early.rest.cons (o := _) (by simp only [List.getElem?_toArray, List.getElem?_cons_succ, List.getElem?_cons_zero]; rfl) (fun K hK => ?_) Early.rest.nil
      go_simp
      refine hK.out _ _ (fun hcl => absurd hcl (by decide)) ?_
      clear hK K
      try simp only [Act.put, List.setIfInBounds_toArray, List.set_cons_zero, List.set_cons_succ]
      refine Early.done (by kernel_rfl) ?_ _
      clear f1 c1 f2 c2 hpb hpb2 hSz
      go_wp2
      first | go_end0 | ((try simp only [Exit.inBlock, Exit.then]); refine bodyPost_ret (v := .tuple #[]) (results_none rfl _ _ _) rfl ?_)
      exact ⟨⟨_, rfl⟩, hfin.out.2, _, _, hfin.out.1⟩
    · go_simp
      have hRn := HR1.out.alloc (.cells #[.int .i64 (q : Int)] 3)
      have hl5 := Blk.new W1 3 #[.int .i64 (q : Int)]
      have hx5 := hl1.alloc (.cells #[.int .i64 (q : Int)] 3)
      refine hK.out _ _ (fun _ => ⟨HFO.out.1.pbox hRn, HFO.out.1.bbox HFO.out.2.2 hRn⟩) ?_
      clear hK K
      try simp only [Act.put, List.setIfInBounds_toArray, List.set_cons_zero, List.set_cons_succ]
      generalize (W1.alloc (.cells #[.int .i64 (q : Int)] 3)) = W5 at *
      have HR5 := Lib.hid hRn
      clear hRn
      refine Early.ready (rs := [8]) (by kernel_rfl) (by simp) ?_
      refine Early.rest.cons (o := _) (by simp only [List.getElem?_toArray, List.getElem?_cons_succ, List.getElem?_cons_zero]; rfl) (fun K hK => ?_) Early.rest.nil
      refine step_append_any _ (by rfl) _ _ _ (by rfl) B0 34 i1 (.agg #[.int .i64 0, .int .i64 0, .int .i64 0, .int .i64 0, .int .i64 0, .int .i64 0, .int .i64 0, .int .i64 0, .int .i64 0, .int .i64 0, .int .i64 0, .int .i64 0, .slice none 0 0, .slice none 0 0, .slice none 0 0, .slice none 0 0, .slice none 0 0, .slice none 0 0]) 18 240 Tryz.underlying64 hj hy0 hy1 hy2 rfl (by decide) VB dl.length xs (by rfl) HR5.out.own1 W5.heap.size (some ⟨W.heap.size, 0, none⟩) 1 1 [.int .i64 d.i0, .int .i64 0, .int .i64 0, .int .i64 0, .int .i64 0, .int .i64 0, .int .i64 0, .int .i64 0, .int .i64 0, .int .i64 d.i9, .int .i64 0, .int .i64 0, .slice none 0 0, .slice ta tn tc, .slice none 0 0, .slice none 0 0, .slice none 0 0, .slice none 0 0] (by rfl) (reads_blk hx5 18 1 rfl) (by simp [Value.oneCell']) hlen.1 hlen.2.1 (Nat.le_trans hB0W HR5.out.size) ?_
      intro V6 W6 own6 hg6 hv6
      obtain ⟨A6, c6, rfl⟩ := own_slice own6
      have hRn := HR5.out.app1 own6 hg6 hv6
      have hx6 := HR5.out.blk1 hl5 (by decide) hg6
      refine hK.out _ _ (fun _ => ⟨HFO.out.1.pbox hRn, HFO.out.1.bbox HFO.out.2.2 hRn⟩) ?_
      clear hK K
      try simp only [Act.put, List.setIfInBounds_toArray, List.set_cons_zero, List.set_cons_succ]
      have HR6 := Lib.hid hRn
      clear hRn own6 hg6 hv6
      refine Early.ready (rs := [15]) (by kernel_rfl) (by simp) ?_
      refine Early.rest.cons (o := _) (by simp only [List.getElem?_toArray, List.getElem?_cons_succ, List.getElem?_cons_zero]; rfl) (fun K hK => ?_) Early.rest.nil
      refine step_append_any _ (by rfl) _ _ _ (by rfl) B0 3 i0 (.int .i64 0) 1 8 Tryz.underlying29 hi hz0 hz1 hz2 rfl (by decide) VS dl.length (ss.map (Value.int .i64)) (by rfl) HR6.out.own2 W6.heap.size (some ⟨W1.heap.size, 0, none⟩) 1 1 [.int .i64 (q : Int)] (by rfl) (reads_blk hx6 1 1 rfl) (by simp [Value.oneCell']) hlen.1 hlen.2.2 (Nat.le_trans hB0W HR6.out.size) ?_
      intro V7 W7 own7 hg7 hv7
      obtain ⟨A7, c7, rfl⟩ := own_slice own7
      have hRn := HR6.out.app2 own7 hg7 hv7
      refine hK.out _ _ (fun _ => ⟨HFO.out.1.pbox hRn, HFO.out.1.bbox HFO.out.2.2 hRn⟩) ?_
      clear hK K
      try simp only [Act.put, List.setIfInBounds_toArray, List.set_cons_zero, List.set_cons_succ]
      have HR7 := Lib.hid hRn
      clear hRn own7 hg7 hv7
      have hpb := HFO.out.1.pbox HR7.out
      have hfin := Lib.hid (HFO.out.1.fin (cs := [.int .i64 d.i0, .int .i64 0, .int .i64 0, .int .i64 0, .int .i64 0, .int .i64 0, .int .i64 0, .int .i64 0, .int .i64 0, .int .i64 d.i9, .int .i64 0, .int .i64 0, .slice none 0 0, .slice ta tn tc, .slice none 0 0, .slice none 0 0, .slice none 0 0, .slice none 0 0]) HR7.out HFO.out.2.1)
      have hSz : PBox W7 p g VB VS ∧ Blk W7 w1.heap.size 34 #[.int .i64 d.i0, .int .i64 0, .int .i64 0, .int .i64 0, .int .i64 0, .int .i64 0, .int .i64 0, .int .i64 0, .int .i64 0, .int .i64 d.i9, .int .i64 0, .int .i64 0, .slice none 0 0, .slice ta tn tc, .slice none 0 0, .slice none 0 0, .slice none 0 0, .slice none 0 0] := ⟨hpb, HFO.out.1.bbox HFO.out.2.2 HR7.out⟩
      have f1 : W7.frozen? ⟨p, 1, none⟩ = false := Blk.frozen hpb 1
      have c1 : W7.cell? ⟨p, 1, none⟩ = some VB := (Blk.cell hpb 1).trans rfl
      refine Early.takeW (i := 16) (oi := _) (v := ?_) (by simp only [List.getElem?_toArray, List.getElem?_cons_succ, List.getElem?_cons_zero]; rfl) (by kernel_rfl) (by kernel_rfl) (by kernel_rfl) (by kernel_rfl) (by kernel_rfl) (by intro _ _ _ h; exact h) (Or.inl ⟨by rfl, ?_⟩) (fun _ => hSz) ?_
      rotate_left
      · intro w9 _
        go_simp
        try with_reducible rfl
      try simp only [Act.put, List.setIfInBounds_toArray, List.set_cons_zero, List.set_cons_succ]
      refine Early.takeW (i := 17) (oi := _) (v := ?_) (by simp only [List.getElem?_toArray, List.getElem?_cons_succ, List.getElem?_cons_zero]; rfl) (by kernel_rfl) (by kernel_rfl) (by kernel_rfl) (by kernel_rfl) (by kernel_rfl) (by intro _ _ _ h; exact h) (Or.inl ⟨by rfl, ?_⟩) (fun _ => hSz) ?_
      rotate_left
      · intro w9 _
        go_simp
        try with_reducible rfl
      try simp only [Act.put, List.setIfInBounds_toArray, List.set_cons_zero, List.set_cons_succ]
      refine Early.ready (rs := [18]) (by kernel_rfl) (by simp) ?_
      refine Early.rest.cons (o := _) (by simp only [List.getElem?_toArray, List.getElem?_cons_succ, List.getElem?_cons_zero]; rfl) (fun K hK => ?_) Early.rest.nil
      go_simp
      refine hK.out _ _ (fun hcl => absurd hcl (by decide)) ?_
      clear hK K
      try simp only [Act.put, List.setIfInBounds_toArray, List.set_cons_zero, List.set_cons_succ]
      refine Early.takeW (i := 19) (oi := _) (v := ?_) (by simp only [List.getElem?_toArray, List.getElem?_cons_succ, List.getElem?_cons_zero]; rfl) (by kernel_rfl) (by kernel_rfl) (by kernel_rfl) (by kernel_rfl) (by kernel_rfl) (by intro _ _ _ h; exact h) (Or.inl ⟨by rfl, ?_⟩) (fun hcl => absurd hcl (by decide)) ?_
      rotate_left
      · intro w9 _
        go_simp
        try with_reducible rfl
      try simp only [Act.put, List.setIfInBounds_toArray, List.set_cons_zero, List.set_cons_succ]
      refine Early.takeW (i := 20) (oi := _) (v := ?_) (by simp only [List.getElem?_toArray, List.getElem?_cons_succ, List.getElem?_cons_zero]; rfl) (by kernel_rfl) (by kernel_rfl) (by kernel_rfl) (by kernel_rfl) (by kernel_rfl) (by intro _ _ _ h; exact h) (Or.inl ⟨by rfl, ?_⟩) (fun hcl => absurd hcl (by decide)) ?_
      rotate_left
      · intro w9 _
        go_simp
        try with_reducible rfl
      try simp only [Act.put, List.setIfInBounds_toArray, List.set_cons_zero, List.set_cons_succ]
      have hpb2 := Blk.set_ hpb 1 (.slice A6 (dl.length + 1) c6)
      have f2 : (W7.setCell ⟨p, 1, none⟩ (.slice A6 (dl.length + 1) c6)).frozen? ⟨p, 2, none⟩ = false := Blk.frozen hpb2 2
      have c2 : (W7.setCell ⟨p, 1, none⟩ (.slice A6 (dl.length + 1) c6)).cell? ⟨p, 2, none⟩ = some VS := (Blk.cell hpb2 2).trans rfl
      refine Early.ready (rs := [21]) (by kernel_rfl) (by simp) ?_
      refine Early.rest.cons (o := _) (by simp only [List.getElem?_toArray, List.getElem?_cons_succ, List.getElem?_cons_zero]; rfl) (fun K hK => ?_) Early.rest.nil
      go_simp
      refine hK.out _ _ (fun hcl => absurd hcl (by decide)) ?_
      clear hK K
      try simp only [Act.put, List.setIfInBounds_toArray, List.set_cons_zero, List.set_cons_succ]
      refine Early.done (by kernel_rfl) ?_ _
      clear f1 c1 f2 c2 hpb hpb2 hSz
      go_wp2
      first | go_end0 | ((try simp only [Exit.inBlock, Exit.then]); refine bodyPost_ret (v := .tuple #[]) (results_none rfl _ _ _) rfl ?_)
      exact ⟨⟨_, rfl⟩, hfin.out.2, _, _, hfin.out.1⟩
  · go_simp
    have hRn := HR0.out.alloc (.cells #[.int .i64 (q : Int)] 3)
    have hl8 := Blk.new W 3 #[.int .i64 (q : Int)]
    refine hK.out _ _ (fun _ => ⟨HFO.out.1.pbox hRn, HFO.out.1.bbox HFO.out.2.2 hRn⟩) ?_
    clear hK K
    try simp only [Act.put, List.setIfInBounds_toArray, List.set_cons_zero, List.set_cons_succ]
    generalize (W.alloc (.cells #[.int .i64 (q : Int)] 3)) = W8 at *
    have HR8 := Lib.hid hRn
    clear hRn
    refine Early.ready (rs := [7]) (by kernel_rfl) (by simp) ?_
    refine Early.rest.cons (o := _) (by simp only [List.getElem?_toArray, List.getElem?_cons_succ, List.getElem?_cons_zero]; rfl) (fun K hK => ?_) Early.rest.nil
    go_simp
    have hRn := HR8.out.alloc (.cells #[.int .i64 d.i0, .int .i64 0, .int .i64 0, .int .i64 0, .int .i64 0, .int .i64 0, .int .i64 0, .int .i64 0, .int .i64 0, .int .i64 d.i9, .int .i64 0, .int .i64 0, .slice none 0 0, .slice ta tn tc, .slice none 0 0, .slice none 0 0, .slice none 0 0, .slice none 0 0] 34)
    have hl9 := Blk.new W8 34 #[.int .i64 d.i0, .int .i64 0, .int .i64 0, .int .i64 0, .int .i64 0, .int .i64 0, .int .i64 0, .int .i64 0, .int .i64 0, .int .i64 d.i9, .int .i64 0, .int .i64 0, .slice none 0 0, .slice ta tn tc, .slice none 0 0, .slice none 0 0, .slice none 0 0, .slice none 0 0]
    have hx9 := hl8.alloc (.cells #[.int .i64 d.i0, .int .i64 0, .int .i64 0, .int .i64 0, .int .i64 0, .int .i64 0, .int .i64 0, .int .i64 0, .int .i64 0, .int .i64 d.i9, .int .i64 0, .int .i64 0, .slice none 0 0, .slice ta tn tc, .slice none 0 0, .slice none 0 0, .slice none 0 0, .slice none 0 0] 34)
    refine hK.out _ _ (fun _ => ⟨HFO.out.1.pbox hRn, HFO.out.1.bbox HFO.out.2.2 hRn⟩) ?_
    clear hK K
    try simp only [Act.put, List.setIfInBounds_toArray, List.set_cons_zero, List.set_cons_succ]
    generalize (W8.alloc (.cells #[.int .i64 d.i0, .int .i64 0, .int .i64 0, .int .i64 0, .int .i64 0, .int .i64 0, .int .i64 0, .int .i64 0, .int .i64 0, .int .i64 d.i9, .int .i64 0, .int .i64 0, .slice none 0 0, .slice ta tn tc, .slice none 0 0, .slice none 0 0, .slice none 0 0, .slice none 0 0] 34)) = W9 at *
    have HR9 := Lib.hid hRn
    clear hRn
    refine Early.ready (rs := [8]) (by kernel_rfl) (by simp) ?_
    refine Early.rest.cons (o := _) (by simp only [List.getElem?_toArray, List.getElem?_cons_succ, List.getElem?_cons_zero]; rfl) (fun K hK => ?_) Early.rest.nil
    refine step_append_any _ (by rfl) _ _ _ (by rfl) B0 34 i1 (.agg #[.int .i64 0, .int .i64 0, .int .i64 0, .int .i64 0, .int .i64 0, .int .i64 0, .int .i64 0, .int .i64 0, .int .i64 0, .int .i64 0, .int .i64 0, .int .i64 0, .slice none 0 0, .slice none 0 0, .slice none 0 0, .slice none 0 0, .slice none 0 0, .slice none 0 0]) 18 240 Tryz.underlying64 hj hy0 hy1 hy2 rfl (by decide) VB dl.length xs (by rfl) HR9.out.own1 W9.heap.size (some ⟨W8.heap.size, 0, none⟩) 1 1 [.int .i64 d.i0, .int .i64 0, .int .i64 0, .int .i64 0, .int .i64 0, .int .i64 0, .int .i64 0, .int .i64 0, .int .i64 0, .int .i64 d.i9, .int .i64 0, .int .i64 0, .slice none 0 0, .slice ta tn tc, .slice none 0 0, .slice none 0 0, .slice none 0 0, .slice none 0 0] (by rfl) (reads_blk hl9 18 1 rfl) (by simp [Value.oneCell']) hlen.1 hlen.2.1 (Nat.le_trans hB0W HR9.out.size) ?_
    intro V10 W10 own10 hg10 hv10
    obtain ⟨A10, c10, rfl⟩ := own_slice own10
    have hRn := HR9.out.app1 own10 hg10 hv10
    have hx10 := HR9.out.blk1 hx9 (by decide) hg10
    refine hK.out _ _ (fun _ => ⟨HFO.out.1.pbox hRn, HFO.out.1.bbox HFO.out.2.2 hRn⟩) ?_
    clear hK K
    try simp only [Act.put, List.setIfInBounds_toArray, List.set_cons_zero, List.set_cons_succ]
    have HR10 := Lib.hid hRn
    clear hRn own10 hg10 hv10
    refine Early.ready (rs := [15]) (by kernel_rfl) (by simp) ?_
    refine Early.rest.cons (o := _) (by simp only [List.getElem?_toArray, List.getElem?_cons_succ, List.getElem?_cons_zero]; rfl) (fun K hK => ?_) Early.rest.nil
    refine step_append_any _ (by rfl) _ _ _ (by rfl) B0 3 i0 (.int .i64 0) 1 8 Tryz.underlying29 hi hz0 hz1 hz2 rfl (by decide) VS dl.length (ss.map (Value.int .i64)) (by rfl) HR10.out.own2 W10.heap.size (some ⟨W.heap.size, 0, none⟩) 1 1 [.int .i64 (q : Int)] (by rfl) (reads_blk hx10 1 1 rfl) (by simp [Value.oneCell']) hlen.1 hlen.2.2 (Nat.le_trans hB0W HR10.out.size) ?_
    intro V11 W11 own11 hg11 hv11
    obtain ⟨A11, c11, rfl⟩ := own_slice own11
    have hRn := HR10.out.app2 own11 hg11 hv11
    refine hK.out _ _ (fun _ => ⟨HFO.out.1.pbox hRn, HFO.out.1.bbox HFO.out.2.2 hRn⟩) ?_
    clear hK K
    try simp only [Act.put, List.setIfInBounds_toArray, List.set_cons_zero, List.set_cons_succ]
    have HR11 := Lib.hid hRn
    clear hRn own11 hg11 hv11
    have hpb := HFO.out.1.pbox HR11.out
    have hfin := Lib.hid (HFO.out.1.fin (cs := [.int .i64 d.i0, .int .i64 0, .int .i64 0, .int .i64 0, .int .i64 0, .int .i64 0, .int .i64 0, .int .i64 0, .int .i64 0, .int .i64 d.i9, .int .i64 0, .int .i64 0, .slice none 0 0, .slice ta tn tc, .slice none 0 0, .slice none 0 0, .slice none 0 0, .slice none 0 0]) HR11.out HFO.out.2.1)
    have hSz : PBox W11 p g VB VS ∧ Blk W11 w1.heap.size 34 #[.int .i64 d.i0, .int .i64 0, .int .i64 0, .int .i64 0, .int .i64 0, .int .i64 0, .int .i64 0, .int .i64 0, .int .i64 0, .int .i64 d.i9, .int .i64 0, .int .i64 0, .slice none 0 0, .slice ta tn tc, .slice none 0 0, .slice none 0 0, .slice none 0 0, .slice none 0 0] := ⟨hpb, HFO.out.1.bbox HFO.out.2.2 HR11.out⟩
    have f1 : W11.frozen? ⟨p, 1, none⟩ = false := Blk.frozen hpb 1
    have c1 : W11.cell? ⟨p, 1, none⟩ = some VB := (Blk.cell hpb 1).trans rfl
    refine Early.takeW (i := 16) (oi := _) (v := ?_) (by simp only [List.getElem?_toArray, List.getElem?_cons_succ, List.getElem?_cons_zero]; rfl) (by kernel_rfl) (by kernel_rfl) (by kernel_rfl) (by kernel_rfl) (by kernel_rfl) (by intro _ _ _ h; exact h) (Or.inl ⟨by rfl, ?_⟩) (fun _ => hSz) ?_
    rotate_left
    · intro w9 _
      go_simp
      try with_reducible rfl
    try simp only [Act.put, List.setIfInBounds_toArray, List.set_cons_zero, List.set_cons_succ]
    refine Early.takeW (i := 17) (oi := _) (v := ?_) (by simp only [List.getElem?_toArray, List.getElem?_cons_succ, List.getElem?_cons_zero]; rfl) (by kernel_rfl) (by kernel_rfl) (by kernel_rfl) (by kernel_rfl) (by kernel_rfl) (by intro _ _ _ h; exact h) (Or.inl ⟨by rfl, ?_⟩) (fun _ => hSz) ?_
    rotate_left
    · intro w9 _
      go_simp
      try with_reducible rfl
    try simp only [Act.put, List.setIfInBounds_toArray, List.set_cons_zero, List.set_cons_succ]
    refine Early.ready (rs := [18]) (by kernel_rfl) (by simp) ?_
    refine Early.rest.cons (o := _) (by simp only [List.getElem?_toArray, List.getElem?_cons_succ, List.getElem?_cons_zero]; rfl) (fun K hK => ?_) Early.rest.nil
    go_simp
    refine hK.out _ _ (fun hcl => absurd hcl (by decide)) ?_
    clear hK K
    try simp only [Act.put, List.setIfInBounds_toArray, List.set_cons_zero, List.set_cons_succ]
    refine Early.takeW (i := 19) (oi := _) (v := ?_) (by simp only [List.getElem?_toArray, List.getElem?_cons_succ, List.getElem?_cons_zero]; rfl) (by kernel_rfl) (by kernel_rfl) (by kernel_rfl) (by kernel_rfl) (by kernel_rfl) (by intro _ _ _ h; exact h) (Or.inl ⟨by rfl, ?_⟩) (fun hcl => absurd hcl (by decide)) ?_
    rotate_left
    · intro w9 _
      go_simp
      try with_reducible rfl
    try simp only [Act.put, List.setIfInBounds_toArray, List.set_cons_zero, List.set_cons_succ]
    refine Early.takeW (i := 20) (oi := _) (v := ?_) (by simp only [List.getElem?_toArray, List.getElem?_cons_succ, List.getElem?_cons_zero]; rfl) (by kernel_rfl) (by kernel_rfl) (by kernel_rfl) (by kernel_rfl) (by kernel_rfl) (by intro _ _ _ h; exact h) (Or.inl ⟨by rfl, ?_⟩) (fun hcl => absurd hcl (by decide)) ?_
    rotate_left
    · intro w9 _
      go_simp
      try with_reducible rfl
    try simp only [Act.put, List.setIfInBounds_toArray, List.set_cons_zero, List.set_cons_succ]
    have hpb2 := Blk.set_ hpb 1 (.slice A10 (dl.length + 1) c10)
    have f2 : (W11.setCell ⟨p, 1, none⟩ (.slice A10 (dl.length + 1) c10)).frozen? ⟨p, 2, none⟩ = false := Blk.frozen hpb2 2
    have c2 : (W11.setCell ⟨p, 1, none⟩ (.slice A10 (dl.length + 1) c10)).cell? ⟨p, 2, none⟩ = some VS := (Blk.cell hpb2 2).trans rfl
    refine Early.ready (rs := [21]) (by kernel_rfl) (by simp) ?_
    refine Early.rest.cons (o := _) (by simp only [List.getElem?_toArray, List.getElem?_cons_succ, List.getElem?_cons_zero]; rfl) (fun K hK => ?_) Early.rest.nil
    go_simp
    refine hK.out _ _ (fun hcl => absurd hcl (by decide)) ?_
    clear hK K
    try simp only [Act.put, List.setIfInBounds_toArray, List.set_cons_zero, List.set_cons_succ]
    refine Early.done (by kernel_rfl) ?_ _
    clear f1 c1 f2 c2 hpb hpb2 hSz
    go_wp2
    first | go_end0 | ((try simp only [Exit.inBlock, Exit.then]); refine bodyPost_ret (v := .tuple #[]) (results_none rfl _ _ _) rfl ?_)
    exact ⟨⟨_, rfl⟩, hfin.out.2, _, _, hfin.out.1⟩
end Tl
end Go.Proofs.YtnlaedfnifimkaaGreat
namespace Go.Proofs.YtnlaedfnifimkaaGreat
open Go.RowKit Go.Joins
namespace Tl
theorem sign_str : strOfNums signB = ⟨#[90, 88, 84, 97, 112, 101, 33, 26]⟩ := by decide
theorem prs_mid (w : World) (g p B0 B1 N c q : Nat) (A : Option Addr) (hR : Rd w g A N c q none) (hP : PBox w p g (.slice none 0 0) (.slice none 0 0)) (hp : B0 ≤ p) (hg : B0 ≤ g)   : PrsAt w B0 B1 p g A N c q [] (.slice none 0 0) (.slice none 0 0) :=
  ⟨hP, hR, ⟨[], World.ownsRow_nil _ _ _ _, rfl⟩, ⟨[], World.ownsRow_nil _ _ _ _⟩, hp, hg⟩
def ParseO (w w' : World) (x : Ending) (dl : List BD) : Prop :=
  Below w.heap.size w w' ∧ ∃ A' c' xs, x = .returned (.tuple #[.agg #[.int .i64 1, .int .i64 20, .slice A' dl.length c'], .nilIface]) ∧ RdP w' (fun b => w.heap.size ≤ b ∧ b < w'.heap.size) 18 A' dl.length xs ∧ BlksAt w' (fun b => w.heap.size ≤ b ∧ b < w'.heap.size) dl xs
theorem PrsAt.below {w w' : World} {B0 B1 p g N c q : Nat} {A : Option Addr} {dl : List BD} {VB VS : Value} (h : PrsAt w B0 B1 p g A N c q dl VB VS) (hb : Below w.heap.size w w') : PrsAt w' B0 B1 p g A N c q dl VB VS := by
  obtain ⟨xs, h1, h2⟩ := h.row
  obtain ⟨ss, h3⟩ := h.starts
  have hs := hb.size
  exact ⟨Blk.below h.box hb (Blk.lt h.box), h.rd.below hb, ⟨xs, own_kept h1 hb, BlksAt.keep (fun b hp => hb.block b hp.2.1) (fun b hp => ⟨hp.1, by have := hp.2.1; omega, hp.2.2⟩) h2⟩, ⟨ss, own_kept h3 hb⟩, h.pu, h.gu⟩
theorem rdp_ne {w : World} {base t : Nat} {e : TypeId} {size n c : Nat} {A : Option Addr} {xs : List Value} (h : w.ownsRow base e size (.slice A n c) n xs) (hne : (Value.slice A n c).ownBlock ≠ some t) : RdP w (fun b => base ≤ b ∧ b < w.heap.size ∧ b ≠ t) size A n xs := by
  obtain ⟨h1, h2⟩ := RdP.of_own h
  refine ⟨h1, fun hn => ?_⟩
  obtain ⟨g, cap, hv, _, _⟩ := h.form hn
  injection hv with hA
  obtain ⟨ad, e, hb, hc⟩ := h2 hn
  refine ⟨ad, e, ⟨hb.1, hb.2, fun e2 => hne ?_⟩, hc⟩
  rw [hA] at e ⊢
  injection e with e
  subst e
  simp only [Value.ownBlock]
  exact congrArg some e2
theorem below_drewN (w : World) (B q : Nat) : Below B w (w.drewN q) := ⟨rfl, rfl, rfl, Nat.le_refl _, fun _ _ => rfl⟩
theorem FileAt.drewN {w : World} {B N c : Nat} {A : Option Addr} {file : List Int} (h : FileAt w B A N c file) (k : Nat) : FileAt (w.drewN k) B A N c file := ⟨h.rd, h.u8, h.cap, h.capm⟩
theorem blksB_at (dl : List BD) (k : Nat) (h : k < dl.length) : blksB dl = blksB (dl.take k) ++ (blkB (dl.getD k default) ++ blksB (dl.drop (k + 1))) := by
  rw [show blksB dl = blksB (dl.take k ++ dl.drop k) by rw [List.take_append_drop], List.drop_eq_getElem_cons h]
  unfold blksB
  rw [List.flatMap_append, List.flatMap_cons, List.getD_eq_getElem?_getD, List.getElem?_eq_getElem h]
  rfl
theorem blkB_pos (d : BD) : 1 ≤ (blkB d).length := by unfold blkB; simp only [List.length_append, flatL_len, List.length_singleton]; omega
def Md (B0 p g : Nat) (A : Option Addr) (N c : Nat) (file : List Int) (W w : World) (q : Nat) : Prop := Below B0 W w ∧ Rd w g A N c q none ∧ PBox w p g (.slice none 0 0) (.slice none 0 0) ∧ FileAt w B0 A N c file ∧ W.heap.size ≤ w.heap.size
theorem Md.alloc {B0 p g N c q : Nat} {A : Option Addr} {file : List Int} {W w : World} (h : Md B0 p g A N c file W w q) (hB : B0 ≤ W.heap.size) (o : Obj) : Md B0 p g A N c file W (w.alloc o) q :=
  ⟨h.1.alloc (Nat.le_trans hB h.2.2.2.2) o, Blk.alloc h.2.1 o, Blk.alloc h.2.2.1 o, h.2.2.2.1.keep ((Below.refl _ _).alloc (Nat.le_trans hB h.2.2.2.2) o), by have := h.2.2.2.2; simp; omega⟩
theorem Md.num {B0 p g N c q : Nat} {A : Option Addr} {file : List Int} {W w w' : World} (h : Md B0 p g A N c file W w q) (hB : B0 ≤ W.heap.size) (hg : B0 ≤ g) (hR : Rd w' g A N c ((q + 1 : Nat) : Int) none) (hgr : w.grownBy w' (some g)) : Md B0 p g A N c file W w' (q + 1) :=
  have hb := grown_below hgr (Nat.le_trans hB h.2.2.2.2) hg
  ⟨h.1.trans hb, hR, h.2.2.1.grown h.2.1 hgr, h.2.2.2.1.keep hb, Nat.le_trans h.2.2.2.2 hgr.size⟩
set_option maxRecDepth 100000 in
set_option maxHeartbeats 8000000 in
theorem parse_any (w : World) (A : Option Addr) (N c : Nat) (file : List Int) (dl : List BD) (hF : FileAt w w.heap.size A N c file) (hf : file = headB ++ blksB dl) (ho : ∀ d ∈ dl, OurB d) (hn : dl.length ≤ 300) :
    Calls Tryz.prog 76 #[.slice A N c] w fun x w' => ParseO w w' x dl := by
  have hlen := rd_len hF.rd
  have hbl := blksB_len ho
  have hN0 : 10 ≤ N := by rw [← hlen, hf, List.length_append, headB_len]; omega
  have hN1 : N ≤ 1048576 := by rw [← hlen, hf, List.length_append, headB_len]; omega
  have hcap := hF.cap
  obtain ⟨ad, rfl, _, _⟩ := rd_at hF.rd (k := 0) (by omega)
  have hcv : ∀ w' : World, Below w.heap.size w w' → (convert 24 9 (.slice (some ad) 8 c)).run Tryz.prog w' = .ok (.string ⟨#[90, 88, 84, 97, 112, 101, 33, 26]⟩) w' := fun w' hb => by
    rw [← sign_str]
    refine conv_reads (B := w.heap.size) w' _ _ _ Tryz.underlying24 Tryz.underlying5 Tryz.underlying9 c ?_
    refine ⟨by decide, fun _ => ?_⟩
    obtain ⟨a2, e, hb2, hc⟩ := (hF.rd.below hb).2 (by omega)
    exact ⟨a2, e, hb2, fun j u hu => hc j u (by
      rw [hf, List.map_append]
      have hj : j < 8 := by
        rcases Nat.lt_or_ge j 8 with h | h
        · exact h
        · rw [List.getElem?_eq_none (by simpa [signB] using h)] at hu; cases hu
      rw [List.getElem?_append_left (by rw [List.length_map, headB_len]; omega)]
      unfold headB
      rw [List.map_append, List.getElem?_append_left (by rw [List.length_map]; exact hj)]
      exact hu)⟩
  have H0 := Lib.hid (And.intro hF (And.intro hf (And.intro ho hn)))
  have HCV := Lib.hid hcv
  clear hF hf ho hn hlen hbl hcv
  go_enter Tryz.func76, Tryz.ntmps76
  go_upto_region 1 with fail
  have hb0 : Below w.heap.size w (w.alloc (.cells #[.int .i64 0, .int .i64 0, .slice none 0 0] 66)) := (Below.refl _ _).alloc (Nat.le_refl _) _
  have hT0 : Blk (w.alloc (.cells #[.int .i64 0, .int .i64 0, .slice none 0 0] 66)) w.heap.size 66 #[.int .i64 0, .int .i64 0, .slice none 0 0] := Blk.new w _ _
  have hs0 : (w.alloc (.cells #[.int .i64 0, .int .i64 0, .slice none 0 0] 66)).heap.size = w.heap.size + 1 := by simp
  generalize (w.alloc (.cells #[.int .i64 0, .int .i64 0, .slice none 0 0] 66)) = w0 at *
  have hcv0 := HCV.out w0 hb0
  have hF0 : FileAt w0 w0.heap.size (some ad) N c file := ⟨(H0.out.1.rd.below hb0).more (by omega), H0.out.1.u8, H0.out.1.cap, H0.out.1.capm⟩
  have H1 := Lib.hid (And.intro hb0 (And.intro hT0 (And.intro hF0 hs0)))
  clear hb0 hT0 hF0 hs0
  go_wp2_with fail
  refine (read_new w0 _ N c).mono ?_
  rintro e w1 ⟨rfl, hR1, hb1⟩
  clear hcv0
  go_upto_region 6 with fail
  have hb2 : Below w1.heap.size w1 (w1.alloc (.cells #[.pointer (some ⟨w0.heap.size, 0, none⟩), .slice none 0 0, .slice none 0 0] 204)) := (Below.refl _ _).alloc (Nat.le_refl _) _
  have hP2 : PBox (w1.alloc (.cells #[.pointer (some ⟨w0.heap.size, 0, none⟩), .slice none 0 0, .slice none 0 0] 204)) w1.heap.size w0.heap.size (.slice none 0 0) (.slice none 0 0) := Blk.new w1 _ _
  generalize (w1.alloc (.cells #[.pointer (some ⟨w0.heap.size, 0, none⟩), .slice none 0 0, .slice none 0 0] 204)) = w2 at *
  have hbl2 : Below w0.heap.size w0 w2 := bthen hb1 hb2
  have hF2 := H1.out.2.2.1.keep hbl2
  have hR2 : Rd w2 w0.heap.size (some ad) N c 0 none := hR1.below hb2
  have hp0 : w0.heap.size ≤ w1.heap.size := hb1.size
  have c0 := hP2.c0
  have htk := take_ok (k := 8) (p := 0) hR2 hF2.rd (Nat.le_refl _) (by omega) hF2.cap (by omega) hF2.capm (by intro e; cases e)
  have H2 := Lib.hid (And.intro hbl2 (And.intro hF2 (And.intro hR2 hP2)))
  clear hb2 hP2 hbl2 hF2 hR2 hR1 hb1
  go_wp2_with fail
  refine htk.mono ?_
  rintro e w3 ⟨v, rfl, _, hR3, hg3⟩
  have hbg : Below w0.heap.size w2 w3 := grown_below hg3 H2.out.1.size (Nat.le_refl _)
  have H3 := Lib.hid (And.intro (H2.out.1.trans hbg) (And.intro (H2.out.2.1.keep hbg) (And.intro hR3 (H2.out.2.2.2.grown H2.out.2.2.1 hg3))))
  clear hR3 hg3 hbg H2 c0 htk
  go_upto_region 7 with fail
  go_cut [5] from 40 to 50 (fun s wx => ∃ t, s = .pointer (some ⟨t, 0, none⟩) ∧ w0.heap.size ≤ t ∧ Blk wx t 66 #[.int .i64 1, .int .i64 20, .slice none 0 0] ∧ PBox wx w1.heap.size w0.heap.size (.slice none 0 0) (.slice none 0 0) ∧ Rd wx w0.heap.size (some ad) N c 10 none ∧ Below w0.heap.size w0 wx)
  case first =>
    refine Early.begin (S := fun w' => PBox w' w1.heap.size w0.heap.size (.slice none 0 0) (.slice none 0 0)) (late := []) (by kernel_rfl) ?_
    have hM0 : Md w0.heap.size w1.heap.size w0.heap.size (some ad) N c file w3.drew w3.drew 8 := ⟨Below.refl _ _, H3.out.2.2.1, H3.out.2.2.2, ⟨H3.out.2.1.rd, H3.out.2.1.u8, H3.out.2.1.cap, H3.out.2.1.capm⟩, Nat.le_refl _⟩
    have hB3 : Below w0.heap.size w0 w3.drew := H3.out.1.drew
    generalize w3.drew = W at *
    have hBW : w0.heap.size ≤ W.heap.size := hB3.size
    have HM0 := Lib.hid hM0
    have hSa := hM0.2.2.1
    clear hM0
    refine Early.takeW (i := 0) (oi := _) (v := ?_) (by simp only [List.getElem?_toArray, List.getElem?_cons_succ, List.getElem?_cons_zero]; rfl) (by kernel_rfl) (by kernel_rfl) (by kernel_rfl) (by kernel_rfl) (by kernel_rfl) (by intro _ _ _ h; exact h) (Or.inl ⟨by rfl, ?_⟩) (fun _ => hSa) ?_
    rotate_left
    · intro w9 _
      go_simp
      try with_reducible rfl
    try simp only [Act.put, List.setIfInBounds_toArray, List.set_cons_zero, List.set_cons_succ]
    refine Early.takeW (i := 1) (oi := _) (v := ?_) (by simp only [List.getElem?_toArray, List.getElem?_cons_succ, List.getElem?_cons_zero]; rfl) (by kernel_rfl) (by kernel_rfl) (by kernel_rfl) (by kernel_rfl) (by kernel_rfl) (by intro _ _ _ h; exact h) (Or.inl ⟨by rfl, ?_⟩) (fun _ => hSa) ?_
    rotate_left
    · intro w9 _
      go_simp
      try with_reducible rfl
    try simp only [Act.put, List.setIfInBounds_toArray, List.set_cons_zero, List.set_cons_succ]
    refine Early.takeW (i := 2) (oi := _) (v := ?_) (by simp only [List.getElem?_toArray, List.getElem?_cons_succ, List.getElem?_cons_zero]; rfl) (by kernel_rfl) (by kernel_rfl) (by kernel_rfl) (by kernel_rfl) (by kernel_rfl) (by intro _ _ _ h; exact h) (Or.inl ⟨by rfl, ?_⟩) (fun _ => hSa) ?_
    rotate_left
    · intro w9 _
      go_simp
      try with_reducible rfl
    try simp only [Act.put, List.setIfInBounds_toArray, List.set_cons_zero, List.set_cons_succ]
    refine Early.take (i := 3) (oi := _) (v := ?_) (by simp only [List.getElem?_toArray, List.getElem?_cons_succ, List.getElem?_cons_zero]; rfl) (by kernel_rfl) (by kernel_rfl) (by kernel_rfl) (by kernel_rfl) (by kernel_rfl) (by kernel_rfl) (by intro _ _ _ h; exact h) (Or.inl ⟨by rfl, ?_⟩) hSa ?_
    rotate_left
    · intro w9 hSw
      have c1 := PBox.c0 hSw
      go_simp
      try with_reducible rfl
    try simp only [Act.put, List.setIfInBounds_toArray, List.set_cons_zero, List.set_cons_succ]
    refine Early.takeW (i := 5) (oi := _) (v := ?_) (by simp only [List.getElem?_toArray, List.getElem?_cons_succ, List.getElem?_cons_zero]; rfl) (by kernel_rfl) (by kernel_rfl) (by kernel_rfl) (by kernel_rfl) (by kernel_rfl) (by intro _ _ _ h; exact h) (Or.inl ⟨by rfl, ?_⟩) (fun _ => hSa) ?_
    rotate_left
    · intro w9 _
      go_simp
      try with_reducible rfl
    try simp only [Act.put, List.setIfInBounds_toArray, List.set_cons_zero, List.set_cons_succ]
    refine Early.takeW (i := 6) (oi := _) (v := ?_) (by simp only [List.getElem?_toArray, List.getElem?_cons_succ, List.getElem?_cons_zero]; rfl) (by kernel_rfl) (by kernel_rfl) (by kernel_rfl) (by kernel_rfl) (by kernel_rfl) (by intro _ _ _ h; exact h) (Or.inl ⟨by rfl, ?_⟩) (fun _ => hSa) ?_
    rotate_left
    · intro w9 _
      go_simp
      try with_reducible rfl
    try simp only [Act.put, List.setIfInBounds_toArray, List.set_cons_zero, List.set_cons_succ]
    refine Early.takeW (i := 7) (oi := _) (v := ?_) (by simp only [List.getElem?_toArray, List.getElem?_cons_succ, List.getElem?_cons_zero]; rfl) (by kernel_rfl) (by kernel_rfl) (by kernel_rfl) (by kernel_rfl) (by kernel_rfl) (by intro _ _ _ h; exact h) (Or.inl ⟨by rfl, ?_⟩) (fun _ => hSa) ?_
    rotate_left
    · intro w9 _
      go_simp
      try with_reducible rfl
    try simp only [Act.put, List.setIfInBounds_toArray, List.set_cons_zero, List.set_cons_succ]
    refine Early.take (i := 8) (oi := _) (v := ?_) (by simp only [List.getElem?_toArray, List.getElem?_cons_succ, List.getElem?_cons_zero]; rfl) (by kernel_rfl) (by kernel_rfl) (by kernel_rfl) (by kernel_rfl) (by kernel_rfl) (by kernel_rfl) (by intro _ _ _ h; exact h) (Or.inl ⟨by rfl, ?_⟩) hSa ?_
    rotate_left
    · intro w9 hSw
      have c1 := PBox.c0 hSw
      go_simp
      try with_reducible rfl
    try simp only [Act.put, List.setIfInBounds_toArray, List.set_cons_zero, List.set_cons_succ]
    refine Early.ready (rs := [4, 11]) (by kernel_rfl) (by simp) ?_
    refine Early.rest.cons (o := _) (by simp only [List.getElem?_toArray, List.getElem?_cons_succ, List.getElem?_cons_zero]; rfl) (fun K hK => ?_) (Early.rest.cons (o := _) (by simp only [List.getElem?_toArray, List.getElem?_cons_succ, List.getElem?_cons_zero]; rfl) (fun K hK => ?_) Early.rest.nil)
    · have hnum := HM0.out.2.2.2.1.num (m := 1) (q := 8) signB (bytesL 1 20 ++ blksB dl) 1 HM0.out.2.1 (Nat.le_refl _) (by omega) (by omega) (by rw [H0.out.2.1]; simp [headB, flatL]) rfl (by omega) (by decide)
      go_simp
      refine hnum.mono ?_
      rintro e W1 ⟨rfl, hRn, hgn⟩
      have hMn := HM0.out.num hBW (Nat.le_refl _) hRn hgn
      go_wp2_with fail
      refine hK.out _ _ (fun _ => hMn.2.2.1) ?_
      clear hK K hnum
      try simp only [Act.put, List.setIfInBounds_toArray, List.set_cons_zero, List.set_cons_succ]
      have HM1 := Lib.hid hMn
      clear hMn hRn hgn
      refine Early.ready (rs := [9, 11]) (by kernel_rfl) (by simp) ?_
      refine Early.rest.cons (o := _) (by simp only [List.getElem?_toArray, List.getElem?_cons_succ, List.getElem?_cons_zero]; rfl) (fun K hK => ?_) (Early.rest.cons (o := _) (by simp only [List.getElem?_toArray, List.getElem?_cons_succ, List.getElem?_cons_zero]; rfl) (fun K hK => ?_) Early.rest.nil)
      · have hnum := HM1.out.2.2.2.1.num (m := 1) (q := 9) (signB ++ bytesL 1 1) (blksB dl) 20 HM1.out.2.1 (Nat.le_refl _) (by omega) (by omega) (by rw [H0.out.2.1]; simp [headB, flatL]) rfl (by omega) (by decide)
        go_simp
        refine hnum.mono ?_
        rintro e W2 ⟨rfl, hRn, hgn⟩
        have hMn := HM1.out.num hBW (Nat.le_refl _) hRn hgn
        go_wp2_with fail
        refine hK.out _ _ (fun _ => hMn.2.2.1) ?_
        clear hK K hnum
        try simp only [Act.put, List.setIfInBounds_toArray, List.set_cons_zero, List.set_cons_succ]
        have HM2 := Lib.hid hMn
        clear hMn hRn hgn
        refine Early.takeW (i := 10) (oi := _) (v := ?_) (by simp only [List.getElem?_toArray, List.getElem?_cons_succ, List.getElem?_cons_zero]; rfl) (by kernel_rfl) (by kernel_rfl) (by kernel_rfl) (by kernel_rfl) (by kernel_rfl) (by intro _ _ _ h; exact h) (Or.inl ⟨by rfl, ?_⟩) (fun _ => HM2.out.2.2.1) ?_
        rotate_left
        · intro w9 _
          go_simp
          try with_reducible rfl
        try simp only [Act.put, List.setIfInBounds_toArray, List.set_cons_zero, List.set_cons_succ]
        refine Early.ready (rs := [11]) (by kernel_rfl) (by simp) ?_
        refine Early.rest.cons (o := _) (by simp only [List.getElem?_toArray, List.getElem?_cons_succ, List.getElem?_cons_zero]; rfl) (fun K hK => ?_) Early.rest.nil
        go_simp
        have hMn := HM2.out.alloc hBW (.cells #[.int .i64 0, .int .i64 0, .slice none 0 0] 66)
        have hx3 : Blk (W2.alloc (.cells #[.int .i64 0, .int .i64 0, .slice none 0 0] 66)) W2.heap.size 66 #[.int .i64 0, .int .i64 0, .slice none 0 0] := Blk.new _ _ _
        have hlo3 : W.heap.size ≤ W2.heap.size := HM2.out.2.2.2.2
        refine hK.out _ _ (fun _ => hMn.2.2.1) ?_
        clear hK K
        try simp only [Act.put, List.setIfInBounds_toArray, List.set_cons_zero, List.set_cons_succ]
        generalize (W2.alloc (.cells #[.int .i64 0, .int .i64 0, .slice none 0 0] 66)) = W3 at *
        have HM3 := Lib.hid hMn
        clear hMn
        refine Early.ready (rs := [12]) (by kernel_rfl) (by simp) ?_
        refine Early.rest.cons (o := _) (by simp only [List.getElem?_toArray, List.getElem?_cons_succ, List.getElem?_cons_zero]; rfl) (fun K hK => ?_) Early.rest.nil
        refine step_store_box rfl 66 _ _ (by rfl) W2.heap.size #[.int .i64 1, .int .i64 20, .slice none 0 0] (by rfl) (by rfl) 66 #[.int .i64 0, .int .i64 0, .slice none 0 0] hx3 tapeInfo' rfl (by simp [Value.oneCell']) ?_
        intro w5 hB5 hg5
        have hpx : PBox w5 w1.heap.size w0.heap.size (.slice none 0 0) (.slice none 0 0) := Blk.grown HM3.out.2.2.1 hg5 (fun e => Blk.ne_ HM3.out.2.2.1 hx3 (by decide) (by injection e))
        have hrx : Rd w5 w0.heap.size (some ad) N c 10 none := Blk.grown HM3.out.2.1 hg5 (fun e => Blk.ne_ HM3.out.2.1 hx3 (by decide) (by injection e))
        have hbx : Below w0.heap.size w0 w5 := (hB3.trans HM3.out.1).grown hg5 (Nat.le_trans hBW HM3.out.2.2.2.2) (fun b hb => by injection hb with hb; omega)
        have hfin := Lib.hid (And.intro hB5 (And.intro hpx (And.intro hrx hbx)))
        refine hK.out _ _ (fun _ => hpx) ?_
        clear hK K hB5 hpx hrx hbx
        try simp only [Act.put, List.setIfInBounds_toArray, List.set_cons_zero, List.set_cons_succ]
        refine Early.done (by kernel_rfl) ?_ _
        go_wp2_with fail
        go_meet
        exact ⟨_, rfl, Nat.le_trans hBW hlo3, hfin.out⟩
      · go_simp
        have hMn := HM1.out.alloc hBW (.cells #[.int .i64 0, .int .i64 0, .slice none 0 0] 66)
        have hx4 : Blk (W1.alloc (.cells #[.int .i64 0, .int .i64 0, .slice none 0 0] 66)) W1.heap.size 66 #[.int .i64 0, .int .i64 0, .slice none 0 0] := Blk.new _ _ _
        have hlo4 : W.heap.size ≤ W1.heap.size := HM1.out.2.2.2.2
        refine hK.out _ _ (fun _ => hMn.2.2.1) ?_
        clear hK K
        try simp only [Act.put, List.setIfInBounds_toArray, List.set_cons_zero, List.set_cons_succ]
        generalize (W1.alloc (.cells #[.int .i64 0, .int .i64 0, .slice none 0 0] 66)) = W4 at *
        have HM4 := Lib.hid hMn
        clear hMn
        refine Early.ready (rs := [9]) (by kernel_rfl) (by simp) ?_
        refine Early.rest.cons (o := _) (by simp only [List.getElem?_toArray, List.getElem?_cons_succ, List.getElem?_cons_zero]; rfl) (fun K hK => ?_) Early.rest.nil
        have hnum := HM4.out.2.2.2.1.num (m := 1) (q := 9) (signB ++ bytesL 1 1) (blksB dl) 20 HM4.out.2.1 (Nat.le_refl _) (by omega) (by omega) (by rw [H0.out.2.1]; simp [headB, flatL]) rfl (by omega) (by decide)
        go_simp
        refine hnum.mono ?_
        rintro e W5 ⟨rfl, hRn, hgn⟩
        have hMn := HM4.out.num hBW (Nat.le_refl _) hRn hgn
        go_wp2_with fail
        refine hK.out _ _ (fun _ => hMn.2.2.1) ?_
        clear hK K hnum
        try simp only [Act.put, List.setIfInBounds_toArray, List.set_cons_zero, List.set_cons_succ]
        have hx5 := Blk.grown hx4 hgn (fun e => Blk.ne_ hx4 HM4.out.2.1 (by decide) (by injection e))
        have HM5 := Lib.hid hMn
        clear hMn hRn hgn
        refine Early.takeW (i := 10) (oi := _) (v := ?_) (by simp only [List.getElem?_toArray, List.getElem?_cons_succ, List.getElem?_cons_zero]; rfl) (by kernel_rfl) (by kernel_rfl) (by kernel_rfl) (by kernel_rfl) (by kernel_rfl) (by intro _ _ _ h; exact h) (Or.inl ⟨by rfl, ?_⟩) (fun _ => HM5.out.2.2.1) ?_
        rotate_left
        · intro w9 _
          go_simp
          try with_reducible rfl
        try simp only [Act.put, List.setIfInBounds_toArray, List.set_cons_zero, List.set_cons_succ]
        refine Early.ready (rs := [12]) (by kernel_rfl) (by simp) ?_
        refine Early.rest.cons (o := _) (by simp only [List.getElem?_toArray, List.getElem?_cons_succ, List.getElem?_cons_zero]; rfl) (fun K hK => ?_) Early.rest.nil
        refine step_store_box rfl 66 _ _ (by rfl) W1.heap.size #[.int .i64 1, .int .i64 20, .slice none 0 0] (by rfl) (by rfl) 66 #[.int .i64 0, .int .i64 0, .slice none 0 0] hx5 tapeInfo' rfl (by simp [Value.oneCell']) ?_
        intro w5 hB5 hg5
        have hpx : PBox w5 w1.heap.size w0.heap.size (.slice none 0 0) (.slice none 0 0) := Blk.grown HM5.out.2.2.1 hg5 (fun e => Blk.ne_ HM5.out.2.2.1 hx5 (by decide) (by injection e))
        have hrx : Rd w5 w0.heap.size (some ad) N c 10 none := Blk.grown HM5.out.2.1 hg5 (fun e => Blk.ne_ HM5.out.2.1 hx5 (by decide) (by injection e))
        have hbx : Below w0.heap.size w0 w5 := (hB3.trans HM5.out.1).grown hg5 (Nat.le_trans hBW HM5.out.2.2.2.2) (fun b hb => by injection hb with hb; omega)
        have hfin := Lib.hid (And.intro hB5 (And.intro hpx (And.intro hrx hbx)))
        refine hK.out _ _ (fun _ => hpx) ?_
        clear hK K hB5 hpx hrx hbx
        try simp only [Act.put, List.setIfInBounds_toArray, List.set_cons_zero, List.set_cons_succ]
        refine Early.done (by kernel_rfl) ?_ _
        go_wp2_with fail
        go_meet
        exact ⟨_, rfl, Nat.le_trans hBW hlo4, hfin.out⟩
    · go_simp
      have hMn := HM0.out.alloc hBW (.cells #[.int .i64 0, .int .i64 0, .slice none 0 0] 66)
      have hx6 : Blk (W.alloc (.cells #[.int .i64 0, .int .i64 0, .slice none 0 0] 66)) W.heap.size 66 #[.int .i64 0, .int .i64 0, .slice none 0 0] := Blk.new _ _ _
      have hlo6 : W.heap.size ≤ W.heap.size := HM0.out.2.2.2.2
      refine hK.out _ _ (fun _ => hMn.2.2.1) ?_
      clear hK K
      try simp only [Act.put, List.setIfInBounds_toArray, List.set_cons_zero, List.set_cons_succ]
      generalize (W.alloc (.cells #[.int .i64 0, .int .i64 0, .slice none 0 0] 66)) = W6 at *
      have HM6 := Lib.hid hMn
      clear hMn
      refine Early.ready (rs := [4]) (by kernel_rfl) (by simp) ?_
      refine Early.rest.cons (o := _) (by simp only [List.getElem?_toArray, List.getElem?_cons_succ, List.getElem?_cons_zero]; rfl) (fun K hK => ?_) Early.rest.nil
      have hnum := HM6.out.2.2.2.1.num (m := 1) (q := 8) signB (bytesL 1 20 ++ blksB dl) 1 HM6.out.2.1 (Nat.le_refl _) (by omega) (by omega) (by rw [H0.out.2.1]; simp [headB, flatL]) rfl (by omega) (by decide)
      go_simp
      refine hnum.mono ?_
      rintro e W7 ⟨rfl, hRn, hgn⟩
      have hMn := HM6.out.num hBW (Nat.le_refl _) hRn hgn
      go_wp2_with fail
      refine hK.out _ _ (fun _ => hMn.2.2.1) ?_
      clear hK K hnum
      try simp only [Act.put, List.setIfInBounds_toArray, List.set_cons_zero, List.set_cons_succ]
      have hx7 := Blk.grown hx6 hgn (fun e => Blk.ne_ hx6 HM6.out.2.1 (by decide) (by injection e))
      have HM7 := Lib.hid hMn
      clear hMn hRn hgn
      refine Early.ready (rs := [9]) (by kernel_rfl) (by simp) ?_
      refine Early.rest.cons (o := _) (by simp only [List.getElem?_toArray, List.getElem?_cons_succ, List.getElem?_cons_zero]; rfl) (fun K hK => ?_) Early.rest.nil
      have hnum := HM7.out.2.2.2.1.num (m := 1) (q := 9) (signB ++ bytesL 1 1) (blksB dl) 20 HM7.out.2.1 (Nat.le_refl _) (by omega) (by omega) (by rw [H0.out.2.1]; simp [headB, flatL]) rfl (by omega) (by decide)
      go_simp
      refine hnum.mono ?_
      rintro e W8 ⟨rfl, hRn, hgn⟩
      have hMn := HM7.out.num hBW (Nat.le_refl _) hRn hgn
      go_wp2_with fail
      refine hK.out _ _ (fun _ => hMn.2.2.1) ?_
      clear hK K hnum
      try simp only [Act.put, List.setIfInBounds_toArray, List.set_cons_zero, List.set_cons_succ]
      have hx8 := Blk.grown hx7 hgn (fun e => Blk.ne_ hx7 HM7.out.2.1 (by decide) (by injection e))
      have HM8 := Lib.hid hMn
      clear hMn hRn hgn
      refine Early.takeW (i := 10) (oi := _) (v := ?_) (by simp only [List.getElem?_toArray, List.getElem?_cons_succ, List.getElem?_cons_zero]; rfl) (by kernel_rfl) (by kernel_rfl) (by kernel_rfl) (by kernel_rfl) (by kernel_rfl) (by intro _ _ _ h; exact h) (Or.inl ⟨by rfl, ?_⟩) (fun _ => HM8.out.2.2.1) ?_
      rotate_left
      · intro w9 _
        go_simp
        try with_reducible rfl
      try simp only [Act.put, List.setIfInBounds_toArray, List.set_cons_zero, List.set_cons_succ]
      refine Early.ready (rs := [12]) (by kernel_rfl) (by simp) ?_
      refine Early.rest.cons (o := _) (by simp only [List.getElem?_toArray, List.getElem?_cons_succ, List.getElem?_cons_zero]; rfl) (fun K hK => ?_) Early.rest.nil
      refine step_store_box rfl 66 _ _ (by rfl) W.heap.size #[.int .i64 1, .int .i64 20, .slice none 0 0] (by rfl) (by rfl) 66 #[.int .i64 0, .int .i64 0, .slice none 0 0] hx8 tapeInfo' rfl (by simp [Value.oneCell']) ?_
      intro w5 hB5 hg5
      have hpx : PBox w5 w1.heap.size w0.heap.size (.slice none 0 0) (.slice none 0 0) := Blk.grown HM8.out.2.2.1 hg5 (fun e => Blk.ne_ HM8.out.2.2.1 hx8 (by decide) (by injection e))
      have hrx : Rd w5 w0.heap.size (some ad) N c 10 none := Blk.grown HM8.out.2.1 hg5 (fun e => Blk.ne_ HM8.out.2.1 hx8 (by decide) (by injection e))
      have hbx : Below w0.heap.size w0 w5 := (hB3.trans HM8.out.1).grown hg5 (Nat.le_trans hBW HM8.out.2.2.2.2) (fun b hb => by injection hb with hb; omega)
      have hfin := Lib.hid (And.intro hB5 (And.intro hpx (And.intro hrx hbx)))
      refine hK.out _ _ (fun _ => hpx) ?_
      clear hK K hB5 hpx hrx hbx
      try simp only [Act.put, List.setIfInBounds_toArray, List.set_cons_zero, List.set_cons_succ]
      refine Early.done (by kernel_rfl) ?_ _
      go_wp2_with fail
      go_meet
      exact ⟨_, rfl, Nat.le_trans hBW hlo6, hfin.out⟩
  case rest =>
  obtain ⟨t5, rfl, ht50, hB5, hpx, hrx, hbx⟩ := hcut
  have H5 := Lib.hid (And.intro hB5 (And.intro (prs_mid wc w0.heap.size w1.heap.size w0.heap.size wc.heap.size N c 10 (some ad) hrx hpx hp0 (Nat.le_refl _)) hbx))
  clear hB5 hpx hrx hbx
  go_upto_region 8 with fail
  obtain ⟨n, hnn⟩ : ∃ n : Nat, dl.length = n := ⟨_, rfl⟩
  have HN := Lib.hid hnn
  clear hnn
  go_loopg [] n (fun m wr => ∃ (k : Nat) (VB VS : Value), k + m = n ∧ PrsAt wr w0.heap.size wc.heap.size w1.heap.size w0.heap.size (some ad) N c (10 + (blksB (dl.take k)).length) (dl.take k) VB VS ∧ Below w0.heap.size w0 wr ∧ wc.heap.size ≤ wr.heap.size ∧ Blk wr t5 66 #[.int .i64 1, .int .i64 20, .slice none 0 0])
  case atStart => exact ⟨0, .slice none 0 0, .slice none 0 0, by omega, by simpa [blksB] using H5.out.2.1, H5.out.2.2, Nat.le_refl _, H5.out.1⟩
  case round =>
    obtain ⟨k, VB, VS, hk, hP, hbr, hwc, hBt⟩ := hrel
    have hNl : N = 10 + (blksB dl).length := by have := rd_len H0.out.1.rd; rw [H0.out.2.1, List.length_append, headB_len] at this; omega
    have hBr : w0.heap.size ≤ wr.heap.size := hbr.size
    by_cases hlt : k < n
    · have hat := blksB_at dl k (by rw [HN.out]; exact hlt)
      have hsp := take_snocB dl k (by rw [HN.out]; exact hlt)
      have hour := ours_at H0.out.2.2.1 (i := k) (by rw [HN.out]; exact hlt)
      have htl : (dl.take k).length = k := by rw [List.length_take, HN.out]; omega
      have hn3 : n ≤ 300 := by rw [← HN.out]; exact H0.out.2.2.2
      generalize dl.getD k default = d at *
      have hpos := blkB_pos d
      have hsum : (blksB dl).length = (blksB (dl.take k)).length + ((blkB d).length + (blksB (dl.drop (k + 1))).length) := by rw [hat]; simp only [List.length_append]
      have hsn2 : (blksB (dl.take (k + 1))).length = (blksB (dl.take k)).length + (blkB d).length := by rw [hsp, blksB_snoc, List.length_append]
      have hblk := fun j : Nat => block_any (w := wr.drewN j) (d := d) (headB ++ blksB (dl.take k)) (blksB (dl.drop (k + 1))) (hP.below (below_drewN wr _ j)) ((H1.out.2.2.1.keep hbr).keep (below_drewN wr _ j)) (show w0.heap.size ≤ (wr.drewN j).heap.size from hBr) (show wc.heap.size ≤ (wr.drewN j).heap.size from hwc) hour (by rw [htl]; omega) (by rw [H0.out.2.1, hat]; simp only [List.append_assoc]) (by rw [List.length_append, headB_len])
      rw [← hsp] at hblk
      have hleft := left_ok hP.rd (by omega) (by omega)
      have c0 := hP.box.c0
      have c1 := (Blk.cell hP.box 1).trans (show _ = some VB from rfl)
      obtain ⟨xs, hrow, _⟩ := hP.row
      obtain ⟨Av, cv, rfl⟩ := own_slice hrow
      rw [htl] at c1
      generalize hql : 10 + (blksB (dl.take k)).length = q at *
      have hgt : (0 : Int) < (N : Int) - (q : Int) := by omega
      have HB := Lib.hid (And.intro hblk (And.intro hP (And.intro hbr (And.intro hBt (And.intro hsn2 hql)))))
      clear hblk hP hbr hBt hsn2 hrow hsum hat hsp hour hNl hpos htl
      go_wp2_with fail
      refine hleft.mono ?_
      rintro e w5 ⟨rfl, j5, rfl⟩
      go_wp2_with fail
      refine (HB.out.1 j5).mono ?_
      rintro e w6 ⟨⟨u6, rfl⟩, ⟨hb6, hk6⟩, VB6, VS6, hP6⟩
      obtain ⟨_, hP, hbr, hBt, hsn2, hql⟩ := HB.out
      obtain ⟨xs2, hrow, _⟩ := hP.row
      obtain ⟨ss2, hst⟩ := hP.starts
      have hBt6 : Blk w6 t5 66 #[.int .i64 1, .int .i64 20, .slice none 0 0] := (hk6 t5 hBt.lt (fun e => hBt.ne_ hP.box (by decide) e) (fun e => hBt.ne_ hP.rd (by decide) e) (own_blk_ne hrow hBt (by decide)) (own_blk_ne hst hBt (by decide))).trans hBt
      have hwc6 : wc.heap.size ≤ w6.heap.size := by have h1 : wr.heap.size ≤ w6.heap.size := hb6.size; omega
      have H6 := Lib.hid (And.intro hP6 (And.intro (hbr.trans ((below_drewN wr _ j5).trans hb6)) (And.intro hBt6 (And.intro hsn2 hql))))
      clear hP hbr hBt hsn2 hrow hst hBt6 hb6 hk6 hP6 hleft c0 c1
      go_wp2_with fail
      go_roundg (n - (k + 1))
      case measure => omega
      case rel => exact ⟨k + 1, VB6, VS6, by omega, by rw [show 10 + (blksB (dl.take (k + 1))).length = q + (blkB d).length by have := H6.out.2.2.2.1; have := H6.out.2.2.2.2; omega]; exact H6.out.1, H6.out.2.1, hwc6, H6.out.2.2.1⟩
    · obtain rfl : k = n := by omega
      rw [List.take_of_length_le (by rw [HN.out]; omega), ← hNl] at hP
      have hleft := left_ok hP.rd (by omega) (by omega)
      have c0 := hP.box.c0
      have hg0 : (N : Int) - (N : Int) = 0 := by omega
      rw [hg0] at hleft
      have HB := Lib.hid (And.intro hP (And.intro hbr hBt))
      have hend := end_ok hP.rd
      clear hP hbr hBt hNl
      go_wp2_with fail
      refine hleft.mono ?_
      rintro e w5 ⟨rfl, j5, rfl⟩
      obtain ⟨hP, hbr, hBt⟩ := HB.out
      have hP5 := hP.below (below_drewN wr _ j5)
      have d0 := hP5.box.c0
      have hend5 := end_ok hP5.rd
      have H7 := Lib.hid (And.intro hP5 (And.intro (hbr.trans (below_drewN wr _ j5)) (hBt.drewN j5)))
      clear hP hbr hBt hP5 hleft hend c0 HB hg0
      generalize wr.drewN j5 = w5 at *
      go_wp2_with fail
      refine hend5.mono ?_
      rintro e w6 ⟨rfl, j6, rfl⟩
      obtain ⟨hP5, hbr, hBt⟩ := H7.out
      have hP6 := hP5.below (below_drewN w5 _ j6)
      have hbr6 := hbr.trans (below_drewN w5 _ j6)
      have hBt6 := hBt.drewN j6
      clear hP5 hbr hBt hend5 d0 H7
      generalize w5.drewN j6 = w6 at *
      obtain ⟨xs, hrow, hblks⟩ := hP6.row
      obtain ⟨Av, cv, rfl⟩ := own_slice hrow
      rw [HN.out] at hrow
      have hc6 : PBox w6 w1.heap.size w0.heap.size (.slice Av k cv) VS := HN.out ▸ hP6.box
      have c1 := (Blk.cell hc6 1).trans (show _ = some (.slice Av k cv) from rfl)
      have ht5 : t5 < wc.heap.size := H5.out.1.lt
      have hrd := rdp_ne hrow (own_blk_ne hrow hBt6 (by decide))
      have hsnd := sound_tape w6 Av k cv xs dl (hrd.keep (fun _ _ => rfl) (fun b hb => hb.2.1)) (BlksAt.keep (fun _ _ => rfl) (fun b hb => hb.2.1) hblks) H0.out.2.2.1 H0.out.2.2.2
      have H8 := Lib.hid (And.intro hrd (And.intro hblks (And.intro hc6 (And.intro hbr6 hBt6))))
      clear hrd hblks hc6 hbr6 hBt6 hrow hP6
      go_wp2_with fail
      refine hsnd.mono ?_
      rintro e w7 ⟨rfl, hb7⟩
      obtain ⟨hrd, hblks, hc6, hbr6, hBt6⟩ := H8.out
      have hc7 : PBox w7 w1.heap.size w0.heap.size (.slice Av k cv) VS := Blk.below hc6 hb7 (Blk.lt hc6)
      have hBt7 := hBt6.below hb7 hBt6.lt
      have d1 := (Blk.cell hc7 1).trans (show _ = some (.slice Av k cv) from rfl)
      have f2 : w7.frozen? ⟨t5, 2, none⟩ = false := hBt7.frozen 2
      have e2 : w7.cell? ⟨t5, 2, none⟩ = some (.slice none 0 0) := (hBt7.cell 2).trans rfl
      have hT8 : Blk (w7.setCell ⟨t5, 2, none⟩ (.slice Av k cv)) t5 66 #[.int .i64 1, .int .i64 20, .slice Av k cv] := hBt7.set_ 2 _
      have hw5 : w0.heap.size ≤ t5 ∨ t5 < w0.heap.size := by omega
      have H9 := Lib.hid (And.intro hrd (And.intro hblks (And.intro hbr6 (And.intro hb7 hT8))))
      have hR8 : Blk (w7.setCell ⟨t5, 2, none⟩ (.slice Av k cv)) w.heap.size 66 #[.int .i64 0, .int .i64 0, .slice none 0 0] := Blk.far (p := ⟨t5, 2, none⟩) ((H1.out.2.1.below (hbr6.trans (hb7.mono hbr6.size)) (by have := H1.out.2.2.2; omega))) (fun e => by have := H1.out.2.2.2; have e : w.heap.size = t5 := e; omega) _
      clear hrd hblks hc6 hbr6 hb7 hBt6 hc7 hBt7 H8 hsnd c1
      go_wp2_with (first
        | (refine wpList_load_box rfl 66 _ rfl t5 rfl 66 #[.int .i64 1, .int .i64 20, .slice Av k cv] hT8 _ Tryz.underlying66 rfl tapeInfo' ?_)
        | (refine wpList_store_box rfl 66 _ _ rfl w.heap.size #[.int .i64 1, .int .i64 20, .slice Av k cv] rfl rfl 66 #[.int .i64 0, .int .i64 0, .slice none 0 0] hR8 tapeInfo' rfl (by simp [Value.oneCell']) ?_)
        | fail)
      try (refine fun (_ : Hid _) => ?_)
      refine wpList_store_box rfl 66 _ _ rfl w.heap.size #[.int .i64 1, .int .i64 20, .slice Av k cv] rfl rfl 66 #[.int .i64 0, .int .i64 0, .slice none 0 0] hR8 tapeInfo' rfl (by simp [Value.oneCell']) ?_
      intro w9 hB9 hg9
      have H10 := Lib.hid hg9
      clear hT8 hR8 hg9
      go_wp2_with fail
      refine bodyPost_ret (Tl.results_cell_tmp9 rfl _ _ w.heap.size 66 _ (0, 0) _ rfl hB9 Tryz.underlying66 rfl tapeInfo') rfl ?_
      obtain ⟨hrd, hblks, hbr6, hb7, _⟩ := H9.out
      have hs0 := H1.out.2.2.2
      have hg9 := H10.out
      have hs7 : w7.heap.size ≤ w9.heap.size := by have := hg9.size; simpa [World.setCell] using this
      have hsame : ∀ b, w0.heap.size ≤ b → b < w6.heap.size → b ≠ t5 → w9.heap[b]? = w6.heap[b]? := fun b h1 h2 h3 => (hg9.block b (by have := hb7.size; simp only [World.setCell]; simp; omega) (fun e => by injection e with e; omega)).trans ((Below.heap_setCell _ _ _ _ h3).trans (hb7.block b h2))
      have hs6 := hb7.size
      have hwc0 := H5.out.2.2.size
      have hr6 := hbr6.size
      rw [← HN.out] at *
      refine ⟨?_, Av, cv, xs, rfl, hrd.keep (fun b hb => hsame b hb.1 hb.2.1 hb.2.2) (fun b hb => ⟨by have := hb.1; omega, by have := hb.2.1; omega⟩), BlksAt.keep (fun b hb => hsame b (by have := hb.1; omega) hb.2.1 (by have := hb.1; omega)) (fun b hb => ⟨by have := hb.1; omega, by have := hb.2.1; omega⟩) hblks⟩
      exact (((H1.out.1.trans (hbr6.mono (by omega))).trans (hb7.mono (by omega))).setCell (p := ⟨t5, 2, none⟩) (by show w.heap.size ≤ t5; omega) _).grown hg9 (by simp only [World.setCell]; simp; omega) (fun b hb => by injection hb with hb; omega)
end Tl
end Go.Proofs.YtnlaedfnifimkaaGreat
namespace Go.Proofs.YtnlaedfnifimkaaGreat
open Go.RowKit Go.Joins
namespace Tl
theorem hasPrefix_in (w : World) : Calls Tryz.prog 109 #[.string ⟨#[90, 88, 84, 97, 112, 101, 33, 26]⟩, .string ⟨#[90, 88, 84, 97, 112, 101, 33, 26]⟩] w fun x w' => x = .returned (.bool true) ∧ w = w' := by
  go_enter Tryz.func109, Tryz.ntmps109
  go_wp2
  go_ret
  exact ⟨ret_bool (by kernel_rfl), rfl⟩
theorem hasPrefix_any (w : World) : Calls Tryz.prog 75 #[.string ⟨#[90, 88, 84, 97, 112, 101, 33, 26]⟩, .string ⟨#[90, 88, 84, 97, 112, 101, 33, 26]⟩] w fun x w' => x = .returned (.bool true) ∧ w = w' := by
  go_enter Tryz.func75, Tryz.ntmps75
  go_wp2_with fail
  refine (hasPrefix_in w).mono ?_
  rintro e w1 ⟨rfl, rfl⟩
  go_wp2
  go_ret
  exact ⟨rfl, rfl⟩
theorem sign_conv {w : World} {B N c : Nat} {ad : Addr} {file : List Int} {dl : List BD} (hF : Reads w B 1 (some ad) N (file.map (Value.int .u8))) (hf : file = headB ++ blksB dl) (hN : 8 ≤ N) :
    (convert 24 9 (.slice (some ad) 8 c)).run Tryz.prog w = .ok (.string ⟨#[90, 88, 84, 97, 112, 101, 33, 26]⟩) w := by
  rw [← sign_str]
  refine conv_reads (B := B) w _ _ _ Tryz.underlying24 Tryz.underlying5 Tryz.underlying9 c ?_
  refine ⟨by decide, fun _ => ?_⟩
  obtain ⟨a2, e, hb2, hc⟩ := hF.2 (by omega)
  exact ⟨a2, e, hb2, fun j u hu => hc j u (by
    rw [hf, List.map_append]
    have hj : j < 8 := by
      rcases Nat.lt_or_ge j 8 with h | h
      · exact h
      · rw [List.getElem?_eq_none (by simpa [signB] using h)] at hu; cases hu
    rw [List.getElem?_append_left (by rw [List.length_map, headB_len]; omega)]
    unfold headB
    rw [List.map_append, List.getElem?_append_left (by rw [List.length_map]; exact hj)]
    exact hu)⟩
set_option maxRecDepth 100000 in
set_option maxHeartbeats 8000000 in
theorem parsed_any (w : World) (A : Option Addr) (N c : Nat) (file : List Int) (dl : List BD) (hF : FileAt w w.heap.size A N c file) (hf : file = headB ++ blksB dl) (ho : ∀ d ∈ dl, OurB d) (hn : dl.length ≤ 300) :
    Calls Tryz.prog 40 #[.slice A N c] w fun x w' => ParseO w w' x dl := by
  have hlen := rd_len hF.rd
  have hN0 : 10 ≤ N := by rw [← hlen, hf, List.length_append, headB_len]; omega
  have hcap := hF.cap
  have hNI : (8 : Int) ≤ (N : Int) := by omega
  have hcI : (8 : Int) ≤ (c : Int) := by omega
  obtain ⟨ad, rfl, _, _⟩ := rd_at hF.rd (k := 0) (by omega)
  have H0 := Lib.hid (And.intro hF (And.intro hf (And.intro ho hn)))
  clear hF hf ho hn hlen
  go_enter Tryz.func40, Tryz.ntmps40
  go_upto_region 1 with fail
  have hb0 : Below w.heap.size w (w.alloc (.cells #[.int .i64 0, .int .i64 0, .slice none 0 0] 66)) := (Below.refl _ _).alloc (Nat.le_refl _) _
  have hT0 : Blk (w.alloc (.cells #[.int .i64 0, .int .i64 0, .slice none 0 0] 66)) w.heap.size 66 #[.int .i64 0, .int .i64 0, .slice none 0 0] := Blk.new w _ _
  have hs0 : (w.alloc (.cells #[.int .i64 0, .int .i64 0, .slice none 0 0] 66)).heap.size = w.heap.size + 1 := by simp
  generalize (w.alloc (.cells #[.int .i64 0, .int .i64 0, .slice none 0 0] 66)) = w0 at *
  have hcv0 := sign_conv (c := c) (H0.out.1.rd.below hb0) H0.out.2.1 (by omega)
  have hps := parse_any w0 (some ad) N c file dl ⟨(H0.out.1.rd.below hb0).more (by omega), H0.out.1.u8, H0.out.1.cap, H0.out.1.capm⟩ H0.out.2.1 H0.out.2.2.1 H0.out.2.2.2
  have H1 := Lib.hid (And.intro hb0 (And.intro hT0 hs0))
  clear hb0 hT0 hs0
  go_wp2_with fail
  refine (hasPrefix_any w0).mono ?_
  rintro e w1 ⟨rfl, rfl⟩
  clear hcv0
  go_wp2_with fail
  refine hps.mono ?_
  rintro e w1 ⟨hb1, A', c', xs, rfl, hrd, hbk⟩
  clear hps
  have hR1 := H1.out.2.1.below hb1 H1.out.2.1.lt
  have H2 := Lib.hid (And.intro hb1 (And.intro hrd hbk))
  clear hb1 hrd hbk
  go_wp2_with (first
    | (refine wpList_store_box rfl 66 _ _ rfl w.heap.size #[.int .i64 1, .int .i64 20, .slice A' dl.length c'] rfl rfl 66 #[.int .i64 0, .int .i64 0, .slice none 0 0] hR1 tapeInfo' rfl (by simp [Value.oneCell']) ?_)
    | fail)
  intro w9 hB9 hg9
  have H10 := Lib.hid hg9
  clear hR1 hg9
  go_wp2_with fail
  refine bodyPost_ret (Tl.results_cell_tmp9 rfl _ _ w.heap.size 66 _ (0, 0) _ rfl hB9 Tryz.underlying66 rfl tapeInfo') rfl ?_
  obtain ⟨hb1, hrd, hbk⟩ := H2.out
  have hs0 := H1.out.2.2
  have hg9 := H10.out
  have hs9 := hg9.size
  have hs1 := hb1.size
  refine ⟨(H1.out.1.trans (hb1.mono (by omega))).grown hg9 (by omega) (fun b hb => by injection hb with hb; omega), A', c', xs, rfl, hrd.keep (fun b hb => hg9.block b hb.2 (fun e => by injection e with e; omega)) (fun b hb => ⟨by omega, by omega⟩), BlksAt.keep (fun b hb => hg9.block b hb.2 (fun e => by injection e with e; omega)) (fun b hb => ⟨by omega, by omega⟩) hbk⟩
end Tl
end Go.Proofs.YtnlaedfnifimkaaGreat
namespace Go.Proofs.YtnlaedfnifimkaaGreat
open Go.RowKit Go.Joins
namespace Tl
def wvC (T P : Value) : Array Value := #[.int .i64 19, .int .i64 0, .int .i64 0, .int .i64 0, .int .i64 0, .int .i64 0, .int .i64 0, .int .i64 0, .int .i64 0, .int .i64 0, .int .i64 0, .int .i64 0, .slice none 0 0, T, .slice none 0 0, .slice none 0 0, .slice none 0 0, .slice none 0 0, .slice none 0 0, P]
theorem partSize : (Tryz.prog.info? 271).map (·.size) = some 2 := by kernel_rfl
theorem lit2 (w : World) (t : TypeId) (a b : Value) : Reads (w.alloc (.cells #[a, b] t)) (w.heap.size + 1) 2 (some ⟨w.heap.size, 0, none⟩) 1 [a, b] :=
  ⟨rfl, fun _ => ⟨_, rfl, by show w.heap.size < w.heap.size + 1; omega, lit_cells w [a, b] t⟩⟩
theorem edgeInfo : (Tryz.prog.info? 247).map (·.size) = some 2 := by kernel_rfl
theorem partInfo : (Tryz.prog.info? 271).map (fun i => (i.zero, i.size, i.bytes)) = some (some (.agg #[.int .i64 0, .nilFunc]), 2, 16) := by kernel_rfl
set_option maxRecDepth 100000 in
set_option maxHeartbeats 4000000 in
theorem time_any {w : World} {v tn tc k B : Nat} {TA : Option Addr} {ts : List Int} {P : Value} (hb : Blk w v 268 (wvC (.slice TA tn tc) P)) (hr : Reads w B 1 TA tn (ts.map (Value.int .i64))) (hk : k < tn) :
    Calls Tryz.prog 206 #[.pointer (some ⟨v, 0, none⟩), .int .i64 k] w fun x w' => x = .returned (.agg #[.int .i64 0, .int .i64 (ts.getD k 0)]) ∧ Below w.heap.size w w' := by
  obtain ⟨ad, rfl, hab, hc⟩ := rd_at hr hk
  have c13 : w.cell? ⟨v, 13, none⟩ = some (.slice (some ad) tn tc) := (hb.cell 13).trans rfl
  clear hb hr
  generalize ts.getD k 0 = z at *
  have hvl := World.block_lt_of_cell? w _ c13
  go_enter Tryz.func206, Tryz.ntmps206
  go_upto_region 1 with fail
  have hb0 : Below w.heap.size w (w.alloc (.cells #[.int .i64 0, .int .i64 0] 247)) := (Below.refl _ _).alloc (Nat.le_refl _) _
  have hR : Blk (w.alloc (.cells #[.int .i64 0, .int .i64 0] 247)) w.heap.size 247 #[.int .i64 0, .int .i64 0] := Blk.new w _ _
  have d13 := (hb0.cell (p := ⟨v, 13, none⟩) hvl).trans c13
  have hc2 := (hb0.cell (p := ad.add k) (World.block_lt_of_cell? w _ hc)).trans hc
  generalize (w.alloc (.cells #[.int .i64 0, .int .i64 0] 247)) = W at *
  have H := Lib.hid hb0
  clear hb0 c13 hc hvl
  go_wp2_with (first
    | (refine wpList_store_box rfl 247 _ _ rfl w.heap.size #[.int .i64 0, .int .i64 z] rfl rfl 247 #[.int .i64 0, .int .i64 0] hR edgeInfo rfl (by simp [Value.oneCell']) ?_)
    | fail)
  intro w9 hB9 hg9
  have H2 := Lib.hid (H.out.grown hg9 H.out.size (fun b hb => by injection hb with hb; omega))
  clear hg9 hR
  go_wp2_with fail
  refine bodyPost_ret (results_cell_row rfl _ _ w.heap.size 247 _ (0, 0) _ rfl hB9 Tryz.underlying247 rfl edgeInfo) rfl ?_
  exact ⟨rfl, H2.out⟩
set_option maxRecDepth 100000 in
set_option maxHeartbeats 4000000 in
theorem add_any {w : World} {v n : Nat} {T : Value} (hb : Blk w v 268 (wvC T (.slice none 0 0))) :
    Calls Tryz.prog 200 #[.pointer (some ⟨v, 0, none⟩), .int .i64 n, (.func (.func 206) #[.pointer (some ⟨v, 0, none⟩)] #[])] w fun x w' => (∃ u, x = .returned u) ∧ ∃ PA pc, Blk w' v 268 (wvC T (.slice PA 1 pc)) ∧ w'.ownsRow w.heap.size 271 2 (.slice PA 1 pc) 1 [.int .i64 n, (.func (.func 206) #[.pointer (some ⟨v, 0, none⟩)] #[])] ∧ w.grownBy w' (some v) := by
  obtain ⟨i0, hi, hz0, hz1, hz2⟩ := info_parts partInfo
  have c19 : w.cell? ⟨v, 19, none⟩ = some (.slice none 0 0) := (hb.cell 19).trans rfl
  have H0 := Lib.hid hb
  have hvl := hb.lt
  clear hb
  go_enter Tryz.func200, Tryz.ntmps200
  go_wp2_with (first
    | (at_builtin; refine wpList_append_any _ rfl _ _ 266 rfl w.heap.size 271 i0 (.agg #[.int .i64 0, .nilFunc]) 2 16 Tryz.underlying266 hi hz0 hz1 hz2 rfl (by decide) _ 0 [] rfl (World.ownsRow_nil _ _ _ _) (w.heap.size + 1) (some ⟨w.heap.size, 0, none⟩) 1 1 [.int .i64 n, (.func (.func 206) #[.pointer (some ⟨v, 0, none⟩)] #[])] rfl (lit2 _ _ _ _) (by simp [Value.oneCell']) (by unfold maxLen; omega) (by omega) (by simp) ?_)
    | go_in)
  intro v' w3 own3 hg3 hv3
  obtain ⟨PA, pc, rfl⟩ := own_slice own3
  have hb0 := H0.out
  have hb3 : Blk w3 v 268 (wvC T (.slice none 0 0)) := (hb0.alloc _).grown hg3 (by simp [Value.ownBlock])
  have f19 : w3.frozen? ⟨v, 19, none⟩ = false := hb3.frozen 19
  have d19 : w3.cell? ⟨v, 19, none⟩ = some (.slice none 0 0) := (hb3.cell 19).trans rfl
  have hne := own_blk_ne own3 hb3 (show 271 ≠ 268 by decide)
  have H3 := Lib.hid (And.intro (show Blk (w3.setCell ⟨v, 19, none⟩ (.slice PA 1 pc)) v 268 (wvC T (.slice PA 1 pc)) from hb3.set_ 19 _) (And.intro (ownsRow_setCell_other own3 (a := ⟨v, 19, none⟩) hne (.slice PA 1 pc)) (show w.grownBy (w3.setCell ⟨v, 19, none⟩ (.slice PA 1 pc)) (some v) from by
    have hs := hg3.size
    have ha := World.grownBy_alloc w (.cells #[.int .i64 n, (.func (.func 206) #[.pointer (some ⟨v, 0, none⟩)] #[])] 271) none
    have hs1 := ha.size
    exact ⟨hg3.os, hg3.tape, hg3.output, by simpa [World.setCell] using Nat.le_trans hs1 hs, fun k hk hn => (Below.heap_setCell _ _ _ _ (fun e => hn (by rw [e]))).trans ((hg3.block k (by omega) (by simp [Value.ownBlock])).trans (ha.block k hk (by simp)))⟩)))
  clear own3 hg3 hv3 hb3 hb0 c19 hne
  go_wp2
  first | go_end0 | ((try simp only [Exit.inBlock, Exit.then]); refine bodyPost_ret (v := .tuple #[]) (results_none rfl _ _ _) rfl ?_)
  exact ⟨⟨_, rfl⟩, PA, pc, H3.out.1, H3.out.2.1, H3.out.2.2⟩
set_option maxRecDepth 100000 in
set_option maxHeartbeats 8000000 in
theorem fill19_any {w : World} {v tn tc : Nat} {TA : Option Addr} (hb : Blk w v 268 (wvC (.slice TA tn tc) (.slice none 0 0))) :
    Calls Tryz.prog 179 #[.pointer (some ⟨v, 0, none⟩)] w fun x w' => x = .returned (.int .i64 0) ∧ ∃ PA pc, Blk w' v 268 (wvC (.slice TA tn tc) (.slice PA 1 pc)) ∧ w'.ownsRow w.heap.size 271 2 (.slice PA 1 pc) 1 [.int .i64 tn, (.func (.func 206) #[.pointer (some ⟨v, 0, none⟩)] #[])] ∧ w.grownBy w' (some v) := by
  have c0 : w.cell? ⟨v, 0, none⟩ = some (.int .i64 19) := (hb.cell 0).trans rfl
  have c13 : w.cell? ⟨v, 13, none⟩ = some (.slice TA tn tc) := (hb.cell 13).trans rfl
  have hadd := add_any (n := tn) hb
  clear hb
  go_enter Tryz.func179, Tryz.ntmps179
  go_wp2_with fail
  refine hadd.mono ?_
  rintro e w1 ⟨⟨u, rfl⟩, PA, pc, h1, h2, h3⟩
  have H := Lib.hid (And.intro h1 (And.intro h2 h3))
  clear h1 h2 h3 hadd c0 c13
  go_wp2
  go_ret
  exact ⟨rfl, PA, pc, H.out⟩
def WNewO (w w' : World) (x : Ending) (TA : Option Addr) (tn tc : Nat) : Prop := ∃ v PA pc, x = .returned (.tuple #[.pointer (some ⟨v, 0, none⟩), .int .i64 0]) ∧ w.heap.size ≤ v ∧ Blk w' v 268 (wvC (.slice TA tn tc) (.slice PA 1 pc)) ∧ w'.ownsRow w.heap.size 271 2 (.slice PA 1 pc) 1 [.int .i64 tn, (.func (.func 206) #[.pointer (some ⟨v, 0, none⟩)] #[])] ∧ Below w.heap.size w w'
set_option maxRecDepth 100000 in
set_option maxHeartbeats 8000000 in
theorem waveNew_any (w : World) (TA : Option Addr) (tn tc : Nat) :
    Calls Tryz.prog 153 #[.agg (bk 19 0 (.slice TA tn tc))] w fun x w' => WNewO w w' x TA tn tc := by
  show Calls Tryz.prog 153 #[.agg #[.int .i64 19, .int .i64 0, .int .i64 0, .int .i64 0, .int .i64 0, .int .i64 0, .int .i64 0, .int .i64 0, .int .i64 0, .int .i64 0, .int .i64 0, .int .i64 0, .slice none 0 0, .slice TA tn tc, .slice none 0 0, .slice none 0 0, .slice none 0 0, .slice none 0 0]] w fun x w' => WNewO w w' x TA tn tc
  go_enter Tryz.func153, Tryz.ntmps153
  go_upto_region 1 with fail
  have hb0 : Below w.heap.size w (w.alloc (.cells #[.int .i64 19, .int .i64 0, .int .i64 0, .int .i64 0, .int .i64 0, .int .i64 0, .int .i64 0, .int .i64 0, .int .i64 0, .int .i64 0, .int .i64 0, .int .i64 0, .slice none 0 0, .slice TA tn tc, .slice none 0 0, .slice none 0 0, .slice none 0 0, .slice none 0 0] 34)) := (Below.refl _ _).alloc (Nat.le_refl _) _
  have hB : Blk (w.alloc (.cells #[.int .i64 19, .int .i64 0, .int .i64 0, .int .i64 0, .int .i64 0, .int .i64 0, .int .i64 0, .int .i64 0, .int .i64 0, .int .i64 0, .int .i64 0, .int .i64 0, .slice none 0 0, .slice TA tn tc, .slice none 0 0, .slice none 0 0, .slice none 0 0, .slice none 0 0] 34)) w.heap.size 34 #[.int .i64 19, .int .i64 0, .int .i64 0, .int .i64 0, .int .i64 0, .int .i64 0, .int .i64 0, .int .i64 0, .int .i64 0, .int .i64 0, .int .i64 0, .int .i64 0, .slice none 0 0, .slice TA tn tc, .slice none 0 0, .slice none 0 0, .slice none 0 0, .slice none 0 0] := Blk.new w _ _
  have hs : w.heap.size + 1 = (w.alloc (.cells #[.int .i64 19, .int .i64 0, .int .i64 0, .int .i64 0, .int .i64 0, .int .i64 0, .int .i64 0, .int .i64 0, .int .i64 0, .int .i64 0, .int .i64 0, .int .i64 0, .slice none 0 0, .slice TA tn tc, .slice none 0 0, .slice none 0 0, .slice none 0 0, .slice none 0 0] 34)).heap.size := by simp
  generalize (w.alloc (.cells #[.int .i64 19, .int .i64 0, .int .i64 0, .int .i64 0, .int .i64 0, .int .i64 0, .int .i64 0, .int .i64 0, .int .i64 0, .int .i64 0, .int .i64 0, .int .i64 0, .slice none 0 0, .slice TA tn tc, .slice none 0 0, .slice none 0 0, .slice none 0 0, .slice none 0 0] 34)) = W at *
  have H0 := Lib.hid (And.intro hb0 hs)
  clear hb0 hs
  go_upto_region 2 with (first
    | (refine wpList_load_box rfl 34 _ rfl w.heap.size rfl 34 #[.int .i64 19, .int .i64 0, .int .i64 0, .int .i64 0, .int .i64 0, .int .i64 0, .int .i64 0, .int .i64 0, .int .i64 0, .int .i64 0, .int .i64 0, .int .i64 0, .slice none 0 0, .slice TA tn tc, .slice none 0 0, .slice none 0 0, .slice none 0 0, .slice none 0 0] hB _ Tryz.underlying34 rfl blkInfo' ?_)
    | fail)
  try (refine fun (_ : Hid _) => ?_)
  try go_upto_region 2 with fail
  change Code.wp _ _ _ _ (W.alloc (.cells (wvC (.slice TA tn tc) (.slice none 0 0)) 268))
  have hb1 : Below W.heap.size W (W.alloc (.cells (wvC (.slice TA tn tc) (.slice none 0 0)) 268)) := (Below.refl _ _).alloc (Nat.le_refl _) _
  have hV : Blk (W.alloc (.cells (wvC (.slice TA tn tc) (.slice none 0 0)) 268)) W.heap.size 268 (wvC (.slice TA tn tc) (.slice none 0 0)) := Blk.new W _ _
  generalize (W.alloc (.cells (wvC (.slice TA tn tc) (.slice none 0 0)) 268)) = W2 at *
  have hB2 := hB.below hb1 hB.lt
  have c0 : W2.cell? ⟨w.heap.size, 0, none⟩ = some (.int .i64 19) := (hB2.cell 0).trans rfl
  have hfl := fill19_any hV
  have H1 := Lib.hid (And.intro hB2 (And.intro hV hb1))
  clear hB hB2 hV hb1
  go_wp2_with fail
  refine hfl.mono ?_
  rintro e w3 ⟨rfl, PA, pc, h1, h2, h3⟩
  have hB3 := H1.out.1.grown h3 (fun e => Blk.ne_ H1.out.1 H1.out.2.1 (by decide) (by injection e))
  have d8 : w3.cell? ⟨w.heap.size, 8, none⟩ = some (.int .i64 0) := (hB3.cell 8).trans rfl
  have d1 : w3.cell? ⟨w.heap.size, 1, none⟩ = some (.int .i64 0) := (hB3.cell 1).trans rfl
  have hs2 := H1.out.2.2.size
  have hs0 := H0.out.2
  have H2 := Lib.hid (And.intro h1 (And.intro (own_low h2 (show w.heap.size ≤ W2.heap.size by omega)) (show Below w.heap.size w w3 from (H0.out.1.trans (H1.out.2.2.mono (by omega))).grown h3 (by omega) (fun b hb => by injection hb with hb; omega))))
  have hwv : w.heap.size ≤ W.heap.size := by omega
  clear h1 h2 h3 hB3 hfl c0 hs0 hs2
  go_wp2
  go_ret2
  exact ⟨W.heap.size, PA, pc, rfl, hwv, H2.out⟩
set_option maxRecDepth 100000 in
set_option maxHeartbeats 8000000 in
theorem at_in {w : World} {B0 B v n tc k : Nat} {TA : Option Addr} {ts : List Int} {PA : Option Addr} {pc : Nat} (hb : Blk w v 268 (wvC (.slice TA n tc) (.slice PA 1 pc))) (ho : w.ownsRow B0 271 2 (.slice PA 1 pc) 1 [.int .i64 n, (.func (.func 206) #[.pointer (some ⟨v, 0, none⟩)] #[])]) (hr : Reads w B 1 TA n (ts.map (Value.int .i64))) (hB : B ≤ w.heap.size) (hk : k < n) (hn : n ≤ 1000) :
    Calls Tryz.prog 149 #[.pointer (some ⟨v, 0, none⟩), .int .i64 k] w fun x w' => x = .returned (.tuple #[.agg #[.int .i64 0, .int .i64 (ts.getD k 0)], .bool true]) ∧ Below w.heap.size w w' := by
  have hvl := hb.lt
  obtain ⟨gp, cp, hA, _, hgl⟩ := ho.form (by omega)
  injection hA with hA
  subst hA
  have p0 : w.cell? ⟨gp, 0, none⟩ = some (.int .i64 n) := (add0 gp 0) ▸ ho.cells (g := gp) rfl 0 _ rfl
  have p1 : w.cell? ⟨gp, 1, none⟩ = some (.func (.func 206) #[.pointer (some ⟨v, 0, none⟩)] #[]) := (add0 gp 1) ▸ ho.cells (g := gp) rfl 1 _ rfl
  go_enter Tryz.func149, Tryz.ntmps149
  go_upto_region 1 with fail
  have hb0 : Below w.heap.size w (w.alloc (.cells #[.int .i64 0, .int .i64 0] 247)) := (Below.refl _ _).alloc (Nat.le_refl _) _
  have hR : Blk (w.alloc (.cells #[.int .i64 0, .int .i64 0] 247)) w.heap.size 247 #[.int .i64 0, .int .i64 0] := Blk.new w _ _
  have hs0 : w.heap.size + 1 = (w.alloc (.cells #[.int .i64 0, .int .i64 0] 247)).heap.size := by simp
  generalize (w.alloc (.cells #[.int .i64 0, .int .i64 0] 247)) = W at *
  have c19 : W.cell? ⟨v, 19, none⟩ = some (.slice (some ⟨gp, 0, none⟩) 1 pc) := (hb0.cell (p := ⟨v, 19, none⟩) hvl).trans ((hb.cell 19).trans rfl)
  have q0 := (hb0.cell (p := ⟨gp, 0, none⟩) hgl).trans p0
  have q1 := (hb0.cell (p := ⟨gp, 1, none⟩) hgl).trans p1
  have H0 := Lib.hid (And.intro hb (And.intro hr (And.intro hb0 (And.intro hR hs0))))
  have hkI : (k : Int) < (n : Int) := by omega
  clear hb hr hb0 hR hs0 ho p0 p1
  go_wp2_with fail
  clear c19
  go_loopw [1, 20] (fun x i wr => x = .int .i64 k ∧ i = .int .i64 0 ∧ wr = W) (fun _ i _ => 1 - (intOf i).toNat)
  case atStart => exact ⟨rfl, rfl, rfl⟩
  case round =>
    obtain ⟨rfl, rfl, rfl⟩ := hrel
    go_upto_region 6 with (first
      | (refine wpList_store_box rfl 271 _ _ rfl wr.heap.size #[.int .i64 n, (.func (.func 206) #[.pointer (some ⟨v, 0, none⟩)] #[])] rfl rfl 271 #[.int .i64 0, .nilFunc] (Blk.new wr _ _) partSize rfl (by simp [Value.oneCell']) ?_)
      | fail)
    intro W2 hP1 hg1
    have hb1 : Below wr.heap.size wr W2 := ((Below.refl _ _).alloc (Nat.le_refl _) _).grown hg1 (by simp) (fun b hb => by injection hb with hb; omega)
    clear hg1
    obtain ⟨hb, hr, hb0, hR, hs0⟩ := H0.out
    have r0 : W2.cell? ⟨wr.heap.size, 0, none⟩ = some (.int .i64 n) := (hP1.cell 0).trans rfl
    have r1 : W2.cell? ⟨wr.heap.size, 1, none⟩ = some (.func (.func 206) #[.pointer (some ⟨v, 0, none⟩)] #[]) := (hP1.cell 1).trans rfl
    have hbw : Below w.heap.size w W2 := bthen hb0 hb1
    have htm := time_any (w := W2) (k := k) (hb.below hbw hvl) (hr.below (hbw.mono hB)) hk
    have hR2 := hR.below hb1 (by omega)
    have H1 := Lib.hid (And.intro hbw (And.intro hR2 hs0))
    clear hb hr hb0 hR hs0 hb1 hP1 hbw hR2 q0 q1
    go_wp2_with fail
    refine htm.mono ?_
    rintro e w3 ⟨rfl, hb3⟩
    have hR3 := H1.out.2.1.below hb3 (H1.out.2.1.lt)
    have H2 := Lib.hid (bthen H1.out.1 hb3)
    clear hb3 htm r0 r1
    go_wp2_with (first
      | (refine wpList_store_box rfl 247 _ _ rfl w.heap.size #[.int .i64 0, .int .i64 (ts.getD k 0)] rfl rfl 247 #[.int .i64 0, .int .i64 0] hR3 edgeInfo rfl (by simp [Value.oneCell']) ?_)
      | fail)
    intro w9 hB9 hg9
    have H3 := Lib.hid (H2.out.grown hg9 H2.out.size (fun b hb => by injection hb with hb; omega))
    clear hg9 hR3
    go_wp2_with fail
    refine bodyPost_ret (Tl.results_cell_tmp9 rfl _ _ w.heap.size 247 _ (0, 0) _ rfl hB9 Tryz.underlying247 rfl edgeInfo) rfl ?_
    exact ⟨rfl, H3.out⟩
set_option maxRecDepth 100000 in
set_option maxHeartbeats 8000000 in
theorem at_out {w : World} {B0 v n tc : Nat} {TA : Option Addr} {PA : Option Addr} {pc : Nat} (hb : Blk w v 268 (wvC (.slice TA n tc) (.slice PA 1 pc))) (ho : w.ownsRow B0 271 2 (.slice PA 1 pc) 1 [.int .i64 n, (.func (.func 206) #[.pointer (some ⟨v, 0, none⟩)] #[])]) (hn : n ≤ 1000) :
    Calls Tryz.prog 149 #[.pointer (some ⟨v, 0, none⟩), .int .i64 n] w fun x w' => x = .returned (.tuple #[.agg #[.int .i64 0, .int .i64 0], .bool false]) ∧ Below w.heap.size w w' := by
  have hvl := hb.lt
  obtain ⟨gp, cp, hA, _, hgl⟩ := ho.form (by omega)
  injection hA with hA
  subst hA
  have p0 : w.cell? ⟨gp, 0, none⟩ = some (.int .i64 n) := (add0 gp 0) ▸ ho.cells (g := gp) rfl 0 _ rfl
  have p1 : w.cell? ⟨gp, 1, none⟩ = some (.func (.func 206) #[.pointer (some ⟨v, 0, none⟩)] #[]) := (add0 gp 1) ▸ ho.cells (g := gp) rfl 1 _ rfl
  go_enter Tryz.func149, Tryz.ntmps149
  go_upto_region 1 with fail
  have hb0 : Below w.heap.size w (w.alloc (.cells #[.int .i64 0, .int .i64 0] 247)) := (Below.refl _ _).alloc (Nat.le_refl _) _
  have hR : Blk (w.alloc (.cells #[.int .i64 0, .int .i64 0] 247)) w.heap.size 247 #[.int .i64 0, .int .i64 0] := Blk.new w _ _
  have hs0 : w.heap.size + 1 = (w.alloc (.cells #[.int .i64 0, .int .i64 0] 247)).heap.size := by simp
  generalize (w.alloc (.cells #[.int .i64 0, .int .i64 0] 247)) = W at *
  have c19 : W.cell? ⟨v, 19, none⟩ = some (.slice (some ⟨gp, 0, none⟩) 1 pc) := (hb0.cell (p := ⟨v, 19, none⟩) hvl).trans ((hb.cell 19).trans rfl)
  have q0 := (hb0.cell (p := ⟨gp, 0, none⟩) hgl).trans p0
  have q1 := (hb0.cell (p := ⟨gp, 1, none⟩) hgl).trans p1
  have H0 := Lib.hid (And.intro hb0 (And.intro hR hs0))
  clear hb hb0 hR hs0 ho p0 p1
  go_wp2_with fail
  clear c19
  go_loopw [1, 20] (fun x i wr => (x = .int .i64 n ∧ i = .int .i64 0 ∧ wr = W) ∨ (x = .int .i64 0 ∧ i = .int .i64 1 ∧ Below W.heap.size W wr)) (fun _ i _ => 1 - (intOf i).toNat)
  case atStart => exact .inl ⟨rfl, rfl, rfl⟩
  case round =>
    rcases hrel with ⟨rfl, rfl, rfl⟩ | ⟨rfl, rfl, hbr⟩
    · go_upto_region 6 with (first
        | (refine wpList_store_box rfl 271 _ _ rfl wr.heap.size #[.int .i64 n, (.func (.func 206) #[.pointer (some ⟨v, 0, none⟩)] #[])] rfl rfl 271 #[.int .i64 0, .nilFunc] (Blk.new wr _ _) partSize rfl (by simp [Value.oneCell']) ?_)
        | fail)
      intro W2 hP1 hg1
      have hb1 : Below wr.heap.size wr W2 := ((Below.refl _ _).alloc (Nat.le_refl _) _).grown hg1 (by simp) (fun b hb => by injection hb with hb; omega)
      clear hg1
      have r0 : W2.cell? ⟨wr.heap.size, 0, none⟩ = some (.int .i64 n) := (hP1.cell 0).trans rfl
      have H1 := Lib.hid hb1
      clear hb1 hP1 q0 q1
      go_wp2_with fail
      go_roundw
      case rel => exact .inr ⟨by first | rfl | go_num, rfl, H1.out⟩
      case measure => simp [intOf]
    · have hR3 := H0.out.2.1.below hbr H0.out.2.1.lt
      have H2 := Lib.hid (bthen H0.out.1 hbr)
      clear hbr q0 q1
      go_wp2_with (first
        | (refine wpList_store_box rfl 247 _ _ rfl w.heap.size #[.int .i64 0, .int .i64 0] rfl rfl 247 #[.int .i64 0, .int .i64 0] hR3 edgeInfo rfl (by simp [Value.oneCell']) ?_)
        | fail)
      intro w9 hB9 hg9
      have H3 := Lib.hid (H2.out.grown hg9 H2.out.size (fun b hb => by injection hb with hb; omega))
      clear hg9 hR3
      go_wp2_with fail
      refine bodyPost_ret (Tl.results_cell_tmp9 rfl _ _ w.heap.size 247 _ (0, 0) _ rfl hB9 Tryz.underlying247 rfl edgeInfo) rfl ?_
      exact ⟨rfl, H3.out⟩
end Tl
end Go.Proofs.YtnlaedfnifimkaaGreat
namespace Go.Proofs.YtnlaedfnifimkaaGreat
open Go.RowKit
theorem wkInfo8 : (Tryz.prog.info? 217).map (·.size) = some 14 := by kernel_rfl
theorem wkOne {LA : Option Addr} {ln lc mb : Nat} {s : WS} : (wkC LA ln lc mb s).all (·.oneCell') = true := by simp [wkC, Value.oneCell']
theorem TkAt.clone {w : World} {b : Nat} {tk : List Int} (h : TkAt w b tk) : ∃ es clock, w.heap[b]? = some (.map es clock) ∧ TkAt (w.alloc (.map es clock)) w.heap.size tk ∧ TkAt (w.alloc (.map es clock)) b tk := by
  have hlt := h.lt
  have h0 := h
  obtain ⟨D, ⟨es, clock, hb, F, hs, e⟩, hD, hat⟩ := h
  exact ⟨es, clock, hb, ⟨D, ⟨es, clock, (MapKept.heap_alloc w _).1, F, hs, e⟩, hD, hat⟩, h0.kept (Below.heap_alloc _ _ b hlt)⟩
set_option maxRecDepth 100000 in
set_option maxHeartbeats 4000000 in
theorem clone_any (b : Nat) (es : Array MapEntry) (clock : Nat) (w : World) (hb : w.heap[b]? = some (.map es clock)) :
    Calls Tryz.prog 122 #[.map (some b)] w fun e w' => e = .returned (.map (some w.heap.size)) ∧ w' = w.alloc (.map es clock) := by
  have hq := fun w => run_eql_map_nil_sl (P := Tryz.prog) w 209 _ _ (some b) Tryz.underlying209
  go_enter Tryz.func122, Tryz.ntmps122
  go_wp2
  rw [run_callFunc_extern Tryz.func148 (by kernel_rfl) (by kernel_rfl) (by kernel_rfl) (e := Extern.MapsClone.clone) (by kernel_rfl), run_maps_clone_sl w 209 hb]
  simp only [Result.andThen]
  rw [Oper.upon_value]
  go_wp2
  rw [run_typeAssert_map_sl _ 209 20 _ _ _ Tryz.underlying209]
  simp only [Result.andThen]
  rw [Oper.upon_value]
  go_wp2
  go_ret
  exact ⟨rfl, rfl⟩
set_option maxRecDepth 100000 in
set_option maxHeartbeats 4000000 in
theorem copy_any (w : World) (g mb : Nat) (LA : Option Addr) (ln lc : Nat) (bs : List WB) (s : WS) (h : WalkAt w g mb LA ln lc bs s) :
    Calls Tryz.prog 91 #[.pointer (some ⟨g, 0, none⟩)] w fun x w' => ∃ g2 m2, x = .returned (.pointer (some ⟨g2, 0, none⟩)) ∧ w.heap.size ≤ g2 ∧ w.heap.size ≤ m2 ∧ Blk w' g2 217 (wkC LA ln lc m2 s) ∧ TkAt w' m2 s.tk ∧ Below w.heap.size w w' := by
  have hP := h.1
  have hgl := h.1.lt
  have HH := Lib.hid h
  clear h
  go_enter Tryz.func91, Tryz.ntmps91
  go_upto_region 4 with (first
    | (refine wpList_load_box rfl 217 _ rfl g rfl 217 (wkC LA ln lc mb s) hP _ Tryz.underlying217 rfl wkInfo8 (fun (_ : Hid _) => ?_))
    | (refine wpList_store_box rfl 217 _ _ rfl (w.heap.size) (wkC LA ln lc mb s) rfl rfl 217 #[.slice none 0 0, .int .i64 0, .bool false, .bool false, .int .i64 0, .int .i64 0, .bool false, .int .i64 0, .int .i64 0, .map none, .int .i64 0, .int .i64 0, .int .i64 0, .bool false] (Blk.new w _ _) wkInfo8 rfl wkOne ?_)
    | fail)
  intro w1 hB1 hg1
  have hb1 : Below w.heap.size w w1 := ((Below.refl _ _).alloc (Nat.le_refl _) _).grown hg1 (by simp) (fun b e => by injection e with e; omega)
  have hs1 := hb1.size
  have hnl := hB1.lt
  have c9 : w1.cell? ⟨g, 9, none⟩ = some (.map (some mb)) := ((HH.out.1.below hb1 hgl).cell 9).trans rfl
  obtain ⟨es, clock, hm, ht1, ht2⟩ := (HH.out.2.1.kept (hb1.block mb HH.out.2.1.lt)).clone
  have hcl := clone_any mb es clock w1 hm
  have H1 := Lib.hid (And.intro hB1 (And.intro hb1 ht1))
  clear hB1 hg1 hb1 ht1 ht2 hm hP
  go_upto_region 4 with fail
  go_wp2_with fail
  refine hcl.mono ?_
  rintro x w2 ⟨rfl, hw2⟩
  clear hcl c9
  have H2 := Lib.hid (show Blk w2 w.heap.size 217 (wkC LA ln lc mb s) ∧ Below w.heap.size w w2 ∧ TkAt w2 w1.heap.size s.tk from by rw [hw2]; exact ⟨H1.out.1.alloc _, H1.out.2.1.alloc hs1 _, H1.out.2.2⟩)
  clear hw2
  have d9 : w2.cell? ⟨w.heap.size, 9, none⟩ = some (.map (some mb)) := (H2.out.1.cell 9).trans rfl
  have e9 : w2.frozen? ⟨w.heap.size, 9, none⟩ = false := H2.out.1.frozen 9
  have HX := Lib.hid (show Blk (w2.setCell ⟨w.heap.size, 9, none⟩ (.map (some w1.heap.size))) w.heap.size 217 (wkC LA ln lc w1.heap.size s) ∧ TkAt (w2.setCell ⟨w.heap.size, 9, none⟩ (.map (some w1.heap.size))) w1.heap.size s.tk ∧ Below w.heap.size w (w2.setCell ⟨w.heap.size, 9, none⟩ (.map (some w1.heap.size))) from
    ⟨H2.out.1.set_ 9 _, H2.out.2.2.kept (Below.heap_setCell _ _ _ _ (by show w1.heap.size ≠ w.heap.size; omega)), H2.out.2.1.setCell (by show w.heap.size ≤ w.heap.size; omega) _⟩)
  go_wp2
  go_ret
  exact ⟨w.heap.size, w1.heap.size, rfl, Nat.le_refl _, hs1, HX.out.1, HX.out.2.1, HX.out.2.2⟩
def nextO (bs : List WB) : Nat → WS → Option (Tell × WS)
  | 0, _ => none
  | f + 1, s =>
    if s.at_ < bs.length then
      if toldK (atB bs s.at_) = 3 then
        if leadE bs s = 0 then nextO bs f (leadS bs s) else some (⟨4, s.at_, leadE bs s⟩, stayS s 4 s.at_ (leadE bs s))
      else some (⟨toldK (atB bs s.at_), s.at_, 0⟩, { s with at_ := s.at_ + 1 })
    else some (⟨3, bs.length, 0⟩, stayS s 3 bs.length 0)
theorem nextO_w {bs : List WB} {f : Nat} : ∀ {k : Nat} {s : WS} {r : Tell × WS}, nextO bs f s = some r → f ≤ k → nextW bs k s = r := by
  induction f with
  | zero => intro k s r h _; simp [nextO] at h
  | succ f ih =>
    intro k s r h hk
    obtain ⟨k, rfl⟩ : ∃ q, k = q + 1 := ⟨k - 1, by omega⟩
    rw [nextO] at h
    rw [nextW]
    by_cases hlt : s.at_ < bs.length
    · rw [if_pos hlt] at h ⊢
      by_cases ht : toldK (atB bs s.at_) = 3
      · rw [if_pos ht] at h ⊢
        by_cases he : leadE bs s = 0
        · rw [if_pos he] at h ⊢
          exact ih h (by omega)
        · rw [if_neg he] at h ⊢
          exact Option.some.inj h
      · rw [if_neg ht] at h ⊢
        exact Option.some.inj h
    · rw [if_neg hlt] at h ⊢
      exact Option.some.inj h
theorem nextS_o {bs : List WB} {s : WS} {f : Nat} {r : Tell × WS} (hf : Fine bs) (hs : s.ok bs) (ho : s.ov = false) (h : nextO bs f s = some r) : nextS bs s = r := by
  unfold nextS
  rw [if_neg (by rw [ho]; decide), nextW_enough hf hs (k := roundsN bs s + 1 + f) (Nat.lt_succ_self _) (Nat.lt_of_lt_of_le (Nat.lt_succ_self _) (Nat.le_add_right _ _))]
  exact nextO_w h (Nat.le_add_left _ _)
theorem ws0_ok (bs : List WB) : ws0.ok bs := by
  have := left_le bs []
  exact ⟨by decide, by show (0 : Int) ≤ _; omega, fun h => absurd h (by decide), fun h => absurd h (by decide), by decide, by decide, by show ([] : List Int).length + leftN bs [] ≤ _; simpa using this⟩
end Go.Proofs.YtnlaedfnifimkaaGreat
namespace Go.Proofs.YtnlaedfnifimkaaGreat
open Go.RowKit Go.Joins
namespace Tl
structure DMv (w w' : World) (d wy mb : Nat) : Prop where
  os : w'.os = w.os
  tape : w'.tape = w.tape
  output : w'.output = w.output
  size : w.heap.size ≤ w'.heap.size
  block : ∀ k, k < w.heap.size → k ≠ d → k ≠ wy → k ≠ mb → w'.heap[k]? = w.heap[k]?
section
variable {w w' w2 : World} {d wy mb B r : Nat}
theorem DMv.refl (w : World) (d wy mb : Nat) : DMv w w d wy mb := ⟨rfl, rfl, rfl, Nat.le_refl _, fun _ _ _ _ _ => rfl⟩
theorem DMv.trans (h : DMv w w' d wy mb) (k : DMv w' w2 d wy mb) : DMv w w2 d wy mb :=
  ⟨k.os.trans h.os, k.tape.trans h.tape, k.output.trans h.output, Nat.le_trans h.size k.size, fun i hi h1 h2 h3 => (k.block i (Nat.lt_of_lt_of_le hi h.size) h1 h2 h3).trans (h.block i hi h1 h2 h3)⟩
theorem DMv.of_below (h : Below w.heap.size w w') : DMv w w' d wy mb := ⟨h.os, h.tape, h.output, h.size, fun k hk _ _ _ => h.block k hk⟩
theorem DMv.of_mv (h : Mv w w' wy mb) : DMv w w' d wy mb := ⟨h.os, h.tape, h.output, h.size, fun k hk _ h2 h3 => h.block k hk h2 h3⟩
theorem DMv.new (h : DMv w w' d wy mb) (hg : w'.grownBy w2 (some r)) (hr : w.heap.size ≤ r) : DMv w w2 d wy mb :=
  ⟨hg.os.trans h.os, hg.tape.trans h.tape, hg.output.trans h.output, Nat.le_trans h.size hg.size, fun k hk h1 h2 h3 => (hg.block k (Nat.lt_of_lt_of_le hk h.size) (fun e => by injection e with e; omega)).trans (h.block k hk h1 h2 h3)⟩
theorem DMv.drew (h : DMv w w' d wy mb) : DMv w w'.drew d wy mb := ⟨h.os, h.tape, h.output, h.size, h.block⟩
theorem DMv.below (h : DMv w w' d wy mb) (hB : B ≤ d ∧ B ≤ wy ∧ B ≤ mb ∧ B ≤ w.heap.size) : Below B w w' :=
  ⟨h.os, h.tape, h.output, h.size, fun k hk => h.block k (by omega) (by omega) (by omega) (by omega)⟩
end
structure DkS where
  wv : Option Nat
  k : Nat
  lv : Bool
  pl : Bool
  left : Int
  lk : Int
  lh : Bool
  ll : Int
  le : Int
  ov : Bool
  told : Int
def dkC (BA : Option Addr) (m bc wy : Nat) (D : DkS) : Array Value := #[.int .i64 1, .int .i64 20, .slice BA m bc, .pointer (some ⟨wy, 0, none⟩), .pointer (D.wv.map fun v => ⟨v, 0, none⟩), .int .i64 D.k, .bool D.lv, .bool D.pl, .int .u32 D.left, .int .i64 D.lk, .bool D.lh, .int .u32 D.ll, .int .i64 D.le, .bool D.ov, .int .i64 D.told]
def WvOk (w : World) (B v : Nat) (ts : List Int) : Prop := B ≤ v ∧ ∃ TA tc PA pc, Blk w v 268 (wvC (.slice TA ts.length tc) (.slice PA 1 pc)) ∧ w.ownsRow B 271 2 (.slice PA 1 pc) 1 [.int .i64 ts.length, .func (.func 206) #[.pointer (some ⟨v, 0, none⟩)] #[]] ∧ Reads w B 1 TA ts.length (ts.map (Value.int .i64))
structure DeckAt (w : World) (B d wy mb : Nat) (LA : Option Addr) (lc : Nat) (BA : Option Addr) (bc : Nat) (dl : List BD) (D : DkS) (s : WS) (ts : List Int) : Prop where
  box : Blk w d 137 (dkC BA dl.length bc wy D)
  way : Blk w wy 217 (wkC LA dl.length lc mb s)
  tk : TkAt w mb s.tk
  wbs : BlksR w (· < B) LA dl.length (dl.map wbOf)
  blks : ∃ xs, RdP w (· < B) 18 BA dl.length xs ∧ BlksAt w (· < B) dl xs
  wave : ∀ v, D.wv = some v → WvOk w B v ts
  ups : B ≤ d ∧ B ≤ wy ∧ B ≤ mb ∧ B ≤ w.heap.size
  ok : s.ok (dl.map wbOf)
section
variable {w w' : World} {B d wy mb lc bc : Nat} {LA BA : Option Addr} {dl : List BD} {D D' : DkS} {s s' : WS} {ts : List Int}
theorem WvOk.keep {v : Nat} (h : WvOk w B v ts) (hb : Below B w w') (hv : w'.heap[v]? = w.heap[v]?) (hp : ∀ k t cs, Blk w k t cs → t = 271 → w'.heap[k]? = w.heap[k]?) : WvOk w' B v ts := by
  obtain ⟨h0, TA, tc, PA, pc, h1, h2, h3⟩ := h
  refine ⟨h0, TA, tc, PA, pc, hv.trans h1, own_eq h2 (fun k e => ?_), h3.below hb⟩
  rcases h2.2 with ⟨e2, e3⟩ | ⟨g, cap, cur, e2, _, h4, _⟩
  · rw [e2] at e; cases e
  · rw [e2] at e
    simp only [Value.ownBlock, Option.some.injEq] at e
    subst e
    exact hp g _ _ h4 rfl
theorem DeckAt.fineW (h : DeckAt w B d wy mb LA lc BA bc dl D s ts) : WalkAt w wy mb LA dl.length lc (dl.map wbOf) s :=
  ⟨h.way, h.tk, h.wbs.keep (fun _ _ => rfl) (fun b hb => ⟨by have := h.ups; omega, by have := h.ups; omega, by have := h.ups; omega⟩)⟩
theorem DeckAt.below (h : DeckAt w B d wy mb LA lc BA bc dl D s ts) (hb : Below w.heap.size w w') : DeckAt w' B d wy mb LA lc BA bc dl D s ts := by
  obtain ⟨xs, h1, h2⟩ := h.blks
  have hB := h.ups.2.2.2
  have hbB : Below B w w' := hb.mono hB
  have hk : ∀ b, b < B → w'.heap[b]? = w.heap[b]? := fun b hlt => hbB.block b hlt
  refine ⟨h.box.below hb h.box.lt, h.way.below hb h.way.lt, h.tk.kept (hb.block mb h.tk.lt), h.wbs.keep hk (fun _ h => h), ⟨xs, h1.keep hk (fun _ h => h), BlksAt.keep hk (fun _ h => h) h2⟩, fun v hv => ?_, ⟨h.ups.1, h.ups.2.1, h.ups.2.2.1, Nat.le_trans hB hb.size⟩, h.ok⟩
  have hw := h.wave v hv
  obtain ⟨_, _, _, _, _, h5, _⟩ := hw
  exact (h.wave v hv).keep hbB (hb.block v h5.lt) (fun k t cs e _ => hb.block k (Blk.lt e))
theorem DeckAt.set_ (h : DeckAt w B d wy mb LA lc BA bc dl D s ts) {i : Nat} {v : Value} (hc : (dkC BA dl.length bc wy D).setIfInBounds i v = dkC BA dl.length bc wy D') (hv : D'.wv = none ∨ D'.wv = D.wv) : DeckAt (w.setCell ⟨d, i, none⟩ v) B d wy mb LA lc BA bc dl D' s ts ∧ DMv w (w.setCell ⟨d, i, none⟩ v) d wy mb := by
  obtain ⟨xs, h1, h2⟩ := h.blks
  have hB := h.ups
  have hst : ∀ k, k ≠ d → (w.setCell ⟨d, i, none⟩ v).heap[k]? = w.heap[k]? := fun k hk => Below.heap_setCell _ _ _ _ hk
  have hbB : Below B w (w.setCell ⟨d, i, none⟩ v) := (Below.refl _ _).setCell (by show B ≤ d; exact hB.1) _
  have hk : ∀ b, b < B → (w.setCell ⟨d, i, none⟩ v).heap[b]? = w.heap[b]? := fun b hlt => hbB.block b hlt
  refine ⟨⟨hc ▸ h.box.set_ i v, (hst wy (h.way.ne_ h.box (by decide))).trans h.way, h.tk.kept (hst mb (h.tk.ne h.box)), h.wbs.keep hk (fun _ h => h), ⟨xs, h1.keep hk (fun _ h => h), BlksAt.keep hk (fun _ h => h) h2⟩, fun v2 hv2 => ?_, ⟨hB.1, hB.2.1, hB.2.2.1, by simpa [World.setCell] using hB.2.2.2⟩, h.ok⟩, rfl, rfl, rfl, by simp [World.setCell], fun k _ h1 _ _ => hst k h1⟩
  have hv3 : D.wv = some v2 := by
    rcases hv with e | e
    · rw [e] at hv2; cases hv2
    · rw [← e]; exact hv2
  have hw := h.wave v2 hv3
  obtain ⟨_, _, _, _, _, h5, _⟩ := hw
  exact (h.wave v2 hv3).keep hbB (hst v2 (h5.ne_ h.box (by decide))) (fun k t cs e et => hst k (Blk.ne_ (t := t) e h.box (by rw [et]; decide)))
theorem DeckAt.walked (h : DeckAt w B d wy mb LA lc BA bc dl D s ts) (hw : WalkAt w' wy mb LA dl.length lc (dl.map wbOf) s') (hm : Mv w w' wy mb) (hok : s'.ok (dl.map wbOf)) : DeckAt w' B d wy mb LA lc BA bc dl D s' ts ∧ DMv w w' d wy mb := by
  obtain ⟨xs, h1, h2⟩ := h.blks
  have hB := h.ups
  have hbB : Below B w w' := hm.below hB.2.2.2 hB.2.1 hB.2.2.1
  have hk : ∀ b, b < B → w'.heap[b]? = w.heap[b]? := fun b hlt => hbB.block b hlt
  have hst : ∀ k t cs, Blk w k t cs → t ≠ 217 → w'.heap[k]? = w.heap[k]? := fun k t cs hkb ht => hm.block k hkb.lt (hkb.ne_ h.way ht) (fun e => h.tk.ne hkb e.symm)
  refine ⟨⟨(hst d _ _ h.box (by decide)).trans h.box, hw.1, hw.2.1, h.wbs.keep hk (fun _ h => h), ⟨xs, h1.keep hk (fun _ h => h), BlksAt.keep hk (fun _ h => h) h2⟩, fun v hv => ?_, ⟨hB.1, hB.2.1, hB.2.2.1, Nat.le_trans hB.2.2.2 hm.size⟩, hok⟩, DMv.of_mv hm⟩
  have hw := h.wave v hv
  obtain ⟨_, _, _, _, _, h5, _⟩ := hw
  exact (h.wave v hv).keep hbB (hst v _ _ h5 (by decide)) (fun k t cs e et => hst k t cs e (by rw [et]; decide))
end
theorem toldInfo : (Tryz.prog.info? 135).map (·.size) = some 4 := by kernel_rfl
def toldV (k : Int) (h : Bool) (l e : Int) : Array Value := #[.int .i64 k, .bool h, .int .u32 l, .int .i64 e]
section
variable {w : World} {B d wy mb lc bc : Nat} {LA BA : Option Addr} {dl : List BD} {D : DkS} {s : WS} {ts : List Int}
set_option maxRecDepth 100000 in
theorem turn_any (h : DeckAt w B d wy mb LA lc BA bc dl D s ts) :
    Calls Tryz.prog 150 #[.pointer (some ⟨d, 0, none⟩), .int .i64 0] w fun x w' => (∃ u, x = .returned u) ∧ w' = w.setCell ⟨d, 6, none⟩ (.bool (!D.lv)) := by
  have c6 : w.cell? ⟨d, 6, none⟩ = some (.bool D.lv) := (h.box.cell 6).trans rfl
  have f6 : w.frozen? ⟨d, 6, none⟩ = false := h.box.frozen 6
  clear h
  go_enter Tryz.func150, Tryz.ntmps150
  go_wp2
  first | go_end0 | ((try simp only [Exit.inBlock, Exit.then]); refine bodyPost_ret (v := .tuple #[]) (results_none rfl _ _ _) rfl ?_)
  exact ⟨⟨_, rfl⟩, rfl⟩
set_option maxRecDepth 100000 in
theorem dlevel_any (h : DeckAt w B d wy mb LA lc BA bc dl D s ts) :
    Calls Tryz.prog 26 #[.pointer (some ⟨d, 0, none⟩)] w fun x w' => x = .returned (.bool D.lv) ∧ w = w' := by
  have c4 : w.cell? ⟨d, 6, none⟩ = some (.bool D.lv) := (h.box.cell 6).trans rfl
  clear h
  go_enter Tryz.func26, Tryz.ntmps26
  go_wp2
  go_ret
  exact ⟨rfl, rfl⟩
set_option maxRecDepth 100000 in
theorem playing_any (h : DeckAt w B d wy mb LA lc BA bc dl D s ts) :
    Calls Tryz.prog 27 #[.pointer (some ⟨d, 0, none⟩)] w fun x w' => x = .returned (.bool D.pl) ∧ w = w' := by
  have c7 : w.cell? ⟨d, 7, none⟩ = some (.bool D.pl) := (h.box.cell 7).trans rfl
  clear h
  go_enter Tryz.func27, Tryz.ntmps27
  go_wp2
  go_ret
  exact ⟨rfl, rfl⟩
set_option maxRecDepth 100000 in
theorem play_any (h : DeckAt w B d wy mb LA lc BA bc dl D s ts) :
    Calls Tryz.prog 24 #[.pointer (some ⟨d, 0, none⟩)] w fun x w' => (∃ u, x = .returned u) ∧ DeckAt w' B d wy mb LA lc BA bc dl { D with pl := true } s ts ∧ DMv w w' d wy mb := by
  have c7 : w.cell? ⟨d, 7, none⟩ = some (.bool D.pl) := (h.box.cell 7).trans rfl
  have f7 : w.frozen? ⟨d, 7, none⟩ = false := h.box.frozen 7
  have H := Lib.hid (h.set_ (i := 7) (v := .bool true) (D' := { D with pl := true }) rfl (.inr rfl))
  clear h
  go_enter Tryz.func24, Tryz.ntmps24
  go_wp2
  first | go_end0 | ((try simp only [Exit.inBlock, Exit.then]); refine bodyPost_ret (v := .tuple #[]) (results_none rfl _ _ _) rfl ?_)
  exact ⟨⟨_, rfl⟩, H.out.1, H.out.2⟩
end
theorem DMv.kept {w w' : World} {B d wy mb lc bc g : Nat} {LA BA : Option Addr} {dl : List BD} {D : DkS} {s : WS} {ts : List Int} {t : TypeId} {cs : Array Value} (hm : DMv w w' d wy mb) (h : DeckAt w B d wy mb LA lc BA bc dl D s ts) (hb : Blk w g t cs) (ht : t ≠ 137 ∧ t ≠ 217) : Blk w' g t cs :=
  (hm.block g hb.lt (hb.ne_ h.box ht.1) (hb.ne_ h.way ht.2) (fun e => h.tk.ne hb e.symm)).trans hb
end Tl
end Go.Proofs.YtnlaedfnifimkaaGreat
