/- Part 6 of the proof: lemmas on what the program computes; no condition. -/
import Derived.Deep.CutRange
import Derived.Deep.LoopGhost
import Derived.Test.YtnlaedfnifimkaaGreatJ5
import Derived.Test.YtnlaedfnifimkaaGreatJ4
set_option linter.unusedVariables false
set_option linter.unusedSimpArgs false
set_option linter.unusedSectionVars false
namespace Go.Proofs.YtnlaedfnifimkaaGreat
open Go.RowKit Go.Joins
namespace Tl
def EdM (w w' : World) (B d wy mb : Nat) (LA : Option Addr) (lc : Nat) (BA : Option Addr) (bc : Nat) (dl : List BD) (D : DkS) (s : WS) (ts : List Int) (r : Nat) : Prop :=
  DeckAt w' B d wy mb LA lc BA bc dl D s ts ∧ Blk w' r 135 (toldV 0 false 0 0) ∧ Below w.heap.size w w' ∧ B ≤ w.heap.size
section
variable {w w' w2 : World} {B d wy mb lc bc r : Nat} {LA BA : Option Addr} {dl : List BD} {D D' : DkS} {s : WS} {ts : List Int}
theorem EdM.more (h : EdM w w' B d wy mb LA lc BA bc dl D s ts r) (hb : Below w'.heap.size w' w2) : EdM w w2 B d wy mb LA lc BA bc dl D s ts r := ⟨h.1.below hb, h.2.1.below hb h.2.1.lt, bthen h.2.2.1 hb, h.2.2.2⟩
theorem DeckAt.other {g : Nat} {t : TypeId} {cs : Array Value} (h : DeckAt w B d wy mb LA lc BA bc dl D s ts) (hb : Blk w g t cs) (hg : w.grownBy w' (some g)) (hlo : B ≤ g) (ht : t ≠ 137 ∧ t ≠ 217 ∧ t ≠ 268 ∧ t ≠ 271) : DeckAt w' B d wy mb LA lc BA bc dl D s ts ∧ Below B w w' := by
  obtain ⟨xs, h1, h2⟩ := h.blks
  have hB := h.ups
  have hst : ∀ k, k < w.heap.size → k ≠ g → w'.heap[k]? = w.heap[k]? := fun k hk hn => hg.block k hk (fun e => hn (by injection e))
  have hbB : Below B w w' := ⟨hg.os, hg.tape, hg.output, hg.size, fun k hk => hst k (by omega) (by omega)⟩
  have hk : ∀ b, b < B → w'.heap[b]? = w.heap[b]? := fun b hlt => hbB.block b hlt
  have hty : ∀ k t2 cs2, Blk w k t2 cs2 → t2 ≠ t → w'.heap[k]? = w.heap[k]? := fun k t2 cs2 e hn => hst k e.lt (e.ne_ hb hn)
  refine ⟨⟨(hty d _ _ h.box (fun e => ht.1 e.symm)).trans h.box, (hty wy _ _ h.way (fun e => ht.2.1 e.symm)).trans h.way, h.tk.kept (hst mb h.tk.lt (h.tk.ne hb)), h.wbs.keep hk (fun _ h => h), ⟨xs, h1.keep hk (fun _ h => h), BlksAt.keep hk (fun _ h => h) h2⟩, fun v hv => ?_, ⟨hB.1, hB.2.1, hB.2.2.1, Nat.le_trans hB.2.2.2 hg.size⟩, h.ok⟩, hbB⟩
  have hw := h.wave v hv
  obtain ⟨_, _, _, _, _, h5, _⟩ := hw
  exact WvOk.keep (h.wave v hv) hbB (hty v _ _ h5 (fun e => ht.2.2.1 e.symm)) (fun k t2 cs2 e et => hty k t2 cs2 e (by rw [et]; exact fun e => ht.2.2.2 e.symm))
theorem EdM.stored {g : Nat} {cs : Array Value} (h : EdM w w' B d wy mb LA lc BA bc dl D s ts r) (hb : Blk w' g 247 cs) (hg : w'.grownBy w2 (some g)) (hlo : w.heap.size ≤ g) : EdM w w2 B d wy mb LA lc BA bc dl D s ts r := by
  obtain ⟨h1, h2, h3, h4⟩ := h
  exact ⟨(h1.other hb hg (by omega) (by decide)).1, h2.grown hg (fun e => h2.ne_ hb (by decide) (by injection e)), h3.grown hg h3.size (fun b e => by injection e with e; omega), h4⟩
theorem DeckAt.at_in {v k : Nat} {X : Int} (h : DeckAt w B d wy mb LA lc BA bc dl D s ts) (hv : D.wv = some v) (hk : k < ts.length) (hX : ts.getD k 0 = X) (hn : ts.length ≤ 1000) :
    Calls Tryz.prog 149 #[.pointer (some ⟨v, 0, none⟩), .int .i64 k] w fun x w' => x = .returned (.tuple #[.agg #[.int .i64 0, .int .i64 X], .bool true]) ∧ Below w.heap.size w w' := by
  subst hX
  obtain ⟨_, TA, tc, PA, pc, h1, h2, h3⟩ := h.wave v hv
  exact Tl.at_in h1 h2 h3 h.ups.2.2.2 hk hn
theorem DeckAt.at_out {v : Nat} (h : DeckAt w B d wy mb LA lc BA bc dl D s ts) (hv : D.wv = some v) (hn : ts.length ≤ 1000) :
    Calls Tryz.prog 149 #[.pointer (some ⟨v, 0, none⟩), .int .i64 ts.length] w fun x w' => x = .returned (.tuple #[.agg #[.int .i64 0, .int .i64 0], .bool false]) ∧ Below w.heap.size w w' := by
  obtain ⟨_, TA, tc, PA, pc, h1, h2, h3⟩ := h.wave v hv
  exact Tl.at_out h1 h2 hn
end
section
variable {w : World} {B d wy mb lc bc v : Nat} {LA BA : Option Addr} {dl : List BD} {D : DkS} {s : WS} {ts : List Int}
set_option maxRecDepth 100000 in
set_option maxHeartbeats 8000000 in
theorem edge_in (h : DeckAt w B d wy mb LA lc BA bc dl D s ts) (hv : D.wv = some v) (hn : ts.length ≤ 1000) (hk : D.k < ts.length) (X : Int) (hX : ts.getD D.k 0 = X) (hz : 1 ≤ X ∧ X ≤ 65535) :
    Calls Tryz.prog 123 #[.pointer (some ⟨d, 0, none⟩)] w fun x w' => x = .returned (.tuple #[.agg (toldV 0 (!D.lv) X 0), .bool true]) ∧ DeckAt w' B d wy mb LA lc BA bc dl { D with k := D.k + 1, lv := !D.lv } (heardS s) ts ∧ DMv w w' d wy mb := by
  have HV := Lib.hid (And.intro hv (And.intro hk hX))
  clear hv hk hX
  go_enter Tryz.func123, Tryz.ntmps123
  go_upto_region 1 with fail
  have hb0 : Below w.heap.size w (w.alloc (.cells #[.int .i64 0, .bool false, .int .u32 0, .int .i64 0] 135)) := (Below.refl _ _).alloc (Nat.le_refl _) _
  have hM0 : EdM w (w.alloc (.cells #[.int .i64 0, .bool false, .int .u32 0, .int .i64 0] 135)) B d wy mb LA lc BA bc dl D s ts w.heap.size := ⟨h.below hb0, Blk.new w _ _, hb0, h.ups.2.2.2⟩
  generalize (w.alloc (.cells #[.int .i64 0, .bool false, .int .u32 0, .int .i64 0] 135)) = w0 at *
  clear hb0 h
  have HM0 := Lib.hid hM0
  clear hM0
  go_loopw [] (fun wr => wr = w0) (fun _ => 0)
  case atStart => exact rfl
  case round =>
    subst hrel
    go_upto_region 1 with fail
    go_cut [4, 5] from 6 to 17 (fun e b wx => b = .bool true ∧ ∃ t, e = .pointer (some ⟨t, 0, none⟩) ∧ Blk wx t 247 #[.int .i64 0, .int .i64 X] ∧ EdM w wx B d wy mb LA lc BA bc dl D s ts w.heap.size)
    case first =>
      refine Early.begin (S := fun w' => DeckAt w' B d wy mb LA lc BA bc dl D s ts) (late := []) (by kernel_rfl) ?_
      have hMa : EdM w wr.drew B d wy mb LA lc BA bc dl D s ts w.heap.size := ⟨HM0.out.1.below ⟨rfl, rfl, rfl, Nat.le_refl _, fun _ _ => rfl⟩, HM0.out.2.1, HM0.out.2.2.1.drew, HM0.out.2.2.2⟩
      generalize wr.drew = W at *
      have hSa := hMa.1
      have HMa := Lib.hid hMa
      clear hMa
      refine Early.takeW (i := 0) (oi := _) (v := ?_) (by simp only [List.getElem?_toArray, List.getElem?_cons_succ, List.getElem?_cons_zero]; rfl) (by kernel_rfl) (by kernel_rfl) (by kernel_rfl) (by kernel_rfl) (by kernel_rfl) (by intro _ _ _ h; exact h) (Or.inl ⟨by rfl, ?_⟩) (fun _ => hSa) ?_
      rotate_left
      · intro w9 _
        go_simp
        try with_reducible rfl
      try simp only [Act.put, List.setIfInBounds_toArray, List.set_cons_zero, List.set_cons_succ]
      refine Early.takeW (i := 1) (oi := _) (v := ?_) (by simp only [List.getElem?_toArray, List.getElem?_cons_succ, List.getElem?_cons_zero]; rfl) (by kernel_rfl) (by kernel_rfl) (by kernel_rfl) (by kernel_rfl) (by kernel_rfl) (by intro _ _ _ h; exact h) (Or.inl ⟨by rfl, ?_⟩) (fun _ => hSa) ?_
      rotate_left
      · intro w9 _
        go_simp
        try with_reducible rfl
      try simp only [Act.put, List.setIfInBounds_toArray, List.set_cons_zero, List.set_cons_succ]
      refine Early.takeW (i := 2) (oi := _) (v := ?_) (by simp only [List.getElem?_toArray, List.getElem?_cons_succ, List.getElem?_cons_zero]; rfl) (by kernel_rfl) (by kernel_rfl) (by kernel_rfl) (by kernel_rfl) (by kernel_rfl) (by intro _ _ _ h; exact h) (Or.inl ⟨by rfl, ?_⟩) (fun _ => hSa) ?_
      rotate_left
      · intro w9 _
        go_simp
        try with_reducible rfl
      try simp only [Act.put, List.setIfInBounds_toArray, List.set_cons_zero, List.set_cons_succ]
      refine Early.take (i := 3) (oi := _) (v := ?_) (by simp only [List.getElem?_toArray, List.getElem?_cons_succ, List.getElem?_cons_zero]; rfl) (by kernel_rfl) (by kernel_rfl) (by kernel_rfl) (by kernel_rfl) (by kernel_rfl) (by kernel_rfl) (by intro _ _ _ h; exact h) (Or.inl ⟨by rfl, ?_⟩) hSa ?_
      rotate_left
      · intro w9 hSw
        have c1 : w9.cell? ⟨d, 2 + 2, none⟩ = some (.pointer (some ⟨v, 0, none⟩)) := by have := (hSw.box.cell 4); rw [show (dkC BA dl.length bc wy D)[4]? = some (.pointer (D.wv.map fun v => ⟨v, 0, none⟩)) from rfl, HV.out.1] at this; exact this
        go_simp
        try with_reducible rfl
      try simp only [Act.put, List.setIfInBounds_toArray, List.set_cons_zero, List.set_cons_succ]
      refine Early.takeW (i := 4) (oi := _) (v := ?_) (by simp only [List.getElem?_toArray, List.getElem?_cons_succ, List.getElem?_cons_zero]; rfl) (by kernel_rfl) (by kernel_rfl) (by kernel_rfl) (by kernel_rfl) (by kernel_rfl) (by intro _ _ _ h; exact h) (Or.inl ⟨by rfl, ?_⟩) (fun _ => hSa) ?_
      rotate_left
      · intro w9 _
        go_simp
        try with_reducible rfl
      try simp only [Act.put, List.setIfInBounds_toArray, List.set_cons_zero, List.set_cons_succ]
      refine Early.takeW (i := 5) (oi := _) (v := ?_) (by simp only [List.getElem?_toArray, List.getElem?_cons_succ, List.getElem?_cons_zero]; rfl) (by kernel_rfl) (by kernel_rfl) (by kernel_rfl) (by kernel_rfl) (by kernel_rfl) (by intro _ _ _ h; exact h) (Or.inl ⟨by rfl, ?_⟩) (fun _ => hSa) ?_
      rotate_left
      · intro w9 _
        go_simp
        try with_reducible rfl
      try simp only [Act.put, List.setIfInBounds_toArray, List.set_cons_zero, List.set_cons_succ]
      refine Early.takeW (i := 6) (oi := _) (v := ?_) (by simp only [List.getElem?_toArray, List.getElem?_cons_succ, List.getElem?_cons_zero]; rfl) (by kernel_rfl) (by kernel_rfl) (by kernel_rfl) (by kernel_rfl) (by kernel_rfl) (by intro _ _ _ h; exact h) (Or.inl ⟨by rfl, ?_⟩) (fun _ => hSa) ?_
      rotate_left
      · intro w9 _
        go_simp
        try with_reducible rfl
      try simp only [Act.put, List.setIfInBounds_toArray, List.set_cons_zero, List.set_cons_succ]
      refine Early.take (i := 7) (oi := _) (v := ?_) (by simp only [List.getElem?_toArray, List.getElem?_cons_succ, List.getElem?_cons_zero]; rfl) (by kernel_rfl) (by kernel_rfl) (by kernel_rfl) (by kernel_rfl) (by kernel_rfl) (by kernel_rfl) (by intro _ _ _ h; exact h) (Or.inl ⟨by rfl, ?_⟩) hSa ?_
      rotate_left
      · intro w9 hSw
        have c1 : w9.cell? ⟨d, 5, none⟩ = some (.int .i64 D.k) := by have := hSw.box.cell 5;  exact this
        go_simp
        try with_reducible rfl
      try simp only [Act.put, List.setIfInBounds_toArray, List.set_cons_zero, List.set_cons_succ]
      refine Early.ready (rs := [8, 12]) (by kernel_rfl) (by simp) ?_
      refine Early.rest.cons (o := _) (by simp only [List.getElem?_toArray, List.getElem?_cons_succ, List.getElem?_cons_zero]; rfl) (fun K hK => ?_) (Early.rest.cons (o := _) (by simp only [List.getElem?_toArray, List.getElem?_cons_succ, List.getElem?_cons_zero]; rfl) (fun K hK => ?_) Early.rest.nil)
      · have hat := (HMa.out.1).at_in HV.out.1 HV.out.2.1 HV.out.2.2 hn
        go_simp
        refine hat.mono ?_
        rintro e W1 ⟨rfl, hbn⟩
        have hMn := HMa.out.more hbn
        go_wp2_with fail
        refine hK.out _ _ (fun _ => hMn.1) ?_
        clear hK K hat
        try simp only [Act.put, List.setIfInBounds_toArray, List.set_cons_zero, List.set_cons_succ]
        have HM1 := Lib.hid hMn
        clear hMn hbn
        refine Early.takeW (i := 9) (oi := _) (v := ?_) (by simp only [List.getElem?_toArray, List.getElem?_cons_succ, List.getElem?_cons_zero]; rfl) (by kernel_rfl) (by kernel_rfl) (by kernel_rfl) (by kernel_rfl) (by kernel_rfl) (by intro _ _ _ h; exact h) (Or.inl ⟨by rfl, ?_⟩) (fun _ => HM1.out.1) ?_
        rotate_left
        · intro w9 _
          go_simp
          try with_reducible rfl
        try simp only [Act.put, List.setIfInBounds_toArray, List.set_cons_zero, List.set_cons_succ]
        refine Early.takeW (i := 10) (oi := _) (v := ?_) (by simp only [List.getElem?_toArray, List.getElem?_cons_succ, List.getElem?_cons_zero]; rfl) (by kernel_rfl) (by kernel_rfl) (by kernel_rfl) (by kernel_rfl) (by kernel_rfl) (by intro _ _ _ h; exact h) (Or.inl ⟨by rfl, ?_⟩) (fun _ => HM1.out.1) ?_
        rotate_left
        · intro w9 _
          go_simp
          try with_reducible rfl
        try simp only [Act.put, List.setIfInBounds_toArray, List.set_cons_zero, List.set_cons_succ]
        refine Early.takeW (i := 11) (oi := _) (v := ?_) (by simp only [List.getElem?_toArray, List.getElem?_cons_succ, List.getElem?_cons_zero]; rfl) (by kernel_rfl) (by kernel_rfl) (by kernel_rfl) (by kernel_rfl) (by kernel_rfl) (by intro _ _ _ h; exact h) (Or.inl ⟨by rfl, ?_⟩) (fun _ => HM1.out.1) ?_
        rotate_left
        · intro w9 _
          go_simp
          try with_reducible rfl
        try simp only [Act.put, List.setIfInBounds_toArray, List.set_cons_zero, List.set_cons_succ]
        refine Early.ready (rs := [12]) (by kernel_rfl) (by simp) ?_
        refine Early.rest.cons (o := _) (by simp only [List.getElem?_toArray, List.getElem?_cons_succ, List.getElem?_cons_zero]; rfl) (fun K hK => ?_) Early.rest.nil
        go_simp
        have hbn : Below W1.heap.size W1 (W1.alloc (.cells #[.int .i64 0, .int .i64 0] 247)) := (Below.refl _ _).alloc (Nat.le_refl _) _
        have hMn := HM1.out.more hbn
        have hx2 : Blk (W1.alloc (.cells #[.int .i64 0, .int .i64 0] 247)) W1.heap.size 247 #[.int .i64 0, .int .i64 0] := Blk.new _ _ _
        have hlo2 : w.heap.size ≤ W1.heap.size := HM1.out.2.2.1.size
        refine hK.out _ _ (fun _ => hMn.1) ?_
        clear hK K hbn
        try simp only [Act.put, List.setIfInBounds_toArray, List.set_cons_zero, List.set_cons_succ]
        generalize (W1.alloc (.cells #[.int .i64 0, .int .i64 0] 247)) = W2 at *
        have HM2 := Lib.hid hMn
        clear hMn
        refine Early.ready (rs := [13]) (by kernel_rfl) (by simp) ?_
        refine Early.rest.cons (o := _) (by simp only [List.getElem?_toArray, List.getElem?_cons_succ, List.getElem?_cons_zero]; rfl) (fun K hK => ?_) Early.rest.nil
        refine step_store_box rfl 247 _ _ (by rfl) W1.heap.size #[.int .i64 0, .int .i64 X] (by rfl) (by rfl) 247 #[.int .i64 0, .int .i64 0] hx2 edgeInfo rfl (by simp [Value.oneCell']) ?_
        intro w5 hB5 hg5
        have hMn : EdM w w5 B d wy mb LA lc BA bc dl D s ts w.heap.size := HM2.out.stored hx2 hg5 hlo2
        refine hK.out _ _ (fun _ => hMn.1) ?_
        clear hK K
        try simp only [Act.put, List.setIfInBounds_toArray, List.set_cons_zero, List.set_cons_succ]
        refine Early.takeW (i := 14) (oi := _) (v := ?_) (by simp only [List.getElem?_toArray, List.getElem?_cons_succ, List.getElem?_cons_zero]; rfl) (by kernel_rfl) (by kernel_rfl) (by kernel_rfl) (by kernel_rfl) (by kernel_rfl) (by intro _ _ _ h; exact h) (Or.inl ⟨by rfl, ?_⟩) (fun _ => hMn.1) ?_
        rotate_left
        · intro w9 _
          go_simp
          try with_reducible rfl
        try simp only [Act.put, List.setIfInBounds_toArray, List.set_cons_zero, List.set_cons_succ]
        refine Early.done (by kernel_rfl) ?_ _
        have HF := Lib.hid (And.intro hB5 hMn)
        clear hB5 hMn hg5
        go_wp2_with fail
        go_meet
        exact ⟨rfl, _, rfl, HF.out⟩
      · go_simp
        have hbn : Below W.heap.size W (W.alloc (.cells #[.int .i64 0, .int .i64 0] 247)) := (Below.refl _ _).alloc (Nat.le_refl _) _
        have hMn := HMa.out.more hbn
        have hx3 : Blk (W.alloc (.cells #[.int .i64 0, .int .i64 0] 247)) W.heap.size 247 #[.int .i64 0, .int .i64 0] := Blk.new _ _ _
        have hlo3 : w.heap.size ≤ W.heap.size := HMa.out.2.2.1.size
        refine hK.out _ _ (fun _ => hMn.1) ?_
        clear hK K hbn
        try simp only [Act.put, List.setIfInBounds_toArray, List.set_cons_zero, List.set_cons_succ]
        generalize (W.alloc (.cells #[.int .i64 0, .int .i64 0] 247)) = W3 at *
        have HM3 := Lib.hid hMn
        clear hMn
        refine Early.ready (rs := [8]) (by kernel_rfl) (by simp) ?_
        refine Early.rest.cons (o := _) (by simp only [List.getElem?_toArray, List.getElem?_cons_succ, List.getElem?_cons_zero]; rfl) (fun K hK => ?_) Early.rest.nil
        have hat := (HM3.out.1).at_in HV.out.1 HV.out.2.1 HV.out.2.2 hn
        go_simp
        refine hat.mono ?_
        rintro e W4 ⟨rfl, hbn⟩
        have hMn := HM3.out.more hbn
        go_wp2_with fail
        refine hK.out _ _ (fun _ => hMn.1) ?_
        clear hK K hat
        try simp only [Act.put, List.setIfInBounds_toArray, List.set_cons_zero, List.set_cons_succ]
        have hx4 := hx3.below hbn hx3.lt
        have HM4 := Lib.hid hMn
        clear hMn hbn
        refine Early.takeW (i := 9) (oi := _) (v := ?_) (by simp only [List.getElem?_toArray, List.getElem?_cons_succ, List.getElem?_cons_zero]; rfl) (by kernel_rfl) (by kernel_rfl) (by kernel_rfl) (by kernel_rfl) (by kernel_rfl) (by intro _ _ _ h; exact h) (Or.inl ⟨by rfl, ?_⟩) (fun _ => HM4.out.1) ?_
        rotate_left
        · intro w9 _
          go_simp
          try with_reducible rfl
        try simp only [Act.put, List.setIfInBounds_toArray, List.set_cons_zero, List.set_cons_succ]
        refine Early.takeW (i := 10) (oi := _) (v := ?_) (by simp only [List.getElem?_toArray, List.getElem?_cons_succ, List.getElem?_cons_zero]; rfl) (by kernel_rfl) (by kernel_rfl) (by kernel_rfl) (by kernel_rfl) (by kernel_rfl) (by intro _ _ _ h; exact h) (Or.inl ⟨by rfl, ?_⟩) (fun _ => HM4.out.1) ?_
        rotate_left
        · intro w9 _
          go_simp
          try with_reducible rfl
        try simp only [Act.put, List.setIfInBounds_toArray, List.set_cons_zero, List.set_cons_succ]
        refine Early.takeW (i := 11) (oi := _) (v := ?_) (by simp only [List.getElem?_toArray, List.getElem?_cons_succ, List.getElem?_cons_zero]; rfl) (by kernel_rfl) (by kernel_rfl) (by kernel_rfl) (by kernel_rfl) (by kernel_rfl) (by intro _ _ _ h; exact h) (Or.inl ⟨by rfl, ?_⟩) (fun _ => HM4.out.1) ?_
        rotate_left
        · intro w9 _
          go_simp
          try with_reducible rfl
        try simp only [Act.put, List.setIfInBounds_toArray, List.set_cons_zero, List.set_cons_succ]
        refine Early.ready (rs := [13]) (by kernel_rfl) (by simp) ?_
        refine Early.rest.cons (o := _) (by simp only [List.getElem?_toArray, List.getElem?_cons_succ, List.getElem?_cons_zero]; rfl) (fun K hK => ?_) Early.rest.nil
        refine step_store_box rfl 247 _ _ (by rfl) W.heap.size #[.int .i64 0, .int .i64 X] (by rfl) (by rfl) 247 #[.int .i64 0, .int .i64 0] hx4 edgeInfo rfl (by simp [Value.oneCell']) ?_
        intro w5 hB5 hg5
        have hMn : EdM w w5 B d wy mb LA lc BA bc dl D s ts w.heap.size := HM4.out.stored hx4 hg5 hlo3
        refine hK.out _ _ (fun _ => hMn.1) ?_
        clear hK K
        try simp only [Act.put, List.setIfInBounds_toArray, List.set_cons_zero, List.set_cons_succ]
        refine Early.takeW (i := 14) (oi := _) (v := ?_) (by simp only [List.getElem?_toArray, List.getElem?_cons_succ, List.getElem?_cons_zero]; rfl) (by kernel_rfl) (by kernel_rfl) (by kernel_rfl) (by kernel_rfl) (by kernel_rfl) (by intro _ _ _ h; exact h) (Or.inl ⟨by rfl, ?_⟩) (fun _ => hMn.1) ?_
        rotate_left
        · intro w9 _
          go_simp
          try with_reducible rfl
        try simp only [Act.put, List.setIfInBounds_toArray, List.set_cons_zero, List.set_cons_succ]
        refine Early.done (by kernel_rfl) ?_ _
        have HF := Lib.hid (And.intro hB5 hMn)
        clear hB5 hMn hg5
        go_wp2_with fail
        go_meet
        exact ⟨rfl, _, rfl, HF.out⟩
    case rest =>
    obtain ⟨rfl, t4, rfl, hE, hM⟩ := hcut
    have HK := Lib.hid (And.intro hE hM)
    have hk9 : (D.k : Int) ≤ 1000 := by have := HV.out.2.1; omega
    have f5 : wc.frozen? ⟨d, 5, none⟩ = false := hM.1.box.frozen 5
    have c5 : wc.cell? ⟨d, 5, none⟩ = some (.int .i64 D.k) := (hM.1.box.cell 5).trans rfl
    obtain ⟨hD1, hb1⟩ := hM.1.set_ (i := 5) (v := .int .i64 ((D.k : Int) + 1)) (D' := { D with k := D.k + 1 }) rfl (.inr rfl)
    have hE1 : Blk (wc.setCell ⟨d, 5, none⟩ (.int .i64 ((D.k : Int) + 1))) t4 247 #[.int .i64 0, .int .i64 X] := Blk.far (p := ⟨d, 5, none⟩) hE (hE.ne_ hM.1.box (by decide)) _
    have hT1 : Blk (wc.setCell ⟨d, 5, none⟩ (.int .i64 ((D.k : Int) + 1))) w.heap.size 135 (toldV 0 false 0 0) := Blk.far (p := ⟨d, 5, none⟩) hM.2.1 (hM.2.1.ne_ hM.1.box (by decide)) _
    have hbw1 : DMv w (wc.setCell ⟨d, 5, none⟩ (.int .i64 ((D.k : Int) + 1))) d wy mb := (DMv.of_below hM.2.2.1).trans hb1
    clear hM hE hb1
    go_upto_region 6 with fail
    clear f5 c5
    generalize (wc.setCell ⟨d, 5, none⟩ (.int .i64 ((D.k : Int) + 1))) = w1 at *
    have e0 : w1.cell? ⟨t4, 0, none⟩ = some (.int .i64 0) := (hE1.cell 0).trans rfl
    have htu := turn_any hD1
    have H1 := Lib.hid (And.intro hD1 (And.intro hE1 (And.intro hT1 hbw1)))
    clear hD1 hE1 hT1 hbw1
    go_wp2_with fail
    refine htu.mono ?_
    rintro e w2 ⟨⟨u, rfl⟩, rfl⟩
    obtain ⟨hD1, hE1, hT1, hbw1⟩ := H1.out
    obtain ⟨hD2, hb2⟩ := hD1.set_ (i := 6) (v := .bool (!D.lv)) (D' := { D with k := D.k + 1, lv := !D.lv }) rfl (.inr rfl)
    have hE2 : Blk (w1.setCell ⟨d, 6, none⟩ (.bool (!D.lv))) t4 247 #[.int .i64 0, .int .i64 X] := Blk.far (p := ⟨d, 6, none⟩) hE1 (hE1.ne_ hD1.box (by decide)) _
    have hT2 : Blk (w1.setCell ⟨d, 6, none⟩ (.bool (!D.lv))) w.heap.size 135 (toldV 0 false 0 0) := Blk.far (p := ⟨d, 6, none⟩) hT1 (hT1.ne_ hD1.box (by decide)) _
    have hbw2 := hbw1.trans hb2
    clear hD1 hE1 hT1 hbw1 hb2 htu e0 H1
    generalize (w1.setCell ⟨d, 6, none⟩ (.bool (!D.lv))) = w2 at *
    have e1 : w2.cell? ⟨t4, 1, none⟩ = some (.int .i64 X) := (hE2.cell 1).trans rfl
    have c3 : w2.cell? ⟨d, 3, none⟩ = some (.pointer (some ⟨wy, 0, none⟩)) := (hD2.box.cell 3).trans rfl
    have hhd := heard_any w2 wy mb LA dl.length lc (dl.map wbOf) s hD2.fineW
    have H2 := Lib.hid (And.intro hD2 (And.intro hE2 (And.intro hT2 hbw2)))
    clear hD2 hE2 hT2 hbw2
    go_wp2_with fail
    refine hhd.mono ?_
    rintro e w3 ⟨⟨u3, rfl⟩, hW3, hM3⟩
    obtain ⟨hD2, hE2, hT2, hbw2⟩ := H2.out
    obtain ⟨hD3, hb3⟩ := hD2.walked hW3 hM3 (heardS_ok hD2.ok)
    have hE3 : Blk w3 t4 247 #[.int .i64 0, .int .i64 X] := (hM3.block t4 hE2.lt (hE2.ne_ hD2.way (by decide)) (fun e => hD2.tk.ne hE2 e.symm)).trans hE2
    have hT3 : Blk w3 w.heap.size 135 (toldV 0 false 0 0) := (hM3.block _ hT2.lt (hT2.ne_ hD2.way (by decide)) (fun e => hD2.tk.ne hT2 e.symm)).trans hT2
    have hbw3 := hbw2.trans hb3
    have hBr := HM0.out.2.2.2
    clear hD2 hE2 hT2 hbw2 hW3 hM3 hb3 hhd e1 c3 H2
    go_upto_region 9 with fail
    have hS9 : w3.drew.cell? ⟨d, 6, none⟩ = some (.bool (!D.lv)) ∧ w3.drew.cell? ⟨t4, 1, none⟩ = some (.int .i64 X) := ⟨(hD3.box.cell 6).trans rfl, (hE3.cell 1).trans rfl⟩
    have hD4 := hD3.below (w' := w3.drew) ⟨rfl, rfl, rfl, Nat.le_refl _, fun _ _ => rfl⟩
    have hT4 : Blk w3.drew w.heap.size 135 (toldV 0 false 0 0) := hT3
    have hbw4 : DMv w w3.drew d wy mb := hbw3.drew
    have hw41 : IntKind.u32.wrap X = X := by simp [IntKind.wrap, IntKind.bits, IntKind.signed]; omega
    have hmin : (if X ≤ 4294967295 then X else 4294967295) = X := if_pos (by omega)
    have hle9 : ¬ ((4294967295 : Int) < X) := by omega
    have HT4N := Lib.hid (show t4 ≠ w.heap.size from hE3.ne_ hT3 (by decide))
    refine Early.begin (S := fun w' => w'.cell? ⟨d, 6, none⟩ = some (.bool (!D.lv)) ∧ w'.cell? ⟨t4, 1, none⟩ = some (.int .i64 X)) (late := []) (by kernel_rfl) ?_
    generalize w3.drew = w4 at *
    clear hD3 hE3 hT3 hbw3
    refine Early.takeW (i := 0) (oi := _) (v := ?_) (by simp only [List.getElem?_toArray, List.getElem?_cons_succ, List.getElem?_cons_zero]; rfl) (by kernel_rfl) (by kernel_rfl) (by kernel_rfl) (by kernel_rfl) (by kernel_rfl) (by intro _ _ _ h; exact h) (Or.inl ⟨by rfl, ?_⟩) (fun _ => hS9) ?_
    rotate_left
    · intro w9 _
      go_simp
      try with_reducible rfl
    try simp only [Act.put, List.setIfInBounds_toArray, List.set_cons_zero, List.set_cons_succ]
    refine Early.takeW (i := 1) (oi := _) (v := ?_) (by simp only [List.getElem?_toArray, List.getElem?_cons_succ, List.getElem?_cons_zero]; rfl) (by kernel_rfl) (by kernel_rfl) (by kernel_rfl) (by kernel_rfl) (by kernel_rfl) (by intro _ _ _ h; exact h) (Or.inl ⟨by rfl, ?_⟩) (fun _ => hS9) ?_
    rotate_left
    · intro w9 _
      go_simp
      try with_reducible rfl
    try simp only [Act.put, List.setIfInBounds_toArray, List.set_cons_zero, List.set_cons_succ]
    refine Early.takeW (i := 2) (oi := _) (v := ?_) (by simp only [List.getElem?_toArray, List.getElem?_cons_succ, List.getElem?_cons_zero]; rfl) (by kernel_rfl) (by kernel_rfl) (by kernel_rfl) (by kernel_rfl) (by kernel_rfl) (by intro _ _ _ h; exact h) (Or.inl ⟨by rfl, ?_⟩) (fun _ => hS9) ?_
    rotate_left
    · intro w9 _
      go_simp
      try with_reducible rfl
    try simp only [Act.put, List.setIfInBounds_toArray, List.set_cons_zero, List.set_cons_succ]
    refine Early.take (i := 3) (oi := _) (v := ?_) (by simp only [List.getElem?_toArray, List.getElem?_cons_succ, List.getElem?_cons_zero]; rfl) (by kernel_rfl) (by kernel_rfl) (by kernel_rfl) (by kernel_rfl) (by kernel_rfl) (by kernel_rfl) (by intro _ _ _ h; exact h) (Or.inl ⟨by rfl, ?_⟩) hS9 ?_
    rotate_left
    · intro w9 hSw
      have c9 := hSw.1
      go_simp
      try with_reducible rfl
    try simp only [Act.put, List.setIfInBounds_toArray, List.set_cons_zero, List.set_cons_succ]
    refine Early.takeW (i := 4) (oi := _) (v := ?_) (by simp only [List.getElem?_toArray, List.getElem?_cons_succ, List.getElem?_cons_zero]; rfl) (by kernel_rfl) (by kernel_rfl) (by kernel_rfl) (by kernel_rfl) (by kernel_rfl) (by intro _ _ _ h; exact h) (Or.inl ⟨by rfl, ?_⟩) (fun _ => hS9) ?_
    rotate_left
    · intro w9 _
      go_simp
      try with_reducible rfl
    try simp only [Act.put, List.setIfInBounds_toArray, List.set_cons_zero, List.set_cons_succ]
    refine Early.take (i := 5) (oi := _) (v := ?_) (by simp only [List.getElem?_toArray, List.getElem?_cons_succ, List.getElem?_cons_zero]; rfl) (by kernel_rfl) (by kernel_rfl) (by kernel_rfl) (by kernel_rfl) (by kernel_rfl) (by kernel_rfl) (by intro _ _ _ h; exact h) (Or.inl ⟨by rfl, ?_⟩) hS9 ?_
    rotate_left
    · intro w9 hSw
      have c9 := hSw.2
      go_simp
      try with_reducible rfl
    try simp only [Act.put, List.setIfInBounds_toArray, List.set_cons_zero, List.set_cons_succ]
    refine Early.takeW (i := 6) (oi := _) (v := ?_) (by simp only [List.getElem?_toArray, List.getElem?_cons_succ, List.getElem?_cons_zero]; rfl) (by kernel_rfl) (by kernel_rfl) (by kernel_rfl) (by kernel_rfl) (by kernel_rfl) (by intro _ _ _ h; exact h) (Or.inl ⟨by rfl, ?_⟩) (fun _ => hS9) ?_
    rotate_left
    · intro w9 _
      go_simp
      try with_reducible rfl
    try simp only [Act.put, List.setIfInBounds_toArray, List.set_cons_zero, List.set_cons_succ]
    refine Early.takeW (i := 7) (oi := _) (v := ?_) (by simp only [List.getElem?_toArray, List.getElem?_cons_succ, List.getElem?_cons_zero]; rfl) (by kernel_rfl) (by kernel_rfl) (by kernel_rfl) (by kernel_rfl) (by kernel_rfl) (by intro _ _ _ h; exact h) (Or.inl ⟨by rfl, ?_⟩) (fun _ => hS9) ?_
    rotate_left
    · intro w9 _
      go_simp
      try with_reducible rfl
    try simp only [Act.put, List.setIfInBounds_toArray, List.set_cons_zero, List.set_cons_succ]
    refine Early.takeW (i := 8) (oi := _) (v := ?_) (by simp only [List.getElem?_toArray, List.getElem?_cons_succ, List.getElem?_cons_zero]; rfl) (by kernel_rfl) (by kernel_rfl) (by kernel_rfl) (by kernel_rfl) (by kernel_rfl) (by intro _ _ _ h; exact h) (Or.inl ⟨by rfl, ?_⟩) (fun _ => hS9) ?_
    rotate_left
    · intro w9 _
      go_simp
      try with_reducible rfl
    try simp only [Act.put, List.setIfInBounds_toArray, List.set_cons_zero, List.set_cons_succ]
    refine Early.takeW (i := 9) (oi := _) (v := ?_) (by simp only [List.getElem?_toArray, List.getElem?_cons_succ, List.getElem?_cons_zero]; rfl) (by kernel_rfl) (by kernel_rfl) (by kernel_rfl) (by kernel_rfl) (by kernel_rfl) (by intro _ _ _ h; exact h) (Or.inl ⟨by rfl, ?_⟩) (fun _ => hS9) ?_
    rotate_left
    · intro w9 _
      go_simp
      try with_reducible rfl
    try simp only [Act.put, List.setIfInBounds_toArray, List.set_cons_zero, List.set_cons_succ]
    refine Early.ready (rs := [10]) (by kernel_rfl) (by simp) ?_
    refine Early.rest.cons (o := _) (by simp only [List.getElem?_toArray, List.getElem?_cons_succ, List.getElem?_cons_zero]; rfl) (fun K hK => ?_) Early.rest.nil
    refine step_store_box rfl 135 _ _ (by rfl) w.heap.size (toldV 0 (!D.lv) X 0) (by rfl) (by rfl) 135 (toldV 0 false 0 0) hT4 toldInfo rfl (by simp [toldV, Value.oneCell']) ?_
    intro w5 hB5 hg5
    have hD5 := hD4.other hT4 hg5 hBr (by decide)
    have hS5 : w5.cell? ⟨d, 6, none⟩ = some (.bool (!D.lv)) ∧ w5.cell? ⟨t4, 1, none⟩ = some (.int .i64 X) := ⟨(hD5.1.box.cell 6).trans rfl, (World.cell?_of_block (hg5.block t4 (World.block_lt_of_cell? _ _ hS9.2) (fun e => HT4N.out (by injection e)))).trans hS9.2⟩
    refine hK.out _ _ (fun _ => hS5) ?_
    clear hK K
    try simp only [Act.put, List.setIfInBounds_toArray, List.set_cons_zero, List.set_cons_succ]
    refine Early.takeW (i := 11) (oi := _) (v := ?_) (by simp only [List.getElem?_toArray, List.getElem?_cons_succ, List.getElem?_cons_zero]; rfl) (by kernel_rfl) (by kernel_rfl) (by kernel_rfl) (by kernel_rfl) (by kernel_rfl) (by intro _ _ _ h; exact h) (Or.inl ⟨by rfl, ?_⟩) (fun _ => hS5) ?_
    rotate_left
    · intro w9 _
      go_simp
      try with_reducible rfl
    try simp only [Act.put, List.setIfInBounds_toArray, List.set_cons_zero, List.set_cons_succ]
    refine Early.done (by kernel_rfl) ?_ _
    have HF := Lib.hid (And.intro hD5.1 (hbw4.new hg5 (Nat.le_refl _)))
    clear hD4 hD5 hS5 hS9 hT4 hbw4 hg5 hw41 hmin hle9
    go_wp2
    refine bodyPost_ret (Tl.results_cell_tmp9 rfl _ _ w.heap.size 135 _ (0, 0) _ rfl hB5 Tryz.underlying135 rfl toldInfo) rfl ?_
    exact ⟨rfl, HF.out⟩
set_option maxRecDepth 100000 in
set_option maxHeartbeats 8000000 in
theorem edge_out (h : DeckAt w B d wy mb LA lc BA bc dl D s ts) (hv : D.wv = some v) (hn : ts.length ≤ 1000) (hk : D.k = ts.length) :
    Calls Tryz.prog 123 #[.pointer (some ⟨d, 0, none⟩)] w fun x w' => x = .returned (.tuple #[.agg (toldV 0 false 0 0), .bool false]) ∧ DeckAt w' B d wy mb LA lc BA bc dl { D with wv := none } s ts ∧ DMv w w' d wy mb := by
  have HV := Lib.hid (And.intro hv hk)
  clear hv hk
  go_enter Tryz.func123, Tryz.ntmps123
  go_upto_region 1 with fail
  have hb0 : Below w.heap.size w (w.alloc (.cells #[.int .i64 0, .bool false, .int .u32 0, .int .i64 0] 135)) := (Below.refl _ _).alloc (Nat.le_refl _) _
  have hM0 : EdM w (w.alloc (.cells #[.int .i64 0, .bool false, .int .u32 0, .int .i64 0] 135)) B d wy mb LA lc BA bc dl D s ts w.heap.size := ⟨h.below hb0, Blk.new w _ _, hb0, h.ups.2.2.2⟩
  generalize (w.alloc (.cells #[.int .i64 0, .bool false, .int .u32 0, .int .i64 0] 135)) = w0 at *
  clear hb0 h
  have HM0 := Lib.hid hM0
  clear hM0
  go_loopw [] (fun wr => wr = w0) (fun _ => 0)
  case atStart => exact rfl
  case round =>
    subst hrel
    go_upto_region 1 with fail
    go_cut [4, 5] from 6 to 17 (fun e b wx => b = .bool false ∧ ∃ t, e = .pointer (some ⟨t, 0, none⟩) ∧ Blk wx t 247 #[.int .i64 0, .int .i64 0] ∧ EdM w wx B d wy mb LA lc BA bc dl D s ts w.heap.size)
    case first =>
      refine Early.begin (S := fun w' => DeckAt w' B d wy mb LA lc BA bc dl D s ts) (late := []) (by kernel_rfl) ?_
      have hMa : EdM w wr.drew B d wy mb LA lc BA bc dl D s ts w.heap.size := ⟨HM0.out.1.below ⟨rfl, rfl, rfl, Nat.le_refl _, fun _ _ => rfl⟩, HM0.out.2.1, HM0.out.2.2.1.drew, HM0.out.2.2.2⟩
      generalize wr.drew = W at *
      have hSa := hMa.1
      have HMa := Lib.hid hMa
      clear hMa
      refine Early.takeW (i := 0) (oi := _) (v := ?_) (by simp only [List.getElem?_toArray, List.getElem?_cons_succ, List.getElem?_cons_zero]; rfl) (by kernel_rfl) (by kernel_rfl) (by kernel_rfl) (by kernel_rfl) (by kernel_rfl) (by intro _ _ _ h; exact h) (Or.inl ⟨by rfl, ?_⟩) (fun _ => hSa) ?_
      rotate_left
      · intro w9 _
        go_simp
        try with_reducible rfl
      try simp only [Act.put, List.setIfInBounds_toArray, List.set_cons_zero, List.set_cons_succ]
      refine Early.takeW (i := 1) (oi := _) (v := ?_) (by simp only [List.getElem?_toArray, List.getElem?_cons_succ, List.getElem?_cons_zero]; rfl) (by kernel_rfl) (by kernel_rfl) (by kernel_rfl) (by kernel_rfl) (by kernel_rfl) (by intro _ _ _ h; exact h) (Or.inl ⟨by rfl, ?_⟩) (fun _ => hSa) ?_
      rotate_left
      · intro w9 _
        go_simp
        try with_reducible rfl
      try simp only [Act.put, List.setIfInBounds_toArray, List.set_cons_zero, List.set_cons_succ]
      refine Early.takeW (i := 2) (oi := _) (v := ?_) (by simp only [List.getElem?_toArray, List.getElem?_cons_succ, List.getElem?_cons_zero]; rfl) (by kernel_rfl) (by kernel_rfl) (by kernel_rfl) (by kernel_rfl) (by kernel_rfl) (by intro _ _ _ h; exact h) (Or.inl ⟨by rfl, ?_⟩) (fun _ => hSa) ?_
      rotate_left
      · intro w9 _
        go_simp
        try with_reducible rfl
      try simp only [Act.put, List.setIfInBounds_toArray, List.set_cons_zero, List.set_cons_succ]
      refine Early.take (i := 3) (oi := _) (v := ?_) (by simp only [List.getElem?_toArray, List.getElem?_cons_succ, List.getElem?_cons_zero]; rfl) (by kernel_rfl) (by kernel_rfl) (by kernel_rfl) (by kernel_rfl) (by kernel_rfl) (by kernel_rfl) (by intro _ _ _ h; exact h) (Or.inl ⟨by rfl, ?_⟩) hSa ?_
      rotate_left
      · intro w9 hSw
        have c1 : w9.cell? ⟨d, 2 + 2, none⟩ = some (.pointer (some ⟨v, 0, none⟩)) := by have := (hSw.box.cell 4); rw [show (dkC BA dl.length bc wy D)[4]? = some (.pointer (D.wv.map fun v => ⟨v, 0, none⟩)) from rfl, HV.out.1] at this; exact this
        go_simp
        try with_reducible rfl
      try simp only [Act.put, List.setIfInBounds_toArray, List.set_cons_zero, List.set_cons_succ]
      refine Early.takeW (i := 4) (oi := _) (v := ?_) (by simp only [List.getElem?_toArray, List.getElem?_cons_succ, List.getElem?_cons_zero]; rfl) (by kernel_rfl) (by kernel_rfl) (by kernel_rfl) (by kernel_rfl) (by kernel_rfl) (by intro _ _ _ h; exact h) (Or.inl ⟨by rfl, ?_⟩) (fun _ => hSa) ?_
      rotate_left
      · intro w9 _
        go_simp
        try with_reducible rfl
      try simp only [Act.put, List.setIfInBounds_toArray, List.set_cons_zero, List.set_cons_succ]
      refine Early.takeW (i := 5) (oi := _) (v := ?_) (by simp only [List.getElem?_toArray, List.getElem?_cons_succ, List.getElem?_cons_zero]; rfl) (by kernel_rfl) (by kernel_rfl) (by kernel_rfl) (by kernel_rfl) (by kernel_rfl) (by intro _ _ _ h; exact h) (Or.inl ⟨by rfl, ?_⟩) (fun _ => hSa) ?_
      rotate_left
      · intro w9 _
        go_simp
        try with_reducible rfl
      try simp only [Act.put, List.setIfInBounds_toArray, List.set_cons_zero, List.set_cons_succ]
      refine Early.takeW (i := 6) (oi := _) (v := ?_) (by simp only [List.getElem?_toArray, List.getElem?_cons_succ, List.getElem?_cons_zero]; rfl) (by kernel_rfl) (by kernel_rfl) (by kernel_rfl) (by kernel_rfl) (by kernel_rfl) (by intro _ _ _ h; exact h) (Or.inl ⟨by rfl, ?_⟩) (fun _ => hSa) ?_
      rotate_left
      · intro w9 _
        go_simp
        try with_reducible rfl
      try simp only [Act.put, List.setIfInBounds_toArray, List.set_cons_zero, List.set_cons_succ]
      refine Early.take (i := 7) (oi := _) (v := ?_) (by simp only [List.getElem?_toArray, List.getElem?_cons_succ, List.getElem?_cons_zero]; rfl) (by kernel_rfl) (by kernel_rfl) (by kernel_rfl) (by kernel_rfl) (by kernel_rfl) (by kernel_rfl) (by intro _ _ _ h; exact h) (Or.inl ⟨by rfl, ?_⟩) hSa ?_
      rotate_left
      · intro w9 hSw
        have c1 : w9.cell? ⟨d, 5, none⟩ = some (.int .i64 ts.length) := by have := hSw.box.cell 5; rw [show (dkC BA dl.length bc wy D)[5]? = some (.int .i64 D.k) from rfl, HV.out.2] at this; exact this
        go_simp
        try with_reducible rfl
      try simp only [Act.put, List.setIfInBounds_toArray, List.set_cons_zero, List.set_cons_succ]
      refine Early.ready (rs := [8, 12]) (by kernel_rfl) (by simp) ?_
      refine Early.rest.cons (o := _) (by simp only [List.getElem?_toArray, List.getElem?_cons_succ, List.getElem?_cons_zero]; rfl) (fun K hK => ?_) (Early.rest.cons (o := _) (by simp only [List.getElem?_toArray, List.getElem?_cons_succ, List.getElem?_cons_zero]; rfl) (fun K hK => ?_) Early.rest.nil)
      · have hat := (HMa.out.1).at_out HV.out.1 hn
        go_simp
        refine hat.mono ?_
        rintro e W1 ⟨rfl, hbn⟩
        have hMn := HMa.out.more hbn
        go_wp2_with fail
        refine hK.out _ _ (fun _ => hMn.1) ?_
        clear hK K hat
        try simp only [Act.put, List.setIfInBounds_toArray, List.set_cons_zero, List.set_cons_succ]
        have HM1 := Lib.hid hMn
        clear hMn hbn
        refine Early.takeW (i := 9) (oi := _) (v := ?_) (by simp only [List.getElem?_toArray, List.getElem?_cons_succ, List.getElem?_cons_zero]; rfl) (by kernel_rfl) (by kernel_rfl) (by kernel_rfl) (by kernel_rfl) (by kernel_rfl) (by intro _ _ _ h; exact h) (Or.inl ⟨by rfl, ?_⟩) (fun _ => HM1.out.1) ?_
        rotate_left
        · intro w9 _
          go_simp
          try with_reducible rfl
        try simp only [Act.put, List.setIfInBounds_toArray, List.set_cons_zero, List.set_cons_succ]
        refine Early.takeW (i := 10) (oi := _) (v := ?_) (by simp only [List.getElem?_toArray, List.getElem?_cons_succ, List.getElem?_cons_zero]; rfl) (by kernel_rfl) (by kernel_rfl) (by kernel_rfl) (by kernel_rfl) (by kernel_rfl) (by intro _ _ _ h; exact h) (Or.inl ⟨by rfl, ?_⟩) (fun _ => HM1.out.1) ?_
        rotate_left
        · intro w9 _
          go_simp
          try with_reducible rfl
        try simp only [Act.put, List.setIfInBounds_toArray, List.set_cons_zero, List.set_cons_succ]
        refine Early.takeW (i := 11) (oi := _) (v := ?_) (by simp only [List.getElem?_toArray, List.getElem?_cons_succ, List.getElem?_cons_zero]; rfl) (by kernel_rfl) (by kernel_rfl) (by kernel_rfl) (by kernel_rfl) (by kernel_rfl) (by intro _ _ _ h; exact h) (Or.inl ⟨by rfl, ?_⟩) (fun _ => HM1.out.1) ?_
        rotate_left
        · intro w9 _
          go_simp
          try with_reducible rfl
        try simp only [Act.put, List.setIfInBounds_toArray, List.set_cons_zero, List.set_cons_succ]
        refine Early.ready (rs := [12]) (by kernel_rfl) (by simp) ?_
        refine Early.rest.cons (o := _) (by simp only [List.getElem?_toArray, List.getElem?_cons_succ, List.getElem?_cons_zero]; rfl) (fun K hK => ?_) Early.rest.nil
        go_simp
        have hbn : Below W1.heap.size W1 (W1.alloc (.cells #[.int .i64 0, .int .i64 0] 247)) := (Below.refl _ _).alloc (Nat.le_refl _) _
        have hMn := HM1.out.more hbn
        have hx2 : Blk (W1.alloc (.cells #[.int .i64 0, .int .i64 0] 247)) W1.heap.size 247 #[.int .i64 0, .int .i64 0] := Blk.new _ _ _
        have hlo2 : w.heap.size ≤ W1.heap.size := HM1.out.2.2.1.size
        refine hK.out _ _ (fun _ => hMn.1) ?_
        clear hK K hbn
        try simp only [Act.put, List.setIfInBounds_toArray, List.set_cons_zero, List.set_cons_succ]
        generalize (W1.alloc (.cells #[.int .i64 0, .int .i64 0] 247)) = W2 at *
        have HM2 := Lib.hid hMn
        clear hMn
        refine Early.ready (rs := [13]) (by kernel_rfl) (by simp) ?_
        refine Early.rest.cons (o := _) (by simp only [List.getElem?_toArray, List.getElem?_cons_succ, List.getElem?_cons_zero]; rfl) (fun K hK => ?_) Early.rest.nil
        refine step_store_box rfl 247 _ _ (by rfl) W1.heap.size #[.int .i64 0, .int .i64 0] (by rfl) (by rfl) 247 #[.int .i64 0, .int .i64 0] hx2 edgeInfo rfl (by simp [Value.oneCell']) ?_
        intro w5 hB5 hg5
        have hMn : EdM w w5 B d wy mb LA lc BA bc dl D s ts w.heap.size := HM2.out.stored hx2 hg5 hlo2
        refine hK.out _ _ (fun _ => hMn.1) ?_
        clear hK K
        try simp only [Act.put, List.setIfInBounds_toArray, List.set_cons_zero, List.set_cons_succ]
        refine Early.takeW (i := 14) (oi := _) (v := ?_) (by simp only [List.getElem?_toArray, List.getElem?_cons_succ, List.getElem?_cons_zero]; rfl) (by kernel_rfl) (by kernel_rfl) (by kernel_rfl) (by kernel_rfl) (by kernel_rfl) (by intro _ _ _ h; exact h) (Or.inl ⟨by rfl, ?_⟩) (fun _ => hMn.1) ?_
        rotate_left
        · intro w9 _
          go_simp
          try with_reducible rfl
        try simp only [Act.put, List.setIfInBounds_toArray, List.set_cons_zero, List.set_cons_succ]
        refine Early.done (by kernel_rfl) ?_ _
        have HF := Lib.hid (And.intro hB5 hMn)
        clear hB5 hMn hg5
        go_wp2_with fail
        go_meet
        exact ⟨rfl, _, rfl, HF.out⟩
      · go_simp
        have hbn : Below W.heap.size W (W.alloc (.cells #[.int .i64 0, .int .i64 0] 247)) := (Below.refl _ _).alloc (Nat.le_refl _) _
        have hMn := HMa.out.more hbn
        have hx3 : Blk (W.alloc (.cells #[.int .i64 0, .int .i64 0] 247)) W.heap.size 247 #[.int .i64 0, .int .i64 0] := Blk.new _ _ _
        have hlo3 : w.heap.size ≤ W.heap.size := HMa.out.2.2.1.size
        refine hK.out _ _ (fun _ => hMn.1) ?_
        clear hK K hbn
        try simp only [Act.put, List.setIfInBounds_toArray, List.set_cons_zero, List.set_cons_succ]
        generalize (W.alloc (.cells #[.int .i64 0, .int .i64 0] 247)) = W3 at *
        have HM3 := Lib.hid hMn
        clear hMn
        refine Early.ready (rs := [8]) (by kernel_rfl) (by simp) ?_
        refine Early.rest.cons (o := _) (by simp only [List.getElem?_toArray, List.getElem?_cons_succ, List.getElem?_cons_zero]; rfl) (fun K hK => ?_) Early.rest.nil
        have hat := (HM3.out.1).at_out HV.out.1 hn
        go_simp
        refine hat.mono ?_
        rintro e W4 ⟨rfl, hbn⟩
        have hMn := HM3.out.more hbn
        go_wp2_with fail
        refine hK.out _ _ (fun _ => hMn.1) ?_
        clear hK K hat
        try simp only [Act.put, List.setIfInBounds_toArray, List.set_cons_zero, List.set_cons_succ]
        have hx4 := hx3.below hbn hx3.lt
        have HM4 := Lib.hid hMn
        clear hMn hbn
        refine Early.takeW (i := 9) (oi := _) (v := ?_) (by simp only [List.getElem?_toArray, List.getElem?_cons_succ, List.getElem?_cons_zero]; rfl) (by kernel_rfl) (by kernel_rfl) (by kernel_rfl) (by kernel_rfl) (by kernel_rfl) (by intro _ _ _ h; exact h) (Or.inl ⟨by rfl, ?_⟩) (fun _ => HM4.out.1) ?_
        rotate_left
        · intro w9 _
          go_simp
          try with_reducible rfl
        try simp only [Act.put, List.setIfInBounds_toArray, List.set_cons_zero, List.set_cons_succ]
        refine Early.takeW (i := 10) (oi := _) (v := ?_) (by simp only [List.getElem?_toArray, List.getElem?_cons_succ, List.getElem?_cons_zero]; rfl) (by kernel_rfl) (by kernel_rfl) (by kernel_rfl) (by kernel_rfl) (by kernel_rfl) (by intro _ _ _ h; exact h) (Or.inl ⟨by rfl, ?_⟩) (fun _ => HM4.out.1) ?_
        rotate_left
        · intro w9 _
          go_simp
          try with_reducible rfl
        try simp only [Act.put, List.setIfInBounds_toArray, List.set_cons_zero, List.set_cons_succ]
        refine Early.takeW (i := 11) (oi := _) (v := ?_) (by simp only [List.getElem?_toArray, List.getElem?_cons_succ, List.getElem?_cons_zero]; rfl) (by kernel_rfl) (by kernel_rfl) (by kernel_rfl) (by kernel_rfl) (by kernel_rfl) (by intro _ _ _ h; exact h) (Or.inl ⟨by rfl, ?_⟩) (fun _ => HM4.out.1) ?_
        rotate_left
        · intro w9 _
          go_simp
          try with_reducible rfl
        try simp only [Act.put, List.setIfInBounds_toArray, List.set_cons_zero, List.set_cons_succ]
        refine Early.ready (rs := [13]) (by kernel_rfl) (by simp) ?_
        refine Early.rest.cons (o := _) (by simp only [List.getElem?_toArray, List.getElem?_cons_succ, List.getElem?_cons_zero]; rfl) (fun K hK => ?_) Early.rest.nil
        refine step_store_box rfl 247 _ _ (by rfl) W.heap.size #[.int .i64 0, .int .i64 0] (by rfl) (by rfl) 247 #[.int .i64 0, .int .i64 0] hx4 edgeInfo rfl (by simp [Value.oneCell']) ?_
        intro w5 hB5 hg5
        have hMn : EdM w w5 B d wy mb LA lc BA bc dl D s ts w.heap.size := HM4.out.stored hx4 hg5 hlo3
        refine hK.out _ _ (fun _ => hMn.1) ?_
        clear hK K
        try simp only [Act.put, List.setIfInBounds_toArray, List.set_cons_zero, List.set_cons_succ]
        refine Early.takeW (i := 14) (oi := _) (v := ?_) (by simp only [List.getElem?_toArray, List.getElem?_cons_succ, List.getElem?_cons_zero]; rfl) (by kernel_rfl) (by kernel_rfl) (by kernel_rfl) (by kernel_rfl) (by kernel_rfl) (by intro _ _ _ h; exact h) (Or.inl ⟨by rfl, ?_⟩) (fun _ => hMn.1) ?_
        rotate_left
        · intro w9 _
          go_simp
          try with_reducible rfl
        try simp only [Act.put, List.setIfInBounds_toArray, List.set_cons_zero, List.set_cons_succ]
        refine Early.done (by kernel_rfl) ?_ _
        have HF := Lib.hid (And.intro hB5 hMn)
        clear hB5 hMn hg5
        go_wp2_with fail
        go_meet
        exact ⟨rfl, _, rfl, HF.out⟩
    case rest =>
    obtain ⟨rfl, t4, rfl, hE, hM⟩ := hcut
    have hBr := hM.2.2.2
    have f4 : wc.frozen? ⟨d, 4, none⟩ = false := hM.1.box.frozen 4
    have c4 : wc.cell? ⟨d, 4, none⟩ = some (.pointer (D.wv.map fun v => ⟨v, 0, none⟩)) := (hM.1.box.cell 4).trans rfl
    obtain ⟨hD1, hb1⟩ := hM.1.set_ (i := 4) (v := .pointer none) (D' := { D with wv := none }) rfl (.inl rfl)
    have hT1 : Blk (wc.setCell ⟨d, 4, none⟩ (.pointer none)) w.heap.size 135 (toldV 0 false 0 0) := Blk.far (p := ⟨d, 4, none⟩) hM.2.1 (hM.2.1.ne_ hM.1.box (by decide)) _
    have hbw1 : DMv w (wc.setCell ⟨d, 4, none⟩ (.pointer none)) d wy mb := (DMv.of_below hM.2.2.1).trans hb1
    clear hM hE hb1
    go_upto_region 4 with fail
    clear f4 c4
    generalize (wc.setCell ⟨d, 4, none⟩ (.pointer none)) = w1 at *
    go_wp2_with (first
      | (refine wpList_store_box rfl 135 _ _ (by rfl) w.heap.size (toldV 0 false 0 0) (by rfl) (by rfl) 135 (toldV 0 false 0 0) hT1 toldInfo rfl (by simp [toldV, Value.oneCell']) ?_)
      | fail)
    intro w5 hB5 hg5
    have hD5 := hD1.other hT1 hg5 hBr (by decide)
    have HF := Lib.hid (And.intro hD5.1 (hbw1.new hg5 (Nat.le_refl _)))
    clear hD1 hT1 hbw1 hD5 hg5
    go_wp2_with fail
    refine bodyPost_ret (Tl.results_cell_tmp9 rfl _ _ w.heap.size 135 _ (0, 0) _ rfl hB5 Tryz.underlying135 rfl toldInfo) rfl ?_
    exact ⟨rfl, HF.out⟩
set_option maxRecDepth 100000 in
theorem stay_any (h : DeckAt w B d wy mb LA lc BA bc dl D s ts) :
    Calls Tryz.prog 154 #[.pointer (some ⟨d, 0, none⟩), .int .i64 2, .int .i64 0] w fun x w' => x = .returned (.agg (toldV 2 false 0 0)) ∧ DeckAt w' B d wy mb LA lc BA bc dl { D with ov := true } s ts ∧ DMv w w' d wy mb := by
  go_enter Tryz.func154, Tryz.ntmps154
  go_upto_region 1 with fail
  have hBr := h.ups.2.2.2
  have hb0 : Below w.heap.size w (w.alloc (.cells #[.int .i64 0, .bool false, .int .u32 0, .int .i64 0] 135)) := (Below.refl _ _).alloc (Nat.le_refl _) _
  have hD0 := h.below hb0
  have hT0 : Blk (w.alloc (.cells #[.int .i64 0, .bool false, .int .u32 0, .int .i64 0] 135)) w.heap.size 135 (toldV 0 false 0 0) := Blk.new w _ _
  generalize (w.alloc (.cells #[.int .i64 0, .bool false, .int .u32 0, .int .i64 0] 135)) = w0 at *
  have f13 : w0.frozen? ⟨d, 13, none⟩ = false := hD0.box.frozen 13
  have c13 : w0.cell? ⟨d, 13, none⟩ = some (.bool D.ov) := (hD0.box.cell 13).trans rfl
  obtain ⟨hD1, hb1⟩ := hD0.set_ (i := 13) (v := .bool true) (D' := { D with ov := true }) rfl (.inr rfl)
  have hT1 : Blk (w0.setCell ⟨d, 13, none⟩ (.bool true)) w.heap.size 135 (toldV 0 false 0 0) := Blk.far (p := ⟨d, 13, none⟩) hT0 (hT0.ne_ hD0.box (by decide)) _
  have hbw1 : DMv w (w0.setCell ⟨d, 13, none⟩ (.bool true)) d wy mb := (DMv.of_below hb0).trans hb1
  clear hD0 hT0 hb0 hb1 h
  go_upto_region 2 with fail
  clear f13 c13
  generalize (w0.setCell ⟨d, 13, none⟩ (.bool true)) = w1 at *
  go_wp2_with (first
    | (refine wpList_store_box rfl 135 _ _ (by rfl) w.heap.size (toldV 2 false 0 0) (by rfl) (by rfl) 135 (toldV 0 false 0 0) hT1 toldInfo rfl (by simp [toldV, Value.oneCell']) ?_)
    | fail)
  intro w5 hB5 hg5
  have hD5 := hD1.other hT1 hg5 hBr (by decide)
  have HF := Lib.hid (And.intro hD5.1 (hbw1.new hg5 (Nat.le_refl _)))
  clear hD1 hT1 hbw1 hD5 hg5
  go_wp2_with fail
  refine bodyPost_ret (results_cell_row rfl _ _ w.heap.size 135 _ (0, 0) _ rfl hB5 Tryz.underlying135 rfl toldInfo) rfl ?_
  exact ⟨rfl, HF.out⟩
end
end Tl
end Go.Proofs.YtnlaedfnifimkaaGreat
namespace Go.Proofs.YtnlaedfnifimkaaGreat
open Go.RowKit Go.Joins
namespace Tl
section
variable {l : List BD} {s : WS}
theorem atB_ours {i : Nat} (hi : i < l.length) (ha : s.at_ = i) : atB (l.map wbOf) s.at_ = wbOf (l.getD i default) := by
  rw [ha]
  unfold atB
  rw [Int.toNat_natCast]
  exact wbs_getD l i hi
theorem next_level (ho : ∀ d ∈ l, OurB d) (hn : l.length ≤ 300) (hs : s.ok (l.map wbOf)) (hv : s.ov = false) {i : Nat} (hi : i < l.length) (ha : s.at_ = i) (hk : (l.getD i default).i0 = 43) : nextS (l.map wbOf) s = (⟨2, i, 0⟩, { s with at_ := (i : Int) + 1 }) := by
  refine nextS_o (fine_ours ho hn) hs hv (f := 1) ?_
  have ht : toldK (atB (l.map wbOf) s.at_) = 2 := by
    rw [atB_ours hi ha]
    show toldK ⟨(l.getD i default).i0, 0, 0, _, []⟩ = 2
    rw [hk]
    rfl
  unfold nextO
  rw [if_pos (by rw [ha, List.length_map]; omega), if_neg (by rw [ht]; decide), ht, ha]
theorem next_play (ho : ∀ d ∈ l, OurB d) (hn : l.length ≤ 300) (hs : s.ok (l.map wbOf)) (hv : s.ov = false) {i : Nat} (hi : i < l.length) (ha : s.at_ = i) (hk : (l.getD i default).i0 = 19) : nextS (l.map wbOf) s = (⟨0, i, 0⟩, { s with at_ := (i : Int) + 1 }) := by
  refine nextS_o (fine_ours ho hn) hs hv (f := 1) ?_
  have ht : toldK (atB (l.map wbOf) s.at_) = 0 := by
    rw [atB_ours hi ha]
    show toldK ⟨(l.getD i default).i0, 0, 0, _, []⟩ = 0
    rw [hk]
    rfl
  unfold nextO
  rw [if_pos (by rw [ha, List.length_map]; omega), if_neg (by rw [ht]; decide), ht, ha]
theorem next_stop (ho : ∀ d ∈ l, OurB d) (hn : l.length ≤ 300) (hs : s.ok (l.map wbOf)) (hv : s.ov = false) (ha : s.at_ = l.length) : nextS (l.map wbOf) s = (⟨3, l.length, 0⟩, stayS s 3 l.length 0) := by
  refine nextS_o (fine_ours ho hn) hs hv (f := 1) ?_
  unfold nextO
  rw [if_neg (by rw [ha, List.length_map]; omega), List.length_map]
end
section
variable {w : World} {B d wy mb lc bc : Nat} {LA BA : Option Addr} {dl : List BD} {D : DkS} {s : WS} {ts : List Int}
set_option maxRecDepth 100000 in
set_option maxHeartbeats 8000000 in
theorem step_end (h : DeckAt w B d wy mb LA lc BA bc dl D s ts) (ho : ∀ x ∈ dl, OurB x) (hn : dl.length ≤ 300) (hv : s.ov = false) (ha : s.at_ = dl.length) :
    Calls Tryz.prog 124 #[.pointer (some ⟨d, 0, none⟩)] w fun x w' => x = .returned (.tuple #[.agg (toldV 2 false 0 0), .bool true]) ∧ DeckAt w' B d wy mb LA lc BA bc dl { D with ov := true } (stayS s 3 dl.length 0) ts ∧ DMv w w' d wy mb := by
  have hNX := next_stop ho hn h.ok hv ha
  have HB0 := Lib.hid h.ups.2.2.2
  have hfine := fine_ours ho hn
  have hok2 := nextS_ok hfine h.ok
  rw [hNX] at hok2
  go_enter Tryz.func124, Tryz.ntmps124
  go_upto_region 1 with fail
  have hb0 : Below w.heap.size w (w.alloc (.cells #[.int .i64 0, .bool false, .int .u32 0, .int .i64 0] 135)) := (Below.refl _ _).alloc (Nat.le_refl _) _
  have hD0 := h.below hb0
  have hT0 : Blk (w.alloc (.cells #[.int .i64 0, .bool false, .int .u32 0, .int .i64 0] 135)) w.heap.size 135 (toldV 0 false 0 0) := Blk.new w _ _
  generalize (w.alloc (.cells #[.int .i64 0, .bool false, .int .u32 0, .int .i64 0] 135)) = w0 at *
  have c3 : w0.cell? ⟨d, 3, none⟩ = some (.pointer (some ⟨wy, 0, none⟩)) := (hD0.box.cell 3).trans rfl
  have hnx := next_any w0 wy mb LA dl.length lc (dl.map wbOf) s hD0.fineW hD0.ok hfine
  rw [hNX] at hnx
  have H0 := Lib.hid (And.intro hD0 (And.intro hT0 (And.intro (DMv.of_below (d := d) (wy := wy) (mb := mb) hb0) (And.intro hok2 (And.intro ho hn)))))
  clear hD0 hT0 hb0 hok2 hfine h ho hn
  go_wp2_with fail
  refine hnx.mono ?_
  rintro x w1 ⟨rfl, hW1, hM1⟩
  obtain ⟨hD0, hT0, hbw0, hok2, ho, hn⟩ := H0.out
  obtain ⟨hD1, hb1⟩ := hD0.walked hW1 hM1 hok2
  have hT1 := hb1.kept hD0 hT0 (by decide)
  have H1 := Lib.hid (And.intro hD1 (And.intro hT1 (And.intro (hbw0.trans hb1) (And.intro ho hn))))
  clear hD0 hT0 hbw0 hok2 ho hn hW1 hM1 hD1 hb1 hT1 hnx c3 H0 hNX
  go_upto_region 2 with (first
    | (refine wpList_store_box rfl 215 _ _ (by rfl) w1.heap.size #[.int .i64 3, .int .i64 dl.length, .int .i64 0] (by rfl) (by rfl) 215 #[.int .i64 0, .int .i64 0, .int .i64 0] (Blk.new w1 _ _) stepInfo rfl (by simp [Value.oneCell']) ?_)
    | fail)
  intro w5 hB5 hg5
  obtain ⟨hD1, hT1, hbw1, ho, hn⟩ := H1.out
  have hb5 : Below w1.heap.size w1 w5 := ((Below.refl _ _).alloc (Nat.le_refl _) _).grown hg5 (by simp) (fun b e => by injection e with e; omega)
  have hD5 := hD1.below hb5
  have hT5 := hT1.below hb5 hT1.lt
  have hbw5 := hbw1.trans (DMv.of_below hb5)
  clear hD1 hT1 hbw1 hb5 hg5 H1
  generalize w1.heap.size = st at *
  have e0 : w5.cell? ⟨st, 0, none⟩ = some (.int .i64 3) := (hB5.cell 0).trans rfl
  have H5 := Lib.hid (And.intro hD5 (And.intro hT5 (And.intro hbw5 (And.intro ho (And.intro hn hB5)))))
  clear hD5 hT5 hbw5 ho hn hB5
  try go_upto_region 2 with fail
  go_upto_region 14 with fail
  obtain ⟨hD5, hT5, hbw5, ho, hn, hB5⟩ := H5.out
  have hsy := stay_any hD5
  clear hD5 hT5 hbw5 ho hn hB5 e0
  go_wp2_with fail
  refine hsy.mono ?_
  rintro x w6 ⟨rfl, hD6, hb6⟩
  have hT6 := hb6.kept H5.out.1 H5.out.2.1 (by decide)
  have hbw6 := H5.out.2.2.1.trans hb6
  have hBr := hD6.ups.2.2.2
  have hlo : B ≤ w.heap.size := HB0.out
  clear hb6 hsy H5
  go_wp2_with (first
    | (refine wpList_store_box rfl 135 _ _ (by rfl) w.heap.size (toldV 2 false 0 0) (by rfl) (by rfl) 135 (toldV 0 false 0 0) hT6 toldInfo rfl (by simp [toldV, Value.oneCell']) ?_)
    | fail)
  intro w9 hB9 hg9
  have hD9 := hD6.other hT6 hg9 hlo (by decide)
  have HF := Lib.hid (And.intro hD9.1 (hbw6.new hg9 (Nat.le_refl _)))
  clear hD6 hT6 hbw6 hD9 hg9
  go_wp2_with fail
  refine bodyPost_ret (Tl.results_cell_tmp9 rfl _ _ w.heap.size 135 _ (0, 0) _ rfl hB9 Tryz.underlying135 rfl toldInfo) rfl ?_
  exact ⟨rfl, HF.out⟩
set_option maxRecDepth 100000 in
set_option maxHeartbeats 8000000 in
theorem step_level (h : DeckAt w B d wy mb LA lc BA bc dl D s ts) (ho : ∀ x ∈ dl, OurB x) (hn : dl.length ≤ 300) (hv : s.ov = false) {i : Nat} (hi : i < dl.length) (ha : s.at_ = i) (hk : (dl.getD i default).i0 = 43) :
    Calls Tryz.prog 124 #[.pointer (some ⟨d, 0, none⟩)] w fun x w' => x = .returned (.tuple #[.agg (toldV 0 false 0 0), .bool false]) ∧ DeckAt w' B d wy mb LA lc BA bc dl { D with lv := (dl.getD i default).i9 != 0 } { s with at_ := (i : Int) + 1 } ts ∧ DMv w w' d wy mb := by
  have hNX := next_level ho hn h.ok hv hi ha hk
  have HB0 := Lib.hid h.ups.2.2.2
  have hfine := fine_ours ho hn
  have hok2 := nextS_ok hfine h.ok
  rw [hNX] at hok2
  go_enter Tryz.func124, Tryz.ntmps124
  go_upto_region 1 with fail
  have hb0 : Below w.heap.size w (w.alloc (.cells #[.int .i64 0, .bool false, .int .u32 0, .int .i64 0] 135)) := (Below.refl _ _).alloc (Nat.le_refl _) _
  have hD0 := h.below hb0
  have hT0 : Blk (w.alloc (.cells #[.int .i64 0, .bool false, .int .u32 0, .int .i64 0] 135)) w.heap.size 135 (toldV 0 false 0 0) := Blk.new w _ _
  generalize (w.alloc (.cells #[.int .i64 0, .bool false, .int .u32 0, .int .i64 0] 135)) = w0 at *
  have c3 : w0.cell? ⟨d, 3, none⟩ = some (.pointer (some ⟨wy, 0, none⟩)) := (hD0.box.cell 3).trans rfl
  have hnx := next_any w0 wy mb LA dl.length lc (dl.map wbOf) s hD0.fineW hD0.ok hfine
  rw [hNX] at hnx
  have H0 := Lib.hid (And.intro hD0 (And.intro hT0 (And.intro (DMv.of_below (d := d) (wy := wy) (mb := mb) hb0) (And.intro hok2 (And.intro ho hn)))))
  clear hD0 hT0 hb0 hok2 hfine h ho hn
  go_wp2_with fail
  refine hnx.mono ?_
  rintro x w1 ⟨rfl, hW1, hM1⟩
  obtain ⟨hD0, hT0, hbw0, hok2, ho, hn⟩ := H0.out
  obtain ⟨hD1, hb1⟩ := hD0.walked hW1 hM1 hok2
  have hT1 := hb1.kept hD0 hT0 (by decide)
  have H1 := Lib.hid (And.intro hD1 (And.intro hT1 (And.intro (hbw0.trans hb1) (And.intro ho hn))))
  clear hD0 hT0 hbw0 hok2 ho hn hW1 hM1 hD1 hb1 hT1 hnx c3 H0 hNX
  go_upto_region 2 with (first
    | (refine wpList_store_box rfl 215 _ _ (by rfl) w1.heap.size #[.int .i64 2, .int .i64 i, .int .i64 0] (by rfl) (by rfl) 215 #[.int .i64 0, .int .i64 0, .int .i64 0] (Blk.new w1 _ _) stepInfo rfl (by simp [Value.oneCell']) ?_)
    | fail)
  intro w5 hB5 hg5
  obtain ⟨hD1, hT1, hbw1, ho, hn⟩ := H1.out
  have hb5 : Below w1.heap.size w1 w5 := ((Below.refl _ _).alloc (Nat.le_refl _) _).grown hg5 (by simp) (fun b e => by injection e with e; omega)
  have hD5 := hD1.below hb5
  have hT5 := hT1.below hb5 hT1.lt
  have hbw5 := hbw1.trans (DMv.of_below hb5)
  clear hD1 hT1 hbw1 hb5 hg5 H1
  generalize w1.heap.size = st at *
  have e0 : w5.cell? ⟨st, 0, none⟩ = some (.int .i64 2) := (hB5.cell 0).trans rfl
  have H5 := Lib.hid (And.intro hD5 (And.intro hT5 (And.intro hbw5 (And.intro ho (And.intro hn hB5)))))
  clear hD5 hT5 hbw5 ho hn hB5
  try go_upto_region 2 with fail
  go_upto_region 12 with fail
  obtain ⟨hD5, hT5, hbw5, ho, hn, hB5⟩ := H5.out
  obtain ⟨xs, hx1, hx2⟩ := hD5.blks
  obtain ⟨ad, ta, tn, tc, rfl, hab, hc, _⟩ := blk_load hx1 hx2 hi
  have hc9 : w5.cell? ((ad.add (i * 18)).add 9) = some (.int .i64 (dl.getD i default).i9) := hc 9 _ rfl
  obtain ⟨z, hz⟩ : ∃ z, z = (dl.getD i default).i9 := ⟨_, rfl⟩
  rw [← hz] at hc9
  have HZ := Lib.hid hz
  clear hz
  have HC := Lib.hid (show w5.cell? ⟨d, 2, none⟩ = some (.slice (some ad) dl.length bc) ∧ w5.cell? ⟨st, 1, none⟩ = some (.int .i64 i) ∧ w5.cell? ((ad.add (i * 18)).add 9) = some (.int .i64 z) from ⟨(hD5.box.cell 2).trans rfl, (hB5.cell 1).trans rfl, hc9⟩)
  have HD := Lib.hid (And.intro hD5 (And.intro hT5 hbw5))
  have hi2 : (i : Int) < dl.length := by omega
  clear hD5 hT5 hbw5 ho hn hB5 hx1 hx2 hc hc9 H5 e0 hab
  have hS : w5.drew.cell? ⟨d, 2, none⟩ = some (.slice (some ad) dl.length bc) ∧ w5.drew.cell? ⟨st, 1, none⟩ = some (.int .i64 i) ∧ w5.drew.cell? ((ad.add (i * 18)).add 9) = some (.int .i64 z) := HC.out
  refine Early.begin (S := fun w' => w'.cell? ⟨d, 2, none⟩ = some (.slice (some ad) dl.length bc) ∧ w'.cell? ⟨st, 1, none⟩ = some (.int .i64 i) ∧ w'.cell? ((ad.add (i * 18)).add 9) = some (.int .i64 z)) (late := [14]) (by kernel_rfl) ?_
  refine Early.takeW (i := 0) (oi := _) (v := ?_) (by simp only [List.getElem?_toArray, List.getElem?_cons_succ, List.getElem?_cons_zero]; rfl) (by kernel_rfl) (by kernel_rfl) (by kernel_rfl) (by kernel_rfl) (by kernel_rfl) (by intro _ _ _ h; exact h) (Or.inl ⟨by rfl, ?_⟩) (fun _ => hS) ?_
  rotate_left
  · intro w9 _
    go_simp
    try with_reducible rfl
  try simp only [Act.put, List.setIfInBounds_toArray, List.set_cons_zero, List.set_cons_succ]
  refine Early.takeW (i := 1) (oi := _) (v := ?_) (by simp only [List.getElem?_toArray, List.getElem?_cons_succ, List.getElem?_cons_zero]; rfl) (by kernel_rfl) (by kernel_rfl) (by kernel_rfl) (by kernel_rfl) (by kernel_rfl) (by intro _ _ _ h; exact h) (Or.inl ⟨by rfl, ?_⟩) (fun _ => hS) ?_
  rotate_left
  · intro w9 _
    go_simp
    try with_reducible rfl
  try simp only [Act.put, List.setIfInBounds_toArray, List.set_cons_zero, List.set_cons_succ]
  refine Early.takeW (i := 2) (oi := _) (v := ?_) (by simp only [List.getElem?_toArray, List.getElem?_cons_succ, List.getElem?_cons_zero]; rfl) (by kernel_rfl) (by kernel_rfl) (by kernel_rfl) (by kernel_rfl) (by kernel_rfl) (by intro _ _ _ h; exact h) (Or.inl ⟨by rfl, ?_⟩) (fun _ => hS) ?_
  rotate_left
  · intro w9 _
    go_simp
    try with_reducible rfl
  try simp only [Act.put, List.setIfInBounds_toArray, List.set_cons_zero, List.set_cons_succ]
  refine Early.takeW (i := 3) (oi := _) (v := ?_) (by simp only [List.getElem?_toArray, List.getElem?_cons_succ, List.getElem?_cons_zero]; rfl) (by kernel_rfl) (by kernel_rfl) (by kernel_rfl) (by kernel_rfl) (by kernel_rfl) (by intro _ _ _ h; exact h) (Or.inl ⟨by rfl, ?_⟩) (fun _ => hS) ?_
  rotate_left
  · intro w9 _
    go_simp
    try with_reducible rfl
  try simp only [Act.put, List.setIfInBounds_toArray, List.set_cons_zero, List.set_cons_succ]
  refine Early.takeW (i := 4) (oi := _) (v := ?_) (by simp only [List.getElem?_toArray, List.getElem?_cons_succ, List.getElem?_cons_zero]; rfl) (by kernel_rfl) (by kernel_rfl) (by kernel_rfl) (by kernel_rfl) (by kernel_rfl) (by intro _ _ _ h; exact h) (Or.inl ⟨by rfl, ?_⟩) (fun _ => hS) ?_
  rotate_left
  · intro w9 _
    go_simp
    try with_reducible rfl
  try simp only [Act.put, List.setIfInBounds_toArray, List.set_cons_zero, List.set_cons_succ]
  refine Early.take (i := 5) (oi := _) (v := ?_) (by simp only [List.getElem?_toArray, List.getElem?_cons_succ, List.getElem?_cons_zero]; rfl) (by kernel_rfl) (by kernel_rfl) (by kernel_rfl) (by kernel_rfl) (by kernel_rfl) (by kernel_rfl) (by intro _ _ _ h; exact h) (Or.inl ⟨by rfl, ?_⟩) hS ?_
  rotate_left
  · intro w9 hSw
    have c9 := hSw.1
    go_simp
    try with_reducible rfl
  try simp only [Act.put, List.setIfInBounds_toArray, List.set_cons_zero, List.set_cons_succ]
  refine Early.takeW (i := 6) (oi := _) (v := ?_) (by simp only [List.getElem?_toArray, List.getElem?_cons_succ, List.getElem?_cons_zero]; rfl) (by kernel_rfl) (by kernel_rfl) (by kernel_rfl) (by kernel_rfl) (by kernel_rfl) (by intro _ _ _ h; exact h) (Or.inl ⟨by rfl, ?_⟩) (fun _ => hS) ?_
  rotate_left
  · intro w9 _
    go_simp
    try with_reducible rfl
  try simp only [Act.put, List.setIfInBounds_toArray, List.set_cons_zero, List.set_cons_succ]
  refine Early.take (i := 7) (oi := _) (v := ?_) (by simp only [List.getElem?_toArray, List.getElem?_cons_succ, List.getElem?_cons_zero]; rfl) (by kernel_rfl) (by kernel_rfl) (by kernel_rfl) (by kernel_rfl) (by kernel_rfl) (by kernel_rfl) (by intro _ _ _ h; exact h) (Or.inl ⟨by rfl, ?_⟩) hS ?_
  rotate_left
  · intro w9 hSw
    have c9 := hSw.2.1
    go_simp
    try with_reducible rfl
  try simp only [Act.put, List.setIfInBounds_toArray, List.set_cons_zero, List.set_cons_succ]
  refine Early.takeW (i := 8) (oi := _) (v := ?_) (by simp only [List.getElem?_toArray, List.getElem?_cons_succ, List.getElem?_cons_zero]; rfl) (by kernel_rfl) (by kernel_rfl) (by kernel_rfl) (by kernel_rfl) (by kernel_rfl) (by intro _ _ _ h; exact h) (Or.inl ⟨by rfl, ?_⟩) (fun _ => hS) ?_
  rotate_left
  · intro w9 _
    go_simp
    try with_reducible rfl
  try simp only [Act.put, List.setIfInBounds_toArray, List.set_cons_zero, List.set_cons_succ]
  refine Early.takeW (i := 9) (oi := _) (v := ?_) (by simp only [List.getElem?_toArray, List.getElem?_cons_succ, List.getElem?_cons_zero]; rfl) (by kernel_rfl) (by kernel_rfl) (by kernel_rfl) (by kernel_rfl) (by kernel_rfl) (by intro _ _ _ h; exact h) (Or.inl ⟨by rfl, ?_⟩) (fun _ => hS) ?_
  rotate_left
  · intro w9 _
    go_simp
    try with_reducible rfl
  try simp only [Act.put, List.setIfInBounds_toArray, List.set_cons_zero, List.set_cons_succ]
  refine Early.take (i := 10) (oi := _) (v := ?_) (by simp only [List.getElem?_toArray, List.getElem?_cons_succ, List.getElem?_cons_zero]; rfl) (by kernel_rfl) (by kernel_rfl) (by kernel_rfl) (by kernel_rfl) (by kernel_rfl) (by kernel_rfl) (by intro _ _ _ h; exact h) (Or.inl ⟨by rfl, ?_⟩) hS ?_
  rotate_left
  · intro w9 hSw
    have c9 : w9.cell? ⟨(ad.add (i * 18)).block, (ad.add (i * 18)).off + 9, none⟩ = some (.int .i64 z) := hSw.2.2
    go_simp
    try with_reducible rfl
  try simp only [Act.put, List.setIfInBounds_toArray, List.set_cons_zero, List.set_cons_succ]
  refine Early.takeW (i := 11) (oi := _) (v := ?_) (by simp only [List.getElem?_toArray, List.getElem?_cons_succ, List.getElem?_cons_zero]; rfl) (by kernel_rfl) (by kernel_rfl) (by kernel_rfl) (by kernel_rfl) (by kernel_rfl) (by intro _ _ _ h; exact h) (Or.inl ⟨by rfl, ?_⟩) (fun _ => hS) ?_
  rotate_left
  · intro w9 _
    go_simp
    try with_reducible rfl
  try simp only [Act.put, List.setIfInBounds_toArray, List.set_cons_zero, List.set_cons_succ]
  refine Early.takeW (i := 12) (oi := _) (v := ?_) (by simp only [List.getElem?_toArray, List.getElem?_cons_succ, List.getElem?_cons_zero]; rfl) (by kernel_rfl) (by kernel_rfl) (by kernel_rfl) (by kernel_rfl) (by kernel_rfl) (by intro _ _ _ h; exact h) (Or.inl ⟨by rfl, ?_⟩) (fun _ => hS) ?_
  rotate_left
  · intro w9 _
    go_simp
    try with_reducible rfl
  try simp only [Act.put, List.setIfInBounds_toArray, List.set_cons_zero, List.set_cons_succ]
  refine Early.takeW (i := 13) (oi := _) (v := ?_) (by simp only [List.getElem?_toArray, List.getElem?_cons_succ, List.getElem?_cons_zero]; rfl) (by kernel_rfl) (by kernel_rfl) (by kernel_rfl) (by kernel_rfl) (by kernel_rfl) (by intro _ _ _ h; exact h) (Or.inl ⟨by rfl, ?_⟩) (fun _ => hS) ?_
  rotate_left
  · intro w9 _
    go_simp
    try with_reducible rfl
  try simp only [Act.put, List.setIfInBounds_toArray, List.set_cons_zero, List.set_cons_succ]
  refine Early.ready (rs := [14]) (by kernel_rfl) (by simp) ?_
  refine Early.rest.cons (o := _) (by simp only [List.getElem?_toArray, List.getElem?_cons_succ, List.getElem?_cons_zero]; rfl) (fun K hK => ?_) Early.rest.nil
  have f6 : w5.drew.frozen? ⟨d, 6, none⟩ = false := HD.out.1.box.frozen 6
  have c6 : w5.drew.cell? ⟨d, 6, none⟩ = some (.bool D.lv) := (HD.out.1.box.cell 6).trans rfl
  go_simp
  refine hK.out _ _ (fun h => absurd h (by decide)) ?_
  clear hK K f6 c6
  refine Early.done (by kernel_rfl) ?_ _
  obtain ⟨hD6, hb6⟩ := HD.out.1.set_ (i := 6) (v := .bool (z != 0)) (D' := { D with lv := z != 0 }) rfl (.inr rfl)
  have hT6 : Blk (w5.setCell ⟨d, 6, none⟩ (.bool (z != 0))).drew w.heap.size 135 (toldV 0 false 0 0) := hb6.kept HD.out.1 HD.out.2.1 (by decide)
  have hbw6 := (HD.out.2.2.trans hb6).drew
  have hD6 := hD6.below (w' := (w5.setCell ⟨d, 6, none⟩ (.bool (z != 0))).drew) ⟨rfl, rfl, rfl, Nat.le_refl _, fun _ _ => rfl⟩
  generalize (w5.setCell ⟨d, 6, none⟩ (.bool (z != 0))).drew = w6 at *
  have hlo : B ≤ w.heap.size := HB0.out
  clear hb6 HD HC hS
  go_wp2_with (first
    | (refine wpList_store_box rfl 135 _ _ (by rfl) w.heap.size (toldV 0 false 0 0) (by rfl) (by rfl) 135 (toldV 0 false 0 0) hT6 toldInfo rfl (by simp [toldV, Value.oneCell']) ?_)
    | fail)
  intro w9 hB9 hg9
  have hD9 := hD6.other hT6 hg9 hlo (by decide)
  have HF := Lib.hid (And.intro hD9.1 (hbw6.new hg9 (Nat.le_refl _)))
  clear hD6 hT6 hbw6 hD9 hg9
  go_wp2_with fail
  refine bodyPost_ret (Tl.results_cell_tmp9 rfl _ _ w.heap.size 135 _ (0, 0) _ rfl hB9 Tryz.underlying135 rfl toldInfo) rfl ?_
  exact ⟨rfl, by rw [← HZ.out]; exact HF.out⟩
end
end Tl
end Go.Proofs.YtnlaedfnifimkaaGreat
namespace Go.Proofs.YtnlaedfnifimkaaGreat
open Go.RowKit Go.Joins
namespace Tl
section
variable {w : World} {B d wy mb lc bc : Nat} {LA BA : Option Addr} {dl : List BD} {D : DkS} {s : WS} {ts : List Int}
theorem DeckAt.set_w {v : Nat} {ts' : List Int} (h : DeckAt w B d wy mb LA lc BA bc dl D s ts) (hv : WvOk w B v ts') : DeckAt (w.setCell ⟨d, 4, none⟩ (.pointer (some ⟨v, 0, none⟩))) B d wy mb LA lc BA bc dl { D with wv := some v } s ts' ∧ DMv w (w.setCell ⟨d, 4, none⟩ (.pointer (some ⟨v, 0, none⟩))) d wy mb := by
  obtain ⟨xs, h1, h2⟩ := h.blks
  have hB := h.ups
  have hst : ∀ k, k ≠ d → (w.setCell ⟨d, 4, none⟩ (.pointer (some ⟨v, 0, none⟩))).heap[k]? = w.heap[k]? := fun k hk => Below.heap_setCell _ _ _ _ hk
  have hbB : Below B w (w.setCell ⟨d, 4, none⟩ (.pointer (some ⟨v, 0, none⟩))) := (Below.refl _ _).setCell (by show B ≤ d; exact hB.1) _
  have hk : ∀ b, b < B → (w.setCell ⟨d, 4, none⟩ (.pointer (some ⟨v, 0, none⟩))).heap[b]? = w.heap[b]? := fun b hlt => hbB.block b hlt
  refine ⟨⟨h.box.set_ 4 _, (hst wy (h.way.ne_ h.box (by decide))).trans h.way, h.tk.kept (hst mb (h.tk.ne h.box)), h.wbs.keep hk (fun _ h => h), ⟨xs, h1.keep hk (fun _ h => h), BlksAt.keep hk (fun _ h => h) h2⟩, fun v2 hv2 => ?_, ⟨hB.1, hB.2.1, hB.2.2.1, by simpa [World.setCell] using hB.2.2.2⟩, h.ok⟩, rfl, rfl, rfl, by simp [World.setCell], fun k _ h1 _ _ => hst k h1⟩
  have e : v = v2 := by injection hv2
  subst e
  have hw := hv
  obtain ⟨_, _, _, _, _, h5, _⟩ := hw
  exact hv.keep hbB (hst v (h5.ne_ h.box (by decide))) (fun k t cs e et => hst k (Blk.ne_ (t := t) e h.box (by rw [et]; decide)))
set_option maxRecDepth 100000 in
set_option maxHeartbeats 8000000 in
theorem step_play (h : DeckAt w B d wy mb LA lc BA bc dl D s ts) (ho : ∀ x ∈ dl, OurB x) (hn : dl.length ≤ 300) (hv : s.ov = false) {i : Nat} (hi : i < dl.length) (ha : s.at_ = i) (hk : (dl.getD i default).i0 = 19) (hw : D.wv = none) :
    Calls Tryz.prog 124 #[.pointer (some ⟨d, 0, none⟩)] w fun x w' => x = .returned (.tuple #[.agg (toldV 0 false 0 0), .bool false]) ∧ (∃ v, DeckAt w' B d wy mb LA lc BA bc dl { D with wv := some v, k := 0 } { s with at_ := (i : Int) + 1 } (dl.getD i default).ts) ∧ DMv w w' d wy mb := by
  have hNX := next_play ho hn h.ok hv hi ha hk
  have HB0 := Lib.hid h.ups.2.2.2
  have hfine := fine_ours ho hn
  have hok2 := nextS_ok hfine h.ok
  rw [hNX] at hok2
  go_enter Tryz.func124, Tryz.ntmps124
  go_upto_region 1 with fail
  have hb0 : Below w.heap.size w (w.alloc (.cells #[.int .i64 0, .bool false, .int .u32 0, .int .i64 0] 135)) := (Below.refl _ _).alloc (Nat.le_refl _) _
  have hD0 := h.below hb0
  have hT0 : Blk (w.alloc (.cells #[.int .i64 0, .bool false, .int .u32 0, .int .i64 0] 135)) w.heap.size 135 (toldV 0 false 0 0) := Blk.new w _ _
  generalize (w.alloc (.cells #[.int .i64 0, .bool false, .int .u32 0, .int .i64 0] 135)) = w0 at *
  have c3 : w0.cell? ⟨d, 3, none⟩ = some (.pointer (some ⟨wy, 0, none⟩)) := (hD0.box.cell 3).trans rfl
  have hnx := next_any w0 wy mb LA dl.length lc (dl.map wbOf) s hD0.fineW hD0.ok hfine
  rw [hNX] at hnx
  have H0 := Lib.hid (And.intro hD0 (And.intro hT0 (And.intro (DMv.of_below (d := d) (wy := wy) (mb := mb) hb0) (And.intro hok2 (And.intro ho hn)))))
  clear hD0 hT0 hb0 hok2 hfine h ho hn
  go_wp2_with fail
  refine hnx.mono ?_
  rintro x w1 ⟨rfl, hW1, hM1⟩
  obtain ⟨hD0, hT0, hbw0, hok2, ho, hn⟩ := H0.out
  obtain ⟨hD1, hb1⟩ := hD0.walked hW1 hM1 hok2
  have hT1 := hb1.kept hD0 hT0 (by decide)
  have H1 := Lib.hid (And.intro hD1 (And.intro hT1 (And.intro (hbw0.trans hb1) (And.intro ho hn))))
  clear hD0 hT0 hbw0 hok2 ho hn hW1 hM1 hD1 hb1 hT1 hnx c3 H0 hNX
  go_upto_region 2 with (first
    | (refine wpList_store_box rfl 215 _ _ (by rfl) w1.heap.size #[.int .i64 0, .int .i64 i, .int .i64 0] (by rfl) (by rfl) 215 #[.int .i64 0, .int .i64 0, .int .i64 0] (Blk.new w1 _ _) stepInfo rfl (by simp [Value.oneCell']) ?_)
    | fail)
  intro w5 hB5 hg5
  obtain ⟨hD1, hT1, hbw1, ho, hn⟩ := H1.out
  have hb5 : Below w1.heap.size w1 w5 := ((Below.refl _ _).alloc (Nat.le_refl _) _).grown hg5 (by simp) (fun b e => by injection e with e; omega)
  have hD5 := hD1.below hb5
  have hT5 := hT1.below hb5 hT1.lt
  have hbw5 := hbw1.trans (DMv.of_below hb5)
  clear hD1 hT1 hbw1 hb5 hg5 H1
  generalize w1.heap.size = st at *
  have e0 : w5.cell? ⟨st, 0, none⟩ = some (.int .i64 0) := (hB5.cell 0).trans rfl
  have H5 := Lib.hid (And.intro hD5 (And.intro hT5 (And.intro hbw5 (And.intro ho (And.intro hn hB5)))))
  clear hD5 hT5 hbw5 ho hn hB5
  try go_upto_region 2 with fail
  go_upto_region 5 with fail
  obtain ⟨hD5, hT5, hbw5, ho, hn, hB5⟩ := H5.out
  obtain ⟨xs, hx1, hx2⟩ := hD5.blks
  obtain ⟨ad, ta, tn, tc, rfl, hab, hc, hrd, hnc, hn0⟩ := blk_load hx1 hx2 hi
  have hour := ours_at ho (i := i) hi
  have h9 : (dl.getD i default).i9 = 0 := by
    rcases hour with h | h
    · exact absurd h.1 (by omega)
    · exact h.2.1
  have hlen : (dl.getD i default).ts.length = tn := by have := hrd.1; simpa using this
  rw [hk, h9] at hc
  have hrB : Reads w5 B 1 ta tn ((dl.getD i default).ts.map (Value.int .i64)) := hrd.reads (fun _ h => h)
  have hbB := hD5.ups.2.2.2
  have HC := Lib.hid (show w5.cell? ⟨d, 2, none⟩ = some (.slice (some ad) dl.length bc) ∧ w5.cell? ⟨st, 1, none⟩ = some (.int .i64 i) ∧ (∀ j v, (bk 19 0 (.slice ta tn tc)).toList[j]? = some v → w5.cell? ((ad.add (i * 18)).add j) = some v) from ⟨(hD5.box.cell 2).trans rfl, (hB5.cell 1).trans rfl, hc⟩)
  have HD := Lib.hid (And.intro hD5 (And.intro hT5 (And.intro hbw5 (And.intro (show ad.block < w5.heap.size by omega) (And.intro (And.intro hrB hlen) hB5)))))
  have hi2 : (i : Int) < dl.length := by omega
  clear hD5 hT5 hbw5 ho hn hB5 hx1 hx2 hc H5 e0 hab hrd hnc hn0 hour h9 hrB hbB hlen
  have hS : w5.drew.cell? ⟨d, 2, none⟩ = some (.slice (some ad) dl.length bc) ∧ w5.drew.cell? ⟨st, 1, none⟩ = some (.int .i64 i) ∧ (∀ j v, (bk 19 0 (.slice ta tn tc)).toList[j]? = some v → w5.drew.cell? ((ad.add (i * 18)).add j) = some v) := HC.out
  refine Early.begin (S := fun w' => w'.cell? ⟨d, 2, none⟩ = some (.slice (some ad) dl.length bc) ∧ w'.cell? ⟨st, 1, none⟩ = some (.int .i64 i) ∧ (∀ j v, (bk 19 0 (.slice ta tn tc)).toList[j]? = some v → w'.cell? ((ad.add (i * 18)).add j) = some v)) (late := []) (by kernel_rfl) ?_
  refine Early.takeW (i := 0) (oi := _) (v := ?_) (by simp only [List.getElem?_toArray, List.getElem?_cons_succ, List.getElem?_cons_zero]; rfl) (by kernel_rfl) (by kernel_rfl) (by kernel_rfl) (by kernel_rfl) (by kernel_rfl) (by intro _ _ _ h; exact h) (Or.inl ⟨by rfl, ?_⟩) (fun _ => hS) ?_
  rotate_left
  · intro w9 _
    go_simp
    try with_reducible rfl
  try simp only [Act.put, List.setIfInBounds_toArray, List.set_cons_zero, List.set_cons_succ]
  refine Early.takeW (i := 1) (oi := _) (v := ?_) (by simp only [List.getElem?_toArray, List.getElem?_cons_succ, List.getElem?_cons_zero]; rfl) (by kernel_rfl) (by kernel_rfl) (by kernel_rfl) (by kernel_rfl) (by kernel_rfl) (by intro _ _ _ h; exact h) (Or.inl ⟨by rfl, ?_⟩) (fun _ => hS) ?_
  rotate_left
  · intro w9 _
    go_simp
    try with_reducible rfl
  try simp only [Act.put, List.setIfInBounds_toArray, List.set_cons_zero, List.set_cons_succ]
  refine Early.takeW (i := 2) (oi := _) (v := ?_) (by simp only [List.getElem?_toArray, List.getElem?_cons_succ, List.getElem?_cons_zero]; rfl) (by kernel_rfl) (by kernel_rfl) (by kernel_rfl) (by kernel_rfl) (by kernel_rfl) (by intro _ _ _ h; exact h) (Or.inl ⟨by rfl, ?_⟩) (fun _ => hS) ?_
  rotate_left
  · intro w9 _
    go_simp
    try with_reducible rfl
  try simp only [Act.put, List.setIfInBounds_toArray, List.set_cons_zero, List.set_cons_succ]
  refine Early.takeW (i := 3) (oi := _) (v := ?_) (by simp only [List.getElem?_toArray, List.getElem?_cons_succ, List.getElem?_cons_zero]; rfl) (by kernel_rfl) (by kernel_rfl) (by kernel_rfl) (by kernel_rfl) (by kernel_rfl) (by intro _ _ _ h; exact h) (Or.inl ⟨by rfl, ?_⟩) (fun _ => hS) ?_
  rotate_left
  · intro w9 _
    go_simp
    try with_reducible rfl
  try simp only [Act.put, List.setIfInBounds_toArray, List.set_cons_zero, List.set_cons_succ]
  refine Early.take (i := 4) (oi := _) (v := ?_) (by simp only [List.getElem?_toArray, List.getElem?_cons_succ, List.getElem?_cons_zero]; rfl) (by kernel_rfl) (by kernel_rfl) (by kernel_rfl) (by kernel_rfl) (by kernel_rfl) (by kernel_rfl) (by intro _ _ _ h; exact h) (Or.inl ⟨by rfl, ?_⟩) hS ?_
  rotate_left
  · intro w9 hSw
    have c9 := hSw.1
    go_simp
    try with_reducible rfl
  try simp only [Act.put, List.setIfInBounds_toArray, List.set_cons_zero, List.set_cons_succ]
  refine Early.takeW (i := 5) (oi := _) (v := ?_) (by simp only [List.getElem?_toArray, List.getElem?_cons_succ, List.getElem?_cons_zero]; rfl) (by kernel_rfl) (by kernel_rfl) (by kernel_rfl) (by kernel_rfl) (by kernel_rfl) (by intro _ _ _ h; exact h) (Or.inl ⟨by rfl, ?_⟩) (fun _ => hS) ?_
  rotate_left
  · intro w9 _
    go_simp
    try with_reducible rfl
  try simp only [Act.put, List.setIfInBounds_toArray, List.set_cons_zero, List.set_cons_succ]
  refine Early.take (i := 6) (oi := _) (v := ?_) (by simp only [List.getElem?_toArray, List.getElem?_cons_succ, List.getElem?_cons_zero]; rfl) (by kernel_rfl) (by kernel_rfl) (by kernel_rfl) (by kernel_rfl) (by kernel_rfl) (by kernel_rfl) (by intro _ _ _ h; exact h) (Or.inl ⟨by rfl, ?_⟩) hS ?_
  rotate_left
  · intro w9 hSw
    have c9 := hSw.2.1
    go_simp
    try with_reducible rfl
  try simp only [Act.put, List.setIfInBounds_toArray, List.set_cons_zero, List.set_cons_succ]
  refine Early.takeW (i := 7) (oi := _) (v := ?_) (by simp only [List.getElem?_toArray, List.getElem?_cons_succ, List.getElem?_cons_zero]; rfl) (by kernel_rfl) (by kernel_rfl) (by kernel_rfl) (by kernel_rfl) (by kernel_rfl) (by intro _ _ _ h; exact h) (Or.inl ⟨by rfl, ?_⟩) (fun _ => hS) ?_
  rotate_left
  · intro w9 _
    go_simp
    try with_reducible rfl
  try simp only [Act.put, List.setIfInBounds_toArray, List.set_cons_zero, List.set_cons_succ]
  refine Early.take (i := 8) (oi := _) (v := ?_) (by simp only [List.getElem?_toArray, List.getElem?_cons_succ, List.getElem?_cons_zero]; rfl) (by kernel_rfl) (by kernel_rfl) (by kernel_rfl) (by kernel_rfl) (by kernel_rfl) (by kernel_rfl) (by intro _ _ _ h; exact h) (Or.inl ⟨by rfl, ?_⟩) hS ?_
  rotate_left
  · intro w9 hSw
    refine (run_load_at 34 _ rfl (ad.add (i * 18)) rfl (bk 19 0 (.slice ta tn tc)).toList hSw.2.2 _ Tryz.underlying34 rfl (by rw [blkInfo']; rfl)).trans ?_
    rw [Array.toArray_toList]
  try simp only [Act.put, List.setIfInBounds_toArray, List.set_cons_zero, List.set_cons_succ]
  refine Early.ready (rs := [9]) (by kernel_rfl) (by simp) ?_
  refine Early.rest.cons (o := _) (by simp only [List.getElem?_toArray, List.getElem?_cons_succ, List.getElem?_cons_zero]; rfl) (fun K hK => ?_) Early.rest.nil
  have hnw := waveNew_any w5.drew ta tn tc
  go_simp
  refine hnw.mono ?_
  rintro e w6 ⟨v, PA, pc, rfl, hv0, hv1, hv2, hb6⟩
  have hS6 : w6.cell? ⟨d, 2, none⟩ = some (.slice (some ad) dl.length bc) ∧ w6.cell? ⟨st, 1, none⟩ = some (.int .i64 i) ∧ (∀ j v, (bk 19 0 (.slice ta tn tc)).toList[j]? = some v → w6.cell? ((ad.add (i * 18)).add j) = some v) := ⟨(hb6.cell (p := ⟨d, 2, none⟩) HD.out.1.box.lt).trans hS.1, (hb6.cell (p := ⟨st, 1, none⟩) HD.out.2.2.2.2.2.lt).trans hS.2.1, fun j u hj => (hb6.cell (by rw [block_of_add, block_of_add]; exact HD.out.2.2.2.1)).trans (hS.2.2 j u hj)⟩
  have HS6 := Lib.hid hS6
  have H6 := Lib.hid (And.intro hv0 (And.intro hv1 (And.intro hv2 hb6)))
  clear hv0 hv1 hv2 hb6 hS hS6 hnw
  go_wp2_with fail
  refine hK.out _ _ (fun _ => HS6.out) ?_
  clear hK K
  try simp only [Act.put, List.setIfInBounds_toArray, List.set_cons_zero, List.set_cons_succ]
  refine Early.takeW (i := 10) (oi := _) (v := ?_) (by simp only [List.getElem?_toArray, List.getElem?_cons_succ, List.getElem?_cons_zero]; rfl) (by kernel_rfl) (by kernel_rfl) (by kernel_rfl) (by kernel_rfl) (by kernel_rfl) (by intro _ _ _ h; exact h) (Or.inl ⟨by rfl, ?_⟩) (fun _ => HS6.out) ?_
  rotate_left
  · intro w9 _
    go_simp
    try with_reducible rfl
  try simp only [Act.put, List.setIfInBounds_toArray, List.set_cons_zero, List.set_cons_succ]
  refine Early.takeW (i := 11) (oi := _) (v := ?_) (by simp only [List.getElem?_toArray, List.getElem?_cons_succ, List.getElem?_cons_zero]; rfl) (by kernel_rfl) (by kernel_rfl) (by kernel_rfl) (by kernel_rfl) (by kernel_rfl) (by intro _ _ _ h; exact h) (Or.inl ⟨by rfl, ?_⟩) (fun _ => HS6.out) ?_
  rotate_left
  · intro w9 _
    go_simp
    try with_reducible rfl
  try simp only [Act.put, List.setIfInBounds_toArray, List.set_cons_zero, List.set_cons_succ]
  refine Early.takeW (i := 12) (oi := _) (v := ?_) (by simp only [List.getElem?_toArray, List.getElem?_cons_succ, List.getElem?_cons_zero]; rfl) (by kernel_rfl) (by kernel_rfl) (by kernel_rfl) (by kernel_rfl) (by kernel_rfl) (by intro _ _ _ h; exact h) (Or.inl ⟨by rfl, ?_⟩) (fun _ => HS6.out) ?_
  rotate_left
  · intro w9 _
    go_simp
    try with_reducible rfl
  try simp only [Act.put, List.setIfInBounds_toArray, List.set_cons_zero, List.set_cons_succ]
  refine Early.takeW (i := 13) (oi := _) (v := ?_) (by simp only [List.getElem?_toArray, List.getElem?_cons_succ, List.getElem?_cons_zero]; rfl) (by kernel_rfl) (by kernel_rfl) (by kernel_rfl) (by kernel_rfl) (by kernel_rfl) (by intro _ _ _ h; exact h) (Or.inl ⟨by rfl, ?_⟩) (fun _ => HS6.out) ?_
  rotate_left
  · intro w9 _
    go_simp
    try with_reducible rfl
  try simp only [Act.put, List.setIfInBounds_toArray, List.set_cons_zero, List.set_cons_succ]
  refine Early.takeW (i := 14) (oi := _) (v := ?_) (by simp only [List.getElem?_toArray, List.getElem?_cons_succ, List.getElem?_cons_zero]; rfl) (by kernel_rfl) (by kernel_rfl) (by kernel_rfl) (by kernel_rfl) (by kernel_rfl) (by intro _ _ _ h; exact h) (Or.inl ⟨by rfl, ?_⟩) (fun _ => HS6.out) ?_
  rotate_left
  · intro w9 _
    go_simp
    try with_reducible rfl
  try simp only [Act.put, List.setIfInBounds_toArray, List.set_cons_zero, List.set_cons_succ]
  refine Early.done (by kernel_rfl) ?_ _
  have hs5 : w5.drew.heap.size = w5.heap.size := rfl
  obtain ⟨hv0, hv1, hv2, hb6⟩ := H6.out
  have hD6 := (HD.out.1.below (w' := w5.drew) ⟨rfl, rfl, rfl, Nat.le_refl _, fun _ _ => rfl⟩).below hb6
  have hT6 : Blk w6 w.heap.size 135 (toldV 0 false 0 0) := Blk.below (w := w5.drew) HD.out.2.1 hb6 HD.out.2.1.lt
  have hbw6 := (HD.out.2.2.1.drew).trans (DMv.of_below hb6)
  have hr6 := HD.out.2.2.2.2.1.1.below ((show Below B w5 w5.drew from ⟨rfl, rfl, rfl, Nat.le_refl _, fun _ _ => rfl⟩).trans (hb6.mono HD.out.1.ups.2.2.2))
  have hvB : B ≤ v := Nat.le_trans HD.out.1.ups.2.2.2 hv0
  have hwv : WvOk w6 B v (dl.getD i default).ts := ⟨hvB, ta, tc, PA, pc, by rw [HD.out.2.2.2.2.1.2]; exact hv1, by rw [HD.out.2.2.2.2.1.2]; exact own_low hv2 (Nat.le_trans HD.out.1.ups.2.2.2 (Nat.le_refl _)), by rw [HD.out.2.2.2.2.1.2]; exact hr6⟩
  obtain ⟨hD7, hb7⟩ := hD6.set_w hwv
  obtain ⟨hD8, hb8⟩ := hD7.set_ (i := 5) (v := .int .i64 0) (D' := { D with wv := some v, k := 0 }) rfl (.inr rfl)
  have hT7 := hb7.kept hD6 hT6 (by decide)
  have hT8 := hb8.kept hD7 hT7 (by decide)
  have hbw8 := (hbw6.trans hb7).trans hb8
  have c4 : w6.cell? ⟨d, 4, none⟩ = some (.pointer (D.wv.map fun v => ⟨v, 0, none⟩)) := (hD6.box.cell 4).trans rfl
  have f4 : w6.frozen? ⟨d, 4, none⟩ = false := hD6.box.frozen 4
  have c5 : (w6.setCell ⟨d, 4, none⟩ (.pointer (some ⟨v, 0, none⟩))).cell? ⟨d, 5, none⟩ = some (.int .i64 D.k) := (hD7.box.cell 5).trans rfl
  have f5 : (w6.setCell ⟨d, 4, none⟩ (.pointer (some ⟨v, 0, none⟩))).frozen? ⟨d, 5, none⟩ = false := hD7.box.frozen 5
  have H8 := Lib.hid (And.intro hD8 (And.intro hT8 hbw8))
  have hlo : B ≤ w.heap.size := HB0.out
  clear hb6 HC HS6 hv0 hv1 hv2 hwv hD6 hD7 hD8 hT6 hT7 hT8 hbw6 hbw8 hr6 hb7 hb8 H6 HD hs5
  go_upto_region 15 with fail
  clear c4 f4 c5 f5
  obtain ⟨hD8, hT8, hbw8⟩ := H8.out
  generalize (World.setCell (w6.setCell ⟨d, 4, none⟩ (.pointer (some ⟨v, 0, none⟩))) ⟨d, 5, none⟩ (.int .i64 0)) = w8 at *
  clear H8
  go_wp2_with (first
    | (refine wpList_store_box rfl 135 _ _ (by rfl) w.heap.size (toldV 0 false 0 0) (by rfl) (by rfl) 135 (toldV 0 false 0 0) hT8 toldInfo rfl (by simp [toldV, Value.oneCell']) ?_)
    | fail)
  intro w9 hB9 hg9
  have hD9 := hD8.other hT8 hg9 hlo (by decide)
  have HF := Lib.hid (And.intro hD9.1 (hbw8.new hg9 (Nat.le_refl _)))
  clear hD8 hT8 hbw8 hD9 hg9
  go_wp2_with fail
  refine bodyPost_ret (Tl.results_cell_tmp9 rfl _ _ w.heap.size 135 _ (0, 0) _ rfl hB9 Tryz.underlying135 rfl toldInfo) rfl ?_
  exact ⟨rfl, ⟨_, HF.out.1⟩, HF.out.2⟩
end
end Tl
end Go.Proofs.YtnlaedfnifimkaaGreat
namespace Go.Proofs.YtnlaedfnifimkaaGreat
open Go.RowKit Go.Joins
namespace Tl
structure Pos (dl : List BD) (u : Bool) (D : DkS) (s : WS) (ts : List Int) (i : Nat) (R : List Int) (nl : Bool) : Prop where
  at_ : s.at_ = i
  le : i ≤ dl.length
  ov : s.ov = false
  dov : D.ov = false
  rest : R = (if D.wv.isSome then ts.drop D.k else []) ++ (dl.drop i).flatMap BD.ts
  lev : nl = (if i = 0 then u else D.lv)
  wv : D.wv.isSome → i ≠ 0 ∧ D.k ≤ ts.length ∧ ts.length ≤ 1000 ∧ ∀ z ∈ ts, 1 ≤ z ∧ z ≤ 65535
structure Tape (dl : List BD) (u : Bool) : Prop where
  ours : ∀ d ∈ dl, OurB d
  few : dl.length ≤ 300
  first : 0 < dl.length → (dl.getD 0 default).i0 = 43 ∧ ((dl.getD 0 default).i9 != 0) = u ∧ (dl.getD 0 default).ts = []
  then_ : ∀ i, 1 ≤ i → i < dl.length → (dl.getD i default).i0 = 19
  pos : ∀ d ∈ dl, ∀ z ∈ d.ts, 1 ≤ z ∧ z ≤ 65535
def Same (D D' : DkS) : Prop := D'.pl = D.pl ∧ D'.left = D.left ∧ D'.lk = D.lk ∧ D'.lh = D.lh ∧ D'.ll = D.ll ∧ D'.le = D.le ∧ D'.told = D.told
section
variable {dl : List BD} {u : Bool} {D : DkS} {s : WS} {ts : List Int} {i : Nat} {R : List Int} {nl : Bool} {v : Nat}
theorem dropD {i : Nat} (h : i < dl.length) : dl.drop i = dl.getD i default :: dl.drop (i + 1) := by
  rw [List.drop_eq_getElem_cons h, List.getD_eq_getElem?_getD, List.getElem?_eq_getElem h]; rfl
theorem Tape.in_ (ht : Tape dl u) {i : Nat} (h : i < dl.length) : (dl.getD i default).ts.length ≤ 1000 ∧ ∀ z ∈ (dl.getD i default).ts, 1 ≤ z ∧ z ≤ 65535 := by
  have hm : dl.getD i default ∈ dl := by
    rw [List.getD_eq_getElem?_getD, List.getElem?_eq_getElem h]
    exact List.getElem_mem h
  refine ⟨?_, ht.pos _ hm⟩
  rcases ht.ours _ hm with ⟨_, _, _, e⟩ | ⟨_, _, e, _⟩
  · rw [e]; simp
  · omega
theorem Pos.wave_in (h : Pos dl u D s ts i R nl) (hw : D.wv = some v) (hk : D.k < ts.length) : ∃ X r, ts.getD D.k 0 = X ∧ R = X :: r ∧ (1 ≤ X ∧ X ≤ 65535) ∧ Pos dl u { D with k := D.k + 1, lv := !D.lv } (heardS s) ts i r (!nl) ∧ nl = D.lv ∧ ts.length ≤ 1000 := by
  obtain ⟨a1, a2, a3, a4, a5, a6, a7⟩ := h
  obtain ⟨h0, h1, h2, h3⟩ := a7 (by rw [hw]; rfl)
  rw [if_neg h0] at a6
  rw [hw] at a5
  refine ⟨_, ts.drop (D.k + 1) ++ (dl.drop i).flatMap BD.ts, rfl, ?_, h3 _ (mem_getD hk), ⟨a1, a2, a3, a4, ?_, ?_, ?_⟩, a6, h2⟩
  · rw [a5, Option.isSome_some, if_pos rfl, drop_getD hk]
    rfl
  · show _ = (if D.wv.isSome = true then ts.drop (D.k + 1) else []) ++ _
    rw [hw]; rfl
  · rw [if_neg h0, a6]
  · exact fun _ => ⟨h0, hk, h2, h3⟩
theorem Pos.wave_out (h : Pos dl u D s ts i R nl) (hw : D.wv = some v) (hk : D.k = ts.length) : Pos dl u { D with wv := none } s ts i R nl := by
  obtain ⟨a1, a2, a3, a4, a5, a6, a7⟩ := h
  refine ⟨a1, a2, a3, a4, ?_, a6, fun h => by cases h⟩
  rw [hw, Option.isSome_some, if_pos rfl, hk, List.drop_length] at a5
  exact a5
theorem Pos.level (h : Pos dl u D s ts i R nl) (ht : Tape dl u) (hw : D.wv = none) (hi : i = 0) (hlt : i < dl.length) : Pos dl u { D with lv := (dl.getD i default).i9 != 0 } { s with at_ := (i : Int) + 1 } ts (i + 1) R nl := by
  obtain ⟨a1, a2, a3, a4, a5, a6, a7⟩ := h
  obtain ⟨h1, h2, h3⟩ := ht.first (by omega)
  refine ⟨rfl, hlt, a3, a4, ?_, ?_, ?_⟩
  · rw [hw] at a5
    show _ = (if D.wv.isSome = true then _ else []) ++ _
    rw [hw, a5, dropD hlt, List.flatMap_cons, hi, h3]
    rfl
  · rw [if_neg (by omega), a6, if_pos hi, hi]
    exact h2.symm
  · show D.wv.isSome → _
    rw [hw]
    exact fun h => absurd h (by decide)
theorem Pos.play (h : Pos dl u D s ts i R nl) (ht : Tape dl u) (hw : D.wv = none) (hi : i ≠ 0) (hlt : i < dl.length) (v : Nat) : Pos dl u { D with wv := some v, k := 0 } { s with at_ := (i : Int) + 1 } (dl.getD i default).ts (i + 1) R nl := by
  obtain ⟨a1, a2, a3, a4, a5, a6, a7⟩ := h
  obtain ⟨h1, h2⟩ := ht.in_ hlt
  refine ⟨rfl, hlt, a3, a4, ?_, ?_, fun _ => ⟨by omega, Nat.zero_le _, h1, h2⟩⟩
  · rw [hw] at a5
    rw [a5, dropD hlt, List.flatMap_cons]
    rfl
  · rw [if_neg (by omega), a6, if_neg hi]
theorem Pos.stop (h : Pos dl u D s ts i R nl) (hw : D.wv = none) (hi : i = dl.length) : R = [] := by
  rw [h.rest, hw, hi, List.drop_length]
  rfl
end
end Tl
end Go.Proofs.YtnlaedfnifimkaaGreat
namespace Go.Proofs.YtnlaedfnifimkaaGreat
open Go.RowKit Go.Joins
namespace Tl
def NextO (w w' : World) (x : Ending) (B d wy mb : Nat) (LA : Option Addr) (lc : Nat) (BA : Option Addr) (bc : Nat) (dl : List BD) (u : Bool) (D : DkS) (R : List Int) (nl : Bool) : Prop :=
  DMv w w' d wy mb ∧ ∃ D' s' ts', DeckAt w' B d wy mb LA lc BA bc dl D' s' ts' ∧ Same D D' ∧
    ((∃ X r i, R = X :: r ∧ (1 ≤ X ∧ X ≤ 65535) ∧ x = .returned (.agg (toldV 0 (!nl) X 0)) ∧ Pos dl u D' s' ts' i r (!nl) ∧ D'.lv = !nl) ∨ (R = [] ∧ x = .returned (.agg (toldV 2 false 0 0))))
def NextM (w wr : World) (B d wy mb : Nat) (LA : Option Addr) (lc : Nat) (BA : Option Addr) (bc : Nat) (dl : List BD) (u : Bool) (D : DkS) (R : List Int) (nl : Bool) (k : Nat) (free : Bool) : Prop :=
  ∃ D' s' ts' i, DeckAt wr B d wy mb LA lc BA bc dl D' s' ts' ∧ Blk wr w.heap.size 135 (toldV 0 false 0 0) ∧ DMv w wr d wy mb ∧ Same D D' ∧ Pos dl u D' s' ts' i R nl ∧ 2 * (dl.length - i) + (if D'.wv.isSome then 1 else 0) ≤ k ∧ (free = true → D'.wv = none)
section
variable {w : World} {B d wy mb lc bc : Nat} {LA BA : Option Addr} {dl : List BD} {D : DkS} {s : WS} {ts : List Int} {u nl : Bool} {i : Nat} {R : List Int}
set_option maxRecDepth 100000 in
set_option maxHeartbeats 8000000 in
theorem dnext_any (h : DeckAt w B d wy mb LA lc BA bc dl D s ts) (ht : Tape dl u) (hp : Pos dl u D s ts i R nl) :
    Calls Tryz.prog 92 #[.pointer (some ⟨d, 0, none⟩)] w fun x w' => NextO w w' x B d wy mb LA lc BA bc dl u D R nl := by
  have HT := Lib.hid ht
  have HB := Lib.hid h.ups.2.2.2
  clear ht
  go_enter Tryz.func92, Tryz.ntmps92
  go_upto_region 1 with fail
  have hb0 : Below w.heap.size w (w.alloc (.cells #[.int .i64 0, .bool false, .int .u32 0, .int .i64 0] 135)) := (Below.refl _ _).alloc (Nat.le_refl _) _
  have hD0 := h.below hb0
  have HM0 := Lib.hid (show NextM w (w.alloc (.cells #[.int .i64 0, .bool false, .int .u32 0, .int .i64 0] 135)) B d wy mb LA lc BA bc dl u D R nl (2 * (dl.length - i) + 1) false from ⟨D, s, ts, i, hD0, Blk.new w _ _, DMv.of_below hb0, ⟨rfl, rfl, rfl, rfl, rfl, rfl, rfl⟩, hp, by split <;> omega, fun h => by cases h⟩)
  have hdov := hp.dov
  generalize (w.alloc (.cells #[.int .i64 0, .bool false, .int .u32 0, .int .i64 0] 135)) = w0 at *
  have c13 : w0.cell? ⟨d, 13, none⟩ = some (.bool false) := by rw [← hdov]; exact (hD0.box.cell 13).trans rfl
  clear hb0 hD0 h hp hdov
  generalize 2 * (dl.length - i) + 1 = n0 at *
  go_wp2_with fail
  clear c13
  go_loopg [] n0 (fun k wr => NextM w wr B d wy mb LA lc BA bc dl u D R nl k false)
  case atStart => exact HM0.out
  case round =>
    clear HM0
    go_upto_region 3 with fail
    obtain ⟨D', s', ts', i', hD, hQ, hM, hS, hP, hk, _⟩ := hrel
    obtain ⟨p, hp⟩ : ∃ p : Option Addr, p = D'.wv.map fun v => ⟨v, 0, none⟩ := ⟨_, rfl⟩
    have c4 : wr.cell? ⟨d, 4, none⟩ = some (.pointer p) := by rw [hp]; exact (hD.box.cell 4).trans rfl
    have H := Lib.hid (And.intro hD (And.intro hQ (And.intro hM (And.intro hS (And.intro hP (And.intro hk hp))))))
    clear hD hQ hM hS hP hk hp
    go_upto_if 19 with fail
    clear c4
    go_cut [3, 4] from 15 to 33 (fun a3 a4 wx => NextM w wx B d wy mb LA lc BA bc dl u D R nl gk true)
    case first =>
      obtain ⟨hD, hQ, hM, hS, hP, hk, hp⟩ := H.out
      cases hwv : D'.wv with
      | none =>
        rw [hwv] at hp
        replace hp : p = none := hp
        subst hp
        have HX := Lib.hid (show NextM w wr B d wy mb LA lc BA bc dl u D R nl gk true from ⟨D', s', ts', i', hD, hQ, hM, hS, hP, by rw [hwv] at hk ⊢; exact hk, fun _ => hwv⟩)
        clear hD hQ hM hS hP hk hwv H
        go_wp2_with fail
        go_meet
        exact HX.out
      | some v =>
        rw [hwv] at hp
        replace hp : p = some ⟨v, 0, none⟩ := hp
        subst hp
        by_cases hlt : D'.k < ts'.length
        · obtain ⟨X, r, hX, hR, hz, hP2, hnl, hn⟩ := hP.wave_in hwv hlt
          have hed := edge_in hD hwv hn hlt X hX hz
          have HE := Lib.hid (And.intro hP2 (And.intro hnl (And.intro hR (And.intro hS hz))))
          clear hD hQ hM hS hP hk hwv hlt hX hR hz hP2 hnl hn
          go_upto_region 4 with fail
          go_wp2_with fail
          refine hed.mono ?_
          rintro x w5 ⟨rfl, hD5, hb5⟩
          have hQ5 := hb5.kept H.out.1 H.out.2.1 (by decide)
          have hM5 := H.out.2.2.1.trans hb5
          clear hb5 hed H
          have hlo : B ≤ w.heap.size := HB.out
          have H5 := Lib.hid (And.intro hD5 (And.intro hQ5 hM5))
          clear hD5 hQ5 hM5
          go_upto_region 5 with (first
            | (refine wpList_store_box rfl 135 _ _ (by rfl) w5.heap.size (toldV 0 (!D'.lv) X 0) (by rfl) (by rfl) 135 (toldV 0 false 0 0) (Blk.new w5 _ _) toldInfo rfl (by simp [toldV, Value.oneCell']) ?_)
            | fail)
          intro w6 hB6 hg6
          have hb6 : Below w5.heap.size w5 w6 := ((Below.refl _ _).alloc (Nat.le_refl _) _).grown hg6 (by simp) (fun b e => by injection e with e; omega)
          obtain ⟨hD5, hQ5, hM5⟩ := H5.out
          have hQ6 := hQ5.below hb6 hQ5.lt
          have H6 := Lib.hid (And.intro (hD5.below hb6) (hM5.trans (DMv.of_below hb6)))
          clear hD5 hQ5 hM5 hb6 hg6 H5
          generalize w5.heap.size = tp at *
          go_wp2_with (first
            | (refine wpList_load_box rfl 135 _ rfl tp rfl 135 (toldV 0 (!D'.lv) X 0) hB6 _ Tryz.underlying135 rfl toldInfo ?_)
            | (refine wpList_store_box rfl 135 _ _ (by rfl) w.heap.size (toldV 0 (!D'.lv) X 0) (by rfl) (by rfl) 135 (toldV 0 false 0 0) hQ6 toldInfo rfl (by simp [toldV, Value.oneCell']) ?_)
            | fail)
          try (refine fun (_ : Hid _) => ?_)
          try go_wp2_with (first
            | (refine wpList_load_box rfl 135 _ rfl tp rfl 135 (toldV 0 (!D'.lv) X 0) hB6 _ Tryz.underlying135 rfl toldInfo ?_)
            | (refine wpList_store_box rfl 135 _ _ (by rfl) w.heap.size (toldV 0 (!D'.lv) X 0) (by rfl) (by rfl) 135 (toldV 0 false 0 0) hQ6 toldInfo rfl (by simp [toldV, Value.oneCell']) ?_)
            | fail)
          intro w7 hB7 hg7
          have hD7 := H6.out.1.other hQ6 hg7 hlo (by decide)
          have H7 := Lib.hid (And.intro (H6.out.2.new hg7 (Nat.le_refl _)) hD7.1)
          clear hD7 H6 hg7 hQ6 hB6
          go_wp2_with fail
          refine bodyPost_ret (results_cell_row rfl _ _ w.heap.size 135 _ (0, 0) _ rfl hB7 Tryz.underlying135 rfl toldInfo) rfl ?_
          exact ⟨H7.out.1, _, _, _, H7.out.2, HE.out.2.2.2.1, .inl ⟨X, r, i', HE.out.2.2.1, HE.out.2.2.2.2, by rw [HE.out.2.1], HE.out.1, by rw [HE.out.2.1]⟩⟩
        · have hke : D'.k = ts'.length := by have := (hP.wv (by rw [hwv]; rfl)).2.1; omega
          have hn := (hP.wv (by rw [hwv]; rfl)).2.2.1
          have hed := edge_out hD hwv hn hke
          have hP2 := hP.wave_out hwv hke
          have HE := Lib.hid (And.intro hP2 (And.intro hS (show 2 * (dl.length - i') + 0 ≤ gk from by rw [hwv] at hk; simp at hk; omega)))
          clear hD hQ hM hS hP hk hwv hlt hP2 hn hke
          go_upto_region 4 with fail
          go_wp2_with fail
          refine hed.mono ?_
          rintro x w5 ⟨rfl, hD5, hb5⟩
          have hQ5 := hb5.kept H.out.1 H.out.2.1 (by decide)
          have hM5 := H.out.2.2.1.trans hb5
          have H5 := Lib.hid (And.intro hD5 (And.intro hQ5 hM5))
          clear hb5 hed H hD5 hQ5 hM5
          go_upto_region 5 with (first
            | (refine wpList_store_box rfl 135 _ _ (by rfl) w5.heap.size (toldV 0 false 0 0) (by rfl) (by rfl) 135 (toldV 0 false 0 0) (Blk.new w5 _ _) toldInfo rfl (by simp [toldV, Value.oneCell']) ?_)
            | fail)
          intro w6 hB6 hg6
          have hb6 : Below w5.heap.size w5 w6 := ((Below.refl _ _).alloc (Nat.le_refl _) _).grown hg6 (by simp) (fun b e => by injection e with e; omega)
          obtain ⟨hD5, hQ5, hM5⟩ := H5.out
          have HX := Lib.hid (show NextM w w6 B d wy mb LA lc BA bc dl u D R nl gk true from ⟨_, s', ts', i', hD5.below hb6, hQ5.below hb6 hQ5.lt, hM5.trans (DMv.of_below hb6), HE.out.2.1, HE.out.1, HE.out.2.2, fun _ => rfl⟩)
          clear hD5 hQ5 hM5 hb6 hg6 hB6 H5 HE
          go_wp2_with fail
          go_meet
          exact HX.out
    case rest =>
      obtain ⟨D2, s2, ts2, i2, hD, hQ, hM, hS, hP, hk, hf⟩ := hcut
      have hwv := hf rfl
      clear hf H
      by_cases hin : i2 < dl.length
      · by_cases h0 : i2 = 0
        · have hst := step_level hD HT.out.ours HT.out.few hP.ov hin hP.at_ (by subst h0; exact (HT.out.first hin).1)
          have hP2 := hP.level HT.out hwv h0 hin
          have H := Lib.hid (And.intro hD (And.intro hQ (And.intro hM (And.intro hP2 (And.intro hS (And.intro hwv (And.intro hk hin)))))))
          clear hD hQ hM hS hP hk hwv h0 hP2 hin
          go_wp2_with fail
          refine hst.mono ?_
          rintro x w5 ⟨rfl, hD5, hb5⟩
          have hQ5 := hb5.kept H.out.1 H.out.2.1 (by decide)
          have hM5 := H.out.2.2.1.trans hb5
          have H5 := Lib.hid (And.intro hD5 (And.intro hQ5 hM5))
          clear hb5 hst hD5 hQ5 hM5
          go_upto_region 8 with (first
            | (refine wpList_store_box rfl 135 _ _ (by rfl) w5.heap.size (toldV 0 false 0 0) (by rfl) (by rfl) 135 (toldV 0 false 0 0) (Blk.new w5 _ _) toldInfo rfl (by simp [toldV, Value.oneCell']) ?_)
            | fail)
          intro w6 hB6 hg6
          have hb6 : Below w5.heap.size w5 w6 := ((Below.refl _ _).alloc (Nat.le_refl _) _).grown hg6 (by simp) (fun b e => by injection e with e; omega)
          obtain ⟨hD5, hQ5, hM5⟩ := H5.out
          have HX := Lib.hid (show NextM w w6 B d wy mb LA lc BA bc dl u D R nl (2 * (dl.length - (i2 + 1))) false from ⟨_, _, ts2, i2 + 1, hD5.below hb6, hQ5.below hb6 hQ5.lt, hM5.trans (DMv.of_below hb6), H.out.2.2.2.2.1, H.out.2.2.2.1, by rw [H.out.2.2.2.2.2.1]; exact Nat.le_refl _, fun h => by cases h⟩)
          have hme : 2 * (dl.length - (i2 + 1)) < gk := by have := H.out.2.2.2.2.2.2.1; have := H.out.2.2.2.2.2.2.2; omega
          clear hD5 hQ5 hM5 hb6 hg6 hB6 H5 H
          go_wp2_with fail
          go_roundg (2 * (dl.length - (i2 + 1)))
          case rel => exact HX.out
          case measure => exact hme
        · have hst := step_play hD HT.out.ours HT.out.few hP.ov hin hP.at_ (HT.out.then_ i2 (by omega) hin) hwv
          have hP2 := hP.play HT.out hwv h0 hin
          have H := Lib.hid (And.intro hD (And.intro hQ (And.intro hM (And.intro hP2 (And.intro hS (And.intro hk hin))))))
          clear hD hQ hM hS hP hk hwv h0 hP2 hin
          go_wp2_with fail
          refine hst.mono ?_
          rintro x w5 ⟨rfl, ⟨v, hD5⟩, hb5⟩
          have hQ5 := hb5.kept H.out.1 H.out.2.1 (by decide)
          have hM5 := H.out.2.2.1.trans hb5
          have H5 := Lib.hid (And.intro hD5 (And.intro hQ5 hM5))
          clear hb5 hst hD5 hQ5 hM5
          go_upto_region 8 with (first
            | (refine wpList_store_box rfl 135 _ _ (by rfl) w5.heap.size (toldV 0 false 0 0) (by rfl) (by rfl) 135 (toldV 0 false 0 0) (Blk.new w5 _ _) toldInfo rfl (by simp [toldV, Value.oneCell']) ?_)
            | fail)
          intro w6 hB6 hg6
          have hb6 : Below w5.heap.size w5 w6 := ((Below.refl _ _).alloc (Nat.le_refl _) _).grown hg6 (by simp) (fun b e => by injection e with e; omega)
          obtain ⟨hD5, hQ5, hM5⟩ := H5.out
          have HX := Lib.hid (show NextM w w6 B d wy mb LA lc BA bc dl u D R nl (2 * (dl.length - (i2 + 1)) + 1) false from ⟨_, _, _, i2 + 1, hD5.below hb6, hQ5.below hb6 hQ5.lt, hM5.trans (DMv.of_below hb6), H.out.2.2.2.2.1, H.out.2.2.2.1 v, Nat.le_refl _, fun h => by cases h⟩)
          have hme : 2 * (dl.length - (i2 + 1)) + 1 < gk := by have := H.out.2.2.2.2.2.1; have := H.out.2.2.2.2.2.2; omega
          clear hD5 hQ5 hM5 hb6 hg6 hB6 H5 H
          go_wp2_with fail
          go_roundg (2 * (dl.length - (i2 + 1)) + 1)
          case rel => exact HX.out
          case measure => exact hme
      · have hie : i2 = dl.length := by have := hP.le; omega
        have hst := step_end hD HT.out.ours HT.out.few hP.ov (by rw [hP.at_, hie])
        have hR := hP.stop hwv hie
        have H := Lib.hid (And.intro hD (And.intro hQ (And.intro hM (And.intro hR hS))))
        clear hD hQ hM hS hP hk hwv hin hie hR
        go_wp2_with fail
        refine hst.mono ?_
        rintro x w5 ⟨rfl, hD5, hb5⟩
        have hQ5 := hb5.kept H.out.1 H.out.2.1 (by decide)
        have hM5 := H.out.2.2.1.trans hb5
        have HE := Lib.hid H.out.2.2.2
        clear hb5 hst H
        have hlo : B ≤ w.heap.size := HB.out
        have H5 := Lib.hid (And.intro hD5 (And.intro hQ5 hM5))
        clear hD5 hQ5 hM5
        go_upto_region 8 with (first
          | (refine wpList_store_box rfl 135 _ _ (by rfl) w5.heap.size (toldV 2 false 0 0) (by rfl) (by rfl) 135 (toldV 0 false 0 0) (Blk.new w5 _ _) toldInfo rfl (by simp [toldV, Value.oneCell']) ?_)
          | fail)
        intro w6 hB6 hg6
        have hb6 : Below w5.heap.size w5 w6 := ((Below.refl _ _).alloc (Nat.le_refl _) _).grown hg6 (by simp) (fun b e => by injection e with e; omega)
        obtain ⟨hD5, hQ5, hM5⟩ := H5.out
        have hQ6 := hQ5.below hb6 hQ5.lt
        have H6 := Lib.hid (And.intro (hD5.below hb6) (hM5.trans (DMv.of_below hb6)))
        clear hD5 hQ5 hM5 hb6 hg6 H5
        generalize w5.heap.size = tp at *
        go_wp2_with (first
          | (refine wpList_load_box rfl 135 _ rfl tp rfl 135 (toldV 2 false 0 0) hB6 _ Tryz.underlying135 rfl toldInfo ?_)
          | (refine wpList_store_box rfl 135 _ _ (by rfl) w.heap.size (toldV 2 false 0 0) (by rfl) (by rfl) 135 (toldV 0 false 0 0) hQ6 toldInfo rfl (by simp [toldV, Value.oneCell']) ?_)
          | fail)
        try (refine fun (_ : Hid _) => ?_)
        try go_wp2_with (first
          | (refine wpList_load_box rfl 135 _ rfl tp rfl 135 (toldV 2 false 0 0) hB6 _ Tryz.underlying135 rfl toldInfo ?_)
          | (refine wpList_store_box rfl 135 _ _ (by rfl) w.heap.size (toldV 2 false 0 0) (by rfl) (by rfl) 135 (toldV 0 false 0 0) hQ6 toldInfo rfl (by simp [toldV, Value.oneCell']) ?_)
          | fail)
        intro w7 hB7 hg7
        have hD7 := H6.out.1.other hQ6 hg7 hlo (by decide)
        have H7 := Lib.hid (And.intro (H6.out.2.new hg7 (Nat.le_refl _)) hD7.1)
        clear hD7 H6 hg7 hQ6 hB6
        go_wp2_with fail
        refine bodyPost_ret (results_cell_row rfl _ _ w.heap.size 135 _ (0, 0) _ rfl hB7 Tryz.underlying135 rfl toldInfo) rfl ?_
        exact ⟨H7.out.1, _, _, _, H7.out.2, HE.out.2, .inr ⟨HE.out.1, rfl⟩⟩
end
end Tl
end Go.Proofs.YtnlaedfnifimkaaGreat
namespace Go.Proofs.YtnlaedfnifimkaaGreat
open Go.RowKit Go.Joins
namespace Tl
def ToldIs (dl : List BD) (u : Bool) (R : List Int) (nl : Bool) (D' : DkS) (s' : WS) (ts' : List Int) (K : Int) (H : Bool) (L : Int) : Prop :=
  (∃ r i, R = L :: r ∧ (1 ≤ L ∧ L ≤ 65535) ∧ K = 0 ∧ H = (!nl) ∧ Pos dl u D' s' ts' i r (!nl) ∧ D'.lv = !nl) ∨ (R = [] ∧ K = 2 ∧ H = false ∧ L = 0)
theorem NextO.one {w w' : World} {x : Ending} {B d wy mb lc bc : Nat} {LA BA : Option Addr} {dl : List BD} {D : DkS} {u nl : Bool} {R : List Int} (h : NextO w w' x B d wy mb LA lc BA bc dl u D R nl) :
    ∃ D' s' ts' K H L, x = .returned (.agg #[.int .i64 K, .bool H, .int .u32 L, .int .i64 0]) ∧ DMv w w' d wy mb ∧ DeckAt w' B d wy mb LA lc BA bc dl D' s' ts' ∧ Same D D' ∧ ToldIs dl u R nl D' s' ts' K H L := by
  obtain ⟨h1, D', s', ts', h2, h3, ⟨X, r, i, h4, h5, h6, h7, h8⟩ | ⟨h4, h5⟩⟩ := h
  · exact ⟨D', s', ts', 0, !nl, X, h6, h1, h2, h3, .inl ⟨r, i, h4, h5, rfl, rfl, h7, h8⟩⟩
  · exact ⟨D', s', ts', 2, false, 0, h5, h1, h2, h3, .inr ⟨h4, rfl, rfl, rfl⟩⟩
def TellO (w w' : World) (x : Ending) (B d wy mb : Nat) (LA : Option Addr) (lc : Nat) (BA : Option Addr) (bc : Nat) (dl : List BD) (u : Bool) (D : DkS) (R : List Int) (nl : Bool) : Prop :=
  ∃ D' s' ts' K H L, x = .returned (.agg #[.int .i64 K, .bool H, .int .u32 L, .int .i64 0]) ∧ DMv w w' d wy mb ∧ DeckAt w' B d wy mb LA lc BA bc dl D' s' ts' ∧ (D'.pl = D.pl ∧ D'.left = D.left ∧ D'.told = D.told + 1) ∧ ToldIs dl u R nl D' s' ts' K H L
theorem Pos.same {dl : List BD} {u : Bool} {D D' : DkS} {s : WS} {ts : List Int} {i : Nat} {R : List Int} {nl : Bool} (h : Pos dl u D s ts i R nl) (h1 : D'.wv = D.wv) (h2 : D'.k = D.k) (h3 : D'.lv = D.lv) (h4 : D'.ov = D.ov) : Pos dl u D' s ts i R nl := by
  obtain ⟨a1, a2, a3, a4, a5, a6, a7⟩ := h
  exact ⟨a1, a2, a3, by rw [h4]; exact a4, by rw [h1, h2]; exact a5, by rw [h3]; exact a6, by rw [h1, h2]; exact a7⟩
section
variable {w : World} {B d wy mb lc bc : Nat} {LA BA : Option Addr} {dl : List BD} {D : DkS} {s : WS} {ts : List Int} {u nl : Bool} {i : Nat} {R : List Int}
set_option maxRecDepth 100000 in
set_option maxHeartbeats 8000000 in
theorem tell_any (h : DeckAt w B d wy mb LA lc BA bc dl D s ts) (ht : Tape dl u) (hp : Pos dl u D s ts i R nl) (h0 : 0 ≤ D.told) (h1 : D.told ≤ 1000000) :
    Calls Tryz.prog 54 #[.pointer (some ⟨d, 0, none⟩)] w fun x w' => TellO w w' x B d wy mb LA lc BA bc dl u D R nl := by
  have HB := Lib.hid h.ups.2.2.2
  go_enter Tryz.func54, Tryz.ntmps54
  go_upto_region 1 with fail
  have hb0 : Below w.heap.size w (w.alloc (.cells #[.int .i64 0, .bool false, .int .u32 0, .int .i64 0] 135)) := (Below.refl _ _).alloc (Nat.le_refl _) _
  have hD0 := h.below hb0
  have hnx := dnext_any hD0 ht hp
  have H0 := Lib.hid (And.intro hD0 (And.intro (show Blk (w.alloc (.cells #[.int .i64 0, .bool false, .int .u32 0, .int .i64 0] 135)) w.heap.size 135 (toldV 0 false 0 0) from Blk.new w _ _) (DMv.of_below (d := d) (wy := wy) (mb := mb) hb0)))
  generalize (w.alloc (.cells #[.int .i64 0, .bool false, .int .u32 0, .int .i64 0] 135)) = w0 at *
  clear hb0 hD0 h hp ht
  go_wp2_with fail
  refine hnx.mono ?_
  intro x w1 ho
  obtain ⟨D', s', ts', K, Hh, L, rfl, hm1, hD1, hS, hT⟩ := ho.one
  have hQ1 := hm1.kept H0.out.1 H0.out.2.1 (by decide)
  have hm := H0.out.2.2.trans hm1
  have c9 : w1.cell? ⟨d, 9, none⟩ = some (.int .i64 D'.lk) := (hD1.box.cell 9).trans rfl
  have c10 : w1.cell? ⟨d, 10, none⟩ = some (.bool D'.lh) := (hD1.box.cell 10).trans rfl
  have c11 : w1.cell? ⟨d, 11, none⟩ = some (.int .u32 D'.ll) := (hD1.box.cell 11).trans rfl
  have c12 : w1.cell? ⟨d, 12, none⟩ = some (.int .i64 D'.le) := (hD1.box.cell 12).trans rfl
  have f9 : w1.frozen? ⟨d, 9, none⟩ = false := hD1.box.frozen 9
  have f10 : w1.frozen? ⟨d, 10, none⟩ = false := hD1.box.frozen 10
  have f11 : w1.frozen? ⟨d, 11, none⟩ = false := hD1.box.frozen 11
  have f12 : w1.frozen? ⟨d, 12, none⟩ = false := hD1.box.frozen 12
  obtain ⟨hD2, e2⟩ := hD1.set_ (i := 9) (v := .int .i64 K) (D' := { D' with lk := K }) rfl (.inr rfl)
  obtain ⟨hD3, e3⟩ := hD2.set_ (i := 10) (v := .bool Hh) (D' := { D' with lk := K, lh := Hh }) rfl (.inr rfl)
  obtain ⟨hD4, e4⟩ := hD3.set_ (i := 11) (v := .int .u32 L) (D' := { D' with lk := K, lh := Hh, ll := L }) rfl (.inr rfl)
  obtain ⟨hD5, e5⟩ := hD4.set_ (i := 12) (v := .int .i64 0) (D' := { D' with lk := K, lh := Hh, ll := L, le := 0 }) rfl (.inr rfl)
  have hQ2 := e2.kept hD1 hQ1 (by decide)
  have hQ3 := e3.kept hD2 hQ2 (by decide)
  have hQ4 := e4.kept hD3 hQ3 (by decide)
  have hQ5 := e5.kept hD4 hQ4 (by decide)
  have hm5 := (((hm.trans e2).trans e3).trans e4).trans e5
  have H5 := Lib.hid (And.intro hD5 (And.intro hQ5 (And.intro hm5 (And.intro hS hT))))
  have HT0 := Lib.hid (show 0 ≤ D'.told ∧ D'.told ≤ 1000000 from by rw [hS.2.2.2.2.2.2]; exact ⟨h0, h1⟩)
  clear hD1 hD2 hD3 hD4 hD5 hQ1 hQ2 hQ3 hQ4 hQ5 hm hm1 hm5 hS hT e2 e3 e4 e5 H0 hnx h0 h1 ho
  go_upto_region 4 with fail
  clear c9 c10 c11 c12 f9 f10 f11 f12
  obtain ⟨hD5, hQ5, hm5, hS, hT⟩ := H5.out
  generalize ((((w1.setCell ⟨d, 9, none⟩ (.int .i64 K)).setCell ⟨d, 10, none⟩ (.bool Hh)).setCell ⟨d, 11, none⟩ (.int .u32 L)).setCell ⟨d, 12, none⟩ (.int .i64 0)) = w5 at *
  have c14 : w5.cell? ⟨d, 14, none⟩ = some (.int .i64 D'.told) := (hD5.box.cell 14).trans rfl
  have f14 : w5.frozen? ⟨d, 14, none⟩ = false := hD5.box.frozen 14
  obtain ⟨hD6, e6⟩ := hD5.set_ (i := 14) (v := .int .i64 (D'.told + 1)) (D' := { D' with lk := K, lh := Hh, ll := L, le := 0, told := D'.told + 1 }) rfl (.inr rfl)
  have hQ6 := e6.kept hD5 hQ5 (by decide)
  have H6 := Lib.hid (And.intro hD6 (And.intro hQ6 (And.intro (hm5.trans e6) (And.intro hS hT))))
  have ht0 := HT0.out.1
  have ht1 := HT0.out.2
  have HTT := Lib.hid (show D'.told = D.told from hS.2.2.2.2.2.2)
  clear hD5 hD6 hQ5 hQ6 hm5 hS hT e6 H5 HT0
  generalize D'.told = td at *
  go_upto_region 5 with fail
  clear c14 f14
  obtain ⟨hD6, hQ6, hm6, hS, hT⟩ := H6.out
  generalize (w5.setCell ⟨d, 14, none⟩ (.int .i64 (td + 1))) = w6 at *
  have hL : ∀ jj vv, ([.int .i64 K, .bool Hh, .int .u32 L, .int .i64 0] : List Value)[jj]? = some vv → w6.cell? ((⟨d, 9, none⟩ : Addr).add jj) = some vv := by
    intro jj vv hjj
    rcases jj with _ | _ | _ | _ | jj
    · cases hjj; exact (hD6.box.cell 9).trans rfl
    · cases hjj; exact (hD6.box.cell 10).trans rfl
    · cases hjj; exact (hD6.box.cell 11).trans rfl
    · cases hjj; exact (hD6.box.cell 12).trans rfl
    · simp at hjj
  have X0 := Lib.hid hL
  have hlo : B ≤ w.heap.size := HB.out
  have H7 := Lib.hid (And.intro hD6 (And.intro hm6 (And.intro hS hT)))
  clear hL hD6 hm6 hS hT H6
  go_wp2_with (first
    | (refine wpList_load_at rfl 135 _ rfl ⟨d, 9, none⟩ rfl [.int .i64 K, .bool Hh, .int .u32 L, .int .i64 0] X0.out _ Tryz.underlying135 rfl toldInfo ?_)
    | (refine wpList_store_box rfl 135 _ _ rfl (w.heap.size) #[.int .i64 K, .bool Hh, .int .u32 L, .int .i64 0] rfl rfl 135 (toldV 0 false 0 0) hQ6 toldInfo rfl (by simp [Value.oneCell']) ?_)
    | fail)
  intro w9 hB9 hg9
  have hD9 := H7.out.1.other hQ6 hg9 hlo (by decide)
  have H9 := Lib.hid (And.intro hD9.1 (H7.out.2.1.new hg9 (Nat.le_refl _)))
  clear hD9 hg9 hQ6
  go_wp2_with fail
  refine bodyPost_ret (results_cell_row rfl _ _ w.heap.size 135 _ (0, 0) _ rfl hB9 Tryz.underlying135 rfl toldInfo) rfl ?_
  refine ⟨_, s', ts', K, Hh, L, rfl, H9.out.2, H9.out.1, ⟨H7.out.2.2.1.1, H7.out.2.2.1.2.1, by show td + 1 = _; rw [HTT.out]⟩, ?_⟩
  rcases H7.out.2.2.2 with ⟨r, j, a1, a2, a3, a4, a5, a6⟩ | a
  · exact .inl ⟨r, j, a1, a2, a3, a4, a5.same rfl rfl rfl rfl, a6⟩
  · exact .inr a
end
end Tl
end Go.Proofs.YtnlaedfnifimkaaGreat
namespace Go.Proofs.YtnlaedfnifimkaaGreat
open Go.RowKit Go.Joins
namespace Tl
def TickO (w w' : World) (x : Ending) (B d wy mb : Nat) (LA : Option Addr) (lc : Nat) (BA : Option Addr) (bc : Nat) (dl : List BD) (u : Bool) (D : DkS) (R : List Int) (nl : Bool) : Prop :=
  ∃ D' s' ts', (∃ v, x = .returned v) ∧ DMv w w' d wy mb ∧ DeckAt w' B d wy mb LA lc BA bc dl D' s' ts' ∧
    ((∃ X r i, R = X :: r ∧ (1 ≤ X ∧ X ≤ 65535) ∧ Pos dl u D' s' ts' i r (!nl) ∧ D'.lv = (!nl) ∧ D'.pl = true ∧ D'.left = X - 1 ∧ D'.told = D.told + 1) ∨ R = [])
section
variable {w : World} {B d wy mb lc bc : Nat} {LA BA : Option Addr} {dl : List BD} {D : DkS} {s : WS} {ts : List Int} {u nl : Bool} {i : Nat} {R : List Int}
set_option maxRecDepth 100000 in
theorem tick_down (h : DeckAt w B d wy mb LA lc BA bc dl D s ts) (hp : D.pl = true) (h0 : 1 ≤ D.left) (h1 : D.left ≤ 65535) :
    Calls Tryz.prog 25 #[.pointer (some ⟨d, 0, none⟩)] w fun x w' => (∃ v, x = .returned v) ∧ DMv w w' d wy mb ∧ DeckAt w' B d wy mb LA lc BA bc dl { D with left := D.left - 1 } s ts := by
  have c7 : w.cell? ⟨d, 7, none⟩ = some (.bool true) := by rw [← hp]; exact (h.box.cell 7).trans rfl
  have c8 : w.cell? ⟨d, 8, none⟩ = some (.int .u32 D.left) := (h.box.cell 8).trans rfl
  have f8 : w.frozen? ⟨d, 8, none⟩ = false := h.box.frozen 8
  have H := Lib.hid (h.set_ (i := 8) (v := .int .u32 (D.left - 1)) (D' := { D with left := D.left - 1 }) rfl (.inr rfl))
  have hw : IntKind.u32.wrap (D.left - 1) = D.left - 1 := by simp [IntKind.wrap, IntKind.bits, IntKind.signed]; omega
  have hne : ¬ (D.left = 0) := by omega
  clear h hp
  generalize D.left = z at *
  go_enter Tryz.func25, Tryz.ntmps25
  go_wp2
  first | go_end0 | ((try simp only [Exit.inBlock, Exit.then]); refine bodyPost_ret (v := .tuple #[]) (results_none rfl _ _ _) rfl ?_)
  exact ⟨⟨_, rfl⟩, H.out.2, H.out.1⟩
set_option maxRecDepth 100000 in
set_option maxHeartbeats 8000000 in
theorem tick_next (h : DeckAt w B d wy mb LA lc BA bc dl D s ts) (ht : Tape dl u) (hp : Pos dl u D s ts i R nl) (h0 : 0 ≤ D.told) (h1 : D.told ≤ 1000000) (hpl : D.pl = true) (hl : D.left = 0) :
    Calls Tryz.prog 25 #[.pointer (some ⟨d, 0, none⟩)] w fun x w' => TickO w w' x B d wy mb LA lc BA bc dl u D R nl := by
  have c7 : w.cell? ⟨d, 7, none⟩ = some (.bool true) := by rw [← hpl]; exact (h.box.cell 7).trans rfl
  have c8 : w.cell? ⟨d, 8, none⟩ = some (.int .u32 0) := by rw [← hl]; exact (h.box.cell 8).trans rfl
  have htl := tell_any h ht hp h0 h1
  have HU := Lib.hid h.ups.2.2.2
  have HPL := Lib.hid hpl
  clear h ht hp h0 h1 hpl hl
  go_enter Tryz.func25, Tryz.ntmps25
  go_upto_region 2 with fail
  clear c7 c8
  go_wp2_with fail
  refine htl.mono ?_
  rintro x w1 ⟨D', s', ts', K, Hh, L, rfl, hm, hD, hF, hT⟩
  have H1 := Lib.hid (And.intro hD (And.intro hm (And.intro hF hT)))
  have HB1 := Lib.hid hD.ups.2.2.2
  clear hD hm hF hT htl
  go_upto_region 3 with (first
    | (refine wpList_store_box rfl 135 _ _ (by rfl) w1.heap.size #[.int .i64 K, .bool Hh, .int .u32 L, .int .i64 0] (by rfl) (by rfl) 135 (toldV 0 false 0 0) (Blk.new w1 _ _) toldInfo rfl (by simp [Value.oneCell']) ?_)
    | fail)
  intro w6 hB6 hg6
  have hb6 : Below w1.heap.size w1 w6 := ((Below.refl _ _).alloc (Nat.le_refl _) _).grown hg6 (by simp) (fun b e => by injection e with e; omega)
  have e0 : w6.cell? ⟨w1.heap.size, 0, none⟩ = some (.int .i64 K) := (hB6.cell 0).trans rfl
  have e2 : w6.cell? ⟨w1.heap.size, 2, none⟩ = some (.int .u32 L) := (hB6.cell 2).trans rfl
  have hD6 := H1.out.1.below hb6
  have hm6 := H1.out.2.1.trans (DMv.of_below hb6)
  have hne : w1.heap.size ≠ d := hB6.ne_ hD6.box (by decide)
  generalize w1.heap.size = tp at *
  have HF := Lib.hid H1.out.2.2
  clear hb6 hg6 H1 HB1 hB6
  rcases HF.out with ⟨hF, ⟨r, j, a1, a2, a3, a4, a5, a6⟩ | ⟨a1, a2, a3, a4⟩⟩
  · subst a3
    obtain ⟨hD7, m7⟩ := hD6.set_ (i := 8) (v := .int .u32 L) (D' := { D' with left := L }) rfl (.inr rfl)
    obtain ⟨hD8, m8⟩ := hD7.set_ (i := 8) (v := .int .u32 (L - 1)) (D' := { D' with left := L - 1 }) rfl (.inr rfl)
    have c8 : w6.cell? ⟨d, 8, none⟩ = some (.int .u32 D'.left) := (hD6.box.cell 8).trans rfl
    have f8 : w6.frozen? ⟨d, 8, none⟩ = false := hD6.box.frozen 8
    have c8' : (w6.setCell ⟨d, 8, none⟩ (.int .u32 L)).cell? ⟨d, 8, none⟩ = some (.int .u32 L) := (hD7.box.cell 8).trans rfl
    have f8' : (w6.setCell ⟨d, 8, none⟩ (.int .u32 L)).frozen? ⟨d, 8, none⟩ = false := hD7.box.frozen 8
    have hw : IntKind.u32.wrap (L - 1) = L - 1 := by simp [IntKind.wrap, IntKind.bits, IntKind.signed]; omega
    have H8 := Lib.hid (And.intro hD8 (And.intro ((hm6.trans m7).trans m8) (And.intro hF (And.intro a1 (And.intro a2 (And.intro a5 a6))))))
    clear hD6 hm6 hD7 hD8 m7 m8 hF a1 a2 a4 a5 a6 HF
    go_upto_region 6 with fail
    clear c8 f8
    generalize (w6.setCell ⟨d, 8, none⟩ (.int .u32 L)) = w7 at *
    clear e0 e2
    go_wp2
    first | go_end0 | ((try simp only [Exit.inBlock, Exit.then]); refine bodyPost_ret (v := .tuple #[]) (results_none rfl _ _ _) rfl ?_)
    exact ⟨_, s', ts', ⟨_, rfl⟩, H8.out.2.1, H8.out.1, .inl ⟨L, r, j, H8.out.2.2.2.1, H8.out.2.2.2.2.1, H8.out.2.2.2.2.2.1.same rfl rfl rfl rfl, H8.out.2.2.2.2.2.2, H8.out.2.2.1.1.trans HPL.out, rfl, H8.out.2.2.1.2.2⟩⟩
  · subst a2
    obtain ⟨hD7, m7⟩ := hD6.set_ (i := 7) (v := .bool false) (D' := { D' with pl := false }) rfl (.inr rfl)
    have c7 : w6.cell? ⟨d, 7, none⟩ = some (.bool D'.pl) := (hD6.box.cell 7).trans rfl
    have f7 : w6.frozen? ⟨d, 7, none⟩ = false := hD6.box.frozen 7
    have H8 := Lib.hid (And.intro hD7 (And.intro (hm6.trans m7) a1))
    clear hD6 hm6 hD7 m7 hF a1 a4 HF e2
    go_wp2
    first | go_end0 | ((try simp only [Exit.inBlock, Exit.then]); refine bodyPost_ret (v := .tuple #[]) (results_none rfl _ _ _) rfl ?_)
    exact ⟨_, s', ts', ⟨_, rfl⟩, H8.out.2.1, H8.out.1, .inr H8.out.2.2⟩
end
end Tl
end Go.Proofs.YtnlaedfnifimkaaGreat
namespace Go.Proofs.YtnlaedfnifimkaaGreat
open Go.RowKit
namespace Tl
def NewP (w w' : World) (x : Ending) (ψ : Nat → Prop) (n : Nat) (bs : List WB) : Prop :=
  Below w.heap.size w w' ∧ (((soundG bs bs.length 0).2 ≠ 0 ∧ x = .returned (.tuple #[.pointer none, .int .i64 (soundG bs bs.length 0).2])) ∨
    ((soundG bs bs.length 0).2 = 0 ∧ emptyJ bs ∧ x = .returned (.tuple #[.pointer none, .int .i64 1])) ∨
    ((soundG bs bs.length 0).2 = 0 ∧ ¬ emptyJ bs ∧ ∃ (g mb : Nat) (LA : Option Addr) (lc : Nat), x = .returned (.tuple #[.pointer (some ⟨g, 0, none⟩), .int .i64 0]) ∧ w.heap.size ≤ g ∧ w.heap.size ≤ mb ∧ Blk w' g 217 (wkC LA n lc mb ws0) ∧ TkAt w' mb [] ∧ BlksR w' (fun b => (ψ b ∨ w.heap.size ≤ b) ∧ b ≠ g ∧ b ≠ mb ∧ b < w'.heap.size) LA n bs))
set_option maxRecDepth 100000 in
set_option maxHeartbeats 8000000 in
theorem newP_any (w : World) (ψ : Nat → Prop) (A : Option Addr) (n c : Nat) (bs : List WB) (hP : BlksR w ψ A n bs) (hψ : ∀ b, ψ b → b < w.heap.size) (hL : Lite bs) :
    Calls Tryz.prog 79 #[.slice A n c] w fun x w' => NewP w w' x ψ n bs := by
  have hB : BlksR w (· < w.heap.size) A n bs := hP.keep (fun _ _ => rfl) hψ
  have HPP := Lib.hid (And.intro hP hψ)
  clear hP hψ
  obtain ⟨i1, hj, hy0, hy1, hy2⟩ := info_parts blkInfo4
  have hl := hB.len
  have hn : n ≤ 300 := by have := hL.1; omega
  have hs := sound_any w A n c bs hB hL
  have HB := Lib.hid (And.intro hB (And.intro hl hL))
  clear hB hl hL
  obtain ⟨q, hq⟩ : ∃ q, q = (soundG bs bs.length 0).1 := ⟨_, rfl⟩
  obtain ⟨e, he⟩ : ∃ e, e = (soundG bs bs.length 0).2 := ⟨_, rfl⟩
  rw [← hq, ← he] at hs
  have HE := Lib.hid he
  clear he hq
  go_enter Tryz.func79, Tryz.ntmps79
  go_wp2_with fail
  refine hs.mono ?_
  rintro x w1 ⟨rfl, hb1⟩
  clear hs
  have H1 := Lib.hid hb1
  have hs1 := hb1.size
  clear hb1
  by_cases hne : e = 0
  · subst hne
    go_wp2_with fail
    go_loopw [18] (fun x wr => ∃ k : Nat, k ≤ n ∧ x = .int .i64 k ∧ (∀ i, i < k → ¬ ((bs.getD i default).id = 35 ∧ (bs.getD i default).ts = [])) ∧ Below w1.heap.size w1 wr) (fun x _ => n - (intOf x).toNat)
    case atStart => exact ⟨0, by omega, rfl, fun i hi => absurd hi (by omega), Below.refl _ _⟩
    case round =>
      obtain ⟨k, hkn, rfl, hno, hbl⟩ := hrel
      have hk0 : (0 : Int) ≤ (k : Int) := Int.natCast_nonneg _
      have hsz := hbl.size
      have hbw : Below w.heap.size w wr := H1.out.trans (hbl.mono hs1)
      by_cases hlt : k < n
      · have hkI : (k : Int) < (n : Int) := by omega
        have hwk : IntKind.i64.wrap ((k : Int) + 1) = (k : Int) + 1 := by rw [IntKind.wrap_i64]; omega
        have hBr := HB.out.1.keep (w' := wr) (ψ := (· < w.heap.size)) (fun b hb => hbw.block b hb) (fun b hb => hb)
        obtain ⟨ad, rfl, hab, cs, hWB, hc18⟩ := hBr.at_ (i := k) hlt
        obtain ⟨d, hd⟩ : ∃ d, d = bs.getD k default := ⟨_, rfl⟩
        rw [← hd] at hWB
        obtain ⟨v2, v3, v4, v5, v6, v7, v9, v10, v11, v12, TA, tn, tc, IA, ic, v15, v16, v17, rfl, h1c, hTs, hIs⟩ := hWB
        have X0 := Lib.hid (show ∀ jj vv, ([.int .i64 d.id, .int .i64 d.pz, v2, v3, v4, v5, v6, v7, .int .i64 d.ct, v9, v10, v11, v12, .slice TA tn tc, .slice IA d.ns.length ic, v15, v16, v17] : List Value)[jj]? = some vv → wr.cell? ((ad.add (k * 18)).add jj) = some vv from hc18)
        have X1 := Lib.hid (show (#[.int .i64 d.id, .int .i64 d.pz, v2, v3, v4, v5, v6, v7, .int .i64 d.ct, v9, v10, v11, v12, .slice TA tn tc, .slice IA d.ns.length ic, v15, v16, v17] : Array Value).all (·.oneCell') = true from all_one h1c)
        have HD := Lib.hid (And.intro hd (And.intro hTs hIs))
        clear hc18 h1c hd hTs hIs
        have HS := Lib.hid (And.intro hno (And.intro hbl hbw))
        have htl : d.ts.length = tn := reads_len (HD.out.2.1.reads (B := w.heap.size) (fun b h => h))
        have HTL := Lib.hid htl
        clear hBr hbl hbw hno htl
        go_wp2_with (first
          | (refine wpList_load_at rfl 34 _ rfl (ad.add (k * 18)) rfl [.int .i64 d.id, .int .i64 d.pz, v2, v3, v4, v5, v6, v7, .int .i64 d.ct, v9, v10, v11, v12, .slice TA tn tc, .slice IA d.ns.length ic, v15, v16, v17] X0.out _ Tryz.underlying34 rfl blkInfo ?_)
          | (refine wpList_store_box rfl 34 _ _ rfl (wr.heap.size) #[.int .i64 d.id, .int .i64 d.pz, v2, v3, v4, v5, v6, v7, .int .i64 d.ct, v9, v10, v11, v12, .slice TA tn tc, .slice IA d.ns.length ic, v15, v16, v17] rfl rfl 34 #[.int .i64 0, .int .i64 0, .int .i64 0, .int .i64 0, .int .i64 0, .int .i64 0, .int .i64 0, .int .i64 0, .int .i64 0, .int .i64 0, .int .i64 0, .int .i64 0, .slice none 0 0, .slice none 0 0, .slice none 0 0, .slice none 0 0, .slice none 0 0, .slice none 0 0] (Blk.new wr _ _) blkInfo rfl X1.out ?_)
          | fail)
        intro w3 hB3 hg3
        have hb3 : Below w1.heap.size w1 w3 := (HS.out.2.1.alloc hsz _).grown hg3 (by simp; omega) (fun b hb => by injection hb with hb; omega)
        have p0 : w3.cell? ⟨wr.heap.size, 0, none⟩ = some (.int .i64 d.id) := (hB3.cell 0).trans rfl
        have p13 : w3.cell? ⟨wr.heap.size, 13, none⟩ = some (.slice TA tn tc) := (hB3.cell 13).trans rfl
        have H3 := Lib.hid hb3
        clear hg3 hb3 hB3
        by_cases h35 : d.id = 35
        · rw [h35] at p0
          have HI := Lib.hid h35
          clear h35
          by_cases ht0 : tn = 0
          · rw [ht0] at p13
            have HT0 := Lib.hid ht0
            clear ht0
            have HX := Lib.hid (show emptyJ bs from ⟨k, by rw [HB.out.2.1]; exact hlt, by rw [← HD.out.1]; exact HI.out, by rw [← HD.out.1]; exact List.length_eq_zero_iff.1 (HTL.out.trans HT0.out)⟩)
            go_wp2
            go_ret2
            exact ⟨H1.out.trans (H3.out.mono hs1), .inr (.inl ⟨HE.out.symm, HX.out, rfl⟩)⟩
          · have htf : ((tn : Int) == 0) = false := by simpa using ht0
            have HX := Lib.hid (show ¬ ((bs.getD k default).id = 35 ∧ (bs.getD k default).ts = []) by rintro ⟨_, h9⟩; rw [← HD.out.1] at h9; rw [h9] at HTL; exact ht0 HTL.out.symm)
            clear ht0
            go_wp2
            go_roundw
            case rel => exact ⟨k + 1, by omega, by go_num, fun i hi => (by rcases Nat.lt_succ_iff_lt_or_eq.1 hi with h | rfl; exact HS.out.1 i h; exact HX.out), H3.out⟩
            case measure => simp [intOf]; omega
        · have hif : (d.id == 35) = false := by simpa using h35
          have HX := Lib.hid (show ¬ ((bs.getD k default).id = 35 ∧ (bs.getD k default).ts = []) by rintro ⟨h9, _⟩; rw [← HD.out.1] at h9; exact h35 h9)
          clear h35
          go_wp2
          go_roundw
          case rel => exact ⟨k + 1, by omega, by go_num, fun i hi => (by rcases Nat.lt_succ_iff_lt_or_eq.1 hi with h | rfl; exact HS.out.1 i h; exact HX.out), H3.out⟩
          case measure => simp [intOf]; omega
      · obtain rfl : k = n := by omega
        have hkI : ¬ (k : Int) < (k : Int) := by omega
        have hBr := HPP.out.1.keep (w' := wr) (ψ := ψ) (fun b hb => hbw.block b (HPP.out.2 b hb)) (fun b hb => hb)
        obtain ⟨xs, hR, hW⟩ := hBr
        have HX := Lib.hid (And.intro hbw (And.intro hno (And.intro hR hW)))
        have hwsz := hbw.size
        clear hno hbl hbw hR hW
        have hown0 : (wr.alloc (.cells #[] 34)).ownsRow wr.heap.size 34 18 (.slice (some ⟨wr.heap.size, 0, none⟩) 0 0) 0 [] := World.ownsRow_made wr #[] 0 (Nat.le_refl _) (by unfold maxLen; omega) rfl
        have HC := Lib.hid (show Reads (wr.alloc (.cells #[] 34)) w.heap.size 18 A k xs ∧ 0 + k ≤ maxLen ∧ (0 + k) * 240 ≤ 140737488355328 from ⟨(HX.out.2.2.1.keep (w' := wr.alloc (.cells #[] 34)) (ψ := (· < w.heap.size)) (fun b hb => Below.heap_alloc _ _ _ (Nat.lt_of_lt_of_le (HPP.out.2 b hb) hwsz)) (fun b hb => HPP.out.2 b hb)).reads (fun b hb => hb), by unfold maxLen; omega, by omega⟩)
        go_upto_region 10 with fail
        go_wp2_with (first
          | (at_builtin; refine wpList_append_any _ rfl _ _ 64 rfl wr.heap.size 34 i1 (.agg #[.int .i64 0, .int .i64 0, .int .i64 0, .int .i64 0, .int .i64 0, .int .i64 0, .int .i64 0, .int .i64 0, .int .i64 0, .int .i64 0, .int .i64 0, .int .i64 0, .slice none 0 0, .slice none 0 0, .slice none 0 0, .slice none 0 0, .slice none 0 0, .slice none 0 0]) 18 240 Tryz.underlying64 hj hy0 hy1 hy2 rfl (by decide) (.slice (some ⟨wr.heap.size, 0, none⟩) 0 0) 0 [] rfl hown0 w.heap.size A k c xs rfl HC.out.1 (WBsAt.one HX.out.2.2.2) HC.out.2.1 HC.out.2.2 (by simp) ?_)
          | go_in)
        intro v' w5 hown hg hv
        obtain ⟨A', c', rfl⟩ := own_slice hown
        have HO := Lib.hid (And.intro hown (And.intro hg hv))
        clear hown hg hv hown0
        have hmm := @run_makeMap Tryz.prog
        go_wp2
        go_ret2
        have hrd : RdP w5 (fun b => wr.heap.size ≤ b ∧ b < w5.heap.size) 18 A' k xs := RdP.of_own (by simpa using HO.out.1)
        have hs5 := HO.out.2.1.size
        simp at hs5
        have hq1 : ∀ b, b < w5.heap.size → ((w5.alloc (Obj.map #[] 0)).alloc (.cells (wkC A' k c' w5.heap.size ws0) 217)).heap[b]? = w5.heap[b]? := fun b hb => (Below.heap_alloc _ _ _ (by simp; omega)).trans (Below.heap_alloc _ _ _ hb)
        have hq2 : ∀ b, b < w.heap.size → w5.heap[b]? = wr.heap[b]? := fun b hb => (HO.out.2.1.block b (by simp; omega) (fun e => by simp only [Value.ownBlock] at e; injection e with e; omega)).trans (Below.heap_alloc _ _ _ (by omega))
        have hb7 : Below w.heap.size w ((w5.alloc (Obj.map #[] 0)).alloc (.cells (wkC A' k c' w5.heap.size ws0) 217)) := (((HX.out.1.alloc hwsz (.cells #[] 34)).grown HO.out.2.1 (by simp; omega) (fun b e => by simp only [Value.ownBlock] at e; injection e with e; omega)).alloc (by omega) _).alloc (by simp; omega) _
        have hg7 : Blk ((w5.alloc (Obj.map #[] 0)).alloc (.cells (wkC A' k c' w5.heap.size ws0) 217)) (w5.heap.size + 1) 217 (wkC A' k c' w5.heap.size ws0) := by
          have := Blk.new (w5.alloc (Obj.map #[] 0)) 217 (wkC A' k c' w5.heap.size ws0)
          simpa using this
        refine ⟨hb7, .inr (.inr ⟨HE.out.symm, ?_, w5.heap.size + 1, w5.heap.size, A', c', rfl, by omega, by omega, hg7, (TkAt.new w5).kept (Below.heap_alloc _ _ _ (by simp)), xs, ?_, ?_⟩)⟩
        · rintro ⟨i, hi, h9⟩
          exact HX.out.2.1 i (by have := HB.out.2.1; omega) h9
        · exact hrd.keep (fun b hb => hq1 b hb.2) (fun b hb => ⟨.inr (by omega), by omega, by omega, by have := hb.2; simp; omega⟩)
        · exact WBsAt.keep (fun b hb => (hq1 b (by have : b < w.heap.size := HPP.out.2 b hb; omega)).trans (hq2 b (HPP.out.2 b hb))) (fun b hb => ⟨.inl hb, by have : b < w.heap.size := HPP.out.2 b hb; omega, by have : b < w.heap.size := HPP.out.2 b hb; omega, by have : b < w.heap.size := HPP.out.2 b hb; simp; omega⟩) HX.out.2.2.2
  · have hef : (e == 0) = false := by simpa using hne
    have HNE := Lib.hid hne
    clear hne
    go_wp2
    go_ret2
    exact ⟨H1.out, .inl ⟨HE.out ▸ HNE.out, by rw [HE.out] <;> rfl⟩⟩
end Tl
end Go.Proofs.YtnlaedfnifimkaaGreat
namespace Go.Proofs.YtnlaedfnifimkaaGreat
open Go.RowKit Go.Joins
namespace Tl
theorem deckInfo : (Tryz.prog.info? 137).map (·.size) = some 15 := by kernel_rfl
theorem tapeInfo : (Tryz.prog.info? 66).map (·.size) = some 3 := by kernel_rfl
def dk0 : DkS := ⟨none, 0, false, false, 0, 0, false, 0, 0, false, 0⟩
theorem dkC_one {BA : Option Addr} {m bc wy : Nat} {D : DkS} : (dkC BA m bc wy D).all (·.oneCell') = true := by simp [dkC, Value.oneCell']
structure DeckQ (w : World) (M d wy mb : Nat) (LA : Option Addr) (lc : Nat) (BA : Option Addr) (bc : Nat) (dl : List BD) : Prop where
  box : Blk w d 137 (dkC BA dl.length bc wy dk0)
  way : Blk w wy 217 (wkC LA dl.length lc mb ws0)
  tk : TkAt w mb []
  wbs : BlksR w (fun b => b ≠ M ∧ b ≠ wy ∧ b ≠ mb ∧ b < w.heap.size) LA dl.length (dl.map wbOf)
  blks : ∃ xs, RdP w (fun b => b ≠ M ∧ b < w.heap.size) 18 BA dl.length xs ∧ BlksAt w (fun b => b ≠ M ∧ b < w.heap.size) dl xs
  far : d ≠ M ∧ wy ≠ M ∧ mb ≠ M
theorem not_empty {dl : List BD} (ho : ∀ d ∈ dl, OurB d) : ¬ emptyJ (dl.map wbOf) := by
  rintro ⟨i, _, h2, _⟩
  have := id_ours ho i
  omega
section
variable {w : World} {M d wy mb lc bc : Nat} {LA BA : Option Addr} {dl : List BD}
theorem DeckQ.keep {w' : World} (h : DeckQ w M d wy mb LA lc BA bc dl) (hs : w.heap.size ≤ w'.heap.size) (hk : ∀ b, b < w.heap.size → b ≠ M → w'.heap[b]? = w.heap[b]?) : DeckQ w' M d wy mb LA lc BA bc dl := by
  obtain ⟨xs, h1, h2⟩ := h.blks
  exact ⟨(hk d h.box.lt h.far.1).trans h.box, (hk wy h.way.lt h.far.2.1).trans h.way, h.tk.kept (hk mb h.tk.lt h.far.2.2), h.wbs.keep (fun b hb => hk b hb.2.2.2 hb.1) (fun b hb => ⟨hb.1, hb.2.1, hb.2.2.1, by have := hb.2.2.2; omega⟩), ⟨xs, h1.keep (fun b hb => hk b hb.2 hb.1) (fun b hb => ⟨hb.1, by have := hb.2; omega⟩), BlksAt.keep (fun b hb => hk b hb.2 hb.1) (fun b hb => ⟨hb.1, by have := hb.2; omega⟩) h2⟩, h.far⟩
theorem DeckQ.below {w' : World} (h : DeckQ w M d wy mb LA lc BA bc dl) (hb : Below w.heap.size w w') : DeckQ w' M d wy mb LA lc BA bc dl := h.keep hb.size (fun b hlt _ => hb.block b hlt)
theorem DeckQ.walk (h : DeckQ w M d wy mb LA lc BA bc dl) : WalkAt w wy mb LA dl.length lc (dl.map wbOf) ws0 := ⟨h.way, h.tk, h.wbs.keep (fun _ _ => rfl) (fun _ hb => hb.2)⟩
def NewDO (w w' : World) (M : Nat) (x : Ending) (BA : Option Addr) (bc : Nat) (dl : List BD) : Prop :=
  Below w.heap.size w w' ∧ ∃ d wy mb LA lc, x = .returned (.tuple #[.pointer (some ⟨d, 0, none⟩), .int .i64 0]) ∧ w.heap.size ≤ d ∧ w.heap.size ≤ wy ∧ w.heap.size ≤ mb ∧ DeckQ w' M d wy mb LA lc BA bc dl
set_option maxRecDepth 100000 in
set_option maxHeartbeats 4000000 in
theorem dnew_any (w : World) (M : Nat) (hM : M < w.heap.size) (BA : Option Addr) (bc : Nat) (dl : List BD) (xs : List Value) (hr : RdP w (fun b => b ≠ M ∧ b < w.heap.size) 18 BA dl.length xs) (hb : BlksAt w (fun b => b ≠ M ∧ b < w.heap.size) dl xs) (ho : ∀ d ∈ dl, OurB d) (hn : dl.length ≤ 300) :
    Calls Tryz.prog 41 #[.agg #[.int .i64 1, .int .i64 20, .slice BA dl.length bc]] w fun x w' => NewDO w w' M x BA bc dl := by
  have hb0 : Below w.heap.size w (w.alloc (.cells #[.int .i64 1, .int .i64 20, .slice BA dl.length bc] 66)) := (Below.refl _ _).alloc (Nat.le_refl _) _
  have hT := Blk.new w 66 #[.int .i64 1, .int .i64 20, .slice BA dl.length bc]
  have hs0 : w.heap.size + 1 = (w.alloc (.cells #[.int .i64 1, .int .i64 20, .slice BA dl.length bc] 66)).heap.size := by simp
  have hnw := newP_any (w.alloc (.cells #[.int .i64 1, .int .i64 20, .slice BA dl.length bc] 66)) (fun b => b ≠ M ∧ b < w.heap.size) BA dl.length bc (dl.map wbOf) ((blks_r hr hb).keep (fun b hb' => hb0.block b hb'.2) (fun _ hb' => hb')) (fun b hb' => by have := hb'.2; omega) (lite_ours ho hn)
  have H := Lib.hid (And.intro hr (And.intro hb ho))
  clear hr hb ho hn
  go_enter Tryz.func41, Tryz.ntmps41
  go_upto_region 1 with fail
  generalize (w.alloc (.cells #[.int .i64 1, .int .i64 20, .slice BA dl.length bc] 66)) = w0 at *
  have c2 : w0.cell? ⟨w.heap.size, 2, none⟩ = some (.slice BA dl.length bc) := (hT.cell 2).trans rfl
  have H0 := Lib.hid (And.intro hb0 (And.intro hT hs0))
  clear hb0 hT hs0
  go_wp2_with fail
  refine hnw.mono ?_
  intro x w1 ho1
  obtain ⟨hb1, ⟨h1, _⟩ | ⟨_, h2, _⟩ | ⟨_, _, g, mb, LA, lc, rfl, hg, hm, hW, hTk, hWB⟩⟩ := ho1
  · exact absurd (by rw [soundG_ours H.out.2.2]) h1
  · exact absurd h2 (not_empty H.out.2.2)
  · have hT1 := H0.out.2.1.below hb1 H0.out.2.1.lt
    have hbw := H0.out.1.trans (hb1.mono (by have := H0.out.2.2; omega))
    have H1 := Lib.hid (And.intro hW (And.intro hbw (And.intro hg (And.intro hm (And.intro hTk hWB)))))
    have hs1 := hbw.size
    clear hW hbw hg hm hb1 c2 hnw hTk hWB
    go_wp2_with (first
      | (refine wpList_load_box rfl 66 _ rfl w.heap.size rfl 66 #[.int .i64 1, .int .i64 20, .slice BA dl.length bc] hT1 _ Tryz.underlying66 rfl tapeInfo ?_)
      | fail)
    try (refine fun (_ : Hid _) => ?_)
    try go_wp2_with fail
    try go_ret2
    have hb2 : Below w1.heap.size w1 (w1.alloc (.cells (dkC BA dl.length bc g dk0) 137)) := (Below.refl _ _).alloc (Nat.le_refl _) _
    have hr2 : Below w.heap.size w (w1.alloc (.cells (dkC BA dl.length bc g dk0) 137)) := H1.out.2.1.trans (hb2.mono hs1)
    have hs2 := hr2.size
    have hss := H0.out.2.2
    refine (show NewDO w (w1.alloc (.cells (dkC BA dl.length bc g dk0) 137)) M (.returned (.tuple #[.pointer (some ⟨w1.heap.size, 0, none⟩), .int .i64 0])) BA bc dl from ?_)
    have hg0 : w0.heap.size ≤ g := H1.out.2.2.1
    have hm0 : w0.heap.size ≤ mb := H1.out.2.2.2.1
    have hs12 := hb2.size
    refine ⟨hr2, w1.heap.size, g, mb, LA, lc, rfl, hs1, by omega, by omega, Blk.new w1 _ _, H1.out.1.below hb2 H1.out.1.lt, H1.out.2.2.2.2.1.kept (hb2.block mb H1.out.2.2.2.2.1.lt), H1.out.2.2.2.2.2.keep (fun b hb' => hb2.block b hb'.2.2.2) (fun b hb' => ⟨?_, hb'.2.1, hb'.2.2.1, by have := hb'.2.2.2; omega⟩), ⟨xs, H.out.1.keep (fun b hb' => hr2.block b hb'.2) (fun b hb' => ⟨hb'.1, by have := hb'.2; omega⟩), BlksAt.keep (fun b hb' => hr2.block b hb'.2) (fun b hb' => ⟨hb'.1, by have := hb'.2; omega⟩) H.out.2.1⟩, by omega, by omega, by omega⟩
    rcases hb'.1 with h | h
    · exact h.1
    · omega
set_option maxRecDepth 100000 in
set_option maxHeartbeats 4000000 in
theorem dcopy_any (h : DeckQ w M d wy mb LA lc BA bc dl) :
    Calls Tryz.prog 53 #[.pointer (some ⟨d, 0, none⟩)] w fun x w' => ∃ d2 wy2 m2, x = .returned (.pointer (some ⟨d2, 0, none⟩)) ∧ DeckAt w' w.heap.size d2 wy2 m2 LA lc BA bc dl dk0 ws0 [] ∧ Below w.heap.size w w' := by
  have hP := h.box
  have HH := Lib.hid h
  clear h
  go_enter Tryz.func53, Tryz.ntmps53
  go_upto_region 4 with (first
    | (refine wpList_load_box rfl 137 _ rfl d rfl 137 (dkC BA dl.length bc wy dk0) hP _ Tryz.underlying137 rfl deckInfo (fun (_ : Hid _) => ?_))
    | (refine wpList_store_box rfl 137 _ _ rfl (w.heap.size) (dkC BA dl.length bc wy dk0) rfl rfl 137 #[.int .i64 0, .int .i64 0, .slice none 0 0, .pointer none, .pointer none, .int .i64 0, .bool false, .bool false, .int .u32 0, .int .i64 0, .bool false, .int .u32 0, .int .i64 0, .bool false, .int .i64 0] (Blk.new w _ _) deckInfo rfl dkC_one ?_)
    | fail)
  intro w1 hB1 hg1
  have hb1 : Below w.heap.size w w1 := ((Below.refl _ _).alloc (Nat.le_refl _) _).grown hg1 (by simp) (fun b e => by injection e with e; omega)
  have hs1 := hb1.size
  have c3 : w1.cell? ⟨d, 3, none⟩ = some (.pointer (some ⟨wy, 0, none⟩)) := ((HH.out.box.below hb1 HH.out.box.lt).cell 3).trans rfl
  have hcp := copy_any w1 wy mb LA dl.length lc (dl.map wbOf) ws0 (HH.out.walk.below hb1)
  have H1 := Lib.hid (And.intro hB1 hb1)
  clear hB1 hg1 hb1 hP
  go_upto_region 4 with fail
  go_wp2_with fail
  refine hcp.mono ?_
  rintro x w2 ⟨g2, m2, rfl, hg2, hm2, hW, hTk, hb2⟩
  have hB2 := H1.out.1.below hb2 H1.out.1.lt
  have hbw := H1.out.2.trans (hb2.mono hs1)
  have c32 : w2.cell? ⟨w.heap.size, 3, none⟩ = some (.pointer (some ⟨wy, 0, none⟩)) := (hB2.cell 3).trans rfl
  have f32 : w2.frozen? ⟨w.heap.size, 3, none⟩ = false := hB2.frozen 3
  have hlt := H1.out.1.lt
  have H2 := Lib.hid (show DeckAt (w2.setCell ⟨w.heap.size, 3, none⟩ (.pointer (some ⟨g2, 0, none⟩))) w.heap.size w.heap.size g2 m2 LA lc BA bc dl dk0 ws0 [] ∧ Below w.heap.size w (w2.setCell ⟨w.heap.size, 3, none⟩ (.pointer (some ⟨g2, 0, none⟩))) from by
    have hb3 : Below w.heap.size w (w2.setCell ⟨w.heap.size, 3, none⟩ (.pointer (some ⟨g2, 0, none⟩))) := hbw.setCell (by show w.heap.size ≤ w.heap.size; omega) _
    obtain ⟨xs, h1, h2⟩ := HH.out.blks
    have hst : ∀ k, k ≠ w.heap.size → (w2.setCell ⟨w.heap.size, 3, none⟩ (.pointer (some ⟨g2, 0, none⟩))).heap[k]? = w2.heap[k]? := fun k hk => Below.heap_setCell _ _ _ _ hk
    exact ⟨⟨hB2.set_ 3 _, (hst g2 (by omega)).trans hW, hTk.kept (hst m2 (by omega)), HH.out.wbs.keep (fun b hb => hb3.block b hb.2.2.2) (fun b hb => hb.2.2.2), ⟨xs, h1.keep (fun b hb => hb3.block b hb.2) (fun _ h => h.2), BlksAt.keep (fun b hb => hb3.block b hb.2) (fun _ h => h.2) h2⟩, nofun, ⟨Nat.le_refl _, by omega, by omega, hb3.size⟩, ws0_ok _⟩, hb3⟩)
  clear hB2 hbw hW hTk hb2 hcp c3 H1
  go_wp2
  go_ret
  exact ⟨_, _, _, rfl, H2.out.1, H2.out.2⟩
set_option maxRecDepth 100000 in
theorem mdeck_any {m : Nat} {v0 v1 v3 v4 v5 v6 v7 : Value} (hm : Blk w m 92 #[v0, v1, .pointer (some ⟨d, 0, none⟩), v3, v4, v5, v6, v7]) (h : DeckQ w M d wy mb LA lc BA bc dl) :
    Calls Tryz.prog 23 #[.pointer (some ⟨m, 0, none⟩)] w fun x w' => ∃ d2 wy2 m2, x = .returned (.pointer (some ⟨d2, 0, none⟩)) ∧ DeckAt w' w.heap.size d2 wy2 m2 LA lc BA bc dl dk0 ws0 [] ∧ Below w.heap.size w w' := by
  have c2 : w.cell? ⟨m, 2, none⟩ = some (.pointer (some ⟨d, 0, none⟩)) := (hm.cell 2).trans rfl
  have hcp := dcopy_any h
  clear h hm
  go_enter Tryz.func23, Tryz.ntmps23
  go_wp2_with fail
  refine hcp.mono ?_
  rintro x w1 ⟨d2, wy2, m2, rfl, h1, h2⟩
  have H := Lib.hid (And.intro h1 h2)
  clear h1 h2 hcp
  go_wp2
  go_ret
  exact ⟨d2, wy2, m2, rfl, H.out⟩
end
end Tl
end Go.Proofs.YtnlaedfnifimkaaGreat
namespace Go.Proofs.YtnlaedfnifimkaaGreat
open Go.RowKit Go.Joins
namespace Tl
def InsO (w w' : World) (x : Ending) (m : Nat) (v0 v1 v4 v5 v6 v7 : Value) (dl : List BD) : Prop :=
  x = .returned .nilIface ∧ Mv w w' m m ∧ ∃ d wy mb LA lc BA bc f, Blk w' m 92 #[v0, v1, .pointer (some ⟨d, 0, none⟩), f, v4, v5, v6, v7] ∧ DeckQ w' m d wy mb LA lc BA bc dl
theorem reads_mono {w : World} {B B' size n : Nat} {A : Option Addr} {xs : List Value} (h : Reads w B size A n xs) (hB : B ≤ B') : Reads w B' size A n xs :=
  ⟨h.1, fun hn => by obtain ⟨ad, e, hb, hc⟩ := h.2 hn; exact ⟨ad, e, by omega, hc⟩⟩
set_option maxRecDepth 100000 in
set_option maxHeartbeats 8000000 in
theorem insert_any {w : World} {m N c : Nat} {A : Option Addr} {v0 v1 v4 v5 v6 v7 : Value} {file : List Int} {dl : List BD} (hB : Blk w m 92 #[v0, v1, .pointer none, .slice none 0 0, v4, v5, v6, v7]) (hF : FileAt w m A N c file) (hf : file = headB ++ blksB dl) (ho : ∀ d ∈ dl, OurB d) (hn : dl.length ≤ 300) :
    Calls Tryz.prog 15 #[.pointer (some ⟨m, 0, none⟩), .slice A N c] w fun x w' => InsO w w' x m v0 v1 v4 v5 v6 v7 dl := by
  obtain ⟨i0, hi, hz0, hz1, hz2⟩ := info_parts u8Info
  have c2 : w.cell? ⟨m, 2, none⟩ = some (.pointer none) := (hB.cell 2).trans rfl
  have c3 : w.cell? ⟨m, 3, none⟩ = some (.slice none 0 0) := (hB.cell 3).trans rfl
  have f2 : w.frozen? ⟨m, 2, none⟩ = false := hB.frozen 2
  have f3 : w.frozen? ⟨m, 3, none⟩ = false := hB.frozen 3
  have hml := hB.lt
  have hb1 : Below m w ((w.setCell ⟨m, 2, none⟩ (.pointer none)).setCell ⟨m, 3, none⟩ (.slice none 0 0)) := ((Below.refl _ _).setCell (by show m ≤ m; omega) _).setCell (by show m ≤ m; omega) _
  have hB1 : Blk ((w.setCell ⟨m, 2, none⟩ (.pointer none)).setCell ⟨m, 3, none⟩ (.slice none 0 0)) m 92 #[v0, v1, .pointer none, .slice none 0 0, v4, v5, v6, v7] := (hB.set_ 2 _).set_ 3 _
  have hM1 : Mv w ((w.setCell ⟨m, 2, none⟩ (.pointer none)).setCell ⟨m, 3, none⟩ (.slice none 0 0)) m m := ((Mv.refl w m m).set_ _).set_ _
  have hF1 := hF.keep hb1
  have H1 := Lib.hid (And.intro hB1 (And.intro hM1 (And.intro hF1 (And.intro hf (And.intro ho hn)))))
  clear hb1 hB1 hM1 hF1 hF hB
  go_enter Tryz.func15, Tryz.ntmps15
  go_upto_region 4 with fail
  clear c2 c3 f2 f3 hml
  generalize ((w.setCell ⟨m, 2, none⟩ (.pointer none)).setCell ⟨m, 3, none⟩ (.slice none 0 0)) = w1 at *
  have hpr := parsed_any w1 A N c file dl ⟨reads_mono H1.out.2.2.1.rd (Nat.le_of_lt H1.out.1.lt), H1.out.2.2.1.u8, H1.out.2.2.1.cap, H1.out.2.2.1.capm⟩ hf ho hn
  clear hf ho hn
  go_wp2_with fail
  refine hpr.mono ?_
  rintro x w2 ⟨hb2, BA, bc, xs, rfl, hr2, hk2⟩
  have hs2 := hb2.size
  have H2 := Lib.hid (And.intro (And.intro hr2 hk2) (And.intro hb2 (H1.out.1.below hb2 H1.out.1.lt)))
  clear hpr hr2 hk2 hb2
  go_upto_region 5 with (first
    | (refine wpList_store_box rfl 66 _ _ (by rfl) w2.heap.size #[.int .i64 1, .int .i64 20, .slice BA dl.length bc] (by rfl) (by rfl) 66 #[.int .i64 0, .int .i64 0, .slice none 0 0] (Blk.new w2 _ _) tapeInfo rfl (by simp [Value.oneCell']) ?_)
    | fail)
  intro w3 hB3 hg3
  have hb3 : Below w2.heap.size w2 w3 := ((Below.refl _ _).alloc (Nat.le_refl _) _).grown hg3 (by simp) (fun b e => by injection e with e; omega)
  have hs3 := hb3.size
  have hml1 := H1.out.1.lt
  have hdn := dnew_any w3 m (by omega) BA bc dl xs (H2.out.1.1.keep (fun b hb => hb3.block b hb.2) (fun b hb => ⟨by omega, by omega⟩)) (BlksAt.keep (fun b hb => hb3.block b hb.2) (fun b hb => ⟨by omega, by omega⟩) H2.out.1.2) H1.out.2.2.2.2.1 H1.out.2.2.2.2.2
  have H3 := Lib.hid (And.intro (H2.out.2.2.below hb3 H2.out.2.2.lt) (show Mv w w3 m m from (H1.out.2.1.trans (Mv.of_below H2.out.2.1)).trans (Mv.of_below hb3)))
  have hN : Hid (Below w1.heap.size w1 w3) := Lib.hid (H2.out.2.1.trans (hb3.mono hs2))
  clear hb3 hg3 H2 hml1
  generalize w2.heap.size = tp at *
  go_upto_region 7 with fail
  go_wp2_with (first
    | (refine wpList_load_box rfl 66 _ rfl tp rfl 66 #[.int .i64 1, .int .i64 20, .slice BA dl.length bc] hB3 _ Tryz.underlying66 rfl tapeInfo ?_)
    | fail)
  try (refine fun (_ : Hid _) => ?_)
  try go_wp2_with fail
  refine hdn.mono ?_
  rintro x w4 ⟨hb4, d, wy, mb, LA, lc, rfl, hd1, hd2, hd3, hDQ⟩
  have hB4 := H3.out.1.below hb4 H3.out.1.lt
  have hM4 := H3.out.2.trans (Mv.of_below hb4)
  have hF4 := H1.out.2.2.1.keep ((hN.out.trans (hb4.mono (by omega))).mono (Nat.le_of_lt H1.out.1.lt))
  have hlen := rd_len hF4.rd
  have H4 := Lib.hid (And.intro hB4 (And.intro hM4 (And.intro hF4 (And.intro hDQ hd1))))
  clear hB4 hM4 hF4 hDQ hdn hb4 hd1 hd2 hd3 H3 hN hB3 hs2 hs3
  go_upto_region 10 with fail
  have hbl := blksB_len H1.out.2.2.2.2.1
  have hN0 : 10 ≤ N := by rw [← hlen, H1.out.2.2.2.1, List.length_append, headB_len]; omega
  have hN1 : N ≤ 1000000 := by have := H1.out.2.2.2.2.2; rw [← hlen, H1.out.2.2.2.1, List.length_append, headB_len]; omega
  obtain ⟨ad, rfl, hab, _⟩ := rd_at H4.out.2.2.1.rd (k := 0) (by omega)
  have hX : ∀ j u, (file.map (Value.int .u8))[j]? = some u → w4.cell? (ad.add j) = some u := by
    obtain ⟨ad2, e2, _, h2⟩ := H4.out.2.2.1.rd.2 (by omega)
    injection e2 with e2
    subst e2
    exact h2
  have hml4 := H4.out.1.lt
  have HX := Lib.hid (show ∀ o j u, (file.map (Value.int .u8))[j]? = some u → (w4.alloc o).cell? (ad.add j) = some u from fun o j u hj => (((Below.refl w4.heap.size w4).alloc (Nat.le_refl _) o).cell (by rw [block_of_add]; omega)).trans (hX j u hj))
  have HX0 := Lib.hid hX
  have HNf := Lib.hid hlen
  clear hX hbl hlen hab
  go_wp2_with (first
    | (at_builtin; refine wpList_append_grows _ rfl _ _ 24 rfl 5 i0 (.int .u8 0) 1 1 Tryz.underlying24 hi hz0 hz1 hz2 rfl (by decide) _ 0 0 [] rfl (fun _ => ⟨rfl, rfl⟩) rfl (by simp) ad N c (file.map (Value.int .u8)) rfl (by rw [List.length_map, HNf.out, Nat.mul_one]) (by intro j u hj; first | exact HX.out _ j u hj | exact HX0.out j u hj) (by simp [Value.oneCell']) (by omega) (by unfold maxLen; omega) (by omega) ?_)
    | fail)
  intro v' w5 hown hg5
  obtain ⟨V, cV, rfl⟩ := own_slice hown
  have hb5 : Below w4.heap.size w4 w5 := by
    first
      | exact ((Below.refl _ _).alloc (Nat.le_refl _) _).grown hg5 (by simp) (fun b e => by cases e)
      | exact (Below.refl _ _).grown hg5 (by simp) (fun b e => by cases e)
  have hB5 := H4.out.1.below hb5 hml4
  have c2 : w5.cell? ⟨m, 2, none⟩ = some (.pointer none) := (hB5.cell 2).trans rfl
  have f2 : w5.frozen? ⟨m, 2, none⟩ = false := hB5.frozen 2
  have c3 : w5.cell? ⟨m, 3, none⟩ = some (.slice none 0 0) := (hB5.cell 3).trans rfl
  have f3 : w5.frozen? ⟨m, 3, none⟩ = false := hB5.frozen 3
  have H5 := Lib.hid (And.intro hB5 hb5)
  clear hown hg5 hb5 hB5
  have HM5 := Lib.hid (H4.out.2.1.trans (Mv.of_below H5.out.2))
  have HB7 := Lib.hid (show Blk ((w5.setCell ⟨m, 2, none⟩ (.pointer (some ⟨d, 0, none⟩))).setCell ⟨m, 3, none⟩ (.slice V N cV)) m 92 #[v0, v1, .pointer (some ⟨d, 0, none⟩), .slice V N cV, v4, v5, v6, v7] from (H5.out.1.set_ 2 _).set_ 3 _)
  go_wp2
  go_ret
  have hq := H4.out.2.2.2.1.below H5.out.2
  have hst : ∀ k, k ≠ m → ((w5.setCell ⟨m, 2, none⟩ (.pointer (some ⟨d, 0, none⟩))).setCell ⟨m, 3, none⟩ (.slice V N cV)).heap[k]? = w5.heap[k]? := fun k hk => (Below.heap_setCell _ _ _ _ hk).trans (Below.heap_setCell _ _ _ _ hk)
  refine ⟨rfl, (HM5.out.set_ _).set_ _, d, wy, mb, LA, lc, BA, bc, _, HB7.out, hq.keep (by simp [World.setCell]) (fun b _ hne => hst b hne)⟩
end Tl
end Go.Proofs.YtnlaedfnifimkaaGreat
namespace Go.Proofs.YtnlaedfnifimkaaGreat
open Go.RowKit Go.Joins
namespace Tl
theorem chF_ours : ∀ (f : Nat) (ls : List Int), (∀ z ∈ ls, 1 ≤ z ∧ z ≤ 65535) → ∀ d ∈ chF f ls, OurB d ∧ d.i0 = 19 ∧ ∀ z ∈ d.ts, 1 ≤ z ∧ z ≤ 65535
  | 0, _, _ => by intro d hd; simp [chF] at hd
  | _ + 1, [], _ => by intro d hd; simp [chF] at hd
  | f + 1, a :: l, h => by
    intro d hd
    rw [chF, List.mem_cons] at hd
    have hk := chK_in (a := a) (l := l) (fun z hz => (h z hz).2)
    rcases hd with rfl | hd
    · have ht : ∀ z ∈ (a :: l).take (shN (a :: l)), 1 ≤ z ∧ z ≤ 65535 := fun z hz => h z (List.mem_of_mem_take hz)
      have hle := (shN_le (a :: l)).2
      refine ⟨.inr ⟨rfl, rfl, ⟨?_, ?_⟩, fun z hz => ⟨by have := (ht z hz).1; omega, (ht z hz).2⟩⟩, rfl, ht⟩
      · show 1 ≤ ((a :: l).take (shN (a :: l))).length
        rw [List.length_take]
        have := hk.1
        unfold chK at this
        have := hk.2.1
        unfold chK at this
        omega
      · show ((a :: l).take (shN (a :: l))).length ≤ 255
        rw [List.length_take]
        omega
    · exact chF_ours f _ (fun z hz => h z (List.mem_of_mem_drop hz)) d hd
theorem chF_flat : ∀ (f : Nat) (ls : List Int), (∀ z ∈ ls, z ≤ 65535) → ls.length ≤ f → (chF f ls).flatMap BD.ts = ls
  | 0, ls, _, hn => by have : ls = [] := List.length_eq_zero_iff.1 (by omega); subst this; rfl
  | _ + 1, [], _, _ => rfl
  | f + 1, a :: l, h, hn => by
    have hk := chK_in (a := a) (l := l) h
    rw [chF, List.flatMap_cons, chF_flat f _ (fun z hz => h z (List.mem_of_mem_drop hz)) (by rw [List.length_drop]; omega)]
    exact List.take_append_drop _ _
set_option maxRecDepth 100000 in
theorem chF_few : ∀ (f : Nat) (ls : List Int), (∀ z ∈ ls, z ≤ 65535) → (chF f ls).length * 255 ≤ ls.length + 254
  | 0, _, _ => by simp [chF]
  | _ + 1, [], _ => by simp [chF]
  | f + 1, a :: l, h => by
    have hk := chK_in (a := a) (l := l) h
    have ih := chF_few f ((a :: l).drop (chK a l)) (fun z hz => h z (List.mem_of_mem_drop hz))
    rw [chF, List.length_cons]
    rw [List.length_drop] at ih
    rcases hk.2.2 with e | e
    · rw [e] at ih ⊢
      have h3 := hk.2.1
      rw [e] at h3
      clear hk h e
      generalize (chF f ((a :: l).drop 255)).length = q at *
      generalize (a :: l).length = n at *
      omega
    · have hd : (chF f ((a :: l).drop (chK a l))).length = 0 := by
        rw [List.drop_of_length_le (Nat.le_of_eq e.symm), chF_nil]; rfl
      rw [hd]
      clear hk h e ih hd
      rw [List.length_cons]
      generalize l.length = n
      omega
theorem exG_flat {high : Bool} {gs : List Int} (hz : isU32 gs) : exL high gs = lvlD (useI high) :: chF (exG gs).length (exG gs) := by
  unfold exL
  rw [if_neg (fun h => by have := hz 0 h; omega)]
theorem exL_rest {high : Bool} {gs : List Int} (hz : isU32 gs) : (exL high gs).flatMap BD.ts = exG gs := by
  rw [exG_flat hz, List.flatMap_cons, chF_flat _ _ (fun z h => (exG_in hz z h).2) (Nat.le_refl _)]
  rfl
theorem exL_len {high : Bool} {gs : List Int} (hz : isU32 gs) (hn : gs.length ≤ 60000) : (exL high gs).length ≤ 300 := by
  rw [exG_flat hz, List.length_cons]
  have h1 := chF_few (exG gs).length (exG gs) (fun z h => (exG_in hz z h).2)
  have h2 := exG_len gs
  omega
theorem exL_ours {high : Bool} {gs : List Int} (hz : isU32 gs) : ∀ d ∈ exL high gs, OurB d ∧ ∀ z ∈ d.ts, 1 ≤ z ∧ z ≤ 65535 := by
  intro d hd
  rw [exG_flat hz, List.mem_cons] at hd
  rcases hd with rfl | hd
  · refine ⟨.inl ⟨rfl, ?_, ?_, rfl⟩, nofun⟩
    · show 0 ≤ useI high
      unfold useI; split <;> omega
    · show useI high ≤ 1
      unfold useI; split <;> omega
  · have := chF_ours _ _ (exG_in hz) d hd
    exact ⟨this.1, this.2.2⟩
theorem exL_tape {high : Bool} {gs : List Int} (hz : isU32 gs) (hn : gs.length ≤ 60000) : Tape (exL high gs) (!high) := by
  refine ⟨fun d hd => (exL_ours hz d hd).1, exL_len hz hn, fun _ => ?_, fun i h1 h2 => ?_, fun d hd => (exL_ours hz d hd).2⟩
  · rw [exG_flat hz]
    exact ⟨rfl, by show (useI high != 0) = _; cases high <;> rfl, rfl⟩
  · rw [exG_flat hz] at h2 ⊢
    obtain ⟨i, rfl⟩ : ∃ q, i = q + 1 := ⟨i - 1, by omega⟩
    rw [List.length_cons] at h2
    show ((chF (exG gs).length (exG gs)).getD i default).i0 = 19
    rw [List.getD_eq_getElem?_getD, List.getElem?_eq_getElem (by omega)]
    exact (chF_ours _ _ (exG_in hz) _ (List.getElem_mem (by omega))).2.1
theorem exL_pos {high : Bool} {gs : List Int} (hz : isU32 gs) : Pos (exL high gs) (!high) { dk0 with pl := true } ws0 [] 0 (exG gs) (!high) := by
  refine ⟨rfl, Nat.zero_le _, rfl, rfl, ?_, rfl, fun h => by cases h⟩
  rw [List.drop_zero, exL_rest hz]
  rfl
end Tl
end Go.Proofs.YtnlaedfnifimkaaGreat
