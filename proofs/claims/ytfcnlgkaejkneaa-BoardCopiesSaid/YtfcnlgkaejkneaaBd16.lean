/- Layer 11: the document's Out. -/
import Derived.Test.YtfcnlgkaejkneaaBd15
namespace Go.Proofs.Ytfcnlgkaejkneaa
open Go.RowKit

theorem DcAt.put {w : World} {base g : Nat} {b b' : Bd} {ph : Int} {zs : List Int} {al : List ActD} {es : List Int} {D A E : Value} (h : DcAt w base g b ph zs al es D A E) {i : Nat} {v : Value} (e : (dcC b ph D A E).setIfInBounds i v = dcC b' ph D A E) : DcAt (w.setCell ⟨g, i, none⟩ v) base g b' ph zs al es D A E :=
  ⟨h.bd.put e, h.down.kept (grown_cell w g i v) (.inr (own_blk_ne h.down h.bd (by decide))), h.acts.kept (grown_cell w g i v) (.inr (own_blk_ne h.acts h.bd (by decide))), h.edges.kept (grown_cell w g i v) (.inr (own_blk_ne h.edges h.bd (by decide)))⟩
/-- what goes out leaves on the document's side -/
def DOutO (w w' : World) (x : Ending) (base g : Nat) (b : Bd) (ph : Int) (zs : List Int) (al : List ActD) (es : List Int) (D A E : Value) : Prop :=
  ∃ u A' E', x = .returned u ∧ DcAt w' base g b ph zs al es D A' E' ∧ Ch w w' (BdBlk g A E) ∧ NewBlk w A A' ∧ NewBlk w E E'
set_option maxRecDepth 100000 in
set_option maxHeartbeats 4000000 in
theorem dOut_odd (w : World) (g : Nat) (b : Bd) (ph : Int) (D A E : Value) (port v : Int) (p0 : 0 ≤ port) (p1 : port ≤ 65535) (ho : port % 2 = 1) (h : DcIs w g b ph D A E) : Calls Try.prog 39 #[.pointer (some ⟨g, 0, none⟩), .int .u16 port, .int .u8 v] w fun x w' => (∃ u, x = .returned u) ∧ Below w.heap.size w w' := by
  have cf := h.at_ (i := 0) (by decide) dc_flat
  have htm : port.tmod 2 = 1 := by rw [Int.tmod_eq_emod_of_nonneg p0, ho]
  clear h
  go_enter Try.func39, Try.ntmps39
  go_wp2
  refine bodyPost_ret (v := .tuple #[]) (results_none rfl _ _ _) rfl ?_
  exact ⟨⟨_, rfl⟩, Below.refl _ _⟩
set_option maxRecDepth 100000 in
set_option maxHeartbeats 8000000 in
theorem dOut_even (w : World) (base g : Nat) (b : Bd) (ph : Int) (zs : List Int) (al : List ActD) (es : List Int) (D A E : Value) (port v : Int) (p0 : 0 ≤ port) (p1 : port ≤ 65535) (v0 : 0 ≤ v) (v1 : v ≤ 255) (he : port % 2 = 0) (h : DcAt w base g b ph zs al es D A E) (hn : al.length < 1000000) (hm : es.length < 1000000) (hb : base ≤ w.heap.size) :
    Calls Try.prog 39 #[.pointer (some ⟨g, 0, none⟩), .int .u16 port, .int .u8 v] w fun x w' => DOutO w w' x base g (outB b v) ph zs (logS b al true port v) (edgeS b es v) D A E := by
  have cf := h.bd.at_ (i := 0) (by decide) dc_flat
  have hov := dOver_any w g b ph _ A E h.bd
  have htm : port.tmod 2 = 0 := by rw [Int.tmod_eq_emod_of_nonneg p0, he]
  have hw8 : IntKind.u8.wrap (v % 8) = v % 8 := by simp [IntKind.wrap, IntKind.bits, IntKind.signed]; omega
  obtain ⟨S, hS⟩ : ∃ S, (v / 16 % 2 == 1) = S := ⟨_, rfl⟩
  obtain ⟨Mb, hM⟩ : ∃ Mb, (v / 8 % 2 == 1) = Mb := ⟨_, rfl⟩
  obtain ⟨BB, hBB⟩ : ∃ BB, BB = outB b v := ⟨_, rfl⟩
  obtain ⟨ES, hES⟩ : ∃ ES, ES = edgeS b es v := ⟨_, rfl⟩
  have HB := Lib.hid (show BB = { b with bo := v % 8, spk := S, mic := Mb } ∧ ES = if Mb = b.mic then es else es ++ [b.t] from by rw [hBB, hES]; unfold outB edgeS; rw [← hS, ← hM]; exact ⟨rfl, rfl⟩)
  rw [← hBB, ← hES]
  clear hBB hES
  have HH := Lib.hid h
  clear h he
  go_enter Try.func39, Try.ntmps39
  go_wp2_with fail
  refine hov.mono ?_
  rintro x w1 ⟨rfl, hb1⟩
  clear hov cf htm
  have h1 := HH.out.kept hb1
  have hs1 := hb1.size
  have H1 := Lib.hid (And.intro h1 hb1)
  have c47 := h1.bd.at_ (i := 65547) (by decide) dc_bo
  have f47 := h1.bd.fz 65547
  have c49 := h1.bd.at_ (i := 65549) (by decide) dc_spk
  have f49 := h1.bd.fz 65549
  clear h1 hb1
  go_upto_region 6 with fail
  have HZ := Lib.hid (show DcAt ((w1.setCell ⟨g, 65547, none⟩ (.int .u8 (v % 8))).setCell ⟨g, 65549, none⟩ (.bool S)) base g { b with bo := v % 8, spk := S } ph zs al es D A E ∧ Ch w ((w1.setCell ⟨g, 65547, none⟩ (.int .u8 (v % 8))).setCell ⟨g, 65549, none⟩ (.bool S)) (fun k => k = g) ∧ w.heap.size ≤ ((w1.setCell ⟨g, 65547, none⟩ (.int .u8 (v % 8))).setCell ⟨g, 65549, none⟩ (.bool S)).heap.size from ⟨(H1.out.1.put (dset_bo _)).put (dset_spk _), (Ch.of_below (φ := fun _ => False) H1.out.2).trans (Ch.of_grown (φ := fun k => k = g) (grown_trans (grown_cell _ _ _ _) (grown_cell _ _ _ _)) (fun k e => by injection e with e; exact e.symm)) (fun _ e => e.elim) (fun _ _ e => e), by simp [World.setCell]; omega⟩)
  clear c47 f47 c49 f49 H1 HH hs1
  generalize ((w1.setCell ⟨g, 65547, none⟩ (.int .u8 (v % 8))).setCell ⟨g, 65549, none⟩ (.bool S)) = w2 at *
  clear hS
  have c48 := HZ.out.1.bd.at_ (i := 65548) (by decide) dc_mic
  cases Mb <;> cases hbm : b.mic
  · have cm : w2.cell? ⟨g, 65548, none⟩ = some (.bool false) := by rw [← hbm]; exact c48
    have HBM := Lib.hid hbm
    clear c48 hbm
    have HES := Lib.hid (show BB = _ ∧ ES = es from ⟨HB.out.1, HB.out.2.trans (by rw [HBM.out]; rfl)⟩)
    have HY := Lib.hid (show DcAt w2 base g { b with bo := v % 8, spk := S } ph zs al es D A E ∧ Ch w w2 (BdBlk g A E) ∧ NewBlk w E E from ⟨HZ.out.1, HZ.out.2.1.trans (Ch.refl w2 (fun _ => False)) (fun _ e => .inl e) (fun _ _ e => e.elim), .inl rfl⟩)
    clear HZ
    have hw2 := HY.out.2.1.size
    have m48 := HY.out.1.bd.at_ (i := 65548) (by decide) dc_mic
    have g48 := HY.out.1.bd.fz 65548
    go_upto_region 9 with fail
    have HU := Lib.hid (show DcAt (w2.setCell ⟨g, 65548, none⟩ (.bool false)) base g { b with bo := v % 8, spk := S, mic := false } ph zs al es D A E ∧ Ch w (w2.setCell ⟨g, 65548, none⟩ (.bool false)) (BdBlk g A E) ∧ NewBlk w E E ∧ w.heap.size ≤ (w2.setCell ⟨g, 65548, none⟩ (.bool false)).heap.size from ⟨HY.out.1.put (dset_mic _), HY.out.2.1.trans (Ch.of_grown (φ := fun k => k = g) (grown_cell _ _ _ _) (fun k e => by injection e with e; exact e.symm)) (fun _ e => e) (fun _ _ e => .inl e), HY.out.2.2, by simp [World.setCell]; omega⟩)
    clear m48 g48 HY hw2
    generalize (w2.setCell ⟨g, 65548, none⟩ (.bool false)) = w5 at *
    have cl := HU.out.1.bd.at_ (i := 65542) (by decide) dc_log
    cases hlog : b.log
    · have cl2 : w5.cell? ⟨g, 65542, none⟩ = some (.bool false) := by rw [← hlog]; exact cl
      have HL := Lib.hid hlog
      clear cl hlog
      go_wp2
      go_end0
      exact ⟨_, A, E, rfl, by rw [HES.out.1, HES.out.2]; unfold logS; rw [if_neg (by rw [HL.out]; decide)]; exact HU.out.1, HU.out.2.1, .inl rfl, HU.out.2.2.1⟩
    · have cl2 : w5.cell? ⟨g, 65542, none⟩ = some (.bool true) := by rw [← hlog]; exact cl
      have HL := Lib.hid hlog
      clear cl hlog
      obtain ⟨AA, an, ac, hAs⟩ : ∃ x n c, A = .slice x n c := by
        rcases HU.out.1.acts.2 with ⟨e, _⟩ | ⟨g', cap, cur, e, _⟩
        · exact ⟨none, 0, 0, e⟩
        · exact ⟨_, _, cap, e⟩
      subst hAs
      obtain ⟨j1, kj, ky0, ky1, ky2⟩ := info_parts actInfo
      have cA := HU.out.1.bd.at_ (i := 65550) (by decide) dc_A
      have ct : w5.cell? ⟨g, 65537, none⟩ = some (.int .u64 b.t) := HU.out.1.bd.at_ (i := 65537) (by decide) dc_t
      have HNA := Lib.hid (And.intro (own_blk_ne HU.out.1.acts HU.out.1.bd (by decide)) (And.intro (own_types_ne HU.out.1.acts HU.out.1.edges (by decide)) (own_types_ne HU.out.1.acts HU.out.1.down (by decide))))
      go_upto_region 10 with fail
      clear cl2
      refine wp_region_held_drew (S := fun w' => w'.cell? ⟨g, 65537, none⟩ = some (.int .u64 b.t)) (by kernel_rfl) ?_ (fun hHeld => ?_)
      · exact ct
      have HW := Lib.hid (show DcAt w5.drew base g { b with bo := v % 8, spk := S, mic := false } ph zs al es D (.slice AA an ac) E ∧ Ch w w5.drew (BdBlk g (.slice AA an ac) E) ∧ w.heap.size ≤ w5.drew.heap.size from ⟨⟨HU.out.1.bd, HU.out.1.down, HU.out.1.acts, HU.out.1.edges⟩, ⟨HU.out.2.1.os, HU.out.2.1.tape, HU.out.2.1.output, HU.out.2.1.size, HU.out.2.1.block⟩, HU.out.2.2.2⟩)
      have HNB := Lib.hid HU.out.2.2.1
      have cAW : w5.drew.cell? ⟨g, 65550, none⟩ = some (.slice AA an ac) := cA
      have ctW : w5.drew.cell? ⟨g, 65537, none⟩ = some (.int .u64 b.t) := ct
      clear cA ct HU
      generalize w5.drew = W2 at *
      refine wpAnyH_take (i := 0) (oi := _) (v := ?_) (by simp only [List.getElem?_toArray, List.getElem?_cons_succ, List.getElem?_cons_zero]; rfl) (by kernel_rfl) (by kernel_rfl) (by kernel_rfl) (by intro _ _ _ h; exact h) (Or.inl ⟨by rfl, ?_⟩) (by assumption) ?_
      rotate_left
      · intro w hSw
        try dsimp only at hSw
        go_simp
        try with_reducible rfl
      try simp only [Act.put, List.setIfInBounds_toArray, List.set_cons_zero, List.set_cons_succ]
      refine wpAnyH_take (i := 1) (oi := _) (v := ?_) (by simp only [List.getElem?_toArray, List.getElem?_cons_succ, List.getElem?_cons_zero]; rfl) (by kernel_rfl) (by kernel_rfl) (by kernel_rfl) (by intro _ _ _ h; exact h) (Or.inl ⟨by rfl, ?_⟩) (by assumption) ?_
      rotate_left
      · intro w hSw
        try dsimp only at hSw
        go_simp
        try with_reducible rfl
      try simp only [Act.put, List.setIfInBounds_toArray, List.set_cons_zero, List.set_cons_succ]
      refine wpAnyH_take (i := 2) (oi := _) (v := ?_) (by simp only [List.getElem?_toArray, List.getElem?_cons_succ, List.getElem?_cons_zero]; rfl) (by kernel_rfl) (by kernel_rfl) (by kernel_rfl) (by intro _ _ _ h; exact h) (Or.inl ⟨by rfl, ?_⟩) (by assumption) ?_
      rotate_left
      · intro w hSw
        try dsimp only at hSw
        go_simp
        try with_reducible rfl
      try simp only [Act.put, List.setIfInBounds_toArray, List.set_cons_zero, List.set_cons_succ]
      refine wpAnyH_take (i := 3) (oi := _) (v := ?_) (by simp only [List.getElem?_toArray, List.getElem?_cons_succ, List.getElem?_cons_zero]; rfl) (by kernel_rfl) (by kernel_rfl) (by kernel_rfl) (by intro _ _ _ h; exact h) (Or.inl ⟨by rfl, ?_⟩) (by assumption) ?_
      rotate_left
      · intro w hSw
        try dsimp only at hSw
        go_simp
        try with_reducible rfl
      try simp only [Act.put, List.setIfInBounds_toArray, List.set_cons_zero, List.set_cons_succ]
      refine wpAnyH_take (i := 5) (oi := _) (v := ?_) (by simp only [List.getElem?_toArray, List.getElem?_cons_succ, List.getElem?_cons_zero]; rfl) (by kernel_rfl) (by kernel_rfl) (by kernel_rfl) (by intro _ _ _ h; exact h) (Or.inl ⟨by rfl, ?_⟩) (by assumption) ?_
      rotate_left
      · intro w hSw
        try dsimp only at hSw
        go_simp
        try with_reducible rfl
      try simp only [Act.put, List.setIfInBounds_toArray, List.set_cons_zero, List.set_cons_succ]
      refine wpAnyH_take (i := 6) (oi := _) (v := ?_) (by simp only [List.getElem?_toArray, List.getElem?_cons_succ, List.getElem?_cons_zero]; rfl) (by kernel_rfl) (by kernel_rfl) (by kernel_rfl) (by intro _ _ _ h; exact h) (Or.inl ⟨by rfl, ?_⟩) (by assumption) ?_
      rotate_left
      · intro w hSw
        try dsimp only at hSw
        go_simp
        try with_reducible rfl
      try simp only [Act.put, List.setIfInBounds_toArray, List.set_cons_zero, List.set_cons_succ]
      refine wpAnyH_take (i := 7) (oi := _) (v := ?_) (by simp only [List.getElem?_toArray, List.getElem?_cons_succ, List.getElem?_cons_zero]; rfl) (by kernel_rfl) (by kernel_rfl) (by kernel_rfl) (by intro _ _ _ h; exact h) (Or.inl ⟨by rfl, ?_⟩) (by assumption) ?_
      rotate_left
      · intro w hSw
        try dsimp only at hSw
        go_simp
        try with_reducible rfl
      try simp only [Act.put, List.setIfInBounds_toArray, List.set_cons_zero, List.set_cons_succ]
      refine wpAnyH_take (i := 8) (oi := _) (v := ?_) (by simp only [List.getElem?_toArray, List.getElem?_cons_succ, List.getElem?_cons_zero]; rfl) (by kernel_rfl) (by kernel_rfl) (by kernel_rfl) (by intro _ _ _ h; exact h) (Or.inl ⟨by rfl, ?_⟩) (by assumption) ?_
      rotate_left
      · intro w hSw
        try dsimp only at hSw
        go_simp
        try with_reducible rfl
      try simp only [Act.put, List.setIfInBounds_toArray, List.set_cons_zero, List.set_cons_succ]
      refine wpAnyH_take (i := 9) (oi := _) (v := ?_) (by simp only [List.getElem?_toArray, List.getElem?_cons_succ, List.getElem?_cons_zero]; rfl) (by kernel_rfl) (by kernel_rfl) (by kernel_rfl) (by intro _ _ _ h; exact h) (Or.inl ⟨by rfl, ?_⟩) (by assumption) ?_
      rotate_left
      · intro w hSw
        try dsimp only at hSw
        go_simp
        try with_reducible rfl
      try simp only [Act.put, List.setIfInBounds_toArray, List.set_cons_zero, List.set_cons_succ]
      refine wpAnyH_take (i := 10) (oi := _) (v := ?_) (by simp only [List.getElem?_toArray, List.getElem?_cons_succ, List.getElem?_cons_zero]; rfl) (by kernel_rfl) (by kernel_rfl) (by kernel_rfl) (by intro _ _ _ h; exact h) (Or.inl ⟨by rfl, ?_⟩) (by assumption) ?_
      rotate_left
      · intro w hSw
        try dsimp only at hSw
        go_simp
        try with_reducible rfl
      try simp only [Act.put, List.setIfInBounds_toArray, List.set_cons_zero, List.set_cons_succ]
      refine wpAnyH_take (i := 11) (oi := _) (v := ?_) (by simp only [List.getElem?_toArray, List.getElem?_cons_succ, List.getElem?_cons_zero]; rfl) (by kernel_rfl) (by kernel_rfl) (by kernel_rfl) (by intro _ _ _ h; exact h) (Or.inl ⟨by rfl, ?_⟩) (by assumption) ?_
      rotate_left
      · intro w hSw
        try dsimp only at hSw
        go_simp
        try with_reducible rfl
      try simp only [Act.put, List.setIfInBounds_toArray, List.set_cons_zero, List.set_cons_succ]
      refine wpAnyH_ready (rs := [4, 12]) (by kernel_rfl) (by simp) ?_
      refine AllReadyH.cons (o := _) (by simp only [List.getElem?_toArray, List.getElem?_cons_succ, List.getElem?_cons_zero]; rfl) (fun K hK => ?_) (AllReadyH.cons (o := _) (by simp only [List.getElem?_toArray, List.getElem?_cons_succ, List.getElem?_cons_zero]; rfl) (fun K hK => ?_) AllReadyH.nil)
      · go_simp
        refine hK.out _ _ ?_ (fun hHeld => ?_)
        · exact ctW
        clear hK K
        try simp only [Act.put, List.setIfInBounds_toArray, List.set_cons_zero, List.set_cons_succ]
        refine wpAnyH_ready (rs := [12]) (by kernel_rfl) (by simp) ?_
        refine AllReadyH.cons (o := _) (by simp only [List.getElem?_toArray, List.getElem?_cons_succ, List.getElem?_cons_zero]; rfl) (fun K hK => ?_) AllReadyH.nil
        have ctA : (W2.alloc (.cells #[.int .u64 b.t, .bool true, .int .u16 port, .int .u8 v] 72)).cell? ⟨g, 65537, none⟩ = some (.int .u64 b.t) := alloc_of ctW
        have cAA : (W2.alloc (.cells #[.int .u64 b.t, .bool true, .int .u16 port, .int .u8 v] 72)).cell? ⟨g, 65550, none⟩ = some (.slice AA an ac) := alloc_of cAW
        go_simp
        refine hK.out _ _ ?_ (fun hHeld => ?_)
        · exact ctA
        clear hK K
        try simp only [Act.put, List.setIfInBounds_toArray, List.set_cons_zero, List.set_cons_succ]
        refine wpAnyH_ready (rs := [13]) (by kernel_rfl) (by simp) ?_
        refine AllReadyH.cons (o := _) (by simp only [List.getElem?_toArray, List.getElem?_cons_succ, List.getElem?_cons_zero]; rfl) (fun K hK => ?_) AllReadyH.nil
        have HC := Lib.hid (show Reads (W2.alloc (.cells #[.int .u64 b.t, .bool true, .int .u16 port, .int .u8 v] 72)) (W2.alloc (.cells #[.int .u64 b.t, .bool true, .int .u16 port, .int .u8 v] 72)).heap.size 4 (some ⟨W2.heap.size, 0, none⟩) 1 [.int .u64 b.t, .bool true, .int .u16 port, .int .u8 v] ∧ al.length + 1 ≤ maxLen ∧ (al.length + 1) * 16 ≤ 140737488355328 ∧ base ≤ (W2.alloc (.cells #[.int .u64 b.t, .bool true, .int .u16 port, .int .u8 v] 72)).heap.size from ⟨⟨rfl, fun _ => ⟨_, rfl, by simp, lit_cells W2 [.int .u64 b.t, .bool true, .int .u16 port, .int .u8 v] 72⟩⟩, by unfold maxLen; omega, by omega, by have := HW.out.2.2; simp; omega⟩)
        have hown9 := HW.out.1.acts.alloc (.cells #[.int .u64 b.t, .bool true, .int .u16 port, .int .u8 v] 72)
        refine step_append_any _ (by rfl) _ _ _ (by rfl) base 72 j1 (.agg #[.int .u64 0, .bool false, .int .u16 0, .int .u8 0]) 4 16 Try.underlying33 kj ky0 ky1 ky2 rfl (by decide) (.slice AA an ac) al.length _ (by rfl) hown9 _ (some ⟨W2.heap.size, 0, none⟩) 1 1 [.int .u64 b.t, .bool true, .int .u16 port, .int .u8 v] (by rfl) HC.out.1 (by simp [Value.oneCell']) HC.out.2.1 HC.out.2.2.1 HC.out.2.2.2 ?_
        intro v7 w7 own3 hg3 hv3
        have hv9 := hv3
        obtain ⟨A7, c7, rfl⟩ := own_slice own3
        have hne3 : (some g : Option Nat) ≠ (Value.slice AA an ac).ownBlock := fun e => HNA.out.1 e.symm
        have hB3 : DcIs w7 g { b with bo := v % 8, spk := S, mic := false } ph D (.slice AA an ac) E := Blk.grown (Blk.alloc HW.out.1.bd _) hg3 hne3
        have hE3 := (HW.out.1.edges.alloc (.cells #[.int .u64 b.t, .bool true, .int .u16 port, .int .u8 v] 72)).kept hg3 (by rcases he : Value.ownBlock E with _ | k; exact .inl rfl; exact .inr (fun e => HNA.out.2.1 k e.symm he))
        have hD3 := (HW.out.1.down.alloc (.cells #[.int .u64 b.t, .bool true, .int .u16 port, .int .u8 v] 72)).kept hg3 (by rcases he : D.ownBlock with _ | k; exact .inl rfl; exact .inr (fun e => HNA.out.2.2 k e.symm he))
        have hch3 : Ch w w7 (BdBlk g (.slice AA an ac) E) := (HW.out.2.1.trans (Ch.of_below (φ := fun _ => False) (w := W2) ((Below.refl _ _).alloc (Nat.le_refl _) _)) (χ := BdBlk g (.slice AA an ac) E) (fun _ h => h) (fun _ _ h => h.elim)).trans (Ch.of_grown (φ := fun k => (Value.slice AA an ac).ownBlock = some k) hg3 (fun k e => e)) (fun _ h => h) (fun _ _ h => .inr (.inl h))
        have ct3 : w7.cell? ⟨g, 65537, none⟩ = some (.int .u64 b.t) := hB3.at_ (by decide) dc_t
        refine hK.out _ _ ?_ (fun hHeld => ?_)
        · exact ct3
        clear hK K
        try simp only [Act.put, List.setIfInBounds_toArray, List.set_cons_zero, List.set_cons_succ]
        have H7 := Lib.hid (show DcIs w7 g { b with bo := v % 8, spk := S, mic := false } ph D (.slice AA an ac) E ∧ w7.ownsRow base 72 4 (.slice A7 (al.length + 1) c7) (al.length + 1) (actV al ++ [.int .u64 b.t, .bool true, .int .u16 port, .int .u8 v]) ∧ w7.ownsRow base 32 1 E (es).length ((es).map (Value.int .u64)) ∧ w7.ownsRow base 3 1 D zs.length (zs.map (Value.int .i64)) ∧ Ch w w7 (BdBlk g (.slice AA an ac) E) ∧ NewBlk w (.slice AA an ac) (.slice A7 (al.length + 1) c7) from ⟨hB3, own3, hE3, hD3, hch3, by
          rcases hv9 with h | h
          · exact .inl h
          · exact .inr ⟨_, h, by have := HW.out.2.2; simp; omega⟩⟩)
        clear own3 hg3 hv3 hv9 hB3 hE3 hD3 hch3 hown9 hne3
        have dA : w7.cell? ⟨g, 65550, none⟩ = some (.slice AA an ac) := H7.out.1.at_ (by decide) dc_A
        have eA : w7.frozen? ⟨g, 65550, none⟩ = false := H7.out.1.fz _
        refine wpAnyH_take (i := 14) (oi := _) (v := ?_) (by simp only [List.getElem?_toArray, List.getElem?_cons_succ, List.getElem?_cons_zero]; rfl) (by kernel_rfl) (by kernel_rfl) (by kernel_rfl) (by intro _ _ _ h; exact h) (Or.inl ⟨by rfl, ?_⟩) (by assumption) ?_
        rotate_left
        · intro w hSw
          try dsimp only at hSw
          go_simp
          try with_reducible rfl
        try simp only [Act.put, List.setIfInBounds_toArray, List.set_cons_zero, List.set_cons_succ]
        refine wpAnyH_take (i := 15) (oi := _) (v := ?_) (by simp only [List.getElem?_toArray, List.getElem?_cons_succ, List.getElem?_cons_zero]; rfl) (by kernel_rfl) (by kernel_rfl) (by kernel_rfl) (by intro _ _ _ h; exact h) (Or.inl ⟨by rfl, ?_⟩) (by assumption) ?_
        rotate_left
        · intro w hSw
          try dsimp only at hSw
          go_simp
          try with_reducible rfl
        try simp only [Act.put, List.setIfInBounds_toArray, List.set_cons_zero, List.set_cons_succ]
        refine wpAnyH_ready (rs := [16]) (by kernel_rfl) (by simp) ?_
        refine AllReadyH.cons (o := _) (by simp only [List.getElem?_toArray, List.getElem?_cons_succ, List.getElem?_cons_zero]; rfl) (fun K hK => ?_) AllReadyH.nil
        go_simp
        refine hK.out _ _ ?_ (fun hHeld => ?_)
        · exact (World.cell?_setCell_other _ _ _ _ (by intro e; injection e with _ e; exact absurd e (by decide))).trans ct3
        clear hK K
        try simp only [Act.put, List.setIfInBounds_toArray, List.set_cons_zero, List.set_cons_succ]
        refine wpAnyH_done (by kernel_rfl) ?_ _
        clear dA eA ct3
        have hal := own_blk_ne H7.out.2.1 H7.out.1 (by decide)
        have hel := own_blk_ne H7.out.2.2.1 H7.out.1 (by decide)
        have hdl := own_blk_ne H7.out.2.2.2.1 H7.out.1 (by decide)
        have hG := grown_cell w7 g 65550 (.slice A7 (al.length + 1) c7)
        have HX := Lib.hid (show DcAt (w7.setCell ⟨g, 65550, none⟩ (.slice A7 (al.length + 1) c7)) base g { b with bo := v % 8, spk := S, mic := false } ph zs (al ++ [⟨b.t, true, port, v⟩]) (es) D (.slice A7 (al.length + 1) c7) E ∧ Ch w (w7.setCell ⟨g, 65550, none⟩ (.slice A7 (al.length + 1) c7)) (BdBlk g (.slice AA an ac) E) from ⟨⟨H7.out.1.put (dset_A _), H7.out.2.2.2.1.kept hG (.inr hdl), by rw [actV_snoc, List.length_append]; exact H7.out.2.1.kept hG (.inr hal), H7.out.2.2.1.kept hG (.inr hel)⟩, H7.out.2.2.2.2.1.trans (Ch.of_grown (φ := fun k => k = g) hG (fun k e => by injection e with e; exact e.symm)) (fun _ h => h) (fun _ _ h => .inl h)⟩)
        clear hG hal hel hdl
        generalize (w7.setCell ⟨g, 65550, none⟩ (.slice A7 (al.length + 1) c7)) = w8 at *
        go_wp2
        go_end0
        exact ⟨_, _, _, rfl, by rw [HES.out.1, HES.out.2]; unfold logS; rw [if_pos HL.out]; exact HX.out.1, HX.out.2, H7.out.2.2.2.2.2, HNB.out⟩
      · have ctA : (W2.alloc (.cells #[.int .u64 b.t, .bool true, .int .u16 port, .int .u8 v] 72)).cell? ⟨g, 65537, none⟩ = some (.int .u64 b.t) := alloc_of ctW
        have cAA : (W2.alloc (.cells #[.int .u64 b.t, .bool true, .int .u16 port, .int .u8 v] 72)).cell? ⟨g, 65550, none⟩ = some (.slice AA an ac) := alloc_of cAW
        go_simp
        refine hK.out _ _ ?_ (fun hHeld => ?_)
        · exact ctA
        clear hK K
        try simp only [Act.put, List.setIfInBounds_toArray, List.set_cons_zero, List.set_cons_succ]
        refine wpAnyH_ready (rs := [4]) (by kernel_rfl) (by simp) ?_
        refine AllReadyH.cons (o := _) (by simp only [List.getElem?_toArray, List.getElem?_cons_succ, List.getElem?_cons_zero]; rfl) (fun K hK => ?_) AllReadyH.nil
        go_simp
        refine hK.out _ _ ?_ (fun hHeld => ?_)
        · exact ctA
        clear hK K
        try simp only [Act.put, List.setIfInBounds_toArray, List.set_cons_zero, List.set_cons_succ]
        refine wpAnyH_ready (rs := [13]) (by kernel_rfl) (by simp) ?_
        refine AllReadyH.cons (o := _) (by simp only [List.getElem?_toArray, List.getElem?_cons_succ, List.getElem?_cons_zero]; rfl) (fun K hK => ?_) AllReadyH.nil
        have HC := Lib.hid (show Reads (W2.alloc (.cells #[.int .u64 b.t, .bool true, .int .u16 port, .int .u8 v] 72)) (W2.alloc (.cells #[.int .u64 b.t, .bool true, .int .u16 port, .int .u8 v] 72)).heap.size 4 (some ⟨W2.heap.size, 0, none⟩) 1 [.int .u64 b.t, .bool true, .int .u16 port, .int .u8 v] ∧ al.length + 1 ≤ maxLen ∧ (al.length + 1) * 16 ≤ 140737488355328 ∧ base ≤ (W2.alloc (.cells #[.int .u64 b.t, .bool true, .int .u16 port, .int .u8 v] 72)).heap.size from ⟨⟨rfl, fun _ => ⟨_, rfl, by simp, lit_cells W2 [.int .u64 b.t, .bool true, .int .u16 port, .int .u8 v] 72⟩⟩, by unfold maxLen; omega, by omega, by have := HW.out.2.2; simp; omega⟩)
        have hown9 := HW.out.1.acts.alloc (.cells #[.int .u64 b.t, .bool true, .int .u16 port, .int .u8 v] 72)
        refine step_append_any _ (by rfl) _ _ _ (by rfl) base 72 j1 (.agg #[.int .u64 0, .bool false, .int .u16 0, .int .u8 0]) 4 16 Try.underlying33 kj ky0 ky1 ky2 rfl (by decide) (.slice AA an ac) al.length _ (by rfl) hown9 _ (some ⟨W2.heap.size, 0, none⟩) 1 1 [.int .u64 b.t, .bool true, .int .u16 port, .int .u8 v] (by rfl) HC.out.1 (by simp [Value.oneCell']) HC.out.2.1 HC.out.2.2.1 HC.out.2.2.2 ?_
        intro v7 w7 own3 hg3 hv3
        have hv9 := hv3
        obtain ⟨A7, c7, rfl⟩ := own_slice own3
        have hne3 : (some g : Option Nat) ≠ (Value.slice AA an ac).ownBlock := fun e => HNA.out.1 e.symm
        have hB3 : DcIs w7 g { b with bo := v % 8, spk := S, mic := false } ph D (.slice AA an ac) E := Blk.grown (Blk.alloc HW.out.1.bd _) hg3 hne3
        have hE3 := (HW.out.1.edges.alloc (.cells #[.int .u64 b.t, .bool true, .int .u16 port, .int .u8 v] 72)).kept hg3 (by rcases he : Value.ownBlock E with _ | k; exact .inl rfl; exact .inr (fun e => HNA.out.2.1 k e.symm he))
        have hD3 := (HW.out.1.down.alloc (.cells #[.int .u64 b.t, .bool true, .int .u16 port, .int .u8 v] 72)).kept hg3 (by rcases he : D.ownBlock with _ | k; exact .inl rfl; exact .inr (fun e => HNA.out.2.2 k e.symm he))
        have hch3 : Ch w w7 (BdBlk g (.slice AA an ac) E) := (HW.out.2.1.trans (Ch.of_below (φ := fun _ => False) (w := W2) ((Below.refl _ _).alloc (Nat.le_refl _) _)) (χ := BdBlk g (.slice AA an ac) E) (fun _ h => h) (fun _ _ h => h.elim)).trans (Ch.of_grown (φ := fun k => (Value.slice AA an ac).ownBlock = some k) hg3 (fun k e => e)) (fun _ h => h) (fun _ _ h => .inr (.inl h))
        have ct3 : w7.cell? ⟨g, 65537, none⟩ = some (.int .u64 b.t) := hB3.at_ (by decide) dc_t
        refine hK.out _ _ ?_ (fun hHeld => ?_)
        · exact ct3
        clear hK K
        try simp only [Act.put, List.setIfInBounds_toArray, List.set_cons_zero, List.set_cons_succ]
        have H7 := Lib.hid (show DcIs w7 g { b with bo := v % 8, spk := S, mic := false } ph D (.slice AA an ac) E ∧ w7.ownsRow base 72 4 (.slice A7 (al.length + 1) c7) (al.length + 1) (actV al ++ [.int .u64 b.t, .bool true, .int .u16 port, .int .u8 v]) ∧ w7.ownsRow base 32 1 E (es).length ((es).map (Value.int .u64)) ∧ w7.ownsRow base 3 1 D zs.length (zs.map (Value.int .i64)) ∧ Ch w w7 (BdBlk g (.slice AA an ac) E) ∧ NewBlk w (.slice AA an ac) (.slice A7 (al.length + 1) c7) from ⟨hB3, own3, hE3, hD3, hch3, by
          rcases hv9 with h | h
          · exact .inl h
          · exact .inr ⟨_, h, by have := HW.out.2.2; simp; omega⟩⟩)
        clear own3 hg3 hv3 hv9 hB3 hE3 hD3 hch3 hown9 hne3
        have dA : w7.cell? ⟨g, 65550, none⟩ = some (.slice AA an ac) := H7.out.1.at_ (by decide) dc_A
        have eA : w7.frozen? ⟨g, 65550, none⟩ = false := H7.out.1.fz _
        refine wpAnyH_take (i := 14) (oi := _) (v := ?_) (by simp only [List.getElem?_toArray, List.getElem?_cons_succ, List.getElem?_cons_zero]; rfl) (by kernel_rfl) (by kernel_rfl) (by kernel_rfl) (by intro _ _ _ h; exact h) (Or.inl ⟨by rfl, ?_⟩) (by assumption) ?_
        rotate_left
        · intro w hSw
          try dsimp only at hSw
          go_simp
          try with_reducible rfl
        try simp only [Act.put, List.setIfInBounds_toArray, List.set_cons_zero, List.set_cons_succ]
        refine wpAnyH_take (i := 15) (oi := _) (v := ?_) (by simp only [List.getElem?_toArray, List.getElem?_cons_succ, List.getElem?_cons_zero]; rfl) (by kernel_rfl) (by kernel_rfl) (by kernel_rfl) (by intro _ _ _ h; exact h) (Or.inl ⟨by rfl, ?_⟩) (by assumption) ?_
        rotate_left
        · intro w hSw
          try dsimp only at hSw
          go_simp
          try with_reducible rfl
        try simp only [Act.put, List.setIfInBounds_toArray, List.set_cons_zero, List.set_cons_succ]
        refine wpAnyH_ready (rs := [16]) (by kernel_rfl) (by simp) ?_
        refine AllReadyH.cons (o := _) (by simp only [List.getElem?_toArray, List.getElem?_cons_succ, List.getElem?_cons_zero]; rfl) (fun K hK => ?_) AllReadyH.nil
        go_simp
        refine hK.out _ _ ?_ (fun hHeld => ?_)
        · exact (World.cell?_setCell_other _ _ _ _ (by intro e; injection e with _ e; exact absurd e (by decide))).trans ct3
        clear hK K
        try simp only [Act.put, List.setIfInBounds_toArray, List.set_cons_zero, List.set_cons_succ]
        refine wpAnyH_done (by kernel_rfl) ?_ _
        clear dA eA ct3
        have hal := own_blk_ne H7.out.2.1 H7.out.1 (by decide)
        have hel := own_blk_ne H7.out.2.2.1 H7.out.1 (by decide)
        have hdl := own_blk_ne H7.out.2.2.2.1 H7.out.1 (by decide)
        have hG := grown_cell w7 g 65550 (.slice A7 (al.length + 1) c7)
        have HX := Lib.hid (show DcAt (w7.setCell ⟨g, 65550, none⟩ (.slice A7 (al.length + 1) c7)) base g { b with bo := v % 8, spk := S, mic := false } ph zs (al ++ [⟨b.t, true, port, v⟩]) (es) D (.slice A7 (al.length + 1) c7) E ∧ Ch w (w7.setCell ⟨g, 65550, none⟩ (.slice A7 (al.length + 1) c7)) (BdBlk g (.slice AA an ac) E) from ⟨⟨H7.out.1.put (dset_A _), H7.out.2.2.2.1.kept hG (.inr hdl), by rw [actV_snoc, List.length_append]; exact H7.out.2.1.kept hG (.inr hal), H7.out.2.2.1.kept hG (.inr hel)⟩, H7.out.2.2.2.2.1.trans (Ch.of_grown (φ := fun k => k = g) hG (fun k e => by injection e with e; exact e.symm)) (fun _ h => h) (fun _ _ h => .inl h)⟩)
        clear hG hal hel hdl
        generalize (w7.setCell ⟨g, 65550, none⟩ (.slice A7 (al.length + 1) c7)) = w8 at *
        go_wp2
        go_end0
        exact ⟨_, _, _, rfl, by rw [HES.out.1, HES.out.2]; unfold logS; rw [if_pos HL.out]; exact HX.out.1, HX.out.2, H7.out.2.2.2.2.2, HNB.out⟩
  · have cm : w2.cell? ⟨g, 65548, none⟩ = some (.bool true) := by rw [← hbm]; exact c48
    have HBM := Lib.hid hbm
    clear c48 hbm
    have HES := Lib.hid (show BB = _ ∧ ES = es ++ [b.t] from ⟨HB.out.1, HB.out.2.trans (by rw [HBM.out]; rfl)⟩)
    obtain ⟨EA, en, ec, hEs⟩ : ∃ x n c, E = .slice x n c := by
      rcases HZ.out.1.edges.2 with ⟨e, _⟩ | ⟨g', cap, cur, e, _⟩
      · exact ⟨none, 0, 0, e⟩
      · exact ⟨_, _, cap, e⟩
    subst hEs
    obtain ⟨i1, hj, hy0, hy1, hy2⟩ := info_parts u64Info
    have cE := HZ.out.1.bd.at_ (i := 65551) (by decide) dc_E
    have ct : w2.cell? ⟨g, 65537, none⟩ = some (.int .u64 b.t) := HZ.out.1.bd.at_ (i := 65537) (by decide) dc_t
    have HNE := Lib.hid (And.intro (own_blk_ne HZ.out.1.edges HZ.out.1.bd (by decide)) (And.intro (own_types_ne HZ.out.1.edges HZ.out.1.acts (by decide)) (own_types_ne HZ.out.1.edges HZ.out.1.down (by decide))))
    go_upto_region 7 with fail
    clear cm
    refine wp_region_held_drew (S := fun w' => w'.cell? ⟨g, 65537, none⟩ = some (.int .u64 b.t)) (by kernel_rfl) ?_ (fun hHeld => ?_)
    · exact ct
    have HW := Lib.hid (show DcAt w2.drew base g { b with bo := v % 8, spk := S } ph zs al es D A (.slice EA en ec) ∧ Ch w w2.drew (fun k => k = g ∨ (Value.slice EA en ec).ownBlock = some k) ∧ w.heap.size ≤ w2.drew.heap.size from ⟨⟨HZ.out.1.bd, HZ.out.1.down, HZ.out.1.acts, HZ.out.1.edges⟩, ⟨HZ.out.2.1.os, HZ.out.2.1.tape, HZ.out.2.1.output, HZ.out.2.1.size, fun k hk hn => HZ.out.2.1.block k hk (fun e => hn (.inl e))⟩, HZ.out.2.2⟩)
    have cEW : w2.drew.cell? ⟨g, 65551, none⟩ = some (.slice EA en ec) := cE
    have ctW : w2.drew.cell? ⟨g, 65537, none⟩ = some (.int .u64 b.t) := ct
    clear cE ct HZ
    generalize w2.drew = W at *
    refine wpAnyH_take (i := 0) (oi := _) (v := ?_) (by simp only [List.getElem?_toArray, List.getElem?_cons_succ, List.getElem?_cons_zero]; rfl) (by kernel_rfl) (by kernel_rfl) (by kernel_rfl) (by intro _ _ _ h; exact h) (Or.inl ⟨by rfl, ?_⟩) (by assumption) ?_
    rotate_left
    · intro w hSw
      try dsimp only at hSw
      go_simp
      try with_reducible rfl
    try simp only [Act.put, List.setIfInBounds_toArray, List.set_cons_zero, List.set_cons_succ]
    refine wpAnyH_take (i := 1) (oi := _) (v := ?_) (by simp only [List.getElem?_toArray, List.getElem?_cons_succ, List.getElem?_cons_zero]; rfl) (by kernel_rfl) (by kernel_rfl) (by kernel_rfl) (by intro _ _ _ h; exact h) (Or.inl ⟨by rfl, ?_⟩) (by assumption) ?_
    rotate_left
    · intro w hSw
      try dsimp only at hSw
      go_simp
      try with_reducible rfl
    try simp only [Act.put, List.setIfInBounds_toArray, List.set_cons_zero, List.set_cons_succ]
    refine wpAnyH_take (i := 2) (oi := _) (v := ?_) (by simp only [List.getElem?_toArray, List.getElem?_cons_succ, List.getElem?_cons_zero]; rfl) (by kernel_rfl) (by kernel_rfl) (by kernel_rfl) (by intro _ _ _ h; exact h) (Or.inl ⟨by rfl, ?_⟩) (by assumption) ?_
    rotate_left
    · intro w hSw
      try dsimp only at hSw
      go_simp
      try with_reducible rfl
    try simp only [Act.put, List.setIfInBounds_toArray, List.set_cons_zero, List.set_cons_succ]
    refine wpAnyH_take (i := 3) (oi := _) (v := ?_) (by simp only [List.getElem?_toArray, List.getElem?_cons_succ, List.getElem?_cons_zero]; rfl) (by kernel_rfl) (by kernel_rfl) (by kernel_rfl) (by intro _ _ _ h; exact h) (Or.inl ⟨by rfl, ?_⟩) (by assumption) ?_
    rotate_left
    · intro w hSw
      try dsimp only at hSw
      go_simp
      try with_reducible rfl
    try simp only [Act.put, List.setIfInBounds_toArray, List.set_cons_zero, List.set_cons_succ]
    refine wpAnyH_take (i := 5) (oi := _) (v := ?_) (by simp only [List.getElem?_toArray, List.getElem?_cons_succ, List.getElem?_cons_zero]; rfl) (by kernel_rfl) (by kernel_rfl) (by kernel_rfl) (by intro _ _ _ h; exact h) (Or.inl ⟨by rfl, ?_⟩) (by assumption) ?_
    rotate_left
    · intro w hSw
      try dsimp only at hSw
      go_simp
      try with_reducible rfl
    try simp only [Act.put, List.setIfInBounds_toArray, List.set_cons_zero, List.set_cons_succ]
    refine wpAnyH_take (i := 6) (oi := _) (v := ?_) (by simp only [List.getElem?_toArray, List.getElem?_cons_succ, List.getElem?_cons_zero]; rfl) (by kernel_rfl) (by kernel_rfl) (by kernel_rfl) (by intro _ _ _ h; exact h) (Or.inl ⟨by rfl, ?_⟩) (by assumption) ?_
    rotate_left
    · intro w hSw
      try dsimp only at hSw
      go_simp
      try with_reducible rfl
    try simp only [Act.put, List.setIfInBounds_toArray, List.set_cons_zero, List.set_cons_succ]
    refine wpAnyH_take (i := 7) (oi := _) (v := ?_) (by simp only [List.getElem?_toArray, List.getElem?_cons_succ, List.getElem?_cons_zero]; rfl) (by kernel_rfl) (by kernel_rfl) (by kernel_rfl) (by intro _ _ _ h; exact h) (Or.inl ⟨by rfl, ?_⟩) (by assumption) ?_
    rotate_left
    · intro w hSw
      try dsimp only at hSw
      go_simp
      try with_reducible rfl
    try simp only [Act.put, List.setIfInBounds_toArray, List.set_cons_zero, List.set_cons_succ]
    refine wpAnyH_take (i := 8) (oi := _) (v := ?_) (by simp only [List.getElem?_toArray, List.getElem?_cons_succ, List.getElem?_cons_zero]; rfl) (by kernel_rfl) (by kernel_rfl) (by kernel_rfl) (by intro _ _ _ h; exact h) (Or.inl ⟨by rfl, ?_⟩) (by assumption) ?_
    rotate_left
    · intro w hSw
      try dsimp only at hSw
      go_simp
      try with_reducible rfl
    try simp only [Act.put, List.setIfInBounds_toArray, List.set_cons_zero, List.set_cons_succ]
    refine wpAnyH_ready (rs := [4, 9]) (by kernel_rfl) (by simp) ?_
    refine AllReadyH.cons (o := _) (by simp only [List.getElem?_toArray, List.getElem?_cons_succ, List.getElem?_cons_zero]; rfl) (fun K hK => ?_) (AllReadyH.cons (o := _) (by simp only [List.getElem?_toArray, List.getElem?_cons_succ, List.getElem?_cons_zero]; rfl) (fun K hK => ?_) AllReadyH.nil)
    · go_simp
      refine hK.out _ _ ?_ (fun hHeld => ?_)
      · exact ctW
      clear hK K
      try simp only [Act.put, List.setIfInBounds_toArray, List.set_cons_zero, List.set_cons_succ]
      refine wpAnyH_ready (rs := [9]) (by kernel_rfl) (by simp) ?_
      refine AllReadyH.cons (o := _) (by simp only [List.getElem?_toArray, List.getElem?_cons_succ, List.getElem?_cons_zero]; rfl) (fun K hK => ?_) AllReadyH.nil
      have ctA : (W.alloc (.cells #[.int .u64 b.t] 32)).cell? ⟨g, 65537, none⟩ = some (.int .u64 b.t) := alloc_of ctW
      have cEA : (W.alloc (.cells #[.int .u64 b.t] 32)).cell? ⟨g, 65551, none⟩ = some (.slice EA en ec) := alloc_of cEW
      go_simp
      refine hK.out _ _ ?_ (fun hHeld => ?_)
      · exact ctA
      clear hK K
      try simp only [Act.put, List.setIfInBounds_toArray, List.set_cons_zero, List.set_cons_succ]
      refine wpAnyH_ready (rs := [10]) (by kernel_rfl) (by simp) ?_
      refine AllReadyH.cons (o := _) (by simp only [List.getElem?_toArray, List.getElem?_cons_succ, List.getElem?_cons_zero]; rfl) (fun K hK => ?_) AllReadyH.nil
      have HC := Lib.hid (show Reads (W.alloc (.cells #[.int .u64 b.t] 32)) (W.alloc (.cells #[.int .u64 b.t] 32)).heap.size 1 (some ⟨W.heap.size, 0, none⟩) 1 [.int .u64 b.t] ∧ es.length + 1 ≤ maxLen ∧ (es.length + 1) * 8 ≤ 140737488355328 ∧ base ≤ (W.alloc (.cells #[.int .u64 b.t] 32)).heap.size from ⟨⟨rfl, fun _ => ⟨_, rfl, by simp, lit_cells W [.int .u64 b.t] 32⟩⟩, by unfold maxLen; omega, by omega, by have := HW.out.2.2; simp; omega⟩)
      have hown9 := HW.out.1.edges.alloc (.cells #[.int .u64 b.t] 32)
      refine step_append_any _ (by rfl) _ _ _ (by rfl) base 32 i1 (.int .u64 0) 1 8 Try.underlying34 hj hy0 hy1 hy2 rfl (by decide) (.slice EA en ec) es.length _ (by rfl) hown9 _ (some ⟨W.heap.size, 0, none⟩) 1 1 [.int .u64 b.t] (by rfl) HC.out.1 (by simp [Value.oneCell']) HC.out.2.1 HC.out.2.2.1 HC.out.2.2.2 ?_
      intro v3 w4 own3 hg3 hv3
      have hv9 := hv3
      obtain ⟨A3, c3, rfl⟩ := own_slice own3
      have hne3 : (some g : Option Nat) ≠ (Value.slice EA en ec).ownBlock := fun e => HNE.out.1 e.symm
      have hB3 : DcIs w4 g { b with bo := v % 8, spk := S } ph D A (.slice EA en ec) := Blk.grown (Blk.alloc HW.out.1.bd _) hg3 hne3
      have hA3 := (HW.out.1.acts.alloc (.cells #[.int .u64 b.t] 32)).kept hg3 (by rcases he : A.ownBlock with _ | k; exact .inl rfl; exact .inr (fun e => HNE.out.2.1 k e.symm he))
      have hD3 := (HW.out.1.down.alloc (.cells #[.int .u64 b.t] 32)).kept hg3 (by rcases he : D.ownBlock with _ | k; exact .inl rfl; exact .inr (fun e => HNE.out.2.2 k e.symm he))
      have hch3 : Ch w w4 (fun k => k = g ∨ (Value.slice EA en ec).ownBlock = some k) := (HW.out.2.1.trans (Ch.of_below (φ := fun _ => False) (w := W) ((Below.refl _ _).alloc (Nat.le_refl _) _)) (χ := fun k => k = g ∨ (Value.slice EA en ec).ownBlock = some k) (fun _ h => h) (fun _ _ h => h.elim)).trans (Ch.of_grown (φ := fun k => (Value.slice EA en ec).ownBlock = some k) hg3 (fun k e => e)) (fun _ h => h) (fun _ _ h => .inr h)
      have ct3 : w4.cell? ⟨g, 65537, none⟩ = some (.int .u64 b.t) := hB3.at_ (by decide) dc_t
      refine hK.out _ _ ?_ (fun hHeld => ?_)
      · exact ct3
      clear hK K
      try simp only [Act.put, List.setIfInBounds_toArray, List.set_cons_zero, List.set_cons_succ]
      have H3 := Lib.hid (show DcIs w4 g { b with bo := v % 8, spk := S } ph D A (.slice EA en ec) ∧ w4.ownsRow base 72 4 A al.length (actV al) ∧ w4.ownsRow base 32 1 (.slice A3 (es.length + 1) c3) (es.length + 1) (es.map (Value.int .u64) ++ [.int .u64 b.t]) ∧ w4.ownsRow base 3 1 D zs.length (zs.map (Value.int .i64)) ∧ Ch w w4 (fun k => k = g ∨ (Value.slice EA en ec).ownBlock = some k) ∧ NewBlk w (.slice EA en ec) (.slice A3 (es.length + 1) c3) from ⟨hB3, hA3, own3, hD3, hch3, by
        rcases hv9 with h | h
        · exact .inl h
        · exact .inr ⟨_, h, by have := HW.out.2.2; simp; omega⟩⟩)
      clear own3 hg3 hv3 hv9 hB3 hA3 hD3 hch3 hown9 hne3
      have dE : w4.cell? ⟨g, 65551, none⟩ = some (.slice EA en ec) := H3.out.1.at_ (by decide) dc_E
      have eE : w4.frozen? ⟨g, 65551, none⟩ = false := H3.out.1.fz _
      refine wpAnyH_take (i := 11) (oi := _) (v := ?_) (by simp only [List.getElem?_toArray, List.getElem?_cons_succ, List.getElem?_cons_zero]; rfl) (by kernel_rfl) (by kernel_rfl) (by kernel_rfl) (by intro _ _ _ h; exact h) (Or.inl ⟨by rfl, ?_⟩) (by assumption) ?_
      rotate_left
      · intro w hSw
        try dsimp only at hSw
        go_simp
        try with_reducible rfl
      try simp only [Act.put, List.setIfInBounds_toArray, List.set_cons_zero, List.set_cons_succ]
      refine wpAnyH_take (i := 12) (oi := _) (v := ?_) (by simp only [List.getElem?_toArray, List.getElem?_cons_succ, List.getElem?_cons_zero]; rfl) (by kernel_rfl) (by kernel_rfl) (by kernel_rfl) (by intro _ _ _ h; exact h) (Or.inl ⟨by rfl, ?_⟩) (by assumption) ?_
      rotate_left
      · intro w hSw
        try dsimp only at hSw
        go_simp
        try with_reducible rfl
      try simp only [Act.put, List.setIfInBounds_toArray, List.set_cons_zero, List.set_cons_succ]
      refine wpAnyH_ready (rs := [13]) (by kernel_rfl) (by simp) ?_
      refine AllReadyH.cons (o := _) (by simp only [List.getElem?_toArray, List.getElem?_cons_succ, List.getElem?_cons_zero]; rfl) (fun K hK => ?_) AllReadyH.nil
      go_simp
      refine hK.out _ _ ?_ (fun hHeld => ?_)
      · exact (World.cell?_setCell_other _ _ _ _ (by intro e; injection e with _ e; exact absurd e (by decide))).trans ct3
      clear hK K
      try simp only [Act.put, List.setIfInBounds_toArray, List.set_cons_zero, List.set_cons_succ]
      refine wpAnyH_done (by kernel_rfl) ?_ _
      clear dE eE ct3
      have hal := own_blk_ne H3.out.2.1 H3.out.1 (by decide)
      have hel := own_blk_ne H3.out.2.2.1 H3.out.1 (by decide)
      have hdl := own_blk_ne H3.out.2.2.2.1 H3.out.1 (by decide)
      have hG := grown_cell w4 g 65551 (.slice A3 (es.length + 1) c3)
      have HY := Lib.hid (show DcAt (w4.setCell ⟨g, 65551, none⟩ (.slice A3 (es.length + 1) c3)) base g { b with bo := v % 8, spk := S } ph zs al (es ++ [b.t]) D A (.slice A3 (es.length + 1) c3) ∧ Ch w (w4.setCell ⟨g, 65551, none⟩ (.slice A3 (es.length + 1) c3)) (BdBlk g A (.slice EA en ec)) ∧ NewBlk w (.slice EA en ec) (.slice A3 (es.length + 1) c3) from ⟨⟨H3.out.1.put (dset_E _), H3.out.2.2.2.1.kept hG (.inr hdl), H3.out.2.1.kept hG (.inr hal), by rw [List.map_append, List.length_append]; exact H3.out.2.2.1.kept hG (.inr hel)⟩, H3.out.2.2.2.2.1.trans (Ch.of_grown (φ := fun k => k = g) hG (fun k e => by injection e with e; exact e.symm)) (fun _ h => h.elim .inl (fun h => .inr (.inr h))) (fun _ _ h => .inl h), H3.out.2.2.2.2.2⟩)
      clear hG hal hel hdl H3 HW ctW cEW
      generalize (w4.setCell ⟨g, 65551, none⟩ (.slice A3 (es.length + 1) c3)) = wy at *
      have hwy := HY.out.2.1.size
      have m48 := HY.out.1.bd.at_ (i := 65548) (by decide) dc_mic
      have g48 := HY.out.1.bd.fz 65548
      go_upto_region 9 with fail
      have HU := Lib.hid (show DcAt (wy.setCell ⟨g, 65548, none⟩ (.bool false)) base g { b with bo := v % 8, spk := S, mic := false } ph zs al (es ++ [b.t]) D A (.slice A3 (es.length + 1) c3) ∧ Ch w (wy.setCell ⟨g, 65548, none⟩ (.bool false)) (BdBlk g A (.slice EA en ec)) ∧ NewBlk w (.slice EA en ec) (.slice A3 (es.length + 1) c3) ∧ w.heap.size ≤ (wy.setCell ⟨g, 65548, none⟩ (.bool false)).heap.size from ⟨HY.out.1.put (dset_mic _), HY.out.2.1.trans (Ch.of_grown (φ := fun k => k = g) (grown_cell _ _ _ _) (fun k e => by injection e with e; exact e.symm)) (fun _ e => e) (fun _ _ e => .inl e), HY.out.2.2, by simp [World.setCell]; omega⟩)
      clear m48 g48 HY hwy
      generalize (wy.setCell ⟨g, 65548, none⟩ (.bool false)) = w5 at *
      have cl := HU.out.1.bd.at_ (i := 65542) (by decide) dc_log
      cases hlog : b.log
      · have cl2 : w5.cell? ⟨g, 65542, none⟩ = some (.bool false) := by rw [← hlog]; exact cl
        have HL := Lib.hid hlog
        clear cl hlog
        go_wp2
        go_end0
        exact ⟨_, A, (.slice A3 (es.length + 1) c3), rfl, by rw [HES.out.1, HES.out.2]; unfold logS; rw [if_neg (by rw [HL.out]; decide)]; exact HU.out.1, HU.out.2.1, .inl rfl, HU.out.2.2.1⟩
      · have cl2 : w5.cell? ⟨g, 65542, none⟩ = some (.bool true) := by rw [← hlog]; exact cl
        have HL := Lib.hid hlog
        clear cl hlog
        obtain ⟨AA, an, ac, hAs⟩ : ∃ x n c, A = .slice x n c := by
          rcases HU.out.1.acts.2 with ⟨e, _⟩ | ⟨g', cap, cur, e, _⟩
          · exact ⟨none, 0, 0, e⟩
          · exact ⟨_, _, cap, e⟩
        subst hAs
        obtain ⟨j1, kj, ky0, ky1, ky2⟩ := info_parts actInfo
        have cA := HU.out.1.bd.at_ (i := 65550) (by decide) dc_A
        have ct : w5.cell? ⟨g, 65537, none⟩ = some (.int .u64 b.t) := HU.out.1.bd.at_ (i := 65537) (by decide) dc_t
        have HNA := Lib.hid (And.intro (own_blk_ne HU.out.1.acts HU.out.1.bd (by decide)) (And.intro (own_types_ne HU.out.1.acts HU.out.1.edges (by decide)) (own_types_ne HU.out.1.acts HU.out.1.down (by decide))))
        go_upto_region 10 with fail
        clear cl2
        refine wp_region_held_drew (S := fun w' => w'.cell? ⟨g, 65537, none⟩ = some (.int .u64 b.t)) (by kernel_rfl) ?_ (fun hHeld => ?_)
        · exact ct
        have HW := Lib.hid (show DcAt w5.drew base g { b with bo := v % 8, spk := S, mic := false } ph zs al (es ++ [b.t]) D (.slice AA an ac) (.slice A3 (es.length + 1) c3) ∧ Ch w w5.drew (BdBlk g (.slice AA an ac) (.slice EA en ec)) ∧ w.heap.size ≤ w5.drew.heap.size from ⟨⟨HU.out.1.bd, HU.out.1.down, HU.out.1.acts, HU.out.1.edges⟩, ⟨HU.out.2.1.os, HU.out.2.1.tape, HU.out.2.1.output, HU.out.2.1.size, HU.out.2.1.block⟩, HU.out.2.2.2⟩)
        have HNB := Lib.hid HU.out.2.2.1
        have cAW : w5.drew.cell? ⟨g, 65550, none⟩ = some (.slice AA an ac) := cA
        have ctW : w5.drew.cell? ⟨g, 65537, none⟩ = some (.int .u64 b.t) := ct
        clear cA ct HU
        generalize w5.drew = W2 at *
        refine wpAnyH_take (i := 0) (oi := _) (v := ?_) (by simp only [List.getElem?_toArray, List.getElem?_cons_succ, List.getElem?_cons_zero]; rfl) (by kernel_rfl) (by kernel_rfl) (by kernel_rfl) (by intro _ _ _ h; exact h) (Or.inl ⟨by rfl, ?_⟩) (by assumption) ?_
        rotate_left
        · intro w hSw
          try dsimp only at hSw
          go_simp
          try with_reducible rfl
        try simp only [Act.put, List.setIfInBounds_toArray, List.set_cons_zero, List.set_cons_succ]
        refine wpAnyH_take (i := 1) (oi := _) (v := ?_) (by simp only [List.getElem?_toArray, List.getElem?_cons_succ, List.getElem?_cons_zero]; rfl) (by kernel_rfl) (by kernel_rfl) (by kernel_rfl) (by intro _ _ _ h; exact h) (Or.inl ⟨by rfl, ?_⟩) (by assumption) ?_
        rotate_left
        · intro w hSw
          try dsimp only at hSw
          go_simp
          try with_reducible rfl
        try simp only [Act.put, List.setIfInBounds_toArray, List.set_cons_zero, List.set_cons_succ]
        refine wpAnyH_take (i := 2) (oi := _) (v := ?_) (by simp only [List.getElem?_toArray, List.getElem?_cons_succ, List.getElem?_cons_zero]; rfl) (by kernel_rfl) (by kernel_rfl) (by kernel_rfl) (by intro _ _ _ h; exact h) (Or.inl ⟨by rfl, ?_⟩) (by assumption) ?_
        rotate_left
        · intro w hSw
          try dsimp only at hSw
          go_simp
          try with_reducible rfl
        try simp only [Act.put, List.setIfInBounds_toArray, List.set_cons_zero, List.set_cons_succ]
        refine wpAnyH_take (i := 3) (oi := _) (v := ?_) (by simp only [List.getElem?_toArray, List.getElem?_cons_succ, List.getElem?_cons_zero]; rfl) (by kernel_rfl) (by kernel_rfl) (by kernel_rfl) (by intro _ _ _ h; exact h) (Or.inl ⟨by rfl, ?_⟩) (by assumption) ?_
        rotate_left
        · intro w hSw
          try dsimp only at hSw
          go_simp
          try with_reducible rfl
        try simp only [Act.put, List.setIfInBounds_toArray, List.set_cons_zero, List.set_cons_succ]
        refine wpAnyH_take (i := 5) (oi := _) (v := ?_) (by simp only [List.getElem?_toArray, List.getElem?_cons_succ, List.getElem?_cons_zero]; rfl) (by kernel_rfl) (by kernel_rfl) (by kernel_rfl) (by intro _ _ _ h; exact h) (Or.inl ⟨by rfl, ?_⟩) (by assumption) ?_
        rotate_left
        · intro w hSw
          try dsimp only at hSw
          go_simp
          try with_reducible rfl
        try simp only [Act.put, List.setIfInBounds_toArray, List.set_cons_zero, List.set_cons_succ]
        refine wpAnyH_take (i := 6) (oi := _) (v := ?_) (by simp only [List.getElem?_toArray, List.getElem?_cons_succ, List.getElem?_cons_zero]; rfl) (by kernel_rfl) (by kernel_rfl) (by kernel_rfl) (by intro _ _ _ h; exact h) (Or.inl ⟨by rfl, ?_⟩) (by assumption) ?_
        rotate_left
        · intro w hSw
          try dsimp only at hSw
          go_simp
          try with_reducible rfl
        try simp only [Act.put, List.setIfInBounds_toArray, List.set_cons_zero, List.set_cons_succ]
        refine wpAnyH_take (i := 7) (oi := _) (v := ?_) (by simp only [List.getElem?_toArray, List.getElem?_cons_succ, List.getElem?_cons_zero]; rfl) (by kernel_rfl) (by kernel_rfl) (by kernel_rfl) (by intro _ _ _ h; exact h) (Or.inl ⟨by rfl, ?_⟩) (by assumption) ?_
        rotate_left
        · intro w hSw
          try dsimp only at hSw
          go_simp
          try with_reducible rfl
        try simp only [Act.put, List.setIfInBounds_toArray, List.set_cons_zero, List.set_cons_succ]
        refine wpAnyH_take (i := 8) (oi := _) (v := ?_) (by simp only [List.getElem?_toArray, List.getElem?_cons_succ, List.getElem?_cons_zero]; rfl) (by kernel_rfl) (by kernel_rfl) (by kernel_rfl) (by intro _ _ _ h; exact h) (Or.inl ⟨by rfl, ?_⟩) (by assumption) ?_
        rotate_left
        · intro w hSw
          try dsimp only at hSw
          go_simp
          try with_reducible rfl
        try simp only [Act.put, List.setIfInBounds_toArray, List.set_cons_zero, List.set_cons_succ]
        refine wpAnyH_take (i := 9) (oi := _) (v := ?_) (by simp only [List.getElem?_toArray, List.getElem?_cons_succ, List.getElem?_cons_zero]; rfl) (by kernel_rfl) (by kernel_rfl) (by kernel_rfl) (by intro _ _ _ h; exact h) (Or.inl ⟨by rfl, ?_⟩) (by assumption) ?_
        rotate_left
        · intro w hSw
          try dsimp only at hSw
          go_simp
          try with_reducible rfl
        try simp only [Act.put, List.setIfInBounds_toArray, List.set_cons_zero, List.set_cons_succ]
        refine wpAnyH_take (i := 10) (oi := _) (v := ?_) (by simp only [List.getElem?_toArray, List.getElem?_cons_succ, List.getElem?_cons_zero]; rfl) (by kernel_rfl) (by kernel_rfl) (by kernel_rfl) (by intro _ _ _ h; exact h) (Or.inl ⟨by rfl, ?_⟩) (by assumption) ?_
        rotate_left
        · intro w hSw
          try dsimp only at hSw
          go_simp
          try with_reducible rfl
        try simp only [Act.put, List.setIfInBounds_toArray, List.set_cons_zero, List.set_cons_succ]
        refine wpAnyH_take (i := 11) (oi := _) (v := ?_) (by simp only [List.getElem?_toArray, List.getElem?_cons_succ, List.getElem?_cons_zero]; rfl) (by kernel_rfl) (by kernel_rfl) (by kernel_rfl) (by intro _ _ _ h; exact h) (Or.inl ⟨by rfl, ?_⟩) (by assumption) ?_
        rotate_left
        · intro w hSw
          try dsimp only at hSw
          go_simp
          try with_reducible rfl
        try simp only [Act.put, List.setIfInBounds_toArray, List.set_cons_zero, List.set_cons_succ]
        refine wpAnyH_ready (rs := [4, 12]) (by kernel_rfl) (by simp) ?_
        refine AllReadyH.cons (o := _) (by simp only [List.getElem?_toArray, List.getElem?_cons_succ, List.getElem?_cons_zero]; rfl) (fun K hK => ?_) (AllReadyH.cons (o := _) (by simp only [List.getElem?_toArray, List.getElem?_cons_succ, List.getElem?_cons_zero]; rfl) (fun K hK => ?_) AllReadyH.nil)
        · go_simp
          refine hK.out _ _ ?_ (fun hHeld => ?_)
          · exact ctW
          clear hK K
          try simp only [Act.put, List.setIfInBounds_toArray, List.set_cons_zero, List.set_cons_succ]
          refine wpAnyH_ready (rs := [12]) (by kernel_rfl) (by simp) ?_
          refine AllReadyH.cons (o := _) (by simp only [List.getElem?_toArray, List.getElem?_cons_succ, List.getElem?_cons_zero]; rfl) (fun K hK => ?_) AllReadyH.nil
          have ctA : (W2.alloc (.cells #[.int .u64 b.t, .bool true, .int .u16 port, .int .u8 v] 72)).cell? ⟨g, 65537, none⟩ = some (.int .u64 b.t) := alloc_of ctW
          have cAA : (W2.alloc (.cells #[.int .u64 b.t, .bool true, .int .u16 port, .int .u8 v] 72)).cell? ⟨g, 65550, none⟩ = some (.slice AA an ac) := alloc_of cAW
          go_simp
          refine hK.out _ _ ?_ (fun hHeld => ?_)
          · exact ctA
          clear hK K
          try simp only [Act.put, List.setIfInBounds_toArray, List.set_cons_zero, List.set_cons_succ]
          refine wpAnyH_ready (rs := [13]) (by kernel_rfl) (by simp) ?_
          refine AllReadyH.cons (o := _) (by simp only [List.getElem?_toArray, List.getElem?_cons_succ, List.getElem?_cons_zero]; rfl) (fun K hK => ?_) AllReadyH.nil
          have HC := Lib.hid (show Reads (W2.alloc (.cells #[.int .u64 b.t, .bool true, .int .u16 port, .int .u8 v] 72)) (W2.alloc (.cells #[.int .u64 b.t, .bool true, .int .u16 port, .int .u8 v] 72)).heap.size 4 (some ⟨W2.heap.size, 0, none⟩) 1 [.int .u64 b.t, .bool true, .int .u16 port, .int .u8 v] ∧ al.length + 1 ≤ maxLen ∧ (al.length + 1) * 16 ≤ 140737488355328 ∧ base ≤ (W2.alloc (.cells #[.int .u64 b.t, .bool true, .int .u16 port, .int .u8 v] 72)).heap.size from ⟨⟨rfl, fun _ => ⟨_, rfl, by simp, lit_cells W2 [.int .u64 b.t, .bool true, .int .u16 port, .int .u8 v] 72⟩⟩, by unfold maxLen; omega, by omega, by have := HW.out.2.2; simp; omega⟩)
          have hown9 := HW.out.1.acts.alloc (.cells #[.int .u64 b.t, .bool true, .int .u16 port, .int .u8 v] 72)
          refine step_append_any _ (by rfl) _ _ _ (by rfl) base 72 j1 (.agg #[.int .u64 0, .bool false, .int .u16 0, .int .u8 0]) 4 16 Try.underlying33 kj ky0 ky1 ky2 rfl (by decide) (.slice AA an ac) al.length _ (by rfl) hown9 _ (some ⟨W2.heap.size, 0, none⟩) 1 1 [.int .u64 b.t, .bool true, .int .u16 port, .int .u8 v] (by rfl) HC.out.1 (by simp [Value.oneCell']) HC.out.2.1 HC.out.2.2.1 HC.out.2.2.2 ?_
          intro v7 w7 own3 hg3 hv3
          have hv9 := hv3
          obtain ⟨A7, c7, rfl⟩ := own_slice own3
          have hne3 : (some g : Option Nat) ≠ (Value.slice AA an ac).ownBlock := fun e => HNA.out.1 e.symm
          have hB3 : DcIs w7 g { b with bo := v % 8, spk := S, mic := false } ph D (.slice AA an ac) (.slice A3 (es.length + 1) c3) := Blk.grown (Blk.alloc HW.out.1.bd _) hg3 hne3
          have hE3 := (HW.out.1.edges.alloc (.cells #[.int .u64 b.t, .bool true, .int .u16 port, .int .u8 v] 72)).kept hg3 (by rcases he : Value.ownBlock (.slice A3 (es.length + 1) c3) with _ | k; exact .inl rfl; exact .inr (fun e => HNA.out.2.1 k e.symm he))
          have hD3 := (HW.out.1.down.alloc (.cells #[.int .u64 b.t, .bool true, .int .u16 port, .int .u8 v] 72)).kept hg3 (by rcases he : D.ownBlock with _ | k; exact .inl rfl; exact .inr (fun e => HNA.out.2.2 k e.symm he))
          have hch3 : Ch w w7 (BdBlk g (.slice AA an ac) (.slice EA en ec)) := (HW.out.2.1.trans (Ch.of_below (φ := fun _ => False) (w := W2) ((Below.refl _ _).alloc (Nat.le_refl _) _)) (χ := BdBlk g (.slice AA an ac) (.slice EA en ec)) (fun _ h => h) (fun _ _ h => h.elim)).trans (Ch.of_grown (φ := fun k => (Value.slice AA an ac).ownBlock = some k) hg3 (fun k e => e)) (fun _ h => h) (fun _ _ h => .inr (.inl h))
          have ct3 : w7.cell? ⟨g, 65537, none⟩ = some (.int .u64 b.t) := hB3.at_ (by decide) dc_t
          refine hK.out _ _ ?_ (fun hHeld => ?_)
          · exact ct3
          clear hK K
          try simp only [Act.put, List.setIfInBounds_toArray, List.set_cons_zero, List.set_cons_succ]
          have H7 := Lib.hid (show DcIs w7 g { b with bo := v % 8, spk := S, mic := false } ph D (.slice AA an ac) (.slice A3 (es.length + 1) c3) ∧ w7.ownsRow base 72 4 (.slice A7 (al.length + 1) c7) (al.length + 1) (actV al ++ [.int .u64 b.t, .bool true, .int .u16 port, .int .u8 v]) ∧ w7.ownsRow base 32 1 (.slice A3 (es.length + 1) c3) ((es ++ [b.t])).length (((es ++ [b.t])).map (Value.int .u64)) ∧ w7.ownsRow base 3 1 D zs.length (zs.map (Value.int .i64)) ∧ Ch w w7 (BdBlk g (.slice AA an ac) (.slice EA en ec)) ∧ NewBlk w (.slice AA an ac) (.slice A7 (al.length + 1) c7) from ⟨hB3, own3, hE3, hD3, hch3, by
            rcases hv9 with h | h
            · exact .inl h
            · exact .inr ⟨_, h, by have := HW.out.2.2; simp; omega⟩⟩)
          clear own3 hg3 hv3 hv9 hB3 hE3 hD3 hch3 hown9 hne3
          have dA : w7.cell? ⟨g, 65550, none⟩ = some (.slice AA an ac) := H7.out.1.at_ (by decide) dc_A
          have eA : w7.frozen? ⟨g, 65550, none⟩ = false := H7.out.1.fz _
          refine wpAnyH_take (i := 14) (oi := _) (v := ?_) (by simp only [List.getElem?_toArray, List.getElem?_cons_succ, List.getElem?_cons_zero]; rfl) (by kernel_rfl) (by kernel_rfl) (by kernel_rfl) (by intro _ _ _ h; exact h) (Or.inl ⟨by rfl, ?_⟩) (by assumption) ?_
          rotate_left
          · intro w hSw
            try dsimp only at hSw
            go_simp
            try with_reducible rfl
          try simp only [Act.put, List.setIfInBounds_toArray, List.set_cons_zero, List.set_cons_succ]
          refine wpAnyH_take (i := 15) (oi := _) (v := ?_) (by simp only [List.getElem?_toArray, List.getElem?_cons_succ, List.getElem?_cons_zero]; rfl) (by kernel_rfl) (by kernel_rfl) (by kernel_rfl) (by intro _ _ _ h; exact h) (Or.inl ⟨by rfl, ?_⟩) (by assumption) ?_
          rotate_left
          · intro w hSw
            try dsimp only at hSw
            go_simp
            try with_reducible rfl
          try simp only [Act.put, List.setIfInBounds_toArray, List.set_cons_zero, List.set_cons_succ]
          refine wpAnyH_ready (rs := [16]) (by kernel_rfl) (by simp) ?_
          refine AllReadyH.cons (o := _) (by simp only [List.getElem?_toArray, List.getElem?_cons_succ, List.getElem?_cons_zero]; rfl) (fun K hK => ?_) AllReadyH.nil
          go_simp
          refine hK.out _ _ ?_ (fun hHeld => ?_)
          · exact (World.cell?_setCell_other _ _ _ _ (by intro e; injection e with _ e; exact absurd e (by decide))).trans ct3
          clear hK K
          try simp only [Act.put, List.setIfInBounds_toArray, List.set_cons_zero, List.set_cons_succ]
          refine wpAnyH_done (by kernel_rfl) ?_ _
          clear dA eA ct3
          have hal := own_blk_ne H7.out.2.1 H7.out.1 (by decide)
          have hel := own_blk_ne H7.out.2.2.1 H7.out.1 (by decide)
          have hdl := own_blk_ne H7.out.2.2.2.1 H7.out.1 (by decide)
          have hG := grown_cell w7 g 65550 (.slice A7 (al.length + 1) c7)
          have HX := Lib.hid (show DcAt (w7.setCell ⟨g, 65550, none⟩ (.slice A7 (al.length + 1) c7)) base g { b with bo := v % 8, spk := S, mic := false } ph zs (al ++ [⟨b.t, true, port, v⟩]) ((es ++ [b.t])) D (.slice A7 (al.length + 1) c7) (.slice A3 (es.length + 1) c3) ∧ Ch w (w7.setCell ⟨g, 65550, none⟩ (.slice A7 (al.length + 1) c7)) (BdBlk g (.slice AA an ac) (.slice EA en ec)) from ⟨⟨H7.out.1.put (dset_A _), H7.out.2.2.2.1.kept hG (.inr hdl), by rw [actV_snoc, List.length_append]; exact H7.out.2.1.kept hG (.inr hal), H7.out.2.2.1.kept hG (.inr hel)⟩, H7.out.2.2.2.2.1.trans (Ch.of_grown (φ := fun k => k = g) hG (fun k e => by injection e with e; exact e.symm)) (fun _ h => h) (fun _ _ h => .inl h)⟩)
          clear hG hal hel hdl
          generalize (w7.setCell ⟨g, 65550, none⟩ (.slice A7 (al.length + 1) c7)) = w8 at *
          go_wp2
          go_end0
          exact ⟨_, _, _, rfl, by rw [HES.out.1, HES.out.2]; unfold logS; rw [if_pos HL.out]; exact HX.out.1, HX.out.2, H7.out.2.2.2.2.2, HNB.out⟩
        · have ctA : (W2.alloc (.cells #[.int .u64 b.t, .bool true, .int .u16 port, .int .u8 v] 72)).cell? ⟨g, 65537, none⟩ = some (.int .u64 b.t) := alloc_of ctW
          have cAA : (W2.alloc (.cells #[.int .u64 b.t, .bool true, .int .u16 port, .int .u8 v] 72)).cell? ⟨g, 65550, none⟩ = some (.slice AA an ac) := alloc_of cAW
          go_simp
          refine hK.out _ _ ?_ (fun hHeld => ?_)
          · exact ctA
          clear hK K
          try simp only [Act.put, List.setIfInBounds_toArray, List.set_cons_zero, List.set_cons_succ]
          refine wpAnyH_ready (rs := [4]) (by kernel_rfl) (by simp) ?_
          refine AllReadyH.cons (o := _) (by simp only [List.getElem?_toArray, List.getElem?_cons_succ, List.getElem?_cons_zero]; rfl) (fun K hK => ?_) AllReadyH.nil
          go_simp
          refine hK.out _ _ ?_ (fun hHeld => ?_)
          · exact ctA
          clear hK K
          try simp only [Act.put, List.setIfInBounds_toArray, List.set_cons_zero, List.set_cons_succ]
          refine wpAnyH_ready (rs := [13]) (by kernel_rfl) (by simp) ?_
          refine AllReadyH.cons (o := _) (by simp only [List.getElem?_toArray, List.getElem?_cons_succ, List.getElem?_cons_zero]; rfl) (fun K hK => ?_) AllReadyH.nil
          have HC := Lib.hid (show Reads (W2.alloc (.cells #[.int .u64 b.t, .bool true, .int .u16 port, .int .u8 v] 72)) (W2.alloc (.cells #[.int .u64 b.t, .bool true, .int .u16 port, .int .u8 v] 72)).heap.size 4 (some ⟨W2.heap.size, 0, none⟩) 1 [.int .u64 b.t, .bool true, .int .u16 port, .int .u8 v] ∧ al.length + 1 ≤ maxLen ∧ (al.length + 1) * 16 ≤ 140737488355328 ∧ base ≤ (W2.alloc (.cells #[.int .u64 b.t, .bool true, .int .u16 port, .int .u8 v] 72)).heap.size from ⟨⟨rfl, fun _ => ⟨_, rfl, by simp, lit_cells W2 [.int .u64 b.t, .bool true, .int .u16 port, .int .u8 v] 72⟩⟩, by unfold maxLen; omega, by omega, by have := HW.out.2.2; simp; omega⟩)
          have hown9 := HW.out.1.acts.alloc (.cells #[.int .u64 b.t, .bool true, .int .u16 port, .int .u8 v] 72)
          refine step_append_any _ (by rfl) _ _ _ (by rfl) base 72 j1 (.agg #[.int .u64 0, .bool false, .int .u16 0, .int .u8 0]) 4 16 Try.underlying33 kj ky0 ky1 ky2 rfl (by decide) (.slice AA an ac) al.length _ (by rfl) hown9 _ (some ⟨W2.heap.size, 0, none⟩) 1 1 [.int .u64 b.t, .bool true, .int .u16 port, .int .u8 v] (by rfl) HC.out.1 (by simp [Value.oneCell']) HC.out.2.1 HC.out.2.2.1 HC.out.2.2.2 ?_
          intro v7 w7 own3 hg3 hv3
          have hv9 := hv3
          obtain ⟨A7, c7, rfl⟩ := own_slice own3
          have hne3 : (some g : Option Nat) ≠ (Value.slice AA an ac).ownBlock := fun e => HNA.out.1 e.symm
          have hB3 : DcIs w7 g { b with bo := v % 8, spk := S, mic := false } ph D (.slice AA an ac) (.slice A3 (es.length + 1) c3) := Blk.grown (Blk.alloc HW.out.1.bd _) hg3 hne3
          have hE3 := (HW.out.1.edges.alloc (.cells #[.int .u64 b.t, .bool true, .int .u16 port, .int .u8 v] 72)).kept hg3 (by rcases he : Value.ownBlock (.slice A3 (es.length + 1) c3) with _ | k; exact .inl rfl; exact .inr (fun e => HNA.out.2.1 k e.symm he))
          have hD3 := (HW.out.1.down.alloc (.cells #[.int .u64 b.t, .bool true, .int .u16 port, .int .u8 v] 72)).kept hg3 (by rcases he : D.ownBlock with _ | k; exact .inl rfl; exact .inr (fun e => HNA.out.2.2 k e.symm he))
          have hch3 : Ch w w7 (BdBlk g (.slice AA an ac) (.slice EA en ec)) := (HW.out.2.1.trans (Ch.of_below (φ := fun _ => False) (w := W2) ((Below.refl _ _).alloc (Nat.le_refl _) _)) (χ := BdBlk g (.slice AA an ac) (.slice EA en ec)) (fun _ h => h) (fun _ _ h => h.elim)).trans (Ch.of_grown (φ := fun k => (Value.slice AA an ac).ownBlock = some k) hg3 (fun k e => e)) (fun _ h => h) (fun _ _ h => .inr (.inl h))
          have ct3 : w7.cell? ⟨g, 65537, none⟩ = some (.int .u64 b.t) := hB3.at_ (by decide) dc_t
          refine hK.out _ _ ?_ (fun hHeld => ?_)
          · exact ct3
          clear hK K
          try simp only [Act.put, List.setIfInBounds_toArray, List.set_cons_zero, List.set_cons_succ]
          have H7 := Lib.hid (show DcIs w7 g { b with bo := v % 8, spk := S, mic := false } ph D (.slice AA an ac) (.slice A3 (es.length + 1) c3) ∧ w7.ownsRow base 72 4 (.slice A7 (al.length + 1) c7) (al.length + 1) (actV al ++ [.int .u64 b.t, .bool true, .int .u16 port, .int .u8 v]) ∧ w7.ownsRow base 32 1 (.slice A3 (es.length + 1) c3) ((es ++ [b.t])).length (((es ++ [b.t])).map (Value.int .u64)) ∧ w7.ownsRow base 3 1 D zs.length (zs.map (Value.int .i64)) ∧ Ch w w7 (BdBlk g (.slice AA an ac) (.slice EA en ec)) ∧ NewBlk w (.slice AA an ac) (.slice A7 (al.length + 1) c7) from ⟨hB3, own3, hE3, hD3, hch3, by
            rcases hv9 with h | h
            · exact .inl h
            · exact .inr ⟨_, h, by have := HW.out.2.2; simp; omega⟩⟩)
          clear own3 hg3 hv3 hv9 hB3 hE3 hD3 hch3 hown9 hne3
          have dA : w7.cell? ⟨g, 65550, none⟩ = some (.slice AA an ac) := H7.out.1.at_ (by decide) dc_A
          have eA : w7.frozen? ⟨g, 65550, none⟩ = false := H7.out.1.fz _
          refine wpAnyH_take (i := 14) (oi := _) (v := ?_) (by simp only [List.getElem?_toArray, List.getElem?_cons_succ, List.getElem?_cons_zero]; rfl) (by kernel_rfl) (by kernel_rfl) (by kernel_rfl) (by intro _ _ _ h; exact h) (Or.inl ⟨by rfl, ?_⟩) (by assumption) ?_
          rotate_left
          · intro w hSw
            try dsimp only at hSw
            go_simp
            try with_reducible rfl
          try simp only [Act.put, List.setIfInBounds_toArray, List.set_cons_zero, List.set_cons_succ]
          refine wpAnyH_take (i := 15) (oi := _) (v := ?_) (by simp only [List.getElem?_toArray, List.getElem?_cons_succ, List.getElem?_cons_zero]; rfl) (by kernel_rfl) (by kernel_rfl) (by kernel_rfl) (by intro _ _ _ h; exact h) (Or.inl ⟨by rfl, ?_⟩) (by assumption) ?_
          rotate_left
          · intro w hSw
            try dsimp only at hSw
            go_simp
            try with_reducible rfl
          try simp only [Act.put, List.setIfInBounds_toArray, List.set_cons_zero, List.set_cons_succ]
          refine wpAnyH_ready (rs := [16]) (by kernel_rfl) (by simp) ?_
          refine AllReadyH.cons (o := _) (by simp only [List.getElem?_toArray, List.getElem?_cons_succ, List.getElem?_cons_zero]; rfl) (fun K hK => ?_) AllReadyH.nil
          go_simp
          refine hK.out _ _ ?_ (fun hHeld => ?_)
          · exact (World.cell?_setCell_other _ _ _ _ (by intro e; injection e with _ e; exact absurd e (by decide))).trans ct3
          clear hK K
          try simp only [Act.put, List.setIfInBounds_toArray, List.set_cons_zero, List.set_cons_succ]
          refine wpAnyH_done (by kernel_rfl) ?_ _
          clear dA eA ct3
          have hal := own_blk_ne H7.out.2.1 H7.out.1 (by decide)
          have hel := own_blk_ne H7.out.2.2.1 H7.out.1 (by decide)
          have hdl := own_blk_ne H7.out.2.2.2.1 H7.out.1 (by decide)
          have hG := grown_cell w7 g 65550 (.slice A7 (al.length + 1) c7)
          have HX := Lib.hid (show DcAt (w7.setCell ⟨g, 65550, none⟩ (.slice A7 (al.length + 1) c7)) base g { b with bo := v % 8, spk := S, mic := false } ph zs (al ++ [⟨b.t, true, port, v⟩]) ((es ++ [b.t])) D (.slice A7 (al.length + 1) c7) (.slice A3 (es.length + 1) c3) ∧ Ch w (w7.setCell ⟨g, 65550, none⟩ (.slice A7 (al.length + 1) c7)) (BdBlk g (.slice AA an ac) (.slice EA en ec)) from ⟨⟨H7.out.1.put (dset_A _), H7.out.2.2.2.1.kept hG (.inr hdl), by rw [actV_snoc, List.length_append]; exact H7.out.2.1.kept hG (.inr hal), H7.out.2.2.1.kept hG (.inr hel)⟩, H7.out.2.2.2.2.1.trans (Ch.of_grown (φ := fun k => k = g) hG (fun k e => by injection e with e; exact e.symm)) (fun _ h => h) (fun _ _ h => .inl h)⟩)
          clear hG hal hel hdl
          generalize (w7.setCell ⟨g, 65550, none⟩ (.slice A7 (al.length + 1) c7)) = w8 at *
          go_wp2
          go_end0
          exact ⟨_, _, _, rfl, by rw [HES.out.1, HES.out.2]; unfold logS; rw [if_pos HL.out]; exact HX.out.1, HX.out.2, H7.out.2.2.2.2.2, HNB.out⟩
    · have ctA : (W.alloc (.cells #[.int .u64 b.t] 32)).cell? ⟨g, 65537, none⟩ = some (.int .u64 b.t) := alloc_of ctW
      have cEA : (W.alloc (.cells #[.int .u64 b.t] 32)).cell? ⟨g, 65551, none⟩ = some (.slice EA en ec) := alloc_of cEW
      go_simp
      refine hK.out _ _ ?_ (fun hHeld => ?_)
      · exact ctA
      clear hK K
      try simp only [Act.put, List.setIfInBounds_toArray, List.set_cons_zero, List.set_cons_succ]
      refine wpAnyH_ready (rs := [4]) (by kernel_rfl) (by simp) ?_
      refine AllReadyH.cons (o := _) (by simp only [List.getElem?_toArray, List.getElem?_cons_succ, List.getElem?_cons_zero]; rfl) (fun K hK => ?_) AllReadyH.nil
      go_simp
      refine hK.out _ _ ?_ (fun hHeld => ?_)
      · exact ctA
      clear hK K
      try simp only [Act.put, List.setIfInBounds_toArray, List.set_cons_zero, List.set_cons_succ]
      refine wpAnyH_ready (rs := [10]) (by kernel_rfl) (by simp) ?_
      refine AllReadyH.cons (o := _) (by simp only [List.getElem?_toArray, List.getElem?_cons_succ, List.getElem?_cons_zero]; rfl) (fun K hK => ?_) AllReadyH.nil
      have HC := Lib.hid (show Reads (W.alloc (.cells #[.int .u64 b.t] 32)) (W.alloc (.cells #[.int .u64 b.t] 32)).heap.size 1 (some ⟨W.heap.size, 0, none⟩) 1 [.int .u64 b.t] ∧ es.length + 1 ≤ maxLen ∧ (es.length + 1) * 8 ≤ 140737488355328 ∧ base ≤ (W.alloc (.cells #[.int .u64 b.t] 32)).heap.size from ⟨⟨rfl, fun _ => ⟨_, rfl, by simp, lit_cells W [.int .u64 b.t] 32⟩⟩, by unfold maxLen; omega, by omega, by have := HW.out.2.2; simp; omega⟩)
      have hown9 := HW.out.1.edges.alloc (.cells #[.int .u64 b.t] 32)
      refine step_append_any _ (by rfl) _ _ _ (by rfl) base 32 i1 (.int .u64 0) 1 8 Try.underlying34 hj hy0 hy1 hy2 rfl (by decide) (.slice EA en ec) es.length _ (by rfl) hown9 _ (some ⟨W.heap.size, 0, none⟩) 1 1 [.int .u64 b.t] (by rfl) HC.out.1 (by simp [Value.oneCell']) HC.out.2.1 HC.out.2.2.1 HC.out.2.2.2 ?_
      intro v3 w4 own3 hg3 hv3
      have hv9 := hv3
      obtain ⟨A3, c3, rfl⟩ := own_slice own3
      have hne3 : (some g : Option Nat) ≠ (Value.slice EA en ec).ownBlock := fun e => HNE.out.1 e.symm
      have hB3 : DcIs w4 g { b with bo := v % 8, spk := S } ph D A (.slice EA en ec) := Blk.grown (Blk.alloc HW.out.1.bd _) hg3 hne3
      have hA3 := (HW.out.1.acts.alloc (.cells #[.int .u64 b.t] 32)).kept hg3 (by rcases he : A.ownBlock with _ | k; exact .inl rfl; exact .inr (fun e => HNE.out.2.1 k e.symm he))
      have hD3 := (HW.out.1.down.alloc (.cells #[.int .u64 b.t] 32)).kept hg3 (by rcases he : D.ownBlock with _ | k; exact .inl rfl; exact .inr (fun e => HNE.out.2.2 k e.symm he))
      have hch3 : Ch w w4 (fun k => k = g ∨ (Value.slice EA en ec).ownBlock = some k) := (HW.out.2.1.trans (Ch.of_below (φ := fun _ => False) (w := W) ((Below.refl _ _).alloc (Nat.le_refl _) _)) (χ := fun k => k = g ∨ (Value.slice EA en ec).ownBlock = some k) (fun _ h => h) (fun _ _ h => h.elim)).trans (Ch.of_grown (φ := fun k => (Value.slice EA en ec).ownBlock = some k) hg3 (fun k e => e)) (fun _ h => h) (fun _ _ h => .inr h)
      have ct3 : w4.cell? ⟨g, 65537, none⟩ = some (.int .u64 b.t) := hB3.at_ (by decide) dc_t
      refine hK.out _ _ ?_ (fun hHeld => ?_)
      · exact ct3
      clear hK K
      try simp only [Act.put, List.setIfInBounds_toArray, List.set_cons_zero, List.set_cons_succ]
      have H3 := Lib.hid (show DcIs w4 g { b with bo := v % 8, spk := S } ph D A (.slice EA en ec) ∧ w4.ownsRow base 72 4 A al.length (actV al) ∧ w4.ownsRow base 32 1 (.slice A3 (es.length + 1) c3) (es.length + 1) (es.map (Value.int .u64) ++ [.int .u64 b.t]) ∧ w4.ownsRow base 3 1 D zs.length (zs.map (Value.int .i64)) ∧ Ch w w4 (fun k => k = g ∨ (Value.slice EA en ec).ownBlock = some k) ∧ NewBlk w (.slice EA en ec) (.slice A3 (es.length + 1) c3) from ⟨hB3, hA3, own3, hD3, hch3, by
        rcases hv9 with h | h
        · exact .inl h
        · exact .inr ⟨_, h, by have := HW.out.2.2; simp; omega⟩⟩)
      clear own3 hg3 hv3 hv9 hB3 hA3 hD3 hch3 hown9 hne3
      have dE : w4.cell? ⟨g, 65551, none⟩ = some (.slice EA en ec) := H3.out.1.at_ (by decide) dc_E
      have eE : w4.frozen? ⟨g, 65551, none⟩ = false := H3.out.1.fz _
      refine wpAnyH_take (i := 11) (oi := _) (v := ?_) (by simp only [List.getElem?_toArray, List.getElem?_cons_succ, List.getElem?_cons_zero]; rfl) (by kernel_rfl) (by kernel_rfl) (by kernel_rfl) (by intro _ _ _ h; exact h) (Or.inl ⟨by rfl, ?_⟩) (by assumption) ?_
      rotate_left
      · intro w hSw
        try dsimp only at hSw
        go_simp
        try with_reducible rfl
      try simp only [Act.put, List.setIfInBounds_toArray, List.set_cons_zero, List.set_cons_succ]
      refine wpAnyH_take (i := 12) (oi := _) (v := ?_) (by simp only [List.getElem?_toArray, List.getElem?_cons_succ, List.getElem?_cons_zero]; rfl) (by kernel_rfl) (by kernel_rfl) (by kernel_rfl) (by intro _ _ _ h; exact h) (Or.inl ⟨by rfl, ?_⟩) (by assumption) ?_
      rotate_left
      · intro w hSw
        try dsimp only at hSw
        go_simp
        try with_reducible rfl
      try simp only [Act.put, List.setIfInBounds_toArray, List.set_cons_zero, List.set_cons_succ]
      refine wpAnyH_ready (rs := [13]) (by kernel_rfl) (by simp) ?_
      refine AllReadyH.cons (o := _) (by simp only [List.getElem?_toArray, List.getElem?_cons_succ, List.getElem?_cons_zero]; rfl) (fun K hK => ?_) AllReadyH.nil
      go_simp
      refine hK.out _ _ ?_ (fun hHeld => ?_)
      · exact (World.cell?_setCell_other _ _ _ _ (by intro e; injection e with _ e; exact absurd e (by decide))).trans ct3
      clear hK K
      try simp only [Act.put, List.setIfInBounds_toArray, List.set_cons_zero, List.set_cons_succ]
      refine wpAnyH_done (by kernel_rfl) ?_ _
      clear dE eE ct3
      have hal := own_blk_ne H3.out.2.1 H3.out.1 (by decide)
      have hel := own_blk_ne H3.out.2.2.1 H3.out.1 (by decide)
      have hdl := own_blk_ne H3.out.2.2.2.1 H3.out.1 (by decide)
      have hG := grown_cell w4 g 65551 (.slice A3 (es.length + 1) c3)
      have HY := Lib.hid (show DcAt (w4.setCell ⟨g, 65551, none⟩ (.slice A3 (es.length + 1) c3)) base g { b with bo := v % 8, spk := S } ph zs al (es ++ [b.t]) D A (.slice A3 (es.length + 1) c3) ∧ Ch w (w4.setCell ⟨g, 65551, none⟩ (.slice A3 (es.length + 1) c3)) (BdBlk g A (.slice EA en ec)) ∧ NewBlk w (.slice EA en ec) (.slice A3 (es.length + 1) c3) from ⟨⟨H3.out.1.put (dset_E _), H3.out.2.2.2.1.kept hG (.inr hdl), H3.out.2.1.kept hG (.inr hal), by rw [List.map_append, List.length_append]; exact H3.out.2.2.1.kept hG (.inr hel)⟩, H3.out.2.2.2.2.1.trans (Ch.of_grown (φ := fun k => k = g) hG (fun k e => by injection e with e; exact e.symm)) (fun _ h => h.elim .inl (fun h => .inr (.inr h))) (fun _ _ h => .inl h), H3.out.2.2.2.2.2⟩)
      clear hG hal hel hdl H3 HW ctW cEW
      generalize (w4.setCell ⟨g, 65551, none⟩ (.slice A3 (es.length + 1) c3)) = wy at *
      have hwy := HY.out.2.1.size
      have m48 := HY.out.1.bd.at_ (i := 65548) (by decide) dc_mic
      have g48 := HY.out.1.bd.fz 65548
      go_upto_region 9 with fail
      have HU := Lib.hid (show DcAt (wy.setCell ⟨g, 65548, none⟩ (.bool false)) base g { b with bo := v % 8, spk := S, mic := false } ph zs al (es ++ [b.t]) D A (.slice A3 (es.length + 1) c3) ∧ Ch w (wy.setCell ⟨g, 65548, none⟩ (.bool false)) (BdBlk g A (.slice EA en ec)) ∧ NewBlk w (.slice EA en ec) (.slice A3 (es.length + 1) c3) ∧ w.heap.size ≤ (wy.setCell ⟨g, 65548, none⟩ (.bool false)).heap.size from ⟨HY.out.1.put (dset_mic _), HY.out.2.1.trans (Ch.of_grown (φ := fun k => k = g) (grown_cell _ _ _ _) (fun k e => by injection e with e; exact e.symm)) (fun _ e => e) (fun _ _ e => .inl e), HY.out.2.2, by simp [World.setCell]; omega⟩)
      clear m48 g48 HY hwy
      generalize (wy.setCell ⟨g, 65548, none⟩ (.bool false)) = w5 at *
      have cl := HU.out.1.bd.at_ (i := 65542) (by decide) dc_log
      cases hlog : b.log
      · have cl2 : w5.cell? ⟨g, 65542, none⟩ = some (.bool false) := by rw [← hlog]; exact cl
        have HL := Lib.hid hlog
        clear cl hlog
        go_wp2
        go_end0
        exact ⟨_, A, (.slice A3 (es.length + 1) c3), rfl, by rw [HES.out.1, HES.out.2]; unfold logS; rw [if_neg (by rw [HL.out]; decide)]; exact HU.out.1, HU.out.2.1, .inl rfl, HU.out.2.2.1⟩
      · have cl2 : w5.cell? ⟨g, 65542, none⟩ = some (.bool true) := by rw [← hlog]; exact cl
        have HL := Lib.hid hlog
        clear cl hlog
        obtain ⟨AA, an, ac, hAs⟩ : ∃ x n c, A = .slice x n c := by
          rcases HU.out.1.acts.2 with ⟨e, _⟩ | ⟨g', cap, cur, e, _⟩
          · exact ⟨none, 0, 0, e⟩
          · exact ⟨_, _, cap, e⟩
        subst hAs
        obtain ⟨j1, kj, ky0, ky1, ky2⟩ := info_parts actInfo
        have cA := HU.out.1.bd.at_ (i := 65550) (by decide) dc_A
        have ct : w5.cell? ⟨g, 65537, none⟩ = some (.int .u64 b.t) := HU.out.1.bd.at_ (i := 65537) (by decide) dc_t
        have HNA := Lib.hid (And.intro (own_blk_ne HU.out.1.acts HU.out.1.bd (by decide)) (And.intro (own_types_ne HU.out.1.acts HU.out.1.edges (by decide)) (own_types_ne HU.out.1.acts HU.out.1.down (by decide))))
        go_upto_region 10 with fail
        clear cl2
        refine wp_region_held_drew (S := fun w' => w'.cell? ⟨g, 65537, none⟩ = some (.int .u64 b.t)) (by kernel_rfl) ?_ (fun hHeld => ?_)
        · exact ct
        have HW := Lib.hid (show DcAt w5.drew base g { b with bo := v % 8, spk := S, mic := false } ph zs al (es ++ [b.t]) D (.slice AA an ac) (.slice A3 (es.length + 1) c3) ∧ Ch w w5.drew (BdBlk g (.slice AA an ac) (.slice EA en ec)) ∧ w.heap.size ≤ w5.drew.heap.size from ⟨⟨HU.out.1.bd, HU.out.1.down, HU.out.1.acts, HU.out.1.edges⟩, ⟨HU.out.2.1.os, HU.out.2.1.tape, HU.out.2.1.output, HU.out.2.1.size, HU.out.2.1.block⟩, HU.out.2.2.2⟩)
        have HNB := Lib.hid HU.out.2.2.1
        have cAW : w5.drew.cell? ⟨g, 65550, none⟩ = some (.slice AA an ac) := cA
        have ctW : w5.drew.cell? ⟨g, 65537, none⟩ = some (.int .u64 b.t) := ct
        clear cA ct HU
        generalize w5.drew = W2 at *
        refine wpAnyH_take (i := 0) (oi := _) (v := ?_) (by simp only [List.getElem?_toArray, List.getElem?_cons_succ, List.getElem?_cons_zero]; rfl) (by kernel_rfl) (by kernel_rfl) (by kernel_rfl) (by intro _ _ _ h; exact h) (Or.inl ⟨by rfl, ?_⟩) (by assumption) ?_
        rotate_left
        · intro w hSw
          try dsimp only at hSw
          go_simp
          try with_reducible rfl
        try simp only [Act.put, List.setIfInBounds_toArray, List.set_cons_zero, List.set_cons_succ]
        refine wpAnyH_take (i := 1) (oi := _) (v := ?_) (by simp only [List.getElem?_toArray, List.getElem?_cons_succ, List.getElem?_cons_zero]; rfl) (by kernel_rfl) (by kernel_rfl) (by kernel_rfl) (by intro _ _ _ h; exact h) (Or.inl ⟨by rfl, ?_⟩) (by assumption) ?_
        rotate_left
        · intro w hSw
          try dsimp only at hSw
          go_simp
          try with_reducible rfl
        try simp only [Act.put, List.setIfInBounds_toArray, List.set_cons_zero, List.set_cons_succ]
        refine wpAnyH_take (i := 2) (oi := _) (v := ?_) (by simp only [List.getElem?_toArray, List.getElem?_cons_succ, List.getElem?_cons_zero]; rfl) (by kernel_rfl) (by kernel_rfl) (by kernel_rfl) (by intro _ _ _ h; exact h) (Or.inl ⟨by rfl, ?_⟩) (by assumption) ?_
        rotate_left
        · intro w hSw
          try dsimp only at hSw
          go_simp
          try with_reducible rfl
        try simp only [Act.put, List.setIfInBounds_toArray, List.set_cons_zero, List.set_cons_succ]
        refine wpAnyH_take (i := 3) (oi := _) (v := ?_) (by simp only [List.getElem?_toArray, List.getElem?_cons_succ, List.getElem?_cons_zero]; rfl) (by kernel_rfl) (by kernel_rfl) (by kernel_rfl) (by intro _ _ _ h; exact h) (Or.inl ⟨by rfl, ?_⟩) (by assumption) ?_
        rotate_left
        · intro w hSw
          try dsimp only at hSw
          go_simp
          try with_reducible rfl
        try simp only [Act.put, List.setIfInBounds_toArray, List.set_cons_zero, List.set_cons_succ]
        refine wpAnyH_take (i := 5) (oi := _) (v := ?_) (by simp only [List.getElem?_toArray, List.getElem?_cons_succ, List.getElem?_cons_zero]; rfl) (by kernel_rfl) (by kernel_rfl) (by kernel_rfl) (by intro _ _ _ h; exact h) (Or.inl ⟨by rfl, ?_⟩) (by assumption) ?_
        rotate_left
        · intro w hSw
          try dsimp only at hSw
          go_simp
          try with_reducible rfl
        try simp only [Act.put, List.setIfInBounds_toArray, List.set_cons_zero, List.set_cons_succ]
        refine wpAnyH_take (i := 6) (oi := _) (v := ?_) (by simp only [List.getElem?_toArray, List.getElem?_cons_succ, List.getElem?_cons_zero]; rfl) (by kernel_rfl) (by kernel_rfl) (by kernel_rfl) (by intro _ _ _ h; exact h) (Or.inl ⟨by rfl, ?_⟩) (by assumption) ?_
        rotate_left
        · intro w hSw
          try dsimp only at hSw
          go_simp
          try with_reducible rfl
        try simp only [Act.put, List.setIfInBounds_toArray, List.set_cons_zero, List.set_cons_succ]
        refine wpAnyH_take (i := 7) (oi := _) (v := ?_) (by simp only [List.getElem?_toArray, List.getElem?_cons_succ, List.getElem?_cons_zero]; rfl) (by kernel_rfl) (by kernel_rfl) (by kernel_rfl) (by intro _ _ _ h; exact h) (Or.inl ⟨by rfl, ?_⟩) (by assumption) ?_
        rotate_left
        · intro w hSw
          try dsimp only at hSw
          go_simp
          try with_reducible rfl
        try simp only [Act.put, List.setIfInBounds_toArray, List.set_cons_zero, List.set_cons_succ]
        refine wpAnyH_take (i := 8) (oi := _) (v := ?_) (by simp only [List.getElem?_toArray, List.getElem?_cons_succ, List.getElem?_cons_zero]; rfl) (by kernel_rfl) (by kernel_rfl) (by kernel_rfl) (by intro _ _ _ h; exact h) (Or.inl ⟨by rfl, ?_⟩) (by assumption) ?_
        rotate_left
        · intro w hSw
          try dsimp only at hSw
          go_simp
          try with_reducible rfl
        try simp only [Act.put, List.setIfInBounds_toArray, List.set_cons_zero, List.set_cons_succ]
        refine wpAnyH_take (i := 9) (oi := _) (v := ?_) (by simp only [List.getElem?_toArray, List.getElem?_cons_succ, List.getElem?_cons_zero]; rfl) (by kernel_rfl) (by kernel_rfl) (by kernel_rfl) (by intro _ _ _ h; exact h) (Or.inl ⟨by rfl, ?_⟩) (by assumption) ?_
        rotate_left
        · intro w hSw
          try dsimp only at hSw
          go_simp
          try with_reducible rfl
        try simp only [Act.put, List.setIfInBounds_toArray, List.set_cons_zero, List.set_cons_succ]
        refine wpAnyH_take (i := 10) (oi := _) (v := ?_) (by simp only [List.getElem?_toArray, List.getElem?_cons_succ, List.getElem?_cons_zero]; rfl) (by kernel_rfl) (by kernel_rfl) (by kernel_rfl) (by intro _ _ _ h; exact h) (Or.inl ⟨by rfl, ?_⟩) (by assumption) ?_
        rotate_left
        · intro w hSw
          try dsimp only at hSw
          go_simp
          try with_reducible rfl
        try simp only [Act.put, List.setIfInBounds_toArray, List.set_cons_zero, List.set_cons_succ]
        refine wpAnyH_take (i := 11) (oi := _) (v := ?_) (by simp only [List.getElem?_toArray, List.getElem?_cons_succ, List.getElem?_cons_zero]; rfl) (by kernel_rfl) (by kernel_rfl) (by kernel_rfl) (by intro _ _ _ h; exact h) (Or.inl ⟨by rfl, ?_⟩) (by assumption) ?_
        rotate_left
        · intro w hSw
          try dsimp only at hSw
          go_simp
          try with_reducible rfl
        try simp only [Act.put, List.setIfInBounds_toArray, List.set_cons_zero, List.set_cons_succ]
        refine wpAnyH_ready (rs := [4, 12]) (by kernel_rfl) (by simp) ?_
        refine AllReadyH.cons (o := _) (by simp only [List.getElem?_toArray, List.getElem?_cons_succ, List.getElem?_cons_zero]; rfl) (fun K hK => ?_) (AllReadyH.cons (o := _) (by simp only [List.getElem?_toArray, List.getElem?_cons_succ, List.getElem?_cons_zero]; rfl) (fun K hK => ?_) AllReadyH.nil)
        · go_simp
          refine hK.out _ _ ?_ (fun hHeld => ?_)
          · exact ctW
          clear hK K
          try simp only [Act.put, List.setIfInBounds_toArray, List.set_cons_zero, List.set_cons_succ]
          refine wpAnyH_ready (rs := [12]) (by kernel_rfl) (by simp) ?_
          refine AllReadyH.cons (o := _) (by simp only [List.getElem?_toArray, List.getElem?_cons_succ, List.getElem?_cons_zero]; rfl) (fun K hK => ?_) AllReadyH.nil
          have ctA : (W2.alloc (.cells #[.int .u64 b.t, .bool true, .int .u16 port, .int .u8 v] 72)).cell? ⟨g, 65537, none⟩ = some (.int .u64 b.t) := alloc_of ctW
          have cAA : (W2.alloc (.cells #[.int .u64 b.t, .bool true, .int .u16 port, .int .u8 v] 72)).cell? ⟨g, 65550, none⟩ = some (.slice AA an ac) := alloc_of cAW
          go_simp
          refine hK.out _ _ ?_ (fun hHeld => ?_)
          · exact ctA
          clear hK K
          try simp only [Act.put, List.setIfInBounds_toArray, List.set_cons_zero, List.set_cons_succ]
          refine wpAnyH_ready (rs := [13]) (by kernel_rfl) (by simp) ?_
          refine AllReadyH.cons (o := _) (by simp only [List.getElem?_toArray, List.getElem?_cons_succ, List.getElem?_cons_zero]; rfl) (fun K hK => ?_) AllReadyH.nil
          have HC := Lib.hid (show Reads (W2.alloc (.cells #[.int .u64 b.t, .bool true, .int .u16 port, .int .u8 v] 72)) (W2.alloc (.cells #[.int .u64 b.t, .bool true, .int .u16 port, .int .u8 v] 72)).heap.size 4 (some ⟨W2.heap.size, 0, none⟩) 1 [.int .u64 b.t, .bool true, .int .u16 port, .int .u8 v] ∧ al.length + 1 ≤ maxLen ∧ (al.length + 1) * 16 ≤ 140737488355328 ∧ base ≤ (W2.alloc (.cells #[.int .u64 b.t, .bool true, .int .u16 port, .int .u8 v] 72)).heap.size from ⟨⟨rfl, fun _ => ⟨_, rfl, by simp, lit_cells W2 [.int .u64 b.t, .bool true, .int .u16 port, .int .u8 v] 72⟩⟩, by unfold maxLen; omega, by omega, by have := HW.out.2.2; simp; omega⟩)
          have hown9 := HW.out.1.acts.alloc (.cells #[.int .u64 b.t, .bool true, .int .u16 port, .int .u8 v] 72)
          refine step_append_any _ (by rfl) _ _ _ (by rfl) base 72 j1 (.agg #[.int .u64 0, .bool false, .int .u16 0, .int .u8 0]) 4 16 Try.underlying33 kj ky0 ky1 ky2 rfl (by decide) (.slice AA an ac) al.length _ (by rfl) hown9 _ (some ⟨W2.heap.size, 0, none⟩) 1 1 [.int .u64 b.t, .bool true, .int .u16 port, .int .u8 v] (by rfl) HC.out.1 (by simp [Value.oneCell']) HC.out.2.1 HC.out.2.2.1 HC.out.2.2.2 ?_
          intro v7 w7 own3 hg3 hv3
          have hv9 := hv3
          obtain ⟨A7, c7, rfl⟩ := own_slice own3
          have hne3 : (some g : Option Nat) ≠ (Value.slice AA an ac).ownBlock := fun e => HNA.out.1 e.symm
          have hB3 : DcIs w7 g { b with bo := v % 8, spk := S, mic := false } ph D (.slice AA an ac) (.slice A3 (es.length + 1) c3) := Blk.grown (Blk.alloc HW.out.1.bd _) hg3 hne3
          have hE3 := (HW.out.1.edges.alloc (.cells #[.int .u64 b.t, .bool true, .int .u16 port, .int .u8 v] 72)).kept hg3 (by rcases he : Value.ownBlock (.slice A3 (es.length + 1) c3) with _ | k; exact .inl rfl; exact .inr (fun e => HNA.out.2.1 k e.symm he))
          have hD3 := (HW.out.1.down.alloc (.cells #[.int .u64 b.t, .bool true, .int .u16 port, .int .u8 v] 72)).kept hg3 (by rcases he : D.ownBlock with _ | k; exact .inl rfl; exact .inr (fun e => HNA.out.2.2 k e.symm he))
          have hch3 : Ch w w7 (BdBlk g (.slice AA an ac) (.slice EA en ec)) := (HW.out.2.1.trans (Ch.of_below (φ := fun _ => False) (w := W2) ((Below.refl _ _).alloc (Nat.le_refl _) _)) (χ := BdBlk g (.slice AA an ac) (.slice EA en ec)) (fun _ h => h) (fun _ _ h => h.elim)).trans (Ch.of_grown (φ := fun k => (Value.slice AA an ac).ownBlock = some k) hg3 (fun k e => e)) (fun _ h => h) (fun _ _ h => .inr (.inl h))
          have ct3 : w7.cell? ⟨g, 65537, none⟩ = some (.int .u64 b.t) := hB3.at_ (by decide) dc_t
          refine hK.out _ _ ?_ (fun hHeld => ?_)
          · exact ct3
          clear hK K
          try simp only [Act.put, List.setIfInBounds_toArray, List.set_cons_zero, List.set_cons_succ]
          have H7 := Lib.hid (show DcIs w7 g { b with bo := v % 8, spk := S, mic := false } ph D (.slice AA an ac) (.slice A3 (es.length + 1) c3) ∧ w7.ownsRow base 72 4 (.slice A7 (al.length + 1) c7) (al.length + 1) (actV al ++ [.int .u64 b.t, .bool true, .int .u16 port, .int .u8 v]) ∧ w7.ownsRow base 32 1 (.slice A3 (es.length + 1) c3) ((es ++ [b.t])).length (((es ++ [b.t])).map (Value.int .u64)) ∧ w7.ownsRow base 3 1 D zs.length (zs.map (Value.int .i64)) ∧ Ch w w7 (BdBlk g (.slice AA an ac) (.slice EA en ec)) ∧ NewBlk w (.slice AA an ac) (.slice A7 (al.length + 1) c7) from ⟨hB3, own3, hE3, hD3, hch3, by
            rcases hv9 with h | h
            · exact .inl h
            · exact .inr ⟨_, h, by have := HW.out.2.2; simp; omega⟩⟩)
          clear own3 hg3 hv3 hv9 hB3 hE3 hD3 hch3 hown9 hne3
          have dA : w7.cell? ⟨g, 65550, none⟩ = some (.slice AA an ac) := H7.out.1.at_ (by decide) dc_A
          have eA : w7.frozen? ⟨g, 65550, none⟩ = false := H7.out.1.fz _
          refine wpAnyH_take (i := 14) (oi := _) (v := ?_) (by simp only [List.getElem?_toArray, List.getElem?_cons_succ, List.getElem?_cons_zero]; rfl) (by kernel_rfl) (by kernel_rfl) (by kernel_rfl) (by intro _ _ _ h; exact h) (Or.inl ⟨by rfl, ?_⟩) (by assumption) ?_
          rotate_left
          · intro w hSw
            try dsimp only at hSw
            go_simp
            try with_reducible rfl
          try simp only [Act.put, List.setIfInBounds_toArray, List.set_cons_zero, List.set_cons_succ]
          refine wpAnyH_take (i := 15) (oi := _) (v := ?_) (by simp only [List.getElem?_toArray, List.getElem?_cons_succ, List.getElem?_cons_zero]; rfl) (by kernel_rfl) (by kernel_rfl) (by kernel_rfl) (by intro _ _ _ h; exact h) (Or.inl ⟨by rfl, ?_⟩) (by assumption) ?_
          rotate_left
          · intro w hSw
            try dsimp only at hSw
            go_simp
            try with_reducible rfl
          try simp only [Act.put, List.setIfInBounds_toArray, List.set_cons_zero, List.set_cons_succ]
          refine wpAnyH_ready (rs := [16]) (by kernel_rfl) (by simp) ?_
          refine AllReadyH.cons (o := _) (by simp only [List.getElem?_toArray, List.getElem?_cons_succ, List.getElem?_cons_zero]; rfl) (fun K hK => ?_) AllReadyH.nil
          go_simp
          refine hK.out _ _ ?_ (fun hHeld => ?_)
          · exact (World.cell?_setCell_other _ _ _ _ (by intro e; injection e with _ e; exact absurd e (by decide))).trans ct3
          clear hK K
          try simp only [Act.put, List.setIfInBounds_toArray, List.set_cons_zero, List.set_cons_succ]
          refine wpAnyH_done (by kernel_rfl) ?_ _
          clear dA eA ct3
          have hal := own_blk_ne H7.out.2.1 H7.out.1 (by decide)
          have hel := own_blk_ne H7.out.2.2.1 H7.out.1 (by decide)
          have hdl := own_blk_ne H7.out.2.2.2.1 H7.out.1 (by decide)
          have hG := grown_cell w7 g 65550 (.slice A7 (al.length + 1) c7)
          have HX := Lib.hid (show DcAt (w7.setCell ⟨g, 65550, none⟩ (.slice A7 (al.length + 1) c7)) base g { b with bo := v % 8, spk := S, mic := false } ph zs (al ++ [⟨b.t, true, port, v⟩]) ((es ++ [b.t])) D (.slice A7 (al.length + 1) c7) (.slice A3 (es.length + 1) c3) ∧ Ch w (w7.setCell ⟨g, 65550, none⟩ (.slice A7 (al.length + 1) c7)) (BdBlk g (.slice AA an ac) (.slice EA en ec)) from ⟨⟨H7.out.1.put (dset_A _), H7.out.2.2.2.1.kept hG (.inr hdl), by rw [actV_snoc, List.length_append]; exact H7.out.2.1.kept hG (.inr hal), H7.out.2.2.1.kept hG (.inr hel)⟩, H7.out.2.2.2.2.1.trans (Ch.of_grown (φ := fun k => k = g) hG (fun k e => by injection e with e; exact e.symm)) (fun _ h => h) (fun _ _ h => .inl h)⟩)
          clear hG hal hel hdl
          generalize (w7.setCell ⟨g, 65550, none⟩ (.slice A7 (al.length + 1) c7)) = w8 at *
          go_wp2
          go_end0
          exact ⟨_, _, _, rfl, by rw [HES.out.1, HES.out.2]; unfold logS; rw [if_pos HL.out]; exact HX.out.1, HX.out.2, H7.out.2.2.2.2.2, HNB.out⟩
        · have ctA : (W2.alloc (.cells #[.int .u64 b.t, .bool true, .int .u16 port, .int .u8 v] 72)).cell? ⟨g, 65537, none⟩ = some (.int .u64 b.t) := alloc_of ctW
          have cAA : (W2.alloc (.cells #[.int .u64 b.t, .bool true, .int .u16 port, .int .u8 v] 72)).cell? ⟨g, 65550, none⟩ = some (.slice AA an ac) := alloc_of cAW
          go_simp
          refine hK.out _ _ ?_ (fun hHeld => ?_)
          · exact ctA
          clear hK K
          try simp only [Act.put, List.setIfInBounds_toArray, List.set_cons_zero, List.set_cons_succ]
          refine wpAnyH_ready (rs := [4]) (by kernel_rfl) (by simp) ?_
          refine AllReadyH.cons (o := _) (by simp only [List.getElem?_toArray, List.getElem?_cons_succ, List.getElem?_cons_zero]; rfl) (fun K hK => ?_) AllReadyH.nil
          go_simp
          refine hK.out _ _ ?_ (fun hHeld => ?_)
          · exact ctA
          clear hK K
          try simp only [Act.put, List.setIfInBounds_toArray, List.set_cons_zero, List.set_cons_succ]
          refine wpAnyH_ready (rs := [13]) (by kernel_rfl) (by simp) ?_
          refine AllReadyH.cons (o := _) (by simp only [List.getElem?_toArray, List.getElem?_cons_succ, List.getElem?_cons_zero]; rfl) (fun K hK => ?_) AllReadyH.nil
          have HC := Lib.hid (show Reads (W2.alloc (.cells #[.int .u64 b.t, .bool true, .int .u16 port, .int .u8 v] 72)) (W2.alloc (.cells #[.int .u64 b.t, .bool true, .int .u16 port, .int .u8 v] 72)).heap.size 4 (some ⟨W2.heap.size, 0, none⟩) 1 [.int .u64 b.t, .bool true, .int .u16 port, .int .u8 v] ∧ al.length + 1 ≤ maxLen ∧ (al.length + 1) * 16 ≤ 140737488355328 ∧ base ≤ (W2.alloc (.cells #[.int .u64 b.t, .bool true, .int .u16 port, .int .u8 v] 72)).heap.size from ⟨⟨rfl, fun _ => ⟨_, rfl, by simp, lit_cells W2 [.int .u64 b.t, .bool true, .int .u16 port, .int .u8 v] 72⟩⟩, by unfold maxLen; omega, by omega, by have := HW.out.2.2; simp; omega⟩)
          have hown9 := HW.out.1.acts.alloc (.cells #[.int .u64 b.t, .bool true, .int .u16 port, .int .u8 v] 72)
          refine step_append_any _ (by rfl) _ _ _ (by rfl) base 72 j1 (.agg #[.int .u64 0, .bool false, .int .u16 0, .int .u8 0]) 4 16 Try.underlying33 kj ky0 ky1 ky2 rfl (by decide) (.slice AA an ac) al.length _ (by rfl) hown9 _ (some ⟨W2.heap.size, 0, none⟩) 1 1 [.int .u64 b.t, .bool true, .int .u16 port, .int .u8 v] (by rfl) HC.out.1 (by simp [Value.oneCell']) HC.out.2.1 HC.out.2.2.1 HC.out.2.2.2 ?_
          intro v7 w7 own3 hg3 hv3
          have hv9 := hv3
          obtain ⟨A7, c7, rfl⟩ := own_slice own3
          have hne3 : (some g : Option Nat) ≠ (Value.slice AA an ac).ownBlock := fun e => HNA.out.1 e.symm
          have hB3 : DcIs w7 g { b with bo := v % 8, spk := S, mic := false } ph D (.slice AA an ac) (.slice A3 (es.length + 1) c3) := Blk.grown (Blk.alloc HW.out.1.bd _) hg3 hne3
          have hE3 := (HW.out.1.edges.alloc (.cells #[.int .u64 b.t, .bool true, .int .u16 port, .int .u8 v] 72)).kept hg3 (by rcases he : Value.ownBlock (.slice A3 (es.length + 1) c3) with _ | k; exact .inl rfl; exact .inr (fun e => HNA.out.2.1 k e.symm he))
          have hD3 := (HW.out.1.down.alloc (.cells #[.int .u64 b.t, .bool true, .int .u16 port, .int .u8 v] 72)).kept hg3 (by rcases he : D.ownBlock with _ | k; exact .inl rfl; exact .inr (fun e => HNA.out.2.2 k e.symm he))
          have hch3 : Ch w w7 (BdBlk g (.slice AA an ac) (.slice EA en ec)) := (HW.out.2.1.trans (Ch.of_below (φ := fun _ => False) (w := W2) ((Below.refl _ _).alloc (Nat.le_refl _) _)) (χ := BdBlk g (.slice AA an ac) (.slice EA en ec)) (fun _ h => h) (fun _ _ h => h.elim)).trans (Ch.of_grown (φ := fun k => (Value.slice AA an ac).ownBlock = some k) hg3 (fun k e => e)) (fun _ h => h) (fun _ _ h => .inr (.inl h))
          have ct3 : w7.cell? ⟨g, 65537, none⟩ = some (.int .u64 b.t) := hB3.at_ (by decide) dc_t
          refine hK.out _ _ ?_ (fun hHeld => ?_)
          · exact ct3
          clear hK K
          try simp only [Act.put, List.setIfInBounds_toArray, List.set_cons_zero, List.set_cons_succ]
          have H7 := Lib.hid (show DcIs w7 g { b with bo := v % 8, spk := S, mic := false } ph D (.slice AA an ac) (.slice A3 (es.length + 1) c3) ∧ w7.ownsRow base 72 4 (.slice A7 (al.length + 1) c7) (al.length + 1) (actV al ++ [.int .u64 b.t, .bool true, .int .u16 port, .int .u8 v]) ∧ w7.ownsRow base 32 1 (.slice A3 (es.length + 1) c3) ((es ++ [b.t])).length (((es ++ [b.t])).map (Value.int .u64)) ∧ w7.ownsRow base 3 1 D zs.length (zs.map (Value.int .i64)) ∧ Ch w w7 (BdBlk g (.slice AA an ac) (.slice EA en ec)) ∧ NewBlk w (.slice AA an ac) (.slice A7 (al.length + 1) c7) from ⟨hB3, own3, hE3, hD3, hch3, by
            rcases hv9 with h | h
            · exact .inl h
            · exact .inr ⟨_, h, by have := HW.out.2.2; simp; omega⟩⟩)
          clear own3 hg3 hv3 hv9 hB3 hE3 hD3 hch3 hown9 hne3
          have dA : w7.cell? ⟨g, 65550, none⟩ = some (.slice AA an ac) := H7.out.1.at_ (by decide) dc_A
          have eA : w7.frozen? ⟨g, 65550, none⟩ = false := H7.out.1.fz _
          refine wpAnyH_take (i := 14) (oi := _) (v := ?_) (by simp only [List.getElem?_toArray, List.getElem?_cons_succ, List.getElem?_cons_zero]; rfl) (by kernel_rfl) (by kernel_rfl) (by kernel_rfl) (by intro _ _ _ h; exact h) (Or.inl ⟨by rfl, ?_⟩) (by assumption) ?_
          rotate_left
          · intro w hSw
            try dsimp only at hSw
            go_simp
            try with_reducible rfl
          try simp only [Act.put, List.setIfInBounds_toArray, List.set_cons_zero, List.set_cons_succ]
          refine wpAnyH_take (i := 15) (oi := _) (v := ?_) (by simp only [List.getElem?_toArray, List.getElem?_cons_succ, List.getElem?_cons_zero]; rfl) (by kernel_rfl) (by kernel_rfl) (by kernel_rfl) (by intro _ _ _ h; exact h) (Or.inl ⟨by rfl, ?_⟩) (by assumption) ?_
          rotate_left
          · intro w hSw
            try dsimp only at hSw
            go_simp
            try with_reducible rfl
          try simp only [Act.put, List.setIfInBounds_toArray, List.set_cons_zero, List.set_cons_succ]
          refine wpAnyH_ready (rs := [16]) (by kernel_rfl) (by simp) ?_
          refine AllReadyH.cons (o := _) (by simp only [List.getElem?_toArray, List.getElem?_cons_succ, List.getElem?_cons_zero]; rfl) (fun K hK => ?_) AllReadyH.nil
          go_simp
          refine hK.out _ _ ?_ (fun hHeld => ?_)
          · exact (World.cell?_setCell_other _ _ _ _ (by intro e; injection e with _ e; exact absurd e (by decide))).trans ct3
          clear hK K
          try simp only [Act.put, List.setIfInBounds_toArray, List.set_cons_zero, List.set_cons_succ]
          refine wpAnyH_done (by kernel_rfl) ?_ _
          clear dA eA ct3
          have hal := own_blk_ne H7.out.2.1 H7.out.1 (by decide)
          have hel := own_blk_ne H7.out.2.2.1 H7.out.1 (by decide)
          have hdl := own_blk_ne H7.out.2.2.2.1 H7.out.1 (by decide)
          have hG := grown_cell w7 g 65550 (.slice A7 (al.length + 1) c7)
          have HX := Lib.hid (show DcAt (w7.setCell ⟨g, 65550, none⟩ (.slice A7 (al.length + 1) c7)) base g { b with bo := v % 8, spk := S, mic := false } ph zs (al ++ [⟨b.t, true, port, v⟩]) ((es ++ [b.t])) D (.slice A7 (al.length + 1) c7) (.slice A3 (es.length + 1) c3) ∧ Ch w (w7.setCell ⟨g, 65550, none⟩ (.slice A7 (al.length + 1) c7)) (BdBlk g (.slice AA an ac) (.slice EA en ec)) from ⟨⟨H7.out.1.put (dset_A _), H7.out.2.2.2.1.kept hG (.inr hdl), by rw [actV_snoc, List.length_append]; exact H7.out.2.1.kept hG (.inr hal), H7.out.2.2.1.kept hG (.inr hel)⟩, H7.out.2.2.2.2.1.trans (Ch.of_grown (φ := fun k => k = g) hG (fun k e => by injection e with e; exact e.symm)) (fun _ h => h) (fun _ _ h => .inl h)⟩)
          clear hG hal hel hdl
          generalize (w7.setCell ⟨g, 65550, none⟩ (.slice A7 (al.length + 1) c7)) = w8 at *
          go_wp2
          go_end0
          exact ⟨_, _, _, rfl, by rw [HES.out.1, HES.out.2]; unfold logS; rw [if_pos HL.out]; exact HX.out.1, HX.out.2, H7.out.2.2.2.2.2, HNB.out⟩
  · have cm : w2.cell? ⟨g, 65548, none⟩ = some (.bool false) := by rw [← hbm]; exact c48
    have HBM := Lib.hid hbm
    clear c48 hbm
    have HES := Lib.hid (show BB = _ ∧ ES = es ++ [b.t] from ⟨HB.out.1, HB.out.2.trans (by rw [HBM.out]; rfl)⟩)
    obtain ⟨EA, en, ec, hEs⟩ : ∃ x n c, E = .slice x n c := by
      rcases HZ.out.1.edges.2 with ⟨e, _⟩ | ⟨g', cap, cur, e, _⟩
      · exact ⟨none, 0, 0, e⟩
      · exact ⟨_, _, cap, e⟩
    subst hEs
    obtain ⟨i1, hj, hy0, hy1, hy2⟩ := info_parts u64Info
    have cE := HZ.out.1.bd.at_ (i := 65551) (by decide) dc_E
    have ct : w2.cell? ⟨g, 65537, none⟩ = some (.int .u64 b.t) := HZ.out.1.bd.at_ (i := 65537) (by decide) dc_t
    have HNE := Lib.hid (And.intro (own_blk_ne HZ.out.1.edges HZ.out.1.bd (by decide)) (And.intro (own_types_ne HZ.out.1.edges HZ.out.1.acts (by decide)) (own_types_ne HZ.out.1.edges HZ.out.1.down (by decide))))
    go_upto_region 7 with fail
    clear cm
    refine wp_region_held_drew (S := fun w' => w'.cell? ⟨g, 65537, none⟩ = some (.int .u64 b.t)) (by kernel_rfl) ?_ (fun hHeld => ?_)
    · exact ct
    have HW := Lib.hid (show DcAt w2.drew base g { b with bo := v % 8, spk := S } ph zs al es D A (.slice EA en ec) ∧ Ch w w2.drew (fun k => k = g ∨ (Value.slice EA en ec).ownBlock = some k) ∧ w.heap.size ≤ w2.drew.heap.size from ⟨⟨HZ.out.1.bd, HZ.out.1.down, HZ.out.1.acts, HZ.out.1.edges⟩, ⟨HZ.out.2.1.os, HZ.out.2.1.tape, HZ.out.2.1.output, HZ.out.2.1.size, fun k hk hn => HZ.out.2.1.block k hk (fun e => hn (.inl e))⟩, HZ.out.2.2⟩)
    have cEW : w2.drew.cell? ⟨g, 65551, none⟩ = some (.slice EA en ec) := cE
    have ctW : w2.drew.cell? ⟨g, 65537, none⟩ = some (.int .u64 b.t) := ct
    clear cE ct HZ
    generalize w2.drew = W at *
    refine wpAnyH_take (i := 0) (oi := _) (v := ?_) (by simp only [List.getElem?_toArray, List.getElem?_cons_succ, List.getElem?_cons_zero]; rfl) (by kernel_rfl) (by kernel_rfl) (by kernel_rfl) (by intro _ _ _ h; exact h) (Or.inl ⟨by rfl, ?_⟩) (by assumption) ?_
    rotate_left
    · intro w hSw
      try dsimp only at hSw
      go_simp
      try with_reducible rfl
    try simp only [Act.put, List.setIfInBounds_toArray, List.set_cons_zero, List.set_cons_succ]
    refine wpAnyH_take (i := 1) (oi := _) (v := ?_) (by simp only [List.getElem?_toArray, List.getElem?_cons_succ, List.getElem?_cons_zero]; rfl) (by kernel_rfl) (by kernel_rfl) (by kernel_rfl) (by intro _ _ _ h; exact h) (Or.inl ⟨by rfl, ?_⟩) (by assumption) ?_
    rotate_left
    · intro w hSw
      try dsimp only at hSw
      go_simp
      try with_reducible rfl
    try simp only [Act.put, List.setIfInBounds_toArray, List.set_cons_zero, List.set_cons_succ]
    refine wpAnyH_take (i := 2) (oi := _) (v := ?_) (by simp only [List.getElem?_toArray, List.getElem?_cons_succ, List.getElem?_cons_zero]; rfl) (by kernel_rfl) (by kernel_rfl) (by kernel_rfl) (by intro _ _ _ h; exact h) (Or.inl ⟨by rfl, ?_⟩) (by assumption) ?_
    rotate_left
    · intro w hSw
      try dsimp only at hSw
      go_simp
      try with_reducible rfl
    try simp only [Act.put, List.setIfInBounds_toArray, List.set_cons_zero, List.set_cons_succ]
    refine wpAnyH_take (i := 3) (oi := _) (v := ?_) (by simp only [List.getElem?_toArray, List.getElem?_cons_succ, List.getElem?_cons_zero]; rfl) (by kernel_rfl) (by kernel_rfl) (by kernel_rfl) (by intro _ _ _ h; exact h) (Or.inl ⟨by rfl, ?_⟩) (by assumption) ?_
    rotate_left
    · intro w hSw
      try dsimp only at hSw
      go_simp
      try with_reducible rfl
    try simp only [Act.put, List.setIfInBounds_toArray, List.set_cons_zero, List.set_cons_succ]
    refine wpAnyH_take (i := 5) (oi := _) (v := ?_) (by simp only [List.getElem?_toArray, List.getElem?_cons_succ, List.getElem?_cons_zero]; rfl) (by kernel_rfl) (by kernel_rfl) (by kernel_rfl) (by intro _ _ _ h; exact h) (Or.inl ⟨by rfl, ?_⟩) (by assumption) ?_
    rotate_left
    · intro w hSw
      try dsimp only at hSw
      go_simp
      try with_reducible rfl
    try simp only [Act.put, List.setIfInBounds_toArray, List.set_cons_zero, List.set_cons_succ]
    refine wpAnyH_take (i := 6) (oi := _) (v := ?_) (by simp only [List.getElem?_toArray, List.getElem?_cons_succ, List.getElem?_cons_zero]; rfl) (by kernel_rfl) (by kernel_rfl) (by kernel_rfl) (by intro _ _ _ h; exact h) (Or.inl ⟨by rfl, ?_⟩) (by assumption) ?_
    rotate_left
    · intro w hSw
      try dsimp only at hSw
      go_simp
      try with_reducible rfl
    try simp only [Act.put, List.setIfInBounds_toArray, List.set_cons_zero, List.set_cons_succ]
    refine wpAnyH_take (i := 7) (oi := _) (v := ?_) (by simp only [List.getElem?_toArray, List.getElem?_cons_succ, List.getElem?_cons_zero]; rfl) (by kernel_rfl) (by kernel_rfl) (by kernel_rfl) (by intro _ _ _ h; exact h) (Or.inl ⟨by rfl, ?_⟩) (by assumption) ?_
    rotate_left
    · intro w hSw
      try dsimp only at hSw
      go_simp
      try with_reducible rfl
    try simp only [Act.put, List.setIfInBounds_toArray, List.set_cons_zero, List.set_cons_succ]
    refine wpAnyH_take (i := 8) (oi := _) (v := ?_) (by simp only [List.getElem?_toArray, List.getElem?_cons_succ, List.getElem?_cons_zero]; rfl) (by kernel_rfl) (by kernel_rfl) (by kernel_rfl) (by intro _ _ _ h; exact h) (Or.inl ⟨by rfl, ?_⟩) (by assumption) ?_
    rotate_left
    · intro w hSw
      try dsimp only at hSw
      go_simp
      try with_reducible rfl
    try simp only [Act.put, List.setIfInBounds_toArray, List.set_cons_zero, List.set_cons_succ]
    refine wpAnyH_ready (rs := [4, 9]) (by kernel_rfl) (by simp) ?_
    refine AllReadyH.cons (o := _) (by simp only [List.getElem?_toArray, List.getElem?_cons_succ, List.getElem?_cons_zero]; rfl) (fun K hK => ?_) (AllReadyH.cons (o := _) (by simp only [List.getElem?_toArray, List.getElem?_cons_succ, List.getElem?_cons_zero]; rfl) (fun K hK => ?_) AllReadyH.nil)
    · go_simp
      refine hK.out _ _ ?_ (fun hHeld => ?_)
      · exact ctW
      clear hK K
      try simp only [Act.put, List.setIfInBounds_toArray, List.set_cons_zero, List.set_cons_succ]
      refine wpAnyH_ready (rs := [9]) (by kernel_rfl) (by simp) ?_
      refine AllReadyH.cons (o := _) (by simp only [List.getElem?_toArray, List.getElem?_cons_succ, List.getElem?_cons_zero]; rfl) (fun K hK => ?_) AllReadyH.nil
      have ctA : (W.alloc (.cells #[.int .u64 b.t] 32)).cell? ⟨g, 65537, none⟩ = some (.int .u64 b.t) := alloc_of ctW
      have cEA : (W.alloc (.cells #[.int .u64 b.t] 32)).cell? ⟨g, 65551, none⟩ = some (.slice EA en ec) := alloc_of cEW
      go_simp
      refine hK.out _ _ ?_ (fun hHeld => ?_)
      · exact ctA
      clear hK K
      try simp only [Act.put, List.setIfInBounds_toArray, List.set_cons_zero, List.set_cons_succ]
      refine wpAnyH_ready (rs := [10]) (by kernel_rfl) (by simp) ?_
      refine AllReadyH.cons (o := _) (by simp only [List.getElem?_toArray, List.getElem?_cons_succ, List.getElem?_cons_zero]; rfl) (fun K hK => ?_) AllReadyH.nil
      have HC := Lib.hid (show Reads (W.alloc (.cells #[.int .u64 b.t] 32)) (W.alloc (.cells #[.int .u64 b.t] 32)).heap.size 1 (some ⟨W.heap.size, 0, none⟩) 1 [.int .u64 b.t] ∧ es.length + 1 ≤ maxLen ∧ (es.length + 1) * 8 ≤ 140737488355328 ∧ base ≤ (W.alloc (.cells #[.int .u64 b.t] 32)).heap.size from ⟨⟨rfl, fun _ => ⟨_, rfl, by simp, lit_cells W [.int .u64 b.t] 32⟩⟩, by unfold maxLen; omega, by omega, by have := HW.out.2.2; simp; omega⟩)
      have hown9 := HW.out.1.edges.alloc (.cells #[.int .u64 b.t] 32)
      refine step_append_any _ (by rfl) _ _ _ (by rfl) base 32 i1 (.int .u64 0) 1 8 Try.underlying34 hj hy0 hy1 hy2 rfl (by decide) (.slice EA en ec) es.length _ (by rfl) hown9 _ (some ⟨W.heap.size, 0, none⟩) 1 1 [.int .u64 b.t] (by rfl) HC.out.1 (by simp [Value.oneCell']) HC.out.2.1 HC.out.2.2.1 HC.out.2.2.2 ?_
      intro v3 w4 own3 hg3 hv3
      have hv9 := hv3
      obtain ⟨A3, c3, rfl⟩ := own_slice own3
      have hne3 : (some g : Option Nat) ≠ (Value.slice EA en ec).ownBlock := fun e => HNE.out.1 e.symm
      have hB3 : DcIs w4 g { b with bo := v % 8, spk := S } ph D A (.slice EA en ec) := Blk.grown (Blk.alloc HW.out.1.bd _) hg3 hne3
      have hA3 := (HW.out.1.acts.alloc (.cells #[.int .u64 b.t] 32)).kept hg3 (by rcases he : A.ownBlock with _ | k; exact .inl rfl; exact .inr (fun e => HNE.out.2.1 k e.symm he))
      have hD3 := (HW.out.1.down.alloc (.cells #[.int .u64 b.t] 32)).kept hg3 (by rcases he : D.ownBlock with _ | k; exact .inl rfl; exact .inr (fun e => HNE.out.2.2 k e.symm he))
      have hch3 : Ch w w4 (fun k => k = g ∨ (Value.slice EA en ec).ownBlock = some k) := (HW.out.2.1.trans (Ch.of_below (φ := fun _ => False) (w := W) ((Below.refl _ _).alloc (Nat.le_refl _) _)) (χ := fun k => k = g ∨ (Value.slice EA en ec).ownBlock = some k) (fun _ h => h) (fun _ _ h => h.elim)).trans (Ch.of_grown (φ := fun k => (Value.slice EA en ec).ownBlock = some k) hg3 (fun k e => e)) (fun _ h => h) (fun _ _ h => .inr h)
      have ct3 : w4.cell? ⟨g, 65537, none⟩ = some (.int .u64 b.t) := hB3.at_ (by decide) dc_t
      refine hK.out _ _ ?_ (fun hHeld => ?_)
      · exact ct3
      clear hK K
      try simp only [Act.put, List.setIfInBounds_toArray, List.set_cons_zero, List.set_cons_succ]
      have H3 := Lib.hid (show DcIs w4 g { b with bo := v % 8, spk := S } ph D A (.slice EA en ec) ∧ w4.ownsRow base 72 4 A al.length (actV al) ∧ w4.ownsRow base 32 1 (.slice A3 (es.length + 1) c3) (es.length + 1) (es.map (Value.int .u64) ++ [.int .u64 b.t]) ∧ w4.ownsRow base 3 1 D zs.length (zs.map (Value.int .i64)) ∧ Ch w w4 (fun k => k = g ∨ (Value.slice EA en ec).ownBlock = some k) ∧ NewBlk w (.slice EA en ec) (.slice A3 (es.length + 1) c3) from ⟨hB3, hA3, own3, hD3, hch3, by
        rcases hv9 with h | h
        · exact .inl h
        · exact .inr ⟨_, h, by have := HW.out.2.2; simp; omega⟩⟩)
      clear own3 hg3 hv3 hv9 hB3 hA3 hD3 hch3 hown9 hne3
      have dE : w4.cell? ⟨g, 65551, none⟩ = some (.slice EA en ec) := H3.out.1.at_ (by decide) dc_E
      have eE : w4.frozen? ⟨g, 65551, none⟩ = false := H3.out.1.fz _
      refine wpAnyH_take (i := 11) (oi := _) (v := ?_) (by simp only [List.getElem?_toArray, List.getElem?_cons_succ, List.getElem?_cons_zero]; rfl) (by kernel_rfl) (by kernel_rfl) (by kernel_rfl) (by intro _ _ _ h; exact h) (Or.inl ⟨by rfl, ?_⟩) (by assumption) ?_
      rotate_left
      · intro w hSw
        try dsimp only at hSw
        go_simp
        try with_reducible rfl
      try simp only [Act.put, List.setIfInBounds_toArray, List.set_cons_zero, List.set_cons_succ]
      refine wpAnyH_take (i := 12) (oi := _) (v := ?_) (by simp only [List.getElem?_toArray, List.getElem?_cons_succ, List.getElem?_cons_zero]; rfl) (by kernel_rfl) (by kernel_rfl) (by kernel_rfl) (by intro _ _ _ h; exact h) (Or.inl ⟨by rfl, ?_⟩) (by assumption) ?_
      rotate_left
      · intro w hSw
        try dsimp only at hSw
        go_simp
        try with_reducible rfl
      try simp only [Act.put, List.setIfInBounds_toArray, List.set_cons_zero, List.set_cons_succ]
      refine wpAnyH_ready (rs := [13]) (by kernel_rfl) (by simp) ?_
      refine AllReadyH.cons (o := _) (by simp only [List.getElem?_toArray, List.getElem?_cons_succ, List.getElem?_cons_zero]; rfl) (fun K hK => ?_) AllReadyH.nil
      go_simp
      refine hK.out _ _ ?_ (fun hHeld => ?_)
      · exact (World.cell?_setCell_other _ _ _ _ (by intro e; injection e with _ e; exact absurd e (by decide))).trans ct3
      clear hK K
      try simp only [Act.put, List.setIfInBounds_toArray, List.set_cons_zero, List.set_cons_succ]
      refine wpAnyH_done (by kernel_rfl) ?_ _
      clear dE eE ct3
      have hal := own_blk_ne H3.out.2.1 H3.out.1 (by decide)
      have hel := own_blk_ne H3.out.2.2.1 H3.out.1 (by decide)
      have hdl := own_blk_ne H3.out.2.2.2.1 H3.out.1 (by decide)
      have hG := grown_cell w4 g 65551 (.slice A3 (es.length + 1) c3)
      have HY := Lib.hid (show DcAt (w4.setCell ⟨g, 65551, none⟩ (.slice A3 (es.length + 1) c3)) base g { b with bo := v % 8, spk := S } ph zs al (es ++ [b.t]) D A (.slice A3 (es.length + 1) c3) ∧ Ch w (w4.setCell ⟨g, 65551, none⟩ (.slice A3 (es.length + 1) c3)) (BdBlk g A (.slice EA en ec)) ∧ NewBlk w (.slice EA en ec) (.slice A3 (es.length + 1) c3) from ⟨⟨H3.out.1.put (dset_E _), H3.out.2.2.2.1.kept hG (.inr hdl), H3.out.2.1.kept hG (.inr hal), by rw [List.map_append, List.length_append]; exact H3.out.2.2.1.kept hG (.inr hel)⟩, H3.out.2.2.2.2.1.trans (Ch.of_grown (φ := fun k => k = g) hG (fun k e => by injection e with e; exact e.symm)) (fun _ h => h.elim .inl (fun h => .inr (.inr h))) (fun _ _ h => .inl h), H3.out.2.2.2.2.2⟩)
      clear hG hal hel hdl H3 HW ctW cEW
      generalize (w4.setCell ⟨g, 65551, none⟩ (.slice A3 (es.length + 1) c3)) = wy at *
      have hwy := HY.out.2.1.size
      have m48 := HY.out.1.bd.at_ (i := 65548) (by decide) dc_mic
      have g48 := HY.out.1.bd.fz 65548
      go_upto_region 9 with fail
      have HU := Lib.hid (show DcAt (wy.setCell ⟨g, 65548, none⟩ (.bool true)) base g { b with bo := v % 8, spk := S, mic := true } ph zs al (es ++ [b.t]) D A (.slice A3 (es.length + 1) c3) ∧ Ch w (wy.setCell ⟨g, 65548, none⟩ (.bool true)) (BdBlk g A (.slice EA en ec)) ∧ NewBlk w (.slice EA en ec) (.slice A3 (es.length + 1) c3) ∧ w.heap.size ≤ (wy.setCell ⟨g, 65548, none⟩ (.bool true)).heap.size from ⟨HY.out.1.put (dset_mic _), HY.out.2.1.trans (Ch.of_grown (φ := fun k => k = g) (grown_cell _ _ _ _) (fun k e => by injection e with e; exact e.symm)) (fun _ e => e) (fun _ _ e => .inl e), HY.out.2.2, by simp [World.setCell]; omega⟩)
      clear m48 g48 HY hwy
      generalize (wy.setCell ⟨g, 65548, none⟩ (.bool true)) = w5 at *
      have cl := HU.out.1.bd.at_ (i := 65542) (by decide) dc_log
      cases hlog : b.log
      · have cl2 : w5.cell? ⟨g, 65542, none⟩ = some (.bool false) := by rw [← hlog]; exact cl
        have HL := Lib.hid hlog
        clear cl hlog
        go_wp2
        go_end0
        exact ⟨_, A, (.slice A3 (es.length + 1) c3), rfl, by rw [HES.out.1, HES.out.2]; unfold logS; rw [if_neg (by rw [HL.out]; decide)]; exact HU.out.1, HU.out.2.1, .inl rfl, HU.out.2.2.1⟩
      · have cl2 : w5.cell? ⟨g, 65542, none⟩ = some (.bool true) := by rw [← hlog]; exact cl
        have HL := Lib.hid hlog
        clear cl hlog
        obtain ⟨AA, an, ac, hAs⟩ : ∃ x n c, A = .slice x n c := by
          rcases HU.out.1.acts.2 with ⟨e, _⟩ | ⟨g', cap, cur, e, _⟩
          · exact ⟨none, 0, 0, e⟩
          · exact ⟨_, _, cap, e⟩
        subst hAs
        obtain ⟨j1, kj, ky0, ky1, ky2⟩ := info_parts actInfo
        have cA := HU.out.1.bd.at_ (i := 65550) (by decide) dc_A
        have ct : w5.cell? ⟨g, 65537, none⟩ = some (.int .u64 b.t) := HU.out.1.bd.at_ (i := 65537) (by decide) dc_t
        have HNA := Lib.hid (And.intro (own_blk_ne HU.out.1.acts HU.out.1.bd (by decide)) (And.intro (own_types_ne HU.out.1.acts HU.out.1.edges (by decide)) (own_types_ne HU.out.1.acts HU.out.1.down (by decide))))
        go_upto_region 10 with fail
        clear cl2
        refine wp_region_held_drew (S := fun w' => w'.cell? ⟨g, 65537, none⟩ = some (.int .u64 b.t)) (by kernel_rfl) ?_ (fun hHeld => ?_)
        · exact ct
        have HW := Lib.hid (show DcAt w5.drew base g { b with bo := v % 8, spk := S, mic := true } ph zs al (es ++ [b.t]) D (.slice AA an ac) (.slice A3 (es.length + 1) c3) ∧ Ch w w5.drew (BdBlk g (.slice AA an ac) (.slice EA en ec)) ∧ w.heap.size ≤ w5.drew.heap.size from ⟨⟨HU.out.1.bd, HU.out.1.down, HU.out.1.acts, HU.out.1.edges⟩, ⟨HU.out.2.1.os, HU.out.2.1.tape, HU.out.2.1.output, HU.out.2.1.size, HU.out.2.1.block⟩, HU.out.2.2.2⟩)
        have HNB := Lib.hid HU.out.2.2.1
        have cAW : w5.drew.cell? ⟨g, 65550, none⟩ = some (.slice AA an ac) := cA
        have ctW : w5.drew.cell? ⟨g, 65537, none⟩ = some (.int .u64 b.t) := ct
        clear cA ct HU
        generalize w5.drew = W2 at *
        refine wpAnyH_take (i := 0) (oi := _) (v := ?_) (by simp only [List.getElem?_toArray, List.getElem?_cons_succ, List.getElem?_cons_zero]; rfl) (by kernel_rfl) (by kernel_rfl) (by kernel_rfl) (by intro _ _ _ h; exact h) (Or.inl ⟨by rfl, ?_⟩) (by assumption) ?_
        rotate_left
        · intro w hSw
          try dsimp only at hSw
          go_simp
          try with_reducible rfl
        try simp only [Act.put, List.setIfInBounds_toArray, List.set_cons_zero, List.set_cons_succ]
        refine wpAnyH_take (i := 1) (oi := _) (v := ?_) (by simp only [List.getElem?_toArray, List.getElem?_cons_succ, List.getElem?_cons_zero]; rfl) (by kernel_rfl) (by kernel_rfl) (by kernel_rfl) (by intro _ _ _ h; exact h) (Or.inl ⟨by rfl, ?_⟩) (by assumption) ?_
        rotate_left
        · intro w hSw
          try dsimp only at hSw
          go_simp
          try with_reducible rfl
        try simp only [Act.put, List.setIfInBounds_toArray, List.set_cons_zero, List.set_cons_succ]
        refine wpAnyH_take (i := 2) (oi := _) (v := ?_) (by simp only [List.getElem?_toArray, List.getElem?_cons_succ, List.getElem?_cons_zero]; rfl) (by kernel_rfl) (by kernel_rfl) (by kernel_rfl) (by intro _ _ _ h; exact h) (Or.inl ⟨by rfl, ?_⟩) (by assumption) ?_
        rotate_left
        · intro w hSw
          try dsimp only at hSw
          go_simp
          try with_reducible rfl
        try simp only [Act.put, List.setIfInBounds_toArray, List.set_cons_zero, List.set_cons_succ]
        refine wpAnyH_take (i := 3) (oi := _) (v := ?_) (by simp only [List.getElem?_toArray, List.getElem?_cons_succ, List.getElem?_cons_zero]; rfl) (by kernel_rfl) (by kernel_rfl) (by kernel_rfl) (by intro _ _ _ h; exact h) (Or.inl ⟨by rfl, ?_⟩) (by assumption) ?_
        rotate_left
        · intro w hSw
          try dsimp only at hSw
          go_simp
          try with_reducible rfl
        try simp only [Act.put, List.setIfInBounds_toArray, List.set_cons_zero, List.set_cons_succ]
        refine wpAnyH_take (i := 5) (oi := _) (v := ?_) (by simp only [List.getElem?_toArray, List.getElem?_cons_succ, List.getElem?_cons_zero]; rfl) (by kernel_rfl) (by kernel_rfl) (by kernel_rfl) (by intro _ _ _ h; exact h) (Or.inl ⟨by rfl, ?_⟩) (by assumption) ?_
        rotate_left
        · intro w hSw
          try dsimp only at hSw
          go_simp
          try with_reducible rfl
        try simp only [Act.put, List.setIfInBounds_toArray, List.set_cons_zero, List.set_cons_succ]
        refine wpAnyH_take (i := 6) (oi := _) (v := ?_) (by simp only [List.getElem?_toArray, List.getElem?_cons_succ, List.getElem?_cons_zero]; rfl) (by kernel_rfl) (by kernel_rfl) (by kernel_rfl) (by intro _ _ _ h; exact h) (Or.inl ⟨by rfl, ?_⟩) (by assumption) ?_
        rotate_left
        · intro w hSw
          try dsimp only at hSw
          go_simp
          try with_reducible rfl
        try simp only [Act.put, List.setIfInBounds_toArray, List.set_cons_zero, List.set_cons_succ]
        refine wpAnyH_take (i := 7) (oi := _) (v := ?_) (by simp only [List.getElem?_toArray, List.getElem?_cons_succ, List.getElem?_cons_zero]; rfl) (by kernel_rfl) (by kernel_rfl) (by kernel_rfl) (by intro _ _ _ h; exact h) (Or.inl ⟨by rfl, ?_⟩) (by assumption) ?_
        rotate_left
        · intro w hSw
          try dsimp only at hSw
          go_simp
          try with_reducible rfl
        try simp only [Act.put, List.setIfInBounds_toArray, List.set_cons_zero, List.set_cons_succ]
        refine wpAnyH_take (i := 8) (oi := _) (v := ?_) (by simp only [List.getElem?_toArray, List.getElem?_cons_succ, List.getElem?_cons_zero]; rfl) (by kernel_rfl) (by kernel_rfl) (by kernel_rfl) (by intro _ _ _ h; exact h) (Or.inl ⟨by rfl, ?_⟩) (by assumption) ?_
        rotate_left
        · intro w hSw
          try dsimp only at hSw
          go_simp
          try with_reducible rfl
        try simp only [Act.put, List.setIfInBounds_toArray, List.set_cons_zero, List.set_cons_succ]
        refine wpAnyH_take (i := 9) (oi := _) (v := ?_) (by simp only [List.getElem?_toArray, List.getElem?_cons_succ, List.getElem?_cons_zero]; rfl) (by kernel_rfl) (by kernel_rfl) (by kernel_rfl) (by intro _ _ _ h; exact h) (Or.inl ⟨by rfl, ?_⟩) (by assumption) ?_
        rotate_left
        · intro w hSw
          try dsimp only at hSw
          go_simp
          try with_reducible rfl
        try simp only [Act.put, List.setIfInBounds_toArray, List.set_cons_zero, List.set_cons_succ]
        refine wpAnyH_take (i := 10) (oi := _) (v := ?_) (by simp only [List.getElem?_toArray, List.getElem?_cons_succ, List.getElem?_cons_zero]; rfl) (by kernel_rfl) (by kernel_rfl) (by kernel_rfl) (by intro _ _ _ h; exact h) (Or.inl ⟨by rfl, ?_⟩) (by assumption) ?_
        rotate_left
        · intro w hSw
          try dsimp only at hSw
          go_simp
          try with_reducible rfl
        try simp only [Act.put, List.setIfInBounds_toArray, List.set_cons_zero, List.set_cons_succ]
        refine wpAnyH_take (i := 11) (oi := _) (v := ?_) (by simp only [List.getElem?_toArray, List.getElem?_cons_succ, List.getElem?_cons_zero]; rfl) (by kernel_rfl) (by kernel_rfl) (by kernel_rfl) (by intro _ _ _ h; exact h) (Or.inl ⟨by rfl, ?_⟩) (by assumption) ?_
        rotate_left
        · intro w hSw
          try dsimp only at hSw
          go_simp
          try with_reducible rfl
        try simp only [Act.put, List.setIfInBounds_toArray, List.set_cons_zero, List.set_cons_succ]
        refine wpAnyH_ready (rs := [4, 12]) (by kernel_rfl) (by simp) ?_
        refine AllReadyH.cons (o := _) (by simp only [List.getElem?_toArray, List.getElem?_cons_succ, List.getElem?_cons_zero]; rfl) (fun K hK => ?_) (AllReadyH.cons (o := _) (by simp only [List.getElem?_toArray, List.getElem?_cons_succ, List.getElem?_cons_zero]; rfl) (fun K hK => ?_) AllReadyH.nil)
        · go_simp
          refine hK.out _ _ ?_ (fun hHeld => ?_)
          · exact ctW
          clear hK K
          try simp only [Act.put, List.setIfInBounds_toArray, List.set_cons_zero, List.set_cons_succ]
          refine wpAnyH_ready (rs := [12]) (by kernel_rfl) (by simp) ?_
          refine AllReadyH.cons (o := _) (by simp only [List.getElem?_toArray, List.getElem?_cons_succ, List.getElem?_cons_zero]; rfl) (fun K hK => ?_) AllReadyH.nil
          have ctA : (W2.alloc (.cells #[.int .u64 b.t, .bool true, .int .u16 port, .int .u8 v] 72)).cell? ⟨g, 65537, none⟩ = some (.int .u64 b.t) := alloc_of ctW
          have cAA : (W2.alloc (.cells #[.int .u64 b.t, .bool true, .int .u16 port, .int .u8 v] 72)).cell? ⟨g, 65550, none⟩ = some (.slice AA an ac) := alloc_of cAW
          go_simp
          refine hK.out _ _ ?_ (fun hHeld => ?_)
          · exact ctA
          clear hK K
          try simp only [Act.put, List.setIfInBounds_toArray, List.set_cons_zero, List.set_cons_succ]
          refine wpAnyH_ready (rs := [13]) (by kernel_rfl) (by simp) ?_
          refine AllReadyH.cons (o := _) (by simp only [List.getElem?_toArray, List.getElem?_cons_succ, List.getElem?_cons_zero]; rfl) (fun K hK => ?_) AllReadyH.nil
          have HC := Lib.hid (show Reads (W2.alloc (.cells #[.int .u64 b.t, .bool true, .int .u16 port, .int .u8 v] 72)) (W2.alloc (.cells #[.int .u64 b.t, .bool true, .int .u16 port, .int .u8 v] 72)).heap.size 4 (some ⟨W2.heap.size, 0, none⟩) 1 [.int .u64 b.t, .bool true, .int .u16 port, .int .u8 v] ∧ al.length + 1 ≤ maxLen ∧ (al.length + 1) * 16 ≤ 140737488355328 ∧ base ≤ (W2.alloc (.cells #[.int .u64 b.t, .bool true, .int .u16 port, .int .u8 v] 72)).heap.size from ⟨⟨rfl, fun _ => ⟨_, rfl, by simp, lit_cells W2 [.int .u64 b.t, .bool true, .int .u16 port, .int .u8 v] 72⟩⟩, by unfold maxLen; omega, by omega, by have := HW.out.2.2; simp; omega⟩)
          have hown9 := HW.out.1.acts.alloc (.cells #[.int .u64 b.t, .bool true, .int .u16 port, .int .u8 v] 72)
          refine step_append_any _ (by rfl) _ _ _ (by rfl) base 72 j1 (.agg #[.int .u64 0, .bool false, .int .u16 0, .int .u8 0]) 4 16 Try.underlying33 kj ky0 ky1 ky2 rfl (by decide) (.slice AA an ac) al.length _ (by rfl) hown9 _ (some ⟨W2.heap.size, 0, none⟩) 1 1 [.int .u64 b.t, .bool true, .int .u16 port, .int .u8 v] (by rfl) HC.out.1 (by simp [Value.oneCell']) HC.out.2.1 HC.out.2.2.1 HC.out.2.2.2 ?_
          intro v7 w7 own3 hg3 hv3
          have hv9 := hv3
          obtain ⟨A7, c7, rfl⟩ := own_slice own3
          have hne3 : (some g : Option Nat) ≠ (Value.slice AA an ac).ownBlock := fun e => HNA.out.1 e.symm
          have hB3 : DcIs w7 g { b with bo := v % 8, spk := S, mic := true } ph D (.slice AA an ac) (.slice A3 (es.length + 1) c3) := Blk.grown (Blk.alloc HW.out.1.bd _) hg3 hne3
          have hE3 := (HW.out.1.edges.alloc (.cells #[.int .u64 b.t, .bool true, .int .u16 port, .int .u8 v] 72)).kept hg3 (by rcases he : Value.ownBlock (.slice A3 (es.length + 1) c3) with _ | k; exact .inl rfl; exact .inr (fun e => HNA.out.2.1 k e.symm he))
          have hD3 := (HW.out.1.down.alloc (.cells #[.int .u64 b.t, .bool true, .int .u16 port, .int .u8 v] 72)).kept hg3 (by rcases he : D.ownBlock with _ | k; exact .inl rfl; exact .inr (fun e => HNA.out.2.2 k e.symm he))
          have hch3 : Ch w w7 (BdBlk g (.slice AA an ac) (.slice EA en ec)) := (HW.out.2.1.trans (Ch.of_below (φ := fun _ => False) (w := W2) ((Below.refl _ _).alloc (Nat.le_refl _) _)) (χ := BdBlk g (.slice AA an ac) (.slice EA en ec)) (fun _ h => h) (fun _ _ h => h.elim)).trans (Ch.of_grown (φ := fun k => (Value.slice AA an ac).ownBlock = some k) hg3 (fun k e => e)) (fun _ h => h) (fun _ _ h => .inr (.inl h))
          have ct3 : w7.cell? ⟨g, 65537, none⟩ = some (.int .u64 b.t) := hB3.at_ (by decide) dc_t
          refine hK.out _ _ ?_ (fun hHeld => ?_)
          · exact ct3
          clear hK K
          try simp only [Act.put, List.setIfInBounds_toArray, List.set_cons_zero, List.set_cons_succ]
          have H7 := Lib.hid (show DcIs w7 g { b with bo := v % 8, spk := S, mic := true } ph D (.slice AA an ac) (.slice A3 (es.length + 1) c3) ∧ w7.ownsRow base 72 4 (.slice A7 (al.length + 1) c7) (al.length + 1) (actV al ++ [.int .u64 b.t, .bool true, .int .u16 port, .int .u8 v]) ∧ w7.ownsRow base 32 1 (.slice A3 (es.length + 1) c3) ((es ++ [b.t])).length (((es ++ [b.t])).map (Value.int .u64)) ∧ w7.ownsRow base 3 1 D zs.length (zs.map (Value.int .i64)) ∧ Ch w w7 (BdBlk g (.slice AA an ac) (.slice EA en ec)) ∧ NewBlk w (.slice AA an ac) (.slice A7 (al.length + 1) c7) from ⟨hB3, own3, hE3, hD3, hch3, by
            rcases hv9 with h | h
            · exact .inl h
            · exact .inr ⟨_, h, by have := HW.out.2.2; simp; omega⟩⟩)
          clear own3 hg3 hv3 hv9 hB3 hE3 hD3 hch3 hown9 hne3
          have dA : w7.cell? ⟨g, 65550, none⟩ = some (.slice AA an ac) := H7.out.1.at_ (by decide) dc_A
          have eA : w7.frozen? ⟨g, 65550, none⟩ = false := H7.out.1.fz _
          refine wpAnyH_take (i := 14) (oi := _) (v := ?_) (by simp only [List.getElem?_toArray, List.getElem?_cons_succ, List.getElem?_cons_zero]; rfl) (by kernel_rfl) (by kernel_rfl) (by kernel_rfl) (by intro _ _ _ h; exact h) (Or.inl ⟨by rfl, ?_⟩) (by assumption) ?_
          rotate_left
          · intro w hSw
            try dsimp only at hSw
            go_simp
            try with_reducible rfl
          try simp only [Act.put, List.setIfInBounds_toArray, List.set_cons_zero, List.set_cons_succ]
          refine wpAnyH_take (i := 15) (oi := _) (v := ?_) (by simp only [List.getElem?_toArray, List.getElem?_cons_succ, List.getElem?_cons_zero]; rfl) (by kernel_rfl) (by kernel_rfl) (by kernel_rfl) (by intro _ _ _ h; exact h) (Or.inl ⟨by rfl, ?_⟩) (by assumption) ?_
          rotate_left
          · intro w hSw
            try dsimp only at hSw
            go_simp
            try with_reducible rfl
          try simp only [Act.put, List.setIfInBounds_toArray, List.set_cons_zero, List.set_cons_succ]
          refine wpAnyH_ready (rs := [16]) (by kernel_rfl) (by simp) ?_
          refine AllReadyH.cons (o := _) (by simp only [List.getElem?_toArray, List.getElem?_cons_succ, List.getElem?_cons_zero]; rfl) (fun K hK => ?_) AllReadyH.nil
          go_simp
          refine hK.out _ _ ?_ (fun hHeld => ?_)
          · exact (World.cell?_setCell_other _ _ _ _ (by intro e; injection e with _ e; exact absurd e (by decide))).trans ct3
          clear hK K
          try simp only [Act.put, List.setIfInBounds_toArray, List.set_cons_zero, List.set_cons_succ]
          refine wpAnyH_done (by kernel_rfl) ?_ _
          clear dA eA ct3
          have hal := own_blk_ne H7.out.2.1 H7.out.1 (by decide)
          have hel := own_blk_ne H7.out.2.2.1 H7.out.1 (by decide)
          have hdl := own_blk_ne H7.out.2.2.2.1 H7.out.1 (by decide)
          have hG := grown_cell w7 g 65550 (.slice A7 (al.length + 1) c7)
          have HX := Lib.hid (show DcAt (w7.setCell ⟨g, 65550, none⟩ (.slice A7 (al.length + 1) c7)) base g { b with bo := v % 8, spk := S, mic := true } ph zs (al ++ [⟨b.t, true, port, v⟩]) ((es ++ [b.t])) D (.slice A7 (al.length + 1) c7) (.slice A3 (es.length + 1) c3) ∧ Ch w (w7.setCell ⟨g, 65550, none⟩ (.slice A7 (al.length + 1) c7)) (BdBlk g (.slice AA an ac) (.slice EA en ec)) from ⟨⟨H7.out.1.put (dset_A _), H7.out.2.2.2.1.kept hG (.inr hdl), by rw [actV_snoc, List.length_append]; exact H7.out.2.1.kept hG (.inr hal), H7.out.2.2.1.kept hG (.inr hel)⟩, H7.out.2.2.2.2.1.trans (Ch.of_grown (φ := fun k => k = g) hG (fun k e => by injection e with e; exact e.symm)) (fun _ h => h) (fun _ _ h => .inl h)⟩)
          clear hG hal hel hdl
          generalize (w7.setCell ⟨g, 65550, none⟩ (.slice A7 (al.length + 1) c7)) = w8 at *
          go_wp2
          go_end0
          exact ⟨_, _, _, rfl, by rw [HES.out.1, HES.out.2]; unfold logS; rw [if_pos HL.out]; exact HX.out.1, HX.out.2, H7.out.2.2.2.2.2, HNB.out⟩
        · have ctA : (W2.alloc (.cells #[.int .u64 b.t, .bool true, .int .u16 port, .int .u8 v] 72)).cell? ⟨g, 65537, none⟩ = some (.int .u64 b.t) := alloc_of ctW
          have cAA : (W2.alloc (.cells #[.int .u64 b.t, .bool true, .int .u16 port, .int .u8 v] 72)).cell? ⟨g, 65550, none⟩ = some (.slice AA an ac) := alloc_of cAW
          go_simp
          refine hK.out _ _ ?_ (fun hHeld => ?_)
          · exact ctA
          clear hK K
          try simp only [Act.put, List.setIfInBounds_toArray, List.set_cons_zero, List.set_cons_succ]
          refine wpAnyH_ready (rs := [4]) (by kernel_rfl) (by simp) ?_
          refine AllReadyH.cons (o := _) (by simp only [List.getElem?_toArray, List.getElem?_cons_succ, List.getElem?_cons_zero]; rfl) (fun K hK => ?_) AllReadyH.nil
          go_simp
          refine hK.out _ _ ?_ (fun hHeld => ?_)
          · exact ctA
          clear hK K
          try simp only [Act.put, List.setIfInBounds_toArray, List.set_cons_zero, List.set_cons_succ]
          refine wpAnyH_ready (rs := [13]) (by kernel_rfl) (by simp) ?_
          refine AllReadyH.cons (o := _) (by simp only [List.getElem?_toArray, List.getElem?_cons_succ, List.getElem?_cons_zero]; rfl) (fun K hK => ?_) AllReadyH.nil
          have HC := Lib.hid (show Reads (W2.alloc (.cells #[.int .u64 b.t, .bool true, .int .u16 port, .int .u8 v] 72)) (W2.alloc (.cells #[.int .u64 b.t, .bool true, .int .u16 port, .int .u8 v] 72)).heap.size 4 (some ⟨W2.heap.size, 0, none⟩) 1 [.int .u64 b.t, .bool true, .int .u16 port, .int .u8 v] ∧ al.length + 1 ≤ maxLen ∧ (al.length + 1) * 16 ≤ 140737488355328 ∧ base ≤ (W2.alloc (.cells #[.int .u64 b.t, .bool true, .int .u16 port, .int .u8 v] 72)).heap.size from ⟨⟨rfl, fun _ => ⟨_, rfl, by simp, lit_cells W2 [.int .u64 b.t, .bool true, .int .u16 port, .int .u8 v] 72⟩⟩, by unfold maxLen; omega, by omega, by have := HW.out.2.2; simp; omega⟩)
          have hown9 := HW.out.1.acts.alloc (.cells #[.int .u64 b.t, .bool true, .int .u16 port, .int .u8 v] 72)
          refine step_append_any _ (by rfl) _ _ _ (by rfl) base 72 j1 (.agg #[.int .u64 0, .bool false, .int .u16 0, .int .u8 0]) 4 16 Try.underlying33 kj ky0 ky1 ky2 rfl (by decide) (.slice AA an ac) al.length _ (by rfl) hown9 _ (some ⟨W2.heap.size, 0, none⟩) 1 1 [.int .u64 b.t, .bool true, .int .u16 port, .int .u8 v] (by rfl) HC.out.1 (by simp [Value.oneCell']) HC.out.2.1 HC.out.2.2.1 HC.out.2.2.2 ?_
          intro v7 w7 own3 hg3 hv3
          have hv9 := hv3
          obtain ⟨A7, c7, rfl⟩ := own_slice own3
          have hne3 : (some g : Option Nat) ≠ (Value.slice AA an ac).ownBlock := fun e => HNA.out.1 e.symm
          have hB3 : DcIs w7 g { b with bo := v % 8, spk := S, mic := true } ph D (.slice AA an ac) (.slice A3 (es.length + 1) c3) := Blk.grown (Blk.alloc HW.out.1.bd _) hg3 hne3
          have hE3 := (HW.out.1.edges.alloc (.cells #[.int .u64 b.t, .bool true, .int .u16 port, .int .u8 v] 72)).kept hg3 (by rcases he : Value.ownBlock (.slice A3 (es.length + 1) c3) with _ | k; exact .inl rfl; exact .inr (fun e => HNA.out.2.1 k e.symm he))
          have hD3 := (HW.out.1.down.alloc (.cells #[.int .u64 b.t, .bool true, .int .u16 port, .int .u8 v] 72)).kept hg3 (by rcases he : D.ownBlock with _ | k; exact .inl rfl; exact .inr (fun e => HNA.out.2.2 k e.symm he))
          have hch3 : Ch w w7 (BdBlk g (.slice AA an ac) (.slice EA en ec)) := (HW.out.2.1.trans (Ch.of_below (φ := fun _ => False) (w := W2) ((Below.refl _ _).alloc (Nat.le_refl _) _)) (χ := BdBlk g (.slice AA an ac) (.slice EA en ec)) (fun _ h => h) (fun _ _ h => h.elim)).trans (Ch.of_grown (φ := fun k => (Value.slice AA an ac).ownBlock = some k) hg3 (fun k e => e)) (fun _ h => h) (fun _ _ h => .inr (.inl h))
          have ct3 : w7.cell? ⟨g, 65537, none⟩ = some (.int .u64 b.t) := hB3.at_ (by decide) dc_t
          refine hK.out _ _ ?_ (fun hHeld => ?_)
          · exact ct3
          clear hK K
          try simp only [Act.put, List.setIfInBounds_toArray, List.set_cons_zero, List.set_cons_succ]
          have H7 := Lib.hid (show DcIs w7 g { b with bo := v % 8, spk := S, mic := true } ph D (.slice AA an ac) (.slice A3 (es.length + 1) c3) ∧ w7.ownsRow base 72 4 (.slice A7 (al.length + 1) c7) (al.length + 1) (actV al ++ [.int .u64 b.t, .bool true, .int .u16 port, .int .u8 v]) ∧ w7.ownsRow base 32 1 (.slice A3 (es.length + 1) c3) ((es ++ [b.t])).length (((es ++ [b.t])).map (Value.int .u64)) ∧ w7.ownsRow base 3 1 D zs.length (zs.map (Value.int .i64)) ∧ Ch w w7 (BdBlk g (.slice AA an ac) (.slice EA en ec)) ∧ NewBlk w (.slice AA an ac) (.slice A7 (al.length + 1) c7) from ⟨hB3, own3, hE3, hD3, hch3, by
            rcases hv9 with h | h
            · exact .inl h
            · exact .inr ⟨_, h, by have := HW.out.2.2; simp; omega⟩⟩)
          clear own3 hg3 hv3 hv9 hB3 hE3 hD3 hch3 hown9 hne3
          have dA : w7.cell? ⟨g, 65550, none⟩ = some (.slice AA an ac) := H7.out.1.at_ (by decide) dc_A
          have eA : w7.frozen? ⟨g, 65550, none⟩ = false := H7.out.1.fz _
          refine wpAnyH_take (i := 14) (oi := _) (v := ?_) (by simp only [List.getElem?_toArray, List.getElem?_cons_succ, List.getElem?_cons_zero]; rfl) (by kernel_rfl) (by kernel_rfl) (by kernel_rfl) (by intro _ _ _ h; exact h) (Or.inl ⟨by rfl, ?_⟩) (by assumption) ?_
          rotate_left
          · intro w hSw
            try dsimp only at hSw
            go_simp
            try with_reducible rfl
          try simp only [Act.put, List.setIfInBounds_toArray, List.set_cons_zero, List.set_cons_succ]
          refine wpAnyH_take (i := 15) (oi := _) (v := ?_) (by simp only [List.getElem?_toArray, List.getElem?_cons_succ, List.getElem?_cons_zero]; rfl) (by kernel_rfl) (by kernel_rfl) (by kernel_rfl) (by intro _ _ _ h; exact h) (Or.inl ⟨by rfl, ?_⟩) (by assumption) ?_
          rotate_left
          · intro w hSw
            try dsimp only at hSw
            go_simp
            try with_reducible rfl
          try simp only [Act.put, List.setIfInBounds_toArray, List.set_cons_zero, List.set_cons_succ]
          refine wpAnyH_ready (rs := [16]) (by kernel_rfl) (by simp) ?_
          refine AllReadyH.cons (o := _) (by simp only [List.getElem?_toArray, List.getElem?_cons_succ, List.getElem?_cons_zero]; rfl) (fun K hK => ?_) AllReadyH.nil
          go_simp
          refine hK.out _ _ ?_ (fun hHeld => ?_)
          · exact (World.cell?_setCell_other _ _ _ _ (by intro e; injection e with _ e; exact absurd e (by decide))).trans ct3
          clear hK K
          try simp only [Act.put, List.setIfInBounds_toArray, List.set_cons_zero, List.set_cons_succ]
          refine wpAnyH_done (by kernel_rfl) ?_ _
          clear dA eA ct3
          have hal := own_blk_ne H7.out.2.1 H7.out.1 (by decide)
          have hel := own_blk_ne H7.out.2.2.1 H7.out.1 (by decide)
          have hdl := own_blk_ne H7.out.2.2.2.1 H7.out.1 (by decide)
          have hG := grown_cell w7 g 65550 (.slice A7 (al.length + 1) c7)
          have HX := Lib.hid (show DcAt (w7.setCell ⟨g, 65550, none⟩ (.slice A7 (al.length + 1) c7)) base g { b with bo := v % 8, spk := S, mic := true } ph zs (al ++ [⟨b.t, true, port, v⟩]) ((es ++ [b.t])) D (.slice A7 (al.length + 1) c7) (.slice A3 (es.length + 1) c3) ∧ Ch w (w7.setCell ⟨g, 65550, none⟩ (.slice A7 (al.length + 1) c7)) (BdBlk g (.slice AA an ac) (.slice EA en ec)) from ⟨⟨H7.out.1.put (dset_A _), H7.out.2.2.2.1.kept hG (.inr hdl), by rw [actV_snoc, List.length_append]; exact H7.out.2.1.kept hG (.inr hal), H7.out.2.2.1.kept hG (.inr hel)⟩, H7.out.2.2.2.2.1.trans (Ch.of_grown (φ := fun k => k = g) hG (fun k e => by injection e with e; exact e.symm)) (fun _ h => h) (fun _ _ h => .inl h)⟩)
          clear hG hal hel hdl
          generalize (w7.setCell ⟨g, 65550, none⟩ (.slice A7 (al.length + 1) c7)) = w8 at *
          go_wp2
          go_end0
          exact ⟨_, _, _, rfl, by rw [HES.out.1, HES.out.2]; unfold logS; rw [if_pos HL.out]; exact HX.out.1, HX.out.2, H7.out.2.2.2.2.2, HNB.out⟩
    · have ctA : (W.alloc (.cells #[.int .u64 b.t] 32)).cell? ⟨g, 65537, none⟩ = some (.int .u64 b.t) := alloc_of ctW
      have cEA : (W.alloc (.cells #[.int .u64 b.t] 32)).cell? ⟨g, 65551, none⟩ = some (.slice EA en ec) := alloc_of cEW
      go_simp
      refine hK.out _ _ ?_ (fun hHeld => ?_)
      · exact ctA
      clear hK K
      try simp only [Act.put, List.setIfInBounds_toArray, List.set_cons_zero, List.set_cons_succ]
      refine wpAnyH_ready (rs := [4]) (by kernel_rfl) (by simp) ?_
      refine AllReadyH.cons (o := _) (by simp only [List.getElem?_toArray, List.getElem?_cons_succ, List.getElem?_cons_zero]; rfl) (fun K hK => ?_) AllReadyH.nil
      go_simp
      refine hK.out _ _ ?_ (fun hHeld => ?_)
      · exact ctA
      clear hK K
      try simp only [Act.put, List.setIfInBounds_toArray, List.set_cons_zero, List.set_cons_succ]
      refine wpAnyH_ready (rs := [10]) (by kernel_rfl) (by simp) ?_
      refine AllReadyH.cons (o := _) (by simp only [List.getElem?_toArray, List.getElem?_cons_succ, List.getElem?_cons_zero]; rfl) (fun K hK => ?_) AllReadyH.nil
      have HC := Lib.hid (show Reads (W.alloc (.cells #[.int .u64 b.t] 32)) (W.alloc (.cells #[.int .u64 b.t] 32)).heap.size 1 (some ⟨W.heap.size, 0, none⟩) 1 [.int .u64 b.t] ∧ es.length + 1 ≤ maxLen ∧ (es.length + 1) * 8 ≤ 140737488355328 ∧ base ≤ (W.alloc (.cells #[.int .u64 b.t] 32)).heap.size from ⟨⟨rfl, fun _ => ⟨_, rfl, by simp, lit_cells W [.int .u64 b.t] 32⟩⟩, by unfold maxLen; omega, by omega, by have := HW.out.2.2; simp; omega⟩)
      have hown9 := HW.out.1.edges.alloc (.cells #[.int .u64 b.t] 32)
      refine step_append_any _ (by rfl) _ _ _ (by rfl) base 32 i1 (.int .u64 0) 1 8 Try.underlying34 hj hy0 hy1 hy2 rfl (by decide) (.slice EA en ec) es.length _ (by rfl) hown9 _ (some ⟨W.heap.size, 0, none⟩) 1 1 [.int .u64 b.t] (by rfl) HC.out.1 (by simp [Value.oneCell']) HC.out.2.1 HC.out.2.2.1 HC.out.2.2.2 ?_
      intro v3 w4 own3 hg3 hv3
      have hv9 := hv3
      obtain ⟨A3, c3, rfl⟩ := own_slice own3
      have hne3 : (some g : Option Nat) ≠ (Value.slice EA en ec).ownBlock := fun e => HNE.out.1 e.symm
      have hB3 : DcIs w4 g { b with bo := v % 8, spk := S } ph D A (.slice EA en ec) := Blk.grown (Blk.alloc HW.out.1.bd _) hg3 hne3
      have hA3 := (HW.out.1.acts.alloc (.cells #[.int .u64 b.t] 32)).kept hg3 (by rcases he : A.ownBlock with _ | k; exact .inl rfl; exact .inr (fun e => HNE.out.2.1 k e.symm he))
      have hD3 := (HW.out.1.down.alloc (.cells #[.int .u64 b.t] 32)).kept hg3 (by rcases he : D.ownBlock with _ | k; exact .inl rfl; exact .inr (fun e => HNE.out.2.2 k e.symm he))
      have hch3 : Ch w w4 (fun k => k = g ∨ (Value.slice EA en ec).ownBlock = some k) := (HW.out.2.1.trans (Ch.of_below (φ := fun _ => False) (w := W) ((Below.refl _ _).alloc (Nat.le_refl _) _)) (χ := fun k => k = g ∨ (Value.slice EA en ec).ownBlock = some k) (fun _ h => h) (fun _ _ h => h.elim)).trans (Ch.of_grown (φ := fun k => (Value.slice EA en ec).ownBlock = some k) hg3 (fun k e => e)) (fun _ h => h) (fun _ _ h => .inr h)
      have ct3 : w4.cell? ⟨g, 65537, none⟩ = some (.int .u64 b.t) := hB3.at_ (by decide) dc_t
      refine hK.out _ _ ?_ (fun hHeld => ?_)
      · exact ct3
      clear hK K
      try simp only [Act.put, List.setIfInBounds_toArray, List.set_cons_zero, List.set_cons_succ]
      have H3 := Lib.hid (show DcIs w4 g { b with bo := v % 8, spk := S } ph D A (.slice EA en ec) ∧ w4.ownsRow base 72 4 A al.length (actV al) ∧ w4.ownsRow base 32 1 (.slice A3 (es.length + 1) c3) (es.length + 1) (es.map (Value.int .u64) ++ [.int .u64 b.t]) ∧ w4.ownsRow base 3 1 D zs.length (zs.map (Value.int .i64)) ∧ Ch w w4 (fun k => k = g ∨ (Value.slice EA en ec).ownBlock = some k) ∧ NewBlk w (.slice EA en ec) (.slice A3 (es.length + 1) c3) from ⟨hB3, hA3, own3, hD3, hch3, by
        rcases hv9 with h | h
        · exact .inl h
        · exact .inr ⟨_, h, by have := HW.out.2.2; simp; omega⟩⟩)
      clear own3 hg3 hv3 hv9 hB3 hA3 hD3 hch3 hown9 hne3
      have dE : w4.cell? ⟨g, 65551, none⟩ = some (.slice EA en ec) := H3.out.1.at_ (by decide) dc_E
      have eE : w4.frozen? ⟨g, 65551, none⟩ = false := H3.out.1.fz _
      refine wpAnyH_take (i := 11) (oi := _) (v := ?_) (by simp only [List.getElem?_toArray, List.getElem?_cons_succ, List.getElem?_cons_zero]; rfl) (by kernel_rfl) (by kernel_rfl) (by kernel_rfl) (by intro _ _ _ h; exact h) (Or.inl ⟨by rfl, ?_⟩) (by assumption) ?_
      rotate_left
      · intro w hSw
        try dsimp only at hSw
        go_simp
        try with_reducible rfl
      try simp only [Act.put, List.setIfInBounds_toArray, List.set_cons_zero, List.set_cons_succ]
      refine wpAnyH_take (i := 12) (oi := _) (v := ?_) (by simp only [List.getElem?_toArray, List.getElem?_cons_succ, List.getElem?_cons_zero]; rfl) (by kernel_rfl) (by kernel_rfl) (by kernel_rfl) (by intro _ _ _ h; exact h) (Or.inl ⟨by rfl, ?_⟩) (by assumption) ?_
      rotate_left
      · intro w hSw
        try dsimp only at hSw
        go_simp
        try with_reducible rfl
      try simp only [Act.put, List.setIfInBounds_toArray, List.set_cons_zero, List.set_cons_succ]
      refine wpAnyH_ready (rs := [13]) (by kernel_rfl) (by simp) ?_
      refine AllReadyH.cons (o := _) (by simp only [List.getElem?_toArray, List.getElem?_cons_succ, List.getElem?_cons_zero]; rfl) (fun K hK => ?_) AllReadyH.nil
      go_simp
      refine hK.out _ _ ?_ (fun hHeld => ?_)
      · exact (World.cell?_setCell_other _ _ _ _ (by intro e; injection e with _ e; exact absurd e (by decide))).trans ct3
      clear hK K
      try simp only [Act.put, List.setIfInBounds_toArray, List.set_cons_zero, List.set_cons_succ]
      refine wpAnyH_done (by kernel_rfl) ?_ _
      clear dE eE ct3
      have hal := own_blk_ne H3.out.2.1 H3.out.1 (by decide)
      have hel := own_blk_ne H3.out.2.2.1 H3.out.1 (by decide)
      have hdl := own_blk_ne H3.out.2.2.2.1 H3.out.1 (by decide)
      have hG := grown_cell w4 g 65551 (.slice A3 (es.length + 1) c3)
      have HY := Lib.hid (show DcAt (w4.setCell ⟨g, 65551, none⟩ (.slice A3 (es.length + 1) c3)) base g { b with bo := v % 8, spk := S } ph zs al (es ++ [b.t]) D A (.slice A3 (es.length + 1) c3) ∧ Ch w (w4.setCell ⟨g, 65551, none⟩ (.slice A3 (es.length + 1) c3)) (BdBlk g A (.slice EA en ec)) ∧ NewBlk w (.slice EA en ec) (.slice A3 (es.length + 1) c3) from ⟨⟨H3.out.1.put (dset_E _), H3.out.2.2.2.1.kept hG (.inr hdl), H3.out.2.1.kept hG (.inr hal), by rw [List.map_append, List.length_append]; exact H3.out.2.2.1.kept hG (.inr hel)⟩, H3.out.2.2.2.2.1.trans (Ch.of_grown (φ := fun k => k = g) hG (fun k e => by injection e with e; exact e.symm)) (fun _ h => h.elim .inl (fun h => .inr (.inr h))) (fun _ _ h => .inl h), H3.out.2.2.2.2.2⟩)
      clear hG hal hel hdl H3 HW ctW cEW
      generalize (w4.setCell ⟨g, 65551, none⟩ (.slice A3 (es.length + 1) c3)) = wy at *
      have hwy := HY.out.2.1.size
      have m48 := HY.out.1.bd.at_ (i := 65548) (by decide) dc_mic
      have g48 := HY.out.1.bd.fz 65548
      go_upto_region 9 with fail
      have HU := Lib.hid (show DcAt (wy.setCell ⟨g, 65548, none⟩ (.bool true)) base g { b with bo := v % 8, spk := S, mic := true } ph zs al (es ++ [b.t]) D A (.slice A3 (es.length + 1) c3) ∧ Ch w (wy.setCell ⟨g, 65548, none⟩ (.bool true)) (BdBlk g A (.slice EA en ec)) ∧ NewBlk w (.slice EA en ec) (.slice A3 (es.length + 1) c3) ∧ w.heap.size ≤ (wy.setCell ⟨g, 65548, none⟩ (.bool true)).heap.size from ⟨HY.out.1.put (dset_mic _), HY.out.2.1.trans (Ch.of_grown (φ := fun k => k = g) (grown_cell _ _ _ _) (fun k e => by injection e with e; exact e.symm)) (fun _ e => e) (fun _ _ e => .inl e), HY.out.2.2, by simp [World.setCell]; omega⟩)
      clear m48 g48 HY hwy
      generalize (wy.setCell ⟨g, 65548, none⟩ (.bool true)) = w5 at *
      have cl := HU.out.1.bd.at_ (i := 65542) (by decide) dc_log
      cases hlog : b.log
      · have cl2 : w5.cell? ⟨g, 65542, none⟩ = some (.bool false) := by rw [← hlog]; exact cl
        have HL := Lib.hid hlog
        clear cl hlog
        go_wp2
        go_end0
        exact ⟨_, A, (.slice A3 (es.length + 1) c3), rfl, by rw [HES.out.1, HES.out.2]; unfold logS; rw [if_neg (by rw [HL.out]; decide)]; exact HU.out.1, HU.out.2.1, .inl rfl, HU.out.2.2.1⟩
      · have cl2 : w5.cell? ⟨g, 65542, none⟩ = some (.bool true) := by rw [← hlog]; exact cl
        have HL := Lib.hid hlog
        clear cl hlog
        obtain ⟨AA, an, ac, hAs⟩ : ∃ x n c, A = .slice x n c := by
          rcases HU.out.1.acts.2 with ⟨e, _⟩ | ⟨g', cap, cur, e, _⟩
          · exact ⟨none, 0, 0, e⟩
          · exact ⟨_, _, cap, e⟩
        subst hAs
        obtain ⟨j1, kj, ky0, ky1, ky2⟩ := info_parts actInfo
        have cA := HU.out.1.bd.at_ (i := 65550) (by decide) dc_A
        have ct : w5.cell? ⟨g, 65537, none⟩ = some (.int .u64 b.t) := HU.out.1.bd.at_ (i := 65537) (by decide) dc_t
        have HNA := Lib.hid (And.intro (own_blk_ne HU.out.1.acts HU.out.1.bd (by decide)) (And.intro (own_types_ne HU.out.1.acts HU.out.1.edges (by decide)) (own_types_ne HU.out.1.acts HU.out.1.down (by decide))))
        go_upto_region 10 with fail
        clear cl2
        refine wp_region_held_drew (S := fun w' => w'.cell? ⟨g, 65537, none⟩ = some (.int .u64 b.t)) (by kernel_rfl) ?_ (fun hHeld => ?_)
        · exact ct
        have HW := Lib.hid (show DcAt w5.drew base g { b with bo := v % 8, spk := S, mic := true } ph zs al (es ++ [b.t]) D (.slice AA an ac) (.slice A3 (es.length + 1) c3) ∧ Ch w w5.drew (BdBlk g (.slice AA an ac) (.slice EA en ec)) ∧ w.heap.size ≤ w5.drew.heap.size from ⟨⟨HU.out.1.bd, HU.out.1.down, HU.out.1.acts, HU.out.1.edges⟩, ⟨HU.out.2.1.os, HU.out.2.1.tape, HU.out.2.1.output, HU.out.2.1.size, HU.out.2.1.block⟩, HU.out.2.2.2⟩)
        have HNB := Lib.hid HU.out.2.2.1
        have cAW : w5.drew.cell? ⟨g, 65550, none⟩ = some (.slice AA an ac) := cA
        have ctW : w5.drew.cell? ⟨g, 65537, none⟩ = some (.int .u64 b.t) := ct
        clear cA ct HU
        generalize w5.drew = W2 at *
        refine wpAnyH_take (i := 0) (oi := _) (v := ?_) (by simp only [List.getElem?_toArray, List.getElem?_cons_succ, List.getElem?_cons_zero]; rfl) (by kernel_rfl) (by kernel_rfl) (by kernel_rfl) (by intro _ _ _ h; exact h) (Or.inl ⟨by rfl, ?_⟩) (by assumption) ?_
        rotate_left
        · intro w hSw
          try dsimp only at hSw
          go_simp
          try with_reducible rfl
        try simp only [Act.put, List.setIfInBounds_toArray, List.set_cons_zero, List.set_cons_succ]
        refine wpAnyH_take (i := 1) (oi := _) (v := ?_) (by simp only [List.getElem?_toArray, List.getElem?_cons_succ, List.getElem?_cons_zero]; rfl) (by kernel_rfl) (by kernel_rfl) (by kernel_rfl) (by intro _ _ _ h; exact h) (Or.inl ⟨by rfl, ?_⟩) (by assumption) ?_
        rotate_left
        · intro w hSw
          try dsimp only at hSw
          go_simp
          try with_reducible rfl
        try simp only [Act.put, List.setIfInBounds_toArray, List.set_cons_zero, List.set_cons_succ]
        refine wpAnyH_take (i := 2) (oi := _) (v := ?_) (by simp only [List.getElem?_toArray, List.getElem?_cons_succ, List.getElem?_cons_zero]; rfl) (by kernel_rfl) (by kernel_rfl) (by kernel_rfl) (by intro _ _ _ h; exact h) (Or.inl ⟨by rfl, ?_⟩) (by assumption) ?_
        rotate_left
        · intro w hSw
          try dsimp only at hSw
          go_simp
          try with_reducible rfl
        try simp only [Act.put, List.setIfInBounds_toArray, List.set_cons_zero, List.set_cons_succ]
        refine wpAnyH_take (i := 3) (oi := _) (v := ?_) (by simp only [List.getElem?_toArray, List.getElem?_cons_succ, List.getElem?_cons_zero]; rfl) (by kernel_rfl) (by kernel_rfl) (by kernel_rfl) (by intro _ _ _ h; exact h) (Or.inl ⟨by rfl, ?_⟩) (by assumption) ?_
        rotate_left
        · intro w hSw
          try dsimp only at hSw
          go_simp
          try with_reducible rfl
        try simp only [Act.put, List.setIfInBounds_toArray, List.set_cons_zero, List.set_cons_succ]
        refine wpAnyH_take (i := 5) (oi := _) (v := ?_) (by simp only [List.getElem?_toArray, List.getElem?_cons_succ, List.getElem?_cons_zero]; rfl) (by kernel_rfl) (by kernel_rfl) (by kernel_rfl) (by intro _ _ _ h; exact h) (Or.inl ⟨by rfl, ?_⟩) (by assumption) ?_
        rotate_left
        · intro w hSw
          try dsimp only at hSw
          go_simp
          try with_reducible rfl
        try simp only [Act.put, List.setIfInBounds_toArray, List.set_cons_zero, List.set_cons_succ]
        refine wpAnyH_take (i := 6) (oi := _) (v := ?_) (by simp only [List.getElem?_toArray, List.getElem?_cons_succ, List.getElem?_cons_zero]; rfl) (by kernel_rfl) (by kernel_rfl) (by kernel_rfl) (by intro _ _ _ h; exact h) (Or.inl ⟨by rfl, ?_⟩) (by assumption) ?_
        rotate_left
        · intro w hSw
          try dsimp only at hSw
          go_simp
          try with_reducible rfl
        try simp only [Act.put, List.setIfInBounds_toArray, List.set_cons_zero, List.set_cons_succ]
        refine wpAnyH_take (i := 7) (oi := _) (v := ?_) (by simp only [List.getElem?_toArray, List.getElem?_cons_succ, List.getElem?_cons_zero]; rfl) (by kernel_rfl) (by kernel_rfl) (by kernel_rfl) (by intro _ _ _ h; exact h) (Or.inl ⟨by rfl, ?_⟩) (by assumption) ?_
        rotate_left
        · intro w hSw
          try dsimp only at hSw
          go_simp
          try with_reducible rfl
        try simp only [Act.put, List.setIfInBounds_toArray, List.set_cons_zero, List.set_cons_succ]
        refine wpAnyH_take (i := 8) (oi := _) (v := ?_) (by simp only [List.getElem?_toArray, List.getElem?_cons_succ, List.getElem?_cons_zero]; rfl) (by kernel_rfl) (by kernel_rfl) (by kernel_rfl) (by intro _ _ _ h; exact h) (Or.inl ⟨by rfl, ?_⟩) (by assumption) ?_
        rotate_left
        · intro w hSw
          try dsimp only at hSw
          go_simp
          try with_reducible rfl
        try simp only [Act.put, List.setIfInBounds_toArray, List.set_cons_zero, List.set_cons_succ]
        refine wpAnyH_take (i := 9) (oi := _) (v := ?_) (by simp only [List.getElem?_toArray, List.getElem?_cons_succ, List.getElem?_cons_zero]; rfl) (by kernel_rfl) (by kernel_rfl) (by kernel_rfl) (by intro _ _ _ h; exact h) (Or.inl ⟨by rfl, ?_⟩) (by assumption) ?_
        rotate_left
        · intro w hSw
          try dsimp only at hSw
          go_simp
          try with_reducible rfl
        try simp only [Act.put, List.setIfInBounds_toArray, List.set_cons_zero, List.set_cons_succ]
        refine wpAnyH_take (i := 10) (oi := _) (v := ?_) (by simp only [List.getElem?_toArray, List.getElem?_cons_succ, List.getElem?_cons_zero]; rfl) (by kernel_rfl) (by kernel_rfl) (by kernel_rfl) (by intro _ _ _ h; exact h) (Or.inl ⟨by rfl, ?_⟩) (by assumption) ?_
        rotate_left
        · intro w hSw
          try dsimp only at hSw
          go_simp
          try with_reducible rfl
        try simp only [Act.put, List.setIfInBounds_toArray, List.set_cons_zero, List.set_cons_succ]
        refine wpAnyH_take (i := 11) (oi := _) (v := ?_) (by simp only [List.getElem?_toArray, List.getElem?_cons_succ, List.getElem?_cons_zero]; rfl) (by kernel_rfl) (by kernel_rfl) (by kernel_rfl) (by intro _ _ _ h; exact h) (Or.inl ⟨by rfl, ?_⟩) (by assumption) ?_
        rotate_left
        · intro w hSw
          try dsimp only at hSw
          go_simp
          try with_reducible rfl
        try simp only [Act.put, List.setIfInBounds_toArray, List.set_cons_zero, List.set_cons_succ]
        refine wpAnyH_ready (rs := [4, 12]) (by kernel_rfl) (by simp) ?_
        refine AllReadyH.cons (o := _) (by simp only [List.getElem?_toArray, List.getElem?_cons_succ, List.getElem?_cons_zero]; rfl) (fun K hK => ?_) (AllReadyH.cons (o := _) (by simp only [List.getElem?_toArray, List.getElem?_cons_succ, List.getElem?_cons_zero]; rfl) (fun K hK => ?_) AllReadyH.nil)
        · go_simp
          refine hK.out _ _ ?_ (fun hHeld => ?_)
          · exact ctW
          clear hK K
          try simp only [Act.put, List.setIfInBounds_toArray, List.set_cons_zero, List.set_cons_succ]
          refine wpAnyH_ready (rs := [12]) (by kernel_rfl) (by simp) ?_
          refine AllReadyH.cons (o := _) (by simp only [List.getElem?_toArray, List.getElem?_cons_succ, List.getElem?_cons_zero]; rfl) (fun K hK => ?_) AllReadyH.nil
          have ctA : (W2.alloc (.cells #[.int .u64 b.t, .bool true, .int .u16 port, .int .u8 v] 72)).cell? ⟨g, 65537, none⟩ = some (.int .u64 b.t) := alloc_of ctW
          have cAA : (W2.alloc (.cells #[.int .u64 b.t, .bool true, .int .u16 port, .int .u8 v] 72)).cell? ⟨g, 65550, none⟩ = some (.slice AA an ac) := alloc_of cAW
          go_simp
          refine hK.out _ _ ?_ (fun hHeld => ?_)
          · exact ctA
          clear hK K
          try simp only [Act.put, List.setIfInBounds_toArray, List.set_cons_zero, List.set_cons_succ]
          refine wpAnyH_ready (rs := [13]) (by kernel_rfl) (by simp) ?_
          refine AllReadyH.cons (o := _) (by simp only [List.getElem?_toArray, List.getElem?_cons_succ, List.getElem?_cons_zero]; rfl) (fun K hK => ?_) AllReadyH.nil
          have HC := Lib.hid (show Reads (W2.alloc (.cells #[.int .u64 b.t, .bool true, .int .u16 port, .int .u8 v] 72)) (W2.alloc (.cells #[.int .u64 b.t, .bool true, .int .u16 port, .int .u8 v] 72)).heap.size 4 (some ⟨W2.heap.size, 0, none⟩) 1 [.int .u64 b.t, .bool true, .int .u16 port, .int .u8 v] ∧ al.length + 1 ≤ maxLen ∧ (al.length + 1) * 16 ≤ 140737488355328 ∧ base ≤ (W2.alloc (.cells #[.int .u64 b.t, .bool true, .int .u16 port, .int .u8 v] 72)).heap.size from ⟨⟨rfl, fun _ => ⟨_, rfl, by simp, lit_cells W2 [.int .u64 b.t, .bool true, .int .u16 port, .int .u8 v] 72⟩⟩, by unfold maxLen; omega, by omega, by have := HW.out.2.2; simp; omega⟩)
          have hown9 := HW.out.1.acts.alloc (.cells #[.int .u64 b.t, .bool true, .int .u16 port, .int .u8 v] 72)
          refine step_append_any _ (by rfl) _ _ _ (by rfl) base 72 j1 (.agg #[.int .u64 0, .bool false, .int .u16 0, .int .u8 0]) 4 16 Try.underlying33 kj ky0 ky1 ky2 rfl (by decide) (.slice AA an ac) al.length _ (by rfl) hown9 _ (some ⟨W2.heap.size, 0, none⟩) 1 1 [.int .u64 b.t, .bool true, .int .u16 port, .int .u8 v] (by rfl) HC.out.1 (by simp [Value.oneCell']) HC.out.2.1 HC.out.2.2.1 HC.out.2.2.2 ?_
          intro v7 w7 own3 hg3 hv3
          have hv9 := hv3
          obtain ⟨A7, c7, rfl⟩ := own_slice own3
          have hne3 : (some g : Option Nat) ≠ (Value.slice AA an ac).ownBlock := fun e => HNA.out.1 e.symm
          have hB3 : DcIs w7 g { b with bo := v % 8, spk := S, mic := true } ph D (.slice AA an ac) (.slice A3 (es.length + 1) c3) := Blk.grown (Blk.alloc HW.out.1.bd _) hg3 hne3
          have hE3 := (HW.out.1.edges.alloc (.cells #[.int .u64 b.t, .bool true, .int .u16 port, .int .u8 v] 72)).kept hg3 (by rcases he : Value.ownBlock (.slice A3 (es.length + 1) c3) with _ | k; exact .inl rfl; exact .inr (fun e => HNA.out.2.1 k e.symm he))
          have hD3 := (HW.out.1.down.alloc (.cells #[.int .u64 b.t, .bool true, .int .u16 port, .int .u8 v] 72)).kept hg3 (by rcases he : D.ownBlock with _ | k; exact .inl rfl; exact .inr (fun e => HNA.out.2.2 k e.symm he))
          have hch3 : Ch w w7 (BdBlk g (.slice AA an ac) (.slice EA en ec)) := (HW.out.2.1.trans (Ch.of_below (φ := fun _ => False) (w := W2) ((Below.refl _ _).alloc (Nat.le_refl _) _)) (χ := BdBlk g (.slice AA an ac) (.slice EA en ec)) (fun _ h => h) (fun _ _ h => h.elim)).trans (Ch.of_grown (φ := fun k => (Value.slice AA an ac).ownBlock = some k) hg3 (fun k e => e)) (fun _ h => h) (fun _ _ h => .inr (.inl h))
          have ct3 : w7.cell? ⟨g, 65537, none⟩ = some (.int .u64 b.t) := hB3.at_ (by decide) dc_t
          refine hK.out _ _ ?_ (fun hHeld => ?_)
          · exact ct3
          clear hK K
          try simp only [Act.put, List.setIfInBounds_toArray, List.set_cons_zero, List.set_cons_succ]
          have H7 := Lib.hid (show DcIs w7 g { b with bo := v % 8, spk := S, mic := true } ph D (.slice AA an ac) (.slice A3 (es.length + 1) c3) ∧ w7.ownsRow base 72 4 (.slice A7 (al.length + 1) c7) (al.length + 1) (actV al ++ [.int .u64 b.t, .bool true, .int .u16 port, .int .u8 v]) ∧ w7.ownsRow base 32 1 (.slice A3 (es.length + 1) c3) ((es ++ [b.t])).length (((es ++ [b.t])).map (Value.int .u64)) ∧ w7.ownsRow base 3 1 D zs.length (zs.map (Value.int .i64)) ∧ Ch w w7 (BdBlk g (.slice AA an ac) (.slice EA en ec)) ∧ NewBlk w (.slice AA an ac) (.slice A7 (al.length + 1) c7) from ⟨hB3, own3, hE3, hD3, hch3, by
            rcases hv9 with h | h
            · exact .inl h
            · exact .inr ⟨_, h, by have := HW.out.2.2; simp; omega⟩⟩)
          clear own3 hg3 hv3 hv9 hB3 hE3 hD3 hch3 hown9 hne3
          have dA : w7.cell? ⟨g, 65550, none⟩ = some (.slice AA an ac) := H7.out.1.at_ (by decide) dc_A
          have eA : w7.frozen? ⟨g, 65550, none⟩ = false := H7.out.1.fz _
          refine wpAnyH_take (i := 14) (oi := _) (v := ?_) (by simp only [List.getElem?_toArray, List.getElem?_cons_succ, List.getElem?_cons_zero]; rfl) (by kernel_rfl) (by kernel_rfl) (by kernel_rfl) (by intro _ _ _ h; exact h) (Or.inl ⟨by rfl, ?_⟩) (by assumption) ?_
          rotate_left
          · intro w hSw
            try dsimp only at hSw
            go_simp
            try with_reducible rfl
          try simp only [Act.put, List.setIfInBounds_toArray, List.set_cons_zero, List.set_cons_succ]
          refine wpAnyH_take (i := 15) (oi := _) (v := ?_) (by simp only [List.getElem?_toArray, List.getElem?_cons_succ, List.getElem?_cons_zero]; rfl) (by kernel_rfl) (by kernel_rfl) (by kernel_rfl) (by intro _ _ _ h; exact h) (Or.inl ⟨by rfl, ?_⟩) (by assumption) ?_
          rotate_left
          · intro w hSw
            try dsimp only at hSw
            go_simp
            try with_reducible rfl
          try simp only [Act.put, List.setIfInBounds_toArray, List.set_cons_zero, List.set_cons_succ]
          refine wpAnyH_ready (rs := [16]) (by kernel_rfl) (by simp) ?_
          refine AllReadyH.cons (o := _) (by simp only [List.getElem?_toArray, List.getElem?_cons_succ, List.getElem?_cons_zero]; rfl) (fun K hK => ?_) AllReadyH.nil
          go_simp
          refine hK.out _ _ ?_ (fun hHeld => ?_)
          · exact (World.cell?_setCell_other _ _ _ _ (by intro e; injection e with _ e; exact absurd e (by decide))).trans ct3
          clear hK K
          try simp only [Act.put, List.setIfInBounds_toArray, List.set_cons_zero, List.set_cons_succ]
          refine wpAnyH_done (by kernel_rfl) ?_ _
          clear dA eA ct3
          have hal := own_blk_ne H7.out.2.1 H7.out.1 (by decide)
          have hel := own_blk_ne H7.out.2.2.1 H7.out.1 (by decide)
          have hdl := own_blk_ne H7.out.2.2.2.1 H7.out.1 (by decide)
          have hG := grown_cell w7 g 65550 (.slice A7 (al.length + 1) c7)
          have HX := Lib.hid (show DcAt (w7.setCell ⟨g, 65550, none⟩ (.slice A7 (al.length + 1) c7)) base g { b with bo := v % 8, spk := S, mic := true } ph zs (al ++ [⟨b.t, true, port, v⟩]) ((es ++ [b.t])) D (.slice A7 (al.length + 1) c7) (.slice A3 (es.length + 1) c3) ∧ Ch w (w7.setCell ⟨g, 65550, none⟩ (.slice A7 (al.length + 1) c7)) (BdBlk g (.slice AA an ac) (.slice EA en ec)) from ⟨⟨H7.out.1.put (dset_A _), H7.out.2.2.2.1.kept hG (.inr hdl), by rw [actV_snoc, List.length_append]; exact H7.out.2.1.kept hG (.inr hal), H7.out.2.2.1.kept hG (.inr hel)⟩, H7.out.2.2.2.2.1.trans (Ch.of_grown (φ := fun k => k = g) hG (fun k e => by injection e with e; exact e.symm)) (fun _ h => h) (fun _ _ h => .inl h)⟩)
          clear hG hal hel hdl
          generalize (w7.setCell ⟨g, 65550, none⟩ (.slice A7 (al.length + 1) c7)) = w8 at *
          go_wp2
          go_end0
          exact ⟨_, _, _, rfl, by rw [HES.out.1, HES.out.2]; unfold logS; rw [if_pos HL.out]; exact HX.out.1, HX.out.2, H7.out.2.2.2.2.2, HNB.out⟩
        · have ctA : (W2.alloc (.cells #[.int .u64 b.t, .bool true, .int .u16 port, .int .u8 v] 72)).cell? ⟨g, 65537, none⟩ = some (.int .u64 b.t) := alloc_of ctW
          have cAA : (W2.alloc (.cells #[.int .u64 b.t, .bool true, .int .u16 port, .int .u8 v] 72)).cell? ⟨g, 65550, none⟩ = some (.slice AA an ac) := alloc_of cAW
          go_simp
          refine hK.out _ _ ?_ (fun hHeld => ?_)
          · exact ctA
          clear hK K
          try simp only [Act.put, List.setIfInBounds_toArray, List.set_cons_zero, List.set_cons_succ]
          refine wpAnyH_ready (rs := [4]) (by kernel_rfl) (by simp) ?_
          refine AllReadyH.cons (o := _) (by simp only [List.getElem?_toArray, List.getElem?_cons_succ, List.getElem?_cons_zero]; rfl) (fun K hK => ?_) AllReadyH.nil
          go_simp
          refine hK.out _ _ ?_ (fun hHeld => ?_)
          · exact ctA
          clear hK K
          try simp only [Act.put, List.setIfInBounds_toArray, List.set_cons_zero, List.set_cons_succ]
          refine wpAnyH_ready (rs := [13]) (by kernel_rfl) (by simp) ?_
          refine AllReadyH.cons (o := _) (by simp only [List.getElem?_toArray, List.getElem?_cons_succ, List.getElem?_cons_zero]; rfl) (fun K hK => ?_) AllReadyH.nil
          have HC := Lib.hid (show Reads (W2.alloc (.cells #[.int .u64 b.t, .bool true, .int .u16 port, .int .u8 v] 72)) (W2.alloc (.cells #[.int .u64 b.t, .bool true, .int .u16 port, .int .u8 v] 72)).heap.size 4 (some ⟨W2.heap.size, 0, none⟩) 1 [.int .u64 b.t, .bool true, .int .u16 port, .int .u8 v] ∧ al.length + 1 ≤ maxLen ∧ (al.length + 1) * 16 ≤ 140737488355328 ∧ base ≤ (W2.alloc (.cells #[.int .u64 b.t, .bool true, .int .u16 port, .int .u8 v] 72)).heap.size from ⟨⟨rfl, fun _ => ⟨_, rfl, by simp, lit_cells W2 [.int .u64 b.t, .bool true, .int .u16 port, .int .u8 v] 72⟩⟩, by unfold maxLen; omega, by omega, by have := HW.out.2.2; simp; omega⟩)
          have hown9 := HW.out.1.acts.alloc (.cells #[.int .u64 b.t, .bool true, .int .u16 port, .int .u8 v] 72)
          refine step_append_any _ (by rfl) _ _ _ (by rfl) base 72 j1 (.agg #[.int .u64 0, .bool false, .int .u16 0, .int .u8 0]) 4 16 Try.underlying33 kj ky0 ky1 ky2 rfl (by decide) (.slice AA an ac) al.length _ (by rfl) hown9 _ (some ⟨W2.heap.size, 0, none⟩) 1 1 [.int .u64 b.t, .bool true, .int .u16 port, .int .u8 v] (by rfl) HC.out.1 (by simp [Value.oneCell']) HC.out.2.1 HC.out.2.2.1 HC.out.2.2.2 ?_
          intro v7 w7 own3 hg3 hv3
          have hv9 := hv3
          obtain ⟨A7, c7, rfl⟩ := own_slice own3
          have hne3 : (some g : Option Nat) ≠ (Value.slice AA an ac).ownBlock := fun e => HNA.out.1 e.symm
          have hB3 : DcIs w7 g { b with bo := v % 8, spk := S, mic := true } ph D (.slice AA an ac) (.slice A3 (es.length + 1) c3) := Blk.grown (Blk.alloc HW.out.1.bd _) hg3 hne3
          have hE3 := (HW.out.1.edges.alloc (.cells #[.int .u64 b.t, .bool true, .int .u16 port, .int .u8 v] 72)).kept hg3 (by rcases he : Value.ownBlock (.slice A3 (es.length + 1) c3) with _ | k; exact .inl rfl; exact .inr (fun e => HNA.out.2.1 k e.symm he))
          have hD3 := (HW.out.1.down.alloc (.cells #[.int .u64 b.t, .bool true, .int .u16 port, .int .u8 v] 72)).kept hg3 (by rcases he : D.ownBlock with _ | k; exact .inl rfl; exact .inr (fun e => HNA.out.2.2 k e.symm he))
          have hch3 : Ch w w7 (BdBlk g (.slice AA an ac) (.slice EA en ec)) := (HW.out.2.1.trans (Ch.of_below (φ := fun _ => False) (w := W2) ((Below.refl _ _).alloc (Nat.le_refl _) _)) (χ := BdBlk g (.slice AA an ac) (.slice EA en ec)) (fun _ h => h) (fun _ _ h => h.elim)).trans (Ch.of_grown (φ := fun k => (Value.slice AA an ac).ownBlock = some k) hg3 (fun k e => e)) (fun _ h => h) (fun _ _ h => .inr (.inl h))
          have ct3 : w7.cell? ⟨g, 65537, none⟩ = some (.int .u64 b.t) := hB3.at_ (by decide) dc_t
          refine hK.out _ _ ?_ (fun hHeld => ?_)
          · exact ct3
          clear hK K
          try simp only [Act.put, List.setIfInBounds_toArray, List.set_cons_zero, List.set_cons_succ]
          have H7 := Lib.hid (show DcIs w7 g { b with bo := v % 8, spk := S, mic := true } ph D (.slice AA an ac) (.slice A3 (es.length + 1) c3) ∧ w7.ownsRow base 72 4 (.slice A7 (al.length + 1) c7) (al.length + 1) (actV al ++ [.int .u64 b.t, .bool true, .int .u16 port, .int .u8 v]) ∧ w7.ownsRow base 32 1 (.slice A3 (es.length + 1) c3) ((es ++ [b.t])).length (((es ++ [b.t])).map (Value.int .u64)) ∧ w7.ownsRow base 3 1 D zs.length (zs.map (Value.int .i64)) ∧ Ch w w7 (BdBlk g (.slice AA an ac) (.slice EA en ec)) ∧ NewBlk w (.slice AA an ac) (.slice A7 (al.length + 1) c7) from ⟨hB3, own3, hE3, hD3, hch3, by
            rcases hv9 with h | h
            · exact .inl h
            · exact .inr ⟨_, h, by have := HW.out.2.2; simp; omega⟩⟩)
          clear own3 hg3 hv3 hv9 hB3 hE3 hD3 hch3 hown9 hne3
          have dA : w7.cell? ⟨g, 65550, none⟩ = some (.slice AA an ac) := H7.out.1.at_ (by decide) dc_A
          have eA : w7.frozen? ⟨g, 65550, none⟩ = false := H7.out.1.fz _
          refine wpAnyH_take (i := 14) (oi := _) (v := ?_) (by simp only [List.getElem?_toArray, List.getElem?_cons_succ, List.getElem?_cons_zero]; rfl) (by kernel_rfl) (by kernel_rfl) (by kernel_rfl) (by intro _ _ _ h; exact h) (Or.inl ⟨by rfl, ?_⟩) (by assumption) ?_
          rotate_left
          · intro w hSw
            try dsimp only at hSw
            go_simp
            try with_reducible rfl
          try simp only [Act.put, List.setIfInBounds_toArray, List.set_cons_zero, List.set_cons_succ]
          refine wpAnyH_take (i := 15) (oi := _) (v := ?_) (by simp only [List.getElem?_toArray, List.getElem?_cons_succ, List.getElem?_cons_zero]; rfl) (by kernel_rfl) (by kernel_rfl) (by kernel_rfl) (by intro _ _ _ h; exact h) (Or.inl ⟨by rfl, ?_⟩) (by assumption) ?_
          rotate_left
          · intro w hSw
            try dsimp only at hSw
            go_simp
            try with_reducible rfl
          try simp only [Act.put, List.setIfInBounds_toArray, List.set_cons_zero, List.set_cons_succ]
          refine wpAnyH_ready (rs := [16]) (by kernel_rfl) (by simp) ?_
          refine AllReadyH.cons (o := _) (by simp only [List.getElem?_toArray, List.getElem?_cons_succ, List.getElem?_cons_zero]; rfl) (fun K hK => ?_) AllReadyH.nil
          go_simp
          refine hK.out _ _ ?_ (fun hHeld => ?_)
          · exact (World.cell?_setCell_other _ _ _ _ (by intro e; injection e with _ e; exact absurd e (by decide))).trans ct3
          clear hK K
          try simp only [Act.put, List.setIfInBounds_toArray, List.set_cons_zero, List.set_cons_succ]
          refine wpAnyH_done (by kernel_rfl) ?_ _
          clear dA eA ct3
          have hal := own_blk_ne H7.out.2.1 H7.out.1 (by decide)
          have hel := own_blk_ne H7.out.2.2.1 H7.out.1 (by decide)
          have hdl := own_blk_ne H7.out.2.2.2.1 H7.out.1 (by decide)
          have hG := grown_cell w7 g 65550 (.slice A7 (al.length + 1) c7)
          have HX := Lib.hid (show DcAt (w7.setCell ⟨g, 65550, none⟩ (.slice A7 (al.length + 1) c7)) base g { b with bo := v % 8, spk := S, mic := true } ph zs (al ++ [⟨b.t, true, port, v⟩]) ((es ++ [b.t])) D (.slice A7 (al.length + 1) c7) (.slice A3 (es.length + 1) c3) ∧ Ch w (w7.setCell ⟨g, 65550, none⟩ (.slice A7 (al.length + 1) c7)) (BdBlk g (.slice AA an ac) (.slice EA en ec)) from ⟨⟨H7.out.1.put (dset_A _), H7.out.2.2.2.1.kept hG (.inr hdl), by rw [actV_snoc, List.length_append]; exact H7.out.2.1.kept hG (.inr hal), H7.out.2.2.1.kept hG (.inr hel)⟩, H7.out.2.2.2.2.1.trans (Ch.of_grown (φ := fun k => k = g) hG (fun k e => by injection e with e; exact e.symm)) (fun _ h => h) (fun _ _ h => .inl h)⟩)
          clear hG hal hel hdl
          generalize (w7.setCell ⟨g, 65550, none⟩ (.slice A7 (al.length + 1) c7)) = w8 at *
          go_wp2
          go_end0
          exact ⟨_, _, _, rfl, by rw [HES.out.1, HES.out.2]; unfold logS; rw [if_pos HL.out]; exact HX.out.1, HX.out.2, H7.out.2.2.2.2.2, HNB.out⟩
  · have cm : w2.cell? ⟨g, 65548, none⟩ = some (.bool true) := by rw [← hbm]; exact c48
    have HBM := Lib.hid hbm
    clear c48 hbm
    have HES := Lib.hid (show BB = _ ∧ ES = es from ⟨HB.out.1, HB.out.2.trans (by rw [HBM.out]; rfl)⟩)
    have HY := Lib.hid (show DcAt w2 base g { b with bo := v % 8, spk := S } ph zs al es D A E ∧ Ch w w2 (BdBlk g A E) ∧ NewBlk w E E from ⟨HZ.out.1, HZ.out.2.1.trans (Ch.refl w2 (fun _ => False)) (fun _ e => .inl e) (fun _ _ e => e.elim), .inl rfl⟩)
    clear HZ
    have hw2 := HY.out.2.1.size
    have m48 := HY.out.1.bd.at_ (i := 65548) (by decide) dc_mic
    have g48 := HY.out.1.bd.fz 65548
    go_upto_region 9 with fail
    have HU := Lib.hid (show DcAt (w2.setCell ⟨g, 65548, none⟩ (.bool true)) base g { b with bo := v % 8, spk := S, mic := true } ph zs al es D A E ∧ Ch w (w2.setCell ⟨g, 65548, none⟩ (.bool true)) (BdBlk g A E) ∧ NewBlk w E E ∧ w.heap.size ≤ (w2.setCell ⟨g, 65548, none⟩ (.bool true)).heap.size from ⟨HY.out.1.put (dset_mic _), HY.out.2.1.trans (Ch.of_grown (φ := fun k => k = g) (grown_cell _ _ _ _) (fun k e => by injection e with e; exact e.symm)) (fun _ e => e) (fun _ _ e => .inl e), HY.out.2.2, by simp [World.setCell]; omega⟩)
    clear m48 g48 HY hw2
    generalize (w2.setCell ⟨g, 65548, none⟩ (.bool true)) = w5 at *
    have cl := HU.out.1.bd.at_ (i := 65542) (by decide) dc_log
    cases hlog : b.log
    · have cl2 : w5.cell? ⟨g, 65542, none⟩ = some (.bool false) := by rw [← hlog]; exact cl
      have HL := Lib.hid hlog
      clear cl hlog
      go_wp2
      go_end0
      exact ⟨_, A, E, rfl, by rw [HES.out.1, HES.out.2]; unfold logS; rw [if_neg (by rw [HL.out]; decide)]; exact HU.out.1, HU.out.2.1, .inl rfl, HU.out.2.2.1⟩
    · have cl2 : w5.cell? ⟨g, 65542, none⟩ = some (.bool true) := by rw [← hlog]; exact cl
      have HL := Lib.hid hlog
      clear cl hlog
      obtain ⟨AA, an, ac, hAs⟩ : ∃ x n c, A = .slice x n c := by
        rcases HU.out.1.acts.2 with ⟨e, _⟩ | ⟨g', cap, cur, e, _⟩
        · exact ⟨none, 0, 0, e⟩
        · exact ⟨_, _, cap, e⟩
      subst hAs
      obtain ⟨j1, kj, ky0, ky1, ky2⟩ := info_parts actInfo
      have cA := HU.out.1.bd.at_ (i := 65550) (by decide) dc_A
      have ct : w5.cell? ⟨g, 65537, none⟩ = some (.int .u64 b.t) := HU.out.1.bd.at_ (i := 65537) (by decide) dc_t
      have HNA := Lib.hid (And.intro (own_blk_ne HU.out.1.acts HU.out.1.bd (by decide)) (And.intro (own_types_ne HU.out.1.acts HU.out.1.edges (by decide)) (own_types_ne HU.out.1.acts HU.out.1.down (by decide))))
      go_upto_region 10 with fail
      clear cl2
      refine wp_region_held_drew (S := fun w' => w'.cell? ⟨g, 65537, none⟩ = some (.int .u64 b.t)) (by kernel_rfl) ?_ (fun hHeld => ?_)
      · exact ct
      have HW := Lib.hid (show DcAt w5.drew base g { b with bo := v % 8, spk := S, mic := true } ph zs al es D (.slice AA an ac) E ∧ Ch w w5.drew (BdBlk g (.slice AA an ac) E) ∧ w.heap.size ≤ w5.drew.heap.size from ⟨⟨HU.out.1.bd, HU.out.1.down, HU.out.1.acts, HU.out.1.edges⟩, ⟨HU.out.2.1.os, HU.out.2.1.tape, HU.out.2.1.output, HU.out.2.1.size, HU.out.2.1.block⟩, HU.out.2.2.2⟩)
      have HNB := Lib.hid HU.out.2.2.1
      have cAW : w5.drew.cell? ⟨g, 65550, none⟩ = some (.slice AA an ac) := cA
      have ctW : w5.drew.cell? ⟨g, 65537, none⟩ = some (.int .u64 b.t) := ct
      clear cA ct HU
      generalize w5.drew = W2 at *
      refine wpAnyH_take (i := 0) (oi := _) (v := ?_) (by simp only [List.getElem?_toArray, List.getElem?_cons_succ, List.getElem?_cons_zero]; rfl) (by kernel_rfl) (by kernel_rfl) (by kernel_rfl) (by intro _ _ _ h; exact h) (Or.inl ⟨by rfl, ?_⟩) (by assumption) ?_
      rotate_left
      · intro w hSw
        try dsimp only at hSw
        go_simp
        try with_reducible rfl
      try simp only [Act.put, List.setIfInBounds_toArray, List.set_cons_zero, List.set_cons_succ]
      refine wpAnyH_take (i := 1) (oi := _) (v := ?_) (by simp only [List.getElem?_toArray, List.getElem?_cons_succ, List.getElem?_cons_zero]; rfl) (by kernel_rfl) (by kernel_rfl) (by kernel_rfl) (by intro _ _ _ h; exact h) (Or.inl ⟨by rfl, ?_⟩) (by assumption) ?_
      rotate_left
      · intro w hSw
        try dsimp only at hSw
        go_simp
        try with_reducible rfl
      try simp only [Act.put, List.setIfInBounds_toArray, List.set_cons_zero, List.set_cons_succ]
      refine wpAnyH_take (i := 2) (oi := _) (v := ?_) (by simp only [List.getElem?_toArray, List.getElem?_cons_succ, List.getElem?_cons_zero]; rfl) (by kernel_rfl) (by kernel_rfl) (by kernel_rfl) (by intro _ _ _ h; exact h) (Or.inl ⟨by rfl, ?_⟩) (by assumption) ?_
      rotate_left
      · intro w hSw
        try dsimp only at hSw
        go_simp
        try with_reducible rfl
      try simp only [Act.put, List.setIfInBounds_toArray, List.set_cons_zero, List.set_cons_succ]
      refine wpAnyH_take (i := 3) (oi := _) (v := ?_) (by simp only [List.getElem?_toArray, List.getElem?_cons_succ, List.getElem?_cons_zero]; rfl) (by kernel_rfl) (by kernel_rfl) (by kernel_rfl) (by intro _ _ _ h; exact h) (Or.inl ⟨by rfl, ?_⟩) (by assumption) ?_
      rotate_left
      · intro w hSw
        try dsimp only at hSw
        go_simp
        try with_reducible rfl
      try simp only [Act.put, List.setIfInBounds_toArray, List.set_cons_zero, List.set_cons_succ]
      refine wpAnyH_take (i := 5) (oi := _) (v := ?_) (by simp only [List.getElem?_toArray, List.getElem?_cons_succ, List.getElem?_cons_zero]; rfl) (by kernel_rfl) (by kernel_rfl) (by kernel_rfl) (by intro _ _ _ h; exact h) (Or.inl ⟨by rfl, ?_⟩) (by assumption) ?_
      rotate_left
      · intro w hSw
        try dsimp only at hSw
        go_simp
        try with_reducible rfl
      try simp only [Act.put, List.setIfInBounds_toArray, List.set_cons_zero, List.set_cons_succ]
      refine wpAnyH_take (i := 6) (oi := _) (v := ?_) (by simp only [List.getElem?_toArray, List.getElem?_cons_succ, List.getElem?_cons_zero]; rfl) (by kernel_rfl) (by kernel_rfl) (by kernel_rfl) (by intro _ _ _ h; exact h) (Or.inl ⟨by rfl, ?_⟩) (by assumption) ?_
      rotate_left
      · intro w hSw
        try dsimp only at hSw
        go_simp
        try with_reducible rfl
      try simp only [Act.put, List.setIfInBounds_toArray, List.set_cons_zero, List.set_cons_succ]
      refine wpAnyH_take (i := 7) (oi := _) (v := ?_) (by simp only [List.getElem?_toArray, List.getElem?_cons_succ, List.getElem?_cons_zero]; rfl) (by kernel_rfl) (by kernel_rfl) (by kernel_rfl) (by intro _ _ _ h; exact h) (Or.inl ⟨by rfl, ?_⟩) (by assumption) ?_
      rotate_left
      · intro w hSw
        try dsimp only at hSw
        go_simp
        try with_reducible rfl
      try simp only [Act.put, List.setIfInBounds_toArray, List.set_cons_zero, List.set_cons_succ]
      refine wpAnyH_take (i := 8) (oi := _) (v := ?_) (by simp only [List.getElem?_toArray, List.getElem?_cons_succ, List.getElem?_cons_zero]; rfl) (by kernel_rfl) (by kernel_rfl) (by kernel_rfl) (by intro _ _ _ h; exact h) (Or.inl ⟨by rfl, ?_⟩) (by assumption) ?_
      rotate_left
      · intro w hSw
        try dsimp only at hSw
        go_simp
        try with_reducible rfl
      try simp only [Act.put, List.setIfInBounds_toArray, List.set_cons_zero, List.set_cons_succ]
      refine wpAnyH_take (i := 9) (oi := _) (v := ?_) (by simp only [List.getElem?_toArray, List.getElem?_cons_succ, List.getElem?_cons_zero]; rfl) (by kernel_rfl) (by kernel_rfl) (by kernel_rfl) (by intro _ _ _ h; exact h) (Or.inl ⟨by rfl, ?_⟩) (by assumption) ?_
      rotate_left
      · intro w hSw
        try dsimp only at hSw
        go_simp
        try with_reducible rfl
      try simp only [Act.put, List.setIfInBounds_toArray, List.set_cons_zero, List.set_cons_succ]
      refine wpAnyH_take (i := 10) (oi := _) (v := ?_) (by simp only [List.getElem?_toArray, List.getElem?_cons_succ, List.getElem?_cons_zero]; rfl) (by kernel_rfl) (by kernel_rfl) (by kernel_rfl) (by intro _ _ _ h; exact h) (Or.inl ⟨by rfl, ?_⟩) (by assumption) ?_
      rotate_left
      · intro w hSw
        try dsimp only at hSw
        go_simp
        try with_reducible rfl
      try simp only [Act.put, List.setIfInBounds_toArray, List.set_cons_zero, List.set_cons_succ]
      refine wpAnyH_take (i := 11) (oi := _) (v := ?_) (by simp only [List.getElem?_toArray, List.getElem?_cons_succ, List.getElem?_cons_zero]; rfl) (by kernel_rfl) (by kernel_rfl) (by kernel_rfl) (by intro _ _ _ h; exact h) (Or.inl ⟨by rfl, ?_⟩) (by assumption) ?_
      rotate_left
      · intro w hSw
        try dsimp only at hSw
        go_simp
        try with_reducible rfl
      try simp only [Act.put, List.setIfInBounds_toArray, List.set_cons_zero, List.set_cons_succ]
      refine wpAnyH_ready (rs := [4, 12]) (by kernel_rfl) (by simp) ?_
      refine AllReadyH.cons (o := _) (by simp only [List.getElem?_toArray, List.getElem?_cons_succ, List.getElem?_cons_zero]; rfl) (fun K hK => ?_) (AllReadyH.cons (o := _) (by simp only [List.getElem?_toArray, List.getElem?_cons_succ, List.getElem?_cons_zero]; rfl) (fun K hK => ?_) AllReadyH.nil)
      · go_simp
        refine hK.out _ _ ?_ (fun hHeld => ?_)
        · exact ctW
        clear hK K
        try simp only [Act.put, List.setIfInBounds_toArray, List.set_cons_zero, List.set_cons_succ]
        refine wpAnyH_ready (rs := [12]) (by kernel_rfl) (by simp) ?_
        refine AllReadyH.cons (o := _) (by simp only [List.getElem?_toArray, List.getElem?_cons_succ, List.getElem?_cons_zero]; rfl) (fun K hK => ?_) AllReadyH.nil
        have ctA : (W2.alloc (.cells #[.int .u64 b.t, .bool true, .int .u16 port, .int .u8 v] 72)).cell? ⟨g, 65537, none⟩ = some (.int .u64 b.t) := alloc_of ctW
        have cAA : (W2.alloc (.cells #[.int .u64 b.t, .bool true, .int .u16 port, .int .u8 v] 72)).cell? ⟨g, 65550, none⟩ = some (.slice AA an ac) := alloc_of cAW
        go_simp
        refine hK.out _ _ ?_ (fun hHeld => ?_)
        · exact ctA
        clear hK K
        try simp only [Act.put, List.setIfInBounds_toArray, List.set_cons_zero, List.set_cons_succ]
        refine wpAnyH_ready (rs := [13]) (by kernel_rfl) (by simp) ?_
        refine AllReadyH.cons (o := _) (by simp only [List.getElem?_toArray, List.getElem?_cons_succ, List.getElem?_cons_zero]; rfl) (fun K hK => ?_) AllReadyH.nil
        have HC := Lib.hid (show Reads (W2.alloc (.cells #[.int .u64 b.t, .bool true, .int .u16 port, .int .u8 v] 72)) (W2.alloc (.cells #[.int .u64 b.t, .bool true, .int .u16 port, .int .u8 v] 72)).heap.size 4 (some ⟨W2.heap.size, 0, none⟩) 1 [.int .u64 b.t, .bool true, .int .u16 port, .int .u8 v] ∧ al.length + 1 ≤ maxLen ∧ (al.length + 1) * 16 ≤ 140737488355328 ∧ base ≤ (W2.alloc (.cells #[.int .u64 b.t, .bool true, .int .u16 port, .int .u8 v] 72)).heap.size from ⟨⟨rfl, fun _ => ⟨_, rfl, by simp, lit_cells W2 [.int .u64 b.t, .bool true, .int .u16 port, .int .u8 v] 72⟩⟩, by unfold maxLen; omega, by omega, by have := HW.out.2.2; simp; omega⟩)
        have hown9 := HW.out.1.acts.alloc (.cells #[.int .u64 b.t, .bool true, .int .u16 port, .int .u8 v] 72)
        refine step_append_any _ (by rfl) _ _ _ (by rfl) base 72 j1 (.agg #[.int .u64 0, .bool false, .int .u16 0, .int .u8 0]) 4 16 Try.underlying33 kj ky0 ky1 ky2 rfl (by decide) (.slice AA an ac) al.length _ (by rfl) hown9 _ (some ⟨W2.heap.size, 0, none⟩) 1 1 [.int .u64 b.t, .bool true, .int .u16 port, .int .u8 v] (by rfl) HC.out.1 (by simp [Value.oneCell']) HC.out.2.1 HC.out.2.2.1 HC.out.2.2.2 ?_
        intro v7 w7 own3 hg3 hv3
        have hv9 := hv3
        obtain ⟨A7, c7, rfl⟩ := own_slice own3
        have hne3 : (some g : Option Nat) ≠ (Value.slice AA an ac).ownBlock := fun e => HNA.out.1 e.symm
        have hB3 : DcIs w7 g { b with bo := v % 8, spk := S, mic := true } ph D (.slice AA an ac) E := Blk.grown (Blk.alloc HW.out.1.bd _) hg3 hne3
        have hE3 := (HW.out.1.edges.alloc (.cells #[.int .u64 b.t, .bool true, .int .u16 port, .int .u8 v] 72)).kept hg3 (by rcases he : Value.ownBlock E with _ | k; exact .inl rfl; exact .inr (fun e => HNA.out.2.1 k e.symm he))
        have hD3 := (HW.out.1.down.alloc (.cells #[.int .u64 b.t, .bool true, .int .u16 port, .int .u8 v] 72)).kept hg3 (by rcases he : D.ownBlock with _ | k; exact .inl rfl; exact .inr (fun e => HNA.out.2.2 k e.symm he))
        have hch3 : Ch w w7 (BdBlk g (.slice AA an ac) E) := (HW.out.2.1.trans (Ch.of_below (φ := fun _ => False) (w := W2) ((Below.refl _ _).alloc (Nat.le_refl _) _)) (χ := BdBlk g (.slice AA an ac) E) (fun _ h => h) (fun _ _ h => h.elim)).trans (Ch.of_grown (φ := fun k => (Value.slice AA an ac).ownBlock = some k) hg3 (fun k e => e)) (fun _ h => h) (fun _ _ h => .inr (.inl h))
        have ct3 : w7.cell? ⟨g, 65537, none⟩ = some (.int .u64 b.t) := hB3.at_ (by decide) dc_t
        refine hK.out _ _ ?_ (fun hHeld => ?_)
        · exact ct3
        clear hK K
        try simp only [Act.put, List.setIfInBounds_toArray, List.set_cons_zero, List.set_cons_succ]
        have H7 := Lib.hid (show DcIs w7 g { b with bo := v % 8, spk := S, mic := true } ph D (.slice AA an ac) E ∧ w7.ownsRow base 72 4 (.slice A7 (al.length + 1) c7) (al.length + 1) (actV al ++ [.int .u64 b.t, .bool true, .int .u16 port, .int .u8 v]) ∧ w7.ownsRow base 32 1 E (es).length ((es).map (Value.int .u64)) ∧ w7.ownsRow base 3 1 D zs.length (zs.map (Value.int .i64)) ∧ Ch w w7 (BdBlk g (.slice AA an ac) E) ∧ NewBlk w (.slice AA an ac) (.slice A7 (al.length + 1) c7) from ⟨hB3, own3, hE3, hD3, hch3, by
          rcases hv9 with h | h
          · exact .inl h
          · exact .inr ⟨_, h, by have := HW.out.2.2; simp; omega⟩⟩)
        clear own3 hg3 hv3 hv9 hB3 hE3 hD3 hch3 hown9 hne3
        have dA : w7.cell? ⟨g, 65550, none⟩ = some (.slice AA an ac) := H7.out.1.at_ (by decide) dc_A
        have eA : w7.frozen? ⟨g, 65550, none⟩ = false := H7.out.1.fz _
        refine wpAnyH_take (i := 14) (oi := _) (v := ?_) (by simp only [List.getElem?_toArray, List.getElem?_cons_succ, List.getElem?_cons_zero]; rfl) (by kernel_rfl) (by kernel_rfl) (by kernel_rfl) (by intro _ _ _ h; exact h) (Or.inl ⟨by rfl, ?_⟩) (by assumption) ?_
        rotate_left
        · intro w hSw
          try dsimp only at hSw
          go_simp
          try with_reducible rfl
        try simp only [Act.put, List.setIfInBounds_toArray, List.set_cons_zero, List.set_cons_succ]
        refine wpAnyH_take (i := 15) (oi := _) (v := ?_) (by simp only [List.getElem?_toArray, List.getElem?_cons_succ, List.getElem?_cons_zero]; rfl) (by kernel_rfl) (by kernel_rfl) (by kernel_rfl) (by intro _ _ _ h; exact h) (Or.inl ⟨by rfl, ?_⟩) (by assumption) ?_
        rotate_left
        · intro w hSw
          try dsimp only at hSw
          go_simp
          try with_reducible rfl
        try simp only [Act.put, List.setIfInBounds_toArray, List.set_cons_zero, List.set_cons_succ]
        refine wpAnyH_ready (rs := [16]) (by kernel_rfl) (by simp) ?_
        refine AllReadyH.cons (o := _) (by simp only [List.getElem?_toArray, List.getElem?_cons_succ, List.getElem?_cons_zero]; rfl) (fun K hK => ?_) AllReadyH.nil
        go_simp
        refine hK.out _ _ ?_ (fun hHeld => ?_)
        · exact (World.cell?_setCell_other _ _ _ _ (by intro e; injection e with _ e; exact absurd e (by decide))).trans ct3
        clear hK K
        try simp only [Act.put, List.setIfInBounds_toArray, List.set_cons_zero, List.set_cons_succ]
        refine wpAnyH_done (by kernel_rfl) ?_ _
        clear dA eA ct3
        have hal := own_blk_ne H7.out.2.1 H7.out.1 (by decide)
        have hel := own_blk_ne H7.out.2.2.1 H7.out.1 (by decide)
        have hdl := own_blk_ne H7.out.2.2.2.1 H7.out.1 (by decide)
        have hG := grown_cell w7 g 65550 (.slice A7 (al.length + 1) c7)
        have HX := Lib.hid (show DcAt (w7.setCell ⟨g, 65550, none⟩ (.slice A7 (al.length + 1) c7)) base g { b with bo := v % 8, spk := S, mic := true } ph zs (al ++ [⟨b.t, true, port, v⟩]) (es) D (.slice A7 (al.length + 1) c7) E ∧ Ch w (w7.setCell ⟨g, 65550, none⟩ (.slice A7 (al.length + 1) c7)) (BdBlk g (.slice AA an ac) E) from ⟨⟨H7.out.1.put (dset_A _), H7.out.2.2.2.1.kept hG (.inr hdl), by rw [actV_snoc, List.length_append]; exact H7.out.2.1.kept hG (.inr hal), H7.out.2.2.1.kept hG (.inr hel)⟩, H7.out.2.2.2.2.1.trans (Ch.of_grown (φ := fun k => k = g) hG (fun k e => by injection e with e; exact e.symm)) (fun _ h => h) (fun _ _ h => .inl h)⟩)
        clear hG hal hel hdl
        generalize (w7.setCell ⟨g, 65550, none⟩ (.slice A7 (al.length + 1) c7)) = w8 at *
        go_wp2
        go_end0
        exact ⟨_, _, _, rfl, by rw [HES.out.1, HES.out.2]; unfold logS; rw [if_pos HL.out]; exact HX.out.1, HX.out.2, H7.out.2.2.2.2.2, HNB.out⟩
      · have ctA : (W2.alloc (.cells #[.int .u64 b.t, .bool true, .int .u16 port, .int .u8 v] 72)).cell? ⟨g, 65537, none⟩ = some (.int .u64 b.t) := alloc_of ctW
        have cAA : (W2.alloc (.cells #[.int .u64 b.t, .bool true, .int .u16 port, .int .u8 v] 72)).cell? ⟨g, 65550, none⟩ = some (.slice AA an ac) := alloc_of cAW
        go_simp
        refine hK.out _ _ ?_ (fun hHeld => ?_)
        · exact ctA
        clear hK K
        try simp only [Act.put, List.setIfInBounds_toArray, List.set_cons_zero, List.set_cons_succ]
        refine wpAnyH_ready (rs := [4]) (by kernel_rfl) (by simp) ?_
        refine AllReadyH.cons (o := _) (by simp only [List.getElem?_toArray, List.getElem?_cons_succ, List.getElem?_cons_zero]; rfl) (fun K hK => ?_) AllReadyH.nil
        go_simp
        refine hK.out _ _ ?_ (fun hHeld => ?_)
        · exact ctA
        clear hK K
        try simp only [Act.put, List.setIfInBounds_toArray, List.set_cons_zero, List.set_cons_succ]
        refine wpAnyH_ready (rs := [13]) (by kernel_rfl) (by simp) ?_
        refine AllReadyH.cons (o := _) (by simp only [List.getElem?_toArray, List.getElem?_cons_succ, List.getElem?_cons_zero]; rfl) (fun K hK => ?_) AllReadyH.nil
        have HC := Lib.hid (show Reads (W2.alloc (.cells #[.int .u64 b.t, .bool true, .int .u16 port, .int .u8 v] 72)) (W2.alloc (.cells #[.int .u64 b.t, .bool true, .int .u16 port, .int .u8 v] 72)).heap.size 4 (some ⟨W2.heap.size, 0, none⟩) 1 [.int .u64 b.t, .bool true, .int .u16 port, .int .u8 v] ∧ al.length + 1 ≤ maxLen ∧ (al.length + 1) * 16 ≤ 140737488355328 ∧ base ≤ (W2.alloc (.cells #[.int .u64 b.t, .bool true, .int .u16 port, .int .u8 v] 72)).heap.size from ⟨⟨rfl, fun _ => ⟨_, rfl, by simp, lit_cells W2 [.int .u64 b.t, .bool true, .int .u16 port, .int .u8 v] 72⟩⟩, by unfold maxLen; omega, by omega, by have := HW.out.2.2; simp; omega⟩)
        have hown9 := HW.out.1.acts.alloc (.cells #[.int .u64 b.t, .bool true, .int .u16 port, .int .u8 v] 72)
        refine step_append_any _ (by rfl) _ _ _ (by rfl) base 72 j1 (.agg #[.int .u64 0, .bool false, .int .u16 0, .int .u8 0]) 4 16 Try.underlying33 kj ky0 ky1 ky2 rfl (by decide) (.slice AA an ac) al.length _ (by rfl) hown9 _ (some ⟨W2.heap.size, 0, none⟩) 1 1 [.int .u64 b.t, .bool true, .int .u16 port, .int .u8 v] (by rfl) HC.out.1 (by simp [Value.oneCell']) HC.out.2.1 HC.out.2.2.1 HC.out.2.2.2 ?_
        intro v7 w7 own3 hg3 hv3
        have hv9 := hv3
        obtain ⟨A7, c7, rfl⟩ := own_slice own3
        have hne3 : (some g : Option Nat) ≠ (Value.slice AA an ac).ownBlock := fun e => HNA.out.1 e.symm
        have hB3 : DcIs w7 g { b with bo := v % 8, spk := S, mic := true } ph D (.slice AA an ac) E := Blk.grown (Blk.alloc HW.out.1.bd _) hg3 hne3
        have hE3 := (HW.out.1.edges.alloc (.cells #[.int .u64 b.t, .bool true, .int .u16 port, .int .u8 v] 72)).kept hg3 (by rcases he : Value.ownBlock E with _ | k; exact .inl rfl; exact .inr (fun e => HNA.out.2.1 k e.symm he))
        have hD3 := (HW.out.1.down.alloc (.cells #[.int .u64 b.t, .bool true, .int .u16 port, .int .u8 v] 72)).kept hg3 (by rcases he : D.ownBlock with _ | k; exact .inl rfl; exact .inr (fun e => HNA.out.2.2 k e.symm he))
        have hch3 : Ch w w7 (BdBlk g (.slice AA an ac) E) := (HW.out.2.1.trans (Ch.of_below (φ := fun _ => False) (w := W2) ((Below.refl _ _).alloc (Nat.le_refl _) _)) (χ := BdBlk g (.slice AA an ac) E) (fun _ h => h) (fun _ _ h => h.elim)).trans (Ch.of_grown (φ := fun k => (Value.slice AA an ac).ownBlock = some k) hg3 (fun k e => e)) (fun _ h => h) (fun _ _ h => .inr (.inl h))
        have ct3 : w7.cell? ⟨g, 65537, none⟩ = some (.int .u64 b.t) := hB3.at_ (by decide) dc_t
        refine hK.out _ _ ?_ (fun hHeld => ?_)
        · exact ct3
        clear hK K
        try simp only [Act.put, List.setIfInBounds_toArray, List.set_cons_zero, List.set_cons_succ]
        have H7 := Lib.hid (show DcIs w7 g { b with bo := v % 8, spk := S, mic := true } ph D (.slice AA an ac) E ∧ w7.ownsRow base 72 4 (.slice A7 (al.length + 1) c7) (al.length + 1) (actV al ++ [.int .u64 b.t, .bool true, .int .u16 port, .int .u8 v]) ∧ w7.ownsRow base 32 1 E (es).length ((es).map (Value.int .u64)) ∧ w7.ownsRow base 3 1 D zs.length (zs.map (Value.int .i64)) ∧ Ch w w7 (BdBlk g (.slice AA an ac) E) ∧ NewBlk w (.slice AA an ac) (.slice A7 (al.length + 1) c7) from ⟨hB3, own3, hE3, hD3, hch3, by
          rcases hv9 with h | h
          · exact .inl h
          · exact .inr ⟨_, h, by have := HW.out.2.2; simp; omega⟩⟩)
        clear own3 hg3 hv3 hv9 hB3 hE3 hD3 hch3 hown9 hne3
        have dA : w7.cell? ⟨g, 65550, none⟩ = some (.slice AA an ac) := H7.out.1.at_ (by decide) dc_A
        have eA : w7.frozen? ⟨g, 65550, none⟩ = false := H7.out.1.fz _
        refine wpAnyH_take (i := 14) (oi := _) (v := ?_) (by simp only [List.getElem?_toArray, List.getElem?_cons_succ, List.getElem?_cons_zero]; rfl) (by kernel_rfl) (by kernel_rfl) (by kernel_rfl) (by intro _ _ _ h; exact h) (Or.inl ⟨by rfl, ?_⟩) (by assumption) ?_
        rotate_left
        · intro w hSw
          try dsimp only at hSw
          go_simp
          try with_reducible rfl
        try simp only [Act.put, List.setIfInBounds_toArray, List.set_cons_zero, List.set_cons_succ]
        refine wpAnyH_take (i := 15) (oi := _) (v := ?_) (by simp only [List.getElem?_toArray, List.getElem?_cons_succ, List.getElem?_cons_zero]; rfl) (by kernel_rfl) (by kernel_rfl) (by kernel_rfl) (by intro _ _ _ h; exact h) (Or.inl ⟨by rfl, ?_⟩) (by assumption) ?_
        rotate_left
        · intro w hSw
          try dsimp only at hSw
          go_simp
          try with_reducible rfl
        try simp only [Act.put, List.setIfInBounds_toArray, List.set_cons_zero, List.set_cons_succ]
        refine wpAnyH_ready (rs := [16]) (by kernel_rfl) (by simp) ?_
        refine AllReadyH.cons (o := _) (by simp only [List.getElem?_toArray, List.getElem?_cons_succ, List.getElem?_cons_zero]; rfl) (fun K hK => ?_) AllReadyH.nil
        go_simp
        refine hK.out _ _ ?_ (fun hHeld => ?_)
        · exact (World.cell?_setCell_other _ _ _ _ (by intro e; injection e with _ e; exact absurd e (by decide))).trans ct3
        clear hK K
        try simp only [Act.put, List.setIfInBounds_toArray, List.set_cons_zero, List.set_cons_succ]
        refine wpAnyH_done (by kernel_rfl) ?_ _
        clear dA eA ct3
        have hal := own_blk_ne H7.out.2.1 H7.out.1 (by decide)
        have hel := own_blk_ne H7.out.2.2.1 H7.out.1 (by decide)
        have hdl := own_blk_ne H7.out.2.2.2.1 H7.out.1 (by decide)
        have hG := grown_cell w7 g 65550 (.slice A7 (al.length + 1) c7)
        have HX := Lib.hid (show DcAt (w7.setCell ⟨g, 65550, none⟩ (.slice A7 (al.length + 1) c7)) base g { b with bo := v % 8, spk := S, mic := true } ph zs (al ++ [⟨b.t, true, port, v⟩]) (es) D (.slice A7 (al.length + 1) c7) E ∧ Ch w (w7.setCell ⟨g, 65550, none⟩ (.slice A7 (al.length + 1) c7)) (BdBlk g (.slice AA an ac) E) from ⟨⟨H7.out.1.put (dset_A _), H7.out.2.2.2.1.kept hG (.inr hdl), by rw [actV_snoc, List.length_append]; exact H7.out.2.1.kept hG (.inr hal), H7.out.2.2.1.kept hG (.inr hel)⟩, H7.out.2.2.2.2.1.trans (Ch.of_grown (φ := fun k => k = g) hG (fun k e => by injection e with e; exact e.symm)) (fun _ h => h) (fun _ _ h => .inl h)⟩)
        clear hG hal hel hdl
        generalize (w7.setCell ⟨g, 65550, none⟩ (.slice A7 (al.length + 1) c7)) = w8 at *
        go_wp2
        go_end0
        exact ⟨_, _, _, rfl, by rw [HES.out.1, HES.out.2]; unfold logS; rw [if_pos HL.out]; exact HX.out.1, HX.out.2, H7.out.2.2.2.2.2, HNB.out⟩
end Go.Proofs.Ytfcnlgkaejkneaa
