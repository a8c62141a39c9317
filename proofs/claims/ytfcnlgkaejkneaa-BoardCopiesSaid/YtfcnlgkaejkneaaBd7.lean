/- Layer 11: contract of what goes out of a port. -/
import Derived.Test.YtfcnlgkaejkneaaBd6
namespace Go.Proofs.Ytfcnlgkaejkneaa
open Go.RowKit

theorem BdAt.put {w : World} {base g : Nat} {b b' : Bd} {al : List ActD} {es : List Int} {A E : Value} (h : BdAt w base g b al es A E) {i : Nat} {v : Value} (e : (bdC b A E).setIfInBounds i v = bdC b' A E) : BdAt (w.setCell ⟨g, i, none⟩ v) base g b' al es A E :=
  ⟨h.bd.put e, h.acts.kept (grown_cell w g i v) (.inr (own_blk_ne h.acts h.bd (by decide))), h.edges.kept (grown_cell w g i v) (.inr (own_blk_ne h.edges h.bd (by decide)))⟩
def logS (b : Bd) (al : List ActD) (out : Bool) (port v : Int) : List ActD := if b.log = true then al ++ [⟨b.t, out, port, v⟩] else al
theorem act_any (w : World) (base g : Nat) (b : Bd) (al : List ActD) (es : List Int) (A E : Value) (out : Bool) (port v : Int) (h : BdAt w base g b al es A E) (hn : al.length < 1000000) (hb : base ≤ w.heap.size) :
    Calls Try.prog 49 #[.pointer (some ⟨g, 0, none⟩), .bool out, .int .u16 port, .int .u8 v] w fun x w' => ∃ u A', x = .returned u ∧ BdAt w' base g b (logS b al out port v) es A' E ∧ Ch w w' (fun k => k = g ∨ A.ownBlock = some k) ∧ NewBlk w A A' := by
  by_cases hl : b.log = true
  · refine (act_on w base g b al es A E out port v h hl hn hb).mono ?_
    rintro x w' ⟨u, A', h1, h2, h3, h4⟩
    exact ⟨u, A', h1, by unfold logS; rw [if_pos hl]; exact h2, h3, h4⟩
  · refine (act_off w g b A E out port v h.bd (by simpa using hl)).mono ?_
    rintro x w' ⟨⟨u, h1⟩, rfl⟩
    exact ⟨u, A, h1, by unfold logS; rw [if_neg hl]; exact h, Ch.refl _ _, .inl rfl⟩
def outB (b : Bd) (v : Int) : Bd := { b with bo := v % 8, spk := decide (v / 16 % 2 = 1), mic := decide (v / 8 % 2 = 1) }
def edgeS (b : Bd) (es : List Int) (v : Int) : List Int := if decide (v / 8 % 2 = 1) = b.mic then es else es ++ [b.t]
theorem out_all : ∀ v : Fin 256, bits .and .u8 v.val 7 = (v.val : Int) % 8 ∧ bits .and .u8 v.val 16 = (if (v.val : Int) / 16 % 2 = 1 then 16 else 0) ∧ bits .and .u8 v.val 8 = (if (v.val : Int) / 8 % 2 = 1 then 8 else 0) := by decide +kernel
theorem out_bits {v : Int} (h0 : 0 ≤ v) (h1 : v ≤ 255) : bits .and .u8 v 7 = v % 8 ∧ bits .and .u8 v 16 = (if v / 16 % 2 = 1 then 16 else 0) ∧ bits .and .u8 v 8 = (if v / 8 % 2 = 1 then 8 else 0) := by
  obtain ⟨n, rfl⟩ : ∃ n : Nat, v = (n : Int) := ⟨v.toNat, by omega⟩
  exact out_all ⟨n, by omega⟩
/-- what goes out leaves -/
def OutO (w w' : World) (x : Ending) (base g : Nat) (b : Bd) (al : List ActD) (es : List Int) (A E : Value) : Prop :=
  ∃ u A' E', x = .returned u ∧ BdAt w' base g b al es A' E' ∧ Ch w w' (BdBlk g A E) ∧ NewBlk w A A' ∧ NewBlk w E E'
set_option maxRecDepth 100000 in
set_option maxHeartbeats 4000000 in
theorem out_odd (w : World) (g : Nat) (port v : Int) (p0 : 0 ≤ port) (p1 : port ≤ 65535) (ho : port % 2 = 1) : Calls Try.prog 24 #[.pointer (some ⟨g, 0, none⟩), .int .u16 port, .int .u8 v] w fun x w' => (∃ u, x = .returned u) ∧ w = w' := by
  have hb := and1_u16 p0 p1
  rw [ho] at hb
  clear ho
  go_enter Try.func24, Try.ntmps24
  go_wp2
  refine bodyPost_ret (v := .tuple #[]) (results_none rfl _ _ _) rfl ?_
  exact ⟨⟨_, rfl⟩, rfl⟩
theorem out_nil (w : World) (port v : Int) : Calls Try.prog 24 #[.pointer none, .int .u16 port, .int .u8 v] w fun x w' => (∃ u, x = .returned u) ∧ w = w' := by
  go_enter Try.func24, Try.ntmps24
  go_wp2
  refine bodyPost_ret (v := .tuple #[]) (results_none rfl _ _ _) rfl ?_
  exact ⟨⟨_, rfl⟩, rfl⟩
set_option maxRecDepth 100000 in
set_option maxHeartbeats 8000000 in
theorem out_even (w : World) (base g : Nat) (b : Bd) (al : List ActD) (es : List Int) (A E : Value) (port v : Int) (p0 : 0 ≤ port) (p1 : port ≤ 65535) (v0 : 0 ≤ v) (v1 : v ≤ 255) (he : port % 2 = 0) (h : BdAt w base g b al es A E) (hn : al.length < 1000000) (hm : es.length < 1000000) (hb : base ≤ w.heap.size) :
    Calls Try.prog 24 #[.pointer (some ⟨g, 0, none⟩), .int .u16 port, .int .u8 v] w fun x w' => OutO w w' x base g (outB b v) (logS b al true port v) (edgeS b es v) A E := by
  have hbp := and1_u16 p0 p1
  rw [he] at hbp
  obtain ⟨b7, b16, b8⟩ := out_bits v0 v1
  obtain ⟨i1, hj, hy0, hy1, hy2⟩ := info_parts u64Info
  have HH := Lib.hid h
  have hgl := Blk.lt h.bd
  have c49 := h.bd.at_ (i := 65549) (by decide) bd_bo
  have f49 := h.bd.fz 65549
  have c51 := h.bd.at_ (i := 65551) (by decide) bd_spk
  have f51 := h.bd.fz 65551
  clear h he
  by_cases h16 : v / 16 % 2 = 1
  · rw [if_pos h16] at b16
    have H16 := Lib.hid (show decide (v / 16 % 2 = 1) = true from by simp [h16])
    clear h16
    go_enter Try.func24, Try.ntmps24
    go_upto_region 3 with fail
    have HZ := Lib.hid (show BdAt ((w.setCell ⟨g, 65549, none⟩ (.int .u8 (v % 8))).setCell ⟨g, 65551, none⟩ (.bool true)) base g { b with bo := v % 8, spk := true } al es A E ∧ Ch w ((w.setCell ⟨g, 65549, none⟩ (.int .u8 (v % 8))).setCell ⟨g, 65551, none⟩ (.bool true)) (fun k => k = g) ∧ ((w.setCell ⟨g, 65549, none⟩ (.int .u8 (v % 8))).setCell ⟨g, 65551, none⟩ (.bool true)).heap.size = w.heap.size from ⟨(HH.out.put (set_bo _)).put (set_spk _), Ch.of_grown (grown_trans (grown_cell _ _ _ _) (grown_cell _ _ _ _)) (fun k e => by injection e with e; exact e.symm), by simp [World.setCell]⟩)
    clear c49 f49 c51 f51
    generalize ((w.setCell ⟨g, 65549, none⟩ (.int .u8 (v % 8))).setCell ⟨g, 65551, none⟩ (.bool true)) = w2 at *
    have c50 := HZ.out.1.bd.at_ (i := 65550) (by decide) bd_mic
    have f50 := HZ.out.1.bd.fz 65550
    by_cases h8 : v / 8 % 2 = 1
    · rw [if_pos h8] at b8
      have H8 := Lib.hid (show decide (v / 8 % 2 = 1) = true from by simp [h8])
      clear h8
      cases hbm : b.mic with
      | true =>
        have HBM := Lib.hid hbm
        have c50m : w2.cell? ⟨g, 65550, none⟩ = some (.bool true) := by rw [← hbm]; exact c50
        clear c50 hbm
        have hac := act_any w2 base g _ al es A E true port v HZ.out.1 hn (by rw [HZ.out.2.2]; exact hb)
        clear f50
        go_upto_region 7 with fail
        clear c50m
        go_wp2_with fail
        refine hac.mono ?_
        rintro x w5 ⟨u, A', rfl, h1, h2, h3⟩
        clear hac
        have HX := Lib.hid (And.intro h1 (And.intro h2 h3))
        clear h1 h2 h3
        go_wp2
        go_end0
        have hbE : ({ b with bo := v % 8, spk := true } : Bd) = outB b v := by unfold outB; rw [H16.out, H8.out, ← HBM.out]
        have heE : edgeS b es v = es := by unfold edgeS; rw [H8.out, HBM.out]; rfl
        exact ⟨_, A', E, rfl, by rw [heE, ← hbE]; exact HX.out.1, HZ.out.2.1.trans HX.out.2.1 (fun q e => .inl e) (fun q _ e => e.elim .inl (fun e => .inr (.inl e))), by rcases HX.out.2.2 with e | ⟨k, e, hk⟩; exact .inl e; exact .inr ⟨k, e, by rw [HZ.out.2.2] at hk; exact hk⟩, .inl rfl⟩
      | false =>
        have HBM := Lib.hid hbm
        have c50m : w2.cell? ⟨g, 65550, none⟩ = some (.bool false) := by rw [← hbm]; exact c50
        clear c50 hbm
        go_upto_region 6 with fail
        have HZ3 := Lib.hid (show BdAt (w2.setCell ⟨g, 65550, none⟩ (.bool true)) base g { b with bo := v % 8, spk := true, mic := true } al es A E ∧ Ch w (w2.setCell ⟨g, 65550, none⟩ (.bool true)) (fun k => k = g) ∧ (w2.setCell ⟨g, 65550, none⟩ (.bool true)).heap.size = w.heap.size from ⟨HZ.out.1.put (set_mic _), HZ.out.2.1.trans (Ch.of_grown (φ := fun k => k = g) (grown_cell _ _ _ _) (fun k e => by injection e with e; exact e.symm)) (fun _ e => e) (fun _ _ e => e), by have := HZ.out.2.2; simpa [World.setCell] using this⟩)
        clear c50m f50
        generalize (w2.setCell ⟨g, 65550, none⟩ (.bool true)) = w3 at *
        obtain ⟨EA, en, ec, hEs⟩ : ∃ x n c, E = .slice x n c := by
          rcases HZ3.out.1.edges.2 with ⟨e, _⟩ | ⟨g', cap, cur, e, _⟩
          · exact ⟨none, 0, 0, e⟩
          · exact ⟨_, _, cap, e⟩
        subst hEs
        have cE := HZ3.out.1.bd.at_ (i := 65553) (by decide) bd_E
        have ct : w3.cell? ⟨g, 65547, none⟩ = some (.int .u64 b.t) := HZ3.out.1.bd.at_ (i := 65547) (by decide) bd_t
        have hea := own_blk_ne HZ3.out.1.edges HZ3.out.1.bd (by decide)
        have hae := own_types_ne HZ3.out.1.edges HZ3.out.1.acts (by decide)
        have HNE := Lib.hid (And.intro hea hae)
        clear hea hae
        refine wp_region_held_drew (S := fun w' => w'.cell? ⟨g, 65547, none⟩ = some (.int .u64 b.t)) (by kernel_rfl) ?_ (fun hHeld => ?_)
        · exact ct
        have HW := Lib.hid (show BdAt w3.drew base g { b with bo := v % 8, spk := true, mic := true } al es A (.slice EA en ec) ∧ Ch w w3.drew (fun k => k = g ∨ (Value.slice EA en ec).ownBlock = some k) ∧ w3.drew.heap.size = w.heap.size from ⟨⟨HZ3.out.1.bd, HZ3.out.1.acts, HZ3.out.1.edges⟩, HZ3.out.2.1.trans (Ch.refl w3 (fun _ => False)) (χ := fun k => k = g ∨ (Value.slice EA en ec).ownBlock = some k) (fun _ e => .inl e) (fun _ _ e => e.elim) |> fun h => ⟨h.os, h.tape, h.output, h.size, h.block⟩, HZ3.out.2.2⟩)
        have cEW : w3.drew.cell? ⟨g, 65553, none⟩ = some (.slice EA en ec) := cE
        have ctW : w3.drew.cell? ⟨g, 65547, none⟩ = some (.int .u64 b.t) := ct
        clear cE ct HZ HZ3
        generalize w3.drew = W at *
        refine wpAnyH_take (i := 0) (oi := _) (v := ?_) (by simp only [List.getElem?_toArray, List.getElem?_cons_succ, List.getElem?_cons_zero]; rfl) (by kernel_rfl) (by kernel_rfl) (by kernel_rfl) (by intro _ _ _ h; exact h) (Or.inl ⟨by rfl, ?_⟩) (by assumption) ?_
        rotate_left
        · intro w hSw
          try dsimp only at hSw
          go_simp
          try with_reducible rfl
        try simp only [Act.put, List.setIfInBounds_toArray, List.set_cons_zero, List.set_cons_succ]
        refine wpAnyH_take (i := 1) (oi := _) (v := ?_) (by simp only [List.getElem?_toArray, List.getElem?_cons_succ, List.getElem?_cons_zero]; rfl) (by kernel_rfl) (by kernel_rfl) (by kernel_rfl) (by intro _ _ _ h; exact h) (Or.inl ⟨by rfl, ?_⟩) (by assumption) ?_
        rotate_left
        · intro w hSw
          try dsimp only at hSw
          go_simp
          try with_reducible rfl
        try simp only [Act.put, List.setIfInBounds_toArray, List.set_cons_zero, List.set_cons_succ]
        refine wpAnyH_take (i := 2) (oi := _) (v := ?_) (by simp only [List.getElem?_toArray, List.getElem?_cons_succ, List.getElem?_cons_zero]; rfl) (by kernel_rfl) (by kernel_rfl) (by kernel_rfl) (by intro _ _ _ h; exact h) (Or.inl ⟨by rfl, ?_⟩) (by assumption) ?_
        rotate_left
        · intro w hSw
          try dsimp only at hSw
          go_simp
          try with_reducible rfl
        try simp only [Act.put, List.setIfInBounds_toArray, List.set_cons_zero, List.set_cons_succ]
        refine wpAnyH_take (i := 3) (oi := _) (v := ?_) (by simp only [List.getElem?_toArray, List.getElem?_cons_succ, List.getElem?_cons_zero]; rfl) (by kernel_rfl) (by kernel_rfl) (by kernel_rfl) (by intro _ _ _ h; exact h) (Or.inl ⟨by rfl, ?_⟩) (by assumption) ?_
        rotate_left
        · intro w hSw
          try dsimp only at hSw
          go_simp
          try with_reducible rfl
        try simp only [Act.put, List.setIfInBounds_toArray, List.set_cons_zero, List.set_cons_succ]
        refine wpAnyH_take (i := 5) (oi := _) (v := ?_) (by simp only [List.getElem?_toArray, List.getElem?_cons_succ, List.getElem?_cons_zero]; rfl) (by kernel_rfl) (by kernel_rfl) (by kernel_rfl) (by intro _ _ _ h; exact h) (Or.inl ⟨by rfl, ?_⟩) (by assumption) ?_
        rotate_left
        · intro w hSw
          try dsimp only at hSw
          go_simp
          try with_reducible rfl
        try simp only [Act.put, List.setIfInBounds_toArray, List.set_cons_zero, List.set_cons_succ]
        refine wpAnyH_take (i := 6) (oi := _) (v := ?_) (by simp only [List.getElem?_toArray, List.getElem?_cons_succ, List.getElem?_cons_zero]; rfl) (by kernel_rfl) (by kernel_rfl) (by kernel_rfl) (by intro _ _ _ h; exact h) (Or.inl ⟨by rfl, ?_⟩) (by assumption) ?_
        rotate_left
        · intro w hSw
          try dsimp only at hSw
          go_simp
          try with_reducible rfl
        try simp only [Act.put, List.setIfInBounds_toArray, List.set_cons_zero, List.set_cons_succ]
        refine wpAnyH_take (i := 7) (oi := _) (v := ?_) (by simp only [List.getElem?_toArray, List.getElem?_cons_succ, List.getElem?_cons_zero]; rfl) (by kernel_rfl) (by kernel_rfl) (by kernel_rfl) (by intro _ _ _ h; exact h) (Or.inl ⟨by rfl, ?_⟩) (by assumption) ?_
        rotate_left
        · intro w hSw
          try dsimp only at hSw
          go_simp
          try with_reducible rfl
        try simp only [Act.put, List.setIfInBounds_toArray, List.set_cons_zero, List.set_cons_succ]
        refine wpAnyH_take (i := 8) (oi := _) (v := ?_) (by simp only [List.getElem?_toArray, List.getElem?_cons_succ, List.getElem?_cons_zero]; rfl) (by kernel_rfl) (by kernel_rfl) (by kernel_rfl) (by intro _ _ _ h; exact h) (Or.inl ⟨by rfl, ?_⟩) (by assumption) ?_
        rotate_left
        · intro w hSw
          try dsimp only at hSw
          go_simp
          try with_reducible rfl
        try simp only [Act.put, List.setIfInBounds_toArray, List.set_cons_zero, List.set_cons_succ]
        refine wpAnyH_ready (rs := [4, 9]) (by kernel_rfl) (by simp) ?_
        refine AllReadyH.cons (o := _) (by simp only [List.getElem?_toArray, List.getElem?_cons_succ, List.getElem?_cons_zero]; rfl) (fun K hK => ?_) (AllReadyH.cons (o := _) (by simp only [List.getElem?_toArray, List.getElem?_cons_succ, List.getElem?_cons_zero]; rfl) (fun K hK => ?_) AllReadyH.nil)
        · go_simp
          refine hK.out _ _ ?_ (fun hHeld => ?_)
          · exact ctW
          clear hK K
          try simp only [Act.put, List.setIfInBounds_toArray, List.set_cons_zero, List.set_cons_succ]
          refine wpAnyH_ready (rs := [9]) (by kernel_rfl) (by simp) ?_
          refine AllReadyH.cons (o := _) (by simp only [List.getElem?_toArray, List.getElem?_cons_succ, List.getElem?_cons_zero]; rfl) (fun K hK => ?_) AllReadyH.nil
          have ctA : (W.alloc (.cells #[.int .u64 b.t] 32)).cell? ⟨g, 65547, none⟩ = some (.int .u64 b.t) := alloc_of ctW
          have cEA : (W.alloc (.cells #[.int .u64 b.t] 32)).cell? ⟨g, 65553, none⟩ = some (.slice EA en ec) := alloc_of cEW
          go_simp
          refine hK.out _ _ ?_ (fun hHeld => ?_)
          · exact ctA
          clear hK K
          try simp only [Act.put, List.setIfInBounds_toArray, List.set_cons_zero, List.set_cons_succ]
          refine wpAnyH_ready (rs := [10]) (by kernel_rfl) (by simp) ?_
          refine AllReadyH.cons (o := _) (by simp only [List.getElem?_toArray, List.getElem?_cons_succ, List.getElem?_cons_zero]; rfl) (fun K hK => ?_) AllReadyH.nil
          have HC := Lib.hid (show Reads (W.alloc (.cells #[.int .u64 b.t] 32)) (W.alloc (.cells #[.int .u64 b.t] 32)).heap.size 1 (some ⟨W.heap.size, 0, none⟩) 1 [.int .u64 b.t] ∧ es.length + 1 ≤ maxLen ∧ (es.length + 1) * 8 ≤ 140737488355328 ∧ base ≤ (W.alloc (.cells #[.int .u64 b.t] 32)).heap.size from ⟨⟨rfl, fun _ => ⟨_, rfl, by simp, lit_cells W [.int .u64 b.t] 32⟩⟩, by unfold maxLen; omega, by omega, by have := HW.out.2.2; simp; omega⟩)
          have hown9 := HW.out.1.edges.alloc (.cells #[.int .u64 b.t] 32)
          refine step_append_any _ (by rfl) _ _ _ (by rfl) base 32 i1 (.int .u64 0) 1 8 Try.underlying34 hj hy0 hy1 hy2 rfl (by decide) (.slice EA en ec) es.length _ (by rfl) hown9 _ (some ⟨W.heap.size, 0, none⟩) 1 1 [.int .u64 b.t] (by rfl) HC.out.1 (by simp [Value.oneCell']) HC.out.2.1 HC.out.2.2.1 HC.out.2.2.2 ?_
          intro v3 w4 own3 hg3 hv3
          have hv9 := hv3
          obtain ⟨A3, c3, rfl⟩ := own_slice own3
          have hne3 : (some g : Option Nat) ≠ (Value.slice EA en ec).ownBlock := fun e => HNE.out.1 e.symm
          have hB3 : BdIs w4 g { b with bo := v % 8, spk := true, mic := true } A (.slice EA en ec) := Blk.grown (Blk.alloc HW.out.1.bd _) hg3 hne3
          have hA3 := (HW.out.1.acts.alloc (.cells #[.int .u64 b.t] 32)).kept hg3 (by rcases he : A.ownBlock with _ | k; exact .inl rfl; exact .inr (fun e => HNE.out.2 k e.symm he))
          have hch3 : Ch w w4 (fun k => k = g ∨ (Value.slice EA en ec).ownBlock = some k) := (HW.out.2.1.trans (Ch.of_below (φ := fun _ => False) (w := W) ((Below.refl _ _).alloc (Nat.le_refl _) _)) (χ := fun k => k = g ∨ (Value.slice EA en ec).ownBlock = some k) (fun _ h => h) (fun _ _ h => h.elim)).trans (Ch.of_grown (φ := fun k => (Value.slice EA en ec).ownBlock = some k) hg3 (fun k e => e)) (fun _ h => h) (fun _ _ h => .inr h)
          have ct3 : w4.cell? ⟨g, 65547, none⟩ = some (.int .u64 b.t) := hB3.at_ (by decide) bd_t
          refine hK.out _ _ ?_ (fun hHeld => ?_)
          · exact ct3
          clear hK K
          try simp only [Act.put, List.setIfInBounds_toArray, List.set_cons_zero, List.set_cons_succ]
          have H3 := Lib.hid (show BdIs w4 g { b with bo := v % 8, spk := true, mic := true } A (.slice EA en ec) ∧ w4.ownsRow base 72 4 A al.length (actV al) ∧ w4.ownsRow base 32 1 (.slice A3 (es.length + 1) c3) (es.length + 1) (es.map (Value.int .u64) ++ [.int .u64 b.t]) ∧ Ch w w4 (fun k => k = g ∨ (Value.slice EA en ec).ownBlock = some k) ∧ NewBlk w (.slice EA en ec) (.slice A3 (es.length + 1) c3) from ⟨hB3, hA3, own3, hch3, by
            rcases hv9 with h | h
            · exact .inl h
            · exact .inr ⟨_, h, by have := HW.out.2.2; simp; omega⟩⟩)
          clear own3 hg3 hv3 hv9 hB3 hA3 hch3 hown9 hne3
          have dE : w4.cell? ⟨g, 65553, none⟩ = some (.slice EA en ec) := H3.out.1.at_ (by decide) bd_E
          have eE : w4.frozen? ⟨g, 65553, none⟩ = false := H3.out.1.fz _
          refine wpAnyH_take (i := 11) (oi := _) (v := ?_) (by simp only [List.getElem?_toArray, List.getElem?_cons_succ, List.getElem?_cons_zero]; rfl) (by kernel_rfl) (by kernel_rfl) (by kernel_rfl) (by intro _ _ _ h; exact h) (Or.inl ⟨by rfl, ?_⟩) (by assumption) ?_
          rotate_left
          · intro w hSw
            try dsimp only at hSw
            go_simp
            try with_reducible rfl
          try simp only [Act.put, List.setIfInBounds_toArray, List.set_cons_zero, List.set_cons_succ]
          refine wpAnyH_take (i := 12) (oi := _) (v := ?_) (by simp only [List.getElem?_toArray, List.getElem?_cons_succ, List.getElem?_cons_zero]; rfl) (by kernel_rfl) (by kernel_rfl) (by kernel_rfl) (by intro _ _ _ h; exact h) (Or.inl ⟨by rfl, ?_⟩) (by assumption) ?_
          rotate_left
          · intro w hSw
            try dsimp only at hSw
            go_simp
            try with_reducible rfl
          try simp only [Act.put, List.setIfInBounds_toArray, List.set_cons_zero, List.set_cons_succ]
          refine wpAnyH_ready (rs := [13]) (by kernel_rfl) (by simp) ?_
          refine AllReadyH.cons (o := _) (by simp only [List.getElem?_toArray, List.getElem?_cons_succ, List.getElem?_cons_zero]; rfl) (fun K hK => ?_) AllReadyH.nil
          go_simp
          refine hK.out _ _ ?_ (fun hHeld => ?_)
          · exact (World.cell?_setCell_other _ _ _ _ (by intro e; injection e with _ e; exact absurd e (by decide))).trans ct3
          clear hK K
          try simp only [Act.put, List.setIfInBounds_toArray, List.set_cons_zero, List.set_cons_succ]
          refine wpAnyH_done (by kernel_rfl) ?_ _
          clear dE eE ct3
          have hal := own_blk_ne H3.out.2.1 H3.out.1 (by decide)
          have hel := own_blk_ne H3.out.2.2.1 H3.out.1 (by decide)
          have hG := grown_cell w4 g 65553 (.slice A3 (es.length + 1) c3)
          have HX := Lib.hid (show BdAt (w4.setCell ⟨g, 65553, none⟩ (.slice A3 (es.length + 1) c3)) base g { b with bo := v % 8, spk := true, mic := true } al (es ++ [b.t]) A (.slice A3 (es.length + 1) c3) ∧ Ch w (w4.setCell ⟨g, 65553, none⟩ (.slice A3 (es.length + 1) c3)) (fun k => k = g ∨ (Value.slice EA en ec).ownBlock = some k) ∧ base ≤ (w4.setCell ⟨g, 65553, none⟩ (.slice A3 (es.length + 1) c3)).heap.size from ⟨⟨H3.out.1.put (set_E _), H3.out.2.1.kept hG (.inr hal), by rw [List.map_append, List.length_append]; exact H3.out.2.2.1.kept hG (.inr hel)⟩, H3.out.2.2.2.1.trans (Ch.of_grown (φ := fun k => k = g) hG (fun k e => by injection e with e; exact e.symm)) (fun _ h => h) (fun _ _ h => .inl h), by have := H3.out.2.2.2.1.size; simp [World.setCell]; omega⟩)
          clear hG hal hel
          generalize (w4.setCell ⟨g, 65553, none⟩ (.slice A3 (es.length + 1) c3)) = w5 at *
          have hac := act_any w5 base g _ al _ A _ true port v HX.out.1 hn HX.out.2.2
          go_wp2_with fail
          refine hac.mono ?_
          rintro x w6 ⟨u, A', rfl, h1, h2, h3⟩
          clear hac
          have HV := Lib.hid (And.intro h1 (And.intro h2 h3))
          clear h1 h2 h3
          go_wp2
          go_end0
          have hbE : ({ b with bo := v % 8, spk := true, mic := true } : Bd) = outB b v := by unfold outB; rw [H16.out, H8.out]
          have heE : edgeS b es v = es ++ [b.t] := by unfold edgeS; rw [H8.out, HBM.out]; rfl
          have hws := HX.out.2.1.size
          exact ⟨_, A', _, rfl, by rw [heE, ← hbE]; exact HV.out.1, HX.out.2.1.trans HV.out.2.1 (fun q e => e.elim .inl (fun e => .inr (.inr e))) (fun q _ e => e.elim .inl (fun e => .inr (.inl e))), by rcases HV.out.2.2 with e | ⟨k, e, hk⟩; exact .inl e; exact .inr ⟨k, e, by omega⟩, H3.out.2.2.2.2⟩
        · have ctA : (W.alloc (.cells #[.int .u64 b.t] 32)).cell? ⟨g, 65547, none⟩ = some (.int .u64 b.t) := alloc_of ctW
          have cEA : (W.alloc (.cells #[.int .u64 b.t] 32)).cell? ⟨g, 65553, none⟩ = some (.slice EA en ec) := alloc_of cEW
          go_simp
          refine hK.out _ _ ?_ (fun hHeld => ?_)
          · exact ctA
          clear hK K
          try simp only [Act.put, List.setIfInBounds_toArray, List.set_cons_zero, List.set_cons_succ]
          refine wpAnyH_ready (rs := [4]) (by kernel_rfl) (by simp) ?_
          refine AllReadyH.cons (o := _) (by simp only [List.getElem?_toArray, List.getElem?_cons_succ, List.getElem?_cons_zero]; rfl) (fun K hK => ?_) AllReadyH.nil
          go_simp
          refine hK.out _ _ ?_ (fun hHeld => ?_)
          · exact ctA
          clear hK K
          try simp only [Act.put, List.setIfInBounds_toArray, List.set_cons_zero, List.set_cons_succ]
          refine wpAnyH_ready (rs := [10]) (by kernel_rfl) (by simp) ?_
          refine AllReadyH.cons (o := _) (by simp only [List.getElem?_toArray, List.getElem?_cons_succ, List.getElem?_cons_zero]; rfl) (fun K hK => ?_) AllReadyH.nil
          have HC := Lib.hid (show Reads (W.alloc (.cells #[.int .u64 b.t] 32)) (W.alloc (.cells #[.int .u64 b.t] 32)).heap.size 1 (some ⟨W.heap.size, 0, none⟩) 1 [.int .u64 b.t] ∧ es.length + 1 ≤ maxLen ∧ (es.length + 1) * 8 ≤ 140737488355328 ∧ base ≤ (W.alloc (.cells #[.int .u64 b.t] 32)).heap.size from ⟨⟨rfl, fun _ => ⟨_, rfl, by simp, lit_cells W [.int .u64 b.t] 32⟩⟩, by unfold maxLen; omega, by omega, by have := HW.out.2.2; simp; omega⟩)
          have hown9 := HW.out.1.edges.alloc (.cells #[.int .u64 b.t] 32)
          refine step_append_any _ (by rfl) _ _ _ (by rfl) base 32 i1 (.int .u64 0) 1 8 Try.underlying34 hj hy0 hy1 hy2 rfl (by decide) (.slice EA en ec) es.length _ (by rfl) hown9 _ (some ⟨W.heap.size, 0, none⟩) 1 1 [.int .u64 b.t] (by rfl) HC.out.1 (by simp [Value.oneCell']) HC.out.2.1 HC.out.2.2.1 HC.out.2.2.2 ?_
          intro v3 w4 own3 hg3 hv3
          have hv9 := hv3
          obtain ⟨A3, c3, rfl⟩ := own_slice own3
          have hne3 : (some g : Option Nat) ≠ (Value.slice EA en ec).ownBlock := fun e => HNE.out.1 e.symm
          have hB3 : BdIs w4 g { b with bo := v % 8, spk := true, mic := true } A (.slice EA en ec) := Blk.grown (Blk.alloc HW.out.1.bd _) hg3 hne3
          have hA3 := (HW.out.1.acts.alloc (.cells #[.int .u64 b.t] 32)).kept hg3 (by rcases he : A.ownBlock with _ | k; exact .inl rfl; exact .inr (fun e => HNE.out.2 k e.symm he))
          have hch3 : Ch w w4 (fun k => k = g ∨ (Value.slice EA en ec).ownBlock = some k) := (HW.out.2.1.trans (Ch.of_below (φ := fun _ => False) (w := W) ((Below.refl _ _).alloc (Nat.le_refl _) _)) (χ := fun k => k = g ∨ (Value.slice EA en ec).ownBlock = some k) (fun _ h => h) (fun _ _ h => h.elim)).trans (Ch.of_grown (φ := fun k => (Value.slice EA en ec).ownBlock = some k) hg3 (fun k e => e)) (fun _ h => h) (fun _ _ h => .inr h)
          have ct3 : w4.cell? ⟨g, 65547, none⟩ = some (.int .u64 b.t) := hB3.at_ (by decide) bd_t
          refine hK.out _ _ ?_ (fun hHeld => ?_)
          · exact ct3
          clear hK K
          try simp only [Act.put, List.setIfInBounds_toArray, List.set_cons_zero, List.set_cons_succ]
          have H3 := Lib.hid (show BdIs w4 g { b with bo := v % 8, spk := true, mic := true } A (.slice EA en ec) ∧ w4.ownsRow base 72 4 A al.length (actV al) ∧ w4.ownsRow base 32 1 (.slice A3 (es.length + 1) c3) (es.length + 1) (es.map (Value.int .u64) ++ [.int .u64 b.t]) ∧ Ch w w4 (fun k => k = g ∨ (Value.slice EA en ec).ownBlock = some k) ∧ NewBlk w (.slice EA en ec) (.slice A3 (es.length + 1) c3) from ⟨hB3, hA3, own3, hch3, by
            rcases hv9 with h | h
            · exact .inl h
            · exact .inr ⟨_, h, by have := HW.out.2.2; simp; omega⟩⟩)
          clear own3 hg3 hv3 hv9 hB3 hA3 hch3 hown9 hne3
          have dE : w4.cell? ⟨g, 65553, none⟩ = some (.slice EA en ec) := H3.out.1.at_ (by decide) bd_E
          have eE : w4.frozen? ⟨g, 65553, none⟩ = false := H3.out.1.fz _
          refine wpAnyH_take (i := 11) (oi := _) (v := ?_) (by simp only [List.getElem?_toArray, List.getElem?_cons_succ, List.getElem?_cons_zero]; rfl) (by kernel_rfl) (by kernel_rfl) (by kernel_rfl) (by intro _ _ _ h; exact h) (Or.inl ⟨by rfl, ?_⟩) (by assumption) ?_
          rotate_left
          · intro w hSw
            try dsimp only at hSw
            go_simp
            try with_reducible rfl
          try simp only [Act.put, List.setIfInBounds_toArray, List.set_cons_zero, List.set_cons_succ]
          refine wpAnyH_take (i := 12) (oi := _) (v := ?_) (by simp only [List.getElem?_toArray, List.getElem?_cons_succ, List.getElem?_cons_zero]; rfl) (by kernel_rfl) (by kernel_rfl) (by kernel_rfl) (by intro _ _ _ h; exact h) (Or.inl ⟨by rfl, ?_⟩) (by assumption) ?_
          rotate_left
          · intro w hSw
            try dsimp only at hSw
            go_simp
            try with_reducible rfl
          try simp only [Act.put, List.setIfInBounds_toArray, List.set_cons_zero, List.set_cons_succ]
          refine wpAnyH_ready (rs := [13]) (by kernel_rfl) (by simp) ?_
          refine AllReadyH.cons (o := _) (by simp only [List.getElem?_toArray, List.getElem?_cons_succ, List.getElem?_cons_zero]; rfl) (fun K hK => ?_) AllReadyH.nil
          go_simp
          refine hK.out _ _ ?_ (fun hHeld => ?_)
          · exact (World.cell?_setCell_other _ _ _ _ (by intro e; injection e with _ e; exact absurd e (by decide))).trans ct3
          clear hK K
          try simp only [Act.put, List.setIfInBounds_toArray, List.set_cons_zero, List.set_cons_succ]
          refine wpAnyH_done (by kernel_rfl) ?_ _
          clear dE eE ct3
          have hal := own_blk_ne H3.out.2.1 H3.out.1 (by decide)
          have hel := own_blk_ne H3.out.2.2.1 H3.out.1 (by decide)
          have hG := grown_cell w4 g 65553 (.slice A3 (es.length + 1) c3)
          have HX := Lib.hid (show BdAt (w4.setCell ⟨g, 65553, none⟩ (.slice A3 (es.length + 1) c3)) base g { b with bo := v % 8, spk := true, mic := true } al (es ++ [b.t]) A (.slice A3 (es.length + 1) c3) ∧ Ch w (w4.setCell ⟨g, 65553, none⟩ (.slice A3 (es.length + 1) c3)) (fun k => k = g ∨ (Value.slice EA en ec).ownBlock = some k) ∧ base ≤ (w4.setCell ⟨g, 65553, none⟩ (.slice A3 (es.length + 1) c3)).heap.size from ⟨⟨H3.out.1.put (set_E _), H3.out.2.1.kept hG (.inr hal), by rw [List.map_append, List.length_append]; exact H3.out.2.2.1.kept hG (.inr hel)⟩, H3.out.2.2.2.1.trans (Ch.of_grown (φ := fun k => k = g) hG (fun k e => by injection e with e; exact e.symm)) (fun _ h => h) (fun _ _ h => .inl h), by have := H3.out.2.2.2.1.size; simp [World.setCell]; omega⟩)
          clear hG hal hel
          generalize (w4.setCell ⟨g, 65553, none⟩ (.slice A3 (es.length + 1) c3)) = w5 at *
          have hac := act_any w5 base g _ al _ A _ true port v HX.out.1 hn HX.out.2.2
          go_wp2_with fail
          refine hac.mono ?_
          rintro x w6 ⟨u, A', rfl, h1, h2, h3⟩
          clear hac
          have HV := Lib.hid (And.intro h1 (And.intro h2 h3))
          clear h1 h2 h3
          go_wp2
          go_end0
          have hbE : ({ b with bo := v % 8, spk := true, mic := true } : Bd) = outB b v := by unfold outB; rw [H16.out, H8.out]
          have heE : edgeS b es v = es ++ [b.t] := by unfold edgeS; rw [H8.out, HBM.out]; rfl
          have hws := HX.out.2.1.size
          exact ⟨_, A', _, rfl, by rw [heE, ← hbE]; exact HV.out.1, HX.out.2.1.trans HV.out.2.1 (fun q e => e.elim .inl (fun e => .inr (.inr e))) (fun q _ e => e.elim .inl (fun e => .inr (.inl e))), by rcases HV.out.2.2 with e | ⟨k, e, hk⟩; exact .inl e; exact .inr ⟨k, e, by omega⟩, H3.out.2.2.2.2⟩
    · rw [if_neg h8] at b8
      have H8 := Lib.hid (show decide (v / 8 % 2 = 1) = false from by simp [h8])
      clear h8
      cases hbm : b.mic with
      | true =>
        have HBM := Lib.hid hbm
        have c50m : w2.cell? ⟨g, 65550, none⟩ = some (.bool true) := by rw [← hbm]; exact c50
        clear c50 hbm
        go_upto_region 6 with fail
        have HZ3 := Lib.hid (show BdAt (w2.setCell ⟨g, 65550, none⟩ (.bool false)) base g { b with bo := v % 8, spk := true, mic := false } al es A E ∧ Ch w (w2.setCell ⟨g, 65550, none⟩ (.bool false)) (fun k => k = g) ∧ (w2.setCell ⟨g, 65550, none⟩ (.bool false)).heap.size = w.heap.size from ⟨HZ.out.1.put (set_mic _), HZ.out.2.1.trans (Ch.of_grown (φ := fun k => k = g) (grown_cell _ _ _ _) (fun k e => by injection e with e; exact e.symm)) (fun _ e => e) (fun _ _ e => e), by have := HZ.out.2.2; simpa [World.setCell] using this⟩)
        clear c50m f50
        generalize (w2.setCell ⟨g, 65550, none⟩ (.bool false)) = w3 at *
        obtain ⟨EA, en, ec, hEs⟩ : ∃ x n c, E = .slice x n c := by
          rcases HZ3.out.1.edges.2 with ⟨e, _⟩ | ⟨g', cap, cur, e, _⟩
          · exact ⟨none, 0, 0, e⟩
          · exact ⟨_, _, cap, e⟩
        subst hEs
        have cE := HZ3.out.1.bd.at_ (i := 65553) (by decide) bd_E
        have ct : w3.cell? ⟨g, 65547, none⟩ = some (.int .u64 b.t) := HZ3.out.1.bd.at_ (i := 65547) (by decide) bd_t
        have hea := own_blk_ne HZ3.out.1.edges HZ3.out.1.bd (by decide)
        have hae := own_types_ne HZ3.out.1.edges HZ3.out.1.acts (by decide)
        have HNE := Lib.hid (And.intro hea hae)
        clear hea hae
        refine wp_region_held_drew (S := fun w' => w'.cell? ⟨g, 65547, none⟩ = some (.int .u64 b.t)) (by kernel_rfl) ?_ (fun hHeld => ?_)
        · exact ct
        have HW := Lib.hid (show BdAt w3.drew base g { b with bo := v % 8, spk := true, mic := false } al es A (.slice EA en ec) ∧ Ch w w3.drew (fun k => k = g ∨ (Value.slice EA en ec).ownBlock = some k) ∧ w3.drew.heap.size = w.heap.size from ⟨⟨HZ3.out.1.bd, HZ3.out.1.acts, HZ3.out.1.edges⟩, HZ3.out.2.1.trans (Ch.refl w3 (fun _ => False)) (χ := fun k => k = g ∨ (Value.slice EA en ec).ownBlock = some k) (fun _ e => .inl e) (fun _ _ e => e.elim) |> fun h => ⟨h.os, h.tape, h.output, h.size, h.block⟩, HZ3.out.2.2⟩)
        have cEW : w3.drew.cell? ⟨g, 65553, none⟩ = some (.slice EA en ec) := cE
        have ctW : w3.drew.cell? ⟨g, 65547, none⟩ = some (.int .u64 b.t) := ct
        clear cE ct HZ HZ3
        generalize w3.drew = W at *
        refine wpAnyH_take (i := 0) (oi := _) (v := ?_) (by simp only [List.getElem?_toArray, List.getElem?_cons_succ, List.getElem?_cons_zero]; rfl) (by kernel_rfl) (by kernel_rfl) (by kernel_rfl) (by intro _ _ _ h; exact h) (Or.inl ⟨by rfl, ?_⟩) (by assumption) ?_
        rotate_left
        · intro w hSw
          try dsimp only at hSw
          go_simp
          try with_reducible rfl
        try simp only [Act.put, List.setIfInBounds_toArray, List.set_cons_zero, List.set_cons_succ]
        refine wpAnyH_take (i := 1) (oi := _) (v := ?_) (by simp only [List.getElem?_toArray, List.getElem?_cons_succ, List.getElem?_cons_zero]; rfl) (by kernel_rfl) (by kernel_rfl) (by kernel_rfl) (by intro _ _ _ h; exact h) (Or.inl ⟨by rfl, ?_⟩) (by assumption) ?_
        rotate_left
        · intro w hSw
          try dsimp only at hSw
          go_simp
          try with_reducible rfl
        try simp only [Act.put, List.setIfInBounds_toArray, List.set_cons_zero, List.set_cons_succ]
        refine wpAnyH_take (i := 2) (oi := _) (v := ?_) (by simp only [List.getElem?_toArray, List.getElem?_cons_succ, List.getElem?_cons_zero]; rfl) (by kernel_rfl) (by kernel_rfl) (by kernel_rfl) (by intro _ _ _ h; exact h) (Or.inl ⟨by rfl, ?_⟩) (by assumption) ?_
        rotate_left
        · intro w hSw
          try dsimp only at hSw
          go_simp
          try with_reducible rfl
        try simp only [Act.put, List.setIfInBounds_toArray, List.set_cons_zero, List.set_cons_succ]
        refine wpAnyH_take (i := 3) (oi := _) (v := ?_) (by simp only [List.getElem?_toArray, List.getElem?_cons_succ, List.getElem?_cons_zero]; rfl) (by kernel_rfl) (by kernel_rfl) (by kernel_rfl) (by intro _ _ _ h; exact h) (Or.inl ⟨by rfl, ?_⟩) (by assumption) ?_
        rotate_left
        · intro w hSw
          try dsimp only at hSw
          go_simp
          try with_reducible rfl
        try simp only [Act.put, List.setIfInBounds_toArray, List.set_cons_zero, List.set_cons_succ]
        refine wpAnyH_take (i := 5) (oi := _) (v := ?_) (by simp only [List.getElem?_toArray, List.getElem?_cons_succ, List.getElem?_cons_zero]; rfl) (by kernel_rfl) (by kernel_rfl) (by kernel_rfl) (by intro _ _ _ h; exact h) (Or.inl ⟨by rfl, ?_⟩) (by assumption) ?_
        rotate_left
        · intro w hSw
          try dsimp only at hSw
          go_simp
          try with_reducible rfl
        try simp only [Act.put, List.setIfInBounds_toArray, List.set_cons_zero, List.set_cons_succ]
        refine wpAnyH_take (i := 6) (oi := _) (v := ?_) (by simp only [List.getElem?_toArray, List.getElem?_cons_succ, List.getElem?_cons_zero]; rfl) (by kernel_rfl) (by kernel_rfl) (by kernel_rfl) (by intro _ _ _ h; exact h) (Or.inl ⟨by rfl, ?_⟩) (by assumption) ?_
        rotate_left
        · intro w hSw
          try dsimp only at hSw
          go_simp
          try with_reducible rfl
        try simp only [Act.put, List.setIfInBounds_toArray, List.set_cons_zero, List.set_cons_succ]
        refine wpAnyH_take (i := 7) (oi := _) (v := ?_) (by simp only [List.getElem?_toArray, List.getElem?_cons_succ, List.getElem?_cons_zero]; rfl) (by kernel_rfl) (by kernel_rfl) (by kernel_rfl) (by intro _ _ _ h; exact h) (Or.inl ⟨by rfl, ?_⟩) (by assumption) ?_
        rotate_left
        · intro w hSw
          try dsimp only at hSw
          go_simp
          try with_reducible rfl
        try simp only [Act.put, List.setIfInBounds_toArray, List.set_cons_zero, List.set_cons_succ]
        refine wpAnyH_take (i := 8) (oi := _) (v := ?_) (by simp only [List.getElem?_toArray, List.getElem?_cons_succ, List.getElem?_cons_zero]; rfl) (by kernel_rfl) (by kernel_rfl) (by kernel_rfl) (by intro _ _ _ h; exact h) (Or.inl ⟨by rfl, ?_⟩) (by assumption) ?_
        rotate_left
        · intro w hSw
          try dsimp only at hSw
          go_simp
          try with_reducible rfl
        try simp only [Act.put, List.setIfInBounds_toArray, List.set_cons_zero, List.set_cons_succ]
        refine wpAnyH_ready (rs := [4, 9]) (by kernel_rfl) (by simp) ?_
        refine AllReadyH.cons (o := _) (by simp only [List.getElem?_toArray, List.getElem?_cons_succ, List.getElem?_cons_zero]; rfl) (fun K hK => ?_) (AllReadyH.cons (o := _) (by simp only [List.getElem?_toArray, List.getElem?_cons_succ, List.getElem?_cons_zero]; rfl) (fun K hK => ?_) AllReadyH.nil)
        · go_simp
          refine hK.out _ _ ?_ (fun hHeld => ?_)
          · exact ctW
          clear hK K
          try simp only [Act.put, List.setIfInBounds_toArray, List.set_cons_zero, List.set_cons_succ]
          refine wpAnyH_ready (rs := [9]) (by kernel_rfl) (by simp) ?_
          refine AllReadyH.cons (o := _) (by simp only [List.getElem?_toArray, List.getElem?_cons_succ, List.getElem?_cons_zero]; rfl) (fun K hK => ?_) AllReadyH.nil
          have ctA : (W.alloc (.cells #[.int .u64 b.t] 32)).cell? ⟨g, 65547, none⟩ = some (.int .u64 b.t) := alloc_of ctW
          have cEA : (W.alloc (.cells #[.int .u64 b.t] 32)).cell? ⟨g, 65553, none⟩ = some (.slice EA en ec) := alloc_of cEW
          go_simp
          refine hK.out _ _ ?_ (fun hHeld => ?_)
          · exact ctA
          clear hK K
          try simp only [Act.put, List.setIfInBounds_toArray, List.set_cons_zero, List.set_cons_succ]
          refine wpAnyH_ready (rs := [10]) (by kernel_rfl) (by simp) ?_
          refine AllReadyH.cons (o := _) (by simp only [List.getElem?_toArray, List.getElem?_cons_succ, List.getElem?_cons_zero]; rfl) (fun K hK => ?_) AllReadyH.nil
          have HC := Lib.hid (show Reads (W.alloc (.cells #[.int .u64 b.t] 32)) (W.alloc (.cells #[.int .u64 b.t] 32)).heap.size 1 (some ⟨W.heap.size, 0, none⟩) 1 [.int .u64 b.t] ∧ es.length + 1 ≤ maxLen ∧ (es.length + 1) * 8 ≤ 140737488355328 ∧ base ≤ (W.alloc (.cells #[.int .u64 b.t] 32)).heap.size from ⟨⟨rfl, fun _ => ⟨_, rfl, by simp, lit_cells W [.int .u64 b.t] 32⟩⟩, by unfold maxLen; omega, by omega, by have := HW.out.2.2; simp; omega⟩)
          have hown9 := HW.out.1.edges.alloc (.cells #[.int .u64 b.t] 32)
          refine step_append_any _ (by rfl) _ _ _ (by rfl) base 32 i1 (.int .u64 0) 1 8 Try.underlying34 hj hy0 hy1 hy2 rfl (by decide) (.slice EA en ec) es.length _ (by rfl) hown9 _ (some ⟨W.heap.size, 0, none⟩) 1 1 [.int .u64 b.t] (by rfl) HC.out.1 (by simp [Value.oneCell']) HC.out.2.1 HC.out.2.2.1 HC.out.2.2.2 ?_
          intro v3 w4 own3 hg3 hv3
          have hv9 := hv3
          obtain ⟨A3, c3, rfl⟩ := own_slice own3
          have hne3 : (some g : Option Nat) ≠ (Value.slice EA en ec).ownBlock := fun e => HNE.out.1 e.symm
          have hB3 : BdIs w4 g { b with bo := v % 8, spk := true, mic := false } A (.slice EA en ec) := Blk.grown (Blk.alloc HW.out.1.bd _) hg3 hne3
          have hA3 := (HW.out.1.acts.alloc (.cells #[.int .u64 b.t] 32)).kept hg3 (by rcases he : A.ownBlock with _ | k; exact .inl rfl; exact .inr (fun e => HNE.out.2 k e.symm he))
          have hch3 : Ch w w4 (fun k => k = g ∨ (Value.slice EA en ec).ownBlock = some k) := (HW.out.2.1.trans (Ch.of_below (φ := fun _ => False) (w := W) ((Below.refl _ _).alloc (Nat.le_refl _) _)) (χ := fun k => k = g ∨ (Value.slice EA en ec).ownBlock = some k) (fun _ h => h) (fun _ _ h => h.elim)).trans (Ch.of_grown (φ := fun k => (Value.slice EA en ec).ownBlock = some k) hg3 (fun k e => e)) (fun _ h => h) (fun _ _ h => .inr h)
          have ct3 : w4.cell? ⟨g, 65547, none⟩ = some (.int .u64 b.t) := hB3.at_ (by decide) bd_t
          refine hK.out _ _ ?_ (fun hHeld => ?_)
          · exact ct3
          clear hK K
          try simp only [Act.put, List.setIfInBounds_toArray, List.set_cons_zero, List.set_cons_succ]
          have H3 := Lib.hid (show BdIs w4 g { b with bo := v % 8, spk := true, mic := false } A (.slice EA en ec) ∧ w4.ownsRow base 72 4 A al.length (actV al) ∧ w4.ownsRow base 32 1 (.slice A3 (es.length + 1) c3) (es.length + 1) (es.map (Value.int .u64) ++ [.int .u64 b.t]) ∧ Ch w w4 (fun k => k = g ∨ (Value.slice EA en ec).ownBlock = some k) ∧ NewBlk w (.slice EA en ec) (.slice A3 (es.length + 1) c3) from ⟨hB3, hA3, own3, hch3, by
            rcases hv9 with h | h
            · exact .inl h
            · exact .inr ⟨_, h, by have := HW.out.2.2; simp; omega⟩⟩)
          clear own3 hg3 hv3 hv9 hB3 hA3 hch3 hown9 hne3
          have dE : w4.cell? ⟨g, 65553, none⟩ = some (.slice EA en ec) := H3.out.1.at_ (by decide) bd_E
          have eE : w4.frozen? ⟨g, 65553, none⟩ = false := H3.out.1.fz _
          refine wpAnyH_take (i := 11) (oi := _) (v := ?_) (by simp only [List.getElem?_toArray, List.getElem?_cons_succ, List.getElem?_cons_zero]; rfl) (by kernel_rfl) (by kernel_rfl) (by kernel_rfl) (by intro _ _ _ h; exact h) (Or.inl ⟨by rfl, ?_⟩) (by assumption) ?_
          rotate_left
          · intro w hSw
            try dsimp only at hSw
            go_simp
            try with_reducible rfl
          try simp only [Act.put, List.setIfInBounds_toArray, List.set_cons_zero, List.set_cons_succ]
          refine wpAnyH_take (i := 12) (oi := _) (v := ?_) (by simp only [List.getElem?_toArray, List.getElem?_cons_succ, List.getElem?_cons_zero]; rfl) (by kernel_rfl) (by kernel_rfl) (by kernel_rfl) (by intro _ _ _ h; exact h) (Or.inl ⟨by rfl, ?_⟩) (by assumption) ?_
          rotate_left
          · intro w hSw
            try dsimp only at hSw
            go_simp
            try with_reducible rfl
          try simp only [Act.put, List.setIfInBounds_toArray, List.set_cons_zero, List.set_cons_succ]
          refine wpAnyH_ready (rs := [13]) (by kernel_rfl) (by simp) ?_
          refine AllReadyH.cons (o := _) (by simp only [List.getElem?_toArray, List.getElem?_cons_succ, List.getElem?_cons_zero]; rfl) (fun K hK => ?_) AllReadyH.nil
          go_simp
          refine hK.out _ _ ?_ (fun hHeld => ?_)
          · exact (World.cell?_setCell_other _ _ _ _ (by intro e; injection e with _ e; exact absurd e (by decide))).trans ct3
          clear hK K
          try simp only [Act.put, List.setIfInBounds_toArray, List.set_cons_zero, List.set_cons_succ]
          refine wpAnyH_done (by kernel_rfl) ?_ _
          clear dE eE ct3
          have hal := own_blk_ne H3.out.2.1 H3.out.1 (by decide)
          have hel := own_blk_ne H3.out.2.2.1 H3.out.1 (by decide)
          have hG := grown_cell w4 g 65553 (.slice A3 (es.length + 1) c3)
          have HX := Lib.hid (show BdAt (w4.setCell ⟨g, 65553, none⟩ (.slice A3 (es.length + 1) c3)) base g { b with bo := v % 8, spk := true, mic := false } al (es ++ [b.t]) A (.slice A3 (es.length + 1) c3) ∧ Ch w (w4.setCell ⟨g, 65553, none⟩ (.slice A3 (es.length + 1) c3)) (fun k => k = g ∨ (Value.slice EA en ec).ownBlock = some k) ∧ base ≤ (w4.setCell ⟨g, 65553, none⟩ (.slice A3 (es.length + 1) c3)).heap.size from ⟨⟨H3.out.1.put (set_E _), H3.out.2.1.kept hG (.inr hal), by rw [List.map_append, List.length_append]; exact H3.out.2.2.1.kept hG (.inr hel)⟩, H3.out.2.2.2.1.trans (Ch.of_grown (φ := fun k => k = g) hG (fun k e => by injection e with e; exact e.symm)) (fun _ h => h) (fun _ _ h => .inl h), by have := H3.out.2.2.2.1.size; simp [World.setCell]; omega⟩)
          clear hG hal hel
          generalize (w4.setCell ⟨g, 65553, none⟩ (.slice A3 (es.length + 1) c3)) = w5 at *
          have hac := act_any w5 base g _ al _ A _ true port v HX.out.1 hn HX.out.2.2
          go_wp2_with fail
          refine hac.mono ?_
          rintro x w6 ⟨u, A', rfl, h1, h2, h3⟩
          clear hac
          have HV := Lib.hid (And.intro h1 (And.intro h2 h3))
          clear h1 h2 h3
          go_wp2
          go_end0
          have hbE : ({ b with bo := v % 8, spk := true, mic := false } : Bd) = outB b v := by unfold outB; rw [H16.out, H8.out]
          have heE : edgeS b es v = es ++ [b.t] := by unfold edgeS; rw [H8.out, HBM.out]; rfl
          have hws := HX.out.2.1.size
          exact ⟨_, A', _, rfl, by rw [heE, ← hbE]; exact HV.out.1, HX.out.2.1.trans HV.out.2.1 (fun q e => e.elim .inl (fun e => .inr (.inr e))) (fun q _ e => e.elim .inl (fun e => .inr (.inl e))), by rcases HV.out.2.2 with e | ⟨k, e, hk⟩; exact .inl e; exact .inr ⟨k, e, by omega⟩, H3.out.2.2.2.2⟩
        · have ctA : (W.alloc (.cells #[.int .u64 b.t] 32)).cell? ⟨g, 65547, none⟩ = some (.int .u64 b.t) := alloc_of ctW
          have cEA : (W.alloc (.cells #[.int .u64 b.t] 32)).cell? ⟨g, 65553, none⟩ = some (.slice EA en ec) := alloc_of cEW
          go_simp
          refine hK.out _ _ ?_ (fun hHeld => ?_)
          · exact ctA
          clear hK K
          try simp only [Act.put, List.setIfInBounds_toArray, List.set_cons_zero, List.set_cons_succ]
          refine wpAnyH_ready (rs := [4]) (by kernel_rfl) (by simp) ?_
          refine AllReadyH.cons (o := _) (by simp only [List.getElem?_toArray, List.getElem?_cons_succ, List.getElem?_cons_zero]; rfl) (fun K hK => ?_) AllReadyH.nil
          go_simp
          refine hK.out _ _ ?_ (fun hHeld => ?_)
          · exact ctA
          clear hK K
          try simp only [Act.put, List.setIfInBounds_toArray, List.set_cons_zero, List.set_cons_succ]
          refine wpAnyH_ready (rs := [10]) (by kernel_rfl) (by simp) ?_
          refine AllReadyH.cons (o := _) (by simp only [List.getElem?_toArray, List.getElem?_cons_succ, List.getElem?_cons_zero]; rfl) (fun K hK => ?_) AllReadyH.nil
          have HC := Lib.hid (show Reads (W.alloc (.cells #[.int .u64 b.t] 32)) (W.alloc (.cells #[.int .u64 b.t] 32)).heap.size 1 (some ⟨W.heap.size, 0, none⟩) 1 [.int .u64 b.t] ∧ es.length + 1 ≤ maxLen ∧ (es.length + 1) * 8 ≤ 140737488355328 ∧ base ≤ (W.alloc (.cells #[.int .u64 b.t] 32)).heap.size from ⟨⟨rfl, fun _ => ⟨_, rfl, by simp, lit_cells W [.int .u64 b.t] 32⟩⟩, by unfold maxLen; omega, by omega, by have := HW.out.2.2; simp; omega⟩)
          have hown9 := HW.out.1.edges.alloc (.cells #[.int .u64 b.t] 32)
          refine step_append_any _ (by rfl) _ _ _ (by rfl) base 32 i1 (.int .u64 0) 1 8 Try.underlying34 hj hy0 hy1 hy2 rfl (by decide) (.slice EA en ec) es.length _ (by rfl) hown9 _ (some ⟨W.heap.size, 0, none⟩) 1 1 [.int .u64 b.t] (by rfl) HC.out.1 (by simp [Value.oneCell']) HC.out.2.1 HC.out.2.2.1 HC.out.2.2.2 ?_
          intro v3 w4 own3 hg3 hv3
          have hv9 := hv3
          obtain ⟨A3, c3, rfl⟩ := own_slice own3
          have hne3 : (some g : Option Nat) ≠ (Value.slice EA en ec).ownBlock := fun e => HNE.out.1 e.symm
          have hB3 : BdIs w4 g { b with bo := v % 8, spk := true, mic := false } A (.slice EA en ec) := Blk.grown (Blk.alloc HW.out.1.bd _) hg3 hne3
          have hA3 := (HW.out.1.acts.alloc (.cells #[.int .u64 b.t] 32)).kept hg3 (by rcases he : A.ownBlock with _ | k; exact .inl rfl; exact .inr (fun e => HNE.out.2 k e.symm he))
          have hch3 : Ch w w4 (fun k => k = g ∨ (Value.slice EA en ec).ownBlock = some k) := (HW.out.2.1.trans (Ch.of_below (φ := fun _ => False) (w := W) ((Below.refl _ _).alloc (Nat.le_refl _) _)) (χ := fun k => k = g ∨ (Value.slice EA en ec).ownBlock = some k) (fun _ h => h) (fun _ _ h => h.elim)).trans (Ch.of_grown (φ := fun k => (Value.slice EA en ec).ownBlock = some k) hg3 (fun k e => e)) (fun _ h => h) (fun _ _ h => .inr h)
          have ct3 : w4.cell? ⟨g, 65547, none⟩ = some (.int .u64 b.t) := hB3.at_ (by decide) bd_t
          refine hK.out _ _ ?_ (fun hHeld => ?_)
          · exact ct3
          clear hK K
          try simp only [Act.put, List.setIfInBounds_toArray, List.set_cons_zero, List.set_cons_succ]
          have H3 := Lib.hid (show BdIs w4 g { b with bo := v % 8, spk := true, mic := false } A (.slice EA en ec) ∧ w4.ownsRow base 72 4 A al.length (actV al) ∧ w4.ownsRow base 32 1 (.slice A3 (es.length + 1) c3) (es.length + 1) (es.map (Value.int .u64) ++ [.int .u64 b.t]) ∧ Ch w w4 (fun k => k = g ∨ (Value.slice EA en ec).ownBlock = some k) ∧ NewBlk w (.slice EA en ec) (.slice A3 (es.length + 1) c3) from ⟨hB3, hA3, own3, hch3, by
            rcases hv9 with h | h
            · exact .inl h
            · exact .inr ⟨_, h, by have := HW.out.2.2; simp; omega⟩⟩)
          clear own3 hg3 hv3 hv9 hB3 hA3 hch3 hown9 hne3
          have dE : w4.cell? ⟨g, 65553, none⟩ = some (.slice EA en ec) := H3.out.1.at_ (by decide) bd_E
          have eE : w4.frozen? ⟨g, 65553, none⟩ = false := H3.out.1.fz _
          refine wpAnyH_take (i := 11) (oi := _) (v := ?_) (by simp only [List.getElem?_toArray, List.getElem?_cons_succ, List.getElem?_cons_zero]; rfl) (by kernel_rfl) (by kernel_rfl) (by kernel_rfl) (by intro _ _ _ h; exact h) (Or.inl ⟨by rfl, ?_⟩) (by assumption) ?_
          rotate_left
          · intro w hSw
            try dsimp only at hSw
            go_simp
            try with_reducible rfl
          try simp only [Act.put, List.setIfInBounds_toArray, List.set_cons_zero, List.set_cons_succ]
          refine wpAnyH_take (i := 12) (oi := _) (v := ?_) (by simp only [List.getElem?_toArray, List.getElem?_cons_succ, List.getElem?_cons_zero]; rfl) (by kernel_rfl) (by kernel_rfl) (by kernel_rfl) (by intro _ _ _ h; exact h) (Or.inl ⟨by rfl, ?_⟩) (by assumption) ?_
          rotate_left
          · intro w hSw
            try dsimp only at hSw
            go_simp
            try with_reducible rfl
          try simp only [Act.put, List.setIfInBounds_toArray, List.set_cons_zero, List.set_cons_succ]
          refine wpAnyH_ready (rs := [13]) (by kernel_rfl) (by simp) ?_
          refine AllReadyH.cons (o := _) (by simp only [List.getElem?_toArray, List.getElem?_cons_succ, List.getElem?_cons_zero]; rfl) (fun K hK => ?_) AllReadyH.nil
          go_simp
          refine hK.out _ _ ?_ (fun hHeld => ?_)
          · exact (World.cell?_setCell_other _ _ _ _ (by intro e; injection e with _ e; exact absurd e (by decide))).trans ct3
          clear hK K
          try simp only [Act.put, List.setIfInBounds_toArray, List.set_cons_zero, List.set_cons_succ]
          refine wpAnyH_done (by kernel_rfl) ?_ _
          clear dE eE ct3
          have hal := own_blk_ne H3.out.2.1 H3.out.1 (by decide)
          have hel := own_blk_ne H3.out.2.2.1 H3.out.1 (by decide)
          have hG := grown_cell w4 g 65553 (.slice A3 (es.length + 1) c3)
          have HX := Lib.hid (show BdAt (w4.setCell ⟨g, 65553, none⟩ (.slice A3 (es.length + 1) c3)) base g { b with bo := v % 8, spk := true, mic := false } al (es ++ [b.t]) A (.slice A3 (es.length + 1) c3) ∧ Ch w (w4.setCell ⟨g, 65553, none⟩ (.slice A3 (es.length + 1) c3)) (fun k => k = g ∨ (Value.slice EA en ec).ownBlock = some k) ∧ base ≤ (w4.setCell ⟨g, 65553, none⟩ (.slice A3 (es.length + 1) c3)).heap.size from ⟨⟨H3.out.1.put (set_E _), H3.out.2.1.kept hG (.inr hal), by rw [List.map_append, List.length_append]; exact H3.out.2.2.1.kept hG (.inr hel)⟩, H3.out.2.2.2.1.trans (Ch.of_grown (φ := fun k => k = g) hG (fun k e => by injection e with e; exact e.symm)) (fun _ h => h) (fun _ _ h => .inl h), by have := H3.out.2.2.2.1.size; simp [World.setCell]; omega⟩)
          clear hG hal hel
          generalize (w4.setCell ⟨g, 65553, none⟩ (.slice A3 (es.length + 1) c3)) = w5 at *
          have hac := act_any w5 base g _ al _ A _ true port v HX.out.1 hn HX.out.2.2
          go_wp2_with fail
          refine hac.mono ?_
          rintro x w6 ⟨u, A', rfl, h1, h2, h3⟩
          clear hac
          have HV := Lib.hid (And.intro h1 (And.intro h2 h3))
          clear h1 h2 h3
          go_wp2
          go_end0
          have hbE : ({ b with bo := v % 8, spk := true, mic := false } : Bd) = outB b v := by unfold outB; rw [H16.out, H8.out]
          have heE : edgeS b es v = es ++ [b.t] := by unfold edgeS; rw [H8.out, HBM.out]; rfl
          have hws := HX.out.2.1.size
          exact ⟨_, A', _, rfl, by rw [heE, ← hbE]; exact HV.out.1, HX.out.2.1.trans HV.out.2.1 (fun q e => e.elim .inl (fun e => .inr (.inr e))) (fun q _ e => e.elim .inl (fun e => .inr (.inl e))), by rcases HV.out.2.2 with e | ⟨k, e, hk⟩; exact .inl e; exact .inr ⟨k, e, by omega⟩, H3.out.2.2.2.2⟩
      | false =>
        have HBM := Lib.hid hbm
        have c50m : w2.cell? ⟨g, 65550, none⟩ = some (.bool false) := by rw [← hbm]; exact c50
        clear c50 hbm
        have hac := act_any w2 base g _ al es A E true port v HZ.out.1 hn (by rw [HZ.out.2.2]; exact hb)
        clear f50
        go_upto_region 7 with fail
        clear c50m
        go_wp2_with fail
        refine hac.mono ?_
        rintro x w5 ⟨u, A', rfl, h1, h2, h3⟩
        clear hac
        have HX := Lib.hid (And.intro h1 (And.intro h2 h3))
        clear h1 h2 h3
        go_wp2
        go_end0
        have hbE : ({ b with bo := v % 8, spk := true } : Bd) = outB b v := by unfold outB; rw [H16.out, H8.out, ← HBM.out]
        have heE : edgeS b es v = es := by unfold edgeS; rw [H8.out, HBM.out]; rfl
        exact ⟨_, A', E, rfl, by rw [heE, ← hbE]; exact HX.out.1, HZ.out.2.1.trans HX.out.2.1 (fun q e => .inl e) (fun q _ e => e.elim .inl (fun e => .inr (.inl e))), by rcases HX.out.2.2 with e | ⟨k, e, hk⟩; exact .inl e; exact .inr ⟨k, e, by rw [HZ.out.2.2] at hk; exact hk⟩, .inl rfl⟩
  · rw [if_neg h16] at b16
    have H16 := Lib.hid (show decide (v / 16 % 2 = 1) = false from by simp [h16])
    clear h16
    go_enter Try.func24, Try.ntmps24
    go_upto_region 3 with fail
    have HZ := Lib.hid (show BdAt ((w.setCell ⟨g, 65549, none⟩ (.int .u8 (v % 8))).setCell ⟨g, 65551, none⟩ (.bool false)) base g { b with bo := v % 8, spk := false } al es A E ∧ Ch w ((w.setCell ⟨g, 65549, none⟩ (.int .u8 (v % 8))).setCell ⟨g, 65551, none⟩ (.bool false)) (fun k => k = g) ∧ ((w.setCell ⟨g, 65549, none⟩ (.int .u8 (v % 8))).setCell ⟨g, 65551, none⟩ (.bool false)).heap.size = w.heap.size from ⟨(HH.out.put (set_bo _)).put (set_spk _), Ch.of_grown (grown_trans (grown_cell _ _ _ _) (grown_cell _ _ _ _)) (fun k e => by injection e with e; exact e.symm), by simp [World.setCell]⟩)
    clear c49 f49 c51 f51
    generalize ((w.setCell ⟨g, 65549, none⟩ (.int .u8 (v % 8))).setCell ⟨g, 65551, none⟩ (.bool false)) = w2 at *
    have c50 := HZ.out.1.bd.at_ (i := 65550) (by decide) bd_mic
    have f50 := HZ.out.1.bd.fz 65550
    by_cases h8 : v / 8 % 2 = 1
    · rw [if_pos h8] at b8
      have H8 := Lib.hid (show decide (v / 8 % 2 = 1) = true from by simp [h8])
      clear h8
      cases hbm : b.mic with
      | true =>
        have HBM := Lib.hid hbm
        have c50m : w2.cell? ⟨g, 65550, none⟩ = some (.bool true) := by rw [← hbm]; exact c50
        clear c50 hbm
        have hac := act_any w2 base g _ al es A E true port v HZ.out.1 hn (by rw [HZ.out.2.2]; exact hb)
        clear f50
        go_upto_region 7 with fail
        clear c50m
        go_wp2_with fail
        refine hac.mono ?_
        rintro x w5 ⟨u, A', rfl, h1, h2, h3⟩
        clear hac
        have HX := Lib.hid (And.intro h1 (And.intro h2 h3))
        clear h1 h2 h3
        go_wp2
        go_end0
        have hbE : ({ b with bo := v % 8, spk := false } : Bd) = outB b v := by unfold outB; rw [H16.out, H8.out, ← HBM.out]
        have heE : edgeS b es v = es := by unfold edgeS; rw [H8.out, HBM.out]; rfl
        exact ⟨_, A', E, rfl, by rw [heE, ← hbE]; exact HX.out.1, HZ.out.2.1.trans HX.out.2.1 (fun q e => .inl e) (fun q _ e => e.elim .inl (fun e => .inr (.inl e))), by rcases HX.out.2.2 with e | ⟨k, e, hk⟩; exact .inl e; exact .inr ⟨k, e, by rw [HZ.out.2.2] at hk; exact hk⟩, .inl rfl⟩
      | false =>
        have HBM := Lib.hid hbm
        have c50m : w2.cell? ⟨g, 65550, none⟩ = some (.bool false) := by rw [← hbm]; exact c50
        clear c50 hbm
        go_upto_region 6 with fail
        have HZ3 := Lib.hid (show BdAt (w2.setCell ⟨g, 65550, none⟩ (.bool true)) base g { b with bo := v % 8, spk := false, mic := true } al es A E ∧ Ch w (w2.setCell ⟨g, 65550, none⟩ (.bool true)) (fun k => k = g) ∧ (w2.setCell ⟨g, 65550, none⟩ (.bool true)).heap.size = w.heap.size from ⟨HZ.out.1.put (set_mic _), HZ.out.2.1.trans (Ch.of_grown (φ := fun k => k = g) (grown_cell _ _ _ _) (fun k e => by injection e with e; exact e.symm)) (fun _ e => e) (fun _ _ e => e), by have := HZ.out.2.2; simpa [World.setCell] using this⟩)
        clear c50m f50
        generalize (w2.setCell ⟨g, 65550, none⟩ (.bool true)) = w3 at *
        obtain ⟨EA, en, ec, hEs⟩ : ∃ x n c, E = .slice x n c := by
          rcases HZ3.out.1.edges.2 with ⟨e, _⟩ | ⟨g', cap, cur, e, _⟩
          · exact ⟨none, 0, 0, e⟩
          · exact ⟨_, _, cap, e⟩
        subst hEs
        have cE := HZ3.out.1.bd.at_ (i := 65553) (by decide) bd_E
        have ct : w3.cell? ⟨g, 65547, none⟩ = some (.int .u64 b.t) := HZ3.out.1.bd.at_ (i := 65547) (by decide) bd_t
        have hea := own_blk_ne HZ3.out.1.edges HZ3.out.1.bd (by decide)
        have hae := own_types_ne HZ3.out.1.edges HZ3.out.1.acts (by decide)
        have HNE := Lib.hid (And.intro hea hae)
        clear hea hae
        refine wp_region_held_drew (S := fun w' => w'.cell? ⟨g, 65547, none⟩ = some (.int .u64 b.t)) (by kernel_rfl) ?_ (fun hHeld => ?_)
        · exact ct
        have HW := Lib.hid (show BdAt w3.drew base g { b with bo := v % 8, spk := false, mic := true } al es A (.slice EA en ec) ∧ Ch w w3.drew (fun k => k = g ∨ (Value.slice EA en ec).ownBlock = some k) ∧ w3.drew.heap.size = w.heap.size from ⟨⟨HZ3.out.1.bd, HZ3.out.1.acts, HZ3.out.1.edges⟩, HZ3.out.2.1.trans (Ch.refl w3 (fun _ => False)) (χ := fun k => k = g ∨ (Value.slice EA en ec).ownBlock = some k) (fun _ e => .inl e) (fun _ _ e => e.elim) |> fun h => ⟨h.os, h.tape, h.output, h.size, h.block⟩, HZ3.out.2.2⟩)
        have cEW : w3.drew.cell? ⟨g, 65553, none⟩ = some (.slice EA en ec) := cE
        have ctW : w3.drew.cell? ⟨g, 65547, none⟩ = some (.int .u64 b.t) := ct
        clear cE ct HZ HZ3
        generalize w3.drew = W at *
        refine wpAnyH_take (i := 0) (oi := _) (v := ?_) (by simp only [List.getElem?_toArray, List.getElem?_cons_succ, List.getElem?_cons_zero]; rfl) (by kernel_rfl) (by kernel_rfl) (by kernel_rfl) (by intro _ _ _ h; exact h) (Or.inl ⟨by rfl, ?_⟩) (by assumption) ?_
        rotate_left
        · intro w hSw
          try dsimp only at hSw
          go_simp
          try with_reducible rfl
        try simp only [Act.put, List.setIfInBounds_toArray, List.set_cons_zero, List.set_cons_succ]
        refine wpAnyH_take (i := 1) (oi := _) (v := ?_) (by simp only [List.getElem?_toArray, List.getElem?_cons_succ, List.getElem?_cons_zero]; rfl) (by kernel_rfl) (by kernel_rfl) (by kernel_rfl) (by intro _ _ _ h; exact h) (Or.inl ⟨by rfl, ?_⟩) (by assumption) ?_
        rotate_left
        · intro w hSw
          try dsimp only at hSw
          go_simp
          try with_reducible rfl
        try simp only [Act.put, List.setIfInBounds_toArray, List.set_cons_zero, List.set_cons_succ]
        refine wpAnyH_take (i := 2) (oi := _) (v := ?_) (by simp only [List.getElem?_toArray, List.getElem?_cons_succ, List.getElem?_cons_zero]; rfl) (by kernel_rfl) (by kernel_rfl) (by kernel_rfl) (by intro _ _ _ h; exact h) (Or.inl ⟨by rfl, ?_⟩) (by assumption) ?_
        rotate_left
        · intro w hSw
          try dsimp only at hSw
          go_simp
          try with_reducible rfl
        try simp only [Act.put, List.setIfInBounds_toArray, List.set_cons_zero, List.set_cons_succ]
        refine wpAnyH_take (i := 3) (oi := _) (v := ?_) (by simp only [List.getElem?_toArray, List.getElem?_cons_succ, List.getElem?_cons_zero]; rfl) (by kernel_rfl) (by kernel_rfl) (by kernel_rfl) (by intro _ _ _ h; exact h) (Or.inl ⟨by rfl, ?_⟩) (by assumption) ?_
        rotate_left
        · intro w hSw
          try dsimp only at hSw
          go_simp
          try with_reducible rfl
        try simp only [Act.put, List.setIfInBounds_toArray, List.set_cons_zero, List.set_cons_succ]
        refine wpAnyH_take (i := 5) (oi := _) (v := ?_) (by simp only [List.getElem?_toArray, List.getElem?_cons_succ, List.getElem?_cons_zero]; rfl) (by kernel_rfl) (by kernel_rfl) (by kernel_rfl) (by intro _ _ _ h; exact h) (Or.inl ⟨by rfl, ?_⟩) (by assumption) ?_
        rotate_left
        · intro w hSw
          try dsimp only at hSw
          go_simp
          try with_reducible rfl
        try simp only [Act.put, List.setIfInBounds_toArray, List.set_cons_zero, List.set_cons_succ]
        refine wpAnyH_take (i := 6) (oi := _) (v := ?_) (by simp only [List.getElem?_toArray, List.getElem?_cons_succ, List.getElem?_cons_zero]; rfl) (by kernel_rfl) (by kernel_rfl) (by kernel_rfl) (by intro _ _ _ h; exact h) (Or.inl ⟨by rfl, ?_⟩) (by assumption) ?_
        rotate_left
        · intro w hSw
          try dsimp only at hSw
          go_simp
          try with_reducible rfl
        try simp only [Act.put, List.setIfInBounds_toArray, List.set_cons_zero, List.set_cons_succ]
        refine wpAnyH_take (i := 7) (oi := _) (v := ?_) (by simp only [List.getElem?_toArray, List.getElem?_cons_succ, List.getElem?_cons_zero]; rfl) (by kernel_rfl) (by kernel_rfl) (by kernel_rfl) (by intro _ _ _ h; exact h) (Or.inl ⟨by rfl, ?_⟩) (by assumption) ?_
        rotate_left
        · intro w hSw
          try dsimp only at hSw
          go_simp
          try with_reducible rfl
        try simp only [Act.put, List.setIfInBounds_toArray, List.set_cons_zero, List.set_cons_succ]
        refine wpAnyH_take (i := 8) (oi := _) (v := ?_) (by simp only [List.getElem?_toArray, List.getElem?_cons_succ, List.getElem?_cons_zero]; rfl) (by kernel_rfl) (by kernel_rfl) (by kernel_rfl) (by intro _ _ _ h; exact h) (Or.inl ⟨by rfl, ?_⟩) (by assumption) ?_
        rotate_left
        · intro w hSw
          try dsimp only at hSw
          go_simp
          try with_reducible rfl
        try simp only [Act.put, List.setIfInBounds_toArray, List.set_cons_zero, List.set_cons_succ]
        refine wpAnyH_ready (rs := [4, 9]) (by kernel_rfl) (by simp) ?_
        refine AllReadyH.cons (o := _) (by simp only [List.getElem?_toArray, List.getElem?_cons_succ, List.getElem?_cons_zero]; rfl) (fun K hK => ?_) (AllReadyH.cons (o := _) (by simp only [List.getElem?_toArray, List.getElem?_cons_succ, List.getElem?_cons_zero]; rfl) (fun K hK => ?_) AllReadyH.nil)
        · go_simp
          refine hK.out _ _ ?_ (fun hHeld => ?_)
          · exact ctW
          clear hK K
          try simp only [Act.put, List.setIfInBounds_toArray, List.set_cons_zero, List.set_cons_succ]
          refine wpAnyH_ready (rs := [9]) (by kernel_rfl) (by simp) ?_
          refine AllReadyH.cons (o := _) (by simp only [List.getElem?_toArray, List.getElem?_cons_succ, List.getElem?_cons_zero]; rfl) (fun K hK => ?_) AllReadyH.nil
          have ctA : (W.alloc (.cells #[.int .u64 b.t] 32)).cell? ⟨g, 65547, none⟩ = some (.int .u64 b.t) := alloc_of ctW
          have cEA : (W.alloc (.cells #[.int .u64 b.t] 32)).cell? ⟨g, 65553, none⟩ = some (.slice EA en ec) := alloc_of cEW
          go_simp
          refine hK.out _ _ ?_ (fun hHeld => ?_)
          · exact ctA
          clear hK K
          try simp only [Act.put, List.setIfInBounds_toArray, List.set_cons_zero, List.set_cons_succ]
          refine wpAnyH_ready (rs := [10]) (by kernel_rfl) (by simp) ?_
          refine AllReadyH.cons (o := _) (by simp only [List.getElem?_toArray, List.getElem?_cons_succ, List.getElem?_cons_zero]; rfl) (fun K hK => ?_) AllReadyH.nil
          have HC := Lib.hid (show Reads (W.alloc (.cells #[.int .u64 b.t] 32)) (W.alloc (.cells #[.int .u64 b.t] 32)).heap.size 1 (some ⟨W.heap.size, 0, none⟩) 1 [.int .u64 b.t] ∧ es.length + 1 ≤ maxLen ∧ (es.length + 1) * 8 ≤ 140737488355328 ∧ base ≤ (W.alloc (.cells #[.int .u64 b.t] 32)).heap.size from ⟨⟨rfl, fun _ => ⟨_, rfl, by simp, lit_cells W [.int .u64 b.t] 32⟩⟩, by unfold maxLen; omega, by omega, by have := HW.out.2.2; simp; omega⟩)
          have hown9 := HW.out.1.edges.alloc (.cells #[.int .u64 b.t] 32)
          refine step_append_any _ (by rfl) _ _ _ (by rfl) base 32 i1 (.int .u64 0) 1 8 Try.underlying34 hj hy0 hy1 hy2 rfl (by decide) (.slice EA en ec) es.length _ (by rfl) hown9 _ (some ⟨W.heap.size, 0, none⟩) 1 1 [.int .u64 b.t] (by rfl) HC.out.1 (by simp [Value.oneCell']) HC.out.2.1 HC.out.2.2.1 HC.out.2.2.2 ?_
          intro v3 w4 own3 hg3 hv3
          have hv9 := hv3
          obtain ⟨A3, c3, rfl⟩ := own_slice own3
          have hne3 : (some g : Option Nat) ≠ (Value.slice EA en ec).ownBlock := fun e => HNE.out.1 e.symm
          have hB3 : BdIs w4 g { b with bo := v % 8, spk := false, mic := true } A (.slice EA en ec) := Blk.grown (Blk.alloc HW.out.1.bd _) hg3 hne3
          have hA3 := (HW.out.1.acts.alloc (.cells #[.int .u64 b.t] 32)).kept hg3 (by rcases he : A.ownBlock with _ | k; exact .inl rfl; exact .inr (fun e => HNE.out.2 k e.symm he))
          have hch3 : Ch w w4 (fun k => k = g ∨ (Value.slice EA en ec).ownBlock = some k) := (HW.out.2.1.trans (Ch.of_below (φ := fun _ => False) (w := W) ((Below.refl _ _).alloc (Nat.le_refl _) _)) (χ := fun k => k = g ∨ (Value.slice EA en ec).ownBlock = some k) (fun _ h => h) (fun _ _ h => h.elim)).trans (Ch.of_grown (φ := fun k => (Value.slice EA en ec).ownBlock = some k) hg3 (fun k e => e)) (fun _ h => h) (fun _ _ h => .inr h)
          have ct3 : w4.cell? ⟨g, 65547, none⟩ = some (.int .u64 b.t) := hB3.at_ (by decide) bd_t
          refine hK.out _ _ ?_ (fun hHeld => ?_)
          · exact ct3
          clear hK K
          try simp only [Act.put, List.setIfInBounds_toArray, List.set_cons_zero, List.set_cons_succ]
          have H3 := Lib.hid (show BdIs w4 g { b with bo := v % 8, spk := false, mic := true } A (.slice EA en ec) ∧ w4.ownsRow base 72 4 A al.length (actV al) ∧ w4.ownsRow base 32 1 (.slice A3 (es.length + 1) c3) (es.length + 1) (es.map (Value.int .u64) ++ [.int .u64 b.t]) ∧ Ch w w4 (fun k => k = g ∨ (Value.slice EA en ec).ownBlock = some k) ∧ NewBlk w (.slice EA en ec) (.slice A3 (es.length + 1) c3) from ⟨hB3, hA3, own3, hch3, by
            rcases hv9 with h | h
            · exact .inl h
            · exact .inr ⟨_, h, by have := HW.out.2.2; simp; omega⟩⟩)
          clear own3 hg3 hv3 hv9 hB3 hA3 hch3 hown9 hne3
          have dE : w4.cell? ⟨g, 65553, none⟩ = some (.slice EA en ec) := H3.out.1.at_ (by decide) bd_E
          have eE : w4.frozen? ⟨g, 65553, none⟩ = false := H3.out.1.fz _
          refine wpAnyH_take (i := 11) (oi := _) (v := ?_) (by simp only [List.getElem?_toArray, List.getElem?_cons_succ, List.getElem?_cons_zero]; rfl) (by kernel_rfl) (by kernel_rfl) (by kernel_rfl) (by intro _ _ _ h; exact h) (Or.inl ⟨by rfl, ?_⟩) (by assumption) ?_
          rotate_left
          · intro w hSw
            try dsimp only at hSw
            go_simp
            try with_reducible rfl
          try simp only [Act.put, List.setIfInBounds_toArray, List.set_cons_zero, List.set_cons_succ]
          refine wpAnyH_take (i := 12) (oi := _) (v := ?_) (by simp only [List.getElem?_toArray, List.getElem?_cons_succ, List.getElem?_cons_zero]; rfl) (by kernel_rfl) (by kernel_rfl) (by kernel_rfl) (by intro _ _ _ h; exact h) (Or.inl ⟨by rfl, ?_⟩) (by assumption) ?_
          rotate_left
          · intro w hSw
            try dsimp only at hSw
            go_simp
            try with_reducible rfl
          try simp only [Act.put, List.setIfInBounds_toArray, List.set_cons_zero, List.set_cons_succ]
          refine wpAnyH_ready (rs := [13]) (by kernel_rfl) (by simp) ?_
          refine AllReadyH.cons (o := _) (by simp only [List.getElem?_toArray, List.getElem?_cons_succ, List.getElem?_cons_zero]; rfl) (fun K hK => ?_) AllReadyH.nil
          go_simp
          refine hK.out _ _ ?_ (fun hHeld => ?_)
          · exact (World.cell?_setCell_other _ _ _ _ (by intro e; injection e with _ e; exact absurd e (by decide))).trans ct3
          clear hK K
          try simp only [Act.put, List.setIfInBounds_toArray, List.set_cons_zero, List.set_cons_succ]
          refine wpAnyH_done (by kernel_rfl) ?_ _
          clear dE eE ct3
          have hal := own_blk_ne H3.out.2.1 H3.out.1 (by decide)
          have hel := own_blk_ne H3.out.2.2.1 H3.out.1 (by decide)
          have hG := grown_cell w4 g 65553 (.slice A3 (es.length + 1) c3)
          have HX := Lib.hid (show BdAt (w4.setCell ⟨g, 65553, none⟩ (.slice A3 (es.length + 1) c3)) base g { b with bo := v % 8, spk := false, mic := true } al (es ++ [b.t]) A (.slice A3 (es.length + 1) c3) ∧ Ch w (w4.setCell ⟨g, 65553, none⟩ (.slice A3 (es.length + 1) c3)) (fun k => k = g ∨ (Value.slice EA en ec).ownBlock = some k) ∧ base ≤ (w4.setCell ⟨g, 65553, none⟩ (.slice A3 (es.length + 1) c3)).heap.size from ⟨⟨H3.out.1.put (set_E _), H3.out.2.1.kept hG (.inr hal), by rw [List.map_append, List.length_append]; exact H3.out.2.2.1.kept hG (.inr hel)⟩, H3.out.2.2.2.1.trans (Ch.of_grown (φ := fun k => k = g) hG (fun k e => by injection e with e; exact e.symm)) (fun _ h => h) (fun _ _ h => .inl h), by have := H3.out.2.2.2.1.size; simp [World.setCell]; omega⟩)
          clear hG hal hel
          generalize (w4.setCell ⟨g, 65553, none⟩ (.slice A3 (es.length + 1) c3)) = w5 at *
          have hac := act_any w5 base g _ al _ A _ true port v HX.out.1 hn HX.out.2.2
          go_wp2_with fail
          refine hac.mono ?_
          rintro x w6 ⟨u, A', rfl, h1, h2, h3⟩
          clear hac
          have HV := Lib.hid (And.intro h1 (And.intro h2 h3))
          clear h1 h2 h3
          go_wp2
          go_end0
          have hbE : ({ b with bo := v % 8, spk := false, mic := true } : Bd) = outB b v := by unfold outB; rw [H16.out, H8.out]
          have heE : edgeS b es v = es ++ [b.t] := by unfold edgeS; rw [H8.out, HBM.out]; rfl
          have hws := HX.out.2.1.size
          exact ⟨_, A', _, rfl, by rw [heE, ← hbE]; exact HV.out.1, HX.out.2.1.trans HV.out.2.1 (fun q e => e.elim .inl (fun e => .inr (.inr e))) (fun q _ e => e.elim .inl (fun e => .inr (.inl e))), by rcases HV.out.2.2 with e | ⟨k, e, hk⟩; exact .inl e; exact .inr ⟨k, e, by omega⟩, H3.out.2.2.2.2⟩
        · have ctA : (W.alloc (.cells #[.int .u64 b.t] 32)).cell? ⟨g, 65547, none⟩ = some (.int .u64 b.t) := alloc_of ctW
          have cEA : (W.alloc (.cells #[.int .u64 b.t] 32)).cell? ⟨g, 65553, none⟩ = some (.slice EA en ec) := alloc_of cEW
          go_simp
          refine hK.out _ _ ?_ (fun hHeld => ?_)
          · exact ctA
          clear hK K
          try simp only [Act.put, List.setIfInBounds_toArray, List.set_cons_zero, List.set_cons_succ]
          refine wpAnyH_ready (rs := [4]) (by kernel_rfl) (by simp) ?_
          refine AllReadyH.cons (o := _) (by simp only [List.getElem?_toArray, List.getElem?_cons_succ, List.getElem?_cons_zero]; rfl) (fun K hK => ?_) AllReadyH.nil
          go_simp
          refine hK.out _ _ ?_ (fun hHeld => ?_)
          · exact ctA
          clear hK K
          try simp only [Act.put, List.setIfInBounds_toArray, List.set_cons_zero, List.set_cons_succ]
          refine wpAnyH_ready (rs := [10]) (by kernel_rfl) (by simp) ?_
          refine AllReadyH.cons (o := _) (by simp only [List.getElem?_toArray, List.getElem?_cons_succ, List.getElem?_cons_zero]; rfl) (fun K hK => ?_) AllReadyH.nil
          have HC := Lib.hid (show Reads (W.alloc (.cells #[.int .u64 b.t] 32)) (W.alloc (.cells #[.int .u64 b.t] 32)).heap.size 1 (some ⟨W.heap.size, 0, none⟩) 1 [.int .u64 b.t] ∧ es.length + 1 ≤ maxLen ∧ (es.length + 1) * 8 ≤ 140737488355328 ∧ base ≤ (W.alloc (.cells #[.int .u64 b.t] 32)).heap.size from ⟨⟨rfl, fun _ => ⟨_, rfl, by simp, lit_cells W [.int .u64 b.t] 32⟩⟩, by unfold maxLen; omega, by omega, by have := HW.out.2.2; simp; omega⟩)
          have hown9 := HW.out.1.edges.alloc (.cells #[.int .u64 b.t] 32)
          refine step_append_any _ (by rfl) _ _ _ (by rfl) base 32 i1 (.int .u64 0) 1 8 Try.underlying34 hj hy0 hy1 hy2 rfl (by decide) (.slice EA en ec) es.length _ (by rfl) hown9 _ (some ⟨W.heap.size, 0, none⟩) 1 1 [.int .u64 b.t] (by rfl) HC.out.1 (by simp [Value.oneCell']) HC.out.2.1 HC.out.2.2.1 HC.out.2.2.2 ?_
          intro v3 w4 own3 hg3 hv3
          have hv9 := hv3
          obtain ⟨A3, c3, rfl⟩ := own_slice own3
          have hne3 : (some g : Option Nat) ≠ (Value.slice EA en ec).ownBlock := fun e => HNE.out.1 e.symm
          have hB3 : BdIs w4 g { b with bo := v % 8, spk := false, mic := true } A (.slice EA en ec) := Blk.grown (Blk.alloc HW.out.1.bd _) hg3 hne3
          have hA3 := (HW.out.1.acts.alloc (.cells #[.int .u64 b.t] 32)).kept hg3 (by rcases he : A.ownBlock with _ | k; exact .inl rfl; exact .inr (fun e => HNE.out.2 k e.symm he))
          have hch3 : Ch w w4 (fun k => k = g ∨ (Value.slice EA en ec).ownBlock = some k) := (HW.out.2.1.trans (Ch.of_below (φ := fun _ => False) (w := W) ((Below.refl _ _).alloc (Nat.le_refl _) _)) (χ := fun k => k = g ∨ (Value.slice EA en ec).ownBlock = some k) (fun _ h => h) (fun _ _ h => h.elim)).trans (Ch.of_grown (φ := fun k => (Value.slice EA en ec).ownBlock = some k) hg3 (fun k e => e)) (fun _ h => h) (fun _ _ h => .inr h)
          have ct3 : w4.cell? ⟨g, 65547, none⟩ = some (.int .u64 b.t) := hB3.at_ (by decide) bd_t
          refine hK.out _ _ ?_ (fun hHeld => ?_)
          · exact ct3
          clear hK K
          try simp only [Act.put, List.setIfInBounds_toArray, List.set_cons_zero, List.set_cons_succ]
          have H3 := Lib.hid (show BdIs w4 g { b with bo := v % 8, spk := false, mic := true } A (.slice EA en ec) ∧ w4.ownsRow base 72 4 A al.length (actV al) ∧ w4.ownsRow base 32 1 (.slice A3 (es.length + 1) c3) (es.length + 1) (es.map (Value.int .u64) ++ [.int .u64 b.t]) ∧ Ch w w4 (fun k => k = g ∨ (Value.slice EA en ec).ownBlock = some k) ∧ NewBlk w (.slice EA en ec) (.slice A3 (es.length + 1) c3) from ⟨hB3, hA3, own3, hch3, by
            rcases hv9 with h | h
            · exact .inl h
            · exact .inr ⟨_, h, by have := HW.out.2.2; simp; omega⟩⟩)
          clear own3 hg3 hv3 hv9 hB3 hA3 hch3 hown9 hne3
          have dE : w4.cell? ⟨g, 65553, none⟩ = some (.slice EA en ec) := H3.out.1.at_ (by decide) bd_E
          have eE : w4.frozen? ⟨g, 65553, none⟩ = false := H3.out.1.fz _
          refine wpAnyH_take (i := 11) (oi := _) (v := ?_) (by simp only [List.getElem?_toArray, List.getElem?_cons_succ, List.getElem?_cons_zero]; rfl) (by kernel_rfl) (by kernel_rfl) (by kernel_rfl) (by intro _ _ _ h; exact h) (Or.inl ⟨by rfl, ?_⟩) (by assumption) ?_
          rotate_left
          · intro w hSw
            try dsimp only at hSw
            go_simp
            try with_reducible rfl
          try simp only [Act.put, List.setIfInBounds_toArray, List.set_cons_zero, List.set_cons_succ]
          refine wpAnyH_take (i := 12) (oi := _) (v := ?_) (by simp only [List.getElem?_toArray, List.getElem?_cons_succ, List.getElem?_cons_zero]; rfl) (by kernel_rfl) (by kernel_rfl) (by kernel_rfl) (by intro _ _ _ h; exact h) (Or.inl ⟨by rfl, ?_⟩) (by assumption) ?_
          rotate_left
          · intro w hSw
            try dsimp only at hSw
            go_simp
            try with_reducible rfl
          try simp only [Act.put, List.setIfInBounds_toArray, List.set_cons_zero, List.set_cons_succ]
          refine wpAnyH_ready (rs := [13]) (by kernel_rfl) (by simp) ?_
          refine AllReadyH.cons (o := _) (by simp only [List.getElem?_toArray, List.getElem?_cons_succ, List.getElem?_cons_zero]; rfl) (fun K hK => ?_) AllReadyH.nil
          go_simp
          refine hK.out _ _ ?_ (fun hHeld => ?_)
          · exact (World.cell?_setCell_other _ _ _ _ (by intro e; injection e with _ e; exact absurd e (by decide))).trans ct3
          clear hK K
          try simp only [Act.put, List.setIfInBounds_toArray, List.set_cons_zero, List.set_cons_succ]
          refine wpAnyH_done (by kernel_rfl) ?_ _
          clear dE eE ct3
          have hal := own_blk_ne H3.out.2.1 H3.out.1 (by decide)
          have hel := own_blk_ne H3.out.2.2.1 H3.out.1 (by decide)
          have hG := grown_cell w4 g 65553 (.slice A3 (es.length + 1) c3)
          have HX := Lib.hid (show BdAt (w4.setCell ⟨g, 65553, none⟩ (.slice A3 (es.length + 1) c3)) base g { b with bo := v % 8, spk := false, mic := true } al (es ++ [b.t]) A (.slice A3 (es.length + 1) c3) ∧ Ch w (w4.setCell ⟨g, 65553, none⟩ (.slice A3 (es.length + 1) c3)) (fun k => k = g ∨ (Value.slice EA en ec).ownBlock = some k) ∧ base ≤ (w4.setCell ⟨g, 65553, none⟩ (.slice A3 (es.length + 1) c3)).heap.size from ⟨⟨H3.out.1.put (set_E _), H3.out.2.1.kept hG (.inr hal), by rw [List.map_append, List.length_append]; exact H3.out.2.2.1.kept hG (.inr hel)⟩, H3.out.2.2.2.1.trans (Ch.of_grown (φ := fun k => k = g) hG (fun k e => by injection e with e; exact e.symm)) (fun _ h => h) (fun _ _ h => .inl h), by have := H3.out.2.2.2.1.size; simp [World.setCell]; omega⟩)
          clear hG hal hel
          generalize (w4.setCell ⟨g, 65553, none⟩ (.slice A3 (es.length + 1) c3)) = w5 at *
          have hac := act_any w5 base g _ al _ A _ true port v HX.out.1 hn HX.out.2.2
          go_wp2_with fail
          refine hac.mono ?_
          rintro x w6 ⟨u, A', rfl, h1, h2, h3⟩
          clear hac
          have HV := Lib.hid (And.intro h1 (And.intro h2 h3))
          clear h1 h2 h3
          go_wp2
          go_end0
          have hbE : ({ b with bo := v % 8, spk := false, mic := true } : Bd) = outB b v := by unfold outB; rw [H16.out, H8.out]
          have heE : edgeS b es v = es ++ [b.t] := by unfold edgeS; rw [H8.out, HBM.out]; rfl
          have hws := HX.out.2.1.size
          exact ⟨_, A', _, rfl, by rw [heE, ← hbE]; exact HV.out.1, HX.out.2.1.trans HV.out.2.1 (fun q e => e.elim .inl (fun e => .inr (.inr e))) (fun q _ e => e.elim .inl (fun e => .inr (.inl e))), by rcases HV.out.2.2 with e | ⟨k, e, hk⟩; exact .inl e; exact .inr ⟨k, e, by omega⟩, H3.out.2.2.2.2⟩
    · rw [if_neg h8] at b8
      have H8 := Lib.hid (show decide (v / 8 % 2 = 1) = false from by simp [h8])
      clear h8
      cases hbm : b.mic with
      | true =>
        have HBM := Lib.hid hbm
        have c50m : w2.cell? ⟨g, 65550, none⟩ = some (.bool true) := by rw [← hbm]; exact c50
        clear c50 hbm
        go_upto_region 6 with fail
        have HZ3 := Lib.hid (show BdAt (w2.setCell ⟨g, 65550, none⟩ (.bool false)) base g { b with bo := v % 8, spk := false, mic := false } al es A E ∧ Ch w (w2.setCell ⟨g, 65550, none⟩ (.bool false)) (fun k => k = g) ∧ (w2.setCell ⟨g, 65550, none⟩ (.bool false)).heap.size = w.heap.size from ⟨HZ.out.1.put (set_mic _), HZ.out.2.1.trans (Ch.of_grown (φ := fun k => k = g) (grown_cell _ _ _ _) (fun k e => by injection e with e; exact e.symm)) (fun _ e => e) (fun _ _ e => e), by have := HZ.out.2.2; simpa [World.setCell] using this⟩)
        clear c50m f50
        generalize (w2.setCell ⟨g, 65550, none⟩ (.bool false)) = w3 at *
        obtain ⟨EA, en, ec, hEs⟩ : ∃ x n c, E = .slice x n c := by
          rcases HZ3.out.1.edges.2 with ⟨e, _⟩ | ⟨g', cap, cur, e, _⟩
          · exact ⟨none, 0, 0, e⟩
          · exact ⟨_, _, cap, e⟩
        subst hEs
        have cE := HZ3.out.1.bd.at_ (i := 65553) (by decide) bd_E
        have ct : w3.cell? ⟨g, 65547, none⟩ = some (.int .u64 b.t) := HZ3.out.1.bd.at_ (i := 65547) (by decide) bd_t
        have hea := own_blk_ne HZ3.out.1.edges HZ3.out.1.bd (by decide)
        have hae := own_types_ne HZ3.out.1.edges HZ3.out.1.acts (by decide)
        have HNE := Lib.hid (And.intro hea hae)
        clear hea hae
        refine wp_region_held_drew (S := fun w' => w'.cell? ⟨g, 65547, none⟩ = some (.int .u64 b.t)) (by kernel_rfl) ?_ (fun hHeld => ?_)
        · exact ct
        have HW := Lib.hid (show BdAt w3.drew base g { b with bo := v % 8, spk := false, mic := false } al es A (.slice EA en ec) ∧ Ch w w3.drew (fun k => k = g ∨ (Value.slice EA en ec).ownBlock = some k) ∧ w3.drew.heap.size = w.heap.size from ⟨⟨HZ3.out.1.bd, HZ3.out.1.acts, HZ3.out.1.edges⟩, HZ3.out.2.1.trans (Ch.refl w3 (fun _ => False)) (χ := fun k => k = g ∨ (Value.slice EA en ec).ownBlock = some k) (fun _ e => .inl e) (fun _ _ e => e.elim) |> fun h => ⟨h.os, h.tape, h.output, h.size, h.block⟩, HZ3.out.2.2⟩)
        have cEW : w3.drew.cell? ⟨g, 65553, none⟩ = some (.slice EA en ec) := cE
        have ctW : w3.drew.cell? ⟨g, 65547, none⟩ = some (.int .u64 b.t) := ct
        clear cE ct HZ HZ3
        generalize w3.drew = W at *
        refine wpAnyH_take (i := 0) (oi := _) (v := ?_) (by simp only [List.getElem?_toArray, List.getElem?_cons_succ, List.getElem?_cons_zero]; rfl) (by kernel_rfl) (by kernel_rfl) (by kernel_rfl) (by intro _ _ _ h; exact h) (Or.inl ⟨by rfl, ?_⟩) (by assumption) ?_
        rotate_left
        · intro w hSw
          try dsimp only at hSw
          go_simp
          try with_reducible rfl
        try simp only [Act.put, List.setIfInBounds_toArray, List.set_cons_zero, List.set_cons_succ]
        refine wpAnyH_take (i := 1) (oi := _) (v := ?_) (by simp only [List.getElem?_toArray, List.getElem?_cons_succ, List.getElem?_cons_zero]; rfl) (by kernel_rfl) (by kernel_rfl) (by kernel_rfl) (by intro _ _ _ h; exact h) (Or.inl ⟨by rfl, ?_⟩) (by assumption) ?_
        rotate_left
        · intro w hSw
          try dsimp only at hSw
          go_simp
          try with_reducible rfl
        try simp only [Act.put, List.setIfInBounds_toArray, List.set_cons_zero, List.set_cons_succ]
        refine wpAnyH_take (i := 2) (oi := _) (v := ?_) (by simp only [List.getElem?_toArray, List.getElem?_cons_succ, List.getElem?_cons_zero]; rfl) (by kernel_rfl) (by kernel_rfl) (by kernel_rfl) (by intro _ _ _ h; exact h) (Or.inl ⟨by rfl, ?_⟩) (by assumption) ?_
        rotate_left
        · intro w hSw
          try dsimp only at hSw
          go_simp
          try with_reducible rfl
        try simp only [Act.put, List.setIfInBounds_toArray, List.set_cons_zero, List.set_cons_succ]
        refine wpAnyH_take (i := 3) (oi := _) (v := ?_) (by simp only [List.getElem?_toArray, List.getElem?_cons_succ, List.getElem?_cons_zero]; rfl) (by kernel_rfl) (by kernel_rfl) (by kernel_rfl) (by intro _ _ _ h; exact h) (Or.inl ⟨by rfl, ?_⟩) (by assumption) ?_
        rotate_left
        · intro w hSw
          try dsimp only at hSw
          go_simp
          try with_reducible rfl
        try simp only [Act.put, List.setIfInBounds_toArray, List.set_cons_zero, List.set_cons_succ]
        refine wpAnyH_take (i := 5) (oi := _) (v := ?_) (by simp only [List.getElem?_toArray, List.getElem?_cons_succ, List.getElem?_cons_zero]; rfl) (by kernel_rfl) (by kernel_rfl) (by kernel_rfl) (by intro _ _ _ h; exact h) (Or.inl ⟨by rfl, ?_⟩) (by assumption) ?_
        rotate_left
        · intro w hSw
          try dsimp only at hSw
          go_simp
          try with_reducible rfl
        try simp only [Act.put, List.setIfInBounds_toArray, List.set_cons_zero, List.set_cons_succ]
        refine wpAnyH_take (i := 6) (oi := _) (v := ?_) (by simp only [List.getElem?_toArray, List.getElem?_cons_succ, List.getElem?_cons_zero]; rfl) (by kernel_rfl) (by kernel_rfl) (by kernel_rfl) (by intro _ _ _ h; exact h) (Or.inl ⟨by rfl, ?_⟩) (by assumption) ?_
        rotate_left
        · intro w hSw
          try dsimp only at hSw
          go_simp
          try with_reducible rfl
        try simp only [Act.put, List.setIfInBounds_toArray, List.set_cons_zero, List.set_cons_succ]
        refine wpAnyH_take (i := 7) (oi := _) (v := ?_) (by simp only [List.getElem?_toArray, List.getElem?_cons_succ, List.getElem?_cons_zero]; rfl) (by kernel_rfl) (by kernel_rfl) (by kernel_rfl) (by intro _ _ _ h; exact h) (Or.inl ⟨by rfl, ?_⟩) (by assumption) ?_
        rotate_left
        · intro w hSw
          try dsimp only at hSw
          go_simp
          try with_reducible rfl
        try simp only [Act.put, List.setIfInBounds_toArray, List.set_cons_zero, List.set_cons_succ]
        refine wpAnyH_take (i := 8) (oi := _) (v := ?_) (by simp only [List.getElem?_toArray, List.getElem?_cons_succ, List.getElem?_cons_zero]; rfl) (by kernel_rfl) (by kernel_rfl) (by kernel_rfl) (by intro _ _ _ h; exact h) (Or.inl ⟨by rfl, ?_⟩) (by assumption) ?_
        rotate_left
        · intro w hSw
          try dsimp only at hSw
          go_simp
          try with_reducible rfl
        try simp only [Act.put, List.setIfInBounds_toArray, List.set_cons_zero, List.set_cons_succ]
        refine wpAnyH_ready (rs := [4, 9]) (by kernel_rfl) (by simp) ?_
        refine AllReadyH.cons (o := _) (by simp only [List.getElem?_toArray, List.getElem?_cons_succ, List.getElem?_cons_zero]; rfl) (fun K hK => ?_) (AllReadyH.cons (o := _) (by simp only [List.getElem?_toArray, List.getElem?_cons_succ, List.getElem?_cons_zero]; rfl) (fun K hK => ?_) AllReadyH.nil)
        · go_simp
          refine hK.out _ _ ?_ (fun hHeld => ?_)
          · exact ctW
          clear hK K
          try simp only [Act.put, List.setIfInBounds_toArray, List.set_cons_zero, List.set_cons_succ]
          refine wpAnyH_ready (rs := [9]) (by kernel_rfl) (by simp) ?_
          refine AllReadyH.cons (o := _) (by simp only [List.getElem?_toArray, List.getElem?_cons_succ, List.getElem?_cons_zero]; rfl) (fun K hK => ?_) AllReadyH.nil
          have ctA : (W.alloc (.cells #[.int .u64 b.t] 32)).cell? ⟨g, 65547, none⟩ = some (.int .u64 b.t) := alloc_of ctW
          have cEA : (W.alloc (.cells #[.int .u64 b.t] 32)).cell? ⟨g, 65553, none⟩ = some (.slice EA en ec) := alloc_of cEW
          go_simp
          refine hK.out _ _ ?_ (fun hHeld => ?_)
          · exact ctA
          clear hK K
          try simp only [Act.put, List.setIfInBounds_toArray, List.set_cons_zero, List.set_cons_succ]
          refine wpAnyH_ready (rs := [10]) (by kernel_rfl) (by simp) ?_
          refine AllReadyH.cons (o := _) (by simp only [List.getElem?_toArray, List.getElem?_cons_succ, List.getElem?_cons_zero]; rfl) (fun K hK => ?_) AllReadyH.nil
          have HC := Lib.hid (show Reads (W.alloc (.cells #[.int .u64 b.t] 32)) (W.alloc (.cells #[.int .u64 b.t] 32)).heap.size 1 (some ⟨W.heap.size, 0, none⟩) 1 [.int .u64 b.t] ∧ es.length + 1 ≤ maxLen ∧ (es.length + 1) * 8 ≤ 140737488355328 ∧ base ≤ (W.alloc (.cells #[.int .u64 b.t] 32)).heap.size from ⟨⟨rfl, fun _ => ⟨_, rfl, by simp, lit_cells W [.int .u64 b.t] 32⟩⟩, by unfold maxLen; omega, by omega, by have := HW.out.2.2; simp; omega⟩)
          have hown9 := HW.out.1.edges.alloc (.cells #[.int .u64 b.t] 32)
          refine step_append_any _ (by rfl) _ _ _ (by rfl) base 32 i1 (.int .u64 0) 1 8 Try.underlying34 hj hy0 hy1 hy2 rfl (by decide) (.slice EA en ec) es.length _ (by rfl) hown9 _ (some ⟨W.heap.size, 0, none⟩) 1 1 [.int .u64 b.t] (by rfl) HC.out.1 (by simp [Value.oneCell']) HC.out.2.1 HC.out.2.2.1 HC.out.2.2.2 ?_
          intro v3 w4 own3 hg3 hv3
          have hv9 := hv3
          obtain ⟨A3, c3, rfl⟩ := own_slice own3
          have hne3 : (some g : Option Nat) ≠ (Value.slice EA en ec).ownBlock := fun e => HNE.out.1 e.symm
          have hB3 : BdIs w4 g { b with bo := v % 8, spk := false, mic := false } A (.slice EA en ec) := Blk.grown (Blk.alloc HW.out.1.bd _) hg3 hne3
          have hA3 := (HW.out.1.acts.alloc (.cells #[.int .u64 b.t] 32)).kept hg3 (by rcases he : A.ownBlock with _ | k; exact .inl rfl; exact .inr (fun e => HNE.out.2 k e.symm he))
          have hch3 : Ch w w4 (fun k => k = g ∨ (Value.slice EA en ec).ownBlock = some k) := (HW.out.2.1.trans (Ch.of_below (φ := fun _ => False) (w := W) ((Below.refl _ _).alloc (Nat.le_refl _) _)) (χ := fun k => k = g ∨ (Value.slice EA en ec).ownBlock = some k) (fun _ h => h) (fun _ _ h => h.elim)).trans (Ch.of_grown (φ := fun k => (Value.slice EA en ec).ownBlock = some k) hg3 (fun k e => e)) (fun _ h => h) (fun _ _ h => .inr h)
          have ct3 : w4.cell? ⟨g, 65547, none⟩ = some (.int .u64 b.t) := hB3.at_ (by decide) bd_t
          refine hK.out _ _ ?_ (fun hHeld => ?_)
          · exact ct3
          clear hK K
          try simp only [Act.put, List.setIfInBounds_toArray, List.set_cons_zero, List.set_cons_succ]
          have H3 := Lib.hid (show BdIs w4 g { b with bo := v % 8, spk := false, mic := false } A (.slice EA en ec) ∧ w4.ownsRow base 72 4 A al.length (actV al) ∧ w4.ownsRow base 32 1 (.slice A3 (es.length + 1) c3) (es.length + 1) (es.map (Value.int .u64) ++ [.int .u64 b.t]) ∧ Ch w w4 (fun k => k = g ∨ (Value.slice EA en ec).ownBlock = some k) ∧ NewBlk w (.slice EA en ec) (.slice A3 (es.length + 1) c3) from ⟨hB3, hA3, own3, hch3, by
            rcases hv9 with h | h
            · exact .inl h
            · exact .inr ⟨_, h, by have := HW.out.2.2; simp; omega⟩⟩)
          clear own3 hg3 hv3 hv9 hB3 hA3 hch3 hown9 hne3
          have dE : w4.cell? ⟨g, 65553, none⟩ = some (.slice EA en ec) := H3.out.1.at_ (by decide) bd_E
          have eE : w4.frozen? ⟨g, 65553, none⟩ = false := H3.out.1.fz _
          refine wpAnyH_take (i := 11) (oi := _) (v := ?_) (by simp only [List.getElem?_toArray, List.getElem?_cons_succ, List.getElem?_cons_zero]; rfl) (by kernel_rfl) (by kernel_rfl) (by kernel_rfl) (by intro _ _ _ h; exact h) (Or.inl ⟨by rfl, ?_⟩) (by assumption) ?_
          rotate_left
          · intro w hSw
            try dsimp only at hSw
            go_simp
            try with_reducible rfl
          try simp only [Act.put, List.setIfInBounds_toArray, List.set_cons_zero, List.set_cons_succ]
          refine wpAnyH_take (i := 12) (oi := _) (v := ?_) (by simp only [List.getElem?_toArray, List.getElem?_cons_succ, List.getElem?_cons_zero]; rfl) (by kernel_rfl) (by kernel_rfl) (by kernel_rfl) (by intro _ _ _ h; exact h) (Or.inl ⟨by rfl, ?_⟩) (by assumption) ?_
          rotate_left
          · intro w hSw
            try dsimp only at hSw
            go_simp
            try with_reducible rfl
          try simp only [Act.put, List.setIfInBounds_toArray, List.set_cons_zero, List.set_cons_succ]
          refine wpAnyH_ready (rs := [13]) (by kernel_rfl) (by simp) ?_
          refine AllReadyH.cons (o := _) (by simp only [List.getElem?_toArray, List.getElem?_cons_succ, List.getElem?_cons_zero]; rfl) (fun K hK => ?_) AllReadyH.nil
          go_simp
          refine hK.out _ _ ?_ (fun hHeld => ?_)
          · exact (World.cell?_setCell_other _ _ _ _ (by intro e; injection e with _ e; exact absurd e (by decide))).trans ct3
          clear hK K
          try simp only [Act.put, List.setIfInBounds_toArray, List.set_cons_zero, List.set_cons_succ]
          refine wpAnyH_done (by kernel_rfl) ?_ _
          clear dE eE ct3
          have hal := own_blk_ne H3.out.2.1 H3.out.1 (by decide)
          have hel := own_blk_ne H3.out.2.2.1 H3.out.1 (by decide)
          have hG := grown_cell w4 g 65553 (.slice A3 (es.length + 1) c3)
          have HX := Lib.hid (show BdAt (w4.setCell ⟨g, 65553, none⟩ (.slice A3 (es.length + 1) c3)) base g { b with bo := v % 8, spk := false, mic := false } al (es ++ [b.t]) A (.slice A3 (es.length + 1) c3) ∧ Ch w (w4.setCell ⟨g, 65553, none⟩ (.slice A3 (es.length + 1) c3)) (fun k => k = g ∨ (Value.slice EA en ec).ownBlock = some k) ∧ base ≤ (w4.setCell ⟨g, 65553, none⟩ (.slice A3 (es.length + 1) c3)).heap.size from ⟨⟨H3.out.1.put (set_E _), H3.out.2.1.kept hG (.inr hal), by rw [List.map_append, List.length_append]; exact H3.out.2.2.1.kept hG (.inr hel)⟩, H3.out.2.2.2.1.trans (Ch.of_grown (φ := fun k => k = g) hG (fun k e => by injection e with e; exact e.symm)) (fun _ h => h) (fun _ _ h => .inl h), by have := H3.out.2.2.2.1.size; simp [World.setCell]; omega⟩)
          clear hG hal hel
          generalize (w4.setCell ⟨g, 65553, none⟩ (.slice A3 (es.length + 1) c3)) = w5 at *
          have hac := act_any w5 base g _ al _ A _ true port v HX.out.1 hn HX.out.2.2
          go_wp2_with fail
          refine hac.mono ?_
          rintro x w6 ⟨u, A', rfl, h1, h2, h3⟩
          clear hac
          have HV := Lib.hid (And.intro h1 (And.intro h2 h3))
          clear h1 h2 h3
          go_wp2
          go_end0
          have hbE : ({ b with bo := v % 8, spk := false, mic := false } : Bd) = outB b v := by unfold outB; rw [H16.out, H8.out]
          have heE : edgeS b es v = es ++ [b.t] := by unfold edgeS; rw [H8.out, HBM.out]; rfl
          have hws := HX.out.2.1.size
          exact ⟨_, A', _, rfl, by rw [heE, ← hbE]; exact HV.out.1, HX.out.2.1.trans HV.out.2.1 (fun q e => e.elim .inl (fun e => .inr (.inr e))) (fun q _ e => e.elim .inl (fun e => .inr (.inl e))), by rcases HV.out.2.2 with e | ⟨k, e, hk⟩; exact .inl e; exact .inr ⟨k, e, by omega⟩, H3.out.2.2.2.2⟩
        · have ctA : (W.alloc (.cells #[.int .u64 b.t] 32)).cell? ⟨g, 65547, none⟩ = some (.int .u64 b.t) := alloc_of ctW
          have cEA : (W.alloc (.cells #[.int .u64 b.t] 32)).cell? ⟨g, 65553, none⟩ = some (.slice EA en ec) := alloc_of cEW
          go_simp
          refine hK.out _ _ ?_ (fun hHeld => ?_)
          · exact ctA
          clear hK K
          try simp only [Act.put, List.setIfInBounds_toArray, List.set_cons_zero, List.set_cons_succ]
          refine wpAnyH_ready (rs := [4]) (by kernel_rfl) (by simp) ?_
          refine AllReadyH.cons (o := _) (by simp only [List.getElem?_toArray, List.getElem?_cons_succ, List.getElem?_cons_zero]; rfl) (fun K hK => ?_) AllReadyH.nil
          go_simp
          refine hK.out _ _ ?_ (fun hHeld => ?_)
          · exact ctA
          clear hK K
          try simp only [Act.put, List.setIfInBounds_toArray, List.set_cons_zero, List.set_cons_succ]
          refine wpAnyH_ready (rs := [10]) (by kernel_rfl) (by simp) ?_
          refine AllReadyH.cons (o := _) (by simp only [List.getElem?_toArray, List.getElem?_cons_succ, List.getElem?_cons_zero]; rfl) (fun K hK => ?_) AllReadyH.nil
          have HC := Lib.hid (show Reads (W.alloc (.cells #[.int .u64 b.t] 32)) (W.alloc (.cells #[.int .u64 b.t] 32)).heap.size 1 (some ⟨W.heap.size, 0, none⟩) 1 [.int .u64 b.t] ∧ es.length + 1 ≤ maxLen ∧ (es.length + 1) * 8 ≤ 140737488355328 ∧ base ≤ (W.alloc (.cells #[.int .u64 b.t] 32)).heap.size from ⟨⟨rfl, fun _ => ⟨_, rfl, by simp, lit_cells W [.int .u64 b.t] 32⟩⟩, by unfold maxLen; omega, by omega, by have := HW.out.2.2; simp; omega⟩)
          have hown9 := HW.out.1.edges.alloc (.cells #[.int .u64 b.t] 32)
          refine step_append_any _ (by rfl) _ _ _ (by rfl) base 32 i1 (.int .u64 0) 1 8 Try.underlying34 hj hy0 hy1 hy2 rfl (by decide) (.slice EA en ec) es.length _ (by rfl) hown9 _ (some ⟨W.heap.size, 0, none⟩) 1 1 [.int .u64 b.t] (by rfl) HC.out.1 (by simp [Value.oneCell']) HC.out.2.1 HC.out.2.2.1 HC.out.2.2.2 ?_
          intro v3 w4 own3 hg3 hv3
          have hv9 := hv3
          obtain ⟨A3, c3, rfl⟩ := own_slice own3
          have hne3 : (some g : Option Nat) ≠ (Value.slice EA en ec).ownBlock := fun e => HNE.out.1 e.symm
          have hB3 : BdIs w4 g { b with bo := v % 8, spk := false, mic := false } A (.slice EA en ec) := Blk.grown (Blk.alloc HW.out.1.bd _) hg3 hne3
          have hA3 := (HW.out.1.acts.alloc (.cells #[.int .u64 b.t] 32)).kept hg3 (by rcases he : A.ownBlock with _ | k; exact .inl rfl; exact .inr (fun e => HNE.out.2 k e.symm he))
          have hch3 : Ch w w4 (fun k => k = g ∨ (Value.slice EA en ec).ownBlock = some k) := (HW.out.2.1.trans (Ch.of_below (φ := fun _ => False) (w := W) ((Below.refl _ _).alloc (Nat.le_refl _) _)) (χ := fun k => k = g ∨ (Value.slice EA en ec).ownBlock = some k) (fun _ h => h) (fun _ _ h => h.elim)).trans (Ch.of_grown (φ := fun k => (Value.slice EA en ec).ownBlock = some k) hg3 (fun k e => e)) (fun _ h => h) (fun _ _ h => .inr h)
          have ct3 : w4.cell? ⟨g, 65547, none⟩ = some (.int .u64 b.t) := hB3.at_ (by decide) bd_t
          refine hK.out _ _ ?_ (fun hHeld => ?_)
          · exact ct3
          clear hK K
          try simp only [Act.put, List.setIfInBounds_toArray, List.set_cons_zero, List.set_cons_succ]
          have H3 := Lib.hid (show BdIs w4 g { b with bo := v % 8, spk := false, mic := false } A (.slice EA en ec) ∧ w4.ownsRow base 72 4 A al.length (actV al) ∧ w4.ownsRow base 32 1 (.slice A3 (es.length + 1) c3) (es.length + 1) (es.map (Value.int .u64) ++ [.int .u64 b.t]) ∧ Ch w w4 (fun k => k = g ∨ (Value.slice EA en ec).ownBlock = some k) ∧ NewBlk w (.slice EA en ec) (.slice A3 (es.length + 1) c3) from ⟨hB3, hA3, own3, hch3, by
            rcases hv9 with h | h
            · exact .inl h
            · exact .inr ⟨_, h, by have := HW.out.2.2; simp; omega⟩⟩)
          clear own3 hg3 hv3 hv9 hB3 hA3 hch3 hown9 hne3
          have dE : w4.cell? ⟨g, 65553, none⟩ = some (.slice EA en ec) := H3.out.1.at_ (by decide) bd_E
          have eE : w4.frozen? ⟨g, 65553, none⟩ = false := H3.out.1.fz _
          refine wpAnyH_take (i := 11) (oi := _) (v := ?_) (by simp only [List.getElem?_toArray, List.getElem?_cons_succ, List.getElem?_cons_zero]; rfl) (by kernel_rfl) (by kernel_rfl) (by kernel_rfl) (by intro _ _ _ h; exact h) (Or.inl ⟨by rfl, ?_⟩) (by assumption) ?_
          rotate_left
          · intro w hSw
            try dsimp only at hSw
            go_simp
            try with_reducible rfl
          try simp only [Act.put, List.setIfInBounds_toArray, List.set_cons_zero, List.set_cons_succ]
          refine wpAnyH_take (i := 12) (oi := _) (v := ?_) (by simp only [List.getElem?_toArray, List.getElem?_cons_succ, List.getElem?_cons_zero]; rfl) (by kernel_rfl) (by kernel_rfl) (by kernel_rfl) (by intro _ _ _ h; exact h) (Or.inl ⟨by rfl, ?_⟩) (by assumption) ?_
          rotate_left
          · intro w hSw
            try dsimp only at hSw
            go_simp
            try with_reducible rfl
          try simp only [Act.put, List.setIfInBounds_toArray, List.set_cons_zero, List.set_cons_succ]
          refine wpAnyH_ready (rs := [13]) (by kernel_rfl) (by simp) ?_
          refine AllReadyH.cons (o := _) (by simp only [List.getElem?_toArray, List.getElem?_cons_succ, List.getElem?_cons_zero]; rfl) (fun K hK => ?_) AllReadyH.nil
          go_simp
          refine hK.out _ _ ?_ (fun hHeld => ?_)
          · exact (World.cell?_setCell_other _ _ _ _ (by intro e; injection e with _ e; exact absurd e (by decide))).trans ct3
          clear hK K
          try simp only [Act.put, List.setIfInBounds_toArray, List.set_cons_zero, List.set_cons_succ]
          refine wpAnyH_done (by kernel_rfl) ?_ _
          clear dE eE ct3
          have hal := own_blk_ne H3.out.2.1 H3.out.1 (by decide)
          have hel := own_blk_ne H3.out.2.2.1 H3.out.1 (by decide)
          have hG := grown_cell w4 g 65553 (.slice A3 (es.length + 1) c3)
          have HX := Lib.hid (show BdAt (w4.setCell ⟨g, 65553, none⟩ (.slice A3 (es.length + 1) c3)) base g { b with bo := v % 8, spk := false, mic := false } al (es ++ [b.t]) A (.slice A3 (es.length + 1) c3) ∧ Ch w (w4.setCell ⟨g, 65553, none⟩ (.slice A3 (es.length + 1) c3)) (fun k => k = g ∨ (Value.slice EA en ec).ownBlock = some k) ∧ base ≤ (w4.setCell ⟨g, 65553, none⟩ (.slice A3 (es.length + 1) c3)).heap.size from ⟨⟨H3.out.1.put (set_E _), H3.out.2.1.kept hG (.inr hal), by rw [List.map_append, List.length_append]; exact H3.out.2.2.1.kept hG (.inr hel)⟩, H3.out.2.2.2.1.trans (Ch.of_grown (φ := fun k => k = g) hG (fun k e => by injection e with e; exact e.symm)) (fun _ h => h) (fun _ _ h => .inl h), by have := H3.out.2.2.2.1.size; simp [World.setCell]; omega⟩)
          clear hG hal hel
          generalize (w4.setCell ⟨g, 65553, none⟩ (.slice A3 (es.length + 1) c3)) = w5 at *
          have hac := act_any w5 base g _ al _ A _ true port v HX.out.1 hn HX.out.2.2
          go_wp2_with fail
          refine hac.mono ?_
          rintro x w6 ⟨u, A', rfl, h1, h2, h3⟩
          clear hac
          have HV := Lib.hid (And.intro h1 (And.intro h2 h3))
          clear h1 h2 h3
          go_wp2
          go_end0
          have hbE : ({ b with bo := v % 8, spk := false, mic := false } : Bd) = outB b v := by unfold outB; rw [H16.out, H8.out]
          have heE : edgeS b es v = es ++ [b.t] := by unfold edgeS; rw [H8.out, HBM.out]; rfl
          have hws := HX.out.2.1.size
          exact ⟨_, A', _, rfl, by rw [heE, ← hbE]; exact HV.out.1, HX.out.2.1.trans HV.out.2.1 (fun q e => e.elim .inl (fun e => .inr (.inr e))) (fun q _ e => e.elim .inl (fun e => .inr (.inl e))), by rcases HV.out.2.2 with e | ⟨k, e, hk⟩; exact .inl e; exact .inr ⟨k, e, by omega⟩, H3.out.2.2.2.2⟩
      | false =>
        have HBM := Lib.hid hbm
        have c50m : w2.cell? ⟨g, 65550, none⟩ = some (.bool false) := by rw [← hbm]; exact c50
        clear c50 hbm
        have hac := act_any w2 base g _ al es A E true port v HZ.out.1 hn (by rw [HZ.out.2.2]; exact hb)
        clear f50
        go_upto_region 7 with fail
        clear c50m
        go_wp2_with fail
        refine hac.mono ?_
        rintro x w5 ⟨u, A', rfl, h1, h2, h3⟩
        clear hac
        have HX := Lib.hid (And.intro h1 (And.intro h2 h3))
        clear h1 h2 h3
        go_wp2
        go_end0
        have hbE : ({ b with bo := v % 8, spk := false } : Bd) = outB b v := by unfold outB; rw [H16.out, H8.out, ← HBM.out]
        have heE : edgeS b es v = es := by unfold edgeS; rw [H8.out, HBM.out]; rfl
        exact ⟨_, A', E, rfl, by rw [heE, ← hbE]; exact HX.out.1, HZ.out.2.1.trans HX.out.2.1 (fun q e => .inl e) (fun q _ e => e.elim .inl (fun e => .inr (.inl e))), by rcases HX.out.2.2 with e | ⟨k, e, hk⟩; exact .inl e; exact .inr ⟨k, e, by rw [HZ.out.2.2] at hk; exact hk⟩, .inl rfl⟩
end Go.Proofs.Ytfcnlgkaejkneaa
