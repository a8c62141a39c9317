/- Layer 11: the document's In. -/
import Derived.Test.YtfcnlgkaejkneaaBd14
import Derived.Test.YtfcnlgkaejkneaaKeys8
namespace Go.Proofs.Ytfcnlgkaejkneaa
open Go.RowKit

/-- the document's board, its rows -/
structure DcAt (w : World) (base g : Nat) (b : Bd) (ph : Int) (zs : List Int) (al : List ActD) (es : List Int) (D A E : Value) : Prop where
  bd : DcIs w g b ph D A E
  down : w.ownsRow base 3 1 D zs.length (zs.map (Value.int .i64))
  acts : w.ownsRow base 72 4 A al.length (actV al)
  edges : w.ownsRow base 32 1 E es.length (es.map (Value.int .u64))
theorem DcAt.kept {w w' : World} {base g : Nat} {b : Bd} {ph : Int} {zs : List Int} {al : List ActD} {es : List Int} {D A E : Value} (h : DcAt w base g b ph zs al es D A E) (hb : Below w.heap.size w w') : DcAt w' base g b ph zs al es D A E :=
  ⟨Blk.below h.bd hb (Blk.lt h.bd), own_kept h.down hb, own_kept h.acts hb, own_kept h.edges hb⟩
set_option maxRecDepth 100000 in
set_option maxHeartbeats 8000000 in
theorem dIn_odd (w : World) (g : Nat) (b : Bd) (ph : Int) (D A E : Value) (port : Int) (q0 : 0 ≤ port) (q1 : port ≤ 65535) (ho : port % 2 = 1) (h : DcIs w g b ph D A E) (hfr : b.fr = frD b ph) (t0 : 0 ≤ b.t) (t1 : b.t ≤ 1000000000) (p0 : 0 ≤ ph) (p1 : ph ≤ 69887) :
    Calls Try.prog 38 #[.pointer (some ⟨g, 0, none⟩), .int .u16 port] w fun x w' => x = .returned (.int .u8 (inV b port)) ∧ Below w.heap.size w w' := by
  have hl := Blk.lt h
  have cf := h.at_ (i := 0) (by decide) dc_flat
  obtain ⟨f0, f1⟩ := frD_bd b ph
  have hdf := dFrame_any w g b ph D A E h t0 t1 p0 p1
  rw [← hfr] at hdf f0 f1
  have htm : port.tmod 2 = 1 := by rw [Int.tmod_eq_emod_of_nonneg q0, ho]
  have HO := Lib.hid ho
  have HH := Lib.hid h
  clear h hfr t0 t1 p0 p1
  go_enter Try.func38, Try.ntmps38
  go_wp2_with fail
  refine hdf.mono ?_
  rintro x w2 ⟨rfl, hb2⟩
  clear hdf ho htm cf
  have h2 : DcIs w2 g b ph D A E := Blk.below HH.out hb2 hl
  have HB := Lib.hid hb2
  clear hb2 HH
  have hft := fetchedR_any b.fr w2 (by omega) (by omega)
  cases hh : hitS b.fr with
  | true =>
    obtain ⟨_, _, a0, a1⟩ := place_bd hh
    obtain ⟨F, hF⟩ : ∃ F : Nat, fetchS b.fr = (F : Int) := ⟨(fetchS b.fr).toNat, by omega⟩
    rw [hh, hF] at hft
    have cM : w2.cell? ⟨g, 1 + F, none⟩ = some (.int .u8 (b.M F)) := h2.at_ (i := 1 + F) (by omega) (by rw [Nat.add_comm]; exact dc_M (by omega))
    have hF0 : (0 : Int) ≤ (F : Int) := Int.natCast_nonneg _
    have hF1 : (F : Int) < 65536 := by omega
    have HV := Lib.hid (show inV b port = b.M F from by unfold inV; rw [if_pos HO.out, if_pos hh, hF, Int.toNat_natCast])
    clear h2 hh hF a0 a1
    go_wp2_with fail
    refine hft.mono ?_
    rintro x w' ⟨rfl, rfl⟩
    clear hft
    go_wp2
    go_ret
    exact ⟨ret_int HV.out.symm, HB.out⟩
  | false =>
    rw [hh] at hft
    have HV := Lib.hid (show inV b port = 255 from by unfold inV; rw [if_pos HO.out, if_neg (by rw [hh]; decide)])
    clear h2 hh
    go_wp2_with fail
    refine hft.mono ?_
    rintro x w' ⟨rfl, rfl⟩
    clear hft
    go_wp2
    go_ret
    exact ⟨ret_int HV.out.symm, HB.out⟩
set_option maxRecDepth 100000 in
set_option maxHeartbeats 8000000 in
theorem dIn_even (w : World) (base g : Nat) (b : Bd) (ph : Int) (zs : List Int) (al : List ActD) (es : List Int) (D A E : Value) (port : Int) (q0 : 0 ≤ port) (q1 : port ≤ 65535) (he : port % 2 = 0) (h : DcAt w base g b ph zs al es D A E) (hS : Same10 b.K zs) (hz : zs.length ≤ 100000) (hn : al.length < 1000000) (hb : base ≤ w.heap.size) :
    Calls Try.prog 38 #[.pointer (some ⟨g, 0, none⟩), .int .u16 port] w fun x w' => ∃ A', x = .returned (.int .u8 (inV b port)) ∧ DcAt w' base g b ph zs (logS b al false port (inV b port)) es D A' E ∧ Ch w w' (fun k => k = g ∨ A.ownBlock = some k) ∧ NewBlk w A A' := by
  obtain ⟨DA, dc, rfl⟩ := own_slice h.down
  have cf := h.bd.at_ (i := 0) (by decide) dc_flat
  have hov := dOver_any w g b ph _ A E h.bd
  have htm : port.tmod 2 = 0 := by rw [Int.tmod_eq_emod_of_nonneg q0, he]
  have hwq : IntKind.u8.wrap (port / 256) = port / 256 := by simp [IntKind.wrap, IntKind.bits, IntKind.signed]; omega
  obtain ⟨r0, r1⟩ := readS_in hS.1 (port / 256) 8
  have hrs := hS.read (a := port / 256) (by omega) (by omega)
  obtain ⟨R, hR⟩ : ∃ R, R = readS b.K (port / 256) 8 := ⟨_, rfl⟩
  have HV := Lib.hid (show inV b port = R + 160 + (if b.ear = true then 64 else 0) from by unfold inV; rw [if_neg (by omega), hR])
  rw [← hR] at r0 r1 hrs
  clear hR
  have w1 : IntKind.u8.wrap (R + 160) = R + 160 := by simp [IntKind.wrap, IntKind.bits, IntKind.signed]; omega
  have w2 : IntKind.u8.wrap (R + 160 + 64) = R + 160 + 64 := by simp [IntKind.wrap, IntKind.bits, IntKind.signed]; omega
  have HH := Lib.hid h
  clear h hS
  cases hear : b.ear
  · have HV2 := Lib.hid (show inV b port = R + 160 from by rw [HV.out]; simp [hear])
    rw [show inV b port = R + 160 from HV2.out]
    go_enter Try.func38, Try.ntmps38
    go_wp2_with fail
    refine hov.mono ?_
    rintro x wa ⟨rfl, hba⟩
    clear hov cf
    have ha := HH.out.kept hba
    have hpr := dPressed_any wa g b ph _ A E ha.bd
    have HA := Lib.hid (And.intro ha hba)
    clear ha hba he htm
    go_wp2_with fail
    refine hpr.mono ?_
    rintro x wb ⟨rfl, hbb⟩
    clear hpr
    have hB := HA.out.1.kept hbb
    have hrd := readR_any DA zs.length dc zs (port / 256) wb.heap.size wb (Reads.of_own hB.down) hz (by omega) (by omega)
    rw [hrs] at hrd
    have HB := Lib.hid (And.intro hB (bthen HA.out.2 hbb))
    clear hB hbb hrs HA HH
    go_wp2_with fail
    refine hrd.mono ?_
    rintro x w' ⟨rfl, rfl⟩
    clear hrd
    have hle := dLevel_any wb g b ph _ A E HB.out.1.bd
    rw [hear] at hle
    go_wp2_with fail
    refine hle.mono ?_
    rintro x w3 ⟨rfl, hbc⟩
    clear hle
    have h3 := HB.out.1.kept hbc
    have hB3 := bthen HB.out.2 hbc
    have cl := h3.bd.at_ (i := 65542) (by decide) dc_log
    have hs3 := hB3.size
    have hgl := Blk.lt h3.bd
    have hag := own_blk_ne h3.acts h3.bd (by decide)
    have hae := own_types_ne h3.acts h3.edges (by decide)
    have had := own_types_ne h3.acts h3.down (by decide)
    have HH := Lib.hid (And.intro h3 (And.intro hag (And.intro hae (And.intro had hB3))))
    clear hbc HB h3 hag hae had hB3
    clear hear
    cases hlog : b.log
    · rw [hlog] at cl
      have HL := Lib.hid hlog
      clear hlog
      go_wp2
      go_ret
      exact ⟨A, rfl, by unfold logS; rw [HL.out]; exact HH.out.1, Ch.of_below HH.out.2.2.2.2, .inl rfl⟩
    · rw [hlog] at cl
      have HL := Lib.hid hlog
      clear hlog
      obtain ⟨AA, an, ac, hAs⟩ : ∃ x n c, A = .slice x n c := by
        rcases HH.out.1.acts.2 with ⟨e, _⟩ | ⟨g', cap, cur, e, _⟩
        · exact ⟨none, 0, 0, e⟩
        · exact ⟨_, _, cap, e⟩
      subst hAs
      obtain ⟨i1, hj, hy0, hy1, hy2⟩ := info_parts actInfo
      have cA := HH.out.1.bd.at_ (i := 65550) (by decide) dc_A
      have ct : w3.cell? ⟨g, 65537, none⟩ = some (.int .u64 b.t) := HH.out.1.bd.at_ (i := 65537) (by decide) dc_t
      go_upto_region 19 with fail
      refine wp_region_held_drew (S := fun w' => w'.cell? ⟨g, 65537, none⟩ = some (.int .u64 b.t)) (by kernel_rfl) ?_ (fun hHeld => ?_)
      · exact ct
      have HW := Lib.hid (show DcAt w3.drew base g b ph zs al es (.slice DA zs.length dc) (.slice AA an ac) E ∧ Ch w w3.drew (fun k => k = g ∨ (Value.slice AA an ac).ownBlock = some k) ∧ base ≤ w3.drew.heap.size ∧ w.heap.size ≤ w3.drew.heap.size from ⟨⟨HH.out.1.bd, HH.out.1.down, HH.out.1.acts, HH.out.1.edges⟩, ⟨HH.out.2.2.2.2.os, HH.out.2.2.2.2.tape, HH.out.2.2.2.2.output, HH.out.2.2.2.2.size, fun k hk _ => HH.out.2.2.2.2.block k hk⟩, by show base ≤ w3.heap.size; omega, hs3⟩)
      have cAW : w3.drew.cell? ⟨g, 65550, none⟩ = some (.slice AA an ac) := cA
      have ctW : w3.drew.cell? ⟨g, 65537, none⟩ = some (.int .u64 b.t) := ct
      clear cl cA ct
      generalize w3.drew = W at *
      refine wpAnyH_take (i := 0) (oi := _) (v := ?_) (by simp only [List.getElem?_toArray, List.getElem?_cons_succ, List.getElem?_cons_zero]; rfl) (by kernel_rfl) (by kernel_rfl) (by kernel_rfl) (by intro _ _ _ h; exact h) (Or.inl ⟨by rfl, ?_⟩) (by assumption) ?_
      rotate_left
      · intro w hSw
        try dsimp only at hSw
        go_simp
        try with_reducible rfl
      try simp only [Act.put, List.setIfInBounds_toArray, List.set_cons_zero, List.set_cons_succ]
      refine wpAnyH_take (i := 1) (oi := _) (v := ?_) (by simp only [List.getElem?_toArray, List.getElem?_cons_succ, List.getElem?_cons_zero]; rfl) (by kernel_rfl) (by kernel_rfl) (by kernel_rfl) (by intro _ _ _ h; exact h) (Or.inl ⟨by rfl, ?_⟩) (by assumption) ?_
      rotate_left
      · intro w hSw
        try dsimp only at hSw
        go_simp
        try with_reducible rfl
      try simp only [Act.put, List.setIfInBounds_toArray, List.set_cons_zero, List.set_cons_succ]
      refine wpAnyH_take (i := 2) (oi := _) (v := ?_) (by simp only [List.getElem?_toArray, List.getElem?_cons_succ, List.getElem?_cons_zero]; rfl) (by kernel_rfl) (by kernel_rfl) (by kernel_rfl) (by intro _ _ _ h; exact h) (Or.inl ⟨by rfl, ?_⟩) (by assumption) ?_
      rotate_left
      · intro w hSw
        try dsimp only at hSw
        go_simp
        try with_reducible rfl
      try simp only [Act.put, List.setIfInBounds_toArray, List.set_cons_zero, List.set_cons_succ]
      refine wpAnyH_take (i := 3) (oi := _) (v := ?_) (by simp only [List.getElem?_toArray, List.getElem?_cons_succ, List.getElem?_cons_zero]; rfl) (by kernel_rfl) (by kernel_rfl) (by kernel_rfl) (by intro _ _ _ h; exact h) (Or.inl ⟨by rfl, ?_⟩) (by assumption) ?_
      rotate_left
      · intro w hSw
        try dsimp only at hSw
        go_simp
        try with_reducible rfl
      try simp only [Act.put, List.setIfInBounds_toArray, List.set_cons_zero, List.set_cons_succ]
      refine wpAnyH_take (i := 5) (oi := _) (v := ?_) (by simp only [List.getElem?_toArray, List.getElem?_cons_succ, List.getElem?_cons_zero]; rfl) (by kernel_rfl) (by kernel_rfl) (by kernel_rfl) (by intro _ _ _ h; exact h) (Or.inl ⟨by rfl, ?_⟩) (by assumption) ?_
      rotate_left
      · intro w hSw
        try dsimp only at hSw
        go_simp
        try with_reducible rfl
      try simp only [Act.put, List.setIfInBounds_toArray, List.set_cons_zero, List.set_cons_succ]
      refine wpAnyH_take (i := 6) (oi := _) (v := ?_) (by simp only [List.getElem?_toArray, List.getElem?_cons_succ, List.getElem?_cons_zero]; rfl) (by kernel_rfl) (by kernel_rfl) (by kernel_rfl) (by intro _ _ _ h; exact h) (Or.inl ⟨by rfl, ?_⟩) (by assumption) ?_
      rotate_left
      · intro w hSw
        try dsimp only at hSw
        go_simp
        try with_reducible rfl
      try simp only [Act.put, List.setIfInBounds_toArray, List.set_cons_zero, List.set_cons_succ]
      refine wpAnyH_take (i := 7) (oi := _) (v := ?_) (by simp only [List.getElem?_toArray, List.getElem?_cons_succ, List.getElem?_cons_zero]; rfl) (by kernel_rfl) (by kernel_rfl) (by kernel_rfl) (by intro _ _ _ h; exact h) (Or.inl ⟨by rfl, ?_⟩) (by assumption) ?_
      rotate_left
      · intro w hSw
        try dsimp only at hSw
        go_simp
        try with_reducible rfl
      try simp only [Act.put, List.setIfInBounds_toArray, List.set_cons_zero, List.set_cons_succ]
      refine wpAnyH_take (i := 8) (oi := _) (v := ?_) (by simp only [List.getElem?_toArray, List.getElem?_cons_succ, List.getElem?_cons_zero]; rfl) (by kernel_rfl) (by kernel_rfl) (by kernel_rfl) (by intro _ _ _ h; exact h) (Or.inl ⟨by rfl, ?_⟩) (by assumption) ?_
      rotate_left
      · intro w hSw
        try dsimp only at hSw
        go_simp
        try with_reducible rfl
      try simp only [Act.put, List.setIfInBounds_toArray, List.set_cons_zero, List.set_cons_succ]
      refine wpAnyH_take (i := 9) (oi := _) (v := ?_) (by simp only [List.getElem?_toArray, List.getElem?_cons_succ, List.getElem?_cons_zero]; rfl) (by kernel_rfl) (by kernel_rfl) (by kernel_rfl) (by intro _ _ _ h; exact h) (Or.inl ⟨by rfl, ?_⟩) (by assumption) ?_
      rotate_left
      · intro w hSw
        try dsimp only at hSw
        go_simp
        try with_reducible rfl
      try simp only [Act.put, List.setIfInBounds_toArray, List.set_cons_zero, List.set_cons_succ]
      refine wpAnyH_take (i := 10) (oi := _) (v := ?_) (by simp only [List.getElem?_toArray, List.getElem?_cons_succ, List.getElem?_cons_zero]; rfl) (by kernel_rfl) (by kernel_rfl) (by kernel_rfl) (by intro _ _ _ h; exact h) (Or.inl ⟨by rfl, ?_⟩) (by assumption) ?_
      rotate_left
      · intro w hSw
        try dsimp only at hSw
        go_simp
        try with_reducible rfl
      try simp only [Act.put, List.setIfInBounds_toArray, List.set_cons_zero, List.set_cons_succ]
      refine wpAnyH_take (i := 11) (oi := _) (v := ?_) (by simp only [List.getElem?_toArray, List.getElem?_cons_succ, List.getElem?_cons_zero]; rfl) (by kernel_rfl) (by kernel_rfl) (by kernel_rfl) (by intro _ _ _ h; exact h) (Or.inl ⟨by rfl, ?_⟩) (by assumption) ?_
      rotate_left
      · intro w hSw
        try dsimp only at hSw
        go_simp
        try with_reducible rfl
      try simp only [Act.put, List.setIfInBounds_toArray, List.set_cons_zero, List.set_cons_succ]
      refine wpAnyH_ready (rs := [4, 12]) (by kernel_rfl) (by simp) ?_
      refine AllReadyH.cons (o := _) (by simp only [List.getElem?_toArray, List.getElem?_cons_succ, List.getElem?_cons_zero]; rfl) (fun K hK => ?_) (AllReadyH.cons (o := _) (by simp only [List.getElem?_toArray, List.getElem?_cons_succ, List.getElem?_cons_zero]; rfl) (fun K hK => ?_) AllReadyH.nil)
      · go_simp
        refine hK.out _ _ ?_ (fun hHeld => ?_)
        · exact ctW
        clear hK K
        try simp only [Act.put, List.setIfInBounds_toArray, List.set_cons_zero, List.set_cons_succ]
        refine wpAnyH_ready (rs := [12]) (by kernel_rfl) (by simp) ?_
        refine AllReadyH.cons (o := _) (by simp only [List.getElem?_toArray, List.getElem?_cons_succ, List.getElem?_cons_zero]; rfl) (fun K hK => ?_) AllReadyH.nil
        have ctA : (W.alloc (.cells #[.int .u64 b.t, .bool false, .int .u16 port, .int .u8 (R + 160)] 72)).cell? ⟨g, 65537, none⟩ = some (.int .u64 b.t) := alloc_of ctW
        have cAA : (W.alloc (.cells #[.int .u64 b.t, .bool false, .int .u16 port, .int .u8 (R + 160)] 72)).cell? ⟨g, 65550, none⟩ = some (.slice AA an ac) := alloc_of cAW
        go_simp
        refine hK.out _ _ ?_ (fun hHeld => ?_)
        · exact ctA
        clear hK K
        try simp only [Act.put, List.setIfInBounds_toArray, List.set_cons_zero, List.set_cons_succ]
        refine wpAnyH_ready (rs := [13]) (by kernel_rfl) (by simp) ?_
        refine AllReadyH.cons (o := _) (by simp only [List.getElem?_toArray, List.getElem?_cons_succ, List.getElem?_cons_zero]; rfl) (fun K hK => ?_) AllReadyH.nil
        have HC := Lib.hid (show Reads (W.alloc (.cells #[.int .u64 b.t, .bool false, .int .u16 port, .int .u8 (R + 160)] 72)) (W.alloc (.cells #[.int .u64 b.t, .bool false, .int .u16 port, .int .u8 (R + 160)] 72)).heap.size 4 (some ⟨W.heap.size, 0, none⟩) 1 [.int .u64 b.t, .bool false, .int .u16 port, .int .u8 (R + 160)] ∧ al.length + 1 ≤ maxLen ∧ (al.length + 1) * 16 ≤ 140737488355328 ∧ base ≤ (W.alloc (.cells #[.int .u64 b.t, .bool false, .int .u16 port, .int .u8 (R + 160)] 72)).heap.size from ⟨⟨rfl, fun _ => ⟨_, rfl, by simp, lit_cells W [.int .u64 b.t, .bool false, .int .u16 port, .int .u8 (R + 160)] 72⟩⟩, by unfold maxLen; omega, by omega, by have := HW.out.2.2.1; simp; omega⟩)
        have hown9 := HW.out.1.acts.alloc (.cells #[.int .u64 b.t, .bool false, .int .u16 port, .int .u8 (R + 160)] 72)
        refine step_append_any _ (by rfl) _ _ _ (by rfl) base 72 i1 (.agg #[.int .u64 0, .bool false, .int .u16 0, .int .u8 0]) 4 16 Try.underlying33 hj hy0 hy1 hy2 rfl (by decide) (.slice AA an ac) al.length _ (by rfl) hown9 _ (some ⟨W.heap.size, 0, none⟩) 1 1 [.int .u64 b.t, .bool false, .int .u16 port, .int .u8 (R + 160)] (by rfl) HC.out.1 (by simp [Value.oneCell']) HC.out.2.1 HC.out.2.2.1 HC.out.2.2.2 ?_
        intro v3 w4 own3 hg3 hv3
        have hv9 := hv3
        obtain ⟨A3, c3, rfl⟩ := own_slice own3
        have hne3 : (some g : Option Nat) ≠ (Value.slice AA an ac).ownBlock := fun e => HH.out.2.1 e.symm
        have hB3 : DcIs w4 g b ph (.slice DA zs.length dc) (.slice AA an ac) E := Blk.grown (Blk.alloc HW.out.1.bd _) hg3 hne3
        have hE3 := (HW.out.1.edges.alloc (.cells #[.int .u64 b.t, .bool false, .int .u16 port, .int .u8 (R + 160)] 72)).kept hg3 (by rcases he : E.ownBlock with _ | k; exact .inl rfl; exact .inr (fun e => HH.out.2.2.1 k e.symm he))
        have hD3 := (HW.out.1.down.alloc (.cells #[.int .u64 b.t, .bool false, .int .u16 port, .int .u8 (R + 160)] 72)).kept hg3 (by rcases he : (Value.slice DA zs.length dc).ownBlock with _ | k; exact .inl rfl; exact .inr (fun e => HH.out.2.2.2.1 k e.symm he))
        have hch3 : Ch w w4 (fun k => k = g ∨ (Value.slice AA an ac).ownBlock = some k) := (HW.out.2.1.trans (Ch.of_below (φ := fun _ => False) (w := W) ((Below.refl _ _).alloc (Nat.le_refl _) _)) (χ := fun k => k = g ∨ (Value.slice AA an ac).ownBlock = some k) (fun _ h => h) (fun _ _ h => h.elim)).trans (Ch.of_grown (φ := fun k => (Value.slice AA an ac).ownBlock = some k) hg3 (fun k e => e)) (fun _ h => h) (fun _ _ h => .inr h)
        have ct3 : w4.cell? ⟨g, 65537, none⟩ = some (.int .u64 b.t) := hB3.at_ (by decide) dc_t
        refine hK.out _ _ ?_ (fun hHeld => ?_)
        · exact ct3
        clear hK K
        try simp only [Act.put, List.setIfInBounds_toArray, List.set_cons_zero, List.set_cons_succ]
        have H3 := Lib.hid (show DcIs w4 g b ph (.slice DA zs.length dc) (.slice AA an ac) E ∧ w4.ownsRow base 72 4 (.slice A3 (al.length + 1) c3) (al.length + 1) (actV al ++ [.int .u64 b.t, .bool false, .int .u16 port, .int .u8 (R + 160)]) ∧ w4.ownsRow base 32 1 E es.length (es.map (Value.int .u64)) ∧ w4.ownsRow base 3 1 (.slice DA zs.length dc) zs.length (zs.map (Value.int .i64)) ∧ Ch w w4 (fun k => k = g ∨ (Value.slice AA an ac).ownBlock = some k) ∧ NewBlk w (.slice AA an ac) (.slice A3 (al.length + 1) c3) from ⟨hB3, own3, hE3, hD3, hch3, by
          rcases hv9 with h | h
          · exact .inl h
          · exact .inr ⟨_, h, by have := HW.out.2.2.2; simp; omega⟩⟩)
        clear own3 hg3 hv3 hv9 hB3 hE3 hD3 hch3 hown9 hne3
        have dA : w4.cell? ⟨g, 65550, none⟩ = some (.slice AA an ac) := H3.out.1.at_ (by decide) dc_A
        have eA : w4.frozen? ⟨g, 65550, none⟩ = false := H3.out.1.fz _
        refine wpAnyH_take (i := 14) (oi := _) (v := ?_) (by simp only [List.getElem?_toArray, List.getElem?_cons_succ, List.getElem?_cons_zero]; rfl) (by kernel_rfl) (by kernel_rfl) (by kernel_rfl) (by intro _ _ _ h; exact h) (Or.inl ⟨by rfl, ?_⟩) (by assumption) ?_
        rotate_left
        · intro w hSw
          try dsimp only at hSw
          go_simp
          try with_reducible rfl
        try simp only [Act.put, List.setIfInBounds_toArray, List.set_cons_zero, List.set_cons_succ]
        refine wpAnyH_take (i := 15) (oi := _) (v := ?_) (by simp only [List.getElem?_toArray, List.getElem?_cons_succ, List.getElem?_cons_zero]; rfl) (by kernel_rfl) (by kernel_rfl) (by kernel_rfl) (by intro _ _ _ h; exact h) (Or.inl ⟨by rfl, ?_⟩) (by assumption) ?_
        rotate_left
        · intro w hSw
          try dsimp only at hSw
          go_simp
          try with_reducible rfl
        try simp only [Act.put, List.setIfInBounds_toArray, List.set_cons_zero, List.set_cons_succ]
        refine wpAnyH_ready (rs := [16]) (by kernel_rfl) (by simp) ?_
        refine AllReadyH.cons (o := _) (by simp only [List.getElem?_toArray, List.getElem?_cons_succ, List.getElem?_cons_zero]; rfl) (fun K hK => ?_) AllReadyH.nil
        go_simp
        refine hK.out _ _ ?_ (fun hHeld => ?_)
        · exact (World.cell?_setCell_other _ _ _ _ (by intro e; injection e with _ e; exact absurd e (by decide))).trans ct3
        clear hK K
        try simp only [Act.put, List.setIfInBounds_toArray, List.set_cons_zero, List.set_cons_succ]
        refine wpAnyH_done (by kernel_rfl) ?_ _
        clear dA eA ct3
        have hal := own_blk_ne H3.out.2.1 H3.out.1 (by decide)
        have hel := own_blk_ne H3.out.2.2.1 H3.out.1 (by decide)
        have hdl := own_blk_ne H3.out.2.2.2.1 H3.out.1 (by decide)
        have hG := grown_cell w4 g 65550 (.slice A3 (al.length + 1) c3)
        have HX := Lib.hid (show DcAt (w4.setCell ⟨g, 65550, none⟩ (.slice A3 (al.length + 1) c3)) base g b ph zs (al ++ [⟨b.t, false, port, R + 160⟩]) es (.slice DA zs.length dc) (.slice A3 (al.length + 1) c3) E ∧ Ch w (w4.setCell ⟨g, 65550, none⟩ (.slice A3 (al.length + 1) c3)) (fun k => k = g ∨ (Value.slice AA an ac).ownBlock = some k) from ⟨⟨H3.out.1.put (dset_A _), H3.out.2.2.2.1.kept hG (.inr hdl), by rw [actV_snoc, List.length_append]; exact H3.out.2.1.kept hG (.inr hal), H3.out.2.2.1.kept hG (.inr hel)⟩, H3.out.2.2.2.2.1.trans (Ch.of_grown (φ := fun k => k = g) hG (fun k e => by injection e with e; exact e.symm)) (fun _ h => h) (fun _ _ h => .inl h)⟩)
        clear hG hal hel hdl
        generalize (w4.setCell ⟨g, 65550, none⟩ (.slice A3 (al.length + 1) c3)) = w5 at *
        go_wp2
        go_ret
        exact ⟨_, rfl, by unfold logS; rw [if_pos HL.out]; exact HX.out.1, HX.out.2, H3.out.2.2.2.2.2⟩
      · have ctA : (W.alloc (.cells #[.int .u64 b.t, .bool false, .int .u16 port, .int .u8 (R + 160)] 72)).cell? ⟨g, 65537, none⟩ = some (.int .u64 b.t) := alloc_of ctW
        have cAA : (W.alloc (.cells #[.int .u64 b.t, .bool false, .int .u16 port, .int .u8 (R + 160)] 72)).cell? ⟨g, 65550, none⟩ = some (.slice AA an ac) := alloc_of cAW
        go_simp
        refine hK.out _ _ ?_ (fun hHeld => ?_)
        · exact ctA
        clear hK K
        try simp only [Act.put, List.setIfInBounds_toArray, List.set_cons_zero, List.set_cons_succ]
        refine wpAnyH_ready (rs := [4]) (by kernel_rfl) (by simp) ?_
        refine AllReadyH.cons (o := _) (by simp only [List.getElem?_toArray, List.getElem?_cons_succ, List.getElem?_cons_zero]; rfl) (fun K hK => ?_) AllReadyH.nil
        go_simp
        refine hK.out _ _ ?_ (fun hHeld => ?_)
        · exact ctA
        clear hK K
        try simp only [Act.put, List.setIfInBounds_toArray, List.set_cons_zero, List.set_cons_succ]
        refine wpAnyH_ready (rs := [13]) (by kernel_rfl) (by simp) ?_
        refine AllReadyH.cons (o := _) (by simp only [List.getElem?_toArray, List.getElem?_cons_succ, List.getElem?_cons_zero]; rfl) (fun K hK => ?_) AllReadyH.nil
        have HC := Lib.hid (show Reads (W.alloc (.cells #[.int .u64 b.t, .bool false, .int .u16 port, .int .u8 (R + 160)] 72)) (W.alloc (.cells #[.int .u64 b.t, .bool false, .int .u16 port, .int .u8 (R + 160)] 72)).heap.size 4 (some ⟨W.heap.size, 0, none⟩) 1 [.int .u64 b.t, .bool false, .int .u16 port, .int .u8 (R + 160)] ∧ al.length + 1 ≤ maxLen ∧ (al.length + 1) * 16 ≤ 140737488355328 ∧ base ≤ (W.alloc (.cells #[.int .u64 b.t, .bool false, .int .u16 port, .int .u8 (R + 160)] 72)).heap.size from ⟨⟨rfl, fun _ => ⟨_, rfl, by simp, lit_cells W [.int .u64 b.t, .bool false, .int .u16 port, .int .u8 (R + 160)] 72⟩⟩, by unfold maxLen; omega, by omega, by have := HW.out.2.2.1; simp; omega⟩)
        have hown9 := HW.out.1.acts.alloc (.cells #[.int .u64 b.t, .bool false, .int .u16 port, .int .u8 (R + 160)] 72)
        refine step_append_any _ (by rfl) _ _ _ (by rfl) base 72 i1 (.agg #[.int .u64 0, .bool false, .int .u16 0, .int .u8 0]) 4 16 Try.underlying33 hj hy0 hy1 hy2 rfl (by decide) (.slice AA an ac) al.length _ (by rfl) hown9 _ (some ⟨W.heap.size, 0, none⟩) 1 1 [.int .u64 b.t, .bool false, .int .u16 port, .int .u8 (R + 160)] (by rfl) HC.out.1 (by simp [Value.oneCell']) HC.out.2.1 HC.out.2.2.1 HC.out.2.2.2 ?_
        intro v3 w4 own3 hg3 hv3
        have hv9 := hv3
        obtain ⟨A3, c3, rfl⟩ := own_slice own3
        have hne3 : (some g : Option Nat) ≠ (Value.slice AA an ac).ownBlock := fun e => HH.out.2.1 e.symm
        have hB3 : DcIs w4 g b ph (.slice DA zs.length dc) (.slice AA an ac) E := Blk.grown (Blk.alloc HW.out.1.bd _) hg3 hne3
        have hE3 := (HW.out.1.edges.alloc (.cells #[.int .u64 b.t, .bool false, .int .u16 port, .int .u8 (R + 160)] 72)).kept hg3 (by rcases he : E.ownBlock with _ | k; exact .inl rfl; exact .inr (fun e => HH.out.2.2.1 k e.symm he))
        have hD3 := (HW.out.1.down.alloc (.cells #[.int .u64 b.t, .bool false, .int .u16 port, .int .u8 (R + 160)] 72)).kept hg3 (by rcases he : (Value.slice DA zs.length dc).ownBlock with _ | k; exact .inl rfl; exact .inr (fun e => HH.out.2.2.2.1 k e.symm he))
        have hch3 : Ch w w4 (fun k => k = g ∨ (Value.slice AA an ac).ownBlock = some k) := (HW.out.2.1.trans (Ch.of_below (φ := fun _ => False) (w := W) ((Below.refl _ _).alloc (Nat.le_refl _) _)) (χ := fun k => k = g ∨ (Value.slice AA an ac).ownBlock = some k) (fun _ h => h) (fun _ _ h => h.elim)).trans (Ch.of_grown (φ := fun k => (Value.slice AA an ac).ownBlock = some k) hg3 (fun k e => e)) (fun _ h => h) (fun _ _ h => .inr h)
        have ct3 : w4.cell? ⟨g, 65537, none⟩ = some (.int .u64 b.t) := hB3.at_ (by decide) dc_t
        refine hK.out _ _ ?_ (fun hHeld => ?_)
        · exact ct3
        clear hK K
        try simp only [Act.put, List.setIfInBounds_toArray, List.set_cons_zero, List.set_cons_succ]
        have H3 := Lib.hid (show DcIs w4 g b ph (.slice DA zs.length dc) (.slice AA an ac) E ∧ w4.ownsRow base 72 4 (.slice A3 (al.length + 1) c3) (al.length + 1) (actV al ++ [.int .u64 b.t, .bool false, .int .u16 port, .int .u8 (R + 160)]) ∧ w4.ownsRow base 32 1 E es.length (es.map (Value.int .u64)) ∧ w4.ownsRow base 3 1 (.slice DA zs.length dc) zs.length (zs.map (Value.int .i64)) ∧ Ch w w4 (fun k => k = g ∨ (Value.slice AA an ac).ownBlock = some k) ∧ NewBlk w (.slice AA an ac) (.slice A3 (al.length + 1) c3) from ⟨hB3, own3, hE3, hD3, hch3, by
          rcases hv9 with h | h
          · exact .inl h
          · exact .inr ⟨_, h, by have := HW.out.2.2.2; simp; omega⟩⟩)
        clear own3 hg3 hv3 hv9 hB3 hE3 hD3 hch3 hown9 hne3
        have dA : w4.cell? ⟨g, 65550, none⟩ = some (.slice AA an ac) := H3.out.1.at_ (by decide) dc_A
        have eA : w4.frozen? ⟨g, 65550, none⟩ = false := H3.out.1.fz _
        refine wpAnyH_take (i := 14) (oi := _) (v := ?_) (by simp only [List.getElem?_toArray, List.getElem?_cons_succ, List.getElem?_cons_zero]; rfl) (by kernel_rfl) (by kernel_rfl) (by kernel_rfl) (by intro _ _ _ h; exact h) (Or.inl ⟨by rfl, ?_⟩) (by assumption) ?_
        rotate_left
        · intro w hSw
          try dsimp only at hSw
          go_simp
          try with_reducible rfl
        try simp only [Act.put, List.setIfInBounds_toArray, List.set_cons_zero, List.set_cons_succ]
        refine wpAnyH_take (i := 15) (oi := _) (v := ?_) (by simp only [List.getElem?_toArray, List.getElem?_cons_succ, List.getElem?_cons_zero]; rfl) (by kernel_rfl) (by kernel_rfl) (by kernel_rfl) (by intro _ _ _ h; exact h) (Or.inl ⟨by rfl, ?_⟩) (by assumption) ?_
        rotate_left
        · intro w hSw
          try dsimp only at hSw
          go_simp
          try with_reducible rfl
        try simp only [Act.put, List.setIfInBounds_toArray, List.set_cons_zero, List.set_cons_succ]
        refine wpAnyH_ready (rs := [16]) (by kernel_rfl) (by simp) ?_
        refine AllReadyH.cons (o := _) (by simp only [List.getElem?_toArray, List.getElem?_cons_succ, List.getElem?_cons_zero]; rfl) (fun K hK => ?_) AllReadyH.nil
        go_simp
        refine hK.out _ _ ?_ (fun hHeld => ?_)
        · exact (World.cell?_setCell_other _ _ _ _ (by intro e; injection e with _ e; exact absurd e (by decide))).trans ct3
        clear hK K
        try simp only [Act.put, List.setIfInBounds_toArray, List.set_cons_zero, List.set_cons_succ]
        refine wpAnyH_done (by kernel_rfl) ?_ _
        clear dA eA ct3
        have hal := own_blk_ne H3.out.2.1 H3.out.1 (by decide)
        have hel := own_blk_ne H3.out.2.2.1 H3.out.1 (by decide)
        have hdl := own_blk_ne H3.out.2.2.2.1 H3.out.1 (by decide)
        have hG := grown_cell w4 g 65550 (.slice A3 (al.length + 1) c3)
        have HX := Lib.hid (show DcAt (w4.setCell ⟨g, 65550, none⟩ (.slice A3 (al.length + 1) c3)) base g b ph zs (al ++ [⟨b.t, false, port, R + 160⟩]) es (.slice DA zs.length dc) (.slice A3 (al.length + 1) c3) E ∧ Ch w (w4.setCell ⟨g, 65550, none⟩ (.slice A3 (al.length + 1) c3)) (fun k => k = g ∨ (Value.slice AA an ac).ownBlock = some k) from ⟨⟨H3.out.1.put (dset_A _), H3.out.2.2.2.1.kept hG (.inr hdl), by rw [actV_snoc, List.length_append]; exact H3.out.2.1.kept hG (.inr hal), H3.out.2.2.1.kept hG (.inr hel)⟩, H3.out.2.2.2.2.1.trans (Ch.of_grown (φ := fun k => k = g) hG (fun k e => by injection e with e; exact e.symm)) (fun _ h => h) (fun _ _ h => .inl h)⟩)
        clear hG hal hel hdl
        generalize (w4.setCell ⟨g, 65550, none⟩ (.slice A3 (al.length + 1) c3)) = w5 at *
        go_wp2
        go_ret
        exact ⟨_, rfl, by unfold logS; rw [if_pos HL.out]; exact HX.out.1, HX.out.2, H3.out.2.2.2.2.2⟩
  · have HV2 := Lib.hid (show inV b port = R + 160 + 64 from by rw [HV.out]; simp [hear])
    rw [show inV b port = R + 160 + 64 from HV2.out]
    go_enter Try.func38, Try.ntmps38
    go_wp2_with fail
    refine hov.mono ?_
    rintro x wa ⟨rfl, hba⟩
    clear hov cf
    have ha := HH.out.kept hba
    have hpr := dPressed_any wa g b ph _ A E ha.bd
    have HA := Lib.hid (And.intro ha hba)
    clear ha hba he htm
    go_wp2_with fail
    refine hpr.mono ?_
    rintro x wb ⟨rfl, hbb⟩
    clear hpr
    have hB := HA.out.1.kept hbb
    have hrd := readR_any DA zs.length dc zs (port / 256) wb.heap.size wb (Reads.of_own hB.down) hz (by omega) (by omega)
    rw [hrs] at hrd
    have HB := Lib.hid (And.intro hB (bthen HA.out.2 hbb))
    clear hB hbb hrs HA HH
    go_wp2_with fail
    refine hrd.mono ?_
    rintro x w' ⟨rfl, rfl⟩
    clear hrd
    have hle := dLevel_any wb g b ph _ A E HB.out.1.bd
    rw [hear] at hle
    go_wp2_with fail
    refine hle.mono ?_
    rintro x w3 ⟨rfl, hbc⟩
    clear hle
    have h3 := HB.out.1.kept hbc
    have hB3 := bthen HB.out.2 hbc
    have cl := h3.bd.at_ (i := 65542) (by decide) dc_log
    have hs3 := hB3.size
    have hgl := Blk.lt h3.bd
    have hag := own_blk_ne h3.acts h3.bd (by decide)
    have hae := own_types_ne h3.acts h3.edges (by decide)
    have had := own_types_ne h3.acts h3.down (by decide)
    have HH := Lib.hid (And.intro h3 (And.intro hag (And.intro hae (And.intro had hB3))))
    clear hbc HB h3 hag hae had hB3
    clear hear
    cases hlog : b.log
    · rw [hlog] at cl
      have HL := Lib.hid hlog
      clear hlog
      go_wp2
      go_ret
      exact ⟨A, rfl, by unfold logS; rw [HL.out]; exact HH.out.1, Ch.of_below HH.out.2.2.2.2, .inl rfl⟩
    · rw [hlog] at cl
      have HL := Lib.hid hlog
      clear hlog
      obtain ⟨AA, an, ac, hAs⟩ : ∃ x n c, A = .slice x n c := by
        rcases HH.out.1.acts.2 with ⟨e, _⟩ | ⟨g', cap, cur, e, _⟩
        · exact ⟨none, 0, 0, e⟩
        · exact ⟨_, _, cap, e⟩
      subst hAs
      obtain ⟨i1, hj, hy0, hy1, hy2⟩ := info_parts actInfo
      have cA := HH.out.1.bd.at_ (i := 65550) (by decide) dc_A
      have ct : w3.cell? ⟨g, 65537, none⟩ = some (.int .u64 b.t) := HH.out.1.bd.at_ (i := 65537) (by decide) dc_t
      go_upto_region 19 with fail
      refine wp_region_held_drew (S := fun w' => w'.cell? ⟨g, 65537, none⟩ = some (.int .u64 b.t)) (by kernel_rfl) ?_ (fun hHeld => ?_)
      · exact ct
      have HW := Lib.hid (show DcAt w3.drew base g b ph zs al es (.slice DA zs.length dc) (.slice AA an ac) E ∧ Ch w w3.drew (fun k => k = g ∨ (Value.slice AA an ac).ownBlock = some k) ∧ base ≤ w3.drew.heap.size ∧ w.heap.size ≤ w3.drew.heap.size from ⟨⟨HH.out.1.bd, HH.out.1.down, HH.out.1.acts, HH.out.1.edges⟩, ⟨HH.out.2.2.2.2.os, HH.out.2.2.2.2.tape, HH.out.2.2.2.2.output, HH.out.2.2.2.2.size, fun k hk _ => HH.out.2.2.2.2.block k hk⟩, by show base ≤ w3.heap.size; omega, hs3⟩)
      have cAW : w3.drew.cell? ⟨g, 65550, none⟩ = some (.slice AA an ac) := cA
      have ctW : w3.drew.cell? ⟨g, 65537, none⟩ = some (.int .u64 b.t) := ct
      clear cl cA ct
      generalize w3.drew = W at *
      refine wpAnyH_take (i := 0) (oi := _) (v := ?_) (by simp only [List.getElem?_toArray, List.getElem?_cons_succ, List.getElem?_cons_zero]; rfl) (by kernel_rfl) (by kernel_rfl) (by kernel_rfl) (by intro _ _ _ h; exact h) (Or.inl ⟨by rfl, ?_⟩) (by assumption) ?_
      rotate_left
      · intro w hSw
        try dsimp only at hSw
        go_simp
        try with_reducible rfl
      try simp only [Act.put, List.setIfInBounds_toArray, List.set_cons_zero, List.set_cons_succ]
      refine wpAnyH_take (i := 1) (oi := _) (v := ?_) (by simp only [List.getElem?_toArray, List.getElem?_cons_succ, List.getElem?_cons_zero]; rfl) (by kernel_rfl) (by kernel_rfl) (by kernel_rfl) (by intro _ _ _ h; exact h) (Or.inl ⟨by rfl, ?_⟩) (by assumption) ?_
      rotate_left
      · intro w hSw
        try dsimp only at hSw
        go_simp
        try with_reducible rfl
      try simp only [Act.put, List.setIfInBounds_toArray, List.set_cons_zero, List.set_cons_succ]
      refine wpAnyH_take (i := 2) (oi := _) (v := ?_) (by simp only [List.getElem?_toArray, List.getElem?_cons_succ, List.getElem?_cons_zero]; rfl) (by kernel_rfl) (by kernel_rfl) (by kernel_rfl) (by intro _ _ _ h; exact h) (Or.inl ⟨by rfl, ?_⟩) (by assumption) ?_
      rotate_left
      · intro w hSw
        try dsimp only at hSw
        go_simp
        try with_reducible rfl
      try simp only [Act.put, List.setIfInBounds_toArray, List.set_cons_zero, List.set_cons_succ]
      refine wpAnyH_take (i := 3) (oi := _) (v := ?_) (by simp only [List.getElem?_toArray, List.getElem?_cons_succ, List.getElem?_cons_zero]; rfl) (by kernel_rfl) (by kernel_rfl) (by kernel_rfl) (by intro _ _ _ h; exact h) (Or.inl ⟨by rfl, ?_⟩) (by assumption) ?_
      rotate_left
      · intro w hSw
        try dsimp only at hSw
        go_simp
        try with_reducible rfl
      try simp only [Act.put, List.setIfInBounds_toArray, List.set_cons_zero, List.set_cons_succ]
      refine wpAnyH_take (i := 5) (oi := _) (v := ?_) (by simp only [List.getElem?_toArray, List.getElem?_cons_succ, List.getElem?_cons_zero]; rfl) (by kernel_rfl) (by kernel_rfl) (by kernel_rfl) (by intro _ _ _ h; exact h) (Or.inl ⟨by rfl, ?_⟩) (by assumption) ?_
      rotate_left
      · intro w hSw
        try dsimp only at hSw
        go_simp
        try with_reducible rfl
      try simp only [Act.put, List.setIfInBounds_toArray, List.set_cons_zero, List.set_cons_succ]
      refine wpAnyH_take (i := 6) (oi := _) (v := ?_) (by simp only [List.getElem?_toArray, List.getElem?_cons_succ, List.getElem?_cons_zero]; rfl) (by kernel_rfl) (by kernel_rfl) (by kernel_rfl) (by intro _ _ _ h; exact h) (Or.inl ⟨by rfl, ?_⟩) (by assumption) ?_
      rotate_left
      · intro w hSw
        try dsimp only at hSw
        go_simp
        try with_reducible rfl
      try simp only [Act.put, List.setIfInBounds_toArray, List.set_cons_zero, List.set_cons_succ]
      refine wpAnyH_take (i := 7) (oi := _) (v := ?_) (by simp only [List.getElem?_toArray, List.getElem?_cons_succ, List.getElem?_cons_zero]; rfl) (by kernel_rfl) (by kernel_rfl) (by kernel_rfl) (by intro _ _ _ h; exact h) (Or.inl ⟨by rfl, ?_⟩) (by assumption) ?_
      rotate_left
      · intro w hSw
        try dsimp only at hSw
        go_simp
        try with_reducible rfl
      try simp only [Act.put, List.setIfInBounds_toArray, List.set_cons_zero, List.set_cons_succ]
      refine wpAnyH_take (i := 8) (oi := _) (v := ?_) (by simp only [List.getElem?_toArray, List.getElem?_cons_succ, List.getElem?_cons_zero]; rfl) (by kernel_rfl) (by kernel_rfl) (by kernel_rfl) (by intro _ _ _ h; exact h) (Or.inl ⟨by rfl, ?_⟩) (by assumption) ?_
      rotate_left
      · intro w hSw
        try dsimp only at hSw
        go_simp
        try with_reducible rfl
      try simp only [Act.put, List.setIfInBounds_toArray, List.set_cons_zero, List.set_cons_succ]
      refine wpAnyH_take (i := 9) (oi := _) (v := ?_) (by simp only [List.getElem?_toArray, List.getElem?_cons_succ, List.getElem?_cons_zero]; rfl) (by kernel_rfl) (by kernel_rfl) (by kernel_rfl) (by intro _ _ _ h; exact h) (Or.inl ⟨by rfl, ?_⟩) (by assumption) ?_
      rotate_left
      · intro w hSw
        try dsimp only at hSw
        go_simp
        try with_reducible rfl
      try simp only [Act.put, List.setIfInBounds_toArray, List.set_cons_zero, List.set_cons_succ]
      refine wpAnyH_take (i := 10) (oi := _) (v := ?_) (by simp only [List.getElem?_toArray, List.getElem?_cons_succ, List.getElem?_cons_zero]; rfl) (by kernel_rfl) (by kernel_rfl) (by kernel_rfl) (by intro _ _ _ h; exact h) (Or.inl ⟨by rfl, ?_⟩) (by assumption) ?_
      rotate_left
      · intro w hSw
        try dsimp only at hSw
        go_simp
        try with_reducible rfl
      try simp only [Act.put, List.setIfInBounds_toArray, List.set_cons_zero, List.set_cons_succ]
      refine wpAnyH_take (i := 11) (oi := _) (v := ?_) (by simp only [List.getElem?_toArray, List.getElem?_cons_succ, List.getElem?_cons_zero]; rfl) (by kernel_rfl) (by kernel_rfl) (by kernel_rfl) (by intro _ _ _ h; exact h) (Or.inl ⟨by rfl, ?_⟩) (by assumption) ?_
      rotate_left
      · intro w hSw
        try dsimp only at hSw
        go_simp
        try with_reducible rfl
      try simp only [Act.put, List.setIfInBounds_toArray, List.set_cons_zero, List.set_cons_succ]
      refine wpAnyH_ready (rs := [4, 12]) (by kernel_rfl) (by simp) ?_
      refine AllReadyH.cons (o := _) (by simp only [List.getElem?_toArray, List.getElem?_cons_succ, List.getElem?_cons_zero]; rfl) (fun K hK => ?_) (AllReadyH.cons (o := _) (by simp only [List.getElem?_toArray, List.getElem?_cons_succ, List.getElem?_cons_zero]; rfl) (fun K hK => ?_) AllReadyH.nil)
      · go_simp
        refine hK.out _ _ ?_ (fun hHeld => ?_)
        · exact ctW
        clear hK K
        try simp only [Act.put, List.setIfInBounds_toArray, List.set_cons_zero, List.set_cons_succ]
        refine wpAnyH_ready (rs := [12]) (by kernel_rfl) (by simp) ?_
        refine AllReadyH.cons (o := _) (by simp only [List.getElem?_toArray, List.getElem?_cons_succ, List.getElem?_cons_zero]; rfl) (fun K hK => ?_) AllReadyH.nil
        have ctA : (W.alloc (.cells #[.int .u64 b.t, .bool false, .int .u16 port, .int .u8 (R + 160 + 64)] 72)).cell? ⟨g, 65537, none⟩ = some (.int .u64 b.t) := alloc_of ctW
        have cAA : (W.alloc (.cells #[.int .u64 b.t, .bool false, .int .u16 port, .int .u8 (R + 160 + 64)] 72)).cell? ⟨g, 65550, none⟩ = some (.slice AA an ac) := alloc_of cAW
        go_simp
        refine hK.out _ _ ?_ (fun hHeld => ?_)
        · exact ctA
        clear hK K
        try simp only [Act.put, List.setIfInBounds_toArray, List.set_cons_zero, List.set_cons_succ]
        refine wpAnyH_ready (rs := [13]) (by kernel_rfl) (by simp) ?_
        refine AllReadyH.cons (o := _) (by simp only [List.getElem?_toArray, List.getElem?_cons_succ, List.getElem?_cons_zero]; rfl) (fun K hK => ?_) AllReadyH.nil
        have HC := Lib.hid (show Reads (W.alloc (.cells #[.int .u64 b.t, .bool false, .int .u16 port, .int .u8 (R + 160 + 64)] 72)) (W.alloc (.cells #[.int .u64 b.t, .bool false, .int .u16 port, .int .u8 (R + 160 + 64)] 72)).heap.size 4 (some ⟨W.heap.size, 0, none⟩) 1 [.int .u64 b.t, .bool false, .int .u16 port, .int .u8 (R + 160 + 64)] ∧ al.length + 1 ≤ maxLen ∧ (al.length + 1) * 16 ≤ 140737488355328 ∧ base ≤ (W.alloc (.cells #[.int .u64 b.t, .bool false, .int .u16 port, .int .u8 (R + 160 + 64)] 72)).heap.size from ⟨⟨rfl, fun _ => ⟨_, rfl, by simp, lit_cells W [.int .u64 b.t, .bool false, .int .u16 port, .int .u8 (R + 160 + 64)] 72⟩⟩, by unfold maxLen; omega, by omega, by have := HW.out.2.2.1; simp; omega⟩)
        have hown9 := HW.out.1.acts.alloc (.cells #[.int .u64 b.t, .bool false, .int .u16 port, .int .u8 (R + 160 + 64)] 72)
        refine step_append_any _ (by rfl) _ _ _ (by rfl) base 72 i1 (.agg #[.int .u64 0, .bool false, .int .u16 0, .int .u8 0]) 4 16 Try.underlying33 hj hy0 hy1 hy2 rfl (by decide) (.slice AA an ac) al.length _ (by rfl) hown9 _ (some ⟨W.heap.size, 0, none⟩) 1 1 [.int .u64 b.t, .bool false, .int .u16 port, .int .u8 (R + 160 + 64)] (by rfl) HC.out.1 (by simp [Value.oneCell']) HC.out.2.1 HC.out.2.2.1 HC.out.2.2.2 ?_
        intro v3 w4 own3 hg3 hv3
        have hv9 := hv3
        obtain ⟨A3, c3, rfl⟩ := own_slice own3
        have hne3 : (some g : Option Nat) ≠ (Value.slice AA an ac).ownBlock := fun e => HH.out.2.1 e.symm
        have hB3 : DcIs w4 g b ph (.slice DA zs.length dc) (.slice AA an ac) E := Blk.grown (Blk.alloc HW.out.1.bd _) hg3 hne3
        have hE3 := (HW.out.1.edges.alloc (.cells #[.int .u64 b.t, .bool false, .int .u16 port, .int .u8 (R + 160 + 64)] 72)).kept hg3 (by rcases he : E.ownBlock with _ | k; exact .inl rfl; exact .inr (fun e => HH.out.2.2.1 k e.symm he))
        have hD3 := (HW.out.1.down.alloc (.cells #[.int .u64 b.t, .bool false, .int .u16 port, .int .u8 (R + 160 + 64)] 72)).kept hg3 (by rcases he : (Value.slice DA zs.length dc).ownBlock with _ | k; exact .inl rfl; exact .inr (fun e => HH.out.2.2.2.1 k e.symm he))
        have hch3 : Ch w w4 (fun k => k = g ∨ (Value.slice AA an ac).ownBlock = some k) := (HW.out.2.1.trans (Ch.of_below (φ := fun _ => False) (w := W) ((Below.refl _ _).alloc (Nat.le_refl _) _)) (χ := fun k => k = g ∨ (Value.slice AA an ac).ownBlock = some k) (fun _ h => h) (fun _ _ h => h.elim)).trans (Ch.of_grown (φ := fun k => (Value.slice AA an ac).ownBlock = some k) hg3 (fun k e => e)) (fun _ h => h) (fun _ _ h => .inr h)
        have ct3 : w4.cell? ⟨g, 65537, none⟩ = some (.int .u64 b.t) := hB3.at_ (by decide) dc_t
        refine hK.out _ _ ?_ (fun hHeld => ?_)
        · exact ct3
        clear hK K
        try simp only [Act.put, List.setIfInBounds_toArray, List.set_cons_zero, List.set_cons_succ]
        have H3 := Lib.hid (show DcIs w4 g b ph (.slice DA zs.length dc) (.slice AA an ac) E ∧ w4.ownsRow base 72 4 (.slice A3 (al.length + 1) c3) (al.length + 1) (actV al ++ [.int .u64 b.t, .bool false, .int .u16 port, .int .u8 (R + 160 + 64)]) ∧ w4.ownsRow base 32 1 E es.length (es.map (Value.int .u64)) ∧ w4.ownsRow base 3 1 (.slice DA zs.length dc) zs.length (zs.map (Value.int .i64)) ∧ Ch w w4 (fun k => k = g ∨ (Value.slice AA an ac).ownBlock = some k) ∧ NewBlk w (.slice AA an ac) (.slice A3 (al.length + 1) c3) from ⟨hB3, own3, hE3, hD3, hch3, by
          rcases hv9 with h | h
          · exact .inl h
          · exact .inr ⟨_, h, by have := HW.out.2.2.2; simp; omega⟩⟩)
        clear own3 hg3 hv3 hv9 hB3 hE3 hD3 hch3 hown9 hne3
        have dA : w4.cell? ⟨g, 65550, none⟩ = some (.slice AA an ac) := H3.out.1.at_ (by decide) dc_A
        have eA : w4.frozen? ⟨g, 65550, none⟩ = false := H3.out.1.fz _
        refine wpAnyH_take (i := 14) (oi := _) (v := ?_) (by simp only [List.getElem?_toArray, List.getElem?_cons_succ, List.getElem?_cons_zero]; rfl) (by kernel_rfl) (by kernel_rfl) (by kernel_rfl) (by intro _ _ _ h; exact h) (Or.inl ⟨by rfl, ?_⟩) (by assumption) ?_
        rotate_left
        · intro w hSw
          try dsimp only at hSw
          go_simp
          try with_reducible rfl
        try simp only [Act.put, List.setIfInBounds_toArray, List.set_cons_zero, List.set_cons_succ]
        refine wpAnyH_take (i := 15) (oi := _) (v := ?_) (by simp only [List.getElem?_toArray, List.getElem?_cons_succ, List.getElem?_cons_zero]; rfl) (by kernel_rfl) (by kernel_rfl) (by kernel_rfl) (by intro _ _ _ h; exact h) (Or.inl ⟨by rfl, ?_⟩) (by assumption) ?_
        rotate_left
        · intro w hSw
          try dsimp only at hSw
          go_simp
          try with_reducible rfl
        try simp only [Act.put, List.setIfInBounds_toArray, List.set_cons_zero, List.set_cons_succ]
        refine wpAnyH_ready (rs := [16]) (by kernel_rfl) (by simp) ?_
        refine AllReadyH.cons (o := _) (by simp only [List.getElem?_toArray, List.getElem?_cons_succ, List.getElem?_cons_zero]; rfl) (fun K hK => ?_) AllReadyH.nil
        go_simp
        refine hK.out _ _ ?_ (fun hHeld => ?_)
        · exact (World.cell?_setCell_other _ _ _ _ (by intro e; injection e with _ e; exact absurd e (by decide))).trans ct3
        clear hK K
        try simp only [Act.put, List.setIfInBounds_toArray, List.set_cons_zero, List.set_cons_succ]
        refine wpAnyH_done (by kernel_rfl) ?_ _
        clear dA eA ct3
        have hal := own_blk_ne H3.out.2.1 H3.out.1 (by decide)
        have hel := own_blk_ne H3.out.2.2.1 H3.out.1 (by decide)
        have hdl := own_blk_ne H3.out.2.2.2.1 H3.out.1 (by decide)
        have hG := grown_cell w4 g 65550 (.slice A3 (al.length + 1) c3)
        have HX := Lib.hid (show DcAt (w4.setCell ⟨g, 65550, none⟩ (.slice A3 (al.length + 1) c3)) base g b ph zs (al ++ [⟨b.t, false, port, R + 160 + 64⟩]) es (.slice DA zs.length dc) (.slice A3 (al.length + 1) c3) E ∧ Ch w (w4.setCell ⟨g, 65550, none⟩ (.slice A3 (al.length + 1) c3)) (fun k => k = g ∨ (Value.slice AA an ac).ownBlock = some k) from ⟨⟨H3.out.1.put (dset_A _), H3.out.2.2.2.1.kept hG (.inr hdl), by rw [actV_snoc, List.length_append]; exact H3.out.2.1.kept hG (.inr hal), H3.out.2.2.1.kept hG (.inr hel)⟩, H3.out.2.2.2.2.1.trans (Ch.of_grown (φ := fun k => k = g) hG (fun k e => by injection e with e; exact e.symm)) (fun _ h => h) (fun _ _ h => .inl h)⟩)
        clear hG hal hel hdl
        generalize (w4.setCell ⟨g, 65550, none⟩ (.slice A3 (al.length + 1) c3)) = w5 at *
        go_wp2
        go_ret
        exact ⟨_, rfl, by unfold logS; rw [if_pos HL.out]; exact HX.out.1, HX.out.2, H3.out.2.2.2.2.2⟩
      · have ctA : (W.alloc (.cells #[.int .u64 b.t, .bool false, .int .u16 port, .int .u8 (R + 160 + 64)] 72)).cell? ⟨g, 65537, none⟩ = some (.int .u64 b.t) := alloc_of ctW
        have cAA : (W.alloc (.cells #[.int .u64 b.t, .bool false, .int .u16 port, .int .u8 (R + 160 + 64)] 72)).cell? ⟨g, 65550, none⟩ = some (.slice AA an ac) := alloc_of cAW
        go_simp
        refine hK.out _ _ ?_ (fun hHeld => ?_)
        · exact ctA
        clear hK K
        try simp only [Act.put, List.setIfInBounds_toArray, List.set_cons_zero, List.set_cons_succ]
        refine wpAnyH_ready (rs := [4]) (by kernel_rfl) (by simp) ?_
        refine AllReadyH.cons (o := _) (by simp only [List.getElem?_toArray, List.getElem?_cons_succ, List.getElem?_cons_zero]; rfl) (fun K hK => ?_) AllReadyH.nil
        go_simp
        refine hK.out _ _ ?_ (fun hHeld => ?_)
        · exact ctA
        clear hK K
        try simp only [Act.put, List.setIfInBounds_toArray, List.set_cons_zero, List.set_cons_succ]
        refine wpAnyH_ready (rs := [13]) (by kernel_rfl) (by simp) ?_
        refine AllReadyH.cons (o := _) (by simp only [List.getElem?_toArray, List.getElem?_cons_succ, List.getElem?_cons_zero]; rfl) (fun K hK => ?_) AllReadyH.nil
        have HC := Lib.hid (show Reads (W.alloc (.cells #[.int .u64 b.t, .bool false, .int .u16 port, .int .u8 (R + 160 + 64)] 72)) (W.alloc (.cells #[.int .u64 b.t, .bool false, .int .u16 port, .int .u8 (R + 160 + 64)] 72)).heap.size 4 (some ⟨W.heap.size, 0, none⟩) 1 [.int .u64 b.t, .bool false, .int .u16 port, .int .u8 (R + 160 + 64)] ∧ al.length + 1 ≤ maxLen ∧ (al.length + 1) * 16 ≤ 140737488355328 ∧ base ≤ (W.alloc (.cells #[.int .u64 b.t, .bool false, .int .u16 port, .int .u8 (R + 160 + 64)] 72)).heap.size from ⟨⟨rfl, fun _ => ⟨_, rfl, by simp, lit_cells W [.int .u64 b.t, .bool false, .int .u16 port, .int .u8 (R + 160 + 64)] 72⟩⟩, by unfold maxLen; omega, by omega, by have := HW.out.2.2.1; simp; omega⟩)
        have hown9 := HW.out.1.acts.alloc (.cells #[.int .u64 b.t, .bool false, .int .u16 port, .int .u8 (R + 160 + 64)] 72)
        refine step_append_any _ (by rfl) _ _ _ (by rfl) base 72 i1 (.agg #[.int .u64 0, .bool false, .int .u16 0, .int .u8 0]) 4 16 Try.underlying33 hj hy0 hy1 hy2 rfl (by decide) (.slice AA an ac) al.length _ (by rfl) hown9 _ (some ⟨W.heap.size, 0, none⟩) 1 1 [.int .u64 b.t, .bool false, .int .u16 port, .int .u8 (R + 160 + 64)] (by rfl) HC.out.1 (by simp [Value.oneCell']) HC.out.2.1 HC.out.2.2.1 HC.out.2.2.2 ?_
        intro v3 w4 own3 hg3 hv3
        have hv9 := hv3
        obtain ⟨A3, c3, rfl⟩ := own_slice own3
        have hne3 : (some g : Option Nat) ≠ (Value.slice AA an ac).ownBlock := fun e => HH.out.2.1 e.symm
        have hB3 : DcIs w4 g b ph (.slice DA zs.length dc) (.slice AA an ac) E := Blk.grown (Blk.alloc HW.out.1.bd _) hg3 hne3
        have hE3 := (HW.out.1.edges.alloc (.cells #[.int .u64 b.t, .bool false, .int .u16 port, .int .u8 (R + 160 + 64)] 72)).kept hg3 (by rcases he : E.ownBlock with _ | k; exact .inl rfl; exact .inr (fun e => HH.out.2.2.1 k e.symm he))
        have hD3 := (HW.out.1.down.alloc (.cells #[.int .u64 b.t, .bool false, .int .u16 port, .int .u8 (R + 160 + 64)] 72)).kept hg3 (by rcases he : (Value.slice DA zs.length dc).ownBlock with _ | k; exact .inl rfl; exact .inr (fun e => HH.out.2.2.2.1 k e.symm he))
        have hch3 : Ch w w4 (fun k => k = g ∨ (Value.slice AA an ac).ownBlock = some k) := (HW.out.2.1.trans (Ch.of_below (φ := fun _ => False) (w := W) ((Below.refl _ _).alloc (Nat.le_refl _) _)) (χ := fun k => k = g ∨ (Value.slice AA an ac).ownBlock = some k) (fun _ h => h) (fun _ _ h => h.elim)).trans (Ch.of_grown (φ := fun k => (Value.slice AA an ac).ownBlock = some k) hg3 (fun k e => e)) (fun _ h => h) (fun _ _ h => .inr h)
        have ct3 : w4.cell? ⟨g, 65537, none⟩ = some (.int .u64 b.t) := hB3.at_ (by decide) dc_t
        refine hK.out _ _ ?_ (fun hHeld => ?_)
        · exact ct3
        clear hK K
        try simp only [Act.put, List.setIfInBounds_toArray, List.set_cons_zero, List.set_cons_succ]
        have H3 := Lib.hid (show DcIs w4 g b ph (.slice DA zs.length dc) (.slice AA an ac) E ∧ w4.ownsRow base 72 4 (.slice A3 (al.length + 1) c3) (al.length + 1) (actV al ++ [.int .u64 b.t, .bool false, .int .u16 port, .int .u8 (R + 160 + 64)]) ∧ w4.ownsRow base 32 1 E es.length (es.map (Value.int .u64)) ∧ w4.ownsRow base 3 1 (.slice DA zs.length dc) zs.length (zs.map (Value.int .i64)) ∧ Ch w w4 (fun k => k = g ∨ (Value.slice AA an ac).ownBlock = some k) ∧ NewBlk w (.slice AA an ac) (.slice A3 (al.length + 1) c3) from ⟨hB3, own3, hE3, hD3, hch3, by
          rcases hv9 with h | h
          · exact .inl h
          · exact .inr ⟨_, h, by have := HW.out.2.2.2; simp; omega⟩⟩)
        clear own3 hg3 hv3 hv9 hB3 hE3 hD3 hch3 hown9 hne3
        have dA : w4.cell? ⟨g, 65550, none⟩ = some (.slice AA an ac) := H3.out.1.at_ (by decide) dc_A
        have eA : w4.frozen? ⟨g, 65550, none⟩ = false := H3.out.1.fz _
        refine wpAnyH_take (i := 14) (oi := _) (v := ?_) (by simp only [List.getElem?_toArray, List.getElem?_cons_succ, List.getElem?_cons_zero]; rfl) (by kernel_rfl) (by kernel_rfl) (by kernel_rfl) (by intro _ _ _ h; exact h) (Or.inl ⟨by rfl, ?_⟩) (by assumption) ?_
        rotate_left
        · intro w hSw
          try dsimp only at hSw
          go_simp
          try with_reducible rfl
        try simp only [Act.put, List.setIfInBounds_toArray, List.set_cons_zero, List.set_cons_succ]
        refine wpAnyH_take (i := 15) (oi := _) (v := ?_) (by simp only [List.getElem?_toArray, List.getElem?_cons_succ, List.getElem?_cons_zero]; rfl) (by kernel_rfl) (by kernel_rfl) (by kernel_rfl) (by intro _ _ _ h; exact h) (Or.inl ⟨by rfl, ?_⟩) (by assumption) ?_
        rotate_left
        · intro w hSw
          try dsimp only at hSw
          go_simp
          try with_reducible rfl
        try simp only [Act.put, List.setIfInBounds_toArray, List.set_cons_zero, List.set_cons_succ]
        refine wpAnyH_ready (rs := [16]) (by kernel_rfl) (by simp) ?_
        refine AllReadyH.cons (o := _) (by simp only [List.getElem?_toArray, List.getElem?_cons_succ, List.getElem?_cons_zero]; rfl) (fun K hK => ?_) AllReadyH.nil
        go_simp
        refine hK.out _ _ ?_ (fun hHeld => ?_)
        · exact (World.cell?_setCell_other _ _ _ _ (by intro e; injection e with _ e; exact absurd e (by decide))).trans ct3
        clear hK K
        try simp only [Act.put, List.setIfInBounds_toArray, List.set_cons_zero, List.set_cons_succ]
        refine wpAnyH_done (by kernel_rfl) ?_ _
        clear dA eA ct3
        have hal := own_blk_ne H3.out.2.1 H3.out.1 (by decide)
        have hel := own_blk_ne H3.out.2.2.1 H3.out.1 (by decide)
        have hdl := own_blk_ne H3.out.2.2.2.1 H3.out.1 (by decide)
        have hG := grown_cell w4 g 65550 (.slice A3 (al.length + 1) c3)
        have HX := Lib.hid (show DcAt (w4.setCell ⟨g, 65550, none⟩ (.slice A3 (al.length + 1) c3)) base g b ph zs (al ++ [⟨b.t, false, port, R + 160 + 64⟩]) es (.slice DA zs.length dc) (.slice A3 (al.length + 1) c3) E ∧ Ch w (w4.setCell ⟨g, 65550, none⟩ (.slice A3 (al.length + 1) c3)) (fun k => k = g ∨ (Value.slice AA an ac).ownBlock = some k) from ⟨⟨H3.out.1.put (dset_A _), H3.out.2.2.2.1.kept hG (.inr hdl), by rw [actV_snoc, List.length_append]; exact H3.out.2.1.kept hG (.inr hal), H3.out.2.2.1.kept hG (.inr hel)⟩, H3.out.2.2.2.2.1.trans (Ch.of_grown (φ := fun k => k = g) hG (fun k e => by injection e with e; exact e.symm)) (fun _ h => h) (fun _ _ h => .inl h)⟩)
        clear hG hal hel hdl
        generalize (w4.setCell ⟨g, 65550, none⟩ (.slice A3 (al.length + 1) c3)) = w5 at *
        go_wp2
        go_ret
        exact ⟨_, rfl, by unfold logS; rw [if_pos HL.out]; exact HX.out.1, HX.out.2, H3.out.2.2.2.2.2⟩
end Go.Proofs.Ytfcnlgkaejkneaa
