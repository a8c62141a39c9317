/- Layer 24: contract of a copy of a way; the walk of WalkCopies. -/
import Derived.Test.YtnmapncgnceldaaWk27
import Derived.Shelf.SlMaps.Clone
namespace Go.Proofs.Ytnmapncgnceldaa
open Go.RowKit

theorem wkInfo8 : (Try.prog.info? 58).map (·.size) = some 14 := by kernel_rfl
theorem wkOne {LA : Option Addr} {ln lc mb : Nat} {s : WS} : (wkC LA ln lc mb s).all (·.oneCell') = true := by simp [wkC, Value.oneCell']
theorem TkAt.clone {w : World} {b : Nat} {tk : List Int} (h : TkAt w b tk) : ∃ es clock, w.heap[b]? = some (.map es clock) ∧ TkAt (w.alloc (.map es clock)) w.heap.size tk ∧ TkAt (w.alloc (.map es clock)) b tk := by
  have hlt := h.lt
  have h0 := h
  obtain ⟨D, ⟨es, clock, hb, F, hs, e⟩, hD, hat⟩ := h
  exact ⟨es, clock, hb, ⟨D, ⟨es, clock, (MapKept.heap_alloc w _).1, F, hs, e⟩, hD, hat⟩, h0.kept (Below.heap_alloc _ _ b hlt)⟩
set_option maxRecDepth 100000 in
set_option maxHeartbeats 4000000 in
theorem clone_any (b : Nat) (es : Array MapEntry) (clock : Nat) (w : World) (hb : w.heap[b]? = some (.map es clock)) :
    Calls Try.prog 24 #[.map (some b)] w fun e w' => e = .returned (.map (some w.heap.size)) ∧ w' = w.alloc (.map es clock) := by
  have hq := fun w => run_eql_map_nil_sl (P := Try.prog) w 52 _ _ (some b) Try.underlying52
  go_enter Try.func24, Try.ntmps24
  go_wp2
  rw [run_callFunc_extern Try.func31 (by kernel_rfl) (by kernel_rfl) (by kernel_rfl) (e := Extern.MapsClone.clone) (by kernel_rfl), run_maps_clone_sl w 52 hb]
  simp only [Result.andThen]
  rw [Oper.upon_value]
  go_wp2
  rw [run_typeAssert_map_sl _ 52 20 _ _ _ Try.underlying52]
  simp only [Result.andThen]
  rw [Oper.upon_value]
  go_wp2
  go_ret
  exact ⟨rfl, rfl⟩
set_option maxRecDepth 100000 in
theorem copy_nil (w : World) : Calls Try.prog 16 #[.pointer none] w fun x w' => x = .returned (.pointer none) ∧ w = w' := by
  go_enter Try.func16, Try.ntmps16
  go_wp2
  go_ret
  exact ⟨rfl, rfl⟩
set_option maxRecDepth 100000 in
set_option maxHeartbeats 4000000 in
theorem copy_any (w : World) (g mb : Nat) (LA : Option Addr) (ln lc : Nat) (bs : List WB) (s : WS) (h : WalkAt w g mb LA ln lc bs s) :
    Calls Try.prog 16 #[.pointer (some ⟨g, 0, none⟩)] w fun x w' => ∃ g2 m2, x = .returned (.pointer (some ⟨g2, 0, none⟩)) ∧ w.heap.size ≤ g2 ∧ w.heap.size ≤ m2 ∧ Blk w' g2 58 (wkC LA ln lc m2 s) ∧ TkAt w' m2 s.tk ∧ Below w.heap.size w w' := by
  have hP := h.1
  have hgl := h.1.lt
  have HH := Lib.hid h
  clear h
  go_enter Try.func16, Try.ntmps16
  go_upto_region 4 with (first
    | (refine wpList_load_box rfl 58 _ rfl g rfl 58 (wkC LA ln lc mb s) hP _ Try.underlying58 rfl wkInfo8 (fun (_ : Hid _) => ?_))
    | (refine wpList_store_box rfl 58 _ _ rfl (w.heap.size) (wkC LA ln lc mb s) rfl rfl 58 #[.slice none 0 0, .int .i64 0, .bool false, .bool false, .int .i64 0, .int .i64 0, .bool false, .int .i64 0, .int .i64 0, .map none, .int .i64 0, .int .i64 0, .int .i64 0, .bool false] (Blk.new w _ _) wkInfo8 rfl wkOne ?_)
    | fail)
  intro w1 hB1 hg1
  have hb1 : Below w.heap.size w w1 := ((Below.refl _ _).alloc (Nat.le_refl _) _).grown hg1 (by simp) (fun b e => by injection e with e; omega)
  have hs1 := hb1.size
  have hnl := hB1.lt
  have c9 : w1.cell? ⟨g, 9, none⟩ = some (.map (some mb)) := ((HH.out.1.below hb1 hgl).cell 9).trans rfl
  obtain ⟨es, clock, hm, ht1, ht2⟩ := (HH.out.2.1.kept (hb1.block mb HH.out.2.1.lt)).clone
  have hcl := clone_any mb es clock w1 hm
  have H1 := Lib.hid (And.intro hB1 (And.intro hb1 ht1))
  clear hB1 hg1 hb1 ht1 ht2 hm hP
  go_upto_region 4 with fail
  go_wp2_with fail
  refine hcl.mono ?_
  rintro x w2 ⟨rfl, hw2⟩
  clear hcl c9
  have H2 := Lib.hid (show Blk w2 w.heap.size 58 (wkC LA ln lc mb s) ∧ Below w.heap.size w w2 ∧ TkAt w2 w1.heap.size s.tk from by rw [hw2]; exact ⟨H1.out.1.alloc _, H1.out.2.1.alloc hs1 _, H1.out.2.2⟩)
  clear hw2
  have d9 : w2.cell? ⟨w.heap.size, 9, none⟩ = some (.map (some mb)) := (H2.out.1.cell 9).trans rfl
  have e9 : w2.frozen? ⟨w.heap.size, 9, none⟩ = false := H2.out.1.frozen 9
  have HX := Lib.hid (show Blk (w2.setCell ⟨w.heap.size, 9, none⟩ (.map (some w1.heap.size))) w.heap.size 58 (wkC LA ln lc w1.heap.size s) ∧ TkAt (w2.setCell ⟨w.heap.size, 9, none⟩ (.map (some w1.heap.size))) w1.heap.size s.tk ∧ Below w.heap.size w (w2.setCell ⟨w.heap.size, 9, none⟩ (.map (some w1.heap.size))) from
    ⟨H2.out.1.set_ 9 _, H2.out.2.2.kept (Below.heap_setCell _ _ _ _ (by show w1.heap.size ≠ w.heap.size; omega)), H2.out.2.1.setCell (by show w.heap.size ≤ w.heap.size; omega) _⟩)
  go_wp2
  go_ret
  exact ⟨w.heap.size, w1.heap.size, rfl, Nat.le_refl _, hs1, HX.out.1, HX.out.2.1, HX.out.2.2⟩
theorem at_of {w6 wq : World} {g mb g' m' : Nat} {LA : Option Addr} {ln lc : Nat} {bs : List WB} {s : WS} (h6 : BlksR w6 (fun b => b ≠ g ∧ b ≠ mb ∧ b < w6.heap.size) LA ln bs) (hM : Mv w6 wq g mb) (hB : Blk wq g' 58 (wkC LA ln lc m' s)) (hT : TkAt wq m' s.tk) (hg : g' = g ∨ w6.heap.size ≤ g') (hm : m' = mb ∨ w6.heap.size ≤ m') : WalkAt wq g' m' LA ln lc bs s :=
  ⟨hB, hT, h6.keep (fun b hb => hM.block b hb.2.2 hb.1 hb.2.1) (fun b hb => ⟨by rcases hg with h | h; rw [h]; exact hb.1; omega, by rcases hm with h | h; rw [h]; exact hb.2.1; omega, Nat.lt_of_lt_of_le hb.2.2 hM.size⟩)⟩
theorem Mv.over {w6 a b : World} {g mb g1 m1 : Nat} (h : Mv w6 a g mb) (k : Mv a b g1 m1) (hg : g1 = g ∨ w6.heap.size ≤ g1) (hm : m1 = mb ∨ w6.heap.size ≤ m1) : Mv w6 b g mb :=
  ⟨k.os.trans h.os, k.tape.trans h.tape, k.output.trans h.output, Nat.le_trans h.size k.size, fun q hq h1 h2 => (k.block q (Nat.lt_of_lt_of_le hq h.size) (by rcases hg with e | e; rw [e]; exact h1; omega) (by rcases hm with e | e; rw [e]; exact h2; omega)).trans (h.block q hq h1 h2)⟩
/-- a way by itself: its box, its map -/
def WOne (w : World) (g mb : Nat) (LA : Option Addr) (ln lc : Nat) (s : WS) : Prop := Blk w g 58 (wkC LA ln lc mb s) ∧ TkAt w mb s.tk
theorem WOne.mv {w w' : World} {g mb g2 m2 : Nat} {LA : Option Addr} {ln lc : Nat} {s : WS} (h : WOne w g mb LA ln lc s) (k : Mv w w' g2 m2) (h1 : g ≠ g2 ∧ g ≠ m2) (h2 : mb ≠ g2 ∧ mb ≠ m2) : WOne w' g mb LA ln lc s :=
  ⟨(k.block g h.1.lt h1.1 h1.2).trans h.1, h.2.kept (k.block mb h.2.lt h2.1 h2.2)⟩
theorem soundW_is {bs : List WB} (h : soundW bs = 0) : (soundG bs bs.length 0).2 = 0 ∧ ¬ emptyJ bs := by
  by_cases h0 : (soundG bs bs.length 0).2 = 0
  · refine ⟨h0, fun he => ?_⟩
    rw [soundW_empty h0 he] at h
    exact absurd h (by decide)
  · rw [soundW_bad h0] at h
    exact absurd h h0

set_option maxRecDepth 100000 in
set_option maxHeartbeats 8000000 in
theorem walkCopies_walk (A0 : Option Addr) (ln c0 : Nat) (bs : List WB) (n : Int) (w : World) (hB : BlksR w (· < w.heap.size) A0 ln bs) (hct : ∀ i, i < bs.length → (bs.getD i default).ct ≤ 9223372036854775807) :
    Calls Try.prog 6 #[.slice A0 ln c0, .int .i64 n] w fun x w' => x = .returned (.bool true) ∧ Below w.heap.size w w' := by
  have hhn := heard_nil w
  have hnn := next_nil w
  have HB := Lib.hid (And.intro hB hct)
  clear hB hct
  go_enter Try.func6, Try.ntmps6
  go_wp2_with fail
  refine hhn.mono ?_
  rintro x w' ⟨⟨v, rfl⟩, rfl⟩
  clear hhn
  go_wp2_with fail
  refine hnn.mono ?_
  rintro x w1 ⟨rfl, hb1⟩
  clear hnn
  have hs1 := hb1.size
  have H1 := Lib.hid hb1
  clear hb1
  have hcn := copy_nil w1
  simp only [stepV]
  have hfd : (Instr.field 36 (.agg #[.int .i64 3, .int .i64 0, .int .i64 0]) 0).run Try.prog w1 = .ok (.int .i64 3) w1 := by kernel_rfl
  go_wp2_with fail
  refine hcn.mono ?_
  rintro x w' ⟨rfl, rfl⟩
  clear hcn hfd
  have hB1 : BlksR w1 (· < w1.heap.size) A0 ln bs := HB.out.1.keep (fun b hb => H1.out.block b hb) (fun b (hb : b < w.heap.size) => by show b < _; omega)
  have hli := light_any w1 A0 ln c0 bs hB1
  have HB1 := Lib.hid hB1
  clear hB1
  go_wp2_with fail
  refine hli.mono ?_
  rintro x w' ⟨⟨b, hbl, rfl⟩, rfl⟩
  clear hli
  cases b with
  | false =>
    clear hbl
    have hlv := lives_any w1
    go_wp2_with fail
    refine hlv.mono ?_
    rintro x w2 ⟨rfl, hb2⟩
    have H2 := Lib.hid (bthen H1.out hb2)
    clear hlv hb2
    go_wp2
    go_ret
    exact ⟨rfl, H2.out⟩
  | true =>
    have hL : Lite bs := hbl.1 rfl
    clear hbl
    have hsd := soundD_any w1 A0 ln c0 bs HB1.out hL
    obtain ⟨E, hE⟩ : ∃ E, E = soundW bs := ⟨_, rfl⟩
    rw [← hE] at hsd
    have HL := Lib.hid (And.intro hL hE)
    clear hL hE
    go_wp2_with fail
    refine hsd.mono ?_
    rintro x w2 ⟨rfl, hb2⟩
    clear hsd
    have hs2 := hb2.size
    have H2 := Lib.hid (H1.out.trans (hb2.mono hs1))
    clear hb2
    by_cases he : E = 0
    · subst he
      obtain ⟨hg0, hg1⟩ := soundW_is HL.out.2.symm
      have hf := sound_fine HL.out.1 hg0 hg1 HB.out.2
      have hnw := new_any w2 A0 ln c0 bs (HB.out.1.keep (fun b hb => H2.out.block b hb) (fun b (hb : b < w.heap.size) => by show b < _; omega)) HL.out.1
      have HF := Lib.hid (And.intro hf (And.intro hg0 hg1))
      clear hf hg0 hg1
      go_wp2_with fail
      refine hnw.mono ?_
      clear hnw
      rintro x w6 ⟨hb6, h | h | ⟨_, _, g, mb, LA, lc, rfl, hg, hm, hW⟩⟩
      · exact absurd HF.out.2.1 h.1
      · exact absurd h.2.1 HF.out.2.2
      have H6 := Lib.hid (show Below w.heap.size w w6 from H2.out.trans (hb6.mono (by omega)))
      have hgl := hW.1.lt
      have hml := hW.2.1.lt
      have hz6 := hb6.size
      have hgw : w.heap.size ≤ g := by omega
      have hmw : w.heap.size ≤ mb := by omega
      have hgm := hW.2.1.ne hW.1
      have HW6 := Lib.hid (show BlksR w6 (fun b => b ≠ g ∧ b ≠ mb ∧ b < w6.heap.size) LA ln bs ∧ WOne w6 g mb LA ln lc ws0 from ⟨hW.2.2, hW.1, hW.2.1⟩)
      clear hb6 hg hm hW
      go_upto_region 11 with fail
      go_loopw [8] (fun x wr => ∃ (i : Nat) (s : WS), x = .int .i64 (i : Int) ∧ i ≤ 20 ∧ s.ok bs ∧ WOne wr g mb LA ln lc s ∧ Mv w6 wr g mb) (fun x _ => 20 - (intOf x).toNat)
      case atStart => exact ⟨0, ws0, rfl, by omega, ws0_ok _, HW6.out.2, Mv.refl _ _ _⟩
      case round =>
        obtain ⟨i, s, rfl, hi, hok, hO, hM⟩ := hrel
        have hi0 : (0 : Int) ≤ (i : Int) := Int.natCast_nonneg _
        by_cases hlt : (i : Int) < n ∧ i < 20
        · obtain ⟨h1, h2⟩ := hlt
          have h2I : (i : Int) < (20 : Int) := by omega
          have hwi : IntKind.i64.wrap ((i : Int) + 1) = (i : Int) + 1 := by rw [IntKind.wrap_i64]; omega
          have hnx := next_any wr g mb LA ln lc bs s (at_of HW6.out.1 hM hO.1 hO.2 (.inl rfl) (.inl rfl)) hok HF.out.1
          have hok2 := nextS_ok HF.out.1 hok
          have HS := Lib.hid (And.intro hok2 hM)
          clear hok hO hM hok2
          by_cases hn20 : 20 < n
          · go_wp2_with fail
            refine hnx.mono ?_
            rintro x v1 ⟨rfl, hW1, hM1⟩
            have HV := Lib.hid (show WOne v1 g mb LA ln lc (nextS bs s).2 ∧ Mv w6 v1 g mb from ⟨⟨hW1.1, hW1.2.1⟩, HS.out.2.trans hM1⟩)
            clear hnx hW1 hM1
            go_wp2
            go_roundw
            case rel => exact ⟨i + 1, _, by go_num, by omega, HS.out.1, HV.out.1, HV.out.2⟩
            case measure => simp [intOf]; omega
          · go_wp2_with fail
            refine hnx.mono ?_
            rintro x v1 ⟨rfl, hW1, hM1⟩
            have HV := Lib.hid (show WOne v1 g mb LA ln lc (nextS bs s).2 ∧ Mv w6 v1 g mb from ⟨⟨hW1.1, hW1.2.1⟩, HS.out.2.trans hM1⟩)
            clear hnx hW1 hM1
            go_wp2
            go_roundw
            case rel => exact ⟨i + 1, _, by go_num, by omega, HS.out.1, HV.out.1, HV.out.2⟩
            case measure => simp [intOf]; omega
        · have HO := Lib.hid (And.intro hok (And.intro hO hM))
          have hwz := at_of HW6.out.1 hM hO.1 hO.2 (.inl rfl) (.inl rfl)
          clear hok hO hM
          have hcp := copy_any wr g mb LA ln lc bs s hwz
          have hwgl := hwz.1.lt
          have hwml := hwz.2.1.lt
          clear hwz
          have hz7 := HO.out.2.2.size
          by_cases hn20 : 20 < n
          · obtain rfl : i = 20 := by omega
            clear hlt hi
            go_wp2_with fail
            refine hcp.mono ?_
            rintro x w7 ⟨g1, m1, rfl, hg1, hm1, hB7, hT7, hb7⟩
            clear hcp
            have hz8 := hb7.size
            have H7 := Lib.hid (show WOne w7 g mb LA ln lc s ∧ WOne w7 g1 m1 LA ln lc s ∧ Mv w6 w7 g mb from ⟨⟨HO.out.2.1.1.below hb7 hwgl, HO.out.2.1.2.kept (hb7.block mb hwml)⟩, ⟨hB7, hT7⟩, HO.out.2.2.trans (Mv.of_below hb7)⟩)
            clear hB7 hT7 hb7
            have hcp := copy_any w7 g mb LA ln lc bs s (at_of HW6.out.1 H7.out.2.2 H7.out.1.1 H7.out.1.2 (.inl rfl) (.inl rfl))
            have g1l := H7.out.2.1.1.lt
            have m1l := H7.out.2.1.2.lt
            have gm1 := TkAt.ne H7.out.2.1.2 H7.out.2.1.1
            go_wp2_with fail
            refine hcp.mono ?_
            rintro x w8 ⟨g2, m2, rfl, hg2, hm2, hB8, hT8, hb8⟩
            clear hcp
            have H8 := Lib.hid (show WOne w8 g mb LA ln lc s ∧ WOne w8 g1 m1 LA ln lc s ∧ WOne w8 g2 m2 LA ln lc s ∧ Mv w6 w8 g mb from ⟨⟨H7.out.1.1.below hb8 (by omega), H7.out.1.2.kept (hb8.block mb (by omega))⟩, ⟨H7.out.2.1.1.below hb8 g1l, H7.out.2.1.2.kept (hb8.block m1 m1l)⟩, ⟨hB8, hT8⟩, H7.out.2.2.trans (Mv.of_below hb8)⟩)
            have gm2 := TkAt.ne hT8 hB8
            clear hB8 hT8 hb8
            have HNE := Lib.hid (show (g ≠ g1 ∧ g ≠ m1 ∧ mb ≠ g1 ∧ mb ≠ m1) ∧ (g2 ≠ g1 ∧ g2 ≠ m1 ∧ m2 ≠ g1 ∧ m2 ≠ m1) ∧ (g ≠ g2 ∧ g ≠ m2 ∧ mb ≠ g2 ∧ mb ≠ m2) ∧ w6.heap.size ≤ g1 ∧ w6.heap.size ≤ m1 ∧ w6.heap.size ≤ g2 ∧ w6.heap.size ≤ m2 from by refine ⟨⟨?_, ?_, ?_, ?_⟩, ⟨?_, ?_, ?_, ?_⟩, ⟨?_, ?_, ?_, ?_⟩, ?_, ?_, ?_, ?_⟩ <;> omega)
            clear hg1 hm1 hg2 hm2 gm1 gm2
            go_upto_region 16 with fail
            go_loopw [11] (fun x wr => ∃ (i : Nat) (s1 : WS), x = .int .i64 (i : Int) ∧ i ≤ 5 ∧ s1.ok bs ∧ WOne wr g mb LA ln lc s ∧ WOne wr g1 m1 LA ln lc s1 ∧ WOne wr g2 m2 LA ln lc s ∧ Mv w6 wr g mb) (fun x _ => 5 - (intOf x).toNat)
            case atStart => exact ⟨0, s, rfl, by omega, HO.out.1, H8.out.1, H8.out.2.1, H8.out.2.2.1, H8.out.2.2.2⟩
            case round =>
              obtain ⟨i, s1, rfl, hi, hok, hO, hO1, hO2, hM⟩ := hrel
              have hi0 : (0 : Int) ≤ (i : Int) := Int.natCast_nonneg _
              by_cases hi5 : i < 5
              · have hiI : (i : Int) < (5 : Int) := by omega
                have hwi : IntKind.i64.wrap ((i : Int) + 1) = (i : Int) + 1 := by rw [IntKind.wrap_i64]; omega
                have hnx := next_any wr g1 m1 LA ln lc bs s1 (at_of HW6.out.1 hM hO1.1 hO1.2 (.inr HNE.out.2.2.2.1) (.inr HNE.out.2.2.2.2.1)) hok HF.out.1
                have hok2 := nextS_ok HF.out.1 hok
                have HS := Lib.hid (And.intro hok2 (And.intro hO (And.intro hO2 hM)))
                clear hok hO hO1 hO2 hM hok2
                go_wp2_with fail
                refine hnx.mono ?_
                rintro x v1 ⟨rfl, hW1, hM1⟩
                clear hnx
                have hhe := heard_any v1 g1 m1 LA ln lc bs _ hW1
                have HV := Lib.hid (show WOne v1 g mb LA ln lc s ∧ WOne v1 g2 m2 LA ln lc s ∧ Mv w6 v1 g mb from ⟨HS.out.2.1.mv hM1 ⟨HNE.out.1.1, HNE.out.1.2.1⟩ ⟨HNE.out.1.2.2.1, HNE.out.1.2.2.2⟩, HS.out.2.2.1.mv hM1 ⟨HNE.out.2.1.1, HNE.out.2.1.2.1⟩ ⟨HNE.out.2.1.2.2.1, HNE.out.2.1.2.2.2⟩, HS.out.2.2.2.over hM1 (.inr HNE.out.2.2.2.1) (.inr HNE.out.2.2.2.2.1)⟩)
                clear hW1 hM1
                go_wp2_with fail
                refine hhe.mono ?_
                rintro x v2 ⟨⟨v, rfl⟩, hW2, hM2⟩
                clear hhe
                have HV2 := Lib.hid (show WOne v2 g mb LA ln lc s ∧ WOne v2 g1 m1 LA ln lc (heardS (nextS bs s1).2) ∧ WOne v2 g2 m2 LA ln lc s ∧ Mv w6 v2 g mb from ⟨HV.out.1.mv hM2 ⟨HNE.out.1.1, HNE.out.1.2.1⟩ ⟨HNE.out.1.2.2.1, HNE.out.1.2.2.2⟩, ⟨hW2.1, hW2.2.1⟩, HV.out.2.1.mv hM2 ⟨HNE.out.2.1.1, HNE.out.2.1.2.1⟩ ⟨HNE.out.2.1.2.2.1, HNE.out.2.1.2.2.2⟩, HV.out.2.2.over hM2 (.inr HNE.out.2.2.2.1) (.inr HNE.out.2.2.2.2.1)⟩)
                clear hW2 hM2
                go_wp2
                go_roundw
                case rel => exact ⟨i + 1, _, by go_num, by omega, heardS_ok HS.out.1, HV2.out.1, HV2.out.2.1, HV2.out.2.2.1, HV2.out.2.2.2⟩
                case measure => simp [intOf]; omega
              · obtain rfl : i = 5 := by omega
                have HS := Lib.hid (And.intro hO (And.intro hO2 hM))
                clear hok hO hO1 hO2 hM
                rw [show ((5 : Nat) : Int) = 5 from rfl]
                go_upto_region 21 with fail
                go_loopw [12] (fun x wr => ∃ (i : Nat) (s : WS), x = .int .i64 (i : Int) ∧ i ≤ 10 ∧ s.ok bs ∧ WOne wr g mb LA ln lc s ∧ WOne wr g2 m2 LA ln lc s ∧ Mv w6 wr g mb) (fun x _ => 10 - (intOf x).toNat)
                case atStart => exact ⟨0, s, rfl, by omega, HO.out.1, HS.out.1, HS.out.2.1, HS.out.2.2⟩
                case round =>
                  obtain ⟨i, s, rfl, hi, hok, hO, hO2, hM⟩ := hrel
                  have hi0 : (0 : Int) ≤ (i : Int) := Int.natCast_nonneg _
                  by_cases hi9 : i < 10
                  · have hiI : (i : Int) < (10 : Int) := by omega
                    have hwi : IntKind.i64.wrap ((i : Int) + 1) = (i : Int) + 1 := by rw [IntKind.wrap_i64]; omega
                    have hnx := next_any wr g mb LA ln lc bs s (at_of HW6.out.1 hM hO.1 hO.2 (.inl rfl) (.inl rfl)) hok HF.out.1
                    have hok2 := nextS_ok HF.out.1 hok
                    obtain ⟨s', hs'⟩ : ∃ s', s' = (nextS bs s).2 := ⟨_, rfl⟩
                    obtain ⟨tl, htl⟩ : ∃ tl, tl = (nextS bs s).1 := ⟨_, rfl⟩
                    rw [← hs', ← htl] at hnx
                    rw [← hs'] at hok2
                    obtain ⟨tk, tb, te⟩ := tl
                    simp only [stepV] at hnx
                    have HS := Lib.hid (And.intro hok2 (And.intro hO2 (And.intro hM (And.intro hs' (And.intro htl hok)))))
                    clear hok hO hO2 hM hok2 hs' htl
                    go_wp2_with fail
                    refine hnx.mono ?_
                    rintro x v1 ⟨rfl, hW1, hM1⟩
                    clear hnx
                    have HV := Lib.hid (show WOne v1 g mb LA ln lc s' ∧ WOne v1 g2 m2 LA ln lc s ∧ Mv w6 v1 g mb from ⟨⟨hW1.1, hW1.2.1⟩, HS.out.2.1.mv hM1 ⟨HNE.out.2.2.1.1.symm, HNE.out.2.2.1.2.2.1.symm⟩ ⟨HNE.out.2.2.1.2.1.symm, HNE.out.2.2.1.2.2.2.symm⟩, HS.out.2.2.1.trans hM1⟩)
                    clear hW1 hM1
                    have hnx := next_any v1 g2 m2 LA ln lc bs s (at_of HW6.out.1 HV.out.2.2 HV.out.2.1.1 HV.out.2.1.2 (.inr HNE.out.2.2.2.2.2.1) (.inr HNE.out.2.2.2.2.2.2)) HS.out.2.2.2.2.2 HF.out.1
                    rw [← HS.out.2.2.2.1, ← HS.out.2.2.2.2.1] at hnx
                    simp only [stepV] at hnx
                    go_wp2_with fail
                    refine hnx.mono ?_
                    rintro x v2 ⟨rfl, hW2, hM2⟩
                    clear hnx
                    have HV2 := Lib.hid (show WOne v2 g mb LA ln lc s' ∧ WOne v2 g2 m2 LA ln lc s' ∧ Mv w6 v2 g mb from ⟨HV.out.1.mv hM2 ⟨HNE.out.2.2.1.1, HNE.out.2.2.1.2.1⟩ ⟨HNE.out.2.2.1.2.2.1, HNE.out.2.2.1.2.2.2⟩, ⟨hW2.1, hW2.2.1⟩, HV.out.2.2.over hM2 (.inr HNE.out.2.2.2.2.2.1) (.inr HNE.out.2.2.2.2.2.2)⟩)
                    clear hW2 hM2
                    go_wp2
                    go_roundw
                    case rel => exact ⟨i + 1, s', by go_num, by omega, HS.out.1, HV2.out.1, HV2.out.2.1, HV2.out.2.2⟩
                    case measure => simp [intOf]; omega
                  · obtain rfl : i = 10 := by omega
                    have HZ := Lib.hid (show Below w.heap.size w wr from H6.out.trans (hM.below H6.out.size hgw hmw))
                    clear hok hO hO2 hM
                    have hlv := lives_any wr
                    go_wp2_with fail
                    refine hlv.mono ?_
                    rintro x w9 ⟨rfl, hb9⟩
                    have HY := Lib.hid (bthen HZ.out hb9)
                    clear hlv hb9
                    go_wp2
                    go_ret
                    exact ⟨rfl, HY.out⟩
          · have hnot : ¬ (i : Int) < n := by omega
            clear hlt hi
            go_wp2_with fail
            refine hcp.mono ?_
            rintro x w7 ⟨g1, m1, rfl, hg1, hm1, hB7, hT7, hb7⟩
            clear hcp
            have hz8 := hb7.size
            have H7 := Lib.hid (show WOne w7 g mb LA ln lc s ∧ WOne w7 g1 m1 LA ln lc s ∧ Mv w6 w7 g mb from ⟨⟨HO.out.2.1.1.below hb7 hwgl, HO.out.2.1.2.kept (hb7.block mb hwml)⟩, ⟨hB7, hT7⟩, HO.out.2.2.trans (Mv.of_below hb7)⟩)
            clear hB7 hT7 hb7
            have hcp := copy_any w7 g mb LA ln lc bs s (at_of HW6.out.1 H7.out.2.2 H7.out.1.1 H7.out.1.2 (.inl rfl) (.inl rfl))
            have g1l := H7.out.2.1.1.lt
            have m1l := H7.out.2.1.2.lt
            have gm1 := TkAt.ne H7.out.2.1.2 H7.out.2.1.1
            go_wp2_with fail
            refine hcp.mono ?_
            rintro x w8 ⟨g2, m2, rfl, hg2, hm2, hB8, hT8, hb8⟩
            clear hcp
            have H8 := Lib.hid (show WOne w8 g mb LA ln lc s ∧ WOne w8 g1 m1 LA ln lc s ∧ WOne w8 g2 m2 LA ln lc s ∧ Mv w6 w8 g mb from ⟨⟨H7.out.1.1.below hb8 (by omega), H7.out.1.2.kept (hb8.block mb (by omega))⟩, ⟨H7.out.2.1.1.below hb8 g1l, H7.out.2.1.2.kept (hb8.block m1 m1l)⟩, ⟨hB8, hT8⟩, H7.out.2.2.trans (Mv.of_below hb8)⟩)
            have gm2 := TkAt.ne hT8 hB8
            clear hB8 hT8 hb8
            have HNE := Lib.hid (show (g ≠ g1 ∧ g ≠ m1 ∧ mb ≠ g1 ∧ mb ≠ m1) ∧ (g2 ≠ g1 ∧ g2 ≠ m1 ∧ m2 ≠ g1 ∧ m2 ≠ m1) ∧ (g ≠ g2 ∧ g ≠ m2 ∧ mb ≠ g2 ∧ mb ≠ m2) ∧ w6.heap.size ≤ g1 ∧ w6.heap.size ≤ m1 ∧ w6.heap.size ≤ g2 ∧ w6.heap.size ≤ m2 from by refine ⟨⟨?_, ?_, ?_, ?_⟩, ⟨?_, ?_, ?_, ?_⟩, ⟨?_, ?_, ?_, ?_⟩, ?_, ?_, ?_, ?_⟩ <;> omega)
            clear hg1 hm1 hg2 hm2 gm1 gm2
            go_upto_region 16 with fail
            go_loopw [11] (fun x wr => ∃ (i : Nat) (s1 : WS), x = .int .i64 (i : Int) ∧ i ≤ 5 ∧ s1.ok bs ∧ WOne wr g mb LA ln lc s ∧ WOne wr g1 m1 LA ln lc s1 ∧ WOne wr g2 m2 LA ln lc s ∧ Mv w6 wr g mb) (fun x _ => 5 - (intOf x).toNat)
            case atStart => exact ⟨0, s, rfl, by omega, HO.out.1, H8.out.1, H8.out.2.1, H8.out.2.2.1, H8.out.2.2.2⟩
            case round =>
              obtain ⟨i, s1, rfl, hi, hok, hO, hO1, hO2, hM⟩ := hrel
              have hi0 : (0 : Int) ≤ (i : Int) := Int.natCast_nonneg _
              by_cases hi5 : i < 5
              · have hiI : (i : Int) < (5 : Int) := by omega
                have hwi : IntKind.i64.wrap ((i : Int) + 1) = (i : Int) + 1 := by rw [IntKind.wrap_i64]; omega
                have hnx := next_any wr g1 m1 LA ln lc bs s1 (at_of HW6.out.1 hM hO1.1 hO1.2 (.inr HNE.out.2.2.2.1) (.inr HNE.out.2.2.2.2.1)) hok HF.out.1
                have hok2 := nextS_ok HF.out.1 hok
                have HS := Lib.hid (And.intro hok2 (And.intro hO (And.intro hO2 hM)))
                clear hok hO hO1 hO2 hM hok2
                go_wp2_with fail
                refine hnx.mono ?_
                rintro x v1 ⟨rfl, hW1, hM1⟩
                clear hnx
                have hhe := heard_any v1 g1 m1 LA ln lc bs _ hW1
                have HV := Lib.hid (show WOne v1 g mb LA ln lc s ∧ WOne v1 g2 m2 LA ln lc s ∧ Mv w6 v1 g mb from ⟨HS.out.2.1.mv hM1 ⟨HNE.out.1.1, HNE.out.1.2.1⟩ ⟨HNE.out.1.2.2.1, HNE.out.1.2.2.2⟩, HS.out.2.2.1.mv hM1 ⟨HNE.out.2.1.1, HNE.out.2.1.2.1⟩ ⟨HNE.out.2.1.2.2.1, HNE.out.2.1.2.2.2⟩, HS.out.2.2.2.over hM1 (.inr HNE.out.2.2.2.1) (.inr HNE.out.2.2.2.2.1)⟩)
                clear hW1 hM1
                go_wp2_with fail
                refine hhe.mono ?_
                rintro x v2 ⟨⟨v, rfl⟩, hW2, hM2⟩
                clear hhe
                have HV2 := Lib.hid (show WOne v2 g mb LA ln lc s ∧ WOne v2 g1 m1 LA ln lc (heardS (nextS bs s1).2) ∧ WOne v2 g2 m2 LA ln lc s ∧ Mv w6 v2 g mb from ⟨HV.out.1.mv hM2 ⟨HNE.out.1.1, HNE.out.1.2.1⟩ ⟨HNE.out.1.2.2.1, HNE.out.1.2.2.2⟩, ⟨hW2.1, hW2.2.1⟩, HV.out.2.1.mv hM2 ⟨HNE.out.2.1.1, HNE.out.2.1.2.1⟩ ⟨HNE.out.2.1.2.2.1, HNE.out.2.1.2.2.2⟩, HV.out.2.2.over hM2 (.inr HNE.out.2.2.2.1) (.inr HNE.out.2.2.2.2.1)⟩)
                clear hW2 hM2
                go_wp2
                go_roundw
                case rel => exact ⟨i + 1, _, by go_num, by omega, heardS_ok HS.out.1, HV2.out.1, HV2.out.2.1, HV2.out.2.2.1, HV2.out.2.2.2⟩
                case measure => simp [intOf]; omega
              · obtain rfl : i = 5 := by omega
                have HS := Lib.hid (And.intro hO (And.intro hO2 hM))
                clear hok hO hO1 hO2 hM
                rw [show ((5 : Nat) : Int) = 5 from rfl]
                go_upto_region 21 with fail
                go_loopw [12] (fun x wr => ∃ (i : Nat) (s : WS), x = .int .i64 (i : Int) ∧ i ≤ 10 ∧ s.ok bs ∧ WOne wr g mb LA ln lc s ∧ WOne wr g2 m2 LA ln lc s ∧ Mv w6 wr g mb) (fun x _ => 10 - (intOf x).toNat)
                case atStart => exact ⟨0, s, rfl, by omega, HO.out.1, HS.out.1, HS.out.2.1, HS.out.2.2⟩
                case round =>
                  obtain ⟨i, s, rfl, hi, hok, hO, hO2, hM⟩ := hrel
                  have hi0 : (0 : Int) ≤ (i : Int) := Int.natCast_nonneg _
                  by_cases hi9 : i < 10
                  · have hiI : (i : Int) < (10 : Int) := by omega
                    have hwi : IntKind.i64.wrap ((i : Int) + 1) = (i : Int) + 1 := by rw [IntKind.wrap_i64]; omega
                    have hnx := next_any wr g mb LA ln lc bs s (at_of HW6.out.1 hM hO.1 hO.2 (.inl rfl) (.inl rfl)) hok HF.out.1
                    have hok2 := nextS_ok HF.out.1 hok
                    obtain ⟨s', hs'⟩ : ∃ s', s' = (nextS bs s).2 := ⟨_, rfl⟩
                    obtain ⟨tl, htl⟩ : ∃ tl, tl = (nextS bs s).1 := ⟨_, rfl⟩
                    rw [← hs', ← htl] at hnx
                    rw [← hs'] at hok2
                    obtain ⟨tk, tb, te⟩ := tl
                    simp only [stepV] at hnx
                    have HS := Lib.hid (And.intro hok2 (And.intro hO2 (And.intro hM (And.intro hs' (And.intro htl hok)))))
                    clear hok hO hO2 hM hok2 hs' htl
                    go_wp2_with fail
                    refine hnx.mono ?_
                    rintro x v1 ⟨rfl, hW1, hM1⟩
                    clear hnx
                    have HV := Lib.hid (show WOne v1 g mb LA ln lc s' ∧ WOne v1 g2 m2 LA ln lc s ∧ Mv w6 v1 g mb from ⟨⟨hW1.1, hW1.2.1⟩, HS.out.2.1.mv hM1 ⟨HNE.out.2.2.1.1.symm, HNE.out.2.2.1.2.2.1.symm⟩ ⟨HNE.out.2.2.1.2.1.symm, HNE.out.2.2.1.2.2.2.symm⟩, HS.out.2.2.1.trans hM1⟩)
                    clear hW1 hM1
                    have hnx := next_any v1 g2 m2 LA ln lc bs s (at_of HW6.out.1 HV.out.2.2 HV.out.2.1.1 HV.out.2.1.2 (.inr HNE.out.2.2.2.2.2.1) (.inr HNE.out.2.2.2.2.2.2)) HS.out.2.2.2.2.2 HF.out.1
                    rw [← HS.out.2.2.2.1, ← HS.out.2.2.2.2.1] at hnx
                    simp only [stepV] at hnx
                    go_wp2_with fail
                    refine hnx.mono ?_
                    rintro x v2 ⟨rfl, hW2, hM2⟩
                    clear hnx
                    have HV2 := Lib.hid (show WOne v2 g mb LA ln lc s' ∧ WOne v2 g2 m2 LA ln lc s' ∧ Mv w6 v2 g mb from ⟨HV.out.1.mv hM2 ⟨HNE.out.2.2.1.1, HNE.out.2.2.1.2.1⟩ ⟨HNE.out.2.2.1.2.2.1, HNE.out.2.2.1.2.2.2⟩, ⟨hW2.1, hW2.2.1⟩, HV.out.2.2.over hM2 (.inr HNE.out.2.2.2.2.2.1) (.inr HNE.out.2.2.2.2.2.2)⟩)
                    clear hW2 hM2
                    go_wp2
                    go_roundw
                    case rel => exact ⟨i + 1, s', by go_num, by omega, HS.out.1, HV2.out.1, HV2.out.2.1, HV2.out.2.2⟩
                    case measure => simp [intOf]; omega
                  · obtain rfl : i = 10 := by omega
                    have HZ := Lib.hid (show Below w.heap.size w wr from H6.out.trans (hM.below H6.out.size hgw hmw))
                    clear hok hO hO2 hM
                    have hlv := lives_any wr
                    go_wp2_with fail
                    refine hlv.mono ?_
                    rintro x w9 ⟨rfl, hb9⟩
                    have HY := Lib.hid (bthen HZ.out hb9)
                    clear hlv hb9
                    go_wp2
                    go_ret
                    exact ⟨rfl, HY.out⟩
    · have hef : (E == 0) = false := by simpa using he
      clear he
      have hlv := lives_any w2
      go_wp2_with fail
      refine hlv.mono ?_
      rintro x w3 ⟨rfl, hb3⟩
      have H3 := Lib.hid (bthen H2.out hb3)
      clear hlv hb3
      go_wp2
      go_ret
      exact ⟨rfl, H3.out⟩
end Go.Proofs.Ytnmapncgnceldaa
