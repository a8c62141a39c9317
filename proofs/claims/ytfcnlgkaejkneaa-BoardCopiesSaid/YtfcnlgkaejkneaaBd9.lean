/- Layer 11: rows of one byte, ROMs, copies of lists, the picture, the chapter's example. -/
import Derived.Test.YtfcnlgkaejkneaaBd8
namespace Go.Proofs.Ytfcnlgkaejkneaa
open Go.RowKit

theorem u8Info9 : (Try.prog.info? 5).map (fun i => (i.zero, i.size, i.bytes)) = some (some (.int .u8 0), 1, 1) := by kernel_rfl
/-- a row of n bytes, the first i of them v, the others 0 -/
def fillC (v : Int) (i n : Nat) : Array Value := cellsF (fun k => .int .u8 (if k < i then v else 0)) n
theorem fill_set (v : Int) (i n : Nat) : (fillC v i n).setIfInBounds i (.int .u8 v) = fillC v (i + 1) n := by
  unfold fillC
  rw [cellsF_set]
  refine cellsF_congr fun k hk => ?_
  by_cases e : k = i
  · rw [if_pos e, if_pos (by omega)]
  · rw [if_neg e]
    by_cases h : k < i
    · rw [if_pos h, if_pos (by omega)]
    · rw [if_neg h, if_neg (by omega)]
theorem fill_reads {w : World} {g n : Nat} {v : Int} (h : Blk w g 5 (fillC v n n)) : Reads w w.heap.size 1 (some ⟨g, 0, none⟩) n ((List.replicate n v).map (Value.int .u8)) :=
  ⟨by simp, fun _ => ⟨_, rfl, h.lt, fun j u hu => by
    have hj : j < n := by
      rcases Nat.lt_or_ge j n with h9 | h9
      · exact h9
      · rw [List.getElem?_eq_none (by simpa using h9)] at hu; cases hu
    rw [add0, h.cell j, fillC, cellsF_at _ hj, if_pos hj]
    simp only [List.map_replicate, List.getElem?_replicate, hj, if_true] at hu
    exact hu⟩⟩
set_option maxRecDepth 100000 in
theorem make_row (w : World) (n : Nat) (hn : n ≤ 2000000) : (Instr.makeSlice 22 (.int .i64 (n : Int)) (.int .i64 (n : Int))).run Try.prog w = .ok (.slice (some ⟨w.heap.size, 0, none⟩) n n) (w.alloc (.cells (fillC 0 0 n) 5)) := by
  obtain ⟨i0, hi, hz0, hz1, hz2⟩ := info_parts u8Info9
  have h := run_makeSlice (P := Try.prog) w 22 5 i0 (.int .u8 0) Try.underlying22 hi hz0 .i64 .i64 (n : Int) (n : Int) (by omega) (by omega) (by rw [hz1]; omega) (by rw [hz2]; omega) (by omega)
  rw [hz1, show ((n : Int)).toNat = n by omega, Nat.mul_one] at h
  rw [h]
  congr 3
  apply Array.ext'
  rw [show (Value.int .u8 0).cells = #[Value.int .u8 0] from rfl, toList_madeCells_one]
  simp [fillC, cellsF, List.map_const']
set_option maxRecDepth 100000 in
set_option maxHeartbeats 4000000 in
theorem rom_any (w : World) (v : Int) : Calls Try.prog 15 #[.int .u8 v] w fun x w' => x = .returned (.slice (some ⟨w.heap.size, 0, none⟩) 16384 16384) ∧ Blk w' w.heap.size 5 (fillC v 16384 16384) ∧ Below w.heap.size w w' := by
  have hmk := make_row w 16384 (by decide)
  rw [show ((16384 : Nat) : Int) = 16384 from rfl] at hmk
  have hB := Blk.new w 5 (fillC 0 0 16384)
  have hb0 : Below w.heap.size w (w.alloc (.cells (fillC 0 0 16384) 5)) := (Below.refl _ _).alloc (Nat.le_refl _) _
  have HS := Lib.hid (show Blk (w.alloc (.cells (fillC 0 0 16384) 5)) w.heap.size 5 (fillC v 0 16384) ∧ Below w.heap.size w (w.alloc (.cells (fillC 0 0 16384) 5)) from ⟨by
    have e : fillC 0 0 16384 = fillC v 0 16384 := by unfold fillC; exact cellsF_congr fun k _ => by simp
    rw [← e]; exact hB, hb0⟩)
  clear hB hb0
  go_enter Try.func15, Try.ntmps15
  go_upto_region 3 with fail
  clear hmk
  generalize (w.alloc (.cells (fillC 0 0 16384) 5)) = w0 at *
  go_loopw [4] (fun x wr => ∃ i : Nat, x = .int .i64 (i : Int) ∧ i ≤ 16384 ∧ Blk wr w.heap.size 5 (fillC v i 16384) ∧ Below w.heap.size w wr) (fun x _ => 16384 - (intOf x).toNat)
  case atStart => exact ⟨0, rfl, by omega, HS.out.1, HS.out.2⟩
  case round =>
    obtain ⟨i, rfl, hi, hB, hbl⟩ := hrel
    have hi0 : (0 : Int) ≤ (i : Int) := Int.natCast_nonneg _
    by_cases hlt : i < 16384
    · have hiI : (i : Int) < 16384 := by omega
      have hwi : IntKind.i64.wrap ((i : Int) + 1) = (i : Int) + 1 := by rw [IntKind.wrap_i64]; omega
      have c : wr.cell? ⟨w.heap.size, i, none⟩ = some (.int .u8 0) := by
        rw [hB.cell i, fillC, cellsF_at _ hlt, if_neg (by omega)]
      have f := hB.frozen i
      have HX := Lib.hid (show Blk (wr.setCell ⟨w.heap.size, i, none⟩ (.int .u8 v)) w.heap.size 5 (fillC v (i + 1) 16384) ∧ Below w.heap.size w (wr.setCell ⟨w.heap.size, i, none⟩ (.int .u8 v)) from ⟨by rw [← fill_set]; exact hB.set_ i _, hbl.setCell (by show w.heap.size ≤ w.heap.size; omega) _⟩)
      clear hB hbl
      go_wp2
      go_roundw
      case rel => exact ⟨i + 1, by go_num, by omega, HX.out.1, HX.out.2⟩
      case measure => simp [intOf]; omega
    · obtain rfl : i = 16384 := by omega
      have HX := Lib.hid (And.intro hB hbl)
      clear hB hbl
      go_wp2
      go_ret
      exact ⟨rfl, HX.out.1, HX.out.2⟩
set_option maxHeartbeats 1000000 in
theorem cloneA_any (w : World) (n c : Nat) (A : Option Addr) (zs : List Value) (hr : Reads w w.heap.size 4 A n zs) (hone : ∀ u ∈ zs, u.oneCell' = true) (hn : n ≤ 2000000) :
    Calls Try.prog 32 #[.slice A n c] w fun e w' => ∃ V cV, e = .returned (.slice V n cV) ∧ w'.ownsRow w.heap.size 72 4 (.slice V n cV) n zs ∧ Below w.heap.size w w' := by
  obtain ⟨i0, hi, hz0, hz1, hz2⟩ := info_parts actInfo
  rcases A with _ | ad
  · have h0 : n = 0 := by
      rcases Nat.eq_zero_or_pos n with h | h
      · exact h
      · obtain ⟨ad, e, _⟩ := hr.2 h; cases e
    subst h0
    have hz : zs = [] := List.eq_nil_of_length_eq_zero (by have := hr.1; omega)
    subst hz
    have hnil := Lib.run_eql_slice_nil (P := Try.prog) w 33 72 none 0 c 0 0 Try.underlying33
    go_enter Try.func32, Try.ntmps32
    go_wp2
    go_ret
    exact ⟨none, 0, rfl, World.ownsRow_nil _ _ _ _, Below.refl _ _⟩
  · have hnil := Lib.run_eql_slice_nil (P := Try.prog) w 33 72 (some ad) n c 0 0 Try.underlying33
    have hb0 : Below w.heap.size w (w.alloc (.cells #[] 72)) := (Below.refl _ _).alloc (Nat.le_refl _) _
    have hlit : (w.alloc (.cells #[] 72)).ownsRow w.heap.size 72 4 (.slice (some ⟨w.heap.size, 0, none⟩) 0 0) 0 [] := World.ownsRow_lit w #[] 0 (Nat.le_refl _) (by unfold maxLen; omega) rfl
    have hr0 := hr.below hb0
    go_enter Try.func32, Try.ntmps32
    go_wp2_with (first
      | (at_builtin; refine wpList_append_any _ rfl _ _ 33 rfl w.heap.size 72 i0 (.agg #[.int .u64 0, .bool false, .int .u16 0, .int .u8 0]) 4 16 Try.underlying33 hi hz0 hz1 hz2 rfl (by omega) _ 0 [] rfl hlit w.heap.size (some ad) n c zs rfl hr0 hone (by unfold maxLen; omega) (by omega) (by have := hb0.size; omega) ?_)
      | go_in)
    intro v2 w2 own2 hg2 _
    have hb2 : Below w.heap.size w w2 := hb0.grown hg2 hb0.size (fun i hi => by simp [Value.ownBlock] at hi; omega)
    have own3 : w2.ownsRow w.heap.size 72 4 v2 n zs := by simpa using own2
    obtain ⟨A3, c3, rfl⟩ := own_slice own3
    go_wp2
    go_ret
    exact ⟨A3, c3, rfl, own3, hb2⟩
set_option maxHeartbeats 1000000 in
theorem cloneU_any (w : World) (n c : Nat) (A : Option Addr) (zs : List Value) (hr : Reads w w.heap.size 1 A n zs) (hone : ∀ u ∈ zs, u.oneCell' = true) (hn : n ≤ 2000000) :
    Calls Try.prog 33 #[.slice A n c] w fun e w' => ∃ V cV, e = .returned (.slice V n cV) ∧ w'.ownsRow w.heap.size 32 1 (.slice V n cV) n zs ∧ Below w.heap.size w w' := by
  obtain ⟨i0, hi, hz0, hz1, hz2⟩ := info_parts u64Info
  rcases A with _ | ad
  · have h0 : n = 0 := by
      rcases Nat.eq_zero_or_pos n with h | h
      · exact h
      · obtain ⟨ad, e, _⟩ := hr.2 h; cases e
    subst h0
    have hz : zs = [] := List.eq_nil_of_length_eq_zero (by have := hr.1; omega)
    subst hz
    have hnil := Lib.run_eql_slice_nil (P := Try.prog) w 34 32 none 0 c 0 0 Try.underlying34
    go_enter Try.func33, Try.ntmps33
    go_wp2
    go_ret
    exact ⟨none, 0, rfl, World.ownsRow_nil _ _ _ _, Below.refl _ _⟩
  · have hnil := Lib.run_eql_slice_nil (P := Try.prog) w 34 32 (some ad) n c 0 0 Try.underlying34
    have hb0 : Below w.heap.size w (w.alloc (.cells #[] 32)) := (Below.refl _ _).alloc (Nat.le_refl _) _
    have hlit : (w.alloc (.cells #[] 32)).ownsRow w.heap.size 32 1 (.slice (some ⟨w.heap.size, 0, none⟩) 0 0) 0 [] := World.ownsRow_lit w #[] 0 (Nat.le_refl _) (by unfold maxLen; omega) rfl
    have hr0 := hr.below hb0
    go_enter Try.func33, Try.ntmps33
    go_wp2_with (first
      | (at_builtin; refine wpList_append_any _ rfl _ _ 34 rfl w.heap.size 32 i0 (.int .u64 0) 1 8 Try.underlying34 hi hz0 hz1 hz2 rfl (by omega) _ 0 [] rfl hlit w.heap.size (some ad) n c zs rfl hr0 hone (by unfold maxLen; omega) (by omega) (by have := hb0.size; omega) ?_)
      | go_in)
    intro v2 w2 own2 hg2 _
    have hb2 : Below w.heap.size w w2 := hb0.grown hg2 hb0.size (fun i hi => by simp [Value.ownBlock] at hi; omega)
    have own3 : w2.ownsRow w.heap.size 32 1 v2 n zs := by simpa using own2
    obtain ⟨A3, c3, rfl⟩ := own_slice own3
    go_wp2
    go_ret
    exact ⟨A3, c3, rfl, own3, hb2⟩
theorem actV_one (l : List ActD) : ∀ u ∈ actV l, u.oneCell' = true := by
  intro u hu
  obtain ⟨a, _, h⟩ := List.mem_flatMap.1 hu
  simp only [List.mem_cons, List.not_mem_nil, or_false] at h
  rcases h with rfl | rfl | rfl | rfl <;> rfl
theorem bActs_nil (w : World) : Calls Try.prog 10 #[.pointer none] w fun x w' => x = .returned (.slice none 0 0) ∧ w = w' := by
  go_enter Try.func10, Try.ntmps10
  go_wp2
  go_ret
  exact ⟨rfl, rfl⟩
set_option maxRecDepth 100000 in
theorem bActs_any (w : World) (base g : Nat) (b : Bd) (al : List ActD) (es : List Int) (A E : Value) (h : BdAt w base g b al es A E) (hn : al.length ≤ 1000000) :
    Calls Try.prog 10 #[.pointer (some ⟨g, 0, none⟩)] w fun x w' => ∃ V cV, x = .returned (.slice V al.length cV) ∧ w'.ownsRow w.heap.size 72 4 (.slice V al.length cV) al.length (actV al) ∧ Below w.heap.size w w' := by
  have c := h.bd.at_ (i := 65552) (by decide) bd_A
  have hown := h.acts
  obtain ⟨AA, ac, rfl⟩ := own_slice hown
  have hcl := cloneA_any w al.length ac AA _ (Reads.of_own hown) (actV_one al) (by omega)
  clear h hown
  go_enter Try.func10, Try.ntmps10
  go_wp2_with fail
  refine hcl.mono ?_
  rintro x w' ⟨V, cV, rfl, h1, h2⟩
  have HX := Lib.hid (And.intro h1 h2)
  clear hcl h1 h2
  go_wp2
  go_ret
  exact ⟨V, cV, rfl, HX.out.1, HX.out.2⟩
theorem bEdges_nil (w : World) : Calls Try.prog 11 #[.pointer none] w fun x w' => x = .returned (.slice none 0 0) ∧ w = w' := by
  go_enter Try.func11, Try.ntmps11
  go_wp2
  go_ret
  exact ⟨rfl, rfl⟩
set_option maxRecDepth 100000 in
theorem bEdges_any (w : World) (base g : Nat) (b : Bd) (al : List ActD) (es : List Int) (A E : Value) (h : BdAt w base g b al es A E) (hn : es.length ≤ 1000000) :
    Calls Try.prog 11 #[.pointer (some ⟨g, 0, none⟩)] w fun x w' => ∃ V cV, x = .returned (.slice V es.length cV) ∧ w'.ownsRow w.heap.size 32 1 (.slice V es.length cV) es.length (es.map (Value.int .u64)) ∧ Below w.heap.size w w' := by
  have c := h.bd.at_ (i := 65553) (by decide) bd_E
  have hown := h.edges
  obtain ⟨AA, ac, rfl⟩ := own_slice hown
  have hcl := cloneU_any w es.length ac AA _ (Reads.of_own hown) (by intro u hu; obtain ⟨x, _, rfl⟩ := List.mem_map.1 hu; rfl) (by omega)
  clear h hown
  go_enter Try.func11, Try.ntmps11
  go_wp2_with fail
  refine hcl.mono ?_
  rintro x w' ⟨V, cV, rfl, h1, h2⟩
  have HX := Lib.hid (And.intro h1 h2)
  clear hcl h1 h2
  go_wp2
  go_ret
  exact ⟨V, cV, rfl, HX.out.1, HX.out.2⟩
theorem bPic_nil (w : World) : Calls Try.prog 19 #[.pointer none] w fun x w' => x = .returned (.slice none 0 0) ∧ w = w' := by
  go_enter Try.func19, Try.ntmps19
  go_wp2
  go_ret
  exact ⟨rfl, rfl⟩
def picC (b : Bd) : Array Value := cellsF (fun k => .int .u8 (b.seen k)) 12288
set_option maxRecDepth 100000 in
set_option maxHeartbeats 4000000 in
theorem bPic_any (w : World) (g : Nat) (b : Bd) (A E : Value) (h : BdIs w g b A E) :
    Calls Try.prog 19 #[.pointer (some ⟨g, 0, none⟩)] w fun x w' => x = .returned (.slice (some ⟨w.heap.size, 0, none⟩) 12288 12288) ∧ Blk w' w.heap.size 5 (picC b) ∧ Below w.heap.size w w' := by
  have hmk := make_row w 12288 (by decide)
  rw [show ((12288 : Nat) : Int) = 12288 from rfl] at hmk
  have hB := Blk.new w 5 (fillC 0 0 12288)
  have hb0 : Below w.heap.size w (w.alloc (.cells (fillC 0 0 12288) 5)) := (Below.refl _ _).alloc (Nat.le_refl _) _
  have hbd : BdIs (w.alloc (.cells (fillC 0 0 12288) 5)) g b A E := Blk.alloc h _
  have hgl := Blk.lt h
  clear h
  go_enter Try.func19, Try.ntmps19
  go_upto_region 4 with fail
  clear hmk
  generalize (w.alloc (.cells (fillC 0 0 12288) 5)) = w0 at *
  have HC := Lib.hid (show w0.heap[w.heap.size]? = some (.cells (fillC 0 0 12288).toList.toArray 5 (0, 0)) ∧ (picC b).toList.length = Nat.min 12288 12288 ∧ (0 < (picC b).toList.length → some (⟨w.heap.size, 0, none⟩ : Addr) = some ⟨w.heap.size, 0, none⟩ ∧ ∃ ad, some (⟨g, 65554, none⟩ : Addr) = some ad ∧ ∀ j v, (picC b).toList[j]? = some v → w0.cell? (ad.add j) = some v) ∧ 0 + (picC b).toList.length ≤ (fillC 0 0 12288).toList.length ∧ (∀ v ∈ (picC b).toList, v.oneCell' = true) ∧ Below w.heap.size w w0 from
    ⟨hB, by rw [Array.length_toList, picC, cellsF_size]; rfl, fun _ => ⟨rfl, _, rfl, fun j v hv => by
      have hj : j < 12288 := by
        rcases Nat.lt_or_ge j 12288 with h9 | h9
        · exact h9
        · rw [List.getElem?_eq_none (by rw [Array.length_toList, picC, cellsF_size]; exact h9)] at hv; cases hv
      rw [Array.getElem?_toList, picC, cellsF_at _ hj] at hv
      injection hv with hv
      have e : (⟨g, 65554, none⟩ : Addr).add j = ⟨g, 65554 + j, none⟩ := by
        unfold Addr.add
        split
        · next h0 => subst h0; rfl
        · rfl
      rw [e, ← hv]
      exact hbd.at_ (by omega) bd_S⟩, by rw [Array.length_toList, Array.length_toList, picC, fillC, cellsF_size, cellsF_size]; omega, by
      intro v hv
      simp only [picC, cellsF, List.mem_map] at hv
      obtain ⟨i, _, rfl⟩ := hv
      rfl, hb0⟩)
  clear hB hb0 hbd
  go_wp2_with (first
    | (refine wpList_copy_splice rfl (.tmp 7) (.tmp 11) 22 22 rfl 5 Try.underlying22 (by kernel_rfl) (some ⟨w.heap.size, 0, none⟩) (some ⟨g, 65554, none⟩) 12288 12288 12288 12288 rfl rfl w.heap.size 0 _ 5 HC.out.1 (picC b).toList HC.out.2.1 HC.out.2.2.1 HC.out.2.2.2.1 HC.out.2.2.2.2.1 w.heap.size w HC.out.2.2.2.2.2 (Nat.le_refl _) ?_)
    | fail)
  intro w2 hw2 hb2
  have HX := Lib.hid (show Blk w2 w.heap.size 5 (picC b) ∧ Below w.heap.size w w2 from ⟨by
    have := hw2.out
    unfold fillC at this
    rw [cellsF_splice _ _ _ _ (by rw [Array.length_toList, picC, cellsF_size]; omega)] at this
    refine Eq.trans this (congrArg (fun a => some (Obj.cells a 5 (0, 0))) (cellsF_congr fun i hi => ?_))
    rw [if_pos ⟨by omega, by rw [Array.length_toList, picC, cellsF_size]; omega⟩, List.getD_eq_getElem?_getD, Array.getElem?_toList, picC, cellsF_at _ (by omega)]
    rfl, hb2⟩)
  clear hw2 hb2
  go_wp2
  go_ret
  exact ⟨rfl, HX.out.1, HX.out.2⟩

set_option maxRecDepth 100000 in
theorem lay7 : (newB (frameS 0) (List.replicate 16384 7) []).M 3 = 7 := by
  show layM (layM (fun _ => 0) 0 (List.replicate 16384 7)) 16384 [] 3 = 7
  unfold layM
  rw [if_neg (by simp), if_pos (by rw [List.length_replicate]; omega), List.getD_eq_getElem?_getD, List.getElem?_replicate, if_pos (by omega)]
  rfl
set_option maxRecDepth 100000 in
theorem in7 (b : Bd) (hK : b.K = fun _ => 0) (he : b.ear = false) : inV b 65278 = 191 := by
  unfold inV
  rw [if_neg (by decide), hK, he]
  decide +kernel
set_option maxRecDepth 100000 in
set_option maxHeartbeats 4000000 in
theorem lives_any (w : World) : Calls Try.prog 8 #[] w fun x w' => x = .returned (.bool true) ∧ Below w.heap.size w w' := by
  have hro := rom_any w 7
  go_enter Try.func8, Try.ntmps8
  go_wp2_with fail
  refine hro.mono ?_
  rintro x w1 ⟨rfl, hB1, hb1⟩
  clear hro
  have hs1 := hb1.size
  have hnw := bNew_any w1 (some ⟨w.heap.size, 0, none⟩) none 16384 0 0 0 (by decide) (by decide) (List.replicate 16384 7) [] (fill_reads hB1) Reads.none_ (by decide)
  have H1 := Lib.hid hb1
  clear hB1 hb1
  go_wp2_with fail
  refine hnw.mono ?_
  rintro x w2 ⟨g, rfl, hg, hB, hb2⟩
  clear hnw
  have hs2 := hb2.size
  have H2 := Lib.hid (H1.out.trans (hb2.mono hs1))
  have hbw : w.heap.size ≤ w2.heap.size := by omega
  have hat : BdAt w2 w.heap.size g (newB (frameS 0) (List.replicate 16384 7) []) [] [] (.slice none 0 0) (.slice none 0 0) := ⟨hB, World.ownsRow_nil _ _ _ _, World.ownsRow_nil _ _ _ _⟩
  have hin := in_even w2 w.heap.size g _ [] [] _ _ 65278 (by decide) (by decide) (by decide) hat (by decide) hbw (fun j => by show (0 : Int) ≤ 0 ∧ (0 : Int) ≤ 31; decide)
  rw [in7 _ rfl rfl] at hin
  clear hat hB hb2
  go_wp2_with fail
  refine hin.mono ?_
  rintro x w3 ⟨A', rfl, hat3, hch3, _⟩
  clear hin
  have hs3 := hch3.size
  have H3 := Lib.hid (show Below w.heap.size w w3 from H2.out.trans (hch3.below hbw (fun k e => by rcases e with rfl | e; omega; simp [Value.ownBlock] at e)))
  have hou := out_even w3 w.heap.size g _ _ _ _ _ 254 13 (by decide) (by decide) (by decide) (by decide) (by decide) hat3 (by decide) (by decide) (by omega)
  have HA := Lib.hid hat3
  clear hat3 hch3
  go_wp2_with fail
  refine hou.mono ?_
  rintro x w4 ⟨u, A4, E4, rfl, hat4, hch4, _, _⟩
  clear hou
  have H4 := Lib.hid (show Below w.heap.size w w4 from H3.out.trans (hch4.below (by omega) (fun k e => by
    rcases e with rfl | e | e
    · omega
    · exact (HA.out.acts.lt k e).1
    · exact (HA.out.edges.lt k e).1)))
  have hbo := bBorder_any w4 g _ _ _ hat4.bd
  have hmi := bMic_any w4 g _ _ _ hat4.bd
  have hre := bRead_any w4 g _ _ _ 3 (by decide) hat4.bd
  rw [show (outB (newB (frameS 0) (List.replicate 16384 7) []) 13).bo = 5 from rfl] at hbo
  rw [show (outB (newB (frameS 0) (List.replicate 16384 7) []) 13).mic = true from rfl] at hmi
  rw [show (outB (newB (frameS 0) (List.replicate 16384 7) []) 13).M 3 = 7 from lay7, show ((3 : Nat) : Int) = 3 from rfl] at hre
  clear hat4 hch4
  go_wp2_with fail
  refine hbo.mono ?_
  rintro x w' ⟨rfl, rfl⟩
  clear hbo
  go_wp2_with fail
  refine hmi.mono ?_
  rintro x w' ⟨rfl, rfl⟩
  clear hmi
  go_wp2_with fail
  refine hre.mono ?_
  rintro x w' ⟨rfl, rfl⟩
  clear hre
  go_wp2
  go_ret
  exact ⟨rfl, H4.out⟩
end Go.Proofs.Ytfcnlgkaejkneaa
