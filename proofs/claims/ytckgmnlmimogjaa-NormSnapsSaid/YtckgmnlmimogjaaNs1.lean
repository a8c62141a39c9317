/- Layer 23 for 27: the edges of a block of bytes, as the document has them. -/
import Derived.Test.YtckgmnlmimogjaaNk9
import Derived.Test.YtckgmnlmimogjaaBits
namespace Go.Proofs.Ytckgmnlmimogjaa
open Go.RowKit

def flE (l : List Int) : List Value := fl (l.map fun z => (0, z))
theorem flE_app (a b : List Int) : flE (a ++ b) = flE a ++ flE b := by unfold flE; rw [List.map_append, fl_app]
theorem flE_one (z : Int) : flE [z] = [.int .i64 0, .int .i64 z] := rfl
theorem edgeInfo : (Try.prog.info? 58).map (fun i => (i.zero, i.size, i.bytes)) = some (some (.agg #[.int .i64 0, .int .i64 0]), 2, 16) := by kernel_rfl
/-- a slice that has grown: its own block, and what was there before -/
def Grew (w w' : World) (V V' : Value) : Prop := w.grownBy w' V.ownBlock ∧ (V'.ownBlock = V.ownBlock ∨ ∃ g, V'.ownBlock = some g ∧ w.heap.size ≤ g)
theorem Grew.refl (w : World) (V : Value) : Grew w w V V := ⟨World.grownBy.refl _ _, .inl rfl⟩
theorem Grew.step {w w1 w2 : World} {V V1 V2 : Value} (h : Grew w w1 V V1) (hg : w1.grownBy w2 V1.ownBlock) (hv : V2.ownBlock = V1.ownBlock ∨ ∃ g, V2.ownBlock = some g ∧ w1.heap.size ≤ g) : Grew w w2 V V2 := by
  obtain ⟨h1, h2⟩ := h
  have hs := h1.size
  refine ⟨⟨hg.os.trans h1.os, hg.tape.trans h1.tape, hg.output.trans h1.output, Nat.le_trans hs hg.size, fun k hk hr => (hg.block k (by omega) (fun e => ?_)).trans (h1.block k hk hr)⟩, ?_⟩
  · rcases h2 with h2 | ⟨g, h2, h3⟩
    · rw [h2] at e; exact hr e
    · rw [h2] at e; injection e with e; omega
  · rcases hv with hv | ⟨g, hv, h4⟩
    · rw [hv]; exact h2
    · exact .inr ⟨g, hv, by omega⟩
theorem Grew.trans {w w1 w2 : World} {V V1 V2 : Value} (h : Grew w w1 V V1) (h' : Grew w1 w2 V1 V2) : Grew w w2 V V2 := h.step h'.1 h'.2
theorem Grew.below {w w' : World} {V V' : Value} {B : Nat} (h : Grew w w' V V') (hB : B ≤ w.heap.size) (hV : ∀ g, V.ownBlock = some g → B ≤ g) : Below B w w' := ((Below.refl B w).grown h.1 hB hV)
theorem alloc_grew {w : World} (o : Obj) (r : Option Nat) {w2 : World} (h : (w.alloc o).grownBy w2 r) : w.grownBy w2 r := by
  have h1 := World.grownBy_alloc w o r
  exact ⟨h.os.trans h1.os, h.tape.trans h1.tape, h.output.trans h1.output, Nat.le_trans h1.size h.size, fun k hk hr => (h.block k (Nat.lt_of_lt_of_le hk h1.size) hr).trans (h1.block k hk hr)⟩

set_option maxRecDepth 100000 in
set_option maxHeartbeats 4000000 in
theorem turnsE_any (w : World) (base : Nat) (V : Value) (many L : Nat) (n : Int) (ls : List Int) (hL : L = ls.length) (hown : w.ownsRow base 58 2 V L (flE ls)) (hb : base ≤ w.heap.size) (hm : L + many ≤ 100000) :
    Calls Try.prog 33 #[V, .int .i64 many, .int .i64 n] w fun e w' => ∃ V', e = .returned V' ∧ w'.ownsRow base 58 2 V' (L + many) (flE (ls ++ List.replicate many n)) ∧ Grew w w' V V' := by
  obtain ⟨i0, hi, hz0, hz1, hz2⟩ := info_parts edgeInfo
  have HO := Lib.hid (And.intro hown hL)
  clear hown hL
  go_enter Try.func33, Try.ntmps33
  go_wp2
  go_loopw [0, 7] (fun v i wr => ∃ j : Nat, j ≤ many ∧ i = .int .i64 j ∧ wr.ownsRow base 58 2 v (L + j) (flE (ls ++ List.replicate j n)) ∧ Grew w wr V v) (fun _ i _ => many - (intOf i).toNat)
  case atStart => exact ⟨0, by omega, rfl, by simpa using HO.out.1, Grew.refl _ _⟩
  case round =>
    obtain ⟨j, hjm, rfl, hown, hgr⟩ := hrel
    have hj0 : (0 : Int) ≤ (j : Int) := Int.natCast_nonneg _
    by_cases hlt : j < many
    · have hjI : (j : Int) < (many : Int) := by omega
      have hwj : IntKind.i64.wrap ((j : Int) + 1) = (j : Int) + 1 := by rw [IntKind.wrap_i64]; omega
      have hsz := hgr.1.size
      have hown9 := hown.alloc (.cells #[.int .i64 0, .int .i64 n] 58)
      have HC := Lib.hid (And.intro (show Reads (wr.alloc (.cells #[.int .i64 0, .int .i64 n] 58)) (wr.heap.size + 1) 2 (some ⟨wr.heap.size, 0, none⟩) 1 [.int .i64 0, .int .i64 n] from ⟨rfl, fun _ => ⟨_, rfl, by show wr.heap.size < wr.heap.size + 1; omega, lit_cells wr [.int .i64 0, .int .i64 n] 58⟩⟩) (And.intro (show ∀ u ∈ [Value.int .i64 0, Value.int .i64 n], u.oneCell' = true by intro u hu; simp at hu; rcases hu with rfl | rfl <;> rfl) (And.intro (show L + j + 1 ≤ maxLen by unfold maxLen; omega) (And.intro (show (L + j + 1) * 16 ≤ 140737488355328 by omega) (show base ≤ (wr.alloc (.cells #[.int .i64 0, .int .i64 n] 58)).heap.size by simp; omega)))))
      have HG := Lib.hid hgr
      clear hown hgr
      go_wp2_with (first
        | (at_builtin; refine wpList_append_any _ rfl _ _ 53 rfl base 58 i0 (.agg #[.int .i64 0, .int .i64 0]) 2 16 Try.underlying53 hi hz0 hz1 hz2 rfl (by decide) _ (L + j) _ rfl hown9 (wr.heap.size + 1) (some ⟨wr.heap.size, 0, none⟩) 1 1 [.int .i64 0, .int .i64 n] rfl HC.out.1 HC.out.2.1 HC.out.2.2.1 HC.out.2.2.2.1 HC.out.2.2.2.2 ?_)
        | fail)
      intro v' w1 own1 hg1 hv1
      have H1 := Lib.hid (show w1.ownsRow base 58 2 v' (L + (j + 1)) (flE (ls ++ List.replicate (j + 1) n)) ∧ Grew w w1 V v' from ⟨by
        rw [List.replicate_succ', ← List.append_assoc, flE_app (ls ++ List.replicate j n) [n], flE_one]; exact own1, HG.out.step (alloc_grew _ _ hg1) (by
          rcases hv1 with h | h
          · exact .inl h
          · exact .inr ⟨_, h, by simp⟩)⟩)
      clear own1 hg1 hv1 hown9
      go_wp2
      go_roundw
      case rel => exact ⟨j + 1, by omega, by go_num, H1.out.1, H1.out.2⟩
      case measure => simp [intOf]; omega
    · obtain rfl : j = many := by omega
      have hjI : ¬ (j : Int) < (j : Int) := by omega
      have HX := Lib.hid (And.intro hown hgr)
      clear hown hgr
      go_wp2
      go_ret
      exact ⟨_, rfl, HX.out.1, HX.out.2⟩

def bitsOf (ds : List Int) : List Bool := ds.flatMap fun b => (List.range 8).map (bitH b)
theorem bitsOf_snoc (ds : List Int) (z : Int) : bitsOf (ds ++ [z]) = bitsOf ds ++ (List.range 8).map (bitH z) := by simp [bitsOf]
theorem bitsOf_len : ∀ ds : List Int, (bitsOf ds).length = 8 * ds.length
  | [] => rfl
  | d :: l => by
    have := bitsOf_len l
    unfold bitsOf at this ⊢
    rw [List.flatMap_cons, List.length_append, this]
    simp
    omega
theorem bools_reads {w : World} {B g c : Nat} {f : Nat → Bool} (h : BoolRow w g 8 f) : Reads w w.heap.size 1 (some ⟨g, 0, none⟩) 8 (((List.range 8).map f).map Value.bool) := by
  refine ⟨by simp, fun _ => ⟨_, rfl, h.1, fun j u hu => ?_⟩⟩
  have e : (⟨g, 0, none⟩ : Addr).add j = ⟨g, j, none⟩ := by
    unfold Addr.add
    split
    · next h0 => subst h0; rfl
    · simp
  rw [e]
  rw [List.map_map, List.getElem?_map] at hu
  cases hj : (List.range 8)[j]? with
  | none => rw [hj] at hu; simp at hu
  | some k =>
    rw [hj] at hu
    have hk := List.getElem?_range (n := 8) (i := j)
    have hj8 : j < 8 := by
      rcases Nat.lt_or_ge j 8 with h | h
      · exact h
      · rw [List.getElem?_eq_none (by simpa using h)] at hj; cases hj
    rw [hk hj8] at hj
    injection hj with hj
    subst hj
    simp at hu
    rw [h.2 j hj8, ← hu]

set_option maxRecDepth 100000 in
set_option maxHeartbeats 4000000 in
theorem bitsE_any (w : World) (B n dc : Nat) (DA : Option Addr) (ds : List Int) (hr : Reads w w.heap.size 1 DA n (ds.map (Value.int .u8))) (hu : isU8 ds) (hn : n ≤ 100) :
    Calls Try.prog 35 #[.slice DA n dc, .int .i64 8] w fun e w' => ∃ V, e = .returned V ∧ w'.ownsRow w.heap.size 4 1 V (8 * n) ((bitsOf ds).map Value.bool) ∧ Below w.heap.size w w' := by
  obtain ⟨i0, hi, hz0, hz1, hz2⟩ := info_parts boolInfo
  have hl := reads_len hr
  have HR := Lib.hid (And.intro hr (And.intro hu hl))
  clear hr hu hl
  go_enter Try.func35, Try.ntmps35
  go_wp2
  go_loopw [5, 6] (fun v i wr => ∃ j : Nat, j ≤ n ∧ i = .int .i64 j ∧ wr.ownsRow w.heap.size 4 1 v (8 * j) ((bitsOf (ds.take j)).map Value.bool) ∧ Below w.heap.size w wr) (fun _ i _ => n - (intOf i).toNat)
  case atStart => exact ⟨0, by omega, rfl, World.ownsRow_nil _ _ _ _, Below.refl _ _⟩
  case round =>
    obtain ⟨j, hjn, rfl, hown, hbl⟩ := hrel
    have hj0 : (0 : Int) ≤ (j : Int) := Int.natCast_nonneg _
    by_cases hlt : j < n
    · have hjI : (j : Int) < (n : Int) := by omega
      have hwj : IntKind.i64.wrap ((j : Int) + 1) = (j : Int) + 1 := by rw [IntKind.wrap_i64]; omega
      have hwn : IntKind.i64.wrap ((n : Int) - 1) = (n : Int) - 1 := by rw [IntKind.wrap_i64]; omega
      have hsz := hbl.size
      obtain ⟨ad, rfl, _, hc0⟩ := i32_at (HR.out.1.below hbl) hlt
      have hz8 := HR.out.2.1 (ds.getD j 0) (mem_of_getD (by rw [HR.out.2.2]; exact hlt) rfl)
      have hsn := take_snocI ds j (by rw [HR.out.2.2]; exact hlt)
      generalize ds.getD j 0 = z at *
      have HSN := Lib.hid hsn
      have hbt := bits_any z wr hz8.1 hz8.2
      have HX := Lib.hid (And.intro hown hbl)
      clear hsn hown hbl hz8
      go_wp2_with fail
      refine hbt.mono ?_
      rintro e w1 ⟨v, rfl, ⟨g, c, rfl, h8c, _, hg, hrow⟩, hb1⟩
      clear hbt hc0
      have hown1 := own_below HX.out.1 hb1
      have hrd := bools_reads (B := 0) (c := 0) hrow
      have h8i : (8 : Int) ≤ (c : Int) := by omega
      have HC := Lib.hid (And.intro hrd (And.intro (show ∀ u ∈ ((List.range 8).map (bitH z)).map Value.bool, u.oneCell' = true by intro u hu; rw [List.mem_map] at hu; obtain ⟨b, _, rfl⟩ := hu; rfl) (And.intro (show 8 * j + 8 ≤ maxLen by unfold maxLen; omega) (And.intro (show (8 * j + 8) * 1 ≤ 140737488355328 by omega) (show w.heap.size ≤ w1.heap.size by have := hb1.size; omega)))))
      have HB := Lib.hid (HX.out.2.trans (hb1.mono hsz))
      clear hrd hb1 hrow hg
      by_cases hje : (j : Int) = (n : Int) - 1
      · go_wp2_with (first
          | (at_builtin; refine wpList_append_any _ rfl _ _ 90 rfl w.heap.size 4 i0 (.bool false) 1 1 Try.underlying90 hi hz0 hz1 hz2 rfl (by decide) _ (8 * j) _ rfl hown1 w1.heap.size (some ⟨g, 0, none⟩) 8 c (((List.range 8).map (bitH z)).map Value.bool) rfl HC.out.1 HC.out.2.1 HC.out.2.2.1 HC.out.2.2.2.1 HC.out.2.2.2.2 ?_)
          | fail)
        intro v' w2 own2 hg2 hv2
        have H2 := Lib.hid (show w2.ownsRow w.heap.size 4 1 v' (8 * (j + 1)) ((bitsOf (ds.take (j + 1))).map Value.bool) ∧ Below w.heap.size w w2 from ⟨by
          rw [HSN.out, bitsOf_snoc, List.map_append]; exact own2, HB.out.grown hg2 HB.out.size (fun b hb => (hown1.lt b hb).1)⟩)
        clear own2 hg2 hv2 hown1
        go_wp2
        go_roundw
        case rel => exact ⟨j + 1, by omega, by go_num, H2.out.1, H2.out.2⟩
        case measure => simp [intOf]; omega
      · go_wp2_with (first
          | (at_builtin; refine wpList_append_any _ rfl _ _ 90 rfl w.heap.size 4 i0 (.bool false) 1 1 Try.underlying90 hi hz0 hz1 hz2 rfl (by decide) _ (8 * j) _ rfl hown1 w1.heap.size (some ⟨g, 0, none⟩) 8 c (((List.range 8).map (bitH z)).map Value.bool) rfl HC.out.1 HC.out.2.1 HC.out.2.2.1 HC.out.2.2.2.1 HC.out.2.2.2.2 ?_)
          | fail)
        intro v' w2 own2 hg2 hv2
        have H2 := Lib.hid (show w2.ownsRow w.heap.size 4 1 v' (8 * (j + 1)) ((bitsOf (ds.take (j + 1))).map Value.bool) ∧ Below w.heap.size w w2 from ⟨by
          rw [HSN.out, bitsOf_snoc, List.map_append]; exact own2, HB.out.grown hg2 HB.out.size (fun b hb => (hown1.lt b hb).1)⟩)
        clear own2 hg2 hv2 hown1
        go_wp2
        go_roundw
        case rel => exact ⟨j + 1, by omega, by go_num, H2.out.1, H2.out.2⟩
        case measure => simp [intOf]; omega
    · obtain rfl : j = n := by omega
      have hjI : ¬ (j : Int) < (j : Int) := by omega
      rw [show ds.take j = ds by rw [← HR.out.2.2, List.take_length]] at hown
      have HX := Lib.hid (And.intro hown hbl)
      clear hown hbl
      go_wp2
      go_ret
      exact ⟨_, rfl, HX.out.1, HX.out.2⟩

/-- the lengths of the edges of bits -/
def lensOf (bs : List Bool) : List Int := bs.flatMap fun b => if b then [1710, 1710] else [855, 855]
theorem lensOf_snoc (l : List Bool) (b : Bool) : lensOf (l ++ [b]) = lensOf l ++ List.replicate 2 (if b then 1710 else 855) := by cases b <;> simp [lensOf] <;> rfl
theorem lensOf_len : ∀ l : List Bool, (lensOf l).length = 2 * l.length
  | [] => rfl
  | b :: l => by
    have := lensOf_len l
    unfold lensOf at this ⊢
    rw [List.flatMap_cons, List.length_append, this]
    cases b <;> simp <;> omega
theorem bool_row {w : World} {base n : Nat} {e : TypeId} {A : Option Addr} {c : Nat} {bs : List Bool} (h : w.ownsRow base e 1 (.slice A n c) n (bs.map Value.bool)) {j : Nat} (hj : j < n) : ∃ ad, A = some ad ∧ w.cell? (ad.add j) = some (.bool (bs.getD j false)) := by
  have hr := Reads.of_own h
  obtain ⟨ad, u, e1, _, e2, e3⟩ := hr.at_ hj
  refine ⟨ad, e1, ?_⟩
  rw [List.getElem?_map] at e2
  cases hb : bs[j]? with
  | none => rw [hb] at e2; cases e2
  | some b =>
    rw [hb] at e2
    simp at e2
    rw [List.getD_eq_getElem?_getD, hb, e3, ← e2]
    rfl
theorem take_snocB (bs : List Bool) (j : Nat) (h : j < bs.length) : bs.take (j + 1) = bs.take j ++ [bs.getD j false] := by
  rw [List.take_succ_eq_append_getElem h, List.getD_eq_getElem?_getD, List.getElem?_eq_getElem h]
  rfl

set_option maxRecDepth 100000 in
set_option maxHeartbeats 4000000 in
theorem dataE_any (w : World) (base : Nat) (V : Value) (L n dc : Nat) (DA : Option Addr) (ls ds : List Int) (hL : L = ls.length) (hown : w.ownsRow base 58 2 V L (flE ls)) (hb : base ≤ w.heap.size) (hLm : L ≤ 1000) (hr : Reads w w.heap.size 1 DA n (ds.map (Value.int .u8))) (hu : isU8 ds) (hn : n ≤ 100) :
    Calls Try.prog 34 #[V, .agg #[.int .i64 17, .int .i64 0, .int .i64 2168, .int .i64 667, .int .i64 735, .int .i64 855, .int .i64 1710, .int .i64 0, .int .i64 300, .int .i64 8, .int .i64 0, .int .i64 0, .slice DA n dc, .slice none 0 0, .slice none 0 0, .slice none 0 0, .slice none 0 0, .slice none 0 0]] w fun e w' => ∃ V', e = .returned V' ∧ w'.ownsRow base 58 2 V' (L + 16 * n) (flE (ls ++ lensOf (bitsOf ds))) ∧ Grew w w' V V' := by
  have hl := reads_len hr
  have hBx : Blk (w.alloc (.cells #[.int .i64 17, .int .i64 0, .int .i64 2168, .int .i64 667, .int .i64 735, .int .i64 855, .int .i64 1710, .int .i64 0, .int .i64 300, .int .i64 8, .int .i64 0, .int .i64 0, .slice DA n dc, .slice none 0 0, .slice none 0 0, .slice none 0 0, .slice none 0 0, .slice none 0 0] 33)) w.heap.size 33 #[.int .i64 17, .int .i64 0, .int .i64 2168, .int .i64 667, .int .i64 735, .int .i64 855, .int .i64 1710, .int .i64 0, .int .i64 300, .int .i64 8, .int .i64 0, .int .i64 0, .slice DA n dc, .slice none 0 0, .slice none 0 0, .slice none 0 0, .slice none 0 0, .slice none 0 0] := Blk.new w _ _
  have hb0 : Below w.heap.size w (w.alloc (.cells #[.int .i64 17, .int .i64 0, .int .i64 2168, .int .i64 667, .int .i64 735, .int .i64 855, .int .i64 1710, .int .i64 0, .int .i64 300, .int .i64 8, .int .i64 0, .int .i64 0, .slice DA n dc, .slice none 0 0, .slice none 0 0, .slice none 0 0, .slice none 0 0, .slice none 0 0] 33)) := (Below.refl _ _).alloc (Nat.le_refl _) _
  have hbt := bitsE_any (w.alloc (.cells #[.int .i64 17, .int .i64 0, .int .i64 2168, .int .i64 667, .int .i64 735, .int .i64 855, .int .i64 1710, .int .i64 0, .int .i64 300, .int .i64 8, .int .i64 0, .int .i64 0, .slice DA n dc, .slice none 0 0, .slice none 0 0, .slice none 0 0, .slice none 0 0, .slice none 0 0] 33)) 0 n dc DA ds ((hr.below hb0).more hb0.size) hu hn
  have hg0 : w.grownBy (w.alloc (.cells #[.int .i64 17, .int .i64 0, .int .i64 2168, .int .i64 667, .int .i64 735, .int .i64 855, .int .i64 1710, .int .i64 0, .int .i64 300, .int .i64 8, .int .i64 0, .int .i64 0, .slice DA n dc, .slice none 0 0, .slice none 0 0, .slice none 0 0, .slice none 0 0, .slice none 0 0] 33)) V.ownBlock := World.grownBy_alloc _ _ _
  have hs0 : (w.alloc (.cells #[.int .i64 17, .int .i64 0, .int .i64 2168, .int .i64 667, .int .i64 735, .int .i64 855, .int .i64 1710, .int .i64 0, .int .i64 300, .int .i64 8, .int .i64 0, .int .i64 0, .slice DA n dc, .slice none 0 0, .slice none 0 0, .slice none 0 0, .slice none 0 0, .slice none 0 0] 33)).heap.size = w.heap.size + 1 := by simp
  have HO := Lib.hid (And.intro (own_below hown hb0) (And.intro hg0 (And.intro hs0 (And.intro hL hl))))
  have HBX := Lib.hid hBx
  clear hown hr hu hg0 hs0 hL hb0 hl
  go_enter Try.func34, Try.ntmps34
  go_upto_region 1 with fail
  generalize (w.alloc (.cells #[.int .i64 17, .int .i64 0, .int .i64 2168, .int .i64 667, .int .i64 735, .int .i64 855, .int .i64 1710, .int .i64 0, .int .i64 300, .int .i64 8, .int .i64 0, .int .i64 0, .slice DA n dc, .slice none 0 0, .slice none 0 0, .slice none 0 0, .slice none 0 0, .slice none 0 0] 33)) = w0 at *
  have c12 : w0.cell? ⟨w.heap.size, 12, none⟩ = some (.slice DA n dc) := (hBx.cell 12).trans rfl
  have c9 : w0.cell? ⟨w.heap.size, 9, none⟩ = some (.int .i64 8) := (hBx.cell 9).trans rfl
  clear hBx
  go_wp2_with fail
  refine hbt.mono ?_
  rintro e w1 ⟨M, rfl, ownM, hb1⟩
  clear hbt c12 c9
  obtain ⟨MA, mc, rfl⟩ := own_slice ownM
  have hs0 := HO.out.2.2.1
  have hown1 := own_below HO.out.1 hb1
  have HG1 := Lib.hid (show Grew w w1 V V from ⟨⟨hb1.os.trans HO.out.2.1.os, hb1.tape.trans HO.out.2.1.tape, hb1.output.trans HO.out.2.1.output, by have := hb1.size; omega, fun k hk hr => (hb1.block k (by omega)).trans (HO.out.2.1.block k hk hr)⟩, .inl rfl⟩)
  have hB1 := HBX.out.below hb1 HBX.out.lt
  have hs1 := hb1.size
  have hbl := bitsOf_len ds
  rw [HO.out.2.2.2.2] at hbl
  obtain ⟨bs, hbs⟩ : ∃ bs, bs = bitsOf ds := ⟨_, rfl⟩
  rw [← hbs] at hbl ownM
  have HBS := Lib.hid hbs
  clear hbs
  have HM := Lib.hid (And.intro ownM (And.intro hB1 hown1))
  have HBL := Lib.hid hbl
  have hbw : base ≤ w1.heap.size := by omega
  clear ownM hB1 hown1 hb1 hs0 hbl
  go_wp2_with fail
  go_loopw [0, 6] (fun v i wr => ∃ j : Nat, j ≤ 8 * n ∧ i = .int .i64 j ∧ wr.ownsRow base 58 2 v (L + 2 * j) (flE (ls ++ lensOf (bs.take j))) ∧ Grew w1 wr V v) (fun _ i _ => 8 * n - (intOf i).toNat)
  case atStart => exact ⟨0, by omega, rfl, by simpa [lensOf] using HM.out.2.2, Grew.refl _ _⟩
  case round =>
    obtain ⟨j, hjn, rfl, hown, hgr⟩ := hrel
    have hj0 : (0 : Int) ≤ (j : Int) := Int.natCast_nonneg _
    have hsz := hgr.1.size
    by_cases hlt : j < 8 * n
    · have hjI : (j : Int) < 8 * (n : Int) := by omega
      have hwj : IntKind.i64.wrap ((j : Int) + 1) = (j : Int) + 1 := by rw [IntKind.wrap_i64]; omega
      have hkm : wr.ownsRow w0.heap.size 4 1 (.slice MA (8 * n) mc) (8 * n) (bs.map Value.bool) := HM.out.1.kept hgr.1 (own_own_ne HM.out.1 HM.out.2.2 (by decide))
      obtain ⟨ad, rfl, hc0⟩ := bool_row hkm hlt
      have hBr := HM.out.2.1.grown hgr.1 (fun e => own_blk_ne HM.out.2.2 HM.out.2.1 (by decide) e.symm)
      have c6 : wr.cell? ⟨w.heap.size, 6, none⟩ = some (.int .i64 1710) := (hBr.cell 6).trans rfl
      have c5 : wr.cell? ⟨w.heap.size, 5, none⟩ = some (.int .i64 855) := (hBr.cell 5).trans rfl
      have hsn := take_snocB bs j (by rw [HBL.out]; exact hlt)
      generalize bs.getD j false = b at *
      have hll : L + 2 * j = (ls ++ lensOf (bs.take j)).length := by rw [List.length_append, lensOf_len, List.length_take, HBL.out, HO.out.2.2.2.1]; omega
      have HT := Lib.hid (fun (z : Int) => turnsE_any wr base _ 2 (L + 2 * j) z (ls ++ lensOf (bs.take j)) hll hown (by omega) (by omega))
      have HSN := Lib.hid hsn
      have HGR := Lib.hid hgr
      clear hown hgr hkm hBr hsn hll
      cases b with
      | true =>
        go_wp2_with fail
        refine (HT.out 1710).mono ?_
        rintro e w2 ⟨v', rfl, own2, hg2⟩
        have H2 := Lib.hid (And.intro own2 (HGR.out.trans hg2))
        clear own2 hg2 c5 c6 hc0
        go_wp2
        go_roundw
        case rel => exact ⟨j + 1, by omega, by go_num, by rw [HSN.out, lensOf_snoc, ← List.append_assoc, show L + 2 * (j + 1) = L + 2 * j + 2 by omega]; exact H2.out.1, H2.out.2⟩
        case measure => simp [intOf]; omega
      | false =>
        go_wp2_with fail
        refine (HT.out 855).mono ?_
        rintro e w2 ⟨v', rfl, own2, hg2⟩
        have H2 := Lib.hid (And.intro own2 (HGR.out.trans hg2))
        clear own2 hg2 c5 c6 hc0
        go_wp2
        go_roundw
        case rel => exact ⟨j + 1, by omega, by go_num, by rw [HSN.out, lensOf_snoc, ← List.append_assoc, show L + 2 * (j + 1) = L + 2 * j + 2 by omega]; exact H2.out.1, H2.out.2⟩
        case measure => simp [intOf]; omega
    · obtain rfl : j = 8 * n := by omega
      have hjI : ¬ (((8 * n : Nat)) : Int) < 8 * (n : Int) := by omega
      rw [show bs.take (8 * n) = bs by rw [← HBL.out, List.take_length], show L + 2 * (8 * n) = L + 16 * n by omega] at hown
      have HX := Lib.hid (And.intro hown (HG1.out.trans hgr))
      clear hown hgr
      go_wp2
      go_ret
      rw [← HBS.out]
      exact ⟨u0, rfl, HX.out.1, HX.out.2⟩

set_option maxRecDepth 100000 in
set_option maxHeartbeats 4000000 in
theorem pause0_any (w : World) (V : Value) : Calls Try.prog 39 #[V, .int .i64 0] w fun e w' => e = .returned V ∧ w = w' := by
  go_enter Try.func39, Try.ntmps39
  go_wp2
  go_ret
  exact ⟨rfl, rfl⟩

/-- the edges of bytes of the usual timing -/
def edgesL (ds : List Int) : List Int := List.replicate 300 2168 ++ [667] ++ [735] ++ lensOf (bitsOf ds)

set_option maxRecDepth 100000 in
set_option maxHeartbeats 8000000 in
theorem edgesE_any (w : World) (n dc : Nat) (DA : Option Addr) (ds : List Int) (hr : Reads w w.heap.size 1 DA n (ds.map (Value.int .u8))) (hu : isU8 ds) (hn : n ≤ 100) :
    Calls Try.prog 17 #[.agg #[.int .i64 17, .int .i64 0, .int .i64 2168, .int .i64 667, .int .i64 735, .int .i64 855, .int .i64 1710, .int .i64 0, .int .i64 300, .int .i64 8, .int .i64 0, .int .i64 0, .slice DA n dc, .slice none 0 0, .slice none 0 0, .slice none 0 0, .slice none 0 0, .slice none 0 0]] w fun e w' => ∃ V, e = .returned (.tuple #[V, .int .i64 0]) ∧ w'.ownsRow w.heap.size 58 2 V (302 + 16 * n) (flE (edgesL ds)) ∧ Below w.heap.size w w' := by
  have hBx : Blk (w.alloc (.cells #[.int .i64 17, .int .i64 0, .int .i64 2168, .int .i64 667, .int .i64 735, .int .i64 855, .int .i64 1710, .int .i64 0, .int .i64 300, .int .i64 8, .int .i64 0, .int .i64 0, .slice DA n dc, .slice none 0 0, .slice none 0 0, .slice none 0 0, .slice none 0 0, .slice none 0 0] 33)) w.heap.size 33 #[.int .i64 17, .int .i64 0, .int .i64 2168, .int .i64 667, .int .i64 735, .int .i64 855, .int .i64 1710, .int .i64 0, .int .i64 300, .int .i64 8, .int .i64 0, .int .i64 0, .slice DA n dc, .slice none 0 0, .slice none 0 0, .slice none 0 0, .slice none 0 0, .slice none 0 0] := Blk.new w _ _
  have hb0 : Below w.heap.size w (w.alloc (.cells #[.int .i64 17, .int .i64 0, .int .i64 2168, .int .i64 667, .int .i64 735, .int .i64 855, .int .i64 1710, .int .i64 0, .int .i64 300, .int .i64 8, .int .i64 0, .int .i64 0, .slice DA n dc, .slice none 0 0, .slice none 0 0, .slice none 0 0, .slice none 0 0, .slice none 0 0] 33)) := (Below.refl _ _).alloc (Nat.le_refl _) _
  have HR := Lib.hid (And.intro ((hr.below hb0).more hb0.size) (And.intro hu (And.intro hb0 hBx)))
  clear hr hu hb0
  go_enter Try.func17, Try.ntmps17
  go_upto_region 1 with fail
  generalize (w.alloc (.cells #[.int .i64 17, .int .i64 0, .int .i64 2168, .int .i64 667, .int .i64 735, .int .i64 855, .int .i64 1710, .int .i64 0, .int .i64 300, .int .i64 8, .int .i64 0, .int .i64 0, .slice DA n dc, .slice none 0 0, .slice none 0 0, .slice none 0 0, .slice none 0 0, .slice none 0 0] 33)) = w0 at *
  have c0 : w0.cell? ⟨w.heap.size, 0, none⟩ = some (.int .i64 17) := (hBx.cell 0).trans rfl
  have c8 : w0.cell? ⟨w.heap.size, 8, none⟩ = some (.int .i64 300) := (hBx.cell 8).trans rfl
  have c2 : w0.cell? ⟨w.heap.size, 2, none⟩ = some (.int .i64 2168) := (hBx.cell 2).trans rfl
  clear hBx
  have hw : w.heap.size ≤ w0.heap.size := HR.out.2.2.1.size
  go_wp2_with fail
  have hQ : ∀ wx : World, Blk wx w.heap.size 33 #[.int .i64 17, .int .i64 0, .int .i64 2168, .int .i64 667, .int .i64 735, .int .i64 855, .int .i64 1710, .int .i64 0, .int .i64 300, .int .i64 8, .int .i64 0, .int .i64 0, .slice DA n dc, .slice none 0 0, .slice none 0 0, .slice none 0 0, .slice none 0 0, .slice none 0 0] → wx.cell? ⟨w.heap.size, 8, none⟩ = some (.int .i64 300) ∧ wx.cell? ⟨w.heap.size, 2, none⟩ = some (.int .i64 2168) ∧ wx.cell? ⟨w.heap.size, 3, none⟩ = some (.int .i64 667) ∧ wx.cell? ⟨w.heap.size, 4, none⟩ = some (.int .i64 735) := fun wx h => ⟨(h.cell 8).trans rfl, (h.cell 2).trans rfl, (h.cell 3).trans rfl, (h.cell 4).trans rfl⟩
  have HQ := Lib.hid hQ
  clear hQ c0 c8 c2
  refine wp_region_held_drew (S := fun w' => w'.cell? ⟨w.heap.size, 8, none⟩ = some (.int .i64 300) ∧ w'.cell? ⟨w.heap.size, 2, none⟩ = some (.int .i64 2168) ∧ w'.cell? ⟨w.heap.size, 3, none⟩ = some (.int .i64 667) ∧ w'.cell? ⟨w.heap.size, 4, none⟩ = some (.int .i64 735)) (by kernel_rfl) ?_ (fun hHeld => ?_)
  · exact HQ.out _ HR.out.2.2.2.drew
  have HD := Lib.hid (And.intro (show Blk w0.drew w.heap.size 33 #[.int .i64 17, .int .i64 0, .int .i64 2168, .int .i64 667, .int .i64 735, .int .i64 855, .int .i64 1710, .int .i64 0, .int .i64 300, .int .i64 8, .int .i64 0, .int .i64 0, .slice DA n dc, .slice none 0 0, .slice none 0 0, .slice none 0 0, .slice none 0 0, .slice none 0 0] from HR.out.2.2.2) (show Below w0.heap.size w0 w0.drew from (Below.refl _ _).drew))
  have hwD : w.heap.size ≤ w0.drew.heap.size := hw
  have hsD : w0.heap.size ≤ w0.drew.heap.size := Nat.le_refl _
  generalize w0.drew = wD at *
  refine wpAnyH_take (i := 0) (oi := _) (v := ?_) (by simp only [List.getElem?_toArray, List.getElem?_cons_succ, List.getElem?_cons_zero]; rfl) (by kernel_rfl) (by kernel_rfl) (by kernel_rfl) (by intro _ _ _ h; exact h) (Or.inl ⟨by rfl, ?_⟩) (by assumption) ?_
  rotate_left
  · intro w hSw
    try dsimp only at hSw
    obtain ⟨s8, s2, s3, s4⟩ := hSw
    go_simp
    try with_reducible rfl
  try simp only [Act.put, List.setIfInBounds_toArray, List.set_cons_zero, List.set_cons_succ]
  refine wpAnyH_take (i := 1) (oi := _) (v := ?_) (by simp only [List.getElem?_toArray, List.getElem?_cons_succ, List.getElem?_cons_zero]; rfl) (by kernel_rfl) (by kernel_rfl) (by kernel_rfl) (by intro _ _ _ h; exact h) (Or.inl ⟨by rfl, ?_⟩) (by assumption) ?_
  rotate_left
  · intro w hSw
    try dsimp only at hSw
    obtain ⟨s8, s2, s3, s4⟩ := hSw
    go_simp
    try with_reducible rfl
  try simp only [Act.put, List.setIfInBounds_toArray, List.set_cons_zero, List.set_cons_succ]
  refine wpAnyH_take (i := 2) (oi := _) (v := ?_) (by simp only [List.getElem?_toArray, List.getElem?_cons_succ, List.getElem?_cons_zero]; rfl) (by kernel_rfl) (by kernel_rfl) (by kernel_rfl) (by intro _ _ _ h; exact h) (Or.inl ⟨by rfl, ?_⟩) (by assumption) ?_
  rotate_left
  · intro w hSw
    try dsimp only at hSw
    obtain ⟨s8, s2, s3, s4⟩ := hSw
    go_simp
    try with_reducible rfl
  try simp only [Act.put, List.setIfInBounds_toArray, List.set_cons_zero, List.set_cons_succ]
  refine wpAnyH_take (i := 3) (oi := _) (v := ?_) (by simp only [List.getElem?_toArray, List.getElem?_cons_succ, List.getElem?_cons_zero]; rfl) (by kernel_rfl) (by kernel_rfl) (by kernel_rfl) (by intro _ _ _ h; exact h) (Or.inl ⟨by rfl, ?_⟩) (by assumption) ?_
  rotate_left
  · intro w hSw
    try dsimp only at hSw
    obtain ⟨s8, s2, s3, s4⟩ := hSw
    go_simp
    try with_reducible rfl
  try simp only [Act.put, List.setIfInBounds_toArray, List.set_cons_zero, List.set_cons_succ]
  refine wpAnyH_take (i := 4) (oi := _) (v := ?_) (by simp only [List.getElem?_toArray, List.getElem?_cons_succ, List.getElem?_cons_zero]; rfl) (by kernel_rfl) (by kernel_rfl) (by kernel_rfl) (by intro _ _ _ h; exact h) (Or.inl ⟨by rfl, ?_⟩) (by assumption) ?_
  rotate_left
  · intro w hSw
    try dsimp only at hSw
    obtain ⟨s8, s2, s3, s4⟩ := hSw
    go_simp
    try with_reducible rfl
  try simp only [Act.put, List.setIfInBounds_toArray, List.set_cons_zero, List.set_cons_succ]
  refine wpAnyH_take (i := 6) (oi := _) (v := ?_) (by simp only [List.getElem?_toArray, List.getElem?_cons_succ, List.getElem?_cons_zero]; rfl) (by kernel_rfl) (by kernel_rfl) (by kernel_rfl) (by intro _ _ _ h; exact h) (Or.inl ⟨by rfl, ?_⟩) (by assumption) ?_
  rotate_left
  · intro w hSw
    try dsimp only at hSw
    obtain ⟨s8, s2, s3, s4⟩ := hSw
    go_simp
    try with_reducible rfl
  try simp only [Act.put, List.setIfInBounds_toArray, List.set_cons_zero, List.set_cons_succ]
  refine wpAnyH_take (i := 7) (oi := _) (v := ?_) (by simp only [List.getElem?_toArray, List.getElem?_cons_succ, List.getElem?_cons_zero]; rfl) (by kernel_rfl) (by kernel_rfl) (by kernel_rfl) (by intro _ _ _ h; exact h) (Or.inl ⟨by rfl, ?_⟩) (by assumption) ?_
  rotate_left
  · intro w hSw
    try dsimp only at hSw
    obtain ⟨s8, s2, s3, s4⟩ := hSw
    go_simp
    try with_reducible rfl
  try simp only [Act.put, List.setIfInBounds_toArray, List.set_cons_zero, List.set_cons_succ]
  refine wpAnyH_take (i := 9) (oi := _) (v := ?_) (by simp only [List.getElem?_toArray, List.getElem?_cons_succ, List.getElem?_cons_zero]; rfl) (by kernel_rfl) (by kernel_rfl) (by kernel_rfl) (by intro _ _ _ h; exact h) (Or.inl ⟨by rfl, ?_⟩) (by assumption) ?_
  rotate_left
  · intro w hSw
    try dsimp only at hSw
    obtain ⟨s8, s2, s3, s4⟩ := hSw
    go_simp
    try with_reducible rfl
  try simp only [Act.put, List.setIfInBounds_toArray, List.set_cons_zero, List.set_cons_succ]
  refine wpAnyH_take (i := 10) (oi := _) (v := ?_) (by simp only [List.getElem?_toArray, List.getElem?_cons_succ, List.getElem?_cons_zero]; rfl) (by kernel_rfl) (by kernel_rfl) (by kernel_rfl) (by intro _ _ _ h; exact h) (Or.inl ⟨by rfl, ?_⟩) (by assumption) ?_
  rotate_left
  · intro w hSw
    try dsimp only at hSw
    obtain ⟨s8, s2, s3, s4⟩ := hSw
    go_simp
    try with_reducible rfl
  try simp only [Act.put, List.setIfInBounds_toArray, List.set_cons_zero, List.set_cons_succ]
  refine wpAnyH_ready (rs := [5]) (by kernel_rfl) (by simp) ?_
  refine AllReadyH.cons (o := _) (by simp only [List.getElem?_toArray, List.getElem?_cons_succ, List.getElem?_cons_zero]; rfl) (fun K hK => ?_) AllReadyH.nil
  go_simp
  go_wp2_with fail
  refine (turnsE_any wD w.heap.size _ 300 0 2168 [] rfl (World.ownsRow_nil _ _ _ _) hwD (by omega)).mono ?_
  rintro e w1 ⟨V1, rfl, own1, hg1⟩
  have hs1 := hg1.1.size
  have hB1 : Blk w1 w.heap.size 33 #[.int .i64 17, .int .i64 0, .int .i64 2168, .int .i64 667, .int .i64 735, .int .i64 855, .int .i64 1710, .int .i64 0, .int .i64 300, .int .i64 8, .int .i64 0, .int .i64 0, .slice DA n dc, .slice none 0 0, .slice none 0 0, .slice none 0 0, .slice none 0 0, .slice none 0 0] := HD.out.1.grown hg1.1 (by simp [Value.ownBlock])
  have H1 := Lib.hid (And.intro own1 (And.intro hg1 hB1))
  clear own1 hg1 hB1
  refine hK.out _ _ ?_ (fun hHeld => ?_)
  · exact HQ.out _ H1.out.2.2
  clear hK K
  try simp only [Act.put, List.setIfInBounds_toArray, List.set_cons_zero, List.set_cons_succ]
  refine wpAnyH_ready (rs := [8]) (by kernel_rfl) (by simp) ?_
  refine AllReadyH.cons (o := _) (by simp only [List.getElem?_toArray, List.getElem?_cons_succ, List.getElem?_cons_zero]; rfl) (fun K hK => ?_) AllReadyH.nil
  go_simp
  go_wp2_with fail
  refine (turnsE_any w1 w.heap.size _ 1 (0 + 300) 667 ([] ++ List.replicate 300 2168) (by simp) H1.out.1 (by omega) (by omega)).mono ?_
  rintro e w2 ⟨V2, rfl, own2, hg2⟩
  have hs2 := hg2.1.size
  have hB2 : Blk w2 w.heap.size 33 #[.int .i64 17, .int .i64 0, .int .i64 2168, .int .i64 667, .int .i64 735, .int .i64 855, .int .i64 1710, .int .i64 0, .int .i64 300, .int .i64 8, .int .i64 0, .int .i64 0, .slice DA n dc, .slice none 0 0, .slice none 0 0, .slice none 0 0, .slice none 0 0, .slice none 0 0] := H1.out.2.2.grown hg2.1 (fun e => own_blk_ne H1.out.1 H1.out.2.2 (by decide) e.symm)
  have H2 := Lib.hid (And.intro own2 (And.intro (H1.out.2.1.trans hg2) hB2))
  clear own2 hg2 hB2
  refine hK.out _ _ ?_ (fun hHeld => ?_)
  · exact HQ.out _ H2.out.2.2
  clear hK K
  try simp only [Act.put, List.setIfInBounds_toArray, List.set_cons_zero, List.set_cons_succ]
  refine wpAnyH_ready (rs := [11]) (by kernel_rfl) (by simp) ?_
  refine AllReadyH.cons (o := _) (by simp only [List.getElem?_toArray, List.getElem?_cons_succ, List.getElem?_cons_zero]; rfl) (fun K hK => ?_) AllReadyH.nil
  go_simp
  go_wp2_with fail
  refine (turnsE_any w2 w.heap.size _ 1 (0 + 300 + 1) 735 ([] ++ List.replicate 300 2168 ++ List.replicate 1 667) (by simp) H2.out.1 (by omega) (by omega)).mono ?_
  rintro e w3 ⟨V3, rfl, own3, hg3⟩
  have hB3' : Blk w3 w.heap.size 33 #[.int .i64 17, .int .i64 0, .int .i64 2168, .int .i64 667, .int .i64 735, .int .i64 855, .int .i64 1710, .int .i64 0, .int .i64 300, .int .i64 8, .int .i64 0, .int .i64 0, .slice DA n dc, .slice none 0 0, .slice none 0 0, .slice none 0 0, .slice none 0 0, .slice none 0 0] := H2.out.2.2.grown hg3.1 (fun e => own_blk_ne H2.out.1 H2.out.2.2 (by decide) e.symm)
  have HB3 := Lib.hid hB3'
  have H9 := Lib.hid (And.intro own3 hg3)
  clear hB3' own3 hg3
  refine hK.out _ _ ?_ (fun hHeld => ?_)
  · exact HQ.out _ HB3.out
  clear hK K
  try simp only [Act.put, List.setIfInBounds_toArray, List.set_cons_zero, List.set_cons_succ]
  refine wpAnyH_take (i := 12) (oi := _) (v := ?_) (by simp only [List.getElem?_toArray, List.getElem?_cons_succ, List.getElem?_cons_zero]; rfl) (by kernel_rfl) (by kernel_rfl) (by kernel_rfl) (by intro _ _ _ h; exact h) (Or.inl ⟨by rfl, ?_⟩) (by assumption) ?_
  rotate_left
  · intro w hSw
    try dsimp only at hSw
    obtain ⟨s8, s2, s3, s4⟩ := hSw
    go_simp
    try with_reducible rfl
  try simp only [Act.put, List.setIfInBounds_toArray, List.set_cons_zero, List.set_cons_succ]
  refine wpAnyH_done (by kernel_rfl) ?_ _
  obtain ⟨own3, hg3⟩ := H9.out
  have hs3 := hg3.1.size
  have hB3 : Blk w3 w.heap.size 33 #[.int .i64 17, .int .i64 0, .int .i64 2168, .int .i64 667, .int .i64 735, .int .i64 855, .int .i64 1710, .int .i64 0, .int .i64 300, .int .i64 8, .int .i64 0, .int .i64 0, .slice DA n dc, .slice none 0 0, .slice none 0 0, .slice none 0 0, .slice none 0 0, .slice none 0 0] := H2.out.2.2.grown hg3.1 (fun e => own_blk_ne H2.out.1 H2.out.2.2 (by decide) e.symm)
  have hg3' := H2.out.2.1.trans hg3
  have hbd : Below w0.heap.size w0 w3 := HD.out.2.trans (hg3'.below hsD (fun b hb => by simp [Value.ownBlock] at hb))
  have hb3 : Below w.heap.size w w3 := HR.out.2.2.1.trans (hbd.mono hw)
  have hdt := dataE_any w3 w.heap.size V3 (0 + 300 + 1 + 1) n dc DA ([] ++ List.replicate 300 2168 ++ List.replicate 1 667 ++ List.replicate 1 735) ds (by simp) own3 (by omega) (by omega) ((HR.out.1.below hbd).more hbd.size) HR.out.2.1 hn
  have H3 := Lib.hid (And.intro own3 (And.intro hg3' (And.intro hB3 hb3)))
  clear own3 hg3 hg3' hb3 hbd
  go_wp2_with (first
    | (refine wpList_load_box rfl 33 _ rfl (w.heap.size) rfl 33 #[.int .i64 17, .int .i64 0, .int .i64 2168, .int .i64 667, .int .i64 735, .int .i64 855, .int .i64 1710, .int .i64 0, .int .i64 300, .int .i64 8, .int .i64 0, .int .i64 0, .slice DA n dc, .slice none 0 0, .slice none 0 0, .slice none 0 0, .slice none 0 0, .slice none 0 0] hB3 _ Try.underlying33 rfl blkInfo (fun (_ : Hid _) => ?_))
    | fail)
  refine hdt.mono ?_
  rintro e w4 ⟨V4, rfl, own4, hg4⟩
  clear hdt hB3
  have hB4 : Blk w4 w.heap.size 33 #[.int .i64 17, .int .i64 0, .int .i64 2168, .int .i64 667, .int .i64 735, .int .i64 855, .int .i64 1710, .int .i64 0, .int .i64 300, .int .i64 8, .int .i64 0, .int .i64 0, .slice DA n dc, .slice none 0 0, .slice none 0 0, .slice none 0 0, .slice none 0 0, .slice none 0 0] := H3.out.2.2.1.grown hg4.1 (fun e => own_blk_ne H3.out.1 H3.out.2.2.1 (by decide) e.symm)
  have hb4 : Below w.heap.size w w4 := H3.out.2.2.2.trans (hg4.below (by omega) (fun b hb => (H3.out.1.lt b hb).1))
  have H4 := Lib.hid (And.intro own4 hb4)
  have d8 : w4.cell? ⟨w.heap.size, 8, none⟩ = some (.int .i64 300) := (hB4.cell 8).trans rfl
  have d1 : w4.cell? ⟨w.heap.size, 1, none⟩ = some (.int .i64 0) := (hB4.cell 1).trans rfl
  have d0 : w4.cell? ⟨w.heap.size, 0, none⟩ = some (.int .i64 17) := (hB4.cell 0).trans rfl
  clear own4 hg4 hB4 hb4
  go_wp2_with fail
  refine (pause0_any w4 V4).mono ?_
  rintro e w5 ⟨rfl, rfl⟩
  go_wp2
  go_ret2
  refine ⟨_, rfl, ?_, H4.out.2⟩
  have := H4.out.1
  unfold edgesL
  simpa using this
end Go.Proofs.Ytckgmnlmimogjaa
