/- Contracts of layer 4: the document's turns. -/
import Derived.Test.YtfollcgedcjgoaaR04
import Derived.Deep.RegionHeld3
import Derived.Deep.AppendLies
import Derived.Deep.CutRange
namespace Go.Proofs.Ytfollcgedcjgoaa
open Go.RowKit

theorem reads_cut {w : World} {g : Nat} {b : Int} (h : ∀ j, j < 8 → w.cell? ⟨g, j, none⟩ = some (.bool (bitH b j))) (hg : g < w.heap.size) :
    Reads w w.heap.size 1 (some ⟨g, 1, none⟩) 7 ((List.range 7).map fun i => .bool (bitH b (i + 1))) := by
  refine ⟨by simp, fun _ => ⟨_, rfl, hg, fun j u hu => ?_⟩⟩
  simp only [List.getElem?_map, Option.map_eq_some_iff] at hu
  obtain ⟨i, hi, rfl⟩ := hu
  have hj : j < 7 := by
    rcases Nat.lt_or_ge j 7 with h | h
    · exact h
    · rw [List.getElem?_eq_none (by simpa using h)] at hi; cases hi
  rw [List.getElem?_range hj] at hi
  injection hi with hi
  subst hi
  rw [show (Addr.add ⟨g, 1, none⟩ j) = ⟨g, j + 1, none⟩ by unfold Addr.add; split <;> simp_all; omega]
  exact h (j + 1) (by omega)
theorem low_cells {w : World} {g : Nat} {b : Int} (h : ∀ j, j < 8 → w.cell? ⟨g, j, none⟩ = some (.bool (bitH b j))) (j : Nat) (u : Value) (hu : ((List.range 7).map fun i => Value.bool (bitH b i))[j]? = some u) : w.cell? (Addr.add ⟨g, 0, none⟩ j) = some u := by
  simp only [List.getElem?_map, Option.map_eq_some_iff] at hu
  obtain ⟨i, hi, rfl⟩ := hu
  have hj : j < 7 := by
    rcases Nat.lt_or_ge j 7 with h | h
    · exact h
    · rw [List.getElem?_eq_none (by simpa using h)] at hi; cases hi
  rw [List.getElem?_range hj] at hi
  injection hi with hi
  subst hi
  rw [show (Addr.add ⟨g, 0, none⟩ j) = ⟨g, j, none⟩ by unfold Addr.add; split <;> simp_all]
  exact h j (by omega)
theorem own_len4 {w : World} {B e size n m cap g : Nat} {xs : List Value} (h : w.ownsRow B e size (.slice (some ⟨g, 0, none⟩) n cap) m xs) : n ≤ cap ∧ cap ≤ maxLen := by
  rcases h.2 with ⟨h0, _⟩ | ⟨g', cap', cur, hv, _, _, h1, h2, _⟩
  · cases h0
  · injection hv with _ e1 e2
    subst e1; subst e2
    exact ⟨h1, h2⟩
theorem ret_ib {a b : Int} {c d : Bool} (h : a = b) (e : c = d) : Ending.returned (.tuple #[.int .u8 a, .bool c]) = .returned (.tuple #[.int .u8 b, .bool d]) := by rw [h, e]

set_option maxHeartbeats 4000000 in
theorem turnRef_0 (b : Int) (c : Bool) (w : World) (b0 : 0 ≤ b) (b1 : b ≤ 255) :
    Calls Try.prog 26 #[.int .i64 0, .int .u8 b, .bool c] w fun e w' => e = .returned (.tuple #[.int .u8 (turnR 0 b c), .bool (turnC 0 b)]) ∧ Below w.heap.size w w' := by
  obtain ⟨i0, hi, hz0, hz1, hz2⟩ := info_parts boolInfo
  go_enter Try.func26, Try.ntmps26
  go_wp2_with fail
  refine (bits_own _ _ b0 b1).mono ?_
  rintro e w1 ⟨v, rfl, hown, hb⟩
  obtain ⟨g, cap, rfl, hg0, hg1⟩ := hown.form (by omega)
  obtain ⟨hc1, hc2⟩ := own_len4 hown
  have hcell : ∀ j, j < 8 → w1.cell? ⟨g, j, none⟩ = some (.bool (bitH b j)) := fun j hj => by
    rw [hown.cellAt j (by omega)]
    unfold bitCells
    rw [List.getElem?_map, List.getElem?_range hj]
    rfl
  clear hown
  have q0 := hcell 0 (by omega)
  have q7 := hcell 7 (by omega)
  unfold maxLen at hc2
  have hrd := reads_cut hcell hg1
  have h1 : ∀ u ∈ ((List.range 7).map fun i => Value.bool (bitH b (i + 1))), u.oneCell' = true := fun u hu => by
    simp only [List.mem_map] at hu
    obtain ⟨z, _, rfl⟩ := hu
    rfl
  clear hcell
  go_wp2_with (first
    | (at_builtin; refine wpList_append_any _ rfl _ _ 41 rfl w1.heap.size 4 i0 (.bool false) 1 1 Try.underlying41 hi hz0 hz1 hz2 rfl (by decide) _ 0 [] rfl (World.ownsRow_nil _ _ _ _) w1.heap.size (some ⟨g, 1, none⟩) 7 _ _ rfl hrd h1 ?c1 ?c2 ?c3 ?_)
    | fail)
  case c1 => unfold maxLen; omega
  case c2 => omega
  case c3 => exact Nat.le_refl _
  intro v2 w2 hown2 hgrow _
  obtain ⟨g2, cap2, rfl, hg2, hg3⟩ := hown2.form (by omega)
  have hb2 : Below w1.heap.size w1 w2 := (Below.refl _ _).grown hgrow (Nat.le_refl _) (fun i hi => by simp [Value.ownBlock] at hi)
  have hs2 := hb2.size
  have k0 : w2.cell? ⟨g, 0, none⟩ = some (.bool (bitH b 0)) := (hb2.cell hg1).trans q0
  have hne : some g ≠ (Value.slice (some ⟨g2, 0, none⟩) 7 cap2).ownBlock := by simp [Value.ownBlock]; omega
  have HNE := Lib.hid hne
  clear hne hrd h1 q0 q7 hgrow
  go_upto_region 12 with fail
  go_region_held3 (fun w' => w'.cell? ⟨g, 0, none⟩ = some (.bool (bitH b 0)))
    (first
      | go_keep
      | (rw [hgrow3.cell_far _ (by simp; omega) HNE.out]; go_keep))
    (first
      | (refine step_append_lies _ (by rfl) _ _ _ (by rfl) w1.heap.size 4 i0 (.bool false) 1 1 Try.underlying41 hi hz0 hz1 hz2 rfl (by decide) (.slice (some ⟨g2, 0, none⟩) 7 cap2) 7 _ (by rfl) ((hown2.alloc _).drew) ⟨w2.heap.size, 0, none⟩ 1 1 [.bool (bitH b 0)] (by rfl) (by rfl) (World.news_of_block (cs := #[.bool (bitH b 0)]) (t := 4) (fr := (0, 0)) (heap_alloc_new w2 _)) (by simp [Value.oneCell']) (by omega) (by unfold maxLen; omega) (by omega) (by simp; omega) (w2.heap.size + 1) (by simp) ?_; intro gg cap3 W3 hown3 hgrow3 hat hgl)
      | (go_simp
         go_at_call 30
         refine (byte_go (bools_of_own (f := fun j => if j = 7 then bitH b 0 else bitH b (j + 1)) hown3 (by omega))).mono ?_
         rintro e wq ⟨rfl, rfl⟩))
  all_goals
    have hb3 : Below w1.heap.size w2 W3 := (((Below.refl _ _).alloc hs2 _).drew).grown hgrow3 (by simp; omega) (fun i hi => by simp [Value.ownBlock] at hi; omega)
    go_wp2
    go_ret2
    refine ⟨ret_ib ?_ ?_, hb.trans ((hb2.trans hb3).mono hb.size)⟩
    · rw [turnR_up _ _ (by decide)]; rfl
    · unfold turnC; rw [if_pos (by decide)]

set_option maxHeartbeats 4000000 in
theorem turnRef_1 (b : Int) (c : Bool) (w : World) (b0 : 0 ≤ b) (b1 : b ≤ 255) :
    Calls Try.prog 26 #[.int .i64 1, .int .u8 b, .bool c] w fun e w' => e = .returned (.tuple #[.int .u8 (turnR 1 b c), .bool (turnC 1 b)]) ∧ Below w.heap.size w w' := by
  obtain ⟨i0, hi, hz0, hz1, hz2⟩ := info_parts boolInfo
  go_enter Try.func26, Try.ntmps26
  go_wp2_with fail
  refine (bits_own _ _ b0 b1).mono ?_
  rintro e w1 ⟨v, rfl, hown, hb⟩
  obtain ⟨g, cap, rfl, hg0, hg1⟩ := hown.form (by omega)
  obtain ⟨hc1, hc2⟩ := own_len4 hown
  have hcell : ∀ j, j < 8 → w1.cell? ⟨g, j, none⟩ = some (.bool (bitH b j)) := fun j hj => by
    rw [hown.cellAt j (by omega)]
    unfold bitCells
    rw [List.getElem?_map, List.getElem?_range hj]
    rfl
  clear hown
  have q0 := hcell 0 (by omega)
  have q7 := hcell 7 (by omega)
  unfold maxLen at hc2
  go_wp2_with (first
    | (at_builtin; refine wpList_append_own _ rfl _ _ 41 rfl w1.heap.size 4 i0 (.bool false) 1 1 Try.underlying41 hi hz0 hz1 hz2 rfl (by decide) _ 0 [] rfl (World.ownsRow_nil _ _ _ _) ⟨w1.heap.size, 0, none⟩ 1 1 [.bool (bitH b 7)] rfl rfl ?c1 ?c2 ?c3 ?c4 ?c5 ?_)
    | fail)
  case c1 =>
    intro i u hi
    match i, hi with
    | 0, hi => simp at hi; subst hi; simp [Addr.add]
  case c2 => intro u hu; simp at hu; subst hu; rfl
  case c3 => unfold maxLen; omega
  case c4 => omega
  case c5 => simp
  intro v2 w2 hown2 hgrow _
  obtain ⟨g2, cap2, rfl, hg2, hg3⟩ := hown2.form (by omega)
  have hb2 : Below w1.heap.size w1 w2 := ((Below.refl _ _).alloc (Nat.le_refl _) _).grown hgrow (by simp) (fun i hi => by simp [Value.ownBlock] at hi)
  have hs2 := hb2.size
  have hcell2 : ∀ j, j < 8 → w2.drew.cell? ⟨g, j, none⟩ = some (.bool (bitH b j)) := fun j hj => (hb2.drew.cell hg1).trans (hcell j hj)
  have HC2 := Lib.hid hcell2
  have k7 : w2.cell? ⟨g, 7, none⟩ = some (.bool (bitH b 7)) := hcell2 7 (by omega)
  have h1 : ∀ u ∈ ((List.range 7).map fun i => Value.bool (bitH b i)), u.oneCell' = true := fun u hu => by
    simp only [List.mem_map] at hu
    obtain ⟨z, _, rfl⟩ := hu
    rfl
  have H1 := Lib.hid h1
  have hne : some g ≠ (Value.slice (some ⟨g2, 0, none⟩) 1 cap2).ownBlock := by simp [Value.ownBlock]; omega
  have HNE := Lib.hid hne
  clear hne h1 q0 q7 hgrow hcell hcell2
  have hcI7 : (7 : Int) ≤ (cap : Int) := by omega
  have hcI8 : (8 : Int) ≤ (cap : Int) := by omega
  have hcI0 : (0 : Int) ≤ (cap : Int) := by omega
  go_upto_region 21 with fail
  go_region_held3 (fun w' => w'.cell? ⟨g, 7, none⟩ = some (.bool (bitH b 7)))
    (first
      | go_keep
      | (rw [hgrow3.cell_far _ (by simp; omega) HNE.out]; go_keep))
    (first
      | (refine step_append_lies _ (by rfl) _ _ _ (by rfl) w1.heap.size 4 i0 (.bool false) 1 1 Try.underlying41 hi hz0 hz1 hz2 rfl (by decide) (.slice (some ⟨g2, 0, none⟩) 1 cap2) 1 _ (by rfl) hown2.drew ⟨g, 0, none⟩ 7 _ ((List.range 7).map fun i => .bool (bitH b i)) (by rfl) (by rfl) (low_cells HC2.out) H1.out (by omega) (by unfold maxLen; omega) (by omega) (by simp; omega) w2.heap.size (by simp) ?_; intro gg cap3 W3 hown3 hgrow3 hat hgl)
      | (go_simp
         go_at_call 30
         refine (byte_go (bools_of_own (f := fun j => if j = 0 then bitH b 7 else bitH b (j - 1)) hown3 (by omega))).mono ?_
         rintro e wq ⟨rfl, rfl⟩))
  all_goals
    have hb3 : Below w1.heap.size w2 W3 := ((Below.refl _ _).drew).grown hgrow3 (by simp; omega) (fun i hi => by simp [Value.ownBlock] at hi; omega)
    go_wp2
    go_ret2
    refine ⟨ret_ib ?_ ?_, hb.trans ((hb2.trans hb3).mono hb.size)⟩
    · rw [turnR_down _ _ (by decide)]; rfl
    · unfold turnC; rw [if_neg (by decide)]

set_option maxHeartbeats 4000000 in
theorem turnRef_2 (b : Int) (c : Bool) (w : World) (b0 : 0 ≤ b) (b1 : b ≤ 255) :
    Calls Try.prog 26 #[.int .i64 2, .int .u8 b, .bool c] w fun e w' => e = .returned (.tuple #[.int .u8 (turnR 2 b c), .bool (turnC 2 b)]) ∧ Below w.heap.size w w' := by
  obtain ⟨i0, hi, hz0, hz1, hz2⟩ := info_parts boolInfo
  go_enter Try.func26, Try.ntmps26
  go_wp2_with fail
  refine (bits_own _ _ b0 b1).mono ?_
  rintro e w1 ⟨v, rfl, hown, hb⟩
  obtain ⟨g, cap, rfl, hg0, hg1⟩ := hown.form (by omega)
  obtain ⟨hc1, hc2⟩ := own_len4 hown
  have hcell : ∀ j, j < 8 → w1.cell? ⟨g, j, none⟩ = some (.bool (bitH b j)) := fun j hj => by
    rw [hown.cellAt j (by omega)]
    unfold bitCells
    rw [List.getElem?_map, List.getElem?_range hj]
    rfl
  clear hown
  have q0 := hcell 0 (by omega)
  have q7 := hcell 7 (by omega)
  unfold maxLen at hc2
  have hrd := reads_cut hcell hg1
  have h1 : ∀ u ∈ ((List.range 7).map fun i => Value.bool (bitH b (i + 1))), u.oneCell' = true := fun u hu => by
    simp only [List.mem_map] at hu
    obtain ⟨z, _, rfl⟩ := hu
    rfl
  clear hcell
  go_wp2_with (first
    | (at_builtin; refine wpList_append_any _ rfl _ _ 41 rfl w1.heap.size 4 i0 (.bool false) 1 1 Try.underlying41 hi hz0 hz1 hz2 rfl (by decide) _ 0 [] rfl (World.ownsRow_nil _ _ _ _) w1.heap.size (some ⟨g, 1, none⟩) 7 _ _ rfl hrd h1 ?c1 ?c2 ?c3 ?_)
    | fail)
  case c1 => unfold maxLen; omega
  case c2 => omega
  case c3 => exact Nat.le_refl _
  intro v2 w2 hown2 hgrow _
  obtain ⟨g2, cap2, rfl, hg2, hg3⟩ := hown2.form (by omega)
  have hb2 : Below w1.heap.size w1 w2 := (Below.refl _ _).grown hgrow (Nat.le_refl _) (fun i hi => by simp [Value.ownBlock] at hi)
  have hs2 := hb2.size
  have k0 : w2.cell? ⟨g, 0, none⟩ = some (.bool (bitH b 0)) := (hb2.cell hg1).trans q0
  have hne : some g ≠ (Value.slice (some ⟨g2, 0, none⟩) 7 cap2).ownBlock := by simp [Value.ownBlock]; omega
  have HNE := Lib.hid hne
  clear hne hrd h1 q0 q7 hgrow
  go_upto_region 12 with fail
  go_region_held3 (fun w' => w'.cell? ⟨g, 0, none⟩ = some (.bool (bitH b 0)))
    (first
      | go_keep
      | (rw [hgrow3.cell_far _ (by simp; omega) HNE.out]; go_keep))
    (first
      | (refine step_append_lies _ (by rfl) _ _ _ (by rfl) w1.heap.size 4 i0 (.bool false) 1 1 Try.underlying41 hi hz0 hz1 hz2 rfl (by decide) (.slice (some ⟨g2, 0, none⟩) 7 cap2) 7 _ (by rfl) ((hown2.alloc _).drew) ⟨w2.heap.size, 0, none⟩ 1 1 [.bool (c)] (by rfl) (by rfl) (World.news_of_block (cs := #[.bool (c)]) (t := 4) (fr := (0, 0)) (heap_alloc_new w2 _)) (by simp [Value.oneCell']) (by omega) (by unfold maxLen; omega) (by omega) (by simp; omega) (w2.heap.size + 1) (by simp) ?_; intro gg cap3 W3 hown3 hgrow3 hat hgl)
      | (go_simp
         go_at_call 30
         refine (byte_go (bools_of_own (f := fun j => if j = 7 then c else bitH b (j + 1)) hown3 (by omega))).mono ?_
         rintro e wq ⟨rfl, rfl⟩))
  all_goals
    have hb3 : Below w1.heap.size w2 W3 := (((Below.refl _ _).alloc hs2 _).drew).grown hgrow3 (by simp; omega) (fun i hi => by simp [Value.ownBlock] at hi; omega)
    go_wp2
    go_ret2
    refine ⟨ret_ib ?_ ?_, hb.trans ((hb2.trans hb3).mono hb.size)⟩
    · rw [turnR_up _ _ (by decide)]; rfl
    · unfold turnC; rw [if_pos (by decide)]

set_option maxHeartbeats 4000000 in
theorem turnRef_3 (b : Int) (c : Bool) (w : World) (b0 : 0 ≤ b) (b1 : b ≤ 255) :
    Calls Try.prog 26 #[.int .i64 3, .int .u8 b, .bool c] w fun e w' => e = .returned (.tuple #[.int .u8 (turnR 3 b c), .bool (turnC 3 b)]) ∧ Below w.heap.size w w' := by
  obtain ⟨i0, hi, hz0, hz1, hz2⟩ := info_parts boolInfo
  go_enter Try.func26, Try.ntmps26
  go_wp2_with fail
  refine (bits_own _ _ b0 b1).mono ?_
  rintro e w1 ⟨v, rfl, hown, hb⟩
  obtain ⟨g, cap, rfl, hg0, hg1⟩ := hown.form (by omega)
  obtain ⟨hc1, hc2⟩ := own_len4 hown
  have hcell : ∀ j, j < 8 → w1.cell? ⟨g, j, none⟩ = some (.bool (bitH b j)) := fun j hj => by
    rw [hown.cellAt j (by omega)]
    unfold bitCells
    rw [List.getElem?_map, List.getElem?_range hj]
    rfl
  clear hown
  have q0 := hcell 0 (by omega)
  have q7 := hcell 7 (by omega)
  unfold maxLen at hc2
  go_wp2_with (first
    | (at_builtin; refine wpList_append_own _ rfl _ _ 41 rfl w1.heap.size 4 i0 (.bool false) 1 1 Try.underlying41 hi hz0 hz1 hz2 rfl (by decide) _ 0 [] rfl (World.ownsRow_nil _ _ _ _) ⟨w1.heap.size, 0, none⟩ 1 1 [.bool (c)] rfl rfl ?c1 ?c2 ?c3 ?c4 ?c5 ?_)
    | fail)
  case c1 =>
    intro i u hi
    match i, hi with
    | 0, hi => simp at hi; subst hi; simp [Addr.add]
  case c2 => intro u hu; simp at hu; subst hu; rfl
  case c3 => unfold maxLen; omega
  case c4 => omega
  case c5 => simp
  intro v2 w2 hown2 hgrow _
  obtain ⟨g2, cap2, rfl, hg2, hg3⟩ := hown2.form (by omega)
  have hb2 : Below w1.heap.size w1 w2 := ((Below.refl _ _).alloc (Nat.le_refl _) _).grown hgrow (by simp) (fun i hi => by simp [Value.ownBlock] at hi)
  have hs2 := hb2.size
  have hcell2 : ∀ j, j < 8 → w2.drew.cell? ⟨g, j, none⟩ = some (.bool (bitH b j)) := fun j hj => (hb2.drew.cell hg1).trans (hcell j hj)
  have HC2 := Lib.hid hcell2
  have k7 : w2.cell? ⟨g, 7, none⟩ = some (.bool (bitH b 7)) := hcell2 7 (by omega)
  have h1 : ∀ u ∈ ((List.range 7).map fun i => Value.bool (bitH b i)), u.oneCell' = true := fun u hu => by
    simp only [List.mem_map] at hu
    obtain ⟨z, _, rfl⟩ := hu
    rfl
  have H1 := Lib.hid h1
  have hne : some g ≠ (Value.slice (some ⟨g2, 0, none⟩) 1 cap2).ownBlock := by simp [Value.ownBlock]; omega
  have HNE := Lib.hid hne
  clear hne h1 q0 q7 hgrow hcell hcell2
  have hcI7 : (7 : Int) ≤ (cap : Int) := by omega
  have hcI8 : (8 : Int) ≤ (cap : Int) := by omega
  have hcI0 : (0 : Int) ≤ (cap : Int) := by omega
  go_upto_region 21 with fail
  go_region_held3 (fun w' => w'.cell? ⟨g, 7, none⟩ = some (.bool (bitH b 7)))
    (first
      | go_keep
      | (rw [hgrow3.cell_far _ (by simp; omega) HNE.out]; go_keep))
    (first
      | (refine step_append_lies _ (by rfl) _ _ _ (by rfl) w1.heap.size 4 i0 (.bool false) 1 1 Try.underlying41 hi hz0 hz1 hz2 rfl (by decide) (.slice (some ⟨g2, 0, none⟩) 1 cap2) 1 _ (by rfl) hown2.drew ⟨g, 0, none⟩ 7 _ ((List.range 7).map fun i => .bool (bitH b i)) (by rfl) (by rfl) (low_cells HC2.out) H1.out (by omega) (by unfold maxLen; omega) (by omega) (by simp; omega) w2.heap.size (by simp) ?_; intro gg cap3 W3 hown3 hgrow3 hat hgl)
      | (go_simp
         go_at_call 30
         refine (byte_go (bools_of_own (f := fun j => if j = 0 then c else bitH b (j - 1)) hown3 (by omega))).mono ?_
         rintro e wq ⟨rfl, rfl⟩))
  all_goals
    have hb3 : Below w1.heap.size w2 W3 := ((Below.refl _ _).drew).grown hgrow3 (by simp; omega) (fun i hi => by simp [Value.ownBlock] at hi; omega)
    go_wp2
    go_ret2
    refine ⟨ret_ib ?_ ?_, hb.trans ((hb2.trans hb3).mono hb.size)⟩
    · rw [turnR_down _ _ (by decide)]; rfl
    · unfold turnC; rw [if_neg (by decide)]

set_option maxHeartbeats 4000000 in
theorem turnRef_4 (b : Int) (c : Bool) (w : World) (b0 : 0 ≤ b) (b1 : b ≤ 255) :
    Calls Try.prog 26 #[.int .i64 4, .int .u8 b, .bool c] w fun e w' => e = .returned (.tuple #[.int .u8 (turnR 4 b c), .bool (turnC 4 b)]) ∧ Below w.heap.size w w' := by
  obtain ⟨i0, hi, hz0, hz1, hz2⟩ := info_parts boolInfo
  go_enter Try.func26, Try.ntmps26
  go_wp2_with fail
  refine (bits_own _ _ b0 b1).mono ?_
  rintro e w1 ⟨v, rfl, hown, hb⟩
  obtain ⟨g, cap, rfl, hg0, hg1⟩ := hown.form (by omega)
  obtain ⟨hc1, hc2⟩ := own_len4 hown
  have hcell : ∀ j, j < 8 → w1.cell? ⟨g, j, none⟩ = some (.bool (bitH b j)) := fun j hj => by
    rw [hown.cellAt j (by omega)]
    unfold bitCells
    rw [List.getElem?_map, List.getElem?_range hj]
    rfl
  clear hown
  have q0 := hcell 0 (by omega)
  have q7 := hcell 7 (by omega)
  unfold maxLen at hc2
  have hrd := reads_cut hcell hg1
  have h1 : ∀ u ∈ ((List.range 7).map fun i => Value.bool (bitH b (i + 1))), u.oneCell' = true := fun u hu => by
    simp only [List.mem_map] at hu
    obtain ⟨z, _, rfl⟩ := hu
    rfl
  clear hcell
  go_wp2_with (first
    | (at_builtin; refine wpList_append_any _ rfl _ _ 41 rfl w1.heap.size 4 i0 (.bool false) 1 1 Try.underlying41 hi hz0 hz1 hz2 rfl (by decide) _ 0 [] rfl (World.ownsRow_nil _ _ _ _) w1.heap.size (some ⟨g, 1, none⟩) 7 _ _ rfl hrd h1 ?c1 ?c2 ?c3 ?_)
    | fail)
  case c1 => unfold maxLen; omega
  case c2 => omega
  case c3 => exact Nat.le_refl _
  intro v2 w2 hown2 hgrow _
  obtain ⟨g2, cap2, rfl, hg2, hg3⟩ := hown2.form (by omega)
  have hb2 : Below w1.heap.size w1 w2 := (Below.refl _ _).grown hgrow (Nat.le_refl _) (fun i hi => by simp [Value.ownBlock] at hi)
  have hs2 := hb2.size
  have k0 : w2.cell? ⟨g, 0, none⟩ = some (.bool (bitH b 0)) := (hb2.cell hg1).trans q0
  have hne : some g ≠ (Value.slice (some ⟨g2, 0, none⟩) 7 cap2).ownBlock := by simp [Value.ownBlock]; omega
  have HNE := Lib.hid hne
  clear hne hrd h1 q0 q7 hgrow
  go_upto_region 12 with fail
  go_region_held3 (fun w' => w'.cell? ⟨g, 0, none⟩ = some (.bool (bitH b 0)))
    (first
      | go_keep
      | (rw [hgrow3.cell_far _ (by simp; omega) HNE.out]; go_keep))
    (first
      | (refine step_append_lies _ (by rfl) _ _ _ (by rfl) w1.heap.size 4 i0 (.bool false) 1 1 Try.underlying41 hi hz0 hz1 hz2 rfl (by decide) (.slice (some ⟨g2, 0, none⟩) 7 cap2) 7 _ (by rfl) ((hown2.alloc _).drew) ⟨w2.heap.size, 0, none⟩ 1 1 [.bool (false)] (by rfl) (by rfl) (World.news_of_block (cs := #[.bool (false)]) (t := 4) (fr := (0, 0)) (heap_alloc_new w2 _)) (by simp [Value.oneCell']) (by omega) (by unfold maxLen; omega) (by omega) (by simp; omega) (w2.heap.size + 1) (by simp) ?_; intro gg cap3 W3 hown3 hgrow3 hat hgl)
      | (go_simp
         go_at_call 30
         refine (byte_go (bools_of_own (f := fun j => if j = 7 then false else bitH b (j + 1)) hown3 (by omega))).mono ?_
         rintro e wq ⟨rfl, rfl⟩))
  all_goals
    have hb3 : Below w1.heap.size w2 W3 := (((Below.refl _ _).alloc hs2 _).drew).grown hgrow3 (by simp; omega) (fun i hi => by simp [Value.ownBlock] at hi; omega)
    go_wp2
    go_ret2
    refine ⟨ret_ib ?_ ?_, hb.trans ((hb2.trans hb3).mono hb.size)⟩
    · rw [turnR_up _ _ (by decide)]; rfl
    · unfold turnC; rw [if_pos (by decide)]

set_option maxHeartbeats 4000000 in
theorem turnRef_5 (b : Int) (c : Bool) (w : World) (b0 : 0 ≤ b) (b1 : b ≤ 255) :
    Calls Try.prog 26 #[.int .i64 5, .int .u8 b, .bool c] w fun e w' => e = .returned (.tuple #[.int .u8 (turnR 5 b c), .bool (turnC 5 b)]) ∧ Below w.heap.size w w' := by
  obtain ⟨i0, hi, hz0, hz1, hz2⟩ := info_parts boolInfo
  go_enter Try.func26, Try.ntmps26
  go_wp2_with fail
  refine (bits_own _ _ b0 b1).mono ?_
  rintro e w1 ⟨v, rfl, hown, hb⟩
  obtain ⟨g, cap, rfl, hg0, hg1⟩ := hown.form (by omega)
  obtain ⟨hc1, hc2⟩ := own_len4 hown
  have hcell : ∀ j, j < 8 → w1.cell? ⟨g, j, none⟩ = some (.bool (bitH b j)) := fun j hj => by
    rw [hown.cellAt j (by omega)]
    unfold bitCells
    rw [List.getElem?_map, List.getElem?_range hj]
    rfl
  clear hown
  have q0 := hcell 0 (by omega)
  have q7 := hcell 7 (by omega)
  unfold maxLen at hc2
  go_wp2_with (first
    | (at_builtin; refine wpList_append_own _ rfl _ _ 41 rfl w1.heap.size 4 i0 (.bool false) 1 1 Try.underlying41 hi hz0 hz1 hz2 rfl (by decide) _ 0 [] rfl (World.ownsRow_nil _ _ _ _) ⟨w1.heap.size, 0, none⟩ 1 1 [.bool (bitH b 0)] rfl rfl ?c1 ?c2 ?c3 ?c4 ?c5 ?_)
    | fail)
  case c1 =>
    intro i u hi
    match i, hi with
    | 0, hi => simp at hi; subst hi; simp [Addr.add]
  case c2 => intro u hu; simp at hu; subst hu; rfl
  case c3 => unfold maxLen; omega
  case c4 => omega
  case c5 => simp
  intro v2 w2 hown2 hgrow _
  obtain ⟨g2, cap2, rfl, hg2, hg3⟩ := hown2.form (by omega)
  have hb2 : Below w1.heap.size w1 w2 := ((Below.refl _ _).alloc (Nat.le_refl _) _).grown hgrow (by simp) (fun i hi => by simp [Value.ownBlock] at hi)
  have hs2 := hb2.size
  have hcell2 : ∀ j, j < 8 → w2.drew.cell? ⟨g, j, none⟩ = some (.bool (bitH b j)) := fun j hj => (hb2.drew.cell hg1).trans (hcell j hj)
  have HC2 := Lib.hid hcell2
  have k7 : w2.cell? ⟨g, 7, none⟩ = some (.bool (bitH b 7)) := hcell2 7 (by omega)
  have h1 : ∀ u ∈ ((List.range 7).map fun i => Value.bool (bitH b i)), u.oneCell' = true := fun u hu => by
    simp only [List.mem_map] at hu
    obtain ⟨z, _, rfl⟩ := hu
    rfl
  have H1 := Lib.hid h1
  have hne : some g ≠ (Value.slice (some ⟨g2, 0, none⟩) 1 cap2).ownBlock := by simp [Value.ownBlock]; omega
  have HNE := Lib.hid hne
  clear hne h1 q0 q7 hgrow hcell hcell2
  have hcI7 : (7 : Int) ≤ (cap : Int) := by omega
  have hcI8 : (8 : Int) ≤ (cap : Int) := by omega
  have hcI0 : (0 : Int) ≤ (cap : Int) := by omega
  go_upto_region 21 with fail
  go_region_held3 (fun w' => w'.cell? ⟨g, 7, none⟩ = some (.bool (bitH b 7)))
    (first
      | go_keep
      | (rw [hgrow3.cell_far _ (by simp; omega) HNE.out]; go_keep))
    (first
      | (refine step_append_lies _ (by rfl) _ _ _ (by rfl) w1.heap.size 4 i0 (.bool false) 1 1 Try.underlying41 hi hz0 hz1 hz2 rfl (by decide) (.slice (some ⟨g2, 0, none⟩) 1 cap2) 1 _ (by rfl) hown2.drew ⟨g, 0, none⟩ 7 _ ((List.range 7).map fun i => .bool (bitH b i)) (by rfl) (by rfl) (low_cells HC2.out) H1.out (by omega) (by unfold maxLen; omega) (by omega) (by simp; omega) w2.heap.size (by simp) ?_; intro gg cap3 W3 hown3 hgrow3 hat hgl)
      | (go_simp
         go_at_call 30
         refine (byte_go (bools_of_own (f := fun j => if j = 0 then bitH b 0 else bitH b (j - 1)) hown3 (by omega))).mono ?_
         rintro e wq ⟨rfl, rfl⟩))
  all_goals
    have hb3 : Below w1.heap.size w2 W3 := ((Below.refl _ _).drew).grown hgrow3 (by simp; omega) (fun i hi => by simp [Value.ownBlock] at hi; omega)
    go_wp2
    go_ret2
    refine ⟨ret_ib ?_ ?_, hb.trans ((hb2.trans hb3).mono hb.size)⟩
    · rw [turnR_down _ _ (by decide)]; rfl
    · unfold turnC; rw [if_neg (by decide)]

set_option maxHeartbeats 4000000 in
theorem turnRef_6 (b : Int) (c : Bool) (w : World) (b0 : 0 ≤ b) (b1 : b ≤ 255) :
    Calls Try.prog 26 #[.int .i64 6, .int .u8 b, .bool c] w fun e w' => e = .returned (.tuple #[.int .u8 (turnR 6 b c), .bool (turnC 6 b)]) ∧ Below w.heap.size w w' := by
  obtain ⟨i0, hi, hz0, hz1, hz2⟩ := info_parts boolInfo
  go_enter Try.func26, Try.ntmps26
  go_wp2_with fail
  refine (bits_own _ _ b0 b1).mono ?_
  rintro e w1 ⟨v, rfl, hown, hb⟩
  obtain ⟨g, cap, rfl, hg0, hg1⟩ := hown.form (by omega)
  obtain ⟨hc1, hc2⟩ := own_len4 hown
  have hcell : ∀ j, j < 8 → w1.cell? ⟨g, j, none⟩ = some (.bool (bitH b j)) := fun j hj => by
    rw [hown.cellAt j (by omega)]
    unfold bitCells
    rw [List.getElem?_map, List.getElem?_range hj]
    rfl
  clear hown
  have q0 := hcell 0 (by omega)
  have q7 := hcell 7 (by omega)
  unfold maxLen at hc2
  have hrd := reads_cut hcell hg1
  have h1 : ∀ u ∈ ((List.range 7).map fun i => Value.bool (bitH b (i + 1))), u.oneCell' = true := fun u hu => by
    simp only [List.mem_map] at hu
    obtain ⟨z, _, rfl⟩ := hu
    rfl
  clear hcell
  go_wp2_with (first
    | (at_builtin; refine wpList_append_any _ rfl _ _ 41 rfl w1.heap.size 4 i0 (.bool false) 1 1 Try.underlying41 hi hz0 hz1 hz2 rfl (by decide) _ 0 [] rfl (World.ownsRow_nil _ _ _ _) w1.heap.size (some ⟨g, 1, none⟩) 7 _ _ rfl hrd h1 ?c1 ?c2 ?c3 ?_)
    | fail)
  case c1 => unfold maxLen; omega
  case c2 => omega
  case c3 => exact Nat.le_refl _
  intro v2 w2 hown2 hgrow _
  obtain ⟨g2, cap2, rfl, hg2, hg3⟩ := hown2.form (by omega)
  have hb2 : Below w1.heap.size w1 w2 := (Below.refl _ _).grown hgrow (Nat.le_refl _) (fun i hi => by simp [Value.ownBlock] at hi)
  have hs2 := hb2.size
  have k0 : w2.cell? ⟨g, 0, none⟩ = some (.bool (bitH b 0)) := (hb2.cell hg1).trans q0
  have hne : some g ≠ (Value.slice (some ⟨g2, 0, none⟩) 7 cap2).ownBlock := by simp [Value.ownBlock]; omega
  have HNE := Lib.hid hne
  clear hne hrd h1 q0 q7 hgrow
  go_upto_region 12 with fail
  go_region_held3 (fun w' => w'.cell? ⟨g, 0, none⟩ = some (.bool (bitH b 0)))
    (first
      | go_keep
      | (rw [hgrow3.cell_far _ (by simp; omega) HNE.out]; go_keep))
    (first
      | (refine step_append_lies _ (by rfl) _ _ _ (by rfl) w1.heap.size 4 i0 (.bool false) 1 1 Try.underlying41 hi hz0 hz1 hz2 rfl (by decide) (.slice (some ⟨g2, 0, none⟩) 7 cap2) 7 _ (by rfl) ((hown2.alloc _).drew) ⟨w2.heap.size, 0, none⟩ 1 1 [.bool (true)] (by rfl) (by rfl) (World.news_of_block (cs := #[.bool (true)]) (t := 4) (fr := (0, 0)) (heap_alloc_new w2 _)) (by simp [Value.oneCell']) (by omega) (by unfold maxLen; omega) (by omega) (by simp; omega) (w2.heap.size + 1) (by simp) ?_; intro gg cap3 W3 hown3 hgrow3 hat hgl)
      | (go_simp
         go_at_call 30
         refine (byte_go (bools_of_own (f := fun j => if j = 7 then true else bitH b (j + 1)) hown3 (by omega))).mono ?_
         rintro e wq ⟨rfl, rfl⟩))
  all_goals
    have hb3 : Below w1.heap.size w2 W3 := (((Below.refl _ _).alloc hs2 _).drew).grown hgrow3 (by simp; omega) (fun i hi => by simp [Value.ownBlock] at hi; omega)
    go_wp2
    go_ret2
    refine ⟨ret_ib ?_ ?_, hb.trans ((hb2.trans hb3).mono hb.size)⟩
    · rw [turnR_up _ _ (by decide)]; rfl
    · unfold turnC; rw [if_pos (by decide)]

set_option maxHeartbeats 4000000 in
theorem turnRef_7 (b : Int) (c : Bool) (w : World) (b0 : 0 ≤ b) (b1 : b ≤ 255) :
    Calls Try.prog 26 #[.int .i64 7, .int .u8 b, .bool c] w fun e w' => e = .returned (.tuple #[.int .u8 (turnR 7 b c), .bool (turnC 7 b)]) ∧ Below w.heap.size w w' := by
  obtain ⟨i0, hi, hz0, hz1, hz2⟩ := info_parts boolInfo
  go_enter Try.func26, Try.ntmps26
  go_wp2_with fail
  refine (bits_own _ _ b0 b1).mono ?_
  rintro e w1 ⟨v, rfl, hown, hb⟩
  obtain ⟨g, cap, rfl, hg0, hg1⟩ := hown.form (by omega)
  obtain ⟨hc1, hc2⟩ := own_len4 hown
  have hcell : ∀ j, j < 8 → w1.cell? ⟨g, j, none⟩ = some (.bool (bitH b j)) := fun j hj => by
    rw [hown.cellAt j (by omega)]
    unfold bitCells
    rw [List.getElem?_map, List.getElem?_range hj]
    rfl
  clear hown
  have q0 := hcell 0 (by omega)
  have q7 := hcell 7 (by omega)
  unfold maxLen at hc2
  go_wp2_with (first
    | (at_builtin; refine wpList_append_own _ rfl _ _ 41 rfl w1.heap.size 4 i0 (.bool false) 1 1 Try.underlying41 hi hz0 hz1 hz2 rfl (by decide) _ 0 [] rfl (World.ownsRow_nil _ _ _ _) ⟨w1.heap.size, 0, none⟩ 1 1 [.bool (false)] rfl rfl ?c1 ?c2 ?c3 ?c4 ?c5 ?_)
    | fail)
  case c1 =>
    intro i u hi
    match i, hi with
    | 0, hi => simp at hi; subst hi; simp [Addr.add]
  case c2 => intro u hu; simp at hu; subst hu; rfl
  case c3 => unfold maxLen; omega
  case c4 => omega
  case c5 => simp
  intro v2 w2 hown2 hgrow _
  obtain ⟨g2, cap2, rfl, hg2, hg3⟩ := hown2.form (by omega)
  have hb2 : Below w1.heap.size w1 w2 := ((Below.refl _ _).alloc (Nat.le_refl _) _).grown hgrow (by simp) (fun i hi => by simp [Value.ownBlock] at hi)
  have hs2 := hb2.size
  have hcell2 : ∀ j, j < 8 → w2.drew.cell? ⟨g, j, none⟩ = some (.bool (bitH b j)) := fun j hj => (hb2.drew.cell hg1).trans (hcell j hj)
  have HC2 := Lib.hid hcell2
  have k7 : w2.cell? ⟨g, 7, none⟩ = some (.bool (bitH b 7)) := hcell2 7 (by omega)
  have h1 : ∀ u ∈ ((List.range 7).map fun i => Value.bool (bitH b i)), u.oneCell' = true := fun u hu => by
    simp only [List.mem_map] at hu
    obtain ⟨z, _, rfl⟩ := hu
    rfl
  have H1 := Lib.hid h1
  have hne : some g ≠ (Value.slice (some ⟨g2, 0, none⟩) 1 cap2).ownBlock := by simp [Value.ownBlock]; omega
  have HNE := Lib.hid hne
  clear hne h1 q0 q7 hgrow hcell hcell2
  have hcI7 : (7 : Int) ≤ (cap : Int) := by omega
  have hcI8 : (8 : Int) ≤ (cap : Int) := by omega
  have hcI0 : (0 : Int) ≤ (cap : Int) := by omega
  go_upto_region 21 with fail
  go_region_held3 (fun w' => w'.cell? ⟨g, 7, none⟩ = some (.bool (bitH b 7)))
    (first
      | go_keep
      | (rw [hgrow3.cell_far _ (by simp; omega) HNE.out]; go_keep))
    (first
      | (refine step_append_lies _ (by rfl) _ _ _ (by rfl) w1.heap.size 4 i0 (.bool false) 1 1 Try.underlying41 hi hz0 hz1 hz2 rfl (by decide) (.slice (some ⟨g2, 0, none⟩) 1 cap2) 1 _ (by rfl) hown2.drew ⟨g, 0, none⟩ 7 _ ((List.range 7).map fun i => .bool (bitH b i)) (by rfl) (by rfl) (low_cells HC2.out) H1.out (by omega) (by unfold maxLen; omega) (by omega) (by simp; omega) w2.heap.size (by simp) ?_; intro gg cap3 W3 hown3 hgrow3 hat hgl)
      | (go_simp
         go_at_call 30
         refine (byte_go (bools_of_own (f := fun j => if j = 0 then false else bitH b (j - 1)) hown3 (by omega))).mono ?_
         rintro e wq ⟨rfl, rfl⟩))
  all_goals
    have hb3 : Below w1.heap.size w2 W3 := ((Below.refl _ _).drew).grown hgrow3 (by simp; omega) (fun i hi => by simp [Value.ownBlock] at hi; omega)
    go_wp2
    go_ret2
    refine ⟨ret_ib ?_ ?_, hb.trans ((hb2.trans hb3).mono hb.size)⟩
    · rw [turnR_down _ _ (by decide)]; rfl
    · unfold turnC; rw [if_neg (by decide)]

theorem turnRef_any (k b : Int) (c : Bool) (w : World) (k0 : 0 ≤ k) (k1 : k ≤ 7) (b0 : 0 ≤ b) (b1 : b ≤ 255) :
    Calls Try.prog 26 #[.int .i64 k, .int .u8 b, .bool c] w fun e w' => e = .returned (.tuple #[.int .u8 (turnR k b c), .bool (turnC k b)]) ∧ Below w.heap.size w w' := by
  rcases (show k = 0 ∨ k = 1 ∨ k = 2 ∨ k = 3 ∨ k = 4 ∨ k = 5 ∨ k = 6 ∨ k = 7 by omega) with rfl | rfl | rfl | rfl | rfl | rfl | rfl | rfl
  · exact turnRef_0 b c w b0 b1
  · exact turnRef_1 b c w b0 b1
  · exact turnRef_2 b c w b0 b1
  · exact turnRef_3 b c w b0 b1
  · exact turnRef_4 b c w b0 b1
  · exact turnRef_5 b c w b0 b1
  · exact turnRef_6 b c w b0 b1
  · exact turnRef_7 b c w b0 b1

end Go.Proofs.Ytfollcgedcjgoaa
