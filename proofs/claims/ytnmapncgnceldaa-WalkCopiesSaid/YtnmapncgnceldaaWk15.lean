/- Layer 24: the way told with few rounds; the chapter's example. -/
import Derived.Test.YtnmapncgnceldaaWk14
namespace Go.Proofs.Ytnmapncgnceldaa
open Go.RowKit

/-- the next step, if it is told within so many rounds -/
def nextO (bs : List WB) : Nat → WS → Option (Tell × WS)
  | 0, _ => none
  | f + 1, s =>
    if s.at_ < bs.length then
      if toldK (atB bs s.at_) = 3 then
        if leadE bs s = 0 then nextO bs f (leadS bs s) else some (⟨4, s.at_, leadE bs s⟩, stayS s 4 s.at_ (leadE bs s))
      else some (⟨toldK (atB bs s.at_), s.at_, 0⟩, { s with at_ := s.at_ + 1 })
    else some (⟨3, bs.length, 0⟩, stayS s 3 bs.length 0)
theorem nextO_w {bs : List WB} {f : Nat} : ∀ {k : Nat} {s : WS} {r : Tell × WS}, nextO bs f s = some r → f ≤ k → nextW bs k s = r := by
  induction f with
  | zero => intro k s r h _; simp [nextO] at h
  | succ f ih =>
    intro k s r h hk
    obtain ⟨k, rfl⟩ : ∃ q, k = q + 1 := ⟨k - 1, by omega⟩
    rw [nextO] at h
    rw [nextW]
    by_cases hlt : s.at_ < bs.length
    · rw [if_pos hlt] at h ⊢
      by_cases ht : toldK (atB bs s.at_) = 3
      · rw [if_pos ht] at h ⊢
        by_cases he : leadE bs s = 0
        · rw [if_pos he] at h ⊢
          exact ih h (by omega)
        · rw [if_neg he] at h ⊢
          exact Option.some.inj h
      · rw [if_neg ht] at h ⊢
        exact Option.some.inj h
    · rw [if_neg hlt] at h ⊢
      exact Option.some.inj h
theorem nextS_o {bs : List WB} {s : WS} {f : Nat} {r : Tell × WS} (hf : Fine bs) (hs : s.ok bs) (ho : s.ov = false) (h : nextO bs f s = some r) : nextS bs s = r := by
  unfold nextS
  rw [if_neg (by rw [ho]; decide), nextW_enough hf hs (k := roundsN bs s + 1 + f) (Nat.lt_succ_self _) (Nat.lt_of_lt_of_le (Nat.lt_succ_self _) (Nat.le_add_right _ _))]
  exact nextO_w h (Nat.le_add_left _ _)
theorem ws0_ok (bs : List WB) : ws0.ok bs := by
  have := left_le bs []
  exact ⟨by decide, by show (0 : Int) ≤ _; omega, fun h => absurd h (by decide), fun h => absurd h (by decide), by decide, by decide, by show ([] : List Int).length + leftN bs [] ≤ _; simpa using this⟩
def bs3 : List WB := [⟨36, 0, 2, [], []⟩, ⟨18, 0, 0, [], []⟩, ⟨37, 0, 0, [], []⟩]
theorem bs3_fine : Fine bs3 := by
  refine ⟨by decide, fun i hi => ?_⟩
  have h3 : i < 3 := hi
  obtain rfl | rfl | rfl : i = 0 ∨ i = 1 ∨ i = 2 := by omega
  all_goals exact ⟨by decide, by decide, fun h => absurd h (by decide), by decide⟩
theorem bs3_lite : Lite bs3 := by
  refine ⟨by decide, fun i hi => ?_⟩
  have h3 : i < 3 := hi
  obtain rfl | rfl | rfl : i = 0 ∨ i = 1 ∨ i = 2 := by omega
  all_goals exact ⟨by decide, by decide⟩
theorem bs3_sound : (soundG bs3 bs3.length 0).2 = 0 := by kernel_rfl
theorem bs3_empty : ¬ emptyJ bs3 := by
  rintro ⟨i, hi, h1, _⟩
  have h3 : i < 3 := hi
  obtain rfl | rfl | rfl : i = 0 ∨ i = 1 ∨ i = 2 := by omega
  all_goals exact absurd h1 (by decide)
theorem wb_plain {w : World} {φ : Nat → Prop} (i p c : Int) {cs : List Value} (h : cs = [(.int .i64 i), (.int .i64 p), .int .i64 0, .int .i64 0, .int .i64 0, .int .i64 0, .int .i64 0, .int .i64 0, (.int .i64 c), .int .i64 0, .int .i64 0, .int .i64 0, .slice none 0 0, .slice none 0 0, .slice none 0 0, .slice none 0 0, .slice none 0 0, .slice none 0 0]) : WBAt w φ ⟨i, p, c, [], []⟩ cs :=
  ⟨_, _, _, _, _, _, _, _, _, _, none, 0, 0, none, 0, _, _, _, h, by rw [h]; simp [Value.oneCell'], ⟨rfl, fun h => absurd h (by omega)⟩, fun h => absurd h (by simp)⟩
def s3a : WS := { ws0 with on := true, heard := false, frm := 1, times := 1, at_ := 2 }
def s3b : WS := { s3a with heard := false, times := 0, at_ := 2 }
def s3c : WS := stayS { s3b with on := false, heard := false, frm := 0, times := 0, at_ := 3 } 3 3 0
theorem n3a : nextO bs3 2 ws0 = some (⟨0, 1, 0⟩, s3a) := by kernel_rfl
theorem n3b : nextO bs3 2 (heardS s3a) = some (⟨0, 1, 0⟩, s3b) := by kernel_rfl
theorem n3c : nextO bs3 2 (heardS s3b) = some (⟨3, 3, 0⟩, s3c) := by kernel_rfl
theorem ok_s3a : s3a.ok bs3 := by
  have h := nextW_ok bs3_fine (f := 2) (ws0_ok bs3)
  rwa [nextO_w n3a (Nat.le_refl 2)] at h
theorem ok_s3b : s3b.ok bs3 := by
  have h := nextW_ok bs3_fine (f := 2) (heardS_ok ok_s3a)
  rwa [nextO_w n3b (Nat.le_refl 2)] at h
set_option maxRecDepth 100000 in
set_option maxHeartbeats 8000000 in
theorem lives_any (w : World) : Calls Try.prog 8 #[] w fun x w' => x = .returned (.bool true) ∧ Below w.heap.size w w' := by
  have hB : BlksR (w.alloc (.cells #[.int .i64 36, .int .i64 0, .int .i64 0, .int .i64 0, .int .i64 0, .int .i64 0, .int .i64 0, .int .i64 0, .int .i64 2, .int .i64 0, .int .i64 0, .int .i64 0, .slice none 0 0, .slice none 0 0, .slice none 0 0, .slice none 0 0, .slice none 0 0, .slice none 0 0, .int .i64 18, .int .i64 0, .int .i64 0, .int .i64 0, .int .i64 0, .int .i64 0, .int .i64 0, .int .i64 0, .int .i64 0, .int .i64 0, .int .i64 0, .int .i64 0, .slice none 0 0, .slice none 0 0, .slice none 0 0, .slice none 0 0, .slice none 0 0, .slice none 0 0, .int .i64 37, .int .i64 0, .int .i64 0, .int .i64 0, .int .i64 0, .int .i64 0, .int .i64 0, .int .i64 0, .int .i64 0, .int .i64 0, .int .i64 0, .int .i64 0, .slice none 0 0, .slice none 0 0, .slice none 0 0, .slice none 0 0, .slice none 0 0, .slice none 0 0] 45)) (· < (w.alloc (.cells #[.int .i64 36, .int .i64 0, .int .i64 0, .int .i64 0, .int .i64 0, .int .i64 0, .int .i64 0, .int .i64 0, .int .i64 2, .int .i64 0, .int .i64 0, .int .i64 0, .slice none 0 0, .slice none 0 0, .slice none 0 0, .slice none 0 0, .slice none 0 0, .slice none 0 0, .int .i64 18, .int .i64 0, .int .i64 0, .int .i64 0, .int .i64 0, .int .i64 0, .int .i64 0, .int .i64 0, .int .i64 0, .int .i64 0, .int .i64 0, .int .i64 0, .slice none 0 0, .slice none 0 0, .slice none 0 0, .slice none 0 0, .slice none 0 0, .slice none 0 0, .int .i64 37, .int .i64 0, .int .i64 0, .int .i64 0, .int .i64 0, .int .i64 0, .int .i64 0, .int .i64 0, .int .i64 0, .int .i64 0, .int .i64 0, .int .i64 0, .slice none 0 0, .slice none 0 0, .slice none 0 0, .slice none 0 0, .slice none 0 0, .slice none 0 0] 45)).heap.size) (some ⟨w.heap.size, 0, none⟩) 3 bs3 := by
    refine ⟨[.int .i64 36, .int .i64 0, .int .i64 0, .int .i64 0, .int .i64 0, .int .i64 0, .int .i64 0, .int .i64 0, .int .i64 2, .int .i64 0, .int .i64 0, .int .i64 0, .slice none 0 0, .slice none 0 0, .slice none 0 0, .slice none 0 0, .slice none 0 0, .slice none 0 0, .int .i64 18, .int .i64 0, .int .i64 0, .int .i64 0, .int .i64 0, .int .i64 0, .int .i64 0, .int .i64 0, .int .i64 0, .int .i64 0, .int .i64 0, .int .i64 0, .slice none 0 0, .slice none 0 0, .slice none 0 0, .slice none 0 0, .slice none 0 0, .slice none 0 0, .int .i64 37, .int .i64 0, .int .i64 0, .int .i64 0, .int .i64 0, .int .i64 0, .int .i64 0, .int .i64 0, .int .i64 0, .int .i64 0, .int .i64 0, .int .i64 0, .slice none 0 0, .slice none 0 0, .slice none 0 0, .slice none 0 0, .slice none 0 0, .slice none 0 0], ⟨rfl, fun _ => ⟨_, rfl, by simp, lit_cells w _ 45⟩⟩, ?_⟩
    exact ⟨[.int .i64 36, .int .i64 0, .int .i64 0, .int .i64 0, .int .i64 0, .int .i64 0, .int .i64 0, .int .i64 0, .int .i64 2, .int .i64 0, .int .i64 0, .int .i64 0, .slice none 0 0, .slice none 0 0, .slice none 0 0, .slice none 0 0, .slice none 0 0, .slice none 0 0], _, rfl, wb_plain 36 0 2 rfl, [.int .i64 18, .int .i64 0, .int .i64 0, .int .i64 0, .int .i64 0, .int .i64 0, .int .i64 0, .int .i64 0, .int .i64 0, .int .i64 0, .int .i64 0, .int .i64 0, .slice none 0 0, .slice none 0 0, .slice none 0 0, .slice none 0 0, .slice none 0 0, .slice none 0 0], _, rfl, wb_plain 18 0 0 rfl, [.int .i64 37, .int .i64 0, .int .i64 0, .int .i64 0, .int .i64 0, .int .i64 0, .int .i64 0, .int .i64 0, .int .i64 0, .int .i64 0, .int .i64 0, .int .i64 0, .slice none 0 0, .slice none 0 0, .slice none 0 0, .slice none 0 0, .slice none 0 0, .slice none 0 0], [], rfl, wb_plain 37 0 0 rfl, rfl⟩
  have hnw := new_any (w.alloc (.cells #[.int .i64 36, .int .i64 0, .int .i64 0, .int .i64 0, .int .i64 0, .int .i64 0, .int .i64 0, .int .i64 0, .int .i64 2, .int .i64 0, .int .i64 0, .int .i64 0, .slice none 0 0, .slice none 0 0, .slice none 0 0, .slice none 0 0, .slice none 0 0, .slice none 0 0, .int .i64 18, .int .i64 0, .int .i64 0, .int .i64 0, .int .i64 0, .int .i64 0, .int .i64 0, .int .i64 0, .int .i64 0, .int .i64 0, .int .i64 0, .int .i64 0, .slice none 0 0, .slice none 0 0, .slice none 0 0, .slice none 0 0, .slice none 0 0, .slice none 0 0, .int .i64 37, .int .i64 0, .int .i64 0, .int .i64 0, .int .i64 0, .int .i64 0, .int .i64 0, .int .i64 0, .int .i64 0, .int .i64 0, .int .i64 0, .int .i64 0, .slice none 0 0, .slice none 0 0, .slice none 0 0, .slice none 0 0, .slice none 0 0, .slice none 0 0] 45)) (some ⟨w.heap.size, 0, none⟩) 3 3 bs3 hB bs3_lite
  have H0 := Lib.hid (show Below w.heap.size w (w.alloc (.cells #[.int .i64 36, .int .i64 0, .int .i64 0, .int .i64 0, .int .i64 0, .int .i64 0, .int .i64 0, .int .i64 0, .int .i64 2, .int .i64 0, .int .i64 0, .int .i64 0, .slice none 0 0, .slice none 0 0, .slice none 0 0, .slice none 0 0, .slice none 0 0, .slice none 0 0, .int .i64 18, .int .i64 0, .int .i64 0, .int .i64 0, .int .i64 0, .int .i64 0, .int .i64 0, .int .i64 0, .int .i64 0, .int .i64 0, .int .i64 0, .int .i64 0, .slice none 0 0, .slice none 0 0, .slice none 0 0, .slice none 0 0, .slice none 0 0, .slice none 0 0, .int .i64 37, .int .i64 0, .int .i64 0, .int .i64 0, .int .i64 0, .int .i64 0, .int .i64 0, .int .i64 0, .int .i64 0, .int .i64 0, .int .i64 0, .int .i64 0, .slice none 0 0, .slice none 0 0, .slice none 0 0, .slice none 0 0, .slice none 0 0, .slice none 0 0] 45)) from (Below.refl _ _).alloc (Nat.le_refl _) _)
  have hs0 := Lib.hid H0.out.size
  clear hB
  go_enter Try.func8, Try.ntmps8
  go_wp2_with fail
  refine hnw.mono ?_
  clear hnw
  generalize (w.alloc (.cells #[.int .i64 36, .int .i64 0, .int .i64 0, .int .i64 0, .int .i64 0, .int .i64 0, .int .i64 0, .int .i64 0, .int .i64 2, .int .i64 0, .int .i64 0, .int .i64 0, .slice none 0 0, .slice none 0 0, .slice none 0 0, .slice none 0 0, .slice none 0 0, .slice none 0 0, .int .i64 18, .int .i64 0, .int .i64 0, .int .i64 0, .int .i64 0, .int .i64 0, .int .i64 0, .int .i64 0, .int .i64 0, .int .i64 0, .int .i64 0, .int .i64 0, .slice none 0 0, .slice none 0 0, .slice none 0 0, .slice none 0 0, .slice none 0 0, .slice none 0 0, .int .i64 37, .int .i64 0, .int .i64 0, .int .i64 0, .int .i64 0, .int .i64 0, .int .i64 0, .int .i64 0, .int .i64 0, .int .i64 0, .int .i64 0, .int .i64 0, .slice none 0 0, .slice none 0 0, .slice none 0 0, .slice none 0 0, .slice none 0 0, .slice none 0 0] 45)) = w0 at *
  rintro x w1 ⟨hb1, h | h | ⟨_, _, g, mb, LA, lc, rfl, hg, hm, hW⟩⟩
  · exact absurd bs3_sound h.1
  · exact absurd h.2.1 bs3_empty
  have H1 := Lib.hid (And.intro hW (And.intro (H0.out.trans (hb1.mono hs0.out)) (And.intro hg hm)))
  have GM := Lib.hid (show w.heap.size ≤ g ∧ w.heap.size ≤ mb from ⟨by have := hs0.out; omega, by have := hs0.out; omega⟩)
  clear hb1 hg hm hW
  have hn := next_any w1 g mb LA 3 lc bs3 ws0 H1.out.1 (ws0_ok bs3) bs3_fine
  rw [nextS_o bs3_fine (ws0_ok bs3) rfl n3a] at hn
  simp only [stepV] at hn
  go_wp2_with fail
  refine hn.mono ?_
  clear hn
  rintro x v0 ⟨rfl, hW, hM⟩
  have hbv : Below w.heap.size w v0 := H1.out.2.1.trans (hM.below H1.out.2.1.size (by have := GM.out.1; omega) (by have := GM.out.2; omega))
  have HV := Lib.hid (show WalkAt v0 g mb LA 3 lc bs3 s3a ∧ Below w.heap.size w v0 from ⟨hW, hbv⟩)
  clear hW hM hbv
  go_upto_region 3 with (first
    | (refine wpList_store_box rfl 36 _ _ rfl (v0.heap.size) #[.int .i64 0, .int .i64 1, .int .i64 0] rfl rfl 36 #[.int .i64 0, .int .i64 0, .int .i64 0] (Blk.new v0 _ _) stepInfo rfl (by simp [Value.oneCell']) ?_)
    | fail)
  intro y0 hB9 hg9
  have hb9 : Below v0.heap.size v0 y0 := ((Below.refl _ _).alloc (Nat.le_refl _) _).grown hg9 (by simp) (fun b e => by injection e with e; omega)
  have HY := Lib.hid (show WalkAt y0 g mb LA 3 lc bs3 s3a ∧ Below w.heap.size w y0 from ⟨HV.out.1.below hb9, HV.out.2.trans (hb9.mono HV.out.2.size)⟩)
  obtain ⟨b0, hb0⟩ : ∃ q, q = v0.heap.size := ⟨_, rfl⟩
  rw [← hb0] at hB9 ⊢
  have K0 := Lib.hid (show Blk y0 b0 36 #[.int .i64 0, .int .i64 1, .int .i64 0] ∧ b0 ≠ g ∧ b0 ≠ mb from ⟨hB9, by have := HV.out.1.1.lt; omega, by have := HV.out.1.2.1.lt; omega⟩)
  clear hB9 hg9 hb9 hb0 HV
  have hh := heard_any y0 g mb LA 3 lc bs3 s3a HY.out.1
  go_wp2_with fail
  refine hh.mono ?_
  clear hh
  rintro x z0 ⟨⟨v, rfl⟩, hW, hM⟩
  have H2 := Lib.hid (show WalkAt z0 g mb LA 3 lc bs3 (heardS s3a) ∧ Below w.heap.size w z0 from ⟨hW, HY.out.2.trans (hM.below HY.out.2.size (by have := GM.out.1; omega) (by have := GM.out.2; omega))⟩)
  have hx : Blk z0 b0 36 #[.int .i64 0, .int .i64 1, .int .i64 0] := (hM.block b0 K0.out.1.lt K0.out.2.1 K0.out.2.2).trans K0.out.1
  have K0h := Lib.hid (And.intro hx K0.out.2)
  clear hx K0
  clear hW hM HY
  have hn := next_any z0 g mb LA 3 lc bs3 (heardS s3a) H2.out.1 (heardS_ok ok_s3a) bs3_fine
  rw [nextS_o bs3_fine (heardS_ok ok_s3a) rfl n3b] at hn
  simp only [stepV] at hn
  go_wp2_with fail
  refine hn.mono ?_
  clear hn
  rintro x v1 ⟨rfl, hW, hM⟩
  have hbv : Below w.heap.size w v1 := H2.out.2.trans (hM.below H2.out.2.size (by have := GM.out.1; omega) (by have := GM.out.2; omega))
  have HV := Lib.hid (show WalkAt v1 g mb LA 3 lc bs3 s3b ∧ Below w.heap.size w v1 from ⟨hW, hbv⟩)
  have hx : Blk v1 b0 36 #[.int .i64 0, .int .i64 1, .int .i64 0] := (hM.block b0 K0h.out.1.lt K0h.out.2.1 K0h.out.2.2).trans K0h.out.1
  have K0hn := Lib.hid (And.intro hx K0h.out.2)
  clear hx K0h
  clear hW hM hbv
  go_upto_region 5 with (first
    | (refine wpList_store_box rfl 36 _ _ rfl (v1.heap.size) #[.int .i64 0, .int .i64 1, .int .i64 0] rfl rfl 36 #[.int .i64 0, .int .i64 0, .int .i64 0] (Blk.new v1 _ _) stepInfo rfl (by simp [Value.oneCell']) ?_)
    | fail)
  intro y1 hB9 hg9
  have hb9 : Below v1.heap.size v1 y1 := ((Below.refl _ _).alloc (Nat.le_refl _) _).grown hg9 (by simp) (fun b e => by injection e with e; omega)
  have HY := Lib.hid (show WalkAt y1 g mb LA 3 lc bs3 s3b ∧ Below w.heap.size w y1 from ⟨HV.out.1.below hb9, HV.out.2.trans (hb9.mono HV.out.2.size)⟩)
  have hx := K0hn.out.1.below hb9 K0hn.out.1.lt
  have K0hnm := Lib.hid (And.intro hx K0hn.out.2)
  clear hx K0hn
  obtain ⟨b1, hb1⟩ : ∃ q, q = v1.heap.size := ⟨_, rfl⟩
  rw [← hb1] at hB9 ⊢
  have K1 := Lib.hid (show Blk y1 b1 36 #[.int .i64 0, .int .i64 1, .int .i64 0] ∧ b1 ≠ g ∧ b1 ≠ mb from ⟨hB9, by have := HV.out.1.1.lt; omega, by have := HV.out.1.2.1.lt; omega⟩)
  clear hB9 hg9 hb9 hb1 HV
  have hh := heard_any y1 g mb LA 3 lc bs3 s3b HY.out.1
  go_wp2_with fail
  refine hh.mono ?_
  clear hh
  rintro x z1 ⟨⟨v, rfl⟩, hW, hM⟩
  have H3 := Lib.hid (show WalkAt z1 g mb LA 3 lc bs3 (heardS s3b) ∧ Below w.heap.size w z1 from ⟨hW, HY.out.2.trans (hM.below HY.out.2.size (by have := GM.out.1; omega) (by have := GM.out.2; omega))⟩)
  have hx : Blk z1 b0 36 #[.int .i64 0, .int .i64 1, .int .i64 0] := (hM.block b0 K0hnm.out.1.lt K0hnm.out.2.1 K0hnm.out.2.2).trans K0hnm.out.1
  have K0hnmh := Lib.hid (And.intro hx K0hnm.out.2)
  clear hx K0hnm
  have hx : Blk z1 b1 36 #[.int .i64 0, .int .i64 1, .int .i64 0] := (hM.block b1 K1.out.1.lt K1.out.2.1 K1.out.2.2).trans K1.out.1
  have K1h := Lib.hid (And.intro hx K1.out.2)
  clear hx K1
  clear hW hM HY
  have hn := next_any z1 g mb LA 3 lc bs3 (heardS s3b) H3.out.1 (heardS_ok ok_s3b) bs3_fine
  rw [nextS_o bs3_fine (heardS_ok ok_s3b) rfl n3c] at hn
  simp only [stepV] at hn
  go_wp2_with fail
  refine hn.mono ?_
  clear hn
  rintro x v2 ⟨rfl, hW, hM⟩
  have hbv : Below w.heap.size w v2 := H3.out.2.trans (hM.below H3.out.2.size (by have := GM.out.1; omega) (by have := GM.out.2; omega))
  have HV := Lib.hid (show WalkAt v2 g mb LA 3 lc bs3 s3c ∧ Below w.heap.size w v2 from ⟨hW, hbv⟩)
  have hx : Blk v2 b0 36 #[.int .i64 0, .int .i64 1, .int .i64 0] := (hM.block b0 K0hnmh.out.1.lt K0hnmh.out.2.1 K0hnmh.out.2.2).trans K0hnmh.out.1
  have K0hnmhn := Lib.hid (And.intro hx K0hnmh.out.2)
  clear hx K0hnmh
  have hx : Blk v2 b1 36 #[.int .i64 0, .int .i64 1, .int .i64 0] := (hM.block b1 K1h.out.1.lt K1h.out.2.1 K1h.out.2.2).trans K1h.out.1
  have K1hn := Lib.hid (And.intro hx K1h.out.2)
  clear hx K1h
  clear hW hM hbv
  go_upto_region 7 with (first
    | (refine wpList_store_box rfl 36 _ _ rfl (v2.heap.size) #[.int .i64 3, .int .i64 3, .int .i64 0] rfl rfl 36 #[.int .i64 0, .int .i64 0, .int .i64 0] (Blk.new v2 _ _) stepInfo rfl (by simp [Value.oneCell']) ?_)
    | fail)
  intro y2 hB9 hg9
  have hb9 : Below v2.heap.size v2 y2 := ((Below.refl _ _).alloc (Nat.le_refl _) _).grown hg9 (by simp) (fun b e => by injection e with e; omega)
  have HY := Lib.hid (show WalkAt y2 g mb LA 3 lc bs3 s3c ∧ Below w.heap.size w y2 from ⟨HV.out.1.below hb9, HV.out.2.trans (hb9.mono HV.out.2.size)⟩)
  have hx := K0hnmhn.out.1.below hb9 K0hnmhn.out.1.lt
  have K0hnmhnm := Lib.hid (And.intro hx K0hnmhn.out.2)
  clear hx K0hnmhn
  have hx := K1hn.out.1.below hb9 K1hn.out.1.lt
  have K1hnm := Lib.hid (And.intro hx K1hn.out.2)
  clear hx K1hn
  obtain ⟨b2, hb2⟩ : ∃ q, q = v2.heap.size := ⟨_, rfl⟩
  rw [← hb2] at hB9 ⊢
  have K2 := Lib.hid (show Blk y2 b2 36 #[.int .i64 3, .int .i64 3, .int .i64 0] ∧ b2 ≠ g ∧ b2 ≠ mb from ⟨hB9, by have := HV.out.1.1.lt; omega, by have := HV.out.1.2.1.lt; omega⟩)
  clear hB9 hg9 hb9 hb2 HV
  have c0b0 : y2.cell? ⟨b0, 0, none⟩ = some (.int .i64 0) := (K0hnmhnm.out.1.cell 0).trans rfl
  have c1b0 : y2.cell? ⟨b0, 1, none⟩ = some (.int .i64 1) := (K0hnmhnm.out.1.cell 1).trans rfl
  have c0b1 : y2.cell? ⟨b1, 0, none⟩ = some (.int .i64 0) := (K1hnm.out.1.cell 0).trans rfl
  have c1b1 : y2.cell? ⟨b1, 1, none⟩ = some (.int .i64 1) := (K1hnm.out.1.cell 1).trans rfl
  have c0b2 : y2.cell? ⟨b2, 0, none⟩ = some (.int .i64 3) := (K2.out.1.cell 0).trans rfl
  have c1b2 : y2.cell? ⟨b2, 1, none⟩ = some (.int .i64 3) := (K2.out.1.cell 1).trans rfl
  go_wp2
  go_ret
  exact ⟨rfl, HY.out.2⟩
end Go.Proofs.Ytnmapncgnceldaa
