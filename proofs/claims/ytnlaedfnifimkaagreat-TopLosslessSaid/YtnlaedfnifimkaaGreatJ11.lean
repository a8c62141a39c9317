/- Part 11 of the proof: lemmas on what the program computes; no condition. -/
import Derived.Deep.LoopGhost
import Derived.Deep.Fields
import Derived.WideShapes
import Derived.ChangeArms
import Derived.OpenShut
import Derived.Test.YtnlaedfnifimkaaGreatRows
import Derived.WalkKit
import Derived.JoinedOf
import Derived.Test.YtnlaedfnifimkaaGreatJ10
import Derived.Test.YtnlaedfnifimkaaGreatJ4
set_option linter.unusedVariables false
set_option linter.unusedSimpArgs false
set_option linter.unusedSectionVars false
namespace Go.Proofs.YtnlaedfnifimkaaGreat
open Go.RowKit Ck
namespace Rm
def fstC : Code → Code
  | .seq a _ => a
  | c => c
set_option maxRecDepth 100000 in
set_option maxHeartbeats 4000000 in
theorem build_std (w : World) : Calls Tryz.prog 32 #[.agg #[.int .i64 2168, .int .i64 667, .int .i64 735, .int .i64 855, .int .i64 1710], .int .i64 600] w fun x w' => ∃ V cV zs, x = .returned (.tuple #[.slice V 16384 cV, .int .i64 0]) ∧ Reads w' w'.heap.size 1 V 16384 (zs.map (Value.int .u8)) ∧ isU8 zs ∧ Below w.heap.size w w' := by
  refine calls_of_wp Tryz.func32 (c := bodyB) rfl ?_
  rw [show (#[.agg #[.int .i64 2168, .int .i64 667, .int .i64 735, .int .i64 855, .int .i64 1710], .int .i64 600] ++ Array.replicate (Tryz.f32.ntmps - (#[.agg #[.int .i64 2168, .int .i64 667, .int .i64 735, .int .i64 855, .int .i64 1710], .int .i64 600] : Array Value).size) undef : Array Value) = #[.agg #[.int .i64 2168, .int .i64 667, .int .i64 735, .int .i64 855, .int .i64 1710], .int .i64 600, undef, undef, undef, undef, undef, undef, undef, undef, undef, undef, undef, undef, undef, undef, undef, undef, undef, undef, undef, undef, undef, undef, undef, undef, undef, undef, undef, undef, undef, undef, undef, undef, undef, undef, undef, undef, undef, undef, undef, undef, undef, undef, undef, undef, undef, undef, undef, undef, undef, undef, undef, undef, undef, undef, undef, undef, undef, undef, undef, undef, undef, undef, undef, undef, undef, undef, undef, undef, undef, undef] by kernel_rfl]
  rw [show bodyB = Code.seq (fstC bodyB) (suf 1 bodyB) from rfl]
  refine wp_seq_k fun K0 hK0 => ?_
  have e0 : fstC bodyB = Code.region 0 _ _ := rfl
  rw [e0]
  go_wp2_with fail
  clear e0
  have hb := Lib.hid ((Below.refl w.heap.size w).alloc (Nat.le_refl _) (.cells #[.int .i64 2168, .int .i64 667, .int .i64 735, .int .i64 855, .int .i64 1710] 95))
  have hT := Lib.hid (Blk.new w 95 #[.int .i64 2168, .int .i64 667, .int .i64 735, .int .i64 855, .int .i64 1710])
  generalize w.alloc (.cells #[.int .i64 2168, .int .i64 667, .int .i64 735, .int .i64 855, .int .i64 1710] 95) = W at *
  rw [show suf 1 bodyB = Code.seq (fstC (suf 1 bodyB)) (suf 2 bodyB) from rfl]
  refine wp_seq_k fun K1 hK1 => ?_
  have e1 : fstC (suf 1 bodyB) = Code.seq (Code.region 1 _ _) (Code.cond _ _ _) := rfl
  rw [e1]
  clear e1
  have c0 : W.cell? ⟨w.heap.size, 0, none⟩ = some (.int .i64 2168) := (hT.out.cell 0).trans rfl
  have c1 : W.cell? ⟨w.heap.size, 1, none⟩ = some (.int .i64 667) := (hT.out.cell 1).trans rfl
  have c2 : W.cell? ⟨w.heap.size, 2, none⟩ = some (.int .i64 735) := (hT.out.cell 2).trans rfl
  have c3 : W.cell? ⟨w.heap.size, 3, none⟩ = some (.int .i64 855) := (hT.out.cell 3).trans rfl
  have c4 : W.cell? ⟨w.heap.size, 4, none⟩ = some (.int .i64 1710) := (hT.out.cell 4).trans rfl
  go_wp2_with fail
  refine (may_std _).mono ?_
  rintro x w2 ⟨rfl, hb2⟩
  clear c0 c1 c2 c3 c4
  go_wp2_with fail
  rw [show suf 2 bodyB = Code.seq (fstC (suf 2 bodyB)) (suf 3 bodyB) from rfl]
  refine wp_seq_k fun K2 hK2 => ?_
  have e2 : fstC (suf 2 bodyB) = Code.region 3 _ _ := rfl
  rw [e2]
  clear e2
  go_wp2_with fail
  refine (asmNew_any _).mono ?_
  rintro x w3 ⟨A, mb, rfl, hA, hb3⟩
  go_wp2_with fail
  refine wp_mono (build_tail (A := A) (base := w2.heap.size) (S0 := fun b => if b = w3.heap.size then some (1, 1) else if b = w.heap.size then some (2, 5) else none) ?_) fun e a' w' hq => ?_
  · have s1 := hb.out.size
    have s2 := hb2.size
    have s3 := hb3.size
    have hlt := hT.out.lt
    have hT3 : Blk w3 w.heap.size 95 #[.int .i64 2168, .int .i64 667, .int .i64 735, .int .i64 855, .int .i64 1710] := (hT.out.below hb2 hlt).below hb3 (by omega)
    have hne : w.heap.size ≠ w3.heap.size := by omega
    refine ⟨rfl, by kernel_rfl, _, 0, Stp.refl _ _ _ _, Nat.le_refl _, Nat.le_refl _, fun b k n hx => ?_, ⟨?_, _, _, mb, [], hA.kept ((Below.refl _ _).alloc (Nat.le_refl _) _), fun k hk => ?_⟩, fun t => ?_⟩
    · by_cases e1 : b = w3.heap.size
      · subst e1
        have hx' : some (1, 1) = some (k, n) := by have hx := hx; simp only [if_true] at hx; exact hx
        cases hx'
        refine ⟨by show 0 < 1; omega, by show 1 % 1 = 0; omega, _, Blk.new w3 144 #[.pointer (some ⟨A, 0, none⟩)], rfl, fun i v hv => ?_⟩
        obtain ⟨hi, rfl⟩ := Array.getElem?_eq_some_iff.1 hv
        have hi : i < 1 := hi
        obtain rfl : i = 0 := by omega
        exact ⟨.opq 2, by kernel_rfl, rfl, rfl⟩
      · by_cases e2 : b = w.heap.size
        · subst e2
          have hx' : some (2, 5) = some (k, n) := by have hx := hx; simp only [if_neg e1, if_true] at hx; exact hx
          cases hx'
          refine ⟨by show 0 < 5; omega, by show 5 % 5 = 0; omega, _, hT3.alloc _, rfl, fun i v hv => ?_⟩
          obtain ⟨hi, rfl⟩ := Array.getElem?_eq_some_iff.1 hv
          have hi : i < 5 := hi
          match i, hi with
          | 0, _ => exact ⟨.int .i64 2168 2168, by kernel_rfl, rfl, _, rfl, Int.le_refl _, Int.le_refl _⟩
          | 1, _ => exact ⟨.int .i64 667 667, by kernel_rfl, rfl, _, rfl, Int.le_refl _, Int.le_refl _⟩
          | 2, _ => exact ⟨.int .i64 735 735, by kernel_rfl, rfl, _, rfl, Int.le_refl _, Int.le_refl _⟩
          | 3, _ => exact ⟨.int .i64 855 855, by kernel_rfl, rfl, _, rfl, Int.le_refl _, Int.le_refl _⟩
          | 4, _ => exact ⟨.int .i64 1710 1710, by kernel_rfl, rfl, _, rfl, Int.le_refl _, Int.le_refl _⟩
        · simp only [if_neg e1, if_neg e2] at hx
          cases hx
    · have : (w3.alloc (.cells #[.pointer (some ⟨A, 0, none⟩)] 144)).heap.size = w3.heap.size + 1 := by simp
      omega
    · have h2 := hA.lt hk
      show (if k = w3.heap.size then some (1, 1) else if k = w.heap.size then some (2, 5) else none) = none
      rw [if_neg (by omega), if_neg (by omega)]
    · by_cases t1 : t = 1
      · subst t1
        exact ⟨600, rfl, Int.le_refl _, Int.le_refl _⟩
      · by_cases t2 : t = 2
        · subst t2
          exact .inr ⟨w.heap.size, 0, 5, rfl, by show (if w.heap.size = w3.heap.size then some (1, 1) else if w.heap.size = w.heap.size then some (2, 5) else none) = _; rw [if_neg hne, if_pos rfl], by decide, Nat.le_refl _, Nat.le_refl _⟩
        · by_cases t6 : t = 6
          · subst t6
            exact .inr ⟨w3.heap.size, 0, 1, rfl, if_pos rfl, by decide, Nat.le_refl _, Nat.le_refl _⟩
          · have : stB.tmps.getD t .any = .any := by
              unfold stB
              simp only [List.getD_eq_getElem?_getD]
              rw [List.getElem?_set_ne (by omega), List.getElem?_set_ne (by omega), List.getElem?_set_ne (by omega)]
              rcases hr : (List.replicate 72 Ty.any)[t]? with _ | x
              · rfl
              · exact List.eq_of_mem_replicate (List.mem_of_getElem? hr)
            rw [this]
            exact trivial
  · obtain ⟨rfl, s, hst, hR⟩ := hq
    obtain ⟨h1, S', j', k1, k2, k3, k4, k5, vs, k6, k7⟩ := hR
    obtain ⟨v, u, rfl⟩ := len2 (k7.1.trans (by rw [hst]; rfl))
    obtain ⟨BA, cap, us, rfl, hr, hu⟩ := slice_rd k4 (t := .one (.slice 0 (some 16384) (some 16384))) rfl (k7.2 0 _ v (by rw [hst]; rfl) rfl)
    obtain ⟨n, rfl, n0, n1⟩ := k7.2 1 (.one (.int .i64 0 0)) u (by rw [hst]; rfl) rfl
    obtain rfl : n = 0 := by omega
    refine ⟨h1, .tuple #[.slice BA 16384 cap, .int .i64 0], ?_, BA, cap, us, rfl, hr, hu, ?_⟩
    · unfold results
      rw [Array.mapM_eq_mapM_toList]
      simp only [Sem.run_bind, map_eq_pure_bind]
      erw [k6]
      rfl
    · have s1 := hb.out.size
      have s2 := hb2.size
      have s3 := hb3.size
      have b3 : Below w.heap.size w w3 := (hb.out.trans (hb2.mono s1)).trans (hb3.mono (by omega))
      have b4 : Below w.heap.size w (w3.alloc (.cells #[.pointer (some ⟨A, 0, none⟩)] 144)) := b3.alloc (by omega) _
      refine b4.trans ⟨k1.os, k1.tape, k1.output, k1.size, fun b hb' => k1.out b (by have := b4.size; omega) ?_ ?_⟩
      · show (if b = w3.heap.size then some (1, 1) else if b = w.heap.size then some (2, 5) else none) = none
        rw [if_neg (by omega), if_neg (by omega)]
      · show ¬ w2.heap.size ≤ b
        omega
end Rm
end Go.Proofs.YtnlaedfnifimkaaGreat
namespace Go.Proofs.YtnlaedfnifimkaaGreat
open Go.RowKit Ck
namespace Rm
set_option maxRecDepth 100000 in
theorem firmware_any (w : World) : Calls Tryz.prog 9 #[] w fun x w' => ∃ V cV zs, x = .returned (.slice V 16384 cV) ∧ Reads w' w'.heap.size 1 V 16384 (zs.map (Value.int .u8)) ∧ isU8 zs ∧ Below w.heap.size w w' := by
  go_enter Tryz.func9, Tryz.ntmps9
  go_wp2_with fail
  refine (standard_any _).mono ?_
  rintro x w1 ⟨rfl, hb1⟩
  go_wp2_with fail
  refine (build_std _).mono ?_
  rintro x w2 ⟨V, cV, zs, rfl, hr, hz, hb2⟩
  have HX := Lib.hid (And.intro hr (And.intro hz (hb1.trans (hb2.mono hb1.size))))
  clear hr hz hb1 hb2
  go_wp2
  go_ret
  exact ⟨V, cV, zs, rfl, HX.out⟩
end Rm
end Go.Proofs.YtnlaedfnifimkaaGreat
namespace Go.Proofs.YtnlaedfnifimkaaGreat
open Go.RowKit Go.Joins
namespace Tl
open Ck Rm
theorem u8_app {a b : List Int} (h : isU8 a) (k : isU8 b) : isU8 (a ++ b) := fun z hz => by
  rcases List.mem_append.1 hz with h2 | h2
  · exact h z h2
  · exact k z h2
theorem file_u8 (dl : List BD) : isU8 (headB ++ blksB dl) := by
  refine u8_app (u8_app (by unfold signB; intro z hz; simp at hz; omega) (flatL_in _ _)) ?_
  intro z hz
  obtain ⟨d, _, hd⟩ := List.mem_flatMap.1 hz
  suffices h : isU8 (blkB d) from h z hd
  unfold blkB
  refine u8_app (flatL_in _ _) ?_
  split
  · exact u8_app (flatL_in _ _) (flatL_in _ _)
  · exact u8_app (flatL_in _ _) (flatL_in _ _)
theorem own_capm {w : World} {B e size n c : Nat} {A : Option Addr} {xs : List Value} (h : w.ownsRow B e size (.slice A n c) n xs) : c ≤ 9223372036854775807 := by
  rcases h.2 with ⟨e, _⟩ | ⟨g, cap, cur, e, _, _, _, h5, _⟩
  · injection e with _ _ e; omega
  · injection e with _ _ e
    subst e
    exact h5
def hiK (b : Bool) (k : Nat) : Bool := if k % 2 = 0 then b else !b
theorem hiK_succ (b : Bool) (k : Nat) : hiK b (k + 1) = !(hiK b k) := by
  unfold hiK
  rcases Nat.mod_two_eq_zero_or_one k with h | h
  · have h2 : (k + 1) % 2 = 1 := by omega
    simp [h, h2]
  · have h2 : (k + 1) % 2 = 0 := by omega
    simp [h, h2]
theorem exG_at {gs : List Int} {k : Nat} (h : k < gs.length) : (exG gs).drop k = gs.getD k 0 :: (exG gs).drop (k + 1) := by
  have hne : gs ≠ [] := fun e => by subst e; simp at h
  have hl : k < (exG gs).length := by unfold exG; rw [if_neg hne, List.length_append]; omega
  rw [drop_getD hl]
  congr 1
  unfold exG
  rw [if_neg hne, List.getD_eq_getElem?_getD, List.getD_eq_getElem?_getD, List.getElem?_append_left h]
theorem exG_last {gs : List Int} : (exG gs).drop gs.length = if gs = [] then [] else [3500] := by
  unfold exG
  split
  · simp
  · rw [List.drop_left]
def OutR (B d wy mb : Nat) (LA : Option Addr) (lc : Nat) (BA : Option Addr) (bc : Nat) (b : Bool) (gs : List Int) (gn : Nat) (W : World) (gk : Nat) (hi kk : Value) (wr : World) : Prop :=
  ∃ (k : Nat) (D : DkS) (s : WS) (ts : List Int) (i : Nat), k ≤ gn ∧ kk = .int .i64 k ∧ hi = .bool (hiK b k) ∧ DeckAt wr B d wy mb LA lc BA bc (exL b gs) D s ts ∧ Pos (exL b gs) (!b) D s ts i ((exG gs).drop k) (!(hiK b k)) ∧ D.pl = true ∧ D.left = 0 ∧ D.told = k ∧ Below B W wr ∧ gk = gn - k
def InR (B d wy mb : Nat) (LA : Option Addr) (lc : Nat) (BA : Option Addr) (bc : Nat) (b : Bool) (gs : List Int) (k gz : Nat) (W : World) (gj : Nat) (jj : Value) (wr : World) : Prop :=
  ∃ (j : Nat) (D : DkS) (s : WS) (ts : List Int) (i : Nat), j ≤ gz ∧ jj = .int .u32 j ∧ DeckAt wr B d wy mb LA lc BA bc (exL b gs) D s ts ∧ D.pl = true ∧ Below B W wr ∧ gj = gz - j ∧
    ((j = 0 ∧ Pos (exL b gs) (!b) D s ts i ((exG gs).drop k) (!(hiK b k)) ∧ D.left = 0 ∧ D.told = k) ∨ (0 < j ∧ Pos (exL b gs) (!b) D s ts i ((exG gs).drop (k + 1)) (hiK b k) ∧ D.left = (gz : Int) - j ∧ D.lv = hiK b k ∧ D.told = (k : Int) + 1))
section
variable {rv : Value} {ph pl n1 n2 im pre : Int} {sl : Bool} {cs : List Value} {w : World} {RA : Option Addr} {rn rc : Nat} {mz : List Int}
set_option maxRecDepth 100000 in
set_option maxHeartbeats 8000000 in
theorem lossless_walk (p0 : -9223372036854775808 ≤ ph) (p1 : ph ≤ 9223372036854775807) (hM : Reads w w.heap.size 1 RA rn (mz.map (Value.int .u8))) (hm8 : isU8 mz) (hcs : RegsOk cs) (h28 : cs[28]? = some (.int .u8 im)) (h29 : cs[29]? = some (.int .u8 pre)) :
    Calls Tryz.prog 4 #[.agg (wldC (.slice RA rn rc) ph sl cs pl), .int .i64 n1, .int .i64 n2] w fun x w' => x = .returned (.bool true) ∧ Below w.heap.size w w' := by
  have hW := Blk.new w 58 (wldC (.slice RA rn rc) ph sl cs pl)
  have hb0 : Below w.heap.size w (w.alloc (.cells (wldC (.slice RA rn rc) ph sl cs pl) 58)) := (Below.refl _ _).alloc (Nat.le_refl _) _
  have hs0 : w.heap.size + 1 = (w.alloc (.cells (wldC (.slice RA rn rc) ph sl cs pl) 58)).heap.size := by simp
  have hM0 := hM.below hb0
  have HC := Lib.hid (And.intro hcs (And.intro h28 (And.intro h29 hm8)))
  go_enter Tryz.func4, Tryz.ntmps4
  go_upto_region 1 with fail
  change Code.wp _ _ _ _ (w.alloc (.cells (wldC (.slice RA rn rc) ph sl cs pl) 58))
  generalize (w.alloc (.cells (wldC (.slice RA rn rc) ph sl cs pl) 58)) = w1 at *
  have d0 : w1.cell? ⟨w.heap.size, 0, none⟩ = some (.slice RA rn rc) := (hW.cell 0).trans rfl
  have d1 : w1.cell? ⟨w.heap.size, 1, none⟩ = some (.int .i64 ph) := (hW.cell 1).trans rfl
  have d32 : w1.cell? ⟨w.heap.size, 32, none⟩ = some (.int .u8 pre) := (hW.cell 32).trans (wldC_regs (k := 29) h29)
  have d31 : w1.cell? ⟨w.heap.size, 31, none⟩ = some (.int .u8 im) := (hW.cell 31).trans (wldC_regs (k := 28) h28)
  have H1 := Lib.hid (And.intro hW (And.intro hb0 (And.intro hs0 hM0)))
  clear hW hb0 hs0 hM0 hM hcs h28 h29 hm8
  by_cases q1 : n1 < 0
  · go_wp2
    go_ret
    exact ⟨rfl, H1.out.2.1⟩
  by_cases q2 : 5000 < n1
  · go_wp2
    go_ret
    exact ⟨rfl, H1.out.2.1⟩
  by_cases q3 : n2 < 0
  · go_wp2
    go_ret
    exact ⟨rfl, H1.out.2.1⟩
  by_cases q4 : 20000 < n2
  · go_wp2
    go_ret
    exact ⟨rfl, H1.out.2.1⟩
  by_cases q5 : (49152 : Int) < (rn : Int)
  · go_wp2
    go_ret
    exact ⟨rfl, H1.out.2.1⟩
  by_cases q6 : 2 < pre
  · go_wp2
    go_ret
    exact ⟨rfl, H1.out.2.1⟩
  by_cases q7 : 2 < im
  · go_wp2
    go_ret
    exact ⟨rfl, H1.out.2.1⟩
  go_upto_region 3 with fail
  clear d32 d31
  have hS : w1.drew.cell? ⟨w.heap.size, 0, none⟩ = some (.slice RA rn rc) ∧ w1.drew.cell? ⟨w.heap.size, 1, none⟩ = some (.int .i64 ph) := ⟨d0, d1⟩
  have HD := Lib.hid (show Blk w1.drew w.heap.size 58 (wldC (.slice RA rn rc) ph sl cs pl) ∧ Below w.heap.size w w1.drew ∧ Reads w1.drew w.heap.size 1 RA rn (mz.map (Value.int .u8)) ∧ w.heap.size + 1 ≤ w1.drew.heap.size from ⟨H1.out.1, H1.out.2.1.drew, ⟨H1.out.2.2.2.1, H1.out.2.2.2.2⟩, Nat.le_of_eq H1.out.2.2.1⟩)
  refine Early.begin (S := fun w' => w'.cell? ⟨w.heap.size, 0, none⟩ = some (.slice RA rn rc) ∧ w'.cell? ⟨w.heap.size, 1, none⟩ = some (.int .i64 ph)) (late := []) (by kernel_rfl) ?_
  generalize w1.drew = v1 at *
  clear H1 d0 d1
  refine Early.takeW (i := 1) (oi := _) (v := ?_) (by simp only [List.getElem?_toArray, List.getElem?_cons_succ, List.getElem?_cons_zero]; rfl) (by kernel_rfl) (by kernel_rfl) (by kernel_rfl) (by kernel_rfl) (by kernel_rfl) (by intro _ _ _ h; exact h) (Or.inl ⟨by rfl, ?_⟩) (fun _ => hS) ?_
  rotate_left
  · intro w9 _
    go_simp
    try with_reducible rfl
  try simp only [Act.put, List.setIfInBounds_toArray, List.set_cons_zero, List.set_cons_succ]
  refine Early.take (i := 2) (oi := _) (v := ?_) (by simp only [List.getElem?_toArray, List.getElem?_cons_succ, List.getElem?_cons_zero]; rfl) (by kernel_rfl) (by kernel_rfl) (by kernel_rfl) (by kernel_rfl) (by kernel_rfl) (by kernel_rfl) (by intro _ _ _ h; exact h) (Or.inl ⟨by rfl, ?_⟩) hS ?_
  rotate_left
  · intro w9 hSw
    have c9 := hSw.1
    go_simp
    try with_reducible rfl
  try simp only [Act.put, List.setIfInBounds_toArray, List.set_cons_zero, List.set_cons_succ]
  refine Early.takeW (i := 3) (oi := _) (v := ?_) (by simp only [List.getElem?_toArray, List.getElem?_cons_succ, List.getElem?_cons_zero]; rfl) (by kernel_rfl) (by kernel_rfl) (by kernel_rfl) (by kernel_rfl) (by kernel_rfl) (by intro _ _ _ h; exact h) (Or.inl ⟨by rfl, ?_⟩) (fun _ => hS) ?_
  rotate_left
  · intro w9 _
    go_simp
    try with_reducible rfl
  try simp only [Act.put, List.setIfInBounds_toArray, List.set_cons_zero, List.set_cons_succ]
  refine Early.take (i := 4) (oi := _) (v := ?_) (by simp only [List.getElem?_toArray, List.getElem?_cons_succ, List.getElem?_cons_zero]; rfl) (by kernel_rfl) (by kernel_rfl) (by kernel_rfl) (by kernel_rfl) (by kernel_rfl) (by kernel_rfl) (by intro _ _ _ h; exact h) (Or.inl ⟨by rfl, ?_⟩) hS ?_
  rotate_left
  · intro w9 hSw
    have c9 := hSw.2
    go_simp
    try with_reducible rfl
  try simp only [Act.put, List.setIfInBounds_toArray, List.set_cons_zero, List.set_cons_succ]
  refine Early.ready (rs := [0]) (by kernel_rfl) (by simp) ?_
  refine Early.rest.cons (o := _) (by simp only [List.getElem?_toArray, List.getElem?_cons_succ, List.getElem?_cons_zero]; rfl) (fun K hK => ?_) Early.rest.nil
  have hfw := firmware_any v1
  go_simp
  refine hfw.mono ?_
  rintro e v2 ⟨V, cV, zs, rfl, hfr, hf8, hb2⟩
  have hS2 : v2.cell? ⟨w.heap.size, 0, none⟩ = some (.slice RA rn rc) ∧ v2.cell? ⟨w.heap.size, 1, none⟩ = some (.int .i64 ph) := ⟨(hb2.cell (p := ⟨w.heap.size, 0, none⟩) HD.out.1.lt).trans hS.1, (hb2.cell (p := ⟨w.heap.size, 1, none⟩) HD.out.1.lt).trans hS.2⟩
  have hs2 := hb2.size
  have hmn := machNew_any (G := 1000) (J := 10000000) v2 V RA cV rn rc ph p0 p1 zs mz hfr (reads_mono (HD.out.2.2.1.below (hb2.mono (by have := HD.out.2.2.2; omega))) (by have := HD.out.2.2.2; omega)) hf8 HC.out.2.2.2 (by omega) (by omega) (by omega)
  have H2 := Lib.hid (And.intro (HD.out.1.below hb2 HD.out.1.lt) (And.intro (HD.out.2.1.trans (hb2.mono (by have := HD.out.2.2.2; omega))) hs2))
  have HS2 := Lib.hid hS2
  clear hfr hf8 hb2 hS hfw hS2
  go_wp2_with fail
  refine hK.out _ _ (fun _ => HS2.out) ?_
  clear hK K
  try simp only [Act.put, List.setIfInBounds_toArray, List.set_cons_zero, List.set_cons_succ]
  refine Early.ready (rs := [5]) (by kernel_rfl) (by simp) ?_
  refine Early.rest.cons (o := _) (by simp only [List.getElem?_toArray, List.getElem?_cons_succ, List.getElem?_cons_zero]; rfl) (fun K hK => ?_) Early.rest.nil
  go_simp
  refine hmn.mono ?_
  rintro e v3 ⟨m, c, g, rfl, hm0, hMS, hMB, hc42, hb3⟩
  have hS3 : v3.cell? ⟨w.heap.size, 0, none⟩ = some (.slice RA rn rc) ∧ v3.cell? ⟨w.heap.size, 1, none⟩ = some (.int .i64 ph) := ⟨(hb3.cell (p := ⟨w.heap.size, 0, none⟩) H2.out.1.lt).trans HS2.out.1, (hb3.cell (p := ⟨w.heap.size, 1, none⟩) H2.out.1.lt).trans HS2.out.2⟩
  have H3 := Lib.hid (And.intro hMS (And.intro hMB (And.intro hc42 (And.intro (H2.out.1.below hb3 H2.out.1.lt) (And.intro (H2.out.2.1.trans (hb3.mono (by have := HD.out.2.2.2; omega))) (And.intro hm0 hb3.size))))))
  have HS3 := Lib.hid hS3
  clear hmn hMS hMB hc42 hb3 hS3 hm0
  go_wp2_with fail
  refine hK.out _ _ (fun _ => HS3.out) ?_
  clear hK K
  try simp only [Act.put, List.setIfInBounds_toArray, List.set_cons_zero, List.set_cons_succ]
  refine Early.takeW (i := 6) (oi := _) (v := ?_) (by simp only [List.getElem?_toArray, List.getElem?_cons_succ, List.getElem?_cons_zero]; rfl) (by kernel_rfl) (by kernel_rfl) (by kernel_rfl) (by kernel_rfl) (by kernel_rfl) (by intro _ _ _ h; exact h) (Or.inl ⟨by rfl, ?_⟩) (fun _ => HS3.out) ?_
  rotate_left
  · intro w9 _
    go_simp
    try with_reducible rfl
  try simp only [Act.put, List.setIfInBounds_toArray, List.set_cons_zero, List.set_cons_succ]
  refine Early.takeW (i := 7) (oi := _) (v := ?_) (by simp only [List.getElem?_toArray, List.getElem?_cons_succ, List.getElem?_cons_zero]; rfl) (by kernel_rfl) (by kernel_rfl) (by kernel_rfl) (by kernel_rfl) (by kernel_rfl) (by intro _ _ _ h; exact h) (Or.inl ⟨by rfl, ?_⟩) (fun _ => HS3.out) ?_
  rotate_left
  · intro w9 _
    go_simp
    try with_reducible rfl
  try simp only [Act.put, List.setIfInBounds_toArray, List.set_cons_zero, List.set_cons_succ]
  refine Early.takeW (i := 8) (oi := _) (v := ?_) (by simp only [List.getElem?_toArray, List.getElem?_cons_succ, List.getElem?_cons_zero]; rfl) (by kernel_rfl) (by kernel_rfl) (by kernel_rfl) (by kernel_rfl) (by kernel_rfl) (by intro _ _ _ h; exact h) (Or.inl ⟨by rfl, ?_⟩) (fun _ => HS3.out) ?_
  rotate_left
  · intro w9 _
    go_simp
    try with_reducible rfl
  try simp only [Act.put, List.setIfInBounds_toArray, List.set_cons_zero, List.set_cons_succ]
  refine Early.takeW (i := 9) (oi := _) (v := ?_) (by simp only [List.getElem?_toArray, List.getElem?_cons_succ, List.getElem?_cons_zero]; rfl) (by kernel_rfl) (by kernel_rfl) (by kernel_rfl) (by kernel_rfl) (by kernel_rfl) (by intro _ _ _ h; exact h) (Or.inl ⟨by rfl, ?_⟩) (fun _ => HS3.out) ?_
  rotate_left
  · intro w9 _
    go_simp
    try with_reducible rfl
  try simp only [Act.put, List.setIfInBounds_toArray, List.set_cons_zero, List.set_cons_succ]
  refine Early.takeW (i := 10) (oi := _) (v := ?_) (by simp only [List.getElem?_toArray, List.getElem?_cons_succ, List.getElem?_cons_zero]; rfl) (by kernel_rfl) (by kernel_rfl) (by kernel_rfl) (by kernel_rfl) (by kernel_rfl) (by intro _ _ _ h; exact h) (Or.inl ⟨by rfl, ?_⟩) (fun _ => HS3.out) ?_
  rotate_left
  · intro w9 _
    go_simp
    try with_reducible rfl
  try simp only [Act.put, List.setIfInBounds_toArray, List.set_cons_zero, List.set_cons_succ]
  refine Early.done (by kernel_rfl) ?_ _
  have hvs : w.heap.size < v2.heap.size := H2.out.1.lt
  have hvs3 : v2.heap.size ≤ v3.heap.size := H3.out.2.2.2.2.2.2
  clear HS2 HS3 H2 HD
  generalize v2.heap.size = P at *
  have hWB := H3.out.2.2.2.1
  have hwsz : (wldC (.slice RA rn rc) ph sl cs pl).size = 34 := by
    have hl : cs.length = 30 := (HC.out.1 (mkE 0 0 0 0) (fun _ => none) 0).1
    simp [wldC, hl]
  have hbg := fun v => begun_any (rv := .slice RA rn rc) (ph := ph) (sl := sl) (pl := pl) (cs := cs) v HC.out.1
  have HBG := Lib.hid hbg
  clear hbg
  go_wp2_with (first
    | (refine wpList_load_boxg (by rfl) 58 _ rfl w.heap.size rfl 58 (wldC (.slice RA rn rc) ph sl cs pl) hWB _ Tryz.underlying58 rfl (by rw [hwsz]; exact wldInfo) ?_)
    | fail)
  try (refine fun (_ : Hid _) => ?_)
  try go_wp2_with fail
  refine (HBG.out _).mono ?_
  rintro e v4 ⟨cs', rfl, hk1, hk2, hk3, hb4⟩
  obtain ⟨hMS, hMB, hc42, _, hbw, hm0, _⟩ := H3.out
  have hcl := hMS.lt
  have hrg := setRegs_any (φ := fun b => b < P ∨ b = m) cs' pre im (hMS.below hb4) (by omega) (by omega) (by omega) (.inr rfl) (hMB.below hb4 hMB.lt) ((hb4.cell (p := ⟨c, 42, none⟩) hcl.1).trans hc42) hk1 (hk3.trans HC.out.2.2.1) (hk2.trans HC.out.2.1) (by omega) (by omega)
  have H4 := Lib.hid (And.intro (hWB.below hb4 hWB.lt) (And.intro (hMB.below hb4 hMB.lt) (And.intro (hbw.trans (hb4.mono (by omega))) (And.intro hm0 hb4.size))))
  clear hMS hMB hc42 hbw hm0 hcl hk1 hk2 hk3 hb4 hWB H3 HBG
  go_wp2_with fail
  refine hrg.mono ?_
  rintro e v5 ⟨rfl, hMS, hF⟩
  have H5 := Lib.hid (And.intro hMS (And.intro (hF.blk H4.out.2.1 (.inr rfl)) (And.intro (hF.blk H4.out.1 (.inl hvs)) (And.intro (H4.out.2.2.1.trans (hF.below (fun b hb => .inl (by omega)))) (And.intro H4.out.2.2.2.1 (Nat.le_trans H4.out.2.2.2.2 hF.size))))))
  clear hMS hF hrg H4
  go_upto_region 6 with fail
  obtain ⟨k1, rfl⟩ : ∃ k : Nat, n1 = k := ⟨n1.toNat, by omega⟩
  obtain ⟨k2, rfl⟩ : ∃ k : Nat, n2 = k := ⟨n2.toNat, by omega⟩
  have hk1 : k1 ≤ 5000 := by omega
  have hk2 : k2 ≤ 20000 := by omega
  have d2 : v5.cell? ⟨w.heap.size, 2, none⟩ = some (.bool sl) := (H5.out.2.2.1.cell 2).trans rfl
  have hsl := Ck.slow_any sl H5.out.1 (by omega) (by omega) (by omega) (.inr rfl) H5.out.2.1
  go_wp2_with fail
  refine hsl.mono ?_
  rintro e v6 ⟨⟨u6, rfl⟩, hMS, hF⟩
  have hbl : ∀ b, b < w.heap.size → b < P ∨ b = m := fun b hb => .inl (by omega)
  have HBL := Lib.hid hbl
  have H6 := Lib.hid (And.intro (hF.blk H5.out.2.1 (.inr rfl)) (And.intro (H5.out.2.2.2.1.trans (hF.below hbl)) (And.intro H5.out.2.2.2.2.1 hMS)))
  clear d2 hsl hMS hF H5 hbl hwsz HC p0 p1 q5 q6 q7
  go_upto_region 7 with fail
  have hw1 : IntKind.u32.wrap (k1 : Int) = k1 := by simp [IntKind.wrap, IntKind.bits, IntKind.signed]; omega
  have hr1 := Ck.run_any (φ := fun b => b < P ∨ b = m) k1 H6.out.2.2.2 (by omega) (by omega) (by omega) (by omega) (by omega) (.inr rfl) H6.out.1 (by omega)
  go_wp2_with fail
  refine hr1.mono ?_
  rintro e v7 ⟨⟨u7, rfl⟩, hMS, hF⟩
  have H7 := Lib.hid (And.intro (hF.blk H6.out.1 (.inr rfl)) (And.intro (H6.out.2.1.trans (hF.below HBL.out)) (And.intro H6.out.2.2.1 hMS)))
  clear hr1 hw1 hMS hF H6
  go_upto_region 8 with fail
  have hrc := Ck.record_any (φ := fun b => b < P ∨ b = m) H7.out.2.2.2 (by omega) (by omega) (by omega) (.inr rfl) (by omega) H7.out.1
  go_wp2_with fail
  refine hrc.mono ?_
  rintro e v8 ⟨⟨u8, rfl⟩, len, b, hlen, hMS, hF, hB⟩
  have H8 := Lib.hid (And.intro hB (And.intro (H7.out.2.1.trans (hF.below (fun b hb => ⟨HBL.out b hb, by have := H7.out.2.2.1; omega⟩))) (And.intro H7.out.2.2.1 hMS)))
  clear hrc hMS hF hB H7
  go_upto_region 9 with fail
  have hw2 : IntKind.u32.wrap (k2 : Int) = k2 := by simp [IntKind.wrap, IntKind.bits, IntKind.signed]; omega
  have hr2 := Ck.run_any (φ := fun b => b < P ∨ b = m) k2 H8.out.2.2.2 (by omega) (by omega) (by omega) (by omega) (by omega) (.inr rfl) H8.out.1 (by omega)
  go_wp2_with fail
  refine hr2.mono ?_
  rintro e v9 ⟨⟨u9, rfl⟩, hMS, hF⟩
  have H9 := Lib.hid (And.intro (hF.blk H8.out.1 (.inr rfl)) (And.intro (H8.out.2.1.trans (hF.below HBL.out)) (And.intro H8.out.2.2.1 hMS)))
  clear hr2 hw2 hMS hF H8
  go_upto_region 10 with fail
  obtain ⟨A, el, ec, ez, hE⟩ := H9.out.2.2.2.edges (by omega) (by omega) (by omega)
  have hgl := H9.out.2.2.2.lt.2
  have hrd := recorded_any hE hgl H9.out.1 (by omega) (by omega) (by omega) (by omega)
  have HE := Lib.hid (And.intro hE hgl)
  clear hE hgl
  go_wp2_with fail
  refine hrd.mono ?_
  rintro e w10 ⟨hb10, ⟨hg0, rfl⟩ | ⟨gs, GV, gc, hgs, rfl, hown⟩⟩
  · have HF := Lib.hid (H9.out.2.1.trans (hb10.mono H9.out.2.1.size))
    clear hrd hb10 hg0
    go_wp2
    go_ret
    exact ⟨rfl, HF.out⟩
  have hE := HE.out.1
  have hmem : ∀ z ∈ ez.drop len, z ≤ 25000 := fun z hz => by have := (hE.bd z (List.mem_of_mem_drop hz)).2; omega
  have hz : isU32 gs := fun x hx => by have := gapsF_in hgs (by omega) hmem x hx; omega
  have hgn25 : gs.length ≤ 25000 := by have := gapsF_many hgs (by omega) hmem; omega
  have hs9 := hb10.size
  have hg9 := HE.out.2
  have hex := mexact_any (hE.below hg9 hb10) (by omega) (H9.out.1.below hb10 H9.out.1.lt) (by omega) (by omega) (by omega) (by omega) hgs hz (by omega)
  have HG := Lib.hid (And.intro hown (And.intro hz (And.intro hgn25 (H9.out.2.1.trans (hb10.mono H9.out.2.1.size)))))
  have hsz := HG.out.2.2.2.size
  have HX := Lib.hid (exL_tape (high := b) hz (by omega))
  clear hE hmem hz hgn25 hs9 hg9 hown hgs hb10 hrd HE H9 hlen
  generalize hgn : gs.length = gn at *
  have HGN := Lib.hid hgn
  clear hgn
  go_upto_region 13 with fail
  go_wp2_with fail
  refine hex.mono ?_
  rintro e w11 ⟨hb11, A', c', xs, rfl, hr11, hk11⟩
  generalize hxl : (exL b gs).length = tn at *
  have HXL := Lib.hid hxl
  have hs11 := hb11.size
  have H11 := Lib.hid (And.intro hr11 (And.intro hk11 hb11))
  clear hr11 hk11 hb11 hex hxl
  go_upto_region 14 with (first
    | (refine wpList_store_box rfl 66 _ _ (by rfl) w11.heap.size #[.int .i64 1, .int .i64 20, .slice A' tn c'] (by rfl) (by rfl) 66 #[.int .i64 0, .int .i64 0, .slice none 0 0] (Blk.new w11 _ _) tapeInfo rfl (by simp [Value.oneCell']) ?_)
    | fail)
  intro w12 hB12 hg12
  have hb12 : Below w11.heap.size w11 w12 := ((Below.refl _ _).alloc (Nat.le_refl _) _).grown hg12 (by simp) (fun b e => by injection e with e; omega)
  have hs12 := hb12.size
  have hwr := write_any w12 A' tn c' xs (exL b gs) (H11.out.1.keep (fun b hb => hb12.block b hb) (fun b hb => by show b < _; have : b < w11.heap.size := hb; omega)) (BlksAt.keep (fun b hb => hb12.block b hb) (fun b hb => by show b < _; have : b < w11.heap.size := hb; omega) H11.out.2.1) HX.out.ours HX.out.few
  have H12 := Lib.hid (show Below w10.heap.size w10 w12 from H11.out.2.2.trans (hb12.mono hs11))
  clear hb12 hg12 H11
  generalize w11.heap.size = tp at *
  go_wp2_with (first
    | (refine wpList_load_box rfl 66 _ rfl tp rfl 66 #[.int .i64 1, .int .i64 20, .slice A' tn c'] hB12 _ Tryz.underlying66 rfl tapeInfo ?_)
    | fail)
  try (refine fun (_ : Hid _) => ?_)
  try go_wp2_with fail
  refine hwr.mono ?_
  rintro e w13 ⟨hb13, FV, fc, rfl, hfown⟩
  generalize hfl : (headB ++ blksB (exL b gs)).length = fn at *
  have hs13 := hb13.size
  have H13 := Lib.hid (And.intro hfown (H12.out.trans (hb13.mono (by omega))))
  clear hfown hb13 hwr hB12 H12 hfl
  go_upto_region 15 with fail
  go_wp2_with fail
  refine (firmware_any w13).mono ?_
  rintro e w14 ⟨V2, cV2, zs2, rfl, hfr, hf8, hb14⟩
  have hmn := machNew_any (G := 1000) (J := 10000000) w14 V2 none cV2 0 0 0 (by omega) (by omega) zs2 [] hfr Reads.none_ hf8 nofun (by omega) (by omega) (by omega)
  have hs14 := hb14.size
  have H14 := Lib.hid hb14
  clear hfr hf8 hb14
  go_wp2_with fail
  refine hmn.mono ?_
  rintro e w15 ⟨m2, c2, g2, rfl, hm2, _, hMB2, _, hb15⟩
  have hs15 := hb15.size
  have hins := insert_any (dl := exL b gs) (A := FV) (N := fn) (c := fc) hMB2 ⟨reads_mono ((Reads.of_own H13.out.1).below (H14.out.trans (hb15.mono hs14))) (Nat.le_trans hs14 hm2), file_u8 _, capOf H13.out.1, own_capm H13.out.1⟩ rfl HX.out.ours HX.out.few
  have H15 := Lib.hid (And.intro (show Below w10.heap.size w10 w15 from H13.out.2.trans ((H14.out.trans (hb15.mono hs14)).mono (by omega))) (And.intro hm2 hMB2.lt))
  clear hMB2 hb15 hmn H13 H14
  go_upto_region 16 with fail
  go_wp2_with fail
  refine hins.mono ?_
  rintro e w16 ⟨rfl, hMv, dk, wy0, mb0, LA, lc, BA, bc, f3, hMB, hDQ⟩
  have hb16 : Below w10.heap.size w10 w16 := H15.out.1.trans (hMv.below (by omega) (by have := H15.out.2.1; omega) (by have := H15.out.2.1; omega))
  have hdk := mdeck_any hMB hDQ
  have H16 := Lib.hid hb16
  have hs16 := hb16.size
  clear hMv hMB hDQ hb16 hins H15
  go_upto_region 18 with fail
  go_wp2_with fail
  refine hdk.mono ?_
  rintro e w17 ⟨d, wy, mb, rfl, hD, hb17⟩
  have hpl := play_any hD
  have H17 := Lib.hid (And.intro hb17 hD.ups)
  clear hdk hD hb17
  go_upto_region 19 with fail
  go_wp2_with fail
  refine hpl.mono ?_
  rintro e w18 ⟨⟨u18, rfl⟩, hD, hm18⟩
  have H18 := Lib.hid (And.intro hD (H17.out.1.trans (hm18.below H17.out.2)))
  clear hpl hD hm18 H17
  go_upto_region 20 with fail
  have hgnl : gs.length = gn := HGN.out
  have HR := Lib.hid (show ∀ wr, Below w16.heap.size w16 wr → Below w10.heap.size w10 wr ∧ Reads wr w10.heap.size 1 GV gn (gs.map (Value.int .u32)) from fun wr h => by
    have h2 := H16.out.trans (h.mono hs16)
    exact ⟨h2, (Reads.of_own HG.out.1).below h2⟩)
  have HO := Lib.hid (show OutR w16.heap.size d wy mb LA lc BA bc b gs gn w16 gn (.bool b) (.int .i64 0) w18 from ⟨0, _, _, _, 0, Nat.zero_le _, rfl, rfl, H18.out.1, exL_pos HG.out.2.1, rfl, rfl, rfl, H18.out.2, rfl⟩)
  clear H18
  generalize w16.heap.size = B at *
  go_upto_region 21 with fail
  go_loopg [9, 20] gn (fun gk hi kk wr => OutR B d wy mb LA lc BA bc b gs gn w16 gk hi kk wr)
  case atStart => exact HO.out
  case round =>
    obtain ⟨k, D, s, ts, i, hk, rfl, rfl, hD, hP, hpl, hlf, htd, hbB, rfl⟩ := hrel
    have hgn25 := HG.out.2.2.1
    have hk0 : (0 : Int) ≤ (k : Int) := Int.natCast_nonneg _
    by_cases hlt : k < gn
    · have hltI : (k : Int) < (gn : Int) := by omega
      have hxz := HG.out.2.1 (gs.getD k 0) (mem_getD (by omega))
      obtain ⟨gz, hgz⟩ : ∃ q : Nat, gs.getD k 0 = (q : Int) := ⟨(gs.getD k 0).toNat, by omega⟩
      have hex := exG_at (gs := gs) (k := k) (by omega)
      rw [hgz] at hxz hex
      have HI := Lib.hid (show InR B d wy mb LA lc BA bc b gs k gz w16 gz (.int .u32 0) wr from ⟨0, D, s, ts, i, Nat.zero_le _, rfl, hD, hpl, hbB, rfl, .inl ⟨rfl, hP, hlf, htd⟩⟩)
      have HK := Lib.hid (And.intro hex hgz)
      clear hD hP hpl hlf htd hbB hex hgz
      generalize hhb : hiK b k = hb at *
      go_upto_region 24 with fail
      go_loopg [21] gz (fun gj jj wr' => InR B d wy mb LA lc BA bc b gs k gz w16 gj jj wr')
      case atStart => exact HI.out
      case round =>
        obtain ⟨j, D, s, ts, i, hj, rfl, hD, hpl, hbB, rfl, hcase⟩ := hrel
        rw [hhb] at hcase
        have hj0 : (0 : Int) ≤ (j : Int) := Int.natCast_nonneg _
        have hcell := rd_at (HR.out _ hbB).2 hlt
        rw [HK.out.2] at hcell
        obtain ⟨ad, rfl, _, hc⟩ := hcell
        by_cases hjl : j < gz
        · have hjI : (j : Int) < (gz : Int) := by omega
          have hkey : Calls Tryz.prog 25 #[.pointer (some ⟨d, 0, none⟩)] wr fun x w' => (∃ v, x = .returned v) ∧ DMv wr w' d wy mb ∧ ∃ D' s' ts' i', DeckAt w' B d wy mb LA lc BA bc (exL b gs) D' s' ts' ∧ Pos (exL b gs) (!b) D' s' ts' i' ((exG gs).drop (k + 1)) hb ∧ D'.left = (gz : Int) - (j + 1) ∧ D'.lv = hb ∧ D'.told = (k : Int) + 1 ∧ D'.pl = true := by
            rcases hcase with ⟨h0, hP, hl, ht⟩ | ⟨h0, hP, hl, hlv, ht⟩
            · refine (tick_next hD HX.out hP (by omega) (by omega) hpl hl).mono ?_
              rintro x w' ⟨D', s', ts', hx, hm, hD', ⟨X, r, i', hR, hX, hP', hlv', hpl', hl', ht'⟩ | hR⟩
              · rw [HK.out.1] at hR
                injection hR with e1 e2
                subst e1 e2
                rw [Bool.not_not] at hP' hlv'
                exact ⟨hx, hm, D', s', ts', i', hD', hP', by rw [hl', h0]; simp, hlv', by rw [ht', ht], hpl'⟩
              · rw [HK.out.1] at hR
                cases hR
            · refine (tick_down hD hpl (by omega) (by omega)).mono ?_
              rintro x w' ⟨hx, hm, hD'⟩
              exact ⟨hx, hm, _, s, ts, i, hD', hP.same rfl rfl rfl rfl, by show D.left - 1 = _; omega, hlv, ht, hpl⟩
          have hw1 : IntKind.u32.wrap ((j : Int) + 1) = (j : Int) + 1 := by simp [IntKind.wrap, IntKind.bits, IntKind.signed]; omega
          have HB1 := Lib.hid hbB
          have HU := Lib.hid hD.ups
          clear hD hpl hbB hcase
          go_wp2_with fail
          refine hkey.mono ?_
          rintro x w2 ⟨⟨uu, rfl⟩, hm, D', s', ts', i', hD', hP', hl', hlv', ht', hpl'⟩
          have hlev := dlevel_any hD'
          have hpla := playing_any hD'
          rw [hlv'] at hlev
          rw [hpl'] at hpla
          have HN := Lib.hid (show InR B d wy mb LA lc BA bc b gs k gz w16 (gz - (j + 1)) (.int .u32 ((j : Int) + 1)) w2 from ⟨j + 1, D', s', ts', i', hjl, rfl, hD', hpl', HB1.out.trans (hm.below HU.out), rfl, .inr ⟨Nat.succ_pos _, by rw [hhb]; exact hP', by rw [hl']; simp, by rw [hhb]; exact hlv', ht'⟩⟩)
          have hme : gz - (j + 1) < gz - j := by omega
          clear hkey hm hD' hP' hl' hlv' ht' hpl' HB1 HU hc
          go_wp2_with fail
          refine hlev.mono ?_
          rintro x w3 ⟨rfl, rfl⟩
          go_wp2_with fail
          refine hpla.mono ?_
          rintro x w4 ⟨rfl, rfl⟩
          clear hlev hpla
          go_wp2_with fail
          go_roundg (gz - (j + 1))
          case rel => exact HN.out
          case measure => exact hme
        · have hje : j = gz := by omega
          subst hje
          have hjI : ¬ (j : Int) < (j : Int) := by omega
          rcases hcase with ⟨h0, _⟩ | ⟨h0, hP, hl, hlv, ht⟩
          · omega
          have hw1 : IntKind.i64.wrap ((k : Int) + 1) = (k : Int) + 1 := by rw [IntKind.wrap_i64]; omega
          have HN := Lib.hid (show OutR B d wy mb LA lc BA bc b gs gn w16 (gn - (k + 1)) (.bool (!hb)) (.int .i64 ((k : Int) + 1)) wr from ⟨k + 1, D, s, ts, i, hlt, rfl, by rw [hiK_succ, hhb], hD, by rw [hiK_succ, hhb, Bool.not_not]; exact hP, hpl, by rw [hl]; simp, ht, hbB, rfl⟩)
          have hme : gn - (k + 1) < gn - k := by omega
          clear hP hl hlv ht hD hpl hbB
          go_wp2_with fail
          go_roundg (gn - (k + 1))
          case rel => exact HN.out
          case measure => exact hme
    · have hke : k = gn := by omega
      subst hke
      have hltI : ¬ (k : Int) < (k : Int) := by omega
      have hlast := exG_last (gs := gs)
      rw [hgnl] at hlast
      have htk := tick_next hD HX.out hP (by omega) (by omega) hpl hlf
      have HB1 := Lib.hid hbB
      have HU := Lib.hid hD.ups
      clear hP hlf htd hbB hD hpl
      generalize hhb : hiK b k = hb at *
      go_upto_region 30 with fail
      go_wp2_with fail
      refine htk.mono ?_
      rintro x w2 ⟨D', s', ts', ⟨uu, rfl⟩, hm, hD', hcase⟩
      have hlev := dlevel_any hD'
      have HF := Lib.hid (show Below w.heap.size w w2 from HG.out.2.2.2.trans ((HR.out _ (HB1.out.trans (hm.below HU.out))).1.mono hsz))
      clear htk hD' hm
      by_cases hk00 : (k : Int) = 0
      · clear hcase hlast
        go_wp2_with fail
        go_ret
        exact ⟨rfl, HF.out⟩
      · have hne : gs ≠ [] := fun e => hk00 (by rw [← hgnl, e]; rfl)
        rw [if_neg hne] at hlast
        have hlv : D'.lv = hb := by
          rcases hcase with ⟨X, r, i', hR, hX, hP', hlv', hpl', hl', ht'⟩ | hR
          · rw [hlv', Bool.not_not]
          · rw [hlast] at hR; cases hR
        rw [hlv] at hlev
        clear hcase hlast hlv
        go_wp2_with fail
        refine hlev.mono ?_
        rintro x w3 ⟨rfl, rfl⟩
        clear hlev
        go_wp2_with fail
        go_ret
        exact ⟨rfl, HF.out⟩
end
end Tl
end Go.Proofs.YtnlaedfnifimkaaGreat
namespace Go.Proofs.YtnlaedfnifimkaaGreat
open Go.RowKit Go.Joins Go.ChangeShapes Go.WideShapes Go.ChangeAt Go.Deep
namespace Tl
open Ck
section
variable {H : Type} {enc : TypeId × Value → H} {w : World} {base n : Nat} {spare : Nat → Bool} {held : Bool} {cs : List Value} {xs : List (DataW H × List MemPlace)}
theorem take_one {i : Nat} (h : i < cs.length) : (cs.drop i).take 1 = [cs[i]] := by rw [List.drop_eq_getElem_cons h]; rfl
theorem reg_int {i : Nat} {T : TypeId} (k : IntKind) (hT : Tryz.prog.underlying T = some (.int k)) (hl : i < cs.length) (hx : i < xs.length) (hg : DataW.trod enc Tryz.prog w base spare held n T ((cs.drop i).take 1) = xs[i]?) : ∃ a, cs[i]? = some (.int k a) ∧ (Lit.int k a).wf = true := by
  rw [List.getElem?_eq_getElem hx, take_one hl] at hg
  obtain ⟨a, e, _, hw⟩ := DataW.trod_int hT hg
  exact ⟨a, by rw [List.getElem?_eq_getElem hl]; simpa using e, hw⟩
theorem reg_bool {i : Nat} {T : TypeId} (hT : Tryz.prog.underlying T = some .bool) (hl : i < cs.length) (hx : i < xs.length) (hg : DataW.trod enc Tryz.prog w base spare held n T ((cs.drop i).take 1) = xs[i]?) : ∃ a, cs[i]? = some (.bool a) := by
  rw [List.getElem?_eq_getElem hx, take_one hl] at hg
  obtain ⟨a, e, _⟩ := DataW.trod_bool hT hg
  exact ⟨a, by rw [List.getElem?_eq_getElem hl]; simpa using e⟩
theorem u8_wf {a : Int} (h : (Lit.int .u8 a).wf = true) : 0 ≤ a ∧ a ≤ 255 := by
  simp [Lit.wf, IntKind.min, IntKind.max, IntKind.signed, IntKind.bits] at h
  omega
theorem u16_wf {a : Int} (h : (Lit.int .u16 a).wf = true) : 0 ≤ a ∧ a ≤ 65535 := by
  have h1 : IntKind.u16.min = 0 := rfl
  have h2 : IntKind.u16.max = 65535 := rfl
  simp only [Lit.wf, Bool.and_eq_true, decide_eq_true_eq] at h
  omega
set_option maxRecDepth 100000 in
set_option maxHeartbeats 4000000 in
theorem open_regs {x : DataW H × List MemPlace} (h : DataW.trod enc Tryz.prog w base spare held n 56 cs = some x) : RegsOk cs ∧ (∃ im, cs[28]? = some (.int .u8 im)) ∧ ∃ pre, cs[29]? = some (.int .u8 pre) := by
  obtain ⟨xs, n, _, hx, hlen, hl, hg⟩ := DataW.trod_struct Tryz.underlying56 h
  have c8 : Tryz.prog.cellsOf 5 = 1 := by kernel_rfl
  have c16 : Tryz.prog.cellsOf 25 = 1 := by kernel_rfl
  have cb : Tryz.prog.cellsOf 4 = 1 := by kernel_rfl
  have hl30 : cs.length = 30 := hlen.trans (by kernel_rfl)
  have hx30 : xs.length = 30 := hl
  obtain ⟨a0, e0, w0⟩ := reg_int (cs := cs) (xs := xs) (i := 0) .u8 Tryz.underlying5 (by omega) (by omega) (by have := hg 0 _ rfl; simpa [c8] using this)
  obtain ⟨a1, e1, w1⟩ := reg_int (cs := cs) (xs := xs) (i := 1) .u8 Tryz.underlying5 (by omega) (by omega) (by have := hg 1 _ rfl; simpa [c8] using this)
  obtain ⟨a2, e2, w2⟩ := reg_int (cs := cs) (xs := xs) (i := 2) .u8 Tryz.underlying5 (by omega) (by omega) (by have := hg 2 _ rfl; simpa [c8] using this)
  obtain ⟨a3, e3, w3⟩ := reg_int (cs := cs) (xs := xs) (i := 3) .u8 Tryz.underlying5 (by omega) (by omega) (by have := hg 3 _ rfl; simpa [c8] using this)
  obtain ⟨a4, e4, w4⟩ := reg_int (cs := cs) (xs := xs) (i := 4) .u8 Tryz.underlying5 (by omega) (by omega) (by have := hg 4 _ rfl; simpa [c8] using this)
  obtain ⟨a5, e5, w5⟩ := reg_int (cs := cs) (xs := xs) (i := 5) .u8 Tryz.underlying5 (by omega) (by omega) (by have := hg 5 _ rfl; simpa [c8] using this)
  obtain ⟨a6, e6, w6⟩ := reg_int (cs := cs) (xs := xs) (i := 6) .u8 Tryz.underlying5 (by omega) (by omega) (by have := hg 6 _ rfl; simpa [c8] using this)
  obtain ⟨a7, e7, w7⟩ := reg_int (cs := cs) (xs := xs) (i := 7) .u8 Tryz.underlying5 (by omega) (by omega) (by have := hg 7 _ rfl; simpa [c8] using this)
  obtain ⟨a8, e8, w8⟩ := reg_int (cs := cs) (xs := xs) (i := 8) .u8 Tryz.underlying5 (by omega) (by omega) (by have := hg 8 _ rfl; simpa [c8] using this)
  obtain ⟨a9, e9, w9⟩ := reg_int (cs := cs) (xs := xs) (i := 9) .u8 Tryz.underlying5 (by omega) (by omega) (by have := hg 9 _ rfl; simpa [c8] using this)
  obtain ⟨a10, e10, w10⟩ := reg_int (cs := cs) (xs := xs) (i := 10) .u8 Tryz.underlying5 (by omega) (by omega) (by have := hg 10 _ rfl; simpa [c8] using this)
  obtain ⟨a11, e11, w11⟩ := reg_int (cs := cs) (xs := xs) (i := 11) .u8 Tryz.underlying5 (by omega) (by omega) (by have := hg 11 _ rfl; simpa [c8] using this)
  obtain ⟨a12, e12, w12⟩ := reg_int (cs := cs) (xs := xs) (i := 12) .u8 Tryz.underlying5 (by omega) (by omega) (by have := hg 12 _ rfl; simpa [c8] using this)
  obtain ⟨a13, e13, w13⟩ := reg_int (cs := cs) (xs := xs) (i := 13) .u8 Tryz.underlying5 (by omega) (by omega) (by have := hg 13 _ rfl; simpa [c8] using this)
  obtain ⟨a14, e14, w14⟩ := reg_int (cs := cs) (xs := xs) (i := 14) .u8 Tryz.underlying5 (by omega) (by omega) (by have := hg 14 _ rfl; simpa [c8] using this)
  obtain ⟨a15, e15, w15⟩ := reg_int (cs := cs) (xs := xs) (i := 15) .u8 Tryz.underlying5 (by omega) (by omega) (by have := hg 15 _ rfl; simpa [c8] using this)
  obtain ⟨a16, e16, w16⟩ := reg_int (cs := cs) (xs := xs) (i := 16) .u8 Tryz.underlying5 (by omega) (by omega) (by have := hg 16 _ rfl; simpa [c8] using this)
  obtain ⟨a17, e17, w17⟩ := reg_int (cs := cs) (xs := xs) (i := 17) .u8 Tryz.underlying5 (by omega) (by omega) (by have := hg 17 _ rfl; simpa [c8] using this)
  obtain ⟨a18, e18, w18⟩ := reg_int (cs := cs) (xs := xs) (i := 18) .u8 Tryz.underlying5 (by omega) (by omega) (by have := hg 18 _ rfl; simpa [c8] using this)
  obtain ⟨a19, e19, w19⟩ := reg_int (cs := cs) (xs := xs) (i := 19) .u16 Tryz.underlying25 (by omega) (by omega) (by have := hg 19 _ rfl; simpa [c16] using this)
  obtain ⟨a20, e20, w20⟩ := reg_int (cs := cs) (xs := xs) (i := 20) .u16 Tryz.underlying25 (by omega) (by omega) (by have := hg 20 _ rfl; simpa [c16] using this)
  obtain ⟨a21, e21, w21⟩ := reg_int (cs := cs) (xs := xs) (i := 21) .u16 Tryz.underlying25 (by omega) (by omega) (by have := hg 21 _ rfl; simpa [c16] using this)
  obtain ⟨a22, e22, w22⟩ := reg_int (cs := cs) (xs := xs) (i := 22) .u16 Tryz.underlying25 (by omega) (by omega) (by have := hg 22 _ rfl; simpa [c16] using this)
  obtain ⟨a23, e23, w23⟩ := reg_int (cs := cs) (xs := xs) (i := 23) .u16 Tryz.underlying25 (by omega) (by omega) (by have := hg 23 _ rfl; simpa [c16] using this)
  obtain ⟨a24, e24⟩ := reg_bool (cs := cs) (xs := xs) (i := 24) Tryz.underlying4 (by omega) (by omega) (by have := hg 24 _ rfl; simpa [cb] using this)
  obtain ⟨a25, e25⟩ := reg_bool (cs := cs) (xs := xs) (i := 25) Tryz.underlying4 (by omega) (by omega) (by have := hg 25 _ rfl; simpa [cb] using this)
  obtain ⟨a26, e26⟩ := reg_bool (cs := cs) (xs := xs) (i := 26) Tryz.underlying4 (by omega) (by omega) (by have := hg 26 _ rfl; simpa [cb] using this)
  obtain ⟨a27, e27⟩ := reg_bool (cs := cs) (xs := xs) (i := 27) Tryz.underlying4 (by omega) (by omega) (by have := hg 27 _ rfl; simpa [cb] using this)
  obtain ⟨a28, e28, w28⟩ := reg_int (cs := cs) (xs := xs) (i := 28) .u8 Tryz.underlying5 (by omega) (by omega) (by have := hg 28 _ rfl; simpa [c8] using this)
  obtain ⟨a29, e29, w29⟩ := reg_int (cs := cs) (xs := xs) (i := 29) .u8 Tryz.underlying5 (by omega) (by omega) (by have := hg 29 _ rfl; simpa [c8] using this)
  refine ⟨fun E S j => ⟨hl30, fun i b v hb hv => ?_⟩, ⟨_, e28⟩, ⟨_, e29⟩⟩
  have hi : i < 30 := by
    rcases Nat.lt_or_ge i 30 with h | h
    · exact h
    · rw [List.getElem?_eq_none (by omega)] at hv; cases hv
  match i, hi, hb, hv with
  | 0, _, hb, hv => cases hb; rw [e0] at hv; cases hv; exact ⟨a0, rfl, u8_wf w0⟩
  | 1, _, hb, hv => cases hb; rw [e1] at hv; cases hv; exact ⟨a1, rfl, u8_wf w1⟩
  | 2, _, hb, hv => cases hb; rw [e2] at hv; cases hv; exact ⟨a2, rfl, u8_wf w2⟩
  | 3, _, hb, hv => cases hb; rw [e3] at hv; cases hv; exact ⟨a3, rfl, u8_wf w3⟩
  | 4, _, hb, hv => cases hb; rw [e4] at hv; cases hv; exact ⟨a4, rfl, u8_wf w4⟩
  | 5, _, hb, hv => cases hb; rw [e5] at hv; cases hv; exact ⟨a5, rfl, u8_wf w5⟩
  | 6, _, hb, hv => cases hb; rw [e6] at hv; cases hv; exact ⟨a6, rfl, u8_wf w6⟩
  | 7, _, hb, hv => cases hb; rw [e7] at hv; cases hv; exact ⟨a7, rfl, u8_wf w7⟩
  | 8, _, hb, hv => cases hb; rw [e8] at hv; cases hv; exact ⟨a8, rfl, u8_wf w8⟩
  | 9, _, hb, hv => cases hb; rw [e9] at hv; cases hv; exact ⟨a9, rfl, u8_wf w9⟩
  | 10, _, hb, hv => cases hb; rw [e10] at hv; cases hv; exact ⟨a10, rfl, u8_wf w10⟩
  | 11, _, hb, hv => cases hb; rw [e11] at hv; cases hv; exact ⟨a11, rfl, u8_wf w11⟩
  | 12, _, hb, hv => cases hb; rw [e12] at hv; cases hv; exact ⟨a12, rfl, u8_wf w12⟩
  | 13, _, hb, hv => cases hb; rw [e13] at hv; cases hv; exact ⟨a13, rfl, u8_wf w13⟩
  | 14, _, hb, hv => cases hb; rw [e14] at hv; cases hv; exact ⟨a14, rfl, u8_wf w14⟩
  | 15, _, hb, hv => cases hb; rw [e15] at hv; cases hv; exact ⟨a15, rfl, u8_wf w15⟩
  | 16, _, hb, hv => cases hb; rw [e16] at hv; cases hv; exact ⟨a16, rfl, u8_wf w16⟩
  | 17, _, hb, hv => cases hb; rw [e17] at hv; cases hv; exact ⟨a17, rfl, u8_wf w17⟩
  | 18, _, hb, hv => cases hb; rw [e18] at hv; cases hv; exact ⟨a18, rfl, u8_wf w18⟩
  | 19, _, hb, hv => cases hb; rw [e19] at hv; cases hv; exact ⟨a19, rfl, u16_wf w19⟩
  | 20, _, hb, hv => cases hb; rw [e20] at hv; cases hv; exact ⟨a20, rfl, u16_wf w20⟩
  | 21, _, hb, hv => cases hb; rw [e21] at hv; cases hv; exact ⟨a21, rfl, u16_wf w21⟩
  | 22, _, hb, hv => cases hb; rw [e22] at hv; cases hv; exact ⟨a22, rfl, u16_wf w22⟩
  | 23, _, hb, hv => cases hb; rw [e23] at hv; cases hv; exact ⟨a23, rfl, u16_wf w23⟩
  | 24, _, hb, hv => cases hb; rw [e24] at hv; cases hv; exact ⟨a24, rfl, nofun⟩
  | 25, _, hb, hv => cases hb; rw [e25] at hv; cases hv; exact ⟨a25, rfl, nofun⟩
  | 26, _, hb, hv => cases hb; rw [e26] at hv; cases hv; exact ⟨a26, rfl, nofun⟩
  | 27, _, hb, hv => cases hb; rw [e27] at hv; cases hv; exact ⟨a27, rfl, nofun⟩
  | 28, _, hb, hv => cases hb; rw [e28] at hv; cases hv; exact ⟨a28, rfl, u8_wf w28⟩
  | 29, _, hb, hv => cases hb; rw [e29] at hv; cases hv; exact ⟨a29, rfl, u8_wf w29⟩
theorem drop_take (l : List Value) (a b : Nat) : (l.drop a).take b ++ l.drop (a + b) = l.drop a := by
  rw [← List.drop_drop, List.take_append_drop]
theorem reg_at {i j : Nat} (hl : i < cs.length) (hx : j < xs.length) (hg : DataW.trod enc Tryz.prog w base spare held n 3 ((cs.drop i).take 1) = xs[j]?) : ∃ a, (cs.drop i).take 1 = [.int .i64 a] ∧ (Lit.int .i64 a).wf = true := by
  rw [List.getElem?_eq_getElem hx, take_one hl] at hg
  obtain ⟨a, e, _, hw⟩ := DataW.trod_int Tryz.underlying3 hg
  exact ⟨a, by rw [take_one hl]; simpa using e, hw⟩
theorem reg_flag {i j : Nat} (hl : i < cs.length) (hx : j < xs.length) (hg : DataW.trod enc Tryz.prog w base spare held n 4 ((cs.drop i).take 1) = xs[j]?) : ∃ a, (cs.drop i).take 1 = [.bool a] := by
  rw [List.getElem?_eq_getElem hx, take_one hl] at hg
  obtain ⟨a, e, _⟩ := DataW.trod_bool Tryz.underlying4 hg
  exact ⟨a, by rw [take_one hl]; simpa using e⟩
set_option maxRecDepth 100000 in
theorem open_world {x : DataW H × List MemPlace} (h : DataW.trod enc Tryz.prog w base spare held n 58 cs = some x) : ∃ (c0 : Value) (ph : Int) (sl : Bool) (rs : List Value) (pl : Int) (y0 : DataW H × List MemPlace) (m : Nat), cs = ([c0, .int .i64 ph, .bool sl] ++ rs) ++ [.int .i64 pl] ∧ (Lit.int .i64 ph).wf = true ∧ (Lit.int .i64 pl).wf = true ∧ RegsOk rs ∧ (∃ im, rs[28]? = some (.int .u8 im)) ∧ (∃ pre, rs[29]? = some (.int .u8 pre)) ∧ DataW.trod enc Tryz.prog w base spare held m 24 [c0] = some y0 ∧ ∀ z ∈ y0.2, z ∈ x.2 := by
  obtain ⟨xs, n, _, hx, hlen, hl, hg⟩ := DataW.trod_struct Tryz.underlying58 h
  have cs8 : Tryz.prog.cellsOf 24 = 1 := by kernel_rfl
  have ci : Tryz.prog.cellsOf 3 = 1 := by kernel_rfl
  have cb : Tryz.prog.cellsOf 4 = 1 := by kernel_rfl
  have cr : Tryz.prog.cellsOf 56 = 30 := by kernel_rfl
  have hl34 : cs.length = 34 := hlen.trans (by kernel_rfl)
  have hx5 : xs.length = 5 := hl
  have g0 : DataW.trod enc Tryz.prog w base spare held n 24 ((cs.drop 0).take (Tryz.prog.cellsOf 24)) = xs[0]? := hg 0 _ rfl
  have g1 : DataW.trod enc Tryz.prog w base spare held n 3 ((cs.drop 1).take (Tryz.prog.cellsOf 3)) = xs[1]? := hg 1 _ rfl
  have g2 : DataW.trod enc Tryz.prog w base spare held n 4 ((cs.drop 2).take (Tryz.prog.cellsOf 4)) = xs[2]? := hg 2 _ rfl
  have g3 : DataW.trod enc Tryz.prog w base spare held n 56 ((cs.drop 3).take (Tryz.prog.cellsOf 56)) = xs[3]? := hg 3 _ rfl
  have g4 : DataW.trod enc Tryz.prog w base spare held n 3 ((cs.drop 33).take (Tryz.prog.cellsOf 3)) = xs[4]? := hg 4 _ rfl
  rw [cs8] at g0
  rw [ci] at g1 g4
  rw [cb] at g2
  rw [cr] at g3
  have t0 := take_one (cs := cs) (i := 0) (by omega)
  obtain ⟨ph, t1, w1⟩ := reg_at (cs := cs) (xs := xs) (i := 1) (j := 1) (by omega) (by omega) g1
  obtain ⟨sl, t2⟩ := reg_flag (cs := cs) (xs := xs) (i := 2) (j := 2) (by omega) (by omega) g2
  obtain ⟨pl, t4, w4⟩ := reg_at (cs := cs) (xs := xs) (i := 33) (j := 4) (by omega) (by omega) g4
  rw [List.getElem?_eq_getElem (by omega)] at g3 g0
  obtain ⟨r1, r2, r3⟩ := open_regs g3
  rw [t0] at g0
  refine ⟨_, ph, sl, _, pl, _, n, ?_, w1, w4, r1, r2, r3, g0, fun z hz => ?_⟩
  · have e0 := drop_take cs 0 1
    have e1 := drop_take cs 1 1
    have e2 := drop_take cs 2 1
    have e3 := drop_take cs 3 30
    have e4 := drop_take cs 33 1
    rw [t0] at e0
    rw [t1] at e1
    rw [t2] at e2
    rw [t4, List.drop_of_length_le (by omega), List.append_nil] at e4
    have e := e0
    rw [List.drop_zero, show (0 + 1 : Nat) = 1 from rfl, ← e1, show (1 + 1 : Nat) = 2 from rfl, ← e2, show (2 + 1 : Nat) = 3 from rfl, ← e3, show (3 + 30 : Nat) = 33 from rfl, ← e4] at e
    refine e.symm.trans ?_
    simp only [List.cons_append, List.nil_append, List.append_assoc]
  · rw [hx]
    exact List.mem_flatMap.2 ⟨_, List.getElem_mem _, hz⟩
end
theorem lossless_row {ph pl im pre : Int} {sl : Bool} {rs : List Value} {RA : Option Addr} {rn rc : Nat} {zs : List Int} (n1 n2 : Int) (w : World) (h0 : IsRow .u8 w RA rn rc zs) (hp : (Lit.int .i64 ph).wf = true) (hcs : RegsOk rs) (h28 : rs[28]? = some (.int .u8 im)) (h29 : rs[29]? = some (.int .u8 pre)) (_ : (Lit.int .i64 n1).wf = true) (_ : (Lit.int .i64 n2).wf = true) :
    Calls Tryz.prog 4 #[.agg (wldC (.slice RA rn rc) ph sl rs pl), .int .i64 n1, .int .i64 n2] w fun x w' => x = .returned (.bool true) ∧ Below w.heap.size w w' := by
  have hb : -9223372036854775808 ≤ ph ∧ ph ≤ 9223372036854775807 := by
    simp [Lit.wf, IntKind.min, IntKind.max, IntKind.signed, IntKind.bits] at hp
    omega
  have hr := row_u8 h0
  exact lossless_walk hb.1 hb.2 hr.1 hr.2.1 hcs h28 h29
end Tl
end Go.Proofs.YtnlaedfnifimkaaGreat
namespace Go.Proofs.YtnlaedfnifimkaaGreat.topLossless
open Go.RowKit
theorem two {a b : Bool} (ha : a = true) (hb : b = true) : (a && b) = true := by rw [ha, hb]; rfl
theorem fact0 : Rows.topLosslessRow.wf (OpenSpec.ofChange Rows.topLosslessSpec) = true := by kernel_rfl
theorem fact1 : laidOutB Tryz.prog = true := by kernel_rfl
theorem fact2 : mapsRowed Tryz.prog = true := by kernel_rfl
theorem fact3 : Tryz.f4.params.all (Tryz.prog.readableRec ·) = true := by kernel_rfl
theorem fact4 : namedTie Tryz.prog Rows.topLosslessRow.named Rows.topLosslessSpec.vars = true := by kernel_rfl
theorem fact5 : (Rows.topLosslessRow.stops == []) = true := by kernel_rfl
theorem fact6 : (Tryz.prog.stops == []) = true := by kernel_rfl
theorem fact7 : (Rows.topLosslessRow.knobs == []) = true := by kernel_rfl
theorem fact8 : (Tryz.prog.stopKnobs == []) = true := by kernel_rfl
theorem fact9 : (Rows.topLosslessRow.inPlace == Tryz.prog.inPlace 4) = true := by kernel_rfl
theorem fact10 : (Rows.topLosslessRow.unfollowed == Tryz.prog.unfollowed 4) = true := by kernel_rfl
theorem fact11 : (Rows.topLosslessRow.recurses == Tryz.prog.recurses 4) = true := by kernel_rfl
theorem fact12 : (Rows.topLosslessRow.named == Tryz.prog.varsNamed 4) = true := by kernel_rfl
theorem fact13 : (Rows.topLosslessRow.maps == (Tryz.f4.params.toList ++ Rows.topLosslessSpec.plain.varTypes Tryz.prog).any (Tryz.prog.mapsRec ·)) = true := by kernel_rfl
theorem fact14 : (Rows.topLosslessRow.ifaces == (Tryz.f4.params.toList ++ Rows.topLosslessSpec.plain.varTypes Tryz.prog).any (Tryz.prog.ifacesRec ·)) = true := by kernel_rfl
theorem fact15 : (Rows.topLosslessRow.mapsOut == Tryz.prog.mapsAmong Tryz.f4.resultTypes.toList) = true := by kernel_rfl
theorem fact16 : (Rows.topLosslessRow.loops == (Tryz.f4.params.toList ++ Rows.topLosslessSpec.plain.varTypes Tryz.prog).any (Tryz.prog.loopsFrom ·)) = true := by kernel_rfl
theorem fact17 : (Rows.topLosslessRow.wideKeys == (Tryz.f4.params.toList ++ Rows.topLosslessSpec.plain.varTypes Tryz.prog ++ Tryz.f4.resultTypes.toList).any (Tryz.prog.wideKeysFrom ·)) = true := by kernel_rfl
theorem fact18 : Rows.topLosslessSpec.vars.all (Tryz.prog.varReadable ·) = true := by kernel_rfl
theorem fact19 : Tryz.f4.resultTypes.all (fun t => Tryz.prog.readableRec t && decide (t < Tryz.prog.types.size)) = true := by kernel_rfl
theorem fact20 : (Rows.topLosslessRow.ifacesOut == Tryz.f4.resultTypes.toList.any (Tryz.prog.ifacesRec ·)) = true := by kernel_rfl
theorem fact21 : (Rows.topLosslessRow.loopsOut == Tryz.f4.resultTypes.toList.any (Tryz.prog.loopsFrom ·)) = true := by kernel_rfl
theorem fact22 : (Rows.topLosslessRow.plainKeys == Tryz.prog.plainKeys) = true := by kernel_rfl
theorem fact23 : Rows.topLosslessRow.shortTexts.isNone = true := by kernel_rfl
theorem fact24 : Tryz.prog.stopsHeard = true := by kernel_rfl
theorem fact25 : Tryz.prog.mayEnter = true := by kernel_rfl
theorem fact26 : (Rows.topLosslessRow.lifted == Tryz.prog.liftsFinal) = true := by kernel_rfl
theorem fact27 : (Tryz.prog.make == some Rows.topLosslessRow.make) = true := by kernel_rfl
theorem fact28 : (Rows.topLosslessRow.kinds == (if Rows.topLosslessRow.domain.isEmpty then [] else Tryz.f4.params.toList.map fun t => match Tryz.prog.underlying t with | some (.int k) => some k | _ => none)) = true := by kernel_rfl
theorem fact29 : (Rows.topLosslessRow.pinned == Rows.topLosslessRow.pinnedBy) = true := by kernel_rfl
theorem fact30 : (Rows.topLosslessRow.veiled == (Tryz.f4.params.toList ++ Rows.topLosslessSpec.plain.varTypes Tryz.prog ++ Tryz.f4.resultTypes.toList).any (Tryz.prog.veiledRec ·)) = true := by kernel_rfl
theorem fact31 : Rows.topLosslessRow.veiledFits Tryz.prog Tryz.f4.params.toList (Tryz.f4.params.toList ++ Rows.topLosslessSpec.plain.varTypes Tryz.prog ++ Tryz.f4.resultTypes.toList) = true := by kernel_rfl
set_option maxRecDepth 100000 in
theorem facts : joinedFacts Tryz.prog 4 Tryz.f4 Rows.topLosslessSpec Rows.topLosslessRow = true := by
  rw [joinedFacts]
  exact (two (two (two (two (two (two (two (two (two (two (two (two (two (two (two (two (two (two (two (two (two (two (two (two (two (two (two (two (two (two (two fact0 fact1) fact2) fact3) fact4) fact5) fact6) fact7) fact8) fact9) fact10) fact11) fact12) fact13) fact14) fact15) fact16) fact17) fact18) fact19) fact20) fact21) fact22) fact23) fact24) fact25) fact26) fact27) fact28) fact29) fact30) fact31)
end Go.Proofs.YtnlaedfnifimkaaGreat.topLossless
