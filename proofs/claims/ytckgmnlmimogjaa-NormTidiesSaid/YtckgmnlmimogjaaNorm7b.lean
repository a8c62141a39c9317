/- Contracts of layer 27: squealref27.Find: the walk findR_may. -/
import Derived.Test.YtckgmnlmimogjaaNorm5
import Derived.Test.YtckgmnlmimogjaaNorm6
import Derived.Laws.StructEq
import Derived.Deep.RegionHeld3
import Derived.Deep.CutRange
namespace Go.Proofs.Ytckgmnlmimogjaa
open Go.RowKit
set_option linter.unusedVariables false

set_option maxRecDepth 100000 in
set_option maxHeartbeats 16000000 in
theorem findR_may (w : World) (A : Option Addr) (N c : Nat) (zs : List Int) (a : Nat) (p s1 s2 z o tol : Int) (hr : Reads w w.heap.size 1 A N (zs.map (Value.int .u32))) (hz : isU32 zs) (hN : N ≤ 5000) (hat : a < zs.length) (Hm : mayB p s1 s2 z o tol = false) :
    Calls Try.prog 10 #[.slice A N c, .int .i64 a, .agg #[.int .i64 p, .int .i64 s1, .int .i64 s2, .int .i64 z, .int .i64 o], .int .i64 tol] w fun e w' => Below w.heap.size w w' ∧ Found w w' e zs a p s1 s2 z o tol := by
  have hl := reads_len hr
  have hb0 : Below w.heap.size w ((w.alloc (.cells #[.int .i64 p, .int .i64 s1, .int .i64 s2, .int .i64 z, .int .i64 o] 25)).alloc (.cells #[.int .i64 0, .int .i64 0, .int .i64 0, .int .i64 0, .int .i64 0, .int .i64 0, .int .i64 0, .int .i64 0, .int .i64 0, .int .i64 0, .int .i64 0, .int .i64 0, .slice none 0 0, .slice none 0 0, .slice none 0 0, .slice none 0 0, .slice none 0 0, .slice none 0 0] 33)) := ((Below.refl _ _).alloc (Nat.le_refl _) _).alloc (by simp) _
  have hT0 : Blk ((w.alloc (.cells #[.int .i64 p, .int .i64 s1, .int .i64 s2, .int .i64 z, .int .i64 o] 25)).alloc (.cells #[.int .i64 0, .int .i64 0, .int .i64 0, .int .i64 0, .int .i64 0, .int .i64 0, .int .i64 0, .int .i64 0, .int .i64 0, .int .i64 0, .int .i64 0, .int .i64 0, .slice none 0 0, .slice none 0 0, .slice none 0 0, .slice none 0 0, .slice none 0 0, .slice none 0 0] 33)) w.heap.size 25 #[.int .i64 p, .int .i64 s1, .int .i64 s2, .int .i64 z, .int .i64 o] := Blk.alloc (Blk.new w _ _) _
  have hR0 : Blk ((w.alloc (.cells #[.int .i64 p, .int .i64 s1, .int .i64 s2, .int .i64 z, .int .i64 o] 25)).alloc (.cells #[.int .i64 0, .int .i64 0, .int .i64 0, .int .i64 0, .int .i64 0, .int .i64 0, .int .i64 0, .int .i64 0, .int .i64 0, .int .i64 0, .int .i64 0, .int .i64 0, .slice none 0 0, .slice none 0 0, .slice none 0 0, .slice none 0 0, .slice none 0 0, .slice none 0 0] 33)) (w.heap.size + 1) 33 #[.int .i64 0, .int .i64 0, .int .i64 0, .int .i64 0, .int .i64 0, .int .i64 0, .int .i64 0, .int .i64 0, .int .i64 0, .int .i64 0, .int .i64 0, .int .i64 0, .slice none 0 0, .slice none 0 0, .slice none 0 0, .slice none 0 0, .slice none 0 0, .slice none 0 0] := by
    have := Blk.new (w.alloc (.cells #[.int .i64 p, .int .i64 s1, .int .i64 s2, .int .i64 z, .int .i64 o] 25)) 33 #[.int .i64 0, .int .i64 0, .int .i64 0, .int .i64 0, .int .i64 0, .int .i64 0, .int .i64 0, .int .i64 0, .int .i64 0, .int .i64 0, .int .i64 0, .int .i64 0, .slice none 0 0, .slice none 0 0, .slice none 0 0, .slice none 0 0, .slice none 0 0, .slice none 0 0]
    simpa using this
  have hge : ¬ N ≤ a := by omega
  have ha0 : (0 : Int) ≤ (a : Int) := Int.natCast_nonneg _
  have hgI : ¬ (N : Int) ≤ (a : Int) := by omega
  have ht0 : (w.alloc (.cells #[.int .i64 p, .int .i64 s1, .int .i64 s2, .int .i64 z, .int .i64 o] 25)).heap.size = w.heap.size + 1 := by simp
  go_enter Try.func10, Try.ntmps10
  by_cases h1 : tol < 0
  · clear hr hz
    have HN := Lib.hid (show fnd zs (a : Int) p s1 s2 z o tol = none from by unfold fnd; rw [if_pos (.inr (.inr Hm))])
    have HBL := Lib.hid hb0
    go_wp2_with (first
      | (refine wpList_store_box rfl 33 _ _ rfl (w.heap.size + 1) #[.int .i64 0, .int .i64 0, .int .i64 0, .int .i64 0, .int .i64 0, .int .i64 0, .int .i64 0, .int .i64 0, .int .i64 0, .int .i64 0, .int .i64 0, .int .i64 0, .slice none 0 0, .slice none 0 0, .slice none 0 0, .slice none 0 0, .slice none 0 0, .slice none 0 0] rfl rfl 33 #[.int .i64 0, .int .i64 0, .int .i64 0, .int .i64 0, .int .i64 0, .int .i64 0, .int .i64 0, .int .i64 0, .int .i64 0, .int .i64 0, .int .i64 0, .int .i64 0, .slice none 0 0, .slice none 0 0, .slice none 0 0, .slice none 0 0, .slice none 0 0, .slice none 0 0] hR0 blkInfo rfl (by simp [Value.oneCell']) ?_)
      | go_in)
    intro wz hRz hgz
    have hbz := HBL.out.grown hgz HBL.out.size (fun j hj => by injection hj with hj; omega)
    go_wp2
    refine bodyPost_ret (results_cell3 rfl _ _ (w.heap.size + 1) 33 #[.int .i64 0, .int .i64 0, .int .i64 0, .int .i64 0, .int .i64 0, .int .i64 0, .int .i64 0, .int .i64 0, .int .i64 0, .int .i64 0, .int .i64 0, .int .i64 0, .slice none 0 0, .slice none 0 0, .slice none 0 0, .slice none 0 0, .slice none 0 0, .slice none 0 0] (0, 0) _ rfl hRz Try.underlying33 rfl blkInfo) rfl ⟨hbz, .inl ⟨HN.out, rfl⟩⟩
  by_cases h2 : (65535 : Int) < tol
  · clear hr hz
    have HN := Lib.hid (show fnd zs (a : Int) p s1 s2 z o tol = none from by unfold fnd; rw [if_pos (.inr (.inr Hm))])
    have HBL := Lib.hid hb0
    go_wp2_with (first
      | (refine wpList_store_box rfl 33 _ _ rfl (w.heap.size + 1) #[.int .i64 0, .int .i64 0, .int .i64 0, .int .i64 0, .int .i64 0, .int .i64 0, .int .i64 0, .int .i64 0, .int .i64 0, .int .i64 0, .int .i64 0, .int .i64 0, .slice none 0 0, .slice none 0 0, .slice none 0 0, .slice none 0 0, .slice none 0 0, .slice none 0 0] rfl rfl 33 #[.int .i64 0, .int .i64 0, .int .i64 0, .int .i64 0, .int .i64 0, .int .i64 0, .int .i64 0, .int .i64 0, .int .i64 0, .int .i64 0, .int .i64 0, .int .i64 0, .slice none 0 0, .slice none 0 0, .slice none 0 0, .slice none 0 0, .slice none 0 0, .slice none 0 0] hR0 blkInfo rfl (by simp [Value.oneCell']) ?_)
      | go_in)
    intro wz hRz hgz
    have hbz := HBL.out.grown hgz HBL.out.size (fun j hj => by injection hj with hj; omega)
    go_wp2
    refine bodyPost_ret (results_cell3 rfl _ _ (w.heap.size + 1) 33 #[.int .i64 0, .int .i64 0, .int .i64 0, .int .i64 0, .int .i64 0, .int .i64 0, .int .i64 0, .int .i64 0, .int .i64 0, .int .i64 0, .int .i64 0, .int .i64 0, .slice none 0 0, .slice none 0 0, .slice none 0 0, .slice none 0 0, .slice none 0 0, .slice none 0 0] (0, 0) _ rfl hRz Try.underlying33 rfl blkInfo) rfl ⟨hbz, .inl ⟨HN.out, rfl⟩⟩
  have tolN0 : ¬ tol < 0 := h1
  have tolN1 : ¬ (65535 : Int) < tol := h2
  clear h1 h2
  by_cases h1 : p < 0
  · clear hr hz
    have HN := Lib.hid (show fnd zs (a : Int) p s1 s2 z o tol = none from by unfold fnd; rw [if_pos (.inr (.inr Hm))])
    have HBL := Lib.hid hb0
    go_wp2_with (first
      | (refine wpList_store_box rfl 33 _ _ rfl (w.heap.size + 1) #[.int .i64 0, .int .i64 0, .int .i64 0, .int .i64 0, .int .i64 0, .int .i64 0, .int .i64 0, .int .i64 0, .int .i64 0, .int .i64 0, .int .i64 0, .int .i64 0, .slice none 0 0, .slice none 0 0, .slice none 0 0, .slice none 0 0, .slice none 0 0, .slice none 0 0] rfl rfl 33 #[.int .i64 0, .int .i64 0, .int .i64 0, .int .i64 0, .int .i64 0, .int .i64 0, .int .i64 0, .int .i64 0, .int .i64 0, .int .i64 0, .int .i64 0, .int .i64 0, .slice none 0 0, .slice none 0 0, .slice none 0 0, .slice none 0 0, .slice none 0 0, .slice none 0 0] hR0 blkInfo rfl (by simp [Value.oneCell']) ?_)
      | go_in)
    intro wz hRz hgz
    have hbz := HBL.out.grown hgz HBL.out.size (fun j hj => by injection hj with hj; omega)
    go_wp2
    refine bodyPost_ret (results_cell3 rfl _ _ (w.heap.size + 1) 33 #[.int .i64 0, .int .i64 0, .int .i64 0, .int .i64 0, .int .i64 0, .int .i64 0, .int .i64 0, .int .i64 0, .int .i64 0, .int .i64 0, .int .i64 0, .int .i64 0, .slice none 0 0, .slice none 0 0, .slice none 0 0, .slice none 0 0, .slice none 0 0, .slice none 0 0] (0, 0) _ rfl hRz Try.underlying33 rfl blkInfo) rfl ⟨hbz, .inl ⟨HN.out, rfl⟩⟩
  by_cases h2 : (65535 : Int) < p
  · clear hr hz
    have HN := Lib.hid (show fnd zs (a : Int) p s1 s2 z o tol = none from by unfold fnd; rw [if_pos (.inr (.inr Hm))])
    have HBL := Lib.hid hb0
    go_wp2_with (first
      | (refine wpList_store_box rfl 33 _ _ rfl (w.heap.size + 1) #[.int .i64 0, .int .i64 0, .int .i64 0, .int .i64 0, .int .i64 0, .int .i64 0, .int .i64 0, .int .i64 0, .int .i64 0, .int .i64 0, .int .i64 0, .int .i64 0, .slice none 0 0, .slice none 0 0, .slice none 0 0, .slice none 0 0, .slice none 0 0, .slice none 0 0] rfl rfl 33 #[.int .i64 0, .int .i64 0, .int .i64 0, .int .i64 0, .int .i64 0, .int .i64 0, .int .i64 0, .int .i64 0, .int .i64 0, .int .i64 0, .int .i64 0, .int .i64 0, .slice none 0 0, .slice none 0 0, .slice none 0 0, .slice none 0 0, .slice none 0 0, .slice none 0 0] hR0 blkInfo rfl (by simp [Value.oneCell']) ?_)
      | go_in)
    intro wz hRz hgz
    have hbz := HBL.out.grown hgz HBL.out.size (fun j hj => by injection hj with hj; omega)
    go_wp2
    refine bodyPost_ret (results_cell3 rfl _ _ (w.heap.size + 1) 33 #[.int .i64 0, .int .i64 0, .int .i64 0, .int .i64 0, .int .i64 0, .int .i64 0, .int .i64 0, .int .i64 0, .int .i64 0, .int .i64 0, .int .i64 0, .int .i64 0, .slice none 0 0, .slice none 0 0, .slice none 0 0, .slice none 0 0, .slice none 0 0, .slice none 0 0] (0, 0) _ rfl hRz Try.underlying33 rfl blkInfo) rfl ⟨hbz, .inl ⟨HN.out, rfl⟩⟩
  have pN0 : ¬ p < 0 := h1
  have pN1 : ¬ (65535 : Int) < p := h2
  clear h1 h2
  by_cases h1 : s1 < 0
  · clear hr hz
    have HN := Lib.hid (show fnd zs (a : Int) p s1 s2 z o tol = none from by unfold fnd; rw [if_pos (.inr (.inr Hm))])
    have HBL := Lib.hid hb0
    go_wp2_with (first
      | (refine wpList_store_box rfl 33 _ _ rfl (w.heap.size + 1) #[.int .i64 0, .int .i64 0, .int .i64 0, .int .i64 0, .int .i64 0, .int .i64 0, .int .i64 0, .int .i64 0, .int .i64 0, .int .i64 0, .int .i64 0, .int .i64 0, .slice none 0 0, .slice none 0 0, .slice none 0 0, .slice none 0 0, .slice none 0 0, .slice none 0 0] rfl rfl 33 #[.int .i64 0, .int .i64 0, .int .i64 0, .int .i64 0, .int .i64 0, .int .i64 0, .int .i64 0, .int .i64 0, .int .i64 0, .int .i64 0, .int .i64 0, .int .i64 0, .slice none 0 0, .slice none 0 0, .slice none 0 0, .slice none 0 0, .slice none 0 0, .slice none 0 0] hR0 blkInfo rfl (by simp [Value.oneCell']) ?_)
      | go_in)
    intro wz hRz hgz
    have hbz := HBL.out.grown hgz HBL.out.size (fun j hj => by injection hj with hj; omega)
    go_wp2
    refine bodyPost_ret (results_cell3 rfl _ _ (w.heap.size + 1) 33 #[.int .i64 0, .int .i64 0, .int .i64 0, .int .i64 0, .int .i64 0, .int .i64 0, .int .i64 0, .int .i64 0, .int .i64 0, .int .i64 0, .int .i64 0, .int .i64 0, .slice none 0 0, .slice none 0 0, .slice none 0 0, .slice none 0 0, .slice none 0 0, .slice none 0 0] (0, 0) _ rfl hRz Try.underlying33 rfl blkInfo) rfl ⟨hbz, .inl ⟨HN.out, rfl⟩⟩
  by_cases h2 : (65535 : Int) < s1
  · clear hr hz
    have HN := Lib.hid (show fnd zs (a : Int) p s1 s2 z o tol = none from by unfold fnd; rw [if_pos (.inr (.inr Hm))])
    have HBL := Lib.hid hb0
    go_wp2_with (first
      | (refine wpList_store_box rfl 33 _ _ rfl (w.heap.size + 1) #[.int .i64 0, .int .i64 0, .int .i64 0, .int .i64 0, .int .i64 0, .int .i64 0, .int .i64 0, .int .i64 0, .int .i64 0, .int .i64 0, .int .i64 0, .int .i64 0, .slice none 0 0, .slice none 0 0, .slice none 0 0, .slice none 0 0, .slice none 0 0, .slice none 0 0] rfl rfl 33 #[.int .i64 0, .int .i64 0, .int .i64 0, .int .i64 0, .int .i64 0, .int .i64 0, .int .i64 0, .int .i64 0, .int .i64 0, .int .i64 0, .int .i64 0, .int .i64 0, .slice none 0 0, .slice none 0 0, .slice none 0 0, .slice none 0 0, .slice none 0 0, .slice none 0 0] hR0 blkInfo rfl (by simp [Value.oneCell']) ?_)
      | go_in)
    intro wz hRz hgz
    have hbz := HBL.out.grown hgz HBL.out.size (fun j hj => by injection hj with hj; omega)
    go_wp2
    refine bodyPost_ret (results_cell3 rfl _ _ (w.heap.size + 1) 33 #[.int .i64 0, .int .i64 0, .int .i64 0, .int .i64 0, .int .i64 0, .int .i64 0, .int .i64 0, .int .i64 0, .int .i64 0, .int .i64 0, .int .i64 0, .int .i64 0, .slice none 0 0, .slice none 0 0, .slice none 0 0, .slice none 0 0, .slice none 0 0, .slice none 0 0] (0, 0) _ rfl hRz Try.underlying33 rfl blkInfo) rfl ⟨hbz, .inl ⟨HN.out, rfl⟩⟩
  have s1N0 : ¬ s1 < 0 := h1
  have s1N1 : ¬ (65535 : Int) < s1 := h2
  clear h1 h2
  by_cases h1 : s2 < 0
  · clear hr hz
    have HN := Lib.hid (show fnd zs (a : Int) p s1 s2 z o tol = none from by unfold fnd; rw [if_pos (.inr (.inr Hm))])
    have HBL := Lib.hid hb0
    go_wp2_with (first
      | (refine wpList_store_box rfl 33 _ _ rfl (w.heap.size + 1) #[.int .i64 0, .int .i64 0, .int .i64 0, .int .i64 0, .int .i64 0, .int .i64 0, .int .i64 0, .int .i64 0, .int .i64 0, .int .i64 0, .int .i64 0, .int .i64 0, .slice none 0 0, .slice none 0 0, .slice none 0 0, .slice none 0 0, .slice none 0 0, .slice none 0 0] rfl rfl 33 #[.int .i64 0, .int .i64 0, .int .i64 0, .int .i64 0, .int .i64 0, .int .i64 0, .int .i64 0, .int .i64 0, .int .i64 0, .int .i64 0, .int .i64 0, .int .i64 0, .slice none 0 0, .slice none 0 0, .slice none 0 0, .slice none 0 0, .slice none 0 0, .slice none 0 0] hR0 blkInfo rfl (by simp [Value.oneCell']) ?_)
      | go_in)
    intro wz hRz hgz
    have hbz := HBL.out.grown hgz HBL.out.size (fun j hj => by injection hj with hj; omega)
    go_wp2
    refine bodyPost_ret (results_cell3 rfl _ _ (w.heap.size + 1) 33 #[.int .i64 0, .int .i64 0, .int .i64 0, .int .i64 0, .int .i64 0, .int .i64 0, .int .i64 0, .int .i64 0, .int .i64 0, .int .i64 0, .int .i64 0, .int .i64 0, .slice none 0 0, .slice none 0 0, .slice none 0 0, .slice none 0 0, .slice none 0 0, .slice none 0 0] (0, 0) _ rfl hRz Try.underlying33 rfl blkInfo) rfl ⟨hbz, .inl ⟨HN.out, rfl⟩⟩
  by_cases h2 : (65535 : Int) < s2
  · clear hr hz
    have HN := Lib.hid (show fnd zs (a : Int) p s1 s2 z o tol = none from by unfold fnd; rw [if_pos (.inr (.inr Hm))])
    have HBL := Lib.hid hb0
    go_wp2_with (first
      | (refine wpList_store_box rfl 33 _ _ rfl (w.heap.size + 1) #[.int .i64 0, .int .i64 0, .int .i64 0, .int .i64 0, .int .i64 0, .int .i64 0, .int .i64 0, .int .i64 0, .int .i64 0, .int .i64 0, .int .i64 0, .int .i64 0, .slice none 0 0, .slice none 0 0, .slice none 0 0, .slice none 0 0, .slice none 0 0, .slice none 0 0] rfl rfl 33 #[.int .i64 0, .int .i64 0, .int .i64 0, .int .i64 0, .int .i64 0, .int .i64 0, .int .i64 0, .int .i64 0, .int .i64 0, .int .i64 0, .int .i64 0, .int .i64 0, .slice none 0 0, .slice none 0 0, .slice none 0 0, .slice none 0 0, .slice none 0 0, .slice none 0 0] hR0 blkInfo rfl (by simp [Value.oneCell']) ?_)
      | go_in)
    intro wz hRz hgz
    have hbz := HBL.out.grown hgz HBL.out.size (fun j hj => by injection hj with hj; omega)
    go_wp2
    refine bodyPost_ret (results_cell3 rfl _ _ (w.heap.size + 1) 33 #[.int .i64 0, .int .i64 0, .int .i64 0, .int .i64 0, .int .i64 0, .int .i64 0, .int .i64 0, .int .i64 0, .int .i64 0, .int .i64 0, .int .i64 0, .int .i64 0, .slice none 0 0, .slice none 0 0, .slice none 0 0, .slice none 0 0, .slice none 0 0, .slice none 0 0] (0, 0) _ rfl hRz Try.underlying33 rfl blkInfo) rfl ⟨hbz, .inl ⟨HN.out, rfl⟩⟩
  have s2N0 : ¬ s2 < 0 := h1
  have s2N1 : ¬ (65535 : Int) < s2 := h2
  clear h1 h2
  by_cases h1 : z < 0
  · clear hr hz
    have HN := Lib.hid (show fnd zs (a : Int) p s1 s2 z o tol = none from by unfold fnd; rw [if_pos (.inr (.inr Hm))])
    have HBL := Lib.hid hb0
    go_wp2_with (first
      | (refine wpList_store_box rfl 33 _ _ rfl (w.heap.size + 1) #[.int .i64 0, .int .i64 0, .int .i64 0, .int .i64 0, .int .i64 0, .int .i64 0, .int .i64 0, .int .i64 0, .int .i64 0, .int .i64 0, .int .i64 0, .int .i64 0, .slice none 0 0, .slice none 0 0, .slice none 0 0, .slice none 0 0, .slice none 0 0, .slice none 0 0] rfl rfl 33 #[.int .i64 0, .int .i64 0, .int .i64 0, .int .i64 0, .int .i64 0, .int .i64 0, .int .i64 0, .int .i64 0, .int .i64 0, .int .i64 0, .int .i64 0, .int .i64 0, .slice none 0 0, .slice none 0 0, .slice none 0 0, .slice none 0 0, .slice none 0 0, .slice none 0 0] hR0 blkInfo rfl (by simp [Value.oneCell']) ?_)
      | go_in)
    intro wz hRz hgz
    have hbz := HBL.out.grown hgz HBL.out.size (fun j hj => by injection hj with hj; omega)
    go_wp2
    refine bodyPost_ret (results_cell3 rfl _ _ (w.heap.size + 1) 33 #[.int .i64 0, .int .i64 0, .int .i64 0, .int .i64 0, .int .i64 0, .int .i64 0, .int .i64 0, .int .i64 0, .int .i64 0, .int .i64 0, .int .i64 0, .int .i64 0, .slice none 0 0, .slice none 0 0, .slice none 0 0, .slice none 0 0, .slice none 0 0, .slice none 0 0] (0, 0) _ rfl hRz Try.underlying33 rfl blkInfo) rfl ⟨hbz, .inl ⟨HN.out, rfl⟩⟩
  by_cases h2 : (65535 : Int) < z
  · clear hr hz
    have HN := Lib.hid (show fnd zs (a : Int) p s1 s2 z o tol = none from by unfold fnd; rw [if_pos (.inr (.inr Hm))])
    have HBL := Lib.hid hb0
    go_wp2_with (first
      | (refine wpList_store_box rfl 33 _ _ rfl (w.heap.size + 1) #[.int .i64 0, .int .i64 0, .int .i64 0, .int .i64 0, .int .i64 0, .int .i64 0, .int .i64 0, .int .i64 0, .int .i64 0, .int .i64 0, .int .i64 0, .int .i64 0, .slice none 0 0, .slice none 0 0, .slice none 0 0, .slice none 0 0, .slice none 0 0, .slice none 0 0] rfl rfl 33 #[.int .i64 0, .int .i64 0, .int .i64 0, .int .i64 0, .int .i64 0, .int .i64 0, .int .i64 0, .int .i64 0, .int .i64 0, .int .i64 0, .int .i64 0, .int .i64 0, .slice none 0 0, .slice none 0 0, .slice none 0 0, .slice none 0 0, .slice none 0 0, .slice none 0 0] hR0 blkInfo rfl (by simp [Value.oneCell']) ?_)
      | go_in)
    intro wz hRz hgz
    have hbz := HBL.out.grown hgz HBL.out.size (fun j hj => by injection hj with hj; omega)
    go_wp2
    refine bodyPost_ret (results_cell3 rfl _ _ (w.heap.size + 1) 33 #[.int .i64 0, .int .i64 0, .int .i64 0, .int .i64 0, .int .i64 0, .int .i64 0, .int .i64 0, .int .i64 0, .int .i64 0, .int .i64 0, .int .i64 0, .int .i64 0, .slice none 0 0, .slice none 0 0, .slice none 0 0, .slice none 0 0, .slice none 0 0, .slice none 0 0] (0, 0) _ rfl hRz Try.underlying33 rfl blkInfo) rfl ⟨hbz, .inl ⟨HN.out, rfl⟩⟩
  have zN0 : ¬ z < 0 := h1
  have zN1 : ¬ (65535 : Int) < z := h2
  clear h1 h2
  by_cases h1 : o < 0
  · clear hr hz
    have HN := Lib.hid (show fnd zs (a : Int) p s1 s2 z o tol = none from by unfold fnd; rw [if_pos (.inr (.inr Hm))])
    have HBL := Lib.hid hb0
    go_wp2_with (first
      | (refine wpList_store_box rfl 33 _ _ rfl (w.heap.size + 1) #[.int .i64 0, .int .i64 0, .int .i64 0, .int .i64 0, .int .i64 0, .int .i64 0, .int .i64 0, .int .i64 0, .int .i64 0, .int .i64 0, .int .i64 0, .int .i64 0, .slice none 0 0, .slice none 0 0, .slice none 0 0, .slice none 0 0, .slice none 0 0, .slice none 0 0] rfl rfl 33 #[.int .i64 0, .int .i64 0, .int .i64 0, .int .i64 0, .int .i64 0, .int .i64 0, .int .i64 0, .int .i64 0, .int .i64 0, .int .i64 0, .int .i64 0, .int .i64 0, .slice none 0 0, .slice none 0 0, .slice none 0 0, .slice none 0 0, .slice none 0 0, .slice none 0 0] hR0 blkInfo rfl (by simp [Value.oneCell']) ?_)
      | go_in)
    intro wz hRz hgz
    have hbz := HBL.out.grown hgz HBL.out.size (fun j hj => by injection hj with hj; omega)
    go_wp2
    refine bodyPost_ret (results_cell3 rfl _ _ (w.heap.size + 1) 33 #[.int .i64 0, .int .i64 0, .int .i64 0, .int .i64 0, .int .i64 0, .int .i64 0, .int .i64 0, .int .i64 0, .int .i64 0, .int .i64 0, .int .i64 0, .int .i64 0, .slice none 0 0, .slice none 0 0, .slice none 0 0, .slice none 0 0, .slice none 0 0, .slice none 0 0] (0, 0) _ rfl hRz Try.underlying33 rfl blkInfo) rfl ⟨hbz, .inl ⟨HN.out, rfl⟩⟩
  by_cases h2 : (65535 : Int) < o
  · clear hr hz
    have HN := Lib.hid (show fnd zs (a : Int) p s1 s2 z o tol = none from by unfold fnd; rw [if_pos (.inr (.inr Hm))])
    have HBL := Lib.hid hb0
    go_wp2_with (first
      | (refine wpList_store_box rfl 33 _ _ rfl (w.heap.size + 1) #[.int .i64 0, .int .i64 0, .int .i64 0, .int .i64 0, .int .i64 0, .int .i64 0, .int .i64 0, .int .i64 0, .int .i64 0, .int .i64 0, .int .i64 0, .int .i64 0, .slice none 0 0, .slice none 0 0, .slice none 0 0, .slice none 0 0, .slice none 0 0, .slice none 0 0] rfl rfl 33 #[.int .i64 0, .int .i64 0, .int .i64 0, .int .i64 0, .int .i64 0, .int .i64 0, .int .i64 0, .int .i64 0, .int .i64 0, .int .i64 0, .int .i64 0, .int .i64 0, .slice none 0 0, .slice none 0 0, .slice none 0 0, .slice none 0 0, .slice none 0 0, .slice none 0 0] hR0 blkInfo rfl (by simp [Value.oneCell']) ?_)
      | go_in)
    intro wz hRz hgz
    have hbz := HBL.out.grown hgz HBL.out.size (fun j hj => by injection hj with hj; omega)
    go_wp2
    refine bodyPost_ret (results_cell3 rfl _ _ (w.heap.size + 1) 33 #[.int .i64 0, .int .i64 0, .int .i64 0, .int .i64 0, .int .i64 0, .int .i64 0, .int .i64 0, .int .i64 0, .int .i64 0, .int .i64 0, .int .i64 0, .int .i64 0, .slice none 0 0, .slice none 0 0, .slice none 0 0, .slice none 0 0, .slice none 0 0, .slice none 0 0] (0, 0) _ rfl hRz Try.underlying33 rfl blkInfo) rfl ⟨hbz, .inl ⟨HN.out, rfl⟩⟩
  have oN0 : ¬ o < 0 := h1
  have oN1 : ¬ (65535 : Int) < o := h2
  clear h1 h2
  exfalso
  have : mayB p s1 s2 z o tol = true := by unfold mayB inR; simp; omega
  rw [this] at Hm
  cases Hm

end Go.Proofs.Ytckgmnlmimogjaa
