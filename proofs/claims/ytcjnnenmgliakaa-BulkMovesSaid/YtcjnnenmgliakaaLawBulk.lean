/- The laws of layer 5, walked: BulkPorts, BulkAgain, BulkMoves, BulkKeeps: each returns true and writes nothing that was there. -/
import Derived.Test.YtcjnnenmgliakaaBulk
import Derived.Test.YtcjnnenmgliakaaR05b
import Derived.OpenShut
namespace Go.Proofs.Ytcjnnenmgliakaa
open Go.RowKit

theorem keepIn {W a b : World} {g : Nat} {x0 x1 x2 x3 x4 x5 x6 : Value} (h : Below W.heap.size W a ∧ g < a.heap.size ∧ a.cell? ⟨g, 0, none⟩ = some x0 ∧ a.cell? ⟨g, 1, none⟩ = some x1 ∧ a.cell? ⟨g, 2, none⟩ = some x2 ∧ a.cell? ⟨g, 3, none⟩ = some x3 ∧ a.cell? ⟨g, 4, none⟩ = some x4 ∧ a.cell? ⟨g, 5, none⟩ = some x5 ∧ a.cell? ⟨g, 6, none⟩ = some x6) (k : Below a.heap.size a b) : Below W.heap.size W b ∧ g < b.heap.size ∧ b.cell? ⟨g, 0, none⟩ = some x0 ∧ b.cell? ⟨g, 1, none⟩ = some x1 ∧ b.cell? ⟨g, 2, none⟩ = some x2 ∧ b.cell? ⟨g, 3, none⟩ = some x3 ∧ b.cell? ⟨g, 4, none⟩ = some x4 ∧ b.cell? ⟨g, 5, none⟩ = some x5 ∧ b.cell? ⟨g, 6, none⟩ = some x6 := by
  obtain ⟨hB, z, c0, c1, c2, c3, c4, c5, c6⟩ := h
  exact ⟨bthen hB k, Nat.lt_of_lt_of_le z k.size, (k.cell (p := ⟨g, 0, none⟩) z).trans c0, (k.cell (p := ⟨g, 1, none⟩) z).trans c1, (k.cell (p := ⟨g, 2, none⟩) z).trans c2, (k.cell (p := ⟨g, 3, none⟩) z).trans c3, (k.cell (p := ⟨g, 4, none⟩) z).trans c4, (k.cell (p := ⟨g, 5, none⟩) z).trans c5, (k.cell (p := ⟨g, 6, none⟩) z).trans c6⟩
theorem startIn (w : World) (x0 x1 x2 x3 x4 x5 x6 : Value) (t : TypeId) : Below w.heap.size w (w.alloc (.cells #[x0, x1, x2, x3, x4, x5, x6] t)).drew ∧ w.heap.size < (w.alloc (.cells #[x0, x1, x2, x3, x4, x5, x6] t)).drew.heap.size ∧ (w.alloc (.cells #[x0, x1, x2, x3, x4, x5, x6] t)).drew.cell? ⟨w.heap.size, 0, none⟩ = some x0 ∧ (w.alloc (.cells #[x0, x1, x2, x3, x4, x5, x6] t)).drew.cell? ⟨w.heap.size, 1, none⟩ = some x1 ∧ (w.alloc (.cells #[x0, x1, x2, x3, x4, x5, x6] t)).drew.cell? ⟨w.heap.size, 2, none⟩ = some x2 ∧ (w.alloc (.cells #[x0, x1, x2, x3, x4, x5, x6] t)).drew.cell? ⟨w.heap.size, 3, none⟩ = some x3 ∧ (w.alloc (.cells #[x0, x1, x2, x3, x4, x5, x6] t)).drew.cell? ⟨w.heap.size, 4, none⟩ = some x4 ∧ (w.alloc (.cells #[x0, x1, x2, x3, x4, x5, x6] t)).drew.cell? ⟨w.heap.size, 5, none⟩ = some x5 ∧ (w.alloc (.cells #[x0, x1, x2, x3, x4, x5, x6] t)).drew.cell? ⟨w.heap.size, 6, none⟩ = some x6 := by
  refine ⟨((Below.refl _ _).alloc (Nat.le_refl _) _).drew, by simp, ?_, ?_, ?_, ?_, ?_, ?_, ?_⟩
  all_goals (show (w.alloc _).cell? _ = _; rw [World.cell?_alloc_at _ _ _ _ rfl]; rfl)
theorem drewIn {W a : World} {g : Nat} {x0 x1 x2 x3 x4 x5 x6 : Value} (h : Below W.heap.size W a ∧ g < a.heap.size ∧ a.cell? ⟨g, 0, none⟩ = some x0 ∧ a.cell? ⟨g, 1, none⟩ = some x1 ∧ a.cell? ⟨g, 2, none⟩ = some x2 ∧ a.cell? ⟨g, 3, none⟩ = some x3 ∧ a.cell? ⟨g, 4, none⟩ = some x4 ∧ a.cell? ⟨g, 5, none⟩ = some x5 ∧ a.cell? ⟨g, 6, none⟩ = some x6) : Below W.heap.size W a.drew ∧ g < a.drew.heap.size ∧ a.drew.cell? ⟨g, 0, none⟩ = some x0 ∧ a.drew.cell? ⟨g, 1, none⟩ = some x1 ∧ a.drew.cell? ⟨g, 2, none⟩ = some x2 ∧ a.drew.cell? ⟨g, 3, none⟩ = some x3 ∧ a.drew.cell? ⟨g, 4, none⟩ = some x4 ∧ a.drew.cell? ⟨g, 5, none⟩ = some x5 ∧ a.drew.cell? ⟨g, 6, none⟩ = some x6 := ⟨h.1.drew, h.2⟩

theorem copy_live : copyF 0 2 1 1 = 37 := by decide +kernel
theorem lives05 (w : World) :
    Calls Try.prog 20 #[] w fun e w' => e = .returned (.bool true) ∧ w = w' := by
  go_enter Try.func20, Try.ntmps20
  go_wp2_with fail
  refine (copy_any _ _ _ _ _ (by omega) (by omega) (by omega) (by omega) (by omega) (by omega) (by omega) (by omega)).mono ?_
  rintro e w' ⟨rfl, rfl⟩
  rw [copy_live]
  go_wp2
  go_ret
  exact ⟨rfl, rfl⟩

set_option maxHeartbeats 4000000 in
theorem bulkPorts_walk (a v k b f bc pc : Int) (w : World) (a0 : 0 ≤ a) (a1 : a ≤ 255) (v0 : 0 ≤ v) (v1 : v ≤ 255) (k0 : 0 ≤ k) (k1 : k ≤ 255) (b0 : 0 ≤ b) (b1 : b ≤ 255) (f0 : 0 ≤ f) (f1 : f ≤ 255) (bc0 : 0 ≤ bc) (bc1 : bc ≤ 65535) (pc0 : 0 ≤ pc) (pc1 : pc ≤ 65535) :
    Calls Try.prog 5 #[.agg #[.int .u8 a, .int .u8 v, .int .u8 k, .int .u8 b, .int .u8 f, .int .u16 bc, .int .u16 pc]] w fun e w' => e = .returned (.bool true) ∧ Below w.heap.size w w' := by
  go_enter Try.func5, Try.ntmps5
  go_wp2_with fail
  go_region_held3 (fun w' => Below w.heap.size w w' ∧ w.heap.size < w'.heap.size ∧ w'.cell? ⟨w.heap.size, 0, none⟩ = some (.int .u8 a) ∧ w'.cell? ⟨w.heap.size, 1, none⟩ = some (.int .u8 v) ∧ w'.cell? ⟨w.heap.size, 2, none⟩ = some (.int .u8 k) ∧ w'.cell? ⟨w.heap.size, 3, none⟩ = some (.int .u8 b) ∧ w'.cell? ⟨w.heap.size, 4, none⟩ = some (.int .u8 f) ∧ w'.cell? ⟨w.heap.size, 5, none⟩ = some (.int .u16 bc) ∧ w'.cell? ⟨w.heap.size, 6, none⟩ = some (.int .u16 pc))
    (first | exact startIn _ _ _ _ _ _ _ _ _ | exact keepIn (by assumption) hbB | assumption)
    (first
      | (go_at_call 18; refine (port_any _ _ _ _ v0 v1 k0 k1 b0 b1).mono ?_; rintro e wq ⟨rfl, rfl⟩)
      | (go_at_call 19; refine (portR_any _ _ _ _ v0 v1 k0 k1 b0 b1).mono ?_; rintro e wB ⟨rfl, hbB⟩)
      | (go_at_call 20; refine (lives05 _).mono ?_; rintro e wq ⟨rfl, rfl⟩))
  all_goals
    rename_i hH
    go_wp2
    go_ret
    exact ⟨rfl, hH.1⟩

set_option maxHeartbeats 4000000 in
theorem bulkAgain_walk (a v k b f bc pc : Int) (w : World) (a0 : 0 ≤ a) (a1 : a ≤ 255) (v0 : 0 ≤ v) (v1 : v ≤ 255) (k0 : 0 ≤ k) (k1 : k ≤ 255) (b0 : 0 ≤ b) (b1 : b ≤ 255) (f0 : 0 ≤ f) (f1 : f ≤ 255) (bc0 : 0 ≤ bc) (bc1 : bc ≤ 65535) (pc0 : 0 ≤ pc) (pc1 : pc ≤ 65535) :
    Calls Try.prog 6 #[.agg #[.int .u8 a, .int .u8 v, .int .u8 k, .int .u8 b, .int .u8 f, .int .u16 bc, .int .u16 pc]] w fun e w' => e = .returned (.bool true) ∧ Below w.heap.size w w' := by
  go_enter Try.func6, Try.ntmps6
  go_wp2_with fail
  go_region_held3 (fun w' => Below w.heap.size w w' ∧ w.heap.size < w'.heap.size ∧ w'.cell? ⟨w.heap.size, 0, none⟩ = some (.int .u8 a) ∧ w'.cell? ⟨w.heap.size, 1, none⟩ = some (.int .u8 v) ∧ w'.cell? ⟨w.heap.size, 2, none⟩ = some (.int .u8 k) ∧ w'.cell? ⟨w.heap.size, 3, none⟩ = some (.int .u8 b) ∧ w'.cell? ⟨w.heap.size, 4, none⟩ = some (.int .u8 f) ∧ w'.cell? ⟨w.heap.size, 5, none⟩ = some (.int .u16 bc) ∧ w'.cell? ⟨w.heap.size, 6, none⟩ = some (.int .u16 pc))
    (first | exact startIn _ _ _ _ _ _ _ _ _ | exact keepIn (by assumption) hbB | assumption)
    (first
      | (go_at_call 21; refine (again_any _ _ _ f0 f1 pc0 pc1).mono ?_; rintro e wq ⟨rfl, rfl⟩)
      | (go_at_call 22; refine (againR_any _ _ _ f0 f1 pc0 pc1).mono ?_; rintro e wB ⟨rfl, hbB⟩)
      | (go_at_call 23; refine (portAgain_any _ _ _ _ _ f0 f1 v0 v1 b0 b1 pc0 pc1).mono ?_; rintro e wq ⟨rfl, rfl⟩)
      | (go_at_call 24; refine (portAgainR_any _ _ _ _ _ f0 f1 v0 v1 b0 b1 pc0 pc1).mono ?_; rintro e wB ⟨rfl, hbB⟩)
      | (go_at_call 20; refine (lives05 _).mono ?_; rintro e wq ⟨rfl, rfl⟩))
  all_goals
    rename_i hH
    go_wp2
    go_ret
    exact ⟨rfl, hH.1⟩

set_option maxHeartbeats 4000000 in
theorem bulkMoves_walk (a v k b f bc pc : Int) (w : World) (a0 : 0 ≤ a) (a1 : a ≤ 255) (v0 : 0 ≤ v) (v1 : v ≤ 255) (k0 : 0 ≤ k) (k1 : k ≤ 255) (b0 : 0 ≤ b) (b1 : b ≤ 255) (f0 : 0 ≤ f) (f1 : f ≤ 255) (bc0 : 0 ≤ bc) (bc1 : bc ≤ 65535) (pc0 : 0 ≤ pc) (pc1 : pc ≤ 65535) :
    Calls Try.prog 10 #[.agg #[.int .u8 a, .int .u8 v, .int .u8 k, .int .u8 b, .int .u8 f, .int .u16 bc, .int .u16 pc]] w fun e w' => e = .returned (.bool true) ∧ Below w.heap.size w w' := by
  go_enter Try.func10, Try.ntmps10
  go_wp2_with fail
  go_region_held3 (fun w' => Below w.heap.size w w' ∧ w.heap.size < w'.heap.size ∧ w'.cell? ⟨w.heap.size, 0, none⟩ = some (.int .u8 a) ∧ w'.cell? ⟨w.heap.size, 1, none⟩ = some (.int .u8 v) ∧ w'.cell? ⟨w.heap.size, 2, none⟩ = some (.int .u8 k) ∧ w'.cell? ⟨w.heap.size, 3, none⟩ = some (.int .u8 b) ∧ w'.cell? ⟨w.heap.size, 4, none⟩ = some (.int .u8 f) ∧ w'.cell? ⟨w.heap.size, 5, none⟩ = some (.int .u16 bc) ∧ w'.cell? ⟨w.heap.size, 6, none⟩ = some (.int .u16 pc))
    (first | exact startIn _ _ _ _ _ _ _ _ _ | exact keepIn (by assumption) hbB | assumption)
    (first
      | (go_at_call 30; refine (copy_any _ _ _ _ _ a0 a1 v0 v1 bc0 bc1 f0 f1).mono ?_; rintro e wq ⟨rfl, rfl⟩)
      | (go_at_call 31; refine (copyR_any _ _ _ _ _ a0 a1 v0 v1 bc0 bc1 f0 f1).mono ?_; rintro e wB ⟨rfl, hbB⟩)
      | (go_at_call 32; refine (find_any _ _ _ _ _ a0 a1 v0 v1 bc0 bc1 f0 f1).mono ?_; rintro e wB ⟨rfl, hbB⟩)
      | (go_at_call 33; refine (findR_any _ _ _ _ _ a0 a1 v0 v1 bc0 bc1 f0 f1).mono ?_; rintro e wB ⟨rfl, hbB⟩)
      | (go_at_call 20; refine (lives05 _).mono ?_; rintro e wq ⟨rfl, rfl⟩))
  all_goals
    rename_i hH
    go_wp2
    go_ret
    exact ⟨rfl, hH.1⟩

end Go.Proofs.Ytcjnnenmgliakaa
