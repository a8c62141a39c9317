/- The law BulkKeeps walked: C stays, Z tells whether the byte was found; what goes on keeps S, Z, N and C. -/
import Derived.Test.YtcjnnenmgliakaaBulk
import Derived.Test.YtcjnnenmgliakaaP05b
import Derived.OpenShut
import Derived.BigQuiet
import Derived.Deep.CutRange
namespace Go.Proofs.Ytcjnnenmgliakaa
open Go.RowKit

theorem keepIn' {W a b : World} {g : Nat} {x0 x1 x2 x3 x4 x5 x6 : Value} (h : Below W.heap.size W a ∧ g < a.heap.size ∧ a.cell? ⟨g, 0, none⟩ = some x0 ∧ a.cell? ⟨g, 1, none⟩ = some x1 ∧ a.cell? ⟨g, 2, none⟩ = some x2 ∧ a.cell? ⟨g, 3, none⟩ = some x3 ∧ a.cell? ⟨g, 4, none⟩ = some x4 ∧ a.cell? ⟨g, 5, none⟩ = some x5 ∧ a.cell? ⟨g, 6, none⟩ = some x6) (k : Below a.heap.size a b) : Below W.heap.size W b ∧ g < b.heap.size ∧ b.cell? ⟨g, 0, none⟩ = some x0 ∧ b.cell? ⟨g, 1, none⟩ = some x1 ∧ b.cell? ⟨g, 2, none⟩ = some x2 ∧ b.cell? ⟨g, 3, none⟩ = some x3 ∧ b.cell? ⟨g, 4, none⟩ = some x4 ∧ b.cell? ⟨g, 5, none⟩ = some x5 ∧ b.cell? ⟨g, 6, none⟩ = some x6 := by
  obtain ⟨hB, z, c0, c1, c2, c3, c4, c5, c6⟩ := h
  exact ⟨bthen hB k, Nat.lt_of_lt_of_le z k.size, (k.cell (p := ⟨g, 0, none⟩) z).trans c0, (k.cell (p := ⟨g, 1, none⟩) z).trans c1, (k.cell (p := ⟨g, 2, none⟩) z).trans c2, (k.cell (p := ⟨g, 3, none⟩) z).trans c3, (k.cell (p := ⟨g, 4, none⟩) z).trans c4, (k.cell (p := ⟨g, 5, none⟩) z).trans c5, (k.cell (p := ⟨g, 6, none⟩) z).trans c6⟩
theorem startIn' (w : World) (x0 x1 x2 x3 x4 x5 x6 : Value) (t : TypeId) : Below w.heap.size w (w.alloc (.cells #[x0, x1, x2, x3, x4, x5, x6] t)).drew ∧ w.heap.size < (w.alloc (.cells #[x0, x1, x2, x3, x4, x5, x6] t)).drew.heap.size ∧ (w.alloc (.cells #[x0, x1, x2, x3, x4, x5, x6] t)).drew.cell? ⟨w.heap.size, 0, none⟩ = some x0 ∧ (w.alloc (.cells #[x0, x1, x2, x3, x4, x5, x6] t)).drew.cell? ⟨w.heap.size, 1, none⟩ = some x1 ∧ (w.alloc (.cells #[x0, x1, x2, x3, x4, x5, x6] t)).drew.cell? ⟨w.heap.size, 2, none⟩ = some x2 ∧ (w.alloc (.cells #[x0, x1, x2, x3, x4, x5, x6] t)).drew.cell? ⟨w.heap.size, 3, none⟩ = some x3 ∧ (w.alloc (.cells #[x0, x1, x2, x3, x4, x5, x6] t)).drew.cell? ⟨w.heap.size, 4, none⟩ = some x4 ∧ (w.alloc (.cells #[x0, x1, x2, x3, x4, x5, x6] t)).drew.cell? ⟨w.heap.size, 5, none⟩ = some x5 ∧ (w.alloc (.cells #[x0, x1, x2, x3, x4, x5, x6] t)).drew.cell? ⟨w.heap.size, 6, none⟩ = some x6 := by
  refine ⟨((Below.refl _ _).alloc (Nat.le_refl _) _).drew, by simp, ?_, ?_, ?_, ?_, ?_, ?_, ?_⟩
  all_goals (show (w.alloc _).cell? _ = _; rw [World.cell?_alloc_at _ _ _ _ rfl]; rfl)
theorem drewIn' {W a : World} {g : Nat} {x0 x1 x2 x3 x4 x5 x6 : Value} (h : Below W.heap.size W a ∧ g < a.heap.size ∧ a.cell? ⟨g, 0, none⟩ = some x0 ∧ a.cell? ⟨g, 1, none⟩ = some x1 ∧ a.cell? ⟨g, 2, none⟩ = some x2 ∧ a.cell? ⟨g, 3, none⟩ = some x3 ∧ a.cell? ⟨g, 4, none⟩ = some x4 ∧ a.cell? ⟨g, 5, none⟩ = some x5 ∧ a.cell? ⟨g, 6, none⟩ = some x6) : Below W.heap.size W a.drew ∧ g < a.drew.heap.size ∧ a.drew.cell? ⟨g, 0, none⟩ = some x0 ∧ a.drew.cell? ⟨g, 1, none⟩ = some x1 ∧ a.drew.cell? ⟨g, 2, none⟩ = some x2 ∧ a.drew.cell? ⟨g, 3, none⟩ = some x3 ∧ a.drew.cell? ⟨g, 4, none⟩ = some x4 ∧ a.drew.cell? ⟨g, 5, none⟩ = some x5 ∧ a.drew.cell? ⟨g, 6, none⟩ = some x6 := ⟨h.1.drew, h.2⟩

theorem copy_live' : copyF 0 2 1 1 = 37 := by decide +kernel
theorem lives05' (w : World) :
    Calls Try.prog 20 #[] w fun e w' => e = .returned (.bool true) ∧ w = w' := by
  go_enter Try.func20, Try.ntmps20
  go_wp2_with fail
  refine (copy_any _ _ _ _ _ (by omega) (by omega) (by omega) (by omega) (by omega) (by omega) (by omega) (by omega)).mono ?_
  rintro e w' ⟨rfl, rfl⟩
  rw [copy_live']
  go_wp2
  go_ret
  exact ⟨rfl, rfl⟩

set_option maxHeartbeats 8000000 in
theorem bulkKeeps_walk (a v k b f bc pc : Int) (w : World) (a0 : 0 ≤ a) (a1 : a ≤ 255) (v0 : 0 ≤ v) (v1 : v ≤ 255) (k0 : 0 ≤ k) (k1 : k ≤ 255) (b0 : 0 ≤ b) (b1 : b ≤ 255) (f0 : 0 ≤ f) (f1 : f ≤ 255) (bc0 : 0 ≤ bc) (bc1 : bc ≤ 65535) (pc0 : 0 ≤ pc) (pc1 : pc ≤ 65535) :
    Calls Try.prog 11 #[.agg #[.int .u8 a, .int .u8 v, .int .u8 k, .int .u8 b, .int .u8 f, .int .u16 bc, .int .u16 pc]] w fun e w' => e = .returned (.bool true) ∧ Below w.heap.size w w' := by
  have E1 := Lib.hid (copy_c a v bc f0 f1)
  have E2 := Lib.hid (find_c a v bc f0 f1)
  have E3 := Lib.hid (copy_p a v bc f)
  have E4 := Lib.hid (find_p a v bc f)
  have E5 := Lib.hid (find_z (a := a) (v := v) bc f a0 a1 v0 v1)
  have E6 := Lib.hid (again_kept pc f0 f1)
  have E7 := Lib.hid (portAgain_kept v b pc f0 f1)
  have hs0 : Below w.heap.size w (w.alloc (.cells #[.int .u8 a, .int .u8 v, .int .u8 k, .int .u8 b, .int .u8 f, .int .u16 bc, .int .u16 pc] 30)) ∧ w.heap.size < (w.alloc (.cells #[.int .u8 a, .int .u8 v, .int .u8 k, .int .u8 b, .int .u8 f, .int .u16 bc, .int .u16 pc] 30)).heap.size ∧ (w.alloc (.cells #[.int .u8 a, .int .u8 v, .int .u8 k, .int .u8 b, .int .u8 f, .int .u16 bc, .int .u16 pc] 30)).cell? ⟨w.heap.size, 0, none⟩ = some (.int .u8 a) ∧ (w.alloc (.cells #[.int .u8 a, .int .u8 v, .int .u8 k, .int .u8 b, .int .u8 f, .int .u16 bc, .int .u16 pc] 30)).cell? ⟨w.heap.size, 1, none⟩ = some (.int .u8 v) ∧ (w.alloc (.cells #[.int .u8 a, .int .u8 v, .int .u8 k, .int .u8 b, .int .u8 f, .int .u16 bc, .int .u16 pc] 30)).cell? ⟨w.heap.size, 2, none⟩ = some (.int .u8 k) ∧ (w.alloc (.cells #[.int .u8 a, .int .u8 v, .int .u8 k, .int .u8 b, .int .u8 f, .int .u16 bc, .int .u16 pc] 30)).cell? ⟨w.heap.size, 3, none⟩ = some (.int .u8 b) ∧ (w.alloc (.cells #[.int .u8 a, .int .u8 v, .int .u8 k, .int .u8 b, .int .u8 f, .int .u16 bc, .int .u16 pc] 30)).cell? ⟨w.heap.size, 4, none⟩ = some (.int .u8 f) ∧ (w.alloc (.cells #[.int .u8 a, .int .u8 v, .int .u8 k, .int .u8 b, .int .u8 f, .int .u16 bc, .int .u16 pc] 30)).cell? ⟨w.heap.size, 5, none⟩ = some (.int .u16 bc) ∧ (w.alloc (.cells #[.int .u8 a, .int .u8 v, .int .u8 k, .int .u8 b, .int .u8 f, .int .u16 bc, .int .u16 pc] 30)).cell? ⟨w.heap.size, 6, none⟩ = some (.int .u16 pc) := by
    refine ⟨(Below.refl _ _).alloc (Nat.le_refl _) _, by simp, ?_, ?_, ?_, ?_, ?_, ?_, ?_⟩
    all_goals (rw [World.cell?_alloc_at _ _ _ _ rfl]; rfl)
  have hC := copy_any a v bc f (w.alloc (.cells #[.int .u8 a, .int .u8 v, .int .u8 k, .int .u8 b, .int .u8 f, .int .u16 bc, .int .u16 pc] 30)) a0 a1 v0 v1 bc0 bc1 f0 f1
  have hF := find_any a v bc f (w.alloc (.cells #[.int .u8 a, .int .u8 v, .int .u8 k, .int .u8 b, .int .u8 f, .int .u16 bc, .int .u16 pc] 30)) a0 a1 v0 v1 bc0 bc1 f0 f1
  have hA := fun w' => again_any f pc w' f0 f1 pc0 pc1
  have hP := fun w' => portAgain_any f v b pc w' f0 f1 v0 v1 b0 b1 pc0 pc1
  generalize copyF a v bc f = CF at *
  generalize findF a v bc f = FF at *
  generalize againF f pc = AF at *
  generalize portAgainF f v b pc = PF at *
  by_cases hav : a = v
  · subst hav
    by_cases hbc : 0 < bc
    · have E3 := Lib.hid (E3.out.trans (if_pos hbc))
      have E4 := Lib.hid (E4.out.trans (if_pos hbc))
      have E5 := Lib.hid (E5.out.trans (if_pos rfl))
      go_enter Try.func11, Try.ntmps11
      go_wp2_with fail
      refine hC.mono ?_
      rintro e wq ⟨rfl, rfl⟩
      go_wp2_with fail
      refine hF.mono ?_
      rintro e w1 ⟨rfl, hb1⟩
      obtain ⟨hB, hz, c0, c1, c2, c3, c4, c5, c6⟩ := keepIn' hs0 hb1
      clear hs0 hb1 hC hF
      have e1 := E1.out
      have e2 := E2.out
      have e3 := E3.out
      have e4 := E4.out
      have e5 := E5.out
      go_upto_region 6 with fail
      clear e1 e2 e3 e4 e5
      have e6 := E6.out
      have e7 := E7.out
      go_quiet (first
        | (go_at_call 21; exact Calls.quiet_of_same (flip (hA _)))
        | (go_at_call 23; exact Calls.quiet_of_same (flip (hP _)))
        | (go_at_call 20; exact Calls.quiet_of_same (flip (lives05' _))))
      go_wp2
      go_ret
      exact ⟨rfl, below_drewN hB _⟩
    · have E3 := Lib.hid (E3.out.trans (if_neg hbc))
      have E4 := Lib.hid (E4.out.trans (if_neg hbc))
      have E5 := Lib.hid (E5.out.trans (if_pos rfl))
      go_enter Try.func11, Try.ntmps11
      go_wp2_with fail
      refine hC.mono ?_
      rintro e wq ⟨rfl, rfl⟩
      go_wp2_with fail
      refine hF.mono ?_
      rintro e w1 ⟨rfl, hb1⟩
      obtain ⟨hB, hz, c0, c1, c2, c3, c4, c5, c6⟩ := keepIn' hs0 hb1
      clear hs0 hb1 hC hF
      have e1 := E1.out
      have e2 := E2.out
      have e3 := E3.out
      have e4 := E4.out
      have e5 := E5.out
      go_upto_region 6 with fail
      clear e1 e2 e3 e4 e5
      have e6 := E6.out
      have e7 := E7.out
      go_quiet (first
        | (go_at_call 21; exact Calls.quiet_of_same (flip (hA _)))
        | (go_at_call 23; exact Calls.quiet_of_same (flip (hP _)))
        | (go_at_call 20; exact Calls.quiet_of_same (flip (lives05' _))))
      go_wp2
      go_ret
      exact ⟨rfl, below_drewN hB _⟩
  · have hav' : (a == v) = false := by simp [hav]
    by_cases hbc : 0 < bc
    · have E3 := Lib.hid (E3.out.trans (if_pos hbc))
      have E4 := Lib.hid (E4.out.trans (if_pos hbc))
      have E5 := Lib.hid (E5.out.trans (if_neg hav))
      go_enter Try.func11, Try.ntmps11
      go_wp2_with fail
      refine hC.mono ?_
      rintro e wq ⟨rfl, rfl⟩
      go_wp2_with fail
      refine hF.mono ?_
      rintro e w1 ⟨rfl, hb1⟩
      obtain ⟨hB, hz, c0, c1, c2, c3, c4, c5, c6⟩ := keepIn' hs0 hb1
      clear hs0 hb1 hC hF
      have e1 := E1.out
      have e2 := E2.out
      have e3 := E3.out
      have e4 := E4.out
      have e5 := E5.out
      go_upto_region 6 with fail
      clear e1 e2 e3 e4 e5
      have e6 := E6.out
      have e7 := E7.out
      go_quiet (first
        | (go_at_call 21; exact Calls.quiet_of_same (flip (hA _)))
        | (go_at_call 23; exact Calls.quiet_of_same (flip (hP _)))
        | (go_at_call 20; exact Calls.quiet_of_same (flip (lives05' _))))
      go_wp2
      go_ret
      exact ⟨rfl, below_drewN hB _⟩
    · have E3 := Lib.hid (E3.out.trans (if_neg hbc))
      have E4 := Lib.hid (E4.out.trans (if_neg hbc))
      have E5 := Lib.hid (E5.out.trans (if_neg hav))
      go_enter Try.func11, Try.ntmps11
      go_wp2_with fail
      refine hC.mono ?_
      rintro e wq ⟨rfl, rfl⟩
      go_wp2_with fail
      refine hF.mono ?_
      rintro e w1 ⟨rfl, hb1⟩
      obtain ⟨hB, hz, c0, c1, c2, c3, c4, c5, c6⟩ := keepIn' hs0 hb1
      clear hs0 hb1 hC hF
      have e1 := E1.out
      have e2 := E2.out
      have e3 := E3.out
      have e4 := E4.out
      have e5 := E5.out
      go_upto_region 6 with fail
      clear e1 e2 e3 e4 e5
      have e6 := E6.out
      have e7 := E7.out
      go_quiet (first
        | (go_at_call 21; exact Calls.quiet_of_same (flip (hA _)))
        | (go_at_call 23; exact Calls.quiet_of_same (flip (hP _)))
        | (go_at_call 20; exact Calls.quiet_of_same (flip (lives05' _))))
      go_wp2
      go_ret
      exact ⟨rfl, below_drewN hB _⟩

end Go.Proofs.Ytcjnnenmgliakaa
