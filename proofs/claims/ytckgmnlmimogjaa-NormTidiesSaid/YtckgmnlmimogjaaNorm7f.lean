/- Contracts of layer 27: squealref27.Find: the walk findR_any. -/
import Derived.Test.YtckgmnlmimogjaaNorm7b
import Derived.Test.YtckgmnlmimogjaaNorm7c
import Derived.Test.YtckgmnlmimogjaaNorm7d
import Derived.Test.YtckgmnlmimogjaaNorm7e
import Derived.Laws.StructEq
import Derived.Deep.RegionHeld3
import Derived.Deep.CutRange
namespace Go.Proofs.Ytckgmnlmimogjaa
open Go.RowKit
set_option linter.unusedVariables false

set_option maxRecDepth 100000 in
set_option maxHeartbeats 2000000 in
theorem findR_any (w : World) (A : Option Addr) (N c : Nat) (zs : List Int) (at_ p s1 s2 z o tol : Int) (hr : Reads w w.heap.size 1 A N (zs.map (Value.int .u32))) (hz : isU32 zs) (hN : N ≤ 5000) :
    Calls Try.prog 10 #[.slice A N c, .int .i64 at_, .agg #[.int .i64 p, .int .i64 s1, .int .i64 s2, .int .i64 z, .int .i64 o], .int .i64 tol] w fun e w' => Below w.heap.size w w' ∧ Found w w' e zs at_ p s1 s2 z o tol := by
  have hl := reads_len hr
  have hb0 : Below w.heap.size w ((w.alloc (.cells #[.int .i64 p, .int .i64 s1, .int .i64 s2, .int .i64 z, .int .i64 o] 25)).alloc (.cells #[.int .i64 0, .int .i64 0, .int .i64 0, .int .i64 0, .int .i64 0, .int .i64 0, .int .i64 0, .int .i64 0, .int .i64 0, .int .i64 0, .int .i64 0, .int .i64 0, .slice none 0 0, .slice none 0 0, .slice none 0 0, .slice none 0 0, .slice none 0 0, .slice none 0 0] 33)) := ((Below.refl _ _).alloc (Nat.le_refl _) _).alloc (by simp) _
  have hT0 : Blk ((w.alloc (.cells #[.int .i64 p, .int .i64 s1, .int .i64 s2, .int .i64 z, .int .i64 o] 25)).alloc (.cells #[.int .i64 0, .int .i64 0, .int .i64 0, .int .i64 0, .int .i64 0, .int .i64 0, .int .i64 0, .int .i64 0, .int .i64 0, .int .i64 0, .int .i64 0, .int .i64 0, .slice none 0 0, .slice none 0 0, .slice none 0 0, .slice none 0 0, .slice none 0 0, .slice none 0 0] 33)) w.heap.size 25 #[.int .i64 p, .int .i64 s1, .int .i64 s2, .int .i64 z, .int .i64 o] := Blk.alloc (Blk.new w _ _) _
  have hR0 : Blk ((w.alloc (.cells #[.int .i64 p, .int .i64 s1, .int .i64 s2, .int .i64 z, .int .i64 o] 25)).alloc (.cells #[.int .i64 0, .int .i64 0, .int .i64 0, .int .i64 0, .int .i64 0, .int .i64 0, .int .i64 0, .int .i64 0, .int .i64 0, .int .i64 0, .int .i64 0, .int .i64 0, .slice none 0 0, .slice none 0 0, .slice none 0 0, .slice none 0 0, .slice none 0 0, .slice none 0 0] 33)) (w.heap.size + 1) 33 #[.int .i64 0, .int .i64 0, .int .i64 0, .int .i64 0, .int .i64 0, .int .i64 0, .int .i64 0, .int .i64 0, .int .i64 0, .int .i64 0, .int .i64 0, .int .i64 0, .slice none 0 0, .slice none 0 0, .slice none 0 0, .slice none 0 0, .slice none 0 0, .slice none 0 0] := by
    have := Blk.new (w.alloc (.cells #[.int .i64 p, .int .i64 s1, .int .i64 s2, .int .i64 z, .int .i64 o] 25)) 33 #[.int .i64 0, .int .i64 0, .int .i64 0, .int .i64 0, .int .i64 0, .int .i64 0, .int .i64 0, .int .i64 0, .int .i64 0, .int .i64 0, .int .i64 0, .int .i64 0, .slice none 0 0, .slice none 0 0, .slice none 0 0, .slice none 0 0, .slice none 0 0, .slice none 0 0]
    simpa using this
  by_cases hneg : at_ < 0
  · have HN := Lib.hid (show fnd zs at_ p s1 s2 z o tol = none by unfold fnd; rw [if_pos (.inl hneg)])
    clear hr hz hT0
    go_enter Try.func10, Try.ntmps10
    go_wp2
    refine bodyPost_ret (results_cell3 rfl _ _ (w.heap.size + 1) 33 blkZ (0, 0) _ rfl hR0 Try.underlying33 rfl blkInfo) rfl ⟨hb0, .inl ⟨HN.out, rfl⟩⟩
  obtain ⟨a, rfl⟩ : ∃ a : Nat, at_ = a := ⟨at_.toNat, by omega⟩
  have ha0 : (0 : Int) ≤ (a : Int) := Int.natCast_nonneg _
  by_cases hge : N ≤ a
  · have HN := Lib.hid (show fnd zs (a : Int) p s1 s2 z o tol = none by unfold fnd; rw [if_pos (.inr (.inl (by omega)))])
    have hgI : (N : Int) ≤ (a : Int) := by omega
    clear hr hz hT0 hneg
    go_enter Try.func10, Try.ntmps10
    go_wp2
    refine bodyPost_ret (results_cell3 rfl _ _ (w.heap.size + 1) 33 blkZ (0, 0) _ rfl hR0 Try.underlying33 rfl blkInfo) rfl ⟨hb0, .inl ⟨HN.out, rfl⟩⟩
  · have hat : a < zs.length := by omega
    by_cases Hbad : mayB p s1 s2 z o tol = false ∨ runN zs a p tol < 256 ∨ nr zs (a + runN zs a p tol) s1 tol = false ∨ nr zs (a + runN zs a p tol + 1) s2 tol = false
    · cases Hm : mayB p s1 s2 z o tol with
      | false => exact findR_may w A N c zs a p s1 s2 z o tol hr hz hN hat Hm
      | true =>
        rcases Hbad with h | h
        · rw [Hm] at h; cases h
        · exact findR_bad w A N c zs a p s1 s2 z o tol hr hz hN hat Hm h
    · simp only [not_or, Bool.not_eq_false] at Hbad
      obtain ⟨h1, h2, h3, h4⟩ := Hbad
      cases hst : stdB p s1 s2 z o with
      | true => exact findR_std w A N c zs a p s1 s2 z o tol hr hz hN hat h1 h2 h3 h4 hst
      | false => exact findR_non w A N c zs a p s1 s2 z o tol hr hz hN hat h1 h2 h3 h4 hst


end Go.Proofs.Ytckgmnlmimogjaa
