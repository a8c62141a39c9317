/- Layer 24: contract of what was heard. -/
import Derived.Test.YtnmapncgnceldaaWk12
namespace Go.Proofs.Ytnmapncgnceldaa
open Go.RowKit

def heardS (s : WS) : WS := { s with heard := true, tk := [] }
theorem heardS_ok {bs : List WB} {s : WS} (h : s.ok bs) : (heardS s).ok bs := by
  obtain ⟨a0, a1, a2, a3, a4, a5, _⟩ := h
  have := left_le bs []
  exact ⟨a0, a1, a2, a3, a4, a5, by show ([] : List Int).length + leftN bs [] ≤ _; simpa using this⟩
set_option maxRecDepth 100000 in
set_option maxHeartbeats 4000000 in
theorem heard_nil (w : World) : Calls Try.prog 14 #[.pointer none] w fun x w' => (∃ v, x = .returned v) ∧ w = w' := by
  go_enter Try.func14, Try.ntmps14
  go_wp2
  first | go_end0 | refine bodyPost_ret (results_none rfl _ _ _) rfl ?_
  exact ⟨⟨_, rfl⟩, rfl⟩
set_option maxRecDepth 100000 in
set_option maxHeartbeats 4000000 in
theorem heard_any (w : World) (g mb : Nat) (LA : Option Addr) (ln lc : Nat) (bs : List WB) (s : WS) (h : WalkAt w g mb LA ln lc bs s) :
    Calls Try.prog 14 #[.pointer (some ⟨g, 0, none⟩)] w fun x w' => (∃ v, x = .returned v) ∧ WalkAt w' g mb LA ln lc bs (heardS s) ∧ Mv w w' g mb := by
  have c3 : w.cell? ⟨g, 3, none⟩ = some (.bool s.heard) := (h.1.cell 3).trans rfl
  have f3 : w.frozen? ⟨g, 3, none⟩ = false := h.1.frozen 3
  have HY := Lib.hid (show WalkAt (w.setCell ⟨g, 3, none⟩ (.bool true)) g mb LA ln lc bs { s with heard := true } ∧ Mv w (w.setCell ⟨g, 3, none⟩ (.bool true)) g mb from ⟨h.set_ _ rfl rfl, (Mv.refl w g mb).set_ _⟩)
  clear h
  go_enter Try.func14, Try.ntmps14
  go_upto_region 2 with fail
  clear c3 f3
  generalize w.setCell ⟨g, 3, none⟩ (.bool true) = W at *
  have c9 : W.cell? ⟨g, 9, none⟩ = some (.map (some mb)) := (HY.out.1.1.cell 9).trans rfl
  obtain ⟨v, w2, hrun, hT, hg⟩ := HY.out.1.2.1.clear 0
  obtain ⟨hW2, hM2⟩ := HY.out.1.upd hg hT
  have H2 := Lib.hid (And.intro hW2 (HY.out.2.trans hM2))
  clear hT hg hW2 hM2
  go_wp2
  first | go_end0 | refine bodyPost_ret (results_none rfl _ _ _) rfl ?_
  exact ⟨⟨_, rfl⟩, H2.out.1, H2.out.2⟩
end Go.Proofs.Ytnmapncgnceldaa
