/- Layer 11: contracts of a board's small methods. -/
import Derived.Test.YtfcnlgkaejkneaaBd3
import Derived.Test.YtfcnlgkaejkneaaLawUlaX
namespace Go.Proofs.Ytfcnlgkaejkneaa
open Go.RowKit

def BdIs (w : World) (g : Nat) (b : Bd) (A E : Value) : Prop := Blk w g 37 (bdC b A E)
theorem BdIs.at_ {w : World} {g : Nat} {b : Bd} {A E : Value} (h : BdIs w g b A E) {i : Nat} {v : Value} (hi : i < 77842) (e : bdAt b A E i = v) : w.cell? ⟨g, i, none⟩ = some v := by
  rw [Blk.cell h i, bdC, cellsF_at _ hi, e]
theorem BdIs.fz {w : World} {g : Nat} {b : Bd} {A E : Value} (h : BdIs w g b A E) (i : Nat) : w.frozen? ⟨g, i, none⟩ = false := Blk.frozen h i
theorem BdIs.put {w : World} {g : Nat} {b b' : Bd} {A E A' E' : Value} (h : BdIs w g b A E) {i : Nat} {v : Value} (e : (bdC b A E).setIfInBounds i v = bdC b' A' E') : BdIs (w.setCell ⟨g, i, none⟩ v) g b' A' E' := by
  unfold BdIs
  rw [← e]
  exact Blk.set_ h i v
/-- one block was written, nothing else of what was there -/
theorem grown_cell (w : World) (g i : Nat) (v : Value) : w.grownBy (w.setCell ⟨g, i, none⟩ v) (some g) :=
  ⟨rfl, rfl, rfl, by simp [World.setCell], fun q _ h => Below.heap_setCell _ _ _ _ (fun e => h (by rw [e]))⟩
theorem grown_trans {a b c : World} {g : Nat} (h : a.grownBy b (some g)) (k : b.grownBy c (some g)) : a.grownBy c (some g) :=
  ⟨k.os.trans h.os, k.tape.trans h.tape, k.output.trans h.output, Nat.le_trans h.size k.size, fun q hq hne => (k.block q (Nat.lt_of_lt_of_le hq h.size) hne).trans (h.block q hq hne)⟩
theorem grown_drew {a b : World} {g : Nat} (h : a.grownBy b (some g)) : a.grownBy b.drew (some g) := ⟨h.os, h.tape, h.output, h.size, h.block⟩
theorem grown_drewN {a b : World} {g : Nat} (h : a.grownBy b (some g)) (k : Nat) : a.grownBy (b.drewN k) (some g) := ⟨h.os, h.tape, h.output, h.size, h.block⟩

set_option maxRecDepth 100000 in
theorem bT_any (w : World) (g : Nat) (b : Bd) (A E : Value) (h : BdIs w g b A E) : Calls Try.prog 9 #[.pointer (some ⟨g, 0, none⟩)] w fun x w' => x = .returned (.int .u64 b.t) ∧ w = w' := by
  have c := h.at_ (i := 65547) (by decide) bd_t
  clear h
  go_enter Try.func9, Try.ntmps9
  go_wp2
  go_ret
  exact ⟨rfl, rfl⟩
theorem bT_nil (w : World) : Calls Try.prog 9 #[.pointer none] w fun x w' => x = .returned (.int .u64 0) ∧ w = w' := by
  go_enter Try.func9, Try.ntmps9
  go_wp2
  go_ret
  exact ⟨rfl, rfl⟩
set_option maxRecDepth 100000 in
theorem bFrame_any (w : World) (g : Nat) (b : Bd) (A E : Value) (h : BdIs w g b A E) : Calls Try.prog 28 #[.pointer (some ⟨g, 0, none⟩)] w fun x w' => x = .returned (.int .i64 b.fr) ∧ w = w' := by
  have c := h.at_ (i := 65548) (by decide) bd_fr
  clear h
  go_enter Try.func28, Try.ntmps28
  go_wp2
  go_ret
  exact ⟨rfl, rfl⟩
theorem bFrame_nil (w : World) : Calls Try.prog 28 #[.pointer none] w fun x w' => x = .returned (.int .i64 0) ∧ w = w' := by
  go_enter Try.func28, Try.ntmps28
  go_wp2
  go_ret
  exact ⟨rfl, rfl⟩
set_option maxRecDepth 100000 in
theorem bBorder_any (w : World) (g : Nat) (b : Bd) (A E : Value) (h : BdIs w g b A E) : Calls Try.prog 14 #[.pointer (some ⟨g, 0, none⟩)] w fun x w' => x = .returned (.int .u8 b.bo) ∧ w = w' := by
  have c := h.at_ (i := 65549) (by decide) bd_bo
  clear h
  go_enter Try.func14, Try.ntmps14
  go_wp2
  go_ret
  exact ⟨rfl, rfl⟩
theorem bBorder_nil (w : World) : Calls Try.prog 14 #[.pointer none] w fun x w' => x = .returned (.int .u8 0) ∧ w = w' := by
  go_enter Try.func14, Try.ntmps14
  go_wp2
  go_ret
  exact ⟨rfl, rfl⟩
set_option maxRecDepth 100000 in
theorem bMic_any (w : World) (g : Nat) (b : Bd) (A E : Value) (h : BdIs w g b A E) : Calls Try.prog 12 #[.pointer (some ⟨g, 0, none⟩)] w fun x w' => x = .returned (.bool b.mic) ∧ w = w' := by
  have c := h.at_ (i := 65550) (by decide) bd_mic
  clear h
  go_enter Try.func12, Try.ntmps12
  go_wp2
  go_ret
  exact ⟨rfl, rfl⟩
theorem bMic_nil (w : World) : Calls Try.prog 12 #[.pointer none] w fun x w' => x = .returned (.bool false) ∧ w = w' := by
  go_enter Try.func12, Try.ntmps12
  go_wp2
  go_ret
  exact ⟨rfl, rfl⟩
set_option maxRecDepth 100000 in
theorem bSpk_any (w : World) (g : Nat) (b : Bd) (A E : Value) (h : BdIs w g b A E) : Calls Try.prog 13 #[.pointer (some ⟨g, 0, none⟩)] w fun x w' => x = .returned (.bool b.spk) ∧ w = w' := by
  have c := h.at_ (i := 65551) (by decide) bd_spk
  clear h
  go_enter Try.func13, Try.ntmps13
  go_wp2
  go_ret
  exact ⟨rfl, rfl⟩
theorem bSpk_nil (w : World) : Calls Try.prog 13 #[.pointer none] w fun x w' => x = .returned (.bool false) ∧ w = w' := by
  go_enter Try.func13, Try.ntmps13
  go_wp2
  go_ret
  exact ⟨rfl, rfl⟩
set_option maxRecDepth 100000 in
theorem bRead_any (w : World) (g : Nat) (b : Bd) (A E : Value) (a : Nat) (ha : a < 65536) (h : BdIs w g b A E) : Calls Try.prog 17 #[.pointer (some ⟨g, 0, none⟩), .int .u16 (a : Int)] w fun x w' => x = .returned (.int .u8 (b.M a)) ∧ w = w' := by
  have c := h.at_ (i := a) (by omega) (bd_M ha)
  have ha0 : (0 : Int) ≤ (a : Int) := Int.natCast_nonneg _
  have haI : (a : Int) < 65536 := by omega
  clear h
  go_enter Try.func17, Try.ntmps17
  go_wp2
  go_ret
  exact ⟨rfl, rfl⟩
theorem bRead_nil (w : World) (a : Int) : Calls Try.prog 17 #[.pointer none, .int .u16 a] w fun x w' => x = .returned (.int .u8 255) ∧ w = w' := by
  go_enter Try.func17, Try.ntmps17
  go_wp2
  go_ret
  exact ⟨rfl, rfl⟩
/-- memory behind a write -/
def wrB (b : Bd) (a : Nat) (v : Int) : Bd := if 16384 ≤ a then { b with M := fun k => if k = a then v else b.M k } else b
set_option maxRecDepth 100000 in
theorem bWrite_any (w : World) (g : Nat) (b : Bd) (A E : Value) (a : Nat) (v : Int) (ha : a < 65536) (h : BdIs w g b A E) : Calls Try.prog 16 #[.pointer (some ⟨g, 0, none⟩), .int .u16 (a : Int), .int .u8 v] w fun x w' => (∃ u, x = .returned u) ∧ BdIs w' g (wrB b a v) A E ∧ w.grownBy w' (some g) := by
  have c := h.at_ (i := a) (by omega) (bd_M ha)
  have f := h.fz a
  have ha0 : (0 : Int) ≤ (a : Int) := Int.natCast_nonneg _
  have haI : (a : Int) < 65536 := by omega
  by_cases hr : 16384 ≤ a
  · have hrI : (16384 : Int) ≤ (a : Int) := by omega
    have HX := Lib.hid (show BdIs (w.setCell ⟨g, a, none⟩ (.int .u8 v)) g (wrB b a v) A E from by unfold wrB; rw [if_pos hr]; exact h.put (set_M a ha v))
    clear h
    go_enter Try.func16, Try.ntmps16
    go_wp2_with (first | go_region | fail)
    go_end0
    exact ⟨⟨_, rfl⟩, HX.out, grown_cell _ _ _ _⟩
  · have hrI : ¬ (16384 : Int) ≤ (a : Int) := by omega
    have HX := Lib.hid (show BdIs w g (wrB b a v) A E from by unfold wrB; rw [if_neg hr]; exact h)
    clear h c f
    go_enter Try.func16, Try.ntmps16
    go_wp2
    go_end0
    exact ⟨⟨_, rfl⟩, HX.out, World.grownBy.refl w _⟩
end Go.Proofs.Ytfcnlgkaejkneaa
