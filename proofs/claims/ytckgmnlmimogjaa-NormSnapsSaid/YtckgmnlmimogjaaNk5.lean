/- Layer 27: contracts of what is made tidy: put, rest. -/
import Derived.Test.YtckgmnlmimogjaaNk4
namespace Go.Proofs.Ytckgmnlmimogjaa
open Go.RowKit

def PutO (w w' : World) (e : Ending) (base xb : Nat) (V : Value) (m n : Nat) (xs ys : List Value) : Prop :=
  (4096 < m + n ∧ e = .returned (.int .i64 8) ∧ w = w') ∨
  (m + n ≤ 4096 ∧ e = .returned (.int .i64 0) ∧ ∃ A' c' w1, w1.ownsRow base 33 18 (.slice A' (m + n) c') (m + n) (xs ++ ys) ∧ w.grownBy w1 V.ownBlock ∧ ((Value.slice A' (m + n) c').ownBlock = V.ownBlock ∨ (Value.slice A' (m + n) c').ownBlock = some w.heap.size) ∧ w' = w1.setCell ⟨xb, 2, none⟩ (.slice A' (m + n) c'))

set_option maxRecDepth 100000 in
set_option maxHeartbeats 4000000 in
theorem put_any (w : World) (base xb : Nat) (lv : Bool) (G V : Value) (m n c : Nat) (A : Option Addr) (xs ys : List Value) (hB : Blk w xb 82 #[.int .i64 1, .int .i64 20, V, .bool lv, G]) (hV : w.ownsRow base 33 18 V m xs) (hy : Reads w w.heap.size 18 A n ys) (h1 : ∀ u ∈ ys, u.oneCell' = true) (hm : m ≤ 4096) (hn : n ≤ 10000) (hb : base ≤ w.heap.size) :
    Calls Try.prog 31 #[.pointer (some ⟨xb, 0, none⟩), .slice A n c] w fun e w' => PutO w w' e base xb V m n xs ys := by
  obtain ⟨i1, hj, hy0, hy1, hy2⟩ := info_parts blkInfo4
  obtain ⟨Av, cv, rfl⟩ := own_slice hV
  have c2 : w.cell? ⟨xb, 2, none⟩ = some (.slice Av m cv) := (hB.cell 2).trans rfl
  have hwm : IntKind.i64.wrap (4096 - (m : Int)) = 4096 - (m : Int) := by rw [IntKind.wrap_i64]; omega
  have HH := Lib.hid (And.intro hB (And.intro hV (And.intro hy h1)))
  clear hB hV hy h1
  go_enter Try.func31, Try.ntmps31
  by_cases hlt : 4096 < m + n
  · have hI : (4096 : Int) - (m : Int) < (n : Int) := by omega
    have HLT := Lib.hid hlt
    clear hlt
    go_wp2
    go_ret
    exact .inl ⟨HLT.out, rfl, rfl⟩
  · have hI : ¬ (4096 : Int) - (m : Int) < (n : Int) := by omega
    have HLT := Lib.hid (show m + n ≤ 4096 by omega)
    have HC := Lib.hid (And.intro (show m + n ≤ maxLen by unfold maxLen; omega) (show (m + n) * 240 ≤ 140737488355328 by omega))
    clear hlt
    go_wp2_with (first
      | (at_builtin; refine wpList_append_any _ rfl _ _ 43 rfl base 33 i1 (.agg #[.int .i64 0, .int .i64 0, .int .i64 0, .int .i64 0, .int .i64 0, .int .i64 0, .int .i64 0, .int .i64 0, .int .i64 0, .int .i64 0, .int .i64 0, .int .i64 0, .slice none 0 0, .slice none 0 0, .slice none 0 0, .slice none 0 0, .slice none 0 0, .slice none 0 0]) 18 240 Try.underlying43 hj hy0 hy1 hy2 rfl (by decide) (.slice Av m cv) m xs rfl HH.out.2.1 w.heap.size A n c ys rfl HH.out.2.2.1 HH.out.2.2.2 HC.out.1 HC.out.2 hb ?_)
      | go_in)
    intro v' w1 hown hg hv
    obtain ⟨A', c', rfl⟩ := own_slice hown
    have hB1 := HH.out.1.grown hg (fun e => own_blk_ne HH.out.2.1 HH.out.1 (by decide) e.symm)
    have c2' : w1.cell? ⟨xb, 2, none⟩ = some (.slice Av m cv) := (hB1.cell 2).trans rfl
    have f2' : w1.frozen? ⟨xb, 2, none⟩ = false := hB1.frozen 2
    have HX := Lib.hid (And.intro hown (And.intro hg hv))
    clear hown hg hv hB1
    go_wp2
    go_ret
    exact .inr ⟨HLT.out, rfl, A', c', w1, HX.out.1, HX.out.2.1, HX.out.2.2, rfl⟩
end Go.Proofs.Ytckgmnlmimogjaa
