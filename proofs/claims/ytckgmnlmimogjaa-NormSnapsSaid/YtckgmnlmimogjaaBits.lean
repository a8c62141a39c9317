/- The contract of the document's Bits (squealref01). -/
import Derived.Test.YtckgmnlmimogjaaProg
import Derived.Test.YtckgmnlmimogjaaP01
namespace Go.Proofs.Ytckgmnlmimogjaa
open Go.RowKit

theorem boolInfo : (Try.prog.info? 4).map (fun i => (i.zero, i.size, i.bytes)) = some (some (.bool false), 1, 1) := by kernel_rfl

/-- the first j bits, as cells -/
def bitCells (b : Int) (j : Nat) : List Value := (List.range j).map fun i => .bool (bitH b i)
theorem bitCells_succ (b : Int) (j : Nat) : bitCells b (j + 1) = bitCells b j ++ [.bool (bitH b j)] := by simp [bitCells, List.range_succ]

theorem bools_of_own {w : World} {B e n : Nat} {v : Value} {f : Nat → Bool} (h : w.ownsRow B e 1 v n ((List.range n).map fun i => .bool (f i))) (hn : 0 < n) : IsBools w B n f v := by
  obtain ⟨h1, h2⟩ := h
  rcases h2 with ⟨_, rfl⟩ | ⟨g, cap, cur, rfl, hg, hh, hnc, hcm, hcs, htake⟩
  · omega
  · refine ⟨g, cap, rfl, hnc, hcm, hg, (Array.getElem?_eq_some_iff.1 hh).1, fun j hj => ?_⟩
    have hc := World.ownsRow.cellAt (w := w) (base := B) (e := e) (size := 1) (g := g) (n := n) (cap := cap) ⟨h1, .inr ⟨g, cap, cur, rfl, hg, hh, hnc, hcm, hcs, htake⟩⟩ j (by omega)
    rw [hc]
    simp [hj]

set_option maxRecDepth 100000 in
set_option maxHeartbeats 1000000 in
theorem bits_any (b : Int) (w : World) (h0 : 0 ≤ b) (h1 : b ≤ 255) :
    Calls Try.prog 45 #[.int .u8 b] w fun e w' => ∃ v, e = .returned v ∧ IsBools w' w.heap.size 8 (bitH b) v ∧ Below w.heap.size w w' := by
  obtain ⟨i0, hi, hz0, hz1, hz2⟩ := info_parts boolInfo
  obtain ⟨B, hB⟩ : ∃ B, B = w.heap.size := ⟨_, rfl⟩
  have hBl : B ≤ w.heap.size := by omega
  have HB := Lib.hid hB
  clear hB
  rw [← HB.out]
  go_enter Try.func45, Try.ntmps45
  go_wp2
  go_loopw [3, 4, 5] (fun v n k wr => ∃ j : Nat, j ≤ 8 ∧ wr.ownsRow B 4 1 v j (bitCells b j) ∧ n = .int .i64 (nn b j) ∧ k = .int .i64 (kk j) ∧ Below B w wr) (fun _ _ k _ => (intOf k).toNat)
  case atStart => exact ⟨0, by omega, World.ownsRow_nil _ _ _ _, by rw [nn_0 h0 h1], rfl, Below.refl _ _⟩
  case round =>
    obtain ⟨j, hj, hown, rfl, rfl, hbl⟩ := hrel
    have hnb := nn_bd b hj
    by_cases hlt : j < 8
    · obtain ⟨hk1, hk2, hk3⟩ := kk_step hlt
      have HK := Lib.hid hk3
      clear hk3
      go_wp2_with (first
        | (at_builtin; refine wpList_append_own _ rfl _ _ 90 rfl B 4 i0 (.bool false) 1 1 Try.underlying90 hi hz0 hz1 hz2 rfl (by decide) _ _ _ rfl (hown.alloc _) ⟨wr.heap.size, 0, none⟩ 1 1 [.bool (decide (kk j ≤ nn b j))] rfl rfl ?c1 ?c2 ?c3 ?c4 ?c5 ?_)
        | go_in)
      case c1 =>
        intro i u hi
        match i, hi with
        | 0, hi => simp at hi; subst hi; simp [Addr.add]
      case c2 => intro u hu; simp at hu; subst hu; rfl
      case c3 => unfold maxLen; omega
      case c4 => omega
      case c5 => have := hbl.size; simp; omega
      intro v' w1 hown' hgrow _
      have hb1 : Below B w w1 := (hbl.alloc (by have := hbl.size; omega) _).grown hgrow (by have := hbl.size; simp; omega) (fun i hi => (hown.lt i hi).1)
      have hown1 : w1.ownsRow B 4 1 v' (j + 1) (bitCells b (j + 1)) := by rw [bitCells_succ]; exact hown'
      clear hown' hgrow hown hbl
      by_cases hc : kk j ≤ nn b j
      · go_wp2
        go_roundw
        case rel => exact ⟨j + 1, by omega, hown1, by rw [nn_yes b hlt hc], by rw [HK.out], hb1⟩
        case measure => simp [intOf]; omega
      · go_wp2
        go_roundw
        case rel => exact ⟨j + 1, by omega, hown1, by rw [nn_no b hlt (by omega)], by rw [HK.out], hb1⟩
        case measure => simp [intOf]; omega
    · obtain rfl : j = 8 := by omega
      have hk8 : kk 8 ≤ 0 := by rw [kk_8]; omega
      go_wp2
      go_ret
      exact ⟨_, rfl, bools_of_own hown (by omega), hbl⟩
end Go.Proofs.Ytckgmnlmimogjaa
