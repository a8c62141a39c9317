/- Layer 24: the walk of WalkLoops. -/
import Derived.Test.YtnmapncgnceldaaWk16
namespace Go.Proofs.Ytnmapncgnceldaa
open Go.RowKit

theorem wb_plain' {w : World} {φ : Nat → Prop} (i p c t : Int) {cs : List Value} (h : cs = [.int .i64 i, .int .i64 p, .int .i64 0, .int .i64 0, .int .i64 0, .int .i64 0, .int .i64 0, .int .i64 t, .int .i64 c, .int .i64 0, .int .i64 0, .int .i64 0, .slice none 0 0, .slice none 0 0, .slice none 0 0, .slice none 0 0, .slice none 0 0, .slice none 0 0]) : WBAt w φ ⟨i, p, c, [], []⟩ cs :=
  ⟨_, _, _, _, _, _, _, _, _, _, none, 0, 0, none, 0, _, _, _, h, by rw [h]; simp [Value.oneCell'], ⟨rfl, fun h => absurd h (by omega)⟩, fun h => absurd h (by simp)⟩
set_option maxRecDepth 100000 in
set_option maxHeartbeats 8000000 in
theorem walkLoops_true (w : World) (count many : Int) : Calls Try.prog 4 #[.int .i64 count, .int .i64 many, .bool true] w fun x w' => x = .returned (.bool true) ∧ Below w.heap.size w w' := by
  obtain ⟨i1, hj, hy0, hy1, hy2⟩ := info_parts blkInfo4
  go_enter Try.func4, Try.ntmps4
  go_upto_region 1 with fail
  go_cut [7, 8] from 20 to 25 (fun a b wx => ∃ (k : Int) (n : Nat), a = .int .i64 k ∧ b = .int .i64 n ∧ (0 ≤ k ∧ k ≤ 40) ∧ 1 ≤ n ∧ n ≤ 20 ∧ w = wx)
  case first =>
    obtain ⟨k, hk⟩ : ∃ k : Int, k = max 0 (min count 40) := ⟨_, rfl⟩
    obtain ⟨n, hn⟩ : ∃ n : Nat, (n : Int) = max 1 (min many 20) := ⟨(max 1 (min many 20)).toNat, by omega⟩
    by_cases c1 : count < 40 <;> by_cases c2 : 0 < count <;> by_cases c3 : many < 20 <;> by_cases c4 : 1 < many
    all_goals first | (exfalso; omega) | skip
    all_goals have HK := Lib.hid (And.intro hk hn)
    all_goals clear hk hn
    all_goals go_wp2_with fail
    all_goals go_meet
    all_goals exact ⟨k, n, congrArg (Value.int .i64) (by have := HK.out.1; omega), congrArg (Value.int .i64) (by have := HK.out.2; omega), by have := HK.out.1; omega, by have := HK.out.2; omega, by have := HK.out.2; omega, rfl⟩
  case rest =>
    obtain ⟨k, n, rfl, rfl, hk, hn1, hn2, rfl⟩ := hcut
    have hn0 : (0 : Int) ≤ (n : Int) := Int.natCast_nonneg _
    have own0 : (w.alloc (.cells #[.int .i64 48, .int .i64 0, .int .i64 0, .int .i64 0, .int .i64 0, .int .i64 0, .int .i64 0, .int .i64 0, .int .i64 0, .int .i64 0, .int .i64 0, .int .i64 0, .slice none 0 0, .slice none 0 0, .slice none 0 0, .slice none 0 0, .slice none 0 0, .slice none 0 0, .int .i64 36, .int .i64 0, .int .i64 0, .int .i64 0, .int .i64 0, .int .i64 0, .int .i64 0, .int .i64 0, .int .i64 k, .int .i64 0, .int .i64 0, .int .i64 0, .slice none 0 0, .slice none 0 0, .slice none 0 0, .slice none 0 0, .slice none 0 0, .slice none 0 0] 45)).ownsRow w.heap.size 45 18 (.slice (some ⟨w.heap.size, 0, none⟩) 2 2) 2 [.int .i64 48, .int .i64 0, .int .i64 0, .int .i64 0, .int .i64 0, .int .i64 0, .int .i64 0, .int .i64 0, .int .i64 0, .int .i64 0, .int .i64 0, .int .i64 0, .slice none 0 0, .slice none 0 0, .slice none 0 0, .slice none 0 0, .slice none 0 0, .slice none 0 0, .int .i64 36, .int .i64 0, .int .i64 0, .int .i64 0, .int .i64 0, .int .i64 0, .int .i64 0, .int .i64 0, .int .i64 k, .int .i64 0, .int .i64 0, .int .i64 0, .slice none 0 0, .slice none 0 0, .slice none 0 0, .slice none 0 0, .slice none 0 0, .slice none 0 0] := World.ownsRow_lit w #[.int .i64 48, .int .i64 0, .int .i64 0, .int .i64 0, .int .i64 0, .int .i64 0, .int .i64 0, .int .i64 0, .int .i64 0, .int .i64 0, .int .i64 0, .int .i64 0, .slice none 0 0, .slice none 0 0, .slice none 0 0, .slice none 0 0, .slice none 0 0, .slice none 0 0, .int .i64 36, .int .i64 0, .int .i64 0, .int .i64 0, .int .i64 0, .int .i64 0, .int .i64 0, .int .i64 0, .int .i64 k, .int .i64 0, .int .i64 0, .int .i64 0, .slice none 0 0, .slice none 0 0, .slice none 0 0, .slice none 0 0, .slice none 0 0, .slice none 0 0] 2 (Nat.le_refl _) (by unfold maxLen; omega) rfl
    have HB := Lib.hid (show Below w.heap.size w (w.alloc (.cells #[.int .i64 48, .int .i64 0, .int .i64 0, .int .i64 0, .int .i64 0, .int .i64 0, .int .i64 0, .int .i64 0, .int .i64 0, .int .i64 0, .int .i64 0, .int .i64 0, .slice none 0 0, .slice none 0 0, .slice none 0 0, .slice none 0 0, .slice none 0 0, .slice none 0 0, .int .i64 36, .int .i64 0, .int .i64 0, .int .i64 0, .int .i64 0, .int .i64 0, .int .i64 0, .int .i64 0, .int .i64 k, .int .i64 0, .int .i64 0, .int .i64 0, .slice none 0 0, .slice none 0 0, .slice none 0 0, .slice none 0 0, .slice none 0 0, .slice none 0 0] 45)) from (Below.refl _ _).alloc (Nat.le_refl _) _)
    have HW0 : WBsAt (w.alloc (.cells #[.int .i64 48, .int .i64 0, .int .i64 0, .int .i64 0, .int .i64 0, .int .i64 0, .int .i64 0, .int .i64 0, .int .i64 0, .int .i64 0, .int .i64 0, .int .i64 0, .slice none 0 0, .slice none 0 0, .slice none 0 0, .slice none 0 0, .slice none 0 0, .slice none 0 0, .int .i64 36, .int .i64 0, .int .i64 0, .int .i64 0, .int .i64 0, .int .i64 0, .int .i64 0, .int .i64 0, .int .i64 k, .int .i64 0, .int .i64 0, .int .i64 0, .slice none 0 0, .slice none 0 0, .slice none 0 0, .slice none 0 0, .slice none 0 0, .slice none 0 0] 45)) (fun _ => False) (bsM k 0) [.int .i64 48, .int .i64 0, .int .i64 0, .int .i64 0, .int .i64 0, .int .i64 0, .int .i64 0, .int .i64 0, .int .i64 0, .int .i64 0, .int .i64 0, .int .i64 0, .slice none 0 0, .slice none 0 0, .slice none 0 0, .slice none 0 0, .slice none 0 0, .slice none 0 0, .int .i64 36, .int .i64 0, .int .i64 0, .int .i64 0, .int .i64 0, .int .i64 0, .int .i64 0, .int .i64 0, .int .i64 k, .int .i64 0, .int .i64 0, .int .i64 0, .slice none 0 0, .slice none 0 0, .slice none 0 0, .slice none 0 0, .slice none 0 0, .slice none 0 0] := ⟨[.int .i64 48, .int .i64 0, .int .i64 0, .int .i64 0, .int .i64 0, .int .i64 0, .int .i64 0, .int .i64 0, .int .i64 0, .int .i64 0, .int .i64 0, .int .i64 0, .slice none 0 0, .slice none 0 0, .slice none 0 0, .slice none 0 0, .slice none 0 0, .slice none 0 0], _, rfl, wb_plain' 48 0 0 _ rfl, [.int .i64 36, .int .i64 0, .int .i64 0, .int .i64 0, .int .i64 0, .int .i64 0, .int .i64 0, .int .i64 0, .int .i64 k, .int .i64 0, .int .i64 0, .int .i64 0, .slice none 0 0, .slice none 0 0, .slice none 0 0, .slice none 0 0, .slice none 0 0, .slice none 0 0], [], rfl, wb_plain' 36 0 k _ rfl, rfl⟩
    go_upto_region 4 with fail
    have HI := Lib.hid (show ∃ (j cp : Nat) (A : Option Addr) (xs : List Value), j ≤ n ∧ Value.int .i64 0 = .int .i64 (j : Int) ∧ Value.slice (some ⟨w.heap.size, 0, none⟩) 2 2 = .slice A (j + 2) cp ∧ (w.alloc (.cells #[.int .i64 48, .int .i64 0, .int .i64 0, .int .i64 0, .int .i64 0, .int .i64 0, .int .i64 0, .int .i64 0, .int .i64 0, .int .i64 0, .int .i64 0, .int .i64 0, .slice none 0 0, .slice none 0 0, .slice none 0 0, .slice none 0 0, .slice none 0 0, .slice none 0 0, .int .i64 36, .int .i64 0, .int .i64 0, .int .i64 0, .int .i64 0, .int .i64 0, .int .i64 0, .int .i64 0, .int .i64 k, .int .i64 0, .int .i64 0, .int .i64 0, .slice none 0 0, .slice none 0 0, .slice none 0 0, .slice none 0 0, .slice none 0 0, .slice none 0 0] 45)).ownsRow w.heap.size 45 18 (.slice A (j + 2) cp) (j + 2) xs ∧ WBsAt (w.alloc (.cells #[.int .i64 48, .int .i64 0, .int .i64 0, .int .i64 0, .int .i64 0, .int .i64 0, .int .i64 0, .int .i64 0, .int .i64 0, .int .i64 0, .int .i64 0, .int .i64 0, .slice none 0 0, .slice none 0 0, .slice none 0 0, .slice none 0 0, .slice none 0 0, .slice none 0 0, .int .i64 36, .int .i64 0, .int .i64 0, .int .i64 0, .int .i64 0, .int .i64 0, .int .i64 0, .int .i64 0, .int .i64 k, .int .i64 0, .int .i64 0, .int .i64 0, .slice none 0 0, .slice none 0 0, .slice none 0 0, .slice none 0 0, .slice none 0 0, .slice none 0 0] 45)) (fun _ => False) (bsM k j) xs ∧ Below w.heap.size w (w.alloc (.cells #[.int .i64 48, .int .i64 0, .int .i64 0, .int .i64 0, .int .i64 0, .int .i64 0, .int .i64 0, .int .i64 0, .int .i64 0, .int .i64 0, .int .i64 0, .int .i64 0, .slice none 0 0, .slice none 0 0, .slice none 0 0, .slice none 0 0, .slice none 0 0, .slice none 0 0, .int .i64 36, .int .i64 0, .int .i64 0, .int .i64 0, .int .i64 0, .int .i64 0, .int .i64 0, .int .i64 0, .int .i64 k, .int .i64 0, .int .i64 0, .int .i64 0, .slice none 0 0, .slice none 0 0, .slice none 0 0, .slice none 0 0, .slice none 0 0, .slice none 0 0] 45)) from ⟨0, 2, _, _, by omega, rfl, rfl, own0, HW0, HB.out⟩)
    clear own0 HW0
    generalize (w.alloc (.cells #[.int .i64 48, .int .i64 0, .int .i64 0, .int .i64 0, .int .i64 0, .int .i64 0, .int .i64 0, .int .i64 0, .int .i64 0, .int .i64 0, .int .i64 0, .int .i64 0, .slice none 0 0, .slice none 0 0, .slice none 0 0, .slice none 0 0, .slice none 0 0, .slice none 0 0, .int .i64 36, .int .i64 0, .int .i64 0, .int .i64 0, .int .i64 0, .int .i64 0, .int .i64 0, .int .i64 0, .int .i64 k, .int .i64 0, .int .i64 0, .int .i64 0, .slice none 0 0, .slice none 0 0, .slice none 0 0, .slice none 0 0, .slice none 0 0, .slice none 0 0] 45)) = w0 at *
    have hw0s := HB.out.size
    go_loopw [9, 10] (fun x y wr => ∃ (j cp : Nat) (A : Option Addr) (xs : List Value), j ≤ n ∧ y = .int .i64 (j : Int) ∧ x = .slice A (j + 2) cp ∧ wr.ownsRow w.heap.size 45 18 (.slice A (j + 2) cp) (j + 2) xs ∧ WBsAt wr (fun _ => False) (bsM k j) xs ∧ Below w.heap.size w wr) (fun _ y _ => n - (intOf y).toNat)
    case atStart => exact HI.out
    case round =>
      obtain ⟨j, cp, A, xs, hjn, rfl, rfl, hown, hW, hbl⟩ := hrel
      have hj0 : (0 : Int) ≤ (j : Int) := Int.natCast_nonneg _
      have hws := hbl.size
      by_cases hlt : j < n
      · have hlI : (j : Int) < (n : Int) := by omega
        have hwj : IntKind.i64.wrap ((j : Int) + 1) = (j : Int) + 1 := by rw [IntKind.wrap_i64]; omega
        have HC := Lib.hid (And.intro (show Reads (wr.alloc (.cells #[.int .i64 18, .int .i64 0, .int .i64 0, .int .i64 0, .int .i64 0, .int .i64 0, .int .i64 0, .int .i64 j, .int .i64 0, .int .i64 0, .int .i64 0, .int .i64 0, .slice none 0 0, .slice none 0 0, .slice none 0 0, .slice none 0 0, .slice none 0 0, .slice none 0 0] 45)) (wr.alloc (.cells #[.int .i64 18, .int .i64 0, .int .i64 0, .int .i64 0, .int .i64 0, .int .i64 0, .int .i64 0, .int .i64 j, .int .i64 0, .int .i64 0, .int .i64 0, .int .i64 0, .slice none 0 0, .slice none 0 0, .slice none 0 0, .slice none 0 0, .slice none 0 0, .slice none 0 0] 45)).heap.size 18 (some ⟨wr.heap.size, 0, none⟩) 1 [.int .i64 18, .int .i64 0, .int .i64 0, .int .i64 0, .int .i64 0, .int .i64 0, .int .i64 0, .int .i64 j, .int .i64 0, .int .i64 0, .int .i64 0, .int .i64 0, .slice none 0 0, .slice none 0 0, .slice none 0 0, .slice none 0 0, .slice none 0 0, .slice none 0 0] from ⟨rfl, fun _ => ⟨_, rfl, by simp, lit_cells wr [.int .i64 18, .int .i64 0, .int .i64 0, .int .i64 0, .int .i64 0, .int .i64 0, .int .i64 0, .int .i64 j, .int .i64 0, .int .i64 0, .int .i64 0, .int .i64 0, .slice none 0 0, .slice none 0 0, .slice none 0 0, .slice none 0 0, .slice none 0 0, .slice none 0 0] 45⟩⟩) (And.intro (show ∀ u ∈ ([.int .i64 18, .int .i64 0, .int .i64 0, .int .i64 0, .int .i64 0, .int .i64 0, .int .i64 0, .int .i64 j, .int .i64 0, .int .i64 0, .int .i64 0, .int .i64 0, .slice none 0 0, .slice none 0 0, .slice none 0 0, .slice none 0 0, .slice none 0 0, .slice none 0 0] : List Value), u.oneCell' = true by simp [Value.oneCell']) (And.intro (show j + 2 + 1 ≤ maxLen by unfold maxLen; omega) (And.intro (show (j + 2 + 1) * 240 ≤ 140737488355328 by omega) (show w.heap.size ≤ (wr.alloc (.cells #[.int .i64 18, .int .i64 0, .int .i64 0, .int .i64 0, .int .i64 0, .int .i64 0, .int .i64 0, .int .i64 j, .int .i64 0, .int .i64 0, .int .i64 0, .int .i64 0, .slice none 0 0, .slice none 0 0, .slice none 0 0, .slice none 0 0, .slice none 0 0, .slice none 0 0] 45)).heap.size by simp; omega)))))
        have hown9 := hown.alloc (.cells #[.int .i64 18, .int .i64 0, .int .i64 0, .int .i64 0, .int .i64 0, .int .i64 0, .int .i64 0, .int .i64 j, .int .i64 0, .int .i64 0, .int .i64 0, .int .i64 0, .slice none 0 0, .slice none 0 0, .slice none 0 0, .slice none 0 0, .slice none 0 0, .slice none 0 0] 45)
        have HS := Lib.hid (And.intro hown (And.intro hW hbl))
        clear hown hW hbl
        go_wp2_with (first
          | (at_builtin; refine wpList_append_any _ rfl _ _ 22 rfl w.heap.size 45 i1 (.agg #[.int .i64 0, .int .i64 0, .int .i64 0, .int .i64 0, .int .i64 0, .int .i64 0, .int .i64 0, .int .i64 0, .int .i64 0, .int .i64 0, .int .i64 0, .int .i64 0, .slice none 0 0, .slice none 0 0, .slice none 0 0, .slice none 0 0, .slice none 0 0, .slice none 0 0]) 18 240 Try.underlying22 hj hy0 hy1 hy2 rfl (by decide) (.slice A (j + 2) cp) (j + 2) xs rfl hown9 _ (some ⟨wr.heap.size, 0, none⟩) 1 1 [.int .i64 18, .int .i64 0, .int .i64 0, .int .i64 0, .int .i64 0, .int .i64 0, .int .i64 0, .int .i64 j, .int .i64 0, .int .i64 0, .int .i64 0, .int .i64 0, .slice none 0 0, .slice none 0 0, .slice none 0 0, .slice none 0 0, .slice none 0 0, .slice none 0 0] rfl (HC.out.1) HC.out.2.1 HC.out.2.2.1 HC.out.2.2.2.1 (HC.out.2.2.2.2) ?_)
          | go_in)
        intro v' w5 hown5 hg hv
        obtain ⟨A', c', rfl⟩ := own_slice hown5
        have hb5 : Below w.heap.size w w5 := (HS.out.2.2.alloc hws _).grown hg (by simp; omega) (fun b e => (HS.out.1.lt b e).1)
        have hW5 : WBsAt w5 (fun _ => False) (bsM k (j + 1)) (xs ++ [.int .i64 18, .int .i64 0, .int .i64 0, .int .i64 0, .int .i64 0, .int .i64 0, .int .i64 0, .int .i64 j, .int .i64 0, .int .i64 0, .int .i64 0, .int .i64 0, .slice none 0 0, .slice none 0 0, .slice none 0 0, .slice none 0 0, .slice none 0 0, .slice none 0 0]) := by rw [bsM_succ]; exact WBsAt.app (WBsAt.keep (fun b h => absurd h (by simp)) (fun b h => h) HS.out.2.1) ⟨[.int .i64 18, .int .i64 0, .int .i64 0, .int .i64 0, .int .i64 0, .int .i64 0, .int .i64 0, .int .i64 j, .int .i64 0, .int .i64 0, .int .i64 0, .int .i64 0, .slice none 0 0, .slice none 0 0, .slice none 0 0, .slice none 0 0, .slice none 0 0, .slice none 0 0], [], rfl, wb_plain' 18 0 0 _ rfl, rfl⟩
        have H5 := Lib.hid (And.intro hown5 (And.intro hW5 hb5))
        clear hown5 hW5 hb5 hown9 hg hv
        go_wp2
        go_roundw
        case rel => exact ⟨j + 1, c', A', _, by omega, by go_num, rfl, H5.out.1, H5.out.2.1, H5.out.2.2⟩
        case measure => simp [intOf]; omega
      · obtain rfl : j = n := by omega
        have hlI : ¬ (j : Int) < (j : Int) := by omega
        have HC := Lib.hid (And.intro (show Reads (wr.alloc (.cells #[.int .i64 37, .int .i64 0, .int .i64 0, .int .i64 0, .int .i64 0, .int .i64 0, .int .i64 0, .int .i64 0, .int .i64 0, .int .i64 0, .int .i64 0, .int .i64 0, .slice none 0 0, .slice none 0 0, .slice none 0 0, .slice none 0 0, .slice none 0 0, .slice none 0 0, .int .i64 19, .int .i64 0, .int .i64 0, .int .i64 0, .int .i64 0, .int .i64 0, .int .i64 0, .int .i64 0, .int .i64 0, .int .i64 0, .int .i64 0, .int .i64 0, .slice none 0 0, .slice none 0 0, .slice none 0 0, .slice none 0 0, .slice none 0 0, .slice none 0 0] 45)) (wr.alloc (.cells #[.int .i64 37, .int .i64 0, .int .i64 0, .int .i64 0, .int .i64 0, .int .i64 0, .int .i64 0, .int .i64 0, .int .i64 0, .int .i64 0, .int .i64 0, .int .i64 0, .slice none 0 0, .slice none 0 0, .slice none 0 0, .slice none 0 0, .slice none 0 0, .slice none 0 0, .int .i64 19, .int .i64 0, .int .i64 0, .int .i64 0, .int .i64 0, .int .i64 0, .int .i64 0, .int .i64 0, .int .i64 0, .int .i64 0, .int .i64 0, .int .i64 0, .slice none 0 0, .slice none 0 0, .slice none 0 0, .slice none 0 0, .slice none 0 0, .slice none 0 0] 45)).heap.size 18 (some ⟨wr.heap.size, 0, none⟩) 2 [.int .i64 37, .int .i64 0, .int .i64 0, .int .i64 0, .int .i64 0, .int .i64 0, .int .i64 0, .int .i64 0, .int .i64 0, .int .i64 0, .int .i64 0, .int .i64 0, .slice none 0 0, .slice none 0 0, .slice none 0 0, .slice none 0 0, .slice none 0 0, .slice none 0 0, .int .i64 19, .int .i64 0, .int .i64 0, .int .i64 0, .int .i64 0, .int .i64 0, .int .i64 0, .int .i64 0, .int .i64 0, .int .i64 0, .int .i64 0, .int .i64 0, .slice none 0 0, .slice none 0 0, .slice none 0 0, .slice none 0 0, .slice none 0 0, .slice none 0 0] from ⟨rfl, fun _ => ⟨_, rfl, by simp, lit_cells wr [.int .i64 37, .int .i64 0, .int .i64 0, .int .i64 0, .int .i64 0, .int .i64 0, .int .i64 0, .int .i64 0, .int .i64 0, .int .i64 0, .int .i64 0, .int .i64 0, .slice none 0 0, .slice none 0 0, .slice none 0 0, .slice none 0 0, .slice none 0 0, .slice none 0 0, .int .i64 19, .int .i64 0, .int .i64 0, .int .i64 0, .int .i64 0, .int .i64 0, .int .i64 0, .int .i64 0, .int .i64 0, .int .i64 0, .int .i64 0, .int .i64 0, .slice none 0 0, .slice none 0 0, .slice none 0 0, .slice none 0 0, .slice none 0 0, .slice none 0 0] 45⟩⟩) (And.intro (show ∀ u ∈ ([.int .i64 37, .int .i64 0, .int .i64 0, .int .i64 0, .int .i64 0, .int .i64 0, .int .i64 0, .int .i64 0, .int .i64 0, .int .i64 0, .int .i64 0, .int .i64 0, .slice none 0 0, .slice none 0 0, .slice none 0 0, .slice none 0 0, .slice none 0 0, .slice none 0 0, .int .i64 19, .int .i64 0, .int .i64 0, .int .i64 0, .int .i64 0, .int .i64 0, .int .i64 0, .int .i64 0, .int .i64 0, .int .i64 0, .int .i64 0, .int .i64 0, .slice none 0 0, .slice none 0 0, .slice none 0 0, .slice none 0 0, .slice none 0 0, .slice none 0 0] : List Value), u.oneCell' = true by simp [Value.oneCell']) (And.intro (show j + 2 + 2 ≤ maxLen by unfold maxLen; omega) (And.intro (show (j + 2 + 2) * 240 ≤ 140737488355328 by omega) (show w.heap.size ≤ (wr.alloc (.cells #[.int .i64 37, .int .i64 0, .int .i64 0, .int .i64 0, .int .i64 0, .int .i64 0, .int .i64 0, .int .i64 0, .int .i64 0, .int .i64 0, .int .i64 0, .int .i64 0, .slice none 0 0, .slice none 0 0, .slice none 0 0, .slice none 0 0, .slice none 0 0, .slice none 0 0, .int .i64 19, .int .i64 0, .int .i64 0, .int .i64 0, .int .i64 0, .int .i64 0, .int .i64 0, .int .i64 0, .int .i64 0, .int .i64 0, .int .i64 0, .int .i64 0, .slice none 0 0, .slice none 0 0, .slice none 0 0, .slice none 0 0, .slice none 0 0, .slice none 0 0] 45)).heap.size by simp; omega)))))
        have hown9 := hown.alloc (.cells #[.int .i64 37, .int .i64 0, .int .i64 0, .int .i64 0, .int .i64 0, .int .i64 0, .int .i64 0, .int .i64 0, .int .i64 0, .int .i64 0, .int .i64 0, .int .i64 0, .slice none 0 0, .slice none 0 0, .slice none 0 0, .slice none 0 0, .slice none 0 0, .slice none 0 0, .int .i64 19, .int .i64 0, .int .i64 0, .int .i64 0, .int .i64 0, .int .i64 0, .int .i64 0, .int .i64 0, .int .i64 0, .int .i64 0, .int .i64 0, .int .i64 0, .slice none 0 0, .slice none 0 0, .slice none 0 0, .slice none 0 0, .slice none 0 0, .slice none 0 0] 45)
        have HS := Lib.hid (And.intro hown (And.intro hW hbl))
        clear hown hW hbl
        go_upto_region 7 with fail
        go_wp2_with (first
          | (at_builtin; refine wpList_append_any _ rfl _ _ 22 rfl w.heap.size 45 i1 (.agg #[.int .i64 0, .int .i64 0, .int .i64 0, .int .i64 0, .int .i64 0, .int .i64 0, .int .i64 0, .int .i64 0, .int .i64 0, .int .i64 0, .int .i64 0, .int .i64 0, .slice none 0 0, .slice none 0 0, .slice none 0 0, .slice none 0 0, .slice none 0 0, .slice none 0 0]) 18 240 Try.underlying22 hj hy0 hy1 hy2 rfl (by decide) (.slice A (j + 2) cp) (j + 2) xs rfl hown9 _ (some ⟨wr.heap.size, 0, none⟩) 2 2 [.int .i64 37, .int .i64 0, .int .i64 0, .int .i64 0, .int .i64 0, .int .i64 0, .int .i64 0, .int .i64 0, .int .i64 0, .int .i64 0, .int .i64 0, .int .i64 0, .slice none 0 0, .slice none 0 0, .slice none 0 0, .slice none 0 0, .slice none 0 0, .slice none 0 0, .int .i64 19, .int .i64 0, .int .i64 0, .int .i64 0, .int .i64 0, .int .i64 0, .int .i64 0, .int .i64 0, .int .i64 0, .int .i64 0, .int .i64 0, .int .i64 0, .slice none 0 0, .slice none 0 0, .slice none 0 0, .slice none 0 0, .slice none 0 0, .slice none 0 0] rfl (HC.out.1) HC.out.2.1 HC.out.2.2.1 HC.out.2.2.2.1 (HC.out.2.2.2.2) ?_)
          | go_in)
        intro v' w5 hown5 hg hv
        obtain ⟨A', c', rfl⟩ := own_slice hown5
        have hb5 : Below w.heap.size w w5 := (HS.out.2.2.alloc hws _).grown hg (by simp; omega) (fun b e => (HS.out.1.lt b e).1)
        have hW5 : WBsAt w5 (fun _ => False) (bsL k j) (xs ++ [.int .i64 37, .int .i64 0, .int .i64 0, .int .i64 0, .int .i64 0, .int .i64 0, .int .i64 0, .int .i64 0, .int .i64 0, .int .i64 0, .int .i64 0, .int .i64 0, .slice none 0 0, .slice none 0 0, .slice none 0 0, .slice none 0 0, .slice none 0 0, .slice none 0 0, .int .i64 19, .int .i64 0, .int .i64 0, .int .i64 0, .int .i64 0, .int .i64 0, .int .i64 0, .int .i64 0, .int .i64 0, .int .i64 0, .int .i64 0, .int .i64 0, .slice none 0 0, .slice none 0 0, .slice none 0 0, .slice none 0 0, .slice none 0 0, .slice none 0 0]) := WBsAt.app (WBsAt.keep (fun b h => absurd h (by simp)) (fun b h => h) HS.out.2.1) ⟨[.int .i64 37, .int .i64 0, .int .i64 0, .int .i64 0, .int .i64 0, .int .i64 0, .int .i64 0, .int .i64 0, .int .i64 0, .int .i64 0, .int .i64 0, .int .i64 0, .slice none 0 0, .slice none 0 0, .slice none 0 0, .slice none 0 0, .slice none 0 0, .slice none 0 0], _, rfl, wb_plain' 37 0 0 _ rfl, [.int .i64 19, .int .i64 0, .int .i64 0, .int .i64 0, .int .i64 0, .int .i64 0, .int .i64 0, .int .i64 0, .int .i64 0, .int .i64 0, .int .i64 0, .int .i64 0, .slice none 0 0, .slice none 0 0, .slice none 0 0, .slice none 0 0, .slice none 0 0, .slice none 0 0], [], rfl, wb_plain' 19 0 0 _ rfl, rfl⟩
        have hBR : BlksR w5 (· < w5.heap.size) A' (j + 4) (bsL k j) := ⟨_, (RdP.of_own hown5).keep (fun b h => rfl) (fun b h => h.2), WBsAt.keep (fun b h => absurd h (by simp)) (fun b h => absurd h (by simp)) hW5⟩
        have hnw := new_any w5 A' (j + 4) c' (bsL k j) hBR (bsL_lite k hn2)
        have H5 := Lib.hid hb5
        clear hown5 hW5 hb5 hown9 hg hv hBR
        go_wp2_with fail
        refine hnw.mono ?_
        clear hnw
        rintro x w6 ⟨hb6, h | h | ⟨_, _, g, mb, LA, lc, rfl, hg, hm, hW⟩⟩
        · exact absurd (bsL_sound k j) h.1
        · exact absurd h.2.1 (bsL_empty k j)
        have H6 := Lib.hid (show WalkAt w6 g mb LA (j + 4) lc (bsL k j) ws0 ∧ Below w.heap.size w w6 from ⟨hW, H5.out.trans (hb6.mono H5.out.size)⟩)
        have GM := Lib.hid (show w.heap.size ≤ g ∧ w.heap.size ≤ mb from ⟨by have := H5.out.size; omega, by have := H5.out.size; omega⟩)
        clear hb6 hg hm hW
        go_upto_region 11 with fail
        go_cut [13] from 56 to 57 (fun x wx => x = .int .i64 (M1 k) ∧ w6 = wx)
        case first =>
          by_cases c1 : 1 < k <;> by_cases c2 : k < 1
          all_goals first | (exfalso; omega) | skip
          all_goals go_wp2_with fail
          all_goals go_meet
          all_goals refine ⟨congrArg (Value.int .i64) ?_, rfl⟩
          all_goals unfold M1
          all_goals split <;> omega
        case rest =>
          obtain ⟨rfl, rfl⟩ := hcut
          go_upto_region 15 with fail
          have hM0 : 0 ≤ M1 k ∧ M1 k ≤ 40 := by unfold M1; split <;> omega
          obtain ⟨P, hP⟩ : ∃ P : Nat, (P : Int) = M1 k := ⟨(M1 k).toNat, by omega⟩
          have hP40 : P ≤ 40 := by omega
          rw [← hP]
          have HPP := Lib.hid (show (P : Int) = passes true k from hP)
          clear hP hM0
          go_loopw [14] (fun x wr => ∃ p : Nat, x = .int .i64 (p : Int) ∧ p ≤ P ∧ (stI true k j p 0).ok (bsL k j) ∧ WalkAt wr g mb LA (j + 4) lc (bsL k j) (stI true k j p 0) ∧ Below w.heap.size w wr) (fun x _ => P - (intOf x).toNat)
          case atStart => exact ⟨0, rfl, by omega, ws0_ok _, H6.out.1, H6.out.2⟩
          case round =>
            obtain ⟨p, rfl, hpP, hok, hWk, hbl⟩ := hrel
            have hp0 : (0 : Int) ≤ (p : Int) := Int.natCast_nonneg _
            by_cases hpl : p < P
            · have hpI : (p : Int) < (P : Int) := by omega
              have hwp : IntKind.i64.wrap ((p : Int) + 1) = (p : Int) + 1 := by rw [IntKind.wrap_i64]; omega
              have HQ := Lib.hid (And.intro hok (And.intro hWk hbl))
              clear hok hWk hbl
              go_upto_region 18 with fail
              go_loopw [15] (fun y wx => ∃ i : Nat, y = .int .i64 (i : Int) ∧ i ≤ j ∧ (stI true k j p i).ok (bsL k j) ∧ WalkAt wx g mb LA (j + 4) lc (bsL k j) (stI true k j p i) ∧ Below w.heap.size w wx) (fun y _ => j - (intOf y).toNat)
              case atStart => exact ⟨0, rfl, by omega, HQ.out.1, HQ.out.2.1, HQ.out.2.2⟩
              case round =>
                obtain ⟨i, rfl, hij, hok, hWk, hbl⟩ := hrel
                have hi0 : (0 : Int) ≤ (i : Int) := Int.natCast_nonneg _
                by_cases hil : i < j
                · have hiI : (i : Int) < (j : Int) := by omega
                  have hwi : IntKind.i64.wrap ((i : Int) + 1) = (i : Int) + 1 := by rw [IntKind.wrap_i64]; omega
                  have hw2 : IntKind.i64.wrap (2 + (i : Int)) = 2 + (i : Int) := by rw [IntKind.wrap_i64]; omega
                  obtain ⟨s', hs1, hs2, hs3, hs4⟩ := nL_step hk hn2 (by rw [← HPP.out]; exact hpI) hil hok
                  have hnx := next_any wr g mb LA (j + 4) lc (bsL k j) (stI true k j p i) hWk hok (bsL_fine hk hn2)
                  rw [hs1] at hnx
                  simp only [stepV] at hnx
                  have hs5 := hs3 rfl
                  have HS2 := Lib.hid (And.intro hs2 (And.intro hs5 (And.intro hs5 hbl)))
                  clear hs1 hs2 hs3 hs4 hs5 hok hWk hbl
                  go_wp2_with fail
                  refine hnx.mono ?_
                  clear hnx
                  rintro x v1 ⟨rfl, hW1, hM1⟩
                  have hbv : Below w.heap.size w v1 := HS2.out.2.2.2.trans (hM1.below HS2.out.2.2.2.size (by have := GM.out.1; omega) (by have := GM.out.2; omega))
                  have HV := Lib.hid (And.intro hW1 hbv)
                  clear hW1 hM1 hbv
                  go_upto_region 21 with (first
                    | (refine wpList_store_box rfl 36 _ _ rfl (v1.heap.size) #[.int .i64 0, .int .i64 (2 + (i : Int)), .int .i64 0] rfl rfl 36 #[.int .i64 0, .int .i64 0, .int .i64 0] (Blk.new v1 _ _) stepInfo rfl (by simp [Value.oneCell']) ?_)
                    | fail)
                  intro y1 hB9 hg9
                  have hb9 : Below v1.heap.size v1 y1 := ((Below.refl _ _).alloc (Nat.le_refl _) _).grown hg9 (by simp) (fun b e => by injection e with e; omega)
                  have HY := Lib.hid (show WalkAt y1 g mb LA (j + 4) lc (bsL k j) s' ∧ Below w.heap.size w y1 from ⟨HV.out.1.below hb9, HV.out.2.trans (hb9.mono HV.out.2.size)⟩)
                  have q0 : y1.cell? ⟨v1.heap.size, 0, none⟩ = some (.int .i64 0) := (hB9.cell 0).trans rfl
                  have q1 : y1.cell? ⟨v1.heap.size, 1, none⟩ = some (.int .i64 (2 + (i : Int))) := (hB9.cell 1).trans rfl
                  have q2 : y1.cell? ⟨v1.heap.size, 2, none⟩ = some (.int .i64 0) := (hB9.cell 2).trans rfl
                  clear hB9 hg9 hb9 HV
                  have hh := heard_any y1 g mb LA (j + 4) lc (bsL k j) s' HY.out.1
                  rw [HS2.out.2.1] at hh
                  have hok2 := heardS_ok HS2.out.1
                  rw [HS2.out.2.1] at hok2
                  have HO := Lib.hid hok2
                  clear hok2
                  go_wp2_with fail
                  refine hh.mono ?_
                  clear hh
                  rintro x z1 ⟨⟨v, rfl⟩, hW2, hM2⟩
                  have HZ := Lib.hid (And.intro hW2 (HY.out.2.trans (hM2.below HY.out.2.size (by have := GM.out.1; omega) (by have := GM.out.2; omega))))
                  clear hW2 hM2 q0 q1 q2
                  go_wp2
                  go_roundw
                  case rel => exact ⟨i + 1, by go_num, by omega, HO.out, HZ.out.1, HZ.out.2⟩
                  case measure => simp [intOf]; omega
                · obtain rfl : i = j := by omega
                  have hiI : ¬ (i : Int) < (i : Int) := by omega
                  rw [stI_n hn1] at hok hWk
                  have HX := Lib.hid (And.intro hok (And.intro hWk hbl))
                  clear hok hWk hbl
                  go_wp2
                  go_roundw
                  case rel => exact ⟨p + 1, by go_num, by omega, HX.out.1, HX.out.2.1, HX.out.2.2⟩
                  case measure => simp [intOf]; omega
            · obtain rfl : p = P := by omega
              have hpI : ¬ (p : Int) < (p : Int) := by omega
              have hw3 : IntKind.i64.wrap ((j : Int) + 3) = (j : Int) + 3 := by rw [IntKind.wrap_i64]; omega
              have hw4 : IntKind.i64.wrap ((j : Int) + 4) = (j : Int) + 4 := by rw [IntKind.wrap_i64]; omega
              obtain ⟨e1, e2, e3, e4⟩ := nL_last hk hn2 hn1 HPP.out hok
              have hnx := next_any wr g mb LA (j + 4) lc (bsL k j) (stI true k j p 0) hWk hok (bsL_fine hk hn2)
              rw [e1] at hnx
              simp only [stepV] at hnx
              rw [show ((j + 3 : Nat) : Int) = (j : Int) + 3 by omega] at hnx
              have HE := Lib.hid (And.intro e2 (And.intro e3 (And.intro e4 hbl)))
              clear e1 e2 e3 e4 hok hWk hbl
              go_wp2_with fail
              refine hnx.mono ?_
              clear hnx
              rintro x v1 ⟨rfl, hW1, hM1⟩
              have hb1 : Below w.heap.size w v1 := HE.out.2.2.2.trans (hM1.below HE.out.2.2.2.size (by have := GM.out.1; omega) (by have := GM.out.2; omega))
              have hnx := next_any v1 g mb LA (j + 4) lc (bsL k j) (sE j) hW1 HE.out.1 (bsL_fine hk hn2)
              rw [HE.out.2.1] at hnx
              simp only [stepV] at hnx
              rw [show ((j + 4 : Nat) : Int) = (j : Int) + 4 by omega] at hnx
              have HV1 := Lib.hid hb1
              clear hW1 hM1 hb1
              go_wp2_with fail
              refine hnx.mono ?_
              clear hnx
              rintro x v2 ⟨rfl, hW2, hM2⟩
              have hb2 : Below w.heap.size w v2 := HV1.out.trans (hM2.below HV1.out.size (by have := GM.out.1; omega) (by have := GM.out.2; omega))
              have hnx := next_any v2 g mb LA (j + 4) lc (bsL k j) (stayS (sE j) 3 ((j + 4 : Nat) : Int) 0) (by rw [show ((j + 4 : Nat) : Int) = (j : Int) + 4 by omega]; exact hW2) HE.out.2.2.1 (bsL_fine hk hn2)
              rw [nL_over] at hnx
              simp only [stepV] at hnx
              rw [show ((j + 4 : Nat) : Int) = (j : Int) + 4 by omega] at hnx
              have HV2 := Lib.hid hb2
              clear hW2 hM2 hb2
              go_wp2_with fail
              refine hnx.mono ?_
              clear hnx
              rintro x v3 ⟨rfl, hW3, hM3⟩
              have hb3 : Below w.heap.size w v3 := HV2.out.trans (hM3.below HV2.out.size (by have := GM.out.1; omega) (by have := GM.out.2; omega))
              have HV3 := Lib.hid hb3
              clear hW3 hM3 hb3
              have k1 : Blk (((v3.alloc (.cells #[.int .i64 0, .int .i64 0, .int .i64 0] 36)).alloc (.cells #[.int .i64 0, .int .i64 0, .int .i64 0] 36)).alloc (.cells #[.int .i64 0, .int .i64 0, .int .i64 0] 36)) v3.heap.size 36 #[.int .i64 0, .int .i64 0, .int .i64 0] := ((Blk.new v3 _ _).alloc _).alloc _
              have k2 : Blk (((v3.alloc (.cells #[.int .i64 0, .int .i64 0, .int .i64 0] 36)).alloc (.cells #[.int .i64 0, .int .i64 0, .int .i64 0] 36)).alloc (.cells #[.int .i64 0, .int .i64 0, .int .i64 0] 36)) (v3.heap.size + 1) 36 #[.int .i64 0, .int .i64 0, .int .i64 0] := by
                have := (Blk.new (v3.alloc (.cells #[.int .i64 0, .int .i64 0, .int .i64 0] 36)) 36 #[.int .i64 0, .int .i64 0, .int .i64 0]).alloc (.cells #[.int .i64 0, .int .i64 0, .int .i64 0] 36)
                simpa using this
              have k3 : Blk (((v3.alloc (.cells #[.int .i64 0, .int .i64 0, .int .i64 0] 36)).alloc (.cells #[.int .i64 0, .int .i64 0, .int .i64 0] 36)).alloc (.cells #[.int .i64 0, .int .i64 0, .int .i64 0] 36)) (v3.heap.size + 2) 36 #[.int .i64 0, .int .i64 0, .int .i64 0] := by
                have := Blk.new ((v3.alloc (.cells #[.int .i64 0, .int .i64 0, .int .i64 0] 36)).alloc (.cells #[.int .i64 0, .int .i64 0, .int .i64 0] 36)) 36 #[.int .i64 0, .int .i64 0, .int .i64 0]
                simpa using this
              have hb4 : Below w.heap.size w (((v3.alloc (.cells #[.int .i64 0, .int .i64 0, .int .i64 0] 36)).alloc (.cells #[.int .i64 0, .int .i64 0, .int .i64 0] 36)).alloc (.cells #[.int .i64 0, .int .i64 0, .int .i64 0] 36)) := ((HV3.out.alloc HV3.out.size _).alloc (by have := HV3.out.size; simp; omega) _).alloc (by have := HV3.out.size; simp; omega) _
              have HK := Lib.hid (And.intro k2 (And.intro k3 hb4))
              clear k2 k3 hb4
              go_wp2_with (first
                | (refine wpList_store_box rfl 36 _ _ rfl (v3.heap.size) #[.int .i64 0, .int .i64 ((j : Int) + 3), .int .i64 0] rfl rfl 36 #[.int .i64 0, .int .i64 0, .int .i64 0] k1 stepInfo rfl (by simp [Value.oneCell']) ?_)
                | fail)
              intro y1 l1 hg1
              have m2 := HK.out.1.grown hg1 (fun e => by injection e with e; omega)
              have HK1 := Lib.hid (And.intro l1 (And.intro (HK.out.2.1.grown hg1 (fun e => by injection e with e; omega)) (HK.out.2.2.grown hg1 HK.out.2.2.size (fun b e => by injection e with e; have := HV3.out.size; omega))))
              clear l1 hg1 k1
              go_wp2_with (first
                | (refine wpList_store_box rfl 36 _ _ rfl (v3.heap.size + 1) #[.int .i64 3, .int .i64 ((j : Int) + 4), .int .i64 0] rfl rfl 36 #[.int .i64 0, .int .i64 0, .int .i64 0] m2 stepInfo rfl (by simp [Value.oneCell']) ?_)
                | fail)
              intro y2 l2 hg2
              have m3 := HK1.out.2.1.grown hg2 (fun e => by injection e with e; omega)
              have HK2 := Lib.hid (And.intro (HK1.out.1.grown hg2 (fun e => by injection e with e; omega)) (And.intro l2 (HK1.out.2.2.grown hg2 HK1.out.2.2.size (fun b e => by injection e with e; have := HV3.out.size; omega))))
              clear l2 hg2 m2
              go_wp2_with (first
                | (refine wpList_store_box rfl 36 _ _ rfl (v3.heap.size + 2) #[.int .i64 3, .int .i64 ((j : Int) + 4), .int .i64 0] rfl rfl 36 #[.int .i64 0, .int .i64 0, .int .i64 0] m3 stepInfo rfl (by simp [Value.oneCell']) ?_)
                | fail)
              intro y3 l3 hg3
              have n1 := HK2.out.1.grown hg3 (fun e => by injection e with e; omega)
              have n2 := HK2.out.2.1.grown hg3 (fun e => by injection e with e; omega)
              have n3 : Blk y3 (v3.heap.size + 2) 36 #[.int .i64 3, .int .i64 ((j : Int) + 4), .int .i64 0] := l3
              have HL := Lib.hid (HK2.out.2.2.grown hg3 HK2.out.2.2.size (fun b e => by injection e with e; have := HV3.out.size; omega))
              clear hg3 m3 l3
              have a0 : y3.cell? ⟨v3.heap.size, 0, none⟩ = some (.int .i64 0) := (n1.cell 0).trans rfl
              have a1 : y3.cell? ⟨v3.heap.size, 1, none⟩ = some (.int .i64 ((j : Int) + 3)) := (n1.cell 1).trans rfl
              have b0 : y3.cell? ⟨v3.heap.size + 1, 0, none⟩ = some (.int .i64 3) := (n2.cell 0).trans rfl
              have b1 : y3.cell? ⟨v3.heap.size + 1, 1, none⟩ = some (.int .i64 ((j : Int) + 4)) := (n2.cell 1).trans rfl
              have b2 : y3.cell? ⟨v3.heap.size + 1, 2, none⟩ = some (.int .i64 0) := (n2.cell 2).trans rfl
              have c0 : y3.cell? ⟨v3.heap.size + 2, 0, none⟩ = some (.int .i64 3) := (n3.cell 0).trans rfl
              have c1 : y3.cell? ⟨v3.heap.size + 2, 1, none⟩ = some (.int .i64 ((j : Int) + 4)) := (n3.cell 1).trans rfl
              have c2 : y3.cell? ⟨v3.heap.size + 2, 2, none⟩ = some (.int .i64 0) := (n3.cell 2).trans rfl
              have hlv := lives_any y3
              clear n1 n2 n3
              go_wp2_with fail
              refine hlv.mono ?_
              rintro x y4 ⟨rfl, hb4⟩
              have HF := Lib.hid (bthen HL.out hb4)
              clear hlv hb4
              go_wp2
              go_ret
              exact ⟨rfl, HF.out⟩
set_option maxRecDepth 100000 in
set_option maxHeartbeats 8000000 in
theorem walkLoops_false (w : World) (count many : Int) : Calls Try.prog 4 #[.int .i64 count, .int .i64 many, .bool false] w fun x w' => x = .returned (.bool true) ∧ Below w.heap.size w w' := by
  obtain ⟨i1, hj, hy0, hy1, hy2⟩ := info_parts blkInfo4
  go_enter Try.func4, Try.ntmps4
  go_upto_region 1 with fail
  go_cut [7, 8] from 20 to 25 (fun a b wx => ∃ (k : Int) (n : Nat), a = .int .i64 k ∧ b = .int .i64 n ∧ (0 ≤ k ∧ k ≤ 40) ∧ 1 ≤ n ∧ n ≤ 20 ∧ w = wx)
  case first =>
    obtain ⟨k, hk⟩ : ∃ k : Int, k = max 0 (min count 40) := ⟨_, rfl⟩
    obtain ⟨n, hn⟩ : ∃ n : Nat, (n : Int) = max 1 (min many 20) := ⟨(max 1 (min many 20)).toNat, by omega⟩
    by_cases c1 : count < 40 <;> by_cases c2 : 0 < count <;> by_cases c3 : many < 20 <;> by_cases c4 : 1 < many
    all_goals first | (exfalso; omega) | skip
    all_goals have HK := Lib.hid (And.intro hk hn)
    all_goals clear hk hn
    all_goals go_wp2_with fail
    all_goals go_meet
    all_goals exact ⟨k, n, congrArg (Value.int .i64) (by have := HK.out.1; omega), congrArg (Value.int .i64) (by have := HK.out.2; omega), by have := HK.out.1; omega, by have := HK.out.2; omega, by have := HK.out.2; omega, rfl⟩
  case rest =>
    obtain ⟨k, n, rfl, rfl, hk, hn1, hn2, rfl⟩ := hcut
    have hn0 : (0 : Int) ≤ (n : Int) := Int.natCast_nonneg _
    have own0 : (w.alloc (.cells #[.int .i64 48, .int .i64 0, .int .i64 0, .int .i64 0, .int .i64 0, .int .i64 0, .int .i64 0, .int .i64 0, .int .i64 0, .int .i64 0, .int .i64 0, .int .i64 0, .slice none 0 0, .slice none 0 0, .slice none 0 0, .slice none 0 0, .slice none 0 0, .slice none 0 0, .int .i64 36, .int .i64 0, .int .i64 0, .int .i64 0, .int .i64 0, .int .i64 0, .int .i64 0, .int .i64 0, .int .i64 k, .int .i64 0, .int .i64 0, .int .i64 0, .slice none 0 0, .slice none 0 0, .slice none 0 0, .slice none 0 0, .slice none 0 0, .slice none 0 0] 45)).ownsRow w.heap.size 45 18 (.slice (some ⟨w.heap.size, 0, none⟩) 2 2) 2 [.int .i64 48, .int .i64 0, .int .i64 0, .int .i64 0, .int .i64 0, .int .i64 0, .int .i64 0, .int .i64 0, .int .i64 0, .int .i64 0, .int .i64 0, .int .i64 0, .slice none 0 0, .slice none 0 0, .slice none 0 0, .slice none 0 0, .slice none 0 0, .slice none 0 0, .int .i64 36, .int .i64 0, .int .i64 0, .int .i64 0, .int .i64 0, .int .i64 0, .int .i64 0, .int .i64 0, .int .i64 k, .int .i64 0, .int .i64 0, .int .i64 0, .slice none 0 0, .slice none 0 0, .slice none 0 0, .slice none 0 0, .slice none 0 0, .slice none 0 0] := World.ownsRow_lit w #[.int .i64 48, .int .i64 0, .int .i64 0, .int .i64 0, .int .i64 0, .int .i64 0, .int .i64 0, .int .i64 0, .int .i64 0, .int .i64 0, .int .i64 0, .int .i64 0, .slice none 0 0, .slice none 0 0, .slice none 0 0, .slice none 0 0, .slice none 0 0, .slice none 0 0, .int .i64 36, .int .i64 0, .int .i64 0, .int .i64 0, .int .i64 0, .int .i64 0, .int .i64 0, .int .i64 0, .int .i64 k, .int .i64 0, .int .i64 0, .int .i64 0, .slice none 0 0, .slice none 0 0, .slice none 0 0, .slice none 0 0, .slice none 0 0, .slice none 0 0] 2 (Nat.le_refl _) (by unfold maxLen; omega) rfl
    have HB := Lib.hid (show Below w.heap.size w (w.alloc (.cells #[.int .i64 48, .int .i64 0, .int .i64 0, .int .i64 0, .int .i64 0, .int .i64 0, .int .i64 0, .int .i64 0, .int .i64 0, .int .i64 0, .int .i64 0, .int .i64 0, .slice none 0 0, .slice none 0 0, .slice none 0 0, .slice none 0 0, .slice none 0 0, .slice none 0 0, .int .i64 36, .int .i64 0, .int .i64 0, .int .i64 0, .int .i64 0, .int .i64 0, .int .i64 0, .int .i64 0, .int .i64 k, .int .i64 0, .int .i64 0, .int .i64 0, .slice none 0 0, .slice none 0 0, .slice none 0 0, .slice none 0 0, .slice none 0 0, .slice none 0 0] 45)) from (Below.refl _ _).alloc (Nat.le_refl _) _)
    have HW0 : WBsAt (w.alloc (.cells #[.int .i64 48, .int .i64 0, .int .i64 0, .int .i64 0, .int .i64 0, .int .i64 0, .int .i64 0, .int .i64 0, .int .i64 0, .int .i64 0, .int .i64 0, .int .i64 0, .slice none 0 0, .slice none 0 0, .slice none 0 0, .slice none 0 0, .slice none 0 0, .slice none 0 0, .int .i64 36, .int .i64 0, .int .i64 0, .int .i64 0, .int .i64 0, .int .i64 0, .int .i64 0, .int .i64 0, .int .i64 k, .int .i64 0, .int .i64 0, .int .i64 0, .slice none 0 0, .slice none 0 0, .slice none 0 0, .slice none 0 0, .slice none 0 0, .slice none 0 0] 45)) (fun _ => False) (bsM k 0) [.int .i64 48, .int .i64 0, .int .i64 0, .int .i64 0, .int .i64 0, .int .i64 0, .int .i64 0, .int .i64 0, .int .i64 0, .int .i64 0, .int .i64 0, .int .i64 0, .slice none 0 0, .slice none 0 0, .slice none 0 0, .slice none 0 0, .slice none 0 0, .slice none 0 0, .int .i64 36, .int .i64 0, .int .i64 0, .int .i64 0, .int .i64 0, .int .i64 0, .int .i64 0, .int .i64 0, .int .i64 k, .int .i64 0, .int .i64 0, .int .i64 0, .slice none 0 0, .slice none 0 0, .slice none 0 0, .slice none 0 0, .slice none 0 0, .slice none 0 0] := ⟨[.int .i64 48, .int .i64 0, .int .i64 0, .int .i64 0, .int .i64 0, .int .i64 0, .int .i64 0, .int .i64 0, .int .i64 0, .int .i64 0, .int .i64 0, .int .i64 0, .slice none 0 0, .slice none 0 0, .slice none 0 0, .slice none 0 0, .slice none 0 0, .slice none 0 0], _, rfl, wb_plain' 48 0 0 _ rfl, [.int .i64 36, .int .i64 0, .int .i64 0, .int .i64 0, .int .i64 0, .int .i64 0, .int .i64 0, .int .i64 0, .int .i64 k, .int .i64 0, .int .i64 0, .int .i64 0, .slice none 0 0, .slice none 0 0, .slice none 0 0, .slice none 0 0, .slice none 0 0, .slice none 0 0], [], rfl, wb_plain' 36 0 k _ rfl, rfl⟩
    go_upto_region 4 with fail
    have HI := Lib.hid (show ∃ (j cp : Nat) (A : Option Addr) (xs : List Value), j ≤ n ∧ Value.int .i64 0 = .int .i64 (j : Int) ∧ Value.slice (some ⟨w.heap.size, 0, none⟩) 2 2 = .slice A (j + 2) cp ∧ (w.alloc (.cells #[.int .i64 48, .int .i64 0, .int .i64 0, .int .i64 0, .int .i64 0, .int .i64 0, .int .i64 0, .int .i64 0, .int .i64 0, .int .i64 0, .int .i64 0, .int .i64 0, .slice none 0 0, .slice none 0 0, .slice none 0 0, .slice none 0 0, .slice none 0 0, .slice none 0 0, .int .i64 36, .int .i64 0, .int .i64 0, .int .i64 0, .int .i64 0, .int .i64 0, .int .i64 0, .int .i64 0, .int .i64 k, .int .i64 0, .int .i64 0, .int .i64 0, .slice none 0 0, .slice none 0 0, .slice none 0 0, .slice none 0 0, .slice none 0 0, .slice none 0 0] 45)).ownsRow w.heap.size 45 18 (.slice A (j + 2) cp) (j + 2) xs ∧ WBsAt (w.alloc (.cells #[.int .i64 48, .int .i64 0, .int .i64 0, .int .i64 0, .int .i64 0, .int .i64 0, .int .i64 0, .int .i64 0, .int .i64 0, .int .i64 0, .int .i64 0, .int .i64 0, .slice none 0 0, .slice none 0 0, .slice none 0 0, .slice none 0 0, .slice none 0 0, .slice none 0 0, .int .i64 36, .int .i64 0, .int .i64 0, .int .i64 0, .int .i64 0, .int .i64 0, .int .i64 0, .int .i64 0, .int .i64 k, .int .i64 0, .int .i64 0, .int .i64 0, .slice none 0 0, .slice none 0 0, .slice none 0 0, .slice none 0 0, .slice none 0 0, .slice none 0 0] 45)) (fun _ => False) (bsM k j) xs ∧ Below w.heap.size w (w.alloc (.cells #[.int .i64 48, .int .i64 0, .int .i64 0, .int .i64 0, .int .i64 0, .int .i64 0, .int .i64 0, .int .i64 0, .int .i64 0, .int .i64 0, .int .i64 0, .int .i64 0, .slice none 0 0, .slice none 0 0, .slice none 0 0, .slice none 0 0, .slice none 0 0, .slice none 0 0, .int .i64 36, .int .i64 0, .int .i64 0, .int .i64 0, .int .i64 0, .int .i64 0, .int .i64 0, .int .i64 0, .int .i64 k, .int .i64 0, .int .i64 0, .int .i64 0, .slice none 0 0, .slice none 0 0, .slice none 0 0, .slice none 0 0, .slice none 0 0, .slice none 0 0] 45)) from ⟨0, 2, _, _, by omega, rfl, rfl, own0, HW0, HB.out⟩)
    clear own0 HW0
    generalize (w.alloc (.cells #[.int .i64 48, .int .i64 0, .int .i64 0, .int .i64 0, .int .i64 0, .int .i64 0, .int .i64 0, .int .i64 0, .int .i64 0, .int .i64 0, .int .i64 0, .int .i64 0, .slice none 0 0, .slice none 0 0, .slice none 0 0, .slice none 0 0, .slice none 0 0, .slice none 0 0, .int .i64 36, .int .i64 0, .int .i64 0, .int .i64 0, .int .i64 0, .int .i64 0, .int .i64 0, .int .i64 0, .int .i64 k, .int .i64 0, .int .i64 0, .int .i64 0, .slice none 0 0, .slice none 0 0, .slice none 0 0, .slice none 0 0, .slice none 0 0, .slice none 0 0] 45)) = w0 at *
    have hw0s := HB.out.size
    go_loopw [9, 10] (fun x y wr => ∃ (j cp : Nat) (A : Option Addr) (xs : List Value), j ≤ n ∧ y = .int .i64 (j : Int) ∧ x = .slice A (j + 2) cp ∧ wr.ownsRow w.heap.size 45 18 (.slice A (j + 2) cp) (j + 2) xs ∧ WBsAt wr (fun _ => False) (bsM k j) xs ∧ Below w.heap.size w wr) (fun _ y _ => n - (intOf y).toNat)
    case atStart => exact HI.out
    case round =>
      obtain ⟨j, cp, A, xs, hjn, rfl, rfl, hown, hW, hbl⟩ := hrel
      have hj0 : (0 : Int) ≤ (j : Int) := Int.natCast_nonneg _
      have hws := hbl.size
      by_cases hlt : j < n
      · have hlI : (j : Int) < (n : Int) := by omega
        have hwj : IntKind.i64.wrap ((j : Int) + 1) = (j : Int) + 1 := by rw [IntKind.wrap_i64]; omega
        have HC := Lib.hid (And.intro (show Reads (wr.alloc (.cells #[.int .i64 18, .int .i64 0, .int .i64 0, .int .i64 0, .int .i64 0, .int .i64 0, .int .i64 0, .int .i64 j, .int .i64 0, .int .i64 0, .int .i64 0, .int .i64 0, .slice none 0 0, .slice none 0 0, .slice none 0 0, .slice none 0 0, .slice none 0 0, .slice none 0 0] 45)) (wr.alloc (.cells #[.int .i64 18, .int .i64 0, .int .i64 0, .int .i64 0, .int .i64 0, .int .i64 0, .int .i64 0, .int .i64 j, .int .i64 0, .int .i64 0, .int .i64 0, .int .i64 0, .slice none 0 0, .slice none 0 0, .slice none 0 0, .slice none 0 0, .slice none 0 0, .slice none 0 0] 45)).heap.size 18 (some ⟨wr.heap.size, 0, none⟩) 1 [.int .i64 18, .int .i64 0, .int .i64 0, .int .i64 0, .int .i64 0, .int .i64 0, .int .i64 0, .int .i64 j, .int .i64 0, .int .i64 0, .int .i64 0, .int .i64 0, .slice none 0 0, .slice none 0 0, .slice none 0 0, .slice none 0 0, .slice none 0 0, .slice none 0 0] from ⟨rfl, fun _ => ⟨_, rfl, by simp, lit_cells wr [.int .i64 18, .int .i64 0, .int .i64 0, .int .i64 0, .int .i64 0, .int .i64 0, .int .i64 0, .int .i64 j, .int .i64 0, .int .i64 0, .int .i64 0, .int .i64 0, .slice none 0 0, .slice none 0 0, .slice none 0 0, .slice none 0 0, .slice none 0 0, .slice none 0 0] 45⟩⟩) (And.intro (show ∀ u ∈ ([.int .i64 18, .int .i64 0, .int .i64 0, .int .i64 0, .int .i64 0, .int .i64 0, .int .i64 0, .int .i64 j, .int .i64 0, .int .i64 0, .int .i64 0, .int .i64 0, .slice none 0 0, .slice none 0 0, .slice none 0 0, .slice none 0 0, .slice none 0 0, .slice none 0 0] : List Value), u.oneCell' = true by simp [Value.oneCell']) (And.intro (show j + 2 + 1 ≤ maxLen by unfold maxLen; omega) (And.intro (show (j + 2 + 1) * 240 ≤ 140737488355328 by omega) (show w.heap.size ≤ (wr.alloc (.cells #[.int .i64 18, .int .i64 0, .int .i64 0, .int .i64 0, .int .i64 0, .int .i64 0, .int .i64 0, .int .i64 j, .int .i64 0, .int .i64 0, .int .i64 0, .int .i64 0, .slice none 0 0, .slice none 0 0, .slice none 0 0, .slice none 0 0, .slice none 0 0, .slice none 0 0] 45)).heap.size by simp; omega)))))
        have hown9 := hown.alloc (.cells #[.int .i64 18, .int .i64 0, .int .i64 0, .int .i64 0, .int .i64 0, .int .i64 0, .int .i64 0, .int .i64 j, .int .i64 0, .int .i64 0, .int .i64 0, .int .i64 0, .slice none 0 0, .slice none 0 0, .slice none 0 0, .slice none 0 0, .slice none 0 0, .slice none 0 0] 45)
        have HS := Lib.hid (And.intro hown (And.intro hW hbl))
        clear hown hW hbl
        go_wp2_with (first
          | (at_builtin; refine wpList_append_any _ rfl _ _ 22 rfl w.heap.size 45 i1 (.agg #[.int .i64 0, .int .i64 0, .int .i64 0, .int .i64 0, .int .i64 0, .int .i64 0, .int .i64 0, .int .i64 0, .int .i64 0, .int .i64 0, .int .i64 0, .int .i64 0, .slice none 0 0, .slice none 0 0, .slice none 0 0, .slice none 0 0, .slice none 0 0, .slice none 0 0]) 18 240 Try.underlying22 hj hy0 hy1 hy2 rfl (by decide) (.slice A (j + 2) cp) (j + 2) xs rfl hown9 _ (some ⟨wr.heap.size, 0, none⟩) 1 1 [.int .i64 18, .int .i64 0, .int .i64 0, .int .i64 0, .int .i64 0, .int .i64 0, .int .i64 0, .int .i64 j, .int .i64 0, .int .i64 0, .int .i64 0, .int .i64 0, .slice none 0 0, .slice none 0 0, .slice none 0 0, .slice none 0 0, .slice none 0 0, .slice none 0 0] rfl (HC.out.1) HC.out.2.1 HC.out.2.2.1 HC.out.2.2.2.1 (HC.out.2.2.2.2) ?_)
          | go_in)
        intro v' w5 hown5 hg hv
        obtain ⟨A', c', rfl⟩ := own_slice hown5
        have hb5 : Below w.heap.size w w5 := (HS.out.2.2.alloc hws _).grown hg (by simp; omega) (fun b e => (HS.out.1.lt b e).1)
        have hW5 : WBsAt w5 (fun _ => False) (bsM k (j + 1)) (xs ++ [.int .i64 18, .int .i64 0, .int .i64 0, .int .i64 0, .int .i64 0, .int .i64 0, .int .i64 0, .int .i64 j, .int .i64 0, .int .i64 0, .int .i64 0, .int .i64 0, .slice none 0 0, .slice none 0 0, .slice none 0 0, .slice none 0 0, .slice none 0 0, .slice none 0 0]) := by rw [bsM_succ]; exact WBsAt.app (WBsAt.keep (fun b h => absurd h (by simp)) (fun b h => h) HS.out.2.1) ⟨[.int .i64 18, .int .i64 0, .int .i64 0, .int .i64 0, .int .i64 0, .int .i64 0, .int .i64 0, .int .i64 j, .int .i64 0, .int .i64 0, .int .i64 0, .int .i64 0, .slice none 0 0, .slice none 0 0, .slice none 0 0, .slice none 0 0, .slice none 0 0, .slice none 0 0], [], rfl, wb_plain' 18 0 0 _ rfl, rfl⟩
        have H5 := Lib.hid (And.intro hown5 (And.intro hW5 hb5))
        clear hown5 hW5 hb5 hown9 hg hv
        go_wp2
        go_roundw
        case rel => exact ⟨j + 1, c', A', _, by omega, by go_num, rfl, H5.out.1, H5.out.2.1, H5.out.2.2⟩
        case measure => simp [intOf]; omega
      · obtain rfl : j = n := by omega
        have hlI : ¬ (j : Int) < (j : Int) := by omega
        have HC := Lib.hid (And.intro (show Reads (wr.alloc (.cells #[.int .i64 37, .int .i64 0, .int .i64 0, .int .i64 0, .int .i64 0, .int .i64 0, .int .i64 0, .int .i64 0, .int .i64 0, .int .i64 0, .int .i64 0, .int .i64 0, .slice none 0 0, .slice none 0 0, .slice none 0 0, .slice none 0 0, .slice none 0 0, .slice none 0 0, .int .i64 19, .int .i64 0, .int .i64 0, .int .i64 0, .int .i64 0, .int .i64 0, .int .i64 0, .int .i64 0, .int .i64 0, .int .i64 0, .int .i64 0, .int .i64 0, .slice none 0 0, .slice none 0 0, .slice none 0 0, .slice none 0 0, .slice none 0 0, .slice none 0 0] 45)) (wr.alloc (.cells #[.int .i64 37, .int .i64 0, .int .i64 0, .int .i64 0, .int .i64 0, .int .i64 0, .int .i64 0, .int .i64 0, .int .i64 0, .int .i64 0, .int .i64 0, .int .i64 0, .slice none 0 0, .slice none 0 0, .slice none 0 0, .slice none 0 0, .slice none 0 0, .slice none 0 0, .int .i64 19, .int .i64 0, .int .i64 0, .int .i64 0, .int .i64 0, .int .i64 0, .int .i64 0, .int .i64 0, .int .i64 0, .int .i64 0, .int .i64 0, .int .i64 0, .slice none 0 0, .slice none 0 0, .slice none 0 0, .slice none 0 0, .slice none 0 0, .slice none 0 0] 45)).heap.size 18 (some ⟨wr.heap.size, 0, none⟩) 2 [.int .i64 37, .int .i64 0, .int .i64 0, .int .i64 0, .int .i64 0, .int .i64 0, .int .i64 0, .int .i64 0, .int .i64 0, .int .i64 0, .int .i64 0, .int .i64 0, .slice none 0 0, .slice none 0 0, .slice none 0 0, .slice none 0 0, .slice none 0 0, .slice none 0 0, .int .i64 19, .int .i64 0, .int .i64 0, .int .i64 0, .int .i64 0, .int .i64 0, .int .i64 0, .int .i64 0, .int .i64 0, .int .i64 0, .int .i64 0, .int .i64 0, .slice none 0 0, .slice none 0 0, .slice none 0 0, .slice none 0 0, .slice none 0 0, .slice none 0 0] from ⟨rfl, fun _ => ⟨_, rfl, by simp, lit_cells wr [.int .i64 37, .int .i64 0, .int .i64 0, .int .i64 0, .int .i64 0, .int .i64 0, .int .i64 0, .int .i64 0, .int .i64 0, .int .i64 0, .int .i64 0, .int .i64 0, .slice none 0 0, .slice none 0 0, .slice none 0 0, .slice none 0 0, .slice none 0 0, .slice none 0 0, .int .i64 19, .int .i64 0, .int .i64 0, .int .i64 0, .int .i64 0, .int .i64 0, .int .i64 0, .int .i64 0, .int .i64 0, .int .i64 0, .int .i64 0, .int .i64 0, .slice none 0 0, .slice none 0 0, .slice none 0 0, .slice none 0 0, .slice none 0 0, .slice none 0 0] 45⟩⟩) (And.intro (show ∀ u ∈ ([.int .i64 37, .int .i64 0, .int .i64 0, .int .i64 0, .int .i64 0, .int .i64 0, .int .i64 0, .int .i64 0, .int .i64 0, .int .i64 0, .int .i64 0, .int .i64 0, .slice none 0 0, .slice none 0 0, .slice none 0 0, .slice none 0 0, .slice none 0 0, .slice none 0 0, .int .i64 19, .int .i64 0, .int .i64 0, .int .i64 0, .int .i64 0, .int .i64 0, .int .i64 0, .int .i64 0, .int .i64 0, .int .i64 0, .int .i64 0, .int .i64 0, .slice none 0 0, .slice none 0 0, .slice none 0 0, .slice none 0 0, .slice none 0 0, .slice none 0 0] : List Value), u.oneCell' = true by simp [Value.oneCell']) (And.intro (show j + 2 + 2 ≤ maxLen by unfold maxLen; omega) (And.intro (show (j + 2 + 2) * 240 ≤ 140737488355328 by omega) (show w.heap.size ≤ (wr.alloc (.cells #[.int .i64 37, .int .i64 0, .int .i64 0, .int .i64 0, .int .i64 0, .int .i64 0, .int .i64 0, .int .i64 0, .int .i64 0, .int .i64 0, .int .i64 0, .int .i64 0, .slice none 0 0, .slice none 0 0, .slice none 0 0, .slice none 0 0, .slice none 0 0, .slice none 0 0, .int .i64 19, .int .i64 0, .int .i64 0, .int .i64 0, .int .i64 0, .int .i64 0, .int .i64 0, .int .i64 0, .int .i64 0, .int .i64 0, .int .i64 0, .int .i64 0, .slice none 0 0, .slice none 0 0, .slice none 0 0, .slice none 0 0, .slice none 0 0, .slice none 0 0] 45)).heap.size by simp; omega)))))
        have hown9 := hown.alloc (.cells #[.int .i64 37, .int .i64 0, .int .i64 0, .int .i64 0, .int .i64 0, .int .i64 0, .int .i64 0, .int .i64 0, .int .i64 0, .int .i64 0, .int .i64 0, .int .i64 0, .slice none 0 0, .slice none 0 0, .slice none 0 0, .slice none 0 0, .slice none 0 0, .slice none 0 0, .int .i64 19, .int .i64 0, .int .i64 0, .int .i64 0, .int .i64 0, .int .i64 0, .int .i64 0, .int .i64 0, .int .i64 0, .int .i64 0, .int .i64 0, .int .i64 0, .slice none 0 0, .slice none 0 0, .slice none 0 0, .slice none 0 0, .slice none 0 0, .slice none 0 0] 45)
        have HS := Lib.hid (And.intro hown (And.intro hW hbl))
        clear hown hW hbl
        go_upto_region 7 with fail
        go_wp2_with (first
          | (at_builtin; refine wpList_append_any _ rfl _ _ 22 rfl w.heap.size 45 i1 (.agg #[.int .i64 0, .int .i64 0, .int .i64 0, .int .i64 0, .int .i64 0, .int .i64 0, .int .i64 0, .int .i64 0, .int .i64 0, .int .i64 0, .int .i64 0, .int .i64 0, .slice none 0 0, .slice none 0 0, .slice none 0 0, .slice none 0 0, .slice none 0 0, .slice none 0 0]) 18 240 Try.underlying22 hj hy0 hy1 hy2 rfl (by decide) (.slice A (j + 2) cp) (j + 2) xs rfl hown9 _ (some ⟨wr.heap.size, 0, none⟩) 2 2 [.int .i64 37, .int .i64 0, .int .i64 0, .int .i64 0, .int .i64 0, .int .i64 0, .int .i64 0, .int .i64 0, .int .i64 0, .int .i64 0, .int .i64 0, .int .i64 0, .slice none 0 0, .slice none 0 0, .slice none 0 0, .slice none 0 0, .slice none 0 0, .slice none 0 0, .int .i64 19, .int .i64 0, .int .i64 0, .int .i64 0, .int .i64 0, .int .i64 0, .int .i64 0, .int .i64 0, .int .i64 0, .int .i64 0, .int .i64 0, .int .i64 0, .slice none 0 0, .slice none 0 0, .slice none 0 0, .slice none 0 0, .slice none 0 0, .slice none 0 0] rfl (HC.out.1) HC.out.2.1 HC.out.2.2.1 HC.out.2.2.2.1 (HC.out.2.2.2.2) ?_)
          | go_in)
        intro v' w5 hown5 hg hv
        obtain ⟨A', c', rfl⟩ := own_slice hown5
        have hb5 : Below w.heap.size w w5 := (HS.out.2.2.alloc hws _).grown hg (by simp; omega) (fun b e => (HS.out.1.lt b e).1)
        have hW5 : WBsAt w5 (fun _ => False) (bsL k j) (xs ++ [.int .i64 37, .int .i64 0, .int .i64 0, .int .i64 0, .int .i64 0, .int .i64 0, .int .i64 0, .int .i64 0, .int .i64 0, .int .i64 0, .int .i64 0, .int .i64 0, .slice none 0 0, .slice none 0 0, .slice none 0 0, .slice none 0 0, .slice none 0 0, .slice none 0 0, .int .i64 19, .int .i64 0, .int .i64 0, .int .i64 0, .int .i64 0, .int .i64 0, .int .i64 0, .int .i64 0, .int .i64 0, .int .i64 0, .int .i64 0, .int .i64 0, .slice none 0 0, .slice none 0 0, .slice none 0 0, .slice none 0 0, .slice none 0 0, .slice none 0 0]) := WBsAt.app (WBsAt.keep (fun b h => absurd h (by simp)) (fun b h => h) HS.out.2.1) ⟨[.int .i64 37, .int .i64 0, .int .i64 0, .int .i64 0, .int .i64 0, .int .i64 0, .int .i64 0, .int .i64 0, .int .i64 0, .int .i64 0, .int .i64 0, .int .i64 0, .slice none 0 0, .slice none 0 0, .slice none 0 0, .slice none 0 0, .slice none 0 0, .slice none 0 0], _, rfl, wb_plain' 37 0 0 _ rfl, [.int .i64 19, .int .i64 0, .int .i64 0, .int .i64 0, .int .i64 0, .int .i64 0, .int .i64 0, .int .i64 0, .int .i64 0, .int .i64 0, .int .i64 0, .int .i64 0, .slice none 0 0, .slice none 0 0, .slice none 0 0, .slice none 0 0, .slice none 0 0, .slice none 0 0], [], rfl, wb_plain' 19 0 0 _ rfl, rfl⟩
        have hBR : BlksR w5 (· < w5.heap.size) A' (j + 4) (bsL k j) := ⟨_, (RdP.of_own hown5).keep (fun b h => rfl) (fun b h => h.2), WBsAt.keep (fun b h => absurd h (by simp)) (fun b h => absurd h (by simp)) hW5⟩
        have hnw := new_any w5 A' (j + 4) c' (bsL k j) hBR (bsL_lite k hn2)
        have H5 := Lib.hid hb5
        clear hown5 hW5 hb5 hown9 hg hv hBR
        go_wp2_with fail
        refine hnw.mono ?_
        clear hnw
        rintro x w6 ⟨hb6, h | h | ⟨_, _, g, mb, LA, lc, rfl, hg, hm, hW⟩⟩
        · exact absurd (bsL_sound k j) h.1
        · exact absurd h.2.1 (bsL_empty k j)
        have H6 := Lib.hid (show WalkAt w6 g mb LA (j + 4) lc (bsL k j) ws0 ∧ Below w.heap.size w w6 from ⟨hW, H5.out.trans (hb6.mono H5.out.size)⟩)
        have GM := Lib.hid (show w.heap.size ≤ g ∧ w.heap.size ≤ mb from ⟨by have := H5.out.size; omega, by have := H5.out.size; omega⟩)
        clear hb6 hg hm hW
        go_upto_region 11 with fail
        go_cut [13] from 56 to 57 (fun x wx => x = .int .i64 (M1 k) ∧ w6 = wx)
        case first =>
          by_cases c1 : 1 < k <;> by_cases c2 : k < 1
          all_goals first | (exfalso; omega) | skip
          all_goals go_wp2_with fail
          all_goals go_meet
          all_goals refine ⟨congrArg (Value.int .i64) ?_, rfl⟩
          all_goals unfold M1
          all_goals split <;> omega
        case rest =>
          obtain ⟨rfl, rfl⟩ := hcut
          go_upto_region 15 with fail
          have HPP := Lib.hid (show ((1 : Nat) : Int) = passes false k from rfl)
          go_loopw [14] (fun x wr => ∃ p : Nat, x = .int .i64 (p : Int) ∧ p ≤ 1 ∧ (stI false k j p 0).ok (bsL k j) ∧ WalkAt wr g mb LA (j + 4) lc (bsL k j) (stI false k j p 0) ∧ Below w.heap.size w wr) (fun x _ => 1 - (intOf x).toNat)
          case atStart => exact ⟨0, rfl, by omega, ws0_ok _, H6.out.1, H6.out.2⟩
          case round =>
            obtain ⟨p, rfl, hpP, hok, hWk, hbl⟩ := hrel
            have hp0 : (0 : Int) ≤ (p : Int) := Int.natCast_nonneg _
            by_cases hpl : p < 1
            · have hpI : (p : Int) < (1 : Int) := by omega
              have hwp : IntKind.i64.wrap ((p : Int) + 1) = (p : Int) + 1 := by rw [IntKind.wrap_i64]; omega
              have HQ := Lib.hid (And.intro hok (And.intro hWk hbl))
              clear hok hWk hbl
              go_upto_region 18 with fail
              go_loopw [15] (fun y wx => ∃ i : Nat, y = .int .i64 (i : Int) ∧ i ≤ j ∧ (stI false k j p i).ok (bsL k j) ∧ WalkAt wx g mb LA (j + 4) lc (bsL k j) (stI false k j p i) ∧ Below w.heap.size w wx) (fun y _ => j - (intOf y).toNat)
              case atStart => exact ⟨0, rfl, by omega, HQ.out.1, HQ.out.2.1, HQ.out.2.2⟩
              case round =>
                obtain ⟨i, rfl, hij, hok, hWk, hbl⟩ := hrel
                have hi0 : (0 : Int) ≤ (i : Int) := Int.natCast_nonneg _
                by_cases hil : i < j
                · have hiI : (i : Int) < (j : Int) := by omega
                  have hwi : IntKind.i64.wrap ((i : Int) + 1) = (i : Int) + 1 := by rw [IntKind.wrap_i64]; omega
                  have hw2 : IntKind.i64.wrap (2 + (i : Int)) = 2 + (i : Int) := by rw [IntKind.wrap_i64]; omega
                  obtain ⟨s', hs1, hs2, hs3, hs4⟩ := nL_step hk hn2 (by rw [← HPP.out]; exact hpI) hil hok
                  have hnx := next_any wr g mb LA (j + 4) lc (bsL k j) (stI false k j p i) hWk hok (bsL_fine hk hn2)
                  rw [hs1] at hnx
                  simp only [stepV] at hnx
                  have hs5 := hs4 rfl
                  have HS2 := Lib.hid (And.intro hs2 (And.intro hs5 (And.intro hs5 hbl)))
                  clear hs1 hs2 hs3 hs4 hs5 hok hWk hbl
                  go_wp2_with fail
                  refine hnx.mono ?_
                  clear hnx
                  rintro x v1 ⟨rfl, hW1, hM1⟩
                  have hbv : Below w.heap.size w v1 := HS2.out.2.2.2.trans (hM1.below HS2.out.2.2.2.size (by have := GM.out.1; omega) (by have := GM.out.2; omega))
                  have HV := Lib.hid (And.intro hW1 hbv)
                  clear hW1 hM1 hbv
                  go_upto_region 21 with (first
                    | (refine wpList_store_box rfl 36 _ _ rfl (v1.heap.size) #[.int .i64 0, .int .i64 (2 + (i : Int)), .int .i64 0] rfl rfl 36 #[.int .i64 0, .int .i64 0, .int .i64 0] (Blk.new v1 _ _) stepInfo rfl (by simp [Value.oneCell']) ?_)
                    | fail)
                  intro y1 hB9 hg9
                  have hb9 : Below v1.heap.size v1 y1 := ((Below.refl _ _).alloc (Nat.le_refl _) _).grown hg9 (by simp) (fun b e => by injection e with e; omega)
                  have HY := Lib.hid (show WalkAt y1 g mb LA (j + 4) lc (bsL k j) s' ∧ Below w.heap.size w y1 from ⟨HV.out.1.below hb9, HV.out.2.trans (hb9.mono HV.out.2.size)⟩)
                  have q0 : y1.cell? ⟨v1.heap.size, 0, none⟩ = some (.int .i64 0) := (hB9.cell 0).trans rfl
                  have q1 : y1.cell? ⟨v1.heap.size, 1, none⟩ = some (.int .i64 (2 + (i : Int))) := (hB9.cell 1).trans rfl
                  have q2 : y1.cell? ⟨v1.heap.size, 2, none⟩ = some (.int .i64 0) := (hB9.cell 2).trans rfl
                  clear hB9 hg9 hb9 HV
                  have HO := Lib.hid (show (stI false k j p (i + 1)).ok (bsL k j) ∧ WalkAt y1 g mb LA (j + 4) lc (bsL k j) (stI false k j p (i + 1)) from by rw [← HS2.out.2.2.1]; exact ⟨HS2.out.1, HY.out.1⟩)
                  go_wp2
                  go_roundw
                  case rel => exact ⟨i + 1, by go_num, by omega, HO.out.1, HO.out.2, HY.out.2⟩
                  case measure => simp [intOf]; omega
                · obtain rfl : i = j := by omega
                  have hiI : ¬ (i : Int) < (i : Int) := by omega
                  rw [stI_n hn1] at hok hWk
                  have HX := Lib.hid (And.intro hok (And.intro hWk hbl))
                  clear hok hWk hbl
                  go_wp2
                  go_roundw
                  case rel => exact ⟨p + 1, by go_num, by omega, HX.out.1, HX.out.2.1, HX.out.2.2⟩
                  case measure => simp [intOf]; omega
            · have HPE := Lib.hid (show p = 1 by omega)
              have hpI : ¬ (p : Int) < (1 : Int) := by omega
              have hw3 : IntKind.i64.wrap ((j : Int) + 3) = (j : Int) + 3 := by rw [IntKind.wrap_i64]; omega
              have hw4 : IntKind.i64.wrap ((j : Int) + 4) = (j : Int) + 4 := by rw [IntKind.wrap_i64]; omega
              obtain ⟨e1, e2, e3, e4⟩ := nL_last hk hn2 hn1 (by rw [HPE.out]; exact HPP.out) hok
              have hnx := next_any wr g mb LA (j + 4) lc (bsL k j) (stI false k j p 0) hWk hok (bsL_fine hk hn2)
              rw [e1] at hnx
              simp only [stepV] at hnx
              rw [show ((j + 3 : Nat) : Int) = (j : Int) + 3 by omega] at hnx
              have HE := Lib.hid (And.intro e2 (And.intro e3 (And.intro e4 hbl)))
              clear e1 e2 e3 e4 hok hWk hbl
              go_wp2_with fail
              refine hnx.mono ?_
              clear hnx
              rintro x v1 ⟨rfl, hW1, hM1⟩
              have hb1 : Below w.heap.size w v1 := HE.out.2.2.2.trans (hM1.below HE.out.2.2.2.size (by have := GM.out.1; omega) (by have := GM.out.2; omega))
              have hnx := next_any v1 g mb LA (j + 4) lc (bsL k j) (sE j) hW1 HE.out.1 (bsL_fine hk hn2)
              rw [HE.out.2.1] at hnx
              simp only [stepV] at hnx
              rw [show ((j + 4 : Nat) : Int) = (j : Int) + 4 by omega] at hnx
              have HV1 := Lib.hid hb1
              clear hW1 hM1 hb1
              go_wp2_with fail
              refine hnx.mono ?_
              clear hnx
              rintro x v2 ⟨rfl, hW2, hM2⟩
              have hb2 : Below w.heap.size w v2 := HV1.out.trans (hM2.below HV1.out.size (by have := GM.out.1; omega) (by have := GM.out.2; omega))
              have hnx := next_any v2 g mb LA (j + 4) lc (bsL k j) (stayS (sE j) 3 ((j + 4 : Nat) : Int) 0) (by rw [show ((j + 4 : Nat) : Int) = (j : Int) + 4 by omega]; exact hW2) HE.out.2.2.1 (bsL_fine hk hn2)
              rw [nL_over] at hnx
              simp only [stepV] at hnx
              rw [show ((j + 4 : Nat) : Int) = (j : Int) + 4 by omega] at hnx
              have HV2 := Lib.hid hb2
              clear hW2 hM2 hb2
              go_wp2_with fail
              refine hnx.mono ?_
              clear hnx
              rintro x v3 ⟨rfl, hW3, hM3⟩
              have hb3 : Below w.heap.size w v3 := HV2.out.trans (hM3.below HV2.out.size (by have := GM.out.1; omega) (by have := GM.out.2; omega))
              have HV3 := Lib.hid hb3
              clear hW3 hM3 hb3
              have k1 : Blk (((v3.alloc (.cells #[.int .i64 0, .int .i64 0, .int .i64 0] 36)).alloc (.cells #[.int .i64 0, .int .i64 0, .int .i64 0] 36)).alloc (.cells #[.int .i64 0, .int .i64 0, .int .i64 0] 36)) v3.heap.size 36 #[.int .i64 0, .int .i64 0, .int .i64 0] := ((Blk.new v3 _ _).alloc _).alloc _
              have k2 : Blk (((v3.alloc (.cells #[.int .i64 0, .int .i64 0, .int .i64 0] 36)).alloc (.cells #[.int .i64 0, .int .i64 0, .int .i64 0] 36)).alloc (.cells #[.int .i64 0, .int .i64 0, .int .i64 0] 36)) (v3.heap.size + 1) 36 #[.int .i64 0, .int .i64 0, .int .i64 0] := by
                have := (Blk.new (v3.alloc (.cells #[.int .i64 0, .int .i64 0, .int .i64 0] 36)) 36 #[.int .i64 0, .int .i64 0, .int .i64 0]).alloc (.cells #[.int .i64 0, .int .i64 0, .int .i64 0] 36)
                simpa using this
              have k3 : Blk (((v3.alloc (.cells #[.int .i64 0, .int .i64 0, .int .i64 0] 36)).alloc (.cells #[.int .i64 0, .int .i64 0, .int .i64 0] 36)).alloc (.cells #[.int .i64 0, .int .i64 0, .int .i64 0] 36)) (v3.heap.size + 2) 36 #[.int .i64 0, .int .i64 0, .int .i64 0] := by
                have := Blk.new ((v3.alloc (.cells #[.int .i64 0, .int .i64 0, .int .i64 0] 36)).alloc (.cells #[.int .i64 0, .int .i64 0, .int .i64 0] 36)) 36 #[.int .i64 0, .int .i64 0, .int .i64 0]
                simpa using this
              have hb4 : Below w.heap.size w (((v3.alloc (.cells #[.int .i64 0, .int .i64 0, .int .i64 0] 36)).alloc (.cells #[.int .i64 0, .int .i64 0, .int .i64 0] 36)).alloc (.cells #[.int .i64 0, .int .i64 0, .int .i64 0] 36)) := ((HV3.out.alloc HV3.out.size _).alloc (by have := HV3.out.size; simp; omega) _).alloc (by have := HV3.out.size; simp; omega) _
              have HK := Lib.hid (And.intro k2 (And.intro k3 hb4))
              clear k2 k3 hb4
              go_wp2_with (first
                | (refine wpList_store_box rfl 36 _ _ rfl (v3.heap.size) #[.int .i64 0, .int .i64 ((j : Int) + 3), .int .i64 0] rfl rfl 36 #[.int .i64 0, .int .i64 0, .int .i64 0] k1 stepInfo rfl (by simp [Value.oneCell']) ?_)
                | fail)
              intro y1 l1 hg1
              have m2 := HK.out.1.grown hg1 (fun e => by injection e with e; omega)
              have HK1 := Lib.hid (And.intro l1 (And.intro (HK.out.2.1.grown hg1 (fun e => by injection e with e; omega)) (HK.out.2.2.grown hg1 HK.out.2.2.size (fun b e => by injection e with e; have := HV3.out.size; omega))))
              clear l1 hg1 k1
              go_wp2_with (first
                | (refine wpList_store_box rfl 36 _ _ rfl (v3.heap.size + 1) #[.int .i64 3, .int .i64 ((j : Int) + 4), .int .i64 0] rfl rfl 36 #[.int .i64 0, .int .i64 0, .int .i64 0] m2 stepInfo rfl (by simp [Value.oneCell']) ?_)
                | fail)
              intro y2 l2 hg2
              have m3 := HK1.out.2.1.grown hg2 (fun e => by injection e with e; omega)
              have HK2 := Lib.hid (And.intro (HK1.out.1.grown hg2 (fun e => by injection e with e; omega)) (And.intro l2 (HK1.out.2.2.grown hg2 HK1.out.2.2.size (fun b e => by injection e with e; have := HV3.out.size; omega))))
              clear l2 hg2 m2
              go_wp2_with (first
                | (refine wpList_store_box rfl 36 _ _ rfl (v3.heap.size + 2) #[.int .i64 3, .int .i64 ((j : Int) + 4), .int .i64 0] rfl rfl 36 #[.int .i64 0, .int .i64 0, .int .i64 0] m3 stepInfo rfl (by simp [Value.oneCell']) ?_)
                | fail)
              intro y3 l3 hg3
              have n1 := HK2.out.1.grown hg3 (fun e => by injection e with e; omega)
              have n2 := HK2.out.2.1.grown hg3 (fun e => by injection e with e; omega)
              have n3 : Blk y3 (v3.heap.size + 2) 36 #[.int .i64 3, .int .i64 ((j : Int) + 4), .int .i64 0] := l3
              have HL := Lib.hid (HK2.out.2.2.grown hg3 HK2.out.2.2.size (fun b e => by injection e with e; have := HV3.out.size; omega))
              clear hg3 m3 l3
              have a0 : y3.cell? ⟨v3.heap.size, 0, none⟩ = some (.int .i64 0) := (n1.cell 0).trans rfl
              have a1 : y3.cell? ⟨v3.heap.size, 1, none⟩ = some (.int .i64 ((j : Int) + 3)) := (n1.cell 1).trans rfl
              have b0 : y3.cell? ⟨v3.heap.size + 1, 0, none⟩ = some (.int .i64 3) := (n2.cell 0).trans rfl
              have b1 : y3.cell? ⟨v3.heap.size + 1, 1, none⟩ = some (.int .i64 ((j : Int) + 4)) := (n2.cell 1).trans rfl
              have b2 : y3.cell? ⟨v3.heap.size + 1, 2, none⟩ = some (.int .i64 0) := (n2.cell 2).trans rfl
              have c0 : y3.cell? ⟨v3.heap.size + 2, 0, none⟩ = some (.int .i64 3) := (n3.cell 0).trans rfl
              have c1 : y3.cell? ⟨v3.heap.size + 2, 1, none⟩ = some (.int .i64 ((j : Int) + 4)) := (n3.cell 1).trans rfl
              have c2 : y3.cell? ⟨v3.heap.size + 2, 2, none⟩ = some (.int .i64 0) := (n3.cell 2).trans rfl
              have hlv := lives_any y3
              clear n1 n2 n3
              go_wp2_with fail
              refine hlv.mono ?_
              rintro x y4 ⟨rfl, hb4⟩
              have HF := Lib.hid (bthen HL.out hb4)
              clear hlv hb4
              go_wp2
              go_ret
              exact ⟨rfl, HF.out⟩
theorem walkLoops_walk (count many : Int) (hd : Bool) (w : World) : Calls Try.prog 4 #[.int .i64 count, .int .i64 many, .bool hd] w fun x w' => x = .returned (.bool true) ∧ Below w.heap.size w w' := by
  cases hd with
  | true => exact walkLoops_true w count many
  | false => exact walkLoops_false w count many
end Go.Proofs.Ytnmapncgnceldaa
