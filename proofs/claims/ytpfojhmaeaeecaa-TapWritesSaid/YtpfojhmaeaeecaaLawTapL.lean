/- The laws of layer 18: their fixed example, and TapSums, walked. -/
import Derived.Test.YtpfojhmaeaeecaaTap2
namespace Go.Proofs.Ytpfojhmaeaeecaa
open Go.RowKit

theorem conv18 {w : World} {B n : Nat} {A : Option Addr} {zs : List Int} (c : Nat) (hr : Reads w B 1 A n (zs.map (Value.int .u8))) : (convert 22 9 (.slice A n c)).run Try.prog w = .ok (.string (strOfNums zs)) w :=
  conv_reads w 22 5 9 Try.underlying22 Try.underlying5 Try.underlying9 c hr
theorem prs_four : prs 0 0 [2, 0, 5, 5] = .ok [[5, 5]] := by
  rw [prs_more (by decide) (by decide) (by decide)]
  rw [prs_end (by decide)]
  rfl
theorem lives18 (w : World) :
    Calls Try.prog 13 #[] w fun e w' => e = .returned (.bool true) ∧ Below w.heap.size w w' := by
  have hb0 : Below w.heap.size w (w.alloc (.cells #[.int .u8 2, .int .u8 0, .int .u8 5, .int .u8 5] 5)) := (Below.refl _ _).alloc (Nat.le_refl _) _
  have hr0 := reads_new w 5 #[.int .u8 2, .int .u8 0, .int .u8 5, .int .u8 5] (([2, 0, 5, 5] : List Int).map (Value.int .u8)) rfl
  go_enter Try.func13, Try.ntmps13
  go_wp2_with fail
  generalize w.alloc (.cells #[.int .u8 2, .int .u8 0, .int .u8 5, .int .u8 5] 5) = W at *
  refine (parse_any W 4 4 _ [2, 0, 5, 5] hr0 (by unfold isU8; decide) (by omega) (by omega) (by omega)).mono ?_
  rintro e w1 ⟨hb1, h⟩
  rw [prs_four] at h
  rcases h with ⟨v, qs, hq, rfl, hown, hqs⟩ | ⟨_, _, _, hq, _⟩
  · injection hq with hq
    obtain ⟨q, rfl⟩ : ∃ q, qs = [q] := by
      match qs, hq with
      | [q], _ => exact ⟨q, rfl⟩
      | [], h => simp at h
      | _ :: _ :: _, h => simp at h
    have hqz : q.zs = [5, 5] := by simpa using hq.symm
    have hok := hqs q (by simp)
    obtain ⟨qv, qz⟩ := q
    simp only at hqz
    subst hqz
    change w1.ownsRow _ _ 1 qv 2 _ at hok
    obtain ⟨PA, pc, rfl⟩ := own_slice hok
    change w1.ownsRow _ _ 1 v 1 [.slice PA 2 pc] at hown
    obtain ⟨g, cap, rfl, _, _⟩ := hown.form (by omega)
    have hc0 := hown.cellAt 0 (by omega)
    simp only [List.getElem?_cons_zero] at hc0
    have hcv := conv18 pc (Reads.of_own hok)
    rw [show strOfNums [5, 5] = ⟨#[5, 5]⟩ from rfl] at hcv
    have hrt := right_any w1 _ 2 pc PA [5, 5] (Reads.of_own hok) (by omega)
    rw [show (decide (0 < 2) && (sumX [5, 5] == 0)) = true by decide] at hrt
    clear hok hown hqs
    go_wp2_with fail
    refine hrt.mono ?_
    rintro e w2 ⟨rfl, rfl⟩
    go_wp2
    go_ret
    exact ⟨rfl, bthen hb0 hb1⟩
  · cases hq

theorem tapSums_walk (A : Option Addr) (n c : Nat) (zs : List Int) (w : World) (w0 : IsRow .u8 w A n c zs) :
    Calls Try.prog 4 #[.slice A n c] w fun e w' => e = .returned (.bool true) ∧ Below w.heap.size w w' := by
  obtain ⟨hr, hz, hnc, hc⟩ := row_u8 w0
  clear w0
  generalize zs.take n = ys at *
  by_cases hn : (n : Int) ≤ 20000
  · have h1 := sum18R_any w n c A ys hr hz (by omega)
    have h2 := fun w' (h : Below w.heap.size w w') => sum_any w' w.heap.size n c A ys (hr.below h) (by omega)
    have h3 := fun w' (h : Below w.heap.size w w') => right_any w' w.heap.size n c A ys (hr.below h) (by omega)
    obtain ⟨s0, s1⟩ := sumX_in ys.length ys (Nat.le_refl _) hz
    have hI : decide (0 < n) = decide ((0 : Int) < (n : Int)) := by simp
    rw [hI] at h3
    have H2 := Lib.hid h2
    have H3 := Lib.hid h3
    clear h2 h3
    generalize sumX ys = S at *
    go_enter Try.func4, Try.ntmps4
    go_wp2_with fail
    refine h1.mono ?_
    rintro e w1 ⟨rfl, hb1⟩
    go_wp2_with fail
    refine (H2.out w1 hb1).mono ?_
    rintro e w2 ⟨rfl, rfl⟩
    go_wp2_with fail
    refine (H3.out w1 hb1).mono ?_
    rintro e w2 ⟨rfl, rfl⟩
    by_cases hn0 : (0 : Int) < (n : Int)
    · by_cases hS : S = 0
      · subst hS
        go_wp2_with fail
        refine (lives18 _).mono ?_
        rintro e w3 ⟨rfl, hb3⟩
        go_wp2
        go_ret
        exact ⟨rfl, bthen hb1 hb3⟩
      · have hSb : (S == 0) = false := by simpa using hS
        go_wp2_with fail
        refine (lives18 _).mono ?_
        rintro e w3 ⟨rfl, hb3⟩
        go_wp2
        go_ret
        exact ⟨rfl, bthen hb1 hb3⟩
    · go_wp2_with fail
      refine (lives18 _).mono ?_
      rintro e w3 ⟨rfl, hb3⟩
      go_wp2
      go_ret
      exact ⟨rfl, bthen hb1 hb3⟩
  · go_enter Try.func4, Try.ntmps4
    go_wp2_with fail
    refine (lives18 _).mono ?_
    rintro e w3 ⟨rfl, hb3⟩
    go_wp2
    go_ret
    exact ⟨rfl, hb3⟩

end Go.Proofs.Ytpfojhmaeaeecaa
