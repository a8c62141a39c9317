/- The laws of layer 31: what both walks lean on. -/
import Derived.Test.YthhodkadfenkbaaR31e
import Derived.Deep.RegionWith
import Derived.Deep.CutRange
namespace Go.Proofs.Ythhodkadfenkbaa
open Go.RowKit

theorem own_cap {w : World} {B e size n m cap : Nat} {A : Option Addr} {xs : List Value} (h : w.ownsRow B e size (.slice A n cap) m xs) : cap ≤ maxLen := by
  rcases h.2 with ⟨h0, _⟩ | ⟨g', cap', cur, hv, _, _, h1, h2, _⟩
  · injection h0 with _ _ e; subst e; unfold maxLen; omega
  · injection hv with _ e1 e2
    subst e2
    exact h2
theorem conv_any {w : World} {B n : Nat} {A : Option Addr} {zs : List Int} (c : Nat) (hr : Reads w B 1 A n (zs.map (Value.int .u8))) : (convert 22 9 (.slice A n c)).run Try.prog w = .ok (.string (strOfNums zs)) w :=
  conv_reads w 22 5 9 Try.underlying22 Try.underlying5 Try.underlying9 c hr

theorem packL_in (n : Nat) : ∀ (al : Bool) (zs : List Int), zs.length ≤ n → isU8 zs → isU8 (packL al zs) := by
  induction n with
  | zero => intro al zs h _; obtain rfl : zs = [] := List.eq_nil_of_length_eq_zero (by omega); rw [packL_nil]; intro z hz; simp at hz
  | succ n ih =>
    intro al zs h hz
    by_cases h0 : 0 < zs.length
    · have hx := isU8_at hz h0
      cases hr : rawB al zs with
      | true =>
        have ih1 := ih (zs.getD 0 0 == 237 && !al) (zs.drop 1) (by simp; omega) (isU8_drop hz 1)
        rw [packL_raw h0 hr]
        intro z hm
        rcases List.mem_cons.1 hm with rfl | hm
        · exact hx
        · exact ih1 z hm
      | false =>
        have hk := (rawB_false hr).2
        have hk1 : 2 ≤ runN zs := by omega
        have ih1 := ih false (zs.drop (runN zs)) (by simp; omega) (isU8_drop hz _)
        have h255 := runN_255 zs
        rw [packL_run h0 hr]
        intro z hm
        simp only [List.mem_cons] at hm
        rcases hm with rfl | rfl | rfl | rfl | hm
        · omega
        · omega
        · omega
        · exact hx
        · exact ih1 z hm
    · obtain rfl : zs = [] := List.eq_nil_of_length_eq_zero (by omega)
      rw [packL_nil]; intro z hz; simp at hz

theorem pack_five : packL false [7, 7, 7, 7, 7] = [237, 237, 5, 7] := by
  rw [packL_run (by decide) (by decide)]
  rw [show runN [7, 7, 7, 7, 7] = 5 by decide]
  simp [packL_nil]
theorem pack_seven : packL false [237, 7, 7, 7, 7, 7, 7] = [237, 7, 237, 237, 5, 7] := by
  rw [packL_raw (by decide) (by decide), show (([237, 7, 7, 7, 7, 7, 7] : List Int).getD 0 0 == 237 && !false) = true by decide, List.drop_succ_cons, List.drop_zero]
  rw [packL_raw (by decide) (by decide), show (([7, 7, 7, 7, 7, 7] : List Int).getD 0 0 == 237 && !true) = false by decide, List.drop_succ_cons, List.drop_zero, pack_five]
  rfl
theorem str_five : strOfNums [237, 237, 5, 7] = ⟨#[237, 237, 5, 7]⟩ := by rfl
theorem str_seven : strOfNums [237, 7, 237, 237, 5, 7] = ⟨#[237, 7, 237, 237, 5, 7]⟩ := by rfl

set_option maxHeartbeats 1000000 in
theorem lives31 (w : World) :
    Calls Try.prog 5 #[] w fun e w' => e = .returned (.bool true) ∧ Below w.heap.size w w' := by
  have hb0 : Below w.heap.size w (w.alloc (.cells #[.int .u8 7, .int .u8 7, .int .u8 7, .int .u8 7, .int .u8 7] 5)) := (Below.refl _ _).alloc (Nat.le_refl _) _
  have hr0 := reads_new w 5 #[.int .u8 7, .int .u8 7, .int .u8 7, .int .u8 7, .int .u8 7] (([7, 7, 7, 7, 7] : List Int).map (Value.int .u8)) rfl
  have hs0 : (w.alloc (.cells #[.int .u8 7, .int .u8 7, .int .u8 7, .int .u8 7, .int .u8 7] 5)).heap.size = w.heap.size + 1 := by simp
  go_enter Try.func5, Try.ntmps5
  go_wp2_with fail
  generalize w.alloc (.cells #[.int .u8 7, .int .u8 7, .int .u8 7, .int .u8 7, .int .u8 7] 5) = w1 at *
  refine (pack_any w1 5 5 _ [7, 7, 7, 7, 7] hr0 (by omega) (by omega) (by omega)).mono ?_
  rintro e w2 ⟨v, rfl, hown, hb1⟩
  rw [pack_five] at hown
  change w2.ownsRow _ _ 1 _ 4 _ at hown
  obtain ⟨A1, c1, rfl⟩ := own_slice hown
  have hcv := conv_any c1 (Reads.of_own hown)
  rw [str_five] at hcv
  have hr1 := reads_new w2 5 #[.int .u8 237, .int .u8 7, .int .u8 7, .int .u8 7, .int .u8 7, .int .u8 7, .int .u8 7] (([237, 7, 7, 7, 7, 7, 7] : List Int).map (Value.int .u8)) rfl
  have hb2 : Below w2.heap.size w2 (w2.alloc (.cells #[.int .u8 237, .int .u8 7, .int .u8 7, .int .u8 7, .int .u8 7, .int .u8 7, .int .u8 7] 5)) := (Below.refl _ _).alloc (Nat.le_refl _) _
  clear hown
  go_wp2_with fail
  clear hcv
  generalize w2.alloc (.cells #[.int .u8 237, .int .u8 7, .int .u8 7, .int .u8 7, .int .u8 7, .int .u8 7, .int .u8 7] 5) = w3 at *
  refine (pack_any w3 7 7 _ [237, 7, 7, 7, 7, 7, 7] hr1 (by omega) (by omega) (by omega)).mono ?_
  rintro e w4 ⟨v2, rfl, hown2, hb3⟩
  rw [pack_seven] at hown2
  change w4.ownsRow _ _ 1 _ 6 _ at hown2
  obtain ⟨A2, c2, rfl⟩ := own_slice hown2
  have hcv := conv_any c2 (Reads.of_own hown2)
  rw [str_seven] at hcv
  clear hown2
  go_wp2
  go_ret
  exact ⟨rfl, bthen (bthen (bthen hb0 hb1) hb2) hb3⟩

end Go.Proofs.Ythhodkadfenkbaa
