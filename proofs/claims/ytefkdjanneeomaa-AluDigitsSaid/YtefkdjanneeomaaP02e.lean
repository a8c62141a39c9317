/- Plain numbers for the law AluDigits: two numbers of two digits, added or subtracted and then adjusted. No program stands here. -/
import Derived.Test.YtefkdjanneeomaaP02b
namespace Go.Proofs.Ytefkdjanneeomaa
open Go.RowKit

theorem addF_bits (a b : Int) (c : Bool) : bitH (addF a b c) 3 = decide (16 ≤ a % 16 + b % 16 + b2i c) ∧ bitH (addF a b c) 6 = false ∧ bitH (addF a b c) 7 = decide (256 ≤ addN a b c) := by
  unfold addF
  refine ⟨?_, ?_, ?_⟩
  all_goals
    rw [flagsS_bit _ _ _ _ _ _ _ _ (by omega)]
    try simp [sel8]
theorem subF_bits3 (a b : Int) (c : Bool) : bitH (subF a b c) 3 = decide (a % 16 < b % 16 + b2i c) ∧ bitH (subF a b c) 6 = true ∧ bitH (subF a b c) 7 = decide (subN a b c < 0) := by
  unfold subF
  refine ⟨?_, ?_, ?_⟩
  all_goals
    rw [flagsS_bit _ _ _ _ _ _ _ _ (by omega)]
    try simp [sel8]
theorem daaF_bit7 (a f : Int) : bitH (daaF a f) 7 = daaC a f := by
  unfold daaF
  rw [flagsS_bit _ _ _ _ _ _ _ _ (by omega)]
  simp [sel8]

/-- a number of two digits, as a byte -/
def dig (m : Int) : Int := m / 10 * 16 + m % 10
theorem dig_bd {m : Int} (h0 : 0 ≤ m) (h1 : m ≤ 99) : 0 ≤ dig m ∧ dig m ≤ 153 := by unfold dig; omega
theorem b2i_f : b2i false = 0 := rfl

theorem iff_of_dec {x : Bool} {p : Prop} [Decidable p] (h : x = decide p) : (x = true) = p := by rw [h, decide_eq_true_eq]
theorem daaD_val {a f x y : Int} (h1 : (x = 6 ∧ (bitH f 3 = true ∨ 9 < a % 16)) ∨ (x = 0 ∧ ¬ (bitH f 3 = true ∨ 9 < a % 16))) (h2 : (y = 96 ∧ (bitH f 7 = true ∨ 153 < a)) ∨ (y = 0 ∧ ¬ (bitH f 7 = true ∨ 153 < a))) : daaD a f = x + y := by
  unfold daaD
  rcases h1 with ⟨rfl, h1⟩ | ⟨rfl, h1⟩ <;> rcases h2 with ⟨rfl, h2⟩ | ⟨rfl, h2⟩ <;> simp only [h1, h2, if_true, if_false]
theorem dig_add {m n : Int} (m0 : 0 ≤ m) (m1 : m ≤ 99) (n0 : 0 ≤ n) (n1 : n ≤ 99) :
    daaR (addR (dig m) (dig n) false) (addF (dig m) (dig n) false) = dig ((m + n) % 100) ∧ bitH (daaF (addR (dig m) (dig n) false) (addF (dig m) (dig n) false)) 7 = decide (99 < m + n) := by
  obtain ⟨e3, e6, e7⟩ := addF_bits (dig m) (dig n) false
  have e3' := iff_of_dec e3
  have e7' := iff_of_dec e7
  rw [daaF_bit7]
  have hm := Int.emod_add_mul_ediv m 10
  have hn := Int.emod_add_mul_ediv n 10
  have qm : 0 ≤ m / 10 ∧ m / 10 ≤ 9 := by omega
  have qn : 0 ≤ n / 10 ∧ n / 10 ≤ 9 := by omega
  have rm : 0 ≤ m % 10 ∧ m % 10 ≤ 9 := by omega
  have rn : 0 ≤ n % 10 ∧ n % 10 ≤ 9 := by omega
  have dm : dig m = m / 10 * 16 + m % 10 := rfl
  have dn : dig n = n / 10 * 16 + n % 10 := rfl
  have dl : dig ((m + n) % 100) = ((m + n) % 100) / 10 * 16 + ((m + n) % 100) % 10 := rfl
  rw [dl]
  generalize addF (dig m) (dig n) false = F at *
  have hR : addR (dig m) (dig n) false = (dig m + dig n) % 256 := by simp only [addR, addN, b2i_f]; congr 1; omega
  have hN : addN (dig m) (dig n) false = dig m + dig n := by simp only [addN, b2i_f]; omega
  rw [hN] at e7 e7'
  rw [b2i_f] at e3 e3'
  rw [hR]
  generalize m / 10 = x at *
  generalize n / 10 = y at *
  generalize m % 10 = u at *
  generalize n % 10 = v at *
  rw [dm, dn] at e3' e7' e7 ⊢
  clear dm dn dl hR hN e3
  have hint0 : 99 < m + n ∨ (10 ≤ u + v ∧ x + y ≤ 8) ∨ (u + v ≤ 9 ∧ x + y ≤ 9) := by omega
  have hint : 99 < m + n ∨ (m + n ≤ 99 ∧ 0 ≤ x * 16 + u + (y * 16 + v) ∧ x * 16 + u + (y * 16 + v) ≤ 153) := by rcases hint0 with h | ⟨h, k⟩ | ⟨h, k⟩ <;> omega
  constructor
  · unfold daaR
    rw [if_neg (by rw [e6]; simp)]
    by_cases h1 : 10 ≤ u + v
    · by_cases h2 : 99 < m + n
      · rw [daaD_val (x := 6) (y := 96) (.inl ⟨rfl, by rw [e3']; omega⟩) (.inl ⟨rfl, by rw [e7']; omega⟩)]; omega
      · rw [daaD_val (x := 6) (y := 0) (.inl ⟨rfl, by rw [e3']; omega⟩) (.inr ⟨rfl, by rw [e7']; omega⟩)]; omega
    · by_cases h2 : 99 < m + n
      · rw [daaD_val (x := 0) (y := 96) (.inr ⟨rfl, by rw [e3']; omega⟩) (.inl ⟨rfl, by rw [e7']; omega⟩)]; omega
      · rw [daaD_val (x := 0) (y := 0) (.inr ⟨rfl, by rw [e3']; omega⟩) (.inr ⟨rfl, by rw [e7']; omega⟩)]; omega
  · unfold daaC
    rw [e7, ← Bool.decide_or]
    exact decide_eq_decide.2 (by rcases hint with h | h <;> omega)

theorem dig_sub {m n : Int} (m0 : 0 ≤ m) (m1 : m ≤ 99) (n0 : 0 ≤ n) (n1 : n ≤ 99) :
    daaR (subR (dig m) (dig n) false) (subF (dig m) (dig n) false) = dig ((m - n + 100) % 100) ∧ bitH (daaF (subR (dig m) (dig n) false) (subF (dig m) (dig n) false)) 7 = decide (m - n < 0) := by
  obtain ⟨e3, e6, e7⟩ := subF_bits3 (dig m) (dig n) false
  have e3' := iff_of_dec e3
  have e7' := iff_of_dec e7
  rw [daaF_bit7]
  have hm := Int.emod_add_mul_ediv m 10
  have hn := Int.emod_add_mul_ediv n 10
  have qm : 0 ≤ m / 10 ∧ m / 10 ≤ 9 := by omega
  have qn : 0 ≤ n / 10 ∧ n / 10 ≤ 9 := by omega
  have rm : 0 ≤ m % 10 ∧ m % 10 ≤ 9 := by omega
  have rn : 0 ≤ n % 10 ∧ n % 10 ≤ 9 := by omega
  have dm : dig m = m / 10 * 16 + m % 10 := rfl
  have dn : dig n = n / 10 * 16 + n % 10 := rfl
  have dl : dig ((m - n + 100) % 100) = ((m - n + 100) % 100) / 10 * 16 + ((m - n + 100) % 100) % 10 := rfl
  rw [dl]
  generalize subF (dig m) (dig n) false = F at *
  have hR : subR (dig m) (dig n) false = (dig m - dig n) % 256 := by simp only [subR, subN, b2i_f]; congr 1; omega
  have hN : subN (dig m) (dig n) false = dig m - dig n := by simp only [subN, b2i_f]; omega
  rw [hN] at e7 e7'
  rw [b2i_f] at e3 e3'
  rw [hR]
  generalize m / 10 = x at *
  generalize n / 10 = y at *
  generalize m % 10 = u at *
  generalize n % 10 = v at *
  rw [dm, dn] at e3' e7' e7 ⊢
  clear dm dn dl hR hN e3
  have hint0 : m - n < 0 ∨ (u < v ∧ 1 ≤ x - y) ∨ (v ≤ u ∧ 0 ≤ x - y) := by omega
  have hint : m - n < 0 ∨ (0 ≤ m - n ∧ 0 ≤ x * 16 + u - (y * 16 + v) ∧ x * 16 + u - (y * 16 + v) ≤ 153) := by rcases hint0 with h | ⟨h, k⟩ | ⟨h, k⟩ <;> omega
  constructor
  · unfold daaR
    rw [if_pos e6]
    by_cases h1 : u < v
    · by_cases h2 : m - n < 0
      · rw [daaD_val (x := 6) (y := 96) (.inl ⟨rfl, by rw [e3']; omega⟩) (.inl ⟨rfl, by rw [e7']; omega⟩)]; omega
      · rw [daaD_val (x := 6) (y := 0) (.inl ⟨rfl, by rw [e3']; omega⟩) (.inr ⟨rfl, by rw [e7']; omega⟩)]; omega
    · by_cases h2 : m - n < 0
      · rw [daaD_val (x := 0) (y := 96) (.inr ⟨rfl, by rw [e3']; omega⟩) (.inl ⟨rfl, by rw [e7']; omega⟩)]; omega
      · rw [daaD_val (x := 0) (y := 0) (.inr ⟨rfl, by rw [e3']; omega⟩) (.inr ⟨rfl, by rw [e7']; omega⟩)]; omega
  · unfold daaC
    rw [e7, ← Bool.decide_or]
    exact decide_eq_decide.2 (by rcases hint with h | h <;> omega)

end Go.Proofs.Ytefkdjanneeomaa
