/- Contracts of layer 10: what the document reads of its list of keys that are down. -/
import Derived.Test.YtfcnlgkaejkneaaP10
namespace Go.Proofs.Ytfcnlgkaejkneaa
open Go.RowKit

theorem sumR_in (zs : List Int) (h : Int) : 0 ≤ sumR zs h 1 ∧ sumR zs h 1 ≤ 1 ∧ 0 ≤ sumR zs h 2 ∧ sumR zs h 2 ≤ 3 ∧ 0 ≤ sumR zs h 3 ∧ sumR zs h 3 ≤ 7 ∧ 0 ≤ sumR zs h 4 ∧ sumR zs h 4 ≤ 15 ∧ 0 ≤ sumR zs h 5 ∧ sumR zs h 5 ≤ 31 := by
  simp only [sumR]
  cases upR zs h 0 8 <;> cases upR zs h 1 8 <;> cases upR zs h 2 8 <;> cases upR zs h 3 8 <;> cases upR zs h 4 8 <;> simp
theorem sumR_bd (zs : List Int) (h : Int) {b : Nat} (hb : b ≤ 5) : 0 ≤ sumR zs h b ∧ sumR zs h b ≤ 31 := by
  obtain ⟨h1, h2, h3, h4, h5, h6, h7, h8, h9, h10⟩ := sumR_in zs h
  rcases (show b = 0 ∨ b = 1 ∨ b = 2 ∨ b = 3 ∨ b = 4 ∨ b = 5 by omega) with rfl | rfl | rfl | rfl | rfl | rfl
  · simp [sumR]
  all_goals omega
theorem pow_bd {b : Nat} (hb : b ≤ 5) : (1 : Int) ≤ 2 ^ b ∧ (2 : Int) ^ b ≤ 32 := by
  rcases (show b = 0 ∨ b = 1 ∨ b = 2 ∨ b = 3 ∨ b = 4 ∨ b = 5 by omega) with rfl | rfl | rfl | rfl | rfl | rfl <;> decide
theorem half_bd {h : Int} (h0 : 0 ≤ h) (h1 : h ≤ 255) (r : Nat) : 0 ≤ h / 2 ^ r ∧ h / 2 ^ r ≤ 255 := by
  have hp : (0 : Int) < 2 ^ r := Int.pow_pos (by decide)
  refine ⟨Int.ediv_nonneg h0 (Int.le_of_lt hp), ?_⟩
  exact Int.le_trans (Int.ediv_le_self _ h0) h1
theorem half_next (h : Int) (r : Nat) : h / 2 ^ r / 2 = h / 2 ^ (r + 1) := by
  rw [Int.ediv_ediv_of_nonneg (by exact Int.le_of_lt (Int.pow_pos (by decide))), Int.pow_succ]

set_option maxRecDepth 100000 in
set_option maxHeartbeats 2000000 in
theorem readR_any (A : Option Addr) (m c : Nat) (zs : List Int) (h : Int) (B : Nat) (w : World) (hr : Reads w B 1 A m (zs.map (Value.int .i64))) (hm : m ≤ 100000) (h0 : 0 ≤ h) (h1 : h ≤ 255) :
    Calls Try.prog 58 #[.slice A m c, .int .u8 h] w fun e w' => e = .returned (.int .u8 (sumR zs h 5)) ∧ w = w' := by
  go_enter Try.func58, Try.ntmps58
  go_wp2
  go_loop [5, 6, 7] (fun v p x => ∃ b : Nat, (b : Int) ≤ 5 ∧ x = .int .i64 b ∧ v = .int .i64 (sumR zs h b) ∧ p = .int .i64 (2 ^ b)) (fun _ _ x => 5 - (intOf x).toNat)
  case atStart => exact ⟨0, by omega, rfl, rfl, rfl⟩
  case round =>
    obtain ⟨b, hb, rfl, rfl, rfl⟩ := hrel
    by_cases hlt : (b : Int) < 5
    · obtain ⟨s0, s1⟩ := sumR_bd zs h (b := b) (by omega)
      obtain ⟨p0, p1⟩ := pow_bd (b := b) (by omega)
      have HS := Lib.hid (show sumR zs h (b + 1) = sumR zs h b + if upR zs h b 8 then 2 ^ b else 0 from rfl)
      have HPW := Lib.hid (show (2 : Int) ^ (b + 1) = 2 * 2 ^ b by rw [Int.pow_succ]; omega)
      generalize sumR zs h b = S at *
      generalize (2 : Int) ^ b = Pw at *
      go_wp2
      go_loop [8, 9, 10] (fun u y x => ∃ r : Nat, (r : Int) ≤ 8 ∧ x = .int .i64 r ∧ y = .int .i64 (h / 2 ^ r) ∧ u = .bool (upR zs h b r)) (fun _ _ x => 8 - (intOf x).toNat)
      case atStart => exact ⟨0, by omega, rfl, by simp, rfl⟩
      case round =>
        obtain ⟨r, hr8, rfl, rfl, rfl⟩ := hrel
        by_cases hrl : (r : Int) < 8
        · obtain ⟨q0, q1⟩ := half_bd h0 h1 r
          have HN := Lib.hid (half_next h r)
          have HU := Lib.hid (show upR zs h b (r + 1) = (upR zs h b r && !(decide (h / 2 ^ r % 2 = 0) && decide ((5 * r + b : Int) ∈ zs))) from rfl)
          generalize h / 2 ^ r = H at *
          generalize upR zs h b r = U at *
          by_cases he : H % 2 = 0
          · have hin := fun w' (k : Reads w' B 1 A m (zs.map (Value.int .i64))) => in_any (5 * r + b) A m c zs B w' k hm
            by_cases hmem : (5 * r + b : Int) ∈ zs
            · rw [decide_eq_true hmem] at hin
              have HU2 := HU.out
              rw [decide_eq_true he, decide_eq_true hmem] at HU2
              have HU3 := Lib.hid HU2
              clear HU2
              clear hmem
              go_wp2_with fail
              refine (hin _ hr).mono ?_
              rintro e w' ⟨rfl, rfl⟩
              go_wp2
              go_round
              case rel => exact ⟨r + 1, by omega, by go_num, by rw [← HN.out], by rw [HU3.out]; simp⟩
              case measure => simp [intOf]; omega
            · rw [decide_eq_false hmem] at hin
              have HU2 := HU.out
              rw [decide_eq_true he, decide_eq_false hmem] at HU2
              have HU3 := Lib.hid HU2
              clear HU2
              clear hmem
              go_wp2_with fail
              refine (hin _ hr).mono ?_
              rintro e w' ⟨rfl, rfl⟩
              go_wp2
              go_round
              case rel => exact ⟨r + 1, by omega, by go_num, by rw [← HN.out], by rw [HU3.out]; simp⟩
              case measure => simp [intOf]; omega
          · have HU2 := HU.out
            rw [decide_eq_false he] at HU2
            have HU3 := Lib.hid HU2
            clear HU2
            go_wp2
            go_round
            case rel => exact ⟨r + 1, by omega, by go_num, by rw [← HN.out], by rw [HU3.out]; simp⟩
            case measure => simp [intOf]; omega
        · have hr8' : r = 8 := by omega
          subst hr8'
          cases hu : upR zs h b 8
          · rw [hu] at HS
            go_wp2
            go_round
            case rel => exact ⟨b + 1, by omega, by go_num, by rw [HS.out]; simp, by rw [HPW.out]⟩
            case measure => simp [intOf]; omega
          · rw [hu] at HS
            go_wp2
            go_round
            case rel => exact ⟨b + 1, by omega, by go_num, by rw [HS.out]; simp, by rw [HPW.out]⟩
            case measure => simp [intOf]; omega
    · have hb5 : b = 5 := by omega
      subst hb5
      obtain ⟨s0, s1⟩ := sumR_bd zs h (b := 5) (by omega)
      generalize hS : sumR zs h 5 = S at *
      have HSS := Lib.hid hS
      clear hS
      go_wp2
      go_ret
      exact ⟨by rw [HSS.out]; rfl, rfl⟩

end Go.Proofs.Ytfcnlgkaejkneaa
