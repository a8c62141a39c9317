/- The contracts of the document's answer for layer 1: Cond and Show. -/
import Derived.Test.YtkhbkfecnpnchaaR01
namespace Go.Proofs.Ytkhbkfecnpnchaa
open Go.RowKit

/-- which bit a condition looks at -/
def condBit (k : Int) : Nat := if k ≤ 1 then 1 else if k ≤ 3 then 7 else if k ≤ 5 then 5 else 0
def condR (f k : Int) : Bool := if k < 0 ∨ 7 < k then false else bitH f (condBit k) == (k % 2 == 1)
set_option maxHeartbeats 2000000 in
theorem cond_ref (f k : Int) (w : World) (h0 : 0 ≤ f) (h1 : f ≤ 255) (hk1 : -9223372036854775808 ≤ k) (hk2 : k ≤ 9223372036854775807) :
    Calls Try.prog 33 #[.int .u8 f, .int .i64 k] w fun e w' => e = .returned (.bool (condR f k)) ∧ Below w.heap.size w w' := by
  by_cases hlo : k < 0
  · go_enter Try.func33, Try.ntmps33
    go_wp2_with fail
    refine (bits_any _ _ h0 h1).mono ?_
    rintro e w' ⟨v, rfl, ⟨g, c, rfl, hc1, _, hg, hr⟩, hb⟩
    have HR := Lib.hid hr
    clear hr
    go_wp2
    go_ret
    exact ⟨ret_bool (by unfold condR; rw [if_pos (by omega)]), hb.alloc hb.size _⟩
  · by_cases hhi : 7 < k
    · go_enter Try.func33, Try.ntmps33
      go_wp2_with fail
      refine (bits_any _ _ h0 h1).mono ?_
      rintro e w' ⟨v, rfl, ⟨g, c, rfl, hc1, _, hg, hr⟩, hb⟩
      have HR := Lib.hid hr
      clear hr
      go_wp2
      go_ret
      exact ⟨ret_bool (by unfold condR; rw [if_pos (by omega)]), hb.alloc hb.size _⟩
    · rcases (show k = 0 ∨ k = 1 ∨ k = 2 ∨ k = 3 ∨ k = 4 ∨ k = 5 ∨ k = 6 ∨ k = 7 by omega) with rfl | rfl | rfl | rfl | rfl | rfl | rfl | rfl
      all_goals
        go_enter Try.func33, Try.ntmps33
        go_wp2_with fail
        refine (bits_any _ _ h0 h1).mono ?_
        rintro e w' ⟨v, rfl, ⟨g, c, rfl, hc1, _, hg, hr⟩, hb⟩
        have hz := hr.1
        have c0 := hr.2 0 (by omega)
        have c1 := hr.2 1 (by omega)
        have c5 := hr.2 5 (by omega)
        have c7 := hr.2 7 (by omega)
        clear hr
        go_wp2
        go_ret
        refine ⟨ret_bool ?_, hb.alloc hb.size _⟩
        simp [condR, condBit]

theorem bytes_app (l m : List UInt8) : (⟨l.toArray⟩ : ByteArray) ++ ⟨m.toArray⟩ = ⟨(l ++ m).toArray⟩ := by
  apply ByteArray.ext
  simp
def showN (f : Int) (j : Nat) : List UInt8 := (List.range j).map fun i => if bitH f i then ([83, 90, 89, 72, 88, 80, 78, 67] : List UInt8).getD i 0 else 45
theorem showN_len (f : Int) (j : Nat) : (showN f j).length = j := by simp [showN]
theorem showN_no (f : Int) (j : Nat) (h : false = bitH f j) : (⟨(showN f j).toArray⟩ : ByteArray) ++ ⟨#[45]⟩ = ⟨(showN f (j + 1)).toArray⟩ := by
  have e : showN f (j + 1) = showN f j ++ [45] := by simp [showN, List.range_succ, ← h]
  rw [e]
  exact bytes_app _ [45]
theorem showN_yes (f : Int) (j : Nat) (hj : j < 8) (h : true = bitH f j) : (⟨(showN f j).toArray⟩ : ByteArray) ++ (⟨#[83, 90, 89, 72, 88, 80, 78, 67]⟩ : ByteArray).extract j (j + 1) = ⟨(showN f (j + 1)).toArray⟩ := by
  have e : showN f (j + 1) = showN f j ++ [([83, 90, 89, 72, 88, 80, 78, 67] : List UInt8).getD j 0] := by simp [showN, List.range_succ, ← h]
  rw [e, ← bytes_app]
  congr 1
  rcases nat8 hj with rfl | rfl | rfl | rfl | rfl | rfl | rfl | rfl <;> (apply ByteArray.ext; rfl)
theorem ret_string {a b : ByteArray} (h : a = b) : Value.string a = .string b := by rw [h]
theorem show_ref (b : Int) (w : World) (h0 : 0 ≤ b) (h1 : b ≤ 255) :
    Calls Try.prog 35 #[.int .u8 b] w fun e w' => e = .returned (.string ⟨(showN b 8).toArray⟩) ∧ Below w.heap.size w w' := by
  go_enter Try.func35, Try.ntmps35
  go_wp2_with fail
  refine (bits_any _ _ h0 h1).mono ?_
  rintro e w' ⟨v, rfl, ⟨g, c, rfl, hc1, _, hg, hr⟩, hb⟩
  have HR := Lib.hid hr
  have hz := hr.1
  clear hr
  go_wp2
  go_loop [5, 6] (fun s i => ∃ j : Nat, j ≤ 8 ∧ s = .string ⟨(showN b j).toArray⟩ ∧ i = .int .i64 j) (fun _ i => 8 - (intOf i).toNat)
  case atStart => exact ⟨0, by omega, rfl, rfl⟩
  case round =>
    obtain ⟨j, hj, rfl, rfl⟩ := hrel
    by_cases hlt : j < 8
    · have hc := HR.out.2 j hlt
      obtain ⟨x, hx⟩ : ∃ x, x = bitH b j := ⟨_, rfl⟩
      have hc' : w'.cell? ⟨g, j, none⟩ = some (.bool x) := by rw [hx]; exact hc
      have HX := Lib.hid hx
      have hl : (showN b j).length ≤ 8 := by rw [showN_len]; omega
      clear hc hx
      cases x
      · go_wp2
        go_round
        case rel => exact ⟨j + 1, by omega, ret_string (showN_no b j HX.out), by go_num⟩
        case measure => simp [intOf]; omega
      · go_wp2
        go_round
        case rel => exact ⟨j + 1, by omega, ret_string (showN_yes b j hlt HX.out), by go_num⟩
        case measure => simp [intOf]; omega
    · obtain rfl : j = 8 := by omega
      go_wp2
      go_ret
      exact ⟨rfl, hb⟩

end Go.Proofs.Ytkhbkfecnpnchaa
