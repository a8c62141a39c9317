/- Contracts of layer 4: the document's tests of bits. -/
import Derived.Test.YtfollcgedcjgoaaTurn2
namespace Go.Proofs.Ytfollcgedcjgoaa
open Go.RowKit

theorem bitR_yes {n : Nat} (hn : n < 8) (b y f : Int) (w : World) (b0 : 0 ≤ b) (b1 : b ≤ 255) (y0 : 0 ≤ y) (y1 : y ≤ 255) (f0 : 0 ≤ f) (f1 : f ≤ 255) :
    Calls Try.prog 17 #[.int .i64 n, .int .u8 b, .int .u8 y, .int .u8 f] w fun e w' => e = .returned (.int .u8 (testF n b y f)) ∧ Below w.heap.size w w' := by
  have hbit := bit_any b n w b0 b1 (by omega) (by omega)
  rw [show bitH b (7 - Int.toNat n) = bitH b (7 - n) from rfl] at hbit
  have h7 : (n == 7) = decide (n = 7) := by by_cases h : n = 7 <;> simp [h]
  have hi7 : ((n : Int) == 7) = decide (n = 7) := by by_cases h : n = 7 <;> simp [h]; omega
  unfold testF
  rw [h7]
  clear h7
  generalize bitH b (7 - n) = B at *
  cases B
  · go_enter Try.func17, Try.ntmps17
    go_wp2_with fail
    refine hbit.mono ?_
    rintro e w1 ⟨rfl, hb1⟩
    go_wp2_with fail
    refine (bit_any y 5 _ y0 y1 (by omega) (by omega)).mono ?_
    rintro e w2 ⟨rfl, hb2⟩
    rw [show bitH y (7 - Int.toNat 5) = bitH y 2 from rfl]
    go_wp2_with fail
    refine (bit_any y 3 _ y0 y1 (by omega) (by omega)).mono ?_
    rintro e w3 ⟨rfl, hb3⟩
    rw [show bitH y (7 - Int.toNat 3) = bitH y 4 from rfl]
    go_wp2_with fail
    refine (bit_any f 0 _ f0 f1 (by omega) (by omega)).mono ?_
    rintro e w4 ⟨rfl, hb4⟩
    rw [show bitH f (7 - Int.toNat 0) = bitH f 7 from rfl]
    go_wp2_with fail
    refine (flags_any _ _ _ _ _ _ _ _ _).mono ?_
    rintro e w5 ⟨rfl, hb5⟩
    go_wp2
    go_ret
    exact ⟨rfl, bthen (bthen (bthen (bthen hb1 hb2) hb3) hb4) hb5⟩
  · generalize decide (n = 7) = S at *
    go_enter Try.func17, Try.ntmps17
    go_wp2_with fail
    refine hbit.mono ?_
    rintro e w1 ⟨rfl, hb1⟩
    go_wp2_with fail
    refine (bit_any y 5 _ y0 y1 (by omega) (by omega)).mono ?_
    rintro e w2 ⟨rfl, hb2⟩
    rw [show bitH y (7 - Int.toNat 5) = bitH y 2 from rfl]
    go_wp2_with fail
    refine (bit_any y 3 _ y0 y1 (by omega) (by omega)).mono ?_
    rintro e w3 ⟨rfl, hb3⟩
    rw [show bitH y (7 - Int.toNat 3) = bitH y 4 from rfl]
    go_wp2_with fail
    refine (bit_any f 0 _ f0 f1 (by omega) (by omega)).mono ?_
    rintro e w4 ⟨rfl, hb4⟩
    rw [show bitH f (7 - Int.toNat 0) = bitH f 7 from rfl]
    go_wp2_with fail
    refine (flags_any _ _ _ _ _ _ _ _ _).mono ?_
    rintro e w5 ⟨rfl, hb5⟩
    go_wp2
    go_ret
    exact ⟨rfl, bthen (bthen (bthen (bthen hb1 hb2) hb3) hb4) hb5⟩
theorem bitR_any (n b y f : Int) (w : World) (n0 : -9223372036854775808 ≤ n) (n1 : n ≤ 9223372036854775807) (b0 : 0 ≤ b) (b1 : b ≤ 255) (y0 : 0 ≤ y) (y1 : y ≤ 255) (f0 : 0 ≤ f) (f1 : f ≤ 255) :
    Calls Try.prog 17 #[.int .i64 n, .int .u8 b, .int .u8 y, .int .u8 f] w fun e w' => e = .returned (.int .u8 (bitS n b y f)) ∧ Below w.heap.size w w' := by
  unfold bitS
  by_cases h : 0 ≤ n ∧ n ≤ 7
  · obtain ⟨m, rfl⟩ := Int.eq_ofNat_of_zero_le h.1
    rw [if_pos h]
    exact bitR_yes (n := m) (by omega) b y f w b0 b1 y0 y1 f0 f1
  · rw [if_neg h]
    rcases (show n < 0 ∨ 7 < n by omega) with h1 | h1
    all_goals
      go_enter Try.func17, Try.ntmps17
      go_wp2
      go_ret
      exact ⟨rfl, Below.refl _ _⟩

end Go.Proofs.Ytfollcgedcjgoaa
