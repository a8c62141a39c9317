/- Contracts of layer 4: the document's Do and Acc. -/
import Derived.Test.YtfollcgedcjgoaaR04t
namespace Go.Proofs.Ytfollcgedcjgoaa
open Go.RowKit

set_option maxHeartbeats 1000000 in
theorem doRef_any (k b f : Int) (w : World) (k0 : -9223372036854775808 ≤ k) (k1 : k ≤ 9223372036854775807) (b0 : 0 ≤ b) (b1 : b ≤ 255) (f0 : 0 ≤ f) (f1 : f ≤ 255) :
    Calls Try.prog 14 #[.int .i64 k, .int .u8 b, .int .u8 f] w fun e w' => e = .returned (.tuple #[.int .u8 (doTR k b f), .int .u8 (doTF k b f)]) ∧ Below w.heap.size w w' := by
  unfold doTR doTF
  by_cases h1 : k < 0
  · rw [if_neg (by omega), if_neg (by omega)]
    go_enter Try.func14, Try.ntmps14
    go_wp2
    go_ret2
    exact ⟨rfl, Below.refl _ _⟩
  · by_cases h2 : 7 < k
    · rw [if_neg (by omega), if_neg (by omega)]
      go_enter Try.func14, Try.ntmps14
      go_wp2
      go_ret2
      exact ⟨rfl, Below.refl _ _⟩
    · rw [if_pos (by omega), if_pos (by omega)]
      have ht := fun w' => turnRef_any k b (bitH f 7) w' (by omega) (by omega) b0 b1
      obtain ⟨r0, r1⟩ := turnR_bd k b (bitH f 7)
      unfold turnF
      generalize turnR k b (bitH f 7) = R at *
      generalize turnC k b = C at *
      go_enter Try.func14, Try.ntmps14
      go_wp2_with fail
      refine (bit_any f 0 _ f0 f1 (by omega) (by omega)).mono ?_
      rintro e w1 ⟨rfl, hb1⟩
      rw [show bitH f (7 - Int.toNat 0) = bitH f 7 from rfl]
      go_wp2_with fail
      refine (ht _).mono ?_
      rintro e w2 ⟨rfl, hb2⟩
      go_wp2_with fail
      refine (bit_any R 7 _ r0 r1 (by omega) (by omega)).mono ?_
      rintro e w3 ⟨rfl, hb3⟩
      rw [show bitH R (7 - Int.toNat 7) = bitH R 0 from rfl]
      go_wp2_with fail
      refine (bit_any R 5 _ r0 r1 (by omega) (by omega)).mono ?_
      rintro e w4 ⟨rfl, hb4⟩
      rw [show bitH R (7 - Int.toNat 5) = bitH R 2 from rfl]
      go_wp2_with fail
      refine (bit_any R 3 _ r0 r1 (by omega) (by omega)).mono ?_
      rintro e w5 ⟨rfl, hb5⟩
      rw [show bitH R (7 - Int.toNat 3) = bitH R 4 from rfl]
      go_wp2_with fail
      refine (even_ref R _ r0 r1).mono ?_
      rintro e w6 ⟨rfl, hb6⟩
      go_wp2_with fail
      refine (flags_any _ _ _ _ _ _ _ _ _).mono ?_
      rintro e w7 ⟨rfl, hb7⟩
      go_wp2
      go_ret2
      exact ⟨ret_two rfl rfl, bthen (bthen (bthen (bthen (bthen (bthen hb1 hb2) hb3) hb4) hb5) hb6) hb7⟩

theorem keep015 {W a b : World} {g : Nat} {x0 x1 x5 : Value} (h : Below W.heap.size W a ∧ g < a.heap.size ∧ a.cell? ⟨g, 0, none⟩ = some x0 ∧ a.cell? ⟨g, 1, none⟩ = some x1 ∧ a.cell? ⟨g, 5, none⟩ = some x5) (k : Below a.heap.size a b) : Below W.heap.size W b ∧ g < b.heap.size ∧ b.cell? ⟨g, 0, none⟩ = some x0 ∧ b.cell? ⟨g, 1, none⟩ = some x1 ∧ b.cell? ⟨g, 5, none⟩ = some x5 :=
  ⟨bthen h.1 k, Nat.lt_of_lt_of_le h.2.1 k.size, (k.cell (p := ⟨g, 0, none⟩) h.2.1).trans h.2.2.1, (k.cell (p := ⟨g, 1, none⟩) h.2.1).trans h.2.2.2.1, (k.cell (p := ⟨g, 5, none⟩) h.2.1).trans h.2.2.2.2⟩

set_option maxHeartbeats 4000000 in
theorem accRef_any (k b f : Int) (w : World) (k0 : -9223372036854775808 ≤ k) (k1 : k ≤ 9223372036854775807) (b0 : 0 ≤ b) (b1 : b ≤ 255) (f0 : 0 ≤ f) (f1 : f ≤ 255) :
    Calls Try.prog 15 #[.int .i64 k, .int .u8 b, .int .u8 f] w fun e w' => e = .returned (.tuple #[.int .u8 (accR k b f), .int .u8 (accT k b f)]) ∧ Below w.heap.size w w' := by
  unfold accR accT
  by_cases h1 : k < 0
  · rw [if_neg (by omega), if_neg (by omega)]
    go_enter Try.func15, Try.ntmps15
    go_wp2
    go_ret2
    exact ⟨rfl, Below.refl _ _⟩
  · by_cases h2 : 3 < k
    · rw [if_neg (by omega), if_neg (by omega)]
      go_enter Try.func15, Try.ntmps15
      go_wp2
      go_ret2
      exact ⟨rfl, Below.refl _ _⟩
    · rw [if_pos (by omega), if_pos (by omega)]
      have ht := fun w' => turnRef_any k b (bitH f 7) w' (by omega) (by omega) b0 b1
      obtain ⟨r0, r1⟩ := turnR_bd k b (bitH f 7)
      unfold accF
      generalize turnR k b (bitH f 7) = R at *
      generalize turnC k b = C at *
      go_enter Try.func15, Try.ntmps15
      go_wp2_with fail
      refine (bit_any f 0 _ f0 f1 (by omega) (by omega)).mono ?_
      rintro e w1 ⟨rfl, hb1⟩
      rw [show bitH f (7 - Int.toNat 0) = bitH f 7 from rfl]
      go_wp2_with fail
      refine (ht _).mono ?_
      rintro e w2 ⟨rfl, hb2⟩
      go_wp2_with fail
      refine (bits_any f _ f0 f1).mono ?_
      rintro e w3 ⟨v, rfl, ⟨g, cap, rfl, hc1, _, hg, hr⟩, hb3⟩
      have hgz := hr.1
      have p0 := hr.2 0 (by omega)
      have p1 := hr.2 1 (by omega)
      have p5 := hr.2 5 (by omega)
      clear hr
      have hB3 := bthen (bthen hb1 hb2) hb3
      have e5 : bitH R (7 - Int.toNat 5) = bitH R 2 := rfl
      have e3 : bitH R (7 - Int.toNat 3) = bitH R 4 := rfl
      have hS : Below w.heap.size w w3.drew ∧ g < w3.drew.heap.size ∧ w3.drew.cell? ⟨g, 0, none⟩ = some (.bool (bitH f 0)) ∧ w3.drew.cell? ⟨g, 1, none⟩ = some (.bool (bitH f 1)) ∧ w3.drew.cell? ⟨g, 5, none⟩ = some (.bool (bitH f 5)) := ⟨hB3.drew, hgz, p0, p1, p5⟩
      go_wp2_with fail
      go_region_held3 (fun w' => Below w.heap.size w w' ∧ g < w'.heap.size ∧ w'.cell? ⟨g, 0, none⟩ = some (.bool (bitH f 0)) ∧ w'.cell? ⟨g, 1, none⟩ = some (.bool (bitH f 1)) ∧ w'.cell? ⟨g, 5, none⟩ = some (.bool (bitH f 5)))
        (first | exact hS | exact keep015 (by assumption) hbB | assumption)
        (first
          | (go_at_call_of 23 (Value.int .i64 5); refine (bit_any R 5 _ r0 r1 (by omega) (by omega)).mono ?_; rintro e wB ⟨rfl, hbB⟩)
          | (go_at_call_of 23 (Value.int .i64 3); refine (bit_any R 3 _ r0 r1 (by omega) (by omega)).mono ?_; rintro e wB ⟨rfl, hbB⟩)
          | (go_at_call 22; refine (flags_any _ _ _ _ _ _ _ _ _).mono ?_; rintro e wB ⟨rfl, hbB⟩))
      all_goals
        rename_i hH
        go_wp2
        go_ret2
        exact ⟨ret_two rfl rfl, hH.1⟩

end Go.Proofs.Ytfollcgedcjgoaa
