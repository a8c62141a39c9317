/- Contracts of layer 4: the document's halves, tests and bits put. -/
import Derived.Test.YtfollcgedcjgoaaTurn2
namespace Go.Proofs.Ytfollcgedcjgoaa
open Go.RowKit

set_option maxHeartbeats 1000000 in
theorem halves_true (a m f : Int) (w : World) (a0 : 0 ≤ a) (a1 : a ≤ 255) (m0 : 0 ≤ m) (m1 : m ≤ 255) (f0 : 0 ≤ f) (f1 : f ≤ 255) :
    Calls Try.prog 10 #[.int .u8 a, .int .u8 m, .int .u8 f, .bool true] w fun e w' => e = .returned (.tuple #[.int .u8 (rldA a m), .int .u8 (rldM a m), .int .u8 (turnF (rldA a m) (bitH f 7))]) ∧ Below w.heap.size w w' := by
  obtain ⟨r0, r1⟩ := (halves_bd a0 a1 m0 m1).1
  have HA := Lib.hid (show 16 * (a / 16) + m / 16 = rldA a m from rfl)
  have HM := Lib.hid (show 16 * (m % 16) + a % 16 = rldM a m from rfl)
  unfold turnF
  generalize rldA a m = R at *
  generalize rldM a m = N at *
  go_enter Try.func10, Try.ntmps10
  go_wp2_with fail
  rw [HA.out, HM.out]
  refine (bit_any R 7 _ r0 r1 (by omega) (by omega)).mono ?_
  rintro e w1 ⟨rfl, hb1⟩
  rw [show bitH R (7 - Int.toNat 7) = bitH R 0 from rfl]
  go_wp2_with fail
  refine (bit_any R 5 _ r0 r1 (by omega) (by omega)).mono ?_
  rintro e w2 ⟨rfl, hb2⟩
  rw [show bitH R (7 - Int.toNat 5) = bitH R 2 from rfl]
  go_wp2_with fail
  refine (bit_any R 3 _ r0 r1 (by omega) (by omega)).mono ?_
  rintro e w3 ⟨rfl, hb3⟩
  rw [show bitH R (7 - Int.toNat 3) = bitH R 4 from rfl]
  go_wp2_with fail
  refine (even_ref R _ r0 r1).mono ?_
  rintro e w4 ⟨rfl, hb4⟩
  go_wp2_with fail
  refine (bit_any f 0 _ f0 f1 (by omega) (by omega)).mono ?_
  rintro e w5 ⟨rfl, hb5⟩
  rw [show bitH f (7 - Int.toNat 0) = bitH f 7 from rfl]
  go_wp2_with fail
  refine (flags_any _ _ _ _ _ _ _ _ _).mono ?_
  rintro e w6 ⟨rfl, hb6⟩
  go_wp2
  go_ret3
  exact ⟨ret_tri rfl rfl rfl, bthen (bthen (bthen (bthen (bthen hb1 hb2) hb3) hb4) hb5) hb6⟩

set_option maxHeartbeats 1000000 in
theorem halves_false (a m f : Int) (w : World) (a0 : 0 ≤ a) (a1 : a ≤ 255) (m0 : 0 ≤ m) (m1 : m ≤ 255) (f0 : 0 ≤ f) (f1 : f ≤ 255) :
    Calls Try.prog 10 #[.int .u8 a, .int .u8 m, .int .u8 f, .bool false] w fun e w' => e = .returned (.tuple #[.int .u8 (rrdA a m), .int .u8 (rrdM a m), .int .u8 (turnF (rrdA a m) (bitH f 7))]) ∧ Below w.heap.size w w' := by
  obtain ⟨r0, r1⟩ := (halves_bd a0 a1 m0 m1).2.2.1
  have HA := Lib.hid (show 16 * (a / 16) + m % 16 = rrdA a m from rfl)
  have HM := Lib.hid (show 16 * (a % 16) + m / 16 = rrdM a m from rfl)
  unfold turnF
  generalize rrdA a m = R at *
  generalize rrdM a m = N at *
  go_enter Try.func10, Try.ntmps10
  go_wp2_with fail
  rw [HA.out, HM.out]
  refine (bit_any R 7 _ r0 r1 (by omega) (by omega)).mono ?_
  rintro e w1 ⟨rfl, hb1⟩
  rw [show bitH R (7 - Int.toNat 7) = bitH R 0 from rfl]
  go_wp2_with fail
  refine (bit_any R 5 _ r0 r1 (by omega) (by omega)).mono ?_
  rintro e w2 ⟨rfl, hb2⟩
  rw [show bitH R (7 - Int.toNat 5) = bitH R 2 from rfl]
  go_wp2_with fail
  refine (bit_any R 3 _ r0 r1 (by omega) (by omega)).mono ?_
  rintro e w3 ⟨rfl, hb3⟩
  rw [show bitH R (7 - Int.toNat 3) = bitH R 4 from rfl]
  go_wp2_with fail
  refine (even_ref R _ r0 r1).mono ?_
  rintro e w4 ⟨rfl, hb4⟩
  go_wp2_with fail
  refine (bit_any f 0 _ f0 f1 (by omega) (by omega)).mono ?_
  rintro e w5 ⟨rfl, hb5⟩
  rw [show bitH f (7 - Int.toNat 0) = bitH f 7 from rfl]
  go_wp2_with fail
  refine (flags_any _ _ _ _ _ _ _ _ _).mono ?_
  rintro e w6 ⟨rfl, hb6⟩
  go_wp2
  go_ret3
  exact ⟨ret_tri rfl rfl rfl, bthen (bthen (bthen (bthen (bthen hb1 hb2) hb3) hb4) hb5) hb6⟩

set_option maxHeartbeats 1000000 in
theorem bits_own (b : Int) (w : World) (h0 : 0 ≤ b) (h1 : b ≤ 255) :
    Calls Try.prog 27 #[.int .u8 b] w fun e w' => ∃ v, e = .returned v ∧ w'.ownsRow w.heap.size 4 1 v 8 (bitCells b 8) ∧ Below w.heap.size w w' := by
  obtain ⟨i0, hi, hz0, hz1, hz2⟩ := info_parts boolInfo
  obtain ⟨B, hB⟩ : ∃ B, B = w.heap.size := ⟨_, rfl⟩
  have hBl : B ≤ w.heap.size := by omega
  have HB := Lib.hid hB
  clear hB
  rw [← HB.out]
  go_enter Try.func27, Try.ntmps27
  go_wp2
  go_loopw [3, 4, 5] (fun v n k wr => ∃ j : Nat, j ≤ 8 ∧ wr.ownsRow B 4 1 v j (bitCells b j) ∧ n = .int .i64 (nn b j) ∧ k = .int .i64 (kk j) ∧ Below B w wr) (fun _ _ k _ => (intOf k).toNat)
  case atStart => exact ⟨0, by omega, World.ownsRow_nil _ _ _ _, by rw [nn_0 h0 h1], rfl, Below.refl _ _⟩
  case round =>
    obtain ⟨j, hj, hown, rfl, rfl, hbl⟩ := hrel
    have hnb := nn_bd b hj
    by_cases hlt : j < 8
    · obtain ⟨hk1, hk2, hk3⟩ := kk_step hlt
      have HK := Lib.hid hk3
      clear hk3
      go_wp2_with (first
        | (at_builtin; refine wpList_append_own _ rfl _ _ 41 rfl B 4 i0 (.bool false) 1 1 Try.underlying41 hi hz0 hz1 hz2 rfl (by decide) _ _ _ rfl (hown.alloc _) ⟨wr.heap.size, 0, none⟩ 1 1 [.bool (decide (kk j ≤ nn b j))] rfl rfl ?c1 ?c2 ?c3 ?c4 ?c5 ?_)
        | go_in)
      case c1 =>
        intro i u hi
        match i, hi with
        | 0, hi => simp at hi; subst hi; simp [Addr.add]
      case c2 => intro u hu; simp at hu; subst hu; rfl
      case c3 => unfold maxLen; omega
      case c4 => omega
      case c5 => have := hbl.size; simp; omega
      intro v' w1 hown' hgrow _
      have hb1 : Below B w w1 := (hbl.alloc (by have := hbl.size; omega) _).grown hgrow (by have := hbl.size; simp; omega) (fun i hi => (hown.lt i hi).1)
      have hown1 : w1.ownsRow B 4 1 v' (j + 1) (bitCells b (j + 1)) := by rw [bitCells_succ]; exact hown'
      clear hown' hgrow hown hbl
      by_cases hc : kk j ≤ nn b j
      · go_wp2
        go_roundw
        case rel => exact ⟨j + 1, by omega, hown1, by rw [nn_yes b hlt hc], by rw [HK.out], hb1⟩
        case measure => simp [intOf]; omega
      · go_wp2
        go_roundw
        case rel => exact ⟨j + 1, by omega, hown1, by rw [nn_no b hlt (by omega)], by rw [HK.out], hb1⟩
        case measure => simp [intOf]; omega
    · obtain rfl : j = 8 := by omega
      have hk8 : kk 8 ≤ 0 := by rw [kk_8]; omega
      go_wp2
      go_ret
      exact ⟨_, rfl, hown, hbl⟩


theorem put_yes {n : Nat} (hn : n < 8) (b : Int) (on : Bool) (w : World) (b0 : 0 ≤ b) (b1 : b ≤ 255) :
    Calls Try.prog 19 #[.int .i64 n, .int .u8 b, .bool on] w fun e w' => e = .returned (.int .u8 (putR n b on)) ∧ Below w.heap.size w w' := by
  go_enter Try.func19, Try.ntmps19
  go_wp2_with fail
  refine (bits_own _ _ b0 b1).mono ?_
  rintro e w1 ⟨v, rfl, hown, hb⟩
  obtain ⟨g, c, rfl, hg0, hg1⟩ := hown.form (by omega)
  have hcl := hown.cellAt (7 - n) (by omega)
  have hfz := hown.frozenAt (7 - n)
  have hsome : (bitCells b 8)[7 - n]? = some (.bool (bitH b (7 - n))) := by
    unfold bitCells
    rw [List.getElem?_map, List.getElem?_range (by omega)]
    rfl
  rw [hsome] at hcl
  obtain ⟨hs1, hs2⟩ := hown.stored (7 - n) (.bool on)
  have hrow : BoolRow (w1.setCell ⟨g, 7 - n, none⟩ (.bool on)) g 8 (fun j => if j = 7 - n then on else bitH b j) := by
    refine ⟨by simpa [World.setCell] using hg1, fun j hj => ?_⟩
    rw [hs1.cellAt j (by omega)]
    by_cases e : j = 7 - n
    · subst e
      rw [List.getElem?_set_self (by simp [bitCells]; omega)]
      simp
    · rw [List.getElem?_set_ne (by omega)]
      dsimp only
      rw [if_neg e]
      unfold bitCells
      rw [List.getElem?_map, List.getElem?_range (by omega)]
      rfl
  have hbw : Below w.heap.size w (w1.setCell ⟨g, 7 - n, none⟩ (.bool on)) := hb.setCell hg0 _
  have HR := Lib.hid hrow
  clear hs1 hs2 hrow hown hsome
  go_wp2_with fail
  refine (byte_any g c _ _ HR.out).mono ?_
  rintro e w2 ⟨rfl, rfl⟩
  go_wp2
  go_ret
  exact ⟨ret_int rfl, hbw⟩
theorem put_no {n : Int} (n0 : -9223372036854775808 ≤ n) (n1 : n ≤ 9223372036854775807) (hn : n < 0 ∨ 7 < n) (b : Int) (on : Bool) (w : World) :
    Calls Try.prog 19 #[.int .i64 n, .int .u8 b, .bool on] w fun e w' => e = .returned (.int .u8 b) ∧ Below w.heap.size w w' := by
  rcases hn with h | h
  all_goals
    go_enter Try.func19, Try.ntmps19
    go_wp2
    go_ret
    exact ⟨rfl, Below.refl _ _⟩
theorem put_any (n b : Int) (on : Bool) (w : World) (n0 : -9223372036854775808 ≤ n) (n1 : n ≤ 9223372036854775807) (b0 : 0 ≤ b) (b1 : b ≤ 255) :
    Calls Try.prog 19 #[.int .i64 n, .int .u8 b, .bool on] w fun e w' => e = .returned (.int .u8 (setS n b on)) ∧ Below w.heap.size w w' := by
  unfold setS
  by_cases h : 0 ≤ n ∧ n ≤ 7
  · obtain ⟨m, rfl⟩ := Int.eq_ofNat_of_zero_le h.1
    rw [if_pos h]
    exact put_yes (n := m) (by omega) b on w b0 b1
  · rw [if_neg h]
    exact put_no n0 n1 (by omega) b on w

end Go.Proofs.Ytfollcgedcjgoaa
