/- Layer 22, the document's answer: contracts of the number of bits and of a symbol of data. -/
import Derived.Test.YthmmoogfngohaaaSx3
namespace Go.Proofs.Ythmmoogfngohaaa
open Go.RowKit

set_option maxHeartbeats 2000000 in
theorem bitsR_any (w : World) (n : Nat) (hn : n ≤ 256) : Calls Try.prog 14 #[.int .i64 n] w fun e w' => e = .returned (.int .i64 (bitsN n)) ∧ w = w' := by
  have HL := Lib.hid (bits_lt n (by omega))
  have hle := bits_le n (by omega)
  generalize bitsN n = M at *
  go_enter Try.func14, Try.ntmps14
  go_wp2
  go_loop [3, 4] (fun x y => ∃ b : Nat, b ≤ M ∧ x = .int .i64 b ∧ y = .int .i64 ((2 ^ b : Nat) : Int)) (fun x _ => 10 - (intOf x).toNat)
  case atStart => exact ⟨0, by omega, rfl, rfl⟩
  case round =>
    obtain ⟨b, hb, rfl, rfl⟩ := hrel
    rcases (show b = 0 ∨ b = 1 ∨ b = 2 ∨ b = 3 ∨ b = 4 ∨ b = 5 ∨ b = 6 ∨ b = 7 ∨ b = 8 by omega) with rfl | rfl | rfl | rfl | rfl | rfl | rfl | rfl | rfl
    · have hp : (((2 ^ 0 : Nat) : Int)) = 1 := by rfl
      rw [hp]
      clear hp
      by_cases h2 : (1 : Int) < (n : Int)
      · have hbM : 0 < M := (HL.out 0 (by omega)).1 (by omega)
        go_wp2
        go_round
        case rel => exact ⟨1, by omega, by first | rfl | go_num, by first | rfl | go_num⟩
        case measure => simp [intOf]
      · have hbM : M = 0 := by
          have := (HL.out 0 (by omega)).2
          omega
        subst hbM
        go_wp2
        go_ret
        exact ⟨rfl, rfl⟩
    · have hp : (((2 ^ 1 : Nat) : Int)) = 2 := by rfl
      rw [hp]
      clear hp
      by_cases h2 : (2 : Int) < (n : Int)
      · have hbM : 1 < M := (HL.out 1 (by omega)).1 (by omega)
        go_wp2
        go_round
        case rel => exact ⟨2, by omega, by first | rfl | go_num, by first | rfl | go_num⟩
        case measure => simp [intOf]
      · have hbM : M = 1 := by
          have := (HL.out 1 (by omega)).2
          omega
        subst hbM
        go_wp2
        go_ret
        exact ⟨rfl, rfl⟩
    · have hp : (((2 ^ 2 : Nat) : Int)) = 4 := by rfl
      rw [hp]
      clear hp
      by_cases h2 : (4 : Int) < (n : Int)
      · have hbM : 2 < M := (HL.out 2 (by omega)).1 (by omega)
        go_wp2
        go_round
        case rel => exact ⟨3, by omega, by first | rfl | go_num, by first | rfl | go_num⟩
        case measure => simp [intOf]
      · have hbM : M = 2 := by
          have := (HL.out 2 (by omega)).2
          omega
        subst hbM
        go_wp2
        go_ret
        exact ⟨rfl, rfl⟩
    · have hp : (((2 ^ 3 : Nat) : Int)) = 8 := by rfl
      rw [hp]
      clear hp
      by_cases h2 : (8 : Int) < (n : Int)
      · have hbM : 3 < M := (HL.out 3 (by omega)).1 (by omega)
        go_wp2
        go_round
        case rel => exact ⟨4, by omega, by first | rfl | go_num, by first | rfl | go_num⟩
        case measure => simp [intOf]
      · have hbM : M = 3 := by
          have := (HL.out 3 (by omega)).2
          omega
        subst hbM
        go_wp2
        go_ret
        exact ⟨rfl, rfl⟩
    · have hp : (((2 ^ 4 : Nat) : Int)) = 16 := by rfl
      rw [hp]
      clear hp
      by_cases h2 : (16 : Int) < (n : Int)
      · have hbM : 4 < M := (HL.out 4 (by omega)).1 (by omega)
        go_wp2
        go_round
        case rel => exact ⟨5, by omega, by first | rfl | go_num, by first | rfl | go_num⟩
        case measure => simp [intOf]
      · have hbM : M = 4 := by
          have := (HL.out 4 (by omega)).2
          omega
        subst hbM
        go_wp2
        go_ret
        exact ⟨rfl, rfl⟩
    · have hp : (((2 ^ 5 : Nat) : Int)) = 32 := by rfl
      rw [hp]
      clear hp
      by_cases h2 : (32 : Int) < (n : Int)
      · have hbM : 5 < M := (HL.out 5 (by omega)).1 (by omega)
        go_wp2
        go_round
        case rel => exact ⟨6, by omega, by first | rfl | go_num, by first | rfl | go_num⟩
        case measure => simp [intOf]
      · have hbM : M = 5 := by
          have := (HL.out 5 (by omega)).2
          omega
        subst hbM
        go_wp2
        go_ret
        exact ⟨rfl, rfl⟩
    · have hp : (((2 ^ 6 : Nat) : Int)) = 64 := by rfl
      rw [hp]
      clear hp
      by_cases h2 : (64 : Int) < (n : Int)
      · have hbM : 6 < M := (HL.out 6 (by omega)).1 (by omega)
        go_wp2
        go_round
        case rel => exact ⟨7, by omega, by first | rfl | go_num, by first | rfl | go_num⟩
        case measure => simp [intOf]
      · have hbM : M = 6 := by
          have := (HL.out 6 (by omega)).2
          omega
        subst hbM
        go_wp2
        go_ret
        exact ⟨rfl, rfl⟩
    · have hp : (((2 ^ 7 : Nat) : Int)) = 128 := by rfl
      rw [hp]
      clear hp
      by_cases h2 : (128 : Int) < (n : Int)
      · have hbM : 7 < M := (HL.out 7 (by omega)).1 (by omega)
        go_wp2
        go_round
        case rel => exact ⟨8, by omega, by first | rfl | go_num, by first | rfl | go_num⟩
        case measure => simp [intOf]
      · have hbM : M = 7 := by
          have := (HL.out 7 (by omega)).2
          omega
        subst hbM
        go_wp2
        go_ret
        exact ⟨rfl, rfl⟩
    · have hp : (((2 ^ 8 : Nat) : Int)) = 256 := by rfl
      rw [hp]
      clear hp
      have h2 : ¬ (256 : Int) < (n : Int) := by omega
      have hbM : M = 8 := by omega
      subst hbM
      go_wp2
      go_ret
      exact ⟨rfl, rfl⟩

set_option maxRecDepth 100000 in
set_option maxHeartbeats 8000000 in
theorem symbolR_gen (w : World) (B n c b i : Nat) (A : Option Addr) (zs : List Int) (hr : Reads w B 1 A n (zs.map (Value.int .u8))) (hz : ∀ z ∈ zs, 0 ≤ z ∧ z ≤ 255) (hn : n ≤ 1000) (hb : b ≤ 8) (hi : i ≤ 1048576) :
    Calls Try.prog 15 #[.slice A n c, .int .i64 b, .int .i64 i] w fun e w' => e = .returned (.tuple #[.int .i64 (((symS zs b i).getD 0 : Nat) : Int), .bool (symS zs b i).isSome]) ∧ w = w' := by
  have hl : zs.length = n := by have := hr.1; simpa using this
  have hw8 : IntKind.i64.wrap (8 * (n : Int)) = 8 * (n : Int) := by rw [IntKind.wrap_i64]; omega
  have hb0 : ¬ (b : Int) < 0 := by omega
  have hb8 : ¬ (8 : Int) < (b : Int) := by omega
  have hi0 : ¬ (i : Int) < 0 := by omega
  have hbi : b * i ≤ 8 * 1048576 := Nat.mul_le_mul hb hi
  have hsucc : (i + 1) * b = b * i + b := by rw [Nat.succ_mul, Nat.mul_comm]
  obtain ⟨k0, hk0⟩ : ∃ k0 : Nat, k0 = b * i := ⟨_, rfl⟩
  have hcast : (b : Int) * (i : Int) = (k0 : Int) := by rw [hk0]; exact (Int.natCast_mul _ _).symm
  have hwk : IntKind.i64.wrap ((b : Int) * (i : Int)) = (k0 : Int) := by rw [hcast, IntKind.wrap_i64]; omega
  have hwk2 : IntKind.i64.wrap ((k0 : Int) + (b : Int)) = (k0 : Int) + (b : Int) := by rw [IntKind.wrap_i64]; omega
  by_cases hin : 8 * n < (i + 1) * b
  · have HS := Lib.hid (show symS zs b i = none by unfold symS; rw [hl, if_pos hin])
    have hlast : 8 * (n : Int) < (k0 : Int) + (b : Int) := by omega
    clear hr hz hl
    by_cases hbz : b = 0
    · subst hbz
      exfalso; omega
    · have hbp : (0 : Int) < (b : Int) := by omega
      clear hsucc hk0 hcast hin hbi
      by_cases hfar : 8 * (n : Int) ≤ (i : Int)
      · go_enter Try.func15, Try.ntmps15
        go_wp2
        go_ret2
        exact ⟨by rw [HS.out]; rfl, rfl⟩
      · go_enter Try.func15, Try.ntmps15
        go_wp2
        go_ret2
        exact ⟨by rw [HS.out]; rfl, rfl⟩
  · have HS := Lib.hid (show symS zs b i = some (valD zs k0 b).toNat by unfold symS; rw [hl, if_neg hin, hk0])
    have hk0n : k0 + b ≤ 8 * n := by omega
    have hlast : ¬ 8 * (n : Int) < (k0 : Int) + (b : Int) := by omega
    have HB0 := Lib.hid (show (b : Int) = 0 ∨ (0 : Int) < (b : Int) ∧ ¬ 8 * (n : Int) ≤ (i : Int) by
      rcases Nat.eq_zero_or_pos b with e | e
      · exact .inl (by omega)
      · refine .inr ⟨by omega, ?_⟩
        have : i ≤ b * i := Nat.le_mul_of_pos_left i e
        omega)
    have HRD := Lib.hid (And.intro hr hz)
    have HV := Lib.hid (valD_in zs k0)
    have HLN := Lib.hid hl
    clear hk0 hcast hr hz hsucc hin hl hbi
    go_enter Try.func15, Try.ntmps15
    go_upto_region 1 with fail
    go_cut [44] from 13 to 44 (fun s wx => s = .bool false ∧ w = wx)
    case first =>
      rcases HB0.out with hbz | ⟨hbp, hfar⟩
      · have hbn : ¬ (0 : Int) < (b : Int) := by omega
        have HZ := Lib.hid hbz
        clear hbz
        go_wp2_with fail
        go_meet
        exact ⟨rfl, rfl⟩
      · go_wp2_with fail
        go_meet
        exact ⟨rfl, rfl⟩
    case rest =>
    obtain ⟨rfl, rfl⟩ := hcut
    clear hw8 hb0 hb8 hi0 hlast
    go_wp2_with fail
    go_loop [8, 9, 10, 11, 12] (fun x y _ _ _ => ∃ j : Nat, j ≤ b ∧ x = .int .i64 (valD zs k0 j) ∧ y = .int .i64 (j : Int)) (fun _ y _ _ _ => b + 1 - (intOf y).toNat)
    case atStart => exact ⟨0, by omega, rfl, rfl⟩
    case round =>
      obtain ⟨j, hj, rfl, rfl⟩ := hrel
      by_cases hjb : j < b
      · have hjI : (j : Int) < (b : Int) := by omega
        have HJ := Lib.hid hjb
        obtain ⟨kk, hkk⟩ : ∃ kk, kk = k0 + j := ⟨_, rfl⟩
        have hwkk : IntKind.i64.wrap ((k0 : Int) + (j : Int)) = (kk : Int) := by rw [IntKind.wrap_i64]; omega
        have hk8 : kk / 8 < n := by omega
        obtain ⟨ad, rfl, hab, hcl⟩ := by8_at HRD.out.1 hk8
        have hzi := HRD.out.2 (zs.getD (kk / 8) 0) (getD_mem (by rw [HLN.out]; exact hk8))
        have hv := HV.out j
        have hbd := bitD_in zs kk
        have HVS := Lib.hid (show valD zs k0 (j + 1) = 2 * valD zs k0 j + bitD zs kk by rw [hkk]; rfl)
        have hpow : (2 : Int) ^ j ≤ 128 := by
          rcases (show j = 0 ∨ j = 1 ∨ j = 2 ∨ j = 3 ∨ j = 4 ∨ j = 5 ∨ j = 6 ∨ j = 7 by omega) with rfl | rfl | rfl | rfl | rfl | rfl | rfl | rfl <;> decide
        have HBD := Lib.hid (show bitD zs kk = zs.getD (kk / 8) 0 / 2 ^ (7 - kk % 8) % 2 from rfl)
        obtain ⟨d, hd⟩ : ∃ d, d = kk / 8 := ⟨_, rfl⟩
        rw [← hd] at hcl hzi HBD hk8
        have htd : (kk : Int).tdiv 8 = (d : Int) := by rw [hd]; rfl
        have hdn : (d : Int) < (n : Int) := by omega
        have hd0 : (0 : Int) ≤ (d : Int) := Int.natCast_nonneg _
        have hwd : IntKind.i64.wrap (d : Int) = (d : Int) := by rw [IntKind.wrap_i64]; omega
        have hwj : IntKind.i64.wrap ((j : Int) + 1) = (j : Int) + 1 := by rw [IntKind.wrap_i64]; omega
        generalize zs.getD d 0 = z at *
        have hwz : IntKind.i64.wrap z = z := by rw [IntKind.wrap_i64]; omega
        have HKK := Lib.hid hkk
        clear hkk hd
        obtain ⟨r, hr8⟩ : ∃ r, r = kk % 8 := ⟨_, rfl⟩
        rw [← hr8] at HBD
        have hrr : r < 8 := by omega
        have htm : (kk : Int).tmod 8 = (r : Int) := by rw [hr8]; rfl
        have hwr : IntKind.i64.wrap (7 - (r : Int)) = 7 - (r : Int) := by rw [IntKind.wrap_i64]; omega
        have hwr0 : IntKind.i64.wrap (r : Int) = (r : Int) := by rw [IntKind.wrap_i64]; omega
        clear hr8
        go_wp2_with fail
        go_loop [11, 12] (fun x y => ∃ m : Nat, (m : Int) ≤ 7 - (r : Int) ∧ x = .int .i64 (z / 2 ^ m) ∧ y = .int .i64 (m : Int)) (fun _ y => 8 - (intOf y).toNat)
        case atStart => exact ⟨0, by omega, by simp, rfl⟩
        case round =>
          obtain ⟨m, hm, rfl, rfl⟩ := hrel
          have hnx : z / 2 ^ (m + 1) = z / 2 ^ m / 2 := by rw [Int.pow_succ, Int.ediv_ediv_of_nonneg (by exact Int.pow_nonneg (by omega))]
          have HNX := Lib.hid hnx
          have hy0 : 0 ≤ z / 2 ^ m := Int.ediv_nonneg hzi.1 (Int.pow_nonneg (by omega))
          have hy1 : z / 2 ^ m ≤ z := Int.ediv_le_self _ hzi.1
          have HBM := Lib.hid (show (m : Int) = 7 - (r : Int) → bitD zs kk = z / 2 ^ m % 2 from fun h => by rw [HBD.out, show 7 - r = m by omega])
          clear hnx
          generalize z / 2 ^ m = y at *
          have ht2 : y.tdiv 2 = y / 2 := by rw [Int.tdiv_eq_ediv_of_nonneg hy0]
          have hm2 : y.tmod 2 = y % 2 := by rw [Int.tmod_eq_emod_of_nonneg hy0]
          have hwy : IntKind.i64.wrap (y / 2) = y / 2 := by rw [IntKind.wrap_i64]; omega
          have hwm : IntKind.i64.wrap ((m : Int) + 1) = (m : Int) + 1 := by rw [IntKind.wrap_i64]; omega
          by_cases hmr : (m : Int) < 7 - (r : Int)
          · clear hm2
            go_wp2
            go_round
            case rel => exact ⟨m + 1, by omega, by rw [HNX.out], by go_num⟩
            case measure => simp [intOf]; omega
          · have HBE := Lib.hid (HBM.out (by omega))
            generalize valD zs k0 j = v at *
            have hw2 : IntKind.i64.wrap (2 * v) = 2 * v := by rw [IntKind.wrap_i64]; omega
            have hw3 : IntKind.i64.wrap (2 * v + y % 2) = 2 * v + y % 2 := by rw [IntKind.wrap_i64]; omega
            clear ht2 hwy
            go_wp2
            go_round
            case rel => exact ⟨j + 1, HJ.out, by rw [HVS.out, HBE.out], by first | rfl | go_num⟩
            case measure => have := HJ.out; simp [intOf]; omega
      · obtain rfl : j = b := by omega
        have hv := HV.out j
        go_wp2
        go_ret2
        exact ⟨by rw [HS.out]; show _ = Ending.returned (.tuple #[.int .i64 (((valD zs k0 j).toNat : Nat) : Int), .bool true]); rw [Int.toNat_of_nonneg hv.1]; rfl, rfl⟩

end Go.Proofs.Ythmmoogfngohaaa
