/- Layer 22, a block of any symbols: contracts of the number of bits and of a symbol of data. -/
import Derived.Test.YthmmoogfngohaaaSx1
import Derived.Deep.CutRange
namespace Go.Proofs.Ythmmoogfngohaaa
open Go.RowKit

def bitsN (n : Nat) : Nat := (List.range 9).countP fun b => 2 ^ b < n
theorem bits_lt : ∀ n, n < 257 → ∀ b, b < 9 → (2 ^ b < n ↔ b < bitsN n) := by decide +kernel
theorem bits_le : ∀ n, n < 257 → bitsN n ≤ 8 := by decide +kernel
/-- bit number k of data -/
def bitD (zs : List Int) (k : Nat) : Int := zs.getD (k / 8) 0 / 2 ^ (7 - k % 8) % 2
def valD (zs : List Int) (i : Nat) : Nat → Int
  | 0 => 0
  | j + 1 => 2 * valD zs i j + bitD zs (i + j)
theorem bitD_in (zs : List Int) (k : Nat) : 0 ≤ bitD zs k ∧ bitD zs k ≤ 1 := by unfold bitD; omega
theorem valD_in (zs : List Int) (i : Nat) : ∀ j, 0 ≤ valD zs i j ∧ valD zs i j < 2 ^ j
  | 0 => by simp [valD]
  | j + 1 => by
    have := valD_in zs i j
    have hb := bitD_in zs (i + j)
    unfold valD
    rw [Int.pow_succ]
    omega
/-- a symbol of data: so many bits each -/
def symS (zs : List Int) (b i : Nat) : Option Nat := if 8 * zs.length < (i + 1) * b then none else some (valD zs (b * i) b).toNat

set_option maxHeartbeats 2000000 in
theorem bits_any (w : World) (n : Nat) (hn : n ≤ 256) : Calls Try.prog 17 #[.int .i64 n] w fun e w' => e = .returned (.int .i64 (bitsN n)) ∧ w = w' := by
  have HL := Lib.hid (bits_lt n (by omega))
  have hle := bits_le n (by omega)
  generalize bitsN n = M at *
  go_enter Try.func17, Try.ntmps17
  go_wp2
  go_loop [3] (fun x => ∃ b : Nat, b ≤ M ∧ x = .int .i64 b) (fun x => 10 - (intOf x).toNat)
  case atStart => exact ⟨0, by omega, rfl⟩
  case round =>
    obtain ⟨b, hb, rfl⟩ := hrel
    by_cases h1 : (1 : Int) < (n : Int)
    · rcases (show b = 0 ∨ b = 1 ∨ b = 2 ∨ b = 3 ∨ b = 4 ∨ b = 5 ∨ b = 6 ∨ b = 7 ∨ b = 8 by omega) with rfl | rfl | rfl | rfl | rfl | rfl | rfl | rfl | rfl
      · by_cases h2 : (1 : Int) < (n : Int)
        · have hbM : 0 < M := (HL.out 0 (by omega)).1 (by omega)
          go_wp2
          go_round
          case rel => exact ⟨1, by omega, by first | rfl | go_num⟩
          case measure => simp [intOf]
        · exact absurd h1 h2
      · by_cases h2 : (2 : Int) < (n : Int)
        · have hbM : 1 < M := (HL.out 1 (by omega)).1 (by omega)
          go_wp2
          go_round
          case rel => exact ⟨2, by omega, by first | rfl | go_num⟩
          case measure => simp [intOf]
        · have hbM : M = 1 := by
            have := (HL.out 1 (by omega)).2
            omega
          subst hbM
          go_wp2
          go_ret
          exact ⟨rfl, rfl⟩
      · by_cases h2 : (4 : Int) < (n : Int)
        · have hbM : 2 < M := (HL.out 2 (by omega)).1 (by omega)
          go_wp2
          go_round
          case rel => exact ⟨3, by omega, by first | rfl | go_num⟩
          case measure => simp [intOf]
        · have hbM : M = 2 := by
            have := (HL.out 2 (by omega)).2
            omega
          subst hbM
          go_wp2
          go_ret
          exact ⟨rfl, rfl⟩
      · by_cases h2 : (8 : Int) < (n : Int)
        · have hbM : 3 < M := (HL.out 3 (by omega)).1 (by omega)
          go_wp2
          go_round
          case rel => exact ⟨4, by omega, by first | rfl | go_num⟩
          case measure => simp [intOf]
        · have hbM : M = 3 := by
            have := (HL.out 3 (by omega)).2
            omega
          subst hbM
          go_wp2
          go_ret
          exact ⟨rfl, rfl⟩
      · by_cases h2 : (16 : Int) < (n : Int)
        · have hbM : 4 < M := (HL.out 4 (by omega)).1 (by omega)
          go_wp2
          go_round
          case rel => exact ⟨5, by omega, by first | rfl | go_num⟩
          case measure => simp [intOf]
        · have hbM : M = 4 := by
            have := (HL.out 4 (by omega)).2
            omega
          subst hbM
          go_wp2
          go_ret
          exact ⟨rfl, rfl⟩
      · by_cases h2 : (32 : Int) < (n : Int)
        · have hbM : 5 < M := (HL.out 5 (by omega)).1 (by omega)
          go_wp2
          go_round
          case rel => exact ⟨6, by omega, by first | rfl | go_num⟩
          case measure => simp [intOf]
        · have hbM : M = 5 := by
            have := (HL.out 5 (by omega)).2
            omega
          subst hbM
          go_wp2
          go_ret
          exact ⟨rfl, rfl⟩
      · by_cases h2 : (64 : Int) < (n : Int)
        · have hbM : 6 < M := (HL.out 6 (by omega)).1 (by omega)
          go_wp2
          go_round
          case rel => exact ⟨7, by omega, by first | rfl | go_num⟩
          case measure => simp [intOf]
        · have hbM : M = 6 := by
            have := (HL.out 6 (by omega)).2
            omega
          subst hbM
          go_wp2
          go_ret
          exact ⟨rfl, rfl⟩
      · by_cases h2 : (128 : Int) < (n : Int)
        · have hbM : 7 < M := (HL.out 7 (by omega)).1 (by omega)
          go_wp2
          go_round
          case rel => exact ⟨8, by omega, by first | rfl | go_num⟩
          case measure => simp [intOf]
        · have hbM : M = 7 := by
            have := (HL.out 7 (by omega)).2
            omega
          subst hbM
          go_wp2
          go_ret
          exact ⟨rfl, rfl⟩
      · have h2 : ¬ (256 : Int) < (n : Int) := by omega
        have hbM : M = 8 := by omega
        subst hbM
        go_wp2
        go_ret
        exact ⟨rfl, rfl⟩
    · have hM : M = 0 := by
        have := HL.out 0 (by omega)
        simp at this
        omega
      obtain rfl : b = 0 := by omega
      subst hM
      go_wp2
      go_ret
      exact ⟨rfl, rfl⟩

theorem and_one {x : Int} (h0 : 0 ≤ x) (h1 : x ≤ 255) : bits .and .u8 x 1 = x % 2 := by
  have := bits_mask .u8 8 (by decide) (fun n h0 h1 => by rw [IntKind.wrap_u8]; omega) 1 (by decide) x h0 (by omega)
  simpa using this

theorem by8_at {w : World} {B n k : Nat} {A : Option Addr} {zs : List Int} (h : Reads w B 1 A n (zs.map (Value.int .u8))) (hk : k < n) :
    ∃ ad, A = some ad ∧ ad.block < B ∧ w.cell? (ad.add k) = some (.int .u8 (zs.getD k 0)) := by
  obtain ⟨ad, u, e, hb, hx, hc⟩ := h.at_ hk
  refine ⟨ad, e, hb, hc.trans ?_⟩
  rw [← hx]
  have hl : k < zs.length := by have := h.1; simp at this; omega
  simp [List.getD_eq_getElem?_getD, hl]
theorem getD_mem {zs : List Int} {k : Nat} (h : k < zs.length) : zs.getD k 0 ∈ zs := by
  rw [List.getD_eq_getElem?_getD, List.getElem?_eq_getElem h]; exact List.getElem_mem h

set_option maxRecDepth 100000 in
set_option maxHeartbeats 8000000 in
theorem symbol_gen (w : World) (B n c b i : Nat) (A : Option Addr) (zs : List Int) (hr : Reads w B 1 A n (zs.map (Value.int .u8))) (hz : ∀ z ∈ zs, 0 ≤ z ∧ z ≤ 255) (hn : n ≤ 1000) (hb : b ≤ 8) (hi : i ≤ 1048576) :
    Calls Try.prog 18 #[.slice A n c, .int .i64 b, .int .i64 i] w fun e w' => e = .returned (.tuple #[.int .i64 (((symS zs b i).getD 0 : Nat) : Int), .bool (symS zs b i).isSome]) ∧ w = w' := by
  have hl : zs.length = n := by have := hr.1; simpa using this
  have hw8 : IntKind.i64.wrap (8 * (n : Int)) = 8 * (n : Int) := by rw [IntKind.wrap_i64]; omega
  have hb0 : ¬ (b : Int) < 0 := by omega
  have hb8 : ¬ (8 : Int) < (b : Int) := by omega
  have hi0 : ¬ (i : Int) < 0 := by omega
  by_cases hbz : b = 0
  · subst hbz
    have HS := Lib.hid (show symS zs 0 i = some 0 by unfold symS; rw [if_neg (by omega)]; rfl)
    have hn0 : ¬ 8 * (n : Int) < 0 := by omega
    go_enter Try.func18, Try.ntmps18
    go_wp2
    go_loop [8, 9] (fun x y => x = .int .i64 0 ∧ y = .int .i64 0) (fun _ _ => 0)
    case atStart => exact ⟨rfl, by first | rfl | simp⟩
    case round =>
      obtain ⟨rfl, rfl⟩ := hrel
      go_wp2
      go_ret2
      exact ⟨by rw [HS.out]; rfl, rfl⟩
  have hbp : (0 : Int) < (b : Int) := by omega
  have hbne : ((b : Int) == 0) = false := by simpa using hbz
  by_cases hin : 8 * n < (i + 1) * b
  · have HS := Lib.hid (show symS zs b i = none by unfold symS; rw [hl, if_pos hin])
    obtain ⟨q, hq⟩ : ∃ q : Int, q = (8 * (n : Int) - (b : Int)).tdiv (b : Int) := ⟨_, rfl⟩
    have hqi : q < (i : Int) := by
      rw [hq]
      rcases Nat.lt_or_ge (8 * n) b with h | h
      · have : (8 * (n : Int) - (b : Int)).tdiv (b : Int) ≤ 0 := by
          obtain ⟨m, hm⟩ : ∃ m : Nat, 8 * (n : Int) - (b : Int) = -(m : Int) := ⟨b - 8 * n, by omega⟩
          rw [hm, Int.neg_tdiv]
          have : (0 : Int) ≤ (m : Int).tdiv (b : Int) := Int.tdiv_nonneg (by omega) (by omega)
          omega
        rcases Nat.eq_zero_or_pos i with e | e
        · subst e
          obtain rfl : n = 0 := by omega
          rw [show 8 * ((0 : Nat) : Int) - (b : Int) = -(b : Int) by simp, Int.neg_tdiv, Int.tdiv_self (by omega)]
          omega
        · omega
      · obtain ⟨m, hm⟩ : ∃ m : Nat, 8 * (n : Int) - (b : Int) = (m : Int) := ⟨8 * n - b, by omega⟩
        rw [hm]
        have h2 : (m : Int).tdiv (b : Int) = ((m / b : Nat) : Int) := rfl
        rw [h2]
        have : m / b < i := by
          rw [Nat.div_lt_iff_lt_mul (by omega)]
          have : (i + 1) * b = i * b + b := Nat.succ_mul i b
          omega
        omega
    have hws : IntKind.i64.wrap (8 * (n : Int) - (b : Int)) = 8 * (n : Int) - (b : Int) := by rw [IntKind.wrap_i64]; omega
    have hwq : IntKind.i64.wrap q = q := by
      have h1 : -9223372036854775808 ≤ q := by
        rw [hq]
        have := Int.natAbs_tdiv_le_natAbs (8 * (n : Int) - (b : Int)) (b : Int)
        omega
      rw [IntKind.wrap_i64]; omega
    have hq2 : (8 * (n : Int) - (b : Int)).tdiv (b : Int) = q := hq.symm
    clear hq hr hz
    go_enter Try.func18, Try.ntmps18
    go_wp2
    go_ret2
    exact ⟨by rw [HS.out]; rfl, rfl⟩
  · have hni : (i + 1) * b ≤ 8 * n := by omega
    have HS := Lib.hid (show symS zs b i = some (valD zs (b * i) b).toNat by unfold symS; rw [hl, if_neg hin])
    have hsucc : (i + 1) * b = i * b + b := Nat.succ_mul i b
    obtain ⟨q, hq⟩ : ∃ q : Nat, q = (8 * n - b) / b := ⟨_, rfl⟩
    have hqi : ¬ (q : Int) < (i : Int) := by
      have : i ≤ q := by rw [hq, Nat.le_div_iff_mul_le (by omega)]; omega
      omega
    obtain ⟨m, hm⟩ : ∃ m : Nat, 8 * (n : Int) - (b : Int) = (m : Int) := ⟨8 * n - b, by omega⟩
    have hqm : q ≤ 8000 := by rw [hq]; exact Nat.le_trans (Nat.div_le_self _ _) (by omega)
    have hws : IntKind.i64.wrap (8 * (n : Int) - (b : Int)) = (m : Int) := by rw [hm, IntKind.wrap_i64]; omega
    have hq2 : (m : Int).tdiv (b : Int) = (q : Int) := by
      have : m = 8 * n - b := by omega
      rw [hq, this]; rfl
    have hwq : IntKind.i64.wrap (q : Int) = (q : Int) := by rw [IntKind.wrap_i64]; omega
    have hbn : ¬ 8 * (n : Int) < (b : Int) := by omega
    obtain ⟨k0, hk0⟩ : ∃ k0 : Nat, k0 = b * i := ⟨_, rfl⟩
    have hk0n : k0 + b ≤ 8 * n := by rw [hk0, Nat.mul_comm]; omega
    have hcast : (b : Int) * (i : Int) = (k0 : Int) := by rw [hk0]; exact (Int.natCast_mul _ _).symm
    have hwk : IntKind.i64.wrap ((b : Int) * (i : Int)) = (k0 : Int) := by rw [hcast, IntKind.wrap_i64]; omega
    have hwk2 : IntKind.i64.wrap ((k0 : Int) + (b : Int)) = (k0 : Int) + (b : Int) := by rw [IntKind.wrap_i64]; omega
    rw [← hk0] at HS
    have HRD := Lib.hid (And.intro hr hz)
    have HV := Lib.hid (valD_in zs k0)
    clear hq hm hcast hk0 hr hz hni hsucc hin
    go_enter Try.func18, Try.ntmps18
    go_wp2_with fail
    go_loop [8, 9] (fun x y => ∃ j : Nat, j ≤ b ∧ x = .int .i64 (valD zs k0 j) ∧ y = .int .i64 ((k0 + j : Nat) : Int)) (fun _ y => k0 + b + 1 - (intOf y).toNat)
    case atStart => exact ⟨0, by omega, rfl, rfl⟩
    case round =>
      obtain ⟨j, hj, rfl, rfl⟩ := hrel
      obtain ⟨kk, hkk⟩ : ∃ kk, kk = k0 + j := ⟨_, rfl⟩
      rw [← hkk]
      by_cases hjb : j < b
      · have hjI : (kk : Int) < (k0 : Int) + (b : Int) := by omega
        have hk8 : kk / 8 < n := by omega
        obtain ⟨ad, rfl, hab, hcl⟩ := by8_at HRD.out.1 hk8
        have hzi := HRD.out.2 (zs.getD (kk / 8) 0) (getD_mem (by rw [hl]; exact hk8))
        have hv := HV.out j
        have hbd := bitD_in zs kk
        have HVS := Lib.hid (show valD zs k0 (j + 1) = 2 * valD zs k0 j + bitD zs kk by rw [hkk]; rfl)
        have hpow : (2 : Int) ^ j ≤ 128 := by
          have : (2 : Int) ^ j ≤ 2 ^ 7 := by
            have h := Nat.pow_le_pow_right (n := 2) (by omega) (show j ≤ 7 by omega)
            exact_mod_cast h
          omega
        have HBD := Lib.hid (show bitD zs kk = zs.getD (kk / 8) 0 / 2 ^ (7 - kk % 8) % 2 from rfl)
        obtain ⟨d, hd⟩ : ∃ d, d = kk / 8 := ⟨_, rfl⟩
        rw [← hd] at hcl hzi HBD hk8
        have htd : (kk : Int).tdiv 8 = (d : Int) := by rw [hd]; rfl
        have hdn : (d : Int) < (n : Int) := by omega
        have hd0 : (0 : Int) ≤ (d : Int) := Int.natCast_nonneg _
        have hwd : IntKind.i64.wrap (d : Int) = (d : Int) := by rw [IntKind.wrap_i64]; omega
        have hwn : IntKind.i64.wrap ((kk : Int) + 1) = (kk : Int) + 1 := by rw [IntKind.wrap_i64]; omega
        generalize zs.getD d 0 = z at *
        generalize valD zs k0 j = v at *
        have hwv : IntKind.i64.wrap (v * 2) = v * 2 := by rw [IntKind.wrap_i64]; omega
        have HKK := Lib.hid hkk
        clear hkk hd
        obtain ⟨r, hr8⟩ : ∃ r, r = kk % 8 := ⟨_, rfl⟩
        rw [← hr8] at HBD
        have hrr : r < 8 := by omega
        have htm : (kk : Int).tmod 8 = (r : Int) := by rw [hr8]; rfl
        clear hr8
        rcases (show r = 0 ∨ r = 1 ∨ r = 2 ∨ r = 3 ∨ r = 4 ∨ r = 5 ∨ r = 6 ∨ r = 7 by omega) with rfl | rfl | rfl | rfl | rfl | rfl | rfl | rfl
        · have HB := Lib.hid (show bitD zs kk = (z / 128) % 2 by rw [HBD.out]; first | rfl | simp)
          have hand : bits .and .u8 (z / 128) 1 = (z / 128) % 2 := and_one (by omega) (by omega)
          have hor : bits .or .i64 (v * 2) ((z / 128) % 2) = v * 2 + (z / 128) % 2 := bits_join .i64 62 (by decide) (fun n h0 h1 => by rw [IntKind.wrap_i64]; omega) 1 _ _ (by omega) (by omega) (by omega) (by omega) (by omega) (by omega)
          have hwb : IntKind.i64.wrap ((z / 128) % 2) = (z / 128) % 2 := by rw [IntKind.wrap_i64]; omega
          go_wp2
          go_round
          case rel => exact ⟨j + 1, by omega, by rw [HVS.out, HB.out]; congr 1; omega, by rw [HKK.out]; first | go_num | (congr 1; omega)⟩
          case measure => have := HKK.out; simp [intOf]; omega
        · have HB := Lib.hid (show bitD zs kk = (z / 64) % 2 by rw [HBD.out]; first | rfl | simp)
          have hand : bits .and .u8 (z / 64) 1 = (z / 64) % 2 := and_one (by omega) (by omega)
          have hor : bits .or .i64 (v * 2) ((z / 64) % 2) = v * 2 + (z / 64) % 2 := bits_join .i64 62 (by decide) (fun n h0 h1 => by rw [IntKind.wrap_i64]; omega) 1 _ _ (by omega) (by omega) (by omega) (by omega) (by omega) (by omega)
          have hwb : IntKind.i64.wrap ((z / 64) % 2) = (z / 64) % 2 := by rw [IntKind.wrap_i64]; omega
          go_wp2
          go_round
          case rel => exact ⟨j + 1, by omega, by rw [HVS.out, HB.out]; congr 1; omega, by rw [HKK.out]; first | go_num | (congr 1; omega)⟩
          case measure => have := HKK.out; simp [intOf]; omega
        · have HB := Lib.hid (show bitD zs kk = (z / 32) % 2 by rw [HBD.out]; first | rfl | simp)
          have hand : bits .and .u8 (z / 32) 1 = (z / 32) % 2 := and_one (by omega) (by omega)
          have hor : bits .or .i64 (v * 2) ((z / 32) % 2) = v * 2 + (z / 32) % 2 := bits_join .i64 62 (by decide) (fun n h0 h1 => by rw [IntKind.wrap_i64]; omega) 1 _ _ (by omega) (by omega) (by omega) (by omega) (by omega) (by omega)
          have hwb : IntKind.i64.wrap ((z / 32) % 2) = (z / 32) % 2 := by rw [IntKind.wrap_i64]; omega
          go_wp2
          go_round
          case rel => exact ⟨j + 1, by omega, by rw [HVS.out, HB.out]; congr 1; omega, by rw [HKK.out]; first | go_num | (congr 1; omega)⟩
          case measure => have := HKK.out; simp [intOf]; omega
        · have HB := Lib.hid (show bitD zs kk = (z / 16) % 2 by rw [HBD.out]; first | rfl | simp)
          have hand : bits .and .u8 (z / 16) 1 = (z / 16) % 2 := and_one (by omega) (by omega)
          have hor : bits .or .i64 (v * 2) ((z / 16) % 2) = v * 2 + (z / 16) % 2 := bits_join .i64 62 (by decide) (fun n h0 h1 => by rw [IntKind.wrap_i64]; omega) 1 _ _ (by omega) (by omega) (by omega) (by omega) (by omega) (by omega)
          have hwb : IntKind.i64.wrap ((z / 16) % 2) = (z / 16) % 2 := by rw [IntKind.wrap_i64]; omega
          go_wp2
          go_round
          case rel => exact ⟨j + 1, by omega, by rw [HVS.out, HB.out]; congr 1; omega, by rw [HKK.out]; first | go_num | (congr 1; omega)⟩
          case measure => have := HKK.out; simp [intOf]; omega
        · have HB := Lib.hid (show bitD zs kk = (z / 8) % 2 by rw [HBD.out]; first | rfl | simp)
          have hand : bits .and .u8 (z / 8) 1 = (z / 8) % 2 := and_one (by omega) (by omega)
          have hor : bits .or .i64 (v * 2) ((z / 8) % 2) = v * 2 + (z / 8) % 2 := bits_join .i64 62 (by decide) (fun n h0 h1 => by rw [IntKind.wrap_i64]; omega) 1 _ _ (by omega) (by omega) (by omega) (by omega) (by omega) (by omega)
          have hwb : IntKind.i64.wrap ((z / 8) % 2) = (z / 8) % 2 := by rw [IntKind.wrap_i64]; omega
          go_wp2
          go_round
          case rel => exact ⟨j + 1, by omega, by rw [HVS.out, HB.out]; congr 1; omega, by rw [HKK.out]; first | go_num | (congr 1; omega)⟩
          case measure => have := HKK.out; simp [intOf]; omega
        · have HB := Lib.hid (show bitD zs kk = (z / 4) % 2 by rw [HBD.out]; first | rfl | simp)
          have hand : bits .and .u8 (z / 4) 1 = (z / 4) % 2 := and_one (by omega) (by omega)
          have hor : bits .or .i64 (v * 2) ((z / 4) % 2) = v * 2 + (z / 4) % 2 := bits_join .i64 62 (by decide) (fun n h0 h1 => by rw [IntKind.wrap_i64]; omega) 1 _ _ (by omega) (by omega) (by omega) (by omega) (by omega) (by omega)
          have hwb : IntKind.i64.wrap ((z / 4) % 2) = (z / 4) % 2 := by rw [IntKind.wrap_i64]; omega
          go_wp2
          go_round
          case rel => exact ⟨j + 1, by omega, by rw [HVS.out, HB.out]; congr 1; omega, by rw [HKK.out]; first | go_num | (congr 1; omega)⟩
          case measure => have := HKK.out; simp [intOf]; omega
        · have HB := Lib.hid (show bitD zs kk = (z / 2) % 2 by rw [HBD.out]; first | rfl | simp)
          have hand : bits .and .u8 (z / 2) 1 = (z / 2) % 2 := and_one (by omega) (by omega)
          have hor : bits .or .i64 (v * 2) ((z / 2) % 2) = v * 2 + (z / 2) % 2 := bits_join .i64 62 (by decide) (fun n h0 h1 => by rw [IntKind.wrap_i64]; omega) 1 _ _ (by omega) (by omega) (by omega) (by omega) (by omega) (by omega)
          have hwb : IntKind.i64.wrap ((z / 2) % 2) = (z / 2) % 2 := by rw [IntKind.wrap_i64]; omega
          go_wp2
          go_round
          case rel => exact ⟨j + 1, by omega, by rw [HVS.out, HB.out]; congr 1; omega, by rw [HKK.out]; first | go_num | (congr 1; omega)⟩
          case measure => have := HKK.out; simp [intOf]; omega
        · have HB := Lib.hid (show bitD zs kk = z % 2 by rw [HBD.out]; first | rfl | simp)
          have hand : bits .and .u8 z 1 = z % 2 := and_one (by omega) (by omega)
          have hor : bits .or .i64 (v * 2) (z % 2) = v * 2 + z % 2 := bits_join .i64 62 (by decide) (fun n h0 h1 => by rw [IntKind.wrap_i64]; omega) 1 _ _ (by omega) (by omega) (by omega) (by omega) (by omega) (by omega)
          have hwb : IntKind.i64.wrap (z % 2) = z % 2 := by rw [IntKind.wrap_i64]; omega
          go_wp2
          go_round
          case rel => exact ⟨j + 1, by omega, by rw [HVS.out, HB.out]; congr 1; omega, by rw [HKK.out]; first | go_num | (congr 1; omega)⟩
          case measure => have := HKK.out; simp [intOf]; omega
      · obtain rfl : j = b := by omega
        have hjI : ¬ (kk : Int) < (k0 : Int) + (j : Int) := by omega
        have hv := HV.out j
        go_wp2
        go_ret2
        exact ⟨by rw [HS.out]; show _ = Ending.returned (.tuple #[.int .i64 (((valD zs k0 j).toNat : Nat) : Int), .bool true]); rw [Int.toNat_of_nonneg hv.1]; rfl, rfl⟩

end Go.Proofs.Ythmmoogfngohaaa
