/- Contracts of layer 17: a number put behind bytes, by the program and by the document. -/
import Derived.Test.YtpfojhmaeaeecaaWire2
namespace Go.Proofs.Ytpfojhmaeaeecaa
open Go.RowKit

/-- a number's n lowest bytes, the lowest first -/
def bytesL : Nat → Int → List Int
  | 0, _ => []
  | k + 1, v => v % 256 :: bytesL k (v / 256)
theorem bytesL_len : ∀ k v, (bytesL k v).length = k
  | 0, _ => rfl
  | k + 1, v => by rw [bytesL, List.length_cons, bytesL_len k]
theorem bytesL_in : ∀ k v, isU8 (bytesL k v)
  | 0, _ => fun z hz => by simp [bytesL] at hz
  | k + 1, v => fun z hz => by
    rw [bytesL] at hz
    rcases List.mem_cons.1 hz with rfl | h
    · omega
    · exact bytesL_in k _ z h
/-- what is left of a number behind k bytes -/
def shrI (v : Int) : Nat → Int
  | 0 => v
  | k + 1 => shrI v k / 256
theorem bytesL_snoc : ∀ k v, bytesL (k + 1) v = bytesL k v ++ [shrI v k % 256]
  | 0, v => rfl
  | k + 1, v => by
    have h : ∀ (j : Nat) (u : Int), shrI (u / 256) j = shrI u (j + 1) := by
      intro j
      induction j with
      | zero => intro u; rfl
      | succ j ih => intro u; rw [shrI, ih]; rfl
    rw [bytesL, bytesL_snoc k (v / 256), h]
    rfl
theorem shrI_in {v : Int} (h0 : -9223372036854775808 ≤ v) (h1 : v ≤ 9223372036854775807) : ∀ k, -9223372036854775808 ≤ shrI v k ∧ shrI v k ≤ 9223372036854775807
  | 0 => ⟨h0, h1⟩
  | k + 1 => by have := shrI_in h0 h1 k; rw [shrI]; omega
theorem shrB_in {v : Int} (h0 : -1000000000000 ≤ v) (h1 : v ≤ 1000000000000) : ∀ k, -1000000000000 ≤ shrI v k ∧ shrI v k ≤ 1000000000000
  | 0 => ⟨h0, h1⟩
  | k + 1 => by have := shrB_in h0 h1 k; rw [shrI]; omega
theorem valL_bytes : ∀ k v, 0 ≤ v → v < 256 ^ k → valL (bytesL k v) = v
  | 0, v, h0, h1 => by simp at h1; simp [bytesL, valL]; omega
  | k + 1, v, h0, h1 => by
    rw [Int.pow_succ] at h1
    rw [bytesL, valL, valL_bytes k (v / 256) (by omega) (by omega)]
    omega
/-- how an own row may have moved: to where it was, or to new memory -/
def Moved (w : World) (V V' : Value) : Prop := V'.ownBlock = V.ownBlock ∨ ∃ g, w.heap.size ≤ g ∧ V'.ownBlock = some g
theorem grown_moved {w w1 w2 w3 : World} {V V1 : Value} (h : w.grownBy w1 V.ownBlock) (ha : w1.grownBy w2 none) (h2 : w2.grownBy w3 V1.ownBlock) (hm : Moved w V V1) : w.grownBy w3 V.ownBlock := by
  refine ⟨h2.os.trans (ha.os.trans h.os), h2.tape.trans (ha.tape.trans h.tape), h2.output.trans (ha.output.trans h.output), Nat.le_trans h.size (Nat.le_trans ha.size h2.size), fun j hj hne => ?_⟩
  have h1s := h.size
  have has := ha.size
  refine (h2.block j (by omega) ?_).trans ((ha.block j (by omega) (by simp)).trans (h.block j hj hne))
  rcases hm with e | ⟨g, hg, e⟩
  · rw [e]; exact hne
  · rw [e]; intro e2; injection e2 with e2; omega
theorem moved_next {w : World} {V V1 V2 : Value} {s : Nat} (hm : Moved w V V1) (hs : w.heap.size ≤ s) (h : V2.ownBlock = V1.ownBlock ∨ V2.ownBlock = some s) : Moved w V V2 := by
  rcases h with h | h
  · rcases hm with e | ⟨g, hg, e⟩
    · exact .inl (h.trans e)
    · exact .inr ⟨g, hg, h.trans e⟩
  · exact .inr ⟨_, hs, h⟩

set_option maxRecDepth 100000 in
set_option maxHeartbeats 2000000 in
theorem put_any (w : World) (base m n : Nat) (V : Value) (v : Int) (xs : List Int) (v0 : -9223372036854775808 ≤ v) (v1 : v ≤ 9223372036854775807) (hown : w.ownsRow base 5 1 V m (xs.map (Value.int .u8))) (hm : m ≤ 5000000) (hn : n ≤ 4) (hb : base ≤ w.heap.size) (h1 : 1 ≤ n) :
    Calls Try.prog 11 #[V, .int .i64 n, .int .i64 v] w fun e w' => ∃ V', e = .returned V' ∧ w'.ownsRow base 5 1 V' (m + n) ((xs ++ bytesL n v).map (Value.int .u8)) ∧ w.grownBy w' V.ownBlock ∧ Moved w V V' := by
  obtain ⟨i0, hi, hz0, hz1, hz2⟩ := info_parts u8Info
  have i1 : (1 : Int) ≤ (n : Int) := by omega
  have i2 : (n : Int) ≤ 4 := by omega
  go_enter Try.func11, Try.ntmps11
  go_wp2
  go_loopw [0, 2, 15] (fun b x i wr => ∃ k : Nat, k ≤ n ∧ i = .int .i64 k ∧ x = .int .i64 (shrI v k) ∧ wr.ownsRow base 5 1 b (m + k) ((xs ++ bytesL k v).map (Value.int .u8)) ∧ w.grownBy wr V.ownBlock ∧ Moved w V b) (fun _ _ i _ => n - (intOf i).toNat)
  case atStart => exact ⟨0, by omega, rfl, rfl, by simpa [bytesL] using hown, World.grownBy.refl w _, .inl rfl⟩
  case round =>
    clear hown
    obtain ⟨k, hk, rfl, rfl, hown, hgr, hmv⟩ := hrel
    have hsz := hgr.size
    by_cases hlt : k < n
    · obtain ⟨s0, s1⟩ := shrI_in v0 v1 k
      have HB := Lib.hid (bytesL_snoc k v)
      have HS := Lib.hid (show shrI v (k + 1) = shrI v k / 256 from rfl)
      generalize shrI v k = S at *
      go_wp2_with (first
        | (at_builtin; refine wpList_append_any _ rfl _ _ 22 rfl base 5 i0 (.int .u8 0) 1 1 Try.underlying22 hi hz0 hz1 hz2 rfl (by decide) _ (m + k) _ rfl (hown.alloc _) _ (some ⟨wr.heap.size, 0, none⟩) 1 1 [.int .u8 (S % 256)] rfl (reads_new wr _ #[.int .u8 (S % 256)] [.int .u8 (S % 256)] rfl) (by simp [Value.oneCell']) (by unfold maxLen; omega) (by omega) (by simp; omega) ?_)
        | go_in)
      intro v' w3 hown' hgrow hor
      have hg3 : w.grownBy w3 V.ownBlock := grown_moved hgr (World.grownBy_alloc wr _ none) hgrow hmv
      have hm3 : Moved w V v' := moved_next hmv (by omega) hor
      clear hgrow hor hown
      go_wp2
      go_roundw
      case rel => exact ⟨k + 1, by omega, by go_num, by first | rw [HS.out] | (rw [HS.out]; rfl), by rw [HB.out]; simpa [Nat.add_assoc] using hown', hg3, hm3⟩
      case measure => simp [intOf]; omega
    · obtain rfl : k = n := by omega
      go_wp2
      go_ret
      exact ⟨_, rfl, hown, hgr, hmv⟩

theorem tmod256 (v : Int) : (v.tmod 256 + 256) % 256 = v % 256 ∧ -256 < v.tmod 256 ∧ v.tmod 256 < 256 := by
  rw [Int.tmod_eq_emod]
  split
  · omega
  · rename_i h
    have : v % 256 ≠ 0 := fun e => h (.inr (Int.dvd_of_emod_eq_zero e))
    omega
theorem tdiv_neg {v : Int} (h : v < 0) : (v - 255).tdiv 256 = v / 256 := by
  rw [Int.tdiv_eq_ediv]
  split
  · rename_i hc
    rcases hc with hc | hc
    · omega
    · have := Int.emod_eq_zero_of_dvd hc
      omega
  · rename_i hc
    have : (v - 255) % 256 ≠ 0 := fun e => hc (.inr (Int.dvd_of_emod_eq_zero e))
    rw [show Int.sign 256 = 1 from rfl]
    omega

set_option maxRecDepth 100000 in
set_option maxHeartbeats 2000000 in
theorem put17R_any (w : World) (base m n : Nat) (V : Value) (v : Int) (xs : List Int) (v0 : -1000000000000 ≤ v) (v1 : v ≤ 1000000000000) (hown : w.ownsRow base 5 1 V m (xs.map (Value.int .u8))) (hm : m ≤ 5000000) (hn : n ≤ 4) (hb : base ≤ w.heap.size) (h1 : 1 ≤ n) :
    Calls Try.prog 12 #[V, .int .i64 n, .int .i64 v] w fun e w' => ∃ V', e = .returned V' ∧ w'.ownsRow base 5 1 V' (m + n) ((xs ++ bytesL n v).map (Value.int .u8)) ∧ w.grownBy w' V.ownBlock ∧ Moved w V V' := by
  obtain ⟨i0, hi, hz0, hz1, hz2⟩ := info_parts u8Info
  have i1 : (1 : Int) ≤ (n : Int) := by omega
  have i2 : (n : Int) ≤ 4 := by omega
  go_enter Try.func12, Try.ntmps12
  go_wp2
  go_loopw [0, 2, 7] (fun b x i wr => ∃ k : Nat, k ≤ n ∧ i = .int .i64 k ∧ x = .int .i64 (shrI v k) ∧ wr.ownsRow base 5 1 b (m + k) ((xs ++ bytesL k v).map (Value.int .u8)) ∧ w.grownBy wr V.ownBlock ∧ Moved w V b) (fun _ _ i _ => n - (intOf i).toNat)
  case atStart => exact ⟨0, by omega, rfl, rfl, by simpa [bytesL] using hown, World.grownBy.refl w _, .inl rfl⟩
  case round =>
    clear hown
    obtain ⟨k, hk, rfl, rfl, hown, hgr, hmv⟩ := hrel
    have hsz := hgr.size
    by_cases hlt : k < n
    · obtain ⟨s0, s1⟩ := shrB_in v0 v1 k
      have HB := Lib.hid (bytesL_snoc k v)
      have HS := Lib.hid (show shrI v (k + 1) = shrI v k / 256 from rfl)
      generalize shrI v k = S at *
      obtain ⟨t0, t1, t2⟩ := tmod256 S
      have e1 : IntKind.i64.wrap (S.tmod 256 + 256) = S.tmod 256 + 256 := by rw [IntKind.wrap_i64]; omega
      have e2 : (S.tmod 256 + 256).tmod 256 = S % 256 := by rw [Int.tmod_eq_emod_of_nonneg (by omega)]; exact t0
      by_cases hneg : S < 0
      · have htd := tdiv_neg hneg
        go_wp2_with (first
          | (at_builtin; refine wpList_append_any _ rfl _ _ 22 rfl base 5 i0 (.int .u8 0) 1 1 Try.underlying22 hi hz0 hz1 hz2 rfl (by decide) _ (m + k) _ rfl (hown.alloc _) _ (some ⟨wr.heap.size, 0, none⟩) 1 1 [.int .u8 (S % 256)] rfl (reads_new wr _ #[.int .u8 (S % 256)] [.int .u8 (S % 256)] rfl) (by simp [Value.oneCell']) (by unfold maxLen; omega) (by omega) (by simp; omega) ?_)
          | go_in)
        intro v' w3 hown' hgrow hor
        have hg3 : w.grownBy w3 V.ownBlock := grown_moved hgr (World.grownBy_alloc wr _ none) hgrow hmv
        have hm3 : Moved w V v' := moved_next hmv (by omega) hor
        clear hgrow hor hown
        go_wp2
        go_roundw
        case rel => exact ⟨k + 1, by omega, by go_num, by first | rw [HS.out] | (rw [HS.out]; rfl), by rw [HB.out]; simpa [Nat.add_assoc] using hown', hg3, hm3⟩
        case measure => simp [intOf]; omega
      · go_wp2_with (first
          | (at_builtin; refine wpList_append_any _ rfl _ _ 22 rfl base 5 i0 (.int .u8 0) 1 1 Try.underlying22 hi hz0 hz1 hz2 rfl (by decide) _ (m + k) _ rfl (hown.alloc _) _ (some ⟨wr.heap.size, 0, none⟩) 1 1 [.int .u8 (S % 256)] rfl (reads_new wr _ #[.int .u8 (S % 256)] [.int .u8 (S % 256)] rfl) (by simp [Value.oneCell']) (by unfold maxLen; omega) (by omega) (by simp; omega) ?_)
          | go_in)
        intro v' w3 hown' hgrow hor
        have hg3 : w.grownBy w3 V.ownBlock := grown_moved hgr (World.grownBy_alloc wr _ none) hgrow hmv
        have hm3 : Moved w V v' := moved_next hmv (by omega) hor
        clear hgrow hor hown
        go_wp2
        go_roundw
        case rel => exact ⟨k + 1, by omega, by go_num, by first | rw [HS.out] | (rw [HS.out]; rfl), by rw [HB.out]; simpa [Nat.add_assoc] using hown', hg3, hm3⟩
        case measure => simp [intOf]; omega
    · obtain rfl : k = n := by omega
      go_wp2
      go_ret
      exact ⟨_, rfl, hown, hgr, hmv⟩

end Go.Proofs.Ytpfojhmaeaeecaa
