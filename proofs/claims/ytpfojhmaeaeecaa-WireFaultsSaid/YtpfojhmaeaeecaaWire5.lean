/- Contracts of layer 17: a number's digits, a fault's text, and a reader that isn't there. -/
import Derived.Test.YtpfojhmaeaeecaaLawWireL
namespace Go.Proofs.Ytpfojhmaeaeecaa
open Go.RowKit

def digB (d : Nat) : ByteArray := ⟨#[UInt8.ofNat (48 + d)]⟩
def dec (n : Nat) : ByteArray := if n < 10 then digB n else dec (n / 10) ++ digB (n % 10)
termination_by n
decreasing_by omega
theorem dec_low {n : Nat} (h : n < 10) : dec n = digB n := by rw [dec, if_pos h]
theorem dec_high {n : Nat} (h : 10 ≤ n) : dec n = dec (n / 10) ++ digB (n % 10) := by rw [dec, if_neg (by omega)]
theorem ba_assoc (a b c : ByteArray) : a ++ b ++ c = a ++ (b ++ c) := by
  apply ByteArray.ext
  simp [ByteArray.data_append, Array.append_assoc]
theorem ba_nil (a : ByteArray) : a ++ ⟨#[]⟩ = a := by
  apply ByteArray.ext
  simp [ByteArray.data_append]
theorem enc_dig (d : Nat) (h : d < 10) : Utf8.encode (48 + d) = digB d := by
  rcases (show d = 0 ∨ d = 1 ∨ d = 2 ∨ d = 3 ∨ d = 4 ∨ d = 5 ∨ d = 6 ∨ d = 7 ∨ d = 8 ∨ d = 9 by omega) with rfl | rfl | rfl | rfl | rfl | rfl | rfl | rfl | rfl | rfl <;> kernel_rfl
theorem digB_size (d : Nat) : (digB d).size = 1 := rfl
def ten : ByteArray := ⟨#[48, 49, 50, 51, 52, 53, 54, 55, 56, 57]⟩
theorem ext_dig (d : Nat) (h : d < 10) : ({ data := #[48, 49, 50, 51, 52, 53, 54, 55, 56, 57] } : ByteArray).extract d (d + 1) = digB d := by
  rcases (show d = 0 ∨ d = 1 ∨ d = 2 ∨ d = 3 ∨ d = 4 ∨ d = 5 ∨ d = 6 ∨ d = 7 ∨ d = 8 ∨ d = 9 by omega) with rfl | rfl | rfl | rfl | rfl | rfl | rfl | rfl | rfl | rfl <;> kernel_rfl
/-- what stands ahead of a number's last digit -/
def decP (m : Nat) : ByteArray := if m < 10 then ⟨#[]⟩ else dec (m / 10)
theorem decP_dec (m : Nat) : decP m ++ digB (m % 10) = dec m := by
  unfold decP
  by_cases h : m < 10
  · rw [if_pos h, dec_low h, show m % 10 = m by omega]
    apply ByteArray.ext
    simp [ByteArray.data_append]
  · rw [if_neg h, ← dec_high (by omega)]

set_option maxHeartbeats 1000000 in
theorem digits_any (w : World) (n : Nat) (hn : n ≤ 1000000000) :
    Calls Try.prog 49 #[.int .i64 n] w fun e w' => e = .returned (.string (dec n)) ∧ w = w' := by
  go_enter Try.func49, Try.ntmps49
  go_wp2
  go_loop [0, 3] (fun x s => ∃ (m : Nat) (S : ByteArray), S.size + m ≤ n ∧ x = .int .i64 m ∧ s = .string S ∧ Hid (dec n = dec m ++ S)) (fun x _ => (intOf x).toNat)
  case atStart => exact ⟨n, ⟨#[]⟩, by simp [ByteArray.size], rfl, rfl, Lib.hid (ba_nil _).symm⟩
  case round =>
    obtain ⟨m, S, hm, rfl, rfl, HD⟩ := hrel
    have henc : Utf8.encode (48 + (m : Int) % 10) = digB (m % 10) := by
      have := enc_dig (m % 10) (by omega)
      rw [← this]
      congr 1
    have hsz := digB_size (m % 10)
    have hlim : ¬ 9223372036854775807 < 1 + S.size := by omega
    have HS := Lib.hid (show (digB (m % 10) ++ S).size = 1 + S.size by rw [ByteArray.size_append, hsz])
    have HA := Lib.hid (fun (h : 10 ≤ m) => (show dec n = dec (m / 10) ++ (digB (m % 10) ++ S) by rw [HD.out, dec_high h, ba_assoc]))
    have HL := Lib.hid (fun (h : m < 10) => (show dec n = digB (m % 10) ++ S by rw [HD.out, dec_low h, show m % 10 = m by omega]))
    by_cases h10 : m < 10
    · have hq : ((m : Int) / 10 == 0) = true := by simp; omega
      have HN := Lib.hid (HL.out h10)
      generalize digB (m % 10) = T at *
      clear HA HL HD
      go_wp2
      go_ret
      exact ⟨by rw [HN.out]; rfl, rfl⟩
    · have hq : ((m : Int) / 10 == 0) = false := by simp; omega
      have HN := Lib.hid (HA.out (by omega))
      generalize digB (m % 10) = T at *
      clear HA HL HD
      go_wp2
      go_round
      case rel => exact ⟨m / 10, T ++ S, by rw [HS.out]; omega, by first | rfl | (congr 1), rfl, HN⟩
      case measure => simp [intOf]; omega

set_option maxHeartbeats 1000000 in
theorem digitsR_any (w : World) (n : Nat) (hn : n ≤ 1000000000) :
    Calls Try.prog 28 #[.int .i64 n] w fun e w' => e = .returned (.string (dec n)) ∧ w = w' := by
  have hex := ext_dig (n % 10) (by omega)
  have hT : (digB (n % 10)).size = 1 := rfl
  have HT := Lib.hid (decP_dec n)
  go_enter Try.func28, Try.ntmps28
  go_wp2
  go_loop [0, 4] (fun x s => ∃ (m : Nat) (S : ByteArray), S.size + m ≤ n + 1 ∧ x = .int .i64 m ∧ s = .string S ∧ Hid (dec n = decP m ++ S)) (fun x _ => (intOf x).toNat)
  case atStart => exact ⟨n, digB (n % 10), by rw [hT]; omega, rfl, by first | rfl | rw [hex], Lib.hid HT.out.symm⟩
  case round =>
    clear hex hT
    obtain ⟨m, S, hm, rfl, rfl, HD⟩ := hrel
    by_cases h10 : (10 : Int) ≤ (m : Int)
    · have hex := ext_dig (m / 10 % 10) (by omega)
      have hlim : ¬ 9223372036854775807 < 1 + S.size := by omega
      have hsz := digB_size (m / 10 % 10)
      have HS := Lib.hid (show (digB (m / 10 % 10) ++ S).size = 1 + S.size by rw [ByteArray.size_append, hsz])
      have HN := Lib.hid (show dec n = decP (m / 10) ++ (digB (m / 10 % 10) ++ S) by
        rw [← ba_assoc, decP_dec, HD.out]
        unfold decP
        rw [if_neg (by omega)])
      generalize digB (m / 10 % 10) = T at *
      clear HD
      go_wp2
      go_round
      case rel => exact ⟨m / 10, T ++ S, by rw [HS.out]; omega, by first | rfl | (congr 1), by first | rfl | skip, HN⟩
      case measure => simp [intOf]; omega
    · have HN := Lib.hid (show dec n = S by
        rw [HD.out]
        unfold decP
        rw [if_pos (by omega)]
        apply ByteArray.ext
        simp [ByteArray.data_append])
      clear HD
      go_wp2
      go_ret
      exact ⟨by rw [HN.out]; rfl, rfl⟩

def faultB : ByteArray := ⟨#[102, 97, 117, 108, 116, 32]⟩
def atB : ByteArray := ⟨#[32, 97, 116, 32, 98, 121, 116, 101, 32]⟩
def dec_size_ (n : Nat) : Nat := (dec n).size
theorem dec_size (k : Nat) : ∀ n, n ≤ k → (dec n).size ≤ n + 1 := by
  induction k with
  | zero =>
    intro n h
    obtain rfl : n = 0 := by omega
    have : (dec 0).size = 1 := by rw [dec_low (by omega)]; rfl
    omega
  | succ k ih =>
    intro n h
    by_cases h10 : n < 10
    · rw [dec_low h10, digB_size]; omega
    · rw [dec_high (by omega), ByteArray.size_append, digB_size]
      have := ih (n / 10) (by omega)
      omega

set_option maxHeartbeats 1000000 in
theorem error_any {w : World} {h e p : Nat} (hF : Ft w h e p) (he : e ≤ 1000000) (hp : p ≤ 1000000) :
    Calls Try.prog 27 #[.pointer (some ⟨h, 0, none⟩)] w fun x w' => x = .returned (.string (faultB ++ dec e ++ atB ++ dec p)) ∧ ∃ q, w' = w.drewN q := by
  have c0 : w.cell? ⟨h, 0, none⟩ = some (.int .i64 e) := (Blk.cell hF 0).trans rfl
  have c1 : w.cell? ⟨h, 1, none⟩ = some (.int .i64 p) := (Blk.cell hF 1).trans rfl
  have k1 := fun w' => digits_any w' e (by omega)
  have k2 := fun w' => digits_any w' p (by omega)
  have s1 := dec_size e e (Nat.le_refl _)
  have s2 := dec_size p p (Nat.le_refl _)
  have hf : faultB.size = 6 := rfl
  have ha : atB.size = 9 := rfl
  have l1 : ¬ 9223372036854775807 < 6 + (dec e).size := by omega
  have l2 : ¬ 9223372036854775807 < 6 + (dec e).size + 9 := by omega
  have l3 : ¬ 9223372036854775807 < 6 + (dec e).size + 9 + (dec p).size := by omega
  generalize dec e = D1 at *
  generalize dec p = D2 at *
  go_enter Try.func27, Try.ntmps27
  go_wp2
  go_quiet (first
    | (go_at_call_of 49 (e : Int); exact Calls.quiet_of_same (flip (k1 _)))
    | (go_at_call_of 49 (p : Int); exact Calls.quiet_of_same (flip (k2 _)))
    | fail)
  go_wp2
  go_ret
  exact ⟨rfl, nq, rfl⟩
theorem error_nil (w : World) :
    Calls Try.prog 27 #[.pointer none] w fun x w' => x = .returned (.string ⟨#[]⟩) ∧ w = w' := by
  go_enter Try.func27, Try.ntmps27
  go_wp2
  go_ret
  exact ⟨rfl, rfl⟩
theorem fail_nil (w : World) (e p : Int) :
    Calls Try.prog 26 #[.pointer none, .int .i64 e, .int .i64 p] w fun x w' => x = .returned (.tuple #[]) ∧ w = w' := by
  go_enter Try.func26, Try.ntmps26
  go_wp2
  first | go_end0 | refine bodyPost_ret (results_none rfl _ _ _) rfl ?_
  exact ⟨rfl, rfl⟩
theorem at_nil (w : World) :
    Calls Try.prog 32 #[.pointer none] w fun x w' => x = .returned (.int .i64 0) ∧ w = w' := by
  go_enter Try.func32, Try.ntmps32
  go_wp2
  go_ret
  exact ⟨rfl, rfl⟩
theorem left_nil (w : World) :
    Calls Try.prog 33 #[.pointer none] w fun x w' => x = .returned (.int .i64 0) ∧ w = w' := by
  go_enter Try.func33, Try.ntmps33
  go_wp2
  go_ret
  exact ⟨rfl, rfl⟩
theorem bad_nil (w : World) :
    Calls Try.prog 34 #[.pointer none] w fun x w' => x = .returned (.bool false) ∧ w = w' := by
  go_enter Try.func34, Try.ntmps34
  go_wp2
  go_ret
  exact ⟨rfl, rfl⟩
theorem end_nil (w : World) :
    Calls Try.prog 19 #[.pointer none] w fun x w' => x = .returned .nilIface ∧ w = w' := by
  go_enter Try.func19, Try.ntmps19
  go_wp2
  go_ret
  exact ⟨rfl, rfl⟩
theorem next_nil (w : World) (k : Int) :
    Calls Try.prog 43 #[.pointer none, .int .i64 k] w fun x w' => x = .returned (.slice none 0 0) ∧ w = w' := by
  go_enter Try.func43, Try.ntmps43
  go_wp2
  go_ret
  exact ⟨rfl, rfl⟩
theorem numberN (w : World) (k : Nat) (hk : k = 1 ∨ k = 2) :
    Calls Try.prog 18 #[.pointer none, .int .i64 k] w fun x w' => x = .returned (.int .i64 0) ∧ w = w' := by
  have i1 : (1 : Int) ≤ (k : Int) := by omega
  have i2 : (k : Int) ≤ 4 := by omega
  go_enter Try.func18, Try.ntmps18
  go_wp2_with fail
  refine (next_nil w k).mono ?_
  rintro e w1 ⟨rfl, rfl⟩
  go_wp2_with fail
  refine (number_nil w).mono ?_
  rintro e w2 ⟨rfl, rfl⟩
  go_wp2
  go_ret
  exact ⟨rfl, rfl⟩
theorem signed_nil (w : World) :
    Calls Try.prog 30 #[.pointer none] w fun x w' => x = .returned (.int .i64 0) ∧ w = w' := by
  go_enter Try.func30, Try.ntmps30
  go_wp2_with fail
  refine (numberN w 2 (.inr rfl)).mono ?_
  rintro e w1 ⟨rfl, rfl⟩
  go_wp2
  go_ret
  exact ⟨rfl, rfl⟩
theorem take_nil (w : World) :
    Calls Try.prog 31 #[.pointer none, .int .i64 1] w fun x w' => ∃ A c, x = .returned (.slice A 0 c) ∧ Below w.heap.size w w' := by
  obtain ⟨i0, hi, hz0, hz1, hz2⟩ := info_parts u8Info
  have hb0 : Below w.heap.size w (w.alloc (.cells #[] 5)) := (Below.refl _ _).alloc (Nat.le_refl _) _
  have hlit : (w.alloc (.cells #[] 5)).ownsRow w.heap.size 5 1 (.slice (some ⟨w.heap.size, 0, none⟩) 0 0) 0 [] := World.ownsRow_lit w #[] 0 (Nat.le_refl _) (by decide) rfl
  go_enter Try.func31, Try.ntmps31
  go_wp2_with fail
  generalize w.alloc (.cells #[] 5) = W at *
  refine (next_nil W 1).mono ?_
  rintro e w1 ⟨rfl, rfl⟩
  go_wp2_with (first
    | (at_builtin; refine wpList_append_any _ rfl _ _ 22 rfl w.heap.size 5 i0 (.int .u8 0) 1 1 Try.underlying22 hi hz0 hz1 hz2 rfl (by decide) _ 0 [] rfl hlit 0 none 0 0 [] rfl Reads.none_ (by simp) (by unfold maxLen; omega) (by omega) hb0.size ?_)
    | go_in)
  intro v2 w2 own2 hg2 _
  have hb2 : Below w.heap.size w w2 := hb0.grown hg2 hb0.size (fun i hi => by simp [Value.ownBlock] at hi; omega)
  obtain ⟨A2, c2, rfl⟩ := own_slice own2
  go_wp2
  go_ret
  exact ⟨_, _, rfl, hb2⟩
theorem numbers_nil (w : World) :
    Calls Try.prog 21 #[.pointer none, .int .i64 1, .int .i64 1] w fun x w' => x = .returned (.slice none 0 0) ∧ w = w' := by
  go_enter Try.func21, Try.ntmps21
  go_wp2_with fail
  refine (left_nil w).mono ?_
  rintro e w1 ⟨rfl, rfl⟩
  go_wp2_with fail
  refine (at_nil w).mono ?_
  rintro e w1 ⟨rfl, rfl⟩
  go_wp2_with fail
  refine (fail_nil w 2 0).mono ?_
  rintro e w1 ⟨rfl, rfl⟩
  go_wp2
  go_ret
  exact ⟨rfl, rfl⟩
theorem only_any (w : World) (h : Nat) :
    Calls Try.prog 29 #[.iface 48 (.pointer (some ⟨h, 0, none⟩))] w fun x w' => x = .returned (.pointer (some ⟨h, 0, none⟩)) ∧ w = w' := by
  have ta : (Instr.typeAssert (.iface 48 (.pointer (some ⟨h, 0, none⟩))) 33 48 false).run Try.prog w = .ok (.pointer (some ⟨h, 0, none⟩)) w := by kernel_rfl
  go_enter Try.func29, Try.ntmps29
  go_wp2
  go_ret
  exact ⟨rfl, rfl⟩

end Go.Proofs.Ytpfojhmaeaeecaa
