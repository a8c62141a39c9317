/- Contracts of layer 31: the program's and the document's packing. -/
import Derived.Test.YthhodkadfenkbaaBytes
import Derived.Test.YthhodkadfenkbaaP31
import Derived.BigRegion
import Derived.Lib.SmallJoins
import Derived.Deep.CutRange
namespace Go.Proofs.Ythhodkadfenkbaa
open Go.RowKit


set_option maxRecDepth 100000 in
set_option maxHeartbeats 1000000 in
theorem same31_any (w : World) (B n c : Nat) (A : Option Addr) (zs : List Int) (hr : Reads w B 1 A n (zs.map (Value.int .u8))) (h0 : 0 < n) (hn : n ≤ 100000) (hc : n ≤ c) :
    Calls Try.prog 10 #[.slice A n c] w fun e w' => e = .returned (.int .i64 (runN zs)) ∧ ∃ q, w' = w.drewN q := by
  have HL := Lib.hid (reads_len hr)
  have h255 := runN_255 zs
  have hle := runN_le zs
  have hpos : 1 ≤ runN zs := by cases zs with | nil => simp at hr; have := hr.1; simp at this; omega | cons x t => exact runN_pos x t
  rw [HL.out] at hle
  obtain ⟨ad, rfl, hab, hc0⟩ := u8_at hr h0
  have HON := Lib.hid (fun k (h : k < runN zs) => runN_on (zs := zs) h)
  have HOFF := Lib.hid (fun (h : runN zs < zs.length) (h2 : runN zs < 255) => runN_off h h2)
  generalize hK : runN zs = K at *
  have HK := Lib.hid hK
  clear hK
  generalize hz : zs.getD 0 0 = z at *
  have HZ := Lib.hid hz
  clear hz
  rw [add_zero_] at hc0
  go_enter Try.func10, Try.ntmps10
  go_wp2
  go_loopw [3] (fun x wr => ∃ k q : Nat, 1 ≤ k ∧ k ≤ K ∧ x = .int .i64 k ∧ wr = w.drewN q) (fun x _ => K + 1 - (intOf x).toNat)
  case atStart => exact ⟨1, 0, by omega, by omega, rfl, rfl⟩
  case round =>
    obtain ⟨k, q, hk1, hk, rfl, rfl⟩ := hrel
    by_cases hlt : k < K
    · obtain ⟨ad', e', _, hck⟩ := u8_at hr (k := k) (by omega)
      injection e' with e'
      subst e'
      rw [HON.out k hlt] at hck
      have hk255 : decide ((k : Int) < 255) = true := decide_eq_true (by omega)
      have hkn : decide (k < n) = true := decide_eq_true (by omega)
      go_wp2
      go_quiet (fail)
      go_wp2
      go_roundw
      case rel => exact ⟨k + 1, q + nq, by omega, by omega, by go_num, by first | rfl | rw [World.drewN_drewN]⟩
      case measure => simp [intOf]; omega
    · obtain rfl : k = K := by omega
      by_cases h1 : k < n
      · by_cases h2 : (k : Int) < 255
        · obtain ⟨ad', e', _, hck⟩ := u8_at hr (k := k) (by omega)
          injection e' with e'
          subst e'
          have hne := HOFF.out (by rw [HL.out]; exact h1) (by omega)
          generalize zs.getD k 0 = y at *
          have hyz : (y == z) = false := by simpa using hne
          clear hne
          have hk255 : decide ((k : Int) < 255) = true := decide_eq_true h2
          have hkn : decide (k < n) = true := decide_eq_true (by omega)
          go_wp2
          go_quiet (fail)
          go_wp2
          go_ret
          exact ⟨rfl, q + nq, by first | rfl | rw [World.drewN_drewN]⟩
        · have hk255 : decide ((k : Int) < 255) = false := decide_eq_false h2
          have hkn : decide (k < n) = true := decide_eq_true (by omega)
          go_wp2
          go_quiet (fail)
          go_wp2
          go_ret
          exact ⟨rfl, q + nq, by first | rfl | rw [World.drewN_drewN]⟩
      · have hkn : decide (k < n) = false := decide_eq_false (by omega)
        go_wp2
        go_quiet (fail)
        go_wp2
        go_ret
        exact ⟨rfl, q + nq, by first | rfl | rw [World.drewN_drewN]⟩

end Go.Proofs.Ythhodkadfenkbaa
