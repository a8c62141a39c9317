/- Contracts of layer 10: the document's list of keys that are down. -/
import Derived.Test.YtfcnlgkaejkneaaKeys7
namespace Go.Proofs.Ytfcnlgkaejkneaa
open Go.RowKit

theorem i64_at {w : World} {B n : Nat} {A : Option Addr} {zs : List Int} (h : Reads w B 1 A n (zs.map (Value.int .i64))) {k : Nat} (hk : k < n) :
    ∃ ad, A = some ad ∧ ad.block < B ∧ w.cell? (ad.add k) = some (.int .i64 (zs.getD k 0)) := by
  obtain ⟨ad, u, e, hb, hx, hc⟩ := h.at_ hk
  refine ⟨ad, e, hb, hc.trans ?_⟩
  rw [← hx]
  have hl : k < zs.length := by have := h.1; simp at this; omega
  simp [List.getD_eq_getElem?_getD, hl]
theorem take_snocI (zs : List Int) (k : Nat) (h : k < zs.length) : zs.take (k + 1) = zs.take k ++ [zs.getD k 0] := by
  rw [List.take_succ_eq_append_getElem h]; simp [List.getD_eq_getElem?_getD, h]

set_option maxHeartbeats 1000000 in
theorem in_any (n : Int) (A : Option Addr) (m c : Nat) (zs : List Int) (B : Nat) (w : World) (hr : Reads w B 1 A m (zs.map (Value.int .i64))) (hm : m ≤ 100000) :
    Calls Try.prog 71 #[.int .i64 n, .slice A m c] w fun e w' => e = .returned (.bool (decide (n ∈ zs))) ∧ w = w' := by
  have hl : zs.length = m := by have := hr.1; simpa using this
  have HL := Lib.hid hl
  clear hl
  go_enter Try.func71, Try.ntmps71
  go_wp2
  go_loop [5] (fun x => ∃ k : Nat, k ≤ m ∧ x = .int .i64 k ∧ (zs.take k).contains n = false) (fun x => m - (intOf x).toNat)
  case atStart => exact ⟨0, by omega, rfl, by simp⟩
  case round =>
    obtain ⟨k, hk, rfl, hN⟩ := hrel
    by_cases hlt : k < m
    · obtain ⟨ad, rfl, hab, hcl⟩ := i64_at hr hlt
      have ht := Lib.hid (take_snocI zs k (by have := HL.out; omega))
      have hmem := Lib.hid (show zs.getD k 0 ∈ zs by
        have := HL.out
        rw [List.getD_eq_getElem?_getD, List.getElem?_eq_getElem (by omega)]
        exact List.getElem_mem _)
      generalize zs.getD k 0 = z at *
      have HN := Lib.hid hN
      clear hN
      by_cases hz : z = n
      · subst hz
        go_wp2
        go_ret
        refine ⟨ret_bool ?_, rfl⟩
        exact (decide_eq_true hmem.out).symm
      · have hzn : (z == n) = false := by simp [hz]
        go_wp2
        go_round
        case rel =>
          refine ⟨k + 1, by omega, by go_num, ?_⟩
          rw [ht.out]
          have := HN.out
          simp only [List.contains_eq_mem, List.mem_append, List.mem_singleton, decide_eq_false_iff_not] at this ⊢
          rintro (h | h)
          · exact this h
          · exact hz h.symm
        case measure => simp [intOf]; omega
    · have hk2 : zs.take k = zs := by have := HL.out; rw [List.take_of_length_le (by omega)]
      rw [hk2] at hN
      have HN := Lib.hid hN
      clear hN hk2
      go_wp2
      go_ret
      have h9 := HN.out
      rw [List.contains_eq_mem] at h9
      exact ⟨ret_bool h9.symm, rfl⟩

end Go.Proofs.Ytfcnlgkaejkneaa
