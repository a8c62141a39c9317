/- Contracts of layer 10: the lists of names, and where the document finds a key. -/
import Derived.Test.YtfcnlgkaejkneaaKeys2
namespace Go.Proofs.Ytfcnlgkaejkneaa
open Go.RowKit

def keyV (n : Nat) : List Value := (List.range n).map fun j => .string (keyB j)
theorem mat_list : matC.toList = keyV 40 := by kernel_rfl
theorem keyV_at {n j : Nat} (h : j < n) : (keyV n)[j]? = some (.string (keyB j)) := by
  unfold keyV
  rw [List.getElem?_map, List.getElem?_range h]
  rfl
theorem mat_cell {j : Nat} (h : j < 40) : matC[j]? = some (.string (keyB j)) := by
  rw [← Array.getElem?_toList, mat_list, keyV_at h]
theorem row_list (i : Nat) : keyV (5 * (i + 1)) = keyV (5 * i) ++ (rowC i).toList := by
  unfold keyV rowC
  rw [show 5 * (i + 1) = 5 * i + 5 by omega]
  simp [List.range_succ]

set_option maxRecDepth 100000 in
set_option maxHeartbeats 2000000 in
theorem namesR_any (w : World) :
    Calls Try.prog 61 #[] w fun e w' => e = .returned (.slice (some ⟨w.heap.size, 0, none⟩) 40 40) ∧ Blk w' w.heap.size 9 matC ∧ Below w.heap.size w w' := by
  go_enter Try.func61, Try.ntmps61
  go_wp2
  go_ret
  exact ⟨rfl, Blk.new _ _ _, (Below.refl _ _).alloc (Nat.le_refl _) _⟩

set_option maxRecDepth 100000 in
set_option maxHeartbeats 2000000 in
theorem findR_any (s : ByteArray) (w : World) :
    Calls Try.prog 43 #[.string s] w fun e w' => ((∃ n : Nat, n < 40 ∧ keyB n = s ∧ Fst s n ∧ e = .returned (.int .i64 n)) ∨ (Fst s 40 ∧ e = .returned (.int .i64 (-1)))) ∧ Below w.heap.size w w' := by
  go_enter Try.func43, Try.ntmps43
  go_wp2_with fail
  refine (namesR_any _).mono ?_
  rintro e w1 ⟨rfl, hblk, hb⟩
  go_wp2
  go_loop [4] (fun x => ∃ k : Nat, (k : Int) ≤ 40 ∧ x = .int .i64 k ∧ Fst s k) (fun x => 40 - (intOf x).toNat)
  case atStart => exact ⟨0, by omega, rfl, fun m hm => by omega⟩
  case round =>
    obtain ⟨k, hk, rfl, hF⟩ := hrel
    by_cases hlt : (k : Int) < 40
    · have hc := (hblk.cell k).trans (mat_cell (j := k) (by omega))
      by_cases heq : keyB k = s
      · have hte : ((keyB k).toList == s.toList) = true := by rw [heq]; simp
        obtain ⟨T, hT⟩ : ∃ T, keyB k = T := ⟨_, rfl⟩
        have HE := Lib.hid (show keyB k = s ∧ Fst s k from ⟨heq, hF⟩)
        rw [hT] at hc hte
        clear heq hT hF
        go_wp2
        go_ret
        exact ⟨.inl ⟨k, by omega, HE.out.1, HE.out.2, rfl⟩, hb⟩
      · have hte := bytes_ne heq
        have HF := Lib.hid (hF.step heq)
        clear heq hF
        generalize keyB k = T at *
        go_wp2
        go_round
        case rel => exact ⟨k + 1, by omega, by go_num, HF.out⟩
        case measure => simp [intOf]; omega
    · obtain rfl : k = 40 := by omega
      go_wp2
      go_ret
      first | exact ⟨.inr rfl, hb⟩ | exact ⟨.inr ⟨hF, rfl⟩, hb⟩

theorem strInfo : (Try.prog.info? 9).map (fun i => (i.zero, i.size, i.bytes)) = some (some (.string ⟨#[]⟩), 1, 16) := by kernel_rfl

end Go.Proofs.Ytfcnlgkaejkneaa
