/- Contracts of layer 10: the lists of names, and where the document finds a key. -/
import Derived.Test.YtlkhghnbfdfikaaKeys2
namespace Go.Proofs.Ytlkhghnbfdfikaa
open Go.RowKit

def keyV (n : Nat) : List Value := (List.range n).map fun j => .string (keyB j)
theorem mat_list : matC.toList = keyV 40 := by kernel_rfl
theorem keyV_at {n j : Nat} (h : j < n) : (keyV n)[j]? = some (.string (keyB j)) := by
  unfold keyV
  rw [List.getElem?_map, List.getElem?_range h]
  rfl
theorem mat_cell {j : Nat} (h : j < 40) : matC[j]? = some (.string (keyB j)) := by
  rw [← Array.getElem?_toList, mat_list, keyV_at h]
theorem row_list (i : Nat) : keyV (5 * (i + 1)) = keyV (5 * i) ++ (rowC i).toList := by
  unfold keyV rowC
  rw [show 5 * (i + 1) = 5 * i + 5 by omega]
  simp [List.range_succ]

set_option maxRecDepth 100000 in
set_option maxHeartbeats 2000000 in
theorem namesR_any (w : World) :
    Calls Try.prog 23 #[] w fun e w' => e = .returned (.slice (some ⟨w.heap.size, 0, none⟩) 40 40) ∧ Blk w' w.heap.size 9 matC ∧ Below w.heap.size w w' := by
  go_enter Try.func23, Try.ntmps23
  go_wp2
  go_ret
  exact ⟨rfl, Blk.new _ _ _, (Below.refl _ _).alloc (Nat.le_refl _) _⟩

set_option maxRecDepth 100000 in
set_option maxHeartbeats 2000000 in
theorem findR_any (s : ByteArray) (w : World) :
    Calls Try.prog 21 #[.string s] w fun e w' => ((∃ n : Nat, n < 40 ∧ keyB n = s ∧ Fst s n ∧ e = .returned (.int .i64 n)) ∨ (Fst s 40 ∧ e = .returned (.int .i64 (-1)))) ∧ Below w.heap.size w w' := by
  go_enter Try.func21, Try.ntmps21
  go_wp2_with fail
  refine (namesR_any _).mono ?_
  rintro e w1 ⟨rfl, hblk, hb⟩
  go_wp2
  go_loop [4] (fun x => ∃ k : Nat, (k : Int) ≤ 40 ∧ x = .int .i64 k ∧ Fst s k) (fun x => 40 - (intOf x).toNat)
  case atStart => exact ⟨0, by omega, rfl, fun m hm => by omega⟩
  case round =>
    obtain ⟨k, hk, rfl, hF⟩ := hrel
    by_cases hlt : (k : Int) < 40
    · have hc := (hblk.cell k).trans (mat_cell (j := k) (by omega))
      by_cases heq : keyB k = s
      · have hte : ((keyB k).toList == s.toList) = true := by rw [heq]; simp
        obtain ⟨T, hT⟩ : ∃ T, keyB k = T := ⟨_, rfl⟩
        have HE := Lib.hid (show keyB k = s ∧ Fst s k from ⟨heq, hF⟩)
        rw [hT] at hc hte
        clear heq hT hF
        go_wp2
        go_ret
        exact ⟨.inl ⟨k, by omega, HE.out.1, HE.out.2, rfl⟩, hb⟩
      · have hte := bytes_ne heq
        have HF := Lib.hid (hF.step heq)
        clear heq hF
        generalize keyB k = T at *
        go_wp2
        go_round
        case rel => exact ⟨k + 1, by omega, by go_num, HF.out⟩
        case measure => simp [intOf]; omega
    · obtain rfl : k = 40 := by omega
      go_wp2
      go_ret
      first | exact ⟨.inr rfl, hb⟩ | exact ⟨.inr ⟨hF, rfl⟩, hb⟩

theorem strInfo : (Try.prog.info? 9).map (fun i => (i.zero, i.size, i.bytes)) = some (some (.string ⟨#[]⟩), 1, 16) := by kernel_rfl

set_option maxRecDepth 100000 in
set_option maxHeartbeats 4000000 in
theorem names_any (w : World) :
    Calls Try.prog 22 #[] w fun e w' => ∃ v, e = .returned v ∧ w'.ownsRow w.heap.size 9 1 v 40 (keyV 40) ∧ Below w.heap.size w w' := by
  obtain ⟨hz, hi⟩ := zero_of_info rowInfo
  obtain ⟨i0, hi0, hz0, hz1, hz2⟩ := info_parts strInfo
  go_enter Try.func22, Try.ntmps22
  go_wp2_with fail
  refine (matrix_any _).mono ?_
  rintro e w1 ⟨rfl, hb1⟩
  go_wp2
  go_loopw [1, 5] (fun v x wr => ∃ i : Nat, (i : Int) ≤ 8 ∧ x = .int .i64 i ∧ wr.ownsRow w.heap.size 9 1 v (5 * i) (keyV (5 * i)) ∧ Below w.heap.size w wr) (fun _ x _ => 8 - (intOf x).toNat)
  case atStart => exact ⟨0, by omega, rfl, World.ownsRow_nil _ _ _ _, hb1⟩
  case round =>
    clear hb1
    obtain ⟨i, hi8, rfl, hown, hbl⟩ := hrel
    have hsz := hbl.size
    by_cases hlt : (i : Int) < 8
    · have hm := fun w' => mat_at w' i (by omega)
      have hst := run_storeCells_new (P := Try.prog) wr 63 zeroR (rowC i) (by rw [hi, row_size]) (by rw [zeroR_size, row_size]) (row_one i)
      have hrs := row_size i
      have hown2 := hown.alloc (.cells (rowC i) 63)
      have hb2 := hbl.alloc hsz (.cells (rowC i) 63)
      have hrd : Reads (wr.alloc (.cells (rowC i) 63)) (wr.alloc (.cells (rowC i) 63)).heap.size 1 (some ⟨wr.heap.size, 0, none⟩) 5 (rowC i).toList := by
        refine ⟨by rw [Array.length_toList, row_size], fun _ => ⟨_, rfl, by simp, fun j u hu => ?_⟩⟩
        rw [show (Addr.add ⟨wr.heap.size, 0, none⟩ j) = ⟨wr.heap.size, j, none⟩ by unfold Addr.add; split <;> simp_all, World.cell?_alloc_at _ _ _ _ rfl]
        simpa using hu
      have h1 : ∀ u ∈ (rowC i).toList, u.oneCell' = true := fun u hu => by
        simp [rowC] at hu
        rcases hu with rfl | rfl | rfl | rfl | rfl <;> rfl
      have hsz2 : w.heap.size ≤ (wr.alloc (.cells (rowC i) 63)).heap.size := by simp; omega
      have hRL := row_list i
      go_wp2_with (first
        | (at_builtin; refine wpList_append_any _ rfl _ _ 37 rfl w.heap.size 9 i0 (.string ⟨#[]⟩) 1 16 Try.underlying37 hi0 hz0 hz1 hz2 rfl (by decide) _ _ _ rfl hown2 _ (some ⟨wr.heap.size, 0, none⟩) 5 5 (rowC i).toList rfl hrd h1 ?c1 ?c2 ?c3 ?_)
        | fail)
      case c1 => unfold maxLen; omega
      case c2 => omega
      case c3 => exact hsz2
      intro v' w3 hown' hgrow _
      have hb3 := hb2.grown hgrow hsz2 (fun j hj => (hown2.lt j hj).1)
      rw [← hRL, show 5 * i + 5 = 5 * (i + 1) by omega] at hown'
      clear hown hown2 hbl hgrow hRL hrd h1
      go_wp2
      go_roundw
      case rel => exact ⟨i + 1, by omega, by go_num, hown', hb3⟩
      case measure => simp [intOf]; omega
    · obtain rfl : i = 8 := by omega
      go_wp2
      go_ret
      exact ⟨_, rfl, hown, hbl⟩

end Go.Proofs.Ytlkhghnbfdfikaa
