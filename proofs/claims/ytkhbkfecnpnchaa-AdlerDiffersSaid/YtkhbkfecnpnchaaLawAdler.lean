/- The laws of layer 13, walked: AdlerSums: it returns true and writes nothing that was there. -/
import Derived.Test.YtkhbkfecnpnchaaR13
import Derived.Lib.SlBytesConst
namespace Go.Proofs.Ytkhbkfecnpnchaa
open Go.RowKit

theorem row_u8 {w : World} {a : Option Addr} {len cap : Nat} {zs : List Int} (h : IsRow .u8 w a len cap zs) :
    Reads w w.heap.size 1 a len ((zs.take len).map (Value.int .u8)) ∧ isU8 (zs.take len) ∧ len ≤ cap ∧ cap ≤ maxLen := by
  rcases h with ⟨rfl, rfl, rfl, rfl⟩ | ⟨x, rfl, hb, hl, hc, hz, hcell, hw⟩
  · exact ⟨Reads.none_, by intro z hz; simp at hz, Nat.le_refl _, by unfold maxLen; omega⟩
  · refine ⟨⟨by simp; omega, fun hn => ⟨x, rfl, by rcases hb with h0 | h0; omega; exact h0, fun j u hu => ?_⟩⟩, fun z hz' => bounds_u8 (hw z (List.mem_of_mem_take hz')), hl, hc⟩
    simp only [List.getElem?_map, List.getElem?_take, Option.map_eq_some_iff] at hu
    obtain ⟨v, hv, rfl⟩ := hu
    split at hv
    · have hj : j < zs.length := by
        rcases Nat.lt_or_ge j zs.length with h | h
        · exact h
        · rw [List.getElem?_eq_none h] at hv; cases hv
      rw [hcell j hj, List.getD_eq_getElem?_getD, hv]
      rfl
    · cases hv
theorem reads_one (w : World) (t : TypeId) (u : Value) : Reads (w.alloc (.cells #[u] t)) (w.alloc (.cells #[u] t)).heap.size 1 (some ⟨w.heap.size, 0, none⟩) 1 [u] := by
  refine ⟨rfl, fun _ => ⟨_, rfl, by simp, fun j v hv => ?_⟩⟩
  match j with
  | 0 => rw [show (Addr.add ⟨w.heap.size, 0, none⟩ 0) = ⟨w.heap.size, 0, none⟩ by simp [Addr.add], World.cell?_alloc_at _ _ _ _ rfl]; simpa using hv
  | j + 1 => simp at hv
theorem lives13_num : adV (adF (1, 0) [87, 105, 107, 105, 112, 101, 100, 105, 97]) = 300286872 := by decide +kernel

theorem lives13 (w : World) :
    Calls Try.prog 27 #[] w fun e w' => e = .returned (.bool true) ∧ Below w.heap.size w w' := by
  have hcv := Lib.run_convert_bytes_const (P := Try.prog) w 40 5 #[.int .u8 87, .int .u8 105, .int .u8 107, .int .u8 105, .int .u8 112, .int .u8 101, .int .u8 100, .int .u8 105, .int .u8 97] 9 9 Try.underlying40 Try.underlying5
  have hb1 : Below w.heap.size w (w.alloc (.cells #[.int .u8 87, .int .u8 105, .int .u8 107, .int .u8 105, .int .u8 112, .int .u8 101, .int .u8 100, .int .u8 105, .int .u8 97] 5 (9, 10))) := (Below.refl _ _).alloc (Nat.le_refl _) _
  have hr1 : Reads (w.alloc (.cells #[.int .u8 87, .int .u8 105, .int .u8 107, .int .u8 105, .int .u8 112, .int .u8 101, .int .u8 100, .int .u8 105, .int .u8 97] 5 (9, 10))) (w.heap.size + 1) 1 (some ⟨w.heap.size, 0, none⟩) 9 (([87, 105, 107, 105, 112, 101, 100, 105, 97] : List Int).map (Value.int .u8)) := by
    refine ⟨rfl, fun _ => ⟨_, rfl, by simp, fun j v hv => ?_⟩⟩
    rw [show (Addr.add ⟨w.heap.size, 0, none⟩ j) = ⟨w.heap.size, j, none⟩ by unfold Addr.add; split <;> simp_all, World.cell?_alloc_mark]
    simpa using hv
  go_enter Try.func27, Try.ntmps27
  go_wp2_with fail
  clear hcv
  have hsz : (w.alloc (.cells #[.int .u8 87, .int .u8 105, .int .u8 107, .int .u8 105, .int .u8 112, .int .u8 101, .int .u8 100, .int .u8 105, .int .u8 97] 5 (9, 10))).heap.size = w.heap.size + 1 := by simp
  have hz : isU8 ([87, 105, 107, 105, 112, 101, 100, 105, 97] : List Int) := by unfold isU8; decide
  generalize w.alloc (.cells #[.int .u8 87, .int .u8 105, .int .u8 107, .int .u8 105, .int .u8 112, .int .u8 101, .int .u8 100, .int .u8 105, .int .u8 97] 5 (9, 10)) = w1 at *
  rw [← hsz] at hr1 ⊢
  refine (of13_any _ _ 1 1 [⟨_, 9, 9, [87, 105, 107, 105, 112, 101, 100, 105, 97]⟩] (reads_one w1 _ _) (by unfold maxLen; omega) (fun q hq => ?_)).mono ?_
  · obtain rfl : q = _ := by simpa using hq
    exact ⟨(hr1.alloc (Nat.le_refl _) _).more (by simp), by simp [maxLen], by simp [maxLen], hz⟩
  rintro e w2 ⟨rfl, hb2⟩
  rw [show bytesOf [⟨some ⟨w.heap.size, 0, none⟩, 9, 9, [87, 105, 107, 105, 112, 101, 100, 105, 97]⟩] = [87, 105, 107, 105, 112, 101, 100, 105, 97] from rfl, lives13_num]
  go_wp2
  go_ret
  exact ⟨rfl, bthen hb1 (((Below.refl _ _).alloc (Nat.le_refl _) _).trans (hb2.mono (by simp)))⟩

theorem adlerSums_walk (A : Option Addr) (n c : Nat) (zs : List Int) (w : World) (w0 : IsRow .u8 w A n c zs) :
    Calls Try.prog 6 #[.slice A n c] w fun e w' => e = .returned (.bool true) ∧ Below w.heap.size w w' := by
  obtain ⟨hr, hz, hnc, hc⟩ := row_u8 w0
  clear w0
  generalize zs.take n = ys at *
  unfold maxLen at hc
  go_enter Try.func6, Try.ntmps6
  go_wp2_with (first
    | (go_at_call 27; refine (lives13 _).mono ?_; rintro e w3 ⟨rfl, hb3⟩) | fail)
  · go_ret
    exact ⟨rfl, hb3⟩
  · refine (of13_any _ _ 1 1 [⟨A, n, c, ys⟩] (reads_one w _ _) (by unfold maxLen; omega) (fun q hq => ?_)).mono ?_
    · obtain rfl : q = _ := by simpa using hq
      exact ⟨(hr.alloc (Nat.le_refl _) _).more (by simp), hnc, by unfold maxLen; omega, hz⟩
    rintro e w1 ⟨rfl, hb1⟩
    rw [show bytesOf [⟨A, n, c, ys⟩] = ys from by simp [bytesOf]]
    go_wp2_with fail
    refine (ref13_any _ _ n c A ys ((hr.alloc (Nat.le_refl _) _).below (hb1.mono (by simp))) hz (by unfold maxLen; omega)).mono ?_
    rintro e w2 ⟨rfl, rfl⟩
    go_wp2_with fail
    refine (lives13 _).mono ?_
    rintro e w3 ⟨rfl, hb3⟩
    go_wp2
    go_ret
    exact ⟨rfl, (((Below.refl _ _).alloc (Nat.le_refl _) _).trans (hb1.mono (by simp))).trans (hb3.mono (Nat.le_trans (by simp) hb1.size))⟩

end Go.Proofs.Ytkhbkfecnpnchaa
