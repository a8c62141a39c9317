/- Contracts of layer 10: any key put down, or up. -/
import Derived.Test.YtfcnlgkaejkneaaKeys3
namespace Go.Proofs.Ytfcnlgkaejkneaa
open Go.RowKit

theorem find_at {s : ByteArray} {i k : Nat} (hi : i < 8) (hk : k < 5) (hs : keyB (5 * i + k) = s) (hF : Fst s (5 * i + k)) (w : World) :
    Calls Try.prog 72 #[.string s] w fun e w' => e = .returned (.tuple #[.int .i64 i, .int .i64 k, .bool true]) ∧ Below w.heap.size w w' := by
  refine (find_any s w).mono ?_
  rintro e w' ⟨h, hb⟩
  refine ⟨?_, hb⟩
  rcases h with ⟨j, m, hj, hm, he, hF2, rfl⟩ | ⟨hF2, _⟩
  · have h1 : ¬ 5 * i + k < 5 * j + m := fun h => hF2 _ h hs
    have h2 : ¬ 5 * j + m < 5 * i + k := fun h => hF _ h he
    obtain rfl : j = i := by omega
    obtain rfl : m = k := by omega
    rfl
  · exact absurd hs (hF2 _ (by omega))

set_option maxHeartbeats 1000000 in
theorem putK_0_true (s : ByteArray) (g i : Nat) (x : Int) (w : World) (hi : i < 8) (hs : keyB (5 * i + 0) = s) (hF : Fst s (5 * i + 0)) (hg : g < w.heap.size) (hc : w.cell? ⟨g, 65536 + i, none⟩ = some (.int .u8 x)) (hf : w.frozen? ⟨g, 65536 + i, none⟩ = false) :
    Calls Try.prog 62 #[.pointer (some ⟨g, 65536, none⟩), .string s, .bool true] w fun e w' => e = .returned (.int .i64 0) ∧ ∃ w1, Below w.heap.size w w1 ∧ w' = ((w1.setCell ⟨g, 65536 + i, none⟩ (.int .u8 (bits .andNot .u8 x 1))).setCell ⟨g, 65536 + i, none⟩ (.int .u8 (bits .or .u8 (bits .andNot .u8 x 1) 1))).drew.drew := by
  have i0 : (0 : Int) ≤ (i : Int) := by omega
  have i1 : (i : Int) < 8 := by omega
  go_enter Try.func62, Try.ntmps62
  go_wp2_with fail
  refine (find_at (k := 0) hi (by omega) hs hF _).mono ?_
  rintro e w1 ⟨rfl, hb1⟩
  have k7 : w1.cell? ⟨g, 65536 + i, none⟩ = some (.int .u8 x) := (hb1.cell hg).trans hc
  have kf : w1.frozen? ⟨g, 65536 + i, none⟩ = false := (hb1.frozen hg).trans hf
  clear hs hF
  go_wp2_with (first | go_region | fail)
  go_ret
  exact ⟨rfl, w1, hb1, rfl⟩

set_option maxHeartbeats 1000000 in
theorem putK_0_false (s : ByteArray) (g i : Nat) (x : Int) (w : World) (hi : i < 8) (hs : keyB (5 * i + 0) = s) (hF : Fst s (5 * i + 0)) (hg : g < w.heap.size) (hc : w.cell? ⟨g, 65536 + i, none⟩ = some (.int .u8 x)) (hf : w.frozen? ⟨g, 65536 + i, none⟩ = false) :
    Calls Try.prog 62 #[.pointer (some ⟨g, 65536, none⟩), .string s, .bool false] w fun e w' => e = .returned (.int .i64 0) ∧ ∃ w1, Below w.heap.size w w1 ∧ w' = (w1.setCell ⟨g, 65536 + i, none⟩ (.int .u8 (bits .andNot .u8 x 1))).drew := by
  have i0 : (0 : Int) ≤ (i : Int) := by omega
  have i1 : (i : Int) < 8 := by omega
  go_enter Try.func62, Try.ntmps62
  go_wp2_with fail
  refine (find_at (k := 0) hi (by omega) hs hF _).mono ?_
  rintro e w1 ⟨rfl, hb1⟩
  have k7 : w1.cell? ⟨g, 65536 + i, none⟩ = some (.int .u8 x) := (hb1.cell hg).trans hc
  have kf : w1.frozen? ⟨g, 65536 + i, none⟩ = false := (hb1.frozen hg).trans hf
  clear hs hF
  go_wp2_with (first | go_region | fail)
  go_ret
  exact ⟨rfl, w1, hb1, rfl⟩

set_option maxHeartbeats 1000000 in
theorem putK_1_true (s : ByteArray) (g i : Nat) (x : Int) (w : World) (hi : i < 8) (hs : keyB (5 * i + 1) = s) (hF : Fst s (5 * i + 1)) (hg : g < w.heap.size) (hc : w.cell? ⟨g, 65536 + i, none⟩ = some (.int .u8 x)) (hf : w.frozen? ⟨g, 65536 + i, none⟩ = false) :
    Calls Try.prog 62 #[.pointer (some ⟨g, 65536, none⟩), .string s, .bool true] w fun e w' => e = .returned (.int .i64 0) ∧ ∃ w1, Below w.heap.size w w1 ∧ w' = ((w1.setCell ⟨g, 65536 + i, none⟩ (.int .u8 (bits .andNot .u8 x 2))).setCell ⟨g, 65536 + i, none⟩ (.int .u8 (bits .or .u8 (bits .andNot .u8 x 2) 2))).drew.drew := by
  have i0 : (0 : Int) ≤ (i : Int) := by omega
  have i1 : (i : Int) < 8 := by omega
  go_enter Try.func62, Try.ntmps62
  go_wp2_with fail
  refine (find_at (k := 1) hi (by omega) hs hF _).mono ?_
  rintro e w1 ⟨rfl, hb1⟩
  have k7 : w1.cell? ⟨g, 65536 + i, none⟩ = some (.int .u8 x) := (hb1.cell hg).trans hc
  have kf : w1.frozen? ⟨g, 65536 + i, none⟩ = false := (hb1.frozen hg).trans hf
  clear hs hF
  go_wp2_with (first | go_region | fail)
  go_ret
  exact ⟨rfl, w1, hb1, rfl⟩

set_option maxHeartbeats 1000000 in
theorem putK_1_false (s : ByteArray) (g i : Nat) (x : Int) (w : World) (hi : i < 8) (hs : keyB (5 * i + 1) = s) (hF : Fst s (5 * i + 1)) (hg : g < w.heap.size) (hc : w.cell? ⟨g, 65536 + i, none⟩ = some (.int .u8 x)) (hf : w.frozen? ⟨g, 65536 + i, none⟩ = false) :
    Calls Try.prog 62 #[.pointer (some ⟨g, 65536, none⟩), .string s, .bool false] w fun e w' => e = .returned (.int .i64 0) ∧ ∃ w1, Below w.heap.size w w1 ∧ w' = (w1.setCell ⟨g, 65536 + i, none⟩ (.int .u8 (bits .andNot .u8 x 2))).drew := by
  have i0 : (0 : Int) ≤ (i : Int) := by omega
  have i1 : (i : Int) < 8 := by omega
  go_enter Try.func62, Try.ntmps62
  go_wp2_with fail
  refine (find_at (k := 1) hi (by omega) hs hF _).mono ?_
  rintro e w1 ⟨rfl, hb1⟩
  have k7 : w1.cell? ⟨g, 65536 + i, none⟩ = some (.int .u8 x) := (hb1.cell hg).trans hc
  have kf : w1.frozen? ⟨g, 65536 + i, none⟩ = false := (hb1.frozen hg).trans hf
  clear hs hF
  go_wp2_with (first | go_region | fail)
  go_ret
  exact ⟨rfl, w1, hb1, rfl⟩

set_option maxHeartbeats 1000000 in
theorem putK_2_true (s : ByteArray) (g i : Nat) (x : Int) (w : World) (hi : i < 8) (hs : keyB (5 * i + 2) = s) (hF : Fst s (5 * i + 2)) (hg : g < w.heap.size) (hc : w.cell? ⟨g, 65536 + i, none⟩ = some (.int .u8 x)) (hf : w.frozen? ⟨g, 65536 + i, none⟩ = false) :
    Calls Try.prog 62 #[.pointer (some ⟨g, 65536, none⟩), .string s, .bool true] w fun e w' => e = .returned (.int .i64 0) ∧ ∃ w1, Below w.heap.size w w1 ∧ w' = ((w1.setCell ⟨g, 65536 + i, none⟩ (.int .u8 (bits .andNot .u8 x 4))).setCell ⟨g, 65536 + i, none⟩ (.int .u8 (bits .or .u8 (bits .andNot .u8 x 4) 4))).drew.drew := by
  have i0 : (0 : Int) ≤ (i : Int) := by omega
  have i1 : (i : Int) < 8 := by omega
  go_enter Try.func62, Try.ntmps62
  go_wp2_with fail
  refine (find_at (k := 2) hi (by omega) hs hF _).mono ?_
  rintro e w1 ⟨rfl, hb1⟩
  have k7 : w1.cell? ⟨g, 65536 + i, none⟩ = some (.int .u8 x) := (hb1.cell hg).trans hc
  have kf : w1.frozen? ⟨g, 65536 + i, none⟩ = false := (hb1.frozen hg).trans hf
  clear hs hF
  go_wp2_with (first | go_region | fail)
  go_ret
  exact ⟨rfl, w1, hb1, rfl⟩

set_option maxHeartbeats 1000000 in
theorem putK_2_false (s : ByteArray) (g i : Nat) (x : Int) (w : World) (hi : i < 8) (hs : keyB (5 * i + 2) = s) (hF : Fst s (5 * i + 2)) (hg : g < w.heap.size) (hc : w.cell? ⟨g, 65536 + i, none⟩ = some (.int .u8 x)) (hf : w.frozen? ⟨g, 65536 + i, none⟩ = false) :
    Calls Try.prog 62 #[.pointer (some ⟨g, 65536, none⟩), .string s, .bool false] w fun e w' => e = .returned (.int .i64 0) ∧ ∃ w1, Below w.heap.size w w1 ∧ w' = (w1.setCell ⟨g, 65536 + i, none⟩ (.int .u8 (bits .andNot .u8 x 4))).drew := by
  have i0 : (0 : Int) ≤ (i : Int) := by omega
  have i1 : (i : Int) < 8 := by omega
  go_enter Try.func62, Try.ntmps62
  go_wp2_with fail
  refine (find_at (k := 2) hi (by omega) hs hF _).mono ?_
  rintro e w1 ⟨rfl, hb1⟩
  have k7 : w1.cell? ⟨g, 65536 + i, none⟩ = some (.int .u8 x) := (hb1.cell hg).trans hc
  have kf : w1.frozen? ⟨g, 65536 + i, none⟩ = false := (hb1.frozen hg).trans hf
  clear hs hF
  go_wp2_with (first | go_region | fail)
  go_ret
  exact ⟨rfl, w1, hb1, rfl⟩

set_option maxHeartbeats 1000000 in
theorem putK_3_true (s : ByteArray) (g i : Nat) (x : Int) (w : World) (hi : i < 8) (hs : keyB (5 * i + 3) = s) (hF : Fst s (5 * i + 3)) (hg : g < w.heap.size) (hc : w.cell? ⟨g, 65536 + i, none⟩ = some (.int .u8 x)) (hf : w.frozen? ⟨g, 65536 + i, none⟩ = false) :
    Calls Try.prog 62 #[.pointer (some ⟨g, 65536, none⟩), .string s, .bool true] w fun e w' => e = .returned (.int .i64 0) ∧ ∃ w1, Below w.heap.size w w1 ∧ w' = ((w1.setCell ⟨g, 65536 + i, none⟩ (.int .u8 (bits .andNot .u8 x 8))).setCell ⟨g, 65536 + i, none⟩ (.int .u8 (bits .or .u8 (bits .andNot .u8 x 8) 8))).drew.drew := by
  have i0 : (0 : Int) ≤ (i : Int) := by omega
  have i1 : (i : Int) < 8 := by omega
  go_enter Try.func62, Try.ntmps62
  go_wp2_with fail
  refine (find_at (k := 3) hi (by omega) hs hF _).mono ?_
  rintro e w1 ⟨rfl, hb1⟩
  have k7 : w1.cell? ⟨g, 65536 + i, none⟩ = some (.int .u8 x) := (hb1.cell hg).trans hc
  have kf : w1.frozen? ⟨g, 65536 + i, none⟩ = false := (hb1.frozen hg).trans hf
  clear hs hF
  go_wp2_with (first | go_region | fail)
  go_ret
  exact ⟨rfl, w1, hb1, rfl⟩

set_option maxHeartbeats 1000000 in
theorem putK_3_false (s : ByteArray) (g i : Nat) (x : Int) (w : World) (hi : i < 8) (hs : keyB (5 * i + 3) = s) (hF : Fst s (5 * i + 3)) (hg : g < w.heap.size) (hc : w.cell? ⟨g, 65536 + i, none⟩ = some (.int .u8 x)) (hf : w.frozen? ⟨g, 65536 + i, none⟩ = false) :
    Calls Try.prog 62 #[.pointer (some ⟨g, 65536, none⟩), .string s, .bool false] w fun e w' => e = .returned (.int .i64 0) ∧ ∃ w1, Below w.heap.size w w1 ∧ w' = (w1.setCell ⟨g, 65536 + i, none⟩ (.int .u8 (bits .andNot .u8 x 8))).drew := by
  have i0 : (0 : Int) ≤ (i : Int) := by omega
  have i1 : (i : Int) < 8 := by omega
  go_enter Try.func62, Try.ntmps62
  go_wp2_with fail
  refine (find_at (k := 3) hi (by omega) hs hF _).mono ?_
  rintro e w1 ⟨rfl, hb1⟩
  have k7 : w1.cell? ⟨g, 65536 + i, none⟩ = some (.int .u8 x) := (hb1.cell hg).trans hc
  have kf : w1.frozen? ⟨g, 65536 + i, none⟩ = false := (hb1.frozen hg).trans hf
  clear hs hF
  go_wp2_with (first | go_region | fail)
  go_ret
  exact ⟨rfl, w1, hb1, rfl⟩

set_option maxHeartbeats 1000000 in
theorem putK_4_true (s : ByteArray) (g i : Nat) (x : Int) (w : World) (hi : i < 8) (hs : keyB (5 * i + 4) = s) (hF : Fst s (5 * i + 4)) (hg : g < w.heap.size) (hc : w.cell? ⟨g, 65536 + i, none⟩ = some (.int .u8 x)) (hf : w.frozen? ⟨g, 65536 + i, none⟩ = false) :
    Calls Try.prog 62 #[.pointer (some ⟨g, 65536, none⟩), .string s, .bool true] w fun e w' => e = .returned (.int .i64 0) ∧ ∃ w1, Below w.heap.size w w1 ∧ w' = ((w1.setCell ⟨g, 65536 + i, none⟩ (.int .u8 (bits .andNot .u8 x 16))).setCell ⟨g, 65536 + i, none⟩ (.int .u8 (bits .or .u8 (bits .andNot .u8 x 16) 16))).drew.drew := by
  have i0 : (0 : Int) ≤ (i : Int) := by omega
  have i1 : (i : Int) < 8 := by omega
  go_enter Try.func62, Try.ntmps62
  go_wp2_with fail
  refine (find_at (k := 4) hi (by omega) hs hF _).mono ?_
  rintro e w1 ⟨rfl, hb1⟩
  have k7 : w1.cell? ⟨g, 65536 + i, none⟩ = some (.int .u8 x) := (hb1.cell hg).trans hc
  have kf : w1.frozen? ⟨g, 65536 + i, none⟩ = false := (hb1.frozen hg).trans hf
  clear hs hF
  go_wp2_with (first | go_region | fail)
  go_ret
  exact ⟨rfl, w1, hb1, rfl⟩

set_option maxHeartbeats 1000000 in
theorem putK_4_false (s : ByteArray) (g i : Nat) (x : Int) (w : World) (hi : i < 8) (hs : keyB (5 * i + 4) = s) (hF : Fst s (5 * i + 4)) (hg : g < w.heap.size) (hc : w.cell? ⟨g, 65536 + i, none⟩ = some (.int .u8 x)) (hf : w.frozen? ⟨g, 65536 + i, none⟩ = false) :
    Calls Try.prog 62 #[.pointer (some ⟨g, 65536, none⟩), .string s, .bool false] w fun e w' => e = .returned (.int .i64 0) ∧ ∃ w1, Below w.heap.size w w1 ∧ w' = (w1.setCell ⟨g, 65536 + i, none⟩ (.int .u8 (bits .andNot .u8 x 16))).drew := by
  have i0 : (0 : Int) ≤ (i : Int) := by omega
  have i1 : (i : Int) < 8 := by omega
  go_enter Try.func62, Try.ntmps62
  go_wp2_with fail
  refine (find_at (k := 4) hi (by omega) hs hF _).mono ?_
  rintro e w1 ⟨rfl, hb1⟩
  have k7 : w1.cell? ⟨g, 65536 + i, none⟩ = some (.int .u8 x) := (hb1.cell hg).trans hc
  have kf : w1.frozen? ⟨g, 65536 + i, none⟩ = false := (hb1.frozen hg).trans hf
  clear hs hF
  go_wp2_with (first | go_region | fail)
  go_ret
  exact ⟨rfl, w1, hb1, rfl⟩

end Go.Proofs.Ytfcnlgkaejkneaa
