/- Plain numbers for layer 9: times, waits, addresses. No program stands here. -/
import Derived.WalkKit
import Derived.Lib.EndianBits
namespace Go.Proofs.Ytfcnlgkaejkneaa
open Go.RowKit

def frameS (t : Int) : Int := t % 69888
theorem frameS_bd (t : Int) : 0 ≤ frameS t ∧ frameS t ≤ 69887 := by unfold frameS; omega
theorem tmod_pos {t n : Int} (h0 : 0 < n) (h : 0 ≤ t.tmod n) : t.tmod n = t % n := by
  rw [Int.tmod_eq_emod] at h ⊢
  split at h
  · rename_i hc; rw [if_pos hc]; omega
  · rename_i hc
    have := Int.emod_lt_of_pos t h0
    omega
theorem tmod_neg {t n : Int} (h0 : 0 < n) (h : t.tmod n < 0) : t.tmod n + n = t % n := by
  rw [Int.tmod_eq_emod] at h ⊢
  split at h
  · have := Int.emod_nonneg t (by omega : n ≠ 0); omega
  · rename_i hc; rw [if_neg hc]; omega
theorem tmod_bd {t n : Int} (h0 : 0 < n) : -n < t.tmod n ∧ t.tmod n < n := by
  have h1 := Int.emod_nonneg t (by omega : n ≠ 0)
  have h2 := Int.emod_lt_of_pos t h0
  rw [Int.tmod_eq_emod]
  split
  · omega
  · rename_i hc
    have : t % n ≠ 0 := fun e => hc (.inr (Int.dvd_of_emod_eq_zero e))
    omega
theorem frame_ref {t : Int} : (t.tmod 69888 + 69888) % 69888 = frameS t := by
  unfold frameS
  rcases Int.lt_or_le (t.tmod 69888) 0 with h | h
  · rw [tmod_neg (by omega) h]; omega
  · rw [tmod_pos (by omega) h]; omega

/-- how long is waited, n T-states behind the first wait of a frame -/
def waitN (n : Int) : Int := if n < 0 ∨ 43008 ≤ n ∨ 128 ≤ n % 224 then 0 else if n % 224 % 8 ≤ 6 then 6 - n % 224 % 8 else 0
def waitS (t : Int) : Int := waitN (frameS t - 14335)
theorem waitN_bd (n : Int) : 0 ≤ waitN n ∧ waitN n ≤ 6 := by unfold waitN; split; omega; split <;> omega
def slowS (a : Int) : Bool := decide (16384 ≤ a) && decide (a < 32768)
def portS (slow even : Bool) (k : Int) : Bool := if slow && even then decide (k = 0) || decide (k = 1) else if slow then true else even && decide (k = 1)
def heldS (kind a k : Int) : Bool := if kind = 0 ∨ kind = 1 ∨ kind = 2 then slowS a && decide (k = 0) else if kind = 4 then slowS a else if kind = 3 then portS (slowS a) (decide (a % 2 = 0)) k else false
def holdS (kind a k t : Int) : Int := if heldS kind a k then waitS t else 0

def onS (line cell : Int) : Bool := decide (0 ≤ line) && decide (line < 192) && decide (0 ≤ cell) && decide (cell < 32)
def pixN (line cell : Int) : Int := 16384 + line / 64 * 2048 + line % 8 * 256 + line / 8 % 8 * 32 + cell
def colN (line cell : Int) : Int := 22528 + 32 * (line / 8) + cell
theorem pixN_bd {l c : Int} (l0 : 0 ≤ l) (l1 : l < 192) (c0 : 0 ≤ c) (c1 : c < 32) : 16384 ≤ pixN l c ∧ pixN l c < 22528 := by unfold pixN; omega
theorem colN_bd {l c : Int} (l0 : 0 ≤ l) (l1 : l < 192) (c0 : 0 ≤ c) (c1 : c < 32) : 22528 ≤ colN l c ∧ colN l c < 23296 := by unfold colN; omega
theorem pix_apart {l c m d : Int} (l0 : 0 ≤ l) (l1 : l < 192) (c0 : 0 ≤ c) (c1 : c < 32) (m0 : 0 ≤ m) (m1 : m < 192) (d0 : 0 ≤ d) (d1 : d < 32) : pixN l c = pixN m d ↔ (l = m ∧ c = d) := by
  unfold pixN
  constructor
  · intro h
    have e1 : c = d := by omega
    have e2 : l / 8 % 8 = m / 8 % 8 := by omega
    have e3 : l % 8 = m % 8 := by omega
    have e4 : l / 64 = m / 64 := by omega
    exact ⟨by omega, e1⟩
  · rintro ⟨rfl, rfl⟩; rfl
theorem col_apart {l c m d : Int} (l0 : 0 ≤ l) (l1 : l < 192) (c0 : 0 ≤ c) (c1 : c < 32) (m0 : 0 ≤ m) (m1 : m < 192) (d0 : 0 ≤ d) (d1 : d < 32) : colN l c = colN m d ↔ (l / 8 = m / 8 ∧ c = d) := by
  unfold colN; omega

theorem wraps_i64 (n : Int) (h0 : 0 ≤ n) (h1 : n < 2 ^ 32) : IntKind.i64.wrap n = n := by
  simp only [IntKind.wrap, IntKind.bits, IntKind.signed]
  simp
  split <;> omega

/-! What is fetched: n T-states behind the first fetch of a frame. -/
def hitN (n : Int) : Bool := decide (0 ≤ n) && decide (n < 43008) && decide (n % 224 < 128) && decide (n % 224 % 8 < 4)
def hitS (t : Int) : Bool := hitN (frameS t - 14338)
def lineN (n : Int) : Int := n / 224
def cellN (n : Int) : Int := 2 * (n % 224 / 8) + n % 224 % 8 / 2
def halfN (n : Int) : Int := n % 224 % 8 % 2
def placeN (n : Int) : Int := 2 * (32 * lineN n + cellN n) + halfN n
def fetchN (n : Int) : Int := if halfN n = 0 then pixN (lineN n) (cellN n) else colN (lineN n) (cellN n)

theorem slow_num {a : Int} (a0 : 0 ≤ a) : (a / 16384 == 1) = slowS a := by unfold slowS; rw [Bool.eq_iff_iff]; simp; omega
theorem even_num {a : Int} : (a % 2 == 0) = decide (a % 2 = 0) := by rw [Bool.eq_iff_iff]; simp
theorem hit_is {n : Int} (h : hitN n = true) : 0 ≤ n ∧ n < 43008 ∧ n % 224 < 128 ∧ n % 224 % 8 < 4 := by unfold hitN at h; simp at h; omega
theorem hit_not {n : Int} (h : hitN n = false) : ¬ (0 ≤ n ∧ n < 43008 ∧ n % 224 < 128 ∧ n % 224 % 8 < 4) := by
  intro hc
  have : hitN n = true := by unfold hitN; simp; omega
  rw [h] at this; cases this
theorem cell_bd {n : Int} (h : 0 ≤ n ∧ n < 43008 ∧ n % 224 < 128 ∧ n % 224 % 8 < 4) : (0 ≤ lineN n ∧ lineN n < 192) ∧ (0 ≤ cellN n ∧ cellN n < 32) ∧ (halfN n = 0 ∨ halfN n = 1) := by unfold lineN cellN halfN; omega

end Go.Proofs.Ytfcnlgkaejkneaa
