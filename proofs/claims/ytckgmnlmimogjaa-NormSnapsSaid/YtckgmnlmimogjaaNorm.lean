/- Layer 27 in plain words: gaps near a length, runs of them, bits, bytes, and the block that is found; nothing of the program is in it. -/
import Derived.Test.YtckgmnlmimogjaaBytes
namespace Go.Proofs.Ytckgmnlmimogjaa
open Go.RowKit

def isU32 (zs : List Int) : Prop := ∀ z ∈ zs, 0 ≤ z ∧ z ≤ 4294967295
theorem isU32_at {zs : List Int} (h : isU32 zs) {k : Nat} (hk : k < zs.length) : 0 ≤ zs.getD k 0 ∧ zs.getD k 0 ≤ 4294967295 := by
  have : zs.getD k 0 ∈ zs := by rw [List.getD_eq_getElem?_getD, List.getElem?_eq_getElem hk]; exact List.getElem_mem hk
  exact h _ this
theorem i32_at {w : World} {B n : Nat} {A : Option Addr} {kd : IntKind} {zs : List Int} (h : Reads w B 1 A n (zs.map (Value.int kd))) {k : Nat} (hk : k < n) :
    ∃ ad, A = some ad ∧ ad.block < B ∧ w.cell? (ad.add k) = some (.int kd (zs.getD k 0)) := by
  obtain ⟨ad, u, e, hb, hx, hc⟩ := h.at_ hk
  refine ⟨ad, e, hb, hc.trans ?_⟩
  rw [← hx]
  have hl : k < zs.length := by have := h.1; simp at this; omega
  simp [List.getD_eq_getElem?_getD, hl]
/-- is gap number k there, and near a length? -/
def nr (zs : List Int) (k : Nat) (n tol : Int) : Bool := decide (k < zs.length ∧ zs.getD k 0 - n ≤ tol ∧ -tol ≤ zs.getD k 0 - n)
theorem nr_out {zs : List Int} {k : Nat} {n tol : Int} (h : zs.length ≤ k) : nr zs k n tol = false := by unfold nr; rw [decide_eq_false_iff_not]; omega
theorem nr_in {zs : List Int} {k : Nat} {n tol z : Int} (h : k < zs.length) (hz : zs.getD k 0 = z) : nr zs k n tol = (decide (z - n ≤ tol) && decide (-tol ≤ z - n)) := by
  unfold nr
  rw [hz]
  by_cases h1 : z - n ≤ tol <;> by_cases h2 : -tol ≤ z - n <;> simp [h, h1, h2]
/-- how many gaps near a length stand from k on -/
def runK (zs : List Int) (n tol : Int) : Nat → Nat → Nat
  | 0, _ => 0
  | f + 1, k => if nr zs k n tol then runK zs n tol f (k + 1) + 1 else 0
def runN (zs : List Int) (k : Nat) (n tol : Int) : Nat := runK zs n tol zs.length k
theorem runK_le (zs : List Int) (n tol : Int) : ∀ f k, runK zs n tol f k ≤ f
  | 0, _ => Nat.le_refl _
  | f + 1, k => by
    unfold runK
    split
    · have := runK_le zs n tol f (k + 1); omega
    · omega
theorem runK_in (zs : List Int) (n tol : Int) : ∀ f k, k ≤ zs.length → k + runK zs n tol f k ≤ zs.length
  | 0, k, h => by simpa [runK] using h
  | f + 1, k, h => by
    unfold runK
    split
    · rename_i hn
      have hk : k < zs.length := by unfold nr at hn; rw [decide_eq_true_iff] at hn; exact hn.1
      have := runK_in zs n tol f (k + 1) (by omega)
      omega
    · omega
theorem runK_at (zs : List Int) (n tol : Int) : ∀ f k m, zs.length ≤ f + k → m ≤ runK zs n tol f k → nr zs (k + m) n tol = decide (m < runK zs n tol f k)
  | 0, k, m, hl, hm => by
    simp only [runK] at hm ⊢
    rw [nr_out (by omega)]
    simp
  | f + 1, k, m, hl, hm => by
    unfold runK at hm ⊢
    by_cases hn : nr zs k n tol = true
    · rw [if_pos hn] at hm ⊢
      cases m with
      | zero => rw [Nat.add_zero, hn]; simp
      | succ m =>
        have := runK_at zs n tol f (k + 1) m (by omega) (by omega)
        rw [show k + (m + 1) = k + 1 + m by omega, this]
        simp
    · rw [if_neg hn] at hm ⊢
      obtain rfl : m = 0 := by omega
      simp only [Nat.add_zero, Nat.lt_irrefl, decide_false]
      cases h : nr zs k n tol with
      | false => rfl
      | true => exact absurd h hn
theorem runN_at {zs : List Int} {k m : Nat} {n tol : Int} (hm : m ≤ runN zs k n tol) : nr zs (k + m) n tol = decide (m < runN zs k n tol) := runK_at zs n tol zs.length k m (by omega) hm
theorem runN_in {zs : List Int} {k : Nat} {n tol : Int} (h : k ≤ zs.length) : k + runN zs k n tol ≤ zs.length := runK_in zs n tol _ k h
/-- two gaps near one length -/
def two (zs : List Int) (k : Nat) (n tol : Int) : Bool := nr zs k n tol && nr zs (k + 1) n tol
theorem two_in {zs : List Int} {k : Nat} {n tol : Int} (h : two zs k n tol = true) : k + 2 ≤ zs.length := by
  unfold two nr at h
  simp only [Bool.and_eq_true, decide_eq_true_eq] at h
  omega
/-- the bits from a gap on -/
def bitsK (zs : List Int) (z o tol : Int) : Nat → Nat → List Int
  | 0, _ => []
  | f + 1, k => if two zs k z tol then 0 :: bitsK zs z o tol f (k + 2) else if two zs k o tol then 1 :: bitsK zs z o tol f (k + 2) else []
def bitsN (zs : List Int) (k : Nat) (z o tol : Int) : List Int := bitsK zs z o tol (zs.length - k) k
theorem bitsK_more (zs : List Int) (z o tol : Int) : ∀ f g k, zs.length ≤ f + k → zs.length ≤ g + k → bitsK zs z o tol f k = bitsK zs z o tol g k
  | 0, 0, _, _, _ => rfl
  | 0, g + 1, k, hf, _ => by
    have h (n : Int) : two zs k n tol = false := by
      cases h : two zs k n tol with
      | false => rfl
      | true => have := two_in h; omega
    unfold bitsK
    rw [h, h]
    rfl
  | f + 1, 0, k, _, hg => by
    have h (n : Int) : two zs k n tol = false := by
      cases h : two zs k n tol with
      | false => rfl
      | true => have := two_in h; omega
    unfold bitsK
    rw [h, h]
    rfl
  | f + 1, g + 1, k, hf, hg => by
    unfold bitsK
    by_cases h : zs.length ≤ k
    · have hh (n : Int) : two zs k n tol = false := by
        cases h' : two zs k n tol with
        | false => rfl
        | true => have := two_in h'; omega
      rw [hh, hh]
      rfl
    · rw [bitsK_more zs z o tol f g (k + 2) (by omega) (by omega)]
theorem bitsN_step (zs : List Int) (k : Nat) (z o tol : Int) : bitsN zs k z o tol = if two zs k z tol then 0 :: bitsN zs (k + 2) z o tol else if two zs k o tol then 1 :: bitsN zs (k + 2) z o tol else [] := by
  unfold bitsN
  rw [bitsK_more zs z o tol (zs.length - k) (zs.length - k + 1) k (by omega) (by omega), bitsK, bitsK_more zs z o tol (zs.length - k) (zs.length - (k + 2)) (k + 2) (by omega) (by omega)]
theorem bitsK_two (zs : List Int) (z o tol : Int) : ∀ f k, ∀ b ∈ bitsK zs z o tol f k, b = 0 ∨ b = 1
  | 0, _, b, hb => by simp [bitsK] at hb
  | f + 1, k, b, hb => by
    unfold bitsK at hb
    split at hb
    · rcases List.mem_cons.1 hb with rfl | h
      · exact .inl rfl
      · exact bitsK_two zs z o tol f (k + 2) b h
    · split at hb
      · rcases List.mem_cons.1 hb with rfl | h
        · exact .inr rfl
        · exact bitsK_two zs z o tol f (k + 2) b h
      · simp at hb
theorem bitsK_len (zs : List Int) (z o tol : Int) : ∀ f k, k ≤ zs.length → k + 2 * (bitsK zs z o tol f k).length ≤ zs.length
  | 0, k, h => by simpa [bitsK] using h
  | f + 1, k, h => by
    unfold bitsK
    split
    · rename_i ht
      have := bitsK_len zs z o tol f (k + 2) (two_in ht)
      rw [List.length_cons]
      omega
    · split
      · rename_i ht
        have := bitsK_len zs z o tol f (k + 2) (two_in ht)
        rw [List.length_cons]
        omega
      · simpa using h
/-- so many bits' number -/
def valB (bs : List Int) (i : Nat) : Nat → Int
  | 0 => 0
  | j + 1 => 2 * valB bs i j + bs.getD (i + j) 0
def isBits (bs : List Int) : Prop := ∀ b ∈ bs, b = 0 ∨ b = 1
theorem isBits_at {bs : List Int} (h : isBits bs) (k : Nat) : bs.getD k 0 = 0 ∨ bs.getD k 0 = 1 := by
  rcases Nat.lt_or_ge k bs.length with hk | hk
  · have : bs.getD k 0 ∈ bs := by rw [List.getD_eq_getElem?_getD, List.getElem?_eq_getElem hk]; exact List.getElem_mem hk
    exact h _ this
  · left; rw [List.getD_eq_getElem?_getD, List.getElem?_eq_none hk]; rfl
theorem valB_in {bs : List Int} (h : isBits bs) (i : Nat) : ∀ j, 0 ≤ valB bs i j ∧ valB bs i j < 2 ^ j
  | 0 => by simp [valB]
  | j + 1 => by
    have := valB_in h i j
    have hb := isBits_at h (i + j)
    unfold valB
    rw [Int.pow_succ]
    omega
/-- the bytes of bits: the first so many -/
def bytesB (bs : List Int) (m : Nat) : List Int := (List.range m).map fun k => valB bs (8 * k) 8
theorem bytesB_succ (bs : List Int) (m : Nat) : bytesB bs (m + 1) = bytesB bs m ++ [valB bs (8 * m) 8] := by simp [bytesB, List.range_succ]
theorem bytesB_len (bs : List Int) (m : Nat) : (bytesB bs m).length = m := by simp [bytesB]
theorem bytesB_u8 {bs : List Int} (h : isBits bs) (m : Nat) : isU8 (bytesB bs m) := by
  intro z hz
  obtain ⟨k, _, rfl⟩ := List.mem_map.1 hz
  have := valB_in h (8 * k) 8
  omega

end Go.Proofs.Ytckgmnlmimogjaa
