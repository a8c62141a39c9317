/- Layer 27: the plain law of what is found: edges of bytes, each a little longer, and a long gap behind. -/
import Derived.Test.YtckgmnlmimogjaaNs1
namespace Go.Proofs.Ytckgmnlmimogjaa
open Go.RowKit

def Snap (zs ls : List Int) (p : Int) : Prop := zs.length = ls.length + 1 ∧ (∀ i, i < ls.length → ls.getD i 0 ≤ zs.getD i 0 ∧ zs.getD i 0 ≤ ls.getD i 0 + 24) ∧ zs.getD ls.length 0 = 3500 * p + 17
theorem nr_yes {zs : List Int} {k : Nat} {n : Int} (hk : k < zs.length) (h1 : n ≤ zs.getD k 0) (h2 : zs.getD k 0 ≤ n + 24) : nr zs k n 24 = true := by
  unfold nr
  rw [decide_eq_true_iff]
  omega
theorem nr_no {zs : List Int} {k : Nat} {n : Int} (h : n + 24 < zs.getD k 0 ∨ zs.getD k 0 < n - 24) : nr zs k n 24 = false := by
  unfold nr
  rw [decide_eq_false_iff_not]
  omega
theorem run_is {zs : List Int} {m : Nat} {n tol : Int} (h1 : ∀ i, i < m → nr zs i n tol = true) (h2 : nr zs m n tol = false) : runN zs 0 n tol = m := by
  rcases Nat.lt_trichotomy (runN zs 0 n tol) m with h | h | h
  · have h3 := runN_at (zs := zs) (k := 0) (n := n) (tol := tol) (m := runN zs 0 n tol) (Nat.le_refl _)
    rw [Nat.zero_add, h1 _ h] at h3
    simp at h3
  · exact h
  · have h3 := runN_at (zs := zs) (k := 0) (n := n) (tol := tol) (m := m) (by omega)
    rw [Nat.zero_add, h2] at h3
    simp at h3
    omega
theorem lens_at : ∀ (bs : List Bool) (j : Nat), j < bs.length → (lensOf bs).getD (2 * j) 0 = (if bs.getD j false then 1710 else 855) ∧ (lensOf bs).getD (2 * j + 1) 0 = (if bs.getD j false then 1710 else 855)
  | [], j, h => by simp at h
  | b :: bs, 0, h => by cases b <;> exact ⟨rfl, rfl⟩
  | b :: bs, j + 1, h => by
    have := lens_at bs j (by simpa using h)
    have e : ∀ i, (lensOf (b :: bs)).getD (i + 2) 0 = (lensOf bs).getD i 0 := by intro i; cases b <;> rfl
    rw [show 2 * (j + 1) = 2 * j + 2 by omega, show 2 * j + 2 + 1 = 2 * j + 1 + 2 by omega, e, e]
    exact this
theorem edges_len (ds : List Int) : (edgesL ds).length = 302 + 16 * ds.length := by
  unfold edgesL
  simp only [List.length_append, List.length_replicate, List.length_singleton, lensOf_len, bitsOf_len]
  omega
theorem four_at (m : Nat) (v a b : Int) (X : List Int) : (∀ i, i < m → (List.replicate m v ++ [a] ++ [b] ++ X).getD i 0 = v) ∧ (List.replicate m v ++ [a] ++ [b] ++ X).getD m 0 = a ∧ (List.replicate m v ++ [a] ++ [b] ++ X).getD (m + 1) 0 = b ∧ ∀ i, (List.replicate m v ++ [a] ++ [b] ++ X).getD (m + 2 + i) 0 = X.getD i 0 := by
  refine ⟨fun i hi => ?_, ?_, ?_, fun i => ?_⟩
  · rw [List.getD_eq_getElem?_getD, List.getElem?_append_left (by simp; omega), List.getElem?_append_left (by simp; omega), List.getElem?_append_left (by simp; omega), List.getElem?_replicate, if_pos hi]
    rfl
  · rw [List.getD_eq_getElem?_getD, List.getElem?_append_left (by simp), List.getElem?_append_left (by simp), List.getElem?_append_right (by simp)]
    simp
  · rw [List.getD_eq_getElem?_getD, List.getElem?_append_left (by simp), List.getElem?_append_right (by simp)]
    simp
  · rw [List.getD_eq_getElem?_getD, List.getElem?_append_right (by first | (simp; omega) | simp), List.getD_eq_getElem?_getD]
    simp only [List.length_append, List.length_replicate, List.length_singleton]
    rw [show m + 2 + i - (m + 1 + 1) = i by omega]
theorem edges_at (ds : List Int) : (∀ i, i < 300 → (edgesL ds).getD i 0 = 2168) ∧ (edgesL ds).getD 300 0 = 667 ∧ (edgesL ds).getD 301 0 = 735 ∧ ∀ i, (edgesL ds).getD (302 + i) 0 = (lensOf (bitsOf ds)).getD i 0 := four_at 300 2168 667 735 _
def bI (b : Bool) : Int := if b then 1 else 0
section
variable {zs ds : List Int} {p : Int} (hs : Snap zs (edgesL ds) p) (hp : 2 ≤ p)
include hs
theorem snap_len : zs.length = 303 + 16 * ds.length := by rw [hs.1, edges_len]; omega
theorem snap_bit {j : Nat} (hj : j < (bitsOf ds).length) : bitV zs (302 + 2 * j) 855 1710 24 = bI ((bitsOf ds).getD j false) := by
  have hl := edges_len ds
  rw [bitsOf_len] at hj
  obtain ⟨l1, l2⟩ := lens_at (bitsOf ds) j (by rw [bitsOf_len]; exact hj)
  have h1 := hs.2.1 (302 + 2 * j) (by omega)
  have h2 := hs.2.1 (302 + (2 * j + 1)) (by omega)
  rw [(edges_at ds).2.2.2, l1] at h1
  rw [(edges_at ds).2.2.2, l2] at h2
  rw [show 302 + (2 * j + 1) = 302 + 2 * j + 1 by omega] at h2
  have hz := hs.1
  cases hb : (bitsOf ds).getD j false with
  | false =>
    rw [hb] at h1 h2
    simp only [Bool.false_eq_true, if_false] at h1 h2
    unfold bitV two
    rw [nr_yes (by omega) h1.1 h1.2, nr_yes (by omega) h2.1 h2.2]
    rfl
  | true =>
    rw [hb] at h1 h2
    simp only [if_true] at h1 h2
    unfold bitV two
    rw [nr_no (n := 855) (.inl (by omega)), nr_yes (by omega) h1.1 h1.2, nr_yes (by omega) h2.1 h2.2]
    rfl
include hp in
theorem snap_end : bitV zs (302 + 2 * (bitsOf ds).length) 855 1710 24 = 2 := by
  have hl := edges_len ds
  have he : 302 + 2 * (bitsOf ds).length = (edgesL ds).length := by rw [hl, bitsOf_len]; omega
  rw [he]
  unfold bitV two
  rw [nr_no (n := 855) (.inl (by rw [hs.2.2]; omega)), nr_no (n := 1710) (.inl (by rw [hs.2.2]; omega))]
  rfl
include hp in
theorem snap_bits : ∀ f j, (bitsOf ds).length - j ≤ f → j ≤ (bitsOf ds).length → bitsN zs (302 + 2 * j) 855 1710 24 = ((bitsOf ds).drop j).map bI
  | 0, j, h, hj => by
    obtain rfl : j = (bitsOf ds).length := by omega
    rw [bit_none (snap_end hs hp), List.drop_length]
    rfl
  | f + 1, j, h, hj => by
    by_cases hlt : j < (bitsOf ds).length
    · have hv := snap_bit hs hlt
      obtain ⟨e, _, _⟩ := bit_some (zs := zs) (k := 302 + 2 * j) (z := 855) (o := 1710) (tol := 24) (by rw [hv]; unfold bI; split <;> decide)
      rw [e, hv, show 302 + 2 * j + 2 = 302 + 2 * (j + 1) by omega, snap_bits f (j + 1) (by omega) (by omega), List.drop_eq_getElem_cons hlt, List.map_cons, List.getD_eq_getElem?_getD, List.getElem?_eq_getElem hlt]
      rfl
    · obtain rfl : j = (bitsOf ds).length := by omega
      rw [bit_none (snap_end hs hp), List.drop_length]
      rfl
theorem snap_run : runN zs 0 2168 24 = 300 := by
  have hl := edges_len ds
  have hz := hs.1
  obtain ⟨e1, e2, _, _⟩ := edges_at ds
  refine run_is (fun i hi => ?_) ?_
  · have h := hs.2.1 i (by omega)
    rw [e1 i hi] at h
    exact nr_yes (by omega) h.1 h.2
  · have h := hs.2.1 300 (by omega)
    rw [e2] at h
    exact nr_no (.inr (by omega))
theorem snap_sync : nr zs 300 667 24 = true ∧ nr zs 301 735 24 = true := by
  have hl := edges_len ds
  have hz := hs.1
  obtain ⟨_, e2, e3, _⟩ := edges_at ds
  have h1 := hs.2.1 300 (by omega)
  have h2 := hs.2.1 301 (by omega)
  rw [e2] at h1
  rw [e3] at h2
  exact ⟨nr_yes (by omega) h1.1 h1.2, nr_yes (by omega) h2.1 h2.2⟩
end
theorem bits_at : ∀ (ds : List Int) (k i : Nat), k < ds.length → i < 8 → ((bitsOf ds).map bI).getD (8 * k + i) 0 = bI (bitH (ds.getD k 0) i)
  | [], k, i, h, _ => by simp at h
  | d :: ds, 0, i, h, hi => by
    rcases nat8 hi with rfl | rfl | rfl | rfl | rfl | rfl | rfl | rfl <;> rfl
  | d :: ds, k + 1, i, h, hi => by
    have := bits_at ds k i (by simpa using h) hi
    have e : ∀ q, ((bitsOf (d :: ds)).map bI).getD (q + 8) 0 = ((bitsOf ds).map bI).getD q 0 := fun q => rfl
    rw [show 8 * (k + 1) + i = 8 * k + i + 8 by omega, e]
    exact this
theorem byte_bits : ∀ n : Nat, n < 256 → 2 * (2 * (2 * (2 * (2 * (2 * (2 * (2 * 0 + bI (bitH (n : Int) 0)) + bI (bitH n 1)) + bI (bitH n 2)) + bI (bitH n 3)) + bI (bitH n 4)) + bI (bitH n 5)) + bI (bitH n 6)) + bI (bitH n 7) = (n : Int) := by decide +kernel
theorem val_byte {ds : List Int} (hd : isU8 ds) {k : Nat} (hk : k < ds.length) : valB ((bitsOf ds).map bI) (8 * k) 8 = ds.getD k 0 := by
  obtain ⟨h1, h2⟩ := hd (ds.getD k 0) (mem_of_getD hk rfl)
  have hb := fun i (hi : i < 8) => bits_at ds k i hk hi
  have h0 := hb 0 (by omega)
  rw [Nat.add_zero] at h0
  simp only [valB, hb 1 (by omega), hb 2 (by omega), hb 3 (by omega), hb 4 (by omega), hb 5 (by omega), hb 6 (by omega), hb 7 (by omega), Nat.add_zero, h0]
  generalize ds.getD k 0 = d at *
  obtain ⟨n, rfl⟩ : ∃ n : Nat, d = (n : Int) := ⟨d.toNat, by omega⟩
  exact byte_bits n (by omega)
theorem bytes_back {ds : List Int} (hd : isU8 ds) : bytesB ((bitsOf ds).map bI) ds.length = ds := by
  apply List.ext_getElem?
  intro k
  unfold bytesB
  rw [List.getElem?_map]
  rcases Nat.lt_or_ge k ds.length with h | h
  · rw [List.getElem?_range h, Option.map_some, val_byte hd h, List.getD_eq_getElem?_getD, List.getElem?_eq_getElem h]
    rfl
  · rw [List.getElem?_eq_none (by simpa using h), List.getElem?_eq_none h]
    rfl
theorem snap_found {zs ds : List Int} {p : Int} (hs : Snap zs (edgesL ds) p) (hd : isU8 ds) (h0 : ds ≠ []) (hp : 2 ≤ p) (hp2 : p ≤ 10000) : fnd zs ((0 : Nat) : Int) 2168 667 735 855 1710 24 = some (ds, 300, p, zs.length) := by
  have hl := snap_len hs
  have hd1 : 1 ≤ ds.length := by
    cases ds with
    | nil => exact absurd rfl h0
    | cons a l => simp
  have hb : bitsN zs 302 855 1710 24 = (bitsOf ds).map bI := by
    have := snap_bits hs hp (bitsOf ds).length 0 (by omega) (by omega)
    simpa using this
  have hbl : ((bitsOf ds).map bI).length / 8 = ds.length := by rw [List.length_map, bitsOf_len]; omega
  obtain ⟨n1, n2⟩ := snap_sync hs
  have hz : zs.getD (302 + 16 * ds.length) 0 = 3500 * p + 17 := by rw [← edges_len, hs.2.2]
  unfold fnd
  rw [if_neg (by
    rintro (h | h | h)
    · omega
    · omega
    · exact absurd h (by decide))]
  simp only [Int.toNat_natCast, Nat.zero_add, snap_run hs]
  rw [if_neg (by
    rintro (h | h | h)
    · omega
    · rw [n1] at h; cases h
    · rw [n2] at h; cases h)]
  rw [show (300 + 2 : Nat) = 302 from rfl, hb, hbl, if_neg (by omega), bytes_back hd]
  have e1 : pauN zs (302 + 16 * ds.length) = p := by
    unfold pauN
    rw [hz, if_pos ⟨by omega, by omega⟩, show (3500 * p + 17) / 3500 = p by omega, if_pos (by omega)]
  have e2 : pauE zs (302 + 16 * ds.length) = zs.length := by
    unfold pauE
    rw [hz, if_pos ⟨by omega, by omega⟩]
    omega
  rw [e1, e2]
  rfl
/-- the tidy tape of such gaps -/
def snapD (ds : List Int) (p : Int) : BD := ⟨16, p, 0, 0, 0, 0, 0, 0, 0, 0, 0, 0, ds, [], [], []⟩
theorem snap_tidy {zs ds : List Int} {p : Int} (hs : Snap zs (edgesL ds) p) (hd : isU8 ds) (h0 : ds ≠ []) (hp : 2 ≤ p) (hp2 : p ≤ 10000) : nrmS zs 24 [] false (zs.length + 1) 0 0 [] = (0, [snapD ds p]) := by
  have hl := snap_len hs
  have hf : fstL zs ((0 : Nat) : Int) 24 (stdT :: []) = some (stdT, ds, 300, p, zs.length) := fstL_yes (snap_found hs hd h0 hp hp2)
  rw [nrm_some (by omega) hf, (restE_0 rfl).1, (restE_0 rfl).2, if_neg (by decide), if_neg (by simp)]
  obtain ⟨m, hm⟩ : ∃ m, zs.length = m + 1 := ⟨zs.length - 1, by omega⟩
  have h9 := nrm_end (zs := zs) (tol := 24) (tms := []) (lv := false) (f := m) (fr := 0 + zs.length) (at_ := 0 + zs.length) (dl := [] ++ [fndD stdT ds 300 p]) (by omega)
  rw [← hm] at h9
  rw [h9, (restE_0 (by omega)).1, (restE_0 (by omega)).2, if_neg (by decide)]
  rfl
end Go.Proofs.Ytckgmnlmimogjaa
