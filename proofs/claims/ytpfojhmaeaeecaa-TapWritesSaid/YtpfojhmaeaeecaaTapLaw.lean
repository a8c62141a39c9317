/- The plain law of layer 18: reading undoes writing, and back; a sealed block's sum. No program is in it. -/
import Derived.Test.YtpfojhmaeaeecaaLawTapL
namespace Go.Proofs.Ytpfojhmaeaeecaa
open Go.RowKit

/-- blocks as bytes: each one's length in two bytes, and then itself -/
def wrB (bs : List (List Int)) : List Int := bs.flatMap fun b => bytesL 2 b.length ++ b
theorem wrB_cons (b : List Int) (bs : List (List Int)) : wrB (b :: bs) = bytesL 2 b.length ++ (b ++ wrB bs) := by simp [wrB]
theorem lenT_put (k : Nat) (h : k ≤ 65535) (r : List Int) : lenT (bytesL 2 k ++ r) = k := by
  simp only [bytesL, lenT, List.cons_append, List.nil_append, List.getD_cons_zero, List.getD_cons_succ]
  omega
theorem prs_wr : ∀ (bs : List (List Int)) (cnt p : Nat), cnt + bs.length ≤ 4096 → (∀ b ∈ bs, b.length ≤ 65535) → prs cnt p (wrB bs) = .ok bs
  | [], cnt, p, _, _ => prs_end rfl
  | b :: bs, cnt, p, hc, hb => by
    have h1 := hb b (by simp)
    have hl : lenT (wrB (b :: bs)) = b.length := by rw [wrB_cons]; exact lenT_put _ h1 _
    have hlen : (wrB (b :: bs)).length = 2 + b.length + (wrB bs).length := by rw [wrB_cons]; simp [bytesL_len]; omega
    have d1 : (wrB (b :: bs)).drop 2 = b ++ wrB bs := by
      rw [wrB_cons, List.drop_append_of_le_length (by rw [bytesL_len]; omega)]
      rw [List.drop_eq_nil_of_le (by rw [bytesL_len]; omega)]; rfl
    simp only [List.length_cons] at hc
    rw [prs_more (by omega) (by omega) (by omega), hl, ← List.drop_drop, d1]
    rw [List.take_left' rfl, List.drop_left' rfl, prs_wr bs _ _ (by omega) (fun q hq => hb q (by simp [hq]))]
    rfl

theorem isU8_take {zs : List Int} (h : isU8 zs) (k : Nat) : isU8 (zs.take k) := fun z hz => h z (List.mem_of_mem_take hz)
theorem bytes_back {a b : Int} (ha : 0 ≤ a ∧ a ≤ 255) (hb : 0 ≤ b ∧ b ≤ 255) : bytesL 2 (((a + 256 * b).toNat : Nat) : Int) = [a, b] := by
  have : (((a + 256 * b).toNat : Nat) : Int) = a + 256 * b := by omega
  rw [this]
  simp only [bytesL]
  congr 1
  · omega
  · congr 1; omega
theorem wr_prs (n : Nat) : ∀ (zs : List Int) (cnt p : Nat) (bs : List (List Int)), zs.length ≤ n → cnt ≤ 4096 → isU8 zs → prs cnt p zs = .ok bs → wrB bs = zs ∧ (∀ b ∈ bs, isU8 b ∧ b.length ≤ 65535) ∧ cnt + bs.length ≤ 4096 := by
  induction n with
  | zero =>
    intro zs cnt p bs h hc _ e
    rw [prs_end (by omega)] at e
    injection e with e
    subst e
    obtain rfl : zs = [] := List.eq_nil_of_length_eq_zero (by omega)
    exact ⟨rfl, by simp, by simpa using hc⟩
  | succ n ih =>
    intro zs cnt p bs h hc hz e
    by_cases h0 : zs.length = 0
    · rw [prs_end h0] at e
      injection e with e
      subst e
      obtain rfl : zs = [] := List.eq_nil_of_length_eq_zero h0
      exact ⟨rfl, by simp, by simpa using hc⟩
    · by_cases hf : cnt = 4096
      · rw [prs_full h0 hf] at e; cases e
      · by_cases h2 : zs.length < 2
        · rw [prs_two h0 hf h2] at e; cases e
        · by_cases hs : zs.length < 2 + lenT zs
          · rw [prs_short hf (by omega) hs] at e; cases e
          · rw [prs_more hf (by omega) (by omega)] at e
            match zs, h2, hz, h, hs, e with
            | [], h2, _, _, _, _ => simp at h2
            | [_], h2, _, _, _, _ => simp at h2
            | a :: b :: r, _, hz, h, hs, e =>
              have ha := hz a (by simp)
              have hb := hz b (by simp)
              have hr : isU8 r := fun z hm => hz z (by simp [hm])
              have hL : lenT (a :: b :: r) = (a + 256 * b).toNat := rfl
              have hbk := bytes_back ha hb
              rw [← hL] at hbk
              have hL5 : lenT (a :: b :: r) ≤ 65535 := by rw [hL]; omega
              generalize lenT (a :: b :: r) = k at *
              simp only [List.length_cons] at h hs
              rw [show (a :: b :: r).drop 2 = r from rfl, show (a :: b :: r).drop (2 + k) = r.drop k by rw [← List.drop_drop]; rfl] at e
              rcases hp : prs (cnt + 1) (p + 2 + k) (r.drop k) with bs' | ⟨x, y⟩
              · rw [hp] at e
                simp only [Pr.more, Pr.ok.injEq] at e
                subst e
                have hi := ih _ _ _ _ (by simp; omega) (by omega) (isU8_drop' hr k) hp
                have hlen : (r.take k).length = k := by simp; omega
                refine ⟨?_, ?_, ?_⟩
                · rw [List.singleton_append, wrB_cons, hlen, hbk, hi.1, List.take_append_drop]; rfl
                · intro q hq
                  rcases List.mem_append.1 hq with hq | hq
                  · obtain rfl : q = r.take k := by simpa using hq
                    exact ⟨isU8_take hr k, by omega⟩
                  · exact hi.2.1 q hq
                · have := hi.2.2
                  simp only [List.length_append, List.length_cons, List.length_nil]
                  omega
              · rw [hp] at e; cases e

/-- whether blocks fit a file, whose length so far is given -/
def fitK : Nat → List Nat → Bool
  | _, [] => true
  | a, k :: ks => if 65535 < k ∨ 1048576 < a + 2 + k then false else fitK (a + 2 + k) ks
theorem fitK_wr : ∀ (bs : List (List Int)) (a : Nat), (∀ b ∈ bs, b.length ≤ 65535) → a + (wrB bs).length ≤ 1048576 → fitK a (bs.map List.length) = true
  | [], _, _, _ => rfl
  | b :: bs, a, hb, h => by
    have hlen : (wrB (b :: bs)).length = 2 + b.length + (wrB bs).length := by rw [wrB_cons]; simp [bytesL_len]; omega
    have h1 := hb b (by simp)
    rw [List.map_cons, fitK, if_neg (by omega)]
    exact fitK_wr bs _ (fun q hq => hb q (by simp [hq])) (by omega)
theorem wrB_few : ∀ (bs : List (List Int)) (m : Nat), (∀ b ∈ bs, b.length ≤ m) → (wrB bs).length ≤ bs.length * (2 + m)
  | [], _, _ => by simp [wrB]
  | b :: bs, m, hb => by
    have hlen : (wrB (b :: bs)).length = 2 + b.length + (wrB bs).length := by rw [wrB_cons]; simp [bytesL_len]; omega
    have h1 := hb b (by simp)
    have := wrB_few bs m (fun q hq => hb q (by simp [hq]))
    rw [hlen, List.length_cons, Nat.succ_mul]
    omega
theorem wrB_u8 (bs : List (List Int)) (h : ∀ b ∈ bs, isU8 b) : isU8 (wrB bs) := fun z hz => by
  simp only [wrB, List.mem_flatMap] at hz
  obtain ⟨b, hb, hz⟩ := hz
  rcases List.mem_append.1 hz with hz | hz
  · exact bytesL_in _ _ z hz
  · exact h b hb z hz

/-- one byte that is another one has the sum be another one -/
theorem xorF_set (n : Nat) : ∀ (zs : List Int) (i k : Nat) (z : Int), zs.length ≤ n → i < zs.length → xorF (zs.set i z) k = (xorF zs k != (bitH (zs.getD i 0) k != bitH z k)) := by
  induction n with
  | zero => intro zs i k z h hi; omega
  | succ n ih =>
    intro zs i k z h hi
    have e : zs = zs.take (zs.length - 1) ++ [zs.getD (zs.length - 1) 0] := by
      rw [← take_snocI zs (zs.length - 1) (by omega), show zs.length - 1 + 1 = zs.length by omega, List.take_length]
    generalize hx : zs.take (zs.length - 1) = xs at e
    generalize zs.getD (zs.length - 1) 0 = y at e
    have hxl : xs.length + 1 = zs.length := by rw [← hx]; simp; omega
    clear hx
    subst e
    simp only [List.length_append, List.length_cons, List.length_nil] at hi h
    by_cases hl : i < xs.length
    · rw [List.set_append_left _ _ hl, xorF_snoc, xorF_snoc, ih xs i k z (by omega) hl]
      rw [show (xs ++ [y]).getD i 0 = xs.getD i 0 by simp [List.getD_eq_getElem?_getD, List.getElem?_append_left hl]]
      cases xorF xs k <;> cases bitH y k <;> cases (bitH (xs.getD i 0) k != bitH z k) <;> rfl
    · obtain rfl : i = xs.length := by omega
      rw [List.set_append_right _ _ (Nat.le_refl _), Nat.sub_self]
      rw [show (xs ++ [y]).getD xs.length 0 = y by simp [List.getD_eq_getElem?_getD]]
      rw [show ([y] : List Int).set 0 z = [z] from rfl, xorF_snoc, xorF_snoc]
      cases xorF xs k <;> cases bitH y k <;> cases bitH z k <;> rfl
theorem xorF_start (k : Nat) : ∀ (zs : List Int) (b : Bool), zs.foldl (fun s z => s != bitH z k) b = (b != xorF zs k)
  | [], b => by cases b <;> rfl
  | z :: zs, b => by
    unfold xorF
    rw [List.foldl_cons, List.foldl_cons, xorF_start k zs, xorF_start k zs]
    cases b <;> cases bitH z k <;> cases xorF zs k <;> rfl
theorem xorF_cons (z : Int) (zs : List Int) (k : Nat) : xorF (z :: zs) k = (bitH z k != xorF zs k) := by
  conv => lhs; unfold xorF
  rw [List.foldl_cons, xorF_start]
  cases bitH z k <;> rfl
theorem sealed_sum (f : Int) (hf : 0 ≤ f ∧ f ≤ 255) (zs : List Int) (hz : isU8 zs) : sumX (f :: zs ++ [bits .xor .u8 f (sumX zs)]) = 0 := by
  obtain ⟨s0, s1⟩ := sumX_in zs.length zs (Nat.le_refl _) hz
  have hx := bits_bd .xor hf.1 hf.2 s0 s1 (by simp)
  have hL : isU8 (f :: zs ++ [bits .xor .u8 f (sumX zs)]) := by
    intro z hm
    rcases List.mem_append.1 hm with h | h
    · rcases List.mem_cons.1 h with rfl | h
      · exact hf
      · exact hz z h
    · obtain rfl : z = _ := by simpa using h
      exact hx
  obtain ⟨t0, t1⟩ := sumX_in _ _ (Nat.le_refl _) hL
  rw [byteS_is (f := fun _ => false) t0 t1 (fun j hj => ?_)]
  · decide
  · rw [xorF_sum _ _ (Nat.le_refl _) hL j hj, xorF_snoc, xorF_cons, bitH_xorB hf.1 hf.2 s0 s1 hj, xorF_sum _ zs (Nat.le_refl _) hz j hj]
    cases bitH f j <;> cases xorF zs j <;> rfl
theorem byte_bit {a b : Int} (ha : 0 ≤ a ∧ a ≤ 255) (hb : 0 ≤ b ∧ b ≤ 255) (h : a ≠ b) : ∃ k, k < 8 ∧ bitH a k ≠ bitH b k := by
  by_cases hall : ∀ k, k < 8 → bitH a k = bitH b k
  · exact absurd ((byteS_is ha.1 ha.2 hall).trans (byteS_is hb.1 hb.2 (fun _ _ => rfl)).symm) h
  · apply Classical.byContradiction
    intro hn
    apply hall
    intro k hk
    apply Classical.byContradiction
    intro hne
    exact hn ⟨k, hk, hne⟩
theorem other_sum {zs : List Int} (hz : isU8 zs) (h0 : sumX zs = 0) {i : Nat} (hi : i < zs.length) {z : Int} (hz1 : 0 ≤ z ∧ z ≤ 255) (hne : zs.getD i 0 ≠ z) : sumX (zs.set i z) ≠ 0 := by
  intro e
  obtain ⟨k, hk, hd⟩ := byte_bit (isU8_at hz hi) hz1 hne
  have hL : isU8 (zs.set i z) := by
    intro y hm
    rcases List.mem_or_eq_of_mem_set hm with h | rfl
    · exact hz y h
    · exact hz1
  have e1 := xorF_sum _ _ (Nat.le_refl _) hL k hk
  have e2 := xorF_sum _ _ (Nat.le_refl _) hz k hk
  rw [xorF_set _ zs i k z (Nat.le_refl _) hi, ← e2, h0, e] at e1
  revert e1 hd
  cases bitH (zs.getD i 0) k <;> cases bitH z k <;> cases bitH 0 k <;> simp

end Go.Proofs.Ytpfojhmaeaeecaa
