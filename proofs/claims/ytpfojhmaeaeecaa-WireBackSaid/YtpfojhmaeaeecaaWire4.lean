/- Contracts of layer 17: many numbers, read one behind the other; and the comparison of two lists. -/
import Derived.Test.YtpfojhmaeaeecaaLawWireL
import Derived.Deep.RegionHeld3
namespace Go.Proofs.Ytpfojhmaeaeecaa
open Go.RowKit

theorem i64_at {w : World} {B n : Nat} {A : Option Addr} {zs : List Int} (h : Reads w B 1 A n (zs.map (Value.int .i64))) {k : Nat} (hk : k < n) :
    ∃ ad, A = some ad ∧ ad.block < B ∧ w.cell? (ad.add k) = some (.int .i64 (zs.getD k 0)) := by
  obtain ⟨ad, u, e, hb, hx, hc⟩ := h.at_ hk
  refine ⟨ad, e, hb, hc.trans ?_⟩
  rw [← hx]
  have hl : k < zs.length := by have := h.1; simp at this; omega
  simp [List.getD_eq_getElem?_getD, hl]
theorem row_i64 {w : World} {a : Option Addr} {len cap : Nat} {zs : List Int} (h : IsRow .i64 w a len cap zs) :
    Reads w w.heap.size 1 a len ((zs.take len).map (Value.int .i64)) := by
  rcases h with ⟨rfl, rfl, rfl, rfl⟩ | ⟨x, rfl, hb, hl, hc, hz, hcell, hw⟩
  · exact Reads.none_
  · refine ⟨by simp; omega, fun hn => ⟨x, rfl, by rcases hb with h0 | h0; omega; exact h0, fun j u hu => ?_⟩⟩
    simp only [List.getElem?_map, List.getElem?_take, Option.map_eq_some_iff] at hu
    obtain ⟨v, hv, rfl⟩ := hu
    split at hv
    · have hj : j < zs.length := by
        rcases Nat.lt_or_ge j zs.length with h | h
        · exact h
        · rw [List.getElem?_eq_none h] at hv; cases hv
      rw [hcell j hj, List.getD_eq_getElem?_getD, hv]
      rfl
    · cases hv
theorem intInfo : (Try.prog.info? 3).map (fun i => (i.zero, i.size, i.bytes)) = some (some (.int .i64 0), 1, 8) := by kernel_rfl

/-- numbers as bytes, K each -/
def flatL (K : Nat) (zs : List Int) : List Int := zs.flatMap (bytesL K)
theorem flatL_len (K : Nat) : ∀ zs, (flatL K zs).length = K * zs.length
  | [] => rfl
  | z :: t => by
    have := flatL_len K t
    unfold flatL at this ⊢
    rw [List.flatMap_cons, List.length_append, bytesL_len, this, List.length_cons, Nat.mul_add, Nat.mul_one]
    first | done | omega
theorem flatL_in (K : Nat) (zs : List Int) : isU8 (flatL K zs) := fun z hz => by
  obtain ⟨a, _, h⟩ := List.mem_flatMap.1 hz
  exact bytesL_in K a z h
theorem flatL_snoc (K : Nat) (zs : List Int) (z : Int) : flatL K (zs ++ [z]) = flatL K zs ++ bytesL K z := by simp [flatL, List.flatMap_append]
theorem flatL_win (K : Nat) : ∀ (zs : List Int) (i : Nat), i < zs.length → ((flatL K zs).drop (K * i)).take K = bytesL K (zs.getD i 0)
  | [], i, h => by simp at h
  | z :: t, 0, _ => by
    simp [flatL, List.flatMap_cons, List.take_append_of_le_length, bytesL_len]
    try rw [List.take_of_length_le (by rw [bytesL_len]; omega)]
  | z :: t, i + 1, h => by
    have ih := flatL_win K t i (by simpa using h)
    have e : flatL K (z :: t) = bytesL K z ++ flatL K t := by simp [flatL]
    rw [e, show K * (i + 1) = (bytesL K z).length + K * i by rw [bytesL_len, Nat.mul_add]; omega, List.drop_append]
    simp only [show (bytesL K z).length + K * i - (bytesL K z).length = K * i by omega]
    rw [List.drop_of_length_le (by omega), List.nil_append, ih]
    simp
/-- numbers that K bytes hold -/
def inK (K : Nat) (zs : List Int) : Prop := ∀ z ∈ zs, 0 ≤ z ∧ z < 256 ^ K
theorem inK_at {K : Nat} {zs : List Int} (h : inK K zs) {i : Nat} (hi : i < zs.length) : 0 ≤ zs.getD i 0 ∧ zs.getD i 0 < 256 ^ K := by
  have : zs.getD i 0 ∈ zs := by rw [List.getD_eq_getElem?_getD, List.getElem?_eq_getElem hi]; exact List.getElem_mem hi
  exact h _ this
theorem flatL_val {K : Nat} {zs : List Int} (h : inK K zs) {i : Nat} (hi : i < zs.length) : valL (((flatL K zs).drop (K * i)).take K) = zs.getD i 0 := by
  rw [flatL_win K zs i hi]
  exact valL_bytes K _ (inK_at h hi).1 (inK_at h hi).2
theorem mul_le_of {K i m : Nat} (h : i < m) : K * i + K ≤ K * m := by
  have := Nat.mul_le_mul_left K (Nat.succ_le_of_lt h)
  rw [Nat.succ_eq_add_one, Nat.mul_add, Nat.mul_one] at this
  exact this

set_option maxHeartbeats 1000000 in
theorem sameInts_any (w : World) (A1 A2 : Option Addr) (n c1 c2 B1 B2 : Nat) (zs : List Int) (h1 : Reads w B1 1 A1 n (zs.map (Value.int .i64))) (h2 : Reads w B2 1 A2 n (zs.map (Value.int .i64))) (hn : n ≤ 100000) :
    Calls Try.prog 20 #[.slice A1 n c1, .slice A2 n c2] w fun e w' => e = .returned (.bool true) ∧ ∃ q, w' = w.drewN q := by
  go_enter Try.func20, Try.ntmps20
  go_wp2
  go_loopw [5] (fun i wr => ∃ j q : Nat, j ≤ n ∧ i = .int .i64 j ∧ wr = w.drewN q) (fun i _ => n - (intOf i).toNat)
  case atStart => exact ⟨0, 0, by omega, rfl, rfl⟩
  case round =>
    obtain ⟨j, q, hj, rfl, rfl⟩ := hrel
    by_cases hlt : j < n
    · obtain ⟨a1, rfl, _, k1⟩ := i64_at h1 hlt
      obtain ⟨a2, rfl, _, k2⟩ := i64_at h2 hlt
      generalize zs.getD j 0 = z at *
      go_wp2
      go_quiet (fail)
      go_wp2
      go_roundw
      case rel => exact ⟨j + 1, q + nq, by omega, by go_num, by first | rfl | rw [World.drewN_drewN]⟩
      case measure => simp [intOf]; omega
    · go_wp2
      go_ret
      exact ⟨rfl, q, rfl⟩

theorem reads_far {w w' : World} {B size n g : Nat} {A : Option Addr} {xs : List Value} (h : Reads w B size A n xs) (hg : w.grownBy w' (some g)) (hB : B ≤ g) (hs : B ≤ w.heap.size) : Reads w' B size A n xs :=
  h.grown hg hs (fun j hj => by injection hj with hj; omega)

theorem grown_own {w w1 w2 w3 : World} {g : Nat} {V : Value} (h : w.grownBy w1 (some g)) (ha : w1.grownBy w2 none) (h2 : w2.grownBy w3 V.ownBlock) (hV : ∀ b, V.ownBlock = some b → w.heap.size ≤ b) : w.grownBy w3 (some g) :=
  ⟨h2.os.trans (ha.os.trans h.os), h2.tape.trans (ha.tape.trans h.tape), h2.output.trans (ha.output.trans h.output), Nat.le_trans h.size (Nat.le_trans ha.size h2.size), fun j hj hne =>
    (h2.block j (Nat.lt_of_lt_of_le hj (Nat.le_trans h.size ha.size)) (fun e => by have := hV j e.symm; omega)).trans ((ha.block j (Nat.lt_of_lt_of_le hj h.size) (by simp)).trans (h.block j hj hne))⟩

set_option maxRecDepth 100000 in
set_option maxHeartbeats 2000000 in
theorem numbers_any {w : World} {g c K m B : Nat} {A : Option Addr} {zs : List Int} (h : Rd w g A (K * m) c 0 none) (hr : Reads w B 1 A (K * m) ((flatL K zs).map (Value.int .u8))) (hl : zs.length = m) (hin : inK K zs) (hg : B ≤ g) (hK : 1 ≤ K) (hK4 : K ≤ 4) (hm : m ≤ 200) (hc : K * m ≤ c) (hcm : c ≤ 9223372036854775807) :
    Calls Try.prog 21 #[.pointer (some ⟨g, 0, none⟩), .int .i64 m, .int .i64 K] w fun e w' => ∃ v, e = .returned v ∧ w'.ownsRow w.heap.size 3 1 v m (zs.map (Value.int .i64)) ∧ w.grownBy w' (some g) := by
  obtain ⟨i0, hi, hz0, hz1, hz2⟩ := info_parts intInfo
  have i1 : (1 : Int) ≤ (K : Int) := by omega
  have i2 : (K : Int) ≤ 4 := by omega
  have hgl := h.lt
  have HL := Lib.hid hl
  have hKm : K * m ≤ 800 := Nat.le_trans (Nat.mul_le_mul hK4 hm) (by omega)
  have hdiv : ((K * m : Nat) : Int) / (K : Int) = (m : Int) := by
    rw [Int.natCast_mul]
    exact Int.mul_ediv_cancel_left _ (by omega)
  go_enter Try.func21, Try.ntmps21
  go_wp2_with fail
  refine (left_ok (p := 0) h (by omega) (by omega)).mono ?_
  rintro e w1 ⟨rfl, q, rfl⟩
  have h1 := h.drewN q
  have hr1 := hr.drewN q
  have hg1 := grown_drewN (w := w) q (some g)
  have hs1 : (w.drewN q).heap.size = w.heap.size := rfl
  generalize hN : K * m = N at *
  have HN := Lib.hid hN
  clear hN
  generalize w.drewN q = W at *
  have hBw : B ≤ w.heap.size := by omega
  go_wp2
  go_loopw [7, 33] (fun v i wr => ∃ j : Nat, j ≤ m ∧ i = .int .i64 j ∧ Rd wr g A N c ((K * j : Nat) : Int) none ∧ wr.ownsRow w.heap.size 3 1 v j ((zs.take j).map (Value.int .i64)) ∧ w.grownBy wr (some g)) (fun _ i _ => m - (intOf i).toNat)
  case atStart => exact ⟨0, by omega, rfl, h1, World.ownsRow_nil _ _ _ _, hg1⟩
  case round =>
    clear h1 hr1 hg1 hs1 h hdiv
    obtain ⟨j, hj, rfl, hR, hown, hgr⟩ := hrel
    by_cases hlt : j < m
    · have hle := mul_le_of (K := K) hlt
      rw [HN.out] at hle
      have hr2 := reads_far hr hgr hg hBw
      have hv := flatL_val hin (i := j) (by rw [HL.out]; exact hlt)
      have ht := take_snocI zs j (by rw [HL.out]; exact hlt)
      have hnum := number_ok (p := K * j) (m := K) hR hr2 (flatL_in K zs) hg hK hK4 hle hc hcm
      rw [hv] at hnum
      have hne : ∀ b, u7.ownBlock = some b → w.heap.size ≤ b := fun b hb => (hown.lt b hb).1
      have hne2 : some g ≠ u7.ownBlock := fun e => by have := hne g e.symm; omega
      have HT := Lib.hid ht
      have HNUM := Lib.hid hnum
      clear hv ht hnum hr2 hR
      generalize zs.getD j 0 = z at *
      go_wp2_with fail
      refine HNUM.out.mono ?_
      rintro e w2 ⟨rfl, hR2, hg2⟩
      have hown2 := hown.kept hg2 (.inr (fun e => hne2 e.symm))
      have hgr2 := grown_trans hgr hg2
      have hs2 := hgr2.size
      clear hown hg2
      go_wp2_with (first
        | (at_builtin; refine wpList_append_own _ rfl _ _ 28 rfl w.heap.size 3 i0 (.int .i64 0) 1 8 Try.underlying28 hi hz0 hz1 hz2 rfl (by decide) _ j _ rfl (hown2.alloc _) ⟨w2.heap.size, 0, none⟩ 1 1 [.int .i64 z] rfl rfl (World.news_of_block (cs := #[.int .i64 z]) (t := 3) (fr := (0, 0)) (heap_alloc_new w2 _)) (by simp [Value.oneCell']) (by unfold maxLen; omega) (by omega) (by simp; omega) ?_)
        | go_in)
      intro v' w3 hown' hgrow _
      have hR3 : Rd w3 g A N c ((K * j + K : Nat) : Int) none := Blk.grown (Blk.alloc hR2 _) hgrow hne2
      have hgr3 : w.grownBy w3 (some g) := grown_own hgr2 (World.grownBy_alloc w2 _ none) hgrow hne
      clear hgrow hown2 hR2 hgr2
      go_wp2
      go_roundw
      case rel => exact ⟨j + 1, by omega, by go_num, by rw [show K * (j + 1) = K * j + K by rw [Nat.mul_add, Nat.mul_one]]; exact hR3, by rw [HT.out]; simpa using hown', hgr3⟩
      case measure => simp [intOf]; omega
    · obtain rfl : j = m := by omega
      have ht : zs.take j = zs := by rw [List.take_of_length_le (by rw [HL.out]; exact Nat.le_refl _)]
      rw [ht] at hown
      go_wp2
      go_ret
      exact ⟨_, rfl, hown, hgr⟩

end Go.Proofs.Ytpfojhmaeaeecaa
