/- Contracts of layer 27: squealref27.Find: the walk findR_non. -/
import Derived.Test.YtckgmnlmimogjaaNorm5
import Derived.Test.YtckgmnlmimogjaaNorm6
import Derived.Laws.StructEq
import Derived.Deep.RegionHeld3
import Derived.Deep.CutRange
namespace Go.Proofs.Ytckgmnlmimogjaa
open Go.RowKit
set_option linter.unusedVariables false

set_option maxRecDepth 100000 in
set_option maxHeartbeats 16000000 in
theorem findR_non (w : World) (A : Option Addr) (N c : Nat) (zs : List Int) (a : Nat) (p s1 s2 z o tol : Int) (hr : Reads w w.heap.size 1 A N (zs.map (Value.int .u32))) (hz : isU32 zs) (hN : N ≤ 5000) (hat : a < zs.length) (Hm : mayB p s1 s2 z o tol = true) (H256 : ¬ runN zs a p tol < 256) (Hs1 : nr zs (a + runN zs a p tol) s1 tol = true) (Hs2 : nr zs (a + runN zs a p tol + 1) s2 tol = true) (hst : stdB p s1 s2 z o = false) :
    Calls Try.prog 10 #[.slice A N c, .int .i64 a, .agg #[.int .i64 p, .int .i64 s1, .int .i64 s2, .int .i64 z, .int .i64 o], .int .i64 tol] w fun e w' => Below w.heap.size w w' ∧ Found w w' e zs a p s1 s2 z o tol := by
  obtain ⟨i0, hi, hz0, hz1, hz2⟩ := info_parts u8Info'
  have hl := reads_len hr
  have hb0 : Below w.heap.size w ((w.alloc (.cells #[.int .i64 p, .int .i64 s1, .int .i64 s2, .int .i64 z, .int .i64 o] 25)).alloc (.cells #[.int .i64 0, .int .i64 0, .int .i64 0, .int .i64 0, .int .i64 0, .int .i64 0, .int .i64 0, .int .i64 0, .int .i64 0, .int .i64 0, .int .i64 0, .int .i64 0, .slice none 0 0, .slice none 0 0, .slice none 0 0, .slice none 0 0, .slice none 0 0, .slice none 0 0] 33)) := ((Below.refl _ _).alloc (Nat.le_refl _) _).alloc (by simp) _
  have hT0 : Blk ((w.alloc (.cells #[.int .i64 p, .int .i64 s1, .int .i64 s2, .int .i64 z, .int .i64 o] 25)).alloc (.cells #[.int .i64 0, .int .i64 0, .int .i64 0, .int .i64 0, .int .i64 0, .int .i64 0, .int .i64 0, .int .i64 0, .int .i64 0, .int .i64 0, .int .i64 0, .int .i64 0, .slice none 0 0, .slice none 0 0, .slice none 0 0, .slice none 0 0, .slice none 0 0, .slice none 0 0] 33)) w.heap.size 25 #[.int .i64 p, .int .i64 s1, .int .i64 s2, .int .i64 z, .int .i64 o] := Blk.alloc (Blk.new w _ _) _
  have hR0 : Blk ((w.alloc (.cells #[.int .i64 p, .int .i64 s1, .int .i64 s2, .int .i64 z, .int .i64 o] 25)).alloc (.cells #[.int .i64 0, .int .i64 0, .int .i64 0, .int .i64 0, .int .i64 0, .int .i64 0, .int .i64 0, .int .i64 0, .int .i64 0, .int .i64 0, .int .i64 0, .int .i64 0, .slice none 0 0, .slice none 0 0, .slice none 0 0, .slice none 0 0, .slice none 0 0, .slice none 0 0] 33)) (w.heap.size + 1) 33 #[.int .i64 0, .int .i64 0, .int .i64 0, .int .i64 0, .int .i64 0, .int .i64 0, .int .i64 0, .int .i64 0, .int .i64 0, .int .i64 0, .int .i64 0, .int .i64 0, .slice none 0 0, .slice none 0 0, .slice none 0 0, .slice none 0 0, .slice none 0 0, .slice none 0 0] := by
    have := Blk.new (w.alloc (.cells #[.int .i64 p, .int .i64 s1, .int .i64 s2, .int .i64 z, .int .i64 o] 25)) 33 #[.int .i64 0, .int .i64 0, .int .i64 0, .int .i64 0, .int .i64 0, .int .i64 0, .int .i64 0, .int .i64 0, .int .i64 0, .int .i64 0, .int .i64 0, .int .i64 0, .slice none 0 0, .slice none 0 0, .slice none 0 0, .slice none 0 0, .slice none 0 0, .slice none 0 0]
    simpa using this
  have hge : ¬ N ≤ a := by omega
  have ha0 : (0 : Int) ≤ (a : Int) := Int.natCast_nonneg _
  have hgI : ¬ (N : Int) ≤ (a : Int) := by omega
  have ht0 : (w.alloc (.cells #[.int .i64 p, .int .i64 s1, .int .i64 s2, .int .i64 z, .int .i64 o] 25)).heap.size = w.heap.size + 1 := by simp
  go_enter Try.func10, Try.ntmps10
  obtain ⟨⟨p0, p1⟩, ⟨s10, s11⟩, ⟨s20, s21⟩, ⟨z0, z1⟩, ⟨o0, o1⟩, ⟨t0, t1⟩⟩ := may_in Hm
  have tolN0 : ¬ tol < 0 := by omega
  have tolN1 : ¬ (65535 : Int) < tol := by omega
  have pN0 : ¬ p < 0 := by omega
  have pN1 : ¬ (65535 : Int) < p := by omega
  have s1N0 : ¬ s1 < 0 := by omega
  have s1N1 : ¬ (65535 : Int) < s1 := by omega
  have s2N0 : ¬ s2 < 0 := by omega
  have s2N1 : ¬ (65535 : Int) < s2 := by omega
  have zN0 : ¬ z < 0 := by omega
  have zN1 : ¬ (65535 : Int) < z := by omega
  have oN0 : ¬ o < 0 := by omega
  have oN1 : ¬ (65535 : Int) < o := by omega
  have hmN : a + runN zs a p tol ≤ N := by rw [← hl]; exact runN_in (by omega)
  obtain ⟨m, hme⟩ : ∃ m, m = runN zs a p tol := ⟨_, rfl⟩
  have HNR := Lib.hid (show ∀ (w' : World) (q : Nat) (n : Int), Below w.heap.size w w' → q ≤ 100000 → 0 ≤ n → n ≤ 65535 → Calls Try.prog 25 #[.slice A N c, .int .i64 q, .int .i64 n, .int .i64 tol] w' fun e w'' => e = .returned (.bool (nr zs q n tol)) ∧ w' = w'' from fun w' q n hb hq h0 h1 => nearR_any (hr.below hb) hz hN hq t0 t1 h0 h1)
  have HAT := Lib.hid (fun j (hj : j ≤ runN zs a p tol) => runN_at hj)
  rw [← hme] at hmN HAT
  have HM := Lib.hid hme
  have HR := Lib.hid hr
  have HZ := Lib.hid hz
  clear hme hr hz
  have kc0 : ((w.alloc (.cells #[.int .i64 p, .int .i64 s1, .int .i64 s2, .int .i64 z, .int .i64 o] 25)).alloc (.cells #[.int .i64 0, .int .i64 0, .int .i64 0, .int .i64 0, .int .i64 0, .int .i64 0, .int .i64 0, .int .i64 0, .int .i64 0, .int .i64 0, .int .i64 0, .int .i64 0, .slice none 0 0, .slice none 0 0, .slice none 0 0, .slice none 0 0, .slice none 0 0, .slice none 0 0] 33)).cell? ⟨w.heap.size, 0, none⟩ = some (.int .i64 p) := (hT0.cell 0).trans rfl
  have kc1 : ((w.alloc (.cells #[.int .i64 p, .int .i64 s1, .int .i64 s2, .int .i64 z, .int .i64 o] 25)).alloc (.cells #[.int .i64 0, .int .i64 0, .int .i64 0, .int .i64 0, .int .i64 0, .int .i64 0, .int .i64 0, .int .i64 0, .int .i64 0, .int .i64 0, .int .i64 0, .int .i64 0, .slice none 0 0, .slice none 0 0, .slice none 0 0, .slice none 0 0, .slice none 0 0, .slice none 0 0] 33)).cell? ⟨w.heap.size, 1, none⟩ = some (.int .i64 s1) := (hT0.cell 1).trans rfl
  have kc2 : ((w.alloc (.cells #[.int .i64 p, .int .i64 s1, .int .i64 s2, .int .i64 z, .int .i64 o] 25)).alloc (.cells #[.int .i64 0, .int .i64 0, .int .i64 0, .int .i64 0, .int .i64 0, .int .i64 0, .int .i64 0, .int .i64 0, .int .i64 0, .int .i64 0, .int .i64 0, .int .i64 0, .slice none 0 0, .slice none 0 0, .slice none 0 0, .slice none 0 0, .slice none 0 0, .slice none 0 0] 33)).cell? ⟨w.heap.size, 2, none⟩ = some (.int .i64 s2) := (hT0.cell 2).trans rfl
  have kc3 : ((w.alloc (.cells #[.int .i64 p, .int .i64 s1, .int .i64 s2, .int .i64 z, .int .i64 o] 25)).alloc (.cells #[.int .i64 0, .int .i64 0, .int .i64 0, .int .i64 0, .int .i64 0, .int .i64 0, .int .i64 0, .int .i64 0, .int .i64 0, .int .i64 0, .int .i64 0, .int .i64 0, .slice none 0 0, .slice none 0 0, .slice none 0 0, .slice none 0 0, .slice none 0 0, .slice none 0 0] 33)).cell? ⟨w.heap.size, 3, none⟩ = some (.int .i64 z) := (hT0.cell 3).trans rfl
  have kc4 : ((w.alloc (.cells #[.int .i64 p, .int .i64 s1, .int .i64 s2, .int .i64 z, .int .i64 o] 25)).alloc (.cells #[.int .i64 0, .int .i64 0, .int .i64 0, .int .i64 0, .int .i64 0, .int .i64 0, .int .i64 0, .int .i64 0, .int .i64 0, .int .i64 0, .int .i64 0, .int .i64 0, .slice none 0 0, .slice none 0 0, .slice none 0 0, .slice none 0 0, .slice none 0 0, .slice none 0 0] 33)).cell? ⟨w.heap.size, 4, none⟩ = some (.int .i64 o) := (hT0.cell 4).trans rfl
  go_wp2_with fail
  generalize ((w.alloc (.cells #[.int .i64 p, .int .i64 s1, .int .i64 s2, .int .i64 z, .int .i64 o] 25)).alloc (.cells #[.int .i64 0, .int .i64 0, .int .i64 0, .int .i64 0, .int .i64 0, .int .i64 0, .int .i64 0, .int .i64 0, .int .i64 0, .int .i64 0, .int .i64 0, .int .i64 0, .slice none 0 0, .slice none 0 0, .slice none 0 0, .slice none 0 0, .slice none 0 0, .slice none 0 0] 33)) = W1 at *
  have hgW := hR0.lt
  go_loop [11] (fun x => ∃ j : Nat, j ≤ m ∧ x = .int .i64 j) (fun x => m + 1 - (intOf x).toNat)
  case atStart => exact ⟨0, by omega, rfl⟩
  case round =>
    obtain ⟨j, hj, rfl⟩ := hrel
    obtain ⟨aj, haj⟩ : ∃ aj, aj = a + j := ⟨_, rfl⟩
    have hw : IntKind.i64.wrap ((a : Int) + (j : Int)) = (aj : Int) := by rw [IntKind.wrap_i64]; omega
    have hnear := HNR.out W1 aj p hb0 (by omega) p0 p1
    rw [haj, HAT.out j hj, ← haj] at hnear
    have HAJ := Lib.hid haj
    clear haj
    by_cases hlt : j < m
    · have hd : decide (j < m) = true := by simp [hlt]
      rw [hd] at hnear
      have hw2 : IntKind.i64.wrap ((j : Int) + 1) = (j : Int) + 1 := by rw [IntKind.wrap_i64]; omega
      go_wp2_with fail
      refine hnear.mono ?_
      rintro e w' ⟨rfl, rfl⟩
      go_wp2
      go_round
      case rel => exact ⟨j + 1, by omega, by go_num⟩
      case measure => simp [intOf]; omega
    · obtain rfl : j = m := by omega
      have hd : decide (j < j) = false := by simp
      rw [hd] at hnear
      go_wp2_with fail
      refine hnear.mono ?_
      rintro e w' ⟨rfl, rfl⟩
      clear hnear hd hj hlt HAT
      have hqN : aj ≤ N := by have := HAJ.out; omega
      have hj3 : j ≤ 5000 := by have := HAJ.out; omega
      have h256 : ¬ j < 256 := by rw [HM.out]; exact H256
      have hjI : ¬ (j : Int) < 256 := by omega
      have hq1 := HNR.out W1 aj s1 hb0 (by omega) s10 s11
      have HNX := Lib.hid (fnd_k (zs := zs) (p := p) (s1 := s1) (s2 := s2) (z := z) (o := o) (tol := tol) hat Hm (m := j) (q := aj) HM.out HAJ.out h256)
      obtain ⟨a1, ha1⟩ : ∃ a1, a1 = aj + 1 := ⟨_, rfl⟩
      have hwa1 : IntKind.i64.wrap ((aj : Int) + 1) = (a1 : Int) := by rw [IntKind.wrap_i64]; omega
      have hq2 := HNR.out W1 a1 s2 hb0 (by omega) s20 s21
      have HA1 := Lib.hid ha1
      clear ha1
      have hs1 : nr zs aj s1 tol = true := by rw [HAJ.out, HM.out]; exact Hs1
      have hs2 : nr zs a1 s2 tol = true := by rw [HA1.out, HAJ.out, HM.out]; exact Hs2
      rw [hs1] at hq1
      rw [hs2] at hq2
      have hlt1 : a1 < N := by rw [← hl]; exact nr_lt hs2
      obtain ⟨q, hq⟩ : ∃ q, q = a1 + 1 := ⟨_, rfl⟩
      have hwq : IntKind.i64.wrap ((aj : Int) + 2) = (q : Int) := by rw [IntKind.wrap_i64]; have := HA1.out; omega
      have hbt := bitsR_any W1 A N c zs q p s1 s2 z o tol ((HR.out.below hb0).more hb0.size) HZ.out hN (by omega) t0 t1 z0 z1 o0 o1
      have HNY := Lib.hid (show fnd zs (a : Int) p s1 s2 z o tol = _ from HNX.out.trans (if_neg (by rw [hs1, ← HA1.out, hs2]; simp)))
      have hbs : isBits (bitsN zs q z o tol) := bitsK_two _ _ _ _ _ _
      have hlen : q + 2 * (bitsN zs q z o tol).length ≤ N := by rw [← hl]; exact bitsK_len _ _ _ _ _ _ (by omega)
      rw [show aj + 2 = q by rw [hq, HA1.out]] at HNY
      have HQ := Lib.hid hq
      generalize bitsN zs q z o tol = bs at *
      clear hq hs1 hs2 HNX
      have kc0 : W1.cell? ⟨w.heap.size, 0, none⟩ = some (.int .i64 p) := (hT0.cell 0).trans rfl
      have kc1 : W1.cell? ⟨w.heap.size, 1, none⟩ = some (.int .i64 s1) := (hT0.cell 1).trans rfl
      have kc2 : W1.cell? ⟨w.heap.size, 2, none⟩ = some (.int .i64 s2) := (hT0.cell 2).trans rfl
      have kc3 : W1.cell? ⟨w.heap.size, 3, none⟩ = some (.int .i64 z) := (hT0.cell 3).trans rfl
      have kc4 : W1.cell? ⟨w.heap.size, 4, none⟩ = some (.int .i64 o) := (hT0.cell 4).trans rfl
      go_wp2_with fail
      refine hq1.mono ?_
      rintro e w' ⟨rfl, rfl⟩
      go_wp2_with fail
      refine hq2.mono ?_
      rintro e w' ⟨rfl, rfl⟩
      clear hq1 hq2
      go_wp2_with fail
      refine hbt.mono ?_
      rintro e w2 ⟨LV, rfl, ownL, hb2⟩
      clear hbt
      have hT2 := hT0.below hb2 (by omega)
      have hR2 := hR0.below hb2 (by omega)
      have hbl2 := bthen hb0 hb2
      have hg2 := hR2.lt
      obtain ⟨LA, lc, rfl⟩ := own_slice ownL
      clear hb2 hT0 hR0 kc0 kc1 kc2 kc3 kc4 hw hb0
      have HBS := Lib.hid hbs
      clear hbs
      have hbl5 : bs.length ≤ 5000 := by omega
      go_wp2_with fail
      go_loopw [14, 15] (fun x y wr => ∃ k : Nat, 8 * k ≤ bs.length ∧ y = .int .i64 ((8 * k : Nat) : Int) ∧ wr.ownsRow w2.heap.size 5 1 x k ((bytesB bs k).map (Value.int .u8)) ∧ Below w2.heap.size w2 wr) (fun _ y _ => bs.length + 8 - (intOf y).toNat)
      case atStart => exact ⟨0, by omega, rfl, World.ownsRow_nil _ _ _ _, Below.refl _ _⟩
      case round =>
        obtain ⟨k, hk, rfl, hown, hbl⟩ := hrel
        obtain ⟨k8, hk8⟩ : ∃ k8, k8 = 8 * k := ⟨_, rfl⟩
        rw [← hk8] at hk ⊢
        have hwk : IntKind.i64.wrap ((k8 : Int) + 8) = (k8 : Int) + 8 := by rw [IntKind.wrap_i64]; omega
        have HK8 := Lib.hid hk8
        clear hk8
        have ownL2 := own_kept ownL hbl
        by_cases hlt : k8 + 8 ≤ bs.length
        · have hltI : (k8 : Int) + 8 ≤ (bs.length : Int) := by omega
          have hrdL := (Reads.of_own ownL2)
          have HRL := Lib.hid (And.intro hrdL (And.intro hown hbl))
          clear hown hbl ownL2 hrdL
          go_wp2_with fail
          go_loop [16, 17] (fun x y => ∃ i : Nat, i ≤ 8 ∧ y = .int .i64 i ∧ x = .int .i64 (valB bs k8 i)) (fun _ y => 9 - (intOf y).toNat)
          case atStart => exact ⟨0, by omega, rfl, rfl⟩
          case round =>
            obtain ⟨i, hi8, rfl, rfl⟩ := hrel
            by_cases hi9 : i < 8
            · have hiI : (i : Int) < 8 := by omega
              obtain ⟨ki, hki⟩ : ∃ ki, ki = k8 + i := ⟨_, rfl⟩
              have hwi : IntKind.i64.wrap ((k8 : Int) + (i : Int)) = (ki : Int) := by rw [IntKind.wrap_i64]; omega
              obtain ⟨ad, hla, hab, hcl⟩ := i32_at HRL.out.1 (k := ki) (by omega)
              subst hla
              have hkiI : (ki : Int) < (bs.length : Int) := by omega
              have hki0 : (0 : Int) ≤ (ki : Int) := Int.natCast_nonneg _
              have hvb := valB_in HBS.out k8 i
              have hbt := isBits_at HBS.out ki
              have hpow : (2 : Int) ^ i ≤ 128 := by
                have : (2 : Int) ^ i ≤ 2 ^ 7 := by
                  have h := Nat.pow_le_pow_right (n := 2) (by omega) (show i ≤ 7 by omega)
                  exact_mod_cast h
                omega
              have HVS := Lib.hid (show valB bs k8 (i + 1) = 2 * valB bs k8 i + bs.getD ki 0 by rw [hki]; rfl)
              generalize valB bs k8 i = Cc at *
              generalize bs.getD ki 0 = Bb at *
              have hw1 : IntKind.i64.wrap (2 * Cc) = 2 * Cc := by rw [IntKind.wrap_i64]; omega
              have hw3 : IntKind.i64.wrap (2 * Cc + Bb) = 2 * Cc + Bb := by rw [IntKind.wrap_i64]; omega
              clear hki
              go_wp2
              go_round
              case rel => exact ⟨i + 1, by omega, by go_num, by rw [HVS.out]⟩
              case measure => simp [intOf]; omega
            · obtain rfl : i = 8 := by omega
              have hvb := valB_in HBS.out k8 8
              obtain ⟨_, hown, hbl⟩ := HRL.out
              have HVS := Lib.hid (bytesB_succ bs k)
              rw [← HK8.out] at HVS
              generalize valB bs k8 8 = Cc at *
              have hw1 : IntKind.u8.wrap Cc = Cc := by rw [IntKind.wrap_u8]; omega
              have hkN : k ≤ 5000 := by have := HK8.out; omega
              have hwk9 : IntKind.i64.wrap ((k8 : Int) + 8) = ((8 * (k + 1) : Nat) : Int) := by rw [IntKind.wrap_i64]; have := HK8.out; omega
              have hszb := hbl.size
              go_wp2_with (first
                | (at_builtin; refine wpList_append_own _ rfl _ _ 27 rfl w2.heap.size 5 i0 (.int .u8 0) 1 1 Try.underlying27 hi hz0 hz1 hz2 rfl (by decide) _ _ _ rfl (hown.alloc _) ⟨wr.heap.size, 0, none⟩ 1 1 [.int .u8 Cc] rfl rfl (news_one wr _ _) ?c2 ?c3 ?c4 ?c5 ?_)
                | go_in)
              case c2 => first | rfl | (intro u hu; simp at hu; subst hu; rfl)
              case c3 => unfold maxLen; omega
              case c4 => omega
              case c5 => first | omega | (simp; omega)
              intro v' w3 own3 hgrow _
              have owna := hown.alloc (.cells #[.int .u8 Cc] 5)
              have hb3 := (hbl.alloc hbl.size (.cells #[.int .u8 Cc] 5)).grown hgrow (by simp; omega) (fun b hb => by have := (owna.lt b hb).1; omega)
              have HF := Lib.hid (And.intro own3 hb3)
              clear own3 hb3 owna hown hbl hgrow
              go_wp2
              go_roundw
              case rel =>
                obtain ⟨own3, hb3⟩ := HF.out
                refine ⟨k + 1, by have := HK8.out; omega, ?_, ?_, hb3⟩
                · have := HK8.out; first | go_num | (congr 1; omega)
                · rw [HVS.out, List.map_append]
                  exact own3
              case measure => simp [intOf]; omega
        · have hltI : ¬ (k8 : Int) + 8 ≤ (bs.length : Int) := by omega
          have hnb : bs.length / 8 = k := by have := HK8.out; omega
          have HU := Lib.hid (bytesB_u8 HBS.out k)
          have hdl := bytesB_len bs k
          have own4 := ownsRow_le' hown (base' := w.heap.size) hbl2.size
          have hT4 := hT2.below hbl (by omega)
          have hR4 := hR2.below hbl (by omega)
          have hb4 := bthen hbl2 hbl
          have HXX := Lib.hid (And.intro hnb (And.intro hT2 (And.intro hR2 (And.intro hbl2 ownL))))
          rw [hnb] at HNY
          clear hnb hT2 hR2 hbl2 ownL ownL2 hown hbl HK8
          obtain ⟨VA, vc, rfl⟩ := own_slice own4
          have hkN : k ≤ 5000 := by have := HXX.out.1; omega
          have hk16 : q + 16 * k ≤ N := by have := HXX.out.1; omega
          obtain ⟨q', hq'⟩ : ∃ q', q' = q + 16 * k := ⟨_, rfl⟩
          rw [← hq'] at HNY hk16
          have HQ' := Lib.hid hq'
          have hw5 : IntKind.i64.wrap (16 * (k : Int)) = 16 * (k : Int) := by rw [IntKind.wrap_i64]; omega
          have hw6 : IntKind.i64.wrap ((q : Int) + 16 * (k : Int)) = (q' : Int) := by rw [IntKind.wrap_i64]; omega
          clear hq'
          by_cases hk0 : k = 0
          · subst hk0
            have HN := Lib.hid (show fnd zs (a : Int) p s1 s2 z o tol = none from by rw [HNY.out, if_pos rfl])
            have HBL := Lib.hid hb4
            go_wp2_with (first
              | (refine wpList_store_box rfl 33 _ _ rfl (w.heap.size + 1) #[.int .i64 0, .int .i64 0, .int .i64 0, .int .i64 0, .int .i64 0, .int .i64 0, .int .i64 0, .int .i64 0, .int .i64 0, .int .i64 0, .int .i64 0, .int .i64 0, .slice none 0 0, .slice none 0 0, .slice none 0 0, .slice none 0 0, .slice none 0 0, .slice none 0 0] rfl rfl 33 #[.int .i64 0, .int .i64 0, .int .i64 0, .int .i64 0, .int .i64 0, .int .i64 0, .int .i64 0, .int .i64 0, .int .i64 0, .int .i64 0, .int .i64 0, .int .i64 0, .slice none 0 0, .slice none 0 0, .slice none 0 0, .slice none 0 0, .slice none 0 0, .slice none 0 0] hR4 blkInfo rfl (by simp [Value.oneCell']) ?_)
              | go_in)
            intro wz hRz hgz
            have hbz := HBL.out.grown hgz HBL.out.size (fun j hj => by injection hj with hj; omega)
            go_wp2
            refine bodyPost_ret (results_cell3 rfl _ _ (w.heap.size + 1) 33 #[.int .i64 0, .int .i64 0, .int .i64 0, .int .i64 0, .int .i64 0, .int .i64 0, .int .i64 0, .int .i64 0, .int .i64 0, .int .i64 0, .int .i64 0, .int .i64 0, .slice none 0 0, .slice none 0 0, .slice none 0 0, .slice none 0 0, .slice none 0 0, .slice none 0 0] (0, 0) _ rfl hRz Try.underlying33 rfl blkInfo) rfl ⟨hbz, .inl ⟨HN.out, rfl⟩⟩
          have hkI : ¬ (k : Int) = 0 := by omega
          have hkE : ((k : Int) == 0) = false := by simpa using hk0
          have hk3 : ¬ (65535 : Int) < (k : Int) := by omega
          have hk4 : ¬ (16777215 : Int) < (k : Int) := by omega
          have hm3 : ¬ (65535 : Int) < (j : Int) := by omega
          have HNZ := Lib.hid (HNY.out.trans (if_neg hk0))
          have hR4l := hR4.lt
          have hXa : Blk (wr.alloc (.cells #[.int .i64 0, .int .i64 0, .int .i64 0, .int .i64 0, .int .i64 0, .int .i64 0, .int .i64 0, .int .i64 0, .int .i64 0, .int .i64 0, .int .i64 0, .int .i64 0, .slice none 0 0, .slice none 0 0, .slice none 0 0, .slice none 0 0, .slice none 0 0, .slice none 0 0] 33)) wr.heap.size 33 #[.int .i64 0, .int .i64 0, .int .i64 0, .int .i64 0, .int .i64 0, .int .i64 0, .int .i64 0, .int .i64 0, .int .i64 0, .int .i64 0, .int .i64 0, .int .i64 0, .slice none 0 0, .slice none 0 0, .slice none 0 0, .slice none 0 0, .slice none 0 0, .slice none 0 0] := Blk.new wr _ _
          have H4 := Lib.hid (And.intro hT4 (And.intro hR4 (And.intro hb4 own4)))
          clear hT4 hR4 hb4 own4
          go_wp2_with (first
            | (refine wpList_store_box rfl 33 _ _ rfl (wr.heap.size) #[.int .i64 16, .int .i64 0, .int .i64 0, .int .i64 0, .int .i64 0, .int .i64 0, .int .i64 0, .int .i64 0, .int .i64 0, .int .i64 0, .int .i64 0, .int .i64 0, .slice VA k vc, .slice none 0 0, .slice none 0 0, .slice none 0 0, .slice none 0 0, .slice none 0 0] rfl rfl 33 #[.int .i64 0, .int .i64 0, .int .i64 0, .int .i64 0, .int .i64 0, .int .i64 0, .int .i64 0, .int .i64 0, .int .i64 0, .int .i64 0, .int .i64 0, .int .i64 0, .slice none 0 0, .slice none 0 0, .slice none 0 0, .slice none 0 0, .slice none 0 0, .slice none 0 0] hXa blkInfo rfl (by simp [Value.oneCell']) ?_)
            | go_in)
          intro W7 hX7 hg7
          obtain ⟨hT4, hR4, hb4, own4⟩ := H4.out
          have hg47 := grown_trans (World.grownBy_alloc wr (.cells #[.int .i64 0, .int .i64 0, .int .i64 0, .int .i64 0, .int .i64 0, .int .i64 0, .int .i64 0, .int .i64 0, .int .i64 0, .int .i64 0, .int .i64 0, .int .i64 0, .slice none 0 0, .slice none 0 0, .slice none 0 0, .slice none 0 0, .slice none 0 0, .slice none 0 0] 33) (some wr.heap.size)) hg7
          have hh7 := hX7.lt
          have hT7 := hT4.grown hg47 (fun e => by injection e with e; omega)
          have hR7 := hR4.grown hg47 (fun e => by injection e with e; omega)
          have own7 := own4.kept hg47 (own_far own4)
          have hb7 := hb4.grown hg47 hb4.size (fun j hj => by injection hj with hj; have := hb4.size; omega)
          clear hXa hg7 hg47 hT4 hR4 hb4 own4 H4
          have kc0 : W7.cell? ⟨w.heap.size, 0, none⟩ = some (.int .i64 p) := (hT7.cell 0).trans rfl
          have kc1 : W7.cell? ⟨w.heap.size, 1, none⟩ = some (.int .i64 s1) := (hT7.cell 1).trans rfl
          have kc2 : W7.cell? ⟨w.heap.size, 2, none⟩ = some (.int .i64 s2) := (hT7.cell 2).trans rfl
          have kc3 : W7.cell? ⟨w.heap.size, 3, none⟩ = some (.int .i64 z) := (hT7.cell 3).trans rfl
          have kc4 : W7.cell? ⟨w.heap.size, 4, none⟩ = some (.int .i64 o) := (hT7.cell 4).trans rfl
          go_wp2_with fail
          generalize wr.heap.size = h at *
          have heq := fun w' => eq5R w' p s1 s2 z o
          rw [hst] at heq
          refine wp_region_held_drew (S := fun w' => w'.cell? ⟨w.heap.size, 0, none⟩ = some (.int .i64 p) ∧ w'.cell? ⟨w.heap.size, 1, none⟩ = some (.int .i64 s1) ∧ w'.cell? ⟨w.heap.size, 2, none⟩ = some (.int .i64 s2) ∧ w'.cell? ⟨w.heap.size, 3, none⟩ = some (.int .i64 z) ∧ w'.cell? ⟨w.heap.size, 4, none⟩ = some (.int .i64 o)) (by kernel_rfl) ?_ (fun hHeld => ?_)
          · exact ⟨kc0, kc1, kc2, kc3, kc4⟩
          refine wpAnyH_take (i := 0) (oi := _) (v := ?_) (by simp only [List.getElem?_toArray, List.getElem?_cons_succ, List.getElem?_cons_zero]; rfl) (by kernel_rfl) (by kernel_rfl) (by kernel_rfl) (by intro _ _ _ h; exact h) (Or.inl ⟨by rfl, ?_⟩) (by assumption) ?_
          rotate_left
          · intro w hSw
            try dsimp only at hSw
            obtain ⟨e0, e1, e2, e3, e4⟩ := hSw
            go_simp
            try with_reducible rfl
          try simp only [Act.put, List.setIfInBounds_toArray, List.set_cons_zero, List.set_cons_succ]
          refine wpAnyH_ready (rs := [1]) (by kernel_rfl) (by simp) ?_
          refine AllReadyH.cons (o := _) (by simp only [List.getElem?_toArray, List.getElem?_cons_succ, List.getElem?_cons_zero]; rfl) (fun K hK => ?_) AllReadyH.nil
          go_simp
          go_wp2_with fail
          refine (standardR_any _).mono ?_
          rintro e w8 ⟨rfl, hb8⟩
          have hb78 : Below W7.heap.size W7 w8 := (Below.refl _ _).drew.trans hb8
          have hT8 := hT7.below hb78 (by omega)
          have hR8 := hR7.below hb78 (by omega)
          have hX8 := hX7.below hb78 hh7
          have own8 := own_kept own7 hb78
          have hbl8 := bthen hb7 hb78
          clear hT7 hR7 hX7 own7 hb7 kc0 kc1 kc2 kc3 kc4 hb8 hb78
          have kc0 : w8.cell? ⟨w.heap.size, 0, none⟩ = some (.int .i64 p) := (hT8.cell 0).trans rfl
          have kc1 : w8.cell? ⟨w.heap.size, 1, none⟩ = some (.int .i64 s1) := (hT8.cell 1).trans rfl
          have kc2 : w8.cell? ⟨w.heap.size, 2, none⟩ = some (.int .i64 s2) := (hT8.cell 2).trans rfl
          have kc3 : w8.cell? ⟨w.heap.size, 3, none⟩ = some (.int .i64 z) := (hT8.cell 3).trans rfl
          have kc4 : w8.cell? ⟨w.heap.size, 4, none⟩ = some (.int .i64 o) := (hT8.cell 4).trans rfl
          refine hK.out _ _ ?_ (fun hHeld => ?_)
          · exact ⟨kc0, kc1, kc2, kc3, kc4⟩
          clear hK K
          try simp only [Act.put, List.setIfInBounds_toArray, List.set_cons_zero, List.set_cons_succ]
          refine wpAnyH_take (i := 2) (oi := _) (v := ?_) (by simp only [List.getElem?_toArray, List.getElem?_cons_succ, List.getElem?_cons_zero]; rfl) (by kernel_rfl) (by kernel_rfl) (by kernel_rfl) (by intro _ _ _ h; exact h) (Or.inl ⟨by rfl, ?_⟩) (by assumption) ?_
          rotate_left
          · intro w hSw
            try dsimp only at hSw
            obtain ⟨e0, e1, e2, e3, e4⟩ := hSw
            go_simp
            try with_reducible rfl
          try simp only [Act.put, List.setIfInBounds_toArray, List.set_cons_zero, List.set_cons_succ]
          refine wpAnyH_done (by kernel_rfl) ?_ _
          clear heq
          have hh8 := hX8.lt
          have hR8l := hR8.lt
          go_wp2_with (first
            | (refine wpList_store_box rfl 33 _ _ rfl (h) #[.int .i64 17, .int .i64 0, .int .i64 p, .int .i64 s1, .int .i64 s2, .int .i64 z, .int .i64 o, .int .i64 0, .int .i64 j, .int .i64 8, .int .i64 0, .int .i64 0, .slice VA k vc, .slice none 0 0, .slice none 0 0, .slice none 0 0, .slice none 0 0, .slice none 0 0] rfl rfl 33 #[.int .i64 16, .int .i64 0, .int .i64 0, .int .i64 0, .int .i64 0, .int .i64 0, .int .i64 0, .int .i64 0, .int .i64 0, .int .i64 0, .int .i64 0, .int .i64 0, .slice VA k vc, .slice none 0 0, .slice none 0 0, .slice none 0 0, .slice none 0 0, .slice none 0 0] hX8 blkInfo rfl (by simp [Value.oneCell']) ?_)
            | go_in)
          intro W9 hX9 hgx
          have own9 := own8.kept hgx (.inr (own_blk_ne own8 hX8 (by decide)))
          have hR9 := hR8.grown hgx (fun e => by injection e with e; omega)
          have hb9 := hbl8.grown hgx hbl8.size (fun j hj => by injection hj with hj; omega)
          clear hgx hX8 own8 hR8 hbl8 kc0 kc1 kc2 kc3 kc4
          have xc0 : W9.cell? ⟨h, 0, none⟩ = some (.int .i64 17) := (hX9.cell 0).trans rfl
          have xf0 : W9.frozen? ⟨h, 0, none⟩ = false := hX9.frozen 0
          have xc1 : W9.cell? ⟨h, 1, none⟩ = some (.int .i64 0) := (hX9.cell 1).trans rfl
          have xf1 : W9.frozen? ⟨h, 1, none⟩ = false := hX9.frozen 1
          have xc8 : W9.cell? ⟨h, 8, none⟩ = some (.int .i64 j) := (hX9.cell 8).trans rfl
          have xf8 : W9.frozen? ⟨h, 8, none⟩ = false := hX9.frozen 8
          have hr9 := HR.out.below hb9
          by_cases hq : q' < N
          · have hqI : (q' : Int) < (N : Int) := by omega
            have hq0 : (0 : Int) ≤ (q' : Int) := Int.natCast_nonneg _
            obtain ⟨ad, hAa, hab, hcl⟩ := i32_at hr9 hq
            subst hAa
            have hzi := isU32_at HZ.out (k := q') (by omega)
            by_cases h35 : 3500 < zs.getD q' 0
            · have HPA0 := Lib.hid (show pauN zs q' = if zs.getD q' 0 / 3500 < 65535 then zs.getD q' 0 / 3500 else 65535 from if_pos ⟨by omega, h35⟩)
              have HPE := Lib.hid (show pauE zs q' = q' + 1 from if_pos ⟨by omega, h35⟩)
              generalize zs.getD q' 0 = G at *
              have hww : IntKind.i64.wrap G = G := by rw [IntKind.wrap_i64]; omega
              have htd : G.tdiv 3500 = G / 3500 := Int.tdiv_eq_ediv_of_nonneg (by omega)
              have hwd : IntKind.i64.wrap (G / 3500) = G / 3500 := by rw [IntKind.wrap_i64]; omega
              have hwp : IntKind.i64.wrap ((q' : Int) + 1) = (q' : Int) + 1 := by rw [IntKind.wrap_i64]; omega
              obtain ⟨kk, hkk⟩ : ∃ kk, kk = q' + 1 - a := ⟨_, rfl⟩
              have hwk2 : IntKind.i64.wrap ((q' : Int) + 1 - (a : Int)) = (kk : Int) := by rw [IntKind.wrap_i64]; have := HQ'.out; have := HQ.out; have := HA1.out; have := HAJ.out; omega
              have HKK := Lib.hid hkk
              clear hkk
              have hX10 : Blk (W9.setCell ⟨h, 1, none⟩ (.int .i64 (G / 3500))) h 33 #[.int .i64 17, .int .i64 (G / 3500), .int .i64 p, .int .i64 s1, .int .i64 s2, .int .i64 z, .int .i64 o, .int .i64 0, .int .i64 j, .int .i64 8, .int .i64 0, .int .i64 0, .slice VA k vc, .slice none 0 0, .slice none 0 0, .slice none 0 0, .slice none 0 0, .slice none 0 0] := hX9.set_ 1 _
              have hg10 : W9.grownBy (W9.setCell ⟨h, 1, none⟩ (.int .i64 (G / 3500))) (some h) := grown_set _
              have own10 := own9.kept hg10 (.inr (own_blk_ne own9 hX9 (by decide)))
              have hR10 := hR9.grown hg10 (fun e => by injection e with e; omega)
              have hb10 := hb9.grown hg10 hb9.size (fun j hj => by injection hj with hj; omega)
              clear hX9 own9 hR9 hb9 hg10 hr9
              go_upto_region 30 with fail
              generalize (W9.setCell ⟨h, 1, none⟩ (.int .i64 (G / 3500))) = W10 at *
              clear xc0 xc1 xc8 xf0 xf1 xf8
              have x1 : W10.cell? ⟨h, 1, none⟩ = some (.int .i64 (G / 3500)) := (hX10.cell 1).trans rfl
              by_cases hbig : (65535 : Int) < G / 3500
              · have HPA := Lib.hid (show pauN zs q' = 65535 by rw [HPA0.out, if_neg (by omega)])
                have xf1 := hX10.frozen 1
                have hX11 : Blk (W10.setCell ⟨h, 1, none⟩ (.int .i64 65535)) h 33 #[.int .i64 17, .int .i64 65535, .int .i64 p, .int .i64 s1, .int .i64 s2, .int .i64 z, .int .i64 o, .int .i64 0, .int .i64 j, .int .i64 8, .int .i64 0, .int .i64 0, .slice VA k vc, .slice none 0 0, .slice none 0 0, .slice none 0 0, .slice none 0 0, .slice none 0 0] := hX10.set_ 1 _
                have hg11 : W10.grownBy (W10.setCell ⟨h, 1, none⟩ (.int .i64 65535)) (some h) := grown_set _
                have own11 := own10.kept hg11 (.inr (own_blk_ne own10 hX10 (by decide)))
                have hR11 := hR10.grown hg11 (fun e => by injection e with e; omega)
                have hb11 := hb10.grown hg11 hb10.size (fun j hj => by injection hj with hj; omega)
                clear hX10 own10 hR10 hb10 hg11
                go_upto_region 32 with fail
                generalize (W10.setCell ⟨h, 1, none⟩ (.int .i64 65535)) = W11 at *
                clear x1 xf1
                have HHH := Lib.hid (And.intro hR11 (And.intro hb11 own11))
                clear own11 hR11 hb11
                go_wp2_with (first
                  | (refine wpList_load_box rfl 33 _ rfl (h) rfl 33 #[.int .i64 17, .int .i64 65535, .int .i64 p, .int .i64 s1, .int .i64 s2, .int .i64 z, .int .i64 o, .int .i64 0, .int .i64 j, .int .i64 8, .int .i64 0, .int .i64 0, .slice VA k vc, .slice none 0 0, .slice none 0 0, .slice none 0 0, .slice none 0 0, .slice none 0 0] hX11 _ Try.underlying33 rfl blkInfo ?_)
                  | go_in)
                intro _
                clear hX11
                obtain ⟨hRf, hbf, ownf⟩ := HHH.out
                go_wp2_with (first
                  | (refine wpList_store_box rfl 33 _ _ rfl (w.heap.size + 1) #[.int .i64 17, .int .i64 65535, .int .i64 p, .int .i64 s1, .int .i64 s2, .int .i64 z, .int .i64 o, .int .i64 0, .int .i64 j, .int .i64 8, .int .i64 0, .int .i64 0, .slice VA k vc, .slice none 0 0, .slice none 0 0, .slice none 0 0, .slice none 0 0, .slice none 0 0] rfl rfl 33 #[.int .i64 0, .int .i64 0, .int .i64 0, .int .i64 0, .int .i64 0, .int .i64 0, .int .i64 0, .int .i64 0, .int .i64 0, .int .i64 0, .int .i64 0, .int .i64 0, .slice none 0 0, .slice none 0 0, .slice none 0 0, .slice none 0 0, .slice none 0 0, .slice none 0 0] hRf blkInfo rfl (by simp [Value.oneCell']) ?_)
                  | go_in)
                intro wz hRz hgz
                have HE := Lib.hid (And.intro hRz (And.intro (hbf.grown hgz hbf.size (fun j hj => by injection hj with hj; omega)) (ownf.kept hgz (.inr (own_blk_ne ownf hRf (by decide))))))
                clear hgz hRf hbf ownf
                go_wp2
                refine bodyPost_ret (results_cell3 rfl _ _ (w.heap.size + 1) 33 #[.int .i64 17, .int .i64 65535, .int .i64 p, .int .i64 s1, .int .i64 s2, .int .i64 z, .int .i64 o, .int .i64 0, .int .i64 j, .int .i64 8, .int .i64 0, .int .i64 0, .slice VA k vc, .slice none 0 0, .slice none 0 0, .slice none 0 0, .slice none 0 0, .slice none 0 0] (0, 0) _ rfl HE.out.1 Try.underlying33 rfl blkInfo) rfl ⟨HE.out.2.1, .inr ⟨bytesB bs k, j, 65535, kk, .slice VA k vc, ?_, ?_, ?_, HU.out⟩⟩
                · rw [HNZ.out, HPA.out, HPE.out, HKK.out]
                · rw [hst]; rfl
                · rw [hdl]; exact HE.out.2.2
              · have HPA := Lib.hid (show pauN zs q' = G / 3500 by rw [HPA0.out]; split <;> omega)
                have HHH := Lib.hid (And.intro hR10 (And.intro hb10 own10))
                clear own10 hR10 hb10
                go_wp2_with (first
                  | (refine wpList_load_box rfl 33 _ rfl (h) rfl 33 #[.int .i64 17, .int .i64 (G / 3500), .int .i64 p, .int .i64 s1, .int .i64 s2, .int .i64 z, .int .i64 o, .int .i64 0, .int .i64 j, .int .i64 8, .int .i64 0, .int .i64 0, .slice VA k vc, .slice none 0 0, .slice none 0 0, .slice none 0 0, .slice none 0 0, .slice none 0 0] hX10 _ Try.underlying33 rfl blkInfo ?_)
                  | go_in)
                intro _
                clear hX10
                obtain ⟨hRf, hbf, ownf⟩ := HHH.out
                go_wp2_with (first
                  | (refine wpList_store_box rfl 33 _ _ rfl (w.heap.size + 1) #[.int .i64 17, .int .i64 (G / 3500), .int .i64 p, .int .i64 s1, .int .i64 s2, .int .i64 z, .int .i64 o, .int .i64 0, .int .i64 j, .int .i64 8, .int .i64 0, .int .i64 0, .slice VA k vc, .slice none 0 0, .slice none 0 0, .slice none 0 0, .slice none 0 0, .slice none 0 0] rfl rfl 33 #[.int .i64 0, .int .i64 0, .int .i64 0, .int .i64 0, .int .i64 0, .int .i64 0, .int .i64 0, .int .i64 0, .int .i64 0, .int .i64 0, .int .i64 0, .int .i64 0, .slice none 0 0, .slice none 0 0, .slice none 0 0, .slice none 0 0, .slice none 0 0, .slice none 0 0] hRf blkInfo rfl (by simp [Value.oneCell']) ?_)
                  | go_in)
                intro wz hRz hgz
                have HE := Lib.hid (And.intro hRz (And.intro (hbf.grown hgz hbf.size (fun j hj => by injection hj with hj; omega)) (ownf.kept hgz (.inr (own_blk_ne ownf hRf (by decide))))))
                clear hgz hRf hbf ownf
                go_wp2
                refine bodyPost_ret (results_cell3 rfl _ _ (w.heap.size + 1) 33 #[.int .i64 17, .int .i64 (G / 3500), .int .i64 p, .int .i64 s1, .int .i64 s2, .int .i64 z, .int .i64 o, .int .i64 0, .int .i64 j, .int .i64 8, .int .i64 0, .int .i64 0, .slice VA k vc, .slice none 0 0, .slice none 0 0, .slice none 0 0, .slice none 0 0, .slice none 0 0] (0, 0) _ rfl HE.out.1 Try.underlying33 rfl blkInfo) rfl ⟨HE.out.2.1, .inr ⟨bytesB bs k, j, (G / 3500), kk, .slice VA k vc, ?_, ?_, ?_, HU.out⟩⟩
                · rw [HNZ.out, HPA.out, HPE.out, HKK.out]
                · rw [hst]; rfl
                · rw [hdl]; exact HE.out.2.2
            · have HPA := Lib.hid (show pauN zs q' = 0 from if_neg (fun e => h35 e.2))
              have HPE := Lib.hid (show pauE zs q' = q' from if_neg (fun e => h35 e.2))
              generalize zs.getD q' 0 = G at *
              obtain ⟨kk, hkk⟩ : ∃ kk, kk = q' - a := ⟨_, rfl⟩
              have hwk2 : IntKind.i64.wrap ((q' : Int) - (a : Int)) = (kk : Int) := by rw [IntKind.wrap_i64]; have := HQ'.out; have := HQ.out; have := HA1.out; have := HAJ.out; omega
              have HKK := Lib.hid hkk
              clear hkk
              have HHH := Lib.hid (And.intro hR9 (And.intro hb9 own9))
              clear own9 hR9 hb9 hr9
              go_wp2_with (first
                | (refine wpList_load_box rfl 33 _ rfl (h) rfl 33 #[.int .i64 17, .int .i64 0, .int .i64 p, .int .i64 s1, .int .i64 s2, .int .i64 z, .int .i64 o, .int .i64 0, .int .i64 j, .int .i64 8, .int .i64 0, .int .i64 0, .slice VA k vc, .slice none 0 0, .slice none 0 0, .slice none 0 0, .slice none 0 0, .slice none 0 0] hX9 _ Try.underlying33 rfl blkInfo ?_)
                | go_in)
              intro _
              clear hX9
              obtain ⟨hRf, hbf, ownf⟩ := HHH.out
              go_wp2_with (first
                | (refine wpList_store_box rfl 33 _ _ rfl (w.heap.size + 1) #[.int .i64 17, .int .i64 0, .int .i64 p, .int .i64 s1, .int .i64 s2, .int .i64 z, .int .i64 o, .int .i64 0, .int .i64 j, .int .i64 8, .int .i64 0, .int .i64 0, .slice VA k vc, .slice none 0 0, .slice none 0 0, .slice none 0 0, .slice none 0 0, .slice none 0 0] rfl rfl 33 #[.int .i64 0, .int .i64 0, .int .i64 0, .int .i64 0, .int .i64 0, .int .i64 0, .int .i64 0, .int .i64 0, .int .i64 0, .int .i64 0, .int .i64 0, .int .i64 0, .slice none 0 0, .slice none 0 0, .slice none 0 0, .slice none 0 0, .slice none 0 0, .slice none 0 0] hRf blkInfo rfl (by simp [Value.oneCell']) ?_)
                | go_in)
              intro wz hRz hgz
              have HE := Lib.hid (And.intro hRz (And.intro (hbf.grown hgz hbf.size (fun j hj => by injection hj with hj; omega)) (ownf.kept hgz (.inr (own_blk_ne ownf hRf (by decide))))))
              clear hgz hRf hbf ownf
              go_wp2
              refine bodyPost_ret (results_cell3 rfl _ _ (w.heap.size + 1) 33 #[.int .i64 17, .int .i64 0, .int .i64 p, .int .i64 s1, .int .i64 s2, .int .i64 z, .int .i64 o, .int .i64 0, .int .i64 j, .int .i64 8, .int .i64 0, .int .i64 0, .slice VA k vc, .slice none 0 0, .slice none 0 0, .slice none 0 0, .slice none 0 0, .slice none 0 0] (0, 0) _ rfl HE.out.1 Try.underlying33 rfl blkInfo) rfl ⟨HE.out.2.1, .inr ⟨bytesB bs k, j, 0, kk, .slice VA k vc, ?_, ?_, ?_, HU.out⟩⟩
              · rw [HNZ.out, HPA.out, HPE.out, HKK.out]
              · rw [hst]; rfl
              · rw [hdl]; exact HE.out.2.2
          · have HPA := Lib.hid (show pauN zs q' = 0 from if_neg (fun e => by omega))
            have HPE := Lib.hid (show pauE zs q' = q' from if_neg (fun e => by omega))
            have hqI : ¬ (q' : Int) < (N : Int) := by omega
            obtain ⟨kk, hkk⟩ : ∃ kk, kk = q' - a := ⟨_, rfl⟩
            have hwk2 : IntKind.i64.wrap ((q' : Int) - (a : Int)) = (kk : Int) := by rw [IntKind.wrap_i64]; have := HQ'.out; have := HQ.out; have := HA1.out; have := HAJ.out; omega
            have HKK := Lib.hid hkk
            clear hkk
            have HHH := Lib.hid (And.intro hR9 (And.intro hb9 own9))
            clear own9 hR9 hb9 hr9
            go_wp2_with (first
              | (refine wpList_load_box rfl 33 _ rfl (h) rfl 33 #[.int .i64 17, .int .i64 0, .int .i64 p, .int .i64 s1, .int .i64 s2, .int .i64 z, .int .i64 o, .int .i64 0, .int .i64 j, .int .i64 8, .int .i64 0, .int .i64 0, .slice VA k vc, .slice none 0 0, .slice none 0 0, .slice none 0 0, .slice none 0 0, .slice none 0 0] hX9 _ Try.underlying33 rfl blkInfo ?_)
              | go_in)
            intro _
            clear hX9
            obtain ⟨hRf, hbf, ownf⟩ := HHH.out
            go_wp2_with (first
              | (refine wpList_store_box rfl 33 _ _ rfl (w.heap.size + 1) #[.int .i64 17, .int .i64 0, .int .i64 p, .int .i64 s1, .int .i64 s2, .int .i64 z, .int .i64 o, .int .i64 0, .int .i64 j, .int .i64 8, .int .i64 0, .int .i64 0, .slice VA k vc, .slice none 0 0, .slice none 0 0, .slice none 0 0, .slice none 0 0, .slice none 0 0] rfl rfl 33 #[.int .i64 0, .int .i64 0, .int .i64 0, .int .i64 0, .int .i64 0, .int .i64 0, .int .i64 0, .int .i64 0, .int .i64 0, .int .i64 0, .int .i64 0, .int .i64 0, .slice none 0 0, .slice none 0 0, .slice none 0 0, .slice none 0 0, .slice none 0 0, .slice none 0 0] hRf blkInfo rfl (by simp [Value.oneCell']) ?_)
              | go_in)
            intro wz hRz hgz
            have HE := Lib.hid (And.intro hRz (And.intro (hbf.grown hgz hbf.size (fun j hj => by injection hj with hj; omega)) (ownf.kept hgz (.inr (own_blk_ne ownf hRf (by decide))))))
            clear hgz hRf hbf ownf
            go_wp2
            refine bodyPost_ret (results_cell3 rfl _ _ (w.heap.size + 1) 33 #[.int .i64 17, .int .i64 0, .int .i64 p, .int .i64 s1, .int .i64 s2, .int .i64 z, .int .i64 o, .int .i64 0, .int .i64 j, .int .i64 8, .int .i64 0, .int .i64 0, .slice VA k vc, .slice none 0 0, .slice none 0 0, .slice none 0 0, .slice none 0 0, .slice none 0 0] (0, 0) _ rfl HE.out.1 Try.underlying33 rfl blkInfo) rfl ⟨HE.out.2.1, .inr ⟨bytesB bs k, j, 0, kk, .slice VA k vc, ?_, ?_, ?_, HU.out⟩⟩
            · rw [HNZ.out, HPA.out, HPE.out, HKK.out]
            · rw [hst]; rfl
            · rw [hdl]; exact HE.out.2.2

end Go.Proofs.Ytckgmnlmimogjaa
