/- The law WireBack of layer 17, walked: it returns true and writes nothing that was there. -/
import Derived.Test.YtpfojhmaeaeecaaWire4
import Derived.Deep.CutRange
namespace Go.Proofs.Ytpfojhmaeaeecaa
open Go.RowKit

theorem own_cap17 {w : World} {B e size n m cap : Nat} {A : Option Addr} {xs : List Value} (h : w.ownsRow B e size (.slice A n cap) m xs) : cap ≤ maxLen := by
  rcases h.2 with ⟨h0, _⟩ | ⟨g', cap', cur, hv, _, _, h1, h2, _⟩
  · injection h0 with _ _ e; subst e; unfold maxLen; omega
  · injection hv with _ e1 e2
    subst e2
    exact h2
theorem reads_take {w : World} {B n k : Nat} {A : Option Addr} {zs : List Int} (h : Reads w B 1 A n (zs.map (Value.int .u8))) (hk : k ≤ n) : Reads w B 1 A k ((zs.take k).map (Value.int .u8)) := by
  have hl := reads_len h
  refine ⟨by simp; omega, fun hn => ?_⟩
  obtain ⟨ad, e, hb, hc⟩ := h.2 (by omega)
  refine ⟨ad, e, hb, fun j u hu => ?_⟩
  rw [List.getElem?_map, List.getElem?_take] at hu
  split at hu
  · rw [← List.getElem?_map] at hu
    exact hc j u hu
  · cases hu
theorem pow256 : ∀ K, K ≤ 4 → (1 : Int) ≤ 256 ^ K ∧ (256 : Int) ^ K ≤ 4294967296 := by decide
theorem pow256s (K : Nat) : (256 : Int) ^ (K + 1) = 256 * 256 ^ K := by rw [Int.pow_succ]; omega

set_option maxRecDepth 100000 in
set_option maxHeartbeats 8000000 in
theorem wireBack_walk (A : Option Addr) (m c : Nat) (zs0 : List Int) (n : Int) (w : World) (w0 : IsRow .i64 w A m c zs0) (w1 : (Lit.int .i64 n).wf = true) :
    Calls Try.prog 5 #[.slice A m c, .int .i64 n] w fun e w' => e = .returned (.bool true) ∧ Below w.heap.size w w' := by
  obtain ⟨n0, n1⟩ := bounds_i64 w1
  have hr := row_i64 w0
  clear w0 w1
  generalize zs0.take m = zs at *
  have HL := Lib.hid (show zs.length = m by have := hr.1; simpa using this)
  go_enter Try.func5, Try.ntmps5
  go_upto_region 1 with fail
  go_cut [5] from 16 to 18 (fun s wx => ∃ K : Nat, s = .int .i64 K ∧ 1 ≤ K ∧ K ≤ 4 ∧ w = wx)
  case first =>
    go_wp2_with fail
    all_goals
      go_meet
      first
        | exact ⟨1, rfl, by omega, by omega, rfl⟩
        | exact ⟨4, rfl, by omega, by omega, rfl⟩
        | exact ⟨n.toNat, by congr 1; omega, by omega, by omega, rfl⟩
  case rest =>
    obtain ⟨K, rfl, hK, hK4, rfl⟩ := hcut
    clear n0 n1
    by_cases hm : (m : Int) ≤ 200
    · go_wp2
      go_loop [6, 7] (fun v i => ∃ j : Nat, j ≤ K ∧ i = .int .i64 j ∧ v = .int .i64 (256 ^ j)) (fun _ i => K - (intOf i).toNat)
      case atStart => exact ⟨0, by omega, rfl, rfl⟩
      case round =>
        obtain ⟨j, hj, rfl, rfl⟩ := hrel
        obtain ⟨p0, p1⟩ := pow256 j (by omega)
        by_cases hlt : j < K
        · have HP := Lib.hid (pow256s j)
          generalize (256 : Int) ^ j = P at *
          go_wp2
          go_round
          case rel => exact ⟨j + 1, by omega, by go_num, by rw [HP.out]⟩
          case measure => simp [intOf]; omega
        · obtain rfl : j = K := by omega
          generalize hP : (256 : Int) ^ j = P at *
          have HP := Lib.hid hP
          clear hP
          go_wp2
          go_loopw [8, 9] (fun b i wr => ∃ k : Nat, k ≤ m ∧ i = .int .i64 k ∧ (∀ z ∈ zs.take k, 0 ≤ z ∧ z < P) ∧ wr.ownsRow w.heap.size 5 1 b (j * k) ((flatL j (zs.take k)).map (Value.int .u8)) ∧ Below w.heap.size w wr) (fun _ i _ => m - (intOf i).toNat)
          case atStart => exact ⟨0, by omega, rfl, fun z hz => by simp at hz, World.ownsRow_nil _ _ _ _, Below.refl _ _⟩
          case round =>
            obtain ⟨k, hk, rfl, hin, hown, hbl⟩ := hrel
            have hjk : j * k ≤ 800 := Nat.le_trans (Nat.mul_le_mul hK4 (show k ≤ 200 by omega)) (by omega)
            by_cases hkm : k < m
            · obtain ⟨ad, rfl, hab, hc0⟩ := i64_at (hr.below hbl) hkm
              have ht := take_snocI zs k (by rw [HL.out]; exact hkm)
              generalize zs.getD k 0 = z at *
              have HT := Lib.hid ht
              clear ht
              by_cases hz : 0 ≤ z ∧ z < P
              · obtain ⟨z0, z1⟩ := hz
                have hput := put_any wr w.heap.size (j * k) j u8 z (flatL j (zs.take k)) (by omega) (by omega) hown (by omega) hK4 hbl.size hK
                have hlo := hown.lt
                clear hown
                go_wp2_with fail
                refine hput.mono ?_
                rintro e w2 ⟨V2, rfl, hown2, hg2, _⟩
                have hb2 : Below w.heap.size w w2 := hbl.grown hg2 hbl.size (fun i hi => (hlo i hi).1)
                go_wp2
                go_roundw
                case rel =>
                  refine ⟨k + 1, by omega, by go_num, ?_, by rw [HT.out, flatL_snoc, Nat.mul_add, Nat.mul_one]; exact hown2, hb2⟩
                  rw [HT.out]
                  intro y hy
                  rcases List.mem_append.1 hy with h | h
                  · exact hin y h
                  · obtain rfl : y = z := by simpa using h
                    exact ⟨z0, z1⟩
                case measure => simp [intOf]; omega
              · by_cases hz0 : z < 0
                · go_wp2_with fail
                  refine (lives17 _).mono ?_
                  rintro e w3 ⟨rfl, hb3⟩
                  go_wp2
                  go_ret
                  exact ⟨rfl, bthen hbl hb3⟩
                · have hz1 : P ≤ z := by omega
                  go_wp2_with fail
                  refine (lives17 _).mono ?_
                  rintro e w3 ⟨rfl, hb3⟩
                  go_wp2
                  go_ret
                  exact ⟨rfl, bthen hbl hb3⟩
            · obtain rfl : k = m := by omega
              have ht : zs.take k = zs := by rw [List.take_of_length_le (by rw [HL.out]; exact Nat.le_refl _)]
              rw [ht] at hin hown
              have hin2 : inK j zs := fun z hz => by rw [HP.out]; exact hin z hz
              have HIN := Lib.hid hin2
              clear hin hin2 ht HP p0 p1
              obtain ⟨A8, c8, rfl, hc8⟩ := own_sliceC hown
              have hm8 := own_cap17 hown
              have hrl := (hr.below hbl).more hbl.size
              have hrb := Reads.of_own hown
              clear hown hr
              go_wp2_with fail
              refine (read_new wr A8 (j * k) c8).mono ?_
              rintro e w2 ⟨rfl, hR, hb2⟩
              have hbl2 := bthen hbl hb2
              have hrl2 := hrl.below hb2
              have hrb2 := hrb.below hb2
              have hs2 := hbl.size
              have hlt2 := hR.lt
              generalize wr.heap.size = g at *
              clear hbl hrl hrb hb2
              unfold maxLen at hm8
              have hrw : ∀ wq, w2.grownBy wq (some g) → Reads wq g 1 A k (zs.map (Value.int .i64)) := fun wq h => reads_far hrl2 h (Nat.le_refl _) (by omega)
              have hrbw : ∀ wq, w2.grownBy wq (some g) → Reads wq g 1 A8 (j * k) ((flatL j zs).map (Value.int .u8)) := fun wq h => reads_far hrb2 h (Nat.le_refl _) (by omega)
              have HRW := Lib.hid hrw
              have HRBW := Lib.hid hrbw
              clear hrw hrbw
              generalize hN : j * k = N at *
              have HN := Lib.hid hN
              clear hN
              go_wp2
              go_loopw [11] (fun x wr => ∃ i : Nat, i ≤ k ∧ x = .int .i64 i ∧ Rd wr g A8 N c8 ((j * i : Nat) : Int) none ∧ w2.grownBy wr (some g)) (fun x _ => k - (intOf x).toNat)
              case atStart => exact ⟨0, by omega, rfl, hR, World.grownBy.refl w2 _⟩
              case round =>
                clear hR
                obtain ⟨i, hi, rfl, hR, hgr⟩ := hrel
                by_cases hik : i < k
                · obtain ⟨ad, hAd, hab, hc0⟩ := i64_at (HRW.out wr hgr) hik
                  have hle := mul_le_of (K := j) hik
                  rw [HN.out] at hle
                  have hv := flatL_val HIN.out (i := i) (by rw [HL.out]; exact hik)
                  have hnum := number_ok (w := wr.drew) (p := j * i) (m := j) (Blk.drew hR) (HRBW.out wr hgr).drew (flatL_in j zs) (Nat.le_refl _) hK hK4 hle hc8 hm8
                  rw [hv] at hnum
                  have HNUM := Lib.hid hnum
                  have hAd2 : ∀ w3 : World, wr.drew.grownBy w3 (some g) → w3.cell? (ad.add i) = some (.int .i64 (zs.getD i 0)) := fun w3 h => (World.cell?_of_block (h.block (ad.add i).block (by rw [block_of_add]; have := hR.lt; exact Nat.lt_trans hab this) (fun e => by rw [block_of_add] at e; injection e with e; omega))).trans hc0
                  have HC := Lib.hid hAd2
                  subst hAd
                  clear hv hnum hAd2
                  generalize zs.getD i 0 = z at *
                  have hgd : w2.grownBy wr.drew (some g) := grown_trans hgr ⟨rfl, rfl, rfl, Nat.le_refl _, fun _ _ _ => rfl⟩
                  go_upto_region 20 with fail
                  go_region_held3 (fun w' => w'.cell? (ad.add i) = some (.int .i64 z))
                    (first
                      | go_keep
                      | exact hc3)
                    (first
                      | (go_at_call 18
                         refine HNUM.out.mono ?_
                         rintro e w3 ⟨rfl, hR3, hg3⟩
                         have hc3 := HC.out w3 hg3))
                  all_goals
                    go_wp2
                    go_roundw
                    case rel => exact ⟨i + 1, by omega, by go_num, by rw [Nat.mul_add, Nat.mul_one]; exact hR3, grown_trans hgd hg3⟩
                    case measure => simp [intOf]; omega
                · obtain rfl : i = k := by omega
                  rw [HN.out] at hR
                  have hrl4 := HRW.out wr hgr
                  have hrb4 := HRBW.out wr hgr
                  have hbl4 : Below w.heap.size w wr := hbl2.trans (grown_below hgr hs2 hbl2.size)
                  have hgs : g ≤ wr.heap.size := Nat.le_of_lt hR.lt
                  have hmulN : (j : Int) * (i : Int) = (N : Int) := by rw [← HN.out, Int.natCast_mul]
                  clear hrl2 hrb2 hgr hbl2 HRW HRBW hlt2
                  go_wp2_with fail
                  refine (end_ok hR).mono ?_
                  rintro e w4 ⟨rfl, q, rfl⟩
                  have hrl5 := (hrl4.drewN q).more (show g ≤ (wr.drewN q).heap.size from hgs)
                  have hrb5 := (hrb4.drewN q).more (show g ≤ (wr.drewN q).heap.size from hgs)
                  have hbl5 := below_drewN hbl4 q
                  clear hR hrl4 hrb4 hbl4 hgs
                  generalize wr.drewN q = w5 at *
                  go_wp2_with fail
                  refine (read_new w5 A8 N c8).mono ?_
                  rintro e w6 ⟨rfl, hR6, hb6⟩
                  have hbl6 := bthen hbl5 hb6
                  have hrl6 := hrl5.below hb6
                  have hrb6 := hrb5.below hb6
                  have hs5 := hbl5.size
                  have hlt6 := hR6.lt
                  clear hrl5 hrb5 hb6 hbl5
                  generalize w5.heap.size = g2 at *
                  go_wp2_with fail
                  refine (numbers_any (K := j) (m := i) (zs := zs) (w := w6) (g := g2) (A := A8) (c := c8) (B := g2) (by rw [HN.out]; exact hR6) (by rw [HN.out]; exact hrb6) HL.out HIN.out (Nat.le_refl _) hK hK4 (by omega) (by rw [HN.out]; exact hc8) (by omega)).mono ?_
                  rintro e w7 ⟨v7, rfl, hown7, hg7⟩
                  obtain ⟨A7, c7, rfl⟩ := own_slice hown7
                  have hrl7 := reads_far hrl6 hg7 (Nat.le_refl _) (by omega)
                  have hrb7 := reads_far hrb6 hg7 (Nat.le_refl _) (by omega)
                  have hbl7 : Below w.heap.size w w7 := hbl6.trans (grown_below hg7 hs5 hbl6.size)
                  have hgs : g2 ≤ w7.heap.size := Nat.le_trans (Nat.le_of_lt hlt6) hg7.size
                  have hro7 := Reads.of_own hown7
                  clear hR6 hrl6 hrb6 hbl6 hown7 hg7 hlt6
                  go_wp2_with fail
                  refine (sameInts_any w7 A7 A i c7 c _ _ zs hro7 hrl7 (by omega)).mono ?_
                  rintro e w8 ⟨rfl, q2, rfl⟩
                  have hrb8 := (hrb7.drewN q2).more (show g2 ≤ (w7.drewN q2).heap.size from hgs)
                  have hbl8 := below_drewN hbl7 q2
                  clear hrl7 hrb7 hbl7 hro7
                  generalize w7.drewN q2 = w8 at *
                  by_cases hi0 : i = 0
                  · subst hi0
                    go_wp2_with fail
                    refine (lives17 _).mono ?_
                    rintro e w9 ⟨rfl, hb9⟩
                    go_wp2
                    go_ret
                    exact ⟨rfl, bthen hbl8 hb9⟩
                  · have hi1 : (i : Int) ≠ 0 := by omega
                    have hN1 : 1 ≤ N := by rw [← HN.out]; exact Nat.mul_pos hK (by omega)
                    have hI1 : (0 : Int) ≤ (N : Int) - 1 := by omega
                    have hI2 : (N : Int) - 1 ≤ (c8 : Int) := by omega
                    have hpre := reads_take hrb8 (show N - 1 ≤ N by omega)
                    have hpin : isU8 ((flatL j zs).take (N - 1)) := fun z hz => flatL_in j zs z (List.mem_of_mem_take hz)
                    generalize (flatL j zs).take (N - 1) = pre at *
                    obtain ⟨L, hL⟩ : ∃ L, L = N - 1 := ⟨_, rfl⟩
                    rw [← hL] at hpre
                    have hLI : ((N - 1 : Nat) : Int) = (L : Int) := by omega
                    go_wp2_with fail
                    rw [← hL]
                    refine (read_new w8 A8 L c8).mono ?_
                    rintro e w9 ⟨rfl, hR9, hb9⟩
                    have hbl9 := bthen hbl8 hb9
                    have hpre9 := hpre.below hb9
                    have hs8 := hbl8.size
                    have hlt9 := hR9.lt
                    clear hpre hrb8 hbl8 hb9
                    generalize w8.heap.size = g3 at *
                    go_wp2
                    go_loopw [13] (fun x wr => ∃ t : Nat, t ≤ i ∧ x = .int .i64 t ∧ w9.grownBy wr (some g3) ∧ ((t < i ∧ Rd wr g3 A8 L c8 ((j * t : Nat) : Int) none) ∨ (t = i ∧ ∃ h, Rd wr g3 A8 L c8 ((j * (i - 1) : Nat) : Int) (some ⟨h, 0, none⟩) ∧ Ft wr h 2 ((j * (i - 1) : Nat) : Int)))) (fun x _ => i - (intOf x).toNat)
                    case atStart => exact ⟨0, by omega, rfl, World.grownBy.refl w9 _, .inl ⟨by omega, hR9⟩⟩
                    case round =>
                      clear hR9
                      obtain ⟨t, ht, rfl, hgr, hcase⟩ := hrel
                      rcases hcase with ⟨hti, hR⟩ | ⟨rfl, h, hR, hF⟩
                      · by_cases hlast : t = i - 1
                        · have hNt : N = j * t + j := by rw [← HN.out, show i = t + 1 by omega, Nat.mul_add, Nat.mul_one]
                          have HLAST := Lib.hid hlast
                          have hsh := number_short hR hK hK4 (show j * t ≤ L by omega) (show L < j * t + j by omega) (by omega)
                          clear hNt
                          have hti2 : t + 1 = i := by omega
                          have HTI := Lib.hid hti2
                          clear hlast hti2
                          go_wp2_with fail
                          refine hsh.mono ?_
                          rintro e w10 ⟨rfl, hR10, hF10, hg10⟩
                          go_wp2
                          go_roundw
                          case rel => exact ⟨t + 1, by omega, by go_num, grown_trans hgr hg10, .inr ⟨HTI.out, _, by rw [← HLAST.out]; exact hR10, by rw [← HLAST.out]; exact hF10⟩⟩
                          case measure => simp [intOf]; omega
                        · have hle := mul_le_of (K := j) (show t + 1 < i by omega)
                          rw [HN.out] at hle
                          have hjt : j * (t + 1) = j * t + j := by rw [Nat.mul_add, Nat.mul_one]
                          go_wp2_with fail
                          refine (number_ok (p := j * t) (m := j) hR (reads_far hpre9 hgr (Nat.le_refl _) (by omega)) hpin (Nat.le_refl _) hK hK4 (by omega) (by omega) (by omega)).mono ?_
                          rintro e w10 ⟨rfl, hR10, hg10⟩
                          go_wp2
                          go_roundw
                          case rel => exact ⟨t + 1, by omega, by go_num, grown_trans hgr hg10, .inl ⟨by omega, by rw [hjt]; exact hR10⟩⟩
                          case measure => simp [intOf]; omega
                      · have hmul2 : (j : Int) * ((t : Int) - 1) = ((j * (t - 1) : Nat) : Int) := by rw [Int.natCast_mul]; congr 1; omega
                        have hsmall : j * (t - 1) ≤ 800 := Nat.le_trans (Nat.mul_le_mul hK4 (show t - 1 ≤ 200 by omega)) (by omega)
                        have hblr : Below w.heap.size w wr := hbl9.trans (grown_below hgr hs8 hbl9.size)
                        generalize j * (t - 1) = PP at *
                        go_wp2_with fail
                        refine (end_bad hR).mono ?_
                        rintro e w10 ⟨rfl, rfl⟩
                        go_wp2_with fail
                        refine (why_ft hF).mono ?_
                        rintro e w10 ⟨rfl, q3, rfl⟩
                        go_wp2_with fail
                        refine (lives17 _).mono ?_
                        rintro e w11 ⟨rfl, hb11⟩
                        go_wp2
                        go_ret
                        exact ⟨rfl, bthen (below_drewN hblr q3) hb11⟩
    · go_wp2_with fail
      refine (lives17 _).mono ?_
      rintro e w3 ⟨rfl, hb3⟩
      go_wp2
      go_ret
      exact ⟨rfl, hb3⟩

end Go.Proofs.Ytpfojhmaeaeecaa
