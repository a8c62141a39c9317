/- The law TapBack of layer 18, walked: it returns true and writes nothing that was there. -/
import Derived.Test.YtpfojhmaeaeecaaTapX
import Derived.Deep.CutRange
namespace Go.Proofs.Ytpfojhmaeaeecaa
open Go.RowKit

theorem add_at (g j : Nat) : (Addr.add ⟨g, 0, none⟩ j) = ⟨g, j, none⟩ := by unfold Addr.add; split <;> simp_all
theorem add_at1 (g k j : Nat) : (Addr.add ⟨g, k, none⟩ j) = ⟨g, k + j, none⟩ := by unfold Addr.add; split <;> simp_all
theorem blk_reads {w : World} {g : Nat} {t : TypeId} {l : List Value} (h : Blk w g t l.toArray) : Reads w w.heap.size 1 (some ⟨g, 0, none⟩) l.length l := by
  refine ⟨by simp, fun _ => ⟨_, rfl, h.lt, fun j u hu => ?_⟩⟩
  rw [add_at, h.cell j]
  simpa using hu
theorem blk_reads_mid {w : World} {g : Nat} {t : TypeId} {a l b : List Value} (h : Blk w g t (a ++ l ++ b).toArray) : Reads w w.heap.size 1 (some ⟨g, a.length, none⟩) l.length l := by
  refine ⟨by simp, fun _ => ⟨_, rfl, h.lt, fun j u hu => ?_⟩⟩
  rw [add_at1, h.cell (a.length + j)]
  have hj : j < l.length := by
    rcases Nat.lt_or_ge j l.length with h' | h'
    · exact h'
    · rw [List.getElem?_eq_none h'] at hu; cases hu
  rw [List.getElem?_toArray, List.append_assoc, List.getElem?_append_right (by omega), Nat.add_sub_cancel_left, List.getElem?_append_left hj]
  exact hu
theorem seal_u8 {f x : Int} {zs : List Int} (hf : 0 ≤ f ∧ f ≤ 255) (hx : 0 ≤ x ∧ x ≤ 255) (hz : isU8 zs) : isU8 (f :: zs ++ [x]) := by
  intro z hm
  rcases List.mem_append.1 hm with h | h
  · rcases List.mem_cons.1 h with rfl | h
    · exact hf
    · exact hz z h
  · obtain rfl : z = x := by simpa using h
    exact hx
theorem set_u8 {zs : List Int} (hz : isU8 zs) {i : Nat} {z : Int} (h : 0 ≤ z ∧ z ≤ 255) : isU8 (zs.set i z) := by
  intro y hm
  rcases List.mem_or_eq_of_mem_set hm with h' | rfl
  · exact hz y h'
  · exact h
theorem right_turned {w : World} {g n K : Nat} {S : List Int} {z z' : Int} (hB : Blk w g 5 (S.map (Value.int .u8)).toArray) (hS : isU8 S) (h0 : sumX S = 0) (hl : S.length = n + 2) (hK : K < n + 2) (hn : n ≤ 20000) (hz : S.getD K 0 = z) (hz' : z' = (z + 1) % 256) (q : Nat) :
    Calls Try.prog 16 #[.slice (some ⟨g, 0, none⟩) (n + 2) (n + 2)] ((w.drewN q).setCell ⟨g, K, none⟩ (.int .u8 z')) fun e w' => e = .returned (.bool false) ∧ ((w.drewN q).setCell ⟨g, K, none⟩ (.int .u8 z')) = w' := by
  have hzb := isU8_at hS (k := K) (by omega)
  rw [hz] at hzb
  have hne : S.getD K 0 ≠ z' := by rw [hz]; omega
  have ho := other_sum hS h0 (i := K) (by omega) (z := z') (by omega) hne
  have hB2 := (hB.drewN q).set_ K (.int .u8 z')
  rw [List.setIfInBounds_toArray, show (S.map (Value.int .u8)).set K (.int .u8 z') = (S.set K z').map (Value.int .u8) by rw [List.map_set]] at hB2
  have hR := blk_reads hB2
  rw [List.length_map, List.length_set, hl] at hR
  have h := right_any _ _ (n + 2) (n + 2) _ _ hR (by omega)
  rw [show (decide (0 < n + 2) && (sumX (S.set K z') == 0)) = false by simp; exact ho] at h
  exact h

set_option maxRecDepth 100000 in
set_option maxHeartbeats 8000000 in
theorem tapBack_walk (A0 : Option Addr) (n0 c0 : Nat) (ps : List Piece) (A : Option Addr) (n c : Nat) (zs0 : List Int) (a : Int) (w : World) (w0 : IsRows w A0 n0 c0 ps) (w1 : IsRow .u8 w A n c zs0) (w2 : (Lit.int .i64 a).wf = true) :
    Calls Try.prog 8 #[.slice A0 n0 c0, .slice A n c, .int .i64 a] w fun e w' => e = .returned (.bool true) ∧ Below w.heap.size w w' := by
  obtain ⟨hr, hz, hnc, hc⟩ := row_u8 w1
  obtain ⟨hr0, hnc0, hc0, hps⟩ := w0
  have hc' : c ≤ 9223372036854775807 := by unfold maxLen at hc; omega
  have hcc : c0 ≤ 9223372036854775807 := by unfold maxLen at hc0; omega
  obtain ⟨a0, a1⟩ := bounds_i64 w2
  clear w1 w2 hc hc0
  generalize zs0.take n = zs at *
  by_cases hn0 : (100 : Int) < (n0 : Int)
  · go_enter Try.func8, Try.ntmps8
    go_wp2_with fail
    refine (lives18 _).mono ?_
    rintro e w4 ⟨rfl, hb4⟩
    go_wp2
    go_ret
    exact ⟨rfl, hb4⟩
  by_cases hn : (20000 : Int) < (n : Int)
  · go_enter Try.func8, Try.ntmps8
    go_wp2_with fail
    refine (lives18 _).mono ?_
    rintro e w4 ⟨rfl, hb4⟩
    go_wp2
    go_ret
    exact ⟨rfl, hb4⟩
  have HP := Lib.hid hps
  have HZ := Lib.hid hz
  have HR := Lib.hid hr
  have HN0 := Lib.hid (show n0 ≤ 100 by omega)
  have HN := Lib.hid (show n ≤ 20000 by omega)
  have HL := Lib.hid (reads_len hr)
  have HL0 := Lib.hid (rows_len hr0)
  clear hps hz hr
  go_enter Try.func8, Try.ntmps8
  go_wp2_with fail
  go_loop [7] (fun x => ∃ i : Nat, i ≤ n0 ∧ x = .int .i64 i ∧ Hid (∀ (j : Nat) (q : Piece), j < i → ps[j]? = some q → q.n ≤ 5000)) (fun x => n0 - (intOf x).toNat)
  case atStart => exact ⟨0, by omega, rfl, Lib.hid (fun j q hj => by omega)⟩
  case round =>
    obtain ⟨i, hi, rfl, HS⟩ := hrel
    by_cases hlt : i < n0
    · obtain ⟨ad, q, rfl, hab, hq, hcl⟩ := piece_at hr0 hlt
      have hiI : (i : Int) < (n0 : Int) := by omega
      have hi0 : (0 : Int) ≤ (i : Int) := Int.natCast_nonneg _
      have HQ := Lib.hid hq
      clear hq
      obtain ⟨qa, k, qc, qz⟩ := q
      simp only at hcl
      by_cases h5 : (5000 : Int) < (k : Int)
      · go_wp2_with fail
        refine (lives18 _).mono ?_
        rintro e w4 ⟨rfl, hb4⟩
        go_wp2
        go_ret
        exact ⟨rfl, hb4⟩
      · have HT := Lib.hid (show ∀ (j : Nat) (q : Piece), j < i + 1 → ps[j]? = some q → q.n ≤ 5000 from fun j q hj hq => by
          rcases Nat.lt_or_ge j i with h | h
          · exact HS.out j q h hq
          · obtain rfl : j = i := by omega
            rw [HQ.out] at hq
            injection hq with hq
            rw [← hq]
            show k ≤ 5000
            omega)
        go_wp2
        go_round
        case rel => exact ⟨i + 1, by omega, by go_num, HT⟩
        case measure => simp [intOf]; omega
    · have hiI : ¬ (i : Int) < (n0 : Int) := by omega
      have hq5 : ∀ q ∈ ps, q.n ≤ 5000 := fun q hm => by
        obtain ⟨j, hj, hjq⟩ := List.getElem_of_mem hm
        have := HL0.out
        exact HS.out j q (by omega) (by rw [List.getElem?_eq_getElem hj, hjq])
      have hb5 : ∀ b ∈ ps.map Piece.zs, b.length ≤ 5000 := fun b hb => by
        obtain ⟨q, hq, rfl⟩ := List.mem_map.1 hb
        rw [(HP.out q hq).len]
        exact hq5 q hq
      have hcnt : (ps.map Piece.zs).length ≤ 100 := by rw [List.length_map, HL0.out]; exact HN0.out
      have hwl : (wrB (ps.map Piece.zs)).length ≤ 1048576 := by
        have h1 := wrB_few (ps.map Piece.zs) 5000 hb5
        have h2 : (ps.map Piece.zs).length * (2 + 5000) ≤ 100 * (2 + 5000) := Nat.mul_le_mul_right _ hcnt
        omega
      have hfit : fitK 0 (ps.map Piece.n) = true := by rw [ns_zs HP.out]; exact fitK_wr _ 0 (fun b hb => by have := hb5 b hb; omega) (by omega)
      have hprs : prs 0 0 (wrB (ps.map Piece.zs)) = .ok (ps.map Piece.zs) := prs_wr _ 0 0 (by omega) (fun b hb => by have := hb5 b hb; omega)
      have hu8 : isU8 (wrB (ps.map Piece.zs)) := wrB_u8 _ (fun b hb => by
        obtain ⟨q, hq, rfl⟩ := List.mem_map.1 hb
        exact (HP.out q hq).2.2.2)
      have hwr := write_any w n0 c0 A0 ps hr0 HP.out (by omega) hfit
      generalize wrB (ps.map Piece.zs) = Y at *
      have HY := Lib.hid (And.intro hprs (And.intro hu8 hwl))
      have HR0 := Lib.hid hr0
      clear hprs hu8 hwl hb5 hq5 hcnt hfit hr0
      go_wp2_with fail
      refine hwr.mono ?_
      rintro e w1 ⟨V1, rfl, hown1, hb1⟩
      clear hwr
      obtain ⟨A1, c1, rfl, hnc1⟩ := own_sliceC hown1
      have hcm1 : c1 ≤ 9223372036854775807 := by
        rcases hown1.2 with ⟨h, _⟩ | ⟨g', cap, cur, h, _, _, _, hm, _⟩
        · injection h with _ _ h; omega
        · injection h with _ _ h; subst h; unfold maxLen at hm; omega
      go_wp2_with fail
      refine (parse_any w1 Y.length c1 A1 Y (Reads.of_own hown1) HY.out.2.1 hnc1 hcm1 HY.out.2.2).mono ?_
      rintro e w2 ⟨hb2, h⟩
      rw [HY.out.1] at h
      rcases h with ⟨v, qs, hq, rfl, hown, hqs⟩ | ⟨g, x, p, hq, _⟩
      rotate_left
      · cases hq
      injection hq with hq
      obtain ⟨ps', e1, e2, hok⟩ := own_pieces qs hqs (fun q hm => by
        have hm' : q.zs ∈ ps.map Piece.zs := by rw [hq]; exact List.mem_map_of_mem hm
        obtain ⟨r, hr, hre⟩ := List.mem_map.1 hm'
        rw [← hre]
        exact (HP.out r hr).2.2.2)
      have hlq : qs.length = n0 := by
        have := congrArg List.length hq
        rw [List.length_map, List.length_map, HL0.out] at this
        omega
      obtain ⟨LA, lc, rfl⟩ := own_slice hown
      have hrow := Reads.of_own hown
      rw [← e1, hlq] at hrow
      have hbl2 := bthen hb1 hb2
      have hs := same_true w2 A0 LA n0 c0 lc ps ps' ((HR0.out.below hbl2).more hbl2.size) hrow (fun q hm => (HP.out q hm).to hbl2 hbl2.size) (fun q hm => hok q hm) (by rw [hq, e2]) (by have := HN0.out; omega)
      rw [hlq]
      clear hown1 hb1 hb2 hown hqs hq e1 e2 hok hrow hlq
      go_wp2_with fail
      refine hs.mono ?_
      rintro e w3 ⟨rfl, hb3⟩
      have hbl3 := bthen hbl2 hb3
      clear hs hb3 hbl2
      have hpa := parse_any w3 n c A zs ((HR.out.below hbl3).more hbl3.size) HZ.out hnc hc' (by have := HN.out; omega)
      go_wp2_with fail
      refine hpa.mono ?_
      rintro e w4 ⟨hb4, h⟩
      clear hpa
      have hbl4 := bthen hbl3 hb4
      rcases h with ⟨v, qs, hq, rfl, hown, hqs⟩ | ⟨g, x, p, hq, rfl, hF⟩
      · obtain ⟨hw1, hw2, hw3⟩ := wr_prs zs.length zs 0 0 _ (Nat.le_refl _) (by omega) HZ.out hq
        obtain ⟨ps4, e1, e2, hok⟩ := own_pieces qs hqs (fun q hm => (hw2 q.zs (List.mem_map_of_mem hm)).1)
        have hlq : ps4.length = qs.length := by have := congrArg List.length e1; simpa using this
        obtain ⟨LA4, lc4, rfl⟩ := own_slice hown
        have hrow := Reads.of_own hown
        rw [← e1] at hrow
        have hfit : fitK 0 (ps4.map Piece.n) = true := by
          rw [ns_zs hok, e2]
          exact fitK_wr _ 0 (fun b hb => (hw2 b hb).2) (by rw [hw1, HL.out]; have := HN.out; omega)
        have hwr := write_any w4 qs.length lc4 LA4 ps4 hrow hok (by simp at hw3; omega) hfit
        rw [e2, hw1, HL.out] at hwr
        clear hown hqs hq e1 e2 hok hrow hlq hfit hw1 hw2 hw3 hb4
        go_wp2_with fail
        refine hwr.mono ?_
        rintro e w5 ⟨V5, rfl, hown5, hb5⟩
        have hbl5 := bthen hbl4 hb5
        obtain ⟨A5, c5, rfl⟩ := own_slice hown5
        have hv := fun q => conv18 (w := w5.drewN q) c5 ((Reads.of_own hown5).drewN q)
        have hv' := fun q => conv18 (w := w5.drewN q) c (((HR.out.below hbl5)).drewN q)
        have hv0 := conv18 (w := w5) c5 (Reads.of_own hown5)
        have hv0' := conv18 (w := w5) c (HR.out.below hbl5)
        have HSS := Lib.hid (show ∃ S, S = strOfNums zs from ⟨_, rfl⟩)
        obtain ⟨S, hS⟩ := HSS.out
        rw [← hS] at hv0 hv0'
        clear hv hv' hwr hown5 hb5 hbl4 hbl3 hS HSS
        have hse := sealed_any w5 n c A 7 zs ((HR.out.below hbl5).more hbl5.size) HZ.out (by have := HN.out; omega) (by omega) (by omega)
        have hx := sumX_in zs.length zs (Nat.le_refl _) HZ.out
        have hsx := bits_bd .xor (a := 7) (by omega) (by omega) hx.1 hx.2 (by simp)
        have hs0 := sealed_sum 7 (by omega) zs HZ.out
        have hsu : isU8 (7 :: zs ++ [bits .xor .u8 7 (sumX zs)]) := seal_u8 (by omega) hsx HZ.out
        generalize bits .xor .u8 7 (sumX zs) = X at *
        clear hx
        go_wp2_with fail
        refine hse.mono ?_
        rintro e w6 ⟨rfl, hb6, hB6⟩
        have hbl6 := bthen hbl5 hb6
        have hgB := hbl5.size
        generalize w5.heap.size = g at *
        have hlS : ((7 :: zs ++ [X]).map (Value.int .u8)).length = n + 2 := by simp [HL.out]
        have hR6 := blk_reads hB6
        rw [hlS] at hR6
        have hmid : Reads w6 w6.heap.size 1 (some ⟨g, 1, none⟩) n (zs.map (Value.int .u8)) := by
          have := blk_reads_mid (a := [Value.int .u8 7]) (l := zs.map (Value.int .u8)) (b := [Value.int .u8 X]) (by simpa using hB6)
          simpa [HL.out] using this
        have hrt := fun (wx : World) (h : wx.heap = w6.heap) => right_any wx w6.heap.size (n + 2) (n + 2) (some ⟨g, 0, none⟩) (7 :: zs ++ [X]) (hR6.keep fun q _ => cell_heap h q) (by have := HN.out; omega)
        rw [hs0, show (decide (0 < n + 2) && ((0 : Int) == 0)) = true by simp] at hrt
        have HRT := Lib.hid hrt
        clear hrt
        have hcA := fun q => conv18 (w := w6.drewN q) (n + 1) (hmid.drewN q)
        have hcB := fun q => conv18 (w := w6.drewN q) c ((HR.out.below hbl6).drewN q)
        have hz0 : w6.cell? ⟨g, 0, none⟩ = some (.int .u8 7) := (hB6.cell 0).trans rfl
        have HB6 := Lib.hid hB6
        have HS0 := Lib.hid hs0
        have HSU := Lib.hid hsu
        have HLN := Lib.hid (show (7 :: zs ++ [X]).length = n + 2 by simp [HL.out])
        generalize strOfNums zs = SS at *
        clear hse hmid hR6 hs0 hsu hB6 hlS
        go_wp2_with fail
        go_quiet (first | (go_at_call 16; exact Calls.quiet_of_same (flip (HRT.out _ (by rfl)))) | fail)
        by_cases hcase : a < 0
        · have HZK := Lib.hid (show (7 :: zs ++ [X]).getD 0 0 = 7 from rfl)
          have hfK := HB6.out.frozen 0
          have hend := Lib.hid (right_turned (K := 0) (z' := 8) HB6.out HSU.out HS0.out HLN.out (by omega) HN.out HZK.out (by first | rfl | decide) nq)
          have hbe := hbl6.setCell (p := ⟨g, 0, none⟩) hgB (.int .u8 8)
          go_wp2_with fail
          all_goals
            refine hend.out.mono ?_
            rintro e w8 ⟨rfl, rfl⟩
            go_wp2_with fail
            refine (lives18 _).mono ?_
            rintro e w9 ⟨rfl, hb9⟩
            go_wp2
            go_ret
            exact ⟨rfl, bthen ((below_drewN hbl6 nq).setCell (p := ⟨g, 0, none⟩) hgB _) hb9⟩
        by_cases hcase : a = 0
        · subst hcase
          have HZK := Lib.hid (show (7 :: zs ++ [X]).getD 0 0 = 7 from rfl)
          have hfK := HB6.out.frozen 0
          have hend := Lib.hid (right_turned (K := 0) (z' := 8) HB6.out HSU.out HS0.out HLN.out (by omega) HN.out HZK.out (by first | rfl | decide) nq)
          have hbe := hbl6.setCell (p := ⟨g, 0, none⟩) hgB (.int .u8 8)
          go_wp2_with fail
          all_goals
            refine hend.out.mono ?_
            rintro e w8 ⟨rfl, rfl⟩
            go_wp2_with fail
            refine (lives18 _).mono ?_
            rintro e w9 ⟨rfl, hb9⟩
            go_wp2
            go_ret
            exact ⟨rfl, bthen ((below_drewN hbl6 nq).setCell (p := ⟨g, 0, none⟩) hgB _) hb9⟩
        by_cases hcase : 1 ≤ a ∧ a ≤ (n : Int)
        · obtain ⟨k, rfl⟩ : ∃ k : Nat, a = k := ⟨a.toNat, by omega⟩
          obtain ⟨k1, k2⟩ := hcase
          obtain ⟨Z, hZ⟩ : ∃ Z, (7 :: zs ++ [X]).getD k 0 = Z := ⟨_, rfl⟩
          have hcK : w6.cell? ⟨g, k, none⟩ = some (.int .u8 Z) := (HB6.out.cell k).trans (by rw [List.getElem?_toArray, List.getElem?_map, ← hZ, List.getD_eq_getElem?_getD, List.getElem?_eq_getElem (by rw [HLN.out]; omega)]; rfl)
          have HZK := Lib.hid hZ
          clear hZ
          have hfK := HB6.out.frozen k
          have hend := Lib.hid (right_turned (K := k) (z' := ((Z + 1) % 256)) HB6.out HSU.out HS0.out HLN.out (by omega) HN.out HZK.out (by first | rfl | decide) nq)
          have hbe := hbl6.setCell (p := ⟨g, k, none⟩) hgB (.int .u8 ((Z + 1) % 256))
          go_wp2_with fail
          all_goals
            refine hend.out.mono ?_
            rintro e w8 ⟨rfl, rfl⟩
            go_wp2_with fail
            refine (lives18 _).mono ?_
            rintro e w9 ⟨rfl, hb9⟩
            go_wp2
            go_ret
            exact ⟨rfl, bthen ((below_drewN hbl6 nq).setCell (p := ⟨g, k, none⟩) hgB _) hb9⟩
        by_cases hcase : a = (n : Int) + 1
        · subst hcase
          have HZK := Lib.hid (show (7 :: zs ++ [X]).getD (n + 1) 0 = X by rw [← HL.out]; simp [List.getD_eq_getElem?_getD])
          have hcK : w6.cell? ⟨g, n + 1, none⟩ = some (.int .u8 X) := (HB6.out.cell (n + 1)).trans (by rw [List.getElem?_toArray, List.getElem?_map, ← HL.out]; simp)
          have hfK := HB6.out.frozen (n + 1)
          have hend := Lib.hid (right_turned (K := (n + 1)) (z' := ((X + 1) % 256)) HB6.out HSU.out HS0.out HLN.out (by omega) HN.out HZK.out (by first | rfl | decide) nq)
          have hbe := hbl6.setCell (p := ⟨g, (n + 1), none⟩) hgB (.int .u8 ((X + 1) % 256))
          go_wp2_with fail
          all_goals
            refine hend.out.mono ?_
            rintro e w8 ⟨rfl, rfl⟩
            go_wp2_with fail
            refine (lives18 _).mono ?_
            rintro e w9 ⟨rfl, hb9⟩
            go_wp2
            go_ret
            exact ⟨rfl, bthen ((below_drewN hbl6 nq).setCell (p := ⟨g, (n + 1), none⟩) hgB _) hb9⟩
        by_cases hcase : (n : Int) + 1 < a
        · have HZK := Lib.hid (show (7 :: zs ++ [X]).getD (n + 1) 0 = X by rw [← HL.out]; simp [List.getD_eq_getElem?_getD])
          have hcK : w6.cell? ⟨g, n + 1, none⟩ = some (.int .u8 X) := (HB6.out.cell (n + 1)).trans (by rw [List.getElem?_toArray, List.getElem?_map, ← HL.out]; simp)
          have hfK := HB6.out.frozen (n + 1)
          have hend := Lib.hid (right_turned (K := (n + 1)) (z' := ((X + 1) % 256)) HB6.out HSU.out HS0.out HLN.out (by omega) HN.out HZK.out (by first | rfl | decide) nq)
          have hbe := hbl6.setCell (p := ⟨g, (n + 1), none⟩) hgB (.int .u8 ((X + 1) % 256))
          go_wp2_with fail
          all_goals
            refine hend.out.mono ?_
            rintro e w8 ⟨rfl, rfl⟩
            go_wp2_with fail
            refine (lives18 _).mono ?_
            rintro e w9 ⟨rfl, hb9⟩
            go_wp2
            go_ret
            exact ⟨rfl, bthen ((below_drewN hbl6 nq).setCell (p := ⟨g, (n + 1), none⟩) hgB _) hb9⟩
        omega
      · clear hq hF hb4 hbl3
        have hse := sealed_any w4 n c A 7 zs ((HR.out.below hbl4).more hbl4.size) HZ.out (by have := HN.out; omega) (by omega) (by omega)
        have hx := sumX_in zs.length zs (Nat.le_refl _) HZ.out
        have hsx := bits_bd .xor (a := 7) (by omega) (by omega) hx.1 hx.2 (by simp)
        have hs0 := sealed_sum 7 (by omega) zs HZ.out
        have hsu : isU8 (7 :: zs ++ [bits .xor .u8 7 (sumX zs)]) := seal_u8 (by omega) hsx HZ.out
        generalize bits .xor .u8 7 (sumX zs) = X at *
        clear hx
        go_wp2_with fail
        refine hse.mono ?_
        rintro e w6 ⟨rfl, hb6, hB6⟩
        have hbl6 := bthen hbl4 hb6
        have hgB := hbl4.size
        generalize w4.heap.size = g at *
        have hlS : ((7 :: zs ++ [X]).map (Value.int .u8)).length = n + 2 := by simp [HL.out]
        have hR6 := blk_reads hB6
        rw [hlS] at hR6
        have hmid : Reads w6 w6.heap.size 1 (some ⟨g, 1, none⟩) n (zs.map (Value.int .u8)) := by
          have := blk_reads_mid (a := [Value.int .u8 7]) (l := zs.map (Value.int .u8)) (b := [Value.int .u8 X]) (by simpa using hB6)
          simpa [HL.out] using this
        have hrt := fun (wx : World) (h : wx.heap = w6.heap) => right_any wx w6.heap.size (n + 2) (n + 2) (some ⟨g, 0, none⟩) (7 :: zs ++ [X]) (hR6.keep fun q _ => cell_heap h q) (by have := HN.out; omega)
        rw [hs0, show (decide (0 < n + 2) && ((0 : Int) == 0)) = true by simp] at hrt
        have HRT := Lib.hid hrt
        clear hrt
        have hcA := fun q => conv18 (w := w6.drewN q) (n + 1) (hmid.drewN q)
        have hcB := fun q => conv18 (w := w6.drewN q) c ((HR.out.below hbl6).drewN q)
        have hz0 : w6.cell? ⟨g, 0, none⟩ = some (.int .u8 7) := (hB6.cell 0).trans rfl
        have HB6 := Lib.hid hB6
        have HS0 := Lib.hid hs0
        have HSU := Lib.hid hsu
        have HLN := Lib.hid (show (7 :: zs ++ [X]).length = n + 2 by simp [HL.out])
        generalize strOfNums zs = SS at *
        clear hse hmid hR6 hs0 hsu hB6 hlS
        go_wp2_with fail
        go_quiet (first | (go_at_call 16; exact Calls.quiet_of_same (flip (HRT.out _ (by rfl)))) | fail)
        by_cases hcase : a < 0
        · have HZK := Lib.hid (show (7 :: zs ++ [X]).getD 0 0 = 7 from rfl)
          have hfK := HB6.out.frozen 0
          have hend := Lib.hid (right_turned (K := 0) (z' := 8) HB6.out HSU.out HS0.out HLN.out (by omega) HN.out HZK.out (by first | rfl | decide) nq)
          have hbe := hbl6.setCell (p := ⟨g, 0, none⟩) hgB (.int .u8 8)
          go_wp2_with fail
          all_goals
            refine hend.out.mono ?_
            rintro e w8 ⟨rfl, rfl⟩
            go_wp2_with fail
            refine (lives18 _).mono ?_
            rintro e w9 ⟨rfl, hb9⟩
            go_wp2
            go_ret
            exact ⟨rfl, bthen ((below_drewN hbl6 nq).setCell (p := ⟨g, 0, none⟩) hgB _) hb9⟩
        by_cases hcase : a = 0
        · subst hcase
          have HZK := Lib.hid (show (7 :: zs ++ [X]).getD 0 0 = 7 from rfl)
          have hfK := HB6.out.frozen 0
          have hend := Lib.hid (right_turned (K := 0) (z' := 8) HB6.out HSU.out HS0.out HLN.out (by omega) HN.out HZK.out (by first | rfl | decide) nq)
          have hbe := hbl6.setCell (p := ⟨g, 0, none⟩) hgB (.int .u8 8)
          go_wp2_with fail
          all_goals
            refine hend.out.mono ?_
            rintro e w8 ⟨rfl, rfl⟩
            go_wp2_with fail
            refine (lives18 _).mono ?_
            rintro e w9 ⟨rfl, hb9⟩
            go_wp2
            go_ret
            exact ⟨rfl, bthen ((below_drewN hbl6 nq).setCell (p := ⟨g, 0, none⟩) hgB _) hb9⟩
        by_cases hcase : 1 ≤ a ∧ a ≤ (n : Int)
        · obtain ⟨k, rfl⟩ : ∃ k : Nat, a = k := ⟨a.toNat, by omega⟩
          obtain ⟨k1, k2⟩ := hcase
          obtain ⟨Z, hZ⟩ : ∃ Z, (7 :: zs ++ [X]).getD k 0 = Z := ⟨_, rfl⟩
          have hcK : w6.cell? ⟨g, k, none⟩ = some (.int .u8 Z) := (HB6.out.cell k).trans (by rw [List.getElem?_toArray, List.getElem?_map, ← hZ, List.getD_eq_getElem?_getD, List.getElem?_eq_getElem (by rw [HLN.out]; omega)]; rfl)
          have HZK := Lib.hid hZ
          clear hZ
          have hfK := HB6.out.frozen k
          have hend := Lib.hid (right_turned (K := k) (z' := ((Z + 1) % 256)) HB6.out HSU.out HS0.out HLN.out (by omega) HN.out HZK.out (by first | rfl | decide) nq)
          have hbe := hbl6.setCell (p := ⟨g, k, none⟩) hgB (.int .u8 ((Z + 1) % 256))
          go_wp2_with fail
          all_goals
            refine hend.out.mono ?_
            rintro e w8 ⟨rfl, rfl⟩
            go_wp2_with fail
            refine (lives18 _).mono ?_
            rintro e w9 ⟨rfl, hb9⟩
            go_wp2
            go_ret
            exact ⟨rfl, bthen ((below_drewN hbl6 nq).setCell (p := ⟨g, k, none⟩) hgB _) hb9⟩
        by_cases hcase : a = (n : Int) + 1
        · subst hcase
          have HZK := Lib.hid (show (7 :: zs ++ [X]).getD (n + 1) 0 = X by rw [← HL.out]; simp [List.getD_eq_getElem?_getD])
          have hcK : w6.cell? ⟨g, n + 1, none⟩ = some (.int .u8 X) := (HB6.out.cell (n + 1)).trans (by rw [List.getElem?_toArray, List.getElem?_map, ← HL.out]; simp)
          have hfK := HB6.out.frozen (n + 1)
          have hend := Lib.hid (right_turned (K := (n + 1)) (z' := ((X + 1) % 256)) HB6.out HSU.out HS0.out HLN.out (by omega) HN.out HZK.out (by first | rfl | decide) nq)
          have hbe := hbl6.setCell (p := ⟨g, (n + 1), none⟩) hgB (.int .u8 ((X + 1) % 256))
          go_wp2_with fail
          all_goals
            refine hend.out.mono ?_
            rintro e w8 ⟨rfl, rfl⟩
            go_wp2_with fail
            refine (lives18 _).mono ?_
            rintro e w9 ⟨rfl, hb9⟩
            go_wp2
            go_ret
            exact ⟨rfl, bthen ((below_drewN hbl6 nq).setCell (p := ⟨g, (n + 1), none⟩) hgB _) hb9⟩
        by_cases hcase : (n : Int) + 1 < a
        · have HZK := Lib.hid (show (7 :: zs ++ [X]).getD (n + 1) 0 = X by rw [← HL.out]; simp [List.getD_eq_getElem?_getD])
          have hcK : w6.cell? ⟨g, n + 1, none⟩ = some (.int .u8 X) := (HB6.out.cell (n + 1)).trans (by rw [List.getElem?_toArray, List.getElem?_map, ← HL.out]; simp)
          have hfK := HB6.out.frozen (n + 1)
          have hend := Lib.hid (right_turned (K := (n + 1)) (z' := ((X + 1) % 256)) HB6.out HSU.out HS0.out HLN.out (by omega) HN.out HZK.out (by first | rfl | decide) nq)
          have hbe := hbl6.setCell (p := ⟨g, (n + 1), none⟩) hgB (.int .u8 ((X + 1) % 256))
          go_wp2_with fail
          all_goals
            refine hend.out.mono ?_
            rintro e w8 ⟨rfl, rfl⟩
            go_wp2_with fail
            refine (lives18 _).mono ?_
            rintro e w9 ⟨rfl, hb9⟩
            go_wp2
            go_ret
            exact ⟨rfl, bthen ((below_drewN hbl6 nq).setCell (p := ⟨g, (n + 1), none⟩) hgB _) hb9⟩
        omega

end Go.Proofs.Ytpfojhmaeaeecaa
