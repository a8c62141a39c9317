/- Contracts of layer 18: whether blocks fit a file, and blocks as a file. -/
import Derived.Test.YtpfojhmaeaeecaaLawTapR
namespace Go.Proofs.Ytpfojhmaeaeecaa
open Go.RowKit

theorem n_at {ps : List Piece} {i : Nat} {q : Piece} (h : ps[i]? = some q) : (ps.map Piece.n).drop i = q.n :: (ps.map Piece.n).drop (i + 1) := by
  have hi : i < (ps.map Piece.n).length := by
    rcases Nat.lt_or_ge i ps.length with h' | h'
    · simpa using h'
    · rw [List.getElem?_eq_none h'] at h; cases h
  rw [List.drop_eq_getElem_cons hi]
  congr 1
  rw [List.getElem_map]
  rw [List.getElem?_eq_getElem (by simpa using hi)] at h
  injection h with h
  rw [h]
theorem fitK_bad {a k : Nat} {ks : List Nat} (h : 65535 < k ∨ 1048576 < a + 2 + k) : fitK a (k :: ks) = false := by rw [fitK, if_pos h]
theorem fitK_good {a k : Nat} {ks : List Nat} (h : ¬ (65535 < k ∨ 1048576 < a + 2 + k)) : fitK a (k :: ks) = fitK (a + 2 + k) ks := by rw [fitK, if_neg h]

set_option maxHeartbeats 1000000 in
theorem fits_any (w : World) (B n c : Nat) (A : Option Addr) (ps : List Piece) (hr : Reads w B 1 A n (ps.map Piece.val)) (hn : (n : Int) ≤ 4096) :
    Calls Try.prog 50 #[.slice A n c] w fun e w' => e = .returned (.bool (fitK 0 (ps.map Piece.n))) ∧ w = w' := by
  have HL := Lib.hid (rows_len hr)
  go_enter Try.func50, Try.ntmps50
  go_wp2
  go_loop [3, 11] (fun x j => ∃ i a : Nat, i ≤ n ∧ a ≤ 1048576 ∧ j = .int .i64 i ∧ x = .int .i64 ((1048576 : Int) - a) ∧ Hid (fitK 0 (ps.map Piece.n) = fitK a ((ps.map Piece.n).drop i))) (fun _ j => n - (intOf j).toNat)
  case atStart => exact ⟨0, 0, by omega, by omega, rfl, rfl, Lib.hid rfl⟩
  case round =>
    obtain ⟨i, a, hi, ha, rfl, rfl, HK⟩ := hrel
    by_cases hlt : i < n
    · obtain ⟨ad, q, rfl, hab, hq, hcl⟩ := piece_at hr hlt
      have HN := Lib.hid (n_at hq)
      obtain ⟨qa, k, qc, qz⟩ := q
      simp only at hcl HN
      have hiI : (i : Int) < (n : Int) := by omega
      clear hq
      by_cases h1 : (65535 : Int) < (k : Int)
      · have HF := Lib.hid (show fitK 0 (ps.map Piece.n) = false by rw [HK.out, HN.out]; exact fitK_bad (.inl (by omega)))
        go_wp2
        go_ret
        exact ⟨by rw [HF.out]; rfl, rfl⟩
      · by_cases h2 : ((1048576 : Int) - a) - 2 < (k : Int)
        · have HF := Lib.hid (show fitK 0 (ps.map Piece.n) = false by rw [HK.out, HN.out]; exact fitK_bad (.inr (by omega)))
          go_wp2
          go_ret
          exact ⟨by rw [HF.out]; rfl, rfl⟩
        · have HF := Lib.hid (show fitK 0 (ps.map Piece.n) = fitK (a + 2 + k) ((ps.map Piece.n).drop (i + 1)) by rw [HK.out, HN.out]; exact fitK_good (by omega))
          go_wp2
          go_round
          case rel => exact ⟨i + 1, a + 2 + k, by omega, by omega, by go_num, by congr 1; omega, HF⟩
          case measure => simp [intOf]; omega
    · have hiI : ¬ (i : Int) < (n : Int) := by omega
      have HF := Lib.hid (show fitK 0 (ps.map Piece.n) = true by rw [HK.out, List.drop_eq_nil_of_le (by rw [List.length_map, HL.out]; omega)]; rfl)
      go_wp2
      go_ret
      exact ⟨by rw [HF.out]; rfl, rfl⟩
theorem fits_many (w : World) (n c : Nat) (A : Option Addr) (hn : (4096 : Int) < (n : Int)) :
    Calls Try.prog 50 #[.slice A n c] w fun e w' => e = .returned (.bool false) ∧ w = w' := by
  go_enter Try.func50, Try.ntmps50
  go_wp2
  go_ret
  exact ⟨rfl, rfl⟩

theorem fitK_len : ∀ (bs : List (List Int)) (a : Nat), a ≤ 1048576 → fitK a (bs.map List.length) = true → (∀ b ∈ bs, b.length ≤ 65535) ∧ a + (wrB bs).length ≤ 1048576
  | [], a, ha, _ => ⟨by simp, by simpa [wrB] using ha⟩
  | b :: bs, a, ha, h => by
    have hlen : (wrB (b :: bs)).length = 2 + b.length + (wrB bs).length := by rw [wrB_cons]; simp [bytesL_len]; omega
    rw [List.map_cons] at h
    by_cases hc : 65535 < b.length ∨ 1048576 < a + 2 + b.length
    · rw [fitK_bad hc] at h; cases h
    · rw [fitK_good hc] at h
      obtain ⟨h1, h2⟩ := fitK_len bs _ (by omega) h
      refine ⟨fun x hx => ?_, by omega⟩
      rcases List.mem_cons.1 hx with rfl | hx
      · omega
      · exact h1 x hx
theorem wrB_app (xs ys : List (List Int)) : wrB (xs ++ ys) = wrB xs ++ wrB ys := by simp [wrB]
theorem wrB_snoc {bs : List (List Int)} {i : Nat} {b : List Int} (h : bs[i]? = some b) : wrB (bs.take (i + 1)) = (wrB (bs.take i) ++ bytesL 2 b.length) ++ b := by
  rw [List.take_add_one, h, wrB_app, List.append_assoc]
  congr 1
  simp [wrB]
theorem wrB_take (bs : List (List Int)) (i : Nat) : (wrB (bs.take i)).length ≤ (wrB bs).length := by
  conv => rhs; rw [← List.take_append_drop i bs, wrB_app, List.length_append]
  omega
theorem zs_at {ps : List Piece} {i : Nat} {q : Piece} (h : ps[i]? = some q) : (ps.map Piece.zs)[i]? = some q.zs := by rw [List.getElem?_map, h]; rfl
theorem ns_zs {w : World} {B : Nat} : ∀ {ps : List Piece}, (∀ q ∈ ps, q.ok w B) → ps.map Piece.n = (ps.map Piece.zs).map List.length
  | [], _ => rfl
  | q :: ps, h => by
    have := (h q (by simp)).len
    rw [List.map_cons, List.map_cons, List.map_cons, this, ns_zs (fun x hx => h x (by simp [hx]))]

set_option maxRecDepth 100000 in
set_option maxHeartbeats 2000000 in
theorem write_any (w : World) (n c : Nat) (A : Option Addr) (ps : List Piece) (hr : Reads w w.heap.size 1 A n (ps.map Piece.val)) (hps : ∀ q ∈ ps, q.ok w w.heap.size) (hn : (n : Int) ≤ 4096) (hfit : fitK 0 (ps.map Piece.n) = true) :
    Calls Try.prog 35 #[.slice A n c] w fun e w' => ∃ V, e = .returned (.tuple #[V, .int .i64 0]) ∧ w'.ownsRow w.heap.size 5 1 V (wrB (ps.map Piece.zs)).length ((wrB (ps.map Piece.zs)).map (Value.int .u8)) ∧ Below w.heap.size w w' := by
  obtain ⟨i0, hi, hz0, hz1, hz2⟩ := info_parts u8Info
  have hf := fits_any w w.heap.size n c A ps hr hn
  rw [hfit] at hf
  have HL := Lib.hid (rows_len hr)
  have hfl := fitK_len (ps.map Piece.zs) 0 (by omega) (by rw [← ns_zs hps]; exact hfit)
  have HF := Lib.hid hfl
  have HP := Lib.hid hps
  clear hfit hfl hps
  go_enter Try.func35, Try.ntmps35
  go_wp2_with fail
  refine hf.mono ?_
  rintro e w1 ⟨rfl, rfl⟩
  clear hf
  go_wp2
  go_loopw [4, 12] (fun x j wr => ∃ (i : Nat) (L : List Int), i ≤ n ∧ j = .int .i64 i ∧ Hid (L = wrB ((ps.map Piece.zs).take i)) ∧ wr.ownsRow w.heap.size 5 1 x L.length (L.map (Value.int .u8)) ∧ Below w.heap.size w wr) (fun _ j _ => n - (intOf j).toNat)
  case atStart => exact ⟨0, [], by omega, rfl, Lib.hid rfl, World.ownsRow_nil _ _ _ _, Below.refl _ _⟩
  case round =>
    obtain ⟨i, L, hi', rfl, HLi, hown, hbl⟩ := hrel
    by_cases hlt : i < n
    · obtain ⟨ad, q, rfl, hab, hq, hcl⟩ := piece_at (hr.below hbl) hlt
      have hok := HP.out q (List.mem_of_getElem? hq)
      have HS := Lib.hid (show wrB ((ps.map Piece.zs).take (i + 1)) = (L ++ bytesL 2 q.zs.length) ++ q.zs by rw [wrB_snoc (zs_at hq), HLi.out])
      have h64 := HF.out.1 q.zs (List.mem_of_getElem? (zs_at hq))
      have hLl : L.length + (2 + q.zs.length) ≤ 1048576 := by
        have h1 := wrB_take (ps.map Piece.zs) (i + 1)
        rw [HS.out] at h1
        have h2 := HF.out.2
        simp [bytesL_len] at h1
        omega
      obtain ⟨qa, k, qc, qz⟩ := q
      have hkl := hok.len
      obtain ⟨hrq, hkc, hcm, huq⟩ := hok
      simp only at *
      subst hkl
      have hiI : (i : Int) < (n : Int) := by omega
      have hput := put_any wr w.heap.size L.length 2 _ (qz.length : Int) L (by omega) (by omega) hown (by omega) (by omega) hbl.size (by omega)
      have hone : ∀ u ∈ qz.map (Value.int .u8), u.oneCell' = true := fun u hu => by
        simp only [List.mem_map] at hu
        obtain ⟨z, _, rfl⟩ := hu
        rfl
      have hl2 : (L ++ bytesL 2 qz.length).length = L.length + 2 := by simp [bytesL_len]
      have hrd := fun (w' : World) (h : Below w.heap.size w w') => hrq.below h
      have HRD := Lib.hid hrd
      have hns : ∀ k, u4.ownBlock = some k → w.heap.size ≤ k := fun k hk => (hown.lt k hk).1
      generalize bytesL 2 (qz.length : Int) = X at *
      generalize hY : L ++ X = Y at *
      have HY := Lib.hid hY
      clear hY hq hown hrq hrd huq
      go_wp2_with fail
      refine hput.mono ?_
      rintro e w2 ⟨V2, rfl, hown2, hg2, _⟩
      have hbl2 : Below w.heap.size w w2 := hbl.grown hg2 hbl.size hns
      obtain ⟨A2, c2, rfl⟩ := own_slice hown2
      have hrq2 := HRD.out w2 hbl2
      clear hput hg2 hns
      go_wp2_with (first
        | (at_builtin; refine wpList_append_any _ rfl _ _ 22 rfl w.heap.size 5 i0 (.int .u8 0) 1 1 Try.underlying22 hi hz0 hz1 hz2 rfl (by decide) _ (L.length + 2) _ rfl hown2 w.heap.size qa qz.length qc (qz.map (Value.int .u8)) rfl hrq2 hone (by unfold maxLen; omega) (by omega) (by have := hbl2.size; omega) ?_)
        | go_in)
      intro v3 w3 own3 hg3 _
      have hbl3 : Below w.heap.size w w3 := hbl2.grown hg3 hbl2.size (fun k hk => (hown2.lt k hk).1)
      obtain ⟨A3, c3, rfl⟩ := own_slice own3
      clear hown2 hg3
      go_wp2
      go_roundw
      case rel => exact ⟨i + 1, Y ++ qz, by omega, by go_num, Lib.hid (by rw [HS.out]), by simpa [hl2] using own3, hbl3⟩
      case measure => simp [intOf]; omega
    · have hiI : ¬ (i : Int) < (n : Int) := by omega
      have hk2 : (ps.map Piece.zs).take i = ps.map Piece.zs := by rw [List.take_of_length_le (by rw [List.length_map, HL.out]; omega)]
      rw [hk2] at HLi
      go_wp2
      go_ret2
      exact ⟨_, rfl, by rw [← HLi.out]; exact hown, hbl⟩

end Go.Proofs.Ytpfojhmaeaeecaa
