/- Contracts of layer 31: the document's packing. -/
import Derived.Test.YthhodkadfenkbaaR31b
namespace Go.Proofs.Ythhodkadfenkbaa
open Go.RowKit

theorem pack_cases (al : Bool) (zr : List Int) (hpos : 0 < zr.length) :
    (∃ al', Hid (packL al zr = zr.getD 0 0 :: packL al' (zr.drop 1)) ∧ ((al = true ∧ zr.getD 0 0 = 237 ∧ al' = false) ∨ (al = true ∧ zr.getD 0 0 ≠ 237 ∧ al' = false) ∨ (al = false ∧ runN zr < 5 ∧ zr.getD 0 0 ≠ 237 ∧ al' = false) ∨ (al = false ∧ runN zr < 5 ∧ zr.getD 0 0 = 237 ∧ runN zr < 2 ∧ al' = true))) ∨
      (Hid (packL al zr = 237 :: 237 :: (runN zr : Int) :: zr.getD 0 0 :: packL false (zr.drop (runN zr))) ∧ al = false ∧ (5 ≤ runN zr ∨ (runN zr < 5 ∧ zr.getD 0 0 = 237 ∧ 2 ≤ runN zr))) := by
  cases hrw : rawB al zr with
  | true =>
    refine .inl ⟨zr.getD 0 0 == 237 && !al, Lib.hid (packL_raw hpos hrw), ?_⟩
    by_cases hz : zr.getD 0 0 = 237
    · rw [hz]
      cases al with
      | true => exact .inl ⟨rfl, rfl, rfl⟩
      | false =>
        rcases rawB_true hrw with h | ⟨h1, h2 | h2⟩
        · cases h
        · exact absurd hz h2
        · exact .inr (.inr (.inr ⟨rfl, h1, rfl, h2, rfl⟩))
    · have hz' : (zr.getD 0 0 == 237) = false := by simpa using hz
      rw [hz']
      cases al with
      | true => exact .inr (.inl ⟨rfl, hz, rfl⟩)
      | false =>
        rcases rawB_true hrw with h | ⟨h1, _⟩
        · cases h
        · exact .inr (.inr (.inl ⟨rfl, h1, hz, rfl⟩))
  | false =>
    obtain ⟨h1, h2⟩ := rawB_false hrw
    refine .inr ⟨Lib.hid (packL_run hpos hrw), h1, ?_⟩
    rcases h2 with h2 | ⟨h2, h3⟩
    · exact .inl h2
    · by_cases h5 : 5 ≤ runN zr
      · exact .inl h5
      · exact .inr ⟨by omega, h2, h3⟩

set_option maxRecDepth 100000 in
set_option maxHeartbeats 4000000 in
theorem packR_any (w : World) (n c : Nat) (A : Option Addr) (zs : List Int) (hr : Reads w w.heap.size 1 A n (zs.map (Value.int .u8))) (hn : n ≤ 100000) (hnc : n ≤ c) (hc : c ≤ 9223372036854775807) :
    Calls Try.prog 9 #[.slice A n c] w fun e w' => ∃ v, e = .returned v ∧ w'.ownsRow w.heap.size 5 1 v (packL false zs).length ((packL false zs).map (Value.int .u8)) ∧ Below w.heap.size w w' := by
  obtain ⟨i0, hi, hz0, hz1, hz2⟩ := info_parts u8Info
  have HL := Lib.hid (reads_len hr)
  go_enter Try.func9, Try.ntmps9
  go_wp2
  go_loopw [3, 4, 5] (fun o a b wr => ∃ (zd : List Int) (al : Bool) (k : Nat), Hid (packL false zs = zd ++ packL al (zs.drop k)) ∧ b = .int .i64 k ∧ a = .bool al ∧ k ≤ n ∧ zd.length + 2 * (n - k) ≤ 2 * n ∧ wr.ownsRow w.heap.size 5 1 o zd.length (zd.map (Value.int .u8)) ∧ Below w.heap.size w wr) (fun _ _ b _ => n - (intOf b).toNat)
  case atStart => exact ⟨[], false, 0, rfl, rfl, rfl, by omega, by simp, World.ownsRow_nil _ _ _ _, Below.refl _ _⟩
  case round =>
    obtain ⟨zd, al, k, HP, rfl, rfl, hkn, l3, hown, hbl⟩ := hrel
    by_cases hr0 : k < n
    · obtain ⟨ad, rfl, hab, hc0⟩ := u8_at (hr.below hbl) hr0
      have hdl : (zs.drop k).length = n - k := by rw [List.length_drop, HL.out]
      have hpos : 0 < (zs.drop k).length := by omega
      have hK1 : 1 ≤ runN (zs.drop k) := by
        cases hd : zs.drop k with
        | nil => rw [hd] at hpos; simp at hpos
        | cons x t => exact runN_pos x t
      have hKr : k + runN (zs.drop k) ≤ n := by have := runN_le (zs.drop k); omega
      have hK255 := runN_255 (zs.drop k)
      have hcases := pack_cases al (zs.drop k) hpos
      have HON := Lib.hid (fun j (h : j < runN (zs.drop k)) => runN_on (zs := zs.drop k) h)
      have HOFF := Lib.hid (fun (h : runN (zs.drop k) < n - k) (h2 : runN (zs.drop k) < 255) => runN_off (zs := zs.drop k) (by rw [hdl]; exact h) h2)
      rw [List.drop_drop, List.drop_drop] at hcases
      simp only [getD_drop, Nat.add_zero] at hcases HON HOFF
      generalize hK : runN (zs.drop k) = K at *
      generalize hz : zs.getD k 0 = z at *
      have HKK := Lib.hid hK
      have HZZ := Lib.hid hz
      clear hK hz hpos hdl
      go_wp2
      go_loopw [6] (fun x wq => ∃ j q : Nat, j ≤ K ∧ x = .int .i64 j ∧ wq = wr.drewN q) (fun x _ => K - (intOf x).toNat)
      case atStart => exact ⟨0, 0, by omega, rfl, rfl⟩
      case round =>
        obtain ⟨j, q, hj, rfl, rfl⟩ := hrel
        have HC := Lib.hid hcases
        clear hcases
        by_cases hlt : j < K
        · obtain ⟨ad', e', _, hcj⟩ := u8_at (hr.below hbl) (k := k + j) (by omega)
          injection e' with e'
          subst e'
          rw [HON.out j hlt] at hcj
          have hk255 : decide ((j : Int) < 255) = true := decide_eq_true (by omega)
          have hkn1 : decide ((k : Int) + (j : Int) < (n : Int)) = true := decide_eq_true (by omega)
          have hkn2 : decide (k + j < n) = true := decide_eq_true (by omega)
          go_wp2
          go_quiet (fail)
          go_wp2
          go_roundw
          case rel => exact ⟨j + 1, q + nq, by omega, by go_num, by first | rfl | rw [World.drewN_drewN]⟩
          case measure => simp [intOf]; omega
        · obtain rfl : j = K := by omega
          have hex : (decide ((k : Int) + (j : Int) < (n : Int)) = false ∧ decide (k + j < n) = false) ∨ ((decide ((k : Int) + (j : Int) < (n : Int)) = true ∧ decide (k + j < n) = true ∧ decide ((j : Int) < 255) = false)) ∨ (∃ y, (decide ((k : Int) + (j : Int) < (n : Int)) = true ∧ decide (k + j < n) = true ∧ decide ((j : Int) < 255) = true) ∧ wr.cell? (ad.add (k + j)) = some (.int .u8 y) ∧ (y == z) = false ∧ k + j < n) := by
            by_cases h1 : k + j < n
            · by_cases h2 : j < 255
              · obtain ⟨ad', e', _, hcj⟩ := u8_at (hr.below hbl) (k := k + j) h1
                injection e' with e'
                subst e'
                exact .inr (.inr ⟨_, ⟨decide_eq_true (by omega), decide_eq_true h1, decide_eq_true (by omega)⟩, hcj, by simpa using HOFF.out (by omega) h2, h1⟩)
              · exact .inr (.inl ⟨decide_eq_true (by omega), decide_eq_true h1, decide_eq_false (by omega)⟩)
            · exact .inl ⟨decide_eq_false (by omega), decide_eq_false h1⟩
          have hwr : IntKind.i64.wrap ((k : Int) + (j : Int)) = (k : Int) + (j : Int) := by rw [IntKind.wrap_i64]; omega
          rcases hex with ⟨e1, e2⟩ | ⟨e1, e2, e3⟩ | ⟨y, ⟨e1, e2, e3⟩, hcy, hyz, hkj⟩
          all_goals
            go_wp2
            go_quiet (fail)
            clear hwr
            try clear e3
            try clear hcy
            try clear hyz
            clear e1 e2
            rcases HC.out with ⟨al', HR, hcs⟩ | ⟨HR, rfl, hcs⟩
            · rcases hcs with ⟨rfl, hz, rfl⟩ | ⟨rfl, hz, rfl⟩ | ⟨rfl, h5, hz, rfl⟩ | ⟨rfl, h5, hz, h2, rfl⟩
              · subst hz
                have hown1 := own_kept hown (below_drewN (Below.refl _ _) (q + nq))
                have hbl1 := below_drewN hbl (q + nq)
                have hck : (wr.drewN (q + nq)).cell? (ad.add k) = _ := hc0
                clear hown hbl hc0
                try rw [World.drewN_drewN]
                generalize wr.drewN (q + nq) = W at *
                have hsz := hbl1.size
                go_wp2_with (first
                  | (at_builtin; refine wpList_append_own _ rfl _ _ 22 rfl w.heap.size 5 i0 (.int .u8 0) 1 1 Try.underlying22 hi hz0 hz1 hz2 rfl (by decide) _ zd.length _ rfl (hown1.alloc _) ⟨W.heap.size, 0, none⟩ 1 1 [.int .u8 237] rfl rfl (World.news_of_block (cs := #[.int .u8 237]) (t := 5) (fr := (0, 0)) (heap_alloc_new W _)) (by simp [Value.oneCell']) (by unfold maxLen; omega) (by omega) (by simp; omega) ?_)
                  | go_in)
                intro v' w3 hown' hgrow _
                have hb3 := (hbl1.alloc hsz (.cells #[.int .u8 237] 5)).grown hgrow (by simp; omega) (fun j hj => (hown1.lt j hj).1)
                clear hgrow hown1
                go_wp2
                go_roundw
                case rel => exact ⟨zd ++ [237], false, k + 1, Lib.hid (by rw [HP.out, HR.out]; simp), by go_num, by first | rfl | (rw [show (z == 237) = false by simpa using hz]), by omega, by simp; omega, by simpa using hown', hb3⟩
                case measure => simp [intOf]; omega
              · have hown1 := own_kept hown (below_drewN (Below.refl _ _) (q + nq))
                have hbl1 := below_drewN hbl (q + nq)
                have hck : (wr.drewN (q + nq)).cell? (ad.add k) = _ := hc0
                clear hown hbl hc0
                try rw [World.drewN_drewN]
                generalize wr.drewN (q + nq) = W at *
                have hsz := hbl1.size
                go_wp2_with (first
                  | (at_builtin; refine wpList_append_own _ rfl _ _ 22 rfl w.heap.size 5 i0 (.int .u8 0) 1 1 Try.underlying22 hi hz0 hz1 hz2 rfl (by decide) _ zd.length _ rfl (hown1.alloc _) ⟨W.heap.size, 0, none⟩ 1 1 [.int .u8 z] rfl rfl (World.news_of_block (cs := #[.int .u8 z]) (t := 5) (fr := (0, 0)) (heap_alloc_new W _)) (by simp [Value.oneCell']) (by unfold maxLen; omega) (by omega) (by simp; omega) ?_)
                  | go_in)
                intro v' w3 hown' hgrow _
                have hb3 := (hbl1.alloc hsz (.cells #[.int .u8 z] 5)).grown hgrow (by simp; omega) (fun j hj => (hown1.lt j hj).1)
                clear hgrow hown1
                go_wp2
                go_roundw
                case rel => exact ⟨zd ++ [z], false, k + 1, Lib.hid (by rw [HP.out, HR.out]; simp), by go_num, by first | rfl | (rw [show (z == 237) = false by simpa using hz]), by omega, by simp; omega, by simpa using hown', hb3⟩
                case measure => simp [intOf]; omega
              · have hown1 := own_kept hown (below_drewN (Below.refl _ _) (q + nq))
                have hbl1 := below_drewN hbl (q + nq)
                have hck : (wr.drewN (q + nq)).cell? (ad.add k) = _ := hc0
                clear hown hbl hc0
                try rw [World.drewN_drewN]
                generalize wr.drewN (q + nq) = W at *
                have hsz := hbl1.size
                have h5' : (j : Int) < 5 := by omega
                go_wp2_with (first
                  | (at_builtin; refine wpList_append_own _ rfl _ _ 22 rfl w.heap.size 5 i0 (.int .u8 0) 1 1 Try.underlying22 hi hz0 hz1 hz2 rfl (by decide) _ zd.length _ rfl (hown1.alloc _) ⟨W.heap.size, 0, none⟩ 1 1 [.int .u8 z] rfl rfl (World.news_of_block (cs := #[.int .u8 z]) (t := 5) (fr := (0, 0)) (heap_alloc_new W _)) (by simp [Value.oneCell']) (by unfold maxLen; omega) (by omega) (by simp; omega) ?_)
                  | go_in)
                intro v' w3 hown' hgrow _
                have hb3 := (hbl1.alloc hsz (.cells #[.int .u8 z] 5)).grown hgrow (by simp; omega) (fun j hj => (hown1.lt j hj).1)
                clear hgrow hown1
                go_wp2
                go_roundw
                case rel => exact ⟨zd ++ [z], false, k + 1, Lib.hid (by rw [HP.out, HR.out]; simp), by go_num, by first | rfl | (rw [show (z == 237) = false by simpa using hz]), by omega, by simp; omega, by simpa using hown', hb3⟩
                case measure => simp [intOf]; omega
              · subst hz
                have hown1 := own_kept hown (below_drewN (Below.refl _ _) (q + nq))
                have hbl1 := below_drewN hbl (q + nq)
                have hck : (wr.drewN (q + nq)).cell? (ad.add k) = _ := hc0
                clear hown hbl hc0
                try rw [World.drewN_drewN]
                generalize wr.drewN (q + nq) = W at *
                have hsz := hbl1.size
                have h5' : (j : Int) < 5 := by omega
                have h2' : (j : Int) < 2 := by omega
                go_wp2_with (first
                  | (at_builtin; refine wpList_append_own _ rfl _ _ 22 rfl w.heap.size 5 i0 (.int .u8 0) 1 1 Try.underlying22 hi hz0 hz1 hz2 rfl (by decide) _ zd.length _ rfl (hown1.alloc _) ⟨W.heap.size, 0, none⟩ 1 1 [.int .u8 237] rfl rfl (World.news_of_block (cs := #[.int .u8 237]) (t := 5) (fr := (0, 0)) (heap_alloc_new W _)) (by simp [Value.oneCell']) (by unfold maxLen; omega) (by omega) (by simp; omega) ?_)
                  | go_in)
                intro v' w3 hown' hgrow _
                have hb3 := (hbl1.alloc hsz (.cells #[.int .u8 237] 5)).grown hgrow (by simp; omega) (fun j hj => (hown1.lt j hj).1)
                clear hgrow hown1
                go_wp2
                go_roundw
                case rel => exact ⟨zd ++ [237], true, k + 1, Lib.hid (by rw [HP.out, HR.out]; simp), by go_num, by first | rfl | (rw [show (z == 237) = false by simpa using hz]), by omega, by simp; omega, by simpa using hown', hb3⟩
                case measure => simp [intOf]; omega
            · rcases hcs with h5 | ⟨h5, hz, h2⟩
              · have hown1 := own_kept hown (below_drewN (Below.refl _ _) (q + nq))
                have hbl1 := below_drewN hbl (q + nq)
                have hck : (wr.drewN (q + nq)).cell? (ad.add k) = _ := hc0
                clear hown hbl hc0
                try rw [World.drewN_drewN]
                generalize wr.drewN (q + nq) = W at *
                have hsz := hbl1.size
                have h5' : 5 ≤ (j : Int) := by omega
                go_wp2_with (first
                  | (at_builtin; refine wpList_append_own _ rfl _ _ 22 rfl w.heap.size 5 i0 (.int .u8 0) 1 1 Try.underlying22 hi hz0 hz1 hz2 rfl (by decide) _ zd.length _ rfl (hown1.alloc _) ⟨W.heap.size, 0, none⟩ 4 4 [.int .u8 237, .int .u8 237, .int .u8 j, .int .u8 z] rfl rfl (World.news_of_block (cs := #[.int .u8 237, .int .u8 237, .int .u8 j, .int .u8 z]) (t := 5) (fr := (0, 0)) (heap_alloc_new W _)) (by simp [Value.oneCell']) (by unfold maxLen; omega) (by omega) (by simp; omega) ?_)
                  | go_in)
                intro v' w3 hown' hgrow _
                have hb3 := (hbl1.alloc hsz (.cells #[.int .u8 237, .int .u8 237, .int .u8 j, .int .u8 z] 5)).grown hgrow (by simp; omega) (fun j hj => (hown1.lt j hj).1)
                clear hgrow hown1
                go_wp2
                go_roundw
                case rel => exact ⟨zd ++ [237, 237, (j : Int), z], false, k + j, Lib.hid (by rw [HP.out, HR.out]; simp), by go_num, by first | rfl | (rw [show (z == 237) = false by simpa using hz]), by omega, by simp; omega, by simpa using hown', hb3⟩
                case measure => simp [intOf]; omega
              · subst hz
                have hown1 := own_kept hown (below_drewN (Below.refl _ _) (q + nq))
                have hbl1 := below_drewN hbl (q + nq)
                have hck : (wr.drewN (q + nq)).cell? (ad.add k) = _ := hc0
                clear hown hbl hc0
                try rw [World.drewN_drewN]
                generalize wr.drewN (q + nq) = W at *
                have hsz := hbl1.size
                have h5' : (j : Int) < 5 := by omega
                have h2' : 2 ≤ (j : Int) := by omega
                go_wp2_with (first
                  | (at_builtin; refine wpList_append_own _ rfl _ _ 22 rfl w.heap.size 5 i0 (.int .u8 0) 1 1 Try.underlying22 hi hz0 hz1 hz2 rfl (by decide) _ zd.length _ rfl (hown1.alloc _) ⟨W.heap.size, 0, none⟩ 4 4 [.int .u8 237, .int .u8 237, .int .u8 j, .int .u8 237] rfl rfl (World.news_of_block (cs := #[.int .u8 237, .int .u8 237, .int .u8 j, .int .u8 237]) (t := 5) (fr := (0, 0)) (heap_alloc_new W _)) (by simp [Value.oneCell']) (by unfold maxLen; omega) (by omega) (by simp; omega) ?_)
                  | go_in)
                intro v' w3 hown' hgrow _
                have hb3 := (hbl1.alloc hsz (.cells #[.int .u8 237, .int .u8 237, .int .u8 j, .int .u8 237] 5)).grown hgrow (by simp; omega) (fun j hj => (hown1.lt j hj).1)
                clear hgrow hown1
                go_wp2
                go_roundw
                case rel => exact ⟨zd ++ [237, 237, (j : Int), 237], false, k + j, Lib.hid (by rw [HP.out, HR.out]; simp), by go_num, by first | rfl | (rw [show (z == 237) = false by simpa using hz]), by omega, by simp; omega, by simpa using hown', hb3⟩
                case measure => simp [intOf]; omega
    · obtain rfl : k = n := by omega
      have HP' := HP.out
      rw [List.drop_of_length_le (by rw [HL.out]; omega), packL_nil, List.append_nil] at HP'
      go_wp2
      go_ret
      rw [HP']
      exact ⟨_, rfl, hown, hbl⟩

end Go.Proofs.Ythhodkadfenkbaa
