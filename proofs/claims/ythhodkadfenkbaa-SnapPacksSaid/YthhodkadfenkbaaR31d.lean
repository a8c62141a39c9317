/- Contracts of layer 31: the program's unpacking. -/
import Derived.Test.YthhodkadfenkbaaR31c
namespace Go.Proofs.Ythhodkadfenkbaa
open Go.RowKit

def Un.l : Un → List Int
  | .ok l _ => l
  | .err _ => []
def Un.k : Un → Nat
  | .ok _ k => k
  | .err _ => 0
def Un.e : Un → Int
  | .ok _ _ => 0
  | .err e => e
/-- what unpacking to n bytes comes to -/
def unpI (n : Int) (zs : List Int) : Un := if n < 0 ∨ 65536 < n then .err 1 else unp 2 4 n.toNat zs


set_option maxRecDepth 100000 in
set_option maxHeartbeats 4000000 in
theorem unpack_any (w : World) (m c : Nat) (A : Option Addr) (zs : List Int) (n : Int) (hr : Reads w w.heap.size 1 A m (zs.map (Value.int .u8))) (hb : isU8 zs) (hmc : m ≤ c) (hc : c ≤ 9223372036854775807) :
    Calls Try.prog 7 #[.slice A m c, .int .i64 n] w fun e w' => ∃ v, e = .returned (.tuple #[v, .int .i64 (unpI n zs).k, .int .i64 (unpI n zs).e]) ∧ w'.ownsRow w.heap.size 5 1 v (unpI n zs).l.length ((unpI n zs).l.map (Value.int .u8)) ∧ Below w.heap.size w w' := by
  obtain ⟨i0, hi, hz0, hz1, hz2⟩ := info_parts u8Info
  have HL := Lib.hid (reads_len hr)
  by_cases hn : n < 0 ∨ 65536 < n
  · have hu : unpI n zs = .err 1 := by unfold unpI; rw [if_pos hn]
    rw [hu]
    go_enter Try.func7, Try.ntmps7
    rcases hn with h | h
    · go_wp2
      go_ret3
      exact ⟨_, rfl, World.ownsRow_nil _ _ _ _, Below.refl _ _⟩
    · go_wp2
      go_ret3
      exact ⟨_, rfl, World.ownsRow_nil _ _ _ _, Below.refl _ _⟩
  · have hu : unpI n zs = unp 2 4 n.toNat zs := by unfold unpI; rw [if_neg hn]
    rw [hu]
    obtain ⟨N, rfl⟩ : ∃ N : Nat, n = N := ⟨n.toNat, by omega⟩
    rw [Int.toNat_natCast]
    clear hu
    have hN : N ≤ 65536 := by omega
    clear hn
    obtain ⟨U, hU⟩ : ∃ U, U = unp 2 4 N zs := ⟨_, rfl⟩
    rw [← hU]
    have HU := Lib.hid hU
    clear hU
    go_enter Try.func7, Try.ntmps7
    go_wp2
    go_loopw [7, 8] (fun o a wr => ∃ (zd : List Int) (k : Nat), Hid (U = Un.more zd k (unp 2 4 (N - zd.length) (zs.drop k))) ∧ a = .int .i64 k ∧ k ≤ m ∧ zd.length ≤ N ∧ wr.ownsRow w.heap.size 5 1 o zd.length (zd.map (Value.int .u8)) ∧ Below w.heap.size w wr) (fun _ a _ => m + 1 - (intOf a).toNat)
    case atStart => exact ⟨[], 0, Lib.hid (by rw [HU.out, Un.more_nil]; rfl), rfl, by omega, by simp, World.ownsRow_nil _ _ _ _, Below.refl _ _⟩
    case round =>
      obtain ⟨zd, k, HP, rfl, hkm, hzN, hown, hbl⟩ := hrel
      have hsz := hbl.size
      obtain ⟨OA, oc, rfl⟩ := own_slice hown
      by_cases hlt : zd.length < N
      · by_cases hk : k < m
        · obtain ⟨ad, rfl, hab, hc0⟩ := u8_at (hr.below hbl) hk
          have lr := reads_tail (k := k) (hr.below hbl) hkm hmc
          rw [if_neg (show ¬ c = k by omega)] at lr
          have hck : ¬ c = k := by omega
          have hdl : (zs.drop k).length = m - k := by rw [List.length_drop, HL.out]
          simp only [Option.map_some] at lr
          have hX0 : (zs.drop k).getD 0 0 = zs.getD k 0 := by rw [getD_drop, Nat.add_zero]
          have hbX : isU8 (zs.drop k) := isU8_drop hb k
          generalize hX : zs.drop k = X at *
          have HX := Lib.hid hX
          clear hX
          have hI : (k : Int) ≤ (m : Int) := by omega
          have hI2 : (m : Int) ≤ (c : Int) := by omega
          have hI3 : (k : Int) ≤ (c : Int) := by omega
          have hm0 : (((m - k : Nat) : Int) == 0) = false := by simp; omega
          generalize hx0 : zs.getD k 0 = x0 at *
          have HX0 := Lib.hid hx0
          clear hx0
          -- cases
          by_cases h1 : x0 = 237
          · subst h1
            by_cases hL1 : 1 < m - k
            · have hIL : (1 : Int) < ((m - k : Nat) : Int) := by omega
              obtain ⟨ad1, e1, _, hc1⟩ := u8_at lr hL1
              injection e1 with e1
              subst e1
              rw [add_lit (ad.add k) 1 (by decide)] at hc1
              generalize hx1 : X.getD 1 0 = x1 at *
              by_cases hx : x1 = 237
              · subst hx
                by_cases hL4 : m - k < 4
                · have HU2 := Lib.hid (show U = .err 2 by rw [HP.out, unp_short (by omega) ⟨hX0, by rw [hdl]; exact hL1, hx1⟩ (by rw [hdl]; exact hL4)]; rfl)
                  have hIL4 : ((m - k : Nat) : Int) < 4 := by omega
                  go_wp2
                  go_ret3
                  rw [HU2.out]
                  exact ⟨_, rfl, World.ownsRow_nil _ _ _ _, hbl⟩
                · have hIL4 : (4 : Int) ≤ ((m - k : Nat) : Int) := by omega
                  obtain ⟨ad2, e2, _, hc2⟩ := u8_at lr (k := 2) (by omega)
                  injection e2 with e2
                  subst e2
                  rw [add_lit (ad.add k) 2 (by decide)] at hc2
                  have hb2 := isU8_at hbX (k := 2) (by rw [hdl]; omega)
                  have HFORM := Lib.hid (fun h => (show U = .err 4 by rw [HP.out, unp_form (by omega) ⟨hX0, by rw [hdl]; exact hL1, hx1⟩ (by rw [hdl]; omega) h]; rfl))
                  have HRUN := Lib.hid (fun h => (show U = Un.more (zd ++ List.replicate (X.getD 2 0).toNat (X.getD 3 0)) (k + 4) (unp 2 4 (N - (zd ++ List.replicate (X.getD 2 0).toNat (X.getD 3 0)).length) (zs.drop (k + 4))) by
                    rw [HP.out, unp_run (by omega) ⟨hX0, by rw [hdl]; exact hL1, hx1⟩ (by rw [hdl]; omega) h, Un.more_more, ← HX.out, List.drop_drop, List.length_append, List.length_replicate, Nat.sub_sub]))
                  have hc3 := fun wq (h : Below w.heap.size w wq) => (show wq.cell? ⟨(ad.add k).block, (ad.add k).off + 3, none⟩ = some (.int .u8 (X.getD 3 0)) by
                    have lq := reads_tail (k := k) (hr.below h) hkm hmc
                    rw [if_neg hck, HX.out] at lq
                    obtain ⟨ad3, e3, _, hc3⟩ := u8_at lq (k := 3) (by omega)
                    injection e3 with e3
                    subst e3
                    rw [add_lit (ad.add k) 3 (by decide)] at hc3
                    exact hc3)
                  have HC3 := Lib.hid hc3
                  clear hc3
                  generalize X.getD 2 0 = k0 at *
                  generalize X.getD 3 0 = y at *
                  obtain ⟨b20, b21⟩ := hb2
                  by_cases hk0 : k0 = 0
                  · subst hk0
                    have HU2 := Lib.hid (HFORM.out (.inl rfl))
                    go_wp2
                    go_ret3
                    rw [HU2.out]
                    exact ⟨_, rfl, World.ownsRow_nil _ _ _ _, hbl⟩
                  · have hk0b : (k0 == 0) = false := by simpa using hk0
                    by_cases hkr : ((N - zd.length : Nat) : Int) < k0
                    · have HU2 := Lib.hid (HFORM.out (.inr hkr))
                      have hI4 : (N : Int) - (zd.length : Int) < k0 := by omega
                      go_wp2
                      go_ret3
                      rw [HU2.out]
                      exact ⟨_, rfl, World.ownsRow_nil _ _ _ _, hbl⟩
                    · have HR := Lib.hid (HRUN.out (by omega))
                      have hI4 : k0 ≤ (N : Int) - (zd.length : Int) := by omega
                      clear HFORM HRUN hdl
                      obtain ⟨K0, rfl⟩ : ∃ K0 : Nat, k0 = K0 := ⟨k0.toNat, by omega⟩
                      rw [Int.toNat_natCast] at HR
                      go_wp2
                      go_loopw [7, 87] (fun o a wq => ∃ j : Nat, j ≤ K0 ∧ a = .int .i64 j ∧ wq.ownsRow w.heap.size 5 1 o (zd.length + j) ((zd ++ List.replicate j y).map (Value.int .u8)) ∧ Below w.heap.size w wq) (fun _ a _ => K0 - (intOf a).toNat)
                      case atStart => exact ⟨0, by omega, rfl, by simpa using hown, hbl⟩
                      case round =>
                        clear hown hbl hc0 hc1 hc2 lr hsz
                        obtain ⟨j, hj, rfl, hown, hbl⟩ := hrel
                        have hsz := hbl.size
                        by_cases hjl : j < K0
                        · have hc3 := HC3.out wr hbl
                          go_wp2_with (first
                            | (at_builtin; refine wpList_append_own _ rfl _ _ 22 rfl w.heap.size 5 i0 (.int .u8 0) 1 1 Try.underlying22 hi hz0 hz1 hz2 rfl (by decide) _ (zd.length + j) _ rfl (hown.alloc _) ⟨wr.heap.size, 0, none⟩ 1 1 [.int .u8 y] rfl rfl (World.news_of_block (cs := #[.int .u8 y]) (t := 5) (fr := (0, 0)) (heap_alloc_new wr _)) (by simp [Value.oneCell']) (by unfold maxLen; simp; omega) (by simp; omega) (by simp; omega) ?_)
                            | go_in)
                          intro v' w3 hown' hgrow _
                          have hb3 := (hbl.alloc hsz (.cells #[.int .u8 y] 5)).grown hgrow (by simp; omega) (fun j hj => (hown.lt j hj).1)
                          clear hgrow
                          clear hown
                          go_wp2
                          go_roundw
                          case rel => exact ⟨j + 1, by omega, by go_num, by simpa [List.replicate_succ', Nat.add_assoc] using hown', hb3⟩
                          case measure => simp [intOf]; omega
                        · obtain rfl : j = K0 := by omega
                          go_wp2
                          go_roundw
                          case rel => exact ⟨zd ++ List.replicate j y, k + 4, HR, by go_num, by omega, by simp; omega, by simpa using hown, hbl⟩
                          case measure => simp [intOf]; omega
              · have HR := Lib.hid (show U = Un.more (zd ++ [237]) (k + 1) (unp 2 4 (N - (zd ++ [237]).length) (zs.drop (k + 1))) by
                  rw [HP.out, unp_raw (by omega) (by rw [hdl]; omega) (by rw [hX0]; omega) (by rw [hX0, hdl]; omega), Un.more_more, hX0, ← HX.out, List.drop_drop, List.length_append]
                  rfl)
                clear hdl
                have hxb : (x1 == 237) = false := by simpa using hx
                go_wp2_with (first
                  | (at_builtin; refine wpList_append_own _ rfl _ _ 22 rfl w.heap.size 5 i0 (.int .u8 0) 1 1 Try.underlying22 hi hz0 hz1 hz2 rfl (by decide) _ (zd.length) _ rfl (hown.alloc _) ⟨wr.heap.size, 0, none⟩ 1 1 [.int .u8 237] rfl rfl (World.news_of_block (cs := #[.int .u8 237]) (t := 5) (fr := (0, 0)) (heap_alloc_new wr _)) (by simp [Value.oneCell']) (by unfold maxLen; simp; omega) (by simp; omega) (by simp; omega) ?_)
                  | go_in)
                intro v' w3 hown' hgrow _
                have hb3 := (hbl.alloc hsz (.cells #[.int .u8 237] 5)).grown hgrow (by simp; omega) (fun j hj => (hown.lt j hj).1)
                clear hgrow
                clear hown
                go_wp2
                go_roundw
                case rel => exact ⟨zd ++ [237], k + 1, HR, by go_num, by omega, by simp; omega, by simpa using hown', hb3⟩
                case measure => simp [intOf]; omega
            · have hL : m - k = 1 := by omega
              have hIL : ((m - k : Nat) : Int) = 1 := by omega
              by_cases hr1 : N - zd.length = 1
              · have HU2 := Lib.hid (show U = .ok (zd ++ [237]) (k + 1) by rw [HP.out, unp_raw (by omega) (by rw [hdl]; omega) (by rw [hdl]; omega) (by omega), hX0, hr1, unp_zero]; simp [Un.more])
                have hI4 : (N : Int) - (zd.length : Int) = 1 := by omega
                go_wp2_with (first
                  | (at_builtin; refine wpList_append_own _ rfl _ _ 22 rfl w.heap.size 5 i0 (.int .u8 0) 1 1 Try.underlying22 hi hz0 hz1 hz2 rfl (by decide) _ (zd.length) _ rfl (hown.alloc _) ⟨wr.heap.size, 0, none⟩ 1 1 [.int .u8 237] rfl rfl (World.news_of_block (cs := #[.int .u8 237]) (t := 5) (fr := (0, 0)) (heap_alloc_new wr _)) (by simp [Value.oneCell']) (by unfold maxLen; simp; omega) (by simp; omega) (by simp; omega) ?_)
                  | go_in)
                intro v' w3 hown' hgrow _
                have hb3 := (hbl.alloc hsz (.cells #[.int .u8 237] 5)).grown hgrow (by simp; omega) (fun j hj => (hown.lt j hj).1)
                clear hgrow
                go_wp2
                go_ret3
                rw [HU2.out]
                exact ⟨_, rfl, by simpa [Un.l] using hown', hb3⟩
              · have HU2 := Lib.hid (show U = .err 2 by rw [HP.out, unp_last (by omega) hX0 (by omega)]; rfl)
                have hI4 : (1 : Int) < (N : Int) - (zd.length : Int) := by omega
                go_wp2
                go_ret3
                rw [HU2.out]
                exact ⟨_, rfl, World.ownsRow_nil _ _ _ _, hbl⟩
          · have HR := Lib.hid (show U = Un.more (zd ++ [x0]) (k + 1) (unp 2 4 (N - (zd ++ [x0]).length) (zs.drop (k + 1))) by
              rw [HP.out, unp_raw (by omega) (by rw [hdl]; omega) (by rw [hX0]; omega) (by rw [hX0, hdl]; omega), Un.more_more, hX0, ← HX.out, List.drop_drop, List.length_append]
              rfl)
            clear hdl
            have hxb : (x0 == 237) = false := by simpa using h1
            go_wp2_with (first
              | (at_builtin; refine wpList_append_own _ rfl _ _ 22 rfl w.heap.size 5 i0 (.int .u8 0) 1 1 Try.underlying22 hi hz0 hz1 hz2 rfl (by decide) _ (zd.length) _ rfl (hown.alloc _) ⟨wr.heap.size, 0, none⟩ 1 1 [.int .u8 x0] rfl rfl (World.news_of_block (cs := #[.int .u8 x0]) (t := 5) (fr := (0, 0)) (heap_alloc_new wr _)) (by simp [Value.oneCell']) (by unfold maxLen; simp; omega) (by simp; omega) (by simp; omega) ?_)
              | go_in)
            intro v' w3 hown' hgrow _
            have hb3 := (hbl.alloc hsz (.cells #[.int .u8 x0] 5)).grown hgrow (by simp; omega) (fun j hj => (hown.lt j hj).1)
            clear hgrow
            clear hown
            go_wp2
            go_roundw
            case rel => exact ⟨zd ++ [x0], k + 1, HR, by go_num, by omega, by simp; omega, by simpa using hown', hb3⟩
            case measure => simp [intOf]; omega
          -- cases end
        · obtain rfl : k = m := by omega
          have HU2 := Lib.hid (show U = .err 2 by rw [HP.out, unp_none (by omega) (by rw [List.length_drop, HL.out]; omega)]; rfl)
          have hI2 : (k : Int) ≤ (c : Int) := by omega
          by_cases hck : c = k
          · go_wp2
            go_ret3
            rw [HU2.out]
            exact ⟨_, rfl, World.ownsRow_nil _ _ _ _, hbl⟩
          · go_wp2
            go_ret3
            rw [HU2.out]
            exact ⟨_, rfl, World.ownsRow_nil _ _ _ _, hbl⟩
      · have hr0 : N - zd.length = 0 := by omega
        have HP' := HP.out
        rw [hr0, unp_zero] at HP'
        have HPP := Lib.hid (show U = .ok zd k by rw [HP']; simp [Un.more])
        clear HP'
        go_wp2
        go_ret3
        rw [HPP.out]
        exact ⟨_, rfl, hown, hbl⟩

end Go.Proofs.Ythhodkadfenkbaa
