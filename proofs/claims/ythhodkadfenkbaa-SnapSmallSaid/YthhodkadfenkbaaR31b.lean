/- Contracts of layer 31: the program's packing. -/
import Derived.Test.YthhodkadfenkbaaR31
import Derived.Deep.RegionHeld3
namespace Go.Proofs.Ythhodkadfenkbaa
open Go.RowKit

def lenOf (v : Value) : Nat := match v with | .slice _ n _ => n | _ => 0
theorem reads_tail {w : World} {B r lc k : Nat} {la : Option Addr} {zr : List Int} (h : Reads w B 1 la r (zr.map (Value.int .u8))) (hk : k ≤ r) (hc : r ≤ lc) :
    Reads w B 1 (if lc = k then la else la.map (·.add k)) (r - k) ((zr.drop k).map (Value.int .u8)) := by
  have := h.cut hk hc
  simpa [Nat.mul_one, List.map_drop] using this

set_option maxRecDepth 100000 in
set_option maxHeartbeats 4000000 in
theorem pack_any (w : World) (n c : Nat) (A : Option Addr) (zs : List Int) (hr : Reads w w.heap.size 1 A n (zs.map (Value.int .u8))) (hn : n ≤ 100000) (hnc : n ≤ c) (hc : c ≤ 9223372036854775807) :
    Calls Try.prog 6 #[.slice A n c] w fun e w' => ∃ v, e = .returned v ∧ w'.ownsRow w.heap.size 5 1 v (packL false zs).length ((packL false zs).map (Value.int .u8)) ∧ Below w.heap.size w w' := by
  obtain ⟨i0, hi, hz0, hz1, hz2⟩ := info_parts u8Info
  have HL := Lib.hid (reads_len hr)
  go_enter Try.func6, Try.ntmps6
  go_wp2
  go_loopw [3, 4, 0] (fun o a b wr => ∃ (zd zr : List Int) (al : Bool) (r lc : Nat) (la : Option Addr), Hid (packL false zs = zd ++ packL al zr) ∧ b = .slice la r lc ∧ a = .bool al ∧ Reads w w.heap.size 1 la r (zr.map (Value.int .u8)) ∧ r ≤ lc ∧ lc ≤ 9223372036854775807 ∧ zd.length + 2 * r ≤ 2 * n ∧ wr.ownsRow w.heap.size 5 1 o zd.length (zd.map (Value.int .u8)) ∧ Below w.heap.size w wr) (fun _ _ b _ => lenOf b)
  case atStart => exact ⟨[], zs, false, n, c, A, rfl, rfl, rfl, hr, hnc, hc, by simp, World.ownsRow_nil _ _ _ _, Below.refl _ _⟩
  case round =>
    clear hr hnc hc
    obtain ⟨zd, zr, al, r, lc, la, HP, rfl, rfl, lr, l1, l2, l3, hown, hbl⟩ := hrel
    have HLR := Lib.hid (reads_len lr)
    by_cases hr0 : 0 < r
    · obtain ⟨ad, rfl, hab, hc0⟩ := u8_at (lr.below hbl) hr0
      rw [add_zero_] at hc0
      have hpos : 0 < zr.length := by rw [HLR.out]; exact hr0
      have hK1 : 1 ≤ runN zr := by cases zr with | nil => simp at hpos | cons x t => exact runN_pos x t
      have hKr : runN zr ≤ r := by rw [← HLR.out]; exact runN_le zr
      have hK255 := runN_255 zr
      have hcases : (∃ al', Hid (packL al zr = zr.getD 0 0 :: packL al' (zr.drop 1)) ∧ ((al = true ∧ (zr.getD 0 0 == 237) = true ∧ al' = false) ∨ (al = true ∧ (zr.getD 0 0 == 237) = false ∧ al' = false) ∨ (al = false ∧ decide ((runN zr : Int) < 5) = true ∧ (zr.getD 0 0 == 237) = false ∧ al' = false) ∨ (al = false ∧ decide ((runN zr : Int) < 5) = true ∧ (zr.getD 0 0 == 237) = true ∧ decide ((runN zr : Int) < 2) = true ∧ al' = true))) ∨
          (Hid (packL al zr = 237 :: 237 :: (runN zr : Int) :: zr.getD 0 0 :: packL false (zr.drop (runN zr))) ∧ al = false ∧ (decide ((runN zr : Int) < 5) = false ∨ (decide ((runN zr : Int) < 5) = true ∧ (zr.getD 0 0 == 237) = true ∧ decide ((runN zr : Int) < 2) = false))) := by
        cases hrw : rawB al zr with
        | true =>
          refine .inl ⟨zr.getD 0 0 == 237 && !al, Lib.hid (packL_raw hpos hrw), ?_⟩
          by_cases hz : zr.getD 0 0 = 237
          · have hz1 : (zr.getD 0 0 == 237) = true := by simpa using hz
            rw [hz1]
            cases al with
            | true => exact .inl ⟨rfl, rfl, rfl⟩
            | false =>
              rcases rawB_true hrw with h | ⟨h1, h2 | h2⟩
              · cases h
              · exact absurd hz h2
              · exact .inr (.inr (.inr ⟨rfl, decide_eq_true (by omega), rfl, decide_eq_true (by omega), rfl⟩))
          · have hz' : (zr.getD 0 0 == 237) = false := by simpa using hz
            rw [hz']
            cases al with
            | true => exact .inr (.inl ⟨rfl, rfl, rfl⟩)
            | false =>
              rcases rawB_true hrw with h | ⟨h1, _⟩
              · cases h
              · exact .inr (.inr (.inl ⟨rfl, decide_eq_true (by omega), rfl, rfl⟩))
        | false =>
          obtain ⟨h1, h2⟩ := rawB_false hrw
          refine .inr ⟨Lib.hid (packL_run hpos hrw), h1, ?_⟩
          rcases h2 with h2 | ⟨h2, h3⟩
          · exact .inl (decide_eq_false (by omega))
          · by_cases h5 : 5 ≤ (runN zr : Int)
            · exact .inl (decide_eq_false (by omega))
            · exact .inr ⟨decide_eq_true (by omega), by simpa using h2, decide_eq_false (by omega)⟩
      have tail1 := reads_tail (k := 1) lr (by omega) l1
      have tailK := reads_tail (k := runN zr) lr hKr l1
      have HT1 := Lib.hid tail1
      have HTK := Lib.hid tailK
      have hsame := fun w' (h : Below w.heap.size w w') => same31_any w' w.heap.size r lc (some ad) zr (lr.below h) hr0 (by omega) l1
      have HS := Lib.hid hsame
      clear tail1 tailK hsame lr
      generalize hK : runN zr = K at *
      generalize hz : zr.getD 0 0 = z at *
      have HKK := Lib.hid hK
      have HZZ := Lib.hid hz
      clear hK hz hpos
      rcases hcases with ⟨al', HR, hcs⟩ | ⟨HR, rfl, hcs⟩
      · rcases hcs with ⟨rfl, hz, rfl⟩ | ⟨rfl, hz, rfl⟩ | ⟨rfl, h5, hz, rfl⟩ | ⟨rfl, h5, hz, h2, rfl⟩
        -- raw cases
        · obtain rfl : z = 237 := by simpa using hz
          clear hz
          go_wp2_with fail
          refine (HS.out _ hbl).mono ?_
          rintro e w1 ⟨rfl, q, rfl⟩
          have hbl1 := below_drewN hbl q
          have hown1 := own_kept hown (below_drewN (Below.refl _ _) q)
          have hc1 : (wr.drewN q).cell? ad = _ := hc0
          clear hbl hown hc0
          generalize wr.drewN q = W at *
          have hsz := hbl1.size
          have hadW : ad.block < W.heap.size := by omega
          have hneo : ∀ g, u3.ownBlock = some g → ad.block ≠ g := fun g hg e => by have := (hown1.lt g hg).1; omega
          have hne : some ad.block ≠ u3.ownBlock := fun e => hneo _ e.symm rfl
          have HNE := Lib.hid hne
          clear hne hneo
          have hI1 : (1 : Int) ≤ (r : Int) := by omega
          have hIl : (r : Int) ≤ (lc : Int) := by omega
          have hIc : (1 : Int) ≤ (lc : Int) := by omega
          go_upto_region 7 with fail
          go_region_held3 (fun w' => w'.cell? ad = some (.int .u8 237))
            (first
              | go_keep
              | (rw [hgrow3.cell_far _ (by simp; omega) HNE.out]; go_keep))
            (first
              | (refine step_append_lies _ (by rfl) _ _ _ (by rfl) w.heap.size 5 i0 (.int .u8 0) 1 1 Try.underlying22 hi hz0 hz1 hz2 rfl (by decide) u3 zd.length _ (by rfl) ((hown1.alloc _).drew) ⟨W.heap.size, 0, none⟩ 1 1 [.int .u8 237] (by rfl) (by rfl) (World.news_of_block (cs := #[.int .u8 237]) (t := 5) (fr := (0, 0)) (heap_alloc_new W _)) (by simp [Value.oneCell']) (by omega) (by unfold maxLen; omega) (by omega) (by simp; omega) (W.heap.size + 1) (by simp) ?_; intro gg cap3 W3 hown3 hgrow3 hat hgl))
          all_goals
            have hb3 : Below w.heap.size w W3 := ((hbl1.alloc hsz _).drew).grown hgrow3 (by simp; omega) (fun i hi => (hown1.lt i hi).1)
            go_wp2
            go_roundw
            case rel =>
              refine ⟨zd ++ [237], zr.drop 1, false, r - 1, lc - 1, _, Lib.hid (by rw [HP.out, HR.out]; simp), rfl, rfl, ?_, by omega, by omega, by simp; omega, by simpa using hown3, hb3⟩
              have hcut := HT1.out
              first | exact hcut | simpa using hcut
            case measure => simp [lenOf]; omega
        · have hzn : z ≠ 237 := by simpa using hz
          go_wp2_with fail
          refine (HS.out _ hbl).mono ?_
          rintro e w1 ⟨rfl, q, rfl⟩
          have hbl1 := below_drewN hbl q
          have hown1 := own_kept hown (below_drewN (Below.refl _ _) q)
          have hc1 : (wr.drewN q).cell? ad = _ := hc0
          clear hbl hown hc0
          generalize wr.drewN q = W at *
          have hsz := hbl1.size
          have hadW : ad.block < W.heap.size := by omega
          have hneo : ∀ g, u3.ownBlock = some g → ad.block ≠ g := fun g hg e => by have := (hown1.lt g hg).1; omega
          have hne : some ad.block ≠ u3.ownBlock := fun e => hneo _ e.symm rfl
          have HNE := Lib.hid hne
          clear hne hneo
          have hI1 : (1 : Int) ≤ (r : Int) := by omega
          have hIl : (r : Int) ≤ (lc : Int) := by omega
          have hIc : (1 : Int) ≤ (lc : Int) := by omega
          go_upto_region 7 with fail
          go_region_held3 (fun w' => w'.cell? ad = some (.int .u8 z))
            (first
              | go_keep
              | (rw [hgrow3.cell_far _ (by simp; omega) HNE.out]; go_keep))
            (first
              | (refine step_append_lies _ (by rfl) _ _ _ (by rfl) w.heap.size 5 i0 (.int .u8 0) 1 1 Try.underlying22 hi hz0 hz1 hz2 rfl (by decide) u3 zd.length _ (by rfl) ((hown1.alloc _).drew) ⟨W.heap.size, 0, none⟩ 1 1 [.int .u8 z] (by rfl) (by rfl) (World.news_of_block (cs := #[.int .u8 z]) (t := 5) (fr := (0, 0)) (heap_alloc_new W _)) (by simp [Value.oneCell']) (by omega) (by unfold maxLen; omega) (by omega) (by simp; omega) (W.heap.size + 1) (by simp) ?_; intro gg cap3 W3 hown3 hgrow3 hat hgl))
          all_goals
            have hb3 : Below w.heap.size w W3 := ((hbl1.alloc hsz _).drew).grown hgrow3 (by simp; omega) (fun i hi => (hown1.lt i hi).1)
            go_wp2
            go_roundw
            case rel =>
              refine ⟨zd ++ [z], zr.drop 1, false, r - 1, lc - 1, _, Lib.hid (by rw [HP.out, HR.out]; simp), rfl, rfl, ?_, by omega, by omega, by simp; omega, by simpa using hown3, hb3⟩
              have hcut := HT1.out
              first | exact hcut | simpa using hcut
            case measure => simp [lenOf]; omega
        · have h5' := of_decide_eq_true h5
          have hzn : z ≠ 237 := by simpa using hz
          go_wp2_with fail
          refine (HS.out _ hbl).mono ?_
          rintro e w1 ⟨rfl, q, rfl⟩
          have hbl1 := below_drewN hbl q
          have hown1 := own_kept hown (below_drewN (Below.refl _ _) q)
          have hc1 : (wr.drewN q).cell? ad = _ := hc0
          clear hbl hown hc0
          generalize wr.drewN q = W at *
          have hsz := hbl1.size
          have hadW : ad.block < W.heap.size := by omega
          have hneo : ∀ g, u3.ownBlock = some g → ad.block ≠ g := fun g hg e => by have := (hown1.lt g hg).1; omega
          have hne : some ad.block ≠ u3.ownBlock := fun e => hneo _ e.symm rfl
          have HNE := Lib.hid hne
          clear hne hneo
          have hI1 : (1 : Int) ≤ (r : Int) := by omega
          have hIl : (r : Int) ≤ (lc : Int) := by omega
          have hIc : (1 : Int) ≤ (lc : Int) := by omega
          go_upto_region 7 with fail
          go_region_held3 (fun w' => w'.cell? ad = some (.int .u8 z))
            (first
              | go_keep
              | (rw [hgrow3.cell_far _ (by simp; omega) HNE.out]; go_keep))
            (first
              | (refine step_append_lies _ (by rfl) _ _ _ (by rfl) w.heap.size 5 i0 (.int .u8 0) 1 1 Try.underlying22 hi hz0 hz1 hz2 rfl (by decide) u3 zd.length _ (by rfl) ((hown1.alloc _).drew) ⟨W.heap.size, 0, none⟩ 1 1 [.int .u8 z] (by rfl) (by rfl) (World.news_of_block (cs := #[.int .u8 z]) (t := 5) (fr := (0, 0)) (heap_alloc_new W _)) (by simp [Value.oneCell']) (by omega) (by unfold maxLen; omega) (by omega) (by simp; omega) (W.heap.size + 1) (by simp) ?_; intro gg cap3 W3 hown3 hgrow3 hat hgl))
          all_goals
            have hb3 : Below w.heap.size w W3 := ((hbl1.alloc hsz _).drew).grown hgrow3 (by simp; omega) (fun i hi => (hown1.lt i hi).1)
            go_wp2
            go_roundw
            case rel =>
              refine ⟨zd ++ [z], zr.drop 1, false, r - 1, lc - 1, _, Lib.hid (by rw [HP.out, HR.out]; simp), rfl, rfl, ?_, by omega, by omega, by simp; omega, by simpa using hown3, hb3⟩
              have hcut := HT1.out
              first | exact hcut | simpa using hcut
            case measure => simp [lenOf]; omega
        · have h5' := of_decide_eq_true h5
          have h2' := of_decide_eq_true h2
          obtain rfl : z = 237 := by simpa using hz
          clear hz
          go_wp2_with fail
          refine (HS.out _ hbl).mono ?_
          rintro e w1 ⟨rfl, q, rfl⟩
          have hbl1 := below_drewN hbl q
          have hown1 := own_kept hown (below_drewN (Below.refl _ _) q)
          have hc1 : (wr.drewN q).cell? ad = _ := hc0
          clear hbl hown hc0
          generalize wr.drewN q = W at *
          have hsz := hbl1.size
          have hadW : ad.block < W.heap.size := by omega
          have hneo : ∀ g, u3.ownBlock = some g → ad.block ≠ g := fun g hg e => by have := (hown1.lt g hg).1; omega
          have hne : some ad.block ≠ u3.ownBlock := fun e => hneo _ e.symm rfl
          have HNE := Lib.hid hne
          clear hne hneo
          have hI1 : (1 : Int) ≤ (r : Int) := by omega
          have hIl : (r : Int) ≤ (lc : Int) := by omega
          have hIc : (1 : Int) ≤ (lc : Int) := by omega
          go_upto_region 7 with fail
          go_region_held3 (fun w' => w'.cell? ad = some (.int .u8 237))
            (first
              | go_keep
              | (rw [hgrow3.cell_far _ (by simp; omega) HNE.out]; go_keep))
            (first
              | (refine step_append_lies _ (by rfl) _ _ _ (by rfl) w.heap.size 5 i0 (.int .u8 0) 1 1 Try.underlying22 hi hz0 hz1 hz2 rfl (by decide) u3 zd.length _ (by rfl) ((hown1.alloc _).drew) ⟨W.heap.size, 0, none⟩ 1 1 [.int .u8 237] (by rfl) (by rfl) (World.news_of_block (cs := #[.int .u8 237]) (t := 5) (fr := (0, 0)) (heap_alloc_new W _)) (by simp [Value.oneCell']) (by omega) (by unfold maxLen; omega) (by omega) (by simp; omega) (W.heap.size + 1) (by simp) ?_; intro gg cap3 W3 hown3 hgrow3 hat hgl))
          all_goals
            have hb3 : Below w.heap.size w W3 := ((hbl1.alloc hsz _).drew).grown hgrow3 (by simp; omega) (fun i hi => (hown1.lt i hi).1)
            go_wp2
            go_roundw
            case rel =>
              refine ⟨zd ++ [237], zr.drop 1, true, r - 1, lc - 1, _, Lib.hid (by rw [HP.out, HR.out]; simp), rfl, rfl, ?_, by omega, by omega, by simp; omega, by simpa using hown3, hb3⟩
              have hcut := HT1.out
              first | exact hcut | simpa using hcut
            case measure => simp [lenOf]; omega
        -- raw cases end
      · rcases hcs with h5 | ⟨h5, hz, h2⟩
        -- run cases
        · have h5' : 5 ≤ (K : Int) := by have := of_decide_eq_false h5; omega
          go_wp2_with fail
          refine (HS.out _ hbl).mono ?_
          rintro e w1 ⟨rfl, q, rfl⟩
          have hbl1 := below_drewN hbl q
          have hown1 := own_kept hown (below_drewN (Below.refl _ _) q)
          have hc1 : (wr.drewN q).cell? ad = _ := hc0
          clear hbl hown hc0
          generalize wr.drewN q = W at *
          have hsz := hbl1.size
          go_wp2_with (first
            | (at_builtin; refine wpList_append_own _ rfl _ _ 22 rfl w.heap.size 5 i0 (.int .u8 0) 1 1 Try.underlying22 hi hz0 hz1 hz2 rfl (by decide) _ _ _ rfl (hown1.alloc _) ⟨_, 0, none⟩ 4 4 [.int .u8 237, .int .u8 237, .int .u8 K, .int .u8 z] rfl rfl ?c1 ?c2 ?c3 ?c4 ?c5 ?_)
            | go_in)
          case c1 =>
            intro i u hi
            match i, hi with
            | 0, hi => simp at hi; subst hi; simp [Addr.add]
            | 1, hi => simp at hi; subst hi; simp [Addr.add]
            | 2, hi => simp at hi; subst hi; simp [Addr.add]
            | 3, hi => simp at hi; subst hi; simp [Addr.add]
          case c2 => intro u hu; simp at hu; rcases hu with rfl | rfl | rfl | rfl <;> rfl
          case c3 => unfold maxLen; omega
          case c4 => omega
          case c5 => simp; omega
          intro v' w3 hown' hgrow _
          have hb3 := (hbl1.alloc hsz (.cells #[.int .u8 237, .int .u8 237, .int .u8 K, .int .u8 z] 5)).grown hgrow (by simp; omega) (fun j hj => (hown1.lt j hj).1)
          have hI1 : (K : Int) ≤ (r : Int) := by omega
          have hIl : (r : Int) ≤ (lc : Int) := by omega
          have hIc : (K : Int) ≤ (lc : Int) := by omega
          clear hgrow hown1
          go_wp2
          go_roundw
          case rel =>
            refine ⟨zd ++ [237, 237, (K : Int), z], zr.drop K, false, r - K, lc - K, _, Lib.hid (by rw [HP.out, HR.out]; simp), rfl, rfl, ?_, by omega, by omega, by simp; omega, by simpa using hown', hb3⟩
            have hcut := HTK.out
            first | exact hcut | simpa using hcut
          case measure => simp [lenOf]; omega
        · have h5' := of_decide_eq_true h5
          have h2' : 2 ≤ (K : Int) := by have := of_decide_eq_false h2; omega
          obtain rfl : z = 237 := by simpa using hz
          clear hz
          go_wp2_with fail
          refine (HS.out _ hbl).mono ?_
          rintro e w1 ⟨rfl, q, rfl⟩
          have hbl1 := below_drewN hbl q
          have hown1 := own_kept hown (below_drewN (Below.refl _ _) q)
          have hc1 : (wr.drewN q).cell? ad = _ := hc0
          clear hbl hown hc0
          generalize wr.drewN q = W at *
          have hsz := hbl1.size
          go_wp2_with (first
            | (at_builtin; refine wpList_append_own _ rfl _ _ 22 rfl w.heap.size 5 i0 (.int .u8 0) 1 1 Try.underlying22 hi hz0 hz1 hz2 rfl (by decide) _ _ _ rfl (hown1.alloc _) ⟨_, 0, none⟩ 4 4 [.int .u8 237, .int .u8 237, .int .u8 K, .int .u8 237] rfl rfl ?c1 ?c2 ?c3 ?c4 ?c5 ?_)
            | go_in)
          case c1 =>
            intro i u hi
            match i, hi with
            | 0, hi => simp at hi; subst hi; simp [Addr.add]
            | 1, hi => simp at hi; subst hi; simp [Addr.add]
            | 2, hi => simp at hi; subst hi; simp [Addr.add]
            | 3, hi => simp at hi; subst hi; simp [Addr.add]
          case c2 => intro u hu; simp at hu; rcases hu with rfl | rfl | rfl | rfl <;> rfl
          case c3 => unfold maxLen; omega
          case c4 => omega
          case c5 => simp; omega
          intro v' w3 hown' hgrow _
          have hb3 := (hbl1.alloc hsz (.cells #[.int .u8 237, .int .u8 237, .int .u8 K, .int .u8 237] 5)).grown hgrow (by simp; omega) (fun j hj => (hown1.lt j hj).1)
          have hI1 : (K : Int) ≤ (r : Int) := by omega
          have hIl : (r : Int) ≤ (lc : Int) := by omega
          have hIc : (K : Int) ≤ (lc : Int) := by omega
          clear hgrow hown1
          go_wp2
          go_roundw
          case rel =>
            refine ⟨zd ++ [237, 237, (K : Int), 237], zr.drop K, false, r - K, lc - K, _, Lib.hid (by rw [HP.out, HR.out]; simp), rfl, rfl, ?_, by omega, by omega, by simp; omega, by simpa using hown', hb3⟩
            have hcut := HTK.out
            first | exact hcut | simpa using hcut
          case measure => simp [lenOf]; omega
        -- run cases end
    · have hr' : r = 0 := by omega
      subst hr'
      have hzr : zr = [] := List.eq_nil_of_length_eq_zero HLR.out
      subst hzr
      have HP' := HP.out
      rw [packL_nil, List.append_nil] at HP'
      go_wp2
      go_ret
      rw [HP']
      exact ⟨_, rfl, hown, hbl⟩

end Go.Proofs.Ythhodkadfenkbaa
