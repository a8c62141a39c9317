/- The law AdlerDiffers walked: it returns true and writes nothing that was there. -/
import Derived.Test.YtkhbkfecnpnchaaLawAdler
import Derived.Test.YtkhbkfecnpnchaaP13b
import Derived.Deep.CutRange
import Derived.Deep.RegionWith
namespace Go.Proofs.Ytkhbkfecnpnchaa
open Go.RowKit

theorem u8Info : (Try.prog.info? 5).map (fun i => (i.zero, i.size, i.bytes)) = some (some (.int .u8 0), 1, 1) := by kernel_rfl

theorem own_len {w : World} {B e size n m cap g : Nat} {xs : List Value} (h : w.ownsRow B e size (.slice (some ⟨g, 0, none⟩) n cap) m xs) : n ≤ cap ∧ cap ≤ maxLen := by
  rcases h.2 with ⟨h0, _⟩ | ⟨g', cap', cur, hv, _, _, h1, h2, _⟩
  · cases h0
  · injection hv with _ e1 e2
    subst e1; subst e2
    exact ⟨h1, h2⟩
theorem of13_at (W : World) (g : Nat) (A : Option Addr) (n c : Nat) (ys : List Int) (B : Nat) (hg : g < W.heap.size) (hc : W.cell? ⟨g, 0, none⟩ = some (.slice A n c)) (hr : Reads W B 1 A n (ys.map (Value.int .u8))) (hB : B ≤ W.heap.size) (hnc : n ≤ c) (hcm : c ≤ maxLen) (hz : isU8 ys) :
    Calls Try.prog 28 #[.slice (some ⟨g, 0, none⟩) 1 1] W fun e w' => e = .returned (.int .u32 (adV (adF (1, 0) ys))) ∧ Below W.heap.size W w' := by
  refine (of13_any W _ 1 1 [⟨A, n, c, ys⟩] ⟨rfl, fun _ => ⟨_, rfl, hg, fun j u hj => ?_⟩⟩ (by unfold maxLen; omega) (fun q hq => ?_)).mono ?_
  · match j with
    | 0 => rw [show (Addr.add ⟨g, 0, none⟩ 0) = ⟨g, 0, none⟩ by simp [Addr.add], hc]; simpa [Piece.val] using hj
    | j + 1 => simp at hj
  · obtain rfl : q = _ := by simpa using hq
    exact ⟨hr.more hB, hnc, hcm, hz⟩
  · rintro e w' ⟨rfl, hb⟩
    exact ⟨by simp [bytesOf], hb⟩

set_option maxHeartbeats 4000000 in
theorem adlerDiffers_walk (A : Option Addr) (n c : Nat) (zs : List Int) (x v : Int) (w : World) (w0 : IsRow .u8 w A n c zs) (w1 : (Lit.int .i64 x).wf = true) (w2 : (Lit.int .u8 v).wf = true) :
    Calls Try.prog 8 #[.slice A n c, .int .i64 x, .int .u8 v] w fun e w' => e = .returned (.bool true) ∧ Below w.heap.size w w' := by
  obtain ⟨hr, hz, hnc, hc⟩ := row_u8 w0
  obtain ⟨x0, x1⟩ := bounds_i64 w1
  obtain ⟨v0, v1⟩ := bounds_u8 w2
  clear w0 w1 w2
  generalize zs.take n = ys at *
  unfold maxLen at hc
  obtain ⟨i0, hi, hz0, hz1, hz2⟩ := info_parts u8Info
  go_enter Try.func8, Try.ntmps8
  go_upto_region 3 with (first
    | (go_at_call 27; refine (lives13 _).mono ?_; rintro e w3 ⟨rfl, hb3⟩) | fail)
  · go_ret
    exact ⟨rfl, hb3⟩
  · go_ret
    exact ⟨rfl, hb3⟩
  · go_cut [7] from 9 to 23 (fun s7 wx => ∃ k : Nat, s7 = .int .i64 k ∧ k < n ∧ w = wx)
    case first =>
      go_wp2_with fail
      all_goals
        go_meet
        first
          | exact ⟨0, rfl, by omega, rfl⟩
          | exact ⟨n - 1, by congr 1; omega, by omega, rfl⟩
          | exact ⟨x.toNat, by congr 1; omega, by omega, rfl⟩
    case rest =>
      obtain ⟨k, rfl, hk, rfl⟩ := hcut
      have hl : ys.length = n := by have := hr.1; simpa using this
      have h1 : ∀ u ∈ ys.map (Value.int .u8), u.oneCell' = true := fun u hu => by
        simp only [List.mem_map] at hu
        obtain ⟨z, _, rfl⟩ := hu
        rfl
      go_wp2_with (first
        | (at_builtin; refine wpList_append_any _ rfl _ _ 40 rfl w.heap.size 5 i0 (.int .u8 0) 1 1 Try.underlying40 hi hz0 hz1 hz2 rfl (by decide) _ 0 [] rfl (World.ownsRow_nil _ _ _ _) w.heap.size A n c (ys.map (Value.int .u8)) rfl hr h1 ?c1 ?c2 ?c3 ?_)
        | fail)
      case c1 => unfold maxLen; omega
      case c2 => omega
      case c3 => exact Nat.le_refl _
      intro v' w1 hown hgrow _
      obtain ⟨g, cap, rfl, hg0, hg1⟩ := hown.form (by omega)
      have hb1 : Below w.heap.size w w1 := (Below.refl _ _).grown hgrow (Nat.le_refl _) (fun i hi => by simp [Value.ownBlock] at hi)
      have hcl := hown.cellAt
      have hfz := hown.frozenAt
      obtain ⟨hw2, hg2⟩ := hown.stored k (.int .u8 v)
      go_upto_region 7 with fail
      have hb2 : Below w.heap.size w (w1.setCell ⟨g, k, none⟩ (.int .u8 v)) := hb1.grown hg2 hb1.size (fun i hi => by injection hi with hi; omega)
      rw [← List.map_set] at hw2
      have hrc := Reads.of_own hw2
      have hr2 := (hr.below hb2).more hb2.size
      obtain ⟨ad, rfl, hab, hld⟩ := u8_at hr2 hk
      have KF := ad_differs (l := ys) (i := k) (v := v) (by omega) (isU8_at hz (by omega)) v0 v1
      have hzc : isU8 (ys.set k v) := by
        intro z hm
        rcases List.mem_or_eq_of_mem_set hm with h | rfl
        · exact hz z h
        · exact ⟨v0, v1⟩
      have hcap := own_len hw2
      clear hcl hfz hgrow hown hg2 hw2 hr h1 hi hz0 hz1 hz2 hb1
      generalize w1.setCell ⟨g, k, none⟩ (.int .u8 v) = w2 at *
      have hs2 := hb2.size
      have ha1 : ∀ o, (w2.alloc o).cell? (ad.add k) = some (.int .u8 (ys.getD k 0)) := fun o => by rw [World.cell?_alloc_lt _ _ _ (by rw [block_of_add]; exact hab)]; exact hld
      have ha2 : ∀ o o', ((w2.alloc o).alloc o').cell? (ad.add k) = some (.int .u8 (ys.getD k 0)) := fun o o' => by rw [World.cell?_alloc_lt _ _ _ (by rw [block_of_add]; simp; omega)]; exact ha1 o
      obtain ⟨hcap1, hcap2⟩ := hcap
      have hcm : c ≤ maxLen := by unfold maxLen; omega
      go_region_with (first
        | (go_at_call 27; refine (lives13 _).mono ?_; rintro e w5 ⟨rfl, hb5⟩)
        | (go_at_call 28
           refine (of13_at _ _ (some ad) n c ys w2.heap.size ?_ ?_ (hr2.below ?_) ?_ hnc hcm hz).mono ?_
           · first | (simp; done) | (simp; omega)
           · first | (show (World.alloc _ _).cell? _ = _; rw [World.cell?_alloc_at _ _ _ _ (by first | rfl | simp)]; rfl) | (show (World.alloc (World.alloc _ _) _).cell? _ = _; rw [World.cell?_alloc_lt _ _ _ (by first | (simp; done) | (simp; omega)), World.cell?_alloc_at _ _ _ _ (by first | rfl | simp)]; rfl)
           · repeat (first | exact Below.refl _ _ | refine Below.drew ?_ | refine Below.alloc ?_ (by first | (simp; done) | (simp; omega)) _)
           · first | (simp; done) | (simp; omega)
           rintro e w3 ⟨rfl, hb3⟩
           have q0 : Below w2.heap.size w2 w3 := Below.trans (by repeat (first | exact Below.refl _ _ | refine Below.drew ?_ | refine Below.alloc ?_ (by first | (simp; done) | (simp; omega)) _)) (hb3.mono (by first | (simp; done) | (simp; omega)))
           have q1 : w3.cell? (ad.add k) = some (.int .u8 (ys.getD k 0)) := (q0.cell (by rw [block_of_add]; exact hab)).trans hld
           have q2 : ∀ o, (w3.alloc o).cell? (ad.add k) = some (.int .u8 (ys.getD k 0)) := fun o => by rw [World.cell?_alloc_lt _ _ _ (by rw [block_of_add]; have := q0.size; omega)]; exact q1)
        | (go_at_call 28
           refine (of13_at _ _ (some ⟨g, 0, none⟩) n cap (ys.set k v) w2.heap.size ?_ ?_ (hrc.below ?_) ?_ hcap1 hcap2 hzc).mono ?_
           · first | (simp; done) | (have := hb3.size; simp at this; omega) | (have := hb3.size; simp at this; simp; omega)
           · first
             | first | (show (World.alloc _ _).cell? _ = _; rw [World.cell?_alloc_at _ _ _ _ (by first | rfl | simp)]; rfl) | (show (World.alloc (World.alloc _ _) _).cell? _ = _; rw [World.cell?_alloc_lt _ _ _ (by first | (simp; done) | (simp; omega)), World.cell?_alloc_at _ _ _ _ (by first | rfl | simp)]; rfl)
             | (refine (hb3.cell ?_).trans ?_
                · first | (simp; done) | (simp; omega)
                · first | (show (World.alloc _ _).cell? _ = _; rw [World.cell?_alloc_at _ _ _ _ (by first | rfl | simp)]; rfl) | (show (World.alloc (World.alloc _ _) _).cell? _ = _; rw [World.cell?_alloc_lt _ _ _ (by first | (simp; done) | (simp; omega)), World.cell?_alloc_at _ _ _ _ (by first | rfl | simp)]; rfl))
           · repeat (first | exact q0 | refine Below.drew ?_ | refine Below.alloc ?_ q0.size _)
           · have := q0.size; first | omega | (simp; omega)
           rintro e w4 ⟨rfl, hb4⟩
           have r0 : Below w2.heap.size w2 w4 := Below.trans (by repeat (first | exact q0 | refine Below.drew ?_ | refine Below.alloc ?_ q0.size _)) (hb4.mono (by have := q0.size; first | omega | (simp; omega)))
           have r1 : w4.cell? (ad.add k) = some (.int .u8 (ys.getD k 0)) := (r0.cell (by rw [block_of_add]; exact hab)).trans hld)
        | fail)
      all_goals
        go_wp2
        go_ret
        exact ⟨rfl, (hb2.trans (r0.mono hs2)).trans (hb5.mono (Nat.le_trans hs2 r0.size))⟩

end Go.Proofs.Ytkhbkfecnpnchaa
