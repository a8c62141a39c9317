/- The law SymOne walked: the edges of any symbol are the document's. -/
import Derived.Test.YtkhbkfecnpnchaaR22
import Derived.OpenShut
import Derived.Deep.RegionWith
import Derived.Deep.CutRange
namespace Go.Proofs.Ytkhbkfecnpnchaa
open Go.RowKit Go.Joins

theorem own_slice {w : World} {B e size n : Nat} {v : Value} {xs : List Value} (h : w.ownsRow B e size v n xs) : ∃ A c, v = .slice A n c := by
  rcases h.2 with ⟨rfl, rfl⟩ | ⟨g, cap, cur, rfl, _⟩
  · exact ⟨_, _, rfl⟩
  · exact ⟨_, _, rfl⟩

set_option maxHeartbeats 2000000 in
theorem same_any (w : World) (v1 v2 : Value) (B1 B2 K : Nat) (h : Int) (zs : List Int) (h1 : w.ownsRow B1 60 2 v1 K (edgeL h zs K)) (h2 : w.ownsRow B2 61 2 v2 K (edgeL h zs K)) (hK : K ≤ 100000) :
    Calls Try.prog 13 #[v1, v2] w fun e w' => e = .returned (.bool true) ∧ ∃ n, w' = w.drewN n := by
  obtain ⟨A1, c1, rfl⟩ := own_slice h1
  obtain ⟨A2, c2, rfl⟩ := own_slice h2
  go_enter Try.func13, Try.ntmps13
  go_wp2
  go_loopw [5] (fun i wr => ∃ j n : Nat, j ≤ K ∧ i = .int .i64 j ∧ wr = w.drewN n) (fun i _ => K - (intOf i).toNat)
  case atStart => exact ⟨0, 0, by omega, rfl, rfl⟩
  case round =>
    obtain ⟨j, n, hj, rfl, rfl⟩ := hrel
    by_cases hlt : j < K
    · obtain ⟨g1, d1, e1, _, _⟩ := h1.form (by omega)
      obtain ⟨g2, d2, e2, _, _⟩ := h2.form (by omega)
      injection e1 with e1 _ e1'
      injection e2 with e2 _ e2'
      subst e1 e2 e1' e2'
      obtain ⟨p, q⟩ := edge_at (h := h) (zs := zs) hlt
      have a0 := (h1.cellAt (2 * j) (by omega)).trans p
      have a1 := (h1.cellAt (2 * j + 1) (by omega)).trans q
      have b0 := (h2.cellAt (2 * j) (by omega)).trans p
      have b1 := (h2.cellAt (2 * j + 1) (by omega)).trans q
      rw [show 2 * j = j * 2 by omega] at a0 a1 b0 b1
      clear p q
      generalize (if j = 0 then h else 0) = H at *
      generalize zs.getD j 0 = z at *
      go_wp2
      go_quiet (fail)
      go_wp2
      go_roundw
      case rel => exact ⟨j + 1, n + nq, by omega, by go_num, by first | rfl | rw [World.drewN_drewN]⟩
      case measure => simp [intOf]; omega
    · go_wp2
      go_ret
      exact ⟨rfl, n, rfl⟩

theorem row_i64 {w : World} {a : Option Addr} {len cap : Nat} {zs : List Int} (h : IsRow .i64 w a len cap zs) :
    Reads w w.heap.size 1 a len ((zs.take len).map (Value.int .i64)) := by
  rcases h with ⟨rfl, rfl, rfl, rfl⟩ | ⟨x, rfl, hb, hl, hc, hz, hcell, hw⟩
  · exact Reads.none_
  · refine ⟨by simp; omega, fun hn => ⟨x, rfl, by rcases hb with h0 | h0; omega; exact h0, fun j u hu => ?_⟩⟩
    simp only [List.getElem?_map, List.getElem?_take, Option.map_eq_some_iff] at hu
    obtain ⟨v, hv, rfl⟩ := hu
    split at hv
    · have hj : j < zs.length := by
        rcases Nat.lt_or_ge j zs.length with h | h
        · exact h
        · rw [List.getElem?_eq_none h] at hv; cases hv
      rw [hcell j hj, List.getD_eq_getElem?_getD, hv]
      rfl
    · cases hv

theorem lives22_num : cutK [5, 0, 7] = 1 ∧ edgeL (1 % 4) [5, 0, 7] 1 = [.int .i64 1, .int .i64 5] := ⟨by decide, rfl⟩
theorem lives22 (w : World) :
    Calls Try.prog 12 #[] w fun e w' => e = .returned (.bool true) ∧ Below w.heap.size w w' := by
  have hr : Reads (w.alloc (.cells #[.int .i64 5, .int .i64 0, .int .i64 7] 3)) (w.alloc (.cells #[.int .i64 5, .int .i64 0, .int .i64 7] 3)).heap.size 1 (some ⟨w.heap.size, 0, none⟩) 3 (([5, 0, 7] : List Int).map (Value.int .i64)) := by
    refine ⟨rfl, fun _ => ⟨_, rfl, by simp, fun j v hv => ?_⟩⟩
    rw [show (Addr.add ⟨w.heap.size, 0, none⟩ j) = ⟨w.heap.size, j, none⟩ by unfold Addr.add; split <;> simp_all, World.cell?_alloc_at _ _ _ _ rfl]
    simpa using hv
  go_enter Try.func12, Try.ntmps12
  go_wp2_with fail
  refine (symOf_any 1 _ 3 3 [5, 0, 7] _ (by omega) (by omega) hr (by omega)).mono ?_
  rintro e w1 ⟨v, rfl, hown, hb⟩
  rw [lives22_num.1, lives22_num.2] at hown
  obtain ⟨g, cap, rfl, _, _⟩ := hown.form (by omega)
  have a0 := hown.cellAt 0 (by omega)
  have a1 := hown.cellAt 1 (by omega)
  simp only [List.getElem?_cons_zero, List.getElem?_cons_succ] at a0 a1
  go_wp2
  go_ret
  exact ⟨rfl, ((Below.refl _ _).alloc (Nat.le_refl _) _).trans (hb.mono (by simp))⟩

theorem own_kept {w w' : World} {B e size n : Nat} {v : Value} {xs : List Value} (h : w.ownsRow B e size v n xs) (k : Below w.heap.size w w') : w'.ownsRow B e size v n xs :=
  h.kept (row := none) ⟨k.os, k.tape, k.output, k.size, fun j hj _ => k.block j hj⟩ (by cases hv : v.ownBlock <;> simp)

set_option maxHeartbeats 4000000 in
theorem symOne_walk (kind : Int) (A : Option Addr) (n c : Nat) (zs : List Int) (w : World) (w0 : (Lit.int .i64 kind).wf = true) (w1 : IsRow .i64 w A n c zs) :
    Calls Try.prog 3 #[.agg #[.int .i64 kind, .slice A n c]] w fun e w' => e = .returned (.bool true) ∧ Below w.heap.size w w' := by
  obtain ⟨q0, q1⟩ := bounds_i64 w0
  have hr := row_i64 w1
  clear w0 w1
  generalize zs.take n = ys at *
  by_cases hn : n ≤ 1000
  · have hl : ys.length = n := by have := hr.1; simpa using this
    have hk := cutK_le ys
    have hb0 : Below w.heap.size w (w.alloc (.cells #[.int .i64 kind, .slice A n c] 24)) := (Below.refl _ _).alloc (Nat.le_refl _) _
    have hr0 := (hr.below hb0).more hb0.size
    have k0 : (w.alloc (.cells #[.int .i64 kind, .slice A n c] 24)).cell? ⟨w.heap.size, 0, none⟩ = some (.int .i64 kind) := by rw [World.cell?_alloc_at _ _ _ _ rfl]; rfl
    have k1 : (w.alloc (.cells #[.int .i64 kind, .slice A n c] 24)).cell? ⟨w.heap.size, 1, none⟩ = some (.slice A n c) := by rw [World.cell?_alloc_at _ _ _ _ rfl]; rfl
    have hsz : w.heap.size < (w.alloc (.cells #[.int .i64 kind, .slice A n c] 24)).heap.size := by simp
    go_enter Try.func3, Try.ntmps3
    go_upto_region 3 with fail
    generalize w.alloc (.cells #[.int .i64 kind, .slice A n c] 24) = W at *
    go_region_with (first
      | (go_at_call 14
         refine (symOf_any kind A n c ys _ q0 q1 (hr0.drew) (by omega)).mono ?_
         rintro e wa ⟨va, rfl, howna, hba⟩
         have hba' : Below W.heap.size W wa := (Below.refl _ _).drew.trans hba
         have ka0 : wa.cell? ⟨w.heap.size, 0, none⟩ = some (.int .i64 kind) := (hba'.cell hsz).trans k0
         have ka1 : wa.cell? ⟨w.heap.size, 1, none⟩ = some (.slice A n c) := (hba'.cell hsz).trans k1)
      | (go_at_call 15
         refine (symOfR_any kind A n c ys _ q0 q1 ((hr0.below hba').more hba'.size) (by omega)).mono ?_
         rintro e wb ⟨vb, rfl, hownb, hbb⟩
         have hownc := own_kept howna hbb)
      | (go_at_call 13
         refine (same_any _ va vb _ _ (cutK ys) (kind % 4) ys hownc hownb (by omega)).mono ?_
         rintro e wc ⟨rfl, nc, rfl⟩)
      | (go_at_call 12
         refine (lives22 _).mono ?_
         rintro e wd ⟨rfl, hbd⟩)
      | fail)
    all_goals
      go_wp2
      go_ret
      exact ⟨rfl, bthen (bthen (bthen (bthen hb0 hba') hbb) (below_drewN (Below.refl _ _) _)) hbd⟩
  · have hn' : (1000 : Int) < n := by omega
    go_enter Try.func3, Try.ntmps3
    go_wp2_with fail
    refine (lives22 _).mono ?_
    rintro e wd ⟨rfl, hbd⟩
    go_wp2
    go_ret
    exact ⟨rfl, bthen ((Below.refl _ _).alloc (Nat.le_refl _) _) hbd⟩

end Go.Proofs.Ytkhbkfecnpnchaa
