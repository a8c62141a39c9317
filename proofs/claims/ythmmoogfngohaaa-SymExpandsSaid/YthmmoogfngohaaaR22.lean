/- Layer 22: the edges of a symbol: the program's and the document's contracts, and the comparison of both. -/
import Derived.Test.YthmmoogfngohaaaProg
import Derived.Test.YthmmoogfngohaaaBase
import Derived.BigRegion
import Derived.Lib.SmallJoins
namespace Go.Proofs.Ythmmoogfngohaaa
open Go.RowKit Go.Joins

/-- how many pulses count: those ahead of the first nought -/
def cutK (zs : List Int) : Nat := (zs.takeWhile (· != 0)).length
def edgeC (h : Int) (zs : List Int) (i : Nat) : List Value := [.int .i64 (if i = 0 then h else 0), .int .i64 (zs.getD i 0)]
def edgeL (h : Int) (zs : List Int) (k : Nat) : List Value := (List.range k).flatMap (edgeC h zs)
theorem edgeL_succ (h : Int) (zs : List Int) (k : Nat) : edgeL h zs (k + 1) = edgeL h zs k ++ edgeC h zs k := by simp [edgeL, List.range_succ, List.flatMap_append]
theorem edgeL_len (h : Int) (zs : List Int) (k : Nat) : (edgeL h zs k).length = k * 2 := by
  induction k with
  | zero => rfl
  | succ k ih => rw [edgeL_succ, List.length_append, ih]; simp [edgeC]; omega
theorem cutK_le : ∀ zs : List Int, cutK zs ≤ zs.length := fun zs => (List.takeWhile_sublist _).length_le
theorem cutK_on {zs : List Int} {k : Nat} (h : k < cutK zs) : zs.getD k 0 ≠ 0 := by
  induction zs generalizing k with
  | nil => simp [cutK] at h
  | cons a t ih =>
    unfold cutK at h
    by_cases ha : a = 0
    · subst ha; simp at h
    · rw [List.takeWhile_cons_of_pos (by simpa using ha)] at h
      match k with
      | 0 => simpa using ha
      | k + 1 => exact ih (by unfold cutK; simpa using h)
theorem cutK_off {zs : List Int} (h : cutK zs < zs.length) : zs.getD (cutK zs) 0 = 0 := by
  induction zs with
  | nil => simp at h
  | cons a t ih =>
    by_cases ha : a = 0
    · subst ha; simp [cutK]
    · have e : cutK (a :: t) = cutK t + 1 := by unfold cutK; rw [List.takeWhile_cons_of_pos (by simpa using ha)]; rfl
      rw [e] at h ⊢
      exact ih (by simpa using h)
theorem edge_at {h : Int} {zs : List Int} {k i : Nat} (hi : i < k) : (edgeL h zs k)[2 * i]? = some (.int .i64 (if i = 0 then h else 0)) ∧ (edgeL h zs k)[2 * i + 1]? = some (.int .i64 (zs.getD i 0)) := by
  induction k with
  | zero => omega
  | succ k ih =>
    rw [edgeL_succ]
    by_cases e : i = k
    · subst e
      rw [List.getElem?_append_right (by rw [edgeL_len]; omega), List.getElem?_append_right (by rw [edgeL_len]; omega), edgeL_len, show 2 * i - i * 2 = 0 by omega, show 2 * i + 1 - i * 2 = 1 by omega]
      exact ⟨rfl, rfl⟩
    · rw [List.getElem?_append_left (by rw [edgeL_len]; omega), List.getElem?_append_left (by rw [edgeL_len]; omega)]
      exact ih (by omega)
theorem tmod4 {k : Int} : (k.tmod 4 + 4) % 4 = k % 4 := by
  rw [Int.tmod_eq_emod]; split <;> omega
theorem tmod4_bd {k : Int} : -4 < k.tmod 4 ∧ k.tmod 4 < 4 := by
  rw [Int.tmod_eq_emod]; split <;> rename_i h
  · omega
  · have : k % 4 ≠ 0 := fun e => h (.inr (Int.dvd_of_emod_eq_zero e)); omega

theorem edgeInfo : (Try.prog.info? 45).map (fun i => (i.zero, i.size, i.bytes)) = some (some (.agg #[.int .i64 0, .int .i64 0]), 2, 16) := by kernel_rfl
theorem edgeInfo2 : (Try.prog.info? 55).map (fun i => (i.zero, i.size, i.bytes)) = some (some (.agg #[.int .i64 0, .int .i64 0]), 2, 16) := by kernel_rfl

theorem i64_at {w : World} {B n : Nat} {A : Option Addr} {zs : List Int} (h : Reads w B 1 A n (zs.map (Value.int .i64))) {k : Nat} (hk : k < n) :
    ∃ ad, A = some ad ∧ ad.block < B ∧ w.cell? (ad.add k) = some (.int .i64 (zs.getD k 0)) := by
  obtain ⟨ad, u, e, hb, hx, hc⟩ := h.at_ hk
  refine ⟨ad, e, hb, hc.trans ?_⟩
  rw [← hx]
  have hl : k < zs.length := by have := h.1; simp at this; omega
  simp [List.getD_eq_getElem?_getD, hl]

set_option maxHeartbeats 2000000 in
theorem symOf_any (kind : Int) (A : Option Addr) (n c : Nat) (zs : List Int) (w : World) (q0 : -9223372036854775808 ≤ kind) (q1 : kind ≤ 9223372036854775807) (hr : Reads w w.heap.size 1 A n (zs.map (Value.int .i64))) (hn : n ≤ 100000) :
    Calls Try.prog 10 #[.agg #[.int .i64 kind, .slice A n c]] w fun e w' => ∃ v, e = .returned v ∧ w'.ownsRow w.heap.size 45 2 v (cutK zs) (edgeL (kind % 4) zs (cutK zs)) ∧ Below w.heap.size w w' := by
  obtain ⟨i0, hi, hz0, hz1, hz2⟩ := info_parts edgeInfo
  have hl : zs.length = n := by have := hr.1; simpa using this
  have HL := Lib.hid hl
  clear hl
  have hm := tmod4_bd (k := kind)
  have he := tmod4 (k := kind)
  have hk := cutK_le zs
  go_enter Try.func10, Try.ntmps10
  go_wp2
  rw [he]
  go_loopw [3, 4, 15] (fun v h i wr => ∃ j : Nat, j ≤ cutK zs ∧ i = .int .i64 j ∧ h = .int .i64 (if j = 0 then kind % 4 else 0) ∧ wr.ownsRow w.heap.size 45 2 v j (edgeL (kind % 4) zs j) ∧ Below w.heap.size w wr) (fun _ _ i _ => cutK zs + 1 - (intOf i).toNat)
  case atStart => exact ⟨0, by omega, rfl, by rw [if_pos rfl], World.ownsRow_nil _ _ _ _, (Below.refl _ _).alloc (Nat.le_refl _) _⟩
  case round =>
    clear he hm
    obtain ⟨j, hj, rfl, rfl, hown, hbl⟩ := hrel
    have hsz := hbl.size
    have hL := HL.out
    by_cases hlt : j < cutK zs
    · obtain ⟨ad, rfl, hab, hcl⟩ := i64_at (hr.below hbl) (k := j) (by omega)
      have hne := cutK_on hlt
      have hS := Lib.hid (edgeL_succ (kind % 4) zs j)
      unfold edgeC at hS
      have hif := Lib.hid (show (if j + 1 = 0 then kind % 4 else (0 : Int)) = 0 from if_neg (by omega))
      generalize (if j = 0 then kind % 4 else 0) = H at *
      generalize zs.getD j 0 = z at *
      go_wp2_with (first
        | (at_builtin; refine wpList_append_own _ rfl _ _ 31 rfl w.heap.size 45 i0 (.agg #[.int .i64 0, .int .i64 0]) 2 16 Try.underlying31 hi hz0 hz1 hz2 rfl (by decide) _ _ _ rfl (hown.alloc _) ⟨wr.heap.size, 0, none⟩ 1 1 [.int .i64 H, .int .i64 z] rfl rfl ?c1 ?c2 ?c3 ?c4 ?c5 ?_)
        | go_in)
      case c1 =>
        intro i u hi
        match i, hi with
        | 0, hi => simp at hi; subst hi; simp [Addr.add]
        | 1, hi => simp at hi; subst hi; simp [Addr.add]
      case c2 => intro u hu; simp at hu; rcases hu with rfl | rfl <;> rfl
      case c3 => unfold maxLen; omega
      case c4 => omega
      case c5 => simp; omega
      intro v' w1 hown' hgrow _
      have hb1 : Below w.heap.size w w1 := (hbl.alloc hsz _).grown hgrow (by simp; omega) (fun i hi => (hown.lt i hi).1)
      rw [← hS.out] at hown'
      clear hgrow hown hbl
      go_wp2
      go_roundw
      case rel =>
        exact ⟨j + 1, by omega, by go_num, by rw [hif.out], hown', hb1⟩
      case measure => simp [intOf]; omega
    · obtain rfl : j = cutK zs := by omega
      generalize (if cutK zs = 0 then kind % 4 else 0) = H at *
      by_cases hlt2 : cutK zs < n
      · obtain ⟨ad, rfl, hab, hcl⟩ := i64_at (hr.below hbl) (k := cutK zs) (by omega)
        rw [cutK_off (by omega)] at hcl
        go_wp2
        go_ret
        exact ⟨_, rfl, hown, hbl⟩
      · go_wp2
        go_ret
        exact ⟨_, rfl, hown, hbl⟩

set_option maxHeartbeats 2000000 in
theorem symOfR_any (kind : Int) (A : Option Addr) (n c : Nat) (zs : List Int) (w : World) (q0 : -9223372036854775808 ≤ kind) (q1 : kind ≤ 9223372036854775807) (hr : Reads w w.heap.size 1 A n (zs.map (Value.int .i64))) (hn : n ≤ 100000) :
    Calls Try.prog 13 #[.agg #[.int .i64 kind, .slice A n c]] w fun e w' => ∃ v, e = .returned v ∧ w'.ownsRow w.heap.size 55 2 v (cutK zs) (edgeL (kind % 4) zs (cutK zs)) ∧ Below w.heap.size w w' := by
  obtain ⟨i0, hi, hz0, hz1, hz2⟩ := info_parts edgeInfo2
  have hl : zs.length = n := by have := hr.1; simpa using this
  have HL := Lib.hid hl
  clear hl
  have hm := tmod4_bd (k := kind)
  have he := tmod4 (k := kind)
  have hk := cutK_le zs
  go_enter Try.func13, Try.ntmps13
  have he2 : kind.tmod 4 % 4 = kind % 4 := by omega
  go_wp2
  go_loopw [3, 4] (fun v i wr => ∃ j : Nat, j ≤ cutK zs ∧ i = .int .i64 j ∧ wr.ownsRow (w.heap.size + 1) 55 2 v j (edgeL (kind % 4) zs j) ∧ Below (w.heap.size + 1) (w.alloc (.cells #[.int .i64 kind, .slice A n c] 40)) wr) (fun _ i _ => cutK zs + 1 - (intOf i).toNat)
  case atStart => exact ⟨0, by omega, rfl, World.ownsRow_nil _ _ _ _, Below.refl _ _⟩
  case round =>
    clear he
    obtain ⟨j, hj, rfl, hown, hbl⟩ := hrel
    have hsz : w.heap.size + 1 ≤ wr.heap.size := by have := hbl.size; simpa using this
    have k0 : wr.cell? ⟨w.heap.size, 0, none⟩ = some (.int .i64 kind) := (hbl.cell (by simp)).trans (by rw [World.cell?_alloc_at _ _ _ _ rfl]; rfl)
    have k1 : wr.cell? ⟨w.heap.size, 1, none⟩ = some (.slice A n c) := (hbl.cell (by simp)).trans (by rw [World.cell?_alloc_at _ _ _ _ rfl]; rfl)
    have hbw : Below w.heap.size w wr := ((Below.refl _ _).alloc (Nat.le_refl _) _).trans (hbl.mono (by omega))
    have hL := HL.out
    by_cases hlt : j < cutK zs
    · obtain ⟨ad, rfl, hab, hcl⟩ := i64_at (hr.below hbw) (k := j) (by omega)
      have hne := cutK_on hlt
      have hS := Lib.hid (edgeL_succ (kind % 4) zs j)
      unfold edgeC at hS
      by_cases hj0 : j = 0
      · subst hj0
        rw [if_pos rfl] at hS
        generalize zs.getD 0 0 = z at *
        have hcl0 : wr.cell? ad = some (.int .i64 z) := by simpa [Addr.add] using hcl
        obtain ⟨H, hH⟩ : ∃ H, H = kind % 4 := ⟨_, rfl⟩
        rw [← hH] at he2 hS hown ⊢
        have HH := Lib.hid hH
        clear hH
        go_wp2_with (first
          | (at_builtin; refine wpList_append_own _ rfl _ _ 35 rfl (w.heap.size + 1) 55 i0 (.agg #[.int .i64 0, .int .i64 0]) 2 16 Try.underlying35 hi hz0 hz1 hz2 rfl (by decide) _ _ _ rfl (hown.alloc _) ⟨wr.heap.size, 0, none⟩ 1 1 [.int .i64 H, .int .i64 z] rfl rfl ?c1 ?c2 ?c3 ?c4 ?c5 ?_)
          | go_in)
        case c1 =>
          intro i u hi
          match i, hi with
          | 0, hi => simp at hi; subst hi; simp [Addr.add]
          | 1, hi => simp at hi; subst hi; simp [Addr.add]
        case c2 => intro u hu; simp at hu; rcases hu with rfl | rfl <;> rfl
        case c3 => unfold maxLen; omega
        case c4 => omega
        case c5 => simp; omega
        intro v' w1 hown' hgrow _
        have hb1 := (hbl.alloc hsz (.cells #[.int .i64 H, .int .i64 z] 55)).grown hgrow (by simp; omega) (fun i hi => (hown.lt i hi).1)
        rw [← hS.out] at hown'
        clear hgrow hown hbl
        go_wp2
        go_roundw
        case rel => exact ⟨1, by omega, by first | rfl | go_num, hown', hb1⟩
        case measure => first | (simp [intOf]; done) | (simp [intOf]; omega)
      · have hS' := hS.out
        rw [if_neg hj0] at hS'
        clear hS
        have hS := Lib.hid hS'
        clear hS'
        generalize zs.getD j 0 = z at *
        obtain ⟨H, hH⟩ : ∃ H : Int, H = 0 := ⟨_, rfl⟩
        subst hH
        go_wp2_with (first
          | (at_builtin; refine wpList_append_own _ rfl _ _ 35 rfl (w.heap.size + 1) 55 i0 (.agg #[.int .i64 0, .int .i64 0]) 2 16 Try.underlying35 hi hz0 hz1 hz2 rfl (by decide) _ _ _ rfl (hown.alloc _) ⟨wr.heap.size, 0, none⟩ 1 1 [.int .i64 0, .int .i64 z] rfl rfl ?c1 ?c2 ?c3 ?c4 ?c5 ?_)
          | go_in)
        case c1 =>
          intro i u hi
          match i, hi with
          | 0, hi => simp at hi; subst hi; simp [Addr.add]
          | 1, hi => simp at hi; subst hi; simp [Addr.add]
        case c2 => intro u hu; simp at hu; rcases hu with rfl | rfl <;> rfl
        case c3 => unfold maxLen; omega
        case c4 => omega
        case c5 => simp; omega
        intro v' w1 hown' hgrow _
        have hb1 := (hbl.alloc hsz (.cells #[.int .i64 0, .int .i64 z] 55)).grown hgrow (by simp; omega) (fun i hi => (hown.lt i hi).1)
        rw [← hS.out] at hown'
        clear hgrow hown hbl
        go_wp2
        go_roundw
        case rel => exact ⟨j + 1, by omega, by go_num, hown', hb1⟩
        case measure => simp [intOf]; omega
    · obtain rfl : j = cutK zs := by omega
      by_cases hlt2 : cutK zs < n
      · obtain ⟨ad, rfl, hab, hcl⟩ := i64_at (hr.below hbw) (k := cutK zs) (by omega)
        rw [cutK_off (by omega)] at hcl
        go_wp2
        go_ret
        exact ⟨_, rfl, ownsRow_le hown (by omega), hbw⟩
      · go_wp2
        go_ret
        exact ⟨_, rfl, ownsRow_le hown (by omega), hbw⟩

end Go.Proofs.Ythmmoogfngohaaa
