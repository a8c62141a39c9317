/- Contracts of layer 27: the pause, what may be, the usual timing; the document's near and bits. -/
import Derived.Test.YtckgmnlmimogjaaNorm3
import Derived.BigRegion
namespace Go.Proofs.Ytckgmnlmimogjaa
open Go.RowKit

/-- the pause behind a block: 0 if there is none -/
def pauN (zs : List Int) (k : Nat) : Int := if k < zs.length ∧ 3500 < zs.getD k 0 then (if zs.getD k 0 / 3500 < 65535 then zs.getD k 0 / 3500 else 65535) else 0
def pauE (zs : List Int) (k : Nat) : Nat := if k < zs.length ∧ 3500 < zs.getD k 0 then k + 1 else k
set_option maxHeartbeats 2000000 in
theorem pause_any {w : World} {g N c a B : Nat} {A : Option Addr} {zs : List Int} {tol : Int} (h : Fd w g A N c a tol) (hr : Reads w B 1 A N (zs.map (Value.int .u32))) (hB : B ≤ g) (hz : isU32 zs) (hN : N ≤ 5000) (ha : a ≤ N) :
    Calls Try.prog 24 #[.pointer (some ⟨g, 0, none⟩)] w fun e w' => e = .returned (.int .i64 (pauN zs a)) ∧ Fd w' g A N c (pauE zs a) tol ∧ w.grownBy w' (some g) := by
  have hl := reads_len hr
  have hg := h.lt
  have c0 : w.cell? ⟨g, 0, none⟩ = some (.slice A N c) := (h.cell 0).trans rfl
  have c1 : w.cell? ⟨g, 1, none⟩ = some (.int .i64 a) := (h.cell 1).trans rfl
  have a0 : (0 : Int) ≤ (a : Int) := Int.natCast_nonneg _
  by_cases hlt : a < N
  · have haI : ¬ (N : Int) ≤ (a : Int) := by omega
    have haI' : (a : Int) < (N : Int) := by omega
    have haN : ¬ N ≤ a := by omega
    obtain ⟨ad, rfl, hab, hcl⟩ := i32_at hr hlt
    have hzi := isU32_at hz (k := a) (by omega)
    by_cases h35 : 3500 < zs.getD a 0
    · have HN := Lib.hid (show pauN zs a = if zs.getD a 0 / 3500 < 65535 then zs.getD a 0 / 3500 else 65535 from if_pos ⟨by omega, h35⟩)
      have HE := Lib.hid (show pauE zs a = a + 1 from if_pos ⟨by omega, h35⟩)
      have hrg := fun (w' : World) (hg' : w.grownBy w' (some g)) => (grown_reads hr hg' hB hg)
      generalize zs.getD a 0 = z at *
      have hle : ¬ z ≤ 3500 := by omega
      have hw : IntKind.i64.wrap ((a : Int) + 1) = (a : Int) + 1 := by rw [IntKind.wrap_i64]; omega
      have hws : IntKind.i64.wrap ((a : Int) + 1 - 1) = (a : Int) := by rw [IntKind.wrap_i64]; omega
      have hww : IntKind.i64.wrap z = z := by rw [IntKind.wrap_i64]; omega
      have htd : z.tdiv 3500 = z / 3500 := Int.tdiv_eq_ediv_of_nonneg (by omega)
      have hwd : IntKind.i64.wrap (z / 3500) = z / 3500 := by rw [IntKind.wrap_i64]; omega
      have f1 := h.frozen 1
      have HF2 := Lib.hid (show Blk (w.setCell ⟨g, 1, none⟩ (.int .i64 ((a : Int) + 1))) g 66 #[.slice (some ad) N c, .int .i64 ((a : Int) + 1), .int .i64 tol] from Blk.set_ h 1 _)
      have hc0 : (w.setCell ⟨g, 1, none⟩ (.int .i64 ((a : Int) + 1))).cell? ⟨g, 0, none⟩ = some (.slice (some ad) N c) := (HF2.out.cell 0).trans rfl
      have hc1 : (w.setCell ⟨g, 1, none⟩ (.int .i64 ((a : Int) + 1))).cell? ⟨g, 1, none⟩ = some (.int .i64 ((a : Int) + 1)) := (HF2.out.cell 1).trans rfl
      have hgs : w.grownBy (w.setCell ⟨g, 1, none⟩ (.int .i64 ((a : Int) + 1))) (some g) := grown_set _
      have hcz : (w.setCell ⟨g, 1, none⟩ (.int .i64 ((a : Int) + 1))).cell? (ad.add a) = some (.int .u32 z) := by
        rw [← hcl]
        exact World.cell?_of_block (hgs.block _ (by rw [block_of_add]; omega) (fun e => by rw [block_of_add] at e; injection e with e; omega))
      have HG := Lib.hid hgs
      clear h hr hz hgs hrg
      rw [HE.out, HN.out]
      by_cases hm : z / 3500 < 65535
      · rw [if_pos hm]
        have hm' : ¬ (65535 : Int) < z / 3500 := by omega
        have hm'' : z / 3500 ≤ 65535 := by omega
        go_enter Try.func24, Try.ntmps24
        go_wp2
        go_region
        go_wp2
        go_region
        go_wp2
        go_ret
        exact ⟨rfl, HF2.out, grown_trans (grown_trans HG.out grown_drew) grown_drew⟩
      · rw [if_neg hm]
        have hm' : (65535 : Int) ≤ z / 3500 := by omega
        go_enter Try.func24, Try.ntmps24
        go_wp2
        go_region
        go_wp2
        go_region
        go_wp2
        all_goals
          go_ret
          exact ⟨by first | rfl | (have hze : z / 3500 = 65535 := by omega
                                   rw [← hze]; rfl), HF2.out, grown_trans (grown_trans HG.out grown_drew) grown_drew⟩
    · have HN := Lib.hid (show pauN zs a = 0 from if_neg (fun e => h35 e.2))
      have HE := Lib.hid (show pauE zs a = a from if_neg (fun e => h35 e.2))
      generalize zs.getD a 0 = z at *
      have hle : z ≤ 3500 := by omega
      have HH := Lib.hid h
      rw [HN.out, HE.out]
      clear h hr hz HN HE
      go_enter Try.func24, Try.ntmps24
      go_wp2
      go_region
      go_wp2
      go_ret
      exact ⟨rfl, HH.out, grown_drew⟩
  · have haI : (N : Int) ≤ (a : Int) := by omega
    have haN : N ≤ a := by omega
    have HN := Lib.hid (show pauN zs a = 0 from if_neg (fun e => by omega))
    have HE := Lib.hid (show pauE zs a = a from if_neg (fun e => by omega))
    have HH := Lib.hid h
    rw [HN.out, HE.out]
    clear h hr hz HN HE
    go_enter Try.func24, Try.ntmps24
    go_wp2
    go_region
    go_wp2
    go_ret
    exact ⟨rfl, HH.out, grown_drew⟩

def inR (n : Int) : Bool := decide (0 ≤ n ∧ n ≤ 65535)
/-- may these numbers be? -/
def mayB (p s1 s2 z o tol : Int) : Bool := [p, s1, s2, z, o, tol].all inR
theorem tab6_at (p s1 s2 z o tol : Int) (w : World) (j : Nat) (h : j < 6) : (Instr.index 98 (.agg #[.int .i64 p, .int .i64 s1, .int .i64 s2, .int .i64 z, .int .i64 o, .int .i64 tol]) (.int .i64 j)).run Try.prog w = .ok (.int .i64 ([p, s1, s2, z, o, tol].getD j 0)) w := by
  rcases (show j = 0 ∨ j = 1 ∨ j = 2 ∨ j = 3 ∨ j = 4 ∨ j = 5 by omega) with rfl | rfl | rfl | rfl | rfl | rfl <;> kernel_rfl
set_option maxHeartbeats 2000000 in
theorem may_any (w : World) (p s1 s2 z o tol : Int) :
    Calls Try.prog 20 #[.agg #[.int .i64 p, .int .i64 s1, .int .i64 s2, .int .i64 z, .int .i64 o], .int .i64 tol] w fun e w' => e = .returned (.bool (mayB p s1 s2 z o tol)) ∧ Below w.heap.size w w' := by
  have hb0 : Below w.heap.size w (w.alloc (.cells #[.int .i64 p, .int .i64 s1, .int .i64 s2, .int .i64 z, .int .i64 o] 36)) := (Below.refl _ _).alloc (Nat.le_refl _) _
  have HT := Lib.hid (tab6_at p s1 s2 z o tol)
  have HM := Lib.hid (show ∀ l, l = [p, s1, s2, z, o, tol] → mayB p s1 s2 z o tol = l.all inR from fun l e => by rw [e]; rfl)
  generalize mayB p s1 s2 z o tol = M at *
  go_enter Try.func20, Try.ntmps20
  go_wp2_with fail
  go_loopw [19] (fun x wr => ∃ j : Nat, j ≤ 6 ∧ x = .int .i64 j ∧ Hid (∀ i, i < j → inR ([p, s1, s2, z, o, tol].getD i 0) = true) ∧ Below w.heap.size w wr) (fun x _ => 7 - (intOf x).toNat)
  case atStart => exact ⟨0, by omega, rfl, Lib.hid (fun i hi => by omega), hb0⟩
  case round =>
    obtain ⟨j, hj, rfl, HS, hbl⟩ := hrel
    by_cases hlt : j < 6
    · have hjI : (j : Int) < 6 := by omega
      have hidx := fun w' => HT.out w' j hlt
      have HN := Lib.hid (show inR ([p, s1, s2, z, o, tol].getD j 0) = true → ∀ i, i < j + 1 → inR ([p, s1, s2, z, o, tol].getD i 0) = true from fun hn i hi => by
        rcases Nat.lt_or_ge i j with h | h
        · exact HS.out i h
        · obtain rfl : i = j := by omega
          exact hn)
      have HB := Lib.hid (show inR ([p, s1, s2, z, o, tol].getD j 0) = false → M = false from fun hn => by
        rw [HM.out _ rfl, List.all_eq_false]
        refine ⟨[p, s1, s2, z, o, tol].getD j 0, ?_, by rw [hn]; simp⟩
        rw [List.getD_eq_getElem?_getD, List.getElem?_eq_getElem (by simpa using hlt)]
        exact List.getElem_mem _)
      generalize [p, s1, s2, z, o, tol].getD j 0 = v at *
      by_cases h1 : v < 0
      · obtain rfl : M = false := HB.out (by unfold inR; rw [decide_eq_false_iff_not]; omega)
        go_wp2
        go_ret
        exact ⟨rfl, hbl⟩
      · by_cases h2 : (65535 : Int) < v
        · obtain rfl : M = false := HB.out (by unfold inR; rw [decide_eq_false_iff_not]; omega)
          go_wp2
          go_ret
          exact ⟨rfl, hbl⟩
        · have HN2 := Lib.hid (HN.out (by unfold inR; rw [decide_eq_true_iff]; omega))
          clear HN HB
          go_wp2
          go_roundw
          case rel => exact ⟨j + 1, by omega, by go_num, HN2.out, hbl⟩
          case measure => simp [intOf]; omega
    · obtain rfl : j = 6 := by omega
      obtain rfl : M = true := by
        rw [HM.out _ rfl, List.all_eq_true]
        intro v hv
        obtain ⟨i, hi, rfl⟩ := List.getElem_of_mem hv
        have := HS.out i (by simpa using hi)
        rw [List.getD_eq_getElem?_getD, List.getElem?_eq_getElem hi] at this
        exact this
      go_wp2
      go_ret
      exact ⟨rfl, hbl⟩

theorem timInfo : (Try.prog.info? 36).map (·.size) = some 5 := by kernel_rfl
theorem timInfo2 : (Try.prog.info? 25).map (·.size) = some 5 := by kernel_rfl
theorem standard_any (w : World) : Calls Try.prog 12 #[] w fun e w' => e = .returned (.agg #[.int .i64 2168, .int .i64 667, .int .i64 735, .int .i64 855, .int .i64 1710]) ∧ Below w.heap.size w w' := by
  have hb : Below w.heap.size w (w.alloc (.cells #[.int .i64 2168, .int .i64 667, .int .i64 735, .int .i64 855, .int .i64 1710] 36)) := (Below.refl _ _).alloc (Nat.le_refl _) _
  go_enter Try.func12, Try.ntmps12
  go_wp2
  refine bodyPost_ret (results_cell_row rfl _ _ w.heap.size 36 #[.int .i64 2168, .int .i64 667, .int .i64 735, .int .i64 855, .int .i64 1710] (0, 0) _ rfl (heap_alloc_new w _) Try.underlying36 rfl timInfo) rfl ⟨rfl, hb⟩
theorem standardR_any (w : World) : Calls Try.prog 13 #[] w fun e w' => e = .returned (.agg #[.int .i64 2168, .int .i64 667, .int .i64 735, .int .i64 855, .int .i64 1710]) ∧ Below w.heap.size w w' := by
  have hb : Below w.heap.size w (w.alloc (.cells #[.int .i64 2168, .int .i64 667, .int .i64 735, .int .i64 855, .int .i64 1710] 25)) := (Below.refl _ _).alloc (Nat.le_refl _) _
  go_enter Try.func13, Try.ntmps13
  go_wp2
  refine bodyPost_ret (results_cell_row rfl _ _ w.heap.size 25 #[.int .i64 2168, .int .i64 667, .int .i64 735, .int .i64 855, .int .i64 1710] (0, 0) _ rfl (heap_alloc_new w _) Try.underlying25 rfl timInfo2) rfl ⟨rfl, hb⟩
theorem ours_any (w : World) (p s1 s2 z o : Int) : Calls Try.prog 9 #[.agg #[.int .i64 p, .int .i64 s1, .int .i64 s2, .int .i64 z, .int .i64 o]] w fun e w' => e = .returned (.agg #[.int .i64 p, .int .i64 s1, .int .i64 s2, .int .i64 z, .int .i64 o]) ∧ Below w.heap.size w w' := by
  have hb : Below w.heap.size w ((w.alloc (.cells #[.int .i64 p, .int .i64 s1, .int .i64 s2, .int .i64 z, .int .i64 o] 25)).alloc (.cells #[.int .i64 p, .int .i64 s1, .int .i64 s2, .int .i64 z, .int .i64 o] 36)) := ((Below.refl _ _).alloc (Nat.le_refl _) _).alloc (by simp) _
  have hB : Blk ((w.alloc (.cells #[.int .i64 p, .int .i64 s1, .int .i64 s2, .int .i64 z, .int .i64 o] 25)).alloc (.cells #[.int .i64 p, .int .i64 s1, .int .i64 s2, .int .i64 z, .int .i64 o] 36)) (w.heap.size + 1) 36 #[.int .i64 p, .int .i64 s1, .int .i64 s2, .int .i64 z, .int .i64 o] := by
    have := Blk.new (w.alloc (.cells #[.int .i64 p, .int .i64 s1, .int .i64 s2, .int .i64 z, .int .i64 o] 25)) 36 #[.int .i64 p, .int .i64 s1, .int .i64 s2, .int .i64 z, .int .i64 o]
    simpa using this
  go_enter Try.func9, Try.ntmps9
  go_wp2
  refine bodyPost_ret (results_cell_row rfl _ _ (w.heap.size + 1) 36 #[.int .i64 p, .int .i64 s1, .int .i64 s2, .int .i64 z, .int .i64 o] (0, 0) _ rfl hB Try.underlying36 rfl timInfo) rfl ⟨rfl, hb⟩

set_option maxHeartbeats 1000000 in
theorem nearR_any {w : World} {N c B k : Nat} {A : Option Addr} {zs : List Int} {tol n : Int} (hr : Reads w B 1 A N (zs.map (Value.int .u32))) (hz : isU32 zs) (hN : N ≤ 5000) (hk : k ≤ 100000) (t0 : 0 ≤ tol) (t1 : tol ≤ 65535) (n0 : 0 ≤ n) (n1 : n ≤ 65535) :
    Calls Try.prog 25 #[.slice A N c, .int .i64 k, .int .i64 n, .int .i64 tol] w fun e w' => e = .returned (.bool (nr zs k n tol)) ∧ w = w' := by
  have hl := reads_len hr
  by_cases hlt : k < N
  · obtain ⟨ad, rfl, hab, hcl⟩ := i32_at hr hlt
    have hzi := isU32_at hz (k := k) (by omega)
    obtain ⟨z, hzz⟩ : ∃ z, z = zs.getD k 0 := ⟨_, rfl⟩
    rw [← hzz] at hcl hzi
    rw [nr_in (by omega) hzz.symm]
    have hqI' : (k : Int) < (N : Int) := by omega
    have hq0 : (0 : Int) ≤ (k : Int) := Int.natCast_nonneg _
    have hw2 : IntKind.i64.wrap (n - tol) = n - tol := by rw [IntKind.wrap_i64]; omega
    have hw3 : IntKind.i64.wrap (n + tol) = n + tol := by rw [IntKind.wrap_i64]; omega
    have hw4 : IntKind.i64.wrap z = z := by rw [IntKind.wrap_i64]; omega
    clear hr hz hzz
    go_enter Try.func25, Try.ntmps25
    by_cases h1 : n - tol ≤ z
    · by_cases h2 : z ≤ n + tol
      · have hh : (decide (z - n ≤ tol) && decide (-tol ≤ z - n)) = true := by simp; omega
        rw [hh]
        go_wp2
        go_ret
        exact ⟨rfl, rfl⟩
      · have hh : (decide (z - n ≤ tol) && decide (-tol ≤ z - n)) = false := by simp; omega
        rw [hh]
        go_wp2
        go_ret
        exact ⟨rfl, rfl⟩
    · have hh : (decide (z - n ≤ tol) && decide (-tol ≤ z - n)) = false := by simp; omega
      rw [hh]
      go_wp2
      go_ret
      exact ⟨rfl, rfl⟩
  · rw [nr_out (by omega)]
    have hqI : ¬ (k : Int) < (N : Int) := by omega
    clear hr hz
    go_enter Try.func25, Try.ntmps25
    go_wp2
    go_ret
    exact ⟨rfl, rfl⟩

end Go.Proofs.Ytckgmnlmimogjaa
