/- The law NormKeeps of squeallaw27: the walk: for every input it returns true and writes nothing that was there; no condition. -/
import Derived.Test.YtckgmnlmimogjaaNk9
namespace Go.Proofs.Ytckgmnlmimogjaa
open Go.RowKit

set_option maxRecDepth 100000 in
set_option maxHeartbeats 4000000 in
theorem normKeeps_walk (lv : Bool) (A : Option Addr) (n c : Nat) (zs : List Int) (tol : Int) (w : World) (w1 : IsRow .u32 w A n c zs) :
    Calls Try.prog 6 #[.bool lv, .slice A n c, .int .i64 tol] w fun e w' => e = .returned (.bool true) ∧ Below w.heap.size w w' := by
  obtain ⟨hr, hz, hnc, hc⟩ := row_u32 w1
  clear w1
  generalize zs.take n = ys at *
  clear zs
  by_cases hn : (255 : Int) < (n : Int)
  · clear hr hz
    go_enter Try.func6, Try.ntmps6
    go_wp2_with fail
    refine (lives27 _).mono ?_
    rintro e w9 ⟨rfl, hb9⟩
    go_wp2
    go_ret
    exact ⟨rfl, hb9⟩
  · have hl := reads_len hr
    have h1 := normal_any w lv A none n c 0 0 tol ys [] hr hz (by omega) hnc Reads.none_ (by omega)
    have HR := Lib.hid (And.intro hr (And.intro hz hl))
    clear hr hz hl
    by_cases h0 : n = 0
    · subst h0
      have hy : ys = [] := List.eq_nil_of_length_eq_zero HR.out.2.2
      subst hy
      rw [show ([] : List Int).length + 1 = 1 from rfl, keeps_nil] at h1
      have h2 := fun (wx : World) => exact_any wx lv A 0 c [] Reads.none_ HR.out.2.1 (by omega)
      go_enter Try.func6, Try.ntmps6
      go_wp2_with fail
      refine h1.mono ?_
      rintro e w2 ⟨A1, m1, c1, xs1, rfl, hr1, hk1, hb1⟩
      clear h1
      obtain rfl : m1 = 0 := blks_len hr1 hk1
      clear hr1 hk1
      have H1 := Lib.hid hb1
      clear hb1
      simp only [if_true]
      go_wp2_with fail
      refine (h2 _).mono ?_
      rintro e w3 ⟨A2, m2, c2, xs2, rfl, hr2, hk2, hb2⟩
      clear h2 hr2 hk2
      have hbx : Below w.heap.size w (w2.alloc (.cells #[.int .i64 1, .int .i64 20, .slice A1 0 c1] 45)) := H1.out.alloc H1.out.size _
      have hB : Blk w3 w2.heap.size 45 #[.int .i64 1, .int .i64 20, .slice A1 0 c1] := (Blk.new w2 _ _).below hb2 (by simp)
      have c7 : w3.cell? ⟨w2.heap.size, 2, none⟩ = some (.slice A1 0 c1) := (hB.cell 2).trans rfl
      have hb3 := hbx.trans (hb2.mono hbx.size)
      have hsz : w2.heap.size < w3.heap.size := hB.lt
      have H3 := Lib.hid hb3
      clear hbx hB hb2 hb3
      generalize exV [] = ev at *
      go_wp2_with fail
      refine (lives27 _).mono ?_
      rintro e w9 ⟨rfl, hb9⟩
      have H9 := Lib.hid ((H3.out.alloc H3.out.size _).trans (hb9.mono (H3.out.alloc H3.out.size _).size))
      clear hb9
      go_wp2
      go_ret
      exact ⟨rfl, H9.out⟩
    · have hne : ys ≠ [] := fun e => h0 (by rw [← HR.out.2.2, e]; rfl)
      rw [keeps_some hne (by rw [HR.out.2.2]; omega)] at h1
      have h2 := fun (wx : World) (hbx : Below w.heap.size w wx) => exact_any wx lv A n c ys ((HR.out.1.below hbx).more hbx.size) HR.out.2.1 (by omega)
      obtain ⟨V, hV⟩ : ∃ V, V = exV ys := ⟨_, rfl⟩
      obtain ⟨L, hL⟩ : ∃ L, L = exL lv ys := ⟨_, rfl⟩
      rw [← hV, ← hL] at h1 h2
      have hif := exV_if ys
      rw [← hV] at hif
      have hll := exL_len lv ys
      rw [← hL, HR.out.2.2] at hll
      obtain ⟨e1, e2, e3⟩ := V
      simp only at h1 h2 hif
      unfold TapeO at h1
      simp only [hif.1, hif.2] at h1
      have HV := Lib.hid hV
      clear hV hL hif hne
      have H2 := Lib.hid h2
      clear h2
      have hn0 : ¬ (n : Int) = 0 := by omega
      have hnB : ((n : Int) == 0) = false := by simpa using hn0
      go_enter Try.func6, Try.ntmps6
      go_wp2_with fail
      refine h1.mono ?_
      rintro e w2 ⟨A1, m1, c1, xs1, rfl, hr1, hk1, hb1⟩
      clear h1
      obtain rfl : m1 = L.length := blks_len hr1 hk1
      have hbx : Below w.heap.size w (w2.alloc (.cells #[.int .i64 e1, .int .i64 e2, .slice A1 L.length c1] 45)) := hb1.alloc hb1.size _
      have h2 := H2.out _ hbx
      have HA := Lib.hid (And.intro hr1 (And.intro hk1 (And.intro hb1 hbx)))
      clear hr1 hk1 hb1 hbx
      go_wp2_with fail
      refine h2.mono ?_
      rintro e w3 ⟨A2, m2, c2, xs2, rfl, hr2, hk2, hb2⟩
      clear h2
      obtain rfl : m2 = L.length := blks_len hr2 hk2
      obtain ⟨hr1, hk1, hb1, hbx⟩ := HA.out
      have hB : Blk w3 w2.heap.size 45 #[.int .i64 e1, .int .i64 e2, .slice A1 L.length c1] := (Blk.new w2 _ _).below hb2 (by simp)
      have hb3 := hbx.trans (hb2.mono hbx.size)
      have hb23 : Below w2.heap.size w2 w3 := (((Below.refl _ _).alloc (Nat.le_refl _) _).trans (hb2.mono (by simp)))
      have hr1' := (hr1.below hb23 (fun b hp => hp.2)).reads (B := w3.heap.size) (fun b hp => by have := hp.2; have := hb23.size; omega)
      have hk1' := BlksAt.keep (w' := w3) (ψ := (· < w3.heap.size)) (fun b hp => hb23.block b hp.2) (fun b hp => by have := hp.2; have := hb23.size; show b < _; omega) hk1
      have hr2' := hr2.reads (B := w3.heap.size) (fun b hp => hp.2)
      have hk2' := BlksAt.keep (w' := w3) (ψ := (· < w3.heap.size)) (fun b _ => rfl) (fun b hp => hp.2) hk2
      have hb4 : Below w3.heap.size w3 (w3.alloc (.cells #[.int .i64 e1, .int .i64 e2, .slice A2 L.length c2] 45)) := (Below.refl _ _).alloc (Nat.le_refl _) _
      have hs4 : (w3.alloc (.cells #[.int .i64 e1, .int .i64 e2, .slice A2 L.length c2] 45)).heap.size = w3.heap.size + 1 := by simp
      have hst := sameTape_gen (w3.alloc (.cells #[.int .i64 e1, .int .i64 e2, .slice A2 L.length c2] 45)) L.length c1 c2 A1 A2 xs1 xs2 L e1 e2 ((hr1'.below hb4).more (by simp)) ((hr2'.below hb4).more (by simp))
        (BlksAt.keep (fun b hp => hb4.block b hp) (fun b hp => by have : b < w3.heap.size := hp; show b < _; simp; omega) hk1') (BlksAt.keep (fun b hp => hb4.block b hp) (fun b hp => by have : b < w3.heap.size := hp; show b < _; simp; omega) hk2') (by omega)
      have hB4 := hB.alloc (.cells #[.int .i64 e1, .int .i64 e2, .slice A2 L.length c2] 45)
      have hC4 := Blk.new w3 45 #[.int .i64 e1, .int .i64 e2, .slice A2 L.length c2]
      have HB := Lib.hid (And.intro hB4 hC4)
      have H3 := Lib.hid (hb3.alloc hb3.size (.cells #[.int .i64 e1, .int .i64 e2, .slice A2 L.length c2] 45))
      clear hr1 hk1 hb1 hbx hr2 hk2 hb2 hB hb3 hb23 hr1' hk1' hr2' hk2' hb4 hs4 hB4 hC4 HA
      go_wp2_with (first
        | (refine wpList_load_boxg rfl 45 _ rfl (w2.heap.size) rfl 45 #[.int .i64 e1, .int .i64 e2, .slice A1 L.length c1] HB.out.1 _ Try.underlying45 rfl tape3Info (fun (_ : Hid _) => ?_))
        | (refine wpList_load_boxg rfl 45 _ rfl (w3.heap.size) rfl 45 #[.int .i64 e1, .int .i64 e2, .slice A2 L.length c2] HB.out.2 _ Try.underlying45 rfl tape3Info (fun (_ : Hid _) => ?_))
        | fail)
      refine hst.mono ?_
      rintro e w8 ⟨rfl, hb8⟩
      have H8 := Lib.hid (H3.out.trans (hb8.mono H3.out.size))
      clear hb8 hst
      go_wp2_with fail
      refine (lives27 _).mono ?_
      rintro e w9 ⟨rfl, hb9⟩
      have H9 := Lib.hid (H8.out.trans (hb9.mono H8.out.size))
      clear hb9
      go_wp2
      go_ret
      exact ⟨rfl, H9.out⟩
end Go.Proofs.Ytckgmnlmimogjaa
