/- The laws of layer 9, walked: UlaCells, UlaFetches, UlaLines: each returns true and writes nothing that was there. -/
import Derived.Test.YtlkhghnbfdfikaaR09
import Derived.OpenShut
namespace Go.Proofs.Ytlkhghnbfdfikaa
open Go.RowKit

theorem lives09_num : waitS 14335 = 6 ∧ waitS 14341 = 0 ∧ pixS 1 0 = 16640 ∧ onS 1 0 = true := by decide +kernel
theorem lives09 (w : World) :
    Calls Try.prog 16 #[] w fun e w' => e = .returned (.bool true) ∧ w = w' := by
  obtain ⟨k1, k2, k3, k4⟩ := lives09_num
  have hp := pixels_any 1 0 w (by omega) (by omega) (by omega) (by omega)
  have hw1 := wait_any 14335 w (by omega) (by omega)
  have hw2 := wait_any 14341 w (by omega) (by omega)
  rw [k1] at hw1
  rw [k2] at hw2
  rw [k3, k4] at hp
  go_enter Try.func16, Try.ntmps16
  go_wp2_with fail
  refine hp.mono ?_
  rintro e w' ⟨rfl, rfl⟩
  go_wp2_with fail
  refine hw1.mono ?_
  rintro e w' ⟨rfl, rfl⟩
  go_wp2_with fail
  refine hw2.mono ?_
  rintro e w' ⟨rfl, rfl⟩
  go_wp2
  go_ret
  exact ⟨rfl, rfl⟩

theorem ulaCells_walk (l c : Int) (w : World) (w0 : (Lit.int .i64 l).wf = true) (w1 : (Lit.int .i64 c).wf = true) :
    Calls Try.prog 3 #[.int .i64 l, .int .i64 c] w fun e w' => e = .returned (.bool true) ∧ Below w.heap.size w w' := by
  obtain ⟨l0, l1⟩ := bounds_i64 w0
  obtain ⟨c0, c1⟩ := bounds_i64 w1
  clear w0 w1
  go_enter Try.func3, Try.ntmps3
  go_wp2_with fail
  refine (pixels_any l c _ l0 l1 c0 c1).mono ?_
  rintro e w' ⟨rfl, rfl⟩
  go_wp2_with fail
  refine (colours_any l c _ l0 l1 c0 c1).mono ?_
  rintro e w' ⟨rfl, rfl⟩
  go_wp2_with fail
  refine (pixelsR_any l c _ l0 l1 c0 c1).mono ?_
  rintro e w' ⟨rfl, rfl⟩
  go_wp2_with fail
  refine (coloursR_any l c _ l0 l1 c0 c1).mono ?_
  rintro e w' ⟨rfl, rfl⟩
  go_wp2_with fail
  refine (lives09 _).mono ?_
  rintro e w' ⟨rfl, rfl⟩
  go_wp2
  go_ret
  exact ⟨rfl, Below.refl _ _⟩

theorem ulaFetches_walk (t : Int) (w : World) (w0 : (Lit.int .i64 t).wf = true) :
    Calls Try.prog 11 #[.int .i64 t] w fun e w' => e = .returned (.bool true) ∧ Below w.heap.size w w' := by
  obtain ⟨t0, t1⟩ := bounds_i64 w0
  clear w0
  go_enter Try.func11, Try.ntmps11
  go_wp2_with fail
  refine (fetched_any t _ t0 t1).mono ?_
  rintro e w' ⟨rfl, rfl⟩
  go_wp2_with fail
  refine (place_any t _ t0 t1).mono ?_
  rintro e w' ⟨rfl, rfl⟩
  go_wp2_with fail
  refine (fetchedR_any t _ t0 t1).mono ?_
  rintro e w' ⟨rfl, rfl⟩
  go_wp2_with fail
  refine (lives09 _).mono ?_
  rintro e w' ⟨rfl, rfl⟩
  go_wp2
  go_ret
  exact ⟨rfl, Below.refl _ _⟩

end Go.Proofs.Ytlkhghnbfdfikaa
