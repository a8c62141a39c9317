/- The law KeysFinds walked: where any key is, or that there is none, is the document's; there are forty. -/
import Derived.Test.YtlkhghnbfdfikaaKeys3
import Derived.OpenShut
namespace Go.Proofs.Ytlkhghnbfdfikaa
open Go.RowKit

theorem own_kept10 {w w' : World} {B e size n : Nat} {v : Value} {xs : List Value} (h : w.ownsRow B e size v n xs) (k : Below w.heap.size w w') : w'.ownsRow B e size v n xs :=
  h.kept (row := none) ⟨k.os, k.tape, k.output, k.size, fun j hj _ => k.block j hj⟩ (by cases hv : v.ownBlock <;> simp)

set_option maxRecDepth 100000 in
set_option maxHeartbeats 8000000 in
theorem keysFinds_walk (s : ByteArray) (w : World) (_ : s.size ≤ maxLen) :
    Calls Try.prog 6 #[.string s] w fun e w' => e = .returned (.bool true) ∧ Below w.heap.size w w' := by
  go_enter Try.func6, Try.ntmps6
  go_wp2_with fail
  refine (find_any s _).mono ?_
  rintro e w1 ⟨h1, hb1⟩
  rcases h1 with ⟨i, k, hi, hk, he1, hF1, rfl⟩ | ⟨hF1, rfl⟩
  · go_wp2_with fail
    refine (findR_any s _).mono ?_
    rintro e w2 ⟨h2, hb2⟩
    rcases h2 with ⟨m, hm, he2, hF2, rfl⟩ | ⟨hF2, rfl⟩
    · have e1 : ¬ m < 5 * i + k := fun h => hF1 m h he2
      have e2 : ¬ 5 * i + k < m := fun h => hF2 _ h he1
      rw [show ((m : Nat) : Int) = 5 * (i : Int) + k by omega]
      clear he1 he2 hF1 hF2 e1 e2 hm
      go_wp2_with fail
      refine (names_any _).mono ?_
      rintro e w3 ⟨v, rfl, hown, hb3⟩
      go_wp2_with fail
      refine (namesR_any _).mono ?_
      rintro e w4 ⟨rfl, hblk, hb4⟩
      have hown4 := own_kept10 hown hb4
      obtain ⟨g1, c1, rfl, _, _⟩ := hown4.form (by omega)
      have hB := bthen (bthen (bthen hb1 hb2) hb3) hb4
      clear hown
      generalize w3.heap.size = g2 at *
      go_wp2
      go_loopw [9] (fun x wr => ∃ j n : Nat, (j : Int) ≤ 40 ∧ x = .int .i64 j ∧ wr = w4.drewN n) (fun x _ => 40 - (intOf x).toNat)
      case atStart => exact ⟨0, 0, by omega, rfl, rfl⟩
      case round =>
        obtain ⟨j, n, hj, rfl, rfl⟩ := hrel
        by_cases hlt : (j : Int) < 40
        · have a0 := (hown4.cellAt j (by omega)).trans (keyV_at (n := 40) (j := j) (by omega))
          have b0 := (hblk.cell j).trans (mat_cell (j := j) (by omega))
          generalize keyB j = T at *
          go_wp2
          go_quiet (fail)
          go_wp2
          go_roundw
          case rel => exact ⟨j + 1, n + nq, by omega, by go_num, by first | rfl | rw [World.drewN_drewN]⟩
          case measure => simp [intOf]; omega
        · obtain rfl : j = 40 := by omega
          go_wp2_with fail
          refine (lives10 _).mono ?_
          rintro e w5 ⟨rfl, hb5⟩
          go_wp2
          go_ret
          exact ⟨rfl, bthen (below_drewN hB n) hb5⟩
    · exact absurd he1 (hF2 _ (by omega))
  · go_wp2_with fail
    refine (findR_any s _).mono ?_
    rintro e w2 ⟨h2, hb2⟩
    rcases h2 with ⟨m, hm, he2, hF2, rfl⟩ | ⟨hF2, rfl⟩
    · exact absurd he2 (hF1 _ hm)
    · clear hF1 hF2
      go_wp2_with fail
      refine (names_any _).mono ?_
      rintro e w3 ⟨v, rfl, hown, hb3⟩
      go_wp2_with fail
      refine (namesR_any _).mono ?_
      rintro e w4 ⟨rfl, hblk, hb4⟩
      have hown4 := own_kept10 hown hb4
      obtain ⟨g1, c1, rfl, _, _⟩ := hown4.form (by omega)
      have hB := bthen (bthen (bthen hb1 hb2) hb3) hb4
      clear hown
      generalize w3.heap.size = g2 at *
      go_wp2
      go_loopw [9] (fun x wr => ∃ j n : Nat, (j : Int) ≤ 40 ∧ x = .int .i64 j ∧ wr = w4.drewN n) (fun x _ => 40 - (intOf x).toNat)
      case atStart => exact ⟨0, 0, by omega, rfl, rfl⟩
      case round =>
        obtain ⟨j, n, hj, rfl, rfl⟩ := hrel
        by_cases hlt : (j : Int) < 40
        · have a0 := (hown4.cellAt j (by omega)).trans (keyV_at (n := 40) (j := j) (by omega))
          have b0 := (hblk.cell j).trans (mat_cell (j := j) (by omega))
          generalize keyB j = T at *
          go_wp2
          go_quiet (fail)
          go_wp2
          go_roundw
          case rel => exact ⟨j + 1, n + nq, by omega, by go_num, by first | rfl | rw [World.drewN_drewN]⟩
          case measure => simp [intOf]; omega
        · obtain rfl : j = 40 := by omega
          go_wp2_with fail
          refine (lives10 _).mono ?_
          rintro e w5 ⟨rfl, hb5⟩
          go_wp2
          go_ret
          exact ⟨rfl, bthen (below_drewN hB n) hb5⟩

end Go.Proofs.Ytlkhghnbfdfikaa
