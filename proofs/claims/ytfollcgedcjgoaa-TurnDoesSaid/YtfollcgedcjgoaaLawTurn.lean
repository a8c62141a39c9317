/- The laws of layer 4 that name the program alone, walked: TurnBack, TurnTests. -/
import Derived.Test.YtfollcgedcjgoaaP04b
import Derived.OpenShut
import Derived.Deep.CutRange
namespace Go.Proofs.Ytfollcgedcjgoaa
open Go.RowKit

theorem lives04 (w : World) :
    Calls Try.prog 11 #[] w fun e w' => e = .returned (.bool true) ∧ w = w' := by
  obtain ⟨k1, k2, k3, k4⟩ := lives4_num
  have h1 := doT_any 0 128 0 w (by omega) (by omega) (by omega) (by omega) (by omega) (by omega)
  have h2 := rld_any 18 52 0 w (by omega) (by omega) (by omega) (by omega) (by omega) (by omega)
  rw [k1, k2] at h1
  rw [k3, k4] at h2
  go_enter Try.func11, Try.ntmps11
  go_wp2_with fail
  refine h1.mono ?_
  rintro e w' ⟨rfl, rfl⟩
  go_wp2_with fail
  refine h2.mono ?_
  rintro e w' ⟨rfl, rfl⟩
  go_wp2
  go_ret
  exact ⟨rfl, rfl⟩

set_option maxRecDepth 100000 in
set_option maxHeartbeats 2000000 in
theorem turnBack_walk (b f m : Int) (w : World) (w0 : (Lit.int .u8 b).wf = true) (w1 : (Lit.int .u8 f).wf = true) (w2 : (Lit.int .u8 m).wf = true) :
    Calls Try.prog 6 #[.int .u8 b, .int .u8 f, .int .u8 m] w fun e w' => e = .returned (.bool true) ∧ Below w.heap.size w w' := by
  obtain ⟨b0, b1⟩ := bounds_u8 w0
  obtain ⟨f0, f1⟩ := bounds_u8 w1
  obtain ⟨m0, m1⟩ := bounds_u8 w2
  clear w0 w1 w2
  have d1 := doT_any 0 b f w (by omega) (by omega) b0 b1 f0 f1
  obtain ⟨r0, r1⟩ := turnR_bd 0 b (bitH f 7)
  have d2 := doT_any 1 (turnR 0 b (bitH f 7)) f w (by omega) (by omega) r0 r1 f0 f1
  have d3 := doT_any 2 b f w (by omega) (by omega) b0 b1 f0 f1
  obtain ⟨t0, t1⟩ := turnR_bd 2 b (bitH f 7)
  obtain ⟨g0, g1⟩ := turnF_bd (turnR 2 b (bitH f 7)) (turnC 2 b)
  have d4 := doT_any 3 (turnR 2 b (bitH f 7)) (turnF (turnR 2 b (bitH f 7)) (turnC 2 b)) w (by omega) (by omega) t0 t1 g0 g1
  unfold doTR doTF at d1 d2 d3 d4
  rw [if_pos (by omega), if_pos (by omega)] at d1 d2 d3 d4
  rw [turnF_c] at d4
  obtain ⟨q1, q2⟩ := back_23 (bitH f 7) b0 b1
  rw [q1, q2] at d4
  rw [back_01 _ _ b0 b1] at d2
  have hc : bits .and .u8 (turnF b (bitH f 7)) 1 = bits .and .u8 f 1 := by
    rw [low_is (turnF_bd _ _).1 (turnF_bd _ _).2, low_is f0 f1, turnF_c]
  have HC := Lib.hid hc
  clear hc q1 q2
  generalize turnR 0 b (bitH f 7) = R at *
  generalize turnF (turnR 2 b (bitH f 7)) (turnC 2 b) = G at *
  generalize turnR 2 b (bitH f 7) = T at *
  have a1 := rld_any b m f w b0 b1 m0 m1 f0 f1
  obtain ⟨⟨x0, x1⟩, ⟨y0, y1⟩, _⟩ := halves_bd b0 b1 m0 m1
  have a2 := rrd_any (rldA b m) (rldM b m) f w x0 x1 y0 y1 f0 f1
  obtain ⟨h1, h2⟩ := halves_back b0 b1 m0 m1
  rw [h1, h2] at a2
  clear h1 h2
  generalize rldA b m = A at *
  generalize rldM b m = M at *
  have s1 := set_any 3 b w (by omega) (by omega) b0 b1
  obtain ⟨u0, u1⟩ := putR_bd 3 b true
  have s2 := res_any 3 (putR 3 b true) w (by omega) (by omega) u0 u1
  have s3 := res_any 3 b w (by omega) (by omega) b0 b1
  unfold setS at s1 s2 s3
  rw [if_pos (by omega)] at s1 s2 s3
  rw [show (3 : Int).toNat = 3 from rfl] at s1 s2 s3
  rw [put_twice] at s2
  generalize putR 3 b true = P1 at *
  generalize putR 3 b false = P2 at *
  have hrot := Lib.hid (rot_8 (bitH f 7) b0 b1)
  go_enter Try.func6, Try.ntmps6
  go_wp2_with fail
  refine d1.mono ?_
  rintro e w' ⟨rfl, rfl⟩
  go_wp2_with fail
  refine d2.mono ?_
  rintro e w' ⟨rfl, rfl⟩
  go_wp2_with fail
  refine d3.mono ?_
  rintro e w' ⟨rfl, rfl⟩
  go_wp2_with fail
  refine d4.mono ?_
  rintro e w' ⟨rfl, rfl⟩
  go_wp2_with fail
  refine a1.mono ?_
  rintro e w' ⟨rfl, rfl⟩
  go_wp2_with fail
  refine a2.mono ?_
  rintro e w' ⟨rfl, rfl⟩
  clear d1 d2 d3 d4 a1 a2
  go_wp2
  go_loop [21, 22] (fun v i => ∃ j : Nat, j ≤ 8 ∧ i = .int .i64 j ∧ v = .int .u8 (rotN (bitH f 7) b j)) (fun _ i => 8 - (intOf i).toNat)
  case atStart => exact ⟨0, by omega, rfl, rfl⟩
  case round =>
    obtain ⟨j, hj, rfl, rfl⟩ := hrel
    by_cases hlt : j < 8
    · obtain ⟨v0, v1⟩ := rotN_bd (bitH f 7) b0 b1 j
      have ha := acc_any 0 (rotN (bitH f 7) b j) f w (by omega) (by omega) v0 v1 f0 f1
      unfold accR accT at ha
      rw [if_pos (by omega), if_pos (by omega)] at ha
      have hn := Lib.hid (show rotN (bitH f 7) b (j + 1) = turnR 0 (rotN (bitH f 7) b j) (bitH f 7) from rfl)
      generalize turnR 0 (rotN (bitH f 7) b j) (bitH f 7) = N at *
      generalize rotN (bitH f 7) b j = V at *
      go_wp2_with fail
      refine ha.mono ?_
      rintro e w' ⟨rfl, rfl⟩
      go_wp2
      go_round
      case rel => exact ⟨j + 1, by omega, by go_num, by rw [hn.out]⟩
      case measure => simp [intOf]; omega
    · obtain rfl : j = 8 := by omega
      rw [hrot.out]
      have hc := HC.out
      go_wp2_with fail
      refine s1.mono ?_
      rintro e w' ⟨rfl, rfl⟩
      go_wp2_with fail
      refine s2.mono ?_
      rintro e w' ⟨rfl, rfl⟩
      go_wp2_with fail
      refine s3.mono ?_
      rintro e w' ⟨rfl, rfl⟩
      go_wp2_with fail
      refine (lives04 _).mono ?_
      rintro e w' ⟨rfl, rfl⟩
      go_wp2
      go_ret
      exact ⟨rfl, Below.refl _ _⟩

theorem bit_in {i : Nat} (hi : i < 8) (b y f : Int) (w : World) (b0 : 0 ≤ b) (b1 : b ≤ 255) (y0 : 0 ≤ y) (y1 : y ≤ 255) (f0 : 0 ≤ f) (f1 : f ≤ 255) :
    Calls Try.prog 16 #[.int .i64 i, .int .u8 b, .int .u8 y, .int .u8 f] w fun e w' => e = .returned (.int .u8 (testF i b y f)) ∧ w = w' := by
  have h := bitT_any i b y f w (by omega) (by omega) b0 b1 y0 y1 f0 f1
  unfold bitS at h
  rw [if_pos (by omega)] at h
  exact h
theorem set_in {i : Nat} (hi : i < 8) (b : Int) (w : World) (b0 : 0 ≤ b) (b1 : b ≤ 255) :
    Calls Try.prog 18 #[.int .i64 i, .int .u8 b] w fun e w' => e = .returned (.int .u8 (putR i b true)) ∧ w = w' := by
  have h := set_any i b w (by omega) (by omega) b0 b1
  unfold setS at h
  rw [if_pos (by omega)] at h
  exact h
theorem res_in {i : Nat} (hi : i < 8) (b : Int) (w : World) (b0 : 0 ≤ b) (b1 : b ≤ 255) :
    Calls Try.prog 20 #[.int .i64 i, .int .u8 b] w fun e w' => e = .returned (.int .u8 (putR i b false)) ∧ w = w' := by
  have h := res_any i b w (by omega) (by omega) b0 b1
  unfold setS at h
  rw [if_pos (by omega)] at h
  exact h

set_option maxHeartbeats 2000000 in
theorem turnTests_walk (n k b : Int) (w : World) (w0 : (Lit.int .i64 n).wf = true) (w1 : (Lit.int .i64 k).wf = true) (w2 : (Lit.int .u8 b).wf = true) :
    Calls Try.prog 7 #[.int .i64 n, .int .i64 k, .int .u8 b] w fun e w' => e = .returned (.bool true) ∧ Below w.heap.size w w' := by
  obtain ⟨n0, n1⟩ := bounds_i64 w0
  obtain ⟨k0, k1⟩ := bounds_i64 w1
  obtain ⟨b0, b1⟩ := bounds_u8 w2
  clear w0 w1 w2
  go_enter Try.func7, Try.ntmps7
  go_upto_region 1 with fail
  go_cut [7, 8] from 14 to 19 (fun s7 s8 wx => ∃ i j : Nat, s7 = .int .i64 i ∧ s8 = .int .i64 j ∧ i < 8 ∧ j < 8 ∧ w = wx)
  case first =>
    go_wp2_with fail
    all_goals
      go_meet
      first
        | exact ⟨0, 0, rfl, rfl, by omega, by omega, rfl⟩
        | exact ⟨0, 7, rfl, rfl, by omega, by omega, rfl⟩
        | exact ⟨7, 0, rfl, rfl, by omega, by omega, rfl⟩
        | exact ⟨7, 7, rfl, rfl, by omega, by omega, rfl⟩
        | exact ⟨0, k.toNat, rfl, by congr 1; omega, by omega, by omega, rfl⟩
        | exact ⟨7, k.toNat, rfl, by congr 1; omega, by omega, by omega, rfl⟩
        | exact ⟨n.toNat, 0, by congr 1; omega, rfl, by omega, by omega, rfl⟩
        | exact ⟨n.toNat, 7, by congr 1; omega, rfl, by omega, by omega, rfl⟩
        | exact ⟨n.toNat, k.toNat, by congr 1; omega, by congr 1; omega, by omega, by omega, rfl⟩
  case rest =>
    clear n0 n1 k0 k1
    obtain ⟨i, j, rfl, rfl, hi, hj, rfl⟩ := hcut
    have s1 := set_in hi b w b0 b1
    have s2 := res_in hi b w b0 b1
    obtain ⟨u0, u1⟩ := putR_bd i b true
    obtain ⟨v0, v1⟩ := putR_bd i b false
    have z1 := set_z b hi
    have z2 := res_z b hi
    have c1 := bit_in hi (putR i b true) 0 0 w u0 u1 (by omega) (by omega) (by omega) (by omega)
    have c2 := bit_in hi (putR i b false) 0 0 w v0 v1 (by omega) (by omega) (by omega) (by omega)
    generalize testF i (putR i b true) 0 0 = X1 at *
    generalize testF i (putR i b false) 0 0 = X2 at *
    by_cases hij : i = j
    · subst hij
      generalize putR i b true = S at *
      generalize putR i b false = C at *
      go_wp2_with fail
      refine s1.mono ?_
      rintro e w' ⟨rfl, rfl⟩
      go_wp2_with fail
      refine s2.mono ?_
      rintro e w' ⟨rfl, rfl⟩
      go_wp2_with fail
      refine c1.mono ?_
      rintro e w' ⟨rfl, rfl⟩
      go_wp2_with fail
      refine c2.mono ?_
      rintro e w' ⟨rfl, rfl⟩
      go_wp2_with fail
      refine (lives04 _).mono ?_
      rintro e w' ⟨rfl, rfl⟩
      go_wp2
      go_ret
      exact ⟨rfl, Below.refl _ _⟩
    · have hne : ((i : Int) == j) = false := by simp; omega
      have c3 := bit_in hj (putR i b true) 0 0 w u0 u1 (by omega) (by omega) (by omega) (by omega)
      have c4 := bit_in hj b 0 0 w b0 b1 (by omega) (by omega) (by omega) (by omega)
      have c5 := bit_in hj (putR i b false) 0 0 w v0 v1 (by omega) (by omega) (by omega) (by omega)
      rw [other_same b true hi hj hij] at c3
      rw [other_same b false hi hj hij] at c5
      generalize testF j b 0 0 = Y at *
      generalize putR i b true = S at *
      generalize putR i b false = C at *
      go_wp2_with fail
      refine s1.mono ?_
      rintro e w' ⟨rfl, rfl⟩
      go_wp2_with fail
      refine s2.mono ?_
      rintro e w' ⟨rfl, rfl⟩
      go_wp2_with fail
      refine c1.mono ?_
      rintro e w' ⟨rfl, rfl⟩
      go_wp2_with fail
      refine c2.mono ?_
      rintro e w' ⟨rfl, rfl⟩
      go_wp2_with fail
      refine c3.mono ?_
      rintro e w' ⟨rfl, rfl⟩
      go_wp2_with fail
      refine c4.mono ?_
      rintro e w' ⟨rfl, rfl⟩
      go_wp2_with fail
      refine c5.mono ?_
      rintro e w' ⟨rfl, rfl⟩
      go_wp2_with fail
      refine c4.mono ?_
      rintro e w' ⟨rfl, rfl⟩
      go_wp2_with fail
      refine (lives04 _).mono ?_
      rintro e w' ⟨rfl, rfl⟩
      go_wp2
      go_ret
      exact ⟨rfl, Below.refl _ _⟩

end Go.Proofs.Ytfollcgedcjgoaa
