/- The laws of layer 2, walked: AluSums, AluOnes, AluCarries: each returns true and writes nothing that was there. -/
import Derived.Test.YtefkdjanneeomaaLawAluA
import Derived.Test.YtefkdjanneeomaaR02d
namespace Go.Proofs.Ytefkdjanneeomaa
open Go.RowKit

theorem aluSums_walk (a b : Int) (c : Bool) (w : World) (w0 : (Lit.int .u8 a).wf = true) (w1 : (Lit.int .u8 b).wf = true) :
    Calls Try.prog 7 #[.int .u8 a, .int .u8 b, .bool c] w fun e w' => e = .returned (.bool true) ∧ Below w.heap.size w w' := by
  obtain ⟨a0, a1⟩ := bounds_u8 w0
  obtain ⟨b0, b1⟩ := bounds_u8 w1
  clear w0 w1
  obtain ⟨s0, s1⟩ := subF_bd2 a b false
  go_enter Try.func7, Try.ntmps7
  go_wp2_with fail
  refine (addA_any _ _ _ _ a0 a1 b0 b1).mono ?_
  rintro e w1 ⟨rfl, hb1⟩
  go_wp2_with fail
  refine (subA_any _ _ _ _ a0 a1 b0 b1).mono ?_
  rintro e w2 ⟨rfl, hb2⟩
  go_wp2_with fail
  refine (add_ref _ _ _ _ a0 a1 b0 b1).mono ?_
  rintro e w3 ⟨rfl, hb3⟩
  go_wp2_with fail
  refine (sub_ref _ _ _ _ a0 a1 b0 b1).mono ?_
  rintro e w4 ⟨rfl, hb4⟩
  go_wp2_with fail
  refine (sub_ref _ _ _ _ a0 a1 b0 b1).mono ?_
  rintro e w5 ⟨rfl, hb5⟩
  go_wp2_with fail
  refine (cp_any _ _ _ a0 a1 b0 b1).mono ?_
  rintro e w6 ⟨rfl, hb6⟩
  go_wp2_with fail
  refine (mixR_any _ _ _ s0 s1 b0 b1).mono ?_
  rintro e w7 ⟨rfl, hb7⟩
  go_wp2_with fail
  refine (lives02 _).mono ?_
  rintro e w8 ⟨rfl, hb8⟩
  go_wp2
  go_ret
  exact ⟨rfl, bthen (bthen (bthen (bthen (bthen (bthen (bthen hb1 hb2) hb3) hb4) hb5) hb6) hb7) hb8⟩

theorem aluCarries_walk (a f q : Int) (w : World) (w0 : (Lit.int .u8 a).wf = true) (w1 : (Lit.int .u8 f).wf = true) (w2 : (Lit.int .u8 q).wf = true) :
    Calls Try.prog 6 #[.int .u8 a, .int .u8 f, .int .u8 q] w fun e w' => e = .returned (.bool true) ∧ Below w.heap.size w w' := by
  obtain ⟨a0, a1⟩ := bounds_u8 w0
  obtain ⟨f0, f1⟩ := bounds_u8 w1
  obtain ⟨q0, q1⟩ := bounds_u8 w2
  clear w0 w1 w2
  go_enter Try.func6, Try.ntmps6
  go_wp2_with fail
  refine (scf_any _ _ _ _ a0 a1 f0 f1 q0 q1).mono ?_
  rintro e w' ⟨rfl, rfl⟩
  go_wp2_with fail
  refine (scfR_any _ _ _ _ a0 a1 f0 f1 q0 q1).mono ?_
  rintro e w2 ⟨rfl, hb2⟩
  go_wp2_with fail
  refine (ccf_any _ _ _ _ a0 a1 f0 f1 q0 q1).mono ?_
  rintro e w3 ⟨rfl, hb3⟩
  go_wp2_with fail
  refine (ccfR_any _ _ _ _ a0 a1 f0 f1 q0 q1).mono ?_
  rintro e w4 ⟨rfl, hb4⟩
  go_wp2_with fail
  refine (lives02 _).mono ?_
  rintro e w5 ⟨rfl, hb5⟩
  go_wp2
  go_ret
  exact ⟨rfl, bthen (bthen (bthen hb2 hb3) hb4) hb5⟩

set_option maxHeartbeats 1000000 in
theorem aluOnes_walk (a f : Int) (w : World) (w0 : (Lit.int .u8 a).wf = true) (w1 : (Lit.int .u8 f).wf = true) :
    Calls Try.prog 10 #[.int .u8 a, .int .u8 f] w fun e w' => e = .returned (.bool true) ∧ Below w.heap.size w w' := by
  obtain ⟨a0, a1⟩ := bounds_u8 w0
  obtain ⟨f0, f1⟩ := bounds_u8 w1
  clear w0 w1
  obtain ⟨s0, s1⟩ := subF_bd2 a 1 false
  obtain ⟨t0, t1⟩ := addF_bd a 1 false
  go_enter Try.func10, Try.ntmps10
  go_wp2_with fail
  refine (inc_any _ _ _ a0 a1 f0 f1).mono ?_
  rintro e w1 ⟨rfl, hb1⟩
  go_wp2_with fail
  refine (dec_any _ _ _ a0 a1 f0 f1).mono ?_
  rintro e w2 ⟨rfl, hb2⟩
  go_wp2_with fail
  refine (neg_any _ _ a0 a1).mono ?_
  rintro e w3 ⟨rfl, hb3⟩
  go_wp2_with fail
  refine (cpl_any _ _ _ a0 a1 f0 f1).mono ?_
  rintro e w' ⟨rfl, rfl⟩
  go_wp2_with fail
  refine (daa_any _ _ _ a0 a1 f0 f1).mono ?_
  rintro e w4 ⟨rfl, hb4⟩
  go_wp2_with fail
  refine (add_ref _ _ _ _ a0 a1 (by omega) (by omega)).mono ?_
  rintro e w5 ⟨rfl, hb5⟩
  go_wp2_with fail
  refine (sub_ref _ _ _ _ a0 a1 (by omega) (by omega)).mono ?_
  rintro e w6 ⟨rfl, hb6⟩
  go_wp2_with fail
  refine (sub_ref _ _ _ _ (by omega) (by omega) a0 a1).mono ?_
  rintro e w7 ⟨rfl, hb7⟩
  go_wp2_with fail
  refine (cplR_any _ _ _ a0 a1 f0 f1).mono ?_
  rintro e w8 ⟨rfl, hb8⟩
  go_wp2_with fail
  refine (daaR_any _ _ _ a0 a1 f0 f1).mono ?_
  rintro e w9 ⟨rfl, hb9⟩
  go_wp2_with fail
  refine (keepR_any _ _ _ t0 t1 f0 f1).mono ?_
  rintro e w10 ⟨rfl, hb10⟩
  go_wp2_with fail
  refine (keepR_any _ _ _ s0 s1 f0 f1).mono ?_
  rintro e w11 ⟨rfl, hb11⟩
  go_wp2_with fail
  refine (lives02 _).mono ?_
  rintro e w12 ⟨rfl, hb12⟩
  go_wp2
  go_ret
  exact ⟨rfl, bthen (bthen (bthen (bthen (bthen (bthen (bthen (bthen (bthen (bthen (bthen hb1 hb2) hb3) hb4) hb5) hb6) hb7) hb8) hb9) hb10) hb11) hb12⟩

end Go.Proofs.Ytefkdjanneeomaa
