/- The law WireFaults of layer 17, walked: it returns true and writes nothing that was there. -/
import Derived.Test.YtpfojhmaeaeecaaWire5
import Derived.Deep.CutRange
namespace Go.Proofs.Ytpfojhmaeaeecaa
open Go.RowKit

theorem equalIn_same (w : World) (d : Nat) (a : Addr) : (Op.equalIn (d + 1) 48 (.pointer (some a)) (.pointer (some a))).run Try.prog w = .ok true w := by
  have hu : Try.prog.underlying 48 = some (.pointer 51) := rfl
  have hs : (sizeOf 51).run Try.prog w = .ok 2 w := by kernel_rfl
  simp [Op.equalIn, run_underlying hu, sameAddr, hs]
theorem equal_same (w : World) (a : Addr) : (Op.equal 48 (.pointer (some a)) (.pointer (some a))).run Try.prog w = .ok true w := equalIn_same w 9999 a
theorem eql_same (w : World) (a : Addr) : (binOp .eql 48 (.pointer (some a)) (.pointer (some a))).run Try.prog w = .ok (.bool true) w := by
  simp only [binOp]
  simp [equal_same]

set_option maxRecDepth 100000 in
set_option maxHeartbeats 4000000 in
theorem wireFaults_walk (n p : Int) (w : World) (w0 : (Lit.int .i64 n).wf = true) (w1 : (Lit.int .i64 p).wf = true) :
    Calls Try.prog 7 #[.int .i64 n, .int .i64 p] w fun e w' => e = .returned (.bool true) ∧ Below w.heap.size w w' := by
  obtain ⟨n0, n1⟩ := bounds_i64 w0
  obtain ⟨p0, p1⟩ := bounds_i64 w1
  clear w0 w1
  go_enter Try.func7, Try.ntmps7
  go_upto_region 1 with fail
  go_cut [5] from 16 to 18 (fun s wx => ∃ k : Nat, s = .int .i64 k ∧ 1 ≤ k ∧ k ≤ 100 ∧ w = wx)
  case first =>
    go_wp2_with fail
    all_goals
      go_meet
      first
        | exact ⟨1, rfl, by omega, by omega, rfl⟩
        | exact ⟨100, rfl, by omega, by omega, rfl⟩
        | exact ⟨n.toNat, by congr 1; omega, by omega, by omega, rfl⟩
  case rest =>
    obtain ⟨E, rfl, hE, hE2, rfl⟩ := hcut
    go_upto_region 2 with fail
    go_cut [6] from 19 to 21 (fun s wx => ∃ k : Nat, s = .int .i64 k ∧ k ≤ 1000000 ∧ w = wx)
    case first =>
      go_wp2_with fail
      all_goals
        go_meet
        first
          | exact ⟨0, rfl, by omega, rfl⟩
          | exact ⟨1000000, rfl, by omega, rfl⟩
          | exact ⟨p.toNat, by congr 1; omega, by omega, rfl⟩
    case rest =>
      obtain ⟨Q, rfl, hQ, rfl⟩ := hcut
      clear n0 n1 p0 p1
      have hb0 : Below w.heap.size w (w.alloc (.cells #[.int .u8 1, .int .u8 2] 5)) := (Below.refl _ _).alloc (Nat.le_refl _) _
      go_wp2_with fail
      generalize w.alloc (.cells #[.int .u8 1, .int .u8 2] 5) = W at *
      refine (read_new W _ 2 2).mono ?_
      rintro e w1 ⟨rfl, hR, hb1⟩
      have hbl1 := bthen hb0 hb1
      have hs1 := hb0.size
      generalize W.heap.size = g at *
      go_wp2_with fail
      refine (fail_new hR E Q (by simp; omega)).mono ?_
      rintro e w2 ⟨rfl, hR2, hF2, hg2⟩
      have hbl2 : Below w.heap.size w w2 := hbl1.trans (grown_below hg2 hs1 hbl1.size)
      generalize w1.heap.size = h at *
      clear hR hg2 hbl1 hb0 hb1
      go_wp2_with fail
      refine (end_bad hR2).mono ?_
      rintro e w3 ⟨rfl, rfl⟩
      have ta : (Instr.typeAssert (.iface 48 (.pointer (some ⟨h, 0, none⟩))) 33 48 true).run Try.prog w2 = .ok (.tuple #[.pointer (some ⟨h, 0, none⟩), .bool true]) w2 := by kernel_rfl
      have c0 : w2.cell? ⟨h, 0, none⟩ = some (.int .i64 E) := (Blk.cell hF2 0).trans rfl
      have c1 : w2.cell? ⟨h, 1, none⟩ = some (.int .i64 Q) := (Blk.cell hF2 1).trans rfl
      have k1 := fun w' => digitsR_any w' E (by omega)
      have k2 := fun w' => digitsR_any w' Q (by omega)
      have k3 := error_any hF2 (by omega) hQ
      unfold faultB atB at k3
      have s1 := dec_size E E (Nat.le_refl _)
      have s2 := dec_size Q Q (Nat.le_refl _)
      have hf : faultB.size = 6 := rfl
      have ha : atB.size = 9 := rfl
      have l1 : ¬ 9223372036854775807 < 6 + (dec E).size := by omega
      have l2 : ¬ 9223372036854775807 < 6 + (dec E).size + 9 := by omega
      have l3 : ¬ 9223372036854775807 < 6 + (dec E).size + 9 + (dec Q).size := by omega
      have K1 := Lib.hid k1
      have K2 := Lib.hid k2
      have K3 := Lib.hid k3
      clear k1 k2 k3 hF2 hR2
      generalize dec E = D1 at *
      generalize dec Q = D2 at *
      go_wp2_with fail
      refine K3.out.mono ?_
      rintro e w3 ⟨rfl, q, rfl⟩
      have hbl3 := below_drewN hbl2 q
      clear ta c0 c1 hbl2
      generalize w2.drewN q = w3 at *
      go_wp2_with fail
      refine (K1.out w3).mono ?_
      rintro e w4 ⟨rfl, rfl⟩
      go_wp2_with fail
      refine (K2.out w3).mono ?_
      rintro e w4 ⟨rfl, rfl⟩
      go_wp2_with fail
      refine (fail_nil w3 E Q).mono ?_
      rintro e w4 ⟨rfl, rfl⟩
      go_wp2_with fail
      refine (only_any w3 h).mono ?_
      rintro e w4 ⟨rfl, rfl⟩
      go_wp2_with fail
      refine (why_nil w3).mono ?_
      rintro e w4 ⟨rfl, rfl⟩
      have he := eql_same w3 ⟨h, 0, none⟩
      go_wp2_with fail
      clear he
      refine (error_nil w3).mono ?_
      rintro e w4 ⟨rfl, rfl⟩
      go_wp2_with fail
      refine (numberN w3 1 (.inl rfl)).mono ?_
      rintro e w4 ⟨rfl, rfl⟩
      go_wp2_with fail
      refine (signed_nil w3).mono ?_
      rintro e w4 ⟨rfl, rfl⟩
      go_wp2_with fail
      refine (take_nil w3).mono ?_
      rintro e w4 ⟨A4, c4, rfl, hb4⟩
      go_wp2_with fail
      refine (numbers_nil w4).mono ?_
      rintro e w5 ⟨rfl, rfl⟩
      go_wp2_with fail
      refine (at_nil w4).mono ?_
      rintro e w5 ⟨rfl, rfl⟩
      go_wp2_with fail
      refine (left_nil w4).mono ?_
      rintro e w5 ⟨rfl, rfl⟩
      go_wp2_with fail
      refine (bad_nil w4).mono ?_
      rintro e w5 ⟨rfl, rfl⟩
      go_wp2_with fail
      refine (end_nil w4).mono ?_
      rintro e w5 ⟨rfl, rfl⟩
      go_wp2_with fail
      refine (lives17 w4).mono ?_
      rintro e w5 ⟨rfl, hb5⟩
      go_wp2
      go_ret
      exact ⟨rfl, bthen (bthen hbl3 hb4) hb5⟩

end Go.Proofs.Ytpfojhmaeaeecaa
