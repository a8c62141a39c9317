/- Layer 11: the law's step: time goes by. -/
import Derived.Test.YtfcnlgkaejkneaaBd24
namespace Go.Proofs.Ytfcnlgkaejkneaa
open Go.RowKit

theorem nextB_is (b : Bd) : (nextB b).fr = (if b.fr + 1 = 69888 then 0 else b.fr + 1) ∧ (nextB b).t = b.t + 1 ∧ (nextB b).K = b.K := by
  unfold nextB seenB
  refine ⟨rfl, rfl, ?_⟩
  split <;> rfl
theorem frD_next (b : Bd) (ph : Int) (h : b.fr = frD b ph) : (nextB b).fr = frD (nextB b) ph := by
  obtain ⟨e1, e2, _⟩ := nextB_is b
  unfold frD at h ⊢
  rw [e1, e2, h]
  split <;> omega
/-- in the midst of a run: behind n steps and j T-states -/
structure PS.Run (s : PS) (n j : Nat) (same : Bool) : Prop where
  ok : s.Ok (n + 1) same
  t1 : s.b1.t ≤ (n : Int) * 4000 + j
  u1 : s.b2.t ≤ (n : Int) * 4000 + j
theorem PS.Run.next {s : PS} {n j : Nat} {same : Bool} (h : s.Run n j same) (hj : j < 3000) : PS.Run { s with b1 := nextB s.b1, b2 := nextB s.b2 } n (j + 1) same := by
  obtain ⟨ok, t1, u1⟩ := h
  obtain ⟨x1, x2, x3⟩ := nextB_is s.b1
  obtain ⟨y1, y2, y3⟩ := nextB_is s.b2
  have hf := frD_next s.b2 s.ph ok.fd
  refine ⟨⟨?_, ?_, ?_, ?_, by simp only [x3]; exact ok.K1, ok.a1, ok.e1, hf, ?_, ?_, ok.p0, ok.p1, by simp only [y3]; exact ok.K2, ok.z2, ok.a2, ok.e2, fun e => ?_⟩, ?_, ?_⟩
  · have := ok.f0; simp only [x1]; split <;> omega
  · have := ok.f1; simp only [x1]; split <;> omega
  · have := ok.t0; simp only [x2]; omega
  · simp only [x2]; omega
  · have := ok.u0; simp only [y2]; omega
  · simp only [y2]; omega
  · obtain ⟨e1, e2, e3⟩ := ok.eq e
    exact ⟨by simp only [e1], e2, e3⟩
  · simp only [x2]; omega
  · simp only [y2]; omega
set_option maxRecDepth 100000 in
set_option maxHeartbeats 8000000 in
theorem step4 (w : World) (base g q P : Nat) (s : PS) (n : Nat) (same : Bool) (A E D A' E' : Value) (h : PAt w base g q P s A E D A' E') (ok : s.Ok n same) (hn : n ≤ 100) (hb : base ≤ w.heap.size) (N a v : Int) (str : ByteArray) :
    Calls Try.prog 22 #[.pointer (some ⟨P, 0, none⟩), .agg #[.int .i64 4, .int .i64 N, .int .u16 a, .int .u8 v, .string str]] w fun x w' => StepO w w' x base g q P n same s.ph := by
  have hx0 : Blk (w.alloc (.cells #[.int .i64 4, .int .i64 N, .int .u16 a, .int .u8 v, .string str] 62)) w.heap.size 62 #[.int .i64 4, .int .i64 N, .int .u16 a, .int .u8 v, .string str] := Blk.new w _ _
  have hb0 : Below w.heap.size w (w.alloc (.cells #[.int .i64 4, .int .i64 N, .int .u16 a, .int .u8 v, .string str] 62)) := (Below.refl _ _).alloc (Nat.le_refl _) _
  have h0 := h.kept hb0
  have hsz := hb0.size
  go_enter Try.func22, Try.ntmps22
  go_upto_region 1 with fail
  generalize w.alloc (.cells #[.int .i64 4, .int .i64 N, .int .u16 a, .int .u8 v, .string str] 62) = W at *
  have H1 := Lib.hid (And.intro h0 (And.intro hx0 (hb0.mono hb)))
  have q0 : W.cell? ⟨P, 0, none⟩ = some (.pointer (some ⟨g, 0, none⟩)) := (h0.P.cell 0).trans rfl
  have q1 : W.cell? ⟨P, 1, none⟩ = some (.pointer (some ⟨q, 0, none⟩)) := (h0.P.cell 1).trans rfl
  have c0 : W.cell? ⟨w.heap.size, 0, none⟩ = some (.int .i64 4) := (hx0.cell 0).trans rfl
  have c1 : W.cell? ⟨w.heap.size, 1, none⟩ = some (.int .i64 N) := (hx0.cell 1).trans rfl
  have c2 : W.cell? ⟨w.heap.size, 2, none⟩ = some (.int .u16 a) := (hx0.cell 2).trans rfl
  have c3 : W.cell? ⟨w.heap.size, 3, none⟩ = some (.int .u8 v) := (hx0.cell 3).trans rfl
  have c4 : W.cell? ⟨w.heap.size, 4, none⟩ = some (.string str) := (hx0.cell 4).trans rfl
  clear h h0 hx0 hb0
  obtain ⟨m, hm⟩ : ∃ m : Nat, (m : Int) = max 0 (min N 3000) := ⟨(max 0 (min N 3000)).toNat, by omega⟩
  have hR0 : s.Run n 0 same := ⟨ok_next ok, by have := ok.t1; omega, by have := ok.u1; omega⟩
  clear ok q0 q1 c1 c2 c3 c4
  go_upto_region 14 with fail
  go_loopw [5] (fun x wr => ∃ (j : Nat) (s2 : PS), x = .int .i64 (j : Int) ∧ j ≤ m ∧ s2.ph = s.ph ∧ s2.Run n j same ∧ PAt wr base g q P s2 A E D A' E' ∧ Blk wr w.heap.size 62 #[.int .i64 4, .int .i64 N, .int .u16 a, .int .u8 v, .string str] ∧ Below base w wr) (fun x _ => m - (intOf x).toNat)
  case atStart => exact ⟨0, s, rfl, by omega, rfl, hR0, H1.out.1, H1.out.2.1, H1.out.2.2⟩
  case round =>
    obtain ⟨j, s2, rfl, hj, hph, hR, hP, hx, hbl⟩ := hrel
    have hj0 : (0 : Int) ≤ (j : Int) := Int.natCast_nonneg _
    clear c0 H1 hR0
    by_cases hN : 3000 < N
    · by_cases hlt : j < m
      · have hjI : (j : Int) < 3000 := by omega
        have hwj : IntKind.i64.wrap ((j : Int) + 1) = (j : Int) + 1 := by rw [IntKind.wrap_i64]; omega
        have ok9 := hR.ok
        have HI1 := Lib.hid (fun k => int_anyB (wr.drewN k) g s2.b1 A E (hP.B.bd.drewN k) ok9.f0 ok9.f1)
        have HF1 := Lib.hid (fun k => bFrame_any (wr.drewN k) g s2.b1 A E (hP.B.bd.drewN k))
        have HI2 := Lib.hid (fun k => drews (dInt_q (wr.drewN k) q s2.b2 s2.ph D A' E' (hP.X.bd.drewN k) ok9.u0 (by have := ok9.u1; omega) ok9.p0 ok9.p1))
        have HF2 := Lib.hid (fun k => drews (dFrame_q (wr.drewN k) q s2.b2 s2.ph D A' E' (hP.X.bd.drewN k) ok9.u0 (by have := ok9.u1; omega) ok9.p0 ok9.p1))
        have HSM := Lib.hid (show same = true → s2.b1.fr = frD s2.b2 s2.ph from fun e => by rw [(ok9.eq e).1, ← ok9.fd])
        have h32 : s2.b1.fr = frD s2.b2 s2.ph → decide (s2.b1.fr < 32) = decide (frD s2.b2 s2.ph < 32) := fun e => by rw [e]
        have H1 := Lib.hid (And.intro hP (And.intro hx hbl))
        have HR := Lib.hid hR
        have q0 : wr.cell? ⟨P, 0, none⟩ = some (.pointer (some ⟨g, 0, none⟩)) := (hP.P.cell 0).trans rfl
        have q1 : wr.cell? ⟨P, 1, none⟩ = some (.pointer (some ⟨q, 0, none⟩)) := (hP.P.cell 1).trans rfl
        have c0 : wr.cell? ⟨w.heap.size, 0, none⟩ = some (.int .i64 4) := (hx.cell 0).trans rfl
        have c1 : wr.cell? ⟨w.heap.size, 1, none⟩ = some (.int .i64 N) := (hx.cell 1).trans rfl
        have c2 : wr.cell? ⟨w.heap.size, 2, none⟩ = some (.int .u16 a) := (hx.cell 2).trans rfl
        have c3 : wr.cell? ⟨w.heap.size, 3, none⟩ = some (.int .u8 v) := (hx.cell 3).trans rfl
        have c4 : wr.cell? ⟨w.heap.size, 4, none⟩ = some (.string str) := (hx.cell 4).trans rfl
        clear hP hx hbl hR ok9
        generalize s2.b1.fr = f1 at *
        generalize frD s2.b2 s2.ph = f2 at *
        generalize decide (f1 < 32) = i1 at *
        generalize decide (f2 < 32) = i2 at *
        have HSI := Lib.hid (show same = true → i1 = i2 from fun e => h32 (HSM.out e))
        have H32 := Lib.hid h32
        clear h32
        cases i1 <;> cases i2
        · by_cases hff : f1 = f2
          · obtain rfl : f1 = f2 := hff
            have hE : (f1 == f1) = true := by simp
            have hE2 : (f1 != f1) = false := by simp
            go_upto_region 16 with fail
            go_quiet (first | (go_at_call 27; exact Calls.quiet_of_same (flip (HI1.out _))) | (go_at_call 28; exact Calls.quiet_of_same (flip (HF1.out _))) | (go_at_call 40; exact HI2.out _) | (go_at_call 41; exact HF2.out _) | fail)
            clear hE hE2 q0 q1 c0 c1 c2 c3 c4 HI1 HI2 HF1 HF2
            have KP := Lib.hid (And.intro (H1.out.1.kept (below_quiet _ nq)) (And.intro (H1.out.2.1.drewN nq) (below_drewN H1.out.2.2 nq)))
            generalize wr.drewN nq = w5 at *
            have q0 : w5.cell? ⟨P, 0, none⟩ = some (.pointer (some ⟨g, 0, none⟩)) := (KP.out.1.P.cell 0).trans rfl
            have q1 : w5.cell? ⟨P, 1, none⟩ = some (.pointer (some ⟨q, 0, none⟩)) := (KP.out.1.P.cell 1).trans rfl
            have c0 : w5.cell? ⟨w.heap.size, 0, none⟩ = some (.int .i64 4) := (KP.out.2.1.cell 0).trans rfl
            have c1 : w5.cell? ⟨w.heap.size, 1, none⟩ = some (.int .i64 N) := (KP.out.2.1.cell 1).trans rfl
            have c2 : w5.cell? ⟨w.heap.size, 2, none⟩ = some (.int .u16 a) := (KP.out.2.1.cell 2).trans rfl
            have c3 : w5.cell? ⟨w.heap.size, 3, none⟩ = some (.int .u8 v) := (KP.out.2.1.cell 3).trans rfl
            have c4 : w5.cell? ⟨w.heap.size, 4, none⟩ = some (.string str) := (KP.out.2.1.cell 4).trans rfl
            go_wp2_with fail
            refine (next_anyB w5 g s2.b1 A E KP.out.1.B.bd HR.out.ok.f0 HR.out.ok.f1 HR.out.ok.t0 (by have := HR.out.ok.t1; omega)).mono ?_
            rintro x w6 ⟨⟨u, rfl⟩, hB6, hg6⟩
            have k0 := KP.out.1
            have kP := k0.grownB hB6 hg6
            have kc := ch_grown (A := A) (E := E) hg6
            have kx := kc.blk KP.out.2.1 (k0.B.not KP.out.2.1 (by decide) (by decide) (by decide))
            have kb := KP.out.2.2.trans (k0.belowB kc (show base ≤ w5.heap.size by have := KP.out.2.2.size; omega))
            clear k0 kc q0 q1 c0 c1 c2 c3 c4 hB6 hg6
            have q0 : w6.cell? ⟨P, 0, none⟩ = some (.pointer (some ⟨g, 0, none⟩)) := (kP.P.cell 0).trans rfl
            have q1 : w6.cell? ⟨P, 1, none⟩ = some (.pointer (some ⟨q, 0, none⟩)) := (kP.P.cell 1).trans rfl
            have c0 : w6.cell? ⟨w.heap.size, 0, none⟩ = some (.int .i64 4) := (kx.cell 0).trans rfl
            have c1 : w6.cell? ⟨w.heap.size, 1, none⟩ = some (.int .i64 N) := (kx.cell 1).trans rfl
            have c2 : w6.cell? ⟨w.heap.size, 2, none⟩ = some (.int .u16 a) := (kx.cell 2).trans rfl
            have c3 : w6.cell? ⟨w.heap.size, 3, none⟩ = some (.int .u8 v) := (kx.cell 3).trans rfl
            have c4 : w6.cell? ⟨w.heap.size, 4, none⟩ = some (.string str) := (kx.cell 4).trans rfl
            have K6 := Lib.hid (And.intro kP (And.intro kx kb))
            clear kP kx kb
            go_wp2_with fail
            refine (dNext_any w6 q s2.b2 s2.ph D A' E' K6.out.1.X.bd HR.out.ok.fd HR.out.ok.u0 (by have := HR.out.ok.u1; omega) HR.out.ok.p0 HR.out.ok.p1).mono ?_
            rintro x w7 ⟨⟨u, rfl⟩, hX7, hg7⟩
            have k0 := K6.out.1
            have kP := k0.grownX hX7 hg7
            have kc := ch_grown (A := A') (E := E') hg7
            have kx := kc.blk K6.out.2.1 (k0.X.not K6.out.2.1 (by decide) (by decide) (by decide))
            have kb := K6.out.2.2.trans (k0.belowX kc (show base ≤ w6.heap.size by have := K6.out.2.2.size; omega))
            clear k0 kc q0 q1 c0 c1 c2 c3 c4 hX7 hg7
            have q0 : w7.cell? ⟨P, 0, none⟩ = some (.pointer (some ⟨g, 0, none⟩)) := (kP.P.cell 0).trans rfl
            have q1 : w7.cell? ⟨P, 1, none⟩ = some (.pointer (some ⟨q, 0, none⟩)) := (kP.P.cell 1).trans rfl
            have c0 : w7.cell? ⟨w.heap.size, 0, none⟩ = some (.int .i64 4) := (kx.cell 0).trans rfl
            have c1 : w7.cell? ⟨w.heap.size, 1, none⟩ = some (.int .i64 N) := (kx.cell 1).trans rfl
            have c2 : w7.cell? ⟨w.heap.size, 2, none⟩ = some (.int .u16 a) := (kx.cell 2).trans rfl
            have c3 : w7.cell? ⟨w.heap.size, 3, none⟩ = some (.int .u8 v) := (kx.cell 3).trans rfl
            have c4 : w7.cell? ⟨w.heap.size, 4, none⟩ = some (.string str) := (kx.cell 4).trans rfl
            have K7 := Lib.hid (And.intro kP (And.intro kx kb))
            clear kP kx kb
            go_wp2
            go_roundw
            case rel => exact ⟨j + 1, _, by go_num, by omega, by exact hph, HR.out.next (by omega), K7.out.1, K7.out.2.1, K7.out.2.2⟩
            case measure => simp [intOf]; omega
          · have hE : (f1 == f2) = false := by simpa using hff
            have hE2 : (f1 != f2) = true := by simpa using hff
            have HFF := Lib.hid hff
            clear hff
            go_upto_region 16 with fail
            go_quiet (first | (go_at_call 27; exact Calls.quiet_of_same (flip (HI1.out _))) | (go_at_call 28; exact Calls.quiet_of_same (flip (HF1.out _))) | (go_at_call 40; exact HI2.out _) | (go_at_call 41; exact HF2.out _) | fail)
            go_wp2
            go_ret
            exact ⟨false, _, A, E, D, A', E', rfl, hph, HR.out.ok, H1.out.1.kept (below_quiet _ _), fun e => absurd (HSM.out e) HFF.out, below_drewN H1.out.2.2 _⟩
        · go_upto_region 16 with fail
          go_quiet (first | (go_at_call 27; exact Calls.quiet_of_same (flip (HI1.out _))) | (go_at_call 28; exact Calls.quiet_of_same (flip (HF1.out _))) | (go_at_call 40; exact HI2.out _) | (go_at_call 41; exact HF2.out _) | fail)
          go_wp2
          go_ret
          exact ⟨false, _, A, E, D, A', E', rfl, hph, HR.out.ok, H1.out.1.kept (below_quiet _ _), fun e => absurd (HSI.out e) (by decide), below_drewN H1.out.2.2 _⟩
        · go_upto_region 16 with fail
          go_quiet (first | (go_at_call 27; exact Calls.quiet_of_same (flip (HI1.out _))) | (go_at_call 28; exact Calls.quiet_of_same (flip (HF1.out _))) | (go_at_call 40; exact HI2.out _) | (go_at_call 41; exact HF2.out _) | fail)
          go_wp2
          go_ret
          exact ⟨false, _, A, E, D, A', E', rfl, hph, HR.out.ok, H1.out.1.kept (below_quiet _ _), fun e => absurd (HSI.out e) (by decide), below_drewN H1.out.2.2 _⟩
        · by_cases hff : f1 = f2
          · obtain rfl : f1 = f2 := hff
            have hE : (f1 == f1) = true := by simp
            have hE2 : (f1 != f1) = false := by simp
            go_upto_region 16 with fail
            go_quiet (first | (go_at_call 27; exact Calls.quiet_of_same (flip (HI1.out _))) | (go_at_call 28; exact Calls.quiet_of_same (flip (HF1.out _))) | (go_at_call 40; exact HI2.out _) | (go_at_call 41; exact HF2.out _) | fail)
            clear hE hE2 q0 q1 c0 c1 c2 c3 c4 HI1 HI2 HF1 HF2
            have KP := Lib.hid (And.intro (H1.out.1.kept (below_quiet _ nq)) (And.intro (H1.out.2.1.drewN nq) (below_drewN H1.out.2.2 nq)))
            generalize wr.drewN nq = w5 at *
            have q0 : w5.cell? ⟨P, 0, none⟩ = some (.pointer (some ⟨g, 0, none⟩)) := (KP.out.1.P.cell 0).trans rfl
            have q1 : w5.cell? ⟨P, 1, none⟩ = some (.pointer (some ⟨q, 0, none⟩)) := (KP.out.1.P.cell 1).trans rfl
            have c0 : w5.cell? ⟨w.heap.size, 0, none⟩ = some (.int .i64 4) := (KP.out.2.1.cell 0).trans rfl
            have c1 : w5.cell? ⟨w.heap.size, 1, none⟩ = some (.int .i64 N) := (KP.out.2.1.cell 1).trans rfl
            have c2 : w5.cell? ⟨w.heap.size, 2, none⟩ = some (.int .u16 a) := (KP.out.2.1.cell 2).trans rfl
            have c3 : w5.cell? ⟨w.heap.size, 3, none⟩ = some (.int .u8 v) := (KP.out.2.1.cell 3).trans rfl
            have c4 : w5.cell? ⟨w.heap.size, 4, none⟩ = some (.string str) := (KP.out.2.1.cell 4).trans rfl
            go_wp2_with fail
            refine (next_anyB w5 g s2.b1 A E KP.out.1.B.bd HR.out.ok.f0 HR.out.ok.f1 HR.out.ok.t0 (by have := HR.out.ok.t1; omega)).mono ?_
            rintro x w6 ⟨⟨u, rfl⟩, hB6, hg6⟩
            have k0 := KP.out.1
            have kP := k0.grownB hB6 hg6
            have kc := ch_grown (A := A) (E := E) hg6
            have kx := kc.blk KP.out.2.1 (k0.B.not KP.out.2.1 (by decide) (by decide) (by decide))
            have kb := KP.out.2.2.trans (k0.belowB kc (show base ≤ w5.heap.size by have := KP.out.2.2.size; omega))
            clear k0 kc q0 q1 c0 c1 c2 c3 c4 hB6 hg6
            have q0 : w6.cell? ⟨P, 0, none⟩ = some (.pointer (some ⟨g, 0, none⟩)) := (kP.P.cell 0).trans rfl
            have q1 : w6.cell? ⟨P, 1, none⟩ = some (.pointer (some ⟨q, 0, none⟩)) := (kP.P.cell 1).trans rfl
            have c0 : w6.cell? ⟨w.heap.size, 0, none⟩ = some (.int .i64 4) := (kx.cell 0).trans rfl
            have c1 : w6.cell? ⟨w.heap.size, 1, none⟩ = some (.int .i64 N) := (kx.cell 1).trans rfl
            have c2 : w6.cell? ⟨w.heap.size, 2, none⟩ = some (.int .u16 a) := (kx.cell 2).trans rfl
            have c3 : w6.cell? ⟨w.heap.size, 3, none⟩ = some (.int .u8 v) := (kx.cell 3).trans rfl
            have c4 : w6.cell? ⟨w.heap.size, 4, none⟩ = some (.string str) := (kx.cell 4).trans rfl
            have K6 := Lib.hid (And.intro kP (And.intro kx kb))
            clear kP kx kb
            go_wp2_with fail
            refine (dNext_any w6 q s2.b2 s2.ph D A' E' K6.out.1.X.bd HR.out.ok.fd HR.out.ok.u0 (by have := HR.out.ok.u1; omega) HR.out.ok.p0 HR.out.ok.p1).mono ?_
            rintro x w7 ⟨⟨u, rfl⟩, hX7, hg7⟩
            have k0 := K6.out.1
            have kP := k0.grownX hX7 hg7
            have kc := ch_grown (A := A') (E := E') hg7
            have kx := kc.blk K6.out.2.1 (k0.X.not K6.out.2.1 (by decide) (by decide) (by decide))
            have kb := K6.out.2.2.trans (k0.belowX kc (show base ≤ w6.heap.size by have := K6.out.2.2.size; omega))
            clear k0 kc q0 q1 c0 c1 c2 c3 c4 hX7 hg7
            have q0 : w7.cell? ⟨P, 0, none⟩ = some (.pointer (some ⟨g, 0, none⟩)) := (kP.P.cell 0).trans rfl
            have q1 : w7.cell? ⟨P, 1, none⟩ = some (.pointer (some ⟨q, 0, none⟩)) := (kP.P.cell 1).trans rfl
            have c0 : w7.cell? ⟨w.heap.size, 0, none⟩ = some (.int .i64 4) := (kx.cell 0).trans rfl
            have c1 : w7.cell? ⟨w.heap.size, 1, none⟩ = some (.int .i64 N) := (kx.cell 1).trans rfl
            have c2 : w7.cell? ⟨w.heap.size, 2, none⟩ = some (.int .u16 a) := (kx.cell 2).trans rfl
            have c3 : w7.cell? ⟨w.heap.size, 3, none⟩ = some (.int .u8 v) := (kx.cell 3).trans rfl
            have c4 : w7.cell? ⟨w.heap.size, 4, none⟩ = some (.string str) := (kx.cell 4).trans rfl
            have K7 := Lib.hid (And.intro kP (And.intro kx kb))
            clear kP kx kb
            go_wp2
            go_roundw
            case rel => exact ⟨j + 1, _, by go_num, by omega, by exact hph, HR.out.next (by omega), K7.out.1, K7.out.2.1, K7.out.2.2⟩
            case measure => simp [intOf]; omega
          · have hE : (f1 == f2) = false := by simpa using hff
            have hE2 : (f1 != f2) = true := by simpa using hff
            have HFF := Lib.hid hff
            clear hff
            go_upto_region 16 with fail
            go_quiet (first | (go_at_call 27; exact Calls.quiet_of_same (flip (HI1.out _))) | (go_at_call 28; exact Calls.quiet_of_same (flip (HF1.out _))) | (go_at_call 40; exact HI2.out _) | (go_at_call 41; exact HF2.out _) | fail)
            go_wp2
            go_ret
            exact ⟨false, _, A, E, D, A', E', rfl, hph, HR.out.ok, H1.out.1.kept (below_quiet _ _), fun e => absurd (HSM.out e) HFF.out, below_drewN H1.out.2.2 _⟩
      · obtain rfl : j = m := by omega
        have hjI : ¬ (j : Int) < 3000 := by omega
        have q0 : wr.cell? ⟨P, 0, none⟩ = some (.pointer (some ⟨g, 0, none⟩)) := (hP.P.cell 0).trans rfl
        have q1 : wr.cell? ⟨P, 1, none⟩ = some (.pointer (some ⟨q, 0, none⟩)) := (hP.P.cell 1).trans rfl
        have c0 : wr.cell? ⟨w.heap.size, 0, none⟩ = some (.int .i64 4) := (hx.cell 0).trans rfl
        have c1 : wr.cell? ⟨w.heap.size, 1, none⟩ = some (.int .i64 N) := (hx.cell 1).trans rfl
        have c2 : wr.cell? ⟨w.heap.size, 2, none⟩ = some (.int .u16 a) := (hx.cell 2).trans rfl
        have c3 : wr.cell? ⟨w.heap.size, 3, none⟩ = some (.int .u8 v) := (hx.cell 3).trans rfl
        have c4 : wr.cell? ⟨w.heap.size, 4, none⟩ = some (.string str) := (hx.cell 4).trans rfl
        have H1 := Lib.hid (And.intro hP (And.intro hx hbl))
        have HR := Lib.hid hR
        clear hP hx hbl hR
        go_wp2
        go_ret
        exact ⟨true, s2, A, E, D, A', E', rfl, hph, HR.out.ok, H1.out.1, fun _ => rfl, H1.out.2.2⟩
    · have hN9 : N ≤ 3000 := by omega
      by_cases hlt : j < m
      · have hjI : (j : Int) < N := by omega
        have hwj : IntKind.i64.wrap ((j : Int) + 1) = (j : Int) + 1 := by rw [IntKind.wrap_i64]; omega
        have ok9 := hR.ok
        have HI1 := Lib.hid (fun k => int_anyB (wr.drewN k) g s2.b1 A E (hP.B.bd.drewN k) ok9.f0 ok9.f1)
        have HF1 := Lib.hid (fun k => bFrame_any (wr.drewN k) g s2.b1 A E (hP.B.bd.drewN k))
        have HI2 := Lib.hid (fun k => drews (dInt_q (wr.drewN k) q s2.b2 s2.ph D A' E' (hP.X.bd.drewN k) ok9.u0 (by have := ok9.u1; omega) ok9.p0 ok9.p1))
        have HF2 := Lib.hid (fun k => drews (dFrame_q (wr.drewN k) q s2.b2 s2.ph D A' E' (hP.X.bd.drewN k) ok9.u0 (by have := ok9.u1; omega) ok9.p0 ok9.p1))
        have HSM := Lib.hid (show same = true → s2.b1.fr = frD s2.b2 s2.ph from fun e => by rw [(ok9.eq e).1, ← ok9.fd])
        have h32 : s2.b1.fr = frD s2.b2 s2.ph → decide (s2.b1.fr < 32) = decide (frD s2.b2 s2.ph < 32) := fun e => by rw [e]
        have H1 := Lib.hid (And.intro hP (And.intro hx hbl))
        have HR := Lib.hid hR
        have q0 : wr.cell? ⟨P, 0, none⟩ = some (.pointer (some ⟨g, 0, none⟩)) := (hP.P.cell 0).trans rfl
        have q1 : wr.cell? ⟨P, 1, none⟩ = some (.pointer (some ⟨q, 0, none⟩)) := (hP.P.cell 1).trans rfl
        have c0 : wr.cell? ⟨w.heap.size, 0, none⟩ = some (.int .i64 4) := (hx.cell 0).trans rfl
        have c1 : wr.cell? ⟨w.heap.size, 1, none⟩ = some (.int .i64 N) := (hx.cell 1).trans rfl
        have c2 : wr.cell? ⟨w.heap.size, 2, none⟩ = some (.int .u16 a) := (hx.cell 2).trans rfl
        have c3 : wr.cell? ⟨w.heap.size, 3, none⟩ = some (.int .u8 v) := (hx.cell 3).trans rfl
        have c4 : wr.cell? ⟨w.heap.size, 4, none⟩ = some (.string str) := (hx.cell 4).trans rfl
        clear hP hx hbl hR ok9
        generalize s2.b1.fr = f1 at *
        generalize frD s2.b2 s2.ph = f2 at *
        generalize decide (f1 < 32) = i1 at *
        generalize decide (f2 < 32) = i2 at *
        have HSI := Lib.hid (show same = true → i1 = i2 from fun e => h32 (HSM.out e))
        have H32 := Lib.hid h32
        clear h32
        cases i1 <;> cases i2
        · by_cases hff : f1 = f2
          · obtain rfl : f1 = f2 := hff
            have hE : (f1 == f1) = true := by simp
            have hE2 : (f1 != f1) = false := by simp
            go_upto_region 16 with fail
            go_quiet (first | (go_at_call 27; exact Calls.quiet_of_same (flip (HI1.out _))) | (go_at_call 28; exact Calls.quiet_of_same (flip (HF1.out _))) | (go_at_call 40; exact HI2.out _) | (go_at_call 41; exact HF2.out _) | fail)
            clear hE hE2 q0 q1 c0 c1 c2 c3 c4 HI1 HI2 HF1 HF2
            have KP := Lib.hid (And.intro (H1.out.1.kept (below_quiet _ nq)) (And.intro (H1.out.2.1.drewN nq) (below_drewN H1.out.2.2 nq)))
            generalize wr.drewN nq = w5 at *
            have q0 : w5.cell? ⟨P, 0, none⟩ = some (.pointer (some ⟨g, 0, none⟩)) := (KP.out.1.P.cell 0).trans rfl
            have q1 : w5.cell? ⟨P, 1, none⟩ = some (.pointer (some ⟨q, 0, none⟩)) := (KP.out.1.P.cell 1).trans rfl
            have c0 : w5.cell? ⟨w.heap.size, 0, none⟩ = some (.int .i64 4) := (KP.out.2.1.cell 0).trans rfl
            have c1 : w5.cell? ⟨w.heap.size, 1, none⟩ = some (.int .i64 N) := (KP.out.2.1.cell 1).trans rfl
            have c2 : w5.cell? ⟨w.heap.size, 2, none⟩ = some (.int .u16 a) := (KP.out.2.1.cell 2).trans rfl
            have c3 : w5.cell? ⟨w.heap.size, 3, none⟩ = some (.int .u8 v) := (KP.out.2.1.cell 3).trans rfl
            have c4 : w5.cell? ⟨w.heap.size, 4, none⟩ = some (.string str) := (KP.out.2.1.cell 4).trans rfl
            go_wp2_with fail
            refine (next_anyB w5 g s2.b1 A E KP.out.1.B.bd HR.out.ok.f0 HR.out.ok.f1 HR.out.ok.t0 (by have := HR.out.ok.t1; omega)).mono ?_
            rintro x w6 ⟨⟨u, rfl⟩, hB6, hg6⟩
            have k0 := KP.out.1
            have kP := k0.grownB hB6 hg6
            have kc := ch_grown (A := A) (E := E) hg6
            have kx := kc.blk KP.out.2.1 (k0.B.not KP.out.2.1 (by decide) (by decide) (by decide))
            have kb := KP.out.2.2.trans (k0.belowB kc (show base ≤ w5.heap.size by have := KP.out.2.2.size; omega))
            clear k0 kc q0 q1 c0 c1 c2 c3 c4 hB6 hg6
            have q0 : w6.cell? ⟨P, 0, none⟩ = some (.pointer (some ⟨g, 0, none⟩)) := (kP.P.cell 0).trans rfl
            have q1 : w6.cell? ⟨P, 1, none⟩ = some (.pointer (some ⟨q, 0, none⟩)) := (kP.P.cell 1).trans rfl
            have c0 : w6.cell? ⟨w.heap.size, 0, none⟩ = some (.int .i64 4) := (kx.cell 0).trans rfl
            have c1 : w6.cell? ⟨w.heap.size, 1, none⟩ = some (.int .i64 N) := (kx.cell 1).trans rfl
            have c2 : w6.cell? ⟨w.heap.size, 2, none⟩ = some (.int .u16 a) := (kx.cell 2).trans rfl
            have c3 : w6.cell? ⟨w.heap.size, 3, none⟩ = some (.int .u8 v) := (kx.cell 3).trans rfl
            have c4 : w6.cell? ⟨w.heap.size, 4, none⟩ = some (.string str) := (kx.cell 4).trans rfl
            have K6 := Lib.hid (And.intro kP (And.intro kx kb))
            clear kP kx kb
            go_wp2_with fail
            refine (dNext_any w6 q s2.b2 s2.ph D A' E' K6.out.1.X.bd HR.out.ok.fd HR.out.ok.u0 (by have := HR.out.ok.u1; omega) HR.out.ok.p0 HR.out.ok.p1).mono ?_
            rintro x w7 ⟨⟨u, rfl⟩, hX7, hg7⟩
            have k0 := K6.out.1
            have kP := k0.grownX hX7 hg7
            have kc := ch_grown (A := A') (E := E') hg7
            have kx := kc.blk K6.out.2.1 (k0.X.not K6.out.2.1 (by decide) (by decide) (by decide))
            have kb := K6.out.2.2.trans (k0.belowX kc (show base ≤ w6.heap.size by have := K6.out.2.2.size; omega))
            clear k0 kc q0 q1 c0 c1 c2 c3 c4 hX7 hg7
            have q0 : w7.cell? ⟨P, 0, none⟩ = some (.pointer (some ⟨g, 0, none⟩)) := (kP.P.cell 0).trans rfl
            have q1 : w7.cell? ⟨P, 1, none⟩ = some (.pointer (some ⟨q, 0, none⟩)) := (kP.P.cell 1).trans rfl
            have c0 : w7.cell? ⟨w.heap.size, 0, none⟩ = some (.int .i64 4) := (kx.cell 0).trans rfl
            have c1 : w7.cell? ⟨w.heap.size, 1, none⟩ = some (.int .i64 N) := (kx.cell 1).trans rfl
            have c2 : w7.cell? ⟨w.heap.size, 2, none⟩ = some (.int .u16 a) := (kx.cell 2).trans rfl
            have c3 : w7.cell? ⟨w.heap.size, 3, none⟩ = some (.int .u8 v) := (kx.cell 3).trans rfl
            have c4 : w7.cell? ⟨w.heap.size, 4, none⟩ = some (.string str) := (kx.cell 4).trans rfl
            have K7 := Lib.hid (And.intro kP (And.intro kx kb))
            clear kP kx kb
            go_wp2
            go_roundw
            case rel => exact ⟨j + 1, _, by go_num, by omega, by exact hph, HR.out.next (by omega), K7.out.1, K7.out.2.1, K7.out.2.2⟩
            case measure => simp [intOf]; omega
          · have hE : (f1 == f2) = false := by simpa using hff
            have hE2 : (f1 != f2) = true := by simpa using hff
            have HFF := Lib.hid hff
            clear hff
            go_upto_region 16 with fail
            go_quiet (first | (go_at_call 27; exact Calls.quiet_of_same (flip (HI1.out _))) | (go_at_call 28; exact Calls.quiet_of_same (flip (HF1.out _))) | (go_at_call 40; exact HI2.out _) | (go_at_call 41; exact HF2.out _) | fail)
            go_wp2
            go_ret
            exact ⟨false, _, A, E, D, A', E', rfl, hph, HR.out.ok, H1.out.1.kept (below_quiet _ _), fun e => absurd (HSM.out e) HFF.out, below_drewN H1.out.2.2 _⟩
        · go_upto_region 16 with fail
          go_quiet (first | (go_at_call 27; exact Calls.quiet_of_same (flip (HI1.out _))) | (go_at_call 28; exact Calls.quiet_of_same (flip (HF1.out _))) | (go_at_call 40; exact HI2.out _) | (go_at_call 41; exact HF2.out _) | fail)
          go_wp2
          go_ret
          exact ⟨false, _, A, E, D, A', E', rfl, hph, HR.out.ok, H1.out.1.kept (below_quiet _ _), fun e => absurd (HSI.out e) (by decide), below_drewN H1.out.2.2 _⟩
        · go_upto_region 16 with fail
          go_quiet (first | (go_at_call 27; exact Calls.quiet_of_same (flip (HI1.out _))) | (go_at_call 28; exact Calls.quiet_of_same (flip (HF1.out _))) | (go_at_call 40; exact HI2.out _) | (go_at_call 41; exact HF2.out _) | fail)
          go_wp2
          go_ret
          exact ⟨false, _, A, E, D, A', E', rfl, hph, HR.out.ok, H1.out.1.kept (below_quiet _ _), fun e => absurd (HSI.out e) (by decide), below_drewN H1.out.2.2 _⟩
        · by_cases hff : f1 = f2
          · obtain rfl : f1 = f2 := hff
            have hE : (f1 == f1) = true := by simp
            have hE2 : (f1 != f1) = false := by simp
            go_upto_region 16 with fail
            go_quiet (first | (go_at_call 27; exact Calls.quiet_of_same (flip (HI1.out _))) | (go_at_call 28; exact Calls.quiet_of_same (flip (HF1.out _))) | (go_at_call 40; exact HI2.out _) | (go_at_call 41; exact HF2.out _) | fail)
            clear hE hE2 q0 q1 c0 c1 c2 c3 c4 HI1 HI2 HF1 HF2
            have KP := Lib.hid (And.intro (H1.out.1.kept (below_quiet _ nq)) (And.intro (H1.out.2.1.drewN nq) (below_drewN H1.out.2.2 nq)))
            generalize wr.drewN nq = w5 at *
            have q0 : w5.cell? ⟨P, 0, none⟩ = some (.pointer (some ⟨g, 0, none⟩)) := (KP.out.1.P.cell 0).trans rfl
            have q1 : w5.cell? ⟨P, 1, none⟩ = some (.pointer (some ⟨q, 0, none⟩)) := (KP.out.1.P.cell 1).trans rfl
            have c0 : w5.cell? ⟨w.heap.size, 0, none⟩ = some (.int .i64 4) := (KP.out.2.1.cell 0).trans rfl
            have c1 : w5.cell? ⟨w.heap.size, 1, none⟩ = some (.int .i64 N) := (KP.out.2.1.cell 1).trans rfl
            have c2 : w5.cell? ⟨w.heap.size, 2, none⟩ = some (.int .u16 a) := (KP.out.2.1.cell 2).trans rfl
            have c3 : w5.cell? ⟨w.heap.size, 3, none⟩ = some (.int .u8 v) := (KP.out.2.1.cell 3).trans rfl
            have c4 : w5.cell? ⟨w.heap.size, 4, none⟩ = some (.string str) := (KP.out.2.1.cell 4).trans rfl
            go_wp2_with fail
            refine (next_anyB w5 g s2.b1 A E KP.out.1.B.bd HR.out.ok.f0 HR.out.ok.f1 HR.out.ok.t0 (by have := HR.out.ok.t1; omega)).mono ?_
            rintro x w6 ⟨⟨u, rfl⟩, hB6, hg6⟩
            have k0 := KP.out.1
            have kP := k0.grownB hB6 hg6
            have kc := ch_grown (A := A) (E := E) hg6
            have kx := kc.blk KP.out.2.1 (k0.B.not KP.out.2.1 (by decide) (by decide) (by decide))
            have kb := KP.out.2.2.trans (k0.belowB kc (show base ≤ w5.heap.size by have := KP.out.2.2.size; omega))
            clear k0 kc q0 q1 c0 c1 c2 c3 c4 hB6 hg6
            have q0 : w6.cell? ⟨P, 0, none⟩ = some (.pointer (some ⟨g, 0, none⟩)) := (kP.P.cell 0).trans rfl
            have q1 : w6.cell? ⟨P, 1, none⟩ = some (.pointer (some ⟨q, 0, none⟩)) := (kP.P.cell 1).trans rfl
            have c0 : w6.cell? ⟨w.heap.size, 0, none⟩ = some (.int .i64 4) := (kx.cell 0).trans rfl
            have c1 : w6.cell? ⟨w.heap.size, 1, none⟩ = some (.int .i64 N) := (kx.cell 1).trans rfl
            have c2 : w6.cell? ⟨w.heap.size, 2, none⟩ = some (.int .u16 a) := (kx.cell 2).trans rfl
            have c3 : w6.cell? ⟨w.heap.size, 3, none⟩ = some (.int .u8 v) := (kx.cell 3).trans rfl
            have c4 : w6.cell? ⟨w.heap.size, 4, none⟩ = some (.string str) := (kx.cell 4).trans rfl
            have K6 := Lib.hid (And.intro kP (And.intro kx kb))
            clear kP kx kb
            go_wp2_with fail
            refine (dNext_any w6 q s2.b2 s2.ph D A' E' K6.out.1.X.bd HR.out.ok.fd HR.out.ok.u0 (by have := HR.out.ok.u1; omega) HR.out.ok.p0 HR.out.ok.p1).mono ?_
            rintro x w7 ⟨⟨u, rfl⟩, hX7, hg7⟩
            have k0 := K6.out.1
            have kP := k0.grownX hX7 hg7
            have kc := ch_grown (A := A') (E := E') hg7
            have kx := kc.blk K6.out.2.1 (k0.X.not K6.out.2.1 (by decide) (by decide) (by decide))
            have kb := K6.out.2.2.trans (k0.belowX kc (show base ≤ w6.heap.size by have := K6.out.2.2.size; omega))
            clear k0 kc q0 q1 c0 c1 c2 c3 c4 hX7 hg7
            have q0 : w7.cell? ⟨P, 0, none⟩ = some (.pointer (some ⟨g, 0, none⟩)) := (kP.P.cell 0).trans rfl
            have q1 : w7.cell? ⟨P, 1, none⟩ = some (.pointer (some ⟨q, 0, none⟩)) := (kP.P.cell 1).trans rfl
            have c0 : w7.cell? ⟨w.heap.size, 0, none⟩ = some (.int .i64 4) := (kx.cell 0).trans rfl
            have c1 : w7.cell? ⟨w.heap.size, 1, none⟩ = some (.int .i64 N) := (kx.cell 1).trans rfl
            have c2 : w7.cell? ⟨w.heap.size, 2, none⟩ = some (.int .u16 a) := (kx.cell 2).trans rfl
            have c3 : w7.cell? ⟨w.heap.size, 3, none⟩ = some (.int .u8 v) := (kx.cell 3).trans rfl
            have c4 : w7.cell? ⟨w.heap.size, 4, none⟩ = some (.string str) := (kx.cell 4).trans rfl
            have K7 := Lib.hid (And.intro kP (And.intro kx kb))
            clear kP kx kb
            go_wp2
            go_roundw
            case rel => exact ⟨j + 1, _, by go_num, by omega, by exact hph, HR.out.next (by omega), K7.out.1, K7.out.2.1, K7.out.2.2⟩
            case measure => simp [intOf]; omega
          · have hE : (f1 == f2) = false := by simpa using hff
            have hE2 : (f1 != f2) = true := by simpa using hff
            have HFF := Lib.hid hff
            clear hff
            go_upto_region 16 with fail
            go_quiet (first | (go_at_call 27; exact Calls.quiet_of_same (flip (HI1.out _))) | (go_at_call 28; exact Calls.quiet_of_same (flip (HF1.out _))) | (go_at_call 40; exact HI2.out _) | (go_at_call 41; exact HF2.out _) | fail)
            go_wp2
            go_ret
            exact ⟨false, _, A, E, D, A', E', rfl, hph, HR.out.ok, H1.out.1.kept (below_quiet _ _), fun e => absurd (HSM.out e) HFF.out, below_drewN H1.out.2.2 _⟩
      · obtain rfl : j = m := by omega
        have hjI : ¬ (j : Int) < N := by omega
        have q0 : wr.cell? ⟨P, 0, none⟩ = some (.pointer (some ⟨g, 0, none⟩)) := (hP.P.cell 0).trans rfl
        have q1 : wr.cell? ⟨P, 1, none⟩ = some (.pointer (some ⟨q, 0, none⟩)) := (hP.P.cell 1).trans rfl
        have c0 : wr.cell? ⟨w.heap.size, 0, none⟩ = some (.int .i64 4) := (hx.cell 0).trans rfl
        have c1 : wr.cell? ⟨w.heap.size, 1, none⟩ = some (.int .i64 N) := (hx.cell 1).trans rfl
        have c2 : wr.cell? ⟨w.heap.size, 2, none⟩ = some (.int .u16 a) := (hx.cell 2).trans rfl
        have c3 : wr.cell? ⟨w.heap.size, 3, none⟩ = some (.int .u8 v) := (hx.cell 3).trans rfl
        have c4 : wr.cell? ⟨w.heap.size, 4, none⟩ = some (.string str) := (hx.cell 4).trans rfl
        have H1 := Lib.hid (And.intro hP (And.intro hx hbl))
        have HR := Lib.hid hR
        clear hP hx hbl hR
        go_wp2
        go_ret
        exact ⟨true, s2, A, E, D, A', E', rfl, hph, HR.out.ok, H1.out.1, fun _ => rfl, H1.out.2.2⟩
end Go.Proofs.Ytfcnlgkaejkneaa
