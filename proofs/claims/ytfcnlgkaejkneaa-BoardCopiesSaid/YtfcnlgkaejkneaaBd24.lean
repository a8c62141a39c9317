/- Layer 11: the document's Frame, Int, Hold write nothing at all; the law's step: the level turned, how long a cycle is held. -/
import Derived.Test.YtfcnlgkaejkneaaBd23
import Derived.BigRegion
namespace Go.Proofs.Ytfcnlgkaejkneaa
open Go.RowKit

set_option maxRecDepth 100000 in
set_option maxHeartbeats 8000000 in
theorem dFrame_q (w : World) (g : Nat) (b : Bd) (ph : Int) (D A E : Value) (h : DcIs w g b ph D A E) (t0 : 0 ≤ b.t) (t1 : b.t ≤ 1000000000) (p0 : 0 ≤ ph) (p1 : ph ≤ 69887) :
    Calls Try.prog 41 #[.pointer (some ⟨g, 0, none⟩)] w fun x w' => x = .returned (.int .i64 (frD b ph)) ∧ ∃ m, w' = w.drewN m := by
  have ct := h.at_ (i := 65537) (by decide) dc_t
  have cp := h.at_ (i := 65540) (by decide) dc_ph
  have hb := frD_bd b ph
  have hf : (b.t + ph) % 69888 = frD b ph := rfl
  have htm : (b.t + ph).tmod 69888 = frD b ph := by rw [Int.tmod_eq_emod_of_nonneg (by omega)]; rfl
  generalize frD b ph = F at *
  generalize b.t = t at *
  have w1 : IntKind.u64.wrap ph = ph := by simp [IntKind.wrap, IntKind.bits, IntKind.signed]; omega
  have w2 : IntKind.u64.wrap (t + ph) = t + ph := by simp [IntKind.wrap, IntKind.bits, IntKind.signed]; omega
  have w3 : IntKind.u64.wrap F = F := by simp [IntKind.wrap, IntKind.bits, IntKind.signed]; omega
  have w4 : IntKind.i64.wrap F = F := by rw [IntKind.wrap_i64]; omega
  clear h
  go_enter Try.func41, Try.ntmps41
  go_upto_region 1 with fail
  go_quiet (fail)
  go_wp2
  go_ret
  exact ⟨rfl, _, rfl⟩
set_option maxRecDepth 100000 in
set_option maxHeartbeats 8000000 in
theorem dInt_q (w : World) (g : Nat) (b : Bd) (ph : Int) (D A E : Value) (h : DcIs w g b ph D A E) (t0 : 0 ≤ b.t) (t1 : b.t ≤ 1000000000) (p0 : 0 ≤ ph) (p1 : ph ≤ 69887) :
    Calls Try.prog 40 #[.pointer (some ⟨g, 0, none⟩)] w fun x w' => x = .returned (.bool (decide (frD b ph < 32))) ∧ ∃ m, w' = w.drewN m := by
  have cf := h.at_ (i := 0) (by decide) dc_flat
  have hf := dFrame_q w g b ph D A E h t0 t1 p0 p1
  clear h
  go_enter Try.func40, Try.ntmps40
  go_wp2_with fail
  refine hf.mono ?_
  rintro x w' ⟨rfl, m, rfl⟩
  clear hf
  go_wp2
  go_ret
  exact ⟨rfl, m, rfl⟩
set_option maxRecDepth 100000 in
set_option maxHeartbeats 8000000 in
theorem dHold_q (w : World) (g : Nat) (b : Bd) (ph : Int) (D A E : Value) (kind a k : Int) (h : DcIs w g b ph D A E) (t0 : 0 ≤ b.t) (t1 : b.t ≤ 1000000000) (p0 : 0 ≤ ph) (p1 : ph ≤ 69887) (q0 : -9223372036854775808 ≤ kind) (q1 : kind ≤ 9223372036854775807) (a0 : 0 ≤ a) (a1 : a ≤ 65535) (k0 : -9223372036854775808 ≤ k) (k1 : k ≤ 9223372036854775807) :
    Calls Try.prog 46 #[.pointer (some ⟨g, 0, none⟩), .int .i64 kind, .int .u16 a, .int .i64 k] w fun x w' => x = .returned (.int .i64 (if b.slow = true then holdS kind a k (frD b ph) else 0)) ∧ ∃ m, w' = w.drewN m := by
  have cf := h.at_ (i := 0) (by decide) dc_flat
  have cs := h.at_ (i := 65541) (by decide) dc_slow
  have hf := dFrame_q w g b ph D A E h t0 t1 p0 p1
  obtain ⟨f0, f1⟩ := frD_bd b ph
  clear h t0 t1 p0 p1
  generalize frD b ph = F at *
  have hho := fun w' => holdR_any kind a k F w' q0 q1 a0 a1 k0 k1 (by omega) (by omega)
  cases hs : b.slow with
  | true =>
    rw [hs] at cs
    clear hs q0 q1 k0 k1
    go_enter Try.func46, Try.ntmps46
    go_wp2_with fail
    refine hf.mono ?_
    rintro x w1 ⟨rfl, m, rfl⟩
    clear hf
    go_wp2_with fail
    refine (hho _).mono ?_
    rintro x w' ⟨rfl, rfl⟩
    clear hho
    go_wp2
    go_ret
    exact ⟨rfl, m, rfl⟩
  | false =>
    rw [hs] at cs
    clear hs hho hf
    go_enter Try.func46, Try.ntmps46
    go_wp2
    go_ret
    exact ⟨rfl, 0, rfl⟩
theorem drews {R : Ending → Prop} {w : World} {f : FuncId} {args : Array Value} {k : Nat} (h : Calls Try.prog f args (w.drewN k) fun e w' => R e ∧ ∃ m, w' = (w.drewN k).drewN m) : Calls Try.prog f args (w.drewN k) fun e w' => R e ∧ ∃ m, w' = w.drewN m :=
  h.mono fun _ _ ⟨a, m, b⟩ => ⟨a, k + m, by rw [b, World.drewN_drewN]⟩
set_option maxRecDepth 100000 in
set_option maxHeartbeats 8000000 in
theorem step7 (w : World) (base g q P : Nat) (s : PS) (n : Nat) (same : Bool) (A E D A' E' : Value) (h : PAt w base g q P s A E D A' E') (ok : s.Ok n same) (hn : n ≤ 100) (hb : base ≤ w.heap.size) (N a v : Int) (str : ByteArray) (n0 : -9223372036854775808 ≤ N) (n1 : N ≤ 9223372036854775807) (a0 : 0 ≤ a) (a1 : a ≤ 65535) (v0 : 0 ≤ v) (v1 : v ≤ 255) :
    Calls Try.prog 22 #[.pointer (some ⟨P, 0, none⟩), .agg #[.int .i64 7, .int .i64 N, .int .u16 a, .int .u8 v, .string str]] w fun x w' => StepO w w' x base g q P n same s.ph := by
  have hx0 : Blk (w.alloc (.cells #[.int .i64 7, .int .i64 N, .int .u16 a, .int .u8 v, .string str] 62)) w.heap.size 62 #[.int .i64 7, .int .i64 N, .int .u16 a, .int .u8 v, .string str] := Blk.new w _ _
  have hb0 : Below w.heap.size w (w.alloc (.cells #[.int .i64 7, .int .i64 N, .int .u16 a, .int .u8 v, .string str] 62)) := (Below.refl _ _).alloc (Nat.le_refl _) _
  have h0 := h.kept hb0
  have hsz := hb0.size
  go_enter Try.func22, Try.ntmps22
  go_upto_region 1 with fail
  generalize w.alloc (.cells #[.int .i64 7, .int .i64 N, .int .u16 a, .int .u8 v, .string str] 62) = W at *
  have H1 := Lib.hid (And.intro h0 (And.intro hx0 (hb0.mono hb)))
  have q0 : W.cell? ⟨P, 0, none⟩ = some (.pointer (some ⟨g, 0, none⟩)) := (h0.P.cell 0).trans rfl
  have q1 : W.cell? ⟨P, 1, none⟩ = some (.pointer (some ⟨q, 0, none⟩)) := (h0.P.cell 1).trans rfl
  have c0 : W.cell? ⟨w.heap.size, 0, none⟩ = some (.int .i64 7) := (hx0.cell 0).trans rfl
  have c1 : W.cell? ⟨w.heap.size, 1, none⟩ = some (.int .i64 N) := (hx0.cell 1).trans rfl
  have c2 : W.cell? ⟨w.heap.size, 2, none⟩ = some (.int .u16 a) := (hx0.cell 2).trans rfl
  have c3 : W.cell? ⟨w.heap.size, 3, none⟩ = some (.int .u8 v) := (hx0.cell 3).trans rfl
  have c4 : W.cell? ⟨w.heap.size, 4, none⟩ = some (.string str) := (hx0.cell 4).trans rfl
  clear h h0 hx0 hb0
  have hwv : IntKind.i64.wrap v = v := by rw [IntKind.wrap_i64]; omega
  have HB1 := Lib.hid (fun k => hold_anyB (W.drewN k) g s.b1 A E N a v (H1.out.1.B.bd.drewN k) n0 n1 a0 a1 (by omega) (by omega) ok.f0 ok.f1)
  have HX1 := Lib.hid (fun k => drews (dHold_q (W.drewN k) q s.b2 s.ph D A' E' N a v (H1.out.1.X.bd.drewN k) ok.u0 (by have := ok.u1; omega) ok.p0 ok.p1 n0 n1 a0 a1 (by omega) (by omega)))
  have HEQ := Lib.hid (show same = true → ((if s.b1.slow = true then holdS N a v s.b1.fr else 0) == (if s.b2.slow = true then holdS N a v (frD s.b2 s.ph) else 0)) = true from fun e => by rw [(ok.eq e).1, ← ok.fd]; simp)
  have HOK := Lib.hid ok
  clear ok n0 n1 a0 a1 v0 v1
  generalize (if s.b1.slow = true then holdS N a v s.b1.fr else 0) = m1 at *
  generalize (if s.b2.slow = true then holdS N a v (frD s.b2 s.ph) else 0) = m2 at *
  go_upto_region 30 with fail
  go_quiet (first | (go_at_call 26; exact Calls.quiet_of_same (flip (HB1.out _))) | (go_at_call 46; exact HX1.out _) | fail)
  go_wp2
  go_ret
  exact ⟨_, s, A, E, D, A', E', rfl, rfl, ok_next HOK.out, H1.out.1.kept (below_quiet _ _), HEQ.out, below_drewN H1.out.2.2 _⟩
theorem ok_ear {s : PS} {n : Nat} {same : Bool} (ok : s.Ok n same) : PS.Ok { s with b1 := { s.b1 with ear := !s.b1.ear }, b2 := { s.b2 with ear := !s.b2.ear } } (n + 1) same :=
  ⟨ok.f0, ok.f1, ok.t0, by have := ok.t1; simp only; omega, ok.K1, Nat.le_succ_of_le ok.a1, Nat.le_succ_of_le ok.e1, ok.fd, ok.u0, by have := ok.u1; simp only; omega, ok.p0, ok.p1, ok.K2, Nat.le_succ_of_le ok.z2, Nat.le_succ_of_le ok.a2, Nat.le_succ_of_le ok.e2, fun e => by
    obtain ⟨e1, e2, e3⟩ := ok.eq e
    exact ⟨by simp only [e1], e2, e3⟩⟩
set_option maxRecDepth 100000 in
set_option maxHeartbeats 8000000 in
theorem step6 (w : World) (base g q P : Nat) (s : PS) (n : Nat) (same : Bool) (A E D A' E' : Value) (h : PAt w base g q P s A E D A' E') (ok : s.Ok n same) (hn : n ≤ 100) (hb : base ≤ w.heap.size) (N a v : Int) (str : ByteArray) :
    Calls Try.prog 22 #[.pointer (some ⟨P, 0, none⟩), .agg #[.int .i64 6, .int .i64 N, .int .u16 a, .int .u8 v, .string str]] w fun x w' => StepO w w' x base g q P n same s.ph := by
  have hx0 : Blk (w.alloc (.cells #[.int .i64 6, .int .i64 N, .int .u16 a, .int .u8 v, .string str] 62)) w.heap.size 62 #[.int .i64 6, .int .i64 N, .int .u16 a, .int .u8 v, .string str] := Blk.new w _ _
  have hb0 : Below w.heap.size w (w.alloc (.cells #[.int .i64 6, .int .i64 N, .int .u16 a, .int .u8 v, .string str] 62)) := (Below.refl _ _).alloc (Nat.le_refl _) _
  have h0 := h.kept hb0
  have hsz := hb0.size
  go_enter Try.func22, Try.ntmps22
  go_upto_region 1 with fail
  generalize w.alloc (.cells #[.int .i64 6, .int .i64 N, .int .u16 a, .int .u8 v, .string str] 62) = W at *
  have H1 := Lib.hid (And.intro h0 (And.intro hx0 (hb0.mono hb)))
  have q0 : W.cell? ⟨P, 0, none⟩ = some (.pointer (some ⟨g, 0, none⟩)) := (h0.P.cell 0).trans rfl
  have q1 : W.cell? ⟨P, 1, none⟩ = some (.pointer (some ⟨q, 0, none⟩)) := (h0.P.cell 1).trans rfl
  have c0 : W.cell? ⟨w.heap.size, 0, none⟩ = some (.int .i64 6) := (hx0.cell 0).trans rfl
  have c1 : W.cell? ⟨w.heap.size, 1, none⟩ = some (.int .i64 N) := (hx0.cell 1).trans rfl
  have c2 : W.cell? ⟨w.heap.size, 2, none⟩ = some (.int .u16 a) := (hx0.cell 2).trans rfl
  have c3 : W.cell? ⟨w.heap.size, 3, none⟩ = some (.int .u8 v) := (hx0.cell 3).trans rfl
  have c4 : W.cell? ⟨w.heap.size, 4, none⟩ = some (.string str) := (hx0.cell 4).trans rfl
  clear h h0 hx0 hb0
  have HOK := Lib.hid ok
  clear ok
  have cE : W.cell? ⟨g, 65545, none⟩ = some (.bool s.b1.ear) := H1.out.1.B.bd.at_ (i := 65545) (by decide) bd_ear
  have fE : W.frozen? ⟨g, 65545, none⟩ = false := H1.out.1.B.bd.fz 65545
  have hB1 : BdIs (W.setCell ⟨g, 65545, none⟩ (.bool (!s.b1.ear))) g { s.b1 with ear := !s.b1.ear } A E := BdIs.put (w := W) H1.out.1.B.bd (set_ear _)
  have hg1 := grown_cell W g 65545 (.bool (!s.b1.ear))
  have HB1 := Lib.hid (And.intro hB1 hg1)
  clear hB1 hg1
  go_upto_region 27 with fail
  go_region
  generalize W.setCell ⟨g, 65545, none⟩ (.bool (!s.b1.ear)) = w1 at *
  have hB1 := HB1.out.1
  have hg1 := HB1.out.2
  have k0 := H1.out.1
  have kP := k0.grownB hB1 hg1
  have kc := ch_grown (A := A) (E := E) hg1
  have kx := kc.blk H1.out.2.1 (k0.B.not H1.out.2.1 (by decide) (by decide) (by decide))
  have kb := H1.out.2.2.trans (k0.belowB kc (show base ≤ W.heap.size by have := H1.out.2.2.size; omega))
  clear k0 kc q0 q1 c0 c1 c2 c3 c4 hB1 hg1
  have q0 : w1.cell? ⟨P, 0, none⟩ = some (.pointer (some ⟨g, 0, none⟩)) := (kP.P.cell 0).trans rfl
  have q1 : w1.cell? ⟨P, 1, none⟩ = some (.pointer (some ⟨q, 0, none⟩)) := (kP.P.cell 1).trans rfl
  have c0 : w1.cell? ⟨w.heap.size, 0, none⟩ = some (.int .i64 6) := (kx.cell 0).trans rfl
  have c1 : w1.cell? ⟨w.heap.size, 1, none⟩ = some (.int .i64 N) := (kx.cell 1).trans rfl
  have c2 : w1.cell? ⟨w.heap.size, 2, none⟩ = some (.int .u16 a) := (kx.cell 2).trans rfl
  have c3 : w1.cell? ⟨w.heap.size, 3, none⟩ = some (.int .u8 v) := (kx.cell 3).trans rfl
  have c4 : w1.cell? ⟨w.heap.size, 4, none⟩ = some (.string str) := (kx.cell 4).trans rfl
  have H2 := Lib.hid (And.intro kP (And.intro kx kb))
  clear kP kx kb
  clear cE fE HB1
  have cE : w1.cell? ⟨q, 65544, none⟩ = some (.bool s.b2.ear) := H2.out.1.X.bd.at_ (i := 65544) (by decide) dc_first
  have fE : w1.frozen? ⟨q, 65544, none⟩ = false := H2.out.1.X.bd.fz 65544
  have hX2 : DcIs (w1.setCell ⟨q, 65544, none⟩ (.bool (!s.b2.ear))) q { s.b2 with ear := !s.b2.ear } s.ph D A' E' := DcIs.put (w := w1) H2.out.1.X.bd (dset_first _)
  have hg2 := grown_cell w1 q 65544 (.bool (!s.b2.ear))
  have HX2 := Lib.hid (And.intro hX2 hg2)
  clear hX2 hg2
  go_upto_region 28 with fail
  go_region
  generalize w1.setCell ⟨q, 65544, none⟩ (.bool (!s.b2.ear)) = w2 at *
  have hX2 := HX2.out.1
  have hg2 := HX2.out.2
  have k0 := H2.out.1
  have kP := k0.grownX hX2 hg2
  have kc := ch_grown (A := A') (E := E') hg2
  have kx := kc.blk H2.out.2.1 (k0.X.not H2.out.2.1 (by decide) (by decide) (by decide))
  have kb := H2.out.2.2.trans (k0.belowX kc (show base ≤ w1.heap.size by have := H2.out.2.2.size; omega))
  clear k0 kc q0 q1 c0 c1 c2 c3 c4 hX2 hg2
  have q0 : w2.cell? ⟨P, 0, none⟩ = some (.pointer (some ⟨g, 0, none⟩)) := (kP.P.cell 0).trans rfl
  have q1 : w2.cell? ⟨P, 1, none⟩ = some (.pointer (some ⟨q, 0, none⟩)) := (kP.P.cell 1).trans rfl
  have c0 : w2.cell? ⟨w.heap.size, 0, none⟩ = some (.int .i64 6) := (kx.cell 0).trans rfl
  have c1 : w2.cell? ⟨w.heap.size, 1, none⟩ = some (.int .i64 N) := (kx.cell 1).trans rfl
  have c2 : w2.cell? ⟨w.heap.size, 2, none⟩ = some (.int .u16 a) := (kx.cell 2).trans rfl
  have c3 : w2.cell? ⟨w.heap.size, 3, none⟩ = some (.int .u8 v) := (kx.cell 3).trans rfl
  have c4 : w2.cell? ⟨w.heap.size, 4, none⟩ = some (.string str) := (kx.cell 4).trans rfl
  have H3 := Lib.hid (And.intro kP (And.intro kx kb))
  clear kP kx kb
  clear cE fE HX2
  go_wp2
  go_ret
  exact ⟨true, _, _, _, _, _, _, rfl, by rfl, ok_ear HOK.out, (H3.out.1.kept (Below.refl _ _).drew).kept (Below.refl _ _).drew, fun _ => rfl, H3.out.2.2.drew.drew⟩
set_option maxRecDepth 100000 in
set_option maxHeartbeats 8000000 in
theorem stepN (w : World) (base g q P : Nat) (s : PS) (n : Nat) (same : Bool) (A E D A' E' : Value) (h : PAt w base g q P s A E D A' E') (ok : s.Ok n same) (hn : n ≤ 100) (hb : base ≤ w.heap.size) (kd N a v : Int) (str : ByteArray) (hk : kd < 0 ∨ 7 < kd) :
    Calls Try.prog 22 #[.pointer (some ⟨P, 0, none⟩), .agg #[.int .i64 kd, .int .i64 N, .int .u16 a, .int .u8 v, .string str]] w fun x w' => StepO w w' x base g q P n same s.ph := by
  have hx0 : Blk (w.alloc (.cells #[.int .i64 kd, .int .i64 N, .int .u16 a, .int .u8 v, .string str] 62)) w.heap.size 62 #[.int .i64 kd, .int .i64 N, .int .u16 a, .int .u8 v, .string str] := Blk.new w _ _
  have hb0 : Below w.heap.size w (w.alloc (.cells #[.int .i64 kd, .int .i64 N, .int .u16 a, .int .u8 v, .string str] 62)) := (Below.refl _ _).alloc (Nat.le_refl _) _
  have h0 := h.kept hb0
  have hsz := hb0.size
  go_enter Try.func22, Try.ntmps22
  go_upto_region 1 with fail
  generalize w.alloc (.cells #[.int .i64 kd, .int .i64 N, .int .u16 a, .int .u8 v, .string str] 62) = W at *
  have H1 := Lib.hid (And.intro h0 (And.intro hx0 (hb0.mono hb)))
  have q0 : W.cell? ⟨P, 0, none⟩ = some (.pointer (some ⟨g, 0, none⟩)) := (h0.P.cell 0).trans rfl
  have q1 : W.cell? ⟨P, 1, none⟩ = some (.pointer (some ⟨q, 0, none⟩)) := (h0.P.cell 1).trans rfl
  have c0 : W.cell? ⟨w.heap.size, 0, none⟩ = some (.int .i64 kd) := (hx0.cell 0).trans rfl
  have c1 : W.cell? ⟨w.heap.size, 1, none⟩ = some (.int .i64 N) := (hx0.cell 1).trans rfl
  have c2 : W.cell? ⟨w.heap.size, 2, none⟩ = some (.int .u16 a) := (hx0.cell 2).trans rfl
  have c3 : W.cell? ⟨w.heap.size, 3, none⟩ = some (.int .u8 v) := (hx0.cell 3).trans rfl
  have c4 : W.cell? ⟨w.heap.size, 4, none⟩ = some (.string str) := (hx0.cell 4).trans rfl
  clear h h0 hx0 hb0
  have HOK := Lib.hid ok
  clear ok
  have e0 : (kd == 0) = false := by simp; omega
  have e1 : (kd == 1) = false := by simp; omega
  have e2 : (kd == 2) = false := by simp; omega
  have e3 : (kd == 3) = false := by simp; omega
  have e4 : (kd == 4) = false := by simp; omega
  have e5 : (kd == 5) = false := by simp; omega
  have e6 : (kd == 6) = false := by simp; omega
  have e7 : (kd == 7) = false := by simp; omega
  clear hk
  go_wp2
  go_ret
  exact ⟨true, s, A, E, D, A', E', rfl, rfl, ok_next HOK.out, H1.out.1, fun _ => rfl, H1.out.2.2⟩
end Go.Proofs.Ytfcnlgkaejkneaa
