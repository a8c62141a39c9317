/- Layer 11: the law's step: reading, telling a port. -/
import Derived.Test.YtfcnlgkaejkneaaBd22
namespace Go.Proofs.Ytfcnlgkaejkneaa
open Go.RowKit

def outP (b : Bd) (port v : Int) : Bd := if port % 2 = 1 then b else outB b v
def outL (b : Bd) (al : List ActD) (port v : Int) : List ActD := if port % 2 = 1 then al else logS b al true port v
def outE (b : Bd) (es : List Int) (port v : Int) : List Int := if port % 2 = 1 then es else edgeS b es v
theorem outU (w : World) (base g : Nat) (b : Bd) (al : List ActD) (es : List Int) (A E : Value) (port v : Int) (p0 : 0 ≤ port) (p1 : port ≤ 65535) (v0 : 0 ≤ v) (v1 : v ≤ 255) (h : BdAt w base g b al es A E) (hn : al.length < 1000000) (hm : es.length < 1000000) (hb : base ≤ w.heap.size) :
    Calls Try.prog 24 #[.pointer (some ⟨g, 0, none⟩), .int .u16 port, .int .u8 v] w fun x w' => OutO w w' x base g (outP b port v) (outL b al port v) (outE b es port v) A E := by
  by_cases ho : port % 2 = 1
  · refine (out_odd w g port v p0 p1 ho).mono ?_
    rintro x w' ⟨⟨u, rfl⟩, rfl⟩
    unfold outP outL outE
    rw [if_pos ho, if_pos ho, if_pos ho]
    exact ⟨u, A, E, rfl, h, Ch.refl _ _, .inl rfl, .inl rfl⟩
  · refine (out_even w base g b al es A E port v p0 p1 v0 v1 (by omega) h hn hm hb).mono ?_
    intro x w' hx
    unfold outP outL outE
    rw [if_neg ho, if_neg ho, if_neg ho]
    exact hx
theorem dOutU (w : World) (base g : Nat) (b : Bd) (ph : Int) (zs : List Int) (al : List ActD) (es : List Int) (D A E : Value) (port v : Int) (p0 : 0 ≤ port) (p1 : port ≤ 65535) (v0 : 0 ≤ v) (v1 : v ≤ 255) (h : DcAt w base g b ph zs al es D A E) (hn : al.length < 1000000) (hm : es.length < 1000000) (hb : base ≤ w.heap.size) :
    Calls Try.prog 39 #[.pointer (some ⟨g, 0, none⟩), .int .u16 port, .int .u8 v] w fun x w' => DOutO w w' x base g (outP b port v) ph zs (outL b al port v) (outE b es port v) D A E := by
  by_cases ho : port % 2 = 1
  · refine (dOut_odd w g b ph D A E port v p0 p1 ho h.bd).mono ?_
    rintro x w' ⟨⟨u, rfl⟩, hb⟩
    unfold outP outL outE
    rw [if_pos ho, if_pos ho, if_pos ho]
    exact ⟨u, A, E, rfl, h.kept hb, Ch.of_below hb, .inl rfl, .inl rfl⟩
  · refine (dOut_even w base g b ph zs al es D A E port v p0 p1 v0 v1 (by omega) h hn hm hb).mono ?_
    intro x w' hx
    unfold outP outL outE
    rw [if_neg ho, if_neg ho, if_neg ho]
    exact hx
theorem outP_is (b : Bd) (port v : Int) : (outP b port v).fr = b.fr ∧ (outP b port v).t = b.t ∧ (outP b port v).K = b.K := by
  unfold outP outB
  split <;> exact ⟨rfl, rfl, rfl⟩
theorem outL_len (b : Bd) (al : List ActD) (port v : Int) : (outL b al port v).length ≤ al.length + 1 := by
  unfold outL
  split
  · omega
  · exact log_len b al true port v
theorem outE_len (b : Bd) (es : List Int) (port v : Int) : (outE b es port v).length ≤ es.length + 1 := by
  unfold outE
  split
  · omega
  · exact edge_len b es v
theorem ok_out {s : PS} {n : Nat} {same : Bool} (ok : s.Ok n same) (port v : Int) : PS.Ok { s with b1 := outP s.b1 port v, al1 := outL s.b1 s.al1 port v, es1 := outE s.b1 s.es1 port v, b2 := outP s.b2 port v, al2 := outL s.b2 s.al2 port v, es2 := outE s.b2 s.es2 port v } (n + 1) same := by
  obtain ⟨x1, x2, x3⟩ := outP_is s.b1 port v
  obtain ⟨y1, y2, y3⟩ := outP_is s.b2 port v
  refine ⟨by simp only [x1]; exact ok.f0, by simp only [x1]; exact ok.f1, by simp only [x2]; exact ok.t0, ?_, by simp only [x3]; exact ok.K1, ?_, ?_, ?_, by simp only [y2]; exact ok.u0, ?_, ok.p0, ok.p1, by simp only [y3]; exact ok.K2, Nat.le_succ_of_le ok.z2, ?_, ?_, fun e => ?_⟩
  · have := ok.t1; simp only [x2]; omega
  · have := ok.a1; have := outL_len s.b1 s.al1 port v; simp only; omega
  · have := ok.e1; have := outE_len s.b1 s.es1 port v; simp only; omega
  · have := ok.fd; unfold frD at this ⊢; simp only [y1, y2]; exact this
  · have := ok.u1; simp only [y2]; omega
  · have := ok.a2; have := outL_len s.b2 s.al2 port v; simp only; omega
  · have := ok.e2; have := outE_len s.b2 s.es2 port v; simp only; omega
  · obtain ⟨e1, e2, e3⟩ := ok.eq e
    exact ⟨by simp only [e1], by simp only [e1, e2], by simp only [e1, e3]⟩
theorem ok_next {s : PS} {n : Nat} {same : Bool} (ok : s.Ok n same) : s.Ok (n + 1) same :=
  ⟨ok.f0, ok.f1, ok.t0, by have := ok.t1; omega, ok.K1, Nat.le_succ_of_le ok.a1, Nat.le_succ_of_le ok.e1, ok.fd, ok.u0, by have := ok.u1; omega, ok.p0, ok.p1, ok.K2, Nat.le_succ_of_le ok.z2, Nat.le_succ_of_le ok.a2, Nat.le_succ_of_le ok.e2, ok.eq⟩
set_option maxRecDepth 100000 in
set_option maxHeartbeats 8000000 in
theorem step1 (w : World) (base g q P : Nat) (s : PS) (n : Nat) (same : Bool) (A E D A' E' : Value) (h : PAt w base g q P s A E D A' E') (ok : s.Ok n same) (hn : n ≤ 100) (hb : base ≤ w.heap.size) (N : Int) (a : Nat) (v : Int) (str : ByteArray) (ha : a < 65536) :
    Calls Try.prog 22 #[.pointer (some ⟨P, 0, none⟩), .agg #[.int .i64 1, .int .i64 N, .int .u16 (a : Int), .int .u8 v, .string str]] w fun x w' => StepO w w' x base g q P n same s.ph := by
  have hx0 : Blk (w.alloc (.cells #[.int .i64 1, .int .i64 N, .int .u16 (a : Int), .int .u8 v, .string str] 62)) w.heap.size 62 #[.int .i64 1, .int .i64 N, .int .u16 (a : Int), .int .u8 v, .string str] := Blk.new w _ _
  have hb0 : Below w.heap.size w (w.alloc (.cells #[.int .i64 1, .int .i64 N, .int .u16 (a : Int), .int .u8 v, .string str] 62)) := (Below.refl _ _).alloc (Nat.le_refl _) _
  have h0 := h.kept hb0
  have hsz := hb0.size
  go_enter Try.func22, Try.ntmps22
  go_upto_region 1 with fail
  generalize w.alloc (.cells #[.int .i64 1, .int .i64 N, .int .u16 (a : Int), .int .u8 v, .string str] 62) = W at *
  have H1 := Lib.hid (And.intro h0 (And.intro hx0 (hb0.mono hb)))
  have q0 : W.cell? ⟨P, 0, none⟩ = some (.pointer (some ⟨g, 0, none⟩)) := (h0.P.cell 0).trans rfl
  have q1 : W.cell? ⟨P, 1, none⟩ = some (.pointer (some ⟨q, 0, none⟩)) := (h0.P.cell 1).trans rfl
  have c0 : W.cell? ⟨w.heap.size, 0, none⟩ = some (.int .i64 1) := (hx0.cell 0).trans rfl
  have c1 : W.cell? ⟨w.heap.size, 1, none⟩ = some (.int .i64 N) := (hx0.cell 1).trans rfl
  have c2 : W.cell? ⟨w.heap.size, 2, none⟩ = some (.int .u16 (a : Int)) := (hx0.cell 2).trans rfl
  have c3 : W.cell? ⟨w.heap.size, 3, none⟩ = some (.int .u8 v) := (hx0.cell 3).trans rfl
  have c4 : W.cell? ⟨w.heap.size, 4, none⟩ = some (.string str) := (hx0.cell 4).trans rfl
  clear h h0 hx0 hb0
  have ha0 : (0 : Int) ≤ (a : Int) := Int.natCast_nonneg _
  have haI : (a : Int) < 65536 := by omega
  have cM : W.cell? ⟨q, 1 + a, none⟩ = some (.int .u8 (s.b2.M a)) := H1.out.1.X.bd.at_ (i := 1 + a) (by omega) (by rw [Nat.add_comm]; exact dc_M ha)
  have HRD := Lib.hid (fun k => bRead_any (W.drewN k) g s.b1 A E a ha (H1.out.1.B.bd.drewN k))
  have HEQ := Lib.hid (show same = true → (s.b1.M a == s.b2.M a) = true from fun e => by rw [(ok.eq e).1]; simp)
  have HOK := Lib.hid ok
  clear ok
  generalize s.b1.M a = m1 at *
  generalize s.b2.M a = m2 at *
  go_upto_region 6 with fail
  go_quiet (first | (go_at_call 17; exact Calls.quiet_of_same (flip (HRD.out _))) | fail)
  go_wp2
  go_ret
  exact ⟨_, s, A, E, D, A', E', rfl, rfl, ok_next HOK.out, H1.out.1.kept (below_quiet _ _), HEQ.out, below_drewN H1.out.2.2 _⟩
set_option maxRecDepth 100000 in
set_option maxHeartbeats 8000000 in
theorem step3 (w : World) (base g q P : Nat) (s : PS) (n : Nat) (same : Bool) (A E D A' E' : Value) (h : PAt w base g q P s A E D A' E') (ok : s.Ok n same) (hn : n ≤ 100) (hb : base ≤ w.heap.size) (N port v : Int) (str : ByteArray) (p0 : 0 ≤ port) (p1 : port ≤ 65535) (v0 : 0 ≤ v) (v1 : v ≤ 255) :
    Calls Try.prog 22 #[.pointer (some ⟨P, 0, none⟩), .agg #[.int .i64 3, .int .i64 N, .int .u16 port, .int .u8 v, .string str]] w fun x w' => StepO w w' x base g q P n same s.ph := by
  have hx0 : Blk (w.alloc (.cells #[.int .i64 3, .int .i64 N, .int .u16 port, .int .u8 v, .string str] 62)) w.heap.size 62 #[.int .i64 3, .int .i64 N, .int .u16 port, .int .u8 v, .string str] := Blk.new w _ _
  have hb0 : Below w.heap.size w (w.alloc (.cells #[.int .i64 3, .int .i64 N, .int .u16 port, .int .u8 v, .string str] 62)) := (Below.refl _ _).alloc (Nat.le_refl _) _
  have h0 := h.kept hb0
  have hsz := hb0.size
  go_enter Try.func22, Try.ntmps22
  go_upto_region 1 with fail
  generalize w.alloc (.cells #[.int .i64 3, .int .i64 N, .int .u16 port, .int .u8 v, .string str] 62) = W at *
  have H1 := Lib.hid (And.intro h0 (And.intro hx0 (hb0.mono hb)))
  have q0 : W.cell? ⟨P, 0, none⟩ = some (.pointer (some ⟨g, 0, none⟩)) := (h0.P.cell 0).trans rfl
  have q1 : W.cell? ⟨P, 1, none⟩ = some (.pointer (some ⟨q, 0, none⟩)) := (h0.P.cell 1).trans rfl
  have c0 : W.cell? ⟨w.heap.size, 0, none⟩ = some (.int .i64 3) := (hx0.cell 0).trans rfl
  have c1 : W.cell? ⟨w.heap.size, 1, none⟩ = some (.int .i64 N) := (hx0.cell 1).trans rfl
  have c2 : W.cell? ⟨w.heap.size, 2, none⟩ = some (.int .u16 port) := (hx0.cell 2).trans rfl
  have c3 : W.cell? ⟨w.heap.size, 3, none⟩ = some (.int .u8 v) := (hx0.cell 3).trans rfl
  have c4 : W.cell? ⟨w.heap.size, 4, none⟩ = some (.string str) := (hx0.cell 4).trans rfl
  clear h h0 hx0 hb0
  have HOK := Lib.hid ok
  clear ok
  go_upto_region 10 with fail
  go_still_tail 8, (by kernel_rfl)
  go_wp2_with fail
  refine (outU _ base g s.b1 s.al1 s.es1 A E port v p0 p1 v0 v1 (H1.out.1.kept (Below.refl _ _).drew).B (by have := HOK.out.a1; omega) (by have := HOK.out.e1; omega) (show base ≤ W.heap.size by have := H1.out.2.2.size; omega)).mono ?_
  rintro x w1 ⟨u, A1, E1, rfl, hB1, hc1, nA, nE⟩
  have k0 := H1.out.1.kept (Below.refl _ _).drew
  have kP := k0.stepB hB1 hc1 nA nE
  have kx := hc1.blk H1.out.2.1.drew (k0.B.not H1.out.2.1.drew (by decide) (by decide) (by decide))
  have kb := H1.out.2.2.drew.trans (k0.belowB hc1 (show base ≤ W.heap.size by have := H1.out.2.2.size; omega))
  clear k0 q0 q1 c0 c1 c2 c3 c4 hB1 hc1
  have q0 : w1.cell? ⟨P, 0, none⟩ = some (.pointer (some ⟨g, 0, none⟩)) := (kP.P.cell 0).trans rfl
  have q1 : w1.cell? ⟨P, 1, none⟩ = some (.pointer (some ⟨q, 0, none⟩)) := (kP.P.cell 1).trans rfl
  have c0 : w1.cell? ⟨w.heap.size, 0, none⟩ = some (.int .i64 3) := (kx.cell 0).trans rfl
  have c1 : w1.cell? ⟨w.heap.size, 1, none⟩ = some (.int .i64 N) := (kx.cell 1).trans rfl
  have c2 : w1.cell? ⟨w.heap.size, 2, none⟩ = some (.int .u16 port) := (kx.cell 2).trans rfl
  have c3 : w1.cell? ⟨w.heap.size, 3, none⟩ = some (.int .u8 v) := (kx.cell 3).trans rfl
  have c4 : w1.cell? ⟨w.heap.size, 4, none⟩ = some (.string str) := (kx.cell 4).trans rfl
  have H2 := Lib.hid (And.intro kP (And.intro kx kb))
  clear kP kx kb
  clear nA nE
  go_upto_region 11 with fail
  go_still_tail 8, (by kernel_rfl)
  go_wp2_with fail
  refine (dOutU _ base q s.b2 s.ph s.zs s.al2 s.es2 D A' E' port v p0 p1 v0 v1 (H2.out.1.kept (Below.refl _ _).drew).X (by have := HOK.out.a2; omega) (by have := HOK.out.e2; omega) (show base ≤ w1.heap.size by have := H2.out.2.2.size; omega)).mono ?_
  rintro x w2 ⟨u, A2, E2, rfl, hX2, hc2, nA, nE⟩
  have k0 := H2.out.1.kept (Below.refl _ _).drew
  have kP := k0.stepX hX2 hc2 nA nE
  have kx := hc2.blk H2.out.2.1.drew (k0.X.not H2.out.2.1.drew (by decide) (by decide) (by decide))
  have kb := H2.out.2.2.drew.trans (k0.belowX hc2 (show base ≤ w1.heap.size by have := H2.out.2.2.size; omega))
  clear k0 q0 q1 c0 c1 c2 c3 c4 hX2 hc2
  have q0 : w2.cell? ⟨P, 0, none⟩ = some (.pointer (some ⟨g, 0, none⟩)) := (kP.P.cell 0).trans rfl
  have q1 : w2.cell? ⟨P, 1, none⟩ = some (.pointer (some ⟨q, 0, none⟩)) := (kP.P.cell 1).trans rfl
  have c0 : w2.cell? ⟨w.heap.size, 0, none⟩ = some (.int .i64 3) := (kx.cell 0).trans rfl
  have c1 : w2.cell? ⟨w.heap.size, 1, none⟩ = some (.int .i64 N) := (kx.cell 1).trans rfl
  have c2 : w2.cell? ⟨w.heap.size, 2, none⟩ = some (.int .u16 port) := (kx.cell 2).trans rfl
  have c3 : w2.cell? ⟨w.heap.size, 3, none⟩ = some (.int .u8 v) := (kx.cell 3).trans rfl
  have c4 : w2.cell? ⟨w.heap.size, 4, none⟩ = some (.string str) := (kx.cell 4).trans rfl
  have H3 := Lib.hid (And.intro kP (And.intro kx kb))
  clear kP kx kb
  clear nA nE
  go_wp2
  go_ret
  exact ⟨true, _, _, _, _, _, _, rfl, by rfl, ok_out HOK.out port v, H3.out.1, fun _ => rfl, H3.out.2.2⟩
end Go.Proofs.Ytfcnlgkaejkneaa
