/- Layer 11: the law's step: writing, reading, telling a port. -/
import Derived.Test.YtfcnlgkaejkneaaBd21
namespace Go.Proofs.Ytfcnlgkaejkneaa
open Go.RowKit

theorem ok_wr {s : PS} {n : Nat} {same : Bool} (ok : s.Ok n same) (a : Nat) (v : Int) : PS.Ok { s with b1 := wrB s.b1 a v, b2 := wrB s.b2 a v } (n + 1) same := by
  have h1 : ∀ b : Bd, (wrB b a v).fr = b.fr ∧ (wrB b a v).t = b.t ∧ (wrB b a v).K = b.K := fun b => by unfold wrB; split <;> exact ⟨rfl, rfl, rfl⟩
  obtain ⟨x1, x2, x3⟩ := h1 s.b1
  obtain ⟨y1, y2, y3⟩ := h1 s.b2
  refine ⟨by simp only [x1]; exact ok.f0, by simp only [x1]; exact ok.f1, by simp only [x2]; exact ok.t0, ?_, by simp only [x3]; exact ok.K1, Nat.le_succ_of_le ok.a1, Nat.le_succ_of_le ok.e1, ?_, by simp only [y2]; exact ok.u0, ?_, ok.p0, ok.p1, by simp only [y3]; exact ok.K2, Nat.le_succ_of_le ok.z2, Nat.le_succ_of_le ok.a2, Nat.le_succ_of_le ok.e2, fun e => ?_⟩
  · have := ok.t1; simp only [x2]; omega
  · have := ok.fd; unfold frD at this ⊢; simp only [y1, y2]; exact this
  · have := ok.u1; simp only [y2]; omega
  · obtain ⟨e1, e2, e3⟩ := ok.eq e
    exact ⟨by simp only [e1], e2, e3⟩
set_option maxRecDepth 100000 in
set_option maxHeartbeats 8000000 in
theorem step0 (w : World) (base g q P : Nat) (s : PS) (n : Nat) (same : Bool) (A E D A' E' : Value) (h : PAt w base g q P s A E D A' E') (ok : s.Ok n same) (hn : n ≤ 100) (hb : base ≤ w.heap.size) (N : Int) (a : Nat) (v : Int) (str : ByteArray) (ha : a < 65536) :
    Calls Try.prog 22 #[.pointer (some ⟨P, 0, none⟩), .agg #[.int .i64 0, .int .i64 N, .int .u16 (a : Int), .int .u8 v, .string str]] w fun x w' => StepO w w' x base g q P n same s.ph := by
  have hx0 : Blk (w.alloc (.cells #[.int .i64 0, .int .i64 N, .int .u16 (a : Int), .int .u8 v, .string str] 62)) w.heap.size 62 #[.int .i64 0, .int .i64 N, .int .u16 (a : Int), .int .u8 v, .string str] := Blk.new w _ _
  have hb0 : Below w.heap.size w (w.alloc (.cells #[.int .i64 0, .int .i64 N, .int .u16 (a : Int), .int .u8 v, .string str] 62)) := (Below.refl _ _).alloc (Nat.le_refl _) _
  have h0 := h.kept hb0
  have hsz := hb0.size
  go_enter Try.func22, Try.ntmps22
  go_upto_region 1 with fail
  generalize w.alloc (.cells #[.int .i64 0, .int .i64 N, .int .u16 (a : Int), .int .u8 v, .string str] 62) = W at *
  have H1 := Lib.hid (And.intro h0 (And.intro hx0 (hb0.mono hb)))
  have q0 : W.cell? ⟨P, 0, none⟩ = some (.pointer (some ⟨g, 0, none⟩)) := (h0.P.cell 0).trans rfl
  have q1 : W.cell? ⟨P, 1, none⟩ = some (.pointer (some ⟨q, 0, none⟩)) := (h0.P.cell 1).trans rfl
  have c0 : W.cell? ⟨w.heap.size, 0, none⟩ = some (.int .i64 0) := (hx0.cell 0).trans rfl
  have c1 : W.cell? ⟨w.heap.size, 1, none⟩ = some (.int .i64 N) := (hx0.cell 1).trans rfl
  have c2 : W.cell? ⟨w.heap.size, 2, none⟩ = some (.int .u16 (a : Int)) := (hx0.cell 2).trans rfl
  have c3 : W.cell? ⟨w.heap.size, 3, none⟩ = some (.int .u8 v) := (hx0.cell 3).trans rfl
  have c4 : W.cell? ⟨w.heap.size, 4, none⟩ = some (.string str) := (hx0.cell 4).trans rfl
  clear h h0 hx0 hb0
  go_upto_region 3 with fail
  go_still_tail 8, (by kernel_rfl)
  go_wp2_with fail
  refine (bWrite_any _ g s.b1 A E a v ha (H1.out.1.kept (Below.refl _ _).drew).B.bd).mono ?_
  rintro x w1 ⟨⟨u, rfl⟩, hB1, hg1⟩
  have k0 := H1.out.1.kept (Below.refl _ _).drew
  have kP := k0.grownB hB1 hg1
  have kc := ch_grown (A := A) (E := E) hg1
  have kx := kc.blk H1.out.2.1.drew (k0.B.not H1.out.2.1.drew (by decide) (by decide) (by decide))
  have kb := H1.out.2.2.drew.trans (k0.belowB kc (show base ≤ W.heap.size by have := H1.out.2.2.size; omega))
  clear k0 kc q0 q1 c0 c1 c2 c3 c4 hB1 hg1
  have q0 : w1.cell? ⟨P, 0, none⟩ = some (.pointer (some ⟨g, 0, none⟩)) := (kP.P.cell 0).trans rfl
  have q1 : w1.cell? ⟨P, 1, none⟩ = some (.pointer (some ⟨q, 0, none⟩)) := (kP.P.cell 1).trans rfl
  have c0 : w1.cell? ⟨w.heap.size, 0, none⟩ = some (.int .i64 0) := (kx.cell 0).trans rfl
  have c1 : w1.cell? ⟨w.heap.size, 1, none⟩ = some (.int .i64 N) := (kx.cell 1).trans rfl
  have c2 : w1.cell? ⟨w.heap.size, 2, none⟩ = some (.int .u16 (a : Int)) := (kx.cell 2).trans rfl
  have c3 : w1.cell? ⟨w.heap.size, 3, none⟩ = some (.int .u8 v) := (kx.cell 3).trans rfl
  have c4 : w1.cell? ⟨w.heap.size, 4, none⟩ = some (.string str) := (kx.cell 4).trans rfl
  have H2 := Lib.hid (And.intro kP (And.intro kx kb))
  clear kP kx kb
  go_upto_region 4 with fail
  go_still_tail 8, (by kernel_rfl)
  go_wp2_with fail
  refine (dWrite_any _ q s.b2 s.ph D A' E' a v ha (H2.out.1.kept (Below.refl _ _).drew).X.bd).mono ?_
  rintro x w2 ⟨⟨u, rfl⟩, hX2, hg2⟩
  have k0 := H2.out.1.kept (Below.refl _ _).drew
  have kP := k0.grownX hX2 hg2
  have kc := ch_grown (A := A') (E := E') hg2
  have kx := kc.blk H2.out.2.1.drew (k0.X.not H2.out.2.1.drew (by decide) (by decide) (by decide))
  have kb := H2.out.2.2.drew.trans (k0.belowX kc (show base ≤ w1.heap.size by have := H2.out.2.2.size; omega))
  clear k0 kc q0 q1 c0 c1 c2 c3 c4 hX2 hg2
  have q0 : w2.cell? ⟨P, 0, none⟩ = some (.pointer (some ⟨g, 0, none⟩)) := (kP.P.cell 0).trans rfl
  have q1 : w2.cell? ⟨P, 1, none⟩ = some (.pointer (some ⟨q, 0, none⟩)) := (kP.P.cell 1).trans rfl
  have c0 : w2.cell? ⟨w.heap.size, 0, none⟩ = some (.int .i64 0) := (kx.cell 0).trans rfl
  have c1 : w2.cell? ⟨w.heap.size, 1, none⟩ = some (.int .i64 N) := (kx.cell 1).trans rfl
  have c2 : w2.cell? ⟨w.heap.size, 2, none⟩ = some (.int .u16 (a : Int)) := (kx.cell 2).trans rfl
  have c3 : w2.cell? ⟨w.heap.size, 3, none⟩ = some (.int .u8 v) := (kx.cell 3).trans rfl
  have c4 : w2.cell? ⟨w.heap.size, 4, none⟩ = some (.string str) := (kx.cell 4).trans rfl
  have H3 := Lib.hid (And.intro kP (And.intro kx kb))
  clear kP kx kb
  go_wp2
  go_ret
  exact ⟨true, _, _, _, _, _, _, rfl, by rfl, ok_wr ok a v, H3.out.1, fun _ => rfl, H3.out.2.2⟩
end Go.Proofs.Ytfcnlgkaejkneaa
