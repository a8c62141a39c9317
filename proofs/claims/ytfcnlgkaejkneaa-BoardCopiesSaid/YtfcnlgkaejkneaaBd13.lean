/- Layer 11: contracts of the document's board. -/
import Derived.Test.YtfcnlgkaejkneaaBd12
import Derived.BigQuiet
namespace Go.Proofs.Ytfcnlgkaejkneaa
open Go.RowKit

/-- the document's board in block g: b, its phase, the keys that are down, its acts, its edges -/
def DcIs (w : World) (g : Nat) (b : Bd) (ph : Int) (D A E : Value) : Prop := Blk w g 59 (dcC b ph D A E)
theorem DcIs.at_ {w : World} {g : Nat} {b : Bd} {ph : Int} {D A E : Value} (h : DcIs w g b ph D A E) {i : Nat} {v : Value} (hi : i < 77842) (e : dcAt b ph D A E i = v) : w.cell? ⟨g, i, none⟩ = some v := by
  rw [Blk.cell h i, dcC, cellsF_at _ hi, e]
theorem DcIs.fz {w : World} {g : Nat} {b : Bd} {ph : Int} {D A E : Value} (h : DcIs w g b ph D A E) (i : Nat) : w.frozen? ⟨g, i, none⟩ = false := Blk.frozen h i
theorem DcIs.put {w : World} {g : Nat} {b b' : Bd} {ph ph' : Int} {D A E D' A' E' : Value} (h : DcIs w g b ph D A E) {i : Nat} {v : Value} (e : (dcC b ph D A E).setIfInBounds i v = dcC b' ph' D' A' E') : DcIs (w.setCell ⟨g, i, none⟩ v) g b' ph' D' A' E' := by
  unfold DcIs
  rw [← e]
  exact Blk.set_ h i v
theorem below_drewN {B : Nat} {a b : World} (h : Below B a b) (k : Nat) : Below B a (b.drewN k) := ⟨h.os, h.tape, h.output, h.size, h.block⟩
theorem below_quiet (w : World) (k : Nat) : Below w.heap.size w (w.drewN k) := below_drewN (Below.refl _ _) k
/-- the frame's time, as the document reckons it -/
def frD (b : Bd) (ph : Int) : Int := (b.t + ph) % 69888
theorem frD_bd (b : Bd) (ph : Int) : 0 ≤ frD b ph ∧ frD b ph ≤ 69887 := by unfold frD; omega

set_option maxRecDepth 100000 in
set_option maxHeartbeats 4000000 in
theorem dFrame_any (w : World) (g : Nat) (b : Bd) (ph : Int) (D A E : Value) (h : DcIs w g b ph D A E) (t0 : 0 ≤ b.t) (t1 : b.t ≤ 1000000000) (p0 : 0 ≤ ph) (p1 : ph ≤ 69887) :
    Calls Try.prog 41 #[.pointer (some ⟨g, 0, none⟩)] w fun x w' => x = .returned (.int .i64 (frD b ph)) ∧ Below w.heap.size w w' := by
  have ct := h.at_ (i := 65537) (by decide) dc_t
  have cp := h.at_ (i := 65540) (by decide) dc_ph
  have hb := frD_bd b ph
  have hf : (b.t + ph) % 69888 = frD b ph := rfl
  have htm : (b.t + ph).tmod 69888 = frD b ph := by rw [Int.tmod_eq_emod_of_nonneg (by omega)]; rfl
  generalize frD b ph = F at *
  generalize b.t = t at *
  have w1 : IntKind.u64.wrap ph = ph := by simp [IntKind.wrap, IntKind.bits, IntKind.signed]; omega
  have w2 : IntKind.u64.wrap (t + ph) = t + ph := by simp [IntKind.wrap, IntKind.bits, IntKind.signed]; omega
  have w3 : IntKind.u64.wrap F = F := by simp [IntKind.wrap, IntKind.bits, IntKind.signed]; omega
  have w4 : IntKind.i64.wrap F = F := by rw [IntKind.wrap_i64]; omega
  clear h
  go_enter Try.func41, Try.ntmps41
  go_upto_region 1 with fail
  go_quiet (fail)
  go_wp2
  go_ret
  exact ⟨rfl, below_quiet _ _⟩
set_option maxRecDepth 100000 in
set_option maxHeartbeats 4000000 in
theorem dOver_any (w : World) (g : Nat) (b : Bd) (ph : Int) (D A E : Value) (h : DcIs w g b ph D A E) :
    Calls Try.prog 56 #[.pointer (some ⟨g, 0, none⟩)] w fun x w' => x = .returned (.bool false) ∧ Below w.heap.size w w' := by
  have cl := h.at_ (i := 77840) (by decide) dc_limit
  clear h
  go_enter Try.func56, Try.ntmps56
  go_upto_region 1 with fail
  go_quiet (fail)
  go_wp2
  go_ret
  exact ⟨rfl, below_quiet _ _⟩
set_option maxRecDepth 100000 in
set_option maxHeartbeats 4000000 in
theorem dLevel_any (w : World) (g : Nat) (b : Bd) (ph : Int) (D A E : Value) (h : DcIs w g b ph D A E) :
    Calls Try.prog 60 #[.pointer (some ⟨g, 0, none⟩)] w fun x w' => x = .returned (.bool b.ear) ∧ Below w.heap.size w w' := by
  have ca := h.at_ (i := 65546) (by decide) dc_at
  have ce := h.at_ (i := 65545) (by decide) dc_ear
  have cf := h.at_ (i := 65544) (by decide) dc_first
  clear h
  generalize b.ear = F at *
  go_enter Try.func60, Try.ntmps60
  go_upto_region 1 with fail
  go_loopw [] (fun wr => Below w.heap.size w wr ∧ wr.cell? ⟨g, 65546, none⟩ = some (.int .i64 0) ∧ wr.cell? ⟨g, 65545, none⟩ = some (.slice none 0 0) ∧ wr.cell? ⟨g, 65544, none⟩ = some (.bool F)) (fun _ => 0)
  case atStart => exact ⟨Below.refl _ _, ca, ce, cf⟩
  case round =>
    obtain ⟨hb, ca, ce, cf⟩ := hrel
    go_upto_region 1 with fail
    go_quiet (fail)
    go_upto_region 3 with fail
    go_quiet (fail)
    cases F
    all_goals go_wp2
    all_goals go_ret
    all_goals exact ⟨rfl, below_drewN (below_drewN hb _) _⟩
set_option maxRecDepth 100000 in
set_option maxHeartbeats 4000000 in
theorem dPressed_any (w : World) (g : Nat) (b : Bd) (ph : Int) (D A E : Value) (h : DcIs w g b ph D A E) :
    Calls Try.prog 59 #[.pointer (some ⟨g, 0, none⟩)] w fun x w' => x = .returned D ∧ Below w.heap.size w w' := by
  have ck := h.at_ (i := 77841) (by decide) dc_keys
  have cd := h.at_ (i := 65543) (by decide) dc_D
  clear h
  go_enter Try.func59, Try.ntmps59
  go_upto_region 3 with fail
  go_loop [3, 4] (fun x y => x = D ∧ y = .int .i64 0) (fun _ _ => 0)
  case atStart => exact ⟨rfl, rfl⟩
  case round =>
    obtain ⟨rfl, rfl⟩ := hrel
    go_wp2
    go_ret
    exact ⟨rfl, Below.refl _ _⟩
set_option maxRecDepth 100000 in
set_option maxHeartbeats 4000000 in
theorem dInt_any (w : World) (g : Nat) (b : Bd) (ph : Int) (D A E : Value) (h : DcIs w g b ph D A E) (t0 : 0 ≤ b.t) (t1 : b.t ≤ 1000000000) (p0 : 0 ≤ ph) (p1 : ph ≤ 69887) :
    Calls Try.prog 40 #[.pointer (some ⟨g, 0, none⟩)] w fun x w' => x = .returned (.bool (decide (frD b ph < 32))) ∧ Below w.heap.size w w' := by
  have cf := h.at_ (i := 0) (by decide) dc_flat
  have hf := dFrame_any w g b ph D A E h t0 t1 p0 p1
  clear h
  go_enter Try.func40, Try.ntmps40
  go_wp2_with fail
  refine hf.mono ?_
  rintro x w' ⟨rfl, hb⟩
  clear hf
  have HB := Lib.hid hb
  clear hb
  go_wp2
  go_ret
  exact ⟨rfl, HB.out⟩
set_option maxRecDepth 100000 in
set_option maxHeartbeats 4000000 in
theorem dWrite_any (w : World) (g : Nat) (b : Bd) (ph : Int) (D A E : Value) (a : Nat) (v : Int) (ha : a < 65536) (h : DcIs w g b ph D A E) :
    Calls Try.prog 37 #[.pointer (some ⟨g, 0, none⟩), .int .u16 (a : Int), .int .u8 v] w fun x w' => (∃ u, x = .returned u) ∧ DcIs w' g (wrB b a v) ph D A E ∧ w.grownBy w' (some g) := by
  have hov := dOver_any w g b ph D A E h
  have hl := Blk.lt h
  have ha0 : (0 : Int) ≤ (a : Int) := Int.natCast_nonneg _
  have haI : (a : Int) < 65536 := by omega
  go_enter Try.func37, Try.ntmps37
  go_wp2_with fail
  refine hov.mono ?_
  rintro x w1 ⟨rfl, hb⟩
  clear hov
  have h1 : DcIs w1 g b ph D A E := Blk.below h hb hl
  have HG := Lib.hid (show w.grownBy w1 (some g) from ⟨hb.os, hb.tape, hb.output, hb.size, fun q hq _ => hb.block q hq⟩)
  clear h hb
  have cf := h1.at_ (i := 0) (by decide) dc_flat
  have c : w1.cell? ⟨g, 1 + a, none⟩ = some (.int .u8 (b.M a)) := h1.at_ (i := 1 + a) (by omega) (by rw [Nat.add_comm]; exact dc_M ha)
  have f := h1.fz (1 + a)
  by_cases hr : 16384 ≤ a
  · have hrI : (16384 : Int) ≤ (a : Int) := by omega
    have HX := Lib.hid (show DcIs (w1.setCell ⟨g, 1 + a, none⟩ (.int .u8 v)) g (wrB b a v) ph D A E from by unfold wrB; rw [if_pos hr]; exact h1.put (by rw [Nat.add_comm]; exact dset_M a ha v))
    clear h1 hr hl ha
    go_upto_region 2 with fail
    go_wp2_with (first | go_region | fail)
    go_end0
    exact ⟨⟨_, rfl⟩, HX.out, grown_trans HG.out (grown_cell _ _ _ _)⟩
  · have hrI : ¬ (16384 : Int) ≤ (a : Int) := by omega
    have HX := Lib.hid (show DcIs w1 g (wrB b a v) ph D A E from by unfold wrB; rw [if_neg hr]; exact h1)
    clear h1 c f hr hl ha
    go_upto_region 1 with fail
    clear ha0 haI
    go_wp2
    go_end0
    exact ⟨⟨_, rfl⟩, HX.out, HG.out⟩
end Go.Proofs.Ytfcnlgkaejkneaa
