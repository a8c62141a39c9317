/- Layer 11: the document's Hold and Next. -/
import Derived.Test.YtfcnlgkaejkneaaBd13
import Derived.BigRegion
namespace Go.Proofs.Ytfcnlgkaejkneaa
open Go.RowKit

theorem grown_of_below {w w1 : World} {g : Nat} (h : Below w.heap.size w w1) : w.grownBy w1 (some g) := ⟨h.os, h.tape, h.output, h.size, fun q hq _ => h.block q hq⟩
theorem dc_any_fr (b : Bd) (x ph : Int) (D A E : Value) : dcC { b with fr := x } ph D A E = dcC b ph D A E := by
  have : dcAt { b with fr := x } ph D A E = dcAt b ph D A E := rfl
  unfold dcC
  rw [this]
set_option maxRecDepth 100000 in
set_option maxHeartbeats 8000000 in
theorem dHold_any (w : World) (g : Nat) (b : Bd) (ph : Int) (D A E : Value) (kind a k : Int) (h : DcIs w g b ph D A E) (t0 : 0 ≤ b.t) (t1 : b.t ≤ 1000000000) (p0 : 0 ≤ ph) (p1 : ph ≤ 69887) (q0 : -9223372036854775808 ≤ kind) (q1 : kind ≤ 9223372036854775807) (a0 : 0 ≤ a) (a1 : a ≤ 65535) (k0 : -9223372036854775808 ≤ k) (k1 : k ≤ 9223372036854775807) :
    Calls Try.prog 46 #[.pointer (some ⟨g, 0, none⟩), .int .i64 kind, .int .u16 a, .int .i64 k] w fun x w' => x = .returned (.int .i64 (if b.slow = true then holdS kind a k (frD b ph) else 0)) ∧ Below w.heap.size w w' := by
  have cf := h.at_ (i := 0) (by decide) dc_flat
  have cs := h.at_ (i := 65541) (by decide) dc_slow
  have hf := dFrame_any w g b ph D A E h t0 t1 p0 p1
  obtain ⟨f0, f1⟩ := frD_bd b ph
  clear h t0 t1 p0 p1
  generalize frD b ph = F at *
  have hho := fun w' => holdR_any kind a k F w' q0 q1 a0 a1 k0 k1 (by omega) (by omega)
  cases hs : b.slow with
  | true =>
    rw [hs] at cs
    clear hs q0 q1 k0 k1
    go_enter Try.func46, Try.ntmps46
    go_wp2_with fail
    refine hf.mono ?_
    rintro x w1 ⟨rfl, hb⟩
    clear hf
    have HB := Lib.hid hb
    clear hb
    go_wp2_with fail
    refine (hho w1).mono ?_
    rintro x w' ⟨rfl, rfl⟩
    clear hho
    go_wp2
    go_ret
    exact ⟨rfl, HB.out⟩
  | false =>
    rw [hs] at cs
    clear hs hho hf
    go_enter Try.func46, Try.ntmps46
    go_wp2
    go_ret
    exact ⟨rfl, Below.refl _ _⟩
set_option maxRecDepth 100000 in
set_option maxHeartbeats 8000000 in
theorem dNext_any (w : World) (g : Nat) (b : Bd) (ph : Int) (D A E : Value) (h : DcIs w g b ph D A E) (hfr : b.fr = frD b ph) (t0 : 0 ≤ b.t) (t1 : b.t ≤ 1000000000) (p0 : 0 ≤ ph) (p1 : ph ≤ 69887) :
    Calls Try.prog 42 #[.pointer (some ⟨g, 0, none⟩)] w fun x w' => (∃ u, x = .returned u) ∧ DcIs w' g (nextB b) ph D A E ∧ w.grownBy w' (some g) := by
  have hl := Blk.lt h
  have cf := h.at_ (i := 0) (by decide) dc_flat
  have hov := dOver_any w g b ph D A E h
  obtain ⟨f0, f1⟩ := frD_bd b ph
  have hwt : IntKind.u64.wrap (b.t + 1) = b.t + 1 := by simp [IntKind.wrap, IntKind.bits, IntKind.signed]; omega
  have HS := Lib.hid (show (seenB b).t = b.t from by unfold seenB; split <;> rfl)
  go_enter Try.func42, Try.ntmps42
  go_wp2_with fail
  refine hov.mono ?_
  rintro x w1 ⟨rfl, hb⟩
  clear hov cf
  have h1 : DcIs w1 g b ph D A E := Blk.below h hb hl
  have hl1 := Blk.lt h1
  have hdf := dFrame_any w1 g b ph D A E h1 t0 t1 p0 p1
  rw [← hfr] at hdf f0 f1
  clear hfr
  have HH := Lib.hid (And.intro h1 hb)
  clear h hb h1
  go_wp2_with fail
  refine hdf.mono ?_
  rintro x w2 ⟨rfl, hb2⟩
  clear hdf
  have h2 : DcIs w2 g b ph D A E := Blk.below HH.out.1 hb2 hl1
  have HG := Lib.hid (show w.grownBy w2 (some g) from grown_of_below (bthen HH.out.2 hb2))
  clear hb2 HH
  have hft := fetchedR_any b.fr w2 (by omega) (by omega)
  cases hh : hitS b.fr with
  | true =>
    obtain ⟨a0, a1, q0, q1⟩ := place_bd hh
    obtain ⟨F, hF⟩ : ∃ F : Nat, fetchS b.fr = (F : Int) := ⟨(fetchS b.fr).toNat, by omega⟩
    obtain ⟨Q, hQ⟩ : ∃ Q : Nat, placeS b.fr = (Q : Int) := ⟨(placeS b.fr).toNat, by omega⟩
    rw [hh, hF, hQ] at hft
    have cM : w2.cell? ⟨g, 1 + F, none⟩ = some (.int .u8 (b.M F)) := h2.at_ (i := 1 + F) (by omega) (by rw [Nat.add_comm]; exact dc_M (by omega))
    have cS := h2.at_ (i := 65552 + Q) (by omega) (dc_S (by omega))
    have fS := h2.fz (65552 + Q)
    have hF0 : (0 : Int) ≤ (F : Int) := Int.natCast_nonneg _
    have hF1 : (F : Int) < 65536 := by omega
    have hQ0 : (0 : Int) ≤ (Q : Int) := Int.natCast_nonneg _
    have hQ1 : (Q : Int) < 12288 := by omega
    have hse : seenB b = { b with seen := fun k => if k = Q then b.M F else b.seen k } := by unfold seenB; rw [if_pos hh, hF, hQ, Int.toNat_natCast, Int.toNat_natCast]
    have HZ0 := Lib.hid (show DcIs (w2.setCell ⟨g, 65552 + Q, none⟩ (.int .u8 (b.M F))) g (seenB b) ph D A E ∧ w.grownBy (w2.setCell ⟨g, 65552 + Q, none⟩ (.int .u8 (b.M F))) (some g) from ⟨by rw [hse]; exact h2.put (dset_S Q (by omega) _), grown_trans HG.out (grown_cell _ _ _ _)⟩)
    clear h2 hh hF hQ hse a0 a1 q0 q1
    go_wp2_with fail
    refine hft.mono ?_
    rintro x w' ⟨rfl, rfl⟩
    clear hft
    go_upto_region 3 with fail
    go_region
    go_upto_region 4 with fail
    have HZ := Lib.hid (show DcIs (w2.setCell ⟨g, 65552 + Q, none⟩ (.int .u8 (b.M F))).drew g (seenB b) ph D A E ∧ w.grownBy (w2.setCell ⟨g, 65552 + Q, none⟩ (.int .u8 (b.M F))).drew (some g) from ⟨HZ0.out.1, grown_drew HZ0.out.2⟩)
    clear HZ0 cM cS fS
    generalize (w2.setCell ⟨g, 65552 + Q, none⟩ (.int .u8 (b.M F))).drew = W at *
    have ct := HZ.out.1.at_ (i := 65537) (by decide) dc_t
    have ft := HZ.out.1.fz 65537
    rw [HS.out] at ct
    have HX := Lib.hid (show DcIs (W.setCell ⟨g, 65537, none⟩ (.int .u64 (b.t + 1))) g (nextB b) ph D A E ∧ w.grownBy (W.setCell ⟨g, 65537, none⟩ (.int .u64 (b.t + 1))) (some g) from ⟨by unfold nextB DcIs; rw [dc_any_fr { seenB b with t := b.t + 1 }]; exact HZ.out.1.put (dset_t _), grown_trans HZ.out.2 (grown_cell _ _ _ _)⟩)
    clear hF0 hF1 hQ0 hQ1
    go_wp2
    go_end0
    exact ⟨⟨_, rfl⟩, HX.out.1, HX.out.2⟩
  | false =>
    rw [hh] at hft
    have hse : seenB b = b := by unfold seenB; rw [if_neg (by rw [hh]; decide)]
    have ct := h2.at_ (i := 65537) (by decide) dc_t
    have ft := h2.fz 65537
    have HX := Lib.hid (show DcIs (w2.setCell ⟨g, 65537, none⟩ (.int .u64 (b.t + 1))) g (nextB b) ph D A E ∧ w.grownBy (w2.setCell ⟨g, 65537, none⟩ (.int .u64 (b.t + 1))) (some g) from ⟨by unfold nextB DcIs; rw [dc_any_fr { seenB b with t := b.t + 1 }, hse]; exact h2.put (dset_t _), grown_trans HG.out (grown_cell _ _ _ _)⟩)
    clear h2 hh hse
    go_wp2_with fail
    refine hft.mono ?_
    rintro x w' ⟨rfl, rfl⟩
    clear hft
    go_wp2
    go_end0
    exact ⟨⟨_, rfl⟩, HX.out.1, HX.out.2⟩
end Go.Proofs.Ytfcnlgkaejkneaa
