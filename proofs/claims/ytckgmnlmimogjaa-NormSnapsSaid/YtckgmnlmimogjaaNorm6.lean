/- Contracts of layer 27: the document's bits. -/
import Derived.Test.YtckgmnlmimogjaaNorm4
namespace Go.Proofs.Ytckgmnlmimogjaa
open Go.RowKit

theorem news_one (w : World) (t : TypeId) (v : Value) : ∀ i u, [v][i]? = some u → (w.alloc (.cells #[v] t)).cell? ((⟨w.heap.size, 0, none⟩ : Addr).add i) = some u := by
  intro i u hi
  match i, hi with
  | 0, hi =>
    obtain rfl : v = u := by simpa using hi
    rw [show (Addr.add ⟨w.heap.size, 0, none⟩ 0) = ⟨w.heap.size, 0, none⟩ from rfl, World.cell?_alloc_at _ _ _ _ rfl]
    rfl
theorem intInfo' : (Try.prog.info? 3).map (fun i => (i.zero, i.size, i.bytes)) = some (some (.int .i64 0), 1, 8) := by kernel_rfl
set_option maxRecDepth 100000 in
set_option maxHeartbeats 4000000 in
theorem bitsR_any (w : World) (A : Option Addr) (N c : Nat) (zs : List Int) (k : Nat) (p s1 s2 z o tol : Int) (hr : Reads w w.heap.size 1 A N (zs.map (Value.int .u32))) (hz : isU32 zs) (hN : N ≤ 5000) (hk : k ≤ N) (t0 : 0 ≤ tol) (t1 : tol ≤ 65535) (n0 : 0 ≤ z) (n1 : z ≤ 65535) (n2 : 0 ≤ o) (n3 : o ≤ 65535) :
    Calls Try.prog 26 #[.slice A N c, .int .i64 k, .agg #[.int .i64 p, .int .i64 s1, .int .i64 s2, .int .i64 z, .int .i64 o], .int .i64 tol] w fun e w' => ∃ V, e = .returned V ∧ w'.ownsRow w.heap.size 3 1 V (bitsN zs k z o tol).length ((bitsN zs k z o tol).map (Value.int .i64)) ∧ Below w.heap.size w w' := by
  obtain ⟨i0, hi, hz0, hz1, hz2⟩ := info_parts intInfo'
  have hl := reads_len hr
  have hb0 : Below w.heap.size w (w.alloc (.cells #[.int .i64 p, .int .i64 s1, .int .i64 s2, .int .i64 z, .int .i64 o] 25)) := (Below.refl _ _).alloc (Nat.le_refl _) _
  have hT0 : Blk (w.alloc (.cells #[.int .i64 p, .int .i64 s1, .int .i64 s2, .int .i64 z, .int .i64 o] 25)) w.heap.size 25 #[.int .i64 p, .int .i64 s1, .int .i64 s2, .int .i64 z, .int .i64 o] := Blk.new w _ _
  have hlen : k + 2 * (bitsN zs k z o tol).length ≤ N := by rw [← hl]; exact bitsK_len _ _ _ _ _ _ (by omega)
  obtain ⟨L, hL⟩ : ∃ L, L = bitsN zs k z o tol := ⟨_, rfl⟩
  rw [← hL] at hlen ⊢
  have HLL := Lib.hid hL
  have HNR := Lib.hid (show ∀ (w' : World) (q : Nat) (n : Int), Below w.heap.size w w' → q ≤ 100000 → 0 ≤ n → n ≤ 65535 → Calls Try.prog 25 #[.slice A N c, .int .i64 q, .int .i64 n, .int .i64 tol] w' fun e w'' => e = .returned (.bool (nr zs q n tol)) ∧ w' = w'' from fun w' q n hb hq h0 h1 => nearR_any (hr.below hb) hz hN hq t0 t1 h0 h1)
  clear hL hr hz
  go_enter Try.func26, Try.ntmps26
  go_wp2_with fail
  go_loopw [1, 9] (fun x y wr => ∃ (r : Nat) (M : List Int), x = .int .i64 r ∧ r ≤ N ∧ Hid (M ++ bitsN zs r z o tol = L) ∧ M.length ≤ 5000 ∧ wr.ownsRow (w.heap.size + 1) 3 1 y M.length (M.map (Value.int .i64)) ∧ Blk wr w.heap.size 25 #[.int .i64 p, .int .i64 s1, .int .i64 s2, .int .i64 z, .int .i64 o] ∧ Below w.heap.size w wr) (fun x _ _ => N + 2 - (intOf x).toNat)
  case atStart => exact ⟨k, [], rfl, hk, Lib.hid (by rw [HLL.out]; rfl), by simp, World.ownsRow_nil _ _ _ _, hT0, hb0⟩
  case round =>
    obtain ⟨r, M, rfl, hrN, HM, hMl, hown, hT, hbl⟩ := hrel
    clear hT0 hb0
    have k3 : wr.cell? ⟨w.heap.size, 3, none⟩ = some (.int .i64 z) := (hT.cell 3).trans rfl
    have k4 : wr.cell? ⟨w.heap.size, 4, none⟩ = some (.int .i64 o) := (hT.cell 4).trans rfl
    have ha := HNR.out wr r z hbl (by omega) n0 n1
    have hb := HNR.out wr (r + 1) z hbl (by omega) n0 n1
    have hc := HNR.out wr r o hbl (by omega) n2 n3
    have hd := HNR.out wr (r + 1) o hbl (by omega) n2 n3
    obtain ⟨r1, hr1⟩ : ∃ r1, r1 = r + 1 := ⟨_, rfl⟩
    obtain ⟨r2, hr2⟩ : ∃ r2, r2 = r + 2 := ⟨_, rfl⟩
    rw [← hr1] at hb hd
    have hw1 : IntKind.i64.wrap ((r : Int) + 1) = (r1 : Int) := by rw [IntKind.wrap_i64]; omega
    have hw2 : IntKind.i64.wrap ((r : Int) + 2) = (r2 : Int) := by rw [IntKind.wrap_i64]; omega
    have HTZ := Lib.hid (show two zs r z tol = (nr zs r z tol && nr zs r1 z tol) by rw [hr1]; rfl)
    have HTO := Lib.hid (show two zs r o tol = (nr zs r o tol && nr zs r1 o tol) by rw [hr1]; rfl)
    have HST := Lib.hid (bitsN_step zs r z o tol)
    have HR2 := Lib.hid hr2
    have HTB := Lib.hid (And.intro hT hbl)
    clear hr1 hr2 hT hbl
    have hz2' : two zs r z tol = true → r + 2 ≤ N := fun h => by rw [← hl]; exact two_in h
    have ho2' : two zs r o tol = true → r + 2 ≤ N := fun h => by rw [← hl]; exact two_in h
    have HZ2 := Lib.hid (And.intro hz2' ho2')
    clear hz2' ho2'
    generalize nr zs r z tol = x0 at *
    generalize nr zs r1 z tol = x1 at *
    generalize nr zs r o tol = y0 at *
    generalize nr zs r1 o tol = y1 at *
    have hcase : (x0 = true ∧ x1 = true) ∨ (x0 = false ∧ y0 = true ∧ y1 = true) ∨ (x0 = true ∧ x1 = false ∧ y0 = true ∧ y1 = true) ∨ (x0 = false ∧ y0 = false) ∨ (x0 = true ∧ x1 = false ∧ y0 = false) ∨ (x0 = false ∧ y0 = true ∧ y1 = false) ∨ (x0 = true ∧ x1 = false ∧ y0 = true ∧ y1 = false) := by
      cases x0 <;> cases x1 <;> cases y0 <;> cases y1 <;> simp
    rcases hcase with ⟨rfl, rfl⟩ | ⟨rfl, rfl, rfl⟩ | ⟨rfl, rfl, rfl, rfl⟩ | ⟨rfl, rfl⟩ | ⟨rfl, rfl, rfl⟩ | ⟨rfl, rfl, rfl⟩ | ⟨rfl, rfl, rfl, rfl⟩
    · go_wp2_with fail
      refine ha.mono ?_
      rintro e w' ⟨rfl, rfl⟩
      go_wp2_with fail
      refine hb.mono ?_
      rintro e w' ⟨rfl, rfl⟩
      clear ha hb hc hd
      have HL1 := Lib.hid (show (M ++ [0]) ++ bitsN zs r2 z o tol = L by have := HM.out; rw [HST.out, HTZ.out, HTO.out, ← HR2.out] at this; simpa using this)
      have hr2N : r2 ≤ N := by rw [HR2.out]; exact HZ2.out.1 (by rw [HTZ.out]; rfl)
      have hMl2 : M.length < 5000 := by have := congrArg List.length HL1.out; simp at this; omega
      have hlt2 := HTB.out.1.lt
      go_wp2_with (first
        | (at_builtin; refine wpList_append_own _ rfl _ _ 28 rfl (w.heap.size + 1) 3 i0 (.int .i64 0) 1 8 Try.underlying28 hi hz0 hz1 hz2 rfl (by decide) _ _ _ rfl (hown.alloc _) ⟨wr.heap.size, 0, none⟩ 1 1 [.int .i64 0] rfl rfl ?c1 ?c2 ?c3 ?c4 ?c5 ?_)
        | go_in)
      case c1 =>
        intro i u hi
        match i, hi with
        | 0, hi => simp at hi; subst hi; simp [Addr.add]
      case c2 => intro u hu; simp at hu; subst hu; rfl
      case c3 => unfold maxLen; omega
      case c4 => omega
      case c5 => simp; omega
      intro v' w1 own1 hgrow _
      obtain ⟨hT, hbl⟩ := HTB.out
      have hTa := hT.alloc (.cells #[.int .i64 0] 3)
      have owna := hown.alloc (.cells #[.int .i64 0] 3)
      have hT1 := hTa.grown hgrow (fun e => own_blk_ne owna hTa (by decide) e.symm)
      have hb1 := (hbl.alloc hbl.size (.cells #[.int .i64 0] 3)).grown hgrow (by simp; omega) (fun b hb => by have := (owna.lt b hb).1; omega)
      obtain ⟨VA1, vc1, rfl⟩ := own_slice own1
      have HF := Lib.hid (And.intro own1 (And.intro hT1 hb1))
      clear own1 hT1 hb1 hTa owna hT hbl hown hgrow
      go_wp2
      go_roundw
      case rel =>
        obtain ⟨own1, hT1, hb1⟩ := HF.out
        refine ⟨r2, M ++ [0], rfl, hr2N, HL1, by simp; omega, ?_, hT1, hb1⟩
        simpa using own1
      case measure => have := HR2.out; simp [intOf]; omega
    · go_wp2_with fail
      refine ha.mono ?_
      rintro e w' ⟨rfl, rfl⟩
      go_wp2_with fail
      refine hc.mono ?_
      rintro e w' ⟨rfl, rfl⟩
      go_wp2_with fail
      refine hd.mono ?_
      rintro e w' ⟨rfl, rfl⟩
      clear ha hb hc hd
      have HL1 := Lib.hid (show (M ++ [1]) ++ bitsN zs r2 z o tol = L by have := HM.out; rw [HST.out, HTZ.out, HTO.out, ← HR2.out] at this; simpa using this)
      have hr2N : r2 ≤ N := by rw [HR2.out]; exact HZ2.out.2 (by rw [HTO.out]; rfl)
      have hMl2 : M.length < 5000 := by have := congrArg List.length HL1.out; simp at this; omega
      have hlt2 := HTB.out.1.lt
      go_wp2_with (first
        | (at_builtin; refine wpList_append_own _ rfl _ _ 28 rfl (w.heap.size + 1) 3 i0 (.int .i64 0) 1 8 Try.underlying28 hi hz0 hz1 hz2 rfl (by decide) _ _ _ rfl (hown.alloc _) ⟨wr.heap.size, 0, none⟩ 1 1 [.int .i64 1] rfl rfl ?c1 ?c2 ?c3 ?c4 ?c5 ?_)
        | go_in)
      case c1 =>
        intro i u hi
        match i, hi with
        | 0, hi => simp at hi; subst hi; simp [Addr.add]
      case c2 => intro u hu; simp at hu; subst hu; rfl
      case c3 => unfold maxLen; omega
      case c4 => omega
      case c5 => simp; omega
      intro v' w1 own1 hgrow _
      obtain ⟨hT, hbl⟩ := HTB.out
      have hTa := hT.alloc (.cells #[.int .i64 1] 3)
      have owna := hown.alloc (.cells #[.int .i64 1] 3)
      have hT1 := hTa.grown hgrow (fun e => own_blk_ne owna hTa (by decide) e.symm)
      have hb1 := (hbl.alloc hbl.size (.cells #[.int .i64 1] 3)).grown hgrow (by simp; omega) (fun b hb => by have := (owna.lt b hb).1; omega)
      obtain ⟨VA1, vc1, rfl⟩ := own_slice own1
      have HF := Lib.hid (And.intro own1 (And.intro hT1 hb1))
      clear own1 hT1 hb1 hTa owna hT hbl hown hgrow
      go_wp2
      go_roundw
      case rel =>
        obtain ⟨own1, hT1, hb1⟩ := HF.out
        refine ⟨r2, M ++ [1], rfl, hr2N, HL1, by simp; omega, ?_, hT1, hb1⟩
        simpa using own1
      case measure => have := HR2.out; simp [intOf]; omega
    · go_wp2_with fail
      refine ha.mono ?_
      rintro e w' ⟨rfl, rfl⟩
      go_wp2_with fail
      refine hb.mono ?_
      rintro e w' ⟨rfl, rfl⟩
      go_wp2_with fail
      refine hc.mono ?_
      rintro e w' ⟨rfl, rfl⟩
      go_wp2_with fail
      refine hd.mono ?_
      rintro e w' ⟨rfl, rfl⟩
      clear ha hb hc hd
      have HL1 := Lib.hid (show (M ++ [1]) ++ bitsN zs r2 z o tol = L by have := HM.out; rw [HST.out, HTZ.out, HTO.out, ← HR2.out] at this; simpa using this)
      have hr2N : r2 ≤ N := by rw [HR2.out]; exact HZ2.out.2 (by rw [HTO.out]; rfl)
      have hMl2 : M.length < 5000 := by have := congrArg List.length HL1.out; simp at this; omega
      have hlt2 := HTB.out.1.lt
      go_wp2_with (first
        | (at_builtin; refine wpList_append_own _ rfl _ _ 28 rfl (w.heap.size + 1) 3 i0 (.int .i64 0) 1 8 Try.underlying28 hi hz0 hz1 hz2 rfl (by decide) _ _ _ rfl (hown.alloc _) ⟨wr.heap.size, 0, none⟩ 1 1 [.int .i64 1] rfl rfl ?c1 ?c2 ?c3 ?c4 ?c5 ?_)
        | go_in)
      case c1 =>
        intro i u hi
        match i, hi with
        | 0, hi => simp at hi; subst hi; simp [Addr.add]
      case c2 => intro u hu; simp at hu; subst hu; rfl
      case c3 => unfold maxLen; omega
      case c4 => omega
      case c5 => simp; omega
      intro v' w1 own1 hgrow _
      obtain ⟨hT, hbl⟩ := HTB.out
      have hTa := hT.alloc (.cells #[.int .i64 1] 3)
      have owna := hown.alloc (.cells #[.int .i64 1] 3)
      have hT1 := hTa.grown hgrow (fun e => own_blk_ne owna hTa (by decide) e.symm)
      have hb1 := (hbl.alloc hbl.size (.cells #[.int .i64 1] 3)).grown hgrow (by simp; omega) (fun b hb => by have := (owna.lt b hb).1; omega)
      obtain ⟨VA1, vc1, rfl⟩ := own_slice own1
      have HF := Lib.hid (And.intro own1 (And.intro hT1 hb1))
      clear own1 hT1 hb1 hTa owna hT hbl hown hgrow
      go_wp2
      go_roundw
      case rel =>
        obtain ⟨own1, hT1, hb1⟩ := HF.out
        refine ⟨r2, M ++ [1], rfl, hr2N, HL1, by simp; omega, ?_, hT1, hb1⟩
        simpa using own1
      case measure => have := HR2.out; simp [intOf]; omega
    · go_wp2_with fail
      refine ha.mono ?_
      rintro e w' ⟨rfl, rfl⟩
      go_wp2_with fail
      refine hc.mono ?_
      rintro e w' ⟨rfl, rfl⟩
      clear ha hb hc hd
      have HL0 := Lib.hid (show M = L by have := HM.out; rw [HST.out, HTZ.out, HTO.out] at this; simpa using this)
      go_wp2
      go_ret
      obtain ⟨hT, hbl⟩ := HTB.out
      refine ⟨_, rfl, ?_, hbl⟩
      rw [← HL0.out]
      exact ownsRow_le' hown (by omega)
    · go_wp2_with fail
      refine ha.mono ?_
      rintro e w' ⟨rfl, rfl⟩
      go_wp2_with fail
      refine hb.mono ?_
      rintro e w' ⟨rfl, rfl⟩
      go_wp2_with fail
      refine hc.mono ?_
      rintro e w' ⟨rfl, rfl⟩
      clear ha hb hc hd
      have HL0 := Lib.hid (show M = L by have := HM.out; rw [HST.out, HTZ.out, HTO.out] at this; simpa using this)
      go_wp2
      go_ret
      obtain ⟨hT, hbl⟩ := HTB.out
      refine ⟨_, rfl, ?_, hbl⟩
      rw [← HL0.out]
      exact ownsRow_le' hown (by omega)
    · go_wp2_with fail
      refine ha.mono ?_
      rintro e w' ⟨rfl, rfl⟩
      go_wp2_with fail
      refine hc.mono ?_
      rintro e w' ⟨rfl, rfl⟩
      go_wp2_with fail
      refine hd.mono ?_
      rintro e w' ⟨rfl, rfl⟩
      clear ha hb hc hd
      have HL0 := Lib.hid (show M = L by have := HM.out; rw [HST.out, HTZ.out, HTO.out] at this; simpa using this)
      go_wp2
      go_ret
      obtain ⟨hT, hbl⟩ := HTB.out
      refine ⟨_, rfl, ?_, hbl⟩
      rw [← HL0.out]
      exact ownsRow_le' hown (by omega)
    · go_wp2_with fail
      refine ha.mono ?_
      rintro e w' ⟨rfl, rfl⟩
      go_wp2_with fail
      refine hb.mono ?_
      rintro e w' ⟨rfl, rfl⟩
      go_wp2_with fail
      refine hc.mono ?_
      rintro e w' ⟨rfl, rfl⟩
      go_wp2_with fail
      refine hd.mono ?_
      rintro e w' ⟨rfl, rfl⟩
      clear ha hb hc hd
      have HL0 := Lib.hid (show M = L by have := HM.out; rw [HST.out, HTZ.out, HTO.out] at this; simpa using this)
      go_wp2
      go_ret
      obtain ⟨hT, hbl⟩ := HTB.out
      refine ⟨_, rfl, ?_, hbl⟩
      rw [← HL0.out]
      exact ownsRow_le' hown (by omega)

end Go.Proofs.Ytckgmnlmimogjaa
