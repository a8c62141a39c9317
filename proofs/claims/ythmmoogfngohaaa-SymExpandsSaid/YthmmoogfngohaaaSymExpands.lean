/- The law SymExpands of squeallaw22: for every input it returns true and writes nothing that was there: the row's step round its walk; no condition. -/
import Derived.Test.YthmmoogfngohaaaRows
import Derived.Test.YthmmoogfngohaaaSx9
import Derived.Lib.SmallJoins
import Derived.WalkKit
import Derived.ProofKit
import Derived.OpenShut
import Derived.ShutString
import Derived.ChangeOld
import Derived.Below
namespace Go.Proofs.Ythmmoogfngohaaa.symExpands
open Go.ChangeShapes Go.WideShapes Go.ChangeAt Go.RowKit Go.Deep Go.Joins
open Go.ChangeMaps (open_string shut_string)
set_option linter.unusedVariables false

theorem open_agg18 {H : Type} {enc : TypeId × Value → H} {P : Program} {w : World} {base : Nat} {spare : Nat → Bool} {held : Bool} {r : Reach} {b0 : Nat} {t : TypeId} {f0 f1 f2 f3 f4 f5 f6 f7 f8 f9 f10 f11 f12 f13 f14 f15 f16 f17 : Field} {v : Value} {d : DataW H} {p : List MemPlace} (hs : P.underlying t = some (.struct #[f0, f1, f2, f3, f4, f5, f6, f7, f8, f9, f10, f11, f12, f13, f14, f15, f16, f17])) (hone : oneCellFields P #[f0, f1, f2, f3, f4, f5, f6, f7, f8, f9, f10, f11, f12, f13, f14, f15, f16, f17] = true) (hC : P.cellsOf t = 18)
    (hv : Value.okWide P w r b0 t v) (h : DataW.Trod enc P w base spare held t v d p) :
    ∃ (v0 v1 v2 v3 v4 v5 v6 v7 v8 v9 v10 v11 v12 v13 v14 v15 v16 v17 : Value) (y0 y1 y2 y3 y4 y5 y6 y7 y8 y9 y10 y11 y12 y13 y14 y15 y16 y17 : DataW H × List MemPlace) (n : Nat), v = .agg #[v0, v1, v2, v3, v4, v5, v6, v7, v8, v9, v10, v11, v12, v13, v14, v15, v16, v17] ∧ d = .agg [y0.1, y1.1, y2.1, y3.1, y4.1, y5.1, y6.1, y7.1, y8.1, y9.1, y10.1, y11.1, y12.1, y13.1, y14.1, y15.1, y16.1, y17.1] ∧ p = y0.2 ++ (y1.2 ++ (y2.2 ++ (y3.2 ++ (y4.2 ++ (y5.2 ++ (y6.2 ++ (y7.2 ++ (y8.2 ++ (y9.2 ++ (y10.2 ++ (y11.2 ++ (y12.2 ++ (y13.2 ++ (y14.2 ++ (y15.2 ++ (y16.2 ++ y17.2)))))))))))))))) ∧
      DataW.trod enc P w base spare held n f0.type [v0] = some y0 ∧
      DataW.trod enc P w base spare held n f1.type [v1] = some y1 ∧
      DataW.trod enc P w base spare held n f2.type [v2] = some y2 ∧
      DataW.trod enc P w base spare held n f3.type [v3] = some y3 ∧
      DataW.trod enc P w base spare held n f4.type [v4] = some y4 ∧
      DataW.trod enc P w base spare held n f5.type [v5] = some y5 ∧
      DataW.trod enc P w base spare held n f6.type [v6] = some y6 ∧
      DataW.trod enc P w base spare held n f7.type [v7] = some y7 ∧
      DataW.trod enc P w base spare held n f8.type [v8] = some y8 ∧
      DataW.trod enc P w base spare held n f9.type [v9] = some y9 ∧
      DataW.trod enc P w base spare held n f10.type [v10] = some y10 ∧
      DataW.trod enc P w base spare held n f11.type [v11] = some y11 ∧
      DataW.trod enc P w base spare held n f12.type [v12] = some y12 ∧
      DataW.trod enc P w base spare held n f13.type [v13] = some y13 ∧
      DataW.trod enc P w base spare held n f14.type [v14] = some y14 ∧
      DataW.trod enc P w base spare held n f15.type [v15] = some y15 ∧
      DataW.trod enc P w base spare held n f16.type [v16] = some y16 ∧
      DataW.trod enc P w base spare held n f17.type [v17] = some y17 := by
  obtain ⟨cs, rfl, hsz⟩ := okWide_struct hs hv
  obtain ⟨l⟩ := cs
  match l, hsz.trans hC with
  | [c0, c1, c2, c3, c4, c5, c6, c7, c8, c9, c10, c11, c12, c13, c14, c15, c16, c17], _ =>
    obtain ⟨fuel, hf⟩ := h
    obtain ⟨xs, n, _, hx, _, hlen, hg⟩ := DataW.trod_struct hs hf
    obtain ⟨o0, k0⟩ := hone_of hone 0 f0 rfl
    obtain ⟨o1, k1⟩ := hone_of hone 1 f1 rfl
    obtain ⟨o2, k2⟩ := hone_of hone 2 f2 rfl
    obtain ⟨o3, k3⟩ := hone_of hone 3 f3 rfl
    obtain ⟨o4, k4⟩ := hone_of hone 4 f4 rfl
    obtain ⟨o5, k5⟩ := hone_of hone 5 f5 rfl
    obtain ⟨o6, k6⟩ := hone_of hone 6 f6 rfl
    obtain ⟨o7, k7⟩ := hone_of hone 7 f7 rfl
    obtain ⟨o8, k8⟩ := hone_of hone 8 f8 rfl
    obtain ⟨o9, k9⟩ := hone_of hone 9 f9 rfl
    obtain ⟨o10, k10⟩ := hone_of hone 10 f10 rfl
    obtain ⟨o11, k11⟩ := hone_of hone 11 f11 rfl
    obtain ⟨o12, k12⟩ := hone_of hone 12 f12 rfl
    obtain ⟨o13, k13⟩ := hone_of hone 13 f13 rfl
    obtain ⟨o14, k14⟩ := hone_of hone 14 f14 rfl
    obtain ⟨o15, k15⟩ := hone_of hone 15 f15 rfl
    obtain ⟨o16, k16⟩ := hone_of hone 16 f16 rfl
    obtain ⟨o17, k17⟩ := hone_of hone 17 f17 rfl
    match xs, hlen with
    | [y0, y1, y2, y3, y4, y5, y6, y7, y8, y9, y10, y11, y12, y13, y14, y15, y16, y17], _ =>
      simp only [Prod.mk.injEq] at hx
      exact ⟨c0, c1, c2, c3, c4, c5, c6, c7, c8, c9, c10, c11, c12, c13, c14, c15, c16, c17, y0, y1, y2, y3, y4, y5, y6, y7, y8, y9, y10, y11, y12, y13, y14, y15, y16, y17, n, rfl, by simpa using hx.1, by simpa using hx.2, by simpa [Value.cells, o0, k0] using hg 0 f0 rfl, by simpa [Value.cells, o1, k1] using hg 1 f1 rfl, by simpa [Value.cells, o2, k2] using hg 2 f2 rfl, by simpa [Value.cells, o3, k3] using hg 3 f3 rfl, by simpa [Value.cells, o4, k4] using hg 4 f4 rfl, by simpa [Value.cells, o5, k5] using hg 5 f5 rfl, by simpa [Value.cells, o6, k6] using hg 6 f6 rfl, by simpa [Value.cells, o7, k7] using hg 7 f7 rfl, by simpa [Value.cells, o8, k8] using hg 8 f8 rfl, by simpa [Value.cells, o9, k9] using hg 9 f9 rfl, by simpa [Value.cells, o10, k10] using hg 10 f10 rfl, by simpa [Value.cells, o11, k11] using hg 11 f11 rfl, by simpa [Value.cells, o12, k12] using hg 12 f12 rfl, by simpa [Value.cells, o13, k13] using hg 13 f13 rfl, by simpa [Value.cells, o14, k14] using hg 14 f14 rfl, by simpa [Value.cells, o15, k15] using hg 15 f15 rfl, by simpa [Value.cells, o16, k16] using hg 16 f16 rfl, by simpa [Value.cells, o17, k17] using hg 17 f17 rfl⟩

theorem own : ownKnob Try.prog.godebug = none := by kernel_rfl
theorem laidOut : laidOutB Try.prog = true := by kernel_rfl

set_option maxRecDepth 100000 in
theorem lifted (os : Os) (started : os.Started) (H : Type) (enc : TypeId × Value → H) :
    ReturnsInHanded {} Try.checked os 3 .any (Rows.symExpandsSpec.pre6 enc Try.prog Try.f3 Rows.symExpandsRow.domain false) (Rows.symExpandsSpec.post enc Try.prog Try.f3 false true false false) := by
  refine returnsInHanded_of_change (C := Try.checked) own started (by kernel_rfl) Try.func3
    (ChangeSpec.witness6 (enc := enc) (C := Try.checked) false ⟨#[], #[.agg #[.int .i64 0, .int .i64 0, .int .i64 0, .int .i64 0, .int .i64 0, .int .i64 0, .int .i64 0, .int .i64 0, .int .i64 0, .int .i64 0, .int .i64 0, .int .i64 0, .slice none 0 0, .slice none 0 0, .slice none 0 0, .slice none 0 0, .slice none 0 0, .slice none 0 0]], []⟩ 8 (by kernel_rfl) (by kernel_rfl) (by kernel_rfl) (by kernel_rfl)) ?_
  intro W base args ds gs before hval0 hW hcnd _
  have hval : ∀ (j : Nat) t v, Try.f3.params[j]? = some t → args[j]? = some v → Value.okWide Try.prog W .any base t v := hval0
  have hW' := hW
  obtain ⟨p, q, hA0, hV, rfl, hfz, hnd⟩ := hW
  have hA : DataW.TrodAll enc Try.prog W 0 (fun _ => true) true Try.f3.params.toList args.toList ds p := hA0
  rw [Try.params3] at hA hval
  obtain ⟨v0, vs0, d0, ds0, p0, q0, hargs, rfl, rfl, h0, r0⟩ := trodAll_cons hA
  obtain ⟨rfl, rfl, rfl⟩ := trodAll_nil r0
  obtain rfl : args = #[v0] := by cases args; simp_all
  obtain ⟨rfl, rfl⟩ := trodVars_none hV
  have k0 := h0
  have lt0 : ∀ x ∈ p0, x.block < W.heap.size := by obtain ⟨m, hm⟩ := k0; exact DataW.trod_lt m _ _ _ hm
  obtain ⟨c0, c1, c2, c3, c4, c5, c6, c7, c8, c9, c10, c11, c12, c13, c14, c15, c16, c17, y0, y1, y2, y3, y4, y5, y6, y7, y8, y9, y10, y11, y12, y13, y14, y15, y16, y17, m0, rfl, hd0, hp0, hy0, hy1, hy2, hy3, hy4, hy5, hy6, hy7, hy8, hy9, hy10, hy11, hy12, hy13, hy14, hy15, hy16, hy17⟩ := open_agg18 Try.underlying28 (by kernel_rfl) (by kernel_rfl) (hval 0 28 v0 rfl rfl) h0
  have in12 : ∀ x ∈ y12.2, x.block < W.heap.size := fun x hx => lt0 x (by rw [hp0]; simp only [List.mem_append, hx, true_or, or_true])
  have in13 : ∀ x ∈ y13.2, x.block < W.heap.size := fun x hx => lt0 x (by rw [hp0]; simp only [List.mem_append, hx, true_or, or_true])
  have in14 : ∀ x ∈ y14.2, x.block < W.heap.size := fun x hx => lt0 x (by rw [hp0]; simp only [List.mem_append, hx, true_or, or_true])
  have in15 : ∀ x ∈ y15.2, x.block < W.heap.size := fun x hx => lt0 x (by rw [hp0]; simp only [List.mem_append, hx, true_or, or_true])
  have in16 : ∀ x ∈ y16.2, x.block < W.heap.size := fun x hx => lt0 x (by rw [hp0]; simp only [List.mem_append, hx, true_or, or_true])
  have in17 : ∀ x ∈ y17.2, x.block < W.heap.size := fun x hx => lt0 x (by rw [hp0]; simp only [List.mem_append, hx, true_or, or_true])
  obtain ⟨a0, e0, _, u0⟩ := DataW.trod_int Try.underlying3 hy0
  obtain rfl : c0 = _ := by simpa using e0
  obtain ⟨a1, e1, _, u1⟩ := DataW.trod_int Try.underlying3 hy1
  obtain rfl : c1 = _ := by simpa using e1
  obtain ⟨a2, e2, _, u2⟩ := DataW.trod_int Try.underlying3 hy2
  obtain rfl : c2 = _ := by simpa using e2
  obtain ⟨a3, e3, _, u3⟩ := DataW.trod_int Try.underlying3 hy3
  obtain rfl : c3 = _ := by simpa using e3
  obtain ⟨a4, e4, _, u4⟩ := DataW.trod_int Try.underlying3 hy4
  obtain rfl : c4 = _ := by simpa using e4
  obtain ⟨a5, e5, _, u5⟩ := DataW.trod_int Try.underlying3 hy5
  obtain rfl : c5 = _ := by simpa using e5
  obtain ⟨a6, e6, _, u6⟩ := DataW.trod_int Try.underlying3 hy6
  obtain rfl : c6 = _ := by simpa using e6
  obtain ⟨a7, e7, _, u7⟩ := DataW.trod_int Try.underlying3 hy7
  obtain rfl : c7 = _ := by simpa using e7
  obtain ⟨a8, e8, _, u8⟩ := DataW.trod_int Try.underlying3 hy8
  obtain rfl : c8 = _ := by simpa using e8
  obtain ⟨a9, e9, _, u9⟩ := DataW.trod_int Try.underlying3 hy9
  obtain rfl : c9 = _ := by simpa using e9
  obtain ⟨a10, e10, _, u10⟩ := DataW.trod_int Try.underlying3 hy10
  obtain rfl : c10 = _ := by simpa using e10
  obtain ⟨a11, e11, _, u11⟩ := DataW.trod_int Try.underlying3 hy11
  obtain rfl : c11 = _ := by simpa using e11
  obtain ⟨A12, n12, q12, z12, rfl, w12⟩ : ∃ A n c zs, c12 = .slice A n c ∧ IsRow .u8 W A n c zs := by
    rcases open_ints Try.underlying22 Try.underlying5 (by kernel_rfl) hy12 with ⟨hcs, _⟩ | ⟨x, l, c, zs, hcs, _, hl, hm, hz, hpl, hcell, hwz⟩
    · exact ⟨none, 0, 0, [], by simpa using hcs, .inl ⟨rfl, rfl, rfl, rfl⟩⟩
    · have hz' : zs.length = c := by simpa using hz
      refine ⟨some x, l, c, zs, by simpa using hcs, .inr ⟨_, rfl, ?_, hl, hm, hz', hcell, hwz⟩⟩
      by_cases h0 : c = 0
      · exact .inl h0
      · refine .inr (in12 (.cell x.block x.off) ?_)
        have hpl2 : y12.2 = MemPlace.row x zs.length := by rw [hpl]
        rw [hpl2]
        exact MemPlace.mem_row.2 ⟨0, by first | omega | (simp; omega), by first | done | simp⟩
  obtain ⟨A13, n13, q13, rfl⟩ : ∃ A n c, c13 = .slice A n c := by
    rcases open_ints Try.underlying23 Try.underlying3 (by kernel_rfl) hy13 with ⟨hcs, _⟩ | ⟨x, l, c, zs, hcs, _⟩
    · exact ⟨none, 0, 0, by simpa using hcs⟩
    · exact ⟨some x, l, c, by simpa using hcs⟩
  obtain ⟨A14, n14, q14, rfl⟩ : ∃ A n c, c14 = .slice A n c := by
    rcases open_slice Try.underlying24 hy14 with ⟨hcs, _⟩ | ⟨x, l, c, m, n, D, Pl, hcs, _⟩
    · exact ⟨none, 0, 0, by simpa using hcs⟩
    · exact ⟨some x, l, c, by simpa using hcs⟩
  obtain ⟨A15, n15, q15, l15, rfl, w15, v15⟩ : ∃ A n c, ∃ l : List SymD, c15 = .slice A n c ∧ Reads W W.heap.size 2 A n (symV l) ∧ ∀ q ∈ l, q.okw W W.heap.size := by
    rcases open_slice_pairs Try.underlying25 Try.underlying40 (by kernel_rfl) rfl rfl (by kernel_rfl) (by kernel_rfl) hy15 with ⟨hcs, _⟩ | ⟨x, l, c, m, n, V0, V1, D0, D1, P0, P1, hcs, _, hl, _, hmm, hx, hall⟩
    · exact ⟨none, 0, 0, [], by simpa using hcs, Reads.none_, nofun⟩
    · have hm : m = c := by simpa using hmm
      have hpl : y15.2 = MemPlace.row x (m * 2) ++ (List.range m).flatMap fun i => P0 i ++ P1 i := by rw [hx]
      obtain ⟨lst, h1, h2⟩ := symsOf (x := x) (n := l) (fun h0 => in15 (.cell x.block x.off) (by rw [hpl]; exact List.mem_append_left _ (MemPlace.mem_row.2 ⟨0, by omega, by simp⟩))) V0 V1 (fun i hi => ⟨(hall i (by omega)).1, (hall i (by omega)).2.1⟩) (fun i hi => by
        obtain ⟨s, hs, _, us⟩ := DataW.trod_int Try.underlying3 (hall i (by omega)).2.2.1
        have hs0 : V0 i = .int .i64 s := by simpa using hs
        obtain ⟨b0, b1⟩ := bounds_i64 us
        rcases open_ints Try.underlying23 Try.underlying3 (by kernel_rfl) (hall i (by omega)).2.2.2 with ⟨hcs2, _⟩ | ⟨x2, l2, c2, zs, hcs2, _, hl2, hm2, hz2, hpl2, hcell, hwz⟩
        · exact ⟨⟨s, none, 0, 0, []⟩, hs0, by simpa using hcs2, b0, b1, Reads.none_⟩
        · have hz' : zs.length = c2 := by simpa using hz2
          have hrow : IsRow .i64 W (some x2) l2 c2 zs := by
            refine .inr ⟨_, rfl, ?_, hl2, hm2, hz', hcell, hwz⟩
            by_cases h0 : c2 = 0
            · exact .inl h0
            · refine .inr (in15 (.cell x2.block x2.off) ?_)
              rw [hpl]
              refine List.mem_append_right _ (List.mem_flatMap.2 ⟨i, List.mem_range.2 (by omega), List.mem_append_right _ ?_⟩)
              have hpl3 : P1 i = MemPlace.row x2 zs.length := by simp only [Prod.mk.injEq] at hpl2; exact hpl2.2
              rw [hpl3]
              exact MemPlace.mem_row.2 ⟨0, by first | omega | (simp; omega), by first | done | simp⟩
          exact ⟨⟨s, some x2, l2, c2, zs.take l2⟩, hs0, by simpa using hcs2, b0, b1, row_i64 hrow⟩)
      exact ⟨some x, l, c, lst, by simpa using hcs, h1, h2⟩
  obtain ⟨A16, n16, q16, l16, rfl, w16, v16⟩ : ∃ A n c, ∃ l : List SymD, c16 = .slice A n c ∧ Reads W W.heap.size 2 A n (symV l) ∧ ∀ q ∈ l, q.okw W W.heap.size := by
    rcases open_slice_pairs Try.underlying25 Try.underlying40 (by kernel_rfl) rfl rfl (by kernel_rfl) (by kernel_rfl) hy16 with ⟨hcs, _⟩ | ⟨x, l, c, m, n, V0, V1, D0, D1, P0, P1, hcs, _, hl, _, hmm, hx, hall⟩
    · exact ⟨none, 0, 0, [], by simpa using hcs, Reads.none_, nofun⟩
    · have hm : m = c := by simpa using hmm
      have hpl : y16.2 = MemPlace.row x (m * 2) ++ (List.range m).flatMap fun i => P0 i ++ P1 i := by rw [hx]
      obtain ⟨lst, h1, h2⟩ := symsOf (x := x) (n := l) (fun h0 => in16 (.cell x.block x.off) (by rw [hpl]; exact List.mem_append_left _ (MemPlace.mem_row.2 ⟨0, by omega, by simp⟩))) V0 V1 (fun i hi => ⟨(hall i (by omega)).1, (hall i (by omega)).2.1⟩) (fun i hi => by
        obtain ⟨s, hs, _, us⟩ := DataW.trod_int Try.underlying3 (hall i (by omega)).2.2.1
        have hs0 : V0 i = .int .i64 s := by simpa using hs
        obtain ⟨b0, b1⟩ := bounds_i64 us
        rcases open_ints Try.underlying23 Try.underlying3 (by kernel_rfl) (hall i (by omega)).2.2.2 with ⟨hcs2, _⟩ | ⟨x2, l2, c2, zs, hcs2, _, hl2, hm2, hz2, hpl2, hcell, hwz⟩
        · exact ⟨⟨s, none, 0, 0, []⟩, hs0, by simpa using hcs2, b0, b1, Reads.none_⟩
        · have hz' : zs.length = c2 := by simpa using hz2
          have hrow : IsRow .i64 W (some x2) l2 c2 zs := by
            refine .inr ⟨_, rfl, ?_, hl2, hm2, hz', hcell, hwz⟩
            by_cases h0 : c2 = 0
            · exact .inl h0
            · refine .inr (in16 (.cell x2.block x2.off) ?_)
              rw [hpl]
              refine List.mem_append_right _ (List.mem_flatMap.2 ⟨i, List.mem_range.2 (by omega), List.mem_append_right _ ?_⟩)
              have hpl3 : P1 i = MemPlace.row x2 zs.length := by simp only [Prod.mk.injEq] at hpl2; exact hpl2.2
              rw [hpl3]
              exact MemPlace.mem_row.2 ⟨0, by first | omega | (simp; omega), by first | done | simp⟩
          exact ⟨⟨s, some x2, l2, c2, zs.take l2⟩, hs0, by simpa using hcs2, b0, b1, row_i64 hrow⟩)
      exact ⟨some x, l, c, lst, by simpa using hcs, h1, h2⟩
  obtain ⟨A17, n17, q17, l17, rfl, w17, v17⟩ : ∃ A n c, ∃ l : List (Int × Int), c17 = .slice A n c ∧ Reads W W.heap.size 2 A n (fl l) ∧ ∀ p ∈ l, -9223372036854775808 ≤ p.1 ∧ p.1 ≤ 9223372036854775807 ∧ -9223372036854775808 ≤ p.2 ∧ p.2 ≤ 9223372036854775807 := by
    rcases open_slice_pairs Try.underlying26 Try.underlying43 (by kernel_rfl) rfl rfl (by kernel_rfl) (by kernel_rfl) hy17 with ⟨hcs, _⟩ | ⟨x, l, c, m, n, V0, V1, D0, D1, P0, P1, hcs, _, hl, _, hmm, hx, hall⟩
    · exact ⟨none, 0, 0, [], by simpa using hcs, Reads.none_, nofun⟩
    · have hm : m = c := by simpa using hmm
      have hpl : y17.2 = MemPlace.row x (m * 2) ++ (List.range m).flatMap fun i => P0 i ++ P1 i := by rw [hx]
      obtain ⟨lst, h1, h2⟩ := repsOf (x := x) (n := l) (fun h0 => in17 (.cell x.block x.off) (by rw [hpl]; exact List.mem_append_left _ (MemPlace.mem_row.2 ⟨0, by omega, by simp⟩))) V0 V1 (fun i hi => ⟨(hall i (by omega)).1, (hall i (by omega)).2.1⟩) (fun i hi => by
        obtain ⟨s, hs, _, us⟩ := DataW.trod_int Try.underlying3 (hall i (by omega)).2.2.1
        obtain ⟨s2, hs2, _, us2⟩ := DataW.trod_int Try.underlying3 (hall i (by omega)).2.2.2
        exact ⟨(s, s2), by simpa using hs, by simpa using hs2, us, us2⟩)
      exact ⟨some x, l, c, lst, by simpa using hcs, h1, h2⟩
  clear hA0 hval0
  refine (symExpands_walk W l15 l16 l17 z12 a0 a1 a2 a3 a4 a5 a6 a7 a8 a9 a10 a11 A12 A13 A14 A15 A16 A17 n12 q12 n13 q13 n14 q14 n15 q15 n16 q16 n17 q17 u8 w12 w15 v15 w16 v16 w17 v17).mono fun e W' ⟨he, bel⟩ => ?_
  subst he
  exact ⟨_, rfl, _, _, _, [], _, [], hW', trodAll_mk1 (shut_bool Try.underlying4 _), (trodAll_cons_mk (Below.trod laidOut (by kernel_rfl) (of_decide_eq_true (by kernel_rfl)) k0 bel lt0) trodAll_mk0), rfl, bel.frame _, fun h => by cases h⟩

theorem over : Rows.symExpandsRow.holds Try.pinned (OpenSpec.ofChange Rows.symExpandsSpec) :=
  OpenClaim.holds_of_wide 3 Try.f3 rfl rfl rfl rfl rfl rfl rfl ⟨rfl, rfl, rfl, rfl, rfl⟩ rfl rfl rfl rfl rfl (by kernel_rfl) Try.func3 (by kernel_rfl)
    (of_decide_eq_true (by kernel_rfl)) (by unfold Func.isWrapper; first | (rw [if_pos (by decide +kernel)]; kernel_rfl) | (rw [if_neg (by decide +kernel)]; exact ⟨rfl, rfl⟩))
    (fun os started H enc _ => lifted os started H enc)

/-- THE STATEMENT -/
theorem proved : Rows.SymExpandsSaid := over
#print axioms proved
end Go.Proofs.Ythmmoogfngohaaa.symExpands
