/- Layer 24: a slice of blocks that came in, opened as a way reads it; a slice of bools. -/
import Derived.Test.YtnmapncgnceldaaWk26
import Derived.Deep.SlicePairs
import Derived.Deep.Grids
import Derived.ChangeArms
import Derived.OpenShut
import Derived.Lib.SmallJoins
namespace Go.Proofs.Ytnmapncgnceldaa
open Go.ChangeShapes Go.WideShapes Go.ChangeAt Go.RowKit Go.Deep Go.Joins

theorem open_cells18 {H : Type} {enc : TypeId × Value → H} {P : Program} {w : World} {base : Nat} {spare : Nat → Bool} {held : Bool} {fuel : Nat} {t : TypeId} {f0 f1 f2 f3 f4 f5 f6 f7 f8 f9 f10 f11 f12 f13 f14 f15 f16 f17 : Field} (hs : P.underlying t = some (.struct #[f0, f1, f2, f3, f4, f5, f6, f7, f8, f9, f10, f11, f12, f13, f14, f15, f16, f17])) (hone : oneCellFields P #[f0, f1, f2, f3, f4, f5, f6, f7, f8, f9, f10, f11, f12, f13, f14, f15, f16, f17] = true) {cs : List Value} (hC : cs.length = 18) {x : DataW H × List MemPlace}
    (hf : DataW.trod enc P w base spare held fuel t cs = some x) :
    ∃ (v0 v1 v2 v3 v4 v5 v6 v7 v8 v9 v10 v11 v12 v13 v14 v15 v16 v17 : Value) (y0 y1 y2 y3 y4 y5 y6 y7 y8 y9 y10 y11 y12 y13 y14 y15 y16 y17 : DataW H × List MemPlace) (n : Nat), cs = [v0, v1, v2, v3, v4, v5, v6, v7, v8, v9, v10, v11, v12, v13, v14, v15, v16, v17] ∧ x.2 = y0.2 ++ (y1.2 ++ (y2.2 ++ (y3.2 ++ (y4.2 ++ (y5.2 ++ (y6.2 ++ (y7.2 ++ (y8.2 ++ (y9.2 ++ (y10.2 ++ (y11.2 ++ (y12.2 ++ (y13.2 ++ (y14.2 ++ (y15.2 ++ (y16.2 ++ y17.2)))))))))))))))) ∧
      DataW.trod enc P w base spare held n f0.type [v0] = some y0 ∧
      DataW.trod enc P w base spare held n f1.type [v1] = some y1 ∧
      DataW.trod enc P w base spare held n f2.type [v2] = some y2 ∧
      DataW.trod enc P w base spare held n f3.type [v3] = some y3 ∧
      DataW.trod enc P w base spare held n f4.type [v4] = some y4 ∧
      DataW.trod enc P w base spare held n f5.type [v5] = some y5 ∧
      DataW.trod enc P w base spare held n f6.type [v6] = some y6 ∧
      DataW.trod enc P w base spare held n f7.type [v7] = some y7 ∧
      DataW.trod enc P w base spare held n f8.type [v8] = some y8 ∧
      DataW.trod enc P w base spare held n f9.type [v9] = some y9 ∧
      DataW.trod enc P w base spare held n f10.type [v10] = some y10 ∧
      DataW.trod enc P w base spare held n f11.type [v11] = some y11 ∧
      DataW.trod enc P w base spare held n f12.type [v12] = some y12 ∧
      DataW.trod enc P w base spare held n f13.type [v13] = some y13 ∧
      DataW.trod enc P w base spare held n f14.type [v14] = some y14 ∧
      DataW.trod enc P w base spare held n f15.type [v15] = some y15 ∧
      DataW.trod enc P w base spare held n f16.type [v16] = some y16 ∧
      DataW.trod enc P w base spare held n f17.type [v17] = some y17 := by
  match cs, hC with
  | [c0, c1, c2, c3, c4, c5, c6, c7, c8, c9, c10, c11, c12, c13, c14, c15, c16, c17], _ =>
    obtain ⟨xs, n, _, hx, _, hlen, hg⟩ := DataW.trod_struct hs hf
    obtain ⟨o0, k0⟩ := hone_of hone 0 f0 rfl
    obtain ⟨o1, k1⟩ := hone_of hone 1 f1 rfl
    obtain ⟨o2, k2⟩ := hone_of hone 2 f2 rfl
    obtain ⟨o3, k3⟩ := hone_of hone 3 f3 rfl
    obtain ⟨o4, k4⟩ := hone_of hone 4 f4 rfl
    obtain ⟨o5, k5⟩ := hone_of hone 5 f5 rfl
    obtain ⟨o6, k6⟩ := hone_of hone 6 f6 rfl
    obtain ⟨o7, k7⟩ := hone_of hone 7 f7 rfl
    obtain ⟨o8, k8⟩ := hone_of hone 8 f8 rfl
    obtain ⟨o9, k9⟩ := hone_of hone 9 f9 rfl
    obtain ⟨o10, k10⟩ := hone_of hone 10 f10 rfl
    obtain ⟨o11, k11⟩ := hone_of hone 11 f11 rfl
    obtain ⟨o12, k12⟩ := hone_of hone 12 f12 rfl
    obtain ⟨o13, k13⟩ := hone_of hone 13 f13 rfl
    obtain ⟨o14, k14⟩ := hone_of hone 14 f14 rfl
    obtain ⟨o15, k15⟩ := hone_of hone 15 f15 rfl
    obtain ⟨o16, k16⟩ := hone_of hone 16 f16 rfl
    obtain ⟨o17, k17⟩ := hone_of hone 17 f17 rfl
    match xs, hlen with
    | [y0, y1, y2, y3, y4, y5, y6, y7, y8, y9, y10, y11, y12, y13, y14, y15, y16, y17], _ =>
      rw [hx]
      exact ⟨c0, c1, c2, c3, c4, c5, c6, c7, c8, c9, c10, c11, c12, c13, c14, c15, c16, c17, y0, y1, y2, y3, y4, y5, y6, y7, y8, y9, y10, y11, y12, y13, y14, y15, y16, y17, n, rfl, by simp, by simpa [Value.cells, o0, k0] using hg 0 f0 rfl, by simpa [Value.cells, o1, k1] using hg 1 f1 rfl, by simpa [Value.cells, o2, k2] using hg 2 f2 rfl, by simpa [Value.cells, o3, k3] using hg 3 f3 rfl, by simpa [Value.cells, o4, k4] using hg 4 f4 rfl, by simpa [Value.cells, o5, k5] using hg 5 f5 rfl, by simpa [Value.cells, o6, k6] using hg 6 f6 rfl, by simpa [Value.cells, o7, k7] using hg 7 f7 rfl, by simpa [Value.cells, o8, k8] using hg 8 f8 rfl, by simpa [Value.cells, o9, k9] using hg 9 f9 rfl, by simpa [Value.cells, o10, k10] using hg 10 f10 rfl, by simpa [Value.cells, o11, k11] using hg 11 f11 rfl, by simpa [Value.cells, o12, k12] using hg 12 f12 rfl, by simpa [Value.cells, o13, k13] using hg 13 f13 rfl, by simpa [Value.cells, o14, k14] using hg 14 f14 rfl, by simpa [Value.cells, o15, k15] using hg 15 f15 rfl, by simpa [Value.cells, o16, k16] using hg 16 f16 rfl, by simpa [Value.cells, o17, k17] using hg 17 f17 rfl⟩
theorem one_slice {A : Option Addr} {n c : Nat} : (Value.slice A n c).oneCell' = true := rfl

theorem wb_of {H : Type} {enc : TypeId × Value → H} {W : World} {fuel : Nat} {cs : List Value} (hC : cs.length = 18) {x : DataW H × List MemPlace} (hf : DataW.trod enc Try.prog W 0 (fun _ => true) true fuel 45 cs = some x) (lt : ∀ p ∈ x.2, p.block < W.heap.size) :
    ∃ d : WB, WBAt W (· < W.heap.size) d cs ∧ d.ct ≤ 9223372036854775807 := by
  obtain ⟨v0, v1, v2, v3, v4, v5, v6, v7, v8, v9, v10, v11, v12, v13, v14, v15, v16, v17, y0, y1, y2, y3, y4, y5, y6, y7, y8, y9, y10, y11, y12, y13, y14, y15, y16, y17, n, rfl, hp, hy0, hy1, hy2, hy3, hy4, hy5, hy6, hy7, hy8, hy9, hy10, hy11, hy12, hy13, hy14, hy15, hy16, hy17⟩ := open_cells18 Try.underlying45 (by kernel_rfl) hC hf
  obtain ⟨a0, e0, _, u0⟩ := DataW.trod_int Try.underlying3 hy0
  obtain rfl : v0 = _ := by simpa using e0
  obtain ⟨a1, e1, _, u1⟩ := DataW.trod_int Try.underlying3 hy1
  obtain rfl : v1 = _ := by simpa using e1
  obtain ⟨a2, e2, _, u2⟩ := DataW.trod_int Try.underlying3 hy2
  obtain rfl : v2 = _ := by simpa using e2
  obtain ⟨a3, e3, _, u3⟩ := DataW.trod_int Try.underlying3 hy3
  obtain rfl : v3 = _ := by simpa using e3
  obtain ⟨a4, e4, _, u4⟩ := DataW.trod_int Try.underlying3 hy4
  obtain rfl : v4 = _ := by simpa using e4
  obtain ⟨a5, e5, _, u5⟩ := DataW.trod_int Try.underlying3 hy5
  obtain rfl : v5 = _ := by simpa using e5
  obtain ⟨a6, e6, _, u6⟩ := DataW.trod_int Try.underlying3 hy6
  obtain rfl : v6 = _ := by simpa using e6
  obtain ⟨a7, e7, _, u7⟩ := DataW.trod_int Try.underlying3 hy7
  obtain rfl : v7 = _ := by simpa using e7
  obtain ⟨a8, e8, _, u8⟩ := DataW.trod_int Try.underlying3 hy8
  obtain rfl : v8 = _ := by simpa using e8
  obtain ⟨a9, e9, _, u9⟩ := DataW.trod_int Try.underlying3 hy9
  obtain rfl : v9 = _ := by simpa using e9
  obtain ⟨a10, e10, _, u10⟩ := DataW.trod_int Try.underlying3 hy10
  obtain rfl : v10 = _ := by simpa using e10
  obtain ⟨a11, e11, _, u11⟩ := DataW.trod_int Try.underlying3 hy11
  obtain rfl : v11 = _ := by simpa using e11
  have in13 : ∀ p ∈ y13.2, p.block < W.heap.size := fun p h => lt p (by rw [hp]; simp only [List.mem_append, h, true_or, or_true])
  have in14 : ∀ p ∈ y14.2, p.block < W.heap.size := fun p h => lt p (by rw [hp]; simp only [List.mem_append, h, true_or, or_true])
  obtain ⟨A12, n12, q12, rfl⟩ : ∃ A n c, v12 = .slice A n c := by
    rcases open_slice Try.underlying40 hy12 with ⟨hcs, _⟩ | ⟨x, l, c, m, n, D, Pl, hcs, _⟩
    · exact ⟨none, 0, 0, by simpa using hcs⟩
    · exact ⟨some x, l, c, by simpa using hcs⟩
  obtain ⟨A15, n15, q15, rfl⟩ : ∃ A n c, v15 = .slice A n c := by
    rcases open_slice Try.underlying42 hy15 with ⟨hcs, _⟩ | ⟨x, l, c, m, n, D, Pl, hcs, _⟩
    · exact ⟨none, 0, 0, by simpa using hcs⟩
    · exact ⟨some x, l, c, by simpa using hcs⟩
  obtain ⟨A16, n16, q16, rfl⟩ : ∃ A n c, v16 = .slice A n c := by
    rcases open_slice Try.underlying42 hy16 with ⟨hcs, _⟩ | ⟨x, l, c, m, n, D, Pl, hcs, _⟩
    · exact ⟨none, 0, 0, by simpa using hcs⟩
    · exact ⟨some x, l, c, by simpa using hcs⟩
  obtain ⟨A17, n17, q17, rfl⟩ : ∃ A n c, v17 = .slice A n c := by
    rcases open_slice Try.underlying43 hy17 with ⟨hcs, _⟩ | ⟨x, l, c, m, n, D, Pl, hcs, _⟩
    · exact ⟨none, 0, 0, by simpa using hcs⟩
    · exact ⟨some x, l, c, by simpa using hcs⟩
  obtain ⟨TA, tn, tc, ts, rfl, hT⟩ : ∃ A n c, ∃ ts : List Int, v13 = .slice A n c ∧ RdP W (· < W.heap.size) 1 A n (ts.map (Value.int .i64)) := by
    rcases open_ints Try.underlying31 Try.underlying3 (by kernel_rfl) hy13 with ⟨hcs, _⟩ | ⟨x, l, c, zs, hcs, _, hl, hm, hz, hpl, hcell, hwz⟩
    · exact ⟨none, 0, 0, [], by simpa using hcs, ⟨rfl, fun h => absurd h (by omega)⟩⟩
    · have hz' : zs.length = c := by simpa using hz
      refine ⟨some x, l, c, zs.take l, by simpa using hcs, ⟨by simp; omega, fun hn => ⟨x, rfl, ?_, fun j u hu => ?_⟩⟩⟩
      · refine in13 (.cell x.block x.off) ?_
        have hpl2 : y13.2 = MemPlace.row x zs.length := by rw [hpl]
        rw [hpl2]
        exact MemPlace.mem_row.2 ⟨0, by first | omega | (simp; omega), by first | done | simp⟩
      · simp only [List.getElem?_map, List.getElem?_take, Option.map_eq_some_iff] at hu
        obtain ⟨v, hv, rfl⟩ := hu
        split at hv
        · rename_i hj
          have hjz : j < zs.length := by omega
          rw [hcell j hjz]
          rw [List.getElem?_eq_getElem hjz] at hv
          injection hv with hv
          rw [← hv]
          simp [List.getD_eq_getElem?_getD, hjz]
        · cases hv
  obtain ⟨IA, ic, ns, rfl, hI⟩ : ∃ A c, ∃ ns : List Int, v14 = .slice A ns.length c ∧ ItsP W (· < W.heap.size) A ns := by
    rcases open_slice_pairs Try.underlying41 Try.underlying73 (by kernel_rfl) rfl rfl (by kernel_rfl) (by kernel_rfl) hy14 with ⟨hcs, _⟩ | ⟨x, l, c, m, n, V0, V1, D0, D1, P0, P1, hcs, _, hl, _, hmm, hx, hall⟩
    · exact ⟨none, 0, [], by simpa using hcs, fun h => absurd h (by simp)⟩
    · have hm : m = c := by simpa using hmm
      obtain ⟨Q, hQ⟩ := choose_lt (α := Int) (n := l) (p := fun i q => V0 i = .int .i64 q) (fun i hi => by
        obtain ⟨s, hs, _, us⟩ := DataW.trod_int Try.underlying3 (hall i (by omega)).2.2.1
        exact ⟨s, by simpa using hs⟩)
      have hlr : ((List.range l).map Q).length = l := by simp
      refine ⟨some x, c, (List.range l).map Q, by rw [hlr]; simpa using hcs, fun hn => ⟨x, rfl, ?_, fun k hk => ?_⟩⟩
      · refine in14 (.cell x.block x.off) ?_
        have hpl : y14.2 = MemPlace.row x (m * 2) ++ (List.range m).flatMap fun i => P0 i ++ P1 i := by rw [hx]
        rw [hpl]
        exact List.mem_append_left _ (MemPlace.mem_row.2 ⟨0, by omega, by simp⟩)
      · rw [hlr] at hk
        have hk2 : k < m := by omega
        refine ⟨V1 k, ?_, ?_, (hall k hk2).2.1⟩
        · rcases open_ints Try.underlying40 Try.underlying5 (by kernel_rfl) (hall k hk2).2.2.2 with ⟨hcs2, _⟩ | ⟨x2, l2, c2, zs2, hcs2, _⟩
          · rw [show V1 k = .slice none 0 0 by simpa using hcs2]; rfl
          · rw [show V1 k = .slice (some x2) l2 c2 by simpa using hcs2]; rfl
        · rw [(hall k hk2).1, hQ k hk]
          simp [List.getD_eq_getElem?_getD, hk]
  refine ⟨⟨a0, a1, a8, ts, ns⟩, ⟨_, _, _, _, _, _, _, _, _, _, TA, tn, tc, IA, ic, _, _, _, rfl, ?_, hT, hI⟩, (bounds_i64 u8).2⟩
  intro u hu
  simp only [List.mem_cons, List.not_mem_nil, or_false] at hu
  rcases hu with rfl | rfl | rfl | rfl | rfl | rfl | rfl | rfl | rfl | rfl | rfl | rfl | rfl | rfl | rfl | rfl | rfl | rfl <;> rfl
theorem wbs_of {W : World} {φ : Nat → Prop} {x : Addr} (Q : Nat → WB) (C : Nat → List Value) : ∀ n, (∀ i, i < n → WBAt W φ (Q i) (C i)) → ∃ xs, WBsAt W φ ((List.range n).map Q) xs ∧ (∀ i k u, i < n → (C i)[k]? = some u → xs[i * 18 + k]? = some u) ∧ ∀ j u, xs[j]? = some u → ∃ i k, i < n ∧ (C i)[k]? = some u ∧ j = i * 18 + k
  | 0, _ => ⟨[], rfl, fun i k u h => absurd h (by omega), fun j u h => by simp at h⟩
  | n + 1, h => by
    obtain ⟨xs, h1, h2, h3⟩ := wbs_of (x := x) Q C n (fun i hi => h i (by omega))
    have hl := WBsAt.len h1
    simp at hl
    have hC := (h n (by omega)).len
    refine ⟨xs ++ C n, ?_, fun i k u hi hk => ?_, fun j u hu => ?_⟩
    · rw [List.range_succ, List.map_append]
      exact WBsAt.app h1 ⟨C n, [], by simp, h n (by omega), rfl⟩
    · by_cases hin : i < n
      · have := h2 i k u hin hk
        rw [List.getElem?_append_left]
        · exact this
        · rcases Nat.lt_or_ge (i * 18 + k) xs.length with h9 | h9
          · exact h9
          · rw [List.getElem?_eq_none h9] at this; cases this
      · obtain rfl : i = n := by omega
        rw [List.getElem?_append_right (by omega), hl, show i * 18 + k - i * 18 = k by omega]
        exact hk
    · by_cases hj : j < xs.length
      · rw [List.getElem?_append_left hj] at hu
        obtain ⟨i, k, hi, hk, e⟩ := h3 j u hu
        exact ⟨i, k, by omega, hk, e⟩
      · rw [List.getElem?_append_right (by omega)] at hu
        exact ⟨n, j - xs.length, by omega, hu, by omega⟩
theorem open_blocks {H : Type} {enc : TypeId × Value → H} {W : World} {fuel : Nat} {A : Option Addr} {len cap : Nat} {x : DataW H × List MemPlace} (hf : DataW.trod enc Try.prog W 0 (fun _ => true) true fuel 22 [.slice A len cap] = some x) (lt : ∀ p ∈ x.2, p.block < W.heap.size) :
    ∃ bs : List WB, BlksR W (· < W.heap.size) A len bs ∧ ∀ i, i < bs.length → (bs.getD i default).ct ≤ 9223372036854775807 := by
  rcases open_slice Try.underlying22 hf with ⟨hcs, _⟩ | ⟨a, l, c, m, n, D, Pl, hcs, _, hl, _, hmm, hx, hall⟩
  · simp at hcs
    obtain ⟨rfl, rfl, rfl⟩ := hcs
    exact ⟨[], ⟨[], ⟨rfl, fun h => absurd h (by omega)⟩, rfl⟩, fun i hi => absurd hi (by simp)⟩
  · simp at hcs
    obtain ⟨rfl, rfl, rfl⟩ := hcs
    have hm : m = cap := by simpa using hmm
    have ce : Try.prog.cellsOf 45 = 18 := by kernel_rfl
    rw [ce] at hall
    have each : ∀ i, i < len → ∃ q : WB × List Value, WBAt W (· < W.heap.size) q.1 q.2 ∧ q.1.ct ≤ 9223372036854775807 ∧ ∀ j u, q.2[j]? = some u → W.cell? ((a.add (i * 18)).add j) = some u := by
      intro i hi
      obtain ⟨cs', h1, h2⟩ := hall i (by omega)
      obtain ⟨_, hlen, hcell⟩ := World.cells?_some h1
      obtain ⟨d, h3, h4⟩ := wb_of hlen h2 (fun p hp => lt p (by rw [hx]; exact List.mem_append_right _ (List.mem_flatMap.2 ⟨i, List.mem_range.2 (by omega), hp⟩)))
      refine ⟨(d, cs'), h3, h4, fun j u hu => ?_⟩
      have hj : j < 18 := by
        rcases Nat.lt_or_ge j cs'.length with h9 | h9
        · omega
        · rw [List.getElem?_eq_none h9] at hu; cases hu
      rw [hcell j hj]
      exact hu
    haveI : Inhabited (WB × List Value) := ⟨(default, [])⟩
    obtain ⟨q, hq⟩ := choose_lt each
    obtain ⟨xs, h1, h2, h3⟩ := wbs_of (x := a) (fun i => (q i).1) (fun i => (q i).2) len (fun i hi => (hq i hi).1)
    have hl2 := WBsAt.len h1
    simp at hl2
    refine ⟨_, ⟨xs, ⟨hl2, fun hn => ⟨a, rfl, ?_, fun j u hu => ?_⟩⟩, h1⟩, fun i hi => ?_⟩
    · refine lt (.cell a.block a.off) ?_
      rw [hx]
      exact List.mem_append_left _ (MemPlace.mem_row.2 ⟨0, by rw [ce]; omega, by simp⟩)
    · obtain ⟨i, k, hi, hk, rfl⟩ := h3 j u hu
      have := (hq i hi).2.2 k u hk
      rw [add_of_add] at this
      exact this
    · simp at hi
      simp only [List.getD_eq_getElem?_getD, List.getElem?_map, List.getElem?_range hi, Option.map_some, Option.getD_some]
      exact (hq i hi).2.1
theorem bools_of {H : Type} {enc : TypeId × Value → H} {W : World} {fuel : Nat} {A : Option Addr} {len cap : Nat} {x : DataW H × List MemPlace} (hf : DataW.trod enc Try.prog W 0 (fun _ => true) true fuel 23 [.slice A len cap] = some x) (lt : ∀ p ∈ x.2, p.block < W.heap.size) :
    ∃ hs : List Bool, Reads W W.heap.size 1 A len (hs.map Value.bool) := by
  rcases open_bools Try.underlying23 Try.underlying4 (by kernel_rfl) hf with ⟨hcs, _⟩ | ⟨a, l, c, B, hcs, _, hl, _, hx, hcell⟩
  · simp at hcs
    obtain ⟨rfl, rfl, rfl⟩ := hcs
    exact ⟨[], Reads.none_⟩
  · simp at hcs
    obtain ⟨rfl, rfl, rfl⟩ := hcs
    refine ⟨(List.range len).map B, by simp, fun hn => ⟨a, rfl, ?_, fun j u hu => ?_⟩⟩
    · refine lt (.cell a.block a.off) ?_
      rw [hx]
      exact MemPlace.mem_row.2 ⟨0, by omega, by simp⟩
    · simp only [List.getElem?_map, Option.map_eq_some_iff] at hu
      obtain ⟨b, ⟨i, hi, rfl⟩, rfl⟩ := hu
      have hjl : j < len := by
        rcases Nat.lt_or_ge j len with h9 | h9
        · exact h9
        · rw [List.getElem?_eq_none (by simpa using h9)] at hi; cases hi
      rw [List.getElem?_range hjl] at hi
      injection hi with hi
      subst hi
      exact hcell j (by omega)
end Go.Proofs.Ytnmapncgnceldaa
