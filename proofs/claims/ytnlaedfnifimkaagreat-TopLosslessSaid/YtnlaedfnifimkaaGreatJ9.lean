/- Part 9 of the proof: lemmas on what the program computes; no condition. -/
import Derived.BigRegion
import Derived.Deep.CutRange
import Derived.WalkKit
import Derived.Lib.EndianBits
import Derived.Test.YtnlaedfnifimkaaGreatProg
import Derived.StillTailTactics
import Derived.Deep.RegionHeld3
import Derived.Deep.WholeRow
import Derived.Laws.CopyOwn
import Derived.Test.YtnlaedfnifimkaaGreatJ8
import Derived.Test.YtnlaedfnifimkaaGreatJ1
set_option linter.unusedVariables false
set_option linter.unusedSimpArgs false
set_option linter.unusedSectionVars false
namespace Go.Proofs.YtnlaedfnifimkaaGreat
open Go.RowKit
namespace Ck
section
variable {T : Int} {L G J : Nat} {S : St} {j : Nat} {w : World}
theorem cpu_at (hC : CfgOk Tryz.prog (mkE T L G J) cfg) {g o n : Nat} (hI : Inv (mkE T L G J) S j w) (hg : S g = some (0, n)) (ho : o < n) (h0 : o % 50 = 0) (i : Nat) {t : Bt} (hi : i < 50) (ht : segAt (cfg.segs 0) i = some t) :
    w.cell? ⟨g, o + i, none⟩ = some ((w.cell? ⟨g, o + i, none⟩).getD undef) ∧ VB (mkE T L G J) S j #[] t ((w.cell? ⟨g, o + i, none⟩).getD undef) := by
  obtain ⟨_, hn, _⟩ := hI g 0 n hg
  have hn : n % 50 = 0 := hn
  obtain ⟨t', v, h1, h2, h3, h4⟩ := hI.cell hg (o := o + i) (lt_of_mod ho hn (by omega))
  have h2' := cellT_of hC h2
  have e : (o + i) % (mkE T L G J).per 0 = i := by show (o + i) % 50 = i; omega
  rw [e, ht] at h2'
  cases h2'
  rw [h1]
  exact ⟨rfl, h4⟩
theorem cpu_int (hC : CfgOk Tryz.prog (mkE T L G J) cfg) {g o n : Nat} (hI : Inv (mkE T L G J) S j w) (hg : S g = some (0, n)) (ho : o < n) (h0 : o % 50 = 0) (i : Nat) {k : IntKind} {lo hi : Int} (hi' : i < 50) (ht : segAt (cfg.segs 0) i = some (.int k lo hi)) :
    ∃ x, w.cell? ⟨g, o + i, none⟩ = some (.int k x) ∧ lo ≤ x ∧ x ≤ hi := by
  obtain ⟨h1, x, h2, h3, h4⟩ := cpu_at hC hI hg ho h0 i hi' ht
  exact ⟨x, by rw [h1, h2], h3, h4⟩
theorem cpu_bool (hC : CfgOk Tryz.prog (mkE T L G J) cfg) {g o n : Nat} (hI : Inv (mkE T L G J) S j w) (hg : S g = some (0, n)) (ho : o < n) (h0 : o % 50 = 0) (i : Nat) {q : Option Bool} (hi' : i < 50) (ht : segAt (cfg.segs 0) i = some (.bool q)) :
    ∃ x, w.cell? ⟨g, o + i, none⟩ = some (.bool x) := by
  obtain ⟨h1, x, h2, _⟩ := cpu_at hC hI hg ho h0 i hi' ht
  exact ⟨x, by rw [h1, h2]⟩
theorem cpu_steps (hC : CfgOk Tryz.prog (mkE T L G J) cfg) {g o n : Nat} (hI : Inv (mkE T L G J) S j w) (hg : S g = some (0, n)) (ho : o < n) (h0 : o % 50 = 0) :
    ∃ A len cap, w.cell? ⟨g, o + 30, none⟩ = some (.slice A len cap) ∧ VB (mkE T L G J) S j #[] (.slice 2 (some 0) none) (.slice A len cap) ∧ len ≤ cap ∧ len ≤ G + j := by
  obtain ⟨h1, A, len, cap, h2, h3⟩ := cpu_at hC hI hg ho h0 30 (t := .slice 2 (some 0) none) (by decide) (by decide)
  obtain ⟨k1, k2, k3, k4, k5, k6⟩ := h3
  exact ⟨A, len, cap, by rw [h1, h2], ⟨A, len, cap, rfl, k1, k2, k3, k4, k5, k6⟩, k1, k5 rfl⟩
theorem cpu_put (hC : CfgOk Tryz.prog (mkE T L G J) cfg) {g o n : Nat} (hI : Inv (mkE T L G J) S j w) (hg : S g = some (0, n)) (ho : o < n) (h0 : o % 50 = 0) (i : Nat) {t : Bt} {u : Value} (hi : i < 50) (ht : segAt (cfg.segs 0) i = some t) (hf : t.free = true) (hu : VB (mkE T L G J) S j #[] t u) {tc : List (Kd × Nat)} (htc : (0, i) ∈ cfg.watch → (0, i) ∈ tc) :
    Inv (mkE T L G J) S j (w.setCell ⟨g, o + i, none⟩ u) ∧ Stp (mkE T L G J) S S w (w.setCell ⟨g, o + i, none⟩ u) tc := by
  obtain ⟨_, hn, _⟩ := hI g 0 n hg
  have hn : n % 50 = 0 := hn
  have e : (o + i) % (mkE T L G J).per 0 = i := by show (o + i) % 50 = i; omega
  exact ⟨hI.set hg (lt_of_mod ho hn (by omega)) (by rw [e]; exact cellT_eq hC 0 i ht) hf hu, Stp.set u hg (by rw [e]; exact htc)⟩
theorem cpu_kept {S' : St} {w' : World} {tc : List (Kd × Nat)} {g o n : Nat} (h : Stp (mkE T L G J) S S' w w' tc) (hg : S g = some (0, n)) (h0 : o % 50 = 0) (i : Nat) (hi : i < 50) (hw : (0, i) ∈ cfg.watch) (ht : (0, i) ∉ tc) : w'.cell? ⟨g, o + i, none⟩ = w.cell? ⟨g, o + i, none⟩ := by
  have e : (o + i) % (mkE T L G J).per 0 = i := by show (o + i) % 50 = i; omega
  exact h.keep g 0 n (o + i) hg (by rw [e]; exact hw) (by rw [e]; exact ht)
end
theorem args2 {E : Env} {S : St} {j : Nat} {a b : Ty} {x y : Value} (h1 : VT E S j #[] a x) (h2 : VT E S j #[] b y) : ArgsOk E S j [a, b] [x, y] := ⟨rfl, fun i ty v e1 e2 => by
  match i with
  | 0 => simp at e1 e2; subst e1 e2; exact h1
  | 1 => simp at e1 e2; subst e1 e2; exact h2
  | i + 2 => simp at e1⟩
theorem args4 {E : Env} {S : St} {j : Nat} {a b c d : Ty} {x y z u : Value} (h1 : VT E S j #[] a x) (h2 : VT E S j #[] b y) (h3 : VT E S j #[] c z) (h4 : VT E S j #[] d u) : ArgsOk E S j [a, b, c, d] [x, y, z, u] := ⟨rfl, fun i ty v e1 e2 => by
  match i with
  | 0 => simp at e1 e2; subst e1 e2; exact h1
  | 1 => simp at e1 e2; subst e1 e2; exact h2
  | 2 => simp at e1 e2; subst e1 e2; exact h3
  | 3 => simp at e1 e2; subst e1 e2; exact h4
  | i + 4 => simp at e1⟩
theorem vi {E : Env} {S : St} {j : Nat} {k : IntKind} {lo hi x : Int} (h0 : lo ≤ x) (h1 : x ≤ hi) : VT E S j #[] (.one (.int k lo hi)) (.int k x) := ⟨x, rfl, h0, h1⟩
theorem vc {T : Int} {L G J : Nat} {S : St} {j g o n : Nat} (hg : S g = some (0, n)) (ho : o < n) (h0 : o % 50 = 0) : VT (mkE T L G J) S j #[] TC (.pointer (some ⟨g, o, none⟩)) := .inr ⟨g, o, n, rfl, hg, ho, Nat.zero_le _, by show o % 50 ≤ 0; omega⟩
set_option maxRecDepth 100000 in
set_option maxHeartbeats 4000000 in
theorem next_sig {T : Int} {L G J : Nat} (h0 : 0 ≤ T) (hG : 1000 ≤ G) (hJ : G + J ≤ 1000000000) : SigOk Tryz.prog (mkE T L G J) 134 ⟨[TC], .tup [], 200, [(0, 30), (0, 31), (0, 35)]⟩ := by
  have hC := cfg_ok (L := L) h0 hG hJ
  have hstart : SigOk Tryz.prog (mkE T L G J) 131 ⟨[TC, TI64, TU16, TI64], .tup [], 0, []⟩ := tab1_ok h0 hG hJ _ _ (assoc_mem (by kernel_rfl))
  have hprog : SigOk Tryz.prog (mkE T L G J) 159 ⟨[TC, TI64, TI64, TU8], .tup [], 48, [(0, 31), (0, 30)]⟩ := tab1_ok h0 hG hJ _ _ (assoc_mem (by kernel_rfl))
  have hwork : SigOk Tryz.prog (mkE T L G J) 160 ⟨[TC, TI64], .tup [], 0, []⟩ := tab1_ok h0 hG hJ _ _ (assoc_mem (by kernel_rfl))
  have hmet : SigOk Tryz.prog (mkE T L G J) 161 ⟨[TC, TI64], TB, 0, []⟩ := tab1_ok h0 hG hJ _ _ (assoc_mem (by kernel_rfl))
  have hcyc : SigOk Tryz.prog (mkE T L G J) 162 ⟨[TC, .agg [I64, I64, I64, I64]], .tup [], 0, []⟩ := tab1_ok h0 hG hJ _ _ (assoc_mem (by kernel_rfl))
  refine ⟨⟨Tryz.f134, _, Tryz.func134, by kernel_rfl, rfl⟩, rfl, fun S j w args hI hj ha => ?_⟩
  have hj1 : j + 200 ≤ J := hj
  obtain ⟨hl, hv⟩ := ha
  obtain ⟨v, rfl⟩ : ∃ v, args = [v] := by
    match args, hl with
    | [v], _ => exact ⟨v, rfl⟩
  obtain ⟨e, _⟩ | ⟨g, o, n, rfl, hg, ho, _, ho'⟩ := hv 0 _ v rfl rfl
  · cases e
  have ho0 : o % 50 = 0 := Nat.le_zero.1 ho'
  clear hv hl ho'
  obtain ⟨s2, c34, _, _⟩ := cpu_int hC hI hg ho ho0 34 (by decide) rfl
  have TT : ∀ {S' : St} {j' : Nat}, VT (mkE T L G J) S' j' #[] (.tup []) (.tuple #[]) := ⟨#[], rfl, rfl, fun i b v hb => by simp at hb⟩
  go_enter Tryz.func134, Tryz.ntmps134
  by_cases hs : 0 < s2
  · obtain ⟨pc, c22, p0, p1⟩ := cpu_int hC hI hg ho ho0 22 (by decide) rfl
    go_wp2_with fail
    refine Calls.mono (hstart.2.2 S j _ [.pointer (some ⟨g, o, none⟩), .int .i64 0, .int .u16 pc, .int .i64 4] hI (by simp at hj ⊢; omega) (args4 (vc hg ho ho0) (vi (by omega) (by omega)) (vi p0 p1) (vi (by omega) (by omega)))) ?_
    rintro e w' ⟨v, rfl, S', j', k1, k2, k3, k4, k5⟩
    go_wp2
    first | go_end0 | ((try simp only [Exit.inBlock, Exit.then]); refine bodyPost_ret (v := .tuple #[]) (results_none rfl _ _ _) rfl ?_)
    exact ⟨_, rfl, S', j', k1.more (fun x hx => by cases hx), k2, by simp at k3 ⊢; omega, k4, TT⟩
  · obtain ⟨x0, c31, x1, _⟩ := cpu_int hC hI hg ho ho0 31 (by decide) rfl
    obtain ⟨A0, len0, cap0, c30, v30, lc0, lg0⟩ := cpu_steps hC hI hg ho ho0
    obtain ⟨ah0, c35⟩ := cpu_bool hC hI hg ho ho0 35 (by decide) rfl
    go_wp2_with fail
    go_loopg [] ((if ah0 then 2000000001 else 0) + ((len0 : Int) - x0).toNat) (fun k wr => ∃ (S1 : St) (j1 : Nat) (x : Int) (A : Option Addr) (len cap : Nat) (ah : Bool), Stp (mkE T L G J) S S1 w wr [(0, 30), (0, 31), (0, 35)] ∧ j ≤ j1 ∧ Inv (mkE T L G J) S1 j1 wr ∧ wr.cell? ⟨g, o + 31, none⟩ = some (.int .i64 x) ∧ 0 ≤ x ∧ wr.cell? ⟨g, o + 30, none⟩ = some (.slice A len cap) ∧
      wr.cell? ⟨g, o + 35, none⟩ = some (.bool ah) ∧ j1 + (if ah then 48 else 0) ≤ j + 48 ∧ k = (if ah then 2000000001 else 0) + ((len : Int) - x).toNat)
    case atStart => exact ⟨S, j, x0, A0, len0, cap0, ah0, Stp.refl _ _ _ _, Nat.le_refl _, hI, c31, x1, c30, c35, by split <;> omega, rfl⟩
    case round =>
      clear c31 c30 c35 v30 lc0 lg0 c34 x1
      obtain ⟨S1, j1, x, A, len, cap, ah, st, jj, hI1, c31, x1, c30, c35, hb, hk⟩ := hrel
      have hg1 := st.ext g _ hg
      have hb' : j1 ≤ j + 200 := by omega
      by_cases hx : (len : Int) ≤ x
      · go_wp2_with fail
        go_quiet (fail)
        cases ah with
        | false =>
          obtain ⟨q, c18, _, _⟩ := cpu_int hC hI1 hg1 ho ho0 18 (by decide) rfl
          obtain ⟨ff, c1, f0, f1⟩ := cpu_int hC hI1 hg1 ho ho0 1 (by decide) rfl
          obtain ⟨wt, c40⟩ := cpu_bool hC hI1 hg1 ho ho0 40 (by decide) rfl
          obtain ⟨kd, c42, _, _⟩ := cpu_int hC hI1 hg1 ho ho0 42 (by decide) rfl
          have z18 : wr.frozen? ⟨g, o + 18, none⟩ = false := hI1.fz hg1
          have z42 : wr.frozen? ⟨g, o + 42, none⟩ = false := hI1.fz hg1
          have fin : ∀ (wx : World) (u : Int), Inv (mkE T L G J) S1 j1 wx → Stp (mkE T L G J) S S1 w wx [(0, 30), (0, 31), (0, 35)] → 0 ≤ u → u ≤ 255 → Inv (mkE T L G J) S1 j1 (wx.setCell ⟨g, o + 18, none⟩ (.int .u8 u)) ∧ Stp (mkE T L G J) S S1 w (wx.setCell ⟨g, o + 18, none⟩ (.int .u8 u)) [(0, 30), (0, 31), (0, 35)] := fun wx u hi hs u0 u1 => by
            obtain ⟨a1, a2⟩ := cpu_put hC hi hg1 ho ho0 18 (by decide) rfl rfl ⟨u, rfl, u0, u1⟩ (tc := [(0, 30), (0, 31), (0, 35)]) (fun h => h)
            exact ⟨a1, hs.trans a2⟩
          have fin2 : ∀ (wx : World), Inv (mkE T L G J) S1 j1 wx → Stp (mkE T L G J) S S1 w wx [(0, 30), (0, 31), (0, 35)] → Inv (mkE T L G J) S1 j1 (wx.setCell ⟨g, o + 42, none⟩ (.int .i64 (-1))) ∧ Stp (mkE T L G J) S S1 w (wx.setCell ⟨g, o + 42, none⟩ (.int .i64 (-1))) [(0, 30), (0, 31), (0, 35)] := fun wx hi hs => by
            obtain ⟨a1, a2⟩ := cpu_put hC hi hg1 ho ho0 42 (by decide) rfl rfl ⟨-1, rfl, by decide, by decide⟩ (tc := [(0, 30), (0, 31), (0, 35)]) (fun h => h)
            exact ⟨a1, hs.trans a2⟩
          cases wt with
          | false =>
            go_wp2_with fail
            first | go_end0 | ((try simp only [Exit.inBlock, Exit.then]); refine bodyPost_ret (v := .tuple #[]) (results_none rfl _ _ _) rfl ?_)
            obtain ⟨a1, a2⟩ := fin (wr.drewN nq) 0 hI1 (st.drew _) (by omega) (by omega)
            obtain ⟨b1, b2⟩ := fin2 _ a1 a2
            exact ⟨_, rfl, S1, j1, b2, jj, hb', b1, TT⟩
          | true =>
            go_wp2_with fail
            first | go_end0 | ((try simp only [Exit.inBlock, Exit.then]); refine bodyPost_ret (v := .tuple #[]) (results_none rfl _ _ _) rfl ?_)
            obtain ⟨a1, a2⟩ := fin (wr.drewN nq) 0 hI1 (st.drew _) (by omega) (by omega)
            obtain ⟨d1, d2⟩ := fin _ ff a1 a2 f0 f1
            obtain ⟨b1, b2⟩ := fin2 _ d1 d2
            exact ⟨_, rfl, S1, j1, b2, jj, hb', b1, TT⟩
        | true =>
          have z35 : wr.frozen? ⟨g, o + 35, none⟩ = false := hI1.fz hg1
          obtain ⟨a1, a2⟩ := cpu_put hC (w := wr.drewN nq) hI1 hg1 ho ho0 35 (u := .bool false) (by decide) rfl rfl ⟨false, rfl, fun c hc => by cases hc⟩ (tc := [(0, 30), (0, 31), (0, 35)]) (fun h => h)
          have a3 := (st.drew (wr.drewN nq).drawn).trans a2
          have a4 : ((wr.drewN nq).setCell ⟨g, o + 35, none⟩ (.bool false)).cell? ⟨g, o + 35, none⟩ = some (.bool false) := World.cell?_setCell_same' _ _ _ (by show (wr.cell? ⟨g, o + 35, none⟩).isSome = true; rw [c35]; rfl)
          go_wp2_with fail
          generalize (wr.drewN nq).setCell ⟨g, o + 35, none⟩ (.bool false) = wz at a1 a3 a4 ⊢
          obtain ⟨ix, c33, i0, i1⟩ := cpu_int hC a1 hg1 ho ho0 33 (by decide) rfl
          obtain ⟨hh, c37, g0, g1⟩ := cpu_int hC a1 hg1 ho ho0 37 (by decide) rfl
          refine wp_region_still_tail 9 (by kernel_rfl) (by kernel_rfl) ?_
          simp only [List.take_succ_cons, List.take_zero, List.drop_succ_cons, List.drop_zero]
          repeat still_step
          refine wpStill_nil ?_
          go_wp2_with fail
          have hJ' : j1 + 48 ≤ J := by have hj : j + 200 ≤ J := hj; simp at hb; omega
          refine Calls.mono (hprog.2.2 S1 j1 _ [.pointer (some ⟨g, o, none⟩), .int .i64 3, .int .i64 ix, .int .u8 hh] a1 hJ' (args4 (vc hg1 ho ho0) (vi (by omega) (by omega)) (vi i0 i1) (vi g0 g1))) ?_
          rintro e w' ⟨v, rfl, S', j', k1, k2, k3, k4, k5⟩
          have k3' : j' ≤ j1 + 48 := k3
          go_wp2_with fail
          have hg2 := k1.ext g _ hg1
          obtain ⟨x', d31, y1, _⟩ := cpu_int hC k4 hg2 ho ho0 31 (by decide) rfl
          obtain ⟨A', len', cap', d30, _, _, lg'⟩ := cpu_steps hC k4 hg2 ho ho0
          have d35 : w'.cell? ⟨g, o + 35, none⟩ = some (.bool false) := (k1.keep g 0 n (o + 35) hg1 (by rw [show (o + 35) % (mkE T L G J).per 0 = 35 by show (o + 35) % 50 = 35; omega]; exact List.mem_cons_of_mem _ (List.mem_cons_of_mem _ List.mem_cons_self)) (by rw [show (o + 35) % (mkE T L G J).per 0 = 35 by show (o + 35) % 50 = 35; omega]; decide)).trans a4
          go_roundg (((len' : Int) - x').toNat)
          case measure => rw [hk]; simp; omega
          case rel => exact ⟨S', j', x', A', len', cap', false, (a3.drew _).trans (k1.more (by decide)), by omega, k4, d31, y1, d30, d35, by simp at hb ⊢; omega, by simp⟩
      · obtain ⟨A', len', cap', c30', v30, lc, lg⟩ := cpu_steps hC hI1 hg1 ho ho0
        rw [c30] at c30'
        obtain ⟨rfl, rfl, rfl⟩ : A = A' ∧ len = len' ∧ cap = cap' := by simpa using c30'
        clear c30'
        obtain ⟨xn, rfl⟩ : ∃ k : Nat, x = k := ⟨x.toNat, by omega⟩
        have hxl : xn < len := by omega
        obtain ⟨b2, o2, n2, rfl, hg2, ho2, hn2⟩ : ∃ b o n, A = some ⟨b, o, none⟩ ∧ S1 b = some (2, n) ∧ o % 4 = 0 ∧ o + cap * 4 ≤ n := by
          obtain ⟨_, _, _, e, _, _, _, _, _, h⟩ := v30
          cases e
          rcases h with ⟨_, h⟩ | ⟨b, o, n, h1, h2, h3, h4⟩
          · omega
          · exact ⟨b, o, n, h1, h2, h3, h4⟩
        clear v30
        have cl : ∀ i, i < 4 → ∃ v, wr.cell? ⟨b2, o2 + xn * 4 + i, none⟩ = some (.int .i64 v) ∧ -9223372036854775808 ≤ v ∧ v ≤ 9223372036854775807 := fun i hi => by
          obtain ⟨t, v, h1, h2, h3, h4⟩ := hI1.cell hg2 (o := o2 + xn * 4 + i) (by omega)
          have h2' := cellT_of hC h2
          have e : (o2 + xn * 4 + i) % (mkE T L G J).per 2 = i := by show (o2 + xn * 4 + i) % 4 = i; omega
          rw [e] at h2'
          have : t = I64 := by
            have h5 : segAt (cfg.segs 2) i = some I64 := by
              match i, hi with
              | 0, _ => rfl
              | 1, _ => rfl
              | 2, _ => rfl
              | 3, _ => rfl
            rw [h5] at h2'; cases h2'; rfl
          subst this
          obtain ⟨y, rfl, y0, y1⟩ := h4
          exact ⟨y, h1, y0, y1⟩
        obtain ⟨v0, e0, v00, v01⟩ := cl 0 (by omega)
        obtain ⟨v1, e1, v10, v11⟩ := cl 1 (by omega)
        obtain ⟨v2, e2, v20, v21⟩ := cl 2 (by omega)
        obtain ⟨v3, e3, v30, v31⟩ := cl 3 (by omega)
        rw [Nat.add_zero] at e0
        clear cl
        have lenx : (xn : Int) < (len : Int) := by omega
        have lt1 : g < wr.heap.size := hI1.lt hg1
        have lt2 : b2 < wr.heap.size := hI1.lt hg2
        have z31 : wr.frozen? ⟨g, o + 31, none⟩ = false := hI1.fz hg1
        go_wp2_with fail
        go_quiet (fail)
        go_wp2_with fail
        refine wp_region_held_drew (S := fun w' => w'.cell? ⟨g, o + 30, none⟩ = some (.slice (some ⟨b2, o2, none⟩) len cap) ∧ w'.cell? ⟨g, o + 31, none⟩ = some (.int .i64 (xn : Int)) ∧ w'.cell? ⟨b2, o2 + xn * 4, none⟩ = some (.int .i64 v0) ∧ w'.cell? ⟨b2, o2 + xn * 4 + 1, none⟩ = some (.int .i64 v1) ∧ w'.cell? ⟨b2, o2 + xn * 4 + 2, none⟩ = some (.int .i64 v2) ∧ w'.cell? ⟨b2, o2 + xn * 4 + 3, none⟩ = some (.int .i64 v3)) (by kernel_rfl) ?_ (fun hHeld => ?_)
        · exact ⟨c30, c31, e0, e1, e2, e3⟩
        have LG := Lib.hid (show g < (wr.drewN nq).drew.heap.size from lt1)
        have LB := Lib.hid (show b2 < (wr.drewN nq).drew.heap.size from lt2)
        have HI := Lib.hid (show Inv (mkE T L G J) S1 j1 (wr.drewN nq).drew ∧ Stp (mkE T L G J) S S1 w (wr.drewN nq).drew [(0, 30), (0, 31), (0, 35)] from ⟨hI1, (st.drew _).drew _⟩)
        have HC := Lib.hid (show (wr.drewN nq).drew.cell? ⟨g, o + 35, none⟩ = some (.bool ah) from c35)
        have HH := Lib.hid hHeld
        clear hHeld c30 c31 c35 e0 e1 e2 e3 lt1 lt2 z31 hI1 st
        generalize (wr.drewN nq).drew = W at *
        refine wpAnyH_take (i := 0) (oi := _) (v := ?_) (by simp only [List.getElem?_toArray, List.getElem?_cons_succ, List.getElem?_cons_zero]; rfl) (by kernel_rfl) (by kernel_rfl) (by kernel_rfl) (by intro _ _ _ h; exact h) (Or.inl ⟨by rfl, ?_⟩) (by assumption) ?_
        rotate_left
        · intro w hSw
          try dsimp only at hSw
          obtain ⟨q30, q31, q0, q1, q2, q3⟩ := hSw
          go_simp
          try with_reducible rfl
        try simp only [Act.put, List.setIfInBounds_toArray, List.set_cons_zero, List.set_cons_succ]
        refine wpAnyH_take (i := 1) (oi := _) (v := ?_) (by simp only [List.getElem?_toArray, List.getElem?_cons_succ, List.getElem?_cons_zero]; rfl) (by kernel_rfl) (by kernel_rfl) (by kernel_rfl) (by intro _ _ _ h; exact h) (Or.inl ⟨by rfl, ?_⟩) (by assumption) ?_
        rotate_left
        · intro w hSw
          try dsimp only at hSw
          obtain ⟨q30, q31, q0, q1, q2, q3⟩ := hSw
          go_simp
          try with_reducible rfl
        try simp only [Act.put, List.setIfInBounds_toArray, List.set_cons_zero, List.set_cons_succ]
        refine wpAnyH_take (i := 2) (oi := _) (v := ?_) (by simp only [List.getElem?_toArray, List.getElem?_cons_succ, List.getElem?_cons_zero]; rfl) (by kernel_rfl) (by kernel_rfl) (by kernel_rfl) (by intro _ _ _ h; exact h) (Or.inl ⟨by rfl, ?_⟩) (by assumption) ?_
        rotate_left
        · intro w hSw
          try dsimp only at hSw
          obtain ⟨q30, q31, q0, q1, q2, q3⟩ := hSw
          go_simp
          try with_reducible rfl
        try simp only [Act.put, List.setIfInBounds_toArray, List.set_cons_zero, List.set_cons_succ]
        refine wpAnyH_take (i := 3) (oi := _) (v := ?_) (by simp only [List.getElem?_toArray, List.getElem?_cons_succ, List.getElem?_cons_zero]; rfl) (by kernel_rfl) (by kernel_rfl) (by kernel_rfl) (by intro _ _ _ h; exact h) (Or.inl ⟨by rfl, ?_⟩) (by assumption) ?_
        rotate_left
        · intro w hSw
          try dsimp only at hSw
          obtain ⟨q30, q31, q0, q1, q2, q3⟩ := hSw
          go_simp
          try with_reducible rfl
        try simp only [Act.put, List.setIfInBounds_toArray, List.set_cons_zero, List.set_cons_succ]
        refine wpAnyH_take (i := 4) (oi := _) (v := ?_) (by simp only [List.getElem?_toArray, List.getElem?_cons_succ, List.getElem?_cons_zero]; rfl) (by kernel_rfl) (by kernel_rfl) (by kernel_rfl) (by intro _ _ _ h; exact h) (Or.inl ⟨by rfl, ?_⟩) (by assumption) ?_
        rotate_left
        · intro w hSw
          try dsimp only at hSw
          obtain ⟨q30, q31, q0, q1, q2, q3⟩ := hSw
          go_simp
          try with_reducible rfl
        try simp only [Act.put, List.setIfInBounds_toArray, List.set_cons_zero, List.set_cons_succ]
        refine wpAnyH_take (i := 5) (oi := _) (v := ?_) (by simp only [List.getElem?_toArray, List.getElem?_cons_succ, List.getElem?_cons_zero]; rfl) (by kernel_rfl) (by kernel_rfl) (by kernel_rfl) (by intro _ _ _ h; exact h) (Or.inl ⟨by rfl, ?_⟩) (by assumption) ?_
        rotate_left
        · intro w hSw
          try dsimp only at hSw
          obtain ⟨q30, q31, q0, q1, q2, q3⟩ := hSw
          go_simp
          try with_reducible rfl
        try simp only [Act.put, List.setIfInBounds_toArray, List.set_cons_zero, List.set_cons_succ]
        refine wpAnyH_take (i := 6) (oi := _) (v := ?_) (by simp only [List.getElem?_toArray, List.getElem?_cons_succ, List.getElem?_cons_zero]; rfl) (by kernel_rfl) (by kernel_rfl) (by kernel_rfl) (by intro _ _ _ h; exact h) (Or.inl ⟨by rfl, ?_⟩) (by assumption) ?_
        rotate_left
        · intro w hSw
          try dsimp only at hSw
          obtain ⟨q30, q31, q0, q1, q2, q3⟩ := hSw
          go_simp
          try with_reducible rfl
        try simp only [Act.put, List.setIfInBounds_toArray, List.set_cons_zero, List.set_cons_succ]
        refine wpAnyH_take (i := 7) (oi := _) (v := ?_) (by simp only [List.getElem?_toArray, List.getElem?_cons_succ, List.getElem?_cons_zero]; rfl) (by kernel_rfl) (by kernel_rfl) (by kernel_rfl) (by intro _ _ _ h; exact h) (Or.inl ⟨by rfl, ?_⟩) (by assumption) ?_
        rotate_left
        · intro w hSw
          try dsimp only at hSw
          obtain ⟨q30, q31, q0, q1, q2, q3⟩ := hSw
          go_simp
          try with_reducible rfl
        try simp only [Act.put, List.setIfInBounds_toArray, List.set_cons_zero, List.set_cons_succ]
        refine wpAnyH_take (i := 8) (oi := _) (v := ?_) (by simp only [List.getElem?_toArray, List.getElem?_cons_succ, List.getElem?_cons_zero]; rfl) (by kernel_rfl) (by kernel_rfl) (by kernel_rfl) (by intro _ _ _ h; exact h) (Or.inl ⟨by rfl, ?_⟩) (by assumption) ?_
        rotate_left
        · intro w hSw
          try dsimp only at hSw
          obtain ⟨q30, q31, q0, q1, q2, q3⟩ := hSw
          go_simp
          try with_reducible rfl
        try simp only [Act.put, List.setIfInBounds_toArray, List.set_cons_zero, List.set_cons_succ]
        refine wpAnyH_take (i := 9) (oi := _) (v := ?_) (by simp only [List.getElem?_toArray, List.getElem?_cons_succ, List.getElem?_cons_zero]; rfl) (by kernel_rfl) (by kernel_rfl) (by kernel_rfl) (by intro _ _ _ h; exact h) (Or.inl ⟨by rfl, ?_⟩) (by assumption) ?_
        rotate_left
        · intro w hSw
          try dsimp only at hSw
          obtain ⟨q30, q31, q0, q1, q2, q3⟩ := hSw
          go_simp
          try with_reducible rfl
        try simp only [Act.put, List.setIfInBounds_toArray, List.set_cons_zero, List.set_cons_succ]
        refine wpAnyH_ready (rs := [10]) (by kernel_rfl) (by simp) ?_
        refine AllReadyH.cons (o := _) (by simp only [List.getElem?_toArray, List.getElem?_cons_succ, List.getElem?_cons_zero]; rfl) (fun K hK => ?_) AllReadyH.nil
        go_simp
        refine hK.out _ _ ?_ (fun hHeld => ?_)
        · exact ⟨(World.cell?_alloc_lt W _ _ LG.out).trans HH.out.1, (World.cell?_alloc_lt W _ _ LG.out).trans HH.out.2.1, (World.cell?_alloc_lt W _ _ LB.out).trans HH.out.2.2.1, (World.cell?_alloc_lt W _ _ LB.out).trans HH.out.2.2.2.1, (World.cell?_alloc_lt W _ _ LB.out).trans HH.out.2.2.2.2.1, (World.cell?_alloc_lt W _ _ LB.out).trans HH.out.2.2.2.2.2⟩
        clear hK K
        try simp only [Act.put, List.setIfInBounds_toArray, List.set_cons_zero, List.set_cons_succ]
        refine wpAnyH_ready (rs := [11]) (by kernel_rfl) (by simp) ?_
        refine AllReadyH.cons (o := _) (by simp only [List.getElem?_toArray, List.getElem?_cons_succ, List.getElem?_cons_zero]; rfl) (fun K hK => ?_) AllReadyH.nil
        go_simp
        refine hK.out _ _ ?_ (fun hHeld => ?_)
        · exact ⟨(World.cell?_alloc_lt W _ _ LG.out).trans HH.out.1, (World.cell?_alloc_lt W _ _ LG.out).trans HH.out.2.1, (World.cell?_alloc_lt W _ _ LB.out).trans HH.out.2.2.1, (World.cell?_alloc_lt W _ _ LB.out).trans HH.out.2.2.2.1, (World.cell?_alloc_lt W _ _ LB.out).trans HH.out.2.2.2.2.1, (World.cell?_alloc_lt W _ _ LB.out).trans HH.out.2.2.2.2.2⟩
        clear hK K
        try simp only [Act.put, List.setIfInBounds_toArray, List.set_cons_zero, List.set_cons_succ]
        refine wpAnyH_done (by kernel_rfl) ?_ _
        have hA := stp_below HI.out.1 (show Below W.heap.size W (W.alloc (.cells #[.int .i64 v0, .int .i64 v1, .int .i64 v2, .int .i64 v3] 230)) from (Below.refl _ _).alloc (Nat.le_refl _) _)
        have hI3 := hA.1
        have st3 := HI.out.2.trans (hA.2.more (tc' := [(0, 30), (0, 31), (0, 35)]) (fun x hx => by cases hx))
        have d35 : (W.alloc (.cells #[.int .i64 v0, .int .i64 v1, .int .i64 v2, .int .i64 v3] 230)).cell? ⟨g, o + 35, none⟩ = some (.bool ah) := (World.cell?_alloc_lt W _ _ LG.out).trans HC.out
        have d31 : (W.alloc (.cells #[.int .i64 v0, .int .i64 v1, .int .i64 v2, .int .i64 v3] 230)).cell? ⟨g, o + 31, none⟩ = some (.int .i64 (xn : Int)) := (World.cell?_alloc_lt W _ _ LG.out).trans HH.out.2.1
        have d30 : (W.alloc (.cells #[.int .i64 v0, .int .i64 v1, .int .i64 v2, .int .i64 v3] 230)).cell? ⟨g, o + 30, none⟩ = some (.slice (some ⟨b2, o2, none⟩) len cap) := (World.cell?_alloc_lt W _ _ LG.out).trans HH.out.1
        have hB : Blk (W.alloc (.cells #[.int .i64 v0, .int .i64 v1, .int .i64 v2, .int .i64 v3] 230)) W.heap.size 230 #[.int .i64 v0, .int .i64 v1, .int .i64 v2, .int .i64 v3] := Blk.new W _ _
        have hne : g ≠ W.heap.size := by have := LG.out; omega
        clear hA HH HC HI LB LG hHeld
        generalize W.heap.size = nb at *
        generalize (W.alloc (.cells #[.int .i64 v0, .int .i64 v1, .int .i64 v2, .int .i64 v3] 230)) = WF at *
        have hw1 : IntKind.i64.wrap ((xn : Int) + 1) = (xn : Int) + 1 := by rw [IntKind.wrap_i64]; omega
        have z31 : WF.frozen? ⟨g, o + 31, none⟩ = false := hI3.fz hg1
        obtain ⟨hI4, st4⟩ := cpu_put hC hI3 hg1 ho ho0 31 (u := .int .i64 ((xn : Int) + 1)) (by decide) rfl rfl ⟨_, rfl, by omega, by omega⟩ (tc := [(0, 30), (0, 31), (0, 35)]) (fun h => h)
        have st5 := st3.trans st4
        have f31 := World.cell?_setCell_same' WF ⟨g, o + 31, none⟩ (.int .i64 ((xn : Int) + 1)) (by rw [d31]; rfl)
        have f30 : (WF.setCell ⟨g, o + 31, none⟩ (.int .i64 ((xn : Int) + 1))).cell? ⟨g, o + 30, none⟩ = some (.slice (some ⟨b2, o2, none⟩) len cap) := (World.cell?_setCell_other _ _ _ _ (by intro e; injection e with _ e; omega)).trans d30
        have f35 : (WF.setCell ⟨g, o + 31, none⟩ (.int .i64 ((xn : Int) + 1))).cell? ⟨g, o + 35, none⟩ = some (.bool ah) := (World.cell?_setCell_other _ _ _ _ (by intro e; injection e with _ e; omega)).trans d35
        have hB2 := hB.far (p := ⟨g, o + 31, none⟩) (fun e => hne e.symm) (.int .i64 ((xn : Int) + 1))
        have m0 := (hB2.cell 0).trans (show _ = some (.int .i64 v0) from rfl)
        have m1 := (hB2.cell 1).trans (show _ = some (.int .i64 v1) from rfl)
        have m2 := (hB2.cell 2).trans (show _ = some (.int .i64 v2) from rfl)
        have m3 := (hB2.cell 3).trans (show _ = some (.int .i64 v3) from rfl)
        go_upto_region 8 with fail
        have HX := Lib.hid (And.intro hI4 (And.intro st5 (And.intro f30 (And.intro f31 f35))))
        clear hI3 st3 hI4 st4 st5 f30 f31 f35 hB hB2 d30 d31 d35 hne hw1 z31
        generalize WF.setCell ⟨g, o + 31, none⟩ (.int .i64 ((xn : Int) + 1)) = W2 at *
        have K30 : (0, 30) ∈ cfg.watch := List.mem_cons_self
        have K31 : (0, 31) ∈ cfg.watch := List.mem_cons_of_mem _ List.mem_cons_self
        have K35 : (0, 35) ∈ cfg.watch := List.mem_cons_of_mem _ (List.mem_cons_of_mem _ List.mem_cons_self)
        by_cases h5 : v0 = 5
        · subst h5
          go_wp2_with fail
          refine Calls.mono (hwork.2.2 S1 j1 _ [.pointer (some ⟨g, o, none⟩), .int .i64 v2] HX.out.1 (by show j1 + 0 ≤ J; omega) (args2 (vc hg1 ho ho0) (vi v20 v21))) ?_
          rintro e w' ⟨v, rfl, S', j', k1, k2, k3, k4, k5⟩
          have k3' : j' ≤ j1 := k3
          have q30 := (cpu_kept k1 hg1 ho0 30 (by decide) K30 (by simp)).trans HX.out.2.2.1
          have q31 := (cpu_kept k1 hg1 ho0 31 (by decide) K31 (by simp)).trans HX.out.2.2.2.1
          have q35 := (cpu_kept k1 hg1 ho0 35 (by decide) K35 (by simp)).trans HX.out.2.2.2.2
          have st6 := HX.out.2.1.trans (k1.more (tc' := [(0, 30), (0, 31), (0, 35)]) (fun x hx => by cases hx))
          clear m0 m1 m2 m3 HX
          go_wp2_with fail
          go_roundg ((if ah then 2000000001 else 0) + ((len : Int) - ((xn : Int) + 1)).toNat)
          case measure => rw [hk]; omega
          case rel => exact ⟨S', j', (xn : Int) + 1, _, len, cap, ah, st6, by omega, k4, q31, by omega, q30, q35, by omega, rfl⟩
        · by_cases h6 : v0 = 6
          · subst h6
            go_wp2_with fail
            refine Calls.mono (hmet.2.2 S1 j1 _ [.pointer (some ⟨g, o, none⟩), .int .i64 v2] HX.out.1 (by show j1 + 0 ≤ J; omega) (args2 (vc hg1 ho ho0) (vi v20 v21))) ?_
            rintro e w' ⟨v, rfl, S', j', k1, k2, k3, k4, b, rfl, _⟩
            have k3' : j' ≤ j1 := k3
            have q30 := (cpu_kept k1 hg1 ho0 30 (by decide) K30 (by simp)).trans HX.out.2.2.1
            have q31 := (cpu_kept k1 hg1 ho0 31 (by decide) K31 (by simp)).trans HX.out.2.2.2.1
            have q35 := (cpu_kept k1 hg1 ho0 35 (by decide) K35 (by simp)).trans HX.out.2.2.2.2
            have st6 := HX.out.2.1.trans (k1.more (tc' := [(0, 30), (0, 31), (0, 35)]) (fun x hx => by cases hx))
            have hg5 := k1.ext g _ hg1
            clear m0 m1 m2 m3 HX
            cases b with
            | true =>
              go_wp2_with fail
              go_roundg ((if ah then 2000000001 else 0) + ((len : Int) - ((xn : Int) + 1)).toNat)
              case measure => rw [hk]; omega
              case rel => exact ⟨S', j', (xn : Int) + 1, _, len, cap, ah, st6, by omega, k4, q31, by omega, q30, q35, by omega, rfl⟩
            | false =>
              have z31 : w'.frozen? ⟨g, o + 31, none⟩ = false := k4.fz hg5
              obtain ⟨hI7, st7⟩ := cpu_put hC k4 hg5 ho ho0 31 (u := .int .i64 (len : Int)) (by decide) rfl rfl ⟨_, rfl, by omega, by omega⟩ (tc := [(0, 30), (0, 31), (0, 35)]) (fun h => h)
              have st8 := st6.trans st7
              have f31 := World.cell?_setCell_same' w' ⟨g, o + 31, none⟩ (.int .i64 (len : Int)) (by rw [q31]; rfl)
              have f30 : (w'.setCell ⟨g, o + 31, none⟩ (.int .i64 (len : Int))).cell? ⟨g, o + 30, none⟩ = some (.slice (some ⟨b2, o2, none⟩) len cap) := (World.cell?_setCell_other _ _ _ _ (by intro e; injection e with _ e; omega)).trans q30
              have f35 : (w'.setCell ⟨g, o + 31, none⟩ (.int .i64 (len : Int))).cell? ⟨g, o + 35, none⟩ = some (.bool ah) := (World.cell?_setCell_other _ _ _ _ (by intro e; injection e with _ e; omega)).trans q35
              have HX := Lib.hid (And.intro hI7 (And.intro st8 (And.intro f30 (And.intro f31 f35))))
              clear hI7 st7 st8 f30 f31 f35 st6
              go_wp2_with fail
              go_roundg ((if ah then 2000000001 else 0) + ((len : Int) - (len : Int)).toNat)
              case measure => rw [hk]; omega
              case rel => exact ⟨S', j', (len : Int), _, len, cap, ah, HX.out.2.1, by omega, HX.out.1, HX.out.2.2.2.1, by omega, HX.out.2.2.1, HX.out.2.2.2.2, by omega, rfl⟩
          · go_wp2_with fail
            refine Calls.mono (hcyc.2.2 S1 j1 _ [.pointer (some ⟨g, o, none⟩), .agg #[.int .i64 v0, .int .i64 v1, .int .i64 v2, .int .i64 v3]] HX.out.1 (by show j1 + 0 ≤ J; omega) (args2 (vc hg1 ho ho0) ⟨_, rfl, rfl, fun i b v e1 e2 => by
              match i with
              | 0 => simp at e1 e2; subst e1 e2; exact ⟨_, rfl, v00, v01⟩
              | 1 => simp at e1 e2; subst e1 e2; exact ⟨_, rfl, v10, v11⟩
              | 2 => simp at e1 e2; subst e1 e2; exact ⟨_, rfl, v20, v21⟩
              | 3 => simp at e1 e2; subst e1 e2; exact ⟨_, rfl, v30, v31⟩
              | i + 4 => simp at e1⟩)) ?_
            rintro e w' ⟨v, rfl, S', j', k1, k2, k3, k4, k5⟩
            have k3' : j' ≤ j1 := k3
            have st6 := HX.out.2.1.trans (k1.more (tc' := [(0, 30), (0, 31), (0, 35)]) (fun x hx => by cases hx))
            clear m0 m1 m2 m3 HX
            go_wp2_with fail
            first | go_end0 | ((try simp only [Exit.inBlock, Exit.then]); refine bodyPost_ret (v := .tuple #[]) (results_none rfl _ _ _) rfl ?_)
            exact ⟨_, rfl, S', j', st6, by omega, by show j' ≤ j + 200; omega, k4, TT⟩
end Ck
end Go.Proofs.YtnlaedfnifimkaaGreat
namespace Go.Proofs.YtnlaedfnifimkaaGreat
open Go.RowKit
def frameS (t : Int) : Int := t % 69888
theorem frameS_bd (t : Int) : 0 ≤ frameS t ∧ frameS t ≤ 69887 := by unfold frameS; omega
theorem tmod_pos {t n : Int} (h0 : 0 < n) (h : 0 ≤ t.tmod n) : t.tmod n = t % n := by
  rw [Int.tmod_eq_emod] at h ⊢
  split at h
  · rename_i hc; rw [if_pos hc]; omega
  · rename_i hc
    have := Int.emod_lt_of_pos t h0
    omega
theorem tmod_neg {t n : Int} (h0 : 0 < n) (h : t.tmod n < 0) : t.tmod n + n = t % n := by
  rw [Int.tmod_eq_emod] at h ⊢
  split at h
  · have := Int.emod_nonneg t (by omega : n ≠ 0); omega
  · rename_i hc; rw [if_neg hc]; omega
theorem tmod_bd {t n : Int} (h0 : 0 < n) : -n < t.tmod n ∧ t.tmod n < n := by
  have h1 := Int.emod_nonneg t (by omega : n ≠ 0)
  have h2 := Int.emod_lt_of_pos t h0
  rw [Int.tmod_eq_emod]
  split
  · omega
  · rename_i hc
    have : t % n ≠ 0 := fun e => hc (.inr (Int.dvd_of_emod_eq_zero e))
    omega
def waitN (n : Int) : Int := if n < 0 ∨ 43008 ≤ n ∨ 128 ≤ n % 224 then 0 else if n % 224 % 8 ≤ 6 then 6 - n % 224 % 8 else 0
def waitS (t : Int) : Int := waitN (frameS t - 14335)
theorem waitN_bd (n : Int) : 0 ≤ waitN n ∧ waitN n ≤ 6 := by unfold waitN; split; omega; split <;> omega
def slowS (a : Int) : Bool := decide (16384 ≤ a) && decide (a < 32768)
def onS (line cell : Int) : Bool := decide (0 ≤ line) && decide (line < 192) && decide (0 ≤ cell) && decide (cell < 32)
def pixN (line cell : Int) : Int := 16384 + line / 64 * 2048 + line % 8 * 256 + line / 8 % 8 * 32 + cell
def colN (line cell : Int) : Int := 22528 + 32 * (line / 8) + cell
theorem pixN_bd {l c : Int} (l0 : 0 ≤ l) (l1 : l < 192) (c0 : 0 ≤ c) (c1 : c < 32) : 16384 ≤ pixN l c ∧ pixN l c < 22528 := by unfold pixN; omega
theorem colN_bd {l c : Int} (l0 : 0 ≤ l) (l1 : l < 192) (c0 : 0 ≤ c) (c1 : c < 32) : 22528 ≤ colN l c ∧ colN l c < 23296 := by unfold colN; omega
theorem wraps_i64 (n : Int) (h0 : 0 ≤ n) (h1 : n < 2 ^ 32) : IntKind.i64.wrap n = n := by
  simp only [IntKind.wrap, IntKind.bits, IntKind.signed]
  simp
  split <;> omega
def hitN (n : Int) : Bool := decide (0 ≤ n) && decide (n < 43008) && decide (n % 224 < 128) && decide (n % 224 % 8 < 4)
def hitS (t : Int) : Bool := hitN (frameS t - 14338)
def lineN (n : Int) : Int := n / 224
def cellN (n : Int) : Int := 2 * (n % 224 / 8) + n % 224 % 8 / 2
def halfN (n : Int) : Int := n % 224 % 8 % 2
def placeN (n : Int) : Int := 2 * (32 * lineN n + cellN n) + halfN n
def fetchN (n : Int) : Int := if halfN n = 0 then pixN (lineN n) (cellN n) else colN (lineN n) (cellN n)
theorem hit_is {n : Int} (h : hitN n = true) : 0 ≤ n ∧ n < 43008 ∧ n % 224 < 128 ∧ n % 224 % 8 < 4 := by unfold hitN at h; simp at h; omega
theorem hit_not {n : Int} (h : hitN n = false) : ¬ (0 ≤ n ∧ n < 43008 ∧ n % 224 < 128 ∧ n % 224 % 8 < 4) := by
  intro hc
  have : hitN n = true := by unfold hitN; simp; omega
  rw [h] at this; cases this
theorem cell_bd {n : Int} (h : 0 ≤ n ∧ n < 43008 ∧ n % 224 < 128 ∧ n % 224 % 8 < 4) : (0 ≤ lineN n ∧ lineN n < 192) ∧ (0 ≤ cellN n ∧ cellN n < 32) ∧ (halfN n = 0 ∨ halfN n = 1) := by unfold lineN cellN halfN; omega
end Go.Proofs.YtnlaedfnifimkaaGreat
namespace Go.Proofs.YtnlaedfnifimkaaGreat
open Go.RowKit
theorem frame_any (t : Int) (w : World) (t0 : -9223372036854775808 ≤ t) (t1 : t ≤ 9223372036854775807) :
    Calls Tryz.prog 55 #[.int .i64 t] w fun e w' => e = .returned (.int .i64 (frameS t)) ∧ w = w' := by
  have hb := tmod_bd (t := t) (n := 69888) (by omega)
  by_cases h : t.tmod 69888 < 0
  · have e := Lib.hid (tmod_neg (by omega) h)
    go_enter Tryz.func55, Tryz.ntmps55
    go_wp2
    go_ret
    exact ⟨ret_int e.out, rfl⟩
  · have e := Lib.hid (tmod_pos (t := t) (n := 69888) (by omega) (by omega))
    go_enter Tryz.func55, Tryz.ntmps55
    go_wp2
    go_ret
    exact ⟨ret_int e.out, rfl⟩
theorem within_no (t from_ : Int) (w : World) (t0 : -9223372036854775808 ≤ t) (t1 : t ≤ 9223372036854775807) (f0 : 0 ≤ from_) (f1 : from_ ≤ 20000) (h : frameS t < from_) :
    Calls Tryz.prog 135 #[.int .i64 t, .int .i64 from_] w fun e w' => e = .returned (.tuple #[.int .i64 0, .int .i64 0, .bool false]) ∧ w = w' := by
  obtain ⟨b0, b1⟩ := frameS_bd t
  go_enter Tryz.func135, Tryz.ntmps135
  go_wp2_with fail
  refine (frame_any t _ t0 t1).mono ?_
  rintro e w' ⟨rfl, rfl⟩
  go_wp2
  go_ret3
  exact ⟨rfl, rfl⟩
theorem within_yes (t from_ : Int) (w : World) (t0 : -9223372036854775808 ≤ t) (t1 : t ≤ 9223372036854775807) (f0 : 0 ≤ from_) (f1 : from_ ≤ 20000) (h : ¬ frameS t < from_) :
    Calls Tryz.prog 135 #[.int .i64 t, .int .i64 from_] w fun e w' => e = .returned (.tuple #[.int .i64 ((frameS t - from_) / 224), .int .i64 ((frameS t - from_) % 224), .bool (decide ((frameS t - from_) / 224 < 192) && decide ((frameS t - from_) % 224 < 128))]) ∧ w = w' := by
  obtain ⟨b0, b1⟩ := frameS_bd t
  have hf := frame_any t w t0 t1
  generalize frameS t = F at *
  by_cases h2 : (F - from_) / 224 < 192 <;> by_cases h3 : (F - from_) % 224 < 128
  all_goals
    go_enter Tryz.func135, Tryz.ntmps135
    go_wp2_with fail
    refine hf.mono ?_
    rintro e w' ⟨rfl, rfl⟩
    go_wp2
    go_ret3
    exact ⟨by simp [h2, h3], rfl⟩
theorem tab_at (w : World) (k v : Int) (h : (k = 0 ∧ v = 6) ∨ (k = 1 ∧ v = 5) ∨ (k = 2 ∧ v = 4) ∨ (k = 3 ∧ v = 3) ∨ (k = 4 ∧ v = 2) ∨ (k = 5 ∧ v = 1) ∨ (k = 6 ∧ v = 0) ∨ (k = 7 ∧ v = 0)) : (Instr.index 420 (.agg #[.int .i64 6, .int .i64 5, .int .i64 4, .int .i64 3, .int .i64 2, .int .i64 1, .int .i64 0, .int .i64 0]) (.int .i64 k)).run Tryz.prog w = .ok (.int .i64 v) w := by
  rcases h with ⟨rfl, rfl⟩ | ⟨rfl, rfl⟩ | ⟨rfl, rfl⟩ | ⟨rfl, rfl⟩ | ⟨rfl, rfl⟩ | ⟨rfl, rfl⟩ | ⟨rfl, rfl⟩ | ⟨rfl, rfl⟩ <;> kernel_rfl
set_option maxHeartbeats 1000000 in
theorem wait_any (t : Int) (w : World) (t0 : -9223372036854775808 ≤ t) (t1 : t ≤ 9223372036854775807) :
    Calls Tryz.prog 387 #[.int .i64 t] w fun e w' => e = .returned (.int .i64 (waitS t)) ∧ w = w' := by
  obtain ⟨b0, b1⟩ := frameS_bd t
  by_cases h : frameS t < 14335
  · have e := Lib.hid (show waitS t = 0 by unfold waitS waitN; rw [if_pos (by omega)])
    go_enter Tryz.func387, Tryz.ntmps387
    go_wp2_with fail
    refine (within_no t 14335 _ t0 t1 (by omega) (by omega) h).mono ?_
    rintro e w' ⟨rfl, rfl⟩
    go_wp2
    go_ret
    exact ⟨ret_int e.out.symm, rfl⟩
  · by_cases h2 : (frameS t - 14335) / 224 < 192 ∧ (frameS t - 14335) % 224 < 128
    · obtain ⟨h3, h4⟩ := h2
      have e := Lib.hid (show waitS t = if (frameS t - 14335) % 224 % 8 ≤ 6 then 6 - (frameS t - 14335) % 224 % 8 else 0 by unfold waitS waitN; rw [if_neg (by omega)])
      have hc := within_yes t 14335 w t0 t1 (by omega) (by omega) h
      rw [decide_eq_true h3, decide_eq_true h4] at hc
      have hk : (0 ≤ (frameS t - 14335) % 224 % 8 ∧ (frameS t - 14335) % 224 % 8 ≤ 7) := by omega
      have hat : 0 ≤ (frameS t - 14335) % 224 ∧ (frameS t - 14335) % 224 < 224 := by omega
      generalize (frameS t - 14335) / 224 = line at *
      generalize (frameS t - 14335) % 224 = at_ at *
      go_enter Tryz.func387, Tryz.ntmps387
      go_wp2_with fail
      refine hc.mono ?_
      rintro e w' ⟨rfl, rfl⟩
      clear hc
      obtain ⟨v, hv⟩ : ∃ v, v = if at_ % 8 ≤ 6 then 6 - at_ % 8 else 0 := ⟨_, rfl⟩
      have ht := fun w' => tab_at w' (at_ % 8) v (by split at hv <;> omega)
      have hv' := Lib.hid hv
      clear hv
      go_wp2
      go_ret
      exact ⟨ret_int (by rw [e.out, hv'.out]), rfl⟩
    · have e := Lib.hid (show waitS t = 0 by unfold waitS waitN; rw [if_pos (by omega)])
      have hc := within_yes t 14335 w t0 t1 (by omega) (by omega) h
      have hk : (decide ((frameS t - 14335) / 224 < 192) && decide ((frameS t - 14335) % 224 < 128)) = false := by
        rw [← Bool.decide_and]; exact decide_eq_false h2
      rw [hk] at hc
      go_enter Tryz.func387, Tryz.ntmps387
      go_wp2_with fail
      refine hc.mono ?_
      rintro e w' ⟨rfl, rfl⟩
      go_wp2
      go_ret
      exact ⟨ret_int e.out.symm, rfl⟩
theorem slow_any (a : Int) (w : World) (a0 : 0 ≤ a) (a1 : a ≤ 65535) :
    Calls Tryz.prog 385 #[.int .u16 a] w fun e w' => e = .returned (.bool (slowS a)) ∧ w = w' := by
  unfold slowS
  by_cases h1 : 16384 ≤ a <;> by_cases h2 : a < 32768
  all_goals
    go_enter Tryz.func385, Tryz.ntmps385
    go_wp2
    go_ret
    exact ⟨ret_bool (by simp [h1, h2]), rfl⟩
theorem on_any (l c : Int) (w : World) (l0 : -9223372036854775808 ≤ l) (l1 : l ≤ 9223372036854775807) (c0 : -9223372036854775808 ≤ c) (c1 : c ≤ 9223372036854775807) :
    Calls Tryz.prog 136 #[.int .i64 l, .int .i64 c] w fun e w' => e = .returned (.bool (onS l c)) ∧ w = w' := by
  unfold onS
  by_cases h1 : 0 ≤ l
  · by_cases h2 : l < 192
    · by_cases h3 : 0 ≤ c
      · by_cases h4 : c < 32
        all_goals
          go_enter Tryz.func136, Tryz.ntmps136
          go_wp2
          go_ret
          exact ⟨ret_bool (by simp [h1, h2, h3, h4]), rfl⟩
      · go_enter Tryz.func136, Tryz.ntmps136
        go_wp2
        go_ret
        exact ⟨ret_bool (by simp; omega), rfl⟩
    · go_enter Tryz.func136, Tryz.ntmps136
      go_wp2
      go_ret
      exact ⟨ret_bool (by simp; omega), rfl⟩
  · go_enter Tryz.func136, Tryz.ntmps136
    go_wp2
    go_ret
    exact ⟨ret_bool (by simp; omega), rfl⟩
theorem onS_yes {l c : Int} (l0 : 0 ≤ l) (l1 : l < 192) (c0 : 0 ≤ c) (c1 : c < 32) : onS l c = true := by unfold onS; simp; omega
theorem onS_is {l c : Int} (h : onS l c = true) : 0 ≤ l ∧ l < 192 ∧ 0 ≤ c ∧ c < 32 := by unfold onS at h; simp at h; omega
def pixS (l c : Int) : Int := if onS l c then pixN l c else 0
def colS (l c : Int) : Int := if onS l c then colN l c else 0
theorem pix_or {l c : Int} (l0 : 0 ≤ l) (l1 : l < 192) (c0 : 0 ≤ c) (c1 : c < 32) :
    bits .or .i64 (bits .or .i64 (bits .or .i64 (bits .or .i64 16384 (l / 64 * 2048)) (l % 8 * 256)) (l / 8 % 8 * 32)) c = pixN l c := by
  rw [bits_join .i64 32 (by decide) wraps_i64 14 16384 (l / 64 * 2048) (by omega) (by omega) (by omega) (by omega) (by omega) (by omega)]
  rw [bits_join .i64 32 (by decide) wraps_i64 11 (16384 + l / 64 * 2048) (l % 8 * 256) (by omega) (by omega) (by omega) (by omega) (by omega) (by omega)]
  rw [bits_join .i64 32 (by decide) wraps_i64 8 (16384 + l / 64 * 2048 + l % 8 * 256) (l / 8 % 8 * 32) (by omega) (by omega) (by omega) (by omega) (by omega) (by omega)]
  rw [bits_join .i64 32 (by decide) wraps_i64 5 (16384 + l / 64 * 2048 + l % 8 * 256 + l / 8 % 8 * 32) c (by omega) (by omega) (by omega) (by omega) (by omega) (by omega)]
  rfl
theorem pixels_any (l c : Int) (w : World) (l0 : -9223372036854775808 ≤ l) (l1 : l ≤ 9223372036854775807) (c0 : -9223372036854775808 ≤ c) (c1 : c ≤ 9223372036854775807) :
    Calls Tryz.prog 107 #[.int .i64 l, .int .i64 c] w fun e w' => e = .returned (.tuple #[.int .u16 (pixS l c), .bool (onS l c)]) ∧ w = w' := by
  have hon := on_any l c w l0 l1 c0 c1
  unfold pixS
  cases h : onS l c
  · rw [h] at hon
    go_enter Tryz.func107, Tryz.ntmps107
    go_wp2_with fail
    refine hon.mono ?_
    rintro e w' ⟨rfl, rfl⟩
    go_wp2
    go_ret2
    exact ⟨rfl, rfl⟩
  · rw [h] at hon
    obtain ⟨a, b, d, e⟩ := onS_is h
    have E := Lib.hid (pix_or a b d e)
    have hp := pixN_bd a b d e
    have m1 : bits .and .i64 l 7 = l % 8 := bits_mask .i64 32 (by decide) wraps_i64 3 (by decide) l a (by omega)
    have m2 : bits .and .i64 (l / 8) 7 = l / 8 % 8 := bits_mask .i64 32 (by decide) wraps_i64 3 (by decide) (l / 8) (by omega) (by omega)
    go_enter Tryz.func107, Tryz.ntmps107
    go_wp2_with fail
    refine hon.mono ?_
    rintro e w' ⟨rfl, rfl⟩
    have e1 := E.out
    go_wp2
    go_ret2
    refine ⟨?_, rfl⟩
    show Ending.returned (.tuple #[.int .u16 (pixN l c), .bool true]) = _
    rfl
theorem colours_any (l c : Int) (w : World) (l0 : -9223372036854775808 ≤ l) (l1 : l ≤ 9223372036854775807) (c0 : -9223372036854775808 ≤ c) (c1 : c ≤ 9223372036854775807) :
    Calls Tryz.prog 108 #[.int .i64 l, .int .i64 c] w fun e w' => e = .returned (.tuple #[.int .u16 (colS l c), .bool (onS l c)]) ∧ w = w' := by
  have hon := on_any l c w l0 l1 c0 c1
  unfold colS
  cases h : onS l c
  · rw [h] at hon
    go_enter Tryz.func108, Tryz.ntmps108
    go_wp2_with fail
    refine hon.mono ?_
    rintro e w' ⟨rfl, rfl⟩
    go_wp2
    go_ret2
    exact ⟨rfl, rfl⟩
  · rw [h] at hon
    obtain ⟨a, b, d, e⟩ := onS_is h
    have E := Lib.hid (show colN l c = 22528 + l / 8 * 32 + c by unfold colN; omega)
    go_enter Tryz.func108, Tryz.ntmps108
    go_wp2_with fail
    refine hon.mono ?_
    rintro e w' ⟨rfl, rfl⟩
    go_wp2
    go_ret2
    refine ⟨?_, rfl⟩
    show Ending.returned (.tuple #[.int .u16 (22528 + l / 8 * 32 + c), .bool true]) = Ending.returned (.tuple #[.int .u16 (colN l c), .bool true])
    rw [E.out]
theorem cell_no (t : Int) (w : World) (t0 : -9223372036854775808 ≤ t) (t1 : t ≤ 9223372036854775807) (h : hitS t = false) :
    Calls Tryz.prog 106 #[.int .i64 t] w fun e w' => e = .returned (.tuple #[.int .i64 0, .int .i64 0, .int .i64 0, .bool false]) ∧ w = w' := by
  obtain ⟨b0, b1⟩ := frameS_bd t
  have hn := hit_not h
  by_cases h1 : frameS t < 14338
  · go_enter Tryz.func106, Tryz.ntmps106
    go_wp2_with fail
    refine (within_no t 14338 _ t0 t1 (by omega) (by omega) h1).mono ?_
    rintro e w' ⟨rfl, rfl⟩
    go_wp2
    refine bodyPost_ret (results_tmp4 rfl _ _ _) rfl ?_
    exact ⟨rfl, rfl⟩
  · have hc := within_yes t 14338 w t0 t1 (by omega) (by omega) h1
    by_cases h2 : (frameS t - 14338) / 224 < 192 ∧ (frameS t - 14338) % 224 < 128
    · obtain ⟨h3, h4⟩ := h2
      rw [decide_eq_true h3, decide_eq_true h4] at hc
      have hk : 4 ≤ (frameS t - 14338) % 224 % 8 := by omega
      have hat : 0 ≤ (frameS t - 14338) % 224 := by omega
      clear hn
      generalize (frameS t - 14338) / 224 = line at *
      generalize (frameS t - 14338) % 224 = at_ at *
      go_enter Tryz.func106, Tryz.ntmps106
      go_wp2_with fail
      refine hc.mono ?_
      rintro e w' ⟨rfl, rfl⟩
      go_wp2
      refine bodyPost_ret (results_tmp4 rfl _ _ _) rfl ?_
      exact ⟨rfl, rfl⟩
    · have hk : (decide ((frameS t - 14338) / 224 < 192) && decide ((frameS t - 14338) % 224 < 128)) = false := by
        rw [← Bool.decide_and]; exact decide_eq_false h2
      rw [hk] at hc
      have hat : 0 ≤ (frameS t - 14338) % 224 := by omega
      clear hn h2 hk
      generalize (frameS t - 14338) / 224 = line at *
      generalize (frameS t - 14338) % 224 = at_ at *
      go_enter Tryz.func106, Tryz.ntmps106
      go_wp2_with fail
      refine hc.mono ?_
      rintro e w' ⟨rfl, rfl⟩
      go_wp2
      refine bodyPost_ret (results_tmp4 rfl _ _ _) rfl ?_
      exact ⟨rfl, rfl⟩
theorem cell_yes (t : Int) (w : World) (t0 : -9223372036854775808 ≤ t) (t1 : t ≤ 9223372036854775807) (h : hitS t = true) :
    Calls Tryz.prog 106 #[.int .i64 t] w fun e w' => e = .returned (.tuple #[.int .i64 (lineN (frameS t - 14338)), .int .i64 (cellN (frameS t - 14338)), .int .i64 (halfN (frameS t - 14338)), .bool true]) ∧ w = w' := by
  obtain ⟨b0, b1⟩ := frameS_bd t
  obtain ⟨h1, h2, h3, h4⟩ := hit_is h
  have hc := within_yes t 14338 w t0 t1 (by omega) (by omega) (by omega)
  rw [decide_eq_true (show (frameS t - 14338) / 224 < 192 by omega), decide_eq_true h3] at hc
  have hat : 0 ≤ (frameS t - 14338) % 224 := by omega
  unfold lineN cellN halfN
  generalize (frameS t - 14338) / 224 = line at *
  generalize (frameS t - 14338) % 224 = at_ at *
  go_enter Tryz.func106, Tryz.ntmps106
  go_wp2_with fail
  refine hc.mono ?_
  rintro e w' ⟨rfl, rfl⟩
  go_wp2
  refine bodyPost_ret (results_tmp4 rfl _ _ _) rfl ?_
  exact ⟨by first | rfl | (congr 3; omega), rfl⟩
def fetchS (t : Int) : Int := if hitS t then fetchN (frameS t - 14338) else 0
def placeS (t : Int) : Int := if hitS t then placeN (frameS t - 14338) else 0
theorem fetched_any (t : Int) (w : World) (t0 : -9223372036854775808 ≤ t) (t1 : t ≤ 9223372036854775807) :
    Calls Tryz.prog 74 #[.int .i64 t] w fun e w' => e = .returned (.tuple #[.int .u16 (fetchS t), .bool (hitS t)]) ∧ w = w' := by
  unfold fetchS
  cases h : hitS t
  · go_enter Tryz.func74, Tryz.ntmps74
    go_wp2_with fail
    refine (cell_no t _ t0 t1 h).mono ?_
    rintro e w' ⟨rfl, rfl⟩
    go_wp2
    go_ret2
    exact ⟨rfl, rfl⟩
  · have hc := cell_yes t w t0 t1 h
    obtain ⟨⟨l0, l1⟩, ⟨c0, c1⟩, hh⟩ := cell_bd (hit_is h)
    unfold fetchN
    generalize lineN (frameS t - 14338) = line at *
    generalize cellN (frameS t - 14338) = c at *
    generalize halfN (frameS t - 14338) = half at *
    have hon := onS_yes l0 l1 c0 c1
    rcases hh with rfl | rfl
    · go_enter Tryz.func74, Tryz.ntmps74
      go_wp2_with fail
      refine hc.mono ?_
      rintro e w' ⟨rfl, rfl⟩
      go_wp2_with fail
      refine (pixels_any line c _ (by omega) (by omega) (by omega) (by omega)).mono ?_
      rintro e w' ⟨rfl, rfl⟩
      unfold pixS
      rw [hon]
      go_wp2
      go_ret2
      exact ⟨rfl, rfl⟩
    · go_enter Tryz.func74, Tryz.ntmps74
      go_wp2_with fail
      refine hc.mono ?_
      rintro e w' ⟨rfl, rfl⟩
      go_wp2_with fail
      refine (colours_any line c _ (by omega) (by omega) (by omega) (by omega)).mono ?_
      rintro e w' ⟨rfl, rfl⟩
      unfold colS
      rw [hon]
      go_wp2
      go_ret2
      exact ⟨rfl, rfl⟩
theorem place_any (t : Int) (w : World) (t0 : -9223372036854775808 ≤ t) (t1 : t ≤ 9223372036854775807) :
    Calls Tryz.prog 73 #[.int .i64 t] w fun e w' => e = .returned (.tuple #[.int .i64 (placeS t), .bool (hitS t)]) ∧ w = w' := by
  unfold placeS
  cases h : hitS t
  · go_enter Tryz.func73, Tryz.ntmps73
    go_wp2_with fail
    refine (cell_no t _ t0 t1 h).mono ?_
    rintro e w' ⟨rfl, rfl⟩
    go_wp2
    go_ret2
    exact ⟨rfl, rfl⟩
  · have hc := cell_yes t w t0 t1 h
    obtain ⟨⟨l0, l1⟩, ⟨c0, c1⟩, hh⟩ := cell_bd (hit_is h)
    unfold placeN
    generalize lineN (frameS t - 14338) = line at *
    generalize cellN (frameS t - 14338) = c at *
    generalize halfN (frameS t - 14338) = half at *
    rcases hh with rfl | rfl
    all_goals
      go_enter Tryz.func73, Tryz.ntmps73
      go_wp2_with fail
      refine hc.mono ?_
      rintro e w' ⟨rfl, rfl⟩
      go_wp2
      go_ret2
      exact ⟨by first | rfl | (congr 3; omega), rfl⟩
end Go.Proofs.YtnlaedfnifimkaaGreat
namespace Go.Proofs.YtnlaedfnifimkaaGreat
open Go.RowKit
namespace Ck
noncomputable def base2 : List (FuncId × Sig) := (134, ⟨[TC], .tup [], 200, [(0, 30), (0, 31), (0, 35)]⟩) :: (387, ⟨[TI64], .one (.int .i64 0 6), 0, []⟩) :: tabOf tab1 base1
noncomputable def tab2 : List (FuncId × Func × Sig) := [
  (157, Tryz.f157, ⟨[TC], Ty.tup [], 0, []⟩),
  (129, Tryz.f129, ⟨[TC, TI64], Ty.tup [], 2, [(0, 30)]⟩),
  (130, Tryz.f130, ⟨[TC], Ty.tup [], 4, [(0, 30)]⟩),
  (55, Tryz.f55, ⟨[TI64], Ty.one (Bt.int IntKind.i64 (Int.negSucc 69886) (Int.ofNat 139775)), 0, []⟩),
  (384, Tryz.f384, ⟨[TI64], TB, 0, []⟩),
  (379, Tryz.f379, ⟨[Ty.one (Bt.ptr 1 0 0 false)], TB, 0, []⟩),
  (104, Tryz.f104, ⟨[TC, Ty.one (Bt.iface 75 1)], Ty.tup [], 6, [(0, 30), (0, 31)]⟩),
  (132, Tryz.f132, ⟨[TC, TU8], Ty.tup [], 48, [(0, 31), (0, 30), (0, 35)]⟩),
  (133, Tryz.f133, ⟨[TC, TU8], Ty.tup [], 0, []⟩),
  (135, Tryz.f135, ⟨[TI64, TI64], Ty.tup [Cm.one I64, Cm.one (Bt.int IntKind.i64 (Int.negSucc 222) (Int.ofNat 223)), Cm.one (Bt.bool none)], 0, []⟩),
  (106, Tryz.f106, ⟨[TI64], Ty.tup [Cm.one I64, Cm.one I64, Cm.one (Bt.int IntKind.i64 (Int.negSucc 0) (Int.ofNat 1)), Cm.one (Bt.bool none)], 0, []⟩),
  (136, Tryz.f136, ⟨[TI64, TI64], TB, 0, []⟩),
  (107, Tryz.f107, ⟨[TI64, TI64], Ty.tup [Cm.one U16, Cm.one (Bt.bool none)], 0, []⟩),
  (108, Tryz.f108, ⟨[TI64, TI64], Ty.tup [Cm.one U16, Cm.one (Bt.bool none)], 0, []⟩),
  (74, Tryz.f74, ⟨[TI64], Ty.tup [Cm.one U16, Cm.one (Bt.bool none)], 0, []⟩),
  (382, Tryz.f382, ⟨[Ty.one (Bt.ptr 1 65536 65536 false), TU8], TU8, 0, []⟩),
  (383, Tryz.f383, ⟨[Ty.one (Bt.ptr 1 0 0 false), TB, TU16, TU8], Ty.tup [], 0, []⟩),
  (378, Tryz.f378, ⟨[Ty.one (Bt.ptr 1 0 0 false), TU16], TU8, 0, []⟩),
  (380, Tryz.f380, ⟨[Ty.one (Bt.ptr 1 0 0 false), TU16, TU8], Ty.tup [], 1, []⟩),
  (34, Tryz.f34, ⟨[Ty.one (Bt.ptr 1 0 0 false), TU16], TU8, 0, []⟩),
  (128, Tryz.f128, ⟨[Ty.one (Bt.ptr 1 0 0 false), TU16, TU8], Ty.tup [], 0, []⟩),
  (105, Tryz.f105, ⟨[TC, Ty.one (Bt.iface 75 1)], Ty.tup [], 248, [(0, 31), (0, 30), (0, 35)]⟩),
  (385, Tryz.f385, ⟨[TU16], TB, 0, []⟩),
  (386, Tryz.f386, ⟨[TB, TB, TI64], TB, 0, []⟩),
  (381, Tryz.f381, ⟨[TI64, TU16, TI64, TI64], Ty.one (Bt.int IntKind.i64 (Int.ofNat 0) (Int.ofNat 6)), 0, []⟩),
  (377, Tryz.f377, ⟨[Ty.one (Bt.ptr 1 0 0 false), TI64, TU16, TI64], Ty.one (Bt.int IntKind.i64 (Int.ofNat 0) (Int.ofNat 6)), 0, []⟩),
  (72, Tryz.f72, ⟨[TC, Ty.one (Bt.iface 75 1)], Ty.tup [], 254, [(0, 30), (0, 31), (0, 35)]⟩)]
set_option maxRecDepth 100000 in
theorem tab2_chk : tabChk cfg tab2 base2 = true := by kernel_rfl
set_option maxRecDepth 100000 in
theorem tab2_fns : ∀ f fn s, (f, fn, s) ∈ tab2 → Tryz.prog.funcs[f]? = some fn ∧ (fn.name == "runtime.NumGoroutine") = false := by
  have : ∀ p ∈ tab2, Tryz.prog.funcs[p.1]? = some p.2.1 ∧ (p.2.1.name == "runtime.NumGoroutine") = false := by
    unfold tab2
    simp only [List.forall_mem_cons]
    exact ⟨⟨Tryz.func157, by kernel_rfl⟩, ⟨Tryz.func129, by kernel_rfl⟩, ⟨Tryz.func130, by kernel_rfl⟩, ⟨Tryz.func55, by kernel_rfl⟩, ⟨Tryz.func384, by kernel_rfl⟩, ⟨Tryz.func379, by kernel_rfl⟩, ⟨Tryz.func104, by kernel_rfl⟩, ⟨Tryz.func132, by kernel_rfl⟩, ⟨Tryz.func133, by kernel_rfl⟩, ⟨Tryz.func135, by kernel_rfl⟩, ⟨Tryz.func106, by kernel_rfl⟩, ⟨Tryz.func136, by kernel_rfl⟩, ⟨Tryz.func107, by kernel_rfl⟩, ⟨Tryz.func108, by kernel_rfl⟩, ⟨Tryz.func74, by kernel_rfl⟩, ⟨Tryz.func382, by kernel_rfl⟩, ⟨Tryz.func383, by kernel_rfl⟩, ⟨Tryz.func378, by kernel_rfl⟩, ⟨Tryz.func380, by kernel_rfl⟩, ⟨Tryz.func34, by kernel_rfl⟩, ⟨Tryz.func128, by kernel_rfl⟩, ⟨Tryz.func105, by kernel_rfl⟩, ⟨Tryz.func385, by kernel_rfl⟩, ⟨Tryz.func386, by kernel_rfl⟩, ⟨Tryz.func381, by kernel_rfl⟩, ⟨Tryz.func377, by kernel_rfl⟩, ⟨Tryz.func72, by kernel_rfl⟩, fun _ h => by cases h⟩
  exact fun f fn s h => this (f, fn, s) h
theorem wait_sig {E : Env} : SigOk Tryz.prog E 387 ⟨[TI64], .one (.int .i64 0 6), 0, []⟩ := by
  refine ⟨⟨Tryz.f387, _, Tryz.func387, by kernel_rfl, rfl⟩, rfl, fun S j w args hI _ ha => ?_⟩
  obtain ⟨hl, hv⟩ := ha
  obtain ⟨v, rfl⟩ : ∃ v, args = [v] := by
    match args, hl with
    | [v], _ => exact ⟨v, rfl⟩
  obtain ⟨t, rfl, t0, t1⟩ := hv 0 _ v rfl rfl
  refine (wait_any t w t0 t1).mono ?_
  rintro e w' ⟨rfl, rfl⟩
  refine ⟨_, rfl, S, j, Stp.refl _ _ _ _, Nat.le_refl _, Nat.le_refl _, hI, _, rfl, ?_⟩
  exact waitN_bd _
theorem tab2_ok {T : Int} {L G J : Nat} (h0 : 0 ≤ T) (hG : 1000 ≤ G) (hJ : G + J ≤ 1000000000) : ∀ f s, (f, s) ∈ tabOf tab2 base2 → SigOk Tryz.prog (mkE T L G J) f s :=
  tabChk_ok prog_mixed (cfg_ok h0 hG hJ) tab2_chk (fun f s h => by
    simp only [base2, List.mem_cons] at h
    rcases h with h | h | h
    · cases h; exact next_sig h0 hG hJ
    · cases h; exact wait_sig
    · exact tab1_ok h0 hG hJ f s h) tab2_fns
end Ck
end Go.Proofs.YtnlaedfnifimkaaGreat
namespace Go.Proofs.YtnlaedfnifimkaaGreat
open Go.RowKit
namespace Ck
def Bt.mild : Bt → Bool
  | .ptr k .. => k != 1
  | .slice k lo _ => k != 1 && lo.isSome
  | .iface _ k => k != 1
  | .meth _ k _ => k != 1
  | .opq n => n == 1
  | _ => true
theorem segAt_all {q : Bt → Bool} : ∀ {l : List (Nat × Bt)} {i : Nat} {t : Bt}, l.all (fun p => q p.2) = true → segAt l i = some t → q t = true
  | [], i, t, _, h => by cases h
  | (n, b) :: r, i, t, ha, h => by
    simp only [List.all_cons, Bool.and_eq_true] at ha
    unfold segAt at h
    split at h
    · cases h; exact ha.1
    · exact segAt_all ha.2 h
theorem cell_mild {T : Int} {L G J : Nat} {k i : Nat} {t : Bt} (h : (mkE T L G J).cellT k i = some t) : t.mild = true ∨ (k = 1 ∧ i = 65547 ∧ t = .opq 0) ∨ (k = 1 ∧ i = 65553 ∧ t = .slice 4 none none) := by
  unfold Env.cellT at h
  rcases hk : (mkE T L G J).K[k]? with _ | x
  · rw [hk] at h; cases h
  rw [hk] at h
  have h : segAt x.segs i = some t := h
  have hk : cfg.K[k]? = some x := hk
  match k, hk with
  | 0, hk => cases hk; exact .inl (segAt_all (q := Bt.mild) (by decide) h)
  | 1, hk =>
    cases hk
    simp only [segAt] at h
    repeat' split at h
    all_goals first
      | (cases h; exact .inl rfl)
      | (cases h; exact .inr (.inl ⟨rfl, by omega, rfl⟩))
      | (cases h; exact .inr (.inr ⟨rfl, by omega, rfl⟩))
      | cases h
  | 2, hk => cases hk; exact .inl (segAt_all (q := Bt.mild) (by decide) h)
  | 3, hk => cases hk; exact .inl (segAt_all (q := Bt.mild) (by decide) h)
  | 4, hk => cases hk; exact .inl (segAt_all (q := Bt.mild) (by decide) h)
  | 5, hk => cases hk; exact .inl (segAt_all (q := Bt.mild) (by decide) h)
  | 6, hk => cases hk; exact .inl (segAt_all (q := Bt.mild) (by decide) h)
  | k + 7, hk => cases hk
def St.only (S : St) (g : Nat) : St := fun b => if b = g then S b else (S b).bind fun x => if x.1 = 1 then none else some x
theorem St.only_sub {S : St} {g b : Nat} {x : Kd × Nat} (h : S.only g b = some x) : S b = some x := by
  unfold St.only at h
  split at h
  · exact h
  · cases e : S b with
    | none => rw [e] at h; cases h
    | some y =>
      rw [e] at h
      simp only [Option.bind_some] at h
      split at h
      · cases h
      · exact h
theorem St.only_one {S : St} {g b n : Nat} (h : S.only g b = some (1, n)) : b = g := by
  unfold St.only at h
  split at h
  · assumption
  · cases e : S b with
    | none => rw [e] at h; cases h
    | some y =>
      rw [e] at h
      simp only [Option.bind_some] at h
      split at h
      · cases h
      · rename_i hn; injection h with h; subst h; exact absurd rfl hn
theorem St.only_at {S : St} {g b : Nat} {x : Kd × Nat} (h : S b = some x) (hb : x.1 ≠ 1 ∨ b = g) : S.only g b = some x := by
  unfold St.only
  split
  · exact h
  · rename_i hn
    rw [h]
    simp only [Option.bind_some]
    rcases hb with hb | hb
    · rw [if_neg hb]
    · exact absurd hb hn
theorem St.only_none {S : St} {g b : Nat} (h : S b = none) : S.only g b = none := by
  unfold St.only
  split
  · exact h
  · rw [h]; rfl
section
variable {T T' : Int} {L L' G J : Nat} {S S' : St} {j : Nat} {w : World}
theorem VB.mild {t : Bt} {v : Value} (hT : T ≤ T') (hm : t.mild = true) (hS : ∀ b x, S b = some x → x.1 ≠ 1 → S' b = some x) (h : VB (mkE T L G J) S j #[] t v) : VB (mkE T' L' G J) S' j #[] t v := by
  cases t with
  | ptr k lo hi nl =>
    have hk : k ≠ 1 := by simpa [Bt.mild] using hm
    rcases h with h | ⟨b, o, n, h1, h2, h3⟩
    · exact .inl h
    · exact .inr ⟨b, o, n, h1, hS _ _ h2 hk, h3⟩
  | slice k lo hi =>
    cases lo with
    | none => simp [Bt.mild] at hm
    | some l =>
      have hk : k ≠ 1 := by simpa [Bt.mild] using hm
      obtain ⟨a, len, cap, h1, h2, h3, h4, h5, h6, h7⟩ := h
      refine ⟨a, len, cap, h1, h2, h3, h4, h5, h6, ?_⟩
      rcases h7 with h7 | ⟨b, o, n, k1, k2, k3⟩
      · exact .inl h7
      · exact .inr ⟨b, o, n, k1, hS _ _ k2 hk, k3⟩
  | iface t k => obtain ⟨b, n, h1, h2, h3⟩ := h; exact ⟨b, n, h1, hS _ _ h2 (by simpa [Bt.mild] using hm), h3⟩
  | meth t k m => obtain ⟨b, n, h1, h2, h3⟩ := h; exact ⟨b, n, h1, hS _ _ h2 (by simpa [Bt.mild] using hm), h3⟩
  | opq n =>
    have hn : n = 1 := by simpa [Bt.mild] using hm
    subst hn
    obtain ⟨x, h1, h2, h3⟩ := h
    exact ⟨x, h1, h2, by omega⟩
  | bool o => exact h
  | int k lo hi => exact h
  | str o => exact h
  | nils => exact h
  | nili => exact h
  | nz u p => exact h
theorem t_cell : (mkE T L G J).cellT 1 (65547 % (mkE T L G J).per 1) = some (.opq 0) := by kernel_rfl
set_option maxRecDepth 100000 in
theorem inv_tick {g : Nat} (hI : Inv (mkE T L G J) S j w) (hg : S g = some (1, 77842)) : Inv (mkE (T + 1) L G J) (S.only g) j (w.setCell ⟨g, 65547, none⟩ (.int .u64 (T + 1))) := fun b k n hb => by
  have hb0 := St.only_sub hb
  have hS : ∀ b x, S b = some x → x.1 ≠ 1 → S.only g b = some x := fun b x h hn => St.only_at h (.inl hn)
  obtain ⟨h1, h2, cs, h3, h4, h5⟩ := hI b k n hb0
  have conv : ∀ (i : Nat) (t : Bt) (v : Value), (mkE T L G J).cellT k (i % (mkE T L G J).per k) = some t → t.free = true → VB (mkE T L G J) S j #[] t v → (b = g → i ≠ 65547) → i < n → ∃ t, (mkE (T + 1) L G J).cellT k (i % (mkE (T + 1) L G J).per k) = some t ∧ t.free = true ∧ VB (mkE (T + 1) L G J) (S.only g) j #[] t v := fun i t v k1 k2 k3 hne hlt => by
    refine ⟨t, k1, k2, ?_⟩
    rcases cell_mild k1 with hm | ⟨rfl, hi, rfl⟩ | ⟨rfl, hi, rfl⟩
    · exact VB.mild (by omega) hm hS k3
    · exfalso
      have e := St.only_one hb
      subst e
      rw [hg] at hb0
      have e2 : n = 77842 := by injection hb0 with e; injection e with _ e; exact e.symm
      subst e2
      have hi : i % 77842 = 65547 := hi
      exact hne rfl (by omega)
    · obtain ⟨a, len, cap, q1, q2, q3, q4, q5, q6, q7⟩ := k3
      refine ⟨a, len, cap, q1, q2, q3, q4, q5, q6, ?_⟩
      rcases q7 with q7 | ⟨b', o, n', r1, r2, r3⟩
      · exact .inl q7
      · exact .inr ⟨b', o, n', r1, hS _ _ r2 (show (4 : Nat) ≠ 1 by decide), r3⟩
  by_cases e : b = g
  · subst e
    rw [hg] at hb0
    obtain ⟨rfl, rfl⟩ : 1 = k ∧ 77842 = n := by injection hb0 with e; injection e with e1 e2; exact ⟨e1, e2⟩
    refine ⟨h1, h2, cs.setIfInBounds 65547 (.int .u64 (T + 1)), by simp [World.setCell, Array.getElem?_modify, h3]; rfl, by simpa using h4, fun i v hv => ?_⟩
    by_cases e : 65547 = i
    · subst e
      rw [Array.getElem?_setIfInBounds_self] at hv
      split at hv
      · cases hv; exact ⟨.opq 0, t_cell, rfl, rfl⟩
      · cases hv
    · rw [Array.getElem?_setIfInBounds_ne e] at hv
      obtain ⟨t, k1, k2, k3⟩ := h5 i v hv
      refine conv i t v k1 k2 k3 (fun _ e' => e e'.symm) ?_
      obtain ⟨hlt, _⟩ := Array.getElem?_eq_some_iff.1 hv
      omega
  · refine ⟨h1, h2, cs, (Below.heap_setCell w ⟨g, 65547, none⟩ _ b e).trans h3, h4, fun i v hv => ?_⟩
    obtain ⟨t, k1, k2, k3⟩ := h5 i v hv
    refine conv i t v k1 k2 k3 (fun e' => absurd e' e) ?_
    obtain ⟨hlt, _⟩ := Array.getElem?_eq_some_iff.1 hv
    omega
set_option maxRecDepth 100000 in
theorem inv_least {g len cap : Nat} {A : Option Addr} (hI : Inv (mkE T L G J) S j w) (hg : S g = some (1, 77842)) (hc : w.cell? ⟨g, 65553, none⟩ = some (.slice A len cap)) : Inv (mkE T len G J) (S.only g) j w := fun b k n hb => by
  have hb0 := St.only_sub hb
  have hS : ∀ b x, S b = some x → x.1 ≠ 1 → S.only g b = some x := fun b x h hn => St.only_at h (.inl hn)
  obtain ⟨h1, h2, cs, h3, h4, h5⟩ := hI b k n hb0
  refine ⟨h1, h2, cs, h3, h4, fun i v hv => ?_⟩
  obtain ⟨t, k1, k2, k3⟩ := h5 i v hv
  refine ⟨t, k1, k2, ?_⟩
  rcases cell_mild k1 with hm | ⟨rfl, hi, rfl⟩ | ⟨rfl, hi, rfl⟩
  · exact VB.mild (by omega) hm hS k3
  · exact k3
  · have e := St.only_one hb
    subst e
    rw [hg] at hb0
    obtain rfl : 77842 = n := by injection hb0 with e; injection e with _ e
    have hi : i % 77842 = 65553 := hi
    obtain ⟨hlt, hv'⟩ := Array.getElem?_eq_some_iff.1 hv
    obtain rfl : i = 65553 := by omega
    obtain ⟨a, len', cap', q1, q2, q3, q4, q5, q6, q7⟩ := k3
    have hc' : w.cell? ⟨b, 65553, none⟩ = some v := by simp [World.cell?, h3, hv]
    rw [hc, q1] at hc'
    injection hc' with hc'
    injection hc' with e1 e2 e3
    subst e1 e2 e3
    refine ⟨A, len, cap, q1, q2, q3, Nat.le_refl _, q5, q6, ?_⟩
    rcases q7 with q7 | ⟨b', o, n', r1, r2, r3⟩
    · exact .inl q7
    · exact .inr ⟨b', o, n', r1, hS _ _ r2 (show (4 : Nat) ≠ 1 by decide), r3⟩
theorem bd_at (hC : CfgOk Tryz.prog (mkE T L G J) cfg) {g : Nat} (hI : Inv (mkE T L G J) S j w) (hg : S g = some (1, 77842)) (i : Nat) {t : Bt} (hi : i < 77842) (ht : segAt (cfg.segs 1) i = some t) :
    w.cell? ⟨g, i, none⟩ = some ((w.cell? ⟨g, i, none⟩).getD undef) ∧ VB (mkE T L G J) S j #[] t ((w.cell? ⟨g, i, none⟩).getD undef) := by
  obtain ⟨t', v, h1, h2, h3, h4⟩ := hI.cell hg (o := i) hi
  have h2' := cellT_of hC h2
  have e : i % (mkE T L G J).per 1 = i := by show i % 77842 = i; omega
  rw [e, ht] at h2'
  cases h2'
  rw [h1]
  exact ⟨rfl, h4⟩
theorem bd_int (hC : CfgOk Tryz.prog (mkE T L G J) cfg) {g : Nat} (hI : Inv (mkE T L G J) S j w) (hg : S g = some (1, 77842)) (i : Nat) {k : IntKind} {lo hi : Int} (hi' : i < 77842) (ht : segAt (cfg.segs 1) i = some (.int k lo hi)) :
    ∃ x, w.cell? ⟨g, i, none⟩ = some (.int k x) ∧ lo ≤ x ∧ x ≤ hi := by
  obtain ⟨h1, x, h2, h3, h4⟩ := bd_at hC hI hg i hi' ht
  exact ⟨x, by rw [h1, h2], h3, h4⟩
theorem bd_bool (hC : CfgOk Tryz.prog (mkE T L G J) cfg) {g : Nat} (hI : Inv (mkE T L G J) S j w) (hg : S g = some (1, 77842)) (i : Nat) {q : Option Bool} (hi' : i < 77842) (ht : segAt (cfg.segs 1) i = some (.bool q)) :
    ∃ x, w.cell? ⟨g, i, none⟩ = some (.bool x) := by
  obtain ⟨h1, x, h2, _⟩ := bd_at hC hI hg i hi' ht
  exact ⟨x, by rw [h1, h2]⟩
theorem bd_t (hC : CfgOk Tryz.prog (mkE T L G J) cfg) {g : Nat} (hI : Inv (mkE T L G J) S j w) (hg : S g = some (1, 77842)) : w.cell? ⟨g, 65547, none⟩ = some (.int .u64 T) := by
  obtain ⟨h1, h2⟩ := bd_at hC hI hg 65547 (t := .opq 0) (by decide) (by rfl)
  rw [h1, show (w.cell? ⟨g, 65547, none⟩).getD undef = .int .u64 T from h2]
theorem bd_edges (hC : CfgOk Tryz.prog (mkE T L G J) cfg) {g : Nat} (hI : Inv (mkE T L G J) S j w) (hg : S g = some (1, 77842)) :
    ∃ A len cap, w.cell? ⟨g, 65553, none⟩ = some (.slice A len cap) ∧ VB (mkE T L G J) S j #[] (.slice 4 none none) (.slice A len cap) ∧ len ≤ cap ∧ L ≤ len ∧ len ≤ G + j := by
  obtain ⟨h1, A, len, cap, h2, h3⟩ := bd_at hC hI hg 65553 (t := .slice 4 none none) (by decide) (by rfl)
  obtain ⟨k1, k2, k3, k4, k5, k6⟩ := h3
  exact ⟨A, len, cap, by rw [h1, h2], ⟨A, len, cap, rfl, k1, k2, k3, k4, k5, k6⟩, k1, k3, k5 rfl⟩
theorem bd_put (hC : CfgOk Tryz.prog (mkE T L G J) cfg) {g : Nat} (hI : Inv (mkE T L G J) S j w) (hg : S g = some (1, 77842)) (i : Nat) {t : Bt} {u : Value} (hi : i < 77842) (ht : segAt (cfg.segs 1) i = some t) (hf : t.free = true) (hu : VB (mkE T L G J) S j #[] t u) :
    Inv (mkE T L G J) S j (w.setCell ⟨g, i, none⟩ u) := by
  have e : i % (mkE T L G J).per 1 = i := by show i % 77842 = i; omega
  exact hI.set hg hi (by rw [e]; exact cellT_eq hC 1 i ht) hf hu
end
theorem gr_cell (w : World) (g i : Nat) (v : Value) : w.grownBy (w.setCell ⟨g, i, none⟩ v) (some g) :=
  ⟨rfl, rfl, rfl, by simp [World.setCell], fun q _ h => Below.heap_setCell _ _ _ _ (fun e => h (by rw [e]))⟩
theorem gr_trans {a b c : World} {g : Nat} (h : a.grownBy b (some g)) (k : b.grownBy c (some g)) : a.grownBy c (some g) :=
  ⟨k.os.trans h.os, k.tape.trans h.tape, k.output.trans h.output, Nat.le_trans h.size k.size, fun q hq hne => (k.block q (Nat.lt_of_lt_of_le hq h.size) hne).trans (h.block q hq hne)⟩
theorem gr_drew {a b : World} {g : Nat} (h : a.grownBy b (some g)) : a.grownBy b.drew (some g) := ⟨h.os, h.tape, h.output, h.size, h.block⟩
theorem place_bd {t : Int} (h : hitS t = true) : 0 ≤ placeS t ∧ placeS t < 12288 ∧ 16384 ≤ fetchS t ∧ fetchS t < 65536 := by
  obtain ⟨⟨l0, l1⟩, ⟨c0, c1⟩, hh⟩ := cell_bd (hit_is h)
  unfold placeS fetchS
  rw [if_pos h, if_pos h]
  unfold placeN fetchN
  have p := pixN_bd l0 l1 c0 c1
  have c := colN_bd l0 l1 c0 c1
  generalize lineN (frameS t - 14338) = l at *
  generalize cellN (frameS t - 14338) = k at *
  generalize pixN l k = P at *
  generalize colN l k = Q at *
  rcases hh with hh | hh
  · rw [if_pos hh, hh]; omega
  · rw [if_neg (by rw [hh]; decide), hh]; omega
set_option maxRecDepth 100000 in
set_option maxHeartbeats 4000000 in
theorem bnext_run {T : Int} {L G J : Nat} {S : St} {j g : Nat} {w : World} (h0 : 0 ≤ T) (h1 : T ≤ 1000000000) (hG : 1000 ≤ G) (hJ : G + J ≤ 1000000000) (hI : Inv (mkE T L G J) S j w) (hg : S g = some (1, 77842)) :
    Calls Tryz.prog 39 #[.pointer (some ⟨g, 0, none⟩)] w fun x w' => (∃ u, x = .returned u) ∧ Inv (mkE (T + 1) L G J) (S.only g) j w' ∧ w.grownBy w' (some g) := by
  have hC := cfg_ok (L := L) h0 hG hJ
  have hC' := cfg_ok (T := T + 1) (L := L) (by omega) hG hJ
  have hgo : S.only g g = some (1, 77842) := St.only_at hg (.inr rfl)
  have hwt : IntKind.u64.wrap (T + 1) = T + 1 := by simp [IntKind.wrap, IntKind.bits, IntKind.signed]; omega
  obtain ⟨fr, cf, f0, f1⟩ := bd_int hC hI hg 65548 (by decide) (by rfl)
  have hft := fetched_any fr w f0 f1
  have hpl := place_any fr w f0 f1
  obtain ⟨f2, hwf, q0, q1⟩ : ∃ q, IntKind.i64.wrap (fr + 1) = q ∧ -9223372036854775808 ≤ q ∧ q ≤ 9223372036854775807 := ⟨_, rfl, by rw [IntKind.wrap_i64]; omega, by rw [IntKind.wrap_i64]; omega⟩
  have last : ∀ W : World, Inv (mkE T L G J) S j W → w.grownBy W (some g) → (Inv (mkE (T + 1) L G J) (S.only g) j ((W.setCell ⟨g, 65547, none⟩ (.int .u64 (T + 1))).setCell ⟨g, 65548, none⟩ (.int .i64 f2)) ∧ w.grownBy ((W.setCell ⟨g, 65547, none⟩ (.int .u64 (T + 1))).setCell ⟨g, 65548, none⟩ (.int .i64 f2)) (some g)) ∧
      (Inv (mkE (T + 1) L G J) (S.only g) j (((W.setCell ⟨g, 65547, none⟩ (.int .u64 (T + 1))).setCell ⟨g, 65548, none⟩ (.int .i64 f2)).setCell ⟨g, 65548, none⟩ (.int .i64 0)) ∧ w.grownBy (((W.setCell ⟨g, 65547, none⟩ (.int .u64 (T + 1))).setCell ⟨g, 65548, none⟩ (.int .i64 f2)).setCell ⟨g, 65548, none⟩ (.int .i64 0)) (some g)) := fun W hW hg1 => by
    have a := inv_tick hW hg
    have b := bd_put hC' a hgo 65548 (t := I64) (u := .int .i64 f2) (by decide) (by rfl) rfl ⟨f2, rfl, q0, q1⟩
    have c := bd_put hC' b hgo 65548 (t := I64) (u := .int .i64 0) (by decide) (by rfl) rfl ⟨0, rfl, by decide, by decide⟩
    have d := gr_trans (gr_trans hg1 (gr_cell _ g 65547 (.int .u64 (T + 1)))) (gr_cell _ g 65548 (.int .i64 f2))
    exact ⟨⟨b, d⟩, c, gr_trans d (gr_cell _ _ _ _)⟩
  cases hh : hitS fr with
  | true =>
    obtain ⟨p0, p1, e0, e1⟩ := place_bd hh
    obtain ⟨F, hF⟩ : ∃ F : Nat, fetchS fr = (F : Int) := ⟨(fetchS fr).toNat, by omega⟩
    obtain ⟨Q, hQ⟩ : ∃ Q : Nat, placeS fr = (Q : Int) := ⟨(placeS fr).toNat, by omega⟩
    rw [hh, hF] at hft
    rw [hh, hQ] at hpl
    have hF0 : (0 : Int) ≤ (F : Int) := Int.natCast_nonneg _
    have hF1 : (F : Int) < 65536 := by omega
    have hQ0 : (0 : Int) ≤ (Q : Int) := Int.natCast_nonneg _
    have hQ1 : (Q : Int) < 12288 := by omega
    obtain ⟨mv, cM, m0, m1⟩ := bd_int hC hI hg F (by omega) (show segAt (cfg.segs 1) F = some U8 from if_pos (by omega))
    have hsQ : segAt (cfg.segs 1) (65554 + Q) = some U8 := by
      show segAt [(65544, U8), (2, .bool none), (1, .bool (some false)), (1, .opq 0), (1, I64), (1, U8), (2, .bool none), (1, .slice 3 (some 0) none), (1, .slice 4 none none), (12288, U8)] (65554 + Q) = some U8
      simp only [segAt]
      rw [if_neg (by omega), if_neg (by omega), if_neg (by omega), if_neg (by omega), if_neg (by omega), if_neg (by omega), if_neg (by omega), if_neg (by omega), if_neg (by omega), if_pos (by omega)]
    have cS := (bd_at hC hI hg (65554 + Q) (by omega) hsQ).1
    have fS : w.frozen? ⟨g, 65554 + Q, none⟩ = false := hI.fz hg
    have hI1 := bd_put hC hI hg (65554 + Q) (t := U8) (u := .int .u8 mv) (by omega) hsQ rfl ⟨mv, rfl, m0, m1⟩
    have HZ := Lib.hid (And.intro hI1 (gr_cell w g (65554 + Q) (.int .u8 mv)))
    have HL := Lib.hid last
    clear last hI hI1 hh hF hQ p0 p1 e0 e1 hsQ
    generalize (w.cell? ⟨g, 65554 + Q, none⟩).getD undef = old at *
    go_enter Tryz.func39, Tryz.ntmps39
    go_wp2_with fail
    refine hpl.mono ?_
    rintro x w' ⟨rfl, rfl⟩
    clear hpl
    go_wp2_with fail
    refine hft.mono ?_
    rintro x w' ⟨rfl, rfl⟩
    clear hft
    go_upto_region 4 with fail
    go_region
    go_upto_region 5 with fail
    have c48 : (w.setCell ⟨g, 65554 + Q, none⟩ (.int .u8 mv)).drew.cell? ⟨g, 65548, none⟩ = some (.int .i64 fr) := (World.cell?_setCell_other _ _ _ _ (by intro e; injection e with _ e; omega)).trans cf
    have HY := Lib.hid (show Inv (mkE T L G J) S j (w.setCell ⟨g, 65554 + Q, none⟩ (.int .u8 mv)).drew ∧ w.grownBy (w.setCell ⟨g, 65554 + Q, none⟩ (.int .u8 mv)).drew (some g) from ⟨HZ.out.1, gr_drew HZ.out.2⟩)
    clear HZ cM cS fS cf
    generalize (w.setCell ⟨g, 65554 + Q, none⟩ (.int .u8 mv)).drew = W at *
    have c47 := bd_t hC HY.out.1 hg
    have f47 : W.frozen? ⟨g, 65547, none⟩ = false := HY.out.1.fz hg
    have f48 : W.frozen? ⟨g, 65548, none⟩ = false := HY.out.1.fz hg
    have HX := Lib.hid (HL.out W HY.out.1 HY.out.2)
    clear HL HY
    by_cases hl : f2 = 69888
    · subst hl
      go_wp2
      go_end0
      exact ⟨⟨_, rfl⟩, HX.out.2⟩
    · have hl2 : (f2 == 69888) = false := by simpa using hl
      clear hl
      go_wp2
      go_end0
      exact ⟨⟨_, rfl⟩, HX.out.1⟩
  | false =>
    rw [hh] at hft hpl
    have HX := Lib.hid (last w hI (World.grownBy.refl w _))
    have c47 := bd_t hC hI hg
    have f47 : w.frozen? ⟨g, 65547, none⟩ = false := hI.fz hg
    have f48 : w.frozen? ⟨g, 65548, none⟩ = false := hI.fz hg
    clear last hI hh hft
    go_enter Tryz.func39, Tryz.ntmps39
    go_wp2_with fail
    refine hpl.mono ?_
    rintro x w' ⟨rfl, rfl⟩
    clear hpl
    go_upto_region 5 with fail
    by_cases hl : f2 = 69888
    · subst hl
      go_wp2
      go_end0
      exact ⟨⟨_, rfl⟩, HX.out.2⟩
    · have hl2 : (f2 == 69888) = false := by simpa using hl
      clear hl
      go_wp2
      go_end0
      exact ⟨⟨_, rfl⟩, HX.out.1⟩
end Ck
end Go.Proofs.YtnlaedfnifimkaaGreat
namespace Go.Proofs.YtnlaedfnifimkaaGreat
open Go.RowKit
namespace Ck
structure MS (T : Int) (L G J jb c g : Nat) (φ : Nat → Prop) (w : World) : Prop where
  ex : ∃ S j, j ≤ jb ∧ Inv (mkE T L G J) S j w ∧ S c = some (0, 50) ∧ S g = some (1, 77842) ∧ ∀ b, φ b → S b = none ∧ b < w.heap.size
structure Fr (φ : Nat → Prop) (w w' : World) : Prop where
  os : w'.os = w.os
  tape : w'.tape = w.tape
  output : w'.output = w.output
  size : w.heap.size ≤ w'.heap.size
  block : ∀ b, φ b → w'.heap[b]? = w.heap[b]?
theorem Fr.refl (φ : Nat → Prop) (w : World) : Fr φ w w := ⟨rfl, rfl, rfl, Nat.le_refl _, fun _ _ => rfl⟩
theorem Fr.trans {φ : Nat → Prop} {a b c : World} (h : Fr φ a b) (k : Fr φ b c) : Fr φ a c :=
  ⟨k.os.trans h.os, k.tape.trans h.tape, k.output.trans h.output, Nat.le_trans h.size k.size, fun i hi => (k.block i hi).trans (h.block i hi)⟩
theorem Fr.drew {φ : Nat → Prop} {a b : World} (h : Fr φ a b) : Fr φ a b.drew := ⟨h.os, h.tape, h.output, h.size, h.block⟩
theorem Fr.blk {φ : Nat → Prop} {w w' : World} {g t : Nat} {cs : Array Value} (h : Fr φ w w') (hb : Blk w g t cs) (hg : φ g) : Blk w' g t cs := (h.block g hg).trans hb
theorem Fr.below {φ : Nat → Prop} {w w' : World} {B : Nat} (h : Fr φ w w') (hB : ∀ b, b < B → φ b) : Below B w w' := ⟨h.os, h.tape, h.output, h.size, fun k hk => h.block k (hB k hk)⟩
theorem Fr.of_grown {φ : Nat → Prop} {w w' : World} {g : Nat} (h : w.grownBy w' (some g)) (hφ : ∀ b, φ b → b < w.heap.size ∧ b ≠ g) : Fr φ w w' :=
  ⟨h.os, h.tape, h.output, h.size, fun b hb => h.block b (hφ b hb).1 (fun e => (hφ b hb).2 (by injection e))⟩
theorem Fr.of_below {φ : Nat → Prop} {w w' : World} (h : Below w.heap.size w w') (hφ : ∀ b, φ b → b < w.heap.size) : Fr φ w w' := ⟨h.os, h.tape, h.output, h.size, fun b hb => h.block b (hφ b hb)⟩
theorem Fr.of_stp {T : Int} {L G J : Nat} {S S' : St} {tc : List (Kd × Nat)} {φ : Nat → Prop} {w w' : World} (h : Stp (mkE T L G J) S S' w w' tc) (hφ : ∀ b, φ b → S b = none ∧ b < w.heap.size) : Fr φ w w' :=
  ⟨h.os, h.tape, h.output, h.size, fun b hb => h.out b (hφ b hb).2 (hφ b hb).1 (fun e => e)⟩
theorem Stp.none {E : Env} {S S' : St} {tc : List (Kd × Nat)} {φ : Nat → Prop} {w w' : World} (h : Stp E S S' w w' tc) (hφ : ∀ b, φ b → S b = none ∧ b < w.heap.size) : ∀ b, φ b → S' b = none ∧ b < w'.heap.size :=
  fun b hb => ⟨(h.old b (hφ b hb).2).trans (hφ b hb).1, Nat.lt_of_lt_of_le (hφ b hb).2 h.size⟩
theorem level_nil (w : World) : Calls Tryz.prog 26 #[.pointer none] w fun x w' => x = .returned (.bool false) ∧ w = w' := by
  go_enter Tryz.func26, Tryz.ntmps26
  go_wp2
  go_ret
  exact ⟨rfl, rfl⟩
section
variable {T : Int} {L G J jb c g m : Nat} {φ : Nat → Prop} {w : World}
theorem tick_run {S : St} {j : Nat} (h0 : 0 ≤ T) (hG : 1000 ≤ G) (hJ : G + J ≤ 1000000000) (hj : j + 254 ≤ J) (hI : Inv (mkE T L G J) S j w) (hc : S c = some (0, 50)) (hg : S g = some (1, 77842)) :
    Calls Tryz.prog 38 #[.pointer (some ⟨c, 0, none⟩), .iface 75 (.pointer (some ⟨g, 0, none⟩))] w fun x w' => (∃ u, x = .returned u) ∧ ∃ S' j', Stp (mkE T L G J) S S' w w' [(0, 30), (0, 31), (0, 35)] ∧ j' ≤ j + 254 ∧ Inv (mkE T L G J) S' j' w' := by
  have hsig : SigOk Tryz.prog (mkE T L G J) 72 ⟨[TC, .one (.iface 75 1)], .tup [], 254, [(0, 30), (0, 31), (0, 35)]⟩ := tab2_ok h0 hG hJ _ _ (assoc_mem (by kernel_rfl))
  have hcall := hsig.2.2 S j w [.pointer (some ⟨c, 0, none⟩), .iface 75 (.pointer (some ⟨g, 0, none⟩))] hI hj (args2 (vc hc (by decide) rfl) ⟨g, 77842, rfl, hg, by decide⟩)
  clear hsig hI hc hg hj
  go_enter Tryz.func38, Tryz.ntmps38
  go_wp2_with fail
  refine Calls.mono hcall ?_
  rintro e w' ⟨v, rfl, S', j', k1, k2, k3, k4, k5⟩
  clear hcall
  go_wp2
  first | go_end0 | ((try simp only [Exit.inBlock, Exit.then]); refine bodyPost_ret (v := .tuple #[]) (results_none rfl _ _ _) rfl ?_)
  exact ⟨⟨_, rfl⟩, S', j', k1, k3, k4⟩
set_option maxRecDepth 100000 in
theorem MS.ear (hM : MS T L G J jb c g φ w) (h0 : 0 ≤ T) (hG : 1000 ≤ G) (hJ : G + J ≤ 1000000000) (b : Bool) : MS T L G J jb c g φ (w.setCell ⟨g, 65545, none⟩ (.bool b)) ∧ Fr φ w (w.setCell ⟨g, 65545, none⟩ (.bool b)) ∧ (∃ x, w.cell? ⟨g, 65545, none⟩ = some (.bool x)) ∧ w.frozen? ⟨g, 65545, none⟩ = false := by
  obtain ⟨S, j, hj, hI, hc, hg, hφ⟩ := hM.ex
  have hC := cfg_ok (L := L) h0 hG hJ
  refine ⟨⟨S, j, hj, bd_put hC hI hg 65545 (t := .bool none) (u := .bool b) (by decide) (by rfl) rfl ⟨b, rfl, fun _ h => by cases h⟩, hc, hg, fun q hq => ⟨(hφ q hq).1, by simpa [World.setCell] using (hφ q hq).2⟩⟩, ?_, ?_, ?_⟩
  · exact Fr.of_grown (gr_cell _ _ _ _) fun q hq => ⟨(hφ q hq).2, fun e => by have := (hφ q hq).1; rw [e, hg] at this; cases this⟩
  · exact bd_bool hC hI hg 65545 (q := none) (by decide) (by rfl)
  · exact hI.fz hg
theorem MS.drew (h : MS T L G J jb c g φ w) : MS T L G J jb c g φ w.drew := ⟨h.ex⟩
theorem MS.tick (hM : MS T L G J jb c g φ w) (h0 : 0 ≤ T) (hG : 1000 ≤ G) (hJ : G + J ≤ 1000000000) (hj : jb + 254 ≤ J) : Calls Tryz.prog 38 #[.pointer (some ⟨c, 0, none⟩), .iface 75 (.pointer (some ⟨g, 0, none⟩))] w fun x w' => (∃ u, x = .returned u) ∧ MS T L G J (jb + 254) c g φ w' ∧ Fr φ w w' := by
  obtain ⟨S, j, hjb, hI, hc, hg, hφ⟩ := hM.ex
  refine (tick_run h0 hG hJ (by omega) hI hc hg).mono ?_
  rintro x w' ⟨hu, S', j', k1, k2, k3⟩
  exact ⟨hu, ⟨S', j', by omega, k3, k1.ext _ _ hc, k1.ext _ _ hg, k1.none hφ⟩, Fr.of_stp k1 hφ⟩
theorem MS.next (hM : MS T L G J jb c g φ w) (h0 : 0 ≤ T) (h1 : T ≤ 1000000000) (hG : 1000 ≤ G) (hJ : G + J ≤ 1000000000) : Calls Tryz.prog 39 #[.pointer (some ⟨g, 0, none⟩)] w fun x w' => (∃ u, x = .returned u) ∧ MS (T + 1) L G J jb c g φ w' ∧ Fr φ w w' := by
  obtain ⟨S, j, hjb, hI, hc, hg, hφ⟩ := hM.ex
  refine (bnext_run h0 h1 hG hJ hI hg).mono ?_
  rintro x w' ⟨hu, k1, k2⟩
  exact ⟨hu, ⟨S.only g, j, hjb, k1, St.only_at hc (.inl (show (0 : Nat) ≠ 1 by decide)), St.only_at hg (.inr rfl), fun b hb => ⟨St.only_none (hφ b hb).1, Nat.lt_of_lt_of_le (hφ b hb).2 k2.size⟩⟩,
    Fr.of_grown k2 fun b hb => ⟨(hφ b hb).2, fun e => by subst e; have := (hφ b hb).1; rw [hg] at this; cases this⟩⟩
end
set_option maxRecDepth 100000 in
set_option maxHeartbeats 4000000 in
theorem run_any {T : Int} {L G J jb c g m : Nat} {φ : Nat → Prop} {w : World} {x3 x4 x5 x6 x7 : Value} (n : Nat) (hM : MS T L G J jb c g φ w) (h0 : 0 ≤ T) (h1 : T + n ≤ 1000000000) (hG : 1000 ≤ G) (hJ : G + J ≤ 1000000000) (hj : jb + 254 * n ≤ J) (hm : φ m)
    (hB : Blk w m 92 #[.pointer (some ⟨c, 0, none⟩), .pointer (some ⟨g, 0, none⟩), .pointer none, x3, x4, x5, x6, x7]) (hn : n ≤ 1000000) :
    Calls Tryz.prog 14 #[.pointer (some ⟨m, 0, none⟩), .int .u32 n] w fun x w' => (∃ u, x = .returned u) ∧ MS (T + n) L G J (jb + 254 * n) c g φ w' ∧ Fr φ w w' := by
  go_enter Tryz.func14, Tryz.ntmps14
  have H0 := Lib.hid (And.intro hM hB)
  clear hM hB
  go_wp2_with fail
  go_loopg [7] n (fun k x wr => ∃ i : Nat, x = .int .u32 (i : Int) ∧ i + k = n ∧ MS (T + i) L G J (jb + 254 * i) c g φ wr ∧ Fr φ w wr)
  case atStart => exact ⟨0, rfl, by omega, by simpa using H0.out.1, Fr.refl _ _⟩
  case round =>
    obtain ⟨i, rfl, hi, hMr, hFr⟩ := hrel
    have hBr := hFr.blk H0.out.2 hm
    by_cases hlt : i < n
    · have hlt' : (i : Int) < n := by omega
      have hwi : IntKind.u32.wrap ((i : Int) + 1) = (((i + 1 : Nat)) : Int) := by simp [IntKind.wrap, IntKind.bits, IntKind.signed]; omega
      have c0 : wr.cell? ⟨m, 0, none⟩ = some (.pointer (some ⟨c, 0, none⟩)) := (hBr.cell 0).trans rfl
      have c1 : wr.cell? ⟨m, 1, none⟩ = some (.pointer (some ⟨g, 0, none⟩)) := (hBr.cell 1).trans rfl
      have c2 : wr.cell? ⟨m, 2, none⟩ = some (.pointer none) := (hBr.cell 2).trans rfl
      obtain ⟨hE, hEf, ⟨e0, ce⟩, fe⟩ := hMr.ear (by omega) hG hJ false
      have H1 := Lib.hid (And.intro hE (And.intro hEf (And.intro hFr hBr)))
      clear hE hEf hFr hBr hMr
      go_upto_region 5 with fail
      refine wp_region_still_tail 11 (by kernel_rfl) (by kernel_rfl) ?_
      simp only [List.take_succ_cons, List.take_zero, List.drop_succ_cons, List.drop_zero]
      repeat still_step
      still_call (flip (level_nil _))
      repeat still_step
      refine wpStill_nil ?_
      go_wp2_with fail
      have H2 := Lib.hid (show MS (T + i) L G J (jb + 254 * i) c g φ (wr.setCell ⟨g, 65545, none⟩ (.bool false)).drew ∧ Fr φ w (wr.setCell ⟨g, 65545, none⟩ (.bool false)).drew ∧ Blk (wr.setCell ⟨g, 65545, none⟩ (.bool false)).drew m _ _ from ⟨⟨H1.out.1.ex⟩, H1.out.2.2.1.trans ⟨rfl, rfl, rfl, H1.out.2.1.size, H1.out.2.1.block⟩, (H1.out.2.1.block m hm).trans H1.out.2.2.2⟩)
      clear c0 c1 c2 ce fe H1
      go_upto_region 6 with fail
      generalize (wr.setCell ⟨g, 65545, none⟩ (.bool false)).drew = W at *
      have c0 : W.cell? ⟨m, 0, none⟩ = some (.pointer (some ⟨c, 0, none⟩)) := (H2.out.2.2.cell 0).trans rfl
      have c1 : W.cell? ⟨m, 1, none⟩ = some (.pointer (some ⟨g, 0, none⟩)) := (H2.out.2.2.cell 1).trans rfl
      refine wp_region_still_tail 9 (by kernel_rfl) (by kernel_rfl) ?_
      simp only [List.take_succ_cons, List.take_zero, List.drop_succ_cons, List.drop_zero]
      repeat still_step
      refine wpStill_nil ?_
      go_wp2_with fail
      refine (H2.out.1.drew.tick (by omega) hG hJ (by omega)).mono ?_
      rintro x W2 ⟨⟨u, rfl⟩, hE, hF⟩
      have H3 := Lib.hid (And.intro hE (And.intro (H2.out.2.1.drew.trans hF) ((hF.block m hm).trans H2.out.2.2)))
      clear c0 c1 H2 hE hF
      have c1 : W2.cell? ⟨m, 1, none⟩ = some (.pointer (some ⟨g, 0, none⟩)) := (Blk.cell H3.out.2.2 1).trans rfl
      go_wp2_with fail
      refine (H3.out.1.next (by omega) (by omega) hG hJ).mono ?_
      rintro x W3 ⟨⟨u2, rfl⟩, hE, hF⟩
      have H4 := Lib.hid (And.intro hE (H3.out.2.1.trans hF))
      clear c1 H3 hE hF
      go_wp2_with fail
      go_roundg (n - (i + 1))
      case measure => omega
      case rel => exact ⟨i + 1, rfl, by omega, by rw [show T + ((i + 1 : Nat) : Int) = T + i + 1 by omega, show jb + 254 * (i + 1) = jb + 254 * i + 254 by omega]; exact H4.out.1, H4.out.2⟩
    · have hle : ¬ ((i : Int) < n) := by omega
      have H1 := Lib.hid (And.intro hMr hFr)
      clear hMr hFr
      go_wp2
      first | go_end0 | ((try simp only [Exit.inBlock, Exit.then]); refine bodyPost_ret (v := .tuple #[]) (results_none rfl _ _ _) rfl ?_)
      obtain rfl : i = n := by omega
      exact ⟨⟨_, rfl⟩, H1.out⟩
end Ck
end Go.Proofs.YtnlaedfnifimkaaGreat
namespace Go.Proofs.YtnlaedfnifimkaaGreat
open Go.RowKit
namespace Ck
section
variable {T : Int} {L G J jb c g m : Nat} {φ : Nat → Prop} {w w' : World}
theorem MS.below (h : MS T L G J jb c g φ w) (hb : Below w.heap.size w w') : MS T L G J jb c g φ w' := by
  obtain ⟨S, j, h1, h2, h3, h4, h5⟩ := h.ex
  exact ⟨S, j, h1, (stp_below h2 hb).1, h3, h4, fun b hb' => ⟨(h5 b hb').1, Nat.lt_of_lt_of_le (h5 b hb').2 hb.size⟩⟩
theorem MS.lt (h : MS T L G J jb c g φ w) : c < w.heap.size ∧ g < w.heap.size := by
  obtain ⟨S, j, h1, h2, h3, h4, h5⟩ := h.ex
  exact ⟨h2.lt h3, h2.lt h4⟩
theorem MS.not (h : MS T L G J jb c g φ w) {b : Nat} (hb : φ b) : b ≠ c ∧ b ≠ g ∧ b < w.heap.size := by
  obtain ⟨S, j, h1, h2, h3, h4, h5⟩ := h.ex
  obtain ⟨h6, h7⟩ := h5 b hb
  exact ⟨fun e => (by rw [e, h3] at h6; cases h6), fun e => (by rw [e, h4] at h6; cases h6), h7⟩
theorem MS.drewN (h : MS T L G J jb c g φ w) (n : Nat) : MS T L G J jb c g φ (w.drewN n) := ⟨h.ex⟩
theorem MS.setFar (h : MS T L G J jb c g φ w) {m : Nat} (hm : φ m) (i : Nat) (v : Value) : MS T L G J jb c g φ (w.setCell ⟨m, i, none⟩ v) := by
  obtain ⟨S, j, h1, h2, h3, h4, h5⟩ := h.ex
  refine ⟨S, j, h1, fun b k n hb => ?_, h3, h4, fun b hb => ⟨(h5 b hb).1, by simpa [World.setCell] using (h5 b hb).2⟩⟩
  obtain ⟨q1, q2, cs, q3, q4, q5⟩ := h2 b k n hb
  exact ⟨q1, q2, cs, (Below.heap_setCell w ⟨m, i, none⟩ v b (fun e => by simp only at e; subst e; rw [(h5 _ hm).1] at hb; cases hb)).trans q3, q4, q5⟩
theorem MS.time (h : MS T L G J jb c g φ w) (h0 : 0 ≤ T) (hG : 1000 ≤ G) (hJ : G + J ≤ 1000000000) : w.cell? ⟨g, 65547, none⟩ = some (.int .u64 T) := by
  obtain ⟨S, j, h1, h2, h3, h4, h5⟩ := h.ex
  exact bd_t (cfg_ok (L := L) h0 hG hJ) h2 h4
theorem MS.mic (h : MS T L G J jb c g φ w) (h0 : 0 ≤ T) (hG : 1000 ≤ G) (hJ : G + J ≤ 1000000000) : ∃ b, w.cell? ⟨g, 65550, none⟩ = some (.bool b) := by
  obtain ⟨S, j, h1, h2, h3, h4, h5⟩ := h.ex
  exact bd_bool (cfg_ok (L := L) h0 hG hJ) h2 h4 65550 (q := none) (by decide) (by rfl)
structure EdgeAt (g L M : Nat) (T : Int) (A : Option Addr) (len cap : Nat) (zs : List Int) (w : World) : Prop where
  cell : w.cell? ⟨g, 65553, none⟩ = some (.slice A len cap)
  le : len ≤ cap
  low : L ≤ len
  high : len ≤ M
  count : zs.length = len
  rd : Reads w w.heap.size 1 A len (zs.map (Value.int .u64))
  bd : ∀ z ∈ zs, 0 ≤ z ∧ z ≤ T
theorem MS.edges (h : MS T L G J jb c g φ w) (h0 : 0 ≤ T) (hG : 1000 ≤ G) (hJ : G + J ≤ 1000000000) : ∃ A len cap zs, EdgeAt g L (G + jb) T A len cap zs w := by
  obtain ⟨S, j, h1, h2, h3, h4, h5⟩ := h.ex
  obtain ⟨A, len, cap, c1, c2, c3, c4, c5⟩ := bd_edges (cfg_ok (L := L) h0 hG hJ) h2 h4
  obtain ⟨a, len', cap', q1, q2, q3, q4, q5, q6, q7⟩ := c2
  injection q1 with e1 e2 e3
  subst e1 e2 e3
  rcases q7 with ⟨rfl, rfl⟩ | ⟨b, o, n, rfl, k1, k2, k3⟩
  · obtain rfl : len = 0 := by omega
    exact ⟨none, 0, 0, [], c1, c3, c4, by omega, rfl, Reads.none_, fun z hz => by cases hz⟩
  · have k3 : o + cap * 1 ≤ n := k3
    have hz : ∀ i, i < len → ∃ z, w.cell? ⟨b, o + i, none⟩ = some (.int .u64 z) ∧ 0 ≤ z ∧ z ≤ T := fun i hi => by
      obtain ⟨t, v, r1, r2, r3, r4⟩ := h2.cell k1 (o := o + i) (by omega)
      have r2' := cellT_of (cfg_ok (L := L) h0 hG hJ) r2
      have e : (o + i) % (mkE T L G J).per 4 = 0 := by show (o + i) % 1 = 0; omega
      rw [e] at r2'
      have e2 : segAt (cfg.segs 4) 0 = some (.opq 1) := by rfl
      rw [e2] at r2'
      cases r2'
      obtain ⟨x, rfl, x0, x1⟩ := r4
      exact ⟨x, r1, x0, x1⟩
    let f : Nat → Int := fun i => if h : i < len then (hz i h).choose else 0
    have hf : ∀ i, i < len → w.cell? ⟨b, o + i, none⟩ = some (.int .u64 (f i)) ∧ 0 ≤ f i ∧ f i ≤ T := fun i hi => by
      show w.cell? ⟨b, o + i, none⟩ = some (.int .u64 (if h : i < len then (hz i h).choose else 0)) ∧ 0 ≤ (if h : i < len then (hz i h).choose else 0) ∧ (if h : i < len then (hz i h).choose else 0) ≤ T
      rw [dif_pos hi]
      exact (hz i hi).choose_spec
    refine ⟨some ⟨b, o, none⟩, len, cap, (List.range len).map f, c1, c3, c4, by omega, by simp, ⟨by simp, fun _ => ⟨⟨b, o, none⟩, rfl, h2.lt k1, fun i u hu => ?_⟩⟩, fun z hz' => ?_⟩
    · rw [List.map_map, List.getElem?_map] at hu
      rcases hr : (List.range len)[i]? with _ | x
      · rw [hr] at hu; cases hu
      · rw [hr] at hu
        obtain ⟨hlt, hx⟩ := List.getElem?_eq_some_iff.1 hr
        rw [List.getElem_range] at hx
        subst hx
        cases hu
        have := (hf i (by simpa using hlt)).1
        rw [show (⟨b, o, none⟩ : Addr).add i = ⟨b, o + i, none⟩ by unfold Addr.add; split <;> simp_all]
        exact this
    · obtain ⟨i, hi, rfl⟩ := List.mem_map.1 hz'
      exact (hf i (List.mem_range.1 hi)).2
theorem EdgeAt.below {M len cap : Nat} {A : Option Addr} {zs : List Int} (h : EdgeAt g L M T A len cap zs w) (hg : g < w.heap.size) (hb : Below w.heap.size w w') : EdgeAt g L M T A len cap zs w' :=
  ⟨(hb.cell (p := ⟨g, 65553, none⟩) hg).trans h.cell, h.le, h.low, h.high, h.count, Reads.more (Reads.below h.rd hb) hb.size, h.bd⟩
theorem u64Info : (Tryz.prog.info? 82).map (fun i => (i.zero, i.size, i.bytes)) = some (some (.int .u64 0), 1, 8) := by kernel_rfl
set_option maxHeartbeats 1000000 in
theorem clone_any (w : World) (n c : Nat) (A : Option Addr) (zs : List Value) (hr : Reads w w.heap.size 1 A n zs) (hone : ∀ u ∈ zs, u.oneCell' = true) (hn : n ≤ 1000000000) :
    Calls Tryz.prog 80 #[.slice A n c] w fun e w' => ∃ V cV, e = .returned (.slice V n cV) ∧ w'.ownsRow w.heap.size 82 1 (.slice V n cV) n zs ∧ Below w.heap.size w w' := by
  obtain ⟨i0, hi, hz0, hz1, hz2⟩ := info_parts u64Info
  rcases A with _ | ad
  · have h0 : n = 0 := by
      rcases Nat.eq_zero_or_pos n with h | h
      · exact h
      · obtain ⟨ad, e, _⟩ := hr.2 h; cases e
    subst h0
    have hz : zs = [] := List.eq_nil_of_length_eq_zero (by have := hr.1; omega)
    subst hz
    have hnil := Lib.run_eql_slice_nil (P := Tryz.prog) w 84 82 none 0 c 0 0 Tryz.underlying84
    go_enter Tryz.func80, Tryz.ntmps80
    go_wp2
    go_ret
    exact ⟨none, 0, rfl, World.ownsRow_nil _ _ _ _, Below.refl _ _⟩
  · have hnil := Lib.run_eql_slice_nil (P := Tryz.prog) w 84 82 (some ad) n c 0 0 Tryz.underlying84
    have hb0 : Below w.heap.size w (w.alloc (.cells #[] 82)) := (Below.refl _ _).alloc (Nat.le_refl _) _
    have hlit : (w.alloc (.cells #[] 82)).ownsRow w.heap.size 82 1 (.slice (some ⟨w.heap.size, 0, none⟩) 0 0) 0 [] := World.ownsRow_lit w #[] 0 (Nat.le_refl _) (by unfold maxLen; omega) rfl
    have hr0 := hr.below hb0
    go_enter Tryz.func80, Tryz.ntmps80
    go_wp2_with (first
      | (at_builtin; refine wpList_append_any _ rfl _ _ 84 rfl w.heap.size 82 i0 (.int .u64 0) 1 8 Tryz.underlying84 hi hz0 hz1 hz2 rfl (by omega) _ 0 [] rfl hlit w.heap.size (some ad) n c zs rfl hr0 hone (by unfold maxLen; omega) (by omega) (by have := hb0.size; omega) ?_)
      | go_in)
    intro v2 w2 own2 hg2 _
    have hb2 : Below w.heap.size w w2 := hb0.grown hg2 hb0.size (fun i hi => by simp [Value.ownBlock] at hi; omega)
    have own3 : w2.ownsRow w.heap.size 82 1 v2 n zs := by simpa using own2
    obtain ⟨A3, c3, rfl⟩ := own_slice own3
    go_wp2
    go_ret
    exact ⟨A3, c3, rfl, own3, hb2⟩
theorem ms_T (h : MS T L G J jb c g φ w) (h0 : 0 ≤ T) (hG : 1000 ≤ G) (hJ : G + J ≤ 1000000000) : Calls Tryz.prog 42 #[.pointer (some ⟨g, 0, none⟩)] w fun x w' => x = .returned (.int .u64 T) ∧ w = w' := by
  have ct := h.time h0 hG hJ
  clear h
  go_enter Tryz.func42, Tryz.ntmps42
  go_wp2
  go_ret
  exact ⟨rfl, rfl⟩
theorem ms_mic {b : Bool} (ct : w.cell? ⟨g, 65550, none⟩ = some (.bool b)) : Calls Tryz.prog 44 #[.pointer (some ⟨g, 0, none⟩)] w fun x w' => x = .returned (.bool b) ∧ w = w' := by
  go_enter Tryz.func44, Tryz.ntmps44
  go_wp2
  go_ret
  exact ⟨rfl, rfl⟩
theorem ms_edges {M len cap : Nat} {A : Option Addr} {zs : List Int} (h : EdgeAt g L M T A len cap zs w) (hM : M ≤ 1000000000) : Calls Tryz.prog 43 #[.pointer (some ⟨g, 0, none⟩)] w fun x w' => ∃ V cV, x = .returned (.slice V len cV) ∧ w'.ownsRow w.heap.size 82 1 (.slice V len cV) len (zs.map (Value.int .u64)) ∧ Below w.heap.size w w' := by
  have ct := h.cell
  have hcl := clone_any w len cap A _ h.rd (by intro u hu; obtain ⟨x, _, rfl⟩ := List.mem_map.1 hu; rfl) (by have := h.high; omega)
  clear h
  go_enter Tryz.func43, Tryz.ntmps43
  go_wp2_with fail
  refine hcl.mono ?_
  rintro x w' ⟨V, cV, rfl, h1, h2⟩
  have HX := Lib.hid (And.intro h1 h2)
  clear hcl h1 h2
  go_wp2
  go_ret
  exact ⟨V, cV, rfl, HX.out.1, HX.out.2⟩
end
theorem MS.leastL {T : Int} {L G J jb c g M len cap : Nat} {A : Option Addr} {zs : List Int} {φ : Nat → Prop} {w : World} (h : MS T L G J jb c g φ w) (he : EdgeAt g L M T A len cap zs w) : MS T len G J jb c g φ w := by
  obtain ⟨S, j, h1, h2, h3, h4, h5⟩ := h.ex
  exact ⟨S.only g, j, h1, inv_least h2 h4 he.cell, St.only_at h3 (.inl (show (0 : Nat) ≠ 1 by decide)), St.only_at h4 (.inr rfl), fun b hb => ⟨St.only_none (h5 b hb).1, (h5 b hb).2⟩⟩
def but (φ : Nat → Prop) (m : Nat) : Nat → Prop := fun b => φ b ∧ b ≠ m
set_option maxRecDepth 100000 in
set_option maxHeartbeats 8000000 in
theorem record_any {T : Int} {L G J jb c g m : Nat} {φ : Nat → Prop} {w : World} {x3 x4 x5 x6 x7 : Value} (hM : MS T L G J jb c g φ w) (h0 : 0 ≤ T) (hG : 1000 ≤ G) (hJ : G + J ≤ 1000000000) (hm : φ m) (hjb : jb ≤ J)
    (hB : Blk w m 92 #[.pointer (some ⟨c, 0, none⟩), .pointer (some ⟨g, 0, none⟩), .pointer none, x3, x4, x5, x6, x7]) :
    Calls Tryz.prog 19 #[.pointer (some ⟨m, 0, none⟩)] w fun x w' => (∃ u, x = .returned u) ∧ ∃ (len : Nat) (b : Bool), len ≤ G + jb ∧ MS T len G J jb c g φ w' ∧ Fr (but φ m) w w' ∧ Blk w' m 92 #[.pointer (some ⟨c, 0, none⟩), .pointer (some ⟨g, 0, none⟩), .pointer none, x3, .bool true, .int .u64 T, .int .i64 len, .bool b] := by
  obtain ⟨A, len, cap, zs, hE⟩ := hM.edges h0 hG hJ
  obtain ⟨b, hb⟩ := hM.mic h0 hG hJ
  have hlt := hM.lt
  have c1 : w.cell? ⟨m, 1, none⟩ = some (.pointer (some ⟨g, 0, none⟩)) := (hB.cell 1).trans rfl
  have H0 := Lib.hid (And.intro hM (And.intro hB (And.intro hE (And.intro hb hlt))))
  clear hM hB hE hb hlt
  go_enter Tryz.func19, Tryz.ntmps19
  go_upto_region 1 with fail
  refine wp_region_held_drew (S := fun w' => w'.cell? ⟨m, 1, none⟩ = some (.pointer (some ⟨g, 0, none⟩))) (by kernel_rfl) ?_ (fun hHeld => ?_)
  · exact c1
  clear c1
  have K0 := Lib.hid (show MS T L G J jb c g φ w.drew ∧ Blk w.drew m _ _ ∧ EdgeAt g L (G + jb) T A len cap zs w.drew ∧ w.drew.cell? ⟨g, 65550, none⟩ = some (.bool b) ∧ g < w.drew.heap.size ∧ Below w.heap.size w w.drew from ⟨H0.out.1.drew, H0.out.2.1, ⟨H0.out.2.2.1.cell, H0.out.2.2.1.le, H0.out.2.2.1.low, H0.out.2.2.1.high, H0.out.2.2.1.count, H0.out.2.2.1.rd, H0.out.2.2.1.bd⟩, H0.out.2.2.2.1, H0.out.2.2.2.2.2, (Below.refl _ _).drew⟩)
  have hw := Lib.hid (show ∀ b, φ b → b < w.heap.size from fun b hb => (H0.out.1.not hb).2.2)
  clear H0
  generalize w.drew = W at *
  refine wpAnyH_take (i := 0) (oi := _) (v := ?_) (by simp only [List.getElem?_toArray, List.getElem?_cons_succ, List.getElem?_cons_zero]; rfl) (by kernel_rfl) (by kernel_rfl) (by kernel_rfl) (by intro _ _ _ h; exact h) (Or.inl ⟨by rfl, ?_⟩) (by assumption) ?_
  rotate_left
  · intro w hSw
    try dsimp only at hSw
    go_simp
    try with_reducible rfl
  try simp only [Act.put, List.setIfInBounds_toArray, List.set_cons_zero, List.set_cons_succ]
  refine wpAnyH_take (i := 1) (oi := _) (v := ?_) (by simp only [List.getElem?_toArray, List.getElem?_cons_succ, List.getElem?_cons_zero]; rfl) (by kernel_rfl) (by kernel_rfl) (by kernel_rfl) (by intro _ _ _ h; exact h) (Or.inl ⟨by rfl, ?_⟩) (by assumption) ?_
  rotate_left
  · intro w hSw
    try dsimp only at hSw
    go_simp
    try with_reducible rfl
  try simp only [Act.put, List.setIfInBounds_toArray, List.set_cons_zero, List.set_cons_succ]
  refine wpAnyH_take (i := 2) (oi := _) (v := ?_) (by simp only [List.getElem?_toArray, List.getElem?_cons_succ, List.getElem?_cons_zero]; rfl) (by kernel_rfl) (by kernel_rfl) (by kernel_rfl) (by intro _ _ _ h; exact h) (Or.inl ⟨by rfl, ?_⟩) (by assumption) ?_
  rotate_left
  · intro w hSw
    try dsimp only at hSw
    go_simp
    try with_reducible rfl
  try simp only [Act.put, List.setIfInBounds_toArray, List.set_cons_zero, List.set_cons_succ]
  refine wpAnyH_take (i := 3) (oi := _) (v := ?_) (by simp only [List.getElem?_toArray, List.getElem?_cons_succ, List.getElem?_cons_zero]; rfl) (by kernel_rfl) (by kernel_rfl) (by kernel_rfl) (by intro _ _ _ h; exact h) (Or.inl ⟨by rfl, ?_⟩) (by assumption) ?_
  rotate_left
  · intro w hSw
    try dsimp only at hSw
    go_simp
    try with_reducible rfl
  try simp only [Act.put, List.setIfInBounds_toArray, List.set_cons_zero, List.set_cons_succ]
  refine wpAnyH_take (i := 4) (oi := _) (v := ?_) (by simp only [List.getElem?_toArray, List.getElem?_cons_succ, List.getElem?_cons_zero]; rfl) (by kernel_rfl) (by kernel_rfl) (by kernel_rfl) (by intro _ _ _ h; exact h) (Or.inl ⟨by rfl, ?_⟩) (by assumption) ?_
  rotate_left
  · intro w hSw
    try dsimp only at hSw
    go_simp
    try with_reducible rfl
  try simp only [Act.put, List.setIfInBounds_toArray, List.set_cons_zero, List.set_cons_succ]
  refine wpAnyH_take (i := 5) (oi := _) (v := ?_) (by simp only [List.getElem?_toArray, List.getElem?_cons_succ, List.getElem?_cons_zero]; rfl) (by kernel_rfl) (by kernel_rfl) (by kernel_rfl) (by intro _ _ _ h; exact h) (Or.inl ⟨by rfl, ?_⟩) (by assumption) ?_
  rotate_left
  · intro w hSw
    try dsimp only at hSw
    go_simp
    try with_reducible rfl
  try simp only [Act.put, List.setIfInBounds_toArray, List.set_cons_zero, List.set_cons_succ]
  refine wpAnyH_take (i := 6) (oi := _) (v := ?_) (by simp only [List.getElem?_toArray, List.getElem?_cons_succ, List.getElem?_cons_zero]; rfl) (by kernel_rfl) (by kernel_rfl) (by kernel_rfl) (by intro _ _ _ h; exact h) (Or.inl ⟨by rfl, ?_⟩) (by assumption) ?_
  rotate_left
  · intro w hSw
    try dsimp only at hSw
    go_simp
    try with_reducible rfl
  try simp only [Act.put, List.setIfInBounds_toArray, List.set_cons_zero, List.set_cons_succ]
  refine wpAnyH_take (i := 7) (oi := _) (v := ?_) (by simp only [List.getElem?_toArray, List.getElem?_cons_succ, List.getElem?_cons_zero]; rfl) (by kernel_rfl) (by kernel_rfl) (by kernel_rfl) (by intro _ _ _ h; exact h) (Or.inl ⟨by rfl, ?_⟩) (by assumption) ?_
  rotate_left
  · intro w hSw
    try dsimp only at hSw
    go_simp
    try with_reducible rfl
  try simp only [Act.put, List.setIfInBounds_toArray, List.set_cons_zero, List.set_cons_succ]
  refine wpAnyH_take (i := 9) (oi := _) (v := ?_) (by simp only [List.getElem?_toArray, List.getElem?_cons_succ, List.getElem?_cons_zero]; rfl) (by kernel_rfl) (by kernel_rfl) (by kernel_rfl) (by intro _ _ _ h; exact h) (Or.inl ⟨by rfl, ?_⟩) (by assumption) ?_
  rotate_left
  · intro w hSw
    try dsimp only at hSw
    go_simp
    try with_reducible rfl
  try simp only [Act.put, List.setIfInBounds_toArray, List.set_cons_zero, List.set_cons_succ]
  refine wpAnyH_take (i := 10) (oi := _) (v := ?_) (by simp only [List.getElem?_toArray, List.getElem?_cons_succ, List.getElem?_cons_zero]; rfl) (by kernel_rfl) (by kernel_rfl) (by kernel_rfl) (by intro _ _ _ h; exact h) (Or.inl ⟨by rfl, ?_⟩) (by assumption) ?_
  rotate_left
  · intro w hSw
    try dsimp only at hSw
    go_simp
    try with_reducible rfl
  try simp only [Act.put, List.setIfInBounds_toArray, List.set_cons_zero, List.set_cons_succ]
  refine wpAnyH_take (i := 11) (oi := _) (v := ?_) (by simp only [List.getElem?_toArray, List.getElem?_cons_succ, List.getElem?_cons_zero]; rfl) (by kernel_rfl) (by kernel_rfl) (by kernel_rfl) (by intro _ _ _ h; exact h) (Or.inl ⟨by rfl, ?_⟩) (by assumption) ?_
  rotate_left
  · intro w hSw
    try dsimp only at hSw
    go_simp
    try with_reducible rfl
  try simp only [Act.put, List.setIfInBounds_toArray, List.set_cons_zero, List.set_cons_succ]
  refine wpAnyH_take (i := 12) (oi := _) (v := ?_) (by simp only [List.getElem?_toArray, List.getElem?_cons_succ, List.getElem?_cons_zero]; rfl) (by kernel_rfl) (by kernel_rfl) (by kernel_rfl) (by intro _ _ _ h; exact h) (Or.inl ⟨by rfl, ?_⟩) (by assumption) ?_
  rotate_left
  · intro w hSw
    try dsimp only at hSw
    go_simp
    try with_reducible rfl
  try simp only [Act.put, List.setIfInBounds_toArray, List.set_cons_zero, List.set_cons_succ]
  refine wpAnyH_take (i := 15) (oi := _) (v := ?_) (by simp only [List.getElem?_toArray, List.getElem?_cons_succ, List.getElem?_cons_zero]; rfl) (by kernel_rfl) (by kernel_rfl) (by kernel_rfl) (by intro _ _ _ h; exact h) (Or.inl ⟨by rfl, ?_⟩) (by assumption) ?_
  rotate_left
  · intro w hSw
    try dsimp only at hSw
    go_simp
    try with_reducible rfl
  try simp only [Act.put, List.setIfInBounds_toArray, List.set_cons_zero, List.set_cons_succ]
  refine wpAnyH_take (i := 16) (oi := _) (v := ?_) (by simp only [List.getElem?_toArray, List.getElem?_cons_succ, List.getElem?_cons_zero]; rfl) (by kernel_rfl) (by kernel_rfl) (by kernel_rfl) (by intro _ _ _ h; exact h) (Or.inl ⟨by rfl, ?_⟩) (by assumption) ?_
  rotate_left
  · intro w hSw
    try dsimp only at hSw
    go_simp
    try with_reducible rfl
  try simp only [Act.put, List.setIfInBounds_toArray, List.set_cons_zero, List.set_cons_succ]
  refine wpAnyH_take (i := 17) (oi := _) (v := ?_) (by simp only [List.getElem?_toArray, List.getElem?_cons_succ, List.getElem?_cons_zero]; rfl) (by kernel_rfl) (by kernel_rfl) (by kernel_rfl) (by intro _ _ _ h; exact h) (Or.inl ⟨by rfl, ?_⟩) (by assumption) ?_
  rotate_left
  · intro w hSw
    try dsimp only at hSw
    go_simp
    try with_reducible rfl
  try simp only [Act.put, List.setIfInBounds_toArray, List.set_cons_zero, List.set_cons_succ]
  refine wpAnyH_take (i := 18) (oi := _) (v := ?_) (by simp only [List.getElem?_toArray, List.getElem?_cons_succ, List.getElem?_cons_zero]; rfl) (by kernel_rfl) (by kernel_rfl) (by kernel_rfl) (by intro _ _ _ h; exact h) (Or.inl ⟨by rfl, ?_⟩) (by assumption) ?_
  rotate_left
  · intro w hSw
    try dsimp only at hSw
    go_simp
    try with_reducible rfl
  try simp only [Act.put, List.setIfInBounds_toArray, List.set_cons_zero, List.set_cons_succ]
  refine wpAnyH_ready (rs := [8]) (by kernel_rfl) (by simp) ?_
  refine AllReadyH.cons (o := _) (by simp only [List.getElem?_toArray, List.getElem?_cons_succ, List.getElem?_cons_zero]; rfl) (fun K hK => ?_) AllReadyH.nil
  go_simp
  go_wp2_with fail
  refine (ms_T K0.out.1 h0 hG hJ).mono ?_
  rintro x w1 ⟨rfl, rfl⟩
  refine hK.out _ _ ?_ (fun hHeld => ?_)
  · exact (K0.out.2.1.cell 1).trans rfl
  clear hK K
  try simp only [Act.put, List.setIfInBounds_toArray, List.set_cons_zero, List.set_cons_succ]
  refine wpAnyH_ready (rs := [13]) (by kernel_rfl) (by simp) ?_
  refine AllReadyH.cons (o := _) (by simp only [List.getElem?_toArray, List.getElem?_cons_succ, List.getElem?_cons_zero]; rfl) (fun K hK => ?_) AllReadyH.nil
  go_simp
  go_wp2_with fail
  refine (ms_edges K0.out.2.2.1 (by omega)).mono ?_
  rintro x w1 ⟨V, cV, rfl, _, hb1⟩
  have K1 := Lib.hid (show MS T L G J jb c g φ w1 ∧ Blk w1 m _ _ ∧ EdgeAt g L (G + jb) T A len cap zs w1 ∧ w1.cell? ⟨g, 65550, none⟩ = some (.bool b) ∧ g < w1.heap.size ∧ Below w.heap.size w w1 from ⟨K0.out.1.below hb1, K0.out.2.1.below hb1 K0.out.2.1.lt, K0.out.2.2.1.below K0.out.2.2.2.2.1 hb1, (hb1.cell (p := ⟨g, 65550, none⟩) K0.out.2.2.2.2.1).trans K0.out.2.2.2.1, Nat.lt_of_lt_of_le K0.out.2.2.2.2.1 hb1.size, K0.out.2.2.2.2.2.trans (hb1.mono K0.out.2.2.2.2.2.size)⟩)
  clear K0 hb1
  refine hK.out _ _ ?_ (fun hHeld => ?_)
  · exact (K1.out.2.1.cell 1).trans rfl
  clear hK K
  try simp only [Act.put, List.setIfInBounds_toArray, List.set_cons_zero, List.set_cons_succ]
  refine wpAnyH_take (i := 14) (oi := _) (v := ?_) (by simp only [List.getElem?_toArray, List.getElem?_cons_succ, List.getElem?_cons_zero]; rfl) (by kernel_rfl) (by kernel_rfl) (by kernel_rfl) (by intro _ _ _ h; exact h) (Or.inl ⟨by rfl, ?_⟩) (by assumption) ?_
  rotate_left
  · intro w hSw
    try dsimp only at hSw
    go_simp
    try with_reducible rfl
  try simp only [Act.put, List.setIfInBounds_toArray, List.set_cons_zero, List.set_cons_succ]
  refine wpAnyH_ready (rs := [19]) (by kernel_rfl) (by simp) ?_
  refine AllReadyH.cons (o := _) (by simp only [List.getElem?_toArray, List.getElem?_cons_succ, List.getElem?_cons_zero]; rfl) (fun K hK => ?_) AllReadyH.nil
  go_simp
  go_wp2_with fail
  refine (ms_mic K1.out.2.2.2.1).mono ?_
  rintro x w2 ⟨rfl, rfl⟩
  refine hK.out _ _ ?_ (fun hHeld => ?_)
  · exact (K1.out.2.1.cell 1).trans rfl
  clear hK K
  try simp only [Act.put, List.setIfInBounds_toArray, List.set_cons_zero, List.set_cons_succ]
  have R1 := Lib.hid (show MS T len G J jb c g φ w1 ∧ Blk w1 m _ _ ∧ Fr (but φ m) w w1 from ⟨K1.out.1.leastL K1.out.2.2.1, K1.out.2.1, Fr.of_below K1.out.2.2.2.2.2 fun q hq => hw.out q hq.1⟩)
  have HH := Lib.hid K1.out.2.2.1.high
  clear K1
  have c4 : w1.cell? ⟨m, 4, none⟩ = some x4 := (R1.out.2.1.cell 4).trans rfl
  have z4 : w1.frozen? ⟨m, 4, none⟩ = false := R1.out.2.1.frozen 4
  refine wpAnyH_take (i := 20) (oi := _) (v := ?_) (by simp only [List.getElem?_toArray, List.getElem?_cons_succ, List.getElem?_cons_zero]; rfl) (by kernel_rfl) (by kernel_rfl) (by kernel_rfl) (by intro _ _ _ h; exact h) (Or.inl ⟨by rfl, ?_⟩) (by assumption) ?_
  rotate_left
  · intro w hSw
    try dsimp only at hSw
    go_simp
    try with_reducible rfl
  try simp only [Act.put, List.setIfInBounds_toArray, List.set_cons_zero, List.set_cons_succ]
  refine wpAnyH_take (i := 21) (oi := _) (v := ?_) (by simp only [List.getElem?_toArray, List.getElem?_cons_succ, List.getElem?_cons_zero]; rfl) (by kernel_rfl) (by kernel_rfl) (by kernel_rfl) (by intro _ _ _ h; exact h) (Or.inl ⟨by rfl, ?_⟩) (by assumption) ?_
  rotate_left
  · intro w hSw
    try dsimp only at hSw
    go_simp
    try with_reducible rfl
  try simp only [Act.put, List.setIfInBounds_toArray, List.set_cons_zero, List.set_cons_succ]
  refine wpAnyH_ready (rs := [22]) (by kernel_rfl) (by simp) ?_
  refine AllReadyH.cons (o := _) (by simp only [List.getElem?_toArray, List.getElem?_cons_succ, List.getElem?_cons_zero]; rfl) (fun K hK => ?_) AllReadyH.nil
  go_simp
  refine hK.out _ _ ?_ (fun hHeld => ?_)
  · exact (World.cell?_setCell_other _ _ _ _ (by intro e; injection e with _ e; exact absurd e (by decide))).trans ((R1.out.2.1.cell 1).trans rfl)
  clear hK K
  try simp only [Act.put, List.setIfInBounds_toArray, List.set_cons_zero, List.set_cons_succ]
  have R2 := Lib.hid (show MS T len G J jb c g φ (w1.setCell ⟨m, 4, none⟩ (.bool true)) ∧ Blk (w1.setCell ⟨m, 4, none⟩ (.bool true)) m 92 #[.pointer (some ⟨c, 0, none⟩), .pointer (some ⟨g, 0, none⟩), .pointer none, x3, .bool true, x5, x6, x7] ∧ Fr (but φ m) w (w1.setCell ⟨m, 4, none⟩ (.bool true)) from ⟨R1.out.1.setFar hm _ _, R1.out.2.1.set_ 4 _, R1.out.2.2.trans (Fr.of_grown (gr_cell _ m _ _) fun q hq => ⟨(R1.out.1.not hq.1).2.2, hq.2⟩)⟩)
  clear R1 c4 z4
  generalize (w1.setCell ⟨m, 4, none⟩ (.bool true)) = w2 at *
  have c5 : w2.cell? ⟨m, 5, none⟩ = some x5 := (R2.out.2.1.cell 5).trans rfl
  have z5 : w2.frozen? ⟨m, 5, none⟩ = false := R2.out.2.1.frozen 5
  refine wpAnyH_take (i := 23) (oi := _) (v := ?_) (by simp only [List.getElem?_toArray, List.getElem?_cons_succ, List.getElem?_cons_zero]; rfl) (by kernel_rfl) (by kernel_rfl) (by kernel_rfl) (by intro _ _ _ h; exact h) (Or.inl ⟨by rfl, ?_⟩) (by assumption) ?_
  rotate_left
  · intro w hSw
    try dsimp only at hSw
    go_simp
    try with_reducible rfl
  try simp only [Act.put, List.setIfInBounds_toArray, List.set_cons_zero, List.set_cons_succ]
  refine wpAnyH_take (i := 24) (oi := _) (v := ?_) (by simp only [List.getElem?_toArray, List.getElem?_cons_succ, List.getElem?_cons_zero]; rfl) (by kernel_rfl) (by kernel_rfl) (by kernel_rfl) (by intro _ _ _ h; exact h) (Or.inl ⟨by rfl, ?_⟩) (by assumption) ?_
  rotate_left
  · intro w hSw
    try dsimp only at hSw
    go_simp
    try with_reducible rfl
  try simp only [Act.put, List.setIfInBounds_toArray, List.set_cons_zero, List.set_cons_succ]
  refine wpAnyH_ready (rs := [25]) (by kernel_rfl) (by simp) ?_
  refine AllReadyH.cons (o := _) (by simp only [List.getElem?_toArray, List.getElem?_cons_succ, List.getElem?_cons_zero]; rfl) (fun K hK => ?_) AllReadyH.nil
  go_simp
  refine hK.out _ _ ?_ (fun hHeld => ?_)
  · exact (World.cell?_setCell_other _ _ _ _ (by intro e; injection e with _ e; exact absurd e (by decide))).trans ((R2.out.2.1.cell 1).trans rfl)
  clear hK K
  try simp only [Act.put, List.setIfInBounds_toArray, List.set_cons_zero, List.set_cons_succ]
  have R3 := Lib.hid (show MS T len G J jb c g φ (w2.setCell ⟨m, 5, none⟩ (.int .u64 T)) ∧ Blk (w2.setCell ⟨m, 5, none⟩ (.int .u64 T)) m 92 #[.pointer (some ⟨c, 0, none⟩), .pointer (some ⟨g, 0, none⟩), .pointer none, x3, .bool true, .int .u64 T, x6, x7] ∧ Fr (but φ m) w (w2.setCell ⟨m, 5, none⟩ (.int .u64 T)) from ⟨R2.out.1.setFar hm _ _, R2.out.2.1.set_ 5 _, R2.out.2.2.trans (Fr.of_grown (gr_cell _ m _ _) fun q hq => ⟨(R2.out.1.not hq.1).2.2, hq.2⟩)⟩)
  clear R2 c5 z5
  generalize (w2.setCell ⟨m, 5, none⟩ (.int .u64 T)) = w3 at *
  have c6 : w3.cell? ⟨m, 6, none⟩ = some x6 := (R3.out.2.1.cell 6).trans rfl
  have z6 : w3.frozen? ⟨m, 6, none⟩ = false := R3.out.2.1.frozen 6
  refine wpAnyH_take (i := 26) (oi := _) (v := ?_) (by simp only [List.getElem?_toArray, List.getElem?_cons_succ, List.getElem?_cons_zero]; rfl) (by kernel_rfl) (by kernel_rfl) (by kernel_rfl) (by intro _ _ _ h; exact h) (Or.inl ⟨by rfl, ?_⟩) (by assumption) ?_
  rotate_left
  · intro w hSw
    try dsimp only at hSw
    go_simp
    try with_reducible rfl
  try simp only [Act.put, List.setIfInBounds_toArray, List.set_cons_zero, List.set_cons_succ]
  refine wpAnyH_take (i := 27) (oi := _) (v := ?_) (by simp only [List.getElem?_toArray, List.getElem?_cons_succ, List.getElem?_cons_zero]; rfl) (by kernel_rfl) (by kernel_rfl) (by kernel_rfl) (by intro _ _ _ h; exact h) (Or.inl ⟨by rfl, ?_⟩) (by assumption) ?_
  rotate_left
  · intro w hSw
    try dsimp only at hSw
    go_simp
    try with_reducible rfl
  try simp only [Act.put, List.setIfInBounds_toArray, List.set_cons_zero, List.set_cons_succ]
  refine wpAnyH_ready (rs := [28]) (by kernel_rfl) (by simp) ?_
  refine AllReadyH.cons (o := _) (by simp only [List.getElem?_toArray, List.getElem?_cons_succ, List.getElem?_cons_zero]; rfl) (fun K hK => ?_) AllReadyH.nil
  go_simp
  refine hK.out _ _ ?_ (fun hHeld => ?_)
  · exact (World.cell?_setCell_other _ _ _ _ (by intro e; injection e with _ e; exact absurd e (by decide))).trans ((R3.out.2.1.cell 1).trans rfl)
  clear hK K
  try simp only [Act.put, List.setIfInBounds_toArray, List.set_cons_zero, List.set_cons_succ]
  have R4 := Lib.hid (show MS T len G J jb c g φ (w3.setCell ⟨m, 6, none⟩ (.int .i64 len)) ∧ Blk (w3.setCell ⟨m, 6, none⟩ (.int .i64 len)) m 92 #[.pointer (some ⟨c, 0, none⟩), .pointer (some ⟨g, 0, none⟩), .pointer none, x3, .bool true, .int .u64 T, .int .i64 len, x7] ∧ Fr (but φ m) w (w3.setCell ⟨m, 6, none⟩ (.int .i64 len)) from ⟨R3.out.1.setFar hm _ _, R3.out.2.1.set_ 6 _, R3.out.2.2.trans (Fr.of_grown (gr_cell _ m _ _) fun q hq => ⟨(R3.out.1.not hq.1).2.2, hq.2⟩)⟩)
  clear R3 c6 z6
  generalize (w3.setCell ⟨m, 6, none⟩ (.int .i64 len)) = w4 at *
  have c7 : w4.cell? ⟨m, 7, none⟩ = some x7 := (R4.out.2.1.cell 7).trans rfl
  have z7 : w4.frozen? ⟨m, 7, none⟩ = false := R4.out.2.1.frozen 7
  refine wpAnyH_take (i := 29) (oi := _) (v := ?_) (by simp only [List.getElem?_toArray, List.getElem?_cons_succ, List.getElem?_cons_zero]; rfl) (by kernel_rfl) (by kernel_rfl) (by kernel_rfl) (by intro _ _ _ h; exact h) (Or.inl ⟨by rfl, ?_⟩) (by assumption) ?_
  rotate_left
  · intro w hSw
    try dsimp only at hSw
    go_simp
    try with_reducible rfl
  try simp only [Act.put, List.setIfInBounds_toArray, List.set_cons_zero, List.set_cons_succ]
  refine wpAnyH_take (i := 30) (oi := _) (v := ?_) (by simp only [List.getElem?_toArray, List.getElem?_cons_succ, List.getElem?_cons_zero]; rfl) (by kernel_rfl) (by kernel_rfl) (by kernel_rfl) (by intro _ _ _ h; exact h) (Or.inl ⟨by rfl, ?_⟩) (by assumption) ?_
  rotate_left
  · intro w hSw
    try dsimp only at hSw
    go_simp
    try with_reducible rfl
  try simp only [Act.put, List.setIfInBounds_toArray, List.set_cons_zero, List.set_cons_succ]
  refine wpAnyH_ready (rs := [31]) (by kernel_rfl) (by simp) ?_
  refine AllReadyH.cons (o := _) (by simp only [List.getElem?_toArray, List.getElem?_cons_succ, List.getElem?_cons_zero]; rfl) (fun K hK => ?_) AllReadyH.nil
  go_simp
  refine hK.out _ _ ?_ (fun hHeld => ?_)
  · exact (World.cell?_setCell_other _ _ _ _ (by intro e; injection e with _ e; exact absurd e (by decide))).trans ((R4.out.2.1.cell 1).trans rfl)
  clear hK K
  try simp only [Act.put, List.setIfInBounds_toArray, List.set_cons_zero, List.set_cons_succ]
  have R5 := Lib.hid (show MS T len G J jb c g φ (w4.setCell ⟨m, 7, none⟩ (.bool b)) ∧ Blk (w4.setCell ⟨m, 7, none⟩ (.bool b)) m 92 #[.pointer (some ⟨c, 0, none⟩), .pointer (some ⟨g, 0, none⟩), .pointer none, x3, .bool true, .int .u64 T, .int .i64 len, .bool b] ∧ Fr (but φ m) w (w4.setCell ⟨m, 7, none⟩ (.bool b)) from ⟨R4.out.1.setFar hm _ _, R4.out.2.1.set_ 7 _, R4.out.2.2.trans (Fr.of_grown (gr_cell _ m _ _) fun q hq => ⟨(R4.out.1.not hq.1).2.2, hq.2⟩)⟩)
  clear R4 c7 z7
  generalize (w4.setCell ⟨m, 7, none⟩ (.bool b)) = w5 at *
  refine wpAnyH_done (by kernel_rfl) ?_ _
  go_wp2
  first | go_end0 | ((try simp only [Exit.inBlock, Exit.then]); refine bodyPost_ret (v := .tuple #[]) (results_none rfl _ _ _) rfl ?_)
  exact ⟨⟨_, rfl⟩, len, b, HH.out, R5.out.1, R5.out.2.2, R5.out.2.1⟩
end Ck
end Go.Proofs.YtnlaedfnifimkaaGreat
namespace Go.Proofs.YtnlaedfnifimkaaGreat
open Go.RowKit
def simpleEq : Value → Value → Bool
  | .int k a, .int k' b => decide (k = k') && decide (a = b)
  | .bool a, .bool b => a == b
  | .slice none 0 0, .slice none 0 0 => true
  | _, _ => false
theorem simpleEq_is {a b : Value} (h : simpleEq a b = true) : a = b := by
  unfold simpleEq at h
  split at h
  · simp at h; rw [h.1, h.2]
  · simp at h; rw [h]
  · rfl
  · cases h
def runs : List Value → Nat → Value → List (Nat × Value) → Bool
  | [], n, _, rest => match n with
    | 0 => match rest with
      | [] => true
      | _ :: _ => false
    | _ + 1 => false
  | a :: l, n, v, rest => match n with
    | k + 1 => match simpleEq a v with
      | true => runs l k v rest
      | false => false
    | 0 => match rest with
      | [] => false
      | (m, u) :: r => match m with
        | 0 => false
        | j + 1 => match simpleEq a u with
          | true => runs l j u r
          | false => false
def flat (l : List (Nat × Value)) : List Value := l.flatMap fun p => List.replicate p.1 p.2
theorem runs_is : ∀ {l : List Value} {n : Nat} {v : Value} {rest : List (Nat × Value)}, runs l n v rest = true → l = List.replicate n v ++ flat rest
  | [], 0, v, [], _ => rfl
  | [], 0, v, _ :: _, h => by simp [runs] at h
  | [], n + 1, v, rest, h => by simp [runs] at h
  | a :: l, n + 1, v, rest, h => by
    rw [runs] at h
    cases hs : simpleEq a v with
    | true =>
      rw [hs] at h
      rw [simpleEq_is hs, runs_is h]
      rfl
    | false => rw [hs] at h; cases h
  | a :: l, 0, v, [], h => by simp [runs] at h
  | a :: l, 0, v, (0, u) :: r, h => by simp [runs] at h
  | a :: l, 0, v, (j + 1, u) :: r, h => by
    rw [runs] at h
    cases hs : simpleEq a u with
    | true =>
      simp only [hs] at h
      rw [simpleEq_is hs, runs_is h]
      rfl
    | false => simp only [hs] at h; cases h
def zeroRuns (i : Option TypeInfo) (size : Nat) (rest : List (Nat × Value)) : Bool :=
  match i with
  | none => false
  | some i => match i.zero with
    | some (.agg z) => match decide (i.size = size) with
      | true => runs z.toList 0 (.bool false) rest
      | false => false
    | _ => false
theorem zeroRuns_is {i : Option TypeInfo} {size : Nat} {rest : List (Nat × Value)} (h : zeroRuns i size rest = true) : i.map (fun i => (i.zero, i.size)) = some (some (.agg (flat rest).toArray), size) := by
  unfold zeroRuns at h
  split at h
  · cases h
  · split at h
    · rename_i j _ z hz
      cases hd : decide (j.size = size) with
      | true =>
        rw [hd] at h
        have := runs_is h
        simp only [List.replicate_zero, List.nil_append] at this
        simp only [decide_eq_true_eq] at hd
        simp only [Option.map_some, hz, hd]
        rw [← this]
      | false => rw [hd] at h; cases h
    · cases h
def bdRuns : List (Nat × Value) := [(65544, .int .u8 0), (3, .bool false), (1, .int .u64 0), (1, .int .i64 0), (1, .int .u8 0), (2, .bool false), (2, .slice none 0 0), (12288, .int .u8 0)]
set_option maxRecDepth 100000 in
theorem bdZero : (Tryz.prog.info? 87).map (fun i => (i.zero, i.size)) = some (some (.agg (flat bdRuns).toArray), 77842) := zeroRuns_is (by kernel_rfl)
end Go.Proofs.YtnlaedfnifimkaaGreat
namespace Go.Proofs.YtnlaedfnifimkaaGreat
open Go.RowKit
structure Bd where
  M : Nat → Int
  K : Nat → Int
  slow : Bool
  ear : Bool
  log : Bool
  t : Int
  fr : Int
  bo : Int
  mic : Bool
  spk : Bool
  seen : Nat → Int
def bdAt (b : Bd) (A E : Value) (i : Nat) : Value :=
  if i < 65536 then .int .u8 (b.M i)
  else if i < 65544 then .int .u8 (b.K (i - 65536))
  else if i = 65544 then .bool b.slow
  else if i = 65545 then .bool b.ear
  else if i = 65546 then .bool b.log
  else if i = 65547 then .int .u64 b.t
  else if i = 65548 then .int .i64 b.fr
  else if i = 65549 then .int .u8 b.bo
  else if i = 65550 then .bool b.mic
  else if i = 65551 then .bool b.spk
  else if i = 65552 then A
  else if i = 65553 then E
  else .int .u8 (b.seen (i - 65554))
def cellsF (f : Nat → Value) (n : Nat) : Array Value := ((List.range n).map f).toArray
theorem cellsF_size (f : Nat → Value) (n : Nat) : (cellsF f n).size = n := by simp [cellsF]
theorem cellsF_at (f : Nat → Value) {n i : Nat} (h : i < n) : (cellsF f n)[i]? = some (f i) := by simp [cellsF, h]
theorem cellsF_congr {f g : Nat → Value} {n : Nat} (h : ∀ i, i < n → f i = g i) : cellsF f n = cellsF g n := by
  unfold cellsF
  congr 1
  apply List.map_congr_left
  intro i hi
  exact h i (List.mem_range.1 hi)
theorem cellsF_set (f : Nat → Value) (n j : Nat) (v : Value) : (cellsF f n).setIfInBounds j v = cellsF (fun i => if i = j then v else f i) n := by
  apply Array.ext
  · simp [cellsF]
  · intro k h1 h2
    simp only [cellsF, List.size_toArray, List.length_map, List.length_range] at h2
    rw [Array.getElem_setIfInBounds (by simpa [cellsF] using h2)]
    simp only [cellsF, List.getElem_toArray, List.getElem_map, List.getElem_range]
    by_cases e : k = j
    · rw [if_pos e.symm, if_pos e]
    · rw [if_neg (fun h => e h.symm), if_neg e]
theorem flat_cons (n : Nat) (v : Value) (r : List (Nat × Value)) : flat ((n, v) :: r) = List.replicate n v ++ flat r := rfl
def runAt : List (Nat × Value) → Nat → Value
  | [], _ => .bool false
  | (n, v) :: r, i => if i < n then v else runAt r (i - n)
def runLen : List (Nat × Value) → Nat
  | [] => 0
  | (n, _) :: r => n + runLen r
theorem flat_at : ∀ (l : List (Nat × Value)) (i : Nat), i < runLen l → (flat l)[i]? = some (runAt l i)
  | [], i, h => absurd h (by simp [runLen])
  | (n, v) :: r, i, h => by
    rw [flat_cons]
    unfold runAt
    by_cases hi : i < n
    · rw [if_pos hi, List.getElem?_append_left (by simpa using hi)]
      simp [hi]
    · rw [if_neg hi, List.getElem?_append_right (by simpa using hi), List.length_replicate]
      exact flat_at r (i - n) (by simp only [runLen] at h; omega)
theorem flat_len : ∀ (l : List (Nat × Value)), (flat l).length = runLen l
  | [] => rfl
  | (n, v) :: r => by rw [flat_cons, List.length_append, List.length_replicate, flat_len r]; rfl
theorem flat_cells (l : List (Nat × Value)) : (flat l).toArray = cellsF (runAt l) (runLen l) := by
  unfold cellsF
  congr 1
  apply List.ext_getElem?
  intro i
  by_cases h : i < runLen l
  · rw [flat_at l i h]
    simp [h]
  · rw [List.getElem?_eq_none (by rw [flat_len]; omega), List.getElem?_eq_none (by simpa using (by omega : runLen l ≤ i))]
def bdC (b : Bd) (A E : Value) : Array Value := cellsF (bdAt b A E) 77842
def bd0 : Bd := ⟨fun _ => 0, fun _ => 0, false, false, false, 0, 0, 0, false, false, fun _ => 0⟩
theorem bd0_cells : (flat bdRuns).toArray = bdC bd0 (.slice none 0 0) (.slice none 0 0) := by
  rw [flat_cells]
  have hl : runLen bdRuns = 77842 := by simp only [bdRuns, runLen]
  rw [hl]
  refine cellsF_congr fun i hi => ?_
  simp only [bdRuns, runAt, bdAt, bd0]
  by_cases h1 : i < 65536
  · rw [if_pos (by omega), if_pos h1]
  · rw [if_neg h1]
    by_cases h2 : i < 65544
    · rw [if_pos h2, if_pos h2]
    · rw [if_neg h2, if_neg h2]
      by_cases h3 : i < 65554
      · obtain rfl | rfl | rfl | rfl | rfl | rfl | rfl | rfl | rfl | rfl : i = 65544 ∨ i = 65545 ∨ i = 65546 ∨ i = 65547 ∨ i = 65548 ∨ i = 65549 ∨ i = 65550 ∨ i = 65551 ∨ i = 65552 ∨ i = 65553 := by omega
        all_goals simp
      · rw [if_neg (by omega), if_neg (by omega), if_neg (by omega), if_neg (by omega), if_neg (by omega), if_neg (by omega), if_pos (by omega), if_neg (by omega), if_neg (by omega), if_neg (by omega), if_neg (by omega), if_neg (by omega), if_neg (by omega), if_neg (by omega), if_neg (by omega), if_neg (by omega), if_neg (by omega)]
section
variable {b : Bd} {A E : Value}
theorem bd_M {i : Nat} (h : i < 65536) : bdAt b A E i = .int .u8 (b.M i) := if_pos h
theorem bd_K {j : Nat} (h : j < 8) : bdAt b A E (65536 + j) = .int .u8 (b.K j) := by
  unfold bdAt
  rw [if_neg (by omega), if_pos (by omega), Nat.add_sub_cancel_left]
theorem bd_S {j : Nat} : bdAt b A E (65554 + j) = .int .u8 (b.seen j) := by
  unfold bdAt
  rw [if_neg (by omega), if_neg (by omega), if_neg (by omega), if_neg (by omega), if_neg (by omega), if_neg (by omega), if_neg (by omega), if_neg (by omega), if_neg (by omega), if_neg (by omega), if_neg (by omega), if_neg (by omega), Nat.add_sub_cancel_left]
theorem bd_slow : bdAt b A E 65544 = .bool b.slow := by simp [bdAt]
theorem bd_ear : bdAt b A E 65545 = .bool b.ear := by simp [bdAt]
theorem bd_log : bdAt b A E 65546 = .bool b.log := by simp [bdAt]
theorem bd_t : bdAt b A E 65547 = .int .u64 b.t := by simp [bdAt]
theorem bd_fr : bdAt b A E 65548 = .int .i64 b.fr := by simp [bdAt]
theorem bd_bo : bdAt b A E 65549 = .int .u8 b.bo := by simp [bdAt]
theorem bd_mic : bdAt b A E 65550 = .bool b.mic := by simp [bdAt]
theorem bd_spk : bdAt b A E 65551 = .bool b.spk := by simp [bdAt]
theorem bd_A : bdAt b A E 65552 = A := by simp [bdAt]
theorem bd_E : bdAt b A E 65553 = E := by simp [bdAt]
end
end Go.Proofs.YtnlaedfnifimkaaGreat
namespace Go.Proofs.YtnlaedfnifimkaaGreat
open Go.RowKit
section
variable {b : Bd} {A E : Value}
theorem set_slow (x : Bool) : (bdC b A E).setIfInBounds 65544 (.bool x) = bdC { b with slow := x } A E := by
  unfold bdC
  rw [cellsF_set]
  refine cellsF_congr fun i hi => ?_
  by_cases h2 : i < 65536
  · rw [if_neg (by omega), bd_M h2, bd_M h2]
  · by_cases h3 : i < 65544
    · obtain ⟨m, rfl⟩ : ∃ m, i = 65536 + m := ⟨i - 65536, by omega⟩
      rw [if_neg (by omega), bd_K (by omega), bd_K (by omega)]
    · by_cases h1 : i < 65554
      · obtain rfl | rfl | rfl | rfl | rfl | rfl | rfl | rfl | rfl | rfl : i = 65544 ∨ i = 65545 ∨ i = 65546 ∨ i = 65547 ∨ i = 65548 ∨ i = 65549 ∨ i = 65550 ∨ i = 65551 ∨ i = 65552 ∨ i = 65553 := by omega
        all_goals simp [bdAt]
      · obtain ⟨m, rfl⟩ : ∃ m, i = 65554 + m := ⟨i - 65554, by omega⟩
        rw [if_neg (by omega), bd_S, bd_S]
theorem set_fr (x : Int) : (bdC b A E).setIfInBounds 65548 (.int .i64 x) = bdC { b with fr := x } A E := by
  unfold bdC
  rw [cellsF_set]
  refine cellsF_congr fun i hi => ?_
  by_cases h2 : i < 65536
  · rw [if_neg (by omega), bd_M h2, bd_M h2]
  · by_cases h3 : i < 65544
    · obtain ⟨m, rfl⟩ : ∃ m, i = 65536 + m := ⟨i - 65536, by omega⟩
      rw [if_neg (by omega), bd_K (by omega), bd_K (by omega)]
    · by_cases h1 : i < 65554
      · obtain rfl | rfl | rfl | rfl | rfl | rfl | rfl | rfl | rfl | rfl : i = 65544 ∨ i = 65545 ∨ i = 65546 ∨ i = 65547 ∨ i = 65548 ∨ i = 65549 ∨ i = 65550 ∨ i = 65551 ∨ i = 65552 ∨ i = 65553 := by omega
        all_goals simp [bdAt]
      · obtain ⟨m, rfl⟩ : ∃ m, i = 65554 + m := ⟨i - 65554, by omega⟩
        rw [if_neg (by omega), bd_S, bd_S]
end
section
variable {b : Bd} {ph : Int} {D A E : Value}
end
end Go.Proofs.YtnlaedfnifimkaaGreat
namespace Go.Proofs.YtnlaedfnifimkaaGreat
open Go.RowKit
namespace Ck
def regs0 : List Value := [.int .u8 255, .int .u8 255, .int .u8 0, .int .u8 0, .int .u8 0, .int .u8 0, .int .u8 0, .int .u8 0, .int .u8 0, .int .u8 0, .int .u8 0, .int .u8 0, .int .u8 0, .int .u8 0, .int .u8 0, .int .u8 0, .int .u8 0, .int .u8 0, .int .u8 0, .int .u16 0, .int .u16 0, .int .u16 65535, .int .u16 0, .int .u16 0, .bool false, .bool false, .bool false, .bool false, .int .u8 0, .int .u8 0]
def cpu0 (s : Nat) : Array Value := #[.int .u8 255, .int .u8 255, .int .u8 0, .int .u8 0, .int .u8 0, .int .u8 0, .int .u8 0, .int .u8 0, .int .u8 0, .int .u8 0, .int .u8 0, .int .u8 0, .int .u8 0, .int .u8 0, .int .u8 0, .int .u8 0, .int .u8 0, .int .u8 0, .int .u8 0, .int .u16 0, .int .u16 0, .int .u16 65535, .int .u16 0, .int .u16 0, .bool false, .bool false, .bool false, .bool false, .int .u8 0, .int .u8 0, .slice (some ⟨s, 0, none⟩) 0 16, .int .i64 0, .int .u8 0, .int .i64 0, .int .i64 0, .bool false, .int .u8 0, .int .u8 0, .int .u16 0, .int .u8 0, .bool false, .bool false, .int .i64 (-1), .bool false, .int .i64 0, .int .u16 0, .int .i64 0, .int .i64 0, .int .i64 0, .bool false]
def step0 : Array Value := (List.replicate 64 (.int .i64 0)).toArray
theorem stepInfo : (Tryz.prog.info? 230).map (fun i => (i.zero, i.size, i.bytes)) = some (some (.agg #[.int .i64 0, .int .i64 0, .int .i64 0, .int .i64 0]), 4, 32) := by kernel_rfl
theorem make_step (w : World) : (Instr.makeSlice 112 (.int .i64 0) (.int .i64 16)).run Tryz.prog w = .ok (.slice (some ⟨w.heap.size, 0, none⟩) 0 16) (w.alloc (.cells step0 230)) := by
  obtain ⟨i0, hi, hz0, hz1, hz2⟩ := info_parts stepInfo
  have h := run_makeSlice (P := Tryz.prog) w 112 230 i0 _ Tryz.underlying112 hi hz0 .i64 .i64 0 16 (by omega) (by omega) (by rw [hz1]; decide) (by rw [hz2]; decide) (by decide)
  rw [hz1] at h
  rw [h]
  have e : madeCells (Value.agg #[.int .i64 0, .int .i64 0, .int .i64 0, .int .i64 0]).cells ((16 : Int).toNat * 4) = step0 := by kernel_rfl
  rw [e]
  rfl
set_option maxRecDepth 100000 in
set_option maxHeartbeats 4000000 in
theorem begin_any (w : World) : Calls Tryz.prog 31 #[] w fun x w' => x = .returned (.agg #[.int .u8 255, .int .u8 255, .int .u8 0, .int .u8 0, .int .u8 0, .int .u8 0, .int .u8 0, .int .u8 0, .int .u8 0, .int .u8 0, .int .u8 0, .int .u8 0, .int .u8 0, .int .u8 0, .int .u8 0, .int .u8 0, .int .u8 0, .int .u8 0, .int .u8 0, .int .u16 0, .int .u16 0, .int .u16 65535, .int .u16 0, .int .u16 0, .bool false, .bool false, .bool false, .bool false, .int .u8 0, .int .u8 0]) ∧ Below w.heap.size w w' := by
  go_enter Tryz.func31, Tryz.ntmps31
  have hB := Blk.new w 56 #[.int .u8 0, .int .u8 0, .int .u8 0, .int .u8 0, .int .u8 0, .int .u8 0, .int .u8 0, .int .u8 0, .int .u8 0, .int .u8 0, .int .u8 0, .int .u8 0, .int .u8 0, .int .u8 0, .int .u8 0, .int .u8 0, .int .u8 0, .int .u8 0, .int .u8 0, .int .u16 0, .int .u16 0, .int .u16 0, .int .u16 0, .int .u16 0, .bool false, .bool false, .bool false, .bool false, .int .u8 0, .int .u8 0]
  have hb := Lib.hid ((Below.refl w.heap.size w).alloc (Nat.le_refl _) (.cells #[.int .u8 0, .int .u8 0, .int .u8 0, .int .u8 0, .int .u8 0, .int .u8 0, .int .u8 0, .int .u8 0, .int .u8 0, .int .u8 0, .int .u8 0, .int .u8 0, .int .u8 0, .int .u8 0, .int .u8 0, .int .u8 0, .int .u8 0, .int .u8 0, .int .u8 0, .int .u16 0, .int .u16 0, .int .u16 0, .int .u16 0, .int .u16 0, .bool false, .bool false, .bool false, .bool false, .int .u8 0, .int .u8 0] 56))
  go_upto_region 1 with fail
  generalize w.alloc (.cells #[.int .u8 0, .int .u8 0, .int .u8 0, .int .u8 0, .int .u8 0, .int .u8 0, .int .u8 0, .int .u8 0, .int .u8 0, .int .u8 0, .int .u8 0, .int .u8 0, .int .u8 0, .int .u8 0, .int .u8 0, .int .u8 0, .int .u8 0, .int .u8 0, .int .u8 0, .int .u16 0, .int .u16 0, .int .u16 0, .int .u16 0, .int .u16 0, .bool false, .bool false, .bool false, .bool false, .int .u8 0, .int .u8 0] 56) = W at *
  have hi : (Tryz.prog.info? 56).map (·.size) = some 30 := by kernel_rfl
  go_wp2_with (first | (refine wpList_store_box rfl 56 _ _ rfl w.heap.size #[.int .u8 255, .int .u8 255, .int .u8 0, .int .u8 0, .int .u8 0, .int .u8 0, .int .u8 0, .int .u8 0, .int .u8 0, .int .u8 0, .int .u8 0, .int .u8 0, .int .u8 0, .int .u8 0, .int .u8 0, .int .u8 0, .int .u8 0, .int .u8 0, .int .u8 0, .int .u16 0, .int .u16 0, .int .u16 65535, .int .u16 0, .int .u16 0, .bool false, .bool false, .bool false, .bool false, .int .u8 0, .int .u8 0] rfl rfl 56 #[.int .u8 0, .int .u8 0, .int .u8 0, .int .u8 0, .int .u8 0, .int .u8 0, .int .u8 0, .int .u8 0, .int .u8 0, .int .u8 0, .int .u8 0, .int .u8 0, .int .u8 0, .int .u8 0, .int .u8 0, .int .u8 0, .int .u8 0, .int .u8 0, .int .u8 0, .int .u16 0, .int .u16 0, .int .u16 0, .int .u16 0, .int .u16 0, .bool false, .bool false, .bool false, .bool false, .int .u8 0, .int .u8 0] hB hi rfl (by simp [Value.oneCell']) ?_) | fail)
  intro w' hB' hg
  have HX := Lib.hid (hb.out.grown hg hb.out.size (fun i e => by injection e with e; omega))
  clear hb hB hg
  go_wp2
  refine bodyPost_ret (results_cell_row rfl _ _ w.heap.size 56 _ (0, 0) _ rfl hB' Tryz.underlying56 rfl hi) rfl ⟨rfl, HX.out⟩
set_option maxRecDepth 100000 in
set_option maxHeartbeats 4000000 in
theorem cpuNew_any (w : World) : Calls Tryz.prog 30 #[.agg #[.int .u8 255, .int .u8 255, .int .u8 0, .int .u8 0, .int .u8 0, .int .u8 0, .int .u8 0, .int .u8 0, .int .u8 0, .int .u8 0, .int .u8 0, .int .u8 0, .int .u8 0, .int .u8 0, .int .u8 0, .int .u8 0, .int .u8 0, .int .u8 0, .int .u8 0, .int .u16 0, .int .u16 0, .int .u16 65535, .int .u16 0, .int .u16 0, .bool false, .bool false, .bool false, .bool false, .int .u8 0, .int .u8 0]] w fun x w' => ∃ c s, x = .returned (.pointer (some ⟨c, 0, none⟩)) ∧ w.heap.size ≤ c ∧ w.heap.size ≤ s ∧ s < w'.heap.size ∧ c ≠ s ∧ Blk w' c 115 (cpu0 s) ∧ Blk w' s 230 step0 ∧ Below w.heap.size w w' := by
  have hmk := make_step
  go_enter Tryz.func30, Tryz.ntmps30
  go_upto_region 1 with fail
  have hR := Blk.new w 56 #[.int .u8 255, .int .u8 255, .int .u8 0, .int .u8 0, .int .u8 0, .int .u8 0, .int .u8 0, .int .u8 0, .int .u8 0, .int .u8 0, .int .u8 0, .int .u8 0, .int .u8 0, .int .u8 0, .int .u8 0, .int .u8 0, .int .u8 0, .int .u8 0, .int .u8 0, .int .u16 0, .int .u16 0, .int .u16 65535, .int .u16 0, .int .u16 0, .bool false, .bool false, .bool false, .bool false, .int .u8 0, .int .u8 0]
  have hb := Lib.hid ((Below.refl w.heap.size w).alloc (Nat.le_refl _) (.cells #[.int .u8 255, .int .u8 255, .int .u8 0, .int .u8 0, .int .u8 0, .int .u8 0, .int .u8 0, .int .u8 0, .int .u8 0, .int .u8 0, .int .u8 0, .int .u8 0, .int .u8 0, .int .u8 0, .int .u8 0, .int .u8 0, .int .u8 0, .int .u8 0, .int .u8 0, .int .u16 0, .int .u16 0, .int .u16 65535, .int .u16 0, .int .u16 0, .bool false, .bool false, .bool false, .bool false, .int .u8 0, .int .u8 0] 56))
  have hs := Lib.hid (show w.heap.size < (w.alloc (.cells #[.int .u8 255, .int .u8 255, .int .u8 0, .int .u8 0, .int .u8 0, .int .u8 0, .int .u8 0, .int .u8 0, .int .u8 0, .int .u8 0, .int .u8 0, .int .u8 0, .int .u8 0, .int .u8 0, .int .u8 0, .int .u8 0, .int .u8 0, .int .u8 0, .int .u8 0, .int .u16 0, .int .u16 0, .int .u16 65535, .int .u16 0, .int .u16 0, .bool false, .bool false, .bool false, .bool false, .int .u8 0, .int .u8 0] 56)).heap.size by simp)
  generalize w.alloc (.cells #[.int .u8 255, .int .u8 255, .int .u8 0, .int .u8 0, .int .u8 0, .int .u8 0, .int .u8 0, .int .u8 0, .int .u8 0, .int .u8 0, .int .u8 0, .int .u8 0, .int .u8 0, .int .u8 0, .int .u8 0, .int .u8 0, .int .u8 0, .int .u8 0, .int .u8 0, .int .u16 0, .int .u16 0, .int .u16 65535, .int .u16 0, .int .u16 0, .bool false, .bool false, .bool false, .bool false, .int .u8 0, .int .u8 0] 56) = W at *
  generalize hn0 : w.heap.size = n0 at *
  have hn1 := Lib.hid hn0
  clear hn0
  refine wp_region_held_drew (S := fun w' => Blk w' n0 56 #[.int .u8 255, .int .u8 255, .int .u8 0, .int .u8 0, .int .u8 0, .int .u8 0, .int .u8 0, .int .u8 0, .int .u8 0, .int .u8 0, .int .u8 0, .int .u8 0, .int .u8 0, .int .u8 0, .int .u8 0, .int .u8 0, .int .u8 0, .int .u8 0, .int .u8 0, .int .u16 0, .int .u16 0, .int .u16 65535, .int .u16 0, .int .u16 0, .bool false, .bool false, .bool false, .bool false, .int .u8 0, .int .u8 0]) (by kernel_rfl) ?_ (fun hHeld => ?_)
  · exact hR
  refine wpAnyH_take (i := 0) (oi := _) (v := .agg #[.int .u8 255, .int .u8 255, .int .u8 0, .int .u8 0, .int .u8 0, .int .u8 0, .int .u8 0, .int .u8 0, .int .u8 0, .int .u8 0, .int .u8 0, .int .u8 0, .int .u8 0, .int .u8 0, .int .u8 0, .int .u8 0, .int .u8 0, .int .u8 0, .int .u8 0, .int .u16 0, .int .u16 0, .int .u16 65535, .int .u16 0, .int .u16 0, .bool false, .bool false, .bool false, .bool false, .int .u8 0, .int .u8 0]) (by simp only [List.getElem?_toArray, List.getElem?_cons_succ, List.getElem?_cons_zero]; rfl) (by kernel_rfl) (by kernel_rfl) (by kernel_rfl) (by intro _ _ _ h; exact h) (Or.inl ⟨by rfl, ?_⟩) (by assumption) ?_
  · intro w hSw
    exact run_load_box 56 (.tmp 1) rfl n0 rfl 56 #[.int .u8 255, .int .u8 255, .int .u8 0, .int .u8 0, .int .u8 0, .int .u8 0, .int .u8 0, .int .u8 0, .int .u8 0, .int .u8 0, .int .u8 0, .int .u8 0, .int .u8 0, .int .u8 0, .int .u8 0, .int .u8 0, .int .u8 0, .int .u8 0, .int .u8 0, .int .u16 0, .int .u16 0, .int .u16 65535, .int .u16 0, .int .u16 0, .bool false, .bool false, .bool false, .bool false, .int .u8 0, .int .u8 0] hSw _ Tryz.underlying56 rfl (by kernel_rfl)
  try simp only [Act.put, List.setIfInBounds_toArray, List.set_cons_zero, List.set_cons_succ]
  have hsz := Lib.hid (show n0 < W.drew.heap.size from hs.out)
  have hbd := Lib.hid (show Below n0 w W.drew from hb.out.drew)
  clear hs hb hR
  generalize W.drew = V at *
  refine wpAnyH_ready (rs := [1]) (by kernel_rfl) (by simp) ?_
  refine AllReadyH.cons (o := _) (by simp only [List.getElem?_toArray, List.getElem?_cons_succ, List.getElem?_cons_zero]; rfl) (fun K hK => ?_) AllReadyH.nil
  go_simp
  refine hK.out _ _ ?_ (fun hHeld => ?_)
  · exact Blk.alloc hHeld _
  clear hK K
  try simp only [Act.put, List.setIfInBounds_toArray, List.set_cons_zero, List.set_cons_succ]
  have hS1 := Lib.hid (Blk.new V 230 step0)
  have hb1 := Lib.hid (hbd.out.alloc (Nat.le_of_lt hsz.out) (.cells step0 230))
  have hz1 := Lib.hid (show V.heap.size < (V.alloc (.cells step0 230)).heap.size by simp)
  generalize V.alloc (.cells step0 230) = V1 at *
  generalize V.heap.size = s0 at *
  refine wpAnyH_take (i := 2) (oi := _) (v := .agg (cpu0 s0)) (by simp only [List.getElem?_toArray, List.getElem?_cons_succ, List.getElem?_cons_zero]; rfl) (by kernel_rfl) (by kernel_rfl) (by kernel_rfl) (by intro _ _ _ h; exact h) (Or.inl ⟨by rfl, ?_⟩) (by assumption) ?_
  · intro w hSw
    kernel_rfl
  try simp only [Act.put, List.setIfInBounds_toArray, List.set_cons_zero, List.set_cons_succ]
  generalize hcp : cpu0 s0 = cp at *
  refine wpAnyH_ready (rs := [3]) (by kernel_rfl) (by simp) ?_
  refine AllReadyH.cons (o := _) (by simp only [List.getElem?_toArray, List.getElem?_cons_succ, List.getElem?_cons_zero]; rfl) (fun K hK => ?_) AllReadyH.nil
  go_simp
  refine hK.out _ _ ?_ (fun hHeld => ?_)
  · exact Blk.alloc hHeld _
  clear hK K
  try simp only [Act.put, List.setIfInBounds_toArray, List.set_cons_zero, List.set_cons_succ]
  have hC2 := Lib.hid (Blk.new V1 115 cp)
  have hS2 := Lib.hid (hS1.out.alloc (.cells cp 115))
  have hb2 := Lib.hid (hb1.out.alloc (by have := hz1.out; have := hsz.out; omega) (.cells cp 115))
  have hz2 := Lib.hid (show V1.heap.size < (V1.alloc (.cells cp 115)).heap.size by simp)
  generalize V1.alloc (.cells cp 115) = V2 at *
  generalize V1.heap.size = c0 at *
  refine wpAnyH_take (i := 4) (oi := _) (v := ?_) (by simp only [List.getElem?_toArray, List.getElem?_cons_succ, List.getElem?_cons_zero]; rfl) (by kernel_rfl) (by kernel_rfl) (by kernel_rfl) (by intro _ _ _ h; exact h) (Or.inl ⟨by rfl, ?_⟩) (by assumption) ?_
  rotate_left
  · intro w hSw
    try dsimp only at hSw
    go_simp
    try with_reducible rfl
  try simp only [Act.put, List.setIfInBounds_toArray, List.set_cons_zero, List.set_cons_succ]
  refine wpAnyH_done (by kernel_rfl) ?_ _
  go_wp2
  go_ret
  subst hcp
  have hn0 := hn1.out
  exact ⟨c0, s0, rfl, by have := hz1.out; have := hsz.out; omega, by have := hsz.out; omega, by have := hz1.out; have := hz2.out; omega, by have := hz1.out; omega, hC2.out, hS2.out, by rw [hn0]; exact hb2.out⟩
end Ck
end Go.Proofs.YtnlaedfnifimkaaGreat
namespace Go.Proofs.YtnlaedfnifimkaaGreat
open Go.RowKit
def BdIs (w : World) (g : Nat) (b : Bd) (A E : Value) : Prop := Blk w g 87 (bdC b A E)
theorem BdIs.at_ {w : World} {g : Nat} {b : Bd} {A E : Value} (h : BdIs w g b A E) {i : Nat} {v : Value} (hi : i < 77842) (e : bdAt b A E i = v) : w.cell? ⟨g, i, none⟩ = some v := by
  rw [Blk.cell h i, bdC, cellsF_at _ hi, e]
theorem BdIs.fz {w : World} {g : Nat} {b : Bd} {A E : Value} (h : BdIs w g b A E) (i : Nat) : w.frozen? ⟨g, i, none⟩ = false := Blk.frozen h i
theorem BdIs.put {w : World} {g : Nat} {b b' : Bd} {A E A' E' : Value} (h : BdIs w g b A E) {i : Nat} {v : Value} (e : (bdC b A E).setIfInBounds i v = bdC b' A' E') : BdIs (w.setCell ⟨g, i, none⟩ v) g b' A' E' := by
  unfold BdIs
  rw [← e]
  exact Blk.set_ h i v
theorem cellsF_splice (f : Nat → Value) (n off : Nat) (cs : List Value) (h : off + cs.length ≤ n) : (splice (cellsF f n).toList off cs).toArray = cellsF (fun i => if off ≤ i ∧ i < off + cs.length then cs.getD (i - off) (.bool false) else f i) n := by
  unfold cellsF splice
  congr 1
  apply List.ext_getElem?
  intro i
  simp only [List.toList_toArray]
  have hl : (List.take off (List.map f (List.range n))).length = off := by simp; omega
  by_cases h1 : i < off
  · rw [List.getElem?_append_left (by rw [hl]; exact h1), List.getElem?_take_of_lt h1]
    have : ¬ (off ≤ i ∧ i < off + cs.length) := by omega
    simp [show i < n by omega, this]
  · rw [List.getElem?_append_right (by rw [hl]; omega), hl]
    by_cases h2 : i < off + cs.length
    · rw [List.getElem?_append_left (by omega)]
      have h3 : off ≤ i ∧ i < off + cs.length := ⟨by omega, h2⟩
      rw [List.getElem?_map, List.getElem?_range (by omega)]
      simp only [Option.map_some, h3, and_self, if_true]
      rw [List.getElem?_eq_getElem (by omega), List.getD_eq_getElem?_getD, List.getElem?_eq_getElem (by omega)]
      rfl
    · have h3 : ¬ (off ≤ i ∧ i < off + cs.length) := by omega
      rw [List.getElem?_append_right (by omega), List.getElem?_drop, show off + cs.length + (i - off - cs.length) = i by omega]
      by_cases h4 : i < n
      · simp [h4, h3]
      · rw [List.getElem?_eq_none (by simp; omega), List.getElem?_eq_none (by simp; omega)]
def layM (f : Nat → Int) (off : Nat) (zs : List Int) : Nat → Int := fun k => if off ≤ k ∧ k < off + zs.length then zs.getD (k - off) 0 else f k
theorem bd_splice {b : Bd} {A E : Value} (off : Nat) (zs : List Int) (h : off + zs.length ≤ 65536) : (splice (bdC b A E).toList off (zs.map (Value.int .u8))).toArray = bdC { b with M := layM b.M off zs } A E := by
  unfold bdC
  rw [cellsF_splice _ _ _ _ (by simp; omega)]
  refine cellsF_congr fun i hi => ?_
  rw [List.length_map]
  by_cases h1 : i < 65536
  · rw [bd_M h1]
    by_cases h2 : off ≤ i ∧ i < off + zs.length
    · rw [if_pos h2, bd_M h1, List.getD_eq_getElem?_getD, List.getElem?_map, List.getElem?_eq_getElem (by omega)]
      simp only [Option.map_some, Option.getD_some, layM]
      rw [if_pos h2, List.getD_eq_getElem?_getD, List.getElem?_eq_getElem (by omega)]
      rfl
    · rw [if_neg h2, bd_M h1]
      simp only [layM]
      rw [if_neg h2]
  · rw [if_neg (by omega)]
    unfold bdAt
    rw [if_neg h1, if_neg h1]
def newB (ph : Int) (rz mz : List Int) : Bd := { bd0 with fr := ph, M := layM (layM (fun _ => 0) 0 rz) 16384 mz }
set_option maxRecDepth 100000 in
set_option maxHeartbeats 4000000 in
theorem bNew_any (w : World) (RA MA : Option Addr) (rc mn mc : Nat) (ph : Int) (p0 : -9223372036854775808 ≤ ph) (p1 : ph ≤ 9223372036854775807) (rz mz : List Int) (hR : Reads w w.heap.size 1 RA 16384 (rz.map (Value.int .u8))) (hM : Reads w w.heap.size 1 MA mn (mz.map (Value.int .u8))) (hm : mn ≤ 49152) :
    Calls Tryz.prog 29 #[.slice RA 16384 rc, .slice MA mn mc, .int .i64 ph] w fun x w' => ∃ g, x = .returned (.tuple #[.pointer (some ⟨g, 0, none⟩), .int .i64 0]) ∧ w.heap.size ≤ g ∧ BdIs w' g (newB (frameS ph) rz mz) (.slice none 0 0) (.slice none 0 0) ∧ Below w.heap.size w w' := by
  have hrl : rz.length = 16384 := reads_len hR
  have hml : mz.length = mn := reads_len hM
  have hmI : ¬ (49152 : Int) < (mn : Int) := by omega
  obtain ⟨hz, hi⟩ := zero_of_info bdZero
  have hZs : (flat bdRuns).toArray.size = 77842 := by rw [bd0_cells]; exact cellsF_size _ _
  have hZc := bd0_cells
  generalize (flat bdRuns).toArray = Z at *
  have hfr := frame_any ph w p0 p1
  obtain ⟨F, hF⟩ : ∃ F, F = frameS ph := ⟨_, rfl⟩
  rw [← hF] at hfr
  have HB := Lib.hid (show Blk (w.alloc (.cells (Z.setIfInBounds 65548 (.int .i64 F)) 87)) w.heap.size 87 (bdC { bd0 with fr := F } (.slice none 0 0) (.slice none 0 0)) from by
    have := Blk.new w 87 (Z.setIfInBounds 65548 (.int .i64 F))
    rw [hZc, set_fr] at this
    rw [hZc, set_fr]
    exact this)
  have HH := Lib.hid (And.intro hF (And.intro hR (And.intro hM (And.intro hrl hml))))
  have HMN := Lib.hid hm
  clear hF hR hM hrl hml hZc p0 p1 hm
  go_enter Tryz.func29, Tryz.ntmps29
  go_wp2_with fail
  refine hfr.mono ?_
  rintro x w' ⟨rfl, rfl⟩
  clear hfr
  go_upto_region 6 with fail
  have HB1 := Lib.hid (show Below w.heap.size w (w.alloc (.cells (Z.setIfInBounds 65548 (.int .i64 F)) 87)) from (Below.refl _ _).alloc (Nat.le_refl _) _)
  generalize w.alloc (.cells (Z.setIfInBounds 65548 (.int .i64 F)) 87) = w1 at *
  have HC := Lib.hid (show w1.heap[w.heap.size]? = some (.cells (bdC { bd0 with fr := F } (.slice none 0 0) (.slice none 0 0)).toList.toArray 87 (0, 0)) ∧ (rz.map (Value.int .u8)).length = Nat.min 16384 65536 ∧ (0 < (rz.map (Value.int .u8)).length → some (⟨w.heap.size, 0, none⟩ : Addr) = some ⟨w.heap.size, 0, none⟩ ∧ ∃ ad, RA = some ad ∧ ∀ j v, (rz.map (Value.int .u8))[j]? = some v → w1.cell? (ad.add j) = some v) ∧ 0 + (rz.map (Value.int .u8)).length ≤ (bdC { bd0 with fr := F } (.slice none 0 0) (.slice none 0 0)).toList.length ∧ (∀ v ∈ rz.map (Value.int .u8), v.oneCell' = true) ∧ Below w.heap.size w w1 from
    ⟨HB.out, by rw [List.length_map, HH.out.2.2.2.1]; rfl, fun _ => ⟨rfl, by
      obtain ⟨ad, e, _, hc⟩ := (HH.out.2.1.below HB1.out).2 (by omega)
      exact ⟨ad, e, hc⟩⟩, by rw [List.length_map, HH.out.2.2.2.1, Array.length_toList, bdC, cellsF_size]; omega, by intro v hv; obtain ⟨x, _, rfl⟩ := List.mem_map.1 hv; rfl, HB1.out⟩)
  go_wp2_with (first
    | (refine wpList_copy_splice rfl (.tmp 24) (.tmp 25) 24 24 rfl 5 Tryz.underlying24 (by kernel_rfl) (some ⟨w.heap.size, 0, none⟩) RA 65536 65536 16384 rc rfl rfl w.heap.size 0 _ 87 HC.out.1 (rz.map (Value.int .u8)) HC.out.2.1 HC.out.2.2.1 HC.out.2.2.2.1 HC.out.2.2.2.2.1 w.heap.size w HC.out.2.2.2.2.2 (Nat.le_refl _) ?_)
    | fail)
  intro w2 hw2 hb2
  have HB2 := Lib.hid (show Blk w2 w.heap.size 87 (bdC { bd0 with fr := F, M := layM (fun _ => 0) 0 rz } (.slice none 0 0) (.slice none 0 0)) from by
    have := hw2.out
    rw [bd_splice 0 rz (by rw [HH.out.2.2.2.1]; omega)] at this
    exact this)
  have HB3 := Lib.hid hb2
  clear hw2 hb2
  have HC2 := Lib.hid (show w2.heap[w.heap.size]? = some (.cells (bdC { bd0 with fr := F, M := layM (fun _ => 0) 0 rz } (.slice none 0 0) (.slice none 0 0)).toList.toArray 87 (0, 0)) ∧ (mz.map (Value.int .u8)).length = Nat.min mn 49152 ∧ (0 < (mz.map (Value.int .u8)).length → some (⟨w.heap.size, 16384, none⟩ : Addr) = some ⟨w.heap.size, 16384, none⟩ ∧ ∃ ad, MA = some ad ∧ ∀ j v, (mz.map (Value.int .u8))[j]? = some v → w2.cell? (ad.add j) = some v) ∧ 16384 + (mz.map (Value.int .u8)).length ≤ (bdC { bd0 with fr := F, M := layM (fun _ => 0) 0 rz } (.slice none 0 0) (.slice none 0 0)).toList.length ∧ (∀ v ∈ mz.map (Value.int .u8), v.oneCell' = true) ∧ Below w.heap.size w w2 from
    ⟨HB2.out, by rw [List.length_map, HH.out.2.2.2.2]; exact (Nat.min_eq_left HMN.out).symm, fun h0 => ⟨rfl, by
      obtain ⟨ad, e, _, hc⟩ := (HH.out.2.2.1.below HB3.out).2 (by rw [List.length_map, HH.out.2.2.2.2] at h0; exact h0)
      exact ⟨ad, e, hc⟩⟩, by have := HMN.out; rw [List.length_map, HH.out.2.2.2.2, Array.length_toList, bdC, cellsF_size]; omega, by intro v hv; obtain ⟨x, _, rfl⟩ := List.mem_map.1 hv; rfl, HB3.out⟩)
  go_wp2_with (first
    | (refine wpList_copy_splice rfl (.tmp 30) (.tmp 31) 24 24 rfl 5 Tryz.underlying24 (by kernel_rfl) (some ⟨w.heap.size, 16384, none⟩) MA 49152 49152 mn mc rfl rfl w.heap.size 16384 _ 87 HC2.out.1 (mz.map (Value.int .u8)) HC2.out.2.1 HC2.out.2.2.1 HC2.out.2.2.2.1 HC2.out.2.2.2.2.1 w.heap.size w HC2.out.2.2.2.2.2 (Nat.le_refl _) ?_)
    | fail)
  intro w3 hw3 hb3
  have HB4 := Lib.hid (show BdIs w3 w.heap.size (newB F rz mz) (.slice none 0 0) (.slice none 0 0) ∧ Below w.heap.size w w3 from ⟨by
    have := hw3.out
    rw [bd_splice 16384 mz (by have := HMN.out; rw [HH.out.2.2.2.2]; omega)] at this
    exact this, hb3⟩)
  clear hw3 hb3
  go_wp2
  go_ret2
  exact ⟨w.heap.size, rfl, Nat.le_refl _, by rw [← HH.out.1]; exact HB4.out.1, HB4.out.2⟩
end Go.Proofs.YtnlaedfnifimkaaGreat
