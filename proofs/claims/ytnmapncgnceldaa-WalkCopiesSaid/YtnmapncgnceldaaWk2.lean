/- Layer 24: how a way and its blocks stand in memory; the jumps that were taken, as a map. -/
import Derived.Test.YtnmapncgnceldaaProg
import Derived.Test.YtnmapncgnceldaaWk1
import Derived.Test.YtnmapncgnceldaaBox
import Derived.Maps.OwnOps
import Derived.Maps.Views
namespace Go.Proofs.Ytnmapncgnceldaa
open Go.RowKit

/-- cells that are read, in blocks that a word holds of -/
def RdP (w : World) (φ : Nat → Prop) (size : Nat) (A : Option Addr) (n : Nat) (xs : List Value) : Prop :=
  xs.length = n * size ∧ (0 < n → ∃ ad, A = some ad ∧ φ ad.block ∧ ∀ j u, xs[j]? = some u → w.cell? (ad.add j) = some u)
theorem RdP.keep {w w' : World} {φ ψ : Nat → Prop} {size n : Nat} {A : Option Addr} {xs : List Value} (h : RdP w φ size A n xs) (hk : ∀ b, φ b → w'.heap[b]? = w.heap[b]?) (hψ : ∀ b, φ b → ψ b) : RdP w' ψ size A n xs :=
  ⟨h.1, fun hn => by
    obtain ⟨ad, e, hb, hc⟩ := h.2 hn
    exact ⟨ad, e, hψ _ hb, fun j u hu => (World.cell?_of_block (by rw [block_of_add]; exact hk _ hb)).trans (hc j u hu)⟩⟩
/-- the numbers of choices -/
def ItsP (w : World) (φ : Nat → Prop) (IA : Option Addr) (ns : List Int) : Prop := 0 < ns.length → ∃ ad, IA = some ad ∧ φ ad.block ∧ ∀ k, k < ns.length → ∃ v, v.oneCell' = true ∧ w.cell? (ad.add (k * 2)) = some (.int .i64 (ns.getD k 0)) ∧ w.cell? (ad.add (k * 2 + 1)) = some v
theorem ItsP.keep {w w' : World} {φ ψ : Nat → Prop} {IA : Option Addr} {ns : List Int} (h : ItsP w φ IA ns) (hk : ∀ b, φ b → w'.heap[b]? = w.heap[b]?) (hψ : ∀ b, φ b → ψ b) : ItsP w' ψ IA ns :=
  fun hn => by
    obtain ⟨ad, e, hb, hc⟩ := h hn
    exact ⟨ad, e, hψ _ hb, fun k hk2 => by
      obtain ⟨v, h1, h2, h3⟩ := hc k hk2
      exact ⟨v, h1, (World.cell?_of_block (by rw [block_of_add]; exact hk _ hb)).trans h2, (World.cell?_of_block (by rw [block_of_add]; exact hk _ hb)).trans h3⟩⟩
def wbC (d : WB) (v2 v3 v4 v5 v6 v7 v9 v10 v11 v12 : Value) (TA : Option Addr) (tn tc : Nat) (IA : Option Addr) (ic : Nat) (v15 v16 v17 : Value) : List Value :=
  [.int .i64 d.id, .int .i64 d.pz, v2, v3, v4, v5, v6, v7, .int .i64 d.ct, v9, v10, v11, v12, .slice TA tn tc, .slice IA d.ns.length ic, v15, v16, v17]
/-- a block as a way reads it -/
def WBAt (w : World) (φ : Nat → Prop) (d : WB) (cs : List Value) : Prop :=
  ∃ (v2 v3 v4 v5 v6 v7 v9 v10 v11 v12 : Value) (TA : Option Addr) (tn tc : Nat) (IA : Option Addr) (ic : Nat) (v15 v16 v17 : Value),
    cs = wbC d v2 v3 v4 v5 v6 v7 v9 v10 v11 v12 TA tn tc IA ic v15 v16 v17 ∧ (∀ u ∈ cs, u.oneCell' = true) ∧ RdP w φ 1 TA tn (d.ts.map (Value.int .i64)) ∧ ItsP w φ IA d.ns
theorem WBAt.keep {w w' : World} {φ ψ : Nat → Prop} {d : WB} {cs : List Value} (h : WBAt w φ d cs) (hk : ∀ b, φ b → w'.heap[b]? = w.heap[b]?) (hψ : ∀ b, φ b → ψ b) : WBAt w' ψ d cs := by
  obtain ⟨v2, v3, v4, v5, v6, v7, v9, v10, v11, v12, TA, tn, tc, IA, ic, v15, v16, v17, h0, h1, h2, h3⟩ := h
  exact ⟨v2, v3, v4, v5, v6, v7, v9, v10, v11, v12, TA, tn, tc, IA, ic, v15, v16, v17, h0, h1, h2.keep hk hψ, h3.keep hk hψ⟩
theorem WBAt.len {w : World} {φ : Nat → Prop} {d : WB} {cs : List Value} (h : WBAt w φ d cs) : cs.length = 18 := by
  obtain ⟨v2, v3, v4, v5, v6, v7, v9, v10, v11, v12, TA, tn, tc, IA, ic, v15, v16, v17, h0, _⟩ := h
  rw [h0]; rfl
def WBsAt (w : World) (φ : Nat → Prop) : List WB → List Value → Prop
  | [], xs => xs = []
  | d :: l, xs => ∃ cs ys, xs = cs ++ ys ∧ WBAt w φ d cs ∧ WBsAt w φ l ys
theorem WBsAt.keep {w w' : World} {φ ψ : Nat → Prop} (hk : ∀ b, φ b → w'.heap[b]? = w.heap[b]?) (hψ : ∀ b, φ b → ψ b) : ∀ {l : List WB} {xs : List Value}, WBsAt w φ l xs → WBsAt w' ψ l xs
  | [], _, h => h
  | _ :: _, _, ⟨cs, ys, e, h1, h2⟩ => ⟨cs, ys, e, h1.keep hk hψ, WBsAt.keep hk hψ h2⟩
theorem WBsAt.len {w : World} {φ : Nat → Prop} : ∀ {l : List WB} {xs : List Value}, WBsAt w φ l xs → xs.length = l.length * 18
  | [], xs, h => by subst h; rfl
  | _ :: l, xs, ⟨cs, ys, e, h1, h2⟩ => by
    have := WBsAt.len h2
    have := h1.len
    rw [e, List.length_append, List.length_cons]
    omega
theorem WBsAt.one {w : World} {φ : Nat → Prop} : ∀ {l : List WB} {xs : List Value}, WBsAt w φ l xs → ∀ u ∈ xs, u.oneCell' = true
  | [], xs, h => by subst h; nofun
  | _ :: l, xs, ⟨cs, ys, e, h1, h2⟩ => by
    intro u hu
    rw [e, List.mem_append] at hu
    rcases hu with hu | hu
    · obtain ⟨_, _, _, _, _, _, _, _, _, _, _, _, _, _, _, _, _, _, _, h9, _⟩ := h1
      exact h9 u hu
    · exact WBsAt.one h2 u hu
theorem WBsAt.at_ {w : World} {φ : Nat → Prop} : ∀ {l : List WB} {xs : List Value} {i : Nat}, WBsAt w φ l xs → i < l.length → ∃ cs, WBAt w φ (l.getD i default) cs ∧ ∀ k u, cs[k]? = some u → xs[i * 18 + k]? = some u
  | [], xs, i, _, hd => by simp at hd
  | q :: l, xs, 0, ⟨cs, ys, e, h1, h2⟩, hd => by
    refine ⟨cs, h1, fun k u hk => ?_⟩
    have hlt : k < cs.length := by
      rcases Nat.lt_or_ge k cs.length with h | h
      · exact h
      · rw [List.getElem?_eq_none h] at hk; cases hk
    rw [e, show 0 * 18 + k = k by omega, List.getElem?_append_left hlt]
    exact hk
  | q :: l, xs, i + 1, ⟨cs, ys, e, h1, h2⟩, hd => by
    obtain ⟨ds, hB, hx⟩ := WBsAt.at_ h2 (i := i) (by simpa using hd)
    refine ⟨ds, hB, fun k u hk => ?_⟩
    rw [e, List.getElem?_append_right (by rw [h1.len]; omega), h1.len, show (i + 1) * 18 + k - 18 = i * 18 + k by omega]
    exact hx k u hk
/-- a slice of blocks -/
def BlksR (w : World) (φ : Nat → Prop) (A : Option Addr) (n : Nat) (bs : List WB) : Prop := ∃ xs, RdP w φ 18 A n xs ∧ WBsAt w φ bs xs
theorem BlksR.keep {w w' : World} {φ ψ : Nat → Prop} {A : Option Addr} {n : Nat} {bs : List WB} (h : BlksR w φ A n bs) (hk : ∀ b, φ b → w'.heap[b]? = w.heap[b]?) (hψ : ∀ b, φ b → ψ b) : BlksR w' ψ A n bs := by
  obtain ⟨xs, h1, h2⟩ := h
  exact ⟨xs, h1.keep hk hψ, WBsAt.keep hk hψ h2⟩
theorem BlksR.len {w : World} {φ : Nat → Prop} {A : Option Addr} {n : Nat} {bs : List WB} (h : BlksR w φ A n bs) : bs.length = n := by
  obtain ⟨xs, h1, h2⟩ := h
  have := h1.1
  rw [WBsAt.len h2] at this
  omega
/-- one block of a slice, all its cells -/
theorem BlksR.at_ {w : World} {φ : Nat → Prop} {A : Option Addr} {n : Nat} {bs : List WB} (h : BlksR w φ A n bs) {i : Nat} (hi : i < n) :
    ∃ ad, A = some ad ∧ φ ad.block ∧ ∃ cs, WBAt w φ (bs.getD i default) cs ∧ ∀ j v, cs[j]? = some v → w.cell? ((ad.add (i * 18)).add j) = some v := by
  have hl := h.len
  obtain ⟨xs, h1, h2⟩ := h
  obtain ⟨ad, e, hb, hc⟩ := h1.2 (by omega)
  obtain ⟨cs, h3, h4⟩ := WBsAt.at_ h2 (i := i) (by omega)
  exact ⟨ad, e, hb, cs, h3, fun j v hv => by rw [add_of_add]; exact hc _ _ (h4 j v hv)⟩

section
variable {P : Program}
theorem run_load_at {o : Oper} {a : Act} {w : World} (ty : TypeId) (x : Operand) (ho : o.op = .load ty x) (ad : Addr) (hx : a.eval x = .pointer (some ad)) (cs : List Value) (hc : ∀ j v, cs[j]? = some v → w.cell? (ad.add j) = some v) (d : TypeDesc)
    (hu : P.underlying ty = some d) (hd : (match d with | .struct _ | .array _ _ => true | _ => false) = true) (hi : (P.info? ty).map (·.size) = some cs.length) :
    (execOp a.eval o).run P w = .ok (.value (.agg cs.toArray)) w := by
  have hl : (loadCells ad cs.length).run P w = .ok cs.toArray w := run_loadCells_list (P := P) w ad cs hc
  have hv : (loadVar ty ad).run P w = .ok (.agg cs.toArray) w := by
    cases hq : P.info? ty with
    | none => simp [hq] at hi
    | some i =>
      have hs : i.size = cs.length := by simpa [hq] using hi
      have hagg : (isAgg ty).run P w = .ok true w := by
        unfold isAgg
        rw [Sem.run_bind, run_underlying hu w]
        cases d <;> simp_all
      simp [loadVar, Sem.run_bind, hagg, sizeOf, typeInfo, hq, hs, hl]
  unfold execOp
  simp only [ho, hx, Instr.loadAt, Instr.sureAddr, Sem.run_bind, Sem.run_pure, Result.andThen_ok, hv]
theorem wpList_load_at {ops : Array Oper} {rest : List Oper} {o : Oper} {a : Act} {w : World} {Q : Exit → Act → World → Prop} (hgd : o.guard = none) (ty : TypeId) (x : Operand) (ho : o.op = .load ty x) (ad : Addr) (hx : a.eval x = .pointer (some ad)) (cs : List Value) (hc : ∀ j v, cs[j]? = some v → w.cell? (ad.add j) = some v) (d : TypeDesc)
    (hu : P.underlying ty = some d) (hd : (match d with | .struct _ | .array _ _ => true | _ => false) = true) (hi : (P.info? ty).map (·.size) = some cs.length) (h : wpList P ops Q rest (a.put o.dst (.agg cs.toArray)) w) : wpList P ops Q (o :: rest) a w :=
  wpList_plain hgd fun _ hK => by
    unfold Oper.wp
    rw [run_load_at ty x ho ad hx cs hc d hu hd hi]
    exact hK _ _ h
end
theorem blkInfo : (Try.prog.info? 45).map (·.size) = some 18 := by kernel_rfl
theorem wpList_load_boxg {P : Program} {ops : Array Oper} {rest : List Oper} {o : Oper} {a : Act} {w : World} {Q : Exit → Act → World → Prop} (hgd : Region.wanted o (yielded ops a.tmps) = true) (ty : TypeId) (x : Operand) (ho : o.op = .load ty x) (g : Nat) (hx : a.eval x = .pointer (some ⟨g, 0, none⟩)) (t : TypeId) (cs : Array Value) (hg : Blk w g t cs) (d : TypeDesc)
    (hu : P.underlying ty = some d) (hd : (match d with | .struct _ | .array _ _ => true | _ => false) = true) (hi : (P.info? ty).map (·.size) = some cs.size)
    (h : Hid (Blk w g t cs) → wpList P ops Q rest (a.put o.dst (.agg cs)) w) : wpList P ops Q (o :: rest) a w :=
  wpList_step fun K hK => by
    rw [if_pos hgd]
    unfold Oper.wp
    rw [run_load_box ty x ho g hx t cs hg d hu hd hi]
    exact hK _ _ (h (Lib.hid hg))
theorem all_one {l : List Value} (h : ∀ u ∈ l, u.oneCell' = true) : l.toArray.all (·.oneCell') = true := by rw [List.all_toArray, List.all_eq_true]; exact h
/-- a row of bools, as a block's cells -/
def rowB (f : Nat → Bool) (n : Nat) : Array Value := ((List.range n).map fun k => Value.bool (f k)).toArray
theorem rowB_size (f : Nat → Bool) (n : Nat) : (rowB f n).size = n := by simp [rowB]
theorem rowB_at (f : Nat → Bool) {n k : Nat} (h : k < n) : (rowB f n)[k]? = some (.bool (f k)) := by simp [rowB, h]
theorem rowB_set (f : Nat → Bool) (n i : Nat) (b : Bool) : (rowB f n).setIfInBounds i (.bool b) = rowB (fun k => if k = i then b else f k) n := by
  apply Array.ext
  · simp [rowB]
  · intro k h1 h2
    simp only [rowB, List.size_toArray, List.length_map, List.length_range] at h2
    rw [Array.getElem_setIfInBounds (by simpa [rowB] using h2)]
    simp only [rowB, List.getElem_toArray, List.getElem_map, List.getElem_range]
    by_cases e : k = i
    · rw [if_pos e.symm, if_pos e]
    · rw [if_neg (fun h => e h.symm), if_neg e]
theorem rowB_congr {f g : Nat → Bool} {n : Nat} (h : ∀ k, k < n → f k = g k) : rowB f n = rowB g n := by
  unfold rowB
  congr 1
  apply List.map_congr_left
  intro k hk
  rw [h k (by simpa using hk)]
theorem add0 (g i : Nat) : (⟨g, 0, none⟩ : Addr).add i = ⟨g, i, none⟩ := by
  unfold Addr.add
  split
  · next h0 => subst h0; rfl
  · simp
theorem RdP.reads {w : World} {φ : Nat → Prop} {B size n : Nat} {A : Option Addr} {xs : List Value} (h : RdP w φ size A n xs) (hB : ∀ b, φ b → b < B) : Reads w B size A n xs :=
  ⟨h.1, fun hn => by
    obtain ⟨ad, e, hb, hc⟩ := h.2 hn
    exact ⟨ad, e, hB _ hb, hc⟩⟩
theorem lit_cells (w : World) (l : List Value) (e : TypeId) (j : Nat) (u : Value) (h : l[j]? = some u) : (w.alloc (.cells l.toArray e)).cell? ((⟨w.heap.size, 0, none⟩ : Addr).add j) = some u := by
  have hB := Blk.new w e l.toArray
  rw [add0, hB.cell j]
  simpa using h
theorem i32_at {w : World} {B n : Nat} {A : Option Addr} {kd : IntKind} {zs : List Int} (h : Reads w B 1 A n (zs.map (Value.int kd))) {k : Nat} (hk : k < n) :
    ∃ ad, A = some ad ∧ ad.block < B ∧ w.cell? (ad.add k) = some (.int kd (zs.getD k 0)) := by
  obtain ⟨ad, u, e, hb, hx, hc⟩ := h.at_ hk
  refine ⟨ad, e, hb, hc.trans ?_⟩
  rw [← hx]
  have hl : k < zs.length := by have := h.1; simp at this; omega
  simp [List.getD_eq_getElem?_getD, hl]
theorem boolZ (w : World) : (zeroValue 4).run Try.prog w = .ok (.bool false) w := by kernel_rfl
/-- the jumps that were taken: a map of a way's own -/
def TkAt (w : World) (b : Nat) (tk : List Int) : Prop :=
  ∃ (D : DataW Unit), w.ownsMap Try.prog 3 (plainElem Try.prog 4) b tk.length D ∧ Maps.IsMap D ∧ ∀ x : Int, D.atKey (.int .i64 x) (.lit (.bool false)) = .lit (.bool (decide (x ∈ tk)))
theorem plainElem_bool_inv {H : Type} {P : Program} {e : TypeId} (he : P.underlying e = some .bool) {v : Value} {z : DataW H × List MemPlace} (h : plainElem P e v = some z) : ∃ a, v = .bool a ∧ z = (.lit (.bool a), []) := by
  unfold plainElem at h
  rw [he] at h
  split at h
  · rename_i x y heq
    injection h with h
    exact ⟨_, rfl, h.symm⟩
  · rename_i heq
    injection heq with heq
    cases heq
  · rename_i heq
    injection heq with heq
    cases heq
  · cases h
theorem TkAt.lookup {w : World} {b : Nat} {tk : List Int} (h : TkAt w b tk) {x : Int} (hw : (Lit.int .i64 x).wf = true) : (Instr.lookup 52 (.map (some b)) (.int .i64 x) false).run Try.prog w = .ok (.bool (decide (x ∈ tk))) w := by
  obtain ⟨D, hown, _, hat⟩ := h
  obtain ⟨v, ps, hrun, hv⟩ := hown.lookup (Maps.int_keyed Try.underlying3) Try.underlying52 (boolZ w) (plainElem_bool Try.underlying4 false) (Maps.keyOf_int_mk Try.underlying3 hw)
  obtain ⟨c, rfl, hc⟩ := plainElem_bool_inv Try.underlying4 hv
  rw [hat x] at hc
  simp only [Prod.mk.injEq, DataW.lit.injEq, Lit.bool.injEq] at hc
  rw [hrun, hc.1]
theorem TkAt.update {w : World} {b : Nat} {tk : List Int} (h : TkAt w b tk) {x : Int} (hw : (Lit.int .i64 x).wf = true) (hn : tk.length < 1000) : ∃ w', (Instr.mapUpdate 52 (.map (some b)) (.int .i64 x) (.bool true)).run Try.prog w = .ok () w' ∧ TkAt w' b (x :: tk) ∧ w.grownBy w' (some b) := by
  obtain ⟨D, hown, hD, hat⟩ := h
  obtain ⟨w', hrun, hown', hg⟩ := hown.update (Maps.int_keyed Try.underlying3) Try.underlying52 (by unfold maxLen; omega) (Maps.keyOf_int_mk Try.underlying3 hw) (plainElem_bool Try.underlying4 true)
  refine ⟨w', hrun, ⟨_, hown', hD.put _ _, fun y => ?_⟩, hg⟩
  by_cases hy : y = x
  · subst hy
    rw [Maps.atKey_put_same hD (by exact trivial)]
    simp
  · rw [Maps.atKey_put_other (by simpa using hy), hat y]
    simp [hy]
theorem TkAt.clear {w : World} {b : Nat} {tk : List Int} (h : TkAt w b tk) (ty : TypeId) : ∃ v w', (Builtin.clear_ #[52] ty #[.map (some b)]).run Try.prog w = .ok v w' ∧ TkAt w' b [] ∧ w.grownBy w' (some b) := by
  obtain ⟨D, ⟨es, clock, hb, F, _, rfl⟩, hD, hat⟩ := h
  refine ⟨.tuple #[], { w with heap := w.heap.setIfInBounds b (.map #[] clock) }, ?_, ⟨_, ⟨#[], clock, ?_, ⟨by simp, MapKept.stamped_empty clock, by simp⟩, Nat.le_refl _, rfl⟩, ⟨_, rfl⟩, fun x => rfl⟩, ?_⟩
  · simp [Builtin.clear_, run_underlying Try.underlying52, MapKept.run_getObj_map hb, MapKept.run_setObj_map _ hb, Result.andThen]
  · have hlt := (Array.getElem?_eq_some_iff.1 hb).1
    simp [hlt]
  · refine ⟨rfl, rfl, rfl, by simp, fun k hk hr => ?_⟩
    show (w.heap.setIfInBounds b (.map #[] clock))[k]? = _
    rw [Array.getElem?_setIfInBounds]
    rw [if_neg (fun e => hr (by rw [e]))]
theorem TkAt.new (w : World) : TkAt (w.alloc (.map #[] 0)) w.heap.size [] := ⟨_, World.ownsMap_made _ _ _ _, ⟨_, rfl⟩, fun x => rfl⟩
theorem TkAt.kept {w w' : World} {b : Nat} {tk : List Int} (h : TkAt w b tk) (hk : w'.heap[b]? = w.heap[b]?) : TkAt w' b tk := by
  obtain ⟨D, ⟨es, clock, hb, F, hs, e⟩, hD, hat⟩ := h
  exact ⟨D, ⟨es, clock, hk.trans hb, F, hs, e⟩, hD, hat⟩
end Go.Proofs.Ytnmapncgnceldaa
