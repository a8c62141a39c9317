/- Part 1 of the proof: lemmas on what the program computes; no condition. -/
import Derived.WalkKit
import Derived.WalkSpells
import Derived.WalkLawsBesides
import Derived.Handy
import Derived.Below
import Derived.Laws.OwnMore
import Derived.Deep.AppendLies
import Derived.Deep.Draws
import Derived.Laws.Rows
import Derived.Maps.AppendAt
import Derived.RegionTactic
import Derived.OwnWalk
import Derived.ChangeSame
import Derived.Deep.QuietTactic
import Derived.BigQuiet
import Derived.Lib.Hide
import Derived.Deep.RegionWith
import Derived.Deep.RegionHeld3
import Derived.StillTailTactics
import Derived.Test.YtnlaedfnifimkaaGreatProg
import Derived.Laws.BytesArg
import Derived.Laws.Tables
import Derived.Laws.CopyOwn
import Derived.Maps.OwnOps
import Derived.Maps.Views
import Derived.Deep.CutRange
set_option linter.unusedVariables false
set_option linter.unusedSimpArgs false
set_option linter.unusedSectionVars false
namespace Go.Proofs.YtnlaedfnifimkaaGreat
open Go.RowKit Go.WideShapes Go.ChangeShapes
theorem block_of_add (a : Addr) (n : Nat) : (a.add n).block = a.block := by unfold Addr.add; split <;> rfl
theorem add_of_add (a : Addr) (i j : Nat) : (a.add i).add j = a.add (i + j) := by
  unfold Addr.add
  by_cases hi : i = 0 <;> by_cases hj : j = 0 <;> simp [hi, hj, Nat.add_assoc]
def Reads (w : World) (B size : Nat) (A : Option Addr) (n : Nat) (xs : List Value) : Prop :=
  xs.length = n * size ∧ (0 < n → ∃ ad, A = some ad ∧ ad.block < B ∧ ∀ j u, xs[j]? = some u → w.cell? (ad.add j) = some u)
section
variable {w w' : World} {B B' size n : Nat} {A : Option Addr} {xs : List Value}
theorem Reads.none_ : Reads w B size A 0 [] := ⟨by simp, fun h => absurd h (by omega)⟩
theorem Reads.at_ {k : Nat} (h : Reads w B 1 A n xs) (hk : k < n) : ∃ ad u, A = some ad ∧ ad.block < B ∧ xs[k]? = some u ∧ w.cell? (ad.add k) = some u := by
  obtain ⟨ad, e, hb, hc⟩ := h.2 (by omega)
  have hl : k < xs.length := by have := h.1; omega
  exact ⟨ad, xs[k], e, hb, List.getElem?_eq_getElem hl, hc k _ (List.getElem?_eq_getElem hl)⟩
theorem Reads.keep (h : Reads w B size A n xs) (hk : ∀ p : Addr, p.block < B → w'.cell? p = w.cell? p) : Reads w' B size A n xs :=
  ⟨h.1, fun hn => by
    obtain ⟨ad, e, hb, hc⟩ := h.2 hn
    exact ⟨ad, e, hb, fun j u hu => (hk _ (by rw [block_of_add]; exact hb)).trans (hc j u hu)⟩⟩
theorem Reads.more (h : Reads w B size A n xs) (hB : B ≤ B') : Reads w B' size A n xs :=
  ⟨h.1, fun hn => by
    obtain ⟨ad, e, hb, hc⟩ := h.2 hn
    exact ⟨ad, e, by omega, hc⟩⟩
theorem Reads.below (h : Reads w B size A n xs) (hb : Below B w w') : Reads w' B size A n xs := h.keep fun _ hp => hb.cell hp
theorem Reads.drew (h : Reads w B size A n xs) : Reads w.drew B size A n xs := h
theorem Reads.drewN (h : Reads w B size A n xs) (k : Nat) : Reads (w.drewN k) B size A n xs := h
theorem Reads.alloc (h : Reads w B size A n xs) (hB : B ≤ w.heap.size) (o : Obj) : Reads (w.alloc o) B size A n xs := h.keep fun p hp => World.cell?_alloc_lt w o p (by omega)
theorem Reads.setCell (h : Reads w B size A n xs) {p : Addr} (hB : B ≤ p.block) (u : Value) : Reads (w.setCell p u) B size A n xs :=
  h.keep fun q hq => World.cell?_setCell_other w p q u (fun e => by subst e; omega)
theorem Reads.grown (h : Reads w B size A n xs) {row : Option Nat} (hg : w.grownBy w' row) (hB : B ≤ w.heap.size) (hr : ∀ g, row = some g → B ≤ g) : Reads w' B size A n xs :=
  h.keep fun p hp => World.cell?_of_block (hg.block p.block (by omega) (fun e => by have := hr _ e.symm; omega))
theorem Reads.cut (h : Reads w B size A n xs) {k cap : Nat} (hk : k ≤ n) (hc : n ≤ cap) :
    Reads w B size (if cap = k then A else A.map (·.add (k * size))) (n - k) (xs.drop (k * size)) := by
  refine ⟨by rw [List.length_drop, h.1, Nat.sub_mul], fun hn => ?_⟩
  obtain ⟨ad, rfl, hb, hcell⟩ := h.2 (by omega)
  rw [if_neg (by omega)]
  refine ⟨ad.add (k * size), rfl, by rw [block_of_add]; exact hb, fun j u hu => ?_⟩
  rw [add_of_add]
  exact hcell _ u (by rw [← hu, List.getElem?_drop])
theorem Reads.of_own {base : Nat} {e : TypeId} {c : Nat} (h : w.ownsRow base e size (.slice A n c) n xs) : Reads w w.heap.size size A n xs := by
  refine ⟨h.1, fun hn => ?_⟩
  obtain ⟨g, cap, hv, _, hlt⟩ := h.form hn
  have hA : A = some ⟨g, 0, none⟩ := by injection hv
  subst hA
  exact ⟨_, rfl, hlt, h.cells (g := g) rfl⟩
end
def Blk (w : World) (g : Nat) (t : TypeId) (cs : Array Value) : Prop := w.heap[g]? = some (.cells cs t (0, 0))
section
variable {w w' : World} {g : Nat} {t : TypeId} {cs : Array Value}
theorem Blk.lt (h : Blk w g t cs) : g < w.heap.size := by
  rcases Nat.lt_or_ge g w.heap.size with hlt | hge
  · exact hlt
  · unfold Blk at h; rw [Array.getElem?_eq_none hge] at h; cases h
theorem Blk.cell (h : Blk w g t cs) (i : Nat) : w.cell? ⟨g, i, none⟩ = cs[i]? := cell_of_row w g i cs t (0, 0) h
theorem Blk.frozen (h : Blk w g t cs) (i : Nat) : w.frozen? ⟨g, i, none⟩ = false := by
  unfold Blk at h
  simp [World.frozen?, h]
theorem Blk.new (w : World) (t : TypeId) (cs : Array Value) : Blk (w.alloc (.cells cs t)) w.heap.size t cs := heap_alloc_new w _
theorem Blk.drew (h : Blk w g t cs) : Blk w.drew g t cs := h
theorem Blk.drewN (h : Blk w g t cs) (n : Nat) : Blk (w.drewN n) g t cs := h
theorem Blk.alloc (h : Blk w g t cs) (o : Obj) : Blk (w.alloc o) g t cs := (Below.heap_alloc w o g h.lt).trans h
theorem Blk.set_ (h : Blk w g t cs) (i : Nat) (u : Value) : Blk (w.setCell ⟨g, i, none⟩ u) g t (cs.setIfInBounds i u) := by
  unfold Blk at h ⊢
  simp [World.setCell, Array.getElem?_modify, h]
theorem Blk.far (h : Blk w g t cs) {p : Addr} (hp : g ≠ p.block) (u : Value) : Blk (w.setCell p u) g t cs := (Below.heap_setCell w p u g hp).trans h
theorem Blk.below {B : Nat} (h : Blk w g t cs) (hb : Below B w w') (hg : g < B) : Blk w' g t cs := (hb.block g hg).trans h
theorem Blk.grown {row : Option Nat} (h : Blk w g t cs) (hb : w.grownBy w' row) (hg : some g ≠ row) : Blk w' g t cs := (hb.block g h.lt hg).trans h
theorem Blk.ne_ {g' : Nat} {t' : TypeId} {cs' : Array Value} (h : Blk w g t cs) (h' : Blk w g' t' cs') (hne : t ≠ t') : g ≠ g' := by
  rintro rfl
  unfold Blk at h h'
  rw [h] at h'
  injection h' with h'
  injection h' with _ ht
  exact hne ht
theorem own_blk_ne {base : Nat} {e : TypeId} {size n : Nat} {v : Value} {xs : List Value} (h : w.ownsRow base e size v n xs) (hg : Blk w g t cs) (hne : e ≠ t) : v.ownBlock ≠ some g := by
  rcases h.2 with ⟨rfl, _⟩ | ⟨g', cap, cur, rfl, _, hh, _⟩
  · simp [Value.ownBlock]
  · intro he
    have : g' = g := by simpa [Value.ownBlock] using he
    subst this
    exact Blk.ne_ (t := e) hh hg hne rfl
end
section
variable {P : Program} (w : World)
theorem run_append_of_nil (base : Nat) (t ty e : TypeId) (i : TypeInfo) (size : Nat) (ht : P.underlying t = some (.slice e)) (hi : P.info? e = some i)
    (v : Value) (n : Nat) (xs : List Value) (hown : w.ownsRow base e size v n xs) (c : Nat) : (Builtin.append_ #[t, t] ty #[v, .slice none 0 c]).run P w = .ok v w := by
  rcases hown.2 with ⟨rfl, rfl⟩ | ⟨g, cap, cur, rfl, _, _, hnc, _⟩
  · simp [Builtin.append_, run_underlying ht, sizeOf, typeInfo, hi, Builtin.lenOf, Builtin.firstCells]
  · simp [Builtin.append_, run_underlying ht, sizeOf, typeInfo, hi, Builtin.lenOf, Builtin.firstCells, hnc, storeCells]
theorem run_append_any (base : Nat) (t ty e : TypeId) (i : TypeInfo) (z : Value) (size bytes : Nat) (ht : P.underlying t = some (.slice e)) (hi : P.info? e = some i) (hz : i.zero = some z)
    (hsize : i.size = size) (hby : i.bytes = bytes) (hzs : z.cells.size = size) (hsz : 0 < size)
    (v : Value) (n : Nat) (xs : List Value) (hown : w.ownsRow base e size v n xs)
    (B : Nat) (A : Option Addr) (m c : Nat) (news : List Value) (hr : Reads w B size A m news) (h1 : ∀ u ∈ news, u.oneCell' = true)
    (h63 : n + m ≤ maxLen) (hbytes : (n + m) * bytes ≤ 140737488355328) (hbase : base ≤ w.heap.size) :
    ∃ v' w', (Builtin.append_ #[t, t] ty #[v, .slice A m c]).run P w = .ok v' w' ∧ w'.ownsRow base e size v' (n + m) (xs ++ news) ∧ w.grownBy w' v.ownBlock ∧
      (v'.ownBlock = v.ownBlock ∨ v'.ownBlock = some w.heap.size) := by
  rcases A with _ | ad
  · have hm : m = 0 := by
      rcases Nat.eq_zero_or_pos m with h0 | h0
      · exact h0
      · obtain ⟨ad, h, _⟩ := hr.2 h0
        cases h
    subst hm
    have hn : news = [] := List.eq_nil_of_length_eq_zero (by simpa using hr.1)
    subst hn
    exact ⟨v, w, run_append_of_nil w base t ty e i size ht hi v n xs hown c, by simpa using hown, World.grownBy.refl w _, .inl rfl⟩
  · have hcells : ∀ j u, news[j]? = some u → w.cell? (ad.add j) = some u := by
      intro j u hu
      rcases Nat.eq_zero_or_pos m with h0 | h0
      · subst h0
        have hn : news = [] := List.eq_nil_of_length_eq_zero (by simpa using hr.1)
        subst hn
        simp at hu
      · obtain ⟨ad', h, _, hc⟩ := hr.2 h0
        injection h with h
        subst h
        exact hc j u hu
    obtain ⟨v', w', hrun, h2, h3, _, h5⟩ := run_append_own_at (P := P) w base t ty e i z size bytes ht hi hz hsize hby hzs hsz v n xs hown ad m c news hr.1 hcells h1 h63 hbytes hbase
    exact ⟨v', w', hrun, h2, h3, h5⟩
theorem wp_append_any {o : Oper} {a : Act} {K : Act → World → Prop} {Q : Exit → Act → World → Prop} (s x : Operand) (t : TypeId)
    (ho : o.op = .call { callee := .builtin .append, args := #[s, x], argTypes := #[t, t] })
    (base : Nat) (e : TypeId) (i : TypeInfo) (z : Value) (size bytes : Nat) (ht : P.underlying t = some (.slice e)) (hi : P.info? e = some i) (hz : i.zero = some z)
    (hsize : i.size = size) (hby : i.bytes = bytes) (hzs : z.cells.size = size) (hsz : 0 < size)
    (v : Value) (n : Nat) (xs : List Value) (hs : a.eval s = v) (hown : w.ownsRow base e size v n xs)
    (B : Nat) (A : Option Addr) (m c : Nat) (news : List Value) (hx : a.eval x = .slice A m c) (hr : Reads w B size A m news) (h1 : ∀ u ∈ news, u.oneCell' = true)
    (h63 : n + m ≤ maxLen) (hbytes : (n + m) * bytes ≤ 140737488355328) (hbase : base ≤ w.heap.size)
    (h : ∀ v' w', w'.ownsRow base e size v' (n + m) (xs ++ news) → w.grownBy w' v.ownBlock → (v'.ownBlock = v.ownBlock ∨ v'.ownBlock = some w.heap.size) → K (a.put o.dst v') w') : o.wp P a w K Q := by
  obtain ⟨v', w', hrun, h2, h3, h4⟩ := run_append_any (P := P) w base t o.type e i z size bytes ht hi hz hsize hby hzs hsz v n xs hown B A m c news hr h1 h63 hbytes hbase
  unfold Oper.wp execOp
  simp only [ho, resolve, invoke, builtin, Sem.run_bind, Sem.run_pure, Result.andThen_ok, List.map_toArray, List.map_cons, List.map_nil, hs, hx, hrun]
  exact h v' w' h2 h3 h4
theorem wpList_append_any {ops : Array Oper} {rest : List Oper} {o : Oper} {a : Act} {Q : Exit → Act → World → Prop} (hgd : o.guard = none) (s x : Operand) (t : TypeId)
    (ho : o.op = .call { callee := .builtin .append, args := #[s, x], argTypes := #[t, t] })
    (base : Nat) (e : TypeId) (i : TypeInfo) (z : Value) (size bytes : Nat) (ht : P.underlying t = some (.slice e)) (hi : P.info? e = some i) (hz : i.zero = some z)
    (hsize : i.size = size) (hby : i.bytes = bytes) (hzs : z.cells.size = size) (hsz : 0 < size)
    (v : Value) (n : Nat) (xs : List Value) (hs : a.eval s = v) (hown : w.ownsRow base e size v n xs)
    (B : Nat) (A : Option Addr) (m c : Nat) (news : List Value) (hx : a.eval x = .slice A m c) (hr : Reads w B size A m news) (h1 : ∀ u ∈ news, u.oneCell' = true)
    (h63 : n + m ≤ maxLen) (hbytes : (n + m) * bytes ≤ 140737488355328) (hbase : base ≤ w.heap.size)
    (h : ∀ v' w', w'.ownsRow base e size v' (n + m) (xs ++ news) → w.grownBy w' v.ownBlock → (v'.ownBlock = v.ownBlock ∨ v'.ownBlock = some w.heap.size) → wpList P ops Q rest (a.put o.dst v') w') : wpList P ops Q (o :: rest) a w :=
  wpList_plain hgd fun _ hK => wp_append_any w s x t ho base e i z size bytes ht hi hz hsize hby hzs hsz v n xs hs hown B A m c news hx hr h1 h63 hbytes hbase fun v' w' h2 h3 h4 => hK _ _ (h v' w' h2 h3 h4)
theorem step_append_any {ops : Array Oper} {o : Oper} {a : Act} {K : Act → World → Prop} {Q : Exit → Act → World → Prop} {E : Prop} (hgd : o.guard = none) (s x : Operand) (t : TypeId)
    (ho : o.op = .call { callee := .builtin .append, args := #[s, x], argTypes := #[t, t] })
    (base : Nat) (e : TypeId) (i : TypeInfo) (z : Value) (size bytes : Nat) (ht : P.underlying t = some (.slice e)) (hi : P.info? e = some i) (hz : i.zero = some z)
    (hsize : i.size = size) (hby : i.bytes = bytes) (hzs : z.cells.size = size) (hsz : 0 < size)
    (v : Value) (n : Nat) (xs : List Value) (hs : a.eval s = v) (hown : w.ownsRow base e size v n xs)
    (B : Nat) (A : Option Addr) (m c : Nat) (news : List Value) (hx : a.eval x = .slice A m c) (hr : Reads w B size A m news) (h1 : ∀ u ∈ news, u.oneCell' = true)
    (h63 : n + m ≤ maxLen) (hbytes : (n + m) * bytes ≤ 140737488355328) (hbase : base ≤ w.heap.size)
    (h : ∀ v' w', w'.ownsRow base e size v' (n + m) (xs ++ news) → w.grownBy w' v.ownBlock → (v'.ownBlock = v.ownBlock ∨ v'.ownBlock = some w.heap.size) → K (a.put o.dst v') w') :
    if Region.wanted o (yielded ops a.tmps) = true then Oper.wp P o a w K Q else E := by
  have hw : Region.wanted o (yielded ops a.tmps) = true := by simp [Region.wanted, hgd]
  rw [if_pos hw]
  exact wp_append_any w s x t ho base e i z size bytes ht hi hz hsize hby hzs hsz v n xs hs hown B A m c news hx hr h1 h63 hbytes hbase h
end
theorem ret_int {k : IntKind} {a b : Int} (h : a = b) : Ending.returned (.int k a) = .returned (.int k b) := by rw [h]
theorem ret_bool {a b : Bool} (h : a = b) : Ending.returned (.bool a) = .returned (.bool b) := by rw [h]
def BoolRow (w : World) (g n : Nat) (f : Nat → Bool) : Prop := g < w.heap.size ∧ ∀ j, j < n → w.cell? ⟨g, j, none⟩ = some (.bool (f j))
theorem BoolRow.below {w w' : World} {g n B : Nat} {f : Nat → Bool} (h : BoolRow w g n f) (hb : Below B w w') (hg : g < B) : BoolRow w' g n f :=
  ⟨Nat.lt_of_lt_of_le h.1 hb.size, fun j hj => (hb.cell (p := ⟨g, j, none⟩) hg).trans (h.2 j hj)⟩
theorem bthen {W a b : World} (h : Below W.heap.size W a) (k : Below a.heap.size a b) : Below W.heap.size W b := h.trans (k.mono h.size)
def IsRow (k : IntKind) (w : World) (a : Option Addr) (len cap : Nat) (zs : List Int) : Prop :=
  (a = none ∧ len = 0 ∧ cap = 0 ∧ zs = []) ∨
  ∃ x, a = some x ∧ (cap = 0 ∨ x.block < w.heap.size) ∧ len ≤ cap ∧ cap ≤ maxLen ∧ zs.length = cap ∧ (∀ i, i < zs.length → w.cell? (x.add i) = some (.int k (zs.getD i 0))) ∧ ∀ n ∈ zs, (Lit.int k n).wf = true
theorem results_tmp4 {fn : Func} {t u v x : Tmp} (h : fn.results = #[.tmp t, .tmp u, .tmp v, .tmp x]) (tmps : Array Value) (P : Program) (w : World) :
    (results fn tmps).run P w = .ok (.tuple #[tmps.getD t undef, tmps.getD u undef, tmps.getD v undef, tmps.getD x undef]) w := by simp [results, h]
theorem flip {P : Program} {f : FuncId} {args : Array Value} {w : World} {v : Value} (h : Calls P f args w fun e w' => e = .returned v ∧ w = w') : Calls P f args w fun e w' => e = .returned v ∧ w' = w := h.mono fun _ _ ⟨a, b⟩ => ⟨a, b.symm⟩
section
variable {P : Program} {ops : Array Oper} {w : World} {Q : Act → Prop} {a : Act} {o : Oper} {rest : List Oper}
end
end Go.Proofs.YtnlaedfnifimkaaGreat
namespace Go.Proofs.YtnlaedfnifimkaaGreat
open Go.RowKit
theorem add_zero_ (ad : Addr) : ad.add 0 = ad := by simp [Addr.add]
theorem add_lit (a : Addr) (n : Nat) (h : n ≠ 0) : a.add n = ⟨a.block, a.off + n, none⟩ := by unfold Addr.add; rw [if_neg h]
def isU8 (zs : List Int) : Prop := ∀ z ∈ zs, 0 ≤ z ∧ z ≤ 255
theorem isU8_at {zs : List Int} (h : isU8 zs) {k : Nat} (hk : k < zs.length) : 0 ≤ zs.getD k 0 ∧ zs.getD k 0 ≤ 255 := by
  have : zs.getD k 0 ∈ zs := by rw [List.getD_eq_getElem?_getD, List.getElem?_eq_getElem hk]; exact List.getElem_mem hk
  exact h _ this
theorem u8_at {w : World} {B n : Nat} {A : Option Addr} {zs : List Int} (h : Reads w B 1 A n (zs.map (Value.int .u8))) {k : Nat} (hk : k < n) :
    ∃ ad, A = some ad ∧ ad.block < B ∧ w.cell? (ad.add k) = some (.int .u8 (zs.getD k 0)) := by
  obtain ⟨ad, u, e, hb, hx, hc⟩ := h.at_ hk
  refine ⟨ad, e, hb, hc.trans ?_⟩
  rw [← hx]
  have hl : k < zs.length := by have := h.1; simp at this; omega
  simp [List.getD_eq_getElem?_getD, hl]
theorem reads_len {w : World} {B n : Nat} {A : Option Addr} {k : IntKind} {zs : List Int} (h : Reads w B 1 A n (zs.map (Value.int k))) : zs.length = n := by have := h.1; simpa using this
theorem take_snocI (zs : List Int) (k : Nat) (h : k < zs.length) : zs.take (k + 1) = zs.take k ++ [zs.getD k 0] := by
  rw [List.take_succ_eq_append_getElem h]; simp [List.getD_eq_getElem?_getD, h]
theorem row_u8 {w : World} {a : Option Addr} {len cap : Nat} {zs : List Int} (h : IsRow .u8 w a len cap zs) :
    Reads w w.heap.size 1 a len ((zs.take len).map (Value.int .u8)) ∧ isU8 (zs.take len) ∧ len ≤ cap ∧ cap ≤ maxLen := by
  rcases h with ⟨rfl, rfl, rfl, rfl⟩ | ⟨x, rfl, hb, hl, hc, hz, hcell, hw⟩
  · exact ⟨Reads.none_, by intro z hz; simp at hz, Nat.le_refl _, by unfold maxLen; omega⟩
  · refine ⟨⟨by simp; omega, fun hn => ⟨x, rfl, by rcases hb with h0 | h0; omega; exact h0, fun j u hu => ?_⟩⟩, fun z hz' => bounds_u8 (hw z (List.mem_of_mem_take hz')), hl, hc⟩
    simp only [List.getElem?_map, List.getElem?_take, Option.map_eq_some_iff] at hu
    obtain ⟨v, hv, rfl⟩ := hu
    split at hv
    · have hj : j < zs.length := by
        rcases Nat.lt_or_ge j zs.length with h | h
        · exact h
        · rw [List.getElem?_eq_none h] at hv; cases hv
      rw [hcell j hj, List.getD_eq_getElem?_getD, hv]
      rfl
    · cases hv
theorem own_slice {w : World} {B e size n : Nat} {v : Value} {xs : List Value} (h : w.ownsRow B e size v n xs) : ∃ A c, v = .slice A n c := by
  rcases h.2 with ⟨rfl, rfl⟩ | ⟨g, cap, cur, rfl, _⟩
  · exact ⟨_, _, rfl⟩
  · exact ⟨_, _, rfl⟩
theorem own_sliceC {w : World} {B e size n : Nat} {v : Value} {xs : List Value} (h : w.ownsRow B e size v n xs) : ∃ A c, v = .slice A n c ∧ n ≤ c := by
  rcases h.2 with ⟨rfl, rfl⟩ | ⟨g, cap, cur, rfl, _, _, hn, _⟩
  · exact ⟨_, _, rfl, Nat.le_refl _⟩
  · exact ⟨_, _, rfl, hn⟩
theorem own_kept {w w' : World} {B e size n : Nat} {v : Value} {xs : List Value} (h : w.ownsRow B e size v n xs) (k : Below w.heap.size w w') : w'.ownsRow B e size v n xs :=
  h.kept (row := none) ⟨k.os, k.tape, k.output, k.size, fun j hj _ => k.block j hj⟩ (by cases hv : v.ownBlock <;> simp)
theorem conv_reads {P : Program} (w : World) (src e dst : TypeId) (hs : P.underlying src = some (.slice e)) (he : P.underlying e = some (.int .u8)) (hd : P.underlying dst = some .string)
    {B n : Nat} {A : Option Addr} {zs : List Int} (c : Nat) (hr : Reads w B 1 A n (zs.map (Value.int .u8))) : (convert src dst (.slice A n c)).run P w = .ok (.string (strOfNums zs)) w := by
  have hl := reads_len hr
  rcases A with _ | ad
  · have hn : n = 0 := by
      rcases Nat.eq_zero_or_pos n with h0 | h0
      · exact h0
      · obtain ⟨ad, h, _⟩ := hr.2 h0
        cases h
    obtain rfl : zs = [] := List.eq_nil_of_length_eq_zero (by omega)
    exact run_convert_bytes_nil w src e hs he n c dst hd
  · have hc : (loadCells ad n).run P w = .ok (zs.map (Value.int .u8)).toArray w := by
      have := run_loadCells_list (P := P) w ad (zs.map (Value.int .u8)) (fun j v hj => by
        have hn : 0 < n := by
          rcases Nat.eq_zero_or_pos n with h0 | h0
          · obtain rfl : zs = [] := List.eq_nil_of_length_eq_zero (by omega)
            simp at hj
          · exact h0
        obtain ⟨ad', e', _, h3⟩ := hr.2 hn
        injection e' with e'
        subst e'
        exact h3 j v hj)
      simpa [hl] using this
    rw [run_convert_bytes_string w src dst e _ n c hs he hd, run_bytesToString w _ n c zs hc, foldl_push_bytes]
    simp [strOfNums, ByteArray.empty, ByteArray.emptyWithCapacity]
    rfl
theorem reads_new (w : World) (t : TypeId) (cs : Array Value) (l : List Value) (h : cs.toList = l) :
    Reads (w.alloc (.cells cs t)) (w.alloc (.cells cs t)).heap.size 1 (some ⟨w.heap.size, 0, none⟩) l.length l := by
  refine ⟨by simp, fun _ => ⟨_, rfl, by simp, fun j v hv => ?_⟩⟩
  rw [show (Addr.add ⟨w.heap.size, 0, none⟩ j) = ⟨w.heap.size, j, none⟩ by unfold Addr.add; split <;> simp_all, World.cell?_alloc_at _ _ _ _ rfl]
  rw [← Array.getElem?_toList, h]
  exact hv
theorem u8Info : (Tryz.prog.info? 5).map (fun i => (i.zero, i.size, i.bytes)) = some (some (.int .u8 0), 1, 1) := by kernel_rfl
end Go.Proofs.YtnlaedfnifimkaaGreat
namespace Go.Proofs.YtnlaedfnifimkaaGreat
open Go.RowKit
structure WB where
  id : Int
  pz : Int
  ct : Int
  ts : List Int
  ns : List Int
instance : Inhabited WB := ⟨⟨0, 0, 0, [], []⟩⟩
structure WS where
  at_ : Int
  on : Bool
  heard : Bool
  frm : Int
  times : Int
  con : Bool
  cfrom : Int
  cnext : Int
  tk : List Int
  lk : Int
  lb : Int
  le : Int
  ov : Bool
def ws0 : WS := ⟨0, false, false, 0, 0, false, 0, 0, [], 0, 0, 0, false⟩
def soundsB (i : Int) : Bool := decide (16 ≤ i ∧ i ≤ 21 ∨ i = 24 ∨ i = 25 ∨ i = 32)
def stayS (s : WS) (k b e : Int) : WS := { s with lk := k, lb := b, le := e, ov := true }
def atB (bs : List WB) (i : Int) : WB := bs.getD i.toNat default
def leadE (bs : List WB) (s : WS) : Int :=
  if (atB bs s.at_).id = 35 then (if s.at_ ∈ s.tk then 11 else 0)
  else if (atB bs s.at_).id = 37 then (if s.on = false then 6 else 0)
  else if (atB bs s.at_).id = 38 then (if s.con = true then 6 else 0)
  else if (atB bs s.at_).id = 39 then (if s.con = false then 9 else 0)
  else 0
def leadS (bs : List WB) (s : WS) : WS :=
  if (atB bs s.at_).id = 35 then { s with tk := s.at_ :: s.tk, at_ := s.at_ + (atB bs s.at_).ts.getD 0 0 }
  else if (atB bs s.at_).id = 36 then { s with on := true, heard := false, frm := s.at_ + 1, times := (if (atB bs s.at_).ct < 1 then 1 else (atB bs s.at_).ct) - 1, at_ := s.at_ + 1 }
  else if (atB bs s.at_).id = 37 then (if 0 < s.times ∧ s.heard = true then { s with times := s.times - 1, heard := false, at_ := s.frm } else { s with on := false, heard := false, frm := 0, times := 0, at_ := s.at_ + 1 })
  else if (atB bs s.at_).id = 38 then (if 0 < (atB bs s.at_).ts.length then { s with con := true, cfrom := s.at_, cnext := 1, at_ := s.at_ + (atB bs s.at_).ts.getD 0 0 } else { s with at_ := s.at_ + 1 })
  else if (atB bs s.at_).id = 39 then (if s.cnext < (atB bs s.cfrom).ts.length then { s with cnext := s.cnext + 1, at_ := s.cfrom + (atB bs s.cfrom).ts.getD s.cnext.toNat 0 } else { s with con := false, cfrom := 0, cnext := 0, at_ := s.cfrom + 1 })
  else { s with at_ := s.at_ + 1 }
def toldK (b : WB) : Int := if b.id = 32 ∧ b.pz = 0 ∨ b.id = 42 then 1 else if b.id = 43 then 2 else if soundsB b.id = true then 0 else 3
structure Tell where
  k : Int
  b : Int
  e : Int
def nextW (bs : List WB) : Nat → WS → Tell × WS
  | 0, s => (⟨0, 0, 0⟩, s)
  | f + 1, s =>
    if s.at_ < bs.length then
      if toldK (atB bs s.at_) = 3 then
        if leadE bs s = 0 then nextW bs f (leadS bs s) else (⟨4, s.at_, leadE bs s⟩, stayS s 4 s.at_ (leadE bs s))
      else (⟨toldK (atB bs s.at_), s.at_, 0⟩, { s with at_ := s.at_ + 1 })
    else (⟨3, bs.length, 0⟩, stayS s 3 bs.length 0)
def Fine (bs : List WB) : Prop := bs.length ≤ 300 ∧ ∀ i : Nat, i < bs.length → (bs.getD i default).ts.length ≤ 300 ∧ ((bs.getD i default).id = 35 → (bs.getD i default).ts ≠ []) ∧ ((bs.getD i default).id = 35 ∨ (bs.getD i default).id = 38 → ∀ d ∈ (bs.getD i default).ts, 0 ≤ (i : Int) + d ∧ (i : Int) + d < bs.length) ∧ (bs.getD i default).ct ≤ 9223372036854775807
def leftN (bs : List WB) (tk : List Int) : Nat := ((List.range bs.length).filter fun i : Nat => decide ((i : Int) ∉ tk)).length
def WS.ok (bs : List WB) (s : WS) : Prop := 0 ≤ s.at_ ∧ s.at_ ≤ bs.length ∧ (s.on = true → 0 ≤ s.frm ∧ s.frm ≤ bs.length) ∧ (s.con = true → 0 ≤ s.cfrom ∧ s.cfrom < bs.length ∧ 1 ≤ s.cnext ∧ s.cnext ≤ (atB bs s.cfrom).ts.length ∧ (atB bs s.cfrom).id = 38) ∧ 0 ≤ s.times ∧ s.times ≤ 9223372036854775806 ∧ s.tk.length + leftN bs s.tk ≤ bs.length
def hN (b : Bool) : Nat := if b then 1 else 0
def innerN (bs : List WB) (s : WS) : Nat := if s.con then ((atB bs s.cfrom).ts.length - s.cnext.toNat) * 301 + (bs.length - s.at_.toNat) else 91000
def baseN (s : WS) : Nat := if s.con then s.cfrom.toNat else s.at_.toNat
def roundsN (bs : List WB) (s : WS) : Nat := (leftN bs s.tk + hN s.heard) * 40000000 + (bs.length - baseN s) * 100000 + innerN bs s
theorem left_cons {bs : List WB} {tk : List Int} {i : Int} (h0 : 0 ≤ i) (h1 : i < bs.length) (h : i ∉ tk) : leftN bs (i :: tk) + 1 ≤ leftN bs tk := by
  unfold leftN
  obtain ⟨n, rfl⟩ : ∃ n : Nat, i = (n : Int) := ⟨i.toNat, by omega⟩
  have hn : n < bs.length := by omega
  generalize bs.length = m at *
  clear h0 h1
  induction m with
  | zero => omega
  | succ m ih =>
    rw [List.range_succ, List.filter_append, List.filter_append, List.length_append, List.length_append]
    by_cases hm : n < m
    · have := ih hm
      have h2 : ([m].filter fun i : Nat => decide ((i : Int) ∉ (n : Int) :: tk)).length ≤ ([m].filter fun i : Nat => decide ((i : Int) ∉ tk)).length := by
        by_cases hk : (m : Int) ∈ tk
        · simp [hk]
        · rw [List.filter_cons]
          split
          · simp [hk]
          · simp
      omega
    · obtain rfl : n = m := by omega
      have e1 : ([n].filter fun i : Nat => decide ((i : Int) ∉ (n : Int) :: tk)).length = 0 := by simp
      have e2 : ([n].filter fun i : Nat => decide ((i : Int) ∉ tk)).length = 1 := by simp [h]
      have e3 : ((List.range n).filter fun i : Nat => decide ((i : Int) ∉ (n : Int) :: tk)).length ≤ ((List.range n).filter fun i : Nat => decide ((i : Int) ∉ tk)).length := by
        generalize List.range n = l
        induction l with
        | nil => simp
        | cons a l ih2 =>
          rw [List.filter_cons, List.filter_cons]
          by_cases ha : (a : Int) ∈ tk
          · rw [if_neg (by simp [ha]), if_neg (by simp [ha])]; exact ih2
          · rw [if_pos (c := decide ((a : Int) ∉ tk) = true) (by simp [ha])]
            split
            · simp only [List.length_cons]; omega
            · simp only [List.length_cons]; omega
      omega
theorem left_le (bs : List WB) (tk : List Int) : leftN bs tk ≤ bs.length := by
  unfold leftN
  have := List.length_filter_le (fun i : Nat => decide ((i : Int) ∉ tk)) (List.range bs.length)
  simpa using this
theorem getD_mem {l : List Int} {k : Nat} (h : k < l.length) : l.getD k 0 ∈ l := by
  rw [List.getD_eq_getElem?_getD, List.getElem?_eq_getElem h]
  exact List.getElem_mem h
theorem lead_ok {bs : List WB} {s : WS} (hf : Fine bs) (hs : s.ok bs) (hlt : s.at_ < bs.length) (he : leadE bs s = 0) : (leadS bs s).ok bs ∧ roundsN bs (leadS bs s) < roundsN bs s := by
  obtain ⟨a0, a1, hon, hcon, ht, htu, htk⟩ := hs
  obtain ⟨n, hn⟩ : ∃ n : Nat, s.at_ = (n : Int) := ⟨s.at_.toNat, by omega⟩
  have hnl : n < bs.length := by omega
  obtain ⟨t1, t2, t3, t4⟩ := hf.2 n hnl
  have hl60 := hf.1
  have hb : atB bs s.at_ = bs.getD n default := by rw [hn]; rfl
  have hll := left_le bs s.tk
  have hin : innerN bs s ≤ 91000 ∧ (s.con = true → innerN bs s < 91000) := by
    unfold innerN
    split
    · rename_i hc
      obtain ⟨c0, c1, c2, c3, _⟩ := hcon hc
      have := (hf.2 s.cfrom.toNat (by omega)).1
      have h9 : (atB bs s.cfrom).ts.length ≤ 300 := this
      omega
    · rename_i hc
      exact ⟨by omega, fun h => absurd h hc⟩
  have hbase : baseN s < bs.length := by
    unfold baseN
    split
    · rename_i hc
      have := (hcon hc).2.1
      have := (hcon hc).1
      omega
    · omega
  have hh : hN s.heard ≤ 1 := by unfold hN; split <;> omega
  unfold leadE at he
  unfold leadS
  rw [hb] at he ⊢
  by_cases h35 : (bs.getD n default).id = 35
  · rw [if_pos h35] at he ⊢
    have hnt : s.at_ ∉ s.tk := by
      intro h
      rw [if_pos h] at he
      exact absurd he (by decide)
    have hlc := left_cons a0 (by omega) hnt
    have hne := t2 h35
    have hd := t3 (.inl h35) ((bs.getD n default).ts.getD 0 0) (getD_mem (by cases h : (bs.getD n default).ts with | nil => exact absurd h hne | cons a l => simp))
    refine ⟨⟨by show 0 ≤ s.at_ + _; omega, by show s.at_ + _ ≤ _; omega, hon, hcon, ht, htu, by show (s.at_ :: s.tk).length + leftN bs (s.at_ :: s.tk) ≤ _; rw [List.length_cons]; omega⟩, ?_⟩
    have hin2 : innerN bs { s with tk := s.at_ :: s.tk, at_ := s.at_ + (bs.getD n default).ts.getD 0 0 } ≤ 91000 := by
      unfold innerN
      split
      · rename_i hc
        obtain ⟨c0, c1, c2, c3, _⟩ := hcon hc
        have h9 : (atB bs s.cfrom).ts.length ≤ 300 := (hf.2 s.cfrom.toNat (by omega)).1
        simp only at *
        omega
      · omega
    unfold roundsN
    simp only at *
    omega
  · rw [if_neg h35] at he ⊢
    have fwd : ∀ (on' heard' : Bool) (frm' times' : Int), (on' = true → 0 ≤ frm' ∧ frm' ≤ bs.length) → 0 ≤ times' ∧ times' ≤ 9223372036854775806 → (heard' = true → s.heard = true) →
        WS.ok bs { s with on := on', heard := heard', frm := frm', times := times', at_ := s.at_ + 1 } ∧ roundsN bs { s with on := on', heard := heard', frm := frm', times := times', at_ := s.at_ + 1 } < roundsN bs s := by
      intro on' heard' frm' times' h1 h2 h3
      refine ⟨⟨by show 0 ≤ s.at_ + 1; omega, by show s.at_ + 1 ≤ _; omega, h1, hcon, h2.1, h2.2, htk⟩, ?_⟩
      have hh2 : hN heard' ≤ hN s.heard := by
        unfold hN
        cases heard' with
        | false => simp
        | true => rw [h3 rfl]; simp
      unfold roundsN innerN baseN
      simp only
      cases hc : s.con with
      | false => simp only [Bool.false_eq_true, if_false]; omega
      | true => simp only [if_true]; omega
    by_cases h36 : (bs.getD n default).id = 36
    · rw [if_pos h36]
      have h37 : ¬ (bs.getD n default).id = 37 := by omega
      refine fwd true false (s.at_ + 1) _ (fun _ => ⟨by omega, by omega⟩) ?_ (by simp)
      split <;> constructor <;> omega
    · rw [if_neg h36]
      by_cases h37 : (bs.getD n default).id = 37
      · rw [if_pos h37] at he ⊢
        have hon1 : s.on = true := by
          cases ho : s.on with
          | true => rfl
          | false => rw [ho, if_pos rfl] at he; exact absurd he (by decide)
        obtain ⟨f0, f1⟩ := hon hon1
        split
        · rename_i hth
          refine ⟨⟨f0, f1, hon, hcon, by show 0 ≤ s.times - 1; omega, by show s.times - 1 ≤ _; omega, htk⟩, ?_⟩
          have hin2 : innerN bs { s with times := s.times - 1, heard := false, at_ := s.frm } ≤ 91000 := by
            unfold innerN
            split
            · rename_i hc
              obtain ⟨c0, c1, c2, c3, _⟩ := hcon hc
              have h9 : (atB bs s.cfrom).ts.length ≤ 300 := (hf.2 s.cfrom.toNat (by omega)).1
              simp only at *
              omega
            · omega
          have hh3 : hN s.heard = 1 := by rw [hth.2]; rfl
          have hh4 : hN false = 0 := rfl
          unfold roundsN
          simp only at *
          omega
        · exact fwd false false 0 0 (by simp) ⟨by omega, by omega⟩ (by simp)
      · rw [if_neg h37] at he ⊢
        by_cases h38 : (bs.getD n default).id = 38
        · rw [if_pos h38] at he ⊢
          have hc1 : s.con = false := by
            cases hc : s.con with
            | false => rfl
            | true => rw [hc, if_pos rfl] at he; exact absurd he (by decide)
          split
          · rename_i hts
            have hd := t3 (.inr h38) ((bs.getD n default).ts.getD 0 0) (getD_mem hts)
            have hbn : (atB bs s.at_).ts = (bs.getD n default).ts := by rw [hb]
            refine ⟨⟨by show 0 ≤ s.at_ + _; omega, by show s.at_ + _ ≤ _; omega, hon, fun _ => ⟨a0, by show s.at_ < _; omega, by show (1 : Int) ≤ 1; omega, by show (1 : Int) ≤ (atB bs s.at_).ts.length; rw [hbn]; omega, by show (atB bs s.at_).id = 38; rw [hb]; exact h38⟩, ht, htu, htk⟩, ?_⟩
            unfold roundsN innerN baseN
            simp only [hc1, if_true, Bool.false_eq_true, if_false, hbn]
            omega
          · exact fwd s.on s.heard s.frm s.times hon ⟨ht, htu⟩ (fun h => h)
        · rw [if_neg h38] at he ⊢
          by_cases h39 : (bs.getD n default).id = 39
          · rw [if_pos h39] at he ⊢
            have hc1 : s.con = true := by
              cases hc : s.con with
              | true => rfl
              | false => rw [hc, if_pos rfl] at he; exact absurd he (by decide)
            obtain ⟨c0, c1, c2, c3, hid⟩ := hcon hc1
            obtain ⟨g, hg⟩ : ∃ g : Nat, s.cfrom = (g : Int) := ⟨s.cfrom.toNat, by omega⟩
            obtain ⟨u1, u2, u3, u4⟩ := hf.2 g (by omega)
            have hbg : atB bs s.cfrom = bs.getD g default := by rw [hg]; rfl
            split
            · rename_i hlt2
              rw [hbg] at hlt2 hid
              have hd := u3 (.inr hid) ((bs.getD g default).ts.getD s.cnext.toNat 0) (getD_mem (by omega))
              refine ⟨⟨by show 0 ≤ s.cfrom + _; rw [hbg]; omega, by show s.cfrom + _ ≤ _; rw [hbg]; omega, hon, fun _ => ⟨c0, c1, by show 1 ≤ s.cnext + 1; omega, by show s.cnext + 1 ≤ (atB bs s.cfrom).ts.length; rw [hbg]; omega, by show (atB bs s.cfrom).id = 38; rw [hbg]; exact hid⟩, ht, htu, htk⟩, ?_⟩
              unfold roundsN innerN baseN
              simp only [hc1, if_true, hbg]
              omega
            · refine ⟨⟨by show 0 ≤ s.cfrom + 1; omega, by show s.cfrom + 1 ≤ _; omega, hon, fun h => absurd h (by simp), ht, htu, htk⟩, ?_⟩
              unfold roundsN innerN baseN
              simp only [hc1, if_true, Bool.false_eq_true, if_false]
              omega
          · rw [if_neg h39]
            exact fwd s.on s.heard s.frm s.times hon ⟨ht, htu⟩ (fun h => h)
end Go.Proofs.YtnlaedfnifimkaaGreat
namespace Go.Proofs.YtnlaedfnifimkaaGreat
open Go.RowKit
section
variable {P : Program}
theorem grown_setRow (w : World) (g : Nat) (cs : Array Value) : w.grownBy (w.setRow g cs) (some g) :=
  ⟨rfl, rfl, rfl, by simp, fun j _ hne => setRow_other w g j cs (fun e => hne (by rw [e]))⟩
theorem wpList_store_box {ops : Array Oper} {rest : List Oper} {o : Oper} {a : Act} {w : World} {Q : Exit → Act → World → Prop} (hgd : o.guard = none) (ty : TypeId) (x y : Operand) (ho : o.op = .store ty x y)
    (g : Nat) (cells : Array Value) (hx : a.eval x = .pointer (some ⟨g, 0, none⟩)) (hy : a.eval y = .agg cells)
    (t : TypeId) (old : Array Value) (hg : Blk w g t old) (hi : (P.info? ty).map (·.size) = some cells.size)
    (hold : old.size = cells.size) (h1 : cells.all (·.oneCell') = true)
    (h : ∀ w', Blk w' g t cells → w.grownBy w' (some g) → wpList P ops Q rest (a.put o.dst undef) w') : wpList P ops Q (o :: rest) a w :=
  wpList_store_row hgd ty x y ho g cells hx hy t old hg hi hold h1 (h _ (setRow_heap w g old cells t _ hg) (grown_setRow w g cells))
theorem step_store_box {ops : Array Oper} {o : Oper} {a : Act} {w : World} {K : Act → World → Prop} {Q : Exit → Act → World → Prop} {E : Prop} (hgd : o.guard = none) (ty : TypeId) (x y : Operand) (ho : o.op = .store ty x y)
    (g : Nat) (cells : Array Value) (hx : a.eval x = .pointer (some ⟨g, 0, none⟩)) (hy : a.eval y = .agg cells)
    (t : TypeId) (old : Array Value) (hg : Blk w g t old) (hi : (P.info? ty).map (·.size) = some cells.size)
    (hold : old.size = cells.size) (h1 : cells.all (·.oneCell') = true)
    (h : ∀ w', Blk w' g t cells → w.grownBy w' (some g) → K (a.put o.dst undef) w') : if Region.wanted o (yielded ops a.tmps) = true then Oper.wp P o a w K Q else E := by
  rw [if_pos (by simp [Region.wanted, hgd])]
  exact wp_store_row ty x y ho g cells hx hy t old hg hi hold h1 (h _ (setRow_heap w g old cells t _ hg) (grown_setRow w g cells))
theorem run_load_box {o : Oper} {a : Act} {w : World} (ty : TypeId) (x : Operand) (ho : o.op = .load ty x) (g : Nat) (hx : a.eval x = .pointer (some ⟨g, 0, none⟩)) (t : TypeId) (cs : Array Value) (hg : Blk w g t cs) (d : TypeDesc)
    (hu : P.underlying ty = some d) (hd : (match d with | .struct _ | .array _ _ => true | _ => false) = true) (hi : (P.info? ty).map (·.size) = some cs.size) :
    (execOp a.eval o).run P w = .ok (.value (.agg cs)) w := by
  unfold execOp
  simp only [ho, hx, Instr.loadAt, Instr.sureAddr, Sem.run_bind, Sem.run_pure, Result.andThen_ok, run_loadVar_row w g t ty cs (0, 0) d hg hu hd hi]
theorem wpList_load_box {ops : Array Oper} {rest : List Oper} {o : Oper} {a : Act} {w : World} {Q : Exit → Act → World → Prop} (hgd : o.guard = none) (ty : TypeId) (x : Operand) (ho : o.op = .load ty x) (g : Nat) (hx : a.eval x = .pointer (some ⟨g, 0, none⟩)) (t : TypeId) (cs : Array Value) (hg : Blk w g t cs) (d : TypeDesc)
    (hu : P.underlying ty = some d) (hd : (match d with | .struct _ | .array _ _ => true | _ => false) = true) (hi : (P.info? ty).map (·.size) = some cs.size)
    (h : Hid (Blk w g t cs) → wpList P ops Q rest (a.put o.dst (.agg cs)) w) : wpList P ops Q (o :: rest) a w :=
  wpList_plain hgd fun _ hK => by
    unfold Oper.wp
    rw [run_load_box ty x ho g hx t cs hg d hu hd hi]
    exact hK _ _ (h (Lib.hid hg))
theorem step_load_box {ops : Array Oper} {o : Oper} {a : Act} {w : World} {K : Act → World → Prop} {Q : Exit → Act → World → Prop} {E : Prop} (hgd : o.guard = none) (ty : TypeId) (x : Operand) (ho : o.op = .load ty x) (g : Nat) (hx : a.eval x = .pointer (some ⟨g, 0, none⟩)) (t : TypeId) (cs : Array Value) (hg : Blk w g t cs) (d : TypeDesc)
    (hu : P.underlying ty = some d) (hd : (match d with | .struct _ | .array _ _ => true | _ => false) = true) (hi : (P.info? ty).map (·.size) = some cs.size)
    (h : K (a.put o.dst (.agg cs)) w) : if Region.wanted o (yielded ops a.tmps) = true then Oper.wp P o a w K Q else E := by
  rw [if_pos (by simp [Region.wanted, hgd])]
  unfold Oper.wp
  rw [run_load_box ty x ho g hx t cs hg d hu hd hi]
  exact h
end
end Go.Proofs.YtnlaedfnifimkaaGreat
namespace Go.Proofs.YtnlaedfnifimkaaGreat
open Go.RowKit
def RdP (w : World) (φ : Nat → Prop) (size : Nat) (A : Option Addr) (n : Nat) (xs : List Value) : Prop :=
  xs.length = n * size ∧ (0 < n → ∃ ad, A = some ad ∧ φ ad.block ∧ ∀ j u, xs[j]? = some u → w.cell? (ad.add j) = some u)
theorem RdP.keep {w w' : World} {φ ψ : Nat → Prop} {size n : Nat} {A : Option Addr} {xs : List Value} (h : RdP w φ size A n xs) (hk : ∀ b, φ b → w'.heap[b]? = w.heap[b]?) (hψ : ∀ b, φ b → ψ b) : RdP w' ψ size A n xs :=
  ⟨h.1, fun hn => by
    obtain ⟨ad, e, hb, hc⟩ := h.2 hn
    exact ⟨ad, e, hψ _ hb, fun j u hu => (World.cell?_of_block (by rw [block_of_add]; exact hk _ hb)).trans (hc j u hu)⟩⟩
def ItsP (w : World) (φ : Nat → Prop) (IA : Option Addr) (ns : List Int) : Prop := 0 < ns.length → ∃ ad, IA = some ad ∧ φ ad.block ∧ ∀ k, k < ns.length → ∃ v, v.oneCell' = true ∧ w.cell? (ad.add (k * 2)) = some (.int .i64 (ns.getD k 0)) ∧ w.cell? (ad.add (k * 2 + 1)) = some v
theorem ItsP.keep {w w' : World} {φ ψ : Nat → Prop} {IA : Option Addr} {ns : List Int} (h : ItsP w φ IA ns) (hk : ∀ b, φ b → w'.heap[b]? = w.heap[b]?) (hψ : ∀ b, φ b → ψ b) : ItsP w' ψ IA ns :=
  fun hn => by
    obtain ⟨ad, e, hb, hc⟩ := h hn
    exact ⟨ad, e, hψ _ hb, fun k hk2 => by
      obtain ⟨v, h1, h2, h3⟩ := hc k hk2
      exact ⟨v, h1, (World.cell?_of_block (by rw [block_of_add]; exact hk _ hb)).trans h2, (World.cell?_of_block (by rw [block_of_add]; exact hk _ hb)).trans h3⟩⟩
def wbC (d : WB) (v2 v3 v4 v5 v6 v7 v9 v10 v11 v12 : Value) (TA : Option Addr) (tn tc : Nat) (IA : Option Addr) (ic : Nat) (v15 v16 v17 : Value) : List Value :=
  [.int .i64 d.id, .int .i64 d.pz, v2, v3, v4, v5, v6, v7, .int .i64 d.ct, v9, v10, v11, v12, .slice TA tn tc, .slice IA d.ns.length ic, v15, v16, v17]
def WBAt (w : World) (φ : Nat → Prop) (d : WB) (cs : List Value) : Prop :=
  ∃ (v2 v3 v4 v5 v6 v7 v9 v10 v11 v12 : Value) (TA : Option Addr) (tn tc : Nat) (IA : Option Addr) (ic : Nat) (v15 v16 v17 : Value),
    cs = wbC d v2 v3 v4 v5 v6 v7 v9 v10 v11 v12 TA tn tc IA ic v15 v16 v17 ∧ (∀ u ∈ cs, u.oneCell' = true) ∧ RdP w φ 1 TA tn (d.ts.map (Value.int .i64)) ∧ ItsP w φ IA d.ns
theorem WBAt.keep {w w' : World} {φ ψ : Nat → Prop} {d : WB} {cs : List Value} (h : WBAt w φ d cs) (hk : ∀ b, φ b → w'.heap[b]? = w.heap[b]?) (hψ : ∀ b, φ b → ψ b) : WBAt w' ψ d cs := by
  obtain ⟨v2, v3, v4, v5, v6, v7, v9, v10, v11, v12, TA, tn, tc, IA, ic, v15, v16, v17, h0, h1, h2, h3⟩ := h
  exact ⟨v2, v3, v4, v5, v6, v7, v9, v10, v11, v12, TA, tn, tc, IA, ic, v15, v16, v17, h0, h1, h2.keep hk hψ, h3.keep hk hψ⟩
theorem WBAt.len {w : World} {φ : Nat → Prop} {d : WB} {cs : List Value} (h : WBAt w φ d cs) : cs.length = 18 := by
  obtain ⟨v2, v3, v4, v5, v6, v7, v9, v10, v11, v12, TA, tn, tc, IA, ic, v15, v16, v17, h0, _⟩ := h
  rw [h0]; rfl
def WBsAt (w : World) (φ : Nat → Prop) : List WB → List Value → Prop
  | [], xs => xs = []
  | d :: l, xs => ∃ cs ys, xs = cs ++ ys ∧ WBAt w φ d cs ∧ WBsAt w φ l ys
theorem WBsAt.keep {w w' : World} {φ ψ : Nat → Prop} (hk : ∀ b, φ b → w'.heap[b]? = w.heap[b]?) (hψ : ∀ b, φ b → ψ b) : ∀ {l : List WB} {xs : List Value}, WBsAt w φ l xs → WBsAt w' ψ l xs
  | [], _, h => h
  | _ :: _, _, ⟨cs, ys, e, h1, h2⟩ => ⟨cs, ys, e, h1.keep hk hψ, WBsAt.keep hk hψ h2⟩
theorem WBsAt.len {w : World} {φ : Nat → Prop} : ∀ {l : List WB} {xs : List Value}, WBsAt w φ l xs → xs.length = l.length * 18
  | [], xs, h => by subst h; rfl
  | _ :: l, xs, ⟨cs, ys, e, h1, h2⟩ => by
    have := WBsAt.len h2
    have := h1.len
    rw [e, List.length_append, List.length_cons]
    omega
theorem WBsAt.one {w : World} {φ : Nat → Prop} : ∀ {l : List WB} {xs : List Value}, WBsAt w φ l xs → ∀ u ∈ xs, u.oneCell' = true
  | [], xs, h => by subst h; nofun
  | _ :: l, xs, ⟨cs, ys, e, h1, h2⟩ => by
    intro u hu
    rw [e, List.mem_append] at hu
    rcases hu with hu | hu
    · obtain ⟨_, _, _, _, _, _, _, _, _, _, _, _, _, _, _, _, _, _, _, h9, _⟩ := h1
      exact h9 u hu
    · exact WBsAt.one h2 u hu
theorem WBsAt.at_ {w : World} {φ : Nat → Prop} : ∀ {l : List WB} {xs : List Value} {i : Nat}, WBsAt w φ l xs → i < l.length → ∃ cs, WBAt w φ (l.getD i default) cs ∧ ∀ k u, cs[k]? = some u → xs[i * 18 + k]? = some u
  | [], xs, i, _, hd => by simp at hd
  | q :: l, xs, 0, ⟨cs, ys, e, h1, h2⟩, hd => by
    refine ⟨cs, h1, fun k u hk => ?_⟩
    have hlt : k < cs.length := by
      rcases Nat.lt_or_ge k cs.length with h | h
      · exact h
      · rw [List.getElem?_eq_none h] at hk; cases hk
    rw [e, show 0 * 18 + k = k by omega, List.getElem?_append_left hlt]
    exact hk
  | q :: l, xs, i + 1, ⟨cs, ys, e, h1, h2⟩, hd => by
    obtain ⟨ds, hB, hx⟩ := WBsAt.at_ h2 (i := i) (by simpa using hd)
    refine ⟨ds, hB, fun k u hk => ?_⟩
    rw [e, List.getElem?_append_right (by rw [h1.len]; omega), h1.len, show (i + 1) * 18 + k - 18 = i * 18 + k by omega]
    exact hx k u hk
def BlksR (w : World) (φ : Nat → Prop) (A : Option Addr) (n : Nat) (bs : List WB) : Prop := ∃ xs, RdP w φ 18 A n xs ∧ WBsAt w φ bs xs
theorem BlksR.keep {w w' : World} {φ ψ : Nat → Prop} {A : Option Addr} {n : Nat} {bs : List WB} (h : BlksR w φ A n bs) (hk : ∀ b, φ b → w'.heap[b]? = w.heap[b]?) (hψ : ∀ b, φ b → ψ b) : BlksR w' ψ A n bs := by
  obtain ⟨xs, h1, h2⟩ := h
  exact ⟨xs, h1.keep hk hψ, WBsAt.keep hk hψ h2⟩
theorem BlksR.len {w : World} {φ : Nat → Prop} {A : Option Addr} {n : Nat} {bs : List WB} (h : BlksR w φ A n bs) : bs.length = n := by
  obtain ⟨xs, h1, h2⟩ := h
  have := h1.1
  rw [WBsAt.len h2] at this
  omega
theorem BlksR.at_ {w : World} {φ : Nat → Prop} {A : Option Addr} {n : Nat} {bs : List WB} (h : BlksR w φ A n bs) {i : Nat} (hi : i < n) :
    ∃ ad, A = some ad ∧ φ ad.block ∧ ∃ cs, WBAt w φ (bs.getD i default) cs ∧ ∀ j v, cs[j]? = some v → w.cell? ((ad.add (i * 18)).add j) = some v := by
  have hl := h.len
  obtain ⟨xs, h1, h2⟩ := h
  obtain ⟨ad, e, hb, hc⟩ := h1.2 (by omega)
  obtain ⟨cs, h3, h4⟩ := WBsAt.at_ h2 (i := i) (by omega)
  exact ⟨ad, e, hb, cs, h3, fun j v hv => by rw [add_of_add]; exact hc _ _ (h4 j v hv)⟩
section
variable {P : Program}
theorem run_load_at {o : Oper} {a : Act} {w : World} (ty : TypeId) (x : Operand) (ho : o.op = .load ty x) (ad : Addr) (hx : a.eval x = .pointer (some ad)) (cs : List Value) (hc : ∀ j v, cs[j]? = some v → w.cell? (ad.add j) = some v) (d : TypeDesc)
    (hu : P.underlying ty = some d) (hd : (match d with | .struct _ | .array _ _ => true | _ => false) = true) (hi : (P.info? ty).map (·.size) = some cs.length) :
    (execOp a.eval o).run P w = .ok (.value (.agg cs.toArray)) w := by
  have hl : (loadCells ad cs.length).run P w = .ok cs.toArray w := run_loadCells_list (P := P) w ad cs hc
  have hv : (loadVar ty ad).run P w = .ok (.agg cs.toArray) w := by
    cases hq : P.info? ty with
    | none => simp [hq] at hi
    | some i =>
      have hs : i.size = cs.length := by simpa [hq] using hi
      have hagg : (isAgg ty).run P w = .ok true w := by
        unfold isAgg
        rw [Sem.run_bind, run_underlying hu w]
        cases d <;> simp_all
      simp [loadVar, Sem.run_bind, hagg, sizeOf, typeInfo, hq, hs, hl]
  unfold execOp
  simp only [ho, hx, Instr.loadAt, Instr.sureAddr, Sem.run_bind, Sem.run_pure, Result.andThen_ok, hv]
theorem wpList_load_at {ops : Array Oper} {rest : List Oper} {o : Oper} {a : Act} {w : World} {Q : Exit → Act → World → Prop} (hgd : o.guard = none) (ty : TypeId) (x : Operand) (ho : o.op = .load ty x) (ad : Addr) (hx : a.eval x = .pointer (some ad)) (cs : List Value) (hc : ∀ j v, cs[j]? = some v → w.cell? (ad.add j) = some v) (d : TypeDesc)
    (hu : P.underlying ty = some d) (hd : (match d with | .struct _ | .array _ _ => true | _ => false) = true) (hi : (P.info? ty).map (·.size) = some cs.length) (h : wpList P ops Q rest (a.put o.dst (.agg cs.toArray)) w) : wpList P ops Q (o :: rest) a w :=
  wpList_plain hgd fun _ hK => by
    unfold Oper.wp
    rw [run_load_at ty x ho ad hx cs hc d hu hd hi]
    exact hK _ _ h
end
theorem blkInfo : (Tryz.prog.info? 34).map (·.size) = some 18 := by kernel_rfl
theorem wpList_load_boxg {P : Program} {ops : Array Oper} {rest : List Oper} {o : Oper} {a : Act} {w : World} {Q : Exit → Act → World → Prop} (hgd : Region.wanted o (yielded ops a.tmps) = true) (ty : TypeId) (x : Operand) (ho : o.op = .load ty x) (g : Nat) (hx : a.eval x = .pointer (some ⟨g, 0, none⟩)) (t : TypeId) (cs : Array Value) (hg : Blk w g t cs) (d : TypeDesc)
    (hu : P.underlying ty = some d) (hd : (match d with | .struct _ | .array _ _ => true | _ => false) = true) (hi : (P.info? ty).map (·.size) = some cs.size)
    (h : Hid (Blk w g t cs) → wpList P ops Q rest (a.put o.dst (.agg cs)) w) : wpList P ops Q (o :: rest) a w :=
  wpList_step fun K hK => by
    rw [if_pos hgd]
    unfold Oper.wp
    rw [run_load_box ty x ho g hx t cs hg d hu hd hi]
    exact hK _ _ (h (Lib.hid hg))
theorem all_one {l : List Value} (h : ∀ u ∈ l, u.oneCell' = true) : l.toArray.all (·.oneCell') = true := by rw [List.all_toArray, List.all_eq_true]; exact h
def rowB (f : Nat → Bool) (n : Nat) : Array Value := ((List.range n).map fun k => Value.bool (f k)).toArray
theorem rowB_at (f : Nat → Bool) {n k : Nat} (h : k < n) : (rowB f n)[k]? = some (.bool (f k)) := by simp [rowB, h]
theorem rowB_set (f : Nat → Bool) (n i : Nat) (b : Bool) : (rowB f n).setIfInBounds i (.bool b) = rowB (fun k => if k = i then b else f k) n := by
  apply Array.ext
  · simp [rowB]
  · intro k h1 h2
    simp only [rowB, List.size_toArray, List.length_map, List.length_range] at h2
    rw [Array.getElem_setIfInBounds (by simpa [rowB] using h2)]
    simp only [rowB, List.getElem_toArray, List.getElem_map, List.getElem_range]
    by_cases e : k = i
    · rw [if_pos e.symm, if_pos e]
    · rw [if_neg (fun h => e h.symm), if_neg e]
theorem rowB_congr {f g : Nat → Bool} {n : Nat} (h : ∀ k, k < n → f k = g k) : rowB f n = rowB g n := by
  unfold rowB
  congr 1
  apply List.map_congr_left
  intro k hk
  rw [h k (by simpa using hk)]
theorem add0 (g i : Nat) : (⟨g, 0, none⟩ : Addr).add i = ⟨g, i, none⟩ := by
  unfold Addr.add
  split
  · next h0 => subst h0; rfl
  · simp
theorem RdP.reads {w : World} {φ : Nat → Prop} {B size n : Nat} {A : Option Addr} {xs : List Value} (h : RdP w φ size A n xs) (hB : ∀ b, φ b → b < B) : Reads w B size A n xs :=
  ⟨h.1, fun hn => by
    obtain ⟨ad, e, hb, hc⟩ := h.2 hn
    exact ⟨ad, e, hB _ hb, hc⟩⟩
theorem lit_cells (w : World) (l : List Value) (e : TypeId) (j : Nat) (u : Value) (h : l[j]? = some u) : (w.alloc (.cells l.toArray e)).cell? ((⟨w.heap.size, 0, none⟩ : Addr).add j) = some u := by
  have hB := Blk.new w e l.toArray
  rw [add0, hB.cell j]
  simpa using h
theorem i32_at {w : World} {B n : Nat} {A : Option Addr} {kd : IntKind} {zs : List Int} (h : Reads w B 1 A n (zs.map (Value.int kd))) {k : Nat} (hk : k < n) :
    ∃ ad, A = some ad ∧ ad.block < B ∧ w.cell? (ad.add k) = some (.int kd (zs.getD k 0)) := by
  obtain ⟨ad, u, e, hb, hx, hc⟩ := h.at_ hk
  refine ⟨ad, e, hb, hc.trans ?_⟩
  rw [← hx]
  have hl : k < zs.length := by have := h.1; simp at this; omega
  simp [List.getD_eq_getElem?_getD, hl]
theorem boolZ (w : World) : (zeroValue 4).run Tryz.prog w = .ok (.bool false) w := by kernel_rfl
def TkAt (w : World) (b : Nat) (tk : List Int) : Prop :=
  ∃ (D : DataW Unit), w.ownsMap Tryz.prog 3 (plainElem Tryz.prog 4) b tk.length D ∧ Maps.IsMap D ∧ ∀ x : Int, D.atKey (.int .i64 x) (.lit (.bool false)) = .lit (.bool (decide (x ∈ tk)))
theorem plainElem_bool_inv {H : Type} {P : Program} {e : TypeId} (he : P.underlying e = some .bool) {v : Value} {z : DataW H × List MemPlace} (h : plainElem P e v = some z) : ∃ a, v = .bool a ∧ z = (.lit (.bool a), []) := by
  unfold plainElem at h
  rw [he] at h
  split at h
  · rename_i x y heq
    injection h with h
    exact ⟨_, rfl, h.symm⟩
  · rename_i heq
    injection heq with heq
    cases heq
  · rename_i heq
    injection heq with heq
    cases heq
  · cases h
theorem TkAt.lookup {w : World} {b : Nat} {tk : List Int} (h : TkAt w b tk) {x : Int} (hw : (Lit.int .i64 x).wf = true) : (Instr.lookup 209 (.map (some b)) (.int .i64 x) false).run Tryz.prog w = .ok (.bool (decide (x ∈ tk))) w := by
  obtain ⟨D, hown, _, hat⟩ := h
  obtain ⟨v, ps, hrun, hv⟩ := hown.lookup (Maps.int_keyed Tryz.underlying3) Tryz.underlying209 (boolZ w) (plainElem_bool Tryz.underlying4 false) (Maps.keyOf_int_mk Tryz.underlying3 hw)
  obtain ⟨c, rfl, hc⟩ := plainElem_bool_inv Tryz.underlying4 hv
  rw [hat x] at hc
  simp only [Prod.mk.injEq, DataW.lit.injEq, Lit.bool.injEq] at hc
  rw [hrun, hc.1]
theorem TkAt.update {w : World} {b : Nat} {tk : List Int} (h : TkAt w b tk) {x : Int} (hw : (Lit.int .i64 x).wf = true) (hn : tk.length < 1000) : ∃ w', (Instr.mapUpdate 209 (.map (some b)) (.int .i64 x) (.bool true)).run Tryz.prog w = .ok () w' ∧ TkAt w' b (x :: tk) ∧ w.grownBy w' (some b) := by
  obtain ⟨D, hown, hD, hat⟩ := h
  obtain ⟨w', hrun, hown', hg⟩ := hown.update (Maps.int_keyed Tryz.underlying3) Tryz.underlying209 (by unfold maxLen; omega) (Maps.keyOf_int_mk Tryz.underlying3 hw) (plainElem_bool Tryz.underlying4 true)
  refine ⟨w', hrun, ⟨_, hown', hD.put _ _, fun y => ?_⟩, hg⟩
  by_cases hy : y = x
  · subst hy
    rw [Maps.atKey_put_same hD (by exact trivial)]
    simp
  · rw [Maps.atKey_put_other (by simpa using hy), hat y]
    simp [hy]
theorem TkAt.clear {w : World} {b : Nat} {tk : List Int} (h : TkAt w b tk) (ty : TypeId) : ∃ v w', (Builtin.clear_ #[209] ty #[.map (some b)]).run Tryz.prog w = .ok v w' ∧ TkAt w' b [] ∧ w.grownBy w' (some b) := by
  obtain ⟨D, ⟨es, clock, hb, F, _, rfl⟩, hD, hat⟩ := h
  refine ⟨.tuple #[], { w with heap := w.heap.setIfInBounds b (.map #[] clock) }, ?_, ⟨_, ⟨#[], clock, ?_, ⟨by simp, MapKept.stamped_empty clock, by simp⟩, Nat.le_refl _, rfl⟩, ⟨_, rfl⟩, fun x => rfl⟩, ?_⟩
  · simp [Builtin.clear_, run_underlying Tryz.underlying209, MapKept.run_getObj_map hb, MapKept.run_setObj_map _ hb, Result.andThen]
  · have hlt := (Array.getElem?_eq_some_iff.1 hb).1
    simp [hlt]
  · refine ⟨rfl, rfl, rfl, by simp, fun k hk hr => ?_⟩
    show (w.heap.setIfInBounds b (.map #[] clock))[k]? = _
    rw [Array.getElem?_setIfInBounds]
    rw [if_neg (fun e => hr (by rw [e]))]
theorem TkAt.new (w : World) : TkAt (w.alloc (.map #[] 0)) w.heap.size [] := ⟨_, World.ownsMap_made _ _ _ _, ⟨_, rfl⟩, fun x => rfl⟩
theorem TkAt.kept {w w' : World} {b : Nat} {tk : List Int} (h : TkAt w b tk) (hk : w'.heap[b]? = w.heap[b]?) : TkAt w' b tk := by
  obtain ⟨D, ⟨es, clock, hb, F, hs, e⟩, hD, hat⟩ := h
  exact ⟨D, ⟨es, clock, hk.trans hb, F, hs, e⟩, hD, hat⟩
end Go.Proofs.YtnlaedfnifimkaaGreat
namespace Go.Proofs.YtnlaedfnifimkaaGreat
open Go.RowKit
def openB (bs : List WB) (b e : Int) : Nat → Bool
  | 0 => false
  | i + 1 => if (bs.getD i default).id = b then true else if (bs.getD i default).id = e then false else openB bs b e i
def lastB (bs : List WB) (e : Int) : Nat → Int
  | 0 => -1
  | i + 1 => if (bs.getD i default).id = e then (i : Int) else lastB bs e i
def pairB (bs : List WB) (b e : Int) (i : Nat) : Bool :=
  if (bs.getD i default).id = b then (openB bs b e i || decide (lastB bs e bs.length < (i : Int))) else if (bs.getD i default).id = e then !(openB bs b e i) else false
theorem lastB_bd (bs : List WB) (e : Int) : ∀ i : Nat, -1 ≤ lastB bs e i ∧ lastB bs e i < i
  | 0 => by simp [lastB]
  | i + 1 => by
    have := lastB_bd bs e i
    unfold lastB
    split <;> omega
theorem openB_succ (bs : List WB) (b e : Int) (i : Nat) : openB bs b e (i + 1) = if (bs.getD i default).id = b then true else if (bs.getD i default).id = e then false else openB bs b e i := rfl
theorem lastB_succ (bs : List WB) (e : Int) (i : Nat) : lastB bs e (i + 1) = if (bs.getD i default).id = e then (i : Int) else lastB bs e i := rfl
theorem boolInfo3 : (Tryz.prog.info? 4).map (fun i => (i.zero, i.size, i.bytes)) = some (some (.bool false), 1, 1) := by kernel_rfl
set_option maxRecDepth 100000 in
theorem make_bools (w : World) (n : Nat) (hn : n ≤ 2000000) : (Instr.makeSlice 175 (.int .i64 (n : Int)) (.int .i64 (n : Int))).run Tryz.prog w = .ok (.slice (some ⟨w.heap.size, 0, none⟩) n n) (w.alloc (.cells (rowB (fun _ => false) n) 4)) := by
  obtain ⟨i0, hi, hz0, hz1, hz2⟩ := info_parts boolInfo3
  have h := run_makeSlice (P := Tryz.prog) w 175 4 i0 (.bool false) Tryz.underlying175 hi hz0 .i64 .i64 (n : Int) (n : Int) (by omega) (by omega) (by rw [hz1]; omega) (by rw [hz2]; omega) (by omega)
  rw [hz1, show ((n : Int)).toNat = n by omega, Nat.mul_one] at h
  rw [h]
  congr 3
  apply Array.ext'
  rw [show (Value.bool false).cells = #[Value.bool false] from rfl, toList_madeCells_one]
  unfold rowB
  simp [List.map_const']
set_option maxRecDepth 100000 in
set_option maxHeartbeats 8000000 in
theorem pairs_any (w : World) (A : Option Addr) (n c : Nat) (b e : Int) (bs : List WB) (hB : BlksR w (· < w.heap.size) A n bs) (hbe : b ≠ e) (hn : n ≤ 300) :
    Calls Tryz.prog 85 #[.slice A n c, .int .i64 b, .int .i64 e] w fun x w' => ∃ g, x = .returned (.slice (some ⟨g, 0, none⟩) n n) ∧ w.heap.size ≤ g ∧ Blk w' g 4 (rowB (pairB bs b e) n) ∧ Below w.heap.size w w' := by
  have hl := hB.len
  have hmk := make_bools w n (by omega)
  have HB := Lib.hid (And.intro hB hl)
  have HBE := Lib.hid hbe
  clear hB hl hbe
  go_enter Tryz.func85, Tryz.ntmps85
  go_upto_region 2 with fail
  have hG0 : Blk (w.alloc (.cells (rowB (fun _ => false) n) 4)) w.heap.size 4 (rowB (fun _ => false) n) := Blk.new w _ _
  have hb0 : Below w.heap.size w (w.alloc (.cells (rowB (fun _ => false) n) 4)) := (Below.refl _ _).alloc (Nat.le_refl _) _
  have hs0 : (w.alloc (.cells (rowB (fun _ => false) n) 4)).heap.size = w.heap.size + 1 := by simp
  generalize (w.alloc (.cells (rowB (fun _ => false) n) 4)) = w0 at *
  have H0 := Lib.hid (And.intro hG0 (And.intro hb0 hs0))
  clear hG0 hb0 hs0 hmk
  go_wp2_with fail
  go_loopw [8, 19] (fun x y wr => ∃ j : Nat, j ≤ n ∧ y = .int .i64 j ∧ x = .int .i64 (lastB bs e j) ∧ Below w0.heap.size w0 wr) (fun _ y _ => n - (intOf y).toNat)
  case atStart => exact ⟨0, by omega, rfl, rfl, Below.refl _ _⟩
  case round =>
    obtain ⟨j, hjn, rfl, rfl, hbl⟩ := hrel
    have hj0 : (0 : Int) ≤ (j : Int) := Int.natCast_nonneg _
    have hsz := hbl.size
    by_cases hlt : j < n
    · have hjI : (j : Int) < (n : Int) := by omega
      have hwj : IntKind.i64.wrap ((j : Int) + 1) = (j : Int) + 1 := by rw [IntKind.wrap_i64]; omega
      have hbw : Below w.heap.size w wr := H0.out.2.1.trans (hbl.mono (by have := H0.out.2.2; omega))
      have hBr := HB.out.1.keep (w' := wr) (ψ := (· < w.heap.size)) (fun b hb => hbw.block b hb) (fun b hb => hb)
      obtain ⟨ad, rfl, hab, cs, hWB, hc18⟩ := hBr.at_ (i := j) hlt
      obtain ⟨d, hd⟩ : ∃ d, d = bs.getD j default := ⟨_, rfl⟩
      rw [← hd] at hWB
      obtain ⟨v2, v3, v4, v5, v6, v7, v9, v10, v11, v12, TA, tn, tc, IA, ic, v15, v16, v17, rfl, h1c, hTs, hIs⟩ := hWB
      have X0 := Lib.hid (show ∀ jj vv, ([.int .i64 d.id, .int .i64 d.pz, v2, v3, v4, v5, v6, v7, .int .i64 d.ct, v9, v10, v11, v12, .slice TA tn tc, .slice IA d.ns.length ic, v15, v16, v17] : List Value)[jj]? = some vv → wr.cell? ((ad.add (j * 18)).add jj) = some vv from hc18)
      have X1 := Lib.hid (show (#[.int .i64 d.id, .int .i64 d.pz, v2, v3, v4, v5, v6, v7, .int .i64 d.ct, v9, v10, v11, v12, .slice TA tn tc, .slice IA d.ns.length ic, v15, v16, v17] : Array Value).all (·.oneCell') = true from all_one h1c)
      have HD := Lib.hid (And.intro hd (And.intro hTs hIs))
      clear hc18 h1c hd hTs hIs
      have HL := Lib.hid hbl
      have hls := lastB_succ bs e j
      rw [← HD.out.1] at hls
      have HLS := Lib.hid hls
      clear hBr hbl hbw hls
      go_wp2_with (first
        | (refine wpList_load_at rfl 34 _ rfl (ad.add (j * 18)) rfl [.int .i64 d.id, .int .i64 d.pz, v2, v3, v4, v5, v6, v7, .int .i64 d.ct, v9, v10, v11, v12, .slice TA tn tc, .slice IA d.ns.length ic, v15, v16, v17] X0.out _ Tryz.underlying34 rfl blkInfo ?_)
        | (refine wpList_store_box rfl 34 _ _ rfl (wr.heap.size) #[.int .i64 d.id, .int .i64 d.pz, v2, v3, v4, v5, v6, v7, .int .i64 d.ct, v9, v10, v11, v12, .slice TA tn tc, .slice IA d.ns.length ic, v15, v16, v17] rfl rfl 34 #[.int .i64 0, .int .i64 0, .int .i64 0, .int .i64 0, .int .i64 0, .int .i64 0, .int .i64 0, .int .i64 0, .int .i64 0, .int .i64 0, .int .i64 0, .int .i64 0, .slice none 0 0, .slice none 0 0, .slice none 0 0, .slice none 0 0, .slice none 0 0, .slice none 0 0] (Blk.new wr _ _) blkInfo rfl X1.out ?_)
        | fail)
      intro w3 hB3 hg3
      have hb3 : Below w0.heap.size w0 w3 := (HL.out.alloc hsz _).grown hg3 (by simp; omega) (fun b hb => by injection hb with hb; omega)
      have c0 : w3.cell? ⟨wr.heap.size, 0, none⟩ = some (.int .i64 d.id) := (hB3.cell 0).trans rfl
      have H3 := Lib.hid hb3
      clear hB3 hg3 hb3
      by_cases hid : d.id = e
      · rw [if_pos hid] at HLS
        rw [hid] at c0
        go_wp2
        go_roundw
        case rel => exact ⟨j + 1, by omega, by go_num, by rw [HLS.out], H3.out⟩
        case measure => simp [intOf]; omega
      · rw [if_neg hid] at HLS
        have hidb : (d.id == e) = false := by simpa using hid
        go_wp2
        go_roundw
        case rel => exact ⟨j + 1, by omega, by go_num, by rw [HLS.out], H3.out⟩
        case measure => simp [intOf]; omega
    · obtain rfl : j = n := by omega
      have hjI : ¬ (j : Int) < (j : Int) := by omega
      obtain ⟨q, hq⟩ : ∃ q : Int, q = lastB bs e j := ⟨_, rfl⟩
      have hqb := lastB_bd bs e j
      rw [← hq] at hqb ⊢
      have HQ := Lib.hid hq
      have H1 := Lib.hid (And.intro (H0.out.1.below hbl (by have := H0.out.2.2; omega)) (And.intro (H0.out.2.1.trans (hbl.mono (by have := H0.out.2.2; omega))) hsz))
      clear hq hbl hlt
      go_wp2_with fail
      obtain ⟨w1, rfl⟩ : ∃ w1 : World, w1 = wr := ⟨_, rfl⟩
      go_loopw [11, 32] (fun x y wx => ∃ k : Nat, k ≤ j ∧ y = .int .i64 k ∧ x = .bool (openB bs b e k) ∧ Blk wx w.heap.size 4 (rowB (fun i => decide (i < k) && pairB bs b e i) j) ∧ Below w.heap.size w wx) (fun _ y _ => j - (intOf y).toNat)
      case atStart => exact ⟨0, by omega, rfl, rfl, by rw [rowB_congr (g := fun _ => false) (fun i _ => by simp)]; exact H1.out.1, H1.out.2.1⟩
      case round =>
        obtain ⟨k, hkj, rfl, rfl, hG, hbl⟩ := hrel
        have hk0 : (0 : Int) ≤ (k : Int) := Int.natCast_nonneg _
        have hsz := hbl.size
        have hGl := hG.lt
        by_cases hlt : k < j
        · have hkI : (k : Int) < (j : Int) := by omega
          have hwk : IntKind.i64.wrap ((k : Int) + 1) = (k : Int) + 1 := by rw [IntKind.wrap_i64]; omega
          have hBr := HB.out.1.keep (w' := wr) (ψ := (· < w.heap.size)) (fun b hb => hbl.block b hb) (fun b hb => hb)
          obtain ⟨ad, rfl, hab, cs, hWB, hc18⟩ := hBr.at_ (i := k) hlt
          obtain ⟨d, hd⟩ : ∃ d, d = bs.getD k default := ⟨_, rfl⟩
          rw [← hd] at hWB
          obtain ⟨v2, v3, v4, v5, v6, v7, v9, v10, v11, v12, TA, tn, tc, IA, ic, v15, v16, v17, rfl, h1c, hTs, hIs⟩ := hWB
          have X0 := Lib.hid (show ∀ jj vv, ([.int .i64 d.id, .int .i64 d.pz, v2, v3, v4, v5, v6, v7, .int .i64 d.ct, v9, v10, v11, v12, .slice TA tn tc, .slice IA d.ns.length ic, v15, v16, v17] : List Value)[jj]? = some vv → wr.cell? ((ad.add (k * 18)).add jj) = some vv from hc18)
          have X1 := Lib.hid (show (#[.int .i64 d.id, .int .i64 d.pz, v2, v3, v4, v5, v6, v7, .int .i64 d.ct, v9, v10, v11, v12, .slice TA tn tc, .slice IA d.ns.length ic, v15, v16, v17] : Array Value).all (·.oneCell') = true from all_one h1c)
          have HD := Lib.hid (And.intro hd (And.intro hTs hIs))
          clear hc18 h1c hd hTs hIs
          have HL := Lib.hid (And.intro hbl hG)
          have hos := openB_succ bs b e k
          rw [← HD.out.1] at hos
          have hps : pairB bs b e k = if d.id = b then (openB bs b e k || decide (lastB bs e bs.length < (k : Int))) else if d.id = e then !(openB bs b e k) else false := by rw [HD.out.1]; rfl
          rw [HB.out.2, ← HQ.out] at hps
          have HOS := Lib.hid hos
          have HPS := Lib.hid hps
          clear hBr hbl hG hos hps
          generalize openB bs b e k = op at *
          go_wp2_with (first
            | (refine wpList_load_at rfl 34 _ rfl (ad.add (k * 18)) rfl [.int .i64 d.id, .int .i64 d.pz, v2, v3, v4, v5, v6, v7, .int .i64 d.ct, v9, v10, v11, v12, .slice TA tn tc, .slice IA d.ns.length ic, v15, v16, v17] X0.out _ Tryz.underlying34 rfl blkInfo ?_)
            | (refine wpList_store_box rfl 34 _ _ rfl (wr.heap.size) #[.int .i64 d.id, .int .i64 d.pz, v2, v3, v4, v5, v6, v7, .int .i64 d.ct, v9, v10, v11, v12, .slice TA tn tc, .slice IA d.ns.length ic, v15, v16, v17] rfl rfl 34 #[.int .i64 0, .int .i64 0, .int .i64 0, .int .i64 0, .int .i64 0, .int .i64 0, .int .i64 0, .int .i64 0, .int .i64 0, .int .i64 0, .int .i64 0, .int .i64 0, .slice none 0 0, .slice none 0 0, .slice none 0 0, .slice none 0 0, .slice none 0 0, .slice none 0 0] (Blk.new wr _ _) blkInfo rfl X1.out ?_)
            | fail)
          intro w3 hB3 hg3
          have hb3 : Below w.heap.size w w3 := (HL.out.1.alloc hsz _).grown hg3 (by simp; omega) (fun b hb => by injection hb with hb; omega)
          have hG3 : Blk w3 w.heap.size 4 (rowB (fun i => decide (i < k) && pairB bs b e i) j) := (HL.out.2.alloc _).grown hg3 (fun e => by injection e with e; omega)
          have c0 : w3.cell? ⟨wr.heap.size, 0, none⟩ = some (.int .i64 d.id) := (hB3.cell 0).trans rfl
          have had := add0 w.heap.size k
          have ck : w3.cell? ⟨w.heap.size, k, none⟩ = some (.bool (decide (k < k) && pairB bs b e k)) := (hG3.cell k).trans (rowB_at _ hlt)
          have fk : w3.frozen? ⟨w.heap.size, k, none⟩ = false := hG3.frozen k
          have H3 := Lib.hid (And.intro hb3 hG3)
          clear hB3 hg3 hb3 hG3
          by_cases hidb : d.id = b
          · have hide : ¬ b = e := HBE.out
            have hideb : (b == e) = false := by simpa using hide
            have hpv : pairB bs b e k = (op || decide (q < (k : Int))) := by rw [HPS.out, if_pos hidb]
            have hov : openB bs b e (k + 1) = true := by rw [HOS.out, if_pos hidb]
            have HV := Lib.hid (And.intro hpv hov)
            clear hpv hov
            rw [hidb] at c0
            obtain ⟨vb, hvb⟩ : ∃ vb : Bool, vb = (op || decide (q < (k : Int))) := ⟨_, rfl⟩
            have HVB := Lib.hid hvb
            clear hvb
            have hst : ∀ vb : Bool, vb = (op || decide (q < (k : Int))) → (∃ k', k' ≤ j ∧ k' = k + 1 ∧ Blk (w3.setCell ⟨w.heap.size, k, none⟩ (.bool vb)) w.heap.size 4 (rowB (fun i => decide (i < k + 1) && pairB bs b e i) j) ∧ Below w.heap.size w (w3.setCell ⟨w.heap.size, k, none⟩ (.bool vb))) := fun vb hvb => by
              refine ⟨k + 1, by omega, rfl, ?_, H3.out.1.setCell (Nat.le_refl _) _⟩
              have h9 := H3.out.2.set_ k (.bool vb)
              rw [rowB_set] at h9
              rw [rowB_congr (g := fun i => if i = k then vb else decide (i < k) && pairB bs b e i) (fun i _ => ?_)]
              · exact h9
              · by_cases hi : i = k
                · subst hi; simp [HV.out.1, hvb]
                · rw [if_neg hi]
                  congr 1
                  rw [Bool.eq_iff_iff]
                  simp
                  omega
            have HST := Lib.hid hst
            clear hst
            cases op with
            | true =>
              go_wp2
              go_roundw
              case rel =>
                obtain ⟨_, _, _, h1, h2⟩ := HST.out true (by simp)
                exact ⟨k + 1, by omega, by go_num, by rw [HV.out.2], h1, h2⟩
              case measure => simp [intOf]; omega
            | false =>
              by_cases hqk : q < (k : Int)
              · go_wp2
                go_roundw
                case rel =>
                  obtain ⟨_, _, _, h1, h2⟩ := HST.out true (by simp [hqk])
                  exact ⟨k + 1, by omega, by go_num, by rw [HV.out.2], h1, h2⟩
                case measure => simp [intOf]; omega
              · go_wp2
                go_roundw
                case rel =>
                  obtain ⟨_, _, _, h1, h2⟩ := HST.out false (by simp [hqk])
                  exact ⟨k + 1, by omega, by go_num, by rw [HV.out.2], h1, h2⟩
                case measure => simp [intOf]; omega
          · have hidbb : (d.id == b) = false := by simpa using hidb
            by_cases hide : d.id = e
            · have hpv : pairB bs b e k = !op := by rw [HPS.out, if_neg hidb, if_pos hide]
              have hov : openB bs b e (k + 1) = false := by rw [HOS.out, if_neg hidb, if_pos hide]
              have HV := Lib.hid (And.intro hpv hov)
              clear hpv hov
              have hbe2 : ¬ e = b := fun h => hidb (hide.trans h)
              have hbe2b : (e == b) = false := by simpa using hbe2
              rw [hide] at c0
              have hst : ∀ vb : Bool, vb = !op → (∃ k', k' ≤ j ∧ k' = k + 1 ∧ Blk (w3.setCell ⟨w.heap.size, k, none⟩ (.bool vb)) w.heap.size 4 (rowB (fun i => decide (i < k + 1) && pairB bs b e i) j) ∧ Below w.heap.size w (w3.setCell ⟨w.heap.size, k, none⟩ (.bool vb))) := fun vb hvb => by
                refine ⟨k + 1, by omega, rfl, ?_, H3.out.1.setCell (Nat.le_refl _) _⟩
                have h9 := H3.out.2.set_ k (.bool vb)
                rw [rowB_set] at h9
                rw [rowB_congr (g := fun i => if i = k then vb else decide (i < k) && pairB bs b e i) (fun i _ => ?_)]
                · exact h9
                · by_cases hi : i = k
                  · subst hi; simp [HV.out.1, hvb]
                  · rw [if_neg hi]
                    congr 1
                    rw [Bool.eq_iff_iff]
                    simp
                    omega
              have HST := Lib.hid hst
              clear hst
              cases op with
              | true =>
                go_wp2
                go_roundw
                case rel =>
                  obtain ⟨_, _, _, h1, h2⟩ := HST.out false rfl
                  exact ⟨k + 1, by omega, by go_num, by rw [HV.out.2], h1, h2⟩
                case measure => simp [intOf]; omega
              | false =>
                go_wp2
                go_roundw
                case rel =>
                  obtain ⟨_, _, _, h1, h2⟩ := HST.out true rfl
                  exact ⟨k + 1, by omega, by go_num, by rw [HV.out.2], h1, h2⟩
                case measure => simp [intOf]; omega
            · have hideb : (d.id == e) = false := by simpa using hide
              have HV := Lib.hid (And.intro (show pairB bs b e k = false by rw [HPS.out, if_neg hidb, if_neg hide]) (show openB bs b e (k + 1) = op by rw [HOS.out, if_neg hidb, if_neg hide]))
              go_wp2
              go_roundw
              case rel =>
                refine ⟨k + 1, by omega, by go_num, by rw [HV.out.2], ?_, H3.out.1⟩
                rw [rowB_congr (g := fun i => decide (i < k) && pairB bs b e i) (fun i _ => ?_)]
                · exact H3.out.2
                · by_cases hi : i = k
                  · subst hi; simp [HV.out.1]
                  · congr 1
                    rw [Bool.eq_iff_iff]
                    simp
                    omega
              case measure => simp [intOf]; omega
        · obtain rfl : k = j := by omega
          have hkI : ¬ (k : Int) < (k : Int) := by omega
          have HX := Lib.hid (And.intro hG hbl)
          clear hG hbl
          go_wp2
          go_ret
          refine ⟨w.heap.size, rfl, Nat.le_refl _, ?_, HX.out.2⟩
          rw [rowB_congr (g := fun i => decide (i < k) && pairB bs b e i) (fun i hi => by simp [hi])]
          exact HX.out.1
end Go.Proofs.YtnlaedfnifimkaaGreat
namespace Go.Proofs.YtnlaedfnifimkaaGreat
open Go.RowKit
def farL (d : WB) : List Int := if d.id = 40 then d.ns else if d.id = 35 ∨ d.id = 38 then d.ts else []
def farB (d : WB) (i n : Nat) : Bool := (farL d).any fun x => decide (x < -(i : Int) ∨ (n : Int) - (i : Int) ≤ x)
theorem far_yes {d : WB} {i n k m : Nat} {l : List Int} (hl : farL d = l) (hm : l.length = m) (hk : k < m) (h : l.getD k 0 < -(i : Int) ∨ (n : Int) - (i : Int) ≤ l.getD k 0) : farB d i n = true := by
  unfold farB
  rw [hl, List.any_eq_true]
  exact ⟨l.getD k 0, getD_mem (by omega), by simpa using h⟩
theorem far_no {d : WB} {i n k : Nat} {l : List Int} (hl : farL d = l) (hm : l.length = k) (h : ∀ q, q < k → ¬ (l.getD q 0 < -(i : Int) ∨ (n : Int) - (i : Int) ≤ l.getD q 0)) : farB d i n = false := by
  unfold farB
  rw [hl, List.any_eq_false]
  intro x hx
  obtain ⟨q, hq, rfl⟩ := List.getElem_of_mem hx
  have := h q (by omega)
  rw [List.getD_eq_getElem?_getD, List.getElem?_eq_getElem hq] at this
  simpa using this
theorem itemInfo : (Tryz.prog.info? 111).map (·.size) = some 2 := by kernel_rfl
theorem intInfo3 : (Tryz.prog.info? 3).map (fun i => (i.zero, i.size, i.bytes)) = some (some (.int .i64 0), 1, 8) := by kernel_rfl
set_option maxRecDepth 100000 in
set_option maxHeartbeats 8000000 in
theorem far_any (w : World) (i0 n : Nat) (d : WB) (v2 v3 v4 v5 v6 v7 v9 v10 v11 v12 : Value) (TA : Option Addr) (tn tc : Nat) (IA : Option Addr) (ic : Nat) (v15 v16 v17 : Value)
    (hT : RdP w (· < w.heap.size) 1 TA tn (d.ts.map (Value.int .i64))) (hI : ItsP w (· < w.heap.size) IA d.ns) (h1n : d.ns.length ≤ 300) (h1t : tn ≤ 300) (hi0 : i0 < n) (hn : n ≤ 300) :
    Calls Tryz.prog 86 #[.agg #[.int .i64 d.id, .int .i64 d.pz, v2, v3, v4, v5, v6, v7, .int .i64 d.ct, v9, v10, v11, v12, .slice TA tn tc, .slice IA d.ns.length ic, v15, v16, v17], .int .i64 i0, .int .i64 n] w fun e w' => e = .returned (.bool (farB d i0 n)) ∧ Below w.heap.size w w' := by
  generalize hI : d.id = I
  have HID := Lib.hid hI
  clear hI
  obtain ⟨q0, hq, hz0, hz1, hz2⟩ := info_parts intInfo3
  have hBx : Blk (w.alloc (.cells #[.int .i64 I, .int .i64 d.pz, v2, v3, v4, v5, v6, v7, .int .i64 d.ct, v9, v10, v11, v12, .slice TA tn tc, .slice IA d.ns.length ic, v15, v16, v17] 34)) w.heap.size 34 #[.int .i64 I, .int .i64 d.pz, v2, v3, v4, v5, v6, v7, .int .i64 d.ct, v9, v10, v11, v12, .slice TA tn tc, .slice IA d.ns.length ic, v15, v16, v17] := Blk.new w _ _
  have hb0 : Below w.heap.size w (w.alloc (.cells #[.int .i64 I, .int .i64 d.pz, v2, v3, v4, v5, v6, v7, .int .i64 d.ct, v9, v10, v11, v12, .slice TA tn tc, .slice IA d.ns.length ic, v15, v16, v17] 34)) := (Below.refl _ _).alloc (Nat.le_refl _) _
  have hwn : IntKind.i64.wrap (-(i0 : Int)) = -(i0 : Int) := by rw [IntKind.wrap_i64]; omega
  have hws : IntKind.i64.wrap ((n : Int) - (i0 : Int)) = (n : Int) - (i0 : Int) := by rw [IntKind.wrap_i64]; omega
  have HR := Lib.hid (And.intro ((hT.reads (B := w.heap.size) (fun b h => h)).below hb0) (And.intro (hI.keep (w' := w.alloc (.cells #[.int .i64 I, .int .i64 d.pz, v2, v3, v4, v5, v6, v7, .int .i64 d.ct, v9, v10, v11, v12, .slice TA tn tc, .slice IA d.ns.length ic, v15, v16, v17] 34)) (ψ := (· < w.heap.size)) (fun b h => hb0.block b h) (fun b h => h)) (And.intro hb0 (reads_len (hT.reads (B := w.heap.size) (fun b h => h))))))
  clear hT hI hb0
  go_enter Tryz.func86, Tryz.ntmps86
  go_upto_region 1 with fail
  generalize (w.alloc (.cells #[.int .i64 I, .int .i64 d.pz, v2, v3, v4, v5, v6, v7, .int .i64 d.ct, v9, v10, v11, v12, .slice TA tn tc, .slice IA d.ns.length ic, v15, v16, v17] 34)) = w0 at *
  have c0 : w0.cell? ⟨w.heap.size, 0, none⟩ = some (.int .i64 I) := (hBx.cell 0).trans rfl
  have c13 : w0.cell? ⟨w.heap.size, 13, none⟩ = some (.slice TA tn tc) := (hBx.cell 13).trans rfl
  have c14 : w0.cell? ⟨w.heap.size, 14, none⟩ = some (.slice IA d.ns.length ic) := (hBx.cell 14).trans rfl
  clear hBx
  have hsw := HR.out.2.2.1.size
  by_cases h40 : I = 40
  · subst h40
    go_wp2_with fail
    obtain ⟨mn, hmn⟩ : ∃ mn : Nat, mn = d.ns.length := ⟨_, rfl⟩
    rw [← hmn] at h1n ⊢
    have HMN := Lib.hid hmn
    clear hmn c14
    go_loopw [7, 21] (fun v x wr => ∃ k : Nat, k ≤ mn ∧ x = .int .i64 k ∧ wr.ownsRow w0.heap.size 3 1 v k ((d.ns.take k).map (Value.int .i64)) ∧ Below w0.heap.size w0 wr) (fun _ x _ => mn - (intOf x).toNat)
    case atStart => exact ⟨0, by omega, rfl, World.ownsRow_nil _ _ _ _, Below.refl _ _⟩
    case round =>
      obtain ⟨k, hkn, rfl, hown, hbl⟩ := hrel
      have hk0 : (0 : Int) ≤ (k : Int) := Int.natCast_nonneg _
      have hsz := hbl.size
      by_cases hlt : k < mn
      · have hkI : (k : Int) < (mn : Int) := by omega
        have hwk : IntKind.i64.wrap ((k : Int) + 1) = (k : Int) + 1 := by rw [IntKind.wrap_i64]; omega
        obtain ⟨ad, rfl, hab, hit⟩ := HR.out.2.1 (by rw [← HMN.out]; omega)
        obtain ⟨v, hv1, hc1, hc2⟩ := hit k (by rw [← HMN.out]; exact hlt)
        have hsn := take_snocI d.ns k (by rw [← HMN.out]; exact hlt)
        generalize d.ns.getD k 0 = z at *
        have X0 := Lib.hid (show ∀ jj vv, ([.int .i64 z, v] : List Value)[jj]? = some vv → wr.cell? ((ad.add (k * 2)).add jj) = some vv from by
          intro jj vv h
          have hk9 : ∀ i, wr.cell? (ad.add i) = w0.cell? (ad.add i) := fun i => hbl.cell (p := ad.add i) (by rw [block_of_add]; omega)
          match jj, h with
          | 0, h => injection h with h; subst h; rw [add_of_add, Nat.add_zero, hk9]; exact hc1
          | 1, h => injection h with h; subst h; rw [add_of_add, hk9]; exact hc2
          | jj + 2, h => simp at h)
        have X1 := Lib.hid (show (#[.int .i64 z, v] : Array Value).all (·.oneCell') = true from all_one (l := [.int .i64 z, v]) (by intro u hu; simp at hu; rcases hu with rfl | rfl; rfl; exact hv1))
        have HSN := Lib.hid hsn
        have HX := Lib.hid (And.intro hown hbl)
        clear hown hbl hsn hit hc1 hc2 hv1
        go_wp2_with (first
          | (refine wpList_load_at rfl 111 _ rfl (ad.add (k * 2)) rfl [.int .i64 z, v] X0.out _ Tryz.underlying111 rfl itemInfo ?_)
          | (refine wpList_store_box rfl 111 _ _ rfl (wr.heap.size) #[.int .i64 z, v] rfl rfl 111 #[.int .i64 0, .slice none 0 0] (Blk.new wr _ _) itemInfo rfl X1.out ?_)
          | fail)
        intro w3 hB3 hg3
        have hb3 : Below w0.heap.size w0 w3 := (HX.out.2.alloc hsz _).grown hg3 (by simp; omega) (fun b hb => by injection hb with hb; omega)
        have hown3 := (HX.out.1.alloc (.cells #[.int .i64 0, .slice none 0 0] 111)).kept hg3 (.inr (fun e => by have := (HX.out.1.lt _ e).2; omega))
        have cz : w3.cell? ⟨wr.heap.size, 0, none⟩ = some (.int .i64 z) := (hB3.cell 0).trans rfl
        have hown9 := hown3.alloc (.cells #[.int .i64 z] 3)
        have hs3 : w0.heap.size ≤ w3.heap.size := hb3.size
        have HC := Lib.hid (And.intro (lit_cells w3 [.int .i64 z] 3) (And.intro (show ∀ u ∈ [Value.int .i64 z], u.oneCell' = true by intro u hu; simp at hu; rcases hu with rfl; rfl) (And.intro (show k + 1 ≤ maxLen by unfold maxLen; omega) (And.intro (show (k + 1) * 8 ≤ 140737488355328 by omega) (show w0.heap.size ≤ (w3.alloc (.cells #[.int .i64 z] 3)).heap.size by simp; omega)))))
        have H3 := Lib.hid (And.intro hb3 hown3)
        clear hB3 hg3 hb3 hown3
        go_wp2_with (first
          | (at_builtin; refine wpList_append_own _ rfl _ _ 29 rfl w0.heap.size 3 q0 (.int .i64 0) 1 8 Tryz.underlying29 hq hz0 hz1 hz2 rfl (by decide) _ _ _ rfl hown9 ⟨w3.heap.size, 0, none⟩ 1 1 [.int .i64 z] rfl rfl HC.out.1 HC.out.2.1 HC.out.2.2.1 HC.out.2.2.2.1 HC.out.2.2.2.2 ?_)
          | go_in)
        intro v' w4 own4 hg4 _
        have H4 := Lib.hid (show w4.ownsRow w0.heap.size 3 1 v' (k + 1) ((d.ns.take (k + 1)).map (Value.int .i64)) ∧ Below w0.heap.size w0 w4 from ⟨by rw [HSN.out, List.map_append]; simpa using own4, (H3.out.1.alloc hs3 _).grown hg4 (by simp; omega) (fun b hb => (H3.out.2.lt b hb).1)⟩)
        clear own4 hg4 hown9 cz
        go_wp2
        go_roundw
        case rel => exact ⟨k + 1, by omega, by go_num, H4.out.1, H4.out.2⟩
        case measure => simp [intOf]; omega
      · obtain rfl : k = mn := by omega
        have hkI : ¬ (k : Int) < (k : Int) := by omega
        rw [show d.ns.take k = d.ns by rw [HMN.out, List.take_length]] at hown
        obtain ⟨LA, lc, rfl⟩ := own_slice hown
        have HLL := Lib.hid (And.intro (Reads.of_own hown) (And.intro HMN.out.symm (show farL d = d.ns by unfold farL; rw [if_pos HID.out])))
        have HBW := Lib.hid (HR.out.2.2.1.trans (hbl.mono hsw))
        clear hown hbl
        go_wp2_with fail
        obtain ⟨w1, rfl⟩ : ∃ w1 : World, w1 = wr := ⟨_, rfl⟩
        obtain ⟨k9, rfl⟩ : ∃ k9 : Nat, k9 = k := ⟨_, rfl⟩
        go_loopw [36] (fun x wr => ∃ k : Nat, k ≤ k9 ∧ x = .int .i64 k ∧ (∀ i, i < k → ¬ (d.ns.getD i 0 < -(i0 : Int) ∨ (n : Int) - (i0 : Int) ≤ d.ns.getD i 0)) ∧ Below w1.heap.size w1 wr) (fun x _ => k9 - (intOf x).toNat)
        case atStart => exact ⟨0, by omega, rfl, fun i hi => absurd hi (by omega), Below.refl _ _⟩
        case round =>
          obtain ⟨k, hkn, rfl, hno, hbl⟩ := hrel
          have hk0 : (0 : Int) ≤ (k : Int) := Int.natCast_nonneg _
          by_cases hlt : k < k9
          · have hkI : (k : Int) < (k9 : Int) := by omega
            have hwk : IntKind.i64.wrap ((k : Int) + 1) = (k : Int) + 1 := by rw [IntKind.wrap_i64]; omega
            obtain ⟨ad, rfl, _, hc0⟩ := i32_at (HLL.out.1.below hbl) hlt
            obtain ⟨x, hx⟩ : ∃ x : Int, x = d.ns.getD k 0 := ⟨_, rfl⟩
            rw [← hx] at hc0
            have HX := Lib.hid (And.intro hx (And.intro hno hbl))
            clear hx hno hbl
            by_cases h1 : x < -(i0 : Int)
            · have HY := Lib.hid (far_yes (d := d) (i := i0) (n := n) (k := k) HLL.out.2.2 HLL.out.2.1 hlt (.inl (by rw [← HX.out.1]; exact h1)))
              go_wp2
              go_ret
              rw [HY.out]
              exact ⟨rfl, HBW.out.trans (HX.out.2.2.mono HBW.out.size)⟩
            · by_cases h2 : (n : Int) - (i0 : Int) ≤ x
              · have HY := Lib.hid (far_yes (d := d) (i := i0) (n := n) (k := k) HLL.out.2.2 HLL.out.2.1 hlt (.inr (by rw [← HX.out.1]; exact h2)))
                go_wp2
                go_ret
                rw [HY.out]
                exact ⟨rfl, HBW.out.trans (HX.out.2.2.mono HBW.out.size)⟩
              · go_wp2
                go_roundw
                case rel => exact ⟨k + 1, by omega, by go_num, fun i hi => by
                  rcases Nat.lt_or_ge i k with h | h
                  · exact HX.out.2.1 i h
                  · obtain rfl : i = k := by omega
                    rw [← HX.out.1]; omega, HX.out.2.2⟩
                case measure => simp [intOf]; omega
          · obtain rfl : k = k9 := by omega
            have hkI : ¬ (k : Int) < (k : Int) := by omega
            have HY := Lib.hid (far_no (d := d) (i := i0) (n := n) (k := k) HLL.out.2.2 HLL.out.2.1 hno)
            have HX := Lib.hid hbl
            clear hno hbl
            go_wp2
            go_ret
            rw [HY.out]
            exact ⟨rfl, HBW.out.trans (HX.out.mono HBW.out.size)⟩
  · have h40b : (I == 40) = false := by simpa using h40
    by_cases hjc : I = 35 ∨ I = 38
    · have HLL := Lib.hid (And.intro (HR.out.1.more hsw) (And.intro HR.out.2.2.2 (show farL d = d.ts by unfold farL; rw [HID.out, if_neg h40, if_pos hjc])))
      have HBW := Lib.hid HR.out.2.2.1
      clear c14
      by_cases h35 : I = 35
      · subst h35
        clear hjc
        go_wp2_with fail
        go_loopw [36] (fun x wr => ∃ k : Nat, k ≤ tn ∧ x = .int .i64 k ∧ (∀ i, i < k → ¬ (d.ts.getD i 0 < -(i0 : Int) ∨ (n : Int) - (i0 : Int) ≤ d.ts.getD i 0)) ∧ Below w0.heap.size w0 wr) (fun x _ => tn - (intOf x).toNat)
        case atStart => exact ⟨0, by omega, rfl, fun i hi => absurd hi (by omega), Below.refl _ _⟩
        case round =>
          obtain ⟨k, hkn, rfl, hno, hbl⟩ := hrel
          have hk0 : (0 : Int) ≤ (k : Int) := Int.natCast_nonneg _
          by_cases hlt : k < tn
          · have hkI : (k : Int) < (tn : Int) := by omega
            have hwk : IntKind.i64.wrap ((k : Int) + 1) = (k : Int) + 1 := by rw [IntKind.wrap_i64]; omega
            obtain ⟨ad, rfl, _, hc0⟩ := i32_at (HLL.out.1.below hbl) hlt
            obtain ⟨x, hx⟩ : ∃ x : Int, x = d.ts.getD k 0 := ⟨_, rfl⟩
            rw [← hx] at hc0
            have HX := Lib.hid (And.intro hx (And.intro hno hbl))
            clear hx hno hbl
            by_cases h1 : x < -(i0 : Int)
            · have HY := Lib.hid (far_yes (d := d) (i := i0) (n := n) (k := k) HLL.out.2.2 HLL.out.2.1 hlt (.inl (by rw [← HX.out.1]; exact h1)))
              go_wp2
              go_ret
              rw [HY.out]
              exact ⟨rfl, HBW.out.trans (HX.out.2.2.mono HBW.out.size)⟩
            · by_cases h2 : (n : Int) - (i0 : Int) ≤ x
              · have HY := Lib.hid (far_yes (d := d) (i := i0) (n := n) (k := k) HLL.out.2.2 HLL.out.2.1 hlt (.inr (by rw [← HX.out.1]; exact h2)))
                go_wp2
                go_ret
                rw [HY.out]
                exact ⟨rfl, HBW.out.trans (HX.out.2.2.mono HBW.out.size)⟩
              · go_wp2
                go_roundw
                case rel => exact ⟨k + 1, by omega, by go_num, fun i hi => by
                  rcases Nat.lt_or_ge i k with h | h
                  · exact HX.out.2.1 i h
                  · obtain rfl : i = k := by omega
                    rw [← HX.out.1]; omega, HX.out.2.2⟩
                case measure => simp [intOf]; omega
          · obtain rfl : k = tn := by omega
            have hkI : ¬ (k : Int) < (k : Int) := by omega
            have HY := Lib.hid (far_no (d := d) (i := i0) (n := n) (k := k) HLL.out.2.2 HLL.out.2.1 hno)
            have HX := Lib.hid hbl
            clear hno hbl
            go_wp2
            go_ret
            rw [HY.out]
            exact ⟨rfl, HBW.out.trans (HX.out.mono HBW.out.size)⟩
      · obtain rfl : I = 38 := by omega
        clear hjc
        go_wp2_with fail
        go_loopw [36] (fun x wr => ∃ k : Nat, k ≤ tn ∧ x = .int .i64 k ∧ (∀ i, i < k → ¬ (d.ts.getD i 0 < -(i0 : Int) ∨ (n : Int) - (i0 : Int) ≤ d.ts.getD i 0)) ∧ Below w0.heap.size w0 wr) (fun x _ => tn - (intOf x).toNat)
        case atStart => exact ⟨0, by omega, rfl, fun i hi => absurd hi (by omega), Below.refl _ _⟩
        case round =>
          obtain ⟨k, hkn, rfl, hno, hbl⟩ := hrel
          have hk0 : (0 : Int) ≤ (k : Int) := Int.natCast_nonneg _
          by_cases hlt : k < tn
          · have hkI : (k : Int) < (tn : Int) := by omega
            have hwk : IntKind.i64.wrap ((k : Int) + 1) = (k : Int) + 1 := by rw [IntKind.wrap_i64]; omega
            obtain ⟨ad, rfl, _, hc0⟩ := i32_at (HLL.out.1.below hbl) hlt
            obtain ⟨x, hx⟩ : ∃ x : Int, x = d.ts.getD k 0 := ⟨_, rfl⟩
            rw [← hx] at hc0
            have HX := Lib.hid (And.intro hx (And.intro hno hbl))
            clear hx hno hbl
            by_cases h1 : x < -(i0 : Int)
            · have HY := Lib.hid (far_yes (d := d) (i := i0) (n := n) (k := k) HLL.out.2.2 HLL.out.2.1 hlt (.inl (by rw [← HX.out.1]; exact h1)))
              go_wp2
              go_ret
              rw [HY.out]
              exact ⟨rfl, HBW.out.trans (HX.out.2.2.mono HBW.out.size)⟩
            · by_cases h2 : (n : Int) - (i0 : Int) ≤ x
              · have HY := Lib.hid (far_yes (d := d) (i := i0) (n := n) (k := k) HLL.out.2.2 HLL.out.2.1 hlt (.inr (by rw [← HX.out.1]; exact h2)))
                go_wp2
                go_ret
                rw [HY.out]
                exact ⟨rfl, HBW.out.trans (HX.out.2.2.mono HBW.out.size)⟩
              · go_wp2
                go_roundw
                case rel => exact ⟨k + 1, by omega, by go_num, fun i hi => by
                  rcases Nat.lt_or_ge i k with h | h
                  · exact HX.out.2.1 i h
                  · obtain rfl : i = k := by omega
                    rw [← HX.out.1]; omega, HX.out.2.2⟩
                case measure => simp [intOf]; omega
          · obtain rfl : k = tn := by omega
            have hkI : ¬ (k : Int) < (k : Int) := by omega
            have HY := Lib.hid (far_no (d := d) (i := i0) (n := n) (k := k) HLL.out.2.2 HLL.out.2.1 hno)
            have HX := Lib.hid hbl
            clear hno hbl
            go_wp2
            go_ret
            rw [HY.out]
            exact ⟨rfl, HBW.out.trans (HX.out.mono HBW.out.size)⟩
    · have h35b : (I == 35) = false := by simpa using fun h => hjc (.inl h)
      have h38b : (I == 38) = false := by simpa using fun h => hjc (.inr h)
      have HY := Lib.hid (show farB d i0 n = false by unfold farB farL; rw [HID.out, if_neg h40, if_neg hjc]; rfl)
      clear hjc h40
      go_wp2
      go_ret
      rw [HY.out]
      exact ⟨rfl, HR.out.2.2.1⟩
end Go.Proofs.YtnlaedfnifimkaaGreat
namespace Go.Proofs.YtnlaedfnifimkaaGreat
open Go.RowKit
def wrongB (bs : List WB) (i : Nat) : Int := if (pairB bs 36 37 i || pairB bs 33 34 i) = true then 6 else if farB (bs.getD i default) i bs.length = true then 5 else 0
def soundG (bs : List WB) : Nat → Nat → Int × Int
  | 0, _ => (0, 0)
  | f + 1, i => if wrongB bs i = 0 then soundG bs f (i + 1) else ((i : Int), wrongB bs i)
def Lite (bs : List WB) : Prop := bs.length ≤ 300 ∧ ∀ i, i < bs.length → (bs.getD i default).ts.length ≤ 300 ∧ (bs.getD i default).ns.length ≤ 300
set_option maxRecDepth 100000 in
set_option maxHeartbeats 8000000 in
theorem sound_any (w : World) (A : Option Addr) (n c : Nat) (bs : List WB) (hB : BlksR w (· < w.heap.size) A n bs) (hL : Lite bs) :
    Calls Tryz.prog 49 #[.slice A n c] w fun x w' => x = .returned (.tuple #[.int .i64 (soundG bs bs.length 0).1, .int .i64 (soundG bs bs.length 0).2]) ∧ Below w.heap.size w w' := by
  have hl := hB.len
  have hn : n ≤ 300 := by have := hL.1; omega
  have hp1 := pairs_any w A n c 36 37 bs hB (by decide) hn
  have HB := Lib.hid (And.intro hB (And.intro hl hL))
  clear hB hl hL
  go_enter Tryz.func49, Tryz.ntmps49
  go_wp2_with fail
  refine hp1.mono ?_
  rintro e w1 ⟨g1, rfl, hg1, hG1, hb1⟩
  clear hp1
  have hp2 := pairs_any w1 A n c 33 34 bs (HB.out.1.keep (fun b hb => hb1.block b hb) (fun b (hb : b < w.heap.size) => by have := hb1.size; show b < _; omega)) (by decide) hn
  have H1 := Lib.hid (And.intro hG1 hb1)
  have hs1 := hb1.size
  have hgl := hG1.lt
  clear hG1 hb1
  go_wp2_with fail
  refine hp2.mono ?_
  rintro e w2 ⟨g2, rfl, hg2, hG2, hb2⟩
  clear hp2
  have hs2 := hb2.size
  have hgl2 := hG2.lt
  have H2 := Lib.hid (And.intro (H1.out.1.below hb2 hgl) (And.intro hG2 (H1.out.2.trans (hb2.mono hs1))))
  clear hG2 hb2
  go_wp2_with fail
  go_loopw [14] (fun x wr => ∃ k : Nat, k ≤ n ∧ x = .int .i64 k ∧ soundG bs bs.length 0 = soundG bs (bs.length - k) k ∧ Below w2.heap.size w2 wr) (fun x _ => n - (intOf x).toNat)
  case atStart => exact ⟨0, by omega, rfl, rfl, Below.refl _ _⟩
  case round =>
    obtain ⟨k, hkn, rfl, hso, hbl⟩ := hrel
    have hk0 : (0 : Int) ≤ (k : Int) := Int.natCast_nonneg _
    have hsz := hbl.size
    by_cases hlt : k < n
    · have hkI : (k : Int) < (n : Int) := by omega
      have hwk : IntKind.i64.wrap ((k : Int) + 1) = (k : Int) + 1 := by rw [IntKind.wrap_i64]; omega
      have hbw : Below w.heap.size w wr := H2.out.2.2.trans (hbl.mono (by omega))
      have hBr := HB.out.1.keep (w' := wr) (ψ := (· < w.heap.size)) (fun b hb => hbw.block b hb) (fun b hb => hb)
      have hlite := HB.out.2.2.2 k (by rw [HB.out.2.1]; exact hlt)
      obtain ⟨ad, rfl, hab, cs, hWB, hc18⟩ := hBr.at_ (i := k) hlt
      obtain ⟨d, hd⟩ : ∃ d, d = bs.getD k default := ⟨_, rfl⟩
      rw [← hd] at hWB
      obtain ⟨v2, v3, v4, v5, v6, v7, v9, v10, v11, v12, TA, tn, tc, IA, ic, v15, v16, v17, rfl, h1c, hTs, hIs⟩ := hWB
      have X0 := Lib.hid (show ∀ jj vv, ([.int .i64 d.id, .int .i64 d.pz, v2, v3, v4, v5, v6, v7, .int .i64 d.ct, v9, v10, v11, v12, .slice TA tn tc, .slice IA d.ns.length ic, v15, v16, v17] : List Value)[jj]? = some vv → wr.cell? ((ad.add (k * 18)).add jj) = some vv from hc18)
      have X1 := Lib.hid (show (#[.int .i64 d.id, .int .i64 d.pz, v2, v3, v4, v5, v6, v7, .int .i64 d.ct, v9, v10, v11, v12, .slice TA tn tc, .slice IA d.ns.length ic, v15, v16, v17] : Array Value).all (·.oneCell') = true from all_one h1c)
      have HD := Lib.hid (And.intro hd (And.intro hTs hIs))
      clear hc18 h1c hd hTs hIs
      have hbs0 : soundG bs bs.length 0 = if wrongB bs k = 0 then soundG bs (bs.length - (k + 1)) (k + 1) else ((k : Int), wrongB bs k) := by
        rw [hso, show bs.length - k = bs.length - (k + 1) + 1 by have := HB.out.2.1; omega]
        rfl
      have hwr : wrongB bs k = if (pairB bs 36 37 k || pairB bs 33 34 k) = true then 6 else if farB d k n = true then 5 else 0 := by unfold wrongB; rw [HD.out.1, HB.out.2.1]
      rw [← HD.out.1] at hlite
      have HS := Lib.hid (And.intro hbs0 (And.intro hwr (And.intro hbl (And.intro hbw hlite))))
      clear hBr hbl hbw hso hbs0 hwr hlite
      go_wp2_with (first
        | (refine wpList_load_at rfl 34 _ rfl (ad.add (k * 18)) rfl [.int .i64 d.id, .int .i64 d.pz, v2, v3, v4, v5, v6, v7, .int .i64 d.ct, v9, v10, v11, v12, .slice TA tn tc, .slice IA d.ns.length ic, v15, v16, v17] X0.out _ Tryz.underlying34 rfl blkInfo ?_)
        | (refine wpList_store_box rfl 34 _ _ rfl (wr.heap.size) #[.int .i64 d.id, .int .i64 d.pz, v2, v3, v4, v5, v6, v7, .int .i64 d.ct, v9, v10, v11, v12, .slice TA tn tc, .slice IA d.ns.length ic, v15, v16, v17] rfl rfl 34 #[.int .i64 0, .int .i64 0, .int .i64 0, .int .i64 0, .int .i64 0, .int .i64 0, .int .i64 0, .int .i64 0, .int .i64 0, .int .i64 0, .int .i64 0, .int .i64 0, .slice none 0 0, .slice none 0 0, .slice none 0 0, .slice none 0 0, .slice none 0 0, .slice none 0 0] (Blk.new wr _ _) blkInfo rfl X1.out ?_)
        | fail)
      intro w3 hB3 hg3
      have hb3 : Below w2.heap.size w2 w3 := (HS.out.2.2.1.alloc hsz _).grown hg3 (by simp; omega) (fun b hb => by injection hb with hb; omega)
      have hb3w : Below w.heap.size w w3 := H2.out.2.2.trans (hb3.mono (by omega))
      have had1 := add0 g1 k
      have had2 := add0 g2 k
      have ck1 : w3.cell? ⟨g1, k, none⟩ = some (.bool (pairB bs 36 37 k)) := ((H2.out.1.below hb3 (by omega)).cell k).trans (rowB_at _ hlt)
      have ck2 : w3.cell? ⟨g2, k, none⟩ = some (.bool (pairB bs 33 34 k)) := ((H2.out.2.1.below hb3 (by omega)).cell k).trans (rowB_at _ hlt)
      have hTs3 : RdP w3 (· < w3.heap.size) 1 TA tn (d.ts.map (Value.int .i64)) := (HD.out.2.1.keep (w' := w3) (ψ := (· < w3.heap.size)) (fun b hb => (hb3w.block b hb).trans (HS.out.2.2.2.1.block b hb).symm) (fun b (hb : b < w.heap.size) => by have := hb3w.size; show b < _; omega))
      have hIs3 : ItsP w3 (· < w3.heap.size) IA d.ns := (HD.out.2.2.keep (w' := w3) (ψ := (· < w3.heap.size)) (fun b hb => (hb3w.block b hb).trans (HS.out.2.2.2.1.block b hb).symm) (fun b (hb : b < w.heap.size) => by have := hb3w.size; show b < _; omega))
      have htl := reads_len (hTs3.reads (B := w3.heap.size) (fun b h => h))
      have hfa := far_any w3 k n d v2 v3 v4 v5 v6 v7 v9 v10 v11 v12 TA tn tc IA ic v15 v16 v17 hTs3 hIs3 HS.out.2.2.2.2.2 (by have := HS.out.2.2.2.2.1; omega) hlt hn
      have H3 := Lib.hid (And.intro hb3 hb3w)
      have HB3 := Lib.hid hB3
      clear hg3 hb3 hb3w hTs3 hIs3 htl
      cases hq1 : pairB bs 36 37 k with
      | true =>
        rw [hq1] at ck1
        have HW := Lib.hid (show soundG bs bs.length 0 = ((k : Int), 6) by
          have h9 : wrongB bs k = 6 := by rw [HS.out.2.1, hq1]; rfl
          rw [HS.out.1, h9]; rfl)
        clear hq1 hfa hB3
        go_wp2
        go_ret2
        rw [HW.out]
        exact ⟨rfl, H3.out.2⟩
      | false =>
        rw [hq1] at ck1
        cases hq2 : pairB bs 33 34 k with
        | true =>
          rw [hq2] at ck2
          have HW := Lib.hid (show soundG bs bs.length 0 = ((k : Int), 6) by
            have h9 : wrongB bs k = 6 := by rw [HS.out.2.1, hq1, hq2]; rfl
            rw [HS.out.1, h9]; rfl)
          clear hq1 hq2 hfa hB3
          go_wp2
          go_ret2
          rw [HW.out]
          exact ⟨rfl, H3.out.2⟩
        | false =>
          rw [hq2] at ck2
          have HW := Lib.hid (show wrongB bs k = if farB d k n = true then 5 else 0 by rw [HS.out.2.1, hq1, hq2]; rfl)
          clear hq1 hq2
          go_wp2_with (first
            | (refine wpList_load_box rfl 34 _ rfl (wr.heap.size) rfl 34 #[.int .i64 d.id, .int .i64 d.pz, v2, v3, v4, v5, v6, v7, .int .i64 d.ct, v9, v10, v11, v12, .slice TA tn tc, .slice IA d.ns.length ic, v15, v16, v17] hB3 _ Tryz.underlying34 rfl blkInfo (fun (_ : Hid _) => ?_))
            | fail)
          refine hfa.mono ?_
          rintro e w4 ⟨rfl, hb4⟩
          clear hfa hB3
          have hs4 := hb4.size
          have H4 := Lib.hid (And.intro (H3.out.1.trans (hb4.mono H3.out.1.size)) (H3.out.2.trans (hb4.mono H3.out.2.size)))
          clear hb4
          cases hq3 : farB d k n with
          | true =>
            have HX := Lib.hid (show soundG bs bs.length 0 = ((k : Int), 5) by
              have h9 : wrongB bs k = 5 := by rw [HW.out, hq3]; rfl
              rw [HS.out.1, h9]; rfl)
            clear hq3
            go_wp2
            go_ret2
            rw [HX.out]
            exact ⟨rfl, H4.out.2⟩
          | false =>
            have HX := Lib.hid (show soundG bs bs.length 0 = soundG bs (bs.length - (k + 1)) (k + 1) by
              have h9 : wrongB bs k = 0 := by rw [HW.out, hq3]; rfl
              rw [HS.out.1, h9]; rfl)
            clear hq3
            go_wp2
            go_roundw
            case rel => exact ⟨k + 1, by omega, by go_num, HX.out, H4.out.1⟩
            case measure => simp [intOf]; omega
    · obtain rfl : k = n := by omega
      have hkI : ¬ (k : Int) < (k : Int) := by omega
      have HX := Lib.hid (show soundG bs bs.length 0 = (0, 0) by rw [hso, show bs.length - k = 0 by have := HB.out.2.1; omega]; rfl)
      have HY := Lib.hid (H2.out.2.2.trans (hbl.mono (by omega)))
      clear hso hbl
      go_wp2
      go_ret2
      rw [HX.out]
      exact ⟨rfl, HY.out⟩
end Go.Proofs.YtnlaedfnifimkaaGreat
namespace Go.Proofs.YtnlaedfnifimkaaGreat
open Go.RowKit
def wkC (LA : Option Addr) (ln lc mb : Nat) (s : WS) : Array Value :=
  #[.slice LA ln lc, .int .i64 s.at_, .bool s.on, .bool s.heard, .int .i64 s.frm, .int .i64 s.times, .bool s.con, .int .i64 s.cfrom, .int .i64 s.cnext, .map (some mb), .int .i64 s.lk, .int .i64 s.lb, .int .i64 s.le, .bool s.ov]
def WalkAt (w : World) (g mb : Nat) (LA : Option Addr) (ln lc : Nat) (bs : List WB) (s : WS) : Prop :=
  Blk w g 217 (wkC LA ln lc mb s) ∧ TkAt w mb s.tk ∧ BlksR w (fun b => b ≠ g ∧ b ≠ mb ∧ b < w.heap.size) LA ln bs
structure Mv (w w' : World) (g mb : Nat) : Prop where
  os : w'.os = w.os
  tape : w'.tape = w.tape
  output : w'.output = w.output
  size : w.heap.size ≤ w'.heap.size
  block : ∀ k, k < w.heap.size → k ≠ g → k ≠ mb → w'.heap[k]? = w.heap[k]?
theorem Mv.refl (w : World) (g mb : Nat) : Mv w w g mb := ⟨rfl, rfl, rfl, Nat.le_refl _, fun _ _ _ _ => rfl⟩
theorem Mv.trans {a b c : World} {g mb : Nat} (h : Mv a b g mb) (k : Mv b c g mb) : Mv a c g mb :=
  ⟨k.os.trans h.os, k.tape.trans h.tape, k.output.trans h.output, Nat.le_trans h.size k.size, fun i hi h1 h2 => (k.block i (Nat.lt_of_lt_of_le hi h.size) h1 h2).trans (h.block i hi h1 h2)⟩
theorem Mv.of_below {w w' : World} {g mb : Nat} (h : Below w.heap.size w w') : Mv w w' g mb := ⟨h.os, h.tape, h.output, h.size, fun k hk _ _ => h.block k hk⟩
theorem Mv.of_grown {w w' : World} {g mb r : Nat} (h : w.grownBy w' (some r)) (hr : r = g ∨ r = mb) : Mv w w' g mb :=
  ⟨h.os, h.tape, h.output, h.size, fun k hk h1 h2 => h.block k hk (fun e => by injection e with e; subst e; rcases hr with h | h; exact h1 h; exact h2 h)⟩
theorem Mv.set_ {w w' : World} {g mb i : Nat} (h : Mv w w' g mb) (v : Value) : Mv w (w'.setCell ⟨g, i, none⟩ v) g mb :=
  h.trans ⟨rfl, rfl, rfl, by simp [World.setCell], fun k _ h1 _ => Below.heap_setCell _ _ _ _ h1⟩
theorem Mv.new {w w4 w9 : World} {g mb r : Nat} (h : Mv w w4 g mb) (hg : w4.grownBy w9 (some r)) (hr : w.heap.size ≤ r) : Mv w w9 g mb :=
  ⟨hg.os.trans h.os, hg.tape.trans h.tape, hg.output.trans h.output, Nat.le_trans h.size hg.size, fun k hk h1 h2 => (hg.block k (Nat.lt_of_lt_of_le hk h.size) (fun e => by injection e with e; omega)).trans (h.block k hk h1 h2)⟩
theorem Mv.below {w w' : World} {g mb B : Nat} (h : Mv w w' g mb) (hB : B ≤ w.heap.size) (hg : B ≤ g) (hm : B ≤ mb) : Below B w w' :=
  ⟨h.os, h.tape, h.output, h.size, fun k hk => h.block k (by omega) (by omega) (by omega)⟩
theorem TkAt.lt {w : World} {b : Nat} {tk : List Int} (h : TkAt w b tk) : b < w.heap.size := by
  obtain ⟨D, hown, _⟩ := h
  exact hown.lt
theorem TkAt.ne {w : World} {b g : Nat} {tk : List Int} {t : TypeId} {cs : Array Value} (h : TkAt w b tk) (hB : Blk w g t cs) : b ≠ g := by
  rintro rfl
  obtain ⟨D, ⟨es, clock, hb, _⟩, _⟩ := h
  unfold Blk at hB
  rw [hB] at hb
  cases hb
theorem WalkAt.below {w w' : World} {g mb : Nat} {LA : Option Addr} {ln lc : Nat} {bs : List WB} {s : WS} (h : WalkAt w g mb LA ln lc bs s) (hb : Below w.heap.size w w') : WalkAt w' g mb LA ln lc bs s := by
  obtain ⟨h1, h2, h3⟩ := h
  have hs := hb.size
  exact ⟨h1.below hb h1.lt, h2.kept (hb.block _ h2.lt), h3.keep (fun b hp => hb.block b hp.2.2) (fun b hp => ⟨hp.1, hp.2.1, by omega⟩)⟩
theorem WalkAt.mv {w w' : World} {g mb g2 mb2 : Nat} {LA : Option Addr} {ln lc : Nat} {bs : List WB} {s : WS} (h : WalkAt w g mb LA ln lc bs s) (hm : Mv w w' g2 mb2) (h1 : g ≠ g2 ∧ g ≠ mb2) (h2 : mb ≠ g2 ∧ mb ≠ mb2) (h3 : BlksR w (fun b => b ≠ g ∧ b ≠ mb ∧ b ≠ g2 ∧ b ≠ mb2 ∧ b < w.heap.size) LA ln bs) : WalkAt w' g mb LA ln lc bs s := by
  obtain ⟨q1, q2, _⟩ := h
  have hs := hm.size
  refine ⟨(hm.block g q1.lt h1.1 h1.2).trans q1, q2.kept (hm.block mb q2.lt h2.1 h2.2), h3.keep (fun b hp => hm.block b hp.2.2.2.2 hp.2.2.1 hp.2.2.2.1) (fun b hp => ⟨hp.1, hp.2.1, by have := hp.2.2.2.2; omega⟩)⟩
theorem WalkAt.box {w w' : World} {g mb : Nat} {LA : Option Addr} {ln lc : Nat} {bs : List WB} {s s' : WS} (h : WalkAt w g mb LA ln lc bs s) (hm : Mv w w' g mb) (hB : Blk w' g 217 (wkC LA ln lc mb s')) (hk : w'.heap[mb]? = w.heap[mb]?) (ht : s'.tk = s.tk) : WalkAt w' g mb LA ln lc bs s' := by
  obtain ⟨_, h2, h3⟩ := h
  have hs := hm.size
  rw [← ht] at h2
  exact ⟨hB, h2.kept hk, h3.keep (fun b hp => hm.block b hp.2.2 hp.1 hp.2.1) (fun b hp => ⟨hp.1, hp.2.1, by have := hp.2.2; omega⟩)⟩
theorem stepInfo : (Tryz.prog.info? 215).map (·.size) = some 3 := by kernel_rfl
set_option maxRecDepth 100000 in
set_option maxHeartbeats 4000000 in
theorem sounds_any (w : World) (i : Int) : Calls Tryz.prog 198 #[.int .i64 i] w fun e w' => e = .returned (.bool (soundsB i)) ∧ w = w' := by
  by_cases h : 16 ≤ i ∧ i ≤ 21 ∨ i = 24 ∨ i = 25 ∨ i = 32
  · have HY := Lib.hid (show soundsB i = true from decide_eq_true h)
    obtain rfl | rfl | rfl | rfl | rfl | rfl | rfl | rfl | rfl : i = 16 ∨ i = 17 ∨ i = 18 ∨ i = 19 ∨ i = 20 ∨ i = 21 ∨ i = 24 ∨ i = 25 ∨ i = 32 := by omega
    all_goals
      clear h
      go_enter Tryz.func198, Tryz.ntmps198
      go_wp2
      go_ret
      rw [HY.out]
      exact ⟨rfl, rfl⟩
  · have HY := Lib.hid (show soundsB i = false from decide_eq_false h)
    have h1 : (i == 16) = false := by simpa using (show ¬ i = 16 by omega)
    have h2 : (i == 17) = false := by simpa using (show ¬ i = 17 by omega)
    have h3 : (i == 18) = false := by simpa using (show ¬ i = 18 by omega)
    have h4 : (i == 19) = false := by simpa using (show ¬ i = 19 by omega)
    have h5 : (i == 20) = false := by simpa using (show ¬ i = 20 by omega)
    have h6 : (i == 21) = false := by simpa using (show ¬ i = 21 by omega)
    have h7 : (i == 24) = false := by simpa using (show ¬ i = 24 by omega)
    have h8 : (i == 25) = false := by simpa using (show ¬ i = 25 by omega)
    have h9 : (i == 32) = false := by simpa using (show ¬ i = 32 by omega)
    clear h
    go_enter Tryz.func198, Tryz.ntmps198
    go_wp2
    go_ret
    rw [HY.out]
    exact ⟨rfl, rfl⟩
set_option maxRecDepth 100000 in
set_option maxHeartbeats 8000000 in
theorem stay_any (w : World) (g mb : Nat) (LA : Option Addr) (ln lc : Nat) (bs : List WB) (s : WS) (k b e : Int) (h : WalkAt w g mb LA ln lc bs s) :
    Calls Tryz.prog 177 #[.pointer (some ⟨g, 0, none⟩), .agg #[.int .i64 k, .int .i64 b, .int .i64 e]] w fun x w' => x = .returned (.agg #[.int .i64 k, .int .i64 b, .int .i64 e]) ∧ WalkAt w' g mb LA ln lc bs (stayS s k b e) ∧ Mv w w' g mb := by
  have hB := h.1
  have hb1 : Below w.heap.size w (w.alloc (.cells #[.int .i64 k, .int .i64 b, .int .i64 e] 215)) := (Below.refl _ _).alloc (Nat.le_refl _) _
  have hb2 : Below w.heap.size w ((w.alloc (.cells #[.int .i64 k, .int .i64 b, .int .i64 e] 215)).alloc (.cells #[.int .i64 0, .int .i64 0, .int .i64 0] 215)) := hb1.alloc hb1.size _
  have hP : Blk ((w.alloc (.cells #[.int .i64 k, .int .i64 b, .int .i64 e] 215)).alloc (.cells #[.int .i64 0, .int .i64 0, .int .i64 0] 215)) w.heap.size 215 #[.int .i64 k, .int .i64 b, .int .i64 e] := (Blk.new w _ _).alloc _
  have hQ : Blk ((w.alloc (.cells #[.int .i64 k, .int .i64 b, .int .i64 e] 215)).alloc (.cells #[.int .i64 0, .int .i64 0, .int .i64 0] 215)) (w.heap.size + 1) 215 #[.int .i64 0, .int .i64 0, .int .i64 0] := by
    have := Blk.new (w.alloc (.cells #[.int .i64 k, .int .i64 b, .int .i64 e] 215)) 215 #[.int .i64 0, .int .i64 0, .int .i64 0]
    simpa using this
  have HH := Lib.hid (And.intro (h.below hb2) (And.intro hb2 (And.intro hP (And.intro hQ (And.intro hB.lt h)))))
  clear h hB hb1 hb2 hP hQ
  go_enter Tryz.func177, Tryz.ntmps177
  go_upto_region 1 with fail
  generalize ((w.alloc (.cells #[.int .i64 k, .int .i64 b, .int .i64 e] 215)).alloc (.cells #[.int .i64 0, .int .i64 0, .int .i64 0] 215)) = w0 at *
  have hP := HH.out.2.2.1
  have hB := HH.out.1.1
  have hgl := HH.out.2.2.2.2.1
  have c10 : w0.cell? ⟨g, 10, none⟩ = some (.int .i64 s.lk) := (hB.cell 10).trans rfl
  have c11 : w0.cell? ⟨g, 11, none⟩ = some (.int .i64 s.lb) := (hB.cell 11).trans rfl
  have c12 : w0.cell? ⟨g, 12, none⟩ = some (.int .i64 s.le) := (hB.cell 12).trans rfl
  have c13 : w0.cell? ⟨g, 13, none⟩ = some (.bool s.ov) := (hB.cell 13).trans rfl
  have f10 : w0.frozen? ⟨g, 10, none⟩ = false := hB.frozen 10
  have f11 : w0.frozen? ⟨g, 11, none⟩ = false := hB.frozen 11
  have f12 : w0.frozen? ⟨g, 12, none⟩ = false := hB.frozen 12
  have f13 : w0.frozen? ⟨g, 13, none⟩ = false := hB.frozen 13
  go_upto_region 2 with (first
    | (refine wpList_load_box rfl 215 _ rfl (w.heap.size) rfl 215 #[.int .i64 k, .int .i64 b, .int .i64 e] hP _ Tryz.underlying215 rfl stepInfo (fun (_ : Hid _) => ?_))
    | fail)
  have hB4 : Blk ((((w0.setCell ⟨g, 10, none⟩ (.int .i64 k)).setCell ⟨g, 11, none⟩ (.int .i64 b)).setCell ⟨g, 12, none⟩ (.int .i64 e)).setCell ⟨g, 13, none⟩ (.bool true)) g 217 (wkC LA ln lc mb (stayS s k b e)) := (((hB.set_ 10 _).set_ 11 _).set_ 12 _).set_ 13 _
  have hP4 : Blk ((((w0.setCell ⟨g, 10, none⟩ (.int .i64 k)).setCell ⟨g, 11, none⟩ (.int .i64 b)).setCell ⟨g, 12, none⟩ (.int .i64 e)).setCell ⟨g, 13, none⟩ (.bool true)) w.heap.size 215 #[.int .i64 k, .int .i64 b, .int .i64 e] := (((hP.far (by show w.heap.size ≠ g; omega) _).far (by show w.heap.size ≠ g; omega) _).far (by show w.heap.size ≠ g; omega) _).far (by show w.heap.size ≠ g; omega) _
  have hQ4 : Blk ((((w0.setCell ⟨g, 10, none⟩ (.int .i64 k)).setCell ⟨g, 11, none⟩ (.int .i64 b)).setCell ⟨g, 12, none⟩ (.int .i64 e)).setCell ⟨g, 13, none⟩ (.bool true)) (w.heap.size + 1) 215 #[.int .i64 0, .int .i64 0, .int .i64 0] := (((HH.out.2.2.2.1.far (by show w.heap.size + 1 ≠ g; omega) _).far (by show w.heap.size + 1 ≠ g; omega) _).far (by show w.heap.size + 1 ≠ g; omega) _).far (by show w.heap.size + 1 ≠ g; omega) _
  have hM4 : Mv w0 ((((w0.setCell ⟨g, 10, none⟩ (.int .i64 k)).setCell ⟨g, 11, none⟩ (.int .i64 b)).setCell ⟨g, 12, none⟩ (.int .i64 e)).setCell ⟨g, 13, none⟩ (.bool true)) g mb := ((((Mv.refl w0 g mb).set_ _).set_ _).set_ _).set_ _
  have hne := HH.out.1.2.1.ne HH.out.1.1
  have hk4 : ((((w0.setCell ⟨g, 10, none⟩ (.int .i64 k)).setCell ⟨g, 11, none⟩ (.int .i64 b)).setCell ⟨g, 12, none⟩ (.int .i64 e)).setCell ⟨g, 13, none⟩ (.bool true)).heap[mb]? = w0.heap[mb]? := (Below.heap_setCell _ _ _ _ hne).trans ((Below.heap_setCell _ _ _ _ hne).trans ((Below.heap_setCell _ _ _ _ hne).trans (Below.heap_setCell _ _ _ _ hne)))
  have H4 := Lib.hid (And.intro hB4 (And.intro ((Mv.of_below HH.out.2.1).trans hM4) (And.intro hk4 hM4.size)))
  clear c10 c11 c12 c13 f10 f11 f12 f13 hB hP hB4 hM4 hne hk4
  generalize ((((w0.setCell ⟨g, 10, none⟩ (.int .i64 k)).setCell ⟨g, 11, none⟩ (.int .i64 b)).setCell ⟨g, 12, none⟩ (.int .i64 e)).setCell ⟨g, 13, none⟩ (.bool true)) = w4 at *
  go_wp2_with (first
    | (refine wpList_load_box rfl 215 _ rfl (w.heap.size) rfl 215 #[.int .i64 k, .int .i64 b, .int .i64 e] hP4 _ Tryz.underlying215 rfl stepInfo (fun (_ : Hid _) => ?_))
    | (refine wpList_store_box rfl 215 _ _ rfl (w.heap.size + 1) #[.int .i64 k, .int .i64 b, .int .i64 e] rfl rfl 215 #[.int .i64 0, .int .i64 0, .int .i64 0] hQ4 stepInfo rfl (by simp [Value.oneCell']) ?_)
    | fail)
  intro w9 hB9 hg9
  have H9 := Lib.hid hg9
  clear hg9 hP4 hQ4
  go_wp2_with fail
  refine bodyPost_ret (results_cell_row rfl _ _ (w.heap.size + 1) 215 _ (0, 0) _ rfl hB9 Tryz.underlying215 rfl stepInfo) rfl ?_
  have h0 := HH.out.2.2.2.2.2
  have hMv : Mv w w9 g mb := H4.out.2.1.new H9.out (by omega)
  have hml := h0.2.1.lt
  refine ⟨rfl, h0.box hMv (H4.out.1.grown H9.out (fun e => by injection e with e; omega)) ((H9.out.block mb (by have := H4.out.2.1.size; omega) (fun e => by injection e with e; omega)).trans (H4.out.2.2.1.trans (HH.out.2.1.block mb hml))) rfl, hMv⟩
end Go.Proofs.YtnlaedfnifimkaaGreat
namespace Go.Proofs.YtnlaedfnifimkaaGreat
open Go.RowKit
theorem WalkAt.out {w w1 w9 : World} {g mb r : Nat} {LA : Option Addr} {ln lc : Nat} {bs : List WB} {s s' : WS} (h : WalkAt w g mb LA ln lc bs s) (h1 : WalkAt w1 g mb LA ln lc bs s') (hm : Mv w w1 g mb) (hg : w1.grownBy w9 (some r)) (hr : w.heap.size ≤ r) : WalkAt w9 g mb LA ln lc bs s' ∧ Mv w w9 g mb := by
  have hM := hm.new hg hr
  have hgl := h.1.lt
  have hml := h.2.1.lt
  have hs := hm.size
  have hs9 := hM.size
  exact ⟨⟨h1.1.grown hg (fun e => by injection e with e; omega), h1.2.1.kept (hg.block mb (by omega) (fun e => by injection e with e; omega)), h.2.2.keep (fun b hp => hM.block b hp.2.2 hp.1 hp.2.1) (fun b hp => ⟨hp.1, hp.2.1, by have := hp.2.2; omega⟩)⟩, hM⟩
theorem WalkAt.drewN {w : World} {g mb : Nat} {LA : Option Addr} {ln lc : Nat} {bs : List WB} {s : WS} (h : WalkAt w g mb LA ln lc bs s) (k : Nat) : WalkAt (w.drewN k) g mb LA ln lc bs s := ⟨h.1, h.2.1.kept rfl, h.2.2.keep (fun _ _ => rfl) (fun _ hp => hp)⟩
theorem WalkAt.set_ {w : World} {g mb i : Nat} {LA : Option Addr} {ln lc : Nat} {bs : List WB} {s s' : WS} (h : WalkAt w g mb LA ln lc bs s) (v : Value) (hc : (wkC LA ln lc mb s).setIfInBounds i v = wkC LA ln lc mb s') (ht : s'.tk = s.tk) : WalkAt (w.setCell ⟨g, i, none⟩ v) g mb LA ln lc bs s' :=
  h.box ((Mv.refl w g mb).set_ v) (by rw [← hc]; exact h.1.set_ i v) (Below.heap_setCell _ _ _ _ (h.2.1.ne h.1)) ht
theorem results_cell_tmp9 {P : Program} {fn : Func} {p u : Tmp} {ty : TypeId} (h : fn.results = #[.cell p ty, .tmp u]) (tmps : Array Value) (w : World) (g : Nat) (t : TypeId) (cs : Array Value) (fr : Nat × Nat) (d : TypeDesc)
    (hp : tmps.getD p undef = .pointer (some ⟨g, 0, none⟩)) (hg : w.heap[g]? = some (.cells cs t fr))
    (hu : P.underlying ty = some d) (hd : (match d with | .struct _ | .array _ _ => true | _ => false) = true) (hi : (P.info? ty).map (·.size) = some cs.size) :
    (results fn tmps).run P w = .ok (.tuple #[.agg cs, tmps.getD u undef]) w := by
  rw [results_cell_tmp h, hp]
  simp [asAddr, Result.andThen, run_loadVar_row w g t ty cs fr d hg hu hd hi]
set_option maxRecDepth 100000 in
set_option maxHeartbeats 4000000 in
theorem fault_any (w : World) (g mb : Nat) (LA : Option Addr) (ln lc : Nat) (bs : List WB) (s : WS) (e : Int) (h : WalkAt w g mb LA ln lc bs s) :
    Calls Tryz.prog 247 #[.pointer (some ⟨g, 0, none⟩), .int .i64 e] w fun x w' => x = .returned (.tuple #[.agg #[.int .i64 4, .int .i64 s.at_, .int .i64 e], .bool true]) ∧ WalkAt w' g mb LA ln lc bs (stayS s 4 s.at_ e) ∧ Mv w w' g mb := by
  have hb1 : Below w.heap.size w (w.alloc (.cells #[.int .i64 0, .int .i64 0, .int .i64 0] 215)) := (Below.refl _ _).alloc (Nat.le_refl _) _
  have hP : Blk (w.alloc (.cells #[.int .i64 0, .int .i64 0, .int .i64 0] 215)) w.heap.size 215 #[.int .i64 0, .int .i64 0, .int .i64 0] := Blk.new w _ _
  have HH := Lib.hid (And.intro (h.below hb1) (And.intro hb1 (And.intro hP h)))
  clear h hb1 hP
  go_enter Tryz.func247, Tryz.ntmps247
  go_upto_region 1 with fail
  generalize (w.alloc (.cells #[.int .i64 0, .int .i64 0, .int .i64 0] 215)) = w0 at *
  have c1 : w0.cell? ⟨g, 1, none⟩ = some (.int .i64 s.at_) := (HH.out.1.1.cell 1).trans rfl
  have hst := stay_any w0 g mb LA ln lc bs s 4 s.at_ e HH.out.1
  go_wp2_with fail
  refine hst.mono ?_
  rintro x w1 ⟨rfl, hW, hM⟩
  clear hst c1
  have h0 := HH.out.2.2.2
  have hgl := h0.1.lt
  have hml := h0.2.1.lt
  have hpl := HH.out.2.2.1.lt
  have hP1 : Blk w1 w.heap.size 215 #[.int .i64 0, .int .i64 0, .int .i64 0] := (hM.block w.heap.size hpl (by omega) (by omega)).trans HH.out.2.2.1
  have H1 := Lib.hid (And.intro h0 (And.intro hW ((Mv.of_below HH.out.2.1).trans hM)))
  clear hW hM h0
  go_wp2_with (first
    | (refine wpList_store_box rfl 215 _ _ rfl (w.heap.size) #[.int .i64 4, .int .i64 s.at_, .int .i64 e] rfl rfl 215 #[.int .i64 0, .int .i64 0, .int .i64 0] hP1 stepInfo rfl (by simp [Value.oneCell']) ?_)
    | fail)
  intro w9 hB9 hg9
  have H9 := Lib.hid hg9
  clear hg9 hP1
  go_wp2_with fail
  refine bodyPost_ret (results_cell_tmp9 rfl _ _ (w.heap.size) 215 _ (0, 0) _ rfl hB9 Tryz.underlying215 rfl stepInfo) rfl ?_
  obtain ⟨q1, q2⟩ := H1.out.1.out H1.out.2.1 H1.out.2.2 H9.out (Nat.le_refl _)
  exact ⟨rfl, q1, q2⟩
def retS (bs : List WB) (s : WS) : WS := if s.cnext < (atB bs s.cfrom).ts.length then { s with cnext := s.cnext + 1 } else { s with con := false, cfrom := 0, cnext := 0 }
def retT (bs : List WB) (s : WS) : Int := if s.cnext < (atB bs s.cfrom).ts.length then s.cfrom + (atB bs s.cfrom).ts.getD s.cnext.toNat 0 else s.cfrom + 1
set_option maxRecDepth 100000 in
set_option maxHeartbeats 8000000 in
theorem returned_any (w : World) (g mb : Nat) (LA : Option Addr) (ln lc : Nat) (bs : List WB) (s : WS) (h : WalkAt w g mb LA ln lc bs s) (hc : s.con = true) (h0 : 0 ≤ s.cfrom) (h1 : s.cfrom < ln) (h2 : 1 ≤ s.cnext) (hf : ∀ d ∈ (atB bs s.cfrom).ts, 0 ≤ s.cfrom + d ∧ s.cfrom + d ≤ 300) (hl : ln ≤ 300) (hts : (atB bs s.cfrom).ts.length ≤ 300) :
    Calls Tryz.prog 248 #[.pointer (some ⟨g, 0, none⟩)] w fun x w' => x = .returned (.int .i64 (retT bs s)) ∧ WalkAt w' g mb LA ln lc bs (retS bs s) ∧ Mv w w' g mb := by
  obtain ⟨n, hn⟩ : ∃ n : Nat, s.cfrom = (n : Int) := ⟨s.cfrom.toNat, by omega⟩
  have hnl : n < ln := by omega
  obtain ⟨ad, rfl, hab, cs, hWB, hc18⟩ := h.2.2.at_ hnl
  have hat : atB bs s.cfrom = bs.getD n default := by rw [hn]; rfl
  obtain ⟨v2, v3, v4, v5, v6, v7, v9, v10, v11, v12, TA, tn, tc, IA, ic, v15, v16, v17, rfl, h1c, hTs, hIs⟩ := hWB
  have k13 : w.cell? ⟨(ad.add (n * 18)).block, (ad.add (n * 18)).off + 13, none⟩ = some (.slice TA tn tc) := by
    have := hc18 13 (.slice TA tn tc) rfl
    rw [show (ad.add (n * 18)).add 13 = ⟨(ad.add (n * 18)).block, (ad.add (n * 18)).off + 13, none⟩ from by unfold Addr.add; rw [if_neg (by decide)]] at this
    exact this
  have htl : (bs.getD n default).ts.length = tn := reads_len (hTs.reads (B := w.heap.size) (fun b h => h.2.2))
  obtain ⟨m, hm⟩ : ∃ m : Nat, s.cnext = (m : Int) := ⟨s.cnext.toNat, by omega⟩
  have hT := hTs.reads (B := w.heap.size) (fun b h => h.2.2)
  rw [hat] at hf hts
  have HTB := Lib.hid hTs
  have HT := Lib.hid (And.intro hT (And.intro hat (And.intro htl (And.intro hf (And.intro hm hn)))))
  have hB := h.1
  have d0 : w.cell? ⟨g, 0, none⟩ = some (.slice (some ad) ln lc) := (hB.cell 0).trans rfl
  have d7 : w.cell? ⟨g, 7, none⟩ = some (.int .i64 n) := by rw [← hn]; exact (hB.cell 7).trans rfl
  have d8 : w.cell? ⟨g, 8, none⟩ = some (.int .i64 m) := by rw [← hm]; exact (hB.cell 8).trans rfl
  have e6 : w.frozen? ⟨g, 6, none⟩ = false := hB.frozen 6
  have e7 : w.frozen? ⟨g, 7, none⟩ = false := hB.frozen 7
  have e8 : w.frozen? ⟨g, 8, none⟩ = false := hB.frozen 8
  have d6 : w.cell? ⟨g, 6, none⟩ = some (.bool s.con) := (hB.cell 6).trans rfl
  have hnI : (n : Int) < (ln : Int) := by omega
  have hn0 : (0 : Int) ≤ (n : Int) := Int.natCast_nonneg _
  have htn60 : tn ≤ 300 := by omega
  have hm1 : 1 ≤ m := by omega
  have HH := Lib.hid h
  clear h hc h0 h1 h2 hf hts hab hc18 h1c hTs hIs hat htl hT hm hn hB
  go_enter Tryz.func248, Tryz.ntmps248
  go_upto_region 1 with fail
  go_quiet (fail)
  have hW0 : WalkAt (w.drewN nq) g mb (some ad) ln lc bs s := HH.out.drewN nq
  have hM0 : Mv w (w.drewN nq) g mb := ⟨rfl, rfl, rfl, Nat.le_refl _, fun _ _ _ _ => rfl⟩
  have hT0 : Reads (w.drewN nq) w.heap.size 1 TA tn ((bs.getD n default).ts.map (Value.int .i64)) := HT.out.1
  have D7 : (w.drewN nq).cell? ⟨g, 7, none⟩ = some (.int .i64 n) := d7
  have D8 : (w.drewN nq).cell? ⟨g, 8, none⟩ = some (.int .i64 m) := d8
  have D6 : (w.drewN nq).cell? ⟨g, 6, none⟩ = some (.bool s.con) := d6
  have E6 : (w.drewN nq).frozen? ⟨g, 6, none⟩ = false := e6
  have E7 : (w.drewN nq).frozen? ⟨g, 7, none⟩ = false := e7
  have E8 : (w.drewN nq).frozen? ⟨g, 8, none⟩ = false := e8
  have hsz0 : (w.drewN nq).heap.size = w.heap.size := rfl
  clear d0 d6 d7 d8 e6 e7 e8 k13
  generalize w.drewN nq = w0 at *
  have H0 := Lib.hid (And.intro hW0 (And.intro hM0 (And.intro hT0 hsz0)))
  clear hW0 hM0 hT0 hsz0
  by_cases hlt : m < tn
  · have hmI : (m : Int) < (tn : Int) := by omega
    have hwm : IntKind.i64.wrap ((m : Int) + 1) = (m : Int) + 1 := by rw [IntKind.wrap_i64]; omega
    have hrt := Lib.hid (show retS bs s = { s with cnext := s.cnext + 1 } ∧ retT bs s = (n : Int) + (bs.getD n default).ts.getD m 0 from by
      have h9 : s.cnext < (atB bs s.cfrom).ts.length := by rw [HT.out.2.1, HT.out.2.2.1, HT.out.2.2.2.2.1]; omega
      unfold retS retT
      rw [if_pos h9, if_pos h9, HT.out.2.1, HT.out.2.2.2.2.1, HT.out.2.2.2.2.2]
      exact ⟨rfl, rfl⟩)
    go_upto_region 4 with fail
    have hW2 : WalkAt (w0.setCell ⟨g, 8, none⟩ (.int .i64 ((m : Int) + 1))) g mb (some ad) ln lc bs { s with cnext := s.cnext + 1 } := H0.out.1.set_ _ (by rw [← HT.out.2.2.2.2.1]; rfl) rfl
    have hM2 : Mv w (w0.setCell ⟨g, 8, none⟩ (.int .i64 ((m : Int) + 1))) g mb := H0.out.2.1.set_ _
    obtain ⟨tad, rfl, htb, hcx⟩ := i32_at H0.out.2.2.1 hlt
    have hgt : tad.block ≠ g := by
      obtain ⟨t9, e9, hp9, _⟩ := HTB.out.2 (by omega)
      injection e9 with e9
      subst e9
      exact hp9.1
    have hx0 := HT.out.2.2.2.1 ((bs.getD n default).ts.getD m 0) (getD_mem (by rw [HT.out.2.2.1]; exact hlt))
    rw [HT.out.2.2.2.2.2] at hx0
    generalize (bs.getD n default).ts.getD m 0 = x at *
    have hcx2 : (w0.setCell ⟨g, 8, none⟩ (.int .i64 ((m : Int) + 1))).cell? (tad.add m) = some (.int .i64 x) := (World.cell?_setCell_other w0 _ _ _ (fun e => by
      have h9 := congrArg Addr.block e
      rw [block_of_add] at h9
      exact hgt (by first | exact h9 | exact h9.symm))).trans hcx
    have hc7 : (w0.setCell ⟨g, 8, none⟩ (.int .i64 ((m : Int) + 1))).cell? ⟨g, 7, none⟩ = some (.int .i64 n) := (hW2.1.cell 7).trans (by show some (Value.int .i64 s.cfrom) = some (Value.int .i64 (n : Int)); rw [HT.out.2.2.2.2.2])
    have hc8 : (w0.setCell ⟨g, 8, none⟩ (.int .i64 ((m : Int) + 1))).cell? ⟨g, 8, none⟩ = some (.int .i64 ((m : Int) + 1)) := (hW2.1.cell 8).trans (by show some (Value.int .i64 (s.cnext + 1)) = some (Value.int .i64 ((m : Int) + 1)); rw [HT.out.2.2.2.2.1])
    have H2 := Lib.hid (And.intro hW2 hM2)
    clear hW2 hM2 D6 D7 D8 E6 E7 E8 hcx
    generalize (w0.setCell ⟨g, 8, none⟩ (.int .i64 ((m : Int) + 1))) = w2 at *
    have hws : IntKind.i64.wrap ((m : Int) + 1 - 1) = (m : Int) := by rw [IntKind.wrap_i64]; omega
    have hwx : IntKind.i64.wrap ((n : Int) + x) = (n : Int) + x := by rw [IntKind.wrap_i64]; omega
    have hm0 : (0 : Int) ≤ (m : Int) := Int.natCast_nonneg _
    go_quiet (fail)
    have H3 := Lib.hid (show WalkAt (w2.drewN nq) g mb (some ad) ln lc bs { s with cnext := s.cnext + 1 } ∧ Mv w (w2.drewN nq) g mb from ⟨H2.out.1.drewN nq, H2.out.2.trans ⟨rfl, rfl, rfl, Nat.le_refl _, fun _ _ _ _ => rfl⟩⟩)
    clear hcx2 hc7 hc8
    go_wp2
    go_ret
    rw [hrt.out.1, hrt.out.2]
    exact ⟨rfl, H3.out.1, H3.out.2⟩
  · have hmI : ¬ (m : Int) < (tn : Int) := by omega
    have hwn : IntKind.i64.wrap ((n : Int) + 1) = (n : Int) + 1 := by rw [IntKind.wrap_i64]; omega
    have hrt := Lib.hid (show retS bs s = { s with con := false, cfrom := 0, cnext := 0 } ∧ retT bs s = (n : Int) + 1 from by
      have h9 : ¬ s.cnext < (atB bs s.cfrom).ts.length := by rw [HT.out.2.1, HT.out.2.2.1, HT.out.2.2.2.2.1]; omega
      unfold retS retT
      rw [if_neg h9, if_neg h9, HT.out.2.2.2.2.2]
      exact ⟨rfl, rfl⟩)
    have H2 := Lib.hid (show WalkAt (((w0.setCell ⟨g, 6, none⟩ (.bool false)).setCell ⟨g, 7, none⟩ (.int .i64 0)).setCell ⟨g, 8, none⟩ (.int .i64 0)) g mb (some ad) ln lc bs { s with con := false, cfrom := 0, cnext := 0 } ∧ Mv w (((w0.setCell ⟨g, 6, none⟩ (.bool false)).setCell ⟨g, 7, none⟩ (.int .i64 0)).setCell ⟨g, 8, none⟩ (.int .i64 0)) g mb from
      ⟨((H0.out.1.set_ (s' := { s with con := false }) _ rfl rfl).set_ (s' := { s with con := false, cfrom := 0 }) _ rfl rfl).set_ _ rfl rfl, ((H0.out.2.1.set_ _).set_ _).set_ _⟩)
    go_wp2
    go_ret
    rw [hrt.out.1, hrt.out.2]
    exact ⟨rfl, H2.out.1, H2.out.2⟩
end Go.Proofs.YtnlaedfnifimkaaGreat
namespace Go.Proofs.YtnlaedfnifimkaaGreat
open Go.RowKit
def LeadO (w w' : World) (x : Ending) (g mb : Nat) (LA : Option Addr) (ln lc : Nat) (bs : List WB) (s : WS) : Prop :=
  Mv w w' g mb ∧ ((leadE bs s = 0 ∧ x = .returned (.tuple #[.agg #[.int .i64 0, .int .i64 0, .int .i64 0], .bool false]) ∧ WalkAt w' g mb LA ln lc bs (leadS bs s)) ∨
    (leadE bs s ≠ 0 ∧ x = .returned (.tuple #[.agg #[.int .i64 4, .int .i64 s.at_, .int .i64 (leadE bs s)], .bool true]) ∧ WalkAt w' g mb LA ln lc bs (stayS s 4 s.at_ (leadE bs s))))
theorem wf_small {n : Nat} (h : n ≤ 1000) : (Lit.int .i64 (n : Int)).wf = true := by
  simp [Lit.wf, IntKind.min, IntKind.max, IntKind.bits, IntKind.signed]
  omega
theorem lead_fin {w wz w9 : World} {g mb : Nat} {LA : Option Addr} {ln lc : Nat} {bs : List WB} {s s' : WS} (h : WalkAt w g mb LA ln lc bs s) (hz : WalkAt wz g mb LA ln lc bs s') (hM : Mv w wz g mb) (hg : wz.grownBy w9 (some (w.heap.size + 1))) : WalkAt w9 g mb LA ln lc bs s' ∧ Mv w w9 g mb := h.out hz hM hg (by omega)
set_option maxRecDepth 100000 in
set_option maxHeartbeats 8000000 in
theorem lead0_any (w : World) (g mb : Nat) (LA : Option Addr) (ln lc : Nat) (bs : List WB) (s : WS) (d : WB) (v2 v3 v4 v5 v6 v7 v9 v10 v11 v12 : Value) (TA : Option Addr) (tn tc : Nat) (IA : Option Addr) (ic : Nat) (v15 v16 v17 : Value) (h : WalkAt w g mb LA ln lc bs s) (hok : s.ok bs) (hf : Fine bs) (hln : bs.length = ln) (hlt : s.at_ < ln) (hd : d = atB bs s.at_) (hid : ¬ d.id = 35 ∧ ¬ d.id = 36 ∧ ¬ d.id = 37 ∧ ¬ d.id = 38 ∧ ¬ d.id = 39) (hT : RdP w (fun b => b ≠ g ∧ b ≠ mb ∧ b < w.heap.size) 1 TA tn (d.ts.map (Value.int .i64))) :
    Calls Tryz.prog 199 #[.pointer (some ⟨g, 0, none⟩), .agg #[.int .i64 d.id, .int .i64 d.pz, v2, v3, v4, v5, v6, v7, .int .i64 d.ct, v9, v10, v11, v12, .slice TA tn tc, .slice IA d.ns.length ic, v15, v16, v17]] w fun x w' => LeadO w w' x g mb LA ln lc bs s := by
  have HI := Lib.hid hid
  clear hid
  generalize hI : d.id = I
  have HII := Lib.hid hI
  clear hI
  obtain ⟨n, hn⟩ : ∃ n : Nat, s.at_ = (n : Int) := ⟨s.at_.toNat, by have := hok.1; omega⟩
  have hnl : n < ln := by omega
  have hl60 : ln ≤ 300 := by have := hf.1; omega
  have hdn : d = bs.getD n default := by rw [hd, hn]; rfl
  have hfn := hf.2 n (by omega)
  rw [← hdn] at hfn
  have hwn : IntKind.i64.wrap ((n : Int) + 1) = (n : Int) + 1 := by rw [IntKind.wrap_i64]; omega
  have hn0 : (0 : Int) ≤ (n : Int) := Int.natCast_nonneg _
  have hb2 : Below w.heap.size w ((w.alloc (.cells #[.int .i64 I, .int .i64 d.pz, v2, v3, v4, v5, v6, v7, .int .i64 d.ct, v9, v10, v11, v12, .slice TA tn tc, .slice IA d.ns.length ic, v15, v16, v17] 34)).alloc (.cells #[.int .i64 0, .int .i64 0, .int .i64 0] 215)) := ((Below.refl _ _).alloc (Nat.le_refl _) _).alloc (by simp) _
  have hP : Blk ((w.alloc (.cells #[.int .i64 I, .int .i64 d.pz, v2, v3, v4, v5, v6, v7, .int .i64 d.ct, v9, v10, v11, v12, .slice TA tn tc, .slice IA d.ns.length ic, v15, v16, v17] 34)).alloc (.cells #[.int .i64 0, .int .i64 0, .int .i64 0] 215)) w.heap.size 34 #[.int .i64 I, .int .i64 d.pz, v2, v3, v4, v5, v6, v7, .int .i64 d.ct, v9, v10, v11, v12, .slice TA tn tc, .slice IA d.ns.length ic, v15, v16, v17] := (Blk.new w _ _).alloc _
  have hQ : Blk ((w.alloc (.cells #[.int .i64 I, .int .i64 d.pz, v2, v3, v4, v5, v6, v7, .int .i64 d.ct, v9, v10, v11, v12, .slice TA tn tc, .slice IA d.ns.length ic, v15, v16, v17] 34)).alloc (.cells #[.int .i64 0, .int .i64 0, .int .i64 0] 215)) (w.heap.size + 1) 215 #[.int .i64 0, .int .i64 0, .int .i64 0] := by
    have := Blk.new (w.alloc (.cells #[.int .i64 I, .int .i64 d.pz, v2, v3, v4, v5, v6, v7, .int .i64 d.ct, v9, v10, v11, v12, .slice TA tn tc, .slice IA d.ns.length ic, v15, v16, v17] 34)) 215 #[.int .i64 0, .int .i64 0, .int .i64 0]
    simpa using this
  have hgl := h.1.lt
  have hml := h.2.1.lt
  have hne := h.2.1.ne h.1
  have HH := Lib.hid (And.intro (h.below hb2) (And.intro hb2 (And.intro hP (And.intro hQ (And.intro h (And.intro hok (And.intro hd (And.intro hn (And.intro hfn hT)))))))))
  have HN := Lib.hid hln
  clear h hb2 hP hQ hok hf hln hlt hd hn hdn hfn hT
  go_enter Tryz.func199, Tryz.ntmps199
  go_upto_region 1 with fail
  generalize ((w.alloc (.cells #[.int .i64 I, .int .i64 d.pz, v2, v3, v4, v5, v6, v7, .int .i64 d.ct, v9, v10, v11, v12, .slice TA tn tc, .slice IA d.ns.length ic, v15, v16, v17] 34)).alloc (.cells #[.int .i64 0, .int .i64 0, .int .i64 0] 215)) = w0 at *
  have hws := HH.out.2.1.size
  have hql := HH.out.2.2.2.1.lt
  have c1 : w0.cell? ⟨g, 1, none⟩ = some (.int .i64 n) := by rw [← HH.out.2.2.2.2.2.2.2.1]; exact (HH.out.1.1.cell 1).trans rfl
  have f1 : w0.frozen? ⟨g, 1, none⟩ = false := HH.out.1.1.frozen 1
  have p0 : w0.cell? ⟨w.heap.size, 0, none⟩ = some (.int .i64 I) := (HH.out.2.2.1.cell 0).trans rfl
  have h35 : (I == 35) = false := by simpa using (show ¬ I = 35 by rw [← HII.out]; exact HI.out.1)
  have h36 : (I == 36) = false := by simpa using (show ¬ I = 36 by rw [← HII.out]; exact HI.out.2.1)
  have h37 : (I == 37) = false := by simpa using (show ¬ I = 37 by rw [← HII.out]; exact HI.out.2.2.1)
  have h38 : (I == 38) = false := by simpa using (show ¬ I = 38 by rw [← HII.out]; exact HI.out.2.2.2.1)
  have h39 : (I == 39) = false := by simpa using (show ¬ I = 39 by rw [← HII.out]; exact HI.out.2.2.2.2)
  have HZ := Lib.hid (And.intro HH.out.1 (And.intro (Mv.of_below HH.out.2.1 : Mv w w0 g mb) HH.out.2.2.2.1))
  go_upto_region 28 with fail
  clear c1 f1
  have hwz := HZ.out.1.1.lt
  have d1 : w0.cell? ⟨g, 1, none⟩ = some (.int .i64 n) := (HZ.out.1.1.cell 1).trans (by show some (Value.int .i64 s.at_) = some (Value.int .i64 (n : Int)); rw [HH.out.2.2.2.2.2.2.2.1])
  have e1 : w0.frozen? ⟨g, 1, none⟩ = false := HZ.out.1.1.frozen 1
  go_upto_region 29 with fail
  have HY := Lib.hid (show WalkAt (w0.setCell ⟨g, 1, none⟩ (.int .i64 ((n : Int) + 1))) g mb LA ln lc bs { s with at_ := (n : Int) + 1 } ∧ Mv w (w0.setCell ⟨g, 1, none⟩ (.int .i64 ((n : Int) + 1))) g mb ∧ Blk (w0.setCell ⟨g, 1, none⟩ (.int .i64 ((n : Int) + 1))) (w.heap.size + 1) 215 #[.int .i64 0, .int .i64 0, .int .i64 0] from ⟨HZ.out.1.set_ _ rfl rfl, HZ.out.2.1.set_ _, HZ.out.2.2.far (by show w.heap.size + 1 ≠ g; omega) _⟩)
  clear d1 e1
  generalize w0.setCell ⟨g, 1, none⟩ (.int .i64 ((n : Int) + 1)) = wy at *
  have hQy := HY.out.2.2
  go_wp2_with (first
    | (refine wpList_store_box rfl 215 _ _ rfl (w.heap.size + 1) #[.int .i64 0, .int .i64 0, .int .i64 0] rfl rfl 215 #[.int .i64 0, .int .i64 0, .int .i64 0] hQy stepInfo rfl (by simp [Value.oneCell']) ?_)
    | fail)
  intro w9 hB9 hg9
  have H9 := Lib.hid hg9
  clear hg9 hQy
  go_wp2_with fail
  refine bodyPost_ret (results_cell_tmp9 rfl _ _ (w.heap.size + 1) 215 _ (0, 0) _ rfl hB9 Tryz.underlying215 rfl stepInfo) rfl ?_
  obtain ⟨q1, q2⟩ := lead_fin HH.out.2.2.2.2.1 HY.out.1 HY.out.2.1 H9.out
  refine ⟨q2, .inl ⟨by unfold leadE; rw [← HH.out.2.2.2.2.2.2.1, if_neg HI.out.1, if_neg HI.out.2.2.1, if_neg HI.out.2.2.2.1, if_neg HI.out.2.2.2.2], rfl, ?_⟩⟩
  rw [show leadS bs s = { s with at_ := (n : Int) + 1 } from by unfold leadS; rw [← HH.out.2.2.2.2.2.2.1, if_neg HI.out.1, if_neg HI.out.2.1, if_neg HI.out.2.2.1, if_neg HI.out.2.2.2.1, if_neg HI.out.2.2.2.2, HH.out.2.2.2.2.2.2.2.1]]
  exact q1
set_option maxRecDepth 100000 in
set_option maxHeartbeats 8000000 in
theorem lead36_any (w : World) (g mb : Nat) (LA : Option Addr) (ln lc : Nat) (bs : List WB) (s : WS) (d : WB) (v2 v3 v4 v5 v6 v7 v9 v10 v11 v12 : Value) (TA : Option Addr) (tn tc : Nat) (IA : Option Addr) (ic : Nat) (v15 v16 v17 : Value) (h : WalkAt w g mb LA ln lc bs s) (hok : s.ok bs) (hf : Fine bs) (hln : bs.length = ln) (hlt : s.at_ < ln) (hd : d = atB bs s.at_) (hid : d.id = 36) (hT : RdP w (fun b => b ≠ g ∧ b ≠ mb ∧ b < w.heap.size) 1 TA tn (d.ts.map (Value.int .i64))) :
    Calls Tryz.prog 199 #[.pointer (some ⟨g, 0, none⟩), .agg #[.int .i64 d.id, .int .i64 d.pz, v2, v3, v4, v5, v6, v7, .int .i64 d.ct, v9, v10, v11, v12, .slice TA tn tc, .slice IA d.ns.length ic, v15, v16, v17]] w fun x w' => LeadO w w' x g mb LA ln lc bs s := by
  rw [hid]
  have HI := Lib.hid hid
  clear hid
  obtain ⟨n, hn⟩ : ∃ n : Nat, s.at_ = (n : Int) := ⟨s.at_.toNat, by have := hok.1; omega⟩
  have hnl : n < ln := by omega
  have hl60 : ln ≤ 300 := by have := hf.1; omega
  have hdn : d = bs.getD n default := by rw [hd, hn]; rfl
  have hfn := hf.2 n (by omega)
  rw [← hdn] at hfn
  have hwn : IntKind.i64.wrap ((n : Int) + 1) = (n : Int) + 1 := by rw [IntKind.wrap_i64]; omega
  have hn0 : (0 : Int) ≤ (n : Int) := Int.natCast_nonneg _
  have hb2 : Below w.heap.size w ((w.alloc (.cells #[.int .i64 36, .int .i64 d.pz, v2, v3, v4, v5, v6, v7, .int .i64 d.ct, v9, v10, v11, v12, .slice TA tn tc, .slice IA d.ns.length ic, v15, v16, v17] 34)).alloc (.cells #[.int .i64 0, .int .i64 0, .int .i64 0] 215)) := ((Below.refl _ _).alloc (Nat.le_refl _) _).alloc (by simp) _
  have hP : Blk ((w.alloc (.cells #[.int .i64 36, .int .i64 d.pz, v2, v3, v4, v5, v6, v7, .int .i64 d.ct, v9, v10, v11, v12, .slice TA tn tc, .slice IA d.ns.length ic, v15, v16, v17] 34)).alloc (.cells #[.int .i64 0, .int .i64 0, .int .i64 0] 215)) w.heap.size 34 #[.int .i64 36, .int .i64 d.pz, v2, v3, v4, v5, v6, v7, .int .i64 d.ct, v9, v10, v11, v12, .slice TA tn tc, .slice IA d.ns.length ic, v15, v16, v17] := (Blk.new w _ _).alloc _
  have hQ : Blk ((w.alloc (.cells #[.int .i64 36, .int .i64 d.pz, v2, v3, v4, v5, v6, v7, .int .i64 d.ct, v9, v10, v11, v12, .slice TA tn tc, .slice IA d.ns.length ic, v15, v16, v17] 34)).alloc (.cells #[.int .i64 0, .int .i64 0, .int .i64 0] 215)) (w.heap.size + 1) 215 #[.int .i64 0, .int .i64 0, .int .i64 0] := by
    have := Blk.new (w.alloc (.cells #[.int .i64 36, .int .i64 d.pz, v2, v3, v4, v5, v6, v7, .int .i64 d.ct, v9, v10, v11, v12, .slice TA tn tc, .slice IA d.ns.length ic, v15, v16, v17] 34)) 215 #[.int .i64 0, .int .i64 0, .int .i64 0]
    simpa using this
  have hgl := h.1.lt
  have hml := h.2.1.lt
  have hne := h.2.1.ne h.1
  have HH := Lib.hid (And.intro (h.below hb2) (And.intro hb2 (And.intro hP (And.intro hQ (And.intro h (And.intro hok (And.intro hd (And.intro hn (And.intro hfn hT)))))))))
  have HN := Lib.hid hln
  clear h hb2 hP hQ hok hf hln hlt hd hn hdn hfn hT
  go_enter Tryz.func199, Tryz.ntmps199
  go_upto_region 1 with fail
  generalize ((w.alloc (.cells #[.int .i64 36, .int .i64 d.pz, v2, v3, v4, v5, v6, v7, .int .i64 d.ct, v9, v10, v11, v12, .slice TA tn tc, .slice IA d.ns.length ic, v15, v16, v17] 34)).alloc (.cells #[.int .i64 0, .int .i64 0, .int .i64 0] 215)) = w0 at *
  have hws := HH.out.2.1.size
  have hql := HH.out.2.2.2.1.lt
  have c1 : w0.cell? ⟨g, 1, none⟩ = some (.int .i64 n) := by rw [← HH.out.2.2.2.2.2.2.2.1]; exact (HH.out.1.1.cell 1).trans rfl
  have f1 : w0.frozen? ⟨g, 1, none⟩ = false := HH.out.1.1.frozen 1
  have p0 : w0.cell? ⟨w.heap.size, 0, none⟩ = some (.int .i64 36) := (HH.out.2.2.1.cell 0).trans rfl
  have p8 : w0.cell? ⟨w.heap.size, 8, none⟩ = some (.int .i64 d.ct) := (HH.out.2.2.1.cell 8).trans rfl
  have c2 : w0.cell? ⟨g, 2, none⟩ = some (.bool s.on) := (HH.out.1.1.cell 2).trans rfl
  have f2 : w0.frozen? ⟨g, 2, none⟩ = false := HH.out.1.1.frozen 2
  have c3 : w0.cell? ⟨g, 3, none⟩ = some (.bool s.heard) := (HH.out.1.1.cell 3).trans rfl
  have f3 : w0.frozen? ⟨g, 3, none⟩ = false := HH.out.1.1.frozen 3
  have c4 : w0.cell? ⟨g, 4, none⟩ = some (.int .i64 s.frm) := (HH.out.1.1.cell 4).trans rfl
  have f4 : w0.frozen? ⟨g, 4, none⟩ = false := HH.out.1.1.frozen 4
  have c5 : w0.cell? ⟨g, 5, none⟩ = some (.int .i64 s.times) := (HH.out.1.1.cell 5).trans rfl
  have f5 : w0.frozen? ⟨g, 5, none⟩ = false := HH.out.1.1.frozen 5
  obtain ⟨T, hTm⟩ : ∃ T : Int, T = (if d.ct < 1 then 1 else d.ct) - 1 := ⟨_, rfl⟩
  have hct := HH.out.2.2.2.2.2.2.2.2.1.2.2.2
  have hT1 : 0 ≤ T ∧ T ≤ 9223372036854775806 := by split at hTm <;> omega
  have HTM := Lib.hid hTm
  clear hTm
  have HZ := Lib.hid (show WalkAt ((((w0.setCell ⟨g, 2, none⟩ (.bool true)).setCell ⟨g, 3, none⟩ (.bool false)).setCell ⟨g, 4, none⟩ (.int .i64 ((n : Int) + 1))).setCell ⟨g, 5, none⟩ (.int .i64 T)) g mb LA ln lc bs { s with on := true, heard := false, frm := (n : Int) + 1, times := T } ∧ Mv w ((((w0.setCell ⟨g, 2, none⟩ (.bool true)).setCell ⟨g, 3, none⟩ (.bool false)).setCell ⟨g, 4, none⟩ (.int .i64 ((n : Int) + 1))).setCell ⟨g, 5, none⟩ (.int .i64 T)) g mb ∧ Blk ((((w0.setCell ⟨g, 2, none⟩ (.bool true)).setCell ⟨g, 3, none⟩ (.bool false)).setCell ⟨g, 4, none⟩ (.int .i64 ((n : Int) + 1))).setCell ⟨g, 5, none⟩ (.int .i64 T)) (w.heap.size + 1) 215 #[.int .i64 0, .int .i64 0, .int .i64 0] from
    ⟨(((HH.out.1.set_ (s' := { s with on := true }) _ rfl rfl).set_ (s' := { s with on := true, heard := false }) _ rfl rfl).set_ (s' := { s with on := true, heard := false, frm := (n : Int) + 1 }) _ rfl rfl).set_ _ rfl rfl, ((((Mv.of_below HH.out.2.1 : Mv w w0 g mb).set_ _).set_ _).set_ _).set_ _, (((HH.out.2.2.2.1.far (by show w.heap.size + 1 ≠ g; omega) _).far (by show w.heap.size + 1 ≠ g; omega) _).far (by show w.heap.size + 1 ≠ g; omega) _).far (by show w.heap.size + 1 ≠ g; omega) _⟩)
  by_cases hc1 : d.ct < 1
  · have hT0 : T = 0 := by have := HTM.out; rw [if_pos hc1] at this; omega
    have hc2 : d.ct ≤ 1 := by omega
    rw [hT0] at HZ
    go_upto_region 28 with fail
    clear c1 f1 p8 c2 f2 c3 f3 c4 f4 c5 f5
    generalize (((w0.setCell ⟨g, 2, none⟩ (.bool true)).setCell ⟨g, 3, none⟩ (.bool false)).setCell ⟨g, 4, none⟩ (.int .i64 ((n : Int) + 1))).setCell ⟨g, 5, none⟩ (.int .i64 0) = wz at *
    have hwz := HZ.out.1.1.lt
    have d1 : wz.cell? ⟨g, 1, none⟩ = some (.int .i64 n) := (HZ.out.1.1.cell 1).trans (by show some (Value.int .i64 s.at_) = some (Value.int .i64 (n : Int)); rw [HH.out.2.2.2.2.2.2.2.1])
    have e1 : wz.frozen? ⟨g, 1, none⟩ = false := HZ.out.1.1.frozen 1
    go_upto_region 29 with fail
    have HY := Lib.hid (show WalkAt (wz.setCell ⟨g, 1, none⟩ (.int .i64 ((n : Int) + 1))) g mb LA ln lc bs { s with on := true, heard := false, frm := (n : Int) + 1, times := 0, at_ := (n : Int) + 1 } ∧ Mv w (wz.setCell ⟨g, 1, none⟩ (.int .i64 ((n : Int) + 1))) g mb ∧ Blk (wz.setCell ⟨g, 1, none⟩ (.int .i64 ((n : Int) + 1))) (w.heap.size + 1) 215 #[.int .i64 0, .int .i64 0, .int .i64 0] from ⟨HZ.out.1.set_ _ rfl rfl, HZ.out.2.1.set_ _, HZ.out.2.2.far (by show w.heap.size + 1 ≠ g; omega) _⟩)
    clear d1 e1
    generalize wz.setCell ⟨g, 1, none⟩ (.int .i64 ((n : Int) + 1)) = wy at *
    have hQy := HY.out.2.2
    go_wp2_with (first
      | (refine wpList_store_box rfl 215 _ _ rfl (w.heap.size + 1) #[.int .i64 0, .int .i64 0, .int .i64 0] rfl rfl 215 #[.int .i64 0, .int .i64 0, .int .i64 0] hQy stepInfo rfl (by simp [Value.oneCell']) ?_)
      | fail)
    intro w9 hB9 hg9
    have H9 := Lib.hid hg9
    clear hg9 hQy
    go_wp2_with fail
    refine bodyPost_ret (results_cell_tmp9 rfl _ _ (w.heap.size + 1) 215 _ (0, 0) _ rfl hB9 Tryz.underlying215 rfl stepInfo) rfl ?_
    obtain ⟨q1, q2⟩ := lead_fin HH.out.2.2.2.2.1 HY.out.1 HY.out.2.1 H9.out
    refine ⟨q2, .inl ⟨by unfold leadE; rw [← HH.out.2.2.2.2.2.2.1, if_neg (by rw [HI.out]; decide), if_neg (by rw [HI.out]; decide), if_neg (by rw [HI.out]; decide), if_neg (by rw [HI.out]; decide)], rfl, ?_⟩⟩
    rw [show leadS bs s = { s with on := true, heard := false, frm := (n : Int) + 1, times := 0, at_ := (n : Int) + 1 } from by unfold leadS; rw [← HH.out.2.2.2.2.2.2.1, if_neg (by rw [HI.out]; decide), if_pos HI.out, ← HTM.out, hT0, HH.out.2.2.2.2.2.2.2.1]]
    exact q1
  by_cases hc3 : d.ct = 1
  · have hT0 : T = 0 := by have := HTM.out; rw [if_neg hc1] at this; omega
    rw [hc3] at p8
    rw [hT0] at HZ
    have HC3 := Lib.hid hc3
    clear hc1 hc3 hct
    go_upto_region 28 with fail
    clear c1 f1 p8 c2 f2 c3 f3 c4 f4 c5 f5
    generalize (((w0.setCell ⟨g, 2, none⟩ (.bool true)).setCell ⟨g, 3, none⟩ (.bool false)).setCell ⟨g, 4, none⟩ (.int .i64 ((n : Int) + 1))).setCell ⟨g, 5, none⟩ (.int .i64 0) = wz at *
    have hwz := HZ.out.1.1.lt
    have d1 : wz.cell? ⟨g, 1, none⟩ = some (.int .i64 n) := (HZ.out.1.1.cell 1).trans (by show some (Value.int .i64 s.at_) = some (Value.int .i64 (n : Int)); rw [HH.out.2.2.2.2.2.2.2.1])
    have e1 : wz.frozen? ⟨g, 1, none⟩ = false := HZ.out.1.1.frozen 1
    go_upto_region 29 with fail
    have HY := Lib.hid (show WalkAt (wz.setCell ⟨g, 1, none⟩ (.int .i64 ((n : Int) + 1))) g mb LA ln lc bs { s with on := true, heard := false, frm := (n : Int) + 1, times := 0, at_ := (n : Int) + 1 } ∧ Mv w (wz.setCell ⟨g, 1, none⟩ (.int .i64 ((n : Int) + 1))) g mb ∧ Blk (wz.setCell ⟨g, 1, none⟩ (.int .i64 ((n : Int) + 1))) (w.heap.size + 1) 215 #[.int .i64 0, .int .i64 0, .int .i64 0] from ⟨HZ.out.1.set_ _ rfl rfl, HZ.out.2.1.set_ _, HZ.out.2.2.far (by show w.heap.size + 1 ≠ g; omega) _⟩)
    clear d1 e1
    generalize wz.setCell ⟨g, 1, none⟩ (.int .i64 ((n : Int) + 1)) = wy at *
    have hQy := HY.out.2.2
    go_wp2_with (first
      | (refine wpList_store_box rfl 215 _ _ rfl (w.heap.size + 1) #[.int .i64 0, .int .i64 0, .int .i64 0] rfl rfl 215 #[.int .i64 0, .int .i64 0, .int .i64 0] hQy stepInfo rfl (by simp [Value.oneCell']) ?_)
      | fail)
    intro w9 hB9 hg9
    have H9 := Lib.hid hg9
    clear hg9 hQy
    go_wp2_with fail
    refine bodyPost_ret (results_cell_tmp9 rfl _ _ (w.heap.size + 1) 215 _ (0, 0) _ rfl hB9 Tryz.underlying215 rfl stepInfo) rfl ?_
    obtain ⟨q1, q2⟩ := lead_fin HH.out.2.2.2.2.1 HY.out.1 HY.out.2.1 H9.out
    refine ⟨q2, .inl ⟨by unfold leadE; rw [← HH.out.2.2.2.2.2.2.1, if_neg (by rw [HI.out]; decide), if_neg (by rw [HI.out]; decide), if_neg (by rw [HI.out]; decide), if_neg (by rw [HI.out]; decide)], rfl, ?_⟩⟩
    rw [show leadS bs s = { s with on := true, heard := false, frm := (n : Int) + 1, times := 0, at_ := (n : Int) + 1 } from by unfold leadS; rw [← HH.out.2.2.2.2.2.2.1, if_neg (by rw [HI.out]; decide), if_pos HI.out, ← HTM.out, hT0, HH.out.2.2.2.2.2.2.2.1]]
    exact q1
  · have hTf : d.ct - 1 = T := by have := HTM.out; rw [if_neg hc1] at this; omega
    have hTe : IntKind.i64.wrap (d.ct - 1) = T := by rw [IntKind.wrap_i64]; omega
    have hc4 : 1 < d.ct := by omega
    have hc5 : ¬ d.ct ≤ 1 := by omega
    go_upto_region 28 with fail
    clear c1 f1 p8 c2 f2 c3 f3 c4 f4 c5 f5
    generalize (((w0.setCell ⟨g, 2, none⟩ (.bool true)).setCell ⟨g, 3, none⟩ (.bool false)).setCell ⟨g, 4, none⟩ (.int .i64 ((n : Int) + 1))).setCell ⟨g, 5, none⟩ (.int .i64 T) = wz at *
    have hwz := HZ.out.1.1.lt
    have d1 : wz.cell? ⟨g, 1, none⟩ = some (.int .i64 n) := (HZ.out.1.1.cell 1).trans (by show some (Value.int .i64 s.at_) = some (Value.int .i64 (n : Int)); rw [HH.out.2.2.2.2.2.2.2.1])
    have e1 : wz.frozen? ⟨g, 1, none⟩ = false := HZ.out.1.1.frozen 1
    go_upto_region 29 with fail
    have HY := Lib.hid (show WalkAt (wz.setCell ⟨g, 1, none⟩ (.int .i64 ((n : Int) + 1))) g mb LA ln lc bs { s with on := true, heard := false, frm := (n : Int) + 1, times := T, at_ := (n : Int) + 1 } ∧ Mv w (wz.setCell ⟨g, 1, none⟩ (.int .i64 ((n : Int) + 1))) g mb ∧ Blk (wz.setCell ⟨g, 1, none⟩ (.int .i64 ((n : Int) + 1))) (w.heap.size + 1) 215 #[.int .i64 0, .int .i64 0, .int .i64 0] from ⟨HZ.out.1.set_ _ rfl rfl, HZ.out.2.1.set_ _, HZ.out.2.2.far (by show w.heap.size + 1 ≠ g; omega) _⟩)
    clear d1 e1
    generalize wz.setCell ⟨g, 1, none⟩ (.int .i64 ((n : Int) + 1)) = wy at *
    have hQy := HY.out.2.2
    go_wp2_with (first
      | (refine wpList_store_box rfl 215 _ _ rfl (w.heap.size + 1) #[.int .i64 0, .int .i64 0, .int .i64 0] rfl rfl 215 #[.int .i64 0, .int .i64 0, .int .i64 0] hQy stepInfo rfl (by simp [Value.oneCell']) ?_)
      | fail)
    intro w9 hB9 hg9
    have H9 := Lib.hid hg9
    clear hg9 hQy
    go_wp2_with fail
    refine bodyPost_ret (results_cell_tmp9 rfl _ _ (w.heap.size + 1) 215 _ (0, 0) _ rfl hB9 Tryz.underlying215 rfl stepInfo) rfl ?_
    obtain ⟨q1, q2⟩ := lead_fin HH.out.2.2.2.2.1 HY.out.1 HY.out.2.1 H9.out
    refine ⟨q2, .inl ⟨by unfold leadE; rw [← HH.out.2.2.2.2.2.2.1, if_neg (by rw [HI.out]; decide), if_neg (by rw [HI.out]; decide), if_neg (by rw [HI.out]; decide), if_neg (by rw [HI.out]; decide)], rfl, ?_⟩⟩
    rw [show leadS bs s = { s with on := true, heard := false, frm := (n : Int) + 1, times := T, at_ := (n : Int) + 1 } from by unfold leadS; rw [← HH.out.2.2.2.2.2.2.1, if_neg (by rw [HI.out]; decide), if_pos HI.out, ← HTM.out, HH.out.2.2.2.2.2.2.2.1]]
    exact q1
end Go.Proofs.YtnlaedfnifimkaaGreat
