/- Small words on memory for the walks of this seat: slices that read as lists, blocks known whole, rows of bools; nothing of the program is in it. -/
import Derived.WalkKit
import Derived.WalkSpells
import Derived.WalkLawsBesides
import Derived.Handy
import Derived.Below
import Derived.Laws.OwnMore
import Derived.Deep.AppendLies
import Derived.Deep.Draws
import Derived.Laws.Rows
import Derived.Maps.AppendAt
import Derived.RegionTactic
import Derived.OwnWalk
import Derived.ChangeSame
import Derived.Deep.QuietTactic
import Derived.BigQuiet
import Derived.Lib.Hide
import Derived.Deep.RegionWith
import Derived.Deep.RegionHeld3
import Derived.StillTailTactics
namespace Go.Proofs.Ytfcnlgkaejkneaa
open Go.RowKit Go.WideShapes Go.ChangeShapes

theorem block_of_add (a : Addr) (n : Nat) : (a.add n).block = a.block := by unfold Addr.add; split <;> rfl
theorem add_of_add (a : Addr) (i j : Nat) : (a.add i).add j = a.add (i + j) := by
  unfold Addr.add
  by_cases hi : i = 0 <;> by_cases hj : j = 0 <;> simp [hi, hj, Nat.add_assoc]

def Reads (w : World) (B size : Nat) (A : Option Addr) (n : Nat) (xs : List Value) : Prop :=
  xs.length = n * size ∧ (0 < n → ∃ ad, A = some ad ∧ ad.block < B ∧ ∀ j u, xs[j]? = some u → w.cell? (ad.add j) = some u)

section
variable {w w' : World} {B B' size n : Nat} {A : Option Addr} {xs : List Value}
theorem Reads.none_ : Reads w B size A 0 [] := ⟨by simp, fun h => absurd h (by omega)⟩
theorem Reads.at_ {k : Nat} (h : Reads w B 1 A n xs) (hk : k < n) : ∃ ad u, A = some ad ∧ ad.block < B ∧ xs[k]? = some u ∧ w.cell? (ad.add k) = some u := by
  obtain ⟨ad, e, hb, hc⟩ := h.2 (by omega)
  have hl : k < xs.length := by have := h.1; omega
  exact ⟨ad, xs[k], e, hb, List.getElem?_eq_getElem hl, hc k _ (List.getElem?_eq_getElem hl)⟩
theorem Reads.keep (h : Reads w B size A n xs) (hk : ∀ p : Addr, p.block < B → w'.cell? p = w.cell? p) : Reads w' B size A n xs :=
  ⟨h.1, fun hn => by
    obtain ⟨ad, e, hb, hc⟩ := h.2 hn
    exact ⟨ad, e, hb, fun j u hu => (hk _ (by rw [block_of_add]; exact hb)).trans (hc j u hu)⟩⟩
theorem Reads.more (h : Reads w B size A n xs) (hB : B ≤ B') : Reads w B' size A n xs :=
  ⟨h.1, fun hn => by
    obtain ⟨ad, e, hb, hc⟩ := h.2 hn
    exact ⟨ad, e, by omega, hc⟩⟩
theorem Reads.below (h : Reads w B size A n xs) (hb : Below B w w') : Reads w' B size A n xs := h.keep fun _ hp => hb.cell hp
theorem Reads.drew (h : Reads w B size A n xs) : Reads w.drew B size A n xs := h
theorem Reads.drewN (h : Reads w B size A n xs) (k : Nat) : Reads (w.drewN k) B size A n xs := h
theorem Reads.alloc (h : Reads w B size A n xs) (hB : B ≤ w.heap.size) (o : Obj) : Reads (w.alloc o) B size A n xs := h.keep fun p hp => World.cell?_alloc_lt w o p (by omega)
theorem Reads.setCell (h : Reads w B size A n xs) {p : Addr} (hB : B ≤ p.block) (u : Value) : Reads (w.setCell p u) B size A n xs :=
  h.keep fun q hq => World.cell?_setCell_other w p q u (fun e => by subst e; omega)
theorem Reads.grown (h : Reads w B size A n xs) {row : Option Nat} (hg : w.grownBy w' row) (hB : B ≤ w.heap.size) (hr : ∀ g, row = some g → B ≤ g) : Reads w' B size A n xs :=
  h.keep fun p hp => World.cell?_of_block (hg.block p.block (by omega) (fun e => by have := hr _ e.symm; omega))
theorem Reads.cut (h : Reads w B size A n xs) {k cap : Nat} (hk : k ≤ n) (hc : n ≤ cap) :
    Reads w B size (if cap = k then A else A.map (·.add (k * size))) (n - k) (xs.drop (k * size)) := by
  refine ⟨by rw [List.length_drop, h.1, Nat.sub_mul], fun hn => ?_⟩
  obtain ⟨ad, rfl, hb, hcell⟩ := h.2 (by omega)
  rw [if_neg (by omega)]
  refine ⟨ad.add (k * size), rfl, by rw [block_of_add]; exact hb, fun j u hu => ?_⟩
  rw [add_of_add]
  exact hcell _ u (by rw [← hu, List.getElem?_drop])
theorem Reads.of_own {base : Nat} {e : TypeId} {c : Nat} (h : w.ownsRow base e size (.slice A n c) n xs) : Reads w w.heap.size size A n xs := by
  refine ⟨h.1, fun hn => ?_⟩
  obtain ⟨g, cap, hv, _, hlt⟩ := h.form hn
  have hA : A = some ⟨g, 0, none⟩ := by injection hv
  subst hA
  exact ⟨_, rfl, hlt, h.cells (g := g) rfl⟩
end

def Blk (w : World) (g : Nat) (t : TypeId) (cs : Array Value) : Prop := w.heap[g]? = some (.cells cs t (0, 0))

section
variable {w w' : World} {g : Nat} {t : TypeId} {cs : Array Value}
theorem Blk.lt (h : Blk w g t cs) : g < w.heap.size := by
  rcases Nat.lt_or_ge g w.heap.size with hlt | hge
  · exact hlt
  · unfold Blk at h; rw [Array.getElem?_eq_none hge] at h; cases h
theorem Blk.cell (h : Blk w g t cs) (i : Nat) : w.cell? ⟨g, i, none⟩ = cs[i]? := cell_of_row w g i cs t (0, 0) h
theorem Blk.frozen (h : Blk w g t cs) (i : Nat) : w.frozen? ⟨g, i, none⟩ = false := by
  unfold Blk at h
  simp [World.frozen?, h]
theorem Blk.new (w : World) (t : TypeId) (cs : Array Value) : Blk (w.alloc (.cells cs t)) w.heap.size t cs := heap_alloc_new w _
theorem Blk.drew (h : Blk w g t cs) : Blk w.drew g t cs := h
theorem Blk.drewN (h : Blk w g t cs) (n : Nat) : Blk (w.drewN n) g t cs := h
theorem Blk.alloc (h : Blk w g t cs) (o : Obj) : Blk (w.alloc o) g t cs := (Below.heap_alloc w o g h.lt).trans h
theorem Blk.set_ (h : Blk w g t cs) (i : Nat) (u : Value) : Blk (w.setCell ⟨g, i, none⟩ u) g t (cs.setIfInBounds i u) := by
  unfold Blk at h ⊢
  simp [World.setCell, Array.getElem?_modify, h]
theorem Blk.far (h : Blk w g t cs) {p : Addr} (hp : g ≠ p.block) (u : Value) : Blk (w.setCell p u) g t cs := (Below.heap_setCell w p u g hp).trans h
theorem Blk.below {B : Nat} (h : Blk w g t cs) (hb : Below B w w') (hg : g < B) : Blk w' g t cs := (hb.block g hg).trans h
theorem Blk.grown {row : Option Nat} (h : Blk w g t cs) (hb : w.grownBy w' row) (hg : some g ≠ row) : Blk w' g t cs := (hb.block g h.lt hg).trans h
theorem Blk.ne_ {g' : Nat} {t' : TypeId} {cs' : Array Value} (h : Blk w g t cs) (h' : Blk w g' t' cs') (hne : t ≠ t') : g ≠ g' := by
  rintro rfl
  unfold Blk at h h'
  rw [h] at h'
  injection h' with h'
  injection h' with _ ht
  exact hne ht
theorem own_blk_ne {base : Nat} {e : TypeId} {size n : Nat} {v : Value} {xs : List Value} (h : w.ownsRow base e size v n xs) (hg : Blk w g t cs) (hne : e ≠ t) : v.ownBlock ≠ some g := by
  rcases h.2 with ⟨rfl, _⟩ | ⟨g', cap, cur, rfl, _, hh, _⟩
  · simp [Value.ownBlock]
  · intro he
    have : g' = g := by simpa [Value.ownBlock] using he
    subst this
    exact Blk.ne_ (t := e) hh hg hne rfl
end

section
variable {P : Program} (w : World)

theorem run_append_of_nil (base : Nat) (t ty e : TypeId) (i : TypeInfo) (size : Nat) (ht : P.underlying t = some (.slice e)) (hi : P.info? e = some i)
    (v : Value) (n : Nat) (xs : List Value) (hown : w.ownsRow base e size v n xs) (c : Nat) : (Builtin.append_ #[t, t] ty #[v, .slice none 0 c]).run P w = .ok v w := by
  rcases hown.2 with ⟨rfl, rfl⟩ | ⟨g, cap, cur, rfl, _, _, hnc, _⟩
  · simp [Builtin.append_, run_underlying ht, sizeOf, typeInfo, hi, Builtin.lenOf, Builtin.firstCells]
  · simp [Builtin.append_, run_underlying ht, sizeOf, typeInfo, hi, Builtin.lenOf, Builtin.firstCells, hnc, storeCells]

theorem run_append_any (base : Nat) (t ty e : TypeId) (i : TypeInfo) (z : Value) (size bytes : Nat) (ht : P.underlying t = some (.slice e)) (hi : P.info? e = some i) (hz : i.zero = some z)
    (hsize : i.size = size) (hby : i.bytes = bytes) (hzs : z.cells.size = size) (hsz : 0 < size)
    (v : Value) (n : Nat) (xs : List Value) (hown : w.ownsRow base e size v n xs)
    (B : Nat) (A : Option Addr) (m c : Nat) (news : List Value) (hr : Reads w B size A m news) (h1 : ∀ u ∈ news, u.oneCell' = true)
    (h63 : n + m ≤ maxLen) (hbytes : (n + m) * bytes ≤ 140737488355328) (hbase : base ≤ w.heap.size) :
    ∃ v' w', (Builtin.append_ #[t, t] ty #[v, .slice A m c]).run P w = .ok v' w' ∧ w'.ownsRow base e size v' (n + m) (xs ++ news) ∧ w.grownBy w' v.ownBlock ∧
      (v'.ownBlock = v.ownBlock ∨ v'.ownBlock = some w.heap.size) := by
  rcases A with _ | ad
  · have hm : m = 0 := by
      rcases Nat.eq_zero_or_pos m with h0 | h0
      · exact h0
      · obtain ⟨ad, h, _⟩ := hr.2 h0
        cases h
    subst hm
    have hn : news = [] := List.eq_nil_of_length_eq_zero (by simpa using hr.1)
    subst hn
    exact ⟨v, w, run_append_of_nil w base t ty e i size ht hi v n xs hown c, by simpa using hown, World.grownBy.refl w _, .inl rfl⟩
  · have hcells : ∀ j u, news[j]? = some u → w.cell? (ad.add j) = some u := by
      intro j u hu
      rcases Nat.eq_zero_or_pos m with h0 | h0
      · subst h0
        have hn : news = [] := List.eq_nil_of_length_eq_zero (by simpa using hr.1)
        subst hn
        simp at hu
      · obtain ⟨ad', h, _, hc⟩ := hr.2 h0
        injection h with h
        subst h
        exact hc j u hu
    obtain ⟨v', w', hrun, h2, h3, _, h5⟩ := run_append_own_at (P := P) w base t ty e i z size bytes ht hi hz hsize hby hzs hsz v n xs hown ad m c news hr.1 hcells h1 h63 hbytes hbase
    exact ⟨v', w', hrun, h2, h3, h5⟩

theorem wp_append_any {o : Oper} {a : Act} {K : Act → World → Prop} {Q : Exit → Act → World → Prop} (s x : Operand) (t : TypeId)
    (ho : o.op = .call { callee := .builtin .append, args := #[s, x], argTypes := #[t, t] })
    (base : Nat) (e : TypeId) (i : TypeInfo) (z : Value) (size bytes : Nat) (ht : P.underlying t = some (.slice e)) (hi : P.info? e = some i) (hz : i.zero = some z)
    (hsize : i.size = size) (hby : i.bytes = bytes) (hzs : z.cells.size = size) (hsz : 0 < size)
    (v : Value) (n : Nat) (xs : List Value) (hs : a.eval s = v) (hown : w.ownsRow base e size v n xs)
    (B : Nat) (A : Option Addr) (m c : Nat) (news : List Value) (hx : a.eval x = .slice A m c) (hr : Reads w B size A m news) (h1 : ∀ u ∈ news, u.oneCell' = true)
    (h63 : n + m ≤ maxLen) (hbytes : (n + m) * bytes ≤ 140737488355328) (hbase : base ≤ w.heap.size)
    (h : ∀ v' w', w'.ownsRow base e size v' (n + m) (xs ++ news) → w.grownBy w' v.ownBlock → (v'.ownBlock = v.ownBlock ∨ v'.ownBlock = some w.heap.size) → K (a.put o.dst v') w') : o.wp P a w K Q := by
  obtain ⟨v', w', hrun, h2, h3, h4⟩ := run_append_any (P := P) w base t o.type e i z size bytes ht hi hz hsize hby hzs hsz v n xs hown B A m c news hr h1 h63 hbytes hbase
  unfold Oper.wp execOp
  simp only [ho, resolve, invoke, builtin, Sem.run_bind, Sem.run_pure, Result.andThen_ok, List.map_toArray, List.map_cons, List.map_nil, hs, hx, hrun]
  exact h v' w' h2 h3 h4

theorem wpList_append_any {ops : Array Oper} {rest : List Oper} {o : Oper} {a : Act} {Q : Exit → Act → World → Prop} (hgd : o.guard = none) (s x : Operand) (t : TypeId)
    (ho : o.op = .call { callee := .builtin .append, args := #[s, x], argTypes := #[t, t] })
    (base : Nat) (e : TypeId) (i : TypeInfo) (z : Value) (size bytes : Nat) (ht : P.underlying t = some (.slice e)) (hi : P.info? e = some i) (hz : i.zero = some z)
    (hsize : i.size = size) (hby : i.bytes = bytes) (hzs : z.cells.size = size) (hsz : 0 < size)
    (v : Value) (n : Nat) (xs : List Value) (hs : a.eval s = v) (hown : w.ownsRow base e size v n xs)
    (B : Nat) (A : Option Addr) (m c : Nat) (news : List Value) (hx : a.eval x = .slice A m c) (hr : Reads w B size A m news) (h1 : ∀ u ∈ news, u.oneCell' = true)
    (h63 : n + m ≤ maxLen) (hbytes : (n + m) * bytes ≤ 140737488355328) (hbase : base ≤ w.heap.size)
    (h : ∀ v' w', w'.ownsRow base e size v' (n + m) (xs ++ news) → w.grownBy w' v.ownBlock → (v'.ownBlock = v.ownBlock ∨ v'.ownBlock = some w.heap.size) → wpList P ops Q rest (a.put o.dst v') w') : wpList P ops Q (o :: rest) a w :=
  wpList_plain hgd fun _ hK => wp_append_any w s x t ho base e i z size bytes ht hi hz hsize hby hzs hsz v n xs hs hown B A m c news hx hr h1 h63 hbytes hbase fun v' w' h2 h3 h4 => hK _ _ (h v' w' h2 h3 h4)

theorem step_append_any {ops : Array Oper} {o : Oper} {a : Act} {K : Act → World → Prop} {Q : Exit → Act → World → Prop} {E : Prop} (hgd : o.guard = none) (s x : Operand) (t : TypeId)
    (ho : o.op = .call { callee := .builtin .append, args := #[s, x], argTypes := #[t, t] })
    (base : Nat) (e : TypeId) (i : TypeInfo) (z : Value) (size bytes : Nat) (ht : P.underlying t = some (.slice e)) (hi : P.info? e = some i) (hz : i.zero = some z)
    (hsize : i.size = size) (hby : i.bytes = bytes) (hzs : z.cells.size = size) (hsz : 0 < size)
    (v : Value) (n : Nat) (xs : List Value) (hs : a.eval s = v) (hown : w.ownsRow base e size v n xs)
    (B : Nat) (A : Option Addr) (m c : Nat) (news : List Value) (hx : a.eval x = .slice A m c) (hr : Reads w B size A m news) (h1 : ∀ u ∈ news, u.oneCell' = true)
    (h63 : n + m ≤ maxLen) (hbytes : (n + m) * bytes ≤ 140737488355328) (hbase : base ≤ w.heap.size)
    (h : ∀ v' w', w'.ownsRow base e size v' (n + m) (xs ++ news) → w.grownBy w' v.ownBlock → (v'.ownBlock = v.ownBlock ∨ v'.ownBlock = some w.heap.size) → K (a.put o.dst v') w') :
    if Region.wanted o (yielded ops a.tmps) = true then Oper.wp P o a w K Q else E := by
  have hw : Region.wanted o (yielded ops a.tmps) = true := by simp [Region.wanted, hgd]
  rw [if_pos hw]
  exact wp_append_any w s x t ho base e i z size bytes ht hi hz hsize hby hzs hsz v n xs hs hown B A m c news hx hr h1 h63 hbytes hbase h
end


theorem ret_int {k : IntKind} {a b : Int} (h : a = b) : Ending.returned (.int k a) = .returned (.int k b) := by rw [h]
theorem ret_two {j k : IntKind} {a b c d : Int} (h : a = c) (e : b = d) : Ending.returned (.tuple #[.int j a, .int k b]) = .returned (.tuple #[.int j c, .int k d]) := by rw [h, e]
theorem ret_sum {j : IntKind} {a a' : Int} {b b' c c' d d' : Bool} (h1 : a = a') (h2 : b = b') (h3 : c = c') (h4 : d = d') : Ending.returned (.tuple #[.int j a, .bool b, .bool c, .bool d]) = .returned (.tuple #[.int j a', .bool b', .bool c', .bool d']) := by rw [h1, h2, h3, h4]
theorem ret_bool {a b : Bool} (h : a = b) : Ending.returned (.bool a) = .returned (.bool b) := by rw [h]
theorem bcell {W w1 : World} (hb : Below W.heap.size W w1) : (∀ b o, b < W.heap.size → w1.cell? ⟨b, o, none⟩ = W.cell? ⟨b, o, none⟩) ∧ (∀ b o, b < W.heap.size → w1.frozen? ⟨b, o, none⟩ = W.frozen? ⟨b, o, none⟩) :=
  ⟨fun b o h => hb.cell (p := ⟨b, o, none⟩) h, fun b o h => hb.frozen (p := ⟨b, o, none⟩) h⟩

/-- A row of n bools in one block from its head on. -/
def BoolRow (w : World) (g n : Nat) (f : Nat → Bool) : Prop := g < w.heap.size ∧ ∀ j, j < n → w.cell? ⟨g, j, none⟩ = some (.bool (f j))
theorem BoolRow.below {w w' : World} {g n B : Nat} {f : Nat → Bool} (h : BoolRow w g n f) (hb : Below B w w') (hg : g < B) : BoolRow w' g n f :=
  ⟨Nat.lt_of_lt_of_le h.1 hb.size, fun j hj => (hb.cell (p := ⟨g, j, none⟩) hg).trans (h.2 j hj)⟩
theorem BoolRow.below' {w w' : World} {g n : Nat} {f : Nat → Bool} (h : BoolRow w g n f) (hb : Below w.heap.size w w') : BoolRow w' g n f := h.below hb h.1
/-- The value of a slice of bools at the head of a block. -/
def IsBools (w : World) (B : Nat) (n : Nat) (f : Nat → Bool) (v : Value) : Prop := ∃ g c, v = .slice (some ⟨g, 0, none⟩) n c ∧ n ≤ c ∧ c ≤ maxLen ∧ B ≤ g ∧ BoolRow w g n f

theorem bthen {W a b : World} (h : Below W.heap.size W a) (k : Below a.heap.size a b) : Below W.heap.size W b := h.trans (k.mono h.size)

/-- WHAT A WALK IS TOLD OF A SLICE OF INTEGERS THAT CAME IN: nil, or a row of 'cap' cells, the numbers 'zs' (the first 'len' its elements), each fitting its kind, in a block that was there. -/
def IsRow (k : IntKind) (w : World) (a : Option Addr) (len cap : Nat) (zs : List Int) : Prop :=
  (a = none ∧ len = 0 ∧ cap = 0 ∧ zs = []) ∨
  ∃ x, a = some x ∧ (cap = 0 ∨ x.block < w.heap.size) ∧ len ≤ cap ∧ cap ≤ maxLen ∧ zs.length = cap ∧ (∀ i, i < zs.length → w.cell? (x.add i) = some (.int k (zs.getD i 0))) ∧ ∀ n ∈ zs, (Lit.int k n).wf = true

theorem foldl_push (g : Int → UInt8) : ∀ (ns : List Int) (s : ByteArray), ns.foldl (fun r n => r.push (g n)) s = ⟨s.data ++ (ns.map g).toArray⟩
  | [], s => by cases s; simp
  | n :: ns, s => by
    rw [List.foldl_cons, foldl_push g ns]
    apply ByteArray.ext
    simp
/-- string(b): the bytes of a slice of known cells. -/
theorem run_str_of_bytes {P : Program} (w : World) (src dst e : TypeId) (a : Addr) (n c : Nat) (ns : List Int)
    (hs : P.underlying src = some (.slice e)) (he : P.underlying e = some (.int .u8)) (hd : P.underlying dst = some .string)
    (hn : ns.length = n) (h : ∀ j v, (ns.map (Value.int .u8))[j]? = some v → w.cell? (a.add j) = some v) :
    (convert src dst (.slice (some a) n c)).run P w = .ok (.string ⟨(ns.map fun n => UInt8.ofNat n.toNat).toArray⟩) w := by
  have hl : (loadCells a n).run P w = .ok (ns.map (Value.int .u8)).toArray w := by
    have := run_loadCells_list (P := P) w a (ns.map (Value.int .u8)) h
    rw [List.length_map, hn] at this
    exact this
  rw [run_convert_bytes_string w src dst e (some a) n c hs he hd, run_bytesToString w a n c ns hl, foldl_push]
  congr 2
  apply ByteArray.ext
  show (#[] : Array UInt8) ++ _ = _
  simp

theorem results_tmp4 {fn : Func} {t u v x : Tmp} (h : fn.results = #[.tmp t, .tmp u, .tmp v, .tmp x]) (tmps : Array Value) (P : Program) (w : World) :
    (results fn tmps).run P w = .ok (.tuple #[tmps.getD t undef, tmps.getD u undef, tmps.getD v undef, tmps.getD x undef]) w := by simp [results, h]
theorem results_tmp5 {fn : Func} {t u v x y : Tmp} (h : fn.results = #[.tmp t, .tmp u, .tmp v, .tmp x, .tmp y]) (tmps : Array Value) (P : Program) (w : World) :
    (results fn tmps).run P w = .ok (.tuple #[tmps.getD t undef, tmps.getD u undef, tmps.getD v undef, tmps.getD x undef, tmps.getD y undef]) w := by simp [results, h]

/-- A region that draws its order: n operations that read or call quietly, then the last few in their one order. -/
theorem region_tail {P : Program} {id : Nat} {Q : Exit → Act → World → Prop} {a : Act} {w : World} {l : List Oper} (n : Nat) (hm : P.follows .mixedOrders = true) (hB : Region.lexTailB .any l.toArray n = true)
    (h : wpStill P l.toArray w.drew (fun a' => wpList P l.toArray Q (l.drop n) a' w.drew) (l.take n) a) : (Code.region id l.toArray true).wp P Q a w := wp_region_still_tail n hm hB h
theorem flip {P : Program} {f : FuncId} {args : Array Value} {w : World} {v : Value} (h : Calls P f args w fun e w' => e = .returned v ∧ w = w') : Calls P f args w fun e w' => e = .returned v ∧ w' = w := h.mono fun _ _ ⟨a, b⟩ => ⟨a, b.symm⟩

/-- facts held over a region: rows of eight bits, next to calls that make memory -/
theorem keep8_1 {W a b : World} {g0 : Nat} {f0 : Nat → Bool} (h : Below W.heap.size W a ∧ g0 < a.heap.size ∧ a.cell? ⟨g0, 0, none⟩ = some (.bool (f0 0)) ∧ a.cell? ⟨g0, 1, none⟩ = some (.bool (f0 1)) ∧ a.cell? ⟨g0, 2, none⟩ = some (.bool (f0 2)) ∧ a.cell? ⟨g0, 3, none⟩ = some (.bool (f0 3)) ∧ a.cell? ⟨g0, 4, none⟩ = some (.bool (f0 4)) ∧ a.cell? ⟨g0, 5, none⟩ = some (.bool (f0 5)) ∧ a.cell? ⟨g0, 6, none⟩ = some (.bool (f0 6)) ∧ a.cell? ⟨g0, 7, none⟩ = some (.bool (f0 7))) (k : Below a.heap.size a b) : Below W.heap.size W b ∧ g0 < b.heap.size ∧ b.cell? ⟨g0, 0, none⟩ = some (.bool (f0 0)) ∧ b.cell? ⟨g0, 1, none⟩ = some (.bool (f0 1)) ∧ b.cell? ⟨g0, 2, none⟩ = some (.bool (f0 2)) ∧ b.cell? ⟨g0, 3, none⟩ = some (.bool (f0 3)) ∧ b.cell? ⟨g0, 4, none⟩ = some (.bool (f0 4)) ∧ b.cell? ⟨g0, 5, none⟩ = some (.bool (f0 5)) ∧ b.cell? ⟨g0, 6, none⟩ = some (.bool (f0 6)) ∧ b.cell? ⟨g0, 7, none⟩ = some (.bool (f0 7)) := by
  obtain ⟨hB, z0, c00, c01, c02, c03, c04, c05, c06, c07⟩ := h
  exact ⟨bthen hB k, Nat.lt_of_lt_of_le z0 k.size, (k.cell (p := ⟨g0, 0, none⟩) z0).trans c00, (k.cell (p := ⟨g0, 1, none⟩) z0).trans c01, (k.cell (p := ⟨g0, 2, none⟩) z0).trans c02, (k.cell (p := ⟨g0, 3, none⟩) z0).trans c03, (k.cell (p := ⟨g0, 4, none⟩) z0).trans c04, (k.cell (p := ⟨g0, 5, none⟩) z0).trans c05, (k.cell (p := ⟨g0, 6, none⟩) z0).trans c06, (k.cell (p := ⟨g0, 7, none⟩) z0).trans c07⟩
theorem start8_1 {W a : World} {g0 : Nat} {f0 : Nat → Bool} (hB : Below W.heap.size W a) (h0 : BoolRow a g0 8 f0) : Below W.heap.size W a.drew ∧ g0 < a.drew.heap.size ∧ a.drew.cell? ⟨g0, 0, none⟩ = some (.bool (f0 0)) ∧ a.drew.cell? ⟨g0, 1, none⟩ = some (.bool (f0 1)) ∧ a.drew.cell? ⟨g0, 2, none⟩ = some (.bool (f0 2)) ∧ a.drew.cell? ⟨g0, 3, none⟩ = some (.bool (f0 3)) ∧ a.drew.cell? ⟨g0, 4, none⟩ = some (.bool (f0 4)) ∧ a.drew.cell? ⟨g0, 5, none⟩ = some (.bool (f0 5)) ∧ a.drew.cell? ⟨g0, 6, none⟩ = some (.bool (f0 6)) ∧ a.drew.cell? ⟨g0, 7, none⟩ = some (.bool (f0 7)) := ⟨hB.drew, h0.1, h0.2 0 (by omega), h0.2 1 (by omega), h0.2 2 (by omega), h0.2 3 (by omega), h0.2 4 (by omega), h0.2 5 (by omega), h0.2 6 (by omega), h0.2 7 (by omega)⟩
theorem keep8_2 {W a b : World} {g0 g1 : Nat} {f0 f1 : Nat → Bool} (h : Below W.heap.size W a ∧ g0 < a.heap.size ∧ a.cell? ⟨g0, 0, none⟩ = some (.bool (f0 0)) ∧ a.cell? ⟨g0, 1, none⟩ = some (.bool (f0 1)) ∧ a.cell? ⟨g0, 2, none⟩ = some (.bool (f0 2)) ∧ a.cell? ⟨g0, 3, none⟩ = some (.bool (f0 3)) ∧ a.cell? ⟨g0, 4, none⟩ = some (.bool (f0 4)) ∧ a.cell? ⟨g0, 5, none⟩ = some (.bool (f0 5)) ∧ a.cell? ⟨g0, 6, none⟩ = some (.bool (f0 6)) ∧ a.cell? ⟨g0, 7, none⟩ = some (.bool (f0 7)) ∧ g1 < a.heap.size ∧ a.cell? ⟨g1, 0, none⟩ = some (.bool (f1 0)) ∧ a.cell? ⟨g1, 1, none⟩ = some (.bool (f1 1)) ∧ a.cell? ⟨g1, 2, none⟩ = some (.bool (f1 2)) ∧ a.cell? ⟨g1, 3, none⟩ = some (.bool (f1 3)) ∧ a.cell? ⟨g1, 4, none⟩ = some (.bool (f1 4)) ∧ a.cell? ⟨g1, 5, none⟩ = some (.bool (f1 5)) ∧ a.cell? ⟨g1, 6, none⟩ = some (.bool (f1 6)) ∧ a.cell? ⟨g1, 7, none⟩ = some (.bool (f1 7))) (k : Below a.heap.size a b) : Below W.heap.size W b ∧ g0 < b.heap.size ∧ b.cell? ⟨g0, 0, none⟩ = some (.bool (f0 0)) ∧ b.cell? ⟨g0, 1, none⟩ = some (.bool (f0 1)) ∧ b.cell? ⟨g0, 2, none⟩ = some (.bool (f0 2)) ∧ b.cell? ⟨g0, 3, none⟩ = some (.bool (f0 3)) ∧ b.cell? ⟨g0, 4, none⟩ = some (.bool (f0 4)) ∧ b.cell? ⟨g0, 5, none⟩ = some (.bool (f0 5)) ∧ b.cell? ⟨g0, 6, none⟩ = some (.bool (f0 6)) ∧ b.cell? ⟨g0, 7, none⟩ = some (.bool (f0 7)) ∧ g1 < b.heap.size ∧ b.cell? ⟨g1, 0, none⟩ = some (.bool (f1 0)) ∧ b.cell? ⟨g1, 1, none⟩ = some (.bool (f1 1)) ∧ b.cell? ⟨g1, 2, none⟩ = some (.bool (f1 2)) ∧ b.cell? ⟨g1, 3, none⟩ = some (.bool (f1 3)) ∧ b.cell? ⟨g1, 4, none⟩ = some (.bool (f1 4)) ∧ b.cell? ⟨g1, 5, none⟩ = some (.bool (f1 5)) ∧ b.cell? ⟨g1, 6, none⟩ = some (.bool (f1 6)) ∧ b.cell? ⟨g1, 7, none⟩ = some (.bool (f1 7)) := by
  obtain ⟨hB, z0, c00, c01, c02, c03, c04, c05, c06, c07, z1, c10, c11, c12, c13, c14, c15, c16, c17⟩ := h
  exact ⟨bthen hB k, Nat.lt_of_lt_of_le z0 k.size, (k.cell (p := ⟨g0, 0, none⟩) z0).trans c00, (k.cell (p := ⟨g0, 1, none⟩) z0).trans c01, (k.cell (p := ⟨g0, 2, none⟩) z0).trans c02, (k.cell (p := ⟨g0, 3, none⟩) z0).trans c03, (k.cell (p := ⟨g0, 4, none⟩) z0).trans c04, (k.cell (p := ⟨g0, 5, none⟩) z0).trans c05, (k.cell (p := ⟨g0, 6, none⟩) z0).trans c06, (k.cell (p := ⟨g0, 7, none⟩) z0).trans c07, Nat.lt_of_lt_of_le z1 k.size, (k.cell (p := ⟨g1, 0, none⟩) z1).trans c10, (k.cell (p := ⟨g1, 1, none⟩) z1).trans c11, (k.cell (p := ⟨g1, 2, none⟩) z1).trans c12, (k.cell (p := ⟨g1, 3, none⟩) z1).trans c13, (k.cell (p := ⟨g1, 4, none⟩) z1).trans c14, (k.cell (p := ⟨g1, 5, none⟩) z1).trans c15, (k.cell (p := ⟨g1, 6, none⟩) z1).trans c16, (k.cell (p := ⟨g1, 7, none⟩) z1).trans c17⟩
theorem start8_2 {W a : World} {g0 g1 : Nat} {f0 f1 : Nat → Bool} (hB : Below W.heap.size W a) (h0 : BoolRow a g0 8 f0) (h1 : BoolRow a g1 8 f1) : Below W.heap.size W a.drew ∧ g0 < a.drew.heap.size ∧ a.drew.cell? ⟨g0, 0, none⟩ = some (.bool (f0 0)) ∧ a.drew.cell? ⟨g0, 1, none⟩ = some (.bool (f0 1)) ∧ a.drew.cell? ⟨g0, 2, none⟩ = some (.bool (f0 2)) ∧ a.drew.cell? ⟨g0, 3, none⟩ = some (.bool (f0 3)) ∧ a.drew.cell? ⟨g0, 4, none⟩ = some (.bool (f0 4)) ∧ a.drew.cell? ⟨g0, 5, none⟩ = some (.bool (f0 5)) ∧ a.drew.cell? ⟨g0, 6, none⟩ = some (.bool (f0 6)) ∧ a.drew.cell? ⟨g0, 7, none⟩ = some (.bool (f0 7)) ∧ g1 < a.drew.heap.size ∧ a.drew.cell? ⟨g1, 0, none⟩ = some (.bool (f1 0)) ∧ a.drew.cell? ⟨g1, 1, none⟩ = some (.bool (f1 1)) ∧ a.drew.cell? ⟨g1, 2, none⟩ = some (.bool (f1 2)) ∧ a.drew.cell? ⟨g1, 3, none⟩ = some (.bool (f1 3)) ∧ a.drew.cell? ⟨g1, 4, none⟩ = some (.bool (f1 4)) ∧ a.drew.cell? ⟨g1, 5, none⟩ = some (.bool (f1 5)) ∧ a.drew.cell? ⟨g1, 6, none⟩ = some (.bool (f1 6)) ∧ a.drew.cell? ⟨g1, 7, none⟩ = some (.bool (f1 7)) := ⟨hB.drew, h0.1, h0.2 0 (by omega), h0.2 1 (by omega), h0.2 2 (by omega), h0.2 3 (by omega), h0.2 4 (by omega), h0.2 5 (by omega), h0.2 6 (by omega), h0.2 7 (by omega), h1.1, h1.2 0 (by omega), h1.2 1 (by omega), h1.2 2 (by omega), h1.2 3 (by omega), h1.2 4 (by omega), h1.2 5 (by omega), h1.2 6 (by omega), h1.2 7 (by omega)⟩
theorem keep8_3 {W a b : World} {g0 g1 g2 : Nat} {f0 f1 f2 : Nat → Bool} (h : Below W.heap.size W a ∧ g0 < a.heap.size ∧ a.cell? ⟨g0, 0, none⟩ = some (.bool (f0 0)) ∧ a.cell? ⟨g0, 1, none⟩ = some (.bool (f0 1)) ∧ a.cell? ⟨g0, 2, none⟩ = some (.bool (f0 2)) ∧ a.cell? ⟨g0, 3, none⟩ = some (.bool (f0 3)) ∧ a.cell? ⟨g0, 4, none⟩ = some (.bool (f0 4)) ∧ a.cell? ⟨g0, 5, none⟩ = some (.bool (f0 5)) ∧ a.cell? ⟨g0, 6, none⟩ = some (.bool (f0 6)) ∧ a.cell? ⟨g0, 7, none⟩ = some (.bool (f0 7)) ∧ g1 < a.heap.size ∧ a.cell? ⟨g1, 0, none⟩ = some (.bool (f1 0)) ∧ a.cell? ⟨g1, 1, none⟩ = some (.bool (f1 1)) ∧ a.cell? ⟨g1, 2, none⟩ = some (.bool (f1 2)) ∧ a.cell? ⟨g1, 3, none⟩ = some (.bool (f1 3)) ∧ a.cell? ⟨g1, 4, none⟩ = some (.bool (f1 4)) ∧ a.cell? ⟨g1, 5, none⟩ = some (.bool (f1 5)) ∧ a.cell? ⟨g1, 6, none⟩ = some (.bool (f1 6)) ∧ a.cell? ⟨g1, 7, none⟩ = some (.bool (f1 7)) ∧ g2 < a.heap.size ∧ a.cell? ⟨g2, 0, none⟩ = some (.bool (f2 0)) ∧ a.cell? ⟨g2, 1, none⟩ = some (.bool (f2 1)) ∧ a.cell? ⟨g2, 2, none⟩ = some (.bool (f2 2)) ∧ a.cell? ⟨g2, 3, none⟩ = some (.bool (f2 3)) ∧ a.cell? ⟨g2, 4, none⟩ = some (.bool (f2 4)) ∧ a.cell? ⟨g2, 5, none⟩ = some (.bool (f2 5)) ∧ a.cell? ⟨g2, 6, none⟩ = some (.bool (f2 6)) ∧ a.cell? ⟨g2, 7, none⟩ = some (.bool (f2 7))) (k : Below a.heap.size a b) : Below W.heap.size W b ∧ g0 < b.heap.size ∧ b.cell? ⟨g0, 0, none⟩ = some (.bool (f0 0)) ∧ b.cell? ⟨g0, 1, none⟩ = some (.bool (f0 1)) ∧ b.cell? ⟨g0, 2, none⟩ = some (.bool (f0 2)) ∧ b.cell? ⟨g0, 3, none⟩ = some (.bool (f0 3)) ∧ b.cell? ⟨g0, 4, none⟩ = some (.bool (f0 4)) ∧ b.cell? ⟨g0, 5, none⟩ = some (.bool (f0 5)) ∧ b.cell? ⟨g0, 6, none⟩ = some (.bool (f0 6)) ∧ b.cell? ⟨g0, 7, none⟩ = some (.bool (f0 7)) ∧ g1 < b.heap.size ∧ b.cell? ⟨g1, 0, none⟩ = some (.bool (f1 0)) ∧ b.cell? ⟨g1, 1, none⟩ = some (.bool (f1 1)) ∧ b.cell? ⟨g1, 2, none⟩ = some (.bool (f1 2)) ∧ b.cell? ⟨g1, 3, none⟩ = some (.bool (f1 3)) ∧ b.cell? ⟨g1, 4, none⟩ = some (.bool (f1 4)) ∧ b.cell? ⟨g1, 5, none⟩ = some (.bool (f1 5)) ∧ b.cell? ⟨g1, 6, none⟩ = some (.bool (f1 6)) ∧ b.cell? ⟨g1, 7, none⟩ = some (.bool (f1 7)) ∧ g2 < b.heap.size ∧ b.cell? ⟨g2, 0, none⟩ = some (.bool (f2 0)) ∧ b.cell? ⟨g2, 1, none⟩ = some (.bool (f2 1)) ∧ b.cell? ⟨g2, 2, none⟩ = some (.bool (f2 2)) ∧ b.cell? ⟨g2, 3, none⟩ = some (.bool (f2 3)) ∧ b.cell? ⟨g2, 4, none⟩ = some (.bool (f2 4)) ∧ b.cell? ⟨g2, 5, none⟩ = some (.bool (f2 5)) ∧ b.cell? ⟨g2, 6, none⟩ = some (.bool (f2 6)) ∧ b.cell? ⟨g2, 7, none⟩ = some (.bool (f2 7)) := by
  obtain ⟨hB, z0, c00, c01, c02, c03, c04, c05, c06, c07, z1, c10, c11, c12, c13, c14, c15, c16, c17, z2, c20, c21, c22, c23, c24, c25, c26, c27⟩ := h
  exact ⟨bthen hB k, Nat.lt_of_lt_of_le z0 k.size, (k.cell (p := ⟨g0, 0, none⟩) z0).trans c00, (k.cell (p := ⟨g0, 1, none⟩) z0).trans c01, (k.cell (p := ⟨g0, 2, none⟩) z0).trans c02, (k.cell (p := ⟨g0, 3, none⟩) z0).trans c03, (k.cell (p := ⟨g0, 4, none⟩) z0).trans c04, (k.cell (p := ⟨g0, 5, none⟩) z0).trans c05, (k.cell (p := ⟨g0, 6, none⟩) z0).trans c06, (k.cell (p := ⟨g0, 7, none⟩) z0).trans c07, Nat.lt_of_lt_of_le z1 k.size, (k.cell (p := ⟨g1, 0, none⟩) z1).trans c10, (k.cell (p := ⟨g1, 1, none⟩) z1).trans c11, (k.cell (p := ⟨g1, 2, none⟩) z1).trans c12, (k.cell (p := ⟨g1, 3, none⟩) z1).trans c13, (k.cell (p := ⟨g1, 4, none⟩) z1).trans c14, (k.cell (p := ⟨g1, 5, none⟩) z1).trans c15, (k.cell (p := ⟨g1, 6, none⟩) z1).trans c16, (k.cell (p := ⟨g1, 7, none⟩) z1).trans c17, Nat.lt_of_lt_of_le z2 k.size, (k.cell (p := ⟨g2, 0, none⟩) z2).trans c20, (k.cell (p := ⟨g2, 1, none⟩) z2).trans c21, (k.cell (p := ⟨g2, 2, none⟩) z2).trans c22, (k.cell (p := ⟨g2, 3, none⟩) z2).trans c23, (k.cell (p := ⟨g2, 4, none⟩) z2).trans c24, (k.cell (p := ⟨g2, 5, none⟩) z2).trans c25, (k.cell (p := ⟨g2, 6, none⟩) z2).trans c26, (k.cell (p := ⟨g2, 7, none⟩) z2).trans c27⟩
theorem start8_3 {W a : World} {g0 g1 g2 : Nat} {f0 f1 f2 : Nat → Bool} (hB : Below W.heap.size W a) (h0 : BoolRow a g0 8 f0) (h1 : BoolRow a g1 8 f1) (h2 : BoolRow a g2 8 f2) : Below W.heap.size W a.drew ∧ g0 < a.drew.heap.size ∧ a.drew.cell? ⟨g0, 0, none⟩ = some (.bool (f0 0)) ∧ a.drew.cell? ⟨g0, 1, none⟩ = some (.bool (f0 1)) ∧ a.drew.cell? ⟨g0, 2, none⟩ = some (.bool (f0 2)) ∧ a.drew.cell? ⟨g0, 3, none⟩ = some (.bool (f0 3)) ∧ a.drew.cell? ⟨g0, 4, none⟩ = some (.bool (f0 4)) ∧ a.drew.cell? ⟨g0, 5, none⟩ = some (.bool (f0 5)) ∧ a.drew.cell? ⟨g0, 6, none⟩ = some (.bool (f0 6)) ∧ a.drew.cell? ⟨g0, 7, none⟩ = some (.bool (f0 7)) ∧ g1 < a.drew.heap.size ∧ a.drew.cell? ⟨g1, 0, none⟩ = some (.bool (f1 0)) ∧ a.drew.cell? ⟨g1, 1, none⟩ = some (.bool (f1 1)) ∧ a.drew.cell? ⟨g1, 2, none⟩ = some (.bool (f1 2)) ∧ a.drew.cell? ⟨g1, 3, none⟩ = some (.bool (f1 3)) ∧ a.drew.cell? ⟨g1, 4, none⟩ = some (.bool (f1 4)) ∧ a.drew.cell? ⟨g1, 5, none⟩ = some (.bool (f1 5)) ∧ a.drew.cell? ⟨g1, 6, none⟩ = some (.bool (f1 6)) ∧ a.drew.cell? ⟨g1, 7, none⟩ = some (.bool (f1 7)) ∧ g2 < a.drew.heap.size ∧ a.drew.cell? ⟨g2, 0, none⟩ = some (.bool (f2 0)) ∧ a.drew.cell? ⟨g2, 1, none⟩ = some (.bool (f2 1)) ∧ a.drew.cell? ⟨g2, 2, none⟩ = some (.bool (f2 2)) ∧ a.drew.cell? ⟨g2, 3, none⟩ = some (.bool (f2 3)) ∧ a.drew.cell? ⟨g2, 4, none⟩ = some (.bool (f2 4)) ∧ a.drew.cell? ⟨g2, 5, none⟩ = some (.bool (f2 5)) ∧ a.drew.cell? ⟨g2, 6, none⟩ = some (.bool (f2 6)) ∧ a.drew.cell? ⟨g2, 7, none⟩ = some (.bool (f2 7)) := ⟨hB.drew, h0.1, h0.2 0 (by omega), h0.2 1 (by omega), h0.2 2 (by omega), h0.2 3 (by omega), h0.2 4 (by omega), h0.2 5 (by omega), h0.2 6 (by omega), h0.2 7 (by omega), h1.1, h1.2 0 (by omega), h1.2 1 (by omega), h1.2 2 (by omega), h1.2 3 (by omega), h1.2 4 (by omega), h1.2 5 (by omega), h1.2 6 (by omega), h1.2 7 (by omega), h2.1, h2.2 0 (by omega), h2.2 1 (by omega), h2.2 2 (by omega), h2.2 3 (by omega), h2.2 4 (by omega), h2.2 5 (by omega), h2.2 6 (by omega), h2.2 7 (by omega)⟩

section
variable {P : Program} {ops : Array Oper} {w : World} {Q : Act → Prop} {a : Act} {o : Oper} {rest : List Oper}
theorem still_want (hw : Region.wanted o (yielded ops a.tmps) = true) (h : ∀ K : Act → Prop, (∀ a, wpStill P ops w Q rest a → K a) → o.still P a w K) : wpStill P ops w Q (o :: rest) a :=
  wpStill_step fun K hK => by rw [if_pos hw]; exact h K hK
theorem still_skip (hw : Region.wanted o (yielded ops a.tmps) = false) (h : wpStill P ops w Q rest (a.put o.dst undef)) : wpStill P ops w Q (o :: rest) a :=
  wpStill_step fun K hK => by rw [if_neg (by rw [hw]; exact Bool.false_ne_true)]; exact hK _ h
end

end Go.Proofs.Ytfcnlgkaejkneaa
