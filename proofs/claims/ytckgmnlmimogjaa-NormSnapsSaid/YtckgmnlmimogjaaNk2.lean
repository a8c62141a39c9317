/- Layer 27: blocks and tapes as data; two tapes of any data compared. -/
import Derived.Test.YtckgmnlmimogjaaNk1
import Derived.StillTailTactics
namespace Go.Proofs.Ytckgmnlmimogjaa
open Go.RowKit

/-- cells that are read, in blocks that a word holds of -/
def RdP (w : World) (φ : Nat → Prop) (size : Nat) (A : Option Addr) (n : Nat) (xs : List Value) : Prop :=
  xs.length = n * size ∧ (0 < n → ∃ ad, A = some ad ∧ φ ad.block ∧ ∀ j u, xs[j]? = some u → w.cell? (ad.add j) = some u)
theorem RdP.none_ {w : World} {φ : Nat → Prop} {size : Nat} {A : Option Addr} : RdP w φ size A 0 [] := ⟨by simp, fun h => absurd h (by omega)⟩
theorem RdP.keep {w w' : World} {φ ψ : Nat → Prop} {size n : Nat} {A : Option Addr} {xs : List Value} (h : RdP w φ size A n xs) (hk : ∀ b, φ b → w'.heap[b]? = w.heap[b]?) (hψ : ∀ b, φ b → ψ b) : RdP w' ψ size A n xs :=
  ⟨h.1, fun hn => by
    obtain ⟨ad, e, hb, hc⟩ := h.2 hn
    exact ⟨ad, e, hψ _ hb, fun j u hu => (World.cell?_of_block (by rw [block_of_add]; exact hk _ hb)).trans (hc j u hu)⟩⟩
theorem RdP.reads {w : World} {φ : Nat → Prop} {B size n : Nat} {A : Option Addr} {xs : List Value} (h : RdP w φ size A n xs) (hB : ∀ b, φ b → b < B) : Reads w B size A n xs :=
  ⟨h.1, fun hn => by
    obtain ⟨ad, e, hb, hc⟩ := h.2 hn
    exact ⟨ad, e, hB _ hb, hc⟩⟩
theorem RdP.of {w : World} {φ : Nat → Prop} {B size n : Nat} {A : Option Addr} {xs : List Value} (h : Reads w B size A n xs) (hB : ∀ b, b < B → φ b) : RdP w φ size A n xs :=
  ⟨h.1, fun hn => by
    obtain ⟨ad, e, hb, hc⟩ := h.2 hn
    exact ⟨ad, e, hB _ hb, hc⟩⟩

/-- a block as data -/
structure BD where
  i0 : Int
  i1 : Int
  i2 : Int
  i3 : Int
  i4 : Int
  i5 : Int
  i6 : Int
  i7 : Int
  i8 : Int
  i9 : Int
  i10 : Int
  i11 : Int
  ds : List Int
  ts : List Int
  pil : List (Int × List Int)
  rep : List (Int × Int)
def SymD.okP (w : World) (φ : Nat → Prop) (q : SymD) : Prop := RdP w φ 1 q.a q.n (q.zs.map (Value.int .i64)) ∧ q.n ≤ 1000000
def BlkAt (w : World) (φ : Nat → Prop) (d : BD) (cs : List Value) : Prop :=
  ∃ (DA : Option Addr) (dn dc : Nat) (ta : Option Addr) (tn tc : Nat) (PA : Option Addr) (pn pc : Nat) (RA : Option Addr) (rn rc : Nat) (pl : List SymD),
    cs = [.int .i64 d.i0, .int .i64 d.i1, .int .i64 d.i2, .int .i64 d.i3, .int .i64 d.i4, .int .i64 d.i5, .int .i64 d.i6, .int .i64 d.i7, .int .i64 d.i8, .int .i64 d.i9, .int .i64 d.i10, .int .i64 d.i11, .slice DA dn dc, .slice ta tn tc, .slice none 0 0, .slice PA pn pc, .slice none 0 0, .slice RA rn rc] ∧ RdP w φ 1 DA dn (d.ds.map (Value.int .u8)) ∧ RdP w φ 1 ta tn (d.ts.map (Value.int .i64)) ∧ RdP w φ 2 PA pn (symV pl) ∧ (∀ q ∈ pl, q.okP w φ) ∧ pl.map SymD.dat = d.pil ∧ RdP w φ 2 RA rn (fl d.rep) ∧ tn ≤ 1000000 ∧ pn ≤ 1000000 ∧ rn ≤ 1000000
theorem BlkAt.keep {w w' : World} {φ ψ : Nat → Prop} {d : BD} {cs : List Value} (h : BlkAt w φ d cs) (hk : ∀ b, φ b → w'.heap[b]? = w.heap[b]?) (hψ : ∀ b, φ b → ψ b) : BlkAt w' ψ d cs := by
  obtain ⟨DA, dn, dc, ta, tn, tc, PA, pn, pc, RA, rn, rc, pl, h0, h1, h2, h3, h4, h5, h6, h7⟩ := h
  exact ⟨DA, dn, dc, ta, tn, tc, PA, pn, pc, RA, rn, rc, pl, h0, h1.keep hk hψ, h2.keep hk hψ, h3.keep hk hψ, fun q hq => ⟨(h4 q hq).1.keep hk hψ, (h4 q hq).2⟩, h5, h6.keep hk hψ, h7⟩
theorem BlkAt.len {w : World} {φ : Nat → Prop} {d : BD} {cs : List Value} (h : BlkAt w φ d cs) : cs.length = 18 := by
  obtain ⟨DA, dn, dc, ta, tn, tc, PA, pn, pc, RA, rn, rc, pl, h0, _⟩ := h
  rw [h0]; rfl
theorem BlkAt.one {w : World} {φ : Nat → Prop} {d : BD} {cs : List Value} (h : BlkAt w φ d cs) : ∀ u ∈ cs, u.oneCell' = true := by
  obtain ⟨DA, dn, dc, ta, tn, tc, PA, pn, pc, RA, rn, rc, pl, h0, _⟩ := h
  rw [h0]
  simp [Value.oneCell']
def BlksAt (w : World) (φ : Nat → Prop) : List BD → List Value → Prop
  | [], xs => xs = []
  | d :: l, xs => ∃ cs ys, xs = cs ++ ys ∧ BlkAt w φ d cs ∧ BlksAt w φ l ys
theorem BlksAt.keep {w w' : World} {φ ψ : Nat → Prop} (hk : ∀ b, φ b → w'.heap[b]? = w.heap[b]?) (hψ : ∀ b, φ b → ψ b) : ∀ {l : List BD} {xs : List Value}, BlksAt w φ l xs → BlksAt w' ψ l xs
  | [], _, h => h
  | _ :: _, _, ⟨cs, ys, e, h1, h2⟩ => ⟨cs, ys, e, h1.keep hk hψ, BlksAt.keep hk hψ h2⟩
theorem BlksAt.len {w : World} {φ : Nat → Prop} : ∀ {l : List BD} {xs : List Value}, BlksAt w φ l xs → xs.length = l.length * 18
  | [], xs, h => by subst h; rfl
  | _ :: l, xs, ⟨cs, ys, e, h1, h2⟩ => by
    have := BlksAt.len h2
    have := h1.len
    rw [e, List.length_append, List.length_cons]
    omega
theorem BlksAt.one {w : World} {φ : Nat → Prop} : ∀ {l : List BD} {xs : List Value}, BlksAt w φ l xs → ∀ u ∈ xs, u.oneCell' = true
  | [], xs, h => by subst h; nofun
  | _ :: l, xs, ⟨cs, ys, e, h1, h2⟩ => by
    intro u hu
    rw [e, List.mem_append] at hu
    rcases hu with hu | hu
    · exact h1.one u hu
    · exact BlksAt.one h2 u hu
theorem BlksAt.app {w : World} {φ : Nat → Prop} : ∀ {l l' : List BD} {xs xs' : List Value}, BlksAt w φ l xs → BlksAt w φ l' xs' → BlksAt w φ (l ++ l') (xs ++ xs')
  | [], l', xs, xs', h, h' => by subst h; exact h'
  | _ :: l, l', xs, xs', ⟨cs, ys, e, h1, h2⟩, h' => ⟨cs, ys ++ xs', by rw [e, List.append_assoc], h1, BlksAt.app h2 h'⟩
theorem BlksAt.single {w : World} {φ : Nat → Prop} {d : BD} {cs : List Value} (h : BlkAt w φ d cs) : BlksAt w φ [d] cs := ⟨cs, [], by simp, h, rfl⟩
theorem BlksAt.at_ {w : World} {φ : Nat → Prop} : ∀ {l : List BD} {xs : List Value} {i : Nat} {d : BD}, BlksAt w φ l xs → l[i]? = some d → ∃ cs, BlkAt w φ d cs ∧ ∀ k u, cs[k]? = some u → xs[i * 18 + k]? = some u
  | [], xs, i, d, h, hd => by cases hd
  | q :: l, xs, 0, d, ⟨cs, ys, e, h1, h2⟩, hd => by
    obtain rfl : q = d := by simpa using hd
    refine ⟨cs, h1, fun k u hk => ?_⟩
    have hlt : k < cs.length := by
      rcases Nat.lt_or_ge k cs.length with h | h
      · exact h
      · rw [List.getElem?_eq_none h] at hk; cases hk
    rw [e, show 0 * 18 + k = k by omega, List.getElem?_append_left hlt]
    exact hk
  | q :: l, xs, i + 1, d, ⟨cs, ys, e, h1, h2⟩, hd => by
    obtain ⟨ds, hB, hx⟩ := BlksAt.at_ h2 (i := i) (d := d) (by simpa using hd)
    refine ⟨ds, hB, fun k u hk => ?_⟩
    rw [e, List.getElem?_append_right (by rw [h1.len]; omega), h1.len, show (i + 1) * 18 + k - 18 = i * 18 + k by omega]
    exact hx k u hk
theorem add_lit18 (a : Addr) {k : Nat} (hk : k ≠ 0) : a.add k = ⟨a.block, a.off + k, none⟩ := by unfold Addr.add; rw [if_neg hk]
/-- one cell of an element of a slice of blocks -/
theorem blk_at {w : World} {B n : Nat} {ad : Addr} {xs : List Value} (h : Reads w B 18 (some ad) n xs) {i : Nat} (hi : i < n) {u : Value} : (xs[i * 18]? = some u → w.cell? (ad.add (i * 18)) = some u) ∧ ∀ k, k ≠ 0 → xs[i * 18 + k]? = some u → w.cell? ⟨(ad.add (i * 18)).block, (ad.add (i * 18)).off + k, none⟩ = some u := by
  obtain ⟨ad', e, hb, hc⟩ := h.2 (by omega)
  injection e with e
  subst e
  refine ⟨fun hu => hc _ _ hu, fun k hk hu => ?_⟩
  have := hc _ _ hu
  rw [← add_of_add, add_lit18 _ hk] at this
  exact this

section
variable {P : Program}
theorem run_load_at {o : Oper} {a : Act} {w : World} (ty : TypeId) (x : Operand) (ho : o.op = .load ty x) (ad : Addr) (hx : a.eval x = .pointer (some ad)) (cs : List Value) (hc : ∀ j v, cs[j]? = some v → w.cell? (ad.add j) = some v) (d : TypeDesc)
    (hu : P.underlying ty = some d) (hd : (match d with | .struct _ | .array _ _ => true | _ => false) = true) (hi : (P.info? ty).map (·.size) = some cs.length) :
    (execOp a.eval o).run P w = .ok (.value (.agg cs.toArray)) w := by
  have hl : (loadCells ad cs.length).run P w = .ok cs.toArray w := run_loadCells_list (P := P) w ad cs hc
  have hv : (loadVar ty ad).run P w = .ok (.agg cs.toArray) w := by
    cases hq : P.info? ty with
    | none => simp [hq] at hi
    | some i =>
      have hs : i.size = cs.length := by simpa [hq] using hi
      have hagg : (isAgg ty).run P w = .ok true w := by
        unfold isAgg
        rw [Sem.run_bind, run_underlying hu w]
        cases d <;> simp_all
      simp [loadVar, Sem.run_bind, hagg, sizeOf, typeInfo, hq, hs, hl]
  unfold execOp
  simp only [ho, hx, Instr.loadAt, Instr.sureAddr, Sem.run_bind, Sem.run_pure, Result.andThen_ok, hv]
theorem still_load_at {ops : Array Oper} {w : World} {Q : Act → Prop} {a : Act} {o : Oper} {rest : List Oper} (hgd : o.guard = none) (ty : TypeId) (x : Operand) (ho : o.op = .load ty x) (ad : Addr) (hx : a.eval x = .pointer (some ad)) (cs : List Value) (hc : ∀ j v, cs[j]? = some v → w.cell? (ad.add j) = some v) (d : TypeDesc)
    (hu : P.underlying ty = some d) (hd : (match d with | .struct _ | .array _ _ => true | _ => false) = true) (hi : (P.info? ty).map (·.size) = some cs.length) (h : wpStill P ops w Q rest (a.put o.dst (.agg cs.toArray))) : wpStill P ops w Q (o :: rest) a :=
  wpStill_step fun K hK => by
    rw [if_pos (by simp [Region.wanted, hgd])]
    unfold Oper.still
    rw [run_load_at ty x ho ad hx cs hc d hu hd hi, Oper.stillUpon_value]
    exact hK _ h
theorem wpList_load_at {ops : Array Oper} {rest : List Oper} {o : Oper} {a : Act} {w : World} {Q : Exit → Act → World → Prop} (hgd : o.guard = none) (ty : TypeId) (x : Operand) (ho : o.op = .load ty x) (ad : Addr) (hx : a.eval x = .pointer (some ad)) (cs : List Value) (hc : ∀ j v, cs[j]? = some v → w.cell? (ad.add j) = some v) (d : TypeDesc)
    (hu : P.underlying ty = some d) (hd : (match d with | .struct _ | .array _ _ => true | _ => false) = true) (hi : (P.info? ty).map (·.size) = some cs.length) (h : wpList P ops Q rest (a.put o.dst (.agg cs.toArray)) w) : wpList P ops Q (o :: rest) a w :=
  wpList_plain hgd fun _ hK => by
    unfold Oper.wp
    rw [run_load_at ty x ho ad hx cs hc d hu hd hi]
    exact hK _ _ h
end
theorem load18 {w : World} {B n : Nat} {ad : Addr} {xs : List Value} (h : Reads w B 18 (some ad) n xs) {i : Nat} (hi : i < n) (cs : List Value) (hc : ∀ k u, cs[k]? = some u → xs[i * 18 + k]? = some u) : ∀ j v, cs[j]? = some v → w.cell? ((ad.add (i * 18)).add j) = some v := by
  obtain ⟨ad', e, hb, hcell⟩ := h.2 (by omega)
  injection e with e
  subst e
  intro j v hv
  rw [add_of_add]; exact hcell _ _ (hc j v hv)

set_option maxRecDepth 100000 in
set_option maxHeartbeats 8000000 in
theorem sameTape_gen (w : World) (n c c' : Nat) (A A' : Option Addr) (xs xs' : List Value) (l : List BD) (maj mnr : Int)
    (h1 : Reads w w.heap.size 18 A n xs) (h2 : Reads w w.heap.size 18 A' n xs') (b1 : BlksAt w (· < w.heap.size) l xs) (b2 : BlksAt w (· < w.heap.size) l xs') (hn : n ≤ 1000000) :
    Calls Try.prog 16 #[.agg #[.int .i64 maj, .int .i64 mnr, .slice A n c], .agg #[.int .i64 maj, .int .i64 mnr, .slice A' n c']] w fun e w' => e = .returned (.bool true) ∧ Below w.heap.size w w' := by
  have hl : l.length = n := by have := h1.1; rw [b1.len] at this; omega
  have hb : Below w.heap.size w ((w.alloc (.cells #[.int .i64 maj, .int .i64 mnr, .slice A n c] 45)).alloc (.cells #[.int .i64 maj, .int .i64 mnr, .slice A' n c'] 45)) := ((Below.refl _ _).alloc (Nat.le_refl _) _).alloc (by simp) _
  have hP : Blk ((w.alloc (.cells #[.int .i64 maj, .int .i64 mnr, .slice A n c] 45)).alloc (.cells #[.int .i64 maj, .int .i64 mnr, .slice A' n c'] 45)) w.heap.size 45 #[.int .i64 maj, .int .i64 mnr, .slice A n c] := Blk.alloc (Blk.new w _ _) _
  have hQ : Blk ((w.alloc (.cells #[.int .i64 maj, .int .i64 mnr, .slice A n c] 45)).alloc (.cells #[.int .i64 maj, .int .i64 mnr, .slice A' n c'] 45)) (w.heap.size + 1) 45 #[.int .i64 maj, .int .i64 mnr, .slice A' n c'] := by
    have := Blk.new (w.alloc (.cells #[.int .i64 maj, .int .i64 mnr, .slice A n c] 45)) 45 #[.int .i64 maj, .int .i64 mnr, .slice A' n c']
    simpa using this
  have hsz : ((w.alloc (.cells #[.int .i64 maj, .int .i64 mnr, .slice A n c] 45)).alloc (.cells #[.int .i64 maj, .int .i64 mnr, .slice A' n c'] 45)).heap.size = w.heap.size + 2 := by simp
  have p0 : ((w.alloc (.cells #[.int .i64 maj, .int .i64 mnr, .slice A n c] 45)).alloc (.cells #[.int .i64 maj, .int .i64 mnr, .slice A' n c'] 45)).cell? ⟨w.heap.size, 0, none⟩ = some (.int .i64 maj) := (hP.cell 0).trans rfl
  have p1 : ((w.alloc (.cells #[.int .i64 maj, .int .i64 mnr, .slice A n c] 45)).alloc (.cells #[.int .i64 maj, .int .i64 mnr, .slice A' n c'] 45)).cell? ⟨w.heap.size, 1, none⟩ = some (.int .i64 mnr) := (hP.cell 1).trans rfl
  have p2 : ((w.alloc (.cells #[.int .i64 maj, .int .i64 mnr, .slice A n c] 45)).alloc (.cells #[.int .i64 maj, .int .i64 mnr, .slice A' n c'] 45)).cell? ⟨w.heap.size, 2, none⟩ = some (.slice A n c) := (hP.cell 2).trans rfl
  have q0 : ((w.alloc (.cells #[.int .i64 maj, .int .i64 mnr, .slice A n c] 45)).alloc (.cells #[.int .i64 maj, .int .i64 mnr, .slice A' n c'] 45)).cell? ⟨w.heap.size + 1, 0, none⟩ = some (.int .i64 maj) := (hQ.cell 0).trans rfl
  have q1 : ((w.alloc (.cells #[.int .i64 maj, .int .i64 mnr, .slice A n c] 45)).alloc (.cells #[.int .i64 maj, .int .i64 mnr, .slice A' n c'] 45)).cell? ⟨w.heap.size + 1, 1, none⟩ = some (.int .i64 mnr) := (hQ.cell 1).trans rfl
  have q2 : ((w.alloc (.cells #[.int .i64 maj, .int .i64 mnr, .slice A n c] 45)).alloc (.cells #[.int .i64 maj, .int .i64 mnr, .slice A' n c'] 45)).cell? ⟨w.heap.size + 1, 2, none⟩ = some (.slice A' n c') := (hQ.cell 2).trans rfl
  have HM := Lib.hid (And.intro (h1.below hb) (And.intro (h2.below hb) (And.intro (b1.keep (w' := ((w.alloc (.cells #[.int .i64 maj, .int .i64 mnr, .slice A n c] 45)).alloc (.cells #[.int .i64 maj, .int .i64 mnr, .slice A' n c'] 45))) (ψ := (· < w.heap.size)) (fun b hlt => hb.block b hlt) (fun b h => h)) (And.intro (b2.keep (w' := ((w.alloc (.cells #[.int .i64 maj, .int .i64 mnr, .slice A n c] 45)).alloc (.cells #[.int .i64 maj, .int .i64 mnr, .slice A' n c'] 45))) (ψ := (· < w.heap.size)) (fun b hlt => hb.block b hlt) (fun b h => h)) (And.intro hP (And.intro hQ hb))))))
  have HL := Lib.hid hl
  clear h1 h2 b1 b2 hl hP hQ hb
  go_enter Try.func16, Try.ntmps16
  go_upto_region 1 with fail
  generalize ((w.alloc (.cells #[.int .i64 maj, .int .i64 mnr, .slice A n c] 45)).alloc (.cells #[.int .i64 maj, .int .i64 mnr, .slice A' n c'] 45)) = W at *
  go_wp2_with fail
  go_loopw [5] (fun x wr => ∃ j : Nat, j ≤ n ∧ x = .int .i64 j ∧ Below (w.heap.size + 2) W wr) (fun x _ => n - (intOf x).toNat)
  case atStart => exact ⟨0, by omega, rfl, Below.refl _ _⟩
  case round =>
    obtain ⟨j, hj, rfl, hbl⟩ := hrel
    clear p0 p1 p2 q0 q1 q2
    have p2 : wr.cell? ⟨w.heap.size, 2, none⟩ = some (.slice A n c) := (hbl.cell (p := ⟨w.heap.size, 2, none⟩) (by show w.heap.size < _; omega)).trans ((HM.out.2.2.2.2.1.cell 2).trans rfl)
    have q2 : wr.cell? ⟨w.heap.size + 1, 2, none⟩ = some (.slice A' n c') := (hbl.cell (p := ⟨w.heap.size + 1, 2, none⟩) (by show w.heap.size + 1 < _; omega)).trans ((HM.out.2.2.2.2.2.1.cell 2).trans rfl)
    have hbw : Below w.heap.size w wr := HM.out.2.2.2.2.2.2.trans (hbl.mono (by omega))
    by_cases hlt : j < n
    · obtain ⟨d, hd⟩ := idx_some (l := l) (i := j) (by rw [HL.out]; exact hlt)
      have hjI : (j : Int) < (n : Int) := by omega
      have hj0 : (0 : Int) ≤ (j : Int) := Int.natCast_nonneg _
      have hwj : IntKind.i64.wrap ((j : Int) + 1) = (j : Int) + 1 := by rw [IntKind.wrap_i64]; omega
      have hkp : ∀ b, b < w.heap.size → wr.heap[b]? = W.heap[b]? := fun b hb => hbl.block b (by omega)
      obtain ⟨cs, B1, f1⟩ := (HM.out.2.2.1.keep hkp (fun b h => h)).at_ hd
      obtain ⟨cs', B2, f2⟩ := (HM.out.2.2.2.1.keep hkp (fun b h => h)).at_ hd
      have R1 := HM.out.1.below (hbl.mono (show w.heap.size ≤ w.heap.size + 2 by omega))
      have R2 := HM.out.2.1.below (hbl.mono (show w.heap.size ≤ w.heap.size + 2 by omega))
      obtain ⟨ad, rfl, _⟩ := R1.2 (by omega)
      obtain ⟨ad', rfl, _⟩ := R2.2 (by omega)
      obtain ⟨DA, dn, dc, ta, tn, tc, PA, pn, pc, RA, rn, rc, pl, rfl, a1, a2, a3, a4, a5, a6, a7, a8, a9⟩ := B1
      obtain ⟨DA', dn', dc', ta', tn', tc', PA', pn', pc', RA', rn', rc', pl', rfl, c1, c2, c3, c4, c5, c6, c7, c8, c9⟩ := B2
      have hszr : w.heap.size ≤ wr.heap.size := hbw.size
      have l1 : dn' = dn := by have x := a1.1; have y := c1.1; simp at x y; omega
      have l2 : tn' = tn := by have x := a2.1; have y := c2.1; simp at x y; omega
      have l3 : pn' = pn := by
        have x := a3.1; have y := c3.1; rw [symV_len] at x y
        have e : pl.length = pl'.length := by have := congrArg List.length (a5.trans c5.symm); simpa using this
        omega
      have l4 : rn' = rn := by have x := a6.1; have y := c6.1; omega
      subst l1 l2 l3 l4
      have lt9 : ∀ b, b < w.heap.size → b < wr.drew.heap.size := fun b hb => by show b < wr.heap.size; omega
      have hs := same_gen wr.drew d.i0 d.i1 d.i2 d.i3 d.i4 d.i5 d.i6 d.i7 d.i8 d.i9 d.i10 d.i11 DA DA' ta ta' PA PA' RA RA' dn' dc dc' tn' tc tc' pn' pc pc' rn' rc rc' d.ds d.ts pl pl' d.rep (a1.reads lt9) (c1.reads lt9) (a2.reads lt9) (c2.reads lt9) (a3.reads lt9) (c3.reads lt9) (fun q hq => (a4 q hq).1.reads lt9) (fun q hq => (c4 q hq).1.reads lt9) (a5.trans c5.symm) (a6.reads lt9) (c6.reads lt9) a7 a8 a9 (fun q hq => (a4 q hq).2)
      have x0 := Lib.hid (load18 (w := wr.drew) R1.drew hlt _ f1)
      have y0 := Lib.hid (load18 (w := wr.drew) R2.drew hlt _ f2)
      have HS := Lib.hid hs
      have HBL := Lib.hid hbl
      clear a1 a2 a3 a4 a5 a6 a7 a8 a9 c1 c2 c3 c4 c5 c6 c7 c8 c9 R1 R2 f1 f2 hs hbl hbw hkp hd lt9 hszr
      go_wp2_with fail
      refine wp_region_still_tail 10 (by kernel_rfl) (by kernel_rfl) ?_
      simp only [List.take_succ_cons, List.take_zero, List.drop_succ_cons, List.drop_zero]
      still_step
      still_step
      still_step
      still_step
      refine still_load_at rfl 33 _ rfl (ad.add (j * 18)) rfl _ x0.out _ Try.underlying33 rfl blkInfo ?_
      simp only [Act.put, List.setIfInBounds_toArray, List.set_cons_zero, List.set_cons_succ]
      still_step
      still_step
      still_step
      still_step
      refine still_load_at rfl 33 _ rfl (ad'.add (j * 18)) rfl _ y0.out _ Try.underlying33 rfl blkInfo ?_
      simp only [Act.put, List.setIfInBounds_toArray, List.set_cons_zero, List.set_cons_succ]
      refine wpStill_nil ?_
      change wpList _ _ _ _ _ wr.drew
      have hs := HS.out
      clear HS p2 q2 x0 y0
      generalize hw2 : wr.drew = w2 at *
      have HB2 := Lib.hid (show Below (w.heap.size + 2) W w2 by rw [← hw2]; exact HBL.out.drew)
      clear HBL hw2
      go_wp2_with fail
      refine hs.mono ?_
      rintro e w3 ⟨rfl, hb3⟩
      have HX := Lib.hid (HB2.out.trans (hb3.mono (by have := HB2.out.size; omega)))
      clear hb3 hs
      go_wp2
      go_roundw
      case rel => exact ⟨j + 1, by omega, by go_num, HX.out⟩
      case measure => simp [intOf]; omega
    · have HX := Lib.hid hbw
      clear hbl hbw
      go_wp2
      go_ret
      exact ⟨rfl, HX.out⟩

end Go.Proofs.Ytckgmnlmimogjaa
