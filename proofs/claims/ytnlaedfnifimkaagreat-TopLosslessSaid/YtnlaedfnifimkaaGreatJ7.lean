/- Part 7 of the proof: lemmas on what the program computes; no condition. -/
import Derived.Test.YtnlaedfnifimkaaGreatJ1
set_option linter.unusedVariables false
set_option linter.unusedSimpArgs false
set_option linter.unusedSectionVars false
namespace Go.Proofs.YtnlaedfnifimkaaGreat
open Go.RowKit
namespace Ck
abbrev Kd := Nat
inductive Bt where
  | bool (b : Option Bool)
  | int (k : IntKind) (lo hi : Int)
  | str (s : Option (List UInt8))
  | ptr (k : Kd) (lo hi : Nat) (nl : Bool)
  | slice (k : Kd) (lo hi : Option Nat)
  | nils
  | nili
  | iface (t : TypeId) (k : Kd)
  | meth (t : TypeId) (k : Kd) (name : String)
  | opq (n : Nat)
  | nz (u : Tmp) (p : Bool)
  deriving DecidableEq
inductive Cm where
  | one (b : Bt)
  | agg (l : List Bt)
  deriving DecidableEq
inductive Ty where
  | any
  | one (b : Bt)
  | agg (l : List Bt)
  | tup (l : List Cm)
  | same (u : Tmp) (b : Bt)
  deriving DecidableEq
structure KI where
  elem : TypeId
  p : Nat
  segs : List (Nat × Bt)
def segAt : List (Nat × Bt) → Nat → Option Bt
  | [], _ => none
  | (n, b) :: r, i => if i < n then some b else segAt r (i - n)
structure Env where
  K : List KI
  op : Nat → Value → Prop
  L : Nat
  G : Nat
  J : Nat
  watch : List (Kd × Nat)
  mine : Nat → Prop
def Env.per (E : Env) (k : Kd) : Nat := ((E.K[k]?).map (·.p)).getD 0
def Env.elem (E : Env) (k : Kd) : TypeId := ((E.K[k]?).map (·.elem)).getD 0
def Env.cellT (E : Env) (k : Kd) (i : Nat) : Option Bt := (E.K[k]?).bind fun x => segAt x.segs i
abbrev St := Nat → Option (Kd × Nat)
def VB (E : Env) (S : St) (j : Nat) (ρ : Array Value) : Bt → Value → Prop
  | .bool o, v => ∃ b, v = .bool b ∧ ∀ c, o = some c → b = c
  | .int k lo hi, v => ∃ n, v = .int k n ∧ lo ≤ n ∧ n ≤ hi
  | .str o, v => ∃ s, v = .string s ∧ ∀ l, o = some l → s.data.toList = l
  | .ptr k lo hi nl, v => (nl = true ∧ v = .pointer none) ∨ ∃ b o n, v = .pointer (some ⟨b, o, none⟩) ∧ S b = some (k, n) ∧ o < n ∧ lo ≤ o % E.per k ∧ o % E.per k ≤ hi
  | .slice k lo hi, v => ∃ a len cap, v = .slice a len cap ∧ len ≤ cap ∧ cap ≤ maxLen ∧ lo.getD E.L ≤ len ∧ (∀ m, hi = some m → len ≤ m) ∧ (hi = none → len ≤ E.G + j) ∧
      ((a = none ∧ cap = 0) ∨ ∃ b o n, a = some ⟨b, o, none⟩ ∧ S b = some (k, n) ∧ o % E.per k = 0 ∧ o + cap * E.per k ≤ n)
  | .nils, v => v = .slice none 0 0
  | .nili, v => v = .nilIface
  | .iface t k, v => ∃ b n, v = .iface t (.pointer (some ⟨b, 0, none⟩)) ∧ S b = some (k, n) ∧ 0 < n
  | .meth t k m, v => ∃ b n, v = .func (.method m) #[.iface t (.pointer (some ⟨b, 0, none⟩))] #[] ∧ S b = some (k, n) ∧ 0 < n
  | .opq n, v => E.op n v
  | .nz u p, v => ∃ b, v = .bool b ∧ (b = p → ρ.getD u undef ≠ .pointer none)
def Bt.free : Bt → Bool
  | .nz .. => false
  | _ => true
def VL (E : Env) (S : St) (j : Nat) (ρ : Array Value) (l : List Bt) (vs : List Value) : Prop :=
  vs.length = l.length ∧ ∀ (i : Nat) b v, l[i]? = some b → vs[i]? = some v → VB E S j ρ b v
def VC (E : Env) (S : St) (j : Nat) (ρ : Array Value) : Cm → Value → Prop
  | .one b, v => VB E S j ρ b v
  | .agg l, v => ∃ cs, v = .agg cs ∧ VL E S j ρ l cs.toList
def VM (E : Env) (S : St) (j : Nat) (ρ : Array Value) (l : List Cm) (vs : List Value) : Prop :=
  vs.length = l.length ∧ ∀ (i : Nat) b v, l[i]? = some b → vs[i]? = some v → VC E S j ρ b v
def Cm.free : Cm → Bool
  | .one b => b.free
  | .agg l => l.all Bt.free
def VT (E : Env) (S : St) (j : Nat) (ρ : Array Value) : Ty → Value → Prop
  | .any, _ => True
  | .one b, v => VB E S j ρ b v
  | .agg l, v => ∃ cs, v = .agg cs ∧ VL E S j ρ l cs.toList
  | .tup l, v => ∃ cs, v = .tuple cs ∧ VM E S j ρ l cs.toList
  | .same u b, v => v = ρ.getD u undef ∧ VB E S j ρ b v
def Ty.free : Ty → Bool
  | .any => true
  | .one b => b.free
  | .agg l => l.all Bt.free
  | .tup l => l.all Cm.free
  | .same .. => false
section
variable {E : Env} {S S' : St} {j j' : Nat} {ρ ρ' : Array Value}
theorem VB.mono (hS : ∀ b x, S b = some x → S' b = some x) (hj : j ≤ j') {b : Bt} {v : Value} (h : VB E S j ρ b v) : VB E S' j' ρ b v := by
  cases b with
  | ptr k lo hi nl =>
    rcases h with h | ⟨b, o, n, h1, h2, h3⟩
    · exact .inl h
    · exact .inr ⟨b, o, n, h1, hS _ _ h2, h3⟩
  | slice k lo hi =>
    obtain ⟨a, len, cap, h1, h2, h3, h4, h5, h6, h7⟩ := h
    refine ⟨a, len, cap, h1, h2, h3, h4, h5, fun e => Nat.le_trans (h6 e) (by omega), ?_⟩
    rcases h7 with h7 | ⟨b, o, n, k1, k2, k3⟩
    · exact .inl h7
    · exact .inr ⟨b, o, n, k1, hS _ _ k2, k3⟩
  | iface t k => obtain ⟨b, n, h1, h2, h3⟩ := h; exact ⟨b, n, h1, hS _ _ h2, h3⟩
  | meth t k m => obtain ⟨b, n, h1, h2, h3⟩ := h; exact ⟨b, n, h1, hS _ _ h2, h3⟩
  | _ => exact h
theorem VB.rho {b : Bt} {v : Value} (hb : b.free = true) (h : VB E S j ρ b v) : VB E S j ρ' b v := by
  cases b <;> first | exact h | simp [Bt.free] at hb
theorem VL.mono (hS : ∀ b x, S b = some x → S' b = some x) (hj : j ≤ j') {l : List Bt} {vs : List Value} (h : VL E S j ρ l vs) : VL E S' j' ρ l vs :=
  ⟨h.1, fun i b v hb hv => (h.2 i b v hb hv).mono hS hj⟩
theorem VL.rho {l : List Bt} {vs : List Value} (hb : l.all Bt.free = true) (h : VL E S j ρ l vs) : VL E S j ρ' l vs :=
  ⟨h.1, fun i b v hb' hv => (h.2 i b v hb' hv).rho (List.all_eq_true.1 hb b (List.mem_of_getElem? hb'))⟩
theorem VC.mono (hS : ∀ b x, S b = some x → S' b = some x) (hj : j ≤ j') {c : Cm} {v : Value} (h : VC E S j ρ c v) : VC E S' j' ρ c v := by
  cases c with
  | one b => exact VB.mono hS hj h
  | agg l => obtain ⟨cs, e, h⟩ := h; exact ⟨cs, e, h.mono hS hj⟩
theorem VC.rho {c : Cm} {v : Value} (hb : c.free = true) (h : VC E S j ρ c v) : VC E S j ρ' c v := by
  cases c with
  | one b => exact VB.rho hb h
  | agg l => obtain ⟨cs, e, h⟩ := h; exact ⟨cs, e, h.rho hb⟩
theorem VM.mono (hS : ∀ b x, S b = some x → S' b = some x) (hj : j ≤ j') {l : List Cm} {vs : List Value} (h : VM E S j ρ l vs) : VM E S' j' ρ l vs :=
  ⟨h.1, fun i b v hb hv => (h.2 i b v hb hv).mono hS hj⟩
theorem VM.rho {l : List Cm} {vs : List Value} (hb : l.all Cm.free = true) (h : VM E S j ρ l vs) : VM E S j ρ' l vs :=
  ⟨h.1, fun i b v hb' hv => (h.2 i b v hb' hv).rho (List.all_eq_true.1 hb b (List.mem_of_getElem? hb'))⟩
theorem VT.mono (hS : ∀ b x, S b = some x → S' b = some x) (hj : j ≤ j') {t : Ty} {v : Value} (h : VT E S j ρ t v) : VT E S' j' ρ t v := by
  cases t with
  | any => exact trivial
  | one b => exact VB.mono hS hj h
  | agg l => obtain ⟨cs, e, h⟩ := h; exact ⟨cs, e, h.mono hS hj⟩
  | tup l => obtain ⟨cs, e, h⟩ := h; exact ⟨cs, e, h.mono hS hj⟩
  | same u b => exact ⟨h.1, h.2.mono hS hj⟩
theorem VT.rho {t : Ty} {v : Value} (hb : t.free = true) (h : VT E S j ρ t v) : VT E S j ρ' t v := by
  cases t with
  | any => exact trivial
  | one b => exact VB.rho hb h
  | agg l => obtain ⟨cs, e, h⟩ := h; exact ⟨cs, e, h.rho hb⟩
  | tup l => obtain ⟨cs, e, h⟩ := h; exact ⟨cs, e, h.rho hb⟩
  | same u b => simp [Ty.free] at hb
def Bt.speaks : Bt → Option Tmp
  | .nz u _ => some u
  | _ => none
def Ty.speaks : Ty → Option Tmp
  | .one b => b.speaks
  | .same u b => some u
  | _ => none
def Ty.calm : Ty → Bool
  | .agg l => l.all Bt.free
  | .tup l => l.all Cm.free
  | .same _ b => b.free
  | _ => true
theorem VT.rho1 {t : Ty} {v : Value} (hc : t.calm = true) (hu : ∀ u, t.speaks = some u → ρ'.getD u undef = ρ.getD u undef) (h : VT E S j ρ t v) : VT E S j ρ' t v := by
  cases t with
  | any => exact trivial
  | one b =>
    cases b with
    | nz u p =>
      obtain ⟨b, e, hb⟩ := h
      exact ⟨b, e, fun k => by rw [hu u rfl]; exact hb k⟩
    | _ => exact h
  | agg l => exact VT.rho (t := .agg l) hc h
  | tup l => exact VT.rho (t := .tup l) hc h
  | same u b => exact ⟨h.1.trans (hu u rfl).symm, h.2.rho hc⟩
end
def Inv (E : Env) (S : St) (j : Nat) (w : World) : Prop :=
  ∀ b k n, S b = some (k, n) → 0 < E.per k ∧ n % E.per k = 0 ∧ ∃ cs, w.heap[b]? = some (.cells cs (E.elem k) (0, 0)) ∧ cs.size = n ∧
    ∀ i v, cs[i]? = some v → ∃ t, E.cellT k (i % E.per k) = some t ∧ t.free = true ∧ VB E S j #[] t v
structure Stp (E : Env) (S S' : St) (w w' : World) (tc : List (Kd × Nat)) : Prop where
  os : w'.os = w.os
  tape : w'.tape = w.tape
  output : w'.output = w.output
  size : w.heap.size ≤ w'.heap.size
  ext : ∀ b x, S b = some x → S' b = some x
  old : ∀ b, b < w.heap.size → S' b = S b
  out : ∀ b, b < w.heap.size → S b = none → ¬ E.mine b → w'.heap[b]? = w.heap[b]?
  keep : ∀ b k n o, S b = some (k, n) → (k, o % E.per k) ∈ E.watch → (k, o % E.per k) ∉ tc → w'.cell? ⟨b, o, none⟩ = w.cell? ⟨b, o, none⟩
section
variable {E : Env} {S S' S'' : St} {w w' w'' : World} {tc tc' : List (Kd × Nat)}
theorem Stp.refl (E : Env) (S : St) (w : World) (tc : List (Kd × Nat)) : Stp E S S w w tc := ⟨rfl, rfl, rfl, Nat.le_refl _, fun _ _ h => h, fun _ _ => rfl, fun _ _ _ _ => rfl, fun _ _ _ _ _ _ _ => rfl⟩
theorem Stp.more (h : Stp E S S' w w' tc) (hs : ∀ x ∈ tc, x ∈ tc') : Stp E S S' w w' tc' :=
  ⟨h.os, h.tape, h.output, h.size, h.ext, h.old, h.out, fun b k n o h1 h2 h3 => h.keep b k n o h1 h2 fun e => h3 (hs _ e)⟩
theorem Stp.trans (h : Stp E S S' w w' tc) (h' : Stp E S' S'' w' w'' tc) : Stp E S S'' w w'' tc :=
  ⟨h'.os.trans h.os, h'.tape.trans h.tape, h'.output.trans h.output, Nat.le_trans h.size h'.size, fun b x hx => h'.ext _ _ (h.ext _ _ hx),
   fun b hb => (h'.old b (Nat.lt_of_lt_of_le hb h.size)).trans (h.old b hb),
   fun b hb hn hm => (h'.out b (Nat.lt_of_lt_of_le hb h.size) ((h.old b hb).trans hn) hm).trans (h.out b hb hn hm),
   fun b k n o h1 h2 h3 => (h'.keep b k n o (h.ext _ _ h1) h2 h3).trans (h.keep b k n o h1 h2 h3)⟩
theorem Stp.drew (h : Stp E S S' w w' tc) (n : Nat) : Stp E S S' w { w' with drawn := n } tc := ⟨h.os, h.tape, h.output, h.size, h.ext, h.old, h.out, h.keep⟩
theorem Inv.drew {j : Nat} (h : Inv E S j w) (n : Nat) : Inv E S j { w with drawn := n } := h
theorem Inv.lt {j b k n : Nat} (h : Inv E S j w) (hb : S b = some (k, n)) : b < w.heap.size := by
  obtain ⟨_, _, cs, hc, _⟩ := h b k n hb
  rcases Nat.lt_or_ge b w.heap.size with hlt | hge
  · exact hlt
  · rw [Array.getElem?_eq_none hge] at hc; cases hc
theorem Inv.mono {j j' : Nat} (h : Inv E S j w) (hj : j ≤ j') : Inv E S j' w := fun b k n hb => by
  obtain ⟨h1, h2, cs, h3, h4, h5⟩ := h b k n hb
  refine ⟨h1, h2, cs, h3, h4, fun i v hv => ?_⟩
  obtain ⟨t, k1, k2, k3⟩ := h5 i v hv
  exact ⟨t, k1, k2, k3.mono (fun _ _ h => h) hj⟩
theorem Inv.cell {j b k n o : Nat} (h : Inv E S j w) (hb : S b = some (k, n)) (ho : o < n) : ∃ t v, w.cell? ⟨b, o, none⟩ = some v ∧ E.cellT k (o % E.per k) = some t ∧ t.free = true ∧ VB E S j #[] t v := by
  obtain ⟨h1, h2, cs, h3, h4, h5⟩ := h b k n hb
  subst h4
  obtain ⟨t, k1, k2, k3⟩ := h5 o cs[o] (Array.getElem?_eq_getElem ho)
  exact ⟨t, cs[o], by simp [World.cell?, h3, ho], k1, k2, k3⟩
theorem Inv.fz {j b k n o : Nat} (h : Inv E S j w) (hb : S b = some (k, n)) : w.frozen? ⟨b, o, none⟩ = false := by
  obtain ⟨h1, h2, cs, h3, h4, h5⟩ := h b k n hb
  simp [World.frozen?, h3]
theorem Inv.set {j b k n o : Nat} {t : Bt} {u : Value} (h : Inv E S j w) (hb : S b = some (k, n)) (ho : o < n) (ht : E.cellT k (o % E.per k) = some t) (hf : t.free = true) (hu : VB E S j #[] t u) :
    Inv E S j (w.setCell ⟨b, o, none⟩ u) := fun b' k' n' hb' => by
  obtain ⟨h1, h2, cs, h3, h4, h5⟩ := h b' k' n' hb'
  by_cases e : b' = b
  · subst e
    rw [hb] at hb'
    obtain ⟨rfl, rfl⟩ : k = k' ∧ n = n' := by simpa using hb'
    refine ⟨h1, h2, cs.setIfInBounds o u, by simp [World.setCell, Array.getElem?_modify, h3], by simpa using h4, fun i v hv => ?_⟩
    by_cases e : o = i
    · subst e
      rw [Array.getElem?_setIfInBounds_self] at hv
      split at hv
      · cases hv; exact ⟨t, ht, hf, hu⟩
      · cases hv
    · rw [Array.getElem?_setIfInBounds_ne e] at hv
      exact h5 i v hv
  · exact ⟨h1, h2, cs, (Below.heap_setCell w ⟨b, o, none⟩ u b' e).trans h3, h4, h5⟩
theorem Stp.set {b k n o : Nat} (u : Value) (hb : S b = some (k, n)) (htc : (k, o % E.per k) ∈ E.watch → (k, o % E.per k) ∈ tc) : Stp E S S w (w.setCell ⟨b, o, none⟩ u) tc := by
  refine ⟨rfl, rfl, rfl, by simp [World.setCell], fun _ _ h => h, fun _ _ => rfl, fun b' _ hn _ => Below.heap_setCell w ⟨b, o, none⟩ u b' (fun e => ?_), fun b' k' n' o' h1 h2 h3 => ?_⟩
  · simp only at e; subst e; rw [hn] at hb; cases hb
  · refine World.cell?_setCell_other w ⟨b, o, none⟩ ⟨b', o', none⟩ u fun e => ?_
    injection e with e1 e2
    subst e1 e2
    rw [hb] at h1
    obtain ⟨rfl, rfl⟩ : k = k' ∧ n = n' := by simpa using h1
    exact h3 (htc h2)
def St.put (S : St) (b : Nat) (x : Kd × Nat) : St := fun i => if i = b then some x else S i
theorem St.put_ext {b : Nat} {x : Kd × Nat} (hn : S b = none) : ∀ i y, S i = some y → S.put b x i = some y := fun i y h => by
  unfold St.put
  by_cases e : i = b
  · subst e; rw [hn] at h; cases h
  · rw [if_neg e]; exact h
theorem Inv.none {j : Nat} (h : Inv E S j w) {b : Nat} (hb : w.heap.size ≤ b) : S b = none := by
  cases e : S b with
  | none => rfl
  | some x => have := h.lt (b := b) (k := x.1) (n := x.2) e; omega
theorem Stp.new {j : Nat} (h : Inv E S j w) (cs : Array Value) (k : Kd) (tc : List (Kd × Nat)) : Stp E S (S.put w.heap.size (k, cs.size)) w (w.alloc (.cells cs (E.elem k) (0, 0))) tc := by
  refine ⟨rfl, rfl, rfl, by show w.heap.size ≤ (w.heap.push _).size; rw [Array.size_push]; omega, St.put_ext (h.none (Nat.le_refl _)), fun b hb => if_neg (by omega), fun b hb _ _ => Below.heap_alloc w _ b hb, fun b k' n o h1 _ _ => ?_⟩
  exact World.cell?_alloc_lt w _ ⟨b, o, none⟩ (h.lt h1)
theorem Inv.new {j : Nat} (h : Inv E S j w) (cs : Array Value) (k : Kd) (hp : 0 < E.per k) (hn : cs.size % E.per k = 0)
    (hc : ∀ i v, cs[i]? = some v → ∃ t, E.cellT k (i % E.per k) = some t ∧ t.free = true ∧ VB E S j #[] t v) :
    Inv E (S.put w.heap.size (k, cs.size)) j (w.alloc (.cells cs (E.elem k) (0, 0))) := fun b k' n' hb => by
  have hx := St.put_ext (x := (k, cs.size)) (h.none (Nat.le_refl _))
  unfold St.put at hb
  split at hb
  · rename_i e
    subst e
    cases hb
    exact ⟨hp, hn, cs, heap_alloc_new w _, rfl, fun i v hv => by
      obtain ⟨t, k1, k2, k3⟩ := hc i v hv
      exact ⟨t, k1, k2, k3.mono hx (Nat.le_refl _)⟩⟩
  · obtain ⟨h1, h2, cs', h3, h4, h5⟩ := h b k' n' hb
    exact ⟨h1, h2, cs', (Below.heap_alloc w _ b (h.lt hb)).trans h3, h4, fun i v hv => by
      obtain ⟨t, k1, k2, k3⟩ := h5 i v hv
      exact ⟨t, k1, k2, k3.mono hx (Nat.le_refl _)⟩⟩
end
def Env.str (E : Env) : Env := { E with mine := fun _ => False }
section
variable {E : Env} {S S' : St} {w w' : World} {tc : List (Kd × Nat)} {j : Nat} {ρ : Array Value}
theorem VB_str {b : Bt} {v : Value} : VB E.str S j ρ b v ↔ VB E S j ρ b v := by cases b <;> exact Iff.rfl
theorem VL_str {l : List Bt} {vs : List Value} : VL E.str S j ρ l vs ↔ VL E S j ρ l vs := by
  unfold VL
  exact and_congr Iff.rfl (forall_congr' fun _ => forall_congr' fun _ => forall_congr' fun _ => forall_congr' fun _ => forall_congr' fun _ => VB_str)
theorem VC_str {c : Cm} {v : Value} : VC E.str S j ρ c v ↔ VC E S j ρ c v := by
  cases c with
  | one b => exact VB_str
  | agg l => exact exists_congr fun _ => and_congr Iff.rfl VL_str
theorem VM_str {l : List Cm} {vs : List Value} : VM E.str S j ρ l vs ↔ VM E S j ρ l vs := by
  unfold VM
  exact and_congr Iff.rfl (forall_congr' fun _ => forall_congr' fun _ => forall_congr' fun _ => forall_congr' fun _ => forall_congr' fun _ => VC_str)
theorem VT_str {t : Ty} {v : Value} : VT E.str S j ρ t v ↔ VT E S j ρ t v := by
  cases t with
  | any => exact Iff.rfl
  | one b => exact VB_str
  | agg l => exact exists_congr fun _ => and_congr Iff.rfl VL_str
  | tup l => exact exists_congr fun _ => and_congr Iff.rfl VM_str
  | same u b => exact and_congr Iff.rfl VB_str
theorem Inv_str : Inv E.str S j w ↔ Inv E S j w := by
  unfold Inv
  refine forall_congr' fun b => forall_congr' fun k => forall_congr' fun n => forall_congr' fun _ => and_congr Iff.rfl (and_congr Iff.rfl (exists_congr fun cs => and_congr Iff.rfl (and_congr Iff.rfl ?_)))
  exact forall_congr' fun i => forall_congr' fun v => forall_congr' fun _ => exists_congr fun t => and_congr Iff.rfl (and_congr Iff.rfl VB_str)
theorem Stp.weak (h : Stp E.str S S' w w' tc) : Stp E S S' w w' tc :=
  ⟨h.os, h.tape, h.output, h.size, h.ext, h.old, fun b hb hn _ => h.out b hb hn (fun e => e), h.keep⟩
end
end Ck
end Go.Proofs.YtnlaedfnifimkaaGreat
namespace Go.Proofs.YtnlaedfnifimkaaGreat
open Go.RowKit
namespace Ck
def assoc {α : Type} : List (Nat × α) → Nat → Option α
  | [], _ => none
  | (n, x) :: r, i => if n = i then some x else assoc r i
structure TI where
  desc : TypeDesc
  size : Nat
  bytes : Nat
  zero : List Value
structure Cfg where
  K : List KI
  ti : List (TypeId × TI)
  kinds : List (TypeId × Kd)
  watch : List (Kd × Nat)
  g0 : Nat
  meths : List (TypeId × String × FuncId)
def TIok (P : Program) (t : TypeId) (i : TI) : Prop :=
  ∃ inf, P.info? t = some inf ∧ P.underlying t = some i.desc ∧ inf.size = i.size ∧ inf.bytes = i.bytes ∧ (i.zero ≠ [] → ∃ z, inf.zero = some z ∧ z.cells.toList = i.zero)
structure CfgOk (P : Program) (E : Env) (C : Cfg) : Prop where
  K : E.K = C.K
  watch : E.watch = C.watch
  g0 : C.g0 ≤ E.G
  room : E.G + E.J ≤ 1000000000
  ti : ∀ t i, assoc C.ti t = some i → TIok P t i
  kinds : ∀ t k, assoc C.kinds t = some k → E.elem k = t ∧ 0 < E.per k ∧ ∃ i, assoc C.ti t = some i ∧ i.size = E.per k
  op : ∀ n v, E.op n v → v.oneCell' = true
  op01 : ∀ v, E.op 0 v → E.op 1 v
  op1z : E.op 1 (.int .u64 0)
  meths : ∀ t m f, (t, m, f) ∈ C.meths → ∀ (a : Addr) (w : World),
    (method (P.types.size + Made.depth) t (.pointer (some a)) m).run P w = .ok (f, .pointer (some a)) w ∧ (nilAhead (P.types.size + Made.depth) t (.pointer (some a)) m).run P w = .ok (some false) w
theorem CfgOk.str {P : Program} {E : Env} {C : Cfg} (h : CfgOk P E C) : CfgOk P E.str C := ⟨h.K, h.watch, h.g0, h.room, h.ti, h.kinds, h.op, h.op01, h.op1z, h.meths⟩
def loIn : Option Nat → Option Nat → Bool
  | some y, some x => decide (x ≤ y)
  | none, none => true
  | _, some x => x == 0
  | some _, none => false
def hiIn (g0 : Nat) : Option Nat → Option Nat → Bool
  | some y, some x => decide (y ≤ x)
  | some y, none => decide (y ≤ g0)
  | none, none => true
  | none, some _ => false
def subB (g0 : Nat) : Bt → Bt → Bool
  | .bool o, .bool o' => o' == none || o == o'
  | .nz u p, .bool o' => o' == none
  | .int k a b, .int k' a' b' => k == k' && decide (a' ≤ a) && decide (b ≤ b')
  | .str o, .str o' => o' == none || o == o'
  | .ptr k a b n, .ptr k' a' b' n' => (!n || n') && (decide (b < a) || (k == k' && decide (a' ≤ a) && decide (b ≤ b')))
  | .slice k a b, .slice k' a' b' => k == k' && loIn a a' && hiIn g0 b b'
  | .nils, .slice _ a' _ => a' == some 0
  | .opq a, .opq b => a == b || (a == 0 && b == 1)
  | .int k a b, .opq n => n == 1 && k == .u64 && decide (a = 0) && decide (b = 0)
  | a, b => a == b
section
variable {P : Program} {E : Env} {C : Cfg} {S : St} {j : Nat} {ρ : Array Value}
theorem subB_ok (hC : CfgOk P E C) {a b : Bt} {v : Value} (h : subB C.g0 a b = true) (hv : VB E S j ρ a v) : VB E S j ρ b v := by
  have hg := hC.g0
  have eqc : (a == b) = true → VB E S j ρ b v := fun e => by rw [← (by simpa using e : a = b)]; exact hv
  cases a <;> cases b <;> simp only [subB] at h <;> first
    | exact eqc h
    | skip
  case bool.bool o o' =>
    obtain ⟨x, rfl, hx⟩ := hv
    refine ⟨x, rfl, fun c hc => ?_⟩
    subst hc
    have : o = some c := by simpa using h
    exact hx c this
  case int.int k lo hi k' lo' hi' =>
    simp only [Bool.and_eq_true, beq_iff_eq, decide_eq_true_eq] at h
    obtain ⟨⟨rfl, h1⟩, h2⟩ := h
    obtain ⟨n, rfl, h3, h4⟩ := hv
    exact ⟨n, rfl, by omega, by omega⟩
  case str.str o o' =>
    obtain ⟨x, rfl, hx⟩ := hv
    refine ⟨x, rfl, fun c hc => ?_⟩
    subst hc
    have : o = some c := by simpa using h
    exact hx c this
  case ptr.ptr k lo hi n k' lo' hi' n' =>
    simp only [Bool.and_eq_true, Bool.or_eq_true, beq_iff_eq, decide_eq_true_eq, Bool.not_eq_true'] at h
    obtain ⟨h1, h2⟩ := h
    rcases hv with ⟨e, rfl⟩ | ⟨b, o, m, rfl, k1, k2, k3, k4⟩
    · exact .inl ⟨h1.resolve_left (by simp [e]), rfl⟩
    · rcases h2 with h2 | ⟨⟨rfl, h3⟩, h4⟩
      · omega
      · exact .inr ⟨b, o, m, rfl, k1, k2, by omega, by omega⟩
  case slice.slice k lo hi k' lo' hi' =>
    simp only [Bool.and_eq_true, beq_iff_eq] at h
    obtain ⟨⟨rfl, h1⟩, h2⟩ := h
    obtain ⟨a, len, cap, rfl, h3, h4, h5, h6, h7, h8⟩ := hv
    refine ⟨a, len, cap, rfl, h3, h4, ?_, ?_, ?_, h8⟩
    · cases lo <;> cases lo' <;> simp [loIn] at h1 h5 ⊢ <;> omega
    · intro m hm
      subst hm
      cases hi with
      | none => simp [hiIn] at h2
      | some y => simp [hiIn] at h2; have := h6 y rfl; omega
    · intro hm
      subst hm
      cases hi with
      | none => exact h7 rfl
      | some y => simp [hiIn] at h2; have := h6 y rfl; omega
  case nz.bool u p o' =>
    obtain ⟨x, rfl, hx⟩ := hv
    refine ⟨x, rfl, fun c hc => ?_⟩
    subst hc
    simp at h
  case int.opq k lo hi n =>
    simp only [Bool.and_eq_true, beq_iff_eq, decide_eq_true_eq] at h
    obtain ⟨⟨⟨rfl, rfl⟩, rfl⟩, rfl⟩ := h
    obtain ⟨m, rfl, h3, h4⟩ := hv
    obtain rfl : m = 0 := by omega
    exact hC.op1z
  case opq.opq a b =>
    simp only [Bool.or_eq_true, beq_iff_eq, Bool.and_eq_true] at h
    rcases h with rfl | ⟨rfl, rfl⟩
    · exact hv
    · exact hC.op01 v hv
  case nils.slice k lo hi =>
    have hv : v = .slice none 0 0 := hv
    subst hv
    have : lo = some 0 := by simpa using h
    subst this
    exact ⟨none, 0, 0, rfl, Nat.le_refl _, by unfold maxLen; omega, Nat.le_refl _, fun _ _ => Nat.zero_le _, fun _ => Nat.zero_le _, .inl ⟨rfl, rfl⟩⟩
def subL (g0 : Nat) : List Bt → List Bt → Bool
  | [], [] => true
  | a :: r, b :: s => subB g0 a b && subL g0 r s
  | _, _ => false
theorem subL_ok (hC : CfgOk P E C) : ∀ {a b : List Bt} {vs : List Value}, subL C.g0 a b = true → VL E S j ρ a vs → VL E S j ρ b vs
  | [], [], vs, _, h => h
  | x :: r, y :: s, [], h, hv => by have := hv.1; simp at this
  | x :: r, y :: s, v :: vs, h, hv => by
    simp only [subL, Bool.and_eq_true] at h
    have ih := subL_ok hC h.2 (vs := vs) ⟨by simpa using hv.1, fun i b u hb hu => hv.2 (i + 1) b u (by simpa using hb) (by simpa using hu)⟩
    refine ⟨by simpa using ih.1, fun i b u hb hu => ?_⟩
    cases i with
    | zero => simp at hb hu; subst hb hu; exact subB_ok hC h.1 (hv.2 0 x v rfl rfl)
    | succ i => exact ih.2 i b u (by simpa using hb) (by simpa using hu)
  | [], _ :: _, _, h, _ => by simp [subL] at h
  | _ :: _, [], _, h, _ => by simp [subL] at h
def subC (g0 : Nat) : Cm → Cm → Bool
  | .one a, .one b => subB g0 a b
  | .agg l, .agg m => subL g0 l m
  | _, _ => false
theorem subC_ok (hC : CfgOk P E C) {a b : Cm} {v : Value} (h : subC C.g0 a b = true) (hv : VC E S j ρ a v) : VC E S j ρ b v := by
  cases a <;> cases b <;> simp only [subC] at h
  · exact subB_ok hC h hv
  · cases h
  · cases h
  · obtain ⟨cs, e, hl⟩ := hv; exact ⟨cs, e, subL_ok hC h hl⟩
def subM (g0 : Nat) : List Cm → List Cm → Bool
  | [], [] => true
  | a :: r, b :: s => subC g0 a b && subM g0 r s
  | _, _ => false
theorem subM_ok (hC : CfgOk P E C) : ∀ {a b : List Cm} {vs : List Value}, subM C.g0 a b = true → VM E S j ρ a vs → VM E S j ρ b vs
  | [], [], vs, _, h => h
  | x :: r, y :: s, [], h, hv => by have := hv.1; simp at this
  | x :: r, y :: s, v :: vs, h, hv => by
    simp only [subM, Bool.and_eq_true] at h
    have ih := subM_ok hC h.2 (vs := vs) ⟨by simpa using hv.1, fun i b u hb hu => hv.2 (i + 1) b u (by simpa using hb) (by simpa using hu)⟩
    refine ⟨by simpa using ih.1, fun i b u hb hu => ?_⟩
    cases i with
    | zero => simp at hb hu; subst hb hu; exact subC_ok hC h.1 (hv.2 0 x v rfl rfl)
    | succ i => exact ih.2 i b u (by simpa using hb) (by simpa using hu)
  | [], _ :: _, _, h, _ => by simp [subM] at h
  | _ :: _, [], _, h, _ => by simp [subM] at h
def Ty.base : Ty → Ty
  | .same _ b => .one b
  | t => t
theorem base_ok {t : Ty} {v : Value} (h : VT E S j ρ t v) : VT E S j ρ t.base v := by
  cases t with
  | same u b => exact h.2
  | _ => exact h
def subT (g0 : Nat) (a b : Ty) : Bool :=
  match a.base, b with
  | _, .any => true
  | .one x, .one y => subB g0 x y
  | .agg l, .agg m => subL g0 l m
  | .tup l, .tup m => subM g0 l m
  | _, _ => a == b
theorem subT_ok (hC : CfgOk P E C) {a b : Ty} {v : Value} (h : subT C.g0 a b = true) (hv : VT E S j ρ a v) : VT E S j ρ b v := by
  have hb := base_ok hv
  unfold subT at h
  split at h
  · exact trivial
  · rename_i x y e; rw [e] at hb; exact subB_ok hC h hb
  · rename_i l m e; rw [e] at hb; obtain ⟨cs, e', hl⟩ := hb; exact ⟨cs, e', subL_ok hC h hl⟩
  · rename_i l m e; rw [e] at hb; obtain ⟨cs, e', hl⟩ := hb; exact ⟨cs, e', subM_ok hC h hl⟩
  · exact (by simpa using h : a = _) ▸ hv
def hullB : Bt → Bt → Bt
  | .bool _, .bool _ => .bool none
  | .bool _, .nz .. => .bool none
  | .nz .., .bool _ => .bool none
  | .nz .., .nz .. => .bool none
  | .int k lo hi, .int _ lo' hi' => .int k (min lo lo') (max hi hi')
  | .ptr k lo hi n, .ptr k' lo' hi' n' => if hi < lo then .ptr k' lo' hi' true else if hi' < lo' then .ptr k lo hi true else .ptr k (min lo lo') (max hi hi') (n || n')
  | .slice k _ _, .slice _ _ _ => .slice k (some 0) none
  | .nils, .slice k _ hi => .slice k (some 0) hi
  | .slice k _ hi, .nils => .slice k (some 0) hi
  | .str _, .str _ => .str none
  | x, _ => x
def joinB (g0 : Nat) (a b : Bt) : Option Bt :=
  if subB g0 a b then some b else if subB g0 b a then some a else
  if subB g0 a (hullB a b) && subB g0 b (hullB a b) then some (hullB a b) else none
theorem joinB_ok (hC : CfgOk P E C) {a b c : Bt} {v : Value} (h : joinB C.g0 a b = some c) : (VB E S j ρ a v → VB E S j ρ c v) ∧ (VB E S j ρ b v → VB E S j ρ c v) := by
  unfold joinB at h
  split at h
  · rename_i e; cases h; exact ⟨subB_ok hC e, id⟩
  · split at h
    · rename_i e; cases h; exact ⟨id, subB_ok hC e⟩
    · split at h
      · rename_i e
        cases h
        simp only [Bool.and_eq_true] at e
        exact ⟨subB_ok hC e.1, subB_ok hC e.2⟩
      · cases h
def joinL (g0 : Nat) : List Bt → List Bt → Option (List Bt)
  | [], [] => some []
  | a :: r, b :: s => match joinB g0 a b, joinL g0 r s with
    | some c, some l => some (c :: l)
    | _, _ => none
  | _, _ => none
theorem joinL_ok (hC : CfgOk P E C) : ∀ {a b c : List Bt} {vs : List Value}, joinL C.g0 a b = some c → (VL E S j ρ a vs → VL E S j ρ c vs) ∧ (VL E S j ρ b vs → VL E S j ρ c vs)
  | [], [], c, vs, h => by cases h; exact ⟨id, id⟩
  | x :: r, y :: s, c, vs, h => by
    simp only [joinL] at h
    split at h
    · rename_i d l e1 e2
      cases h
      have hb := fun v => joinB_ok (S := S) (j := j) (ρ := ρ) (v := v) hC e1
      cases vs with
      | nil => exact ⟨fun hv => by have := hv.1; simp at this, fun hv => by have := hv.1; simp at this⟩
      | cons v vs =>
        have ih := joinL_ok hC (vs := vs) e2
        constructor
        · intro hv
          have := ih.1 ⟨by simpa using hv.1, fun i b u hb hu => hv.2 (i + 1) b u (by simpa using hb) (by simpa using hu)⟩
          refine ⟨by simpa using this.1, fun i b u hb' hu => ?_⟩
          cases i with
          | zero => simp at hb' hu; subst hb' hu; exact (hb v).1 (hv.2 0 x v rfl rfl)
          | succ i => exact this.2 i b u (by simpa using hb') (by simpa using hu)
        · intro hv
          have := ih.2 ⟨by simpa using hv.1, fun i b u hb hu => hv.2 (i + 1) b u (by simpa using hb) (by simpa using hu)⟩
          refine ⟨by simpa using this.1, fun i b u hb' hu => ?_⟩
          cases i with
          | zero => simp at hb' hu; subst hb' hu; exact (hb v).2 (hv.2 0 y v rfl rfl)
          | succ i => exact this.2 i b u (by simpa using hb') (by simpa using hu)
    · cases h
  | [], _ :: _, _, _, h => by simp [joinL] at h
  | _ :: _, [], _, _, h => by simp [joinL] at h
def joinC (g0 : Nat) : Cm → Cm → Option Cm
  | .one a, .one b => (joinB g0 a b).map .one
  | .agg l, .agg m => (joinL g0 l m).map .agg
  | _, _ => none
theorem joinC_ok (hC : CfgOk P E C) {a b c : Cm} {v : Value} (h : joinC C.g0 a b = some c) : (VC E S j ρ a v → VC E S j ρ c v) ∧ (VC E S j ρ b v → VC E S j ρ c v) := by
  cases a <;> cases b <;> simp only [joinC] at h
  · simp only [Option.map_eq_some_iff] at h
    obtain ⟨d, hd, rfl⟩ := h
    exact joinB_ok hC hd
  · cases h
  · cases h
  · simp only [Option.map_eq_some_iff] at h
    obtain ⟨d, hd, rfl⟩ := h
    exact ⟨fun ⟨cs, e, hl⟩ => ⟨cs, e, (joinL_ok hC hd).1 hl⟩, fun ⟨cs, e, hl⟩ => ⟨cs, e, (joinL_ok hC hd).2 hl⟩⟩
def joinM (g0 : Nat) : List Cm → List Cm → Option (List Cm)
  | [], [] => some []
  | a :: r, b :: s => match joinC g0 a b, joinM g0 r s with
    | some c, some l => some (c :: l)
    | _, _ => none
  | _, _ => none
theorem joinM_ok (hC : CfgOk P E C) : ∀ {a b c : List Cm} {vs : List Value}, joinM C.g0 a b = some c → (VM E S j ρ a vs → VM E S j ρ c vs) ∧ (VM E S j ρ b vs → VM E S j ρ c vs)
  | [], [], c, vs, h => by cases h; exact ⟨id, id⟩
  | x :: r, y :: s, c, vs, h => by
    simp only [joinM] at h
    split at h
    · rename_i d l e1 e2
      cases h
      have hb := fun v => joinC_ok (S := S) (j := j) (ρ := ρ) (v := v) hC e1
      cases vs with
      | nil => exact ⟨fun hv => by have := hv.1; simp at this, fun hv => by have := hv.1; simp at this⟩
      | cons v vs =>
        have ih := joinM_ok hC (vs := vs) e2
        constructor
        · intro hv
          have := ih.1 ⟨by simpa using hv.1, fun i b u hb hu => hv.2 (i + 1) b u (by simpa using hb) (by simpa using hu)⟩
          refine ⟨by simpa using this.1, fun i b u hb' hu => ?_⟩
          cases i with
          | zero => simp at hb' hu; subst hb' hu; exact (hb v).1 (hv.2 0 x v rfl rfl)
          | succ i => exact this.2 i b u (by simpa using hb') (by simpa using hu)
        · intro hv
          have := ih.2 ⟨by simpa using hv.1, fun i b u hb hu => hv.2 (i + 1) b u (by simpa using hb) (by simpa using hu)⟩
          refine ⟨by simpa using this.1, fun i b u hb' hu => ?_⟩
          cases i with
          | zero => simp at hb' hu; subst hb' hu; exact (hb v).2 (hv.2 0 y v rfl rfl)
          | succ i => exact this.2 i b u (by simpa using hb') (by simpa using hu)
    · cases h
  | [], _ :: _, _, _, h => by simp [joinM] at h
  | _ :: _, [], _, _, h => by simp [joinM] at h
def joinT (g0 : Nat) (a b : Ty) : Ty :=
  if a = b then a else
  match a.base, b.base with
  | .one x, .one y => match joinB g0 x y with
    | some c => .one c
    | none => .any
  | .agg l, .agg m => match joinL g0 l m with
    | some c => .agg c
    | none => .any
  | .tup l, .tup m => match joinM g0 l m with
    | some c => .tup c
    | none => .any
  | _, _ => .any
theorem joinT_ok (hC : CfgOk P E C) {a b : Ty} {v : Value} : (VT E S j ρ a v → VT E S j ρ (joinT C.g0 a b) v) ∧ (VT E S j ρ b v → VT E S j ρ (joinT C.g0 a b) v) := by
  unfold joinT
  split
  · rename_i e; subst e; exact ⟨id, id⟩
  · constructor
    · intro hv
      have hb := base_ok hv
      split
      · rename_i x y e1 e2
        split
        · rename_i c e; rw [e1] at hb; exact (joinB_ok hC e).1 hb
        · exact trivial
      · rename_i x y e1 e2
        split
        · rename_i c e; rw [e1] at hb; obtain ⟨cs, e', hl⟩ := hb; exact ⟨cs, e', (joinL_ok hC e).1 hl⟩
        · exact trivial
      · rename_i x y e1 e2
        split
        · rename_i c e; rw [e1] at hb; obtain ⟨cs, e', hl⟩ := hb; exact ⟨cs, e', (joinM_ok hC e).1 hl⟩
        · exact trivial
      · exact trivial
    · intro hv
      have hb := base_ok hv
      split
      · rename_i x y e1 e2
        split
        · rename_i c e; rw [e2] at hb; exact (joinB_ok hC e).2 hb
        · exact trivial
      · rename_i x y e1 e2
        split
        · rename_i c e; rw [e2] at hb; obtain ⟨cs, e', hl⟩ := hb; exact ⟨cs, e', (joinL_ok hC e).2 hl⟩
        · exact trivial
      · rename_i x y e1 e2
        split
        · rename_i c e; rw [e2] at hb; obtain ⟨cs, e', hl⟩ := hb; exact ⟨cs, e', (joinM_ok hC e).2 hl⟩
        · exact trivial
      · exact trivial
end
end Ck
end Go.Proofs.YtnlaedfnifimkaaGreat
namespace Go.Proofs.YtnlaedfnifimkaaGreat
open Go.RowKit
namespace Ck
theorem wrap_in (k : IntKind) (n : Int) : k.min ≤ k.wrap n ∧ k.wrap n ≤ k.max := by
  cases k <;> simp [IntKind.wrap, IntKind.min, IntKind.max, IntKind.bits, IntKind.signed] <;> (try split) <;> omega
theorem wrap_id {k : IntKind} {n : Int} (h0 : k.min ≤ n) (h1 : n ≤ k.max) : k.wrap n = n := by
  cases k <;> simp [IntKind.wrap, IntKind.min, IntKind.max, IntKind.bits, IntKind.signed] at * <;> (try split) <;> omega
def fullB (k : IntKind) : Bt := .int k k.min k.max
def fitB (k : IntKind) (lo hi : Int) : Bt := if k.min ≤ lo ∧ hi ≤ k.max then .int k lo hi else fullB k
section
variable {P : Program} {E : Env} {C : Cfg} {S : St} {j : Nat} {ρ : Array Value}
theorem fullB_ok (k : IntKind) (n : Int) : VB E S j ρ (fullB k) (.int k (k.wrap n)) := ⟨_, rfl, wrap_in k n⟩
theorem fitB_ok {k : IntKind} {lo hi n : Int} (h0 : lo ≤ n) (h1 : n ≤ hi) : VB E S j ρ (fitB k lo hi) (.int k (k.wrap n)) := by
  unfold fitB
  split
  · rename_i h
    rw [wrap_id (by omega) (by omega)]
    exact ⟨_, rfl, h0, h1⟩
  · exact fullB_ok k n
def cmpB (op : BinOp) (a b c d : Int) : Option (Option Bool) :=
  match op with
  | .eql => some (if b < c ∨ d < a then some false else if a = b ∧ c = d ∧ a = c then some true else none)
  | .neq => some (if b < c ∨ d < a then some true else if a = b ∧ c = d ∧ a = c then some false else none)
  | .lss => some (if b < c then some true else if d ≤ a then some false else none)
  | .leq => some (if b ≤ c then some true else if d < a then some false else none)
  | .gtr => some (if d < a then some true else if b ≤ c then some false else none)
  | .geq => some (if d ≤ a then some true else if b < c then some false else none)
  | _ => none
theorem cmpB_ok {op : BinOp} {a b c d x y : Int} {r : Option Bool} {w : World} (h : cmpB op a b c d = some r) (h1 : a ≤ x) (h2 : x ≤ b) (h3 : c ≤ y) (h4 : y ≤ d) :
    ∃ v, (Op.intCmp op x y).run P w = .ok v w ∧ VB E S j ρ (.bool r) v := by
  cases op <;> simp only [cmpB] at h <;> try contradiction
  all_goals
    injection h with h
    refine ⟨_, rfl, _, rfl, fun e he => ?_⟩
    subst he
    split at h
    · cases h
      simp
      omega
    · split at h
      · cases h
        simp
        omega
      · cases h
def binI (op : BinOp) (k : IntKind) (a b : Int) (k' : IntKind) (c d : Int) : Option Bt :=
  match op with
  | .shl => if c < 0 then none else if c = d ∧ 0 ≤ a ∧ c ≤ 62 then some (fitB k (a * 2 ^ min c.toNat k.bits) (b * 2 ^ min c.toNat k.bits)) else some (fullB k)
  | .shr => if c < 0 then none else if 0 ≤ a then some (if c = d ∧ c ≤ 62 then .int k (a / 2 ^ min c.toNat k.bits) (b / 2 ^ min c.toNat k.bits) else .int k 0 b) else if k.min ≤ a ∧ b ≤ k.max then some (fullB k) else none
  | .add => if k = k' then some (fitB k (a + c) (b + d)) else none
  | .sub => if k = k' then some (fitB k (a - d) (b - c)) else none
  | .mul => if k = k' then some (if 0 ≤ a ∧ 0 ≤ c then fitB k (a * c) (b * d) else fullB k) else none
  | .and => if k = k' then some (if c = d ∧ 0 ≤ c ∧ c ≤ k.max then .int k 0 c else if a = b ∧ 0 ≤ a ∧ a ≤ k.max then .int k 0 a else fullB k) else none
  | .or | .xor | .andNot => if k = k' then some (fullB k) else none
  | .quo => if k = k' ∧ c = d ∧ 0 < c then some (if 0 ≤ a then fitB k (a / c) (b / c) else fullB k) else none
  | .rem => if k = k' ∧ c = d ∧ 0 < c then some (if 0 ≤ a then .int k (if a = b then a % c else 0) (if a = b then a % c else c - 1) else .int k (1 - c) (c - 1)) else none
  | op => if k = k' then (cmpB op a b c d).map .bool else none
theorem land_le (k : IntKind) (x m : Int) (h0 : 0 ≤ m) (h1 : m ≤ k.max) : k.wrap ((BitVec.ofInt k.bits x &&& BitVec.ofInt k.bits m).toNat : Int) = ((BitVec.ofInt k.bits x &&& BitVec.ofInt k.bits m).toNat : Int) ∧ (0:Int) ≤ ((BitVec.ofInt k.bits x &&& BitVec.ofInt k.bits m).toNat : Int) ∧ ((BitVec.ofInt k.bits x &&& BitVec.ofInt k.bits m).toNat : Int) ≤ m := by
  have hm : ((BitVec.ofInt k.bits m).toNat : Int) = m := by
    rw [BitVec.toNat_ofInt]
    have : m < 2 ^ k.bits := by cases k <;> simp [IntKind.max, IntKind.bits, IntKind.signed] at * <;> omega
    have e : m % ((2 ^ k.bits : Nat) : Int) = m := Int.emod_eq_of_lt h0 (by simpa using this)
    omega
  have hle : (BitVec.ofInt k.bits x &&& BitVec.ofInt k.bits m).toNat ≤ (BitVec.ofInt k.bits m).toNat := by rw [BitVec.toNat_and]; exact Nat.and_le_right
  have hmin : k.min ≤ 0 := by cases k <;> decide
  refine ⟨wrap_id (by omega) (by omega), by omega, by omega⟩
theorem land_le' (k : IntKind) (x m : Int) (h0 : 0 ≤ m) (h1 : m ≤ k.max) : k.wrap ((BitVec.ofInt k.bits m &&& BitVec.ofInt k.bits x).toNat : Int) = ((BitVec.ofInt k.bits m &&& BitVec.ofInt k.bits x).toNat : Int) ∧ (0:Int) ≤ ((BitVec.ofInt k.bits m &&& BitVec.ofInt k.bits x).toNat : Int) ∧ ((BitVec.ofInt k.bits m &&& BitVec.ofInt k.bits x).toNat : Int) ≤ m := by
  rw [BitVec.and_comm]; exact land_le k x m h0 h1
theorem binI_ok {op : BinOp} {k k' : IntKind} {a b c d x y : Int} {t : Bt} (xt : TypeId) {w : World} (h : binI op k a b k' c d = some t) (h1 : a ≤ x) (h2 : x ≤ b) (h3 : c ≤ y) (h4 : y ≤ d) :
    ∃ v, (binOp op xt (.int k x) (.int k' y)).run P w = .ok v w ∧ VB E S j ρ t v := by
  cases op <;> simp only [binI] at h
  case add =>
    split at h <;> cases h; rename_i e; subst e
    exact ⟨_, by simp [binOp, Op.intArith]; rfl, fitB_ok (by omega) (by omega)⟩
  case sub =>
    split at h <;> cases h; rename_i e; subst e
    exact ⟨_, by simp [binOp, Op.intArith]; rfl, fitB_ok (by omega) (by omega)⟩
  case mul =>
    split at h <;> cases h; rename_i e; subst e
    refine ⟨_, by simp [binOp, Op.intArith]; rfl, ?_⟩
    split
    · rename_i hp
      exact fitB_ok (Int.mul_le_mul h1 h3 hp.2 (by omega)) (Int.mul_le_mul h2 h4 (by omega) (by omega))
    · exact fullB_ok _ _
  case and =>
    split at h <;> cases h; rename_i e; subst e
    refine ⟨.int k (k.wrap ((BitVec.ofInt k.bits x &&& BitVec.ofInt k.bits y).toNat : Int)), by simp [binOp, Op.intBits], ?_⟩
    split
    · rename_i hp
      obtain ⟨rfl, hp⟩ := hp
      obtain rfl : y = c := by omega
      obtain ⟨e1, e2, e3⟩ := land_le k x y hp.1 hp.2
      rw [e1]; exact ⟨_, rfl, e2, e3⟩
    · split
      · rename_i hp
        obtain ⟨rfl, hp⟩ := hp
        obtain rfl : x = a := by omega
        obtain ⟨e1, e2, e3⟩ := land_le' k y x hp.1 hp.2
        rw [e1]; exact ⟨_, rfl, e2, e3⟩
      · exact fullB_ok _ _
  case or => split at h <;> cases h; rename_i e; subst e; exact ⟨_, by simp [binOp, Op.intBits]; rfl, fullB_ok _ _⟩
  case xor => split at h <;> cases h; rename_i e; subst e; exact ⟨_, by simp [binOp, Op.intBits]; rfl, fullB_ok _ _⟩
  case andNot => split at h <;> cases h; rename_i e; subst e; exact ⟨_, by simp [binOp, Op.intBits]; rfl, fullB_ok _ _⟩
  case quo =>
    split at h <;> cases h; rename_i e; obtain ⟨rfl, rfl, e⟩ := e
    obtain rfl : y = c := by omega
    refine ⟨.int k (k.wrap (x.tdiv y)), by simp [binOp, Op.intDiv, show ¬ y = 0 by omega], ?_⟩
    split
    · rename_i hp
      rw [Int.tdiv_eq_ediv_of_nonneg (by omega)]
      exact fitB_ok (Int.ediv_le_ediv e h1) (Int.ediv_le_ediv e h2)
    · exact fullB_ok _ _
  case rem =>
    split at h <;> cases h; rename_i e; obtain ⟨rfl, rfl, e⟩ := e
    obtain rfl : y = c := by omega
    refine ⟨.int k (x.tmod y), by simp [binOp, Op.intDiv, show ¬ y = 0 by omega], ?_⟩
    split
    · rename_i hp
      rw [Int.tmod_eq_emod_of_nonneg (by omega)]
      have u0 := Int.emod_nonneg x (show y ≠ 0 by omega)
      have u1 := Int.emod_lt_of_pos x e
      by_cases he : a = b
      · subst he
        obtain rfl : x = a := by omega
        exact ⟨_, rfl, by simp, by simp⟩
      · exact ⟨_, rfl, by simp [he]; omega, by simp [he]; omega⟩
    · have u0 := Int.lt_tmod_of_pos x e
      have u1 := Int.tmod_lt_of_pos x e
      exact ⟨_, rfl, by omega, by omega⟩
  case shl =>
    split at h
    · cases h
    · rename_i hc
      have hn : ¬ y < 0 := by omega
      have run : (binOp .shl xt (.int k x) (.int k' y)).run P w = .ok (.int k (k.wrap (x * 2 ^ min y.toNat k.bits))) w := by simp [binOp, Op.shift, hn]
      split at h <;> cases h
      · rename_i hp
        obtain ⟨rfl, h0, _⟩ := hp
        obtain rfl : y = c := by omega
        have hpow : (0:Int) < 2 ^ min y.toNat k.bits := Int.pow_pos (by omega)
        exact ⟨_, run, fitB_ok (Int.mul_le_mul_of_nonneg_right h1 (by omega)) (Int.mul_le_mul_of_nonneg_right h2 (by omega))⟩
      · exact ⟨_, run, fullB_ok _ _⟩
  case shr =>
    split at h
    · cases h
    · rename_i hc
      have hn : ¬ y < 0 := by omega
      have run : (binOp .shr xt (.int k x) (.int k' y)).run P w = .ok (.int k (x.fdiv (2 ^ min y.toNat k.bits))) w := by simp [binOp, Op.shift, hn]
      have hpow : (0:Int) < 2 ^ min y.toNat k.bits := Int.pow_pos (by omega)
      rw [Int.fdiv_eq_ediv_of_nonneg _ (by omega)] at run
      generalize hq : (2:Int) ^ min y.toNat k.bits = q at *
      split at h
      · rename_i h0
        cases h
        refine ⟨_, run, ?_⟩
        split
        · rename_i hp
          obtain ⟨rfl, _⟩ := hp
          obtain rfl : y = c := by omega
          rw [hq]
          exact ⟨_, rfl, Int.ediv_le_ediv hpow h1, Int.ediv_le_ediv hpow h2⟩
        · exact ⟨_, rfl, Int.ediv_nonneg (by omega) (by omega), Int.le_trans (Int.ediv_le_self q (by omega)) h2⟩
      · split at h <;> cases h
        rename_i h0 hp
        refine ⟨_, run, _, rfl, ?_, ?_⟩
        · have hmin : k.min ≤ 0 := by cases k <;> decide
          refine Int.le_trans (show k.min ≤ k.min / q from ?_) (Int.ediv_le_ediv hpow (by omega))
          exact Int.le_ediv_of_mul_le hpow (by have := Int.mul_le_mul_of_nonpos_left hmin (show (1:Int) ≤ q by omega); omega)
        · have hmax : 0 ≤ k.max := by cases k <;> decide
          refine Int.le_trans (Int.ediv_le_ediv hpow (show x ≤ k.max by omega)) (Int.ediv_le_self q hmax)
  all_goals
    split at h
    · rename_i e
      subst e
      simp only [Option.map_eq_some_iff] at h
      obtain ⟨r, hr, rfl⟩ := h
      obtain ⟨v, k1, k2⟩ := cmpB_ok (P := P) (E := E) (S := S) (j := j) (ρ := ρ) (w := w) hr h1 h2 h3 h4
      refine ⟨v, ?_, k2⟩
      rw [← k1]
      simp [binOp]
    · cases h
theorem eqGuard_int (op : BinOp) (t : TypeId) (x y : Operand) (k k' : IntKind) (a b : Int) (w : World) : (eqGuard op t x y (.int k a) (.int k' b)).run P w = .ok () w := by
  unfold eqGuard
  cases op <;> rfl
end
end Ck
end Go.Proofs.YtnlaedfnifimkaaGreat
namespace Go.Proofs.YtnlaedfnifimkaaGreat
open Go.RowKit
namespace Ck
def Cfg.per (C : Cfg) (k : Kd) : Nat := ((C.K[k]?).map (·.p)).getD 0
def Cfg.elem (C : Cfg) (k : Kd) : TypeId := ((C.K[k]?).map (·.elem)).getD 0
def Cfg.segs (C : Cfg) (k : Kd) : List (Nat × Bt) := ((C.K[k]?).map (·.segs)).getD []
def Bt.clean : Bt → Bt
  | .nz .. => .bool none
  | b => b
def Cm.clean : Cm → Cm
  | .one b => .one b.clean
  | .agg l => .agg (l.map Bt.clean)
def Ty.clean : Ty → Ty
  | .any => .any
  | .one b => .one b.clean
  | .agg l => .agg (l.map Bt.clean)
  | .tup l => .tup (l.map Cm.clean)
  | .same _ b => .one b.clean
def Ty.b? : Ty → Option Bt
  | .one b => some b
  | .same _ b => some b
  | _ => none
def Cm.ty : Cm → Ty
  | .one b => .one b
  | .agg l => .agg l
def Ty.c? : Ty → Option Cm
  | .one b => some (.one b)
  | .same _ b => some (.one b)
  | .agg l => some (.agg l)
  | _ => none
def constT : Value → Ty
  | .bool b => .one (.bool (some b))
  | .int k n => .one (.int k n n)
  | .string s => .one (.str (some s.data.toList))
  | .pointer none => .one (.ptr 0 1 0 true)
  | .slice none 0 0 => .one .nils
  | .nilIface => .one .nili
  | _ => .any
def look (f : Tmp → Ty) : Operand → Ty
  | .tmp t => f t
  | .const v => constT v
  | _ => .any
section
variable {P : Program} {E : Env} {C : Cfg} {S : St} {j : Nat} {ρ ρ' : Array Value}
theorem Bt.clean_free (b : Bt) : b.clean.free = true := by cases b <;> rfl
theorem Cm.clean_free (c : Cm) : c.clean.free = true := by cases c <;> simp [Cm.clean, Cm.free, Bt.clean_free]
theorem Ty.clean_free (t : Ty) : t.clean.free = true := by
  cases t <;> simp [Ty.clean, Ty.free, Bt.clean_free, Cm.clean_free]
theorem Ty.clean_calm (t : Ty) : t.clean.calm = true := by
  cases t <;> simp [Ty.clean, Ty.calm, Bt.clean_free, Cm.clean_free]
theorem VB.clean {b : Bt} {v : Value} (h : VB E S j ρ b v) : VB E S j ρ' b.clean v := by
  cases b with
  | nz u p => obtain ⟨x, e, _⟩ := h; exact ⟨x, e, fun c hc => by cases hc⟩
  | _ => exact h
theorem VL.clean {l : List Bt} {vs : List Value} (h : VL E S j ρ l vs) : VL E S j ρ' (l.map Bt.clean) vs :=
  ⟨by simpa using h.1, fun i b v hb hv => by
    rw [List.getElem?_map] at hb
    simp only [Option.map_eq_some_iff] at hb
    obtain ⟨b', k, rfl⟩ := hb
    exact (h.2 i b' v k hv).clean⟩
theorem VC.clean {c : Cm} {v : Value} (h : VC E S j ρ c v) : VC E S j ρ' c.clean v := by
  cases c with
  | one b => exact VB.clean h
  | agg l => obtain ⟨cs, e, h⟩ := h; exact ⟨cs, e, h.clean⟩
theorem VM.clean {l : List Cm} {vs : List Value} (h : VM E S j ρ l vs) : VM E S j ρ' (l.map Cm.clean) vs :=
  ⟨by simpa using h.1, fun i b v hb hv => by
    rw [List.getElem?_map] at hb
    simp only [Option.map_eq_some_iff] at hb
    obtain ⟨b', k, rfl⟩ := hb
    exact (h.2 i b' v k hv).clean⟩
theorem VT.clean {t : Ty} {v : Value} (h : VT E S j ρ t v) : VT E S j ρ' t.clean v := by
  cases t with
  | any => exact trivial
  | one b => exact VB.clean h
  | agg l => obtain ⟨cs, e, h⟩ := h; exact ⟨cs, e, h.clean⟩
  | tup l => obtain ⟨cs, e, h⟩ := h; exact ⟨cs, e, h.clean⟩
  | same u b => exact VB.clean h.2
theorem b?_ok {t : Ty} {b : Bt} {v : Value} (hb : t.b? = some b) (h : VT E S j ρ t v) : VB E S j ρ b v := by
  cases t <;> simp [Ty.b?] at hb
  · subst hb; exact h
  · subst hb; exact h.2
theorem cm_ok {c : Cm} {v : Value} (h : VC E S j ρ c v) : VT E S j ρ c.ty v := by cases c <;> exact h
theorem c?_ok {t : Ty} {b : Cm} {v : Value} (hb : t.c? = some b) (h : VT E S j ρ t v) : VC E S j ρ b v := by
  cases t <;> simp [Ty.c?] at hb
  · subst hb; exact h
  · subst hb; exact h
  · subst hb; exact h.2
theorem constT_ok (v : Value) : VT E S j ρ (constT v) v := by
  unfold constT
  split
  · exact ⟨_, rfl, fun c hc => by cases hc; rfl⟩
  · exact ⟨_, rfl, Int.le_refl _, Int.le_refl _⟩
  · exact ⟨_, rfl, fun c hc => by cases hc; rfl⟩
  · exact .inl ⟨rfl, rfl⟩
  · exact rfl
  · exact rfl
  · exact trivial
theorem look_ok {f : Tmp → Ty} {a : Act} (h : ∀ t, VT E S j a.tmps (f t) (a.tmps.getD t undef)) (x : Operand) : VT E S j a.tmps (look f x) (a.eval x) := by
  cases x with
  | tmp t => exact h t
  | const v => exact constT_ok v
  | global g => exact trivial
  | func f => exact trivial
theorem per_eq (hC : CfgOk P E C) (k : Kd) : E.per k = C.per k := by unfold Env.per Cfg.per; rw [hC.K]
theorem cellT_eq (hC : CfgOk P E C) (k : Kd) (i : Nat) {b : Bt} (h : segAt (C.segs k) i = some b) : E.cellT k i = some b := by
  unfold Env.cellT
  rw [hC.K]
  unfold Cfg.segs at h
  cases e : C.K[k]? with
  | none => rw [e] at h; simp [segAt] at h
  | some x => rw [e] at h; exact h
theorem cellT_of (hC : CfgOk P E C) {k : Kd} {i : Nat} {b : Bt} (h : E.cellT k i = some b) : segAt (C.segs k) i = some b := by
  unfold Env.cellT at h
  rw [hC.K] at h
  unfold Cfg.segs
  cases e : C.K[k]? with
  | none => rw [e] at h; simp at h
  | some x => rw [e] at h; exact h
def segR : List (Nat × Bt) → Nat → Nat → Option Bt
  | [], _, _ => none
  | (n, b) :: r, lo, hi => if hi < n then some b else if lo < n then none else segR r (lo - n) (hi - n)
theorem segR_ok : ∀ {l : List (Nat × Bt)} {lo hi i : Nat} {b : Bt}, segR l lo hi = some b → lo ≤ i → i ≤ hi → segAt l i = some b
  | [], _, _, _, _, h, _, _ => by simp [segR] at h
  | (n, x) :: r, lo, hi, i, b, h, h1, h2 => by
    simp only [segR] at h
    simp only [segAt]
    split at h
    · cases h; rw [if_pos (by omega)]
    · split at h
      · cases h
      · rw [if_neg (by omega)]
        exact segR_ok h (by omega) (by omega)
def isEq (op : BinOp) : Bool := op == .eql || op == .neq
def eqT (C : Cfg) (op : BinOp) (t : TypeId) (x y : Ty) : Option Bt :=
  if !isEq op then none else
  match ((assoc C.ti t).map (·.desc) : Option TypeDesc) with
  | some (.pointer _) =>
    match y with
    | .one (.ptr _ lo' hi' _) =>
      if hi' < lo' then
        match x with
        | .same u (.ptr _ _ _ _) => some (.nz u (op == .neq))
        | .one (.ptr _ _ _ nl) => some (.bool (if nl then none else some (op == .neq)))
        | _ => none
      else none
    | _ => none
  | some (.interface _) =>
    match x.b?, y.b? with
    | some (.iface ..), some .nili => some (.bool (some (op == .neq)))
    | _, _ => none
  | some .bool =>
    match x.b?, y.b? with
    | some a, some b => if subB C.g0 a (.bool none) && subB C.g0 b (.bool none) then some (.bool none) else none
    | _, _ => none
  | _ => none
theorem under_of (hC : CfgOk P E C) {t : TypeId} {i : TI} (h : assoc C.ti t = some i) : P.underlying t = some i.desc := by
  obtain ⟨_, _, h2, _⟩ := hC.ti t i h
  exact h2
theorem run_equalIn_iface_nil (d : Nat) (t : TypeId) {ms} (u : TypeId) (v : Value) (w : World) (h : P.underlying t = some (.interface ms)) : (Op.equalIn (d + 1) t (.iface u v) .nilIface).run P w = .ok false w := by
  simp [Op.equalIn, run_underlying h]
theorem run_iface_nil (t : TypeId) {ms} (u : TypeId) (v : Value) (w : World) (h : P.underlying t = some (.interface ms)) : (binOp .eql t (.iface u v) .nilIface).run P w = .ok (.bool false) w ∧ (binOp .neq t (.iface u v) .nilIface).run P w = .ok (.bool true) w := by
  have := run_equalIn_iface_nil (P := P) 9999 t u v w h
  constructor
  · show ((do pure (.bool (← Op.equal t (.iface u v) .nilIface)) : Sem Value)).run P w = _
    unfold Op.equal Op.maxDepth
    rw [Sem.run_bind, this]; rfl
  · show ((do pure (.bool (!(← Op.equal t (.iface u v) .nilIface))) : Sem Value)).run P w = _
    unfold Op.equal Op.maxDepth
    rw [Sem.run_bind, this]; rfl
theorem eqGuard_ptr (op : BinOp) (t : TypeId) (x y : Operand) (p q : Option Addr) (w : World) : (eqGuard op t x y (.pointer p) (.pointer q)).run P w = .ok () w := by
  unfold eqGuard; cases op <;> rfl
theorem eqGuard_iface (op : BinOp) (t : TypeId) (x y : Operand) (u : TypeId) (v : Value) (w : World) : (eqGuard op t x y (.iface u v) .nilIface).run P w = .ok () w := by
  unfold eqGuard; cases op <;> rfl
theorem eqGuard_bool (op : BinOp) (t : TypeId) (x y : Operand) (p q : Bool) (w : World) : (eqGuard op t x y (.bool p) (.bool q)).run P w = .ok () w := by
  unfold eqGuard; cases op <;> rfl
theorem run_eq_ptr_nil {op : BinOp} (hop : op = .eql ∨ op = .neq) {t el : TypeId} (h : P.underlying t = some (.pointer el)) (p : Option Addr) (w : World) :
    (binOp op t (.pointer p) (.pointer none)).run P w = .ok (.bool (if op = .eql then p.isNone else !p.isNone)) w := by
  have h' : P.underlying t = some (.pointer (P.pointee t)) := by rw [h]; simp [Program.pointee, h]
  rcases hop with rfl | rfl
  · rw [run_eql_pointer_nil w t p h', if_pos rfl]
  · rw [run_neq_pointer_nil w t p h', if_neg (by decide)]
theorem eqT_ok (hC : CfgOk P E C) {op : BinOp} {t : TypeId} {x y : Ty} {u v : Value} {b : Bt} (xo yo : Operand) {w : World} (h : eqT C op t x y = some b) (hx : VT E S j ρ x u) (hy : VT E S j ρ y v) :
    ∃ r, (do eqGuard op t xo yo u v; binOp op t u v : Sem Value).run P w = .ok r w ∧ VB E S j ρ b r := by
  unfold eqT at h
  split at h
  · cases h
  · rename_i hop
    have hop' : op = .eql ∨ op = .neq := by
      have : isEq op = true := by simpa using hop
      simpa [isEq] using this
    split at h
    · rename_i el hd
      obtain ⟨i, hi, hd⟩ : ∃ i, assoc C.ti t = some i ∧ i.desc = .pointer el := by simpa [Option.map_eq_some_iff] using hd
      have hund := under_of hC hi
      rw [hd] at hund
      split at h
      · rename_i k lo' hi' nl'
        split at h
        · rename_i hlt
          have hv : v = .pointer none := by
            rcases hy with ⟨_, e⟩ | ⟨b, o, n, _, _, _, k1, k2⟩
            · exact e
            · omega
          subst hv
          have run : ∀ p : Option Addr, u = .pointer p → (do eqGuard op t xo yo u (.pointer none); binOp op t u (.pointer none) : Sem Value).run P w = .ok (.bool (if op = .eql then p.isNone else !p.isNone)) w := by
            rintro p rfl
            rw [Sem.run_bind, eqGuard_ptr]
            exact run_eq_ptr_nil hop' hund p w
          split at h
          · rename_i uu k' lo hi nl
            cases h
            obtain ⟨e, hx⟩ := hx
            rcases hx with ⟨_, e'⟩ | ⟨b, o, n, e', _⟩
            · refine ⟨_, run _ e', _, rfl, fun hb => ?_⟩
              exfalso
              rcases hop' with rfl | rfl <;> simp at hb
            · refine ⟨_, run _ e', _, rfl, fun hb => ?_⟩
              rw [← e, e']
              simp
          · rename_i k' lo hi nl
            cases h
            rcases hx with ⟨e0, e'⟩ | ⟨b, o, n, e', _⟩
            · refine ⟨_, run _ e', _, rfl, fun c hc => ?_⟩
              simp [e0] at hc
            · refine ⟨_, run _ e', _, rfl, fun c hc => ?_⟩
              split at hc
              · cases hc
              · cases hc
                rcases hop' with rfl | rfl <;> simp
          · cases h
        · cases h
      · cases h
    · rename_i el hd
      obtain ⟨i, hi, hd⟩ : ∃ i, assoc C.ti t = some i ∧ i.desc = .interface el := by simpa [Option.map_eq_some_iff] using hd
      have hund := under_of hC hi
      rw [hd] at hund
      split at h
      · rename_i e1 e2
        cases h
        obtain ⟨b, n, rfl, _⟩ := b?_ok e1 hx
        have e3 : v = .nilIface := b?_ok e2 hy
        subst e3
        rcases hop' with rfl | rfl
        · exact ⟨.bool false, by rw [Sem.run_bind, eqGuard_iface]; exact (run_iface_nil t _ _ w hund).1, _, rfl, fun c hc => by cases hc; rfl⟩
        · exact ⟨.bool true, by rw [Sem.run_bind, eqGuard_iface]; exact (run_iface_nil t _ _ w hund).2, _, rfl, fun c hc => by cases hc; rfl⟩
      · cases h
    · rename_i hd
      obtain ⟨i, hi, hd⟩ : ∃ i, assoc C.ti t = some i ∧ i.desc = .bool := by simpa [Option.map_eq_some_iff] using hd
      have hund := under_of hC hi
      rw [hd] at hund
      split at h
      · rename_i a b' e1 e2
        split at h
        · rename_i hs
          cases h
          simp only [Bool.and_eq_true] at hs
          obtain ⟨p, rfl, _⟩ := subB_ok hC hs.1 (b?_ok e1 hx)
          obtain ⟨q, rfl, _⟩ := subB_ok hC hs.2 (b?_ok e2 hy)
          rcases hop' with rfl | rfl
          · exact ⟨.bool (p == q), by rw [Sem.run_bind, eqGuard_bool]; exact run_eql_bool w t p q hund, _, rfl, fun c hc => by cases hc⟩
          · exact ⟨.bool (!(p == q)), by rw [Sem.run_bind, eqGuard_bool]; exact run_neq_bool w t p q hund, _, rfl, fun c hc => by cases hc⟩
        · cases h
      · cases h
    · cases h
end
end Ck
end Go.Proofs.YtnlaedfnifimkaaGreat
namespace Go.Proofs.YtnlaedfnifimkaaGreat
open Go.RowKit
namespace Ck
def isAggD : TypeDesc → Bool
  | .struct _ | .array _ _ => true
  | _ => false
def fieldT (C : Cfg) (s : TypeId) (f : Nat) (x : Ty) : Option Bt :=
  match assoc C.ti s with
  | some i => match i.desc with
    | .struct fs => match fs[f]? with
      | some fd => match assoc C.ti fd.type, x.b? with
        | some fi, some (.ptr k lo hi false) => if fi.size ≠ 0 ∧ hi + fd.offset < C.per k then some (.ptr k (lo + fd.offset) (hi + fd.offset) false) else none
        | _, _ => none
      | none => none
    | _ => none
  | none => none
def segL (segs : List (Nat × Bt)) : Nat → Nat → Option (List Bt)
  | _, 0 => some []
  | lo, n + 1 => match segAt segs lo, segL segs (lo + 1) n with
    | some b, some l => some (b :: l)
    | _, _ => none
def loadT (C : Cfg) (t : TypeId) (x : Ty) : Option Ty :=
  match assoc C.ti t, x.b? with
  | some i, some (.ptr k lo hi false) =>
    if isAggD i.desc then (if lo = hi ∧ lo + i.size ≤ C.per k then (segL (C.segs k) lo i.size).map .agg else none)
    else if i.size = 1 then (segR (C.segs k) lo hi).map .one else none
  | _, _ => none
def touchT (C : Cfg) (k : Kd) (lo hi : Nat) : List (Kd × Nat) := C.watch.filter fun x => x.1 == k && decide (lo ≤ x.2) && decide (x.2 ≤ hi)
def storeT (C : Cfg) (t : TypeId) (x y : Ty) : Option (List (Kd × Nat)) :=
  match assoc C.ti t, x.b? with
  | some i, some (.ptr k lo hi false) =>
    if i.size = 1 then
      match segR (C.segs k) lo hi, y.b? with
      | some b, some c => if b.free && subB C.g0 c b then some (touchT C k lo hi) else none
      | _, _ => none
    else match y with
      | .agg l => if lo = hi ∧ lo + i.size ≤ C.per k then
          match segL (C.segs k) lo i.size with
          | some m => if m.all Bt.free && subL C.g0 l m then some (touchT C k lo (lo + i.size)) else none
          | none => none
        else none
      | _ => none
  | _, _ => none
section
variable {P : Program} {E : Env} {C : Cfg} {S : St} {j : Nat} {ρ : Array Value} {w : World}
theorem add_mk (b o i : Nat) : (⟨b, o, none⟩ : Addr).add i = ⟨b, o + i, none⟩ := by unfold Addr.add; split <;> simp_all
theorem mod_add {o d p : Nat} (h : o % p + d < p) : (o + d) % p = o % p + d := by
  rw [Nat.add_mod, Nat.mod_eq_of_lt (show d < p by omega), Nat.mod_eq_of_lt h]
theorem lt_of_mod {o d p n : Nat} (ho : o < n) (hn : n % p = 0) (h : o % p + d < p) : o + d < n := by
  obtain ⟨q, rfl⟩ := Nat.dvd_of_mod_eq_zero hn
  have h1 : o / p < q := Nat.div_lt_of_lt_mul ho
  have h2 := Nat.div_add_mod o p
  have h3 : p * (o / p + 1) ≤ p * q := Nat.mul_le_mul_left p h1
  rw [Nat.mul_add] at h3
  omega
theorem le_of_mod {o d p n : Nat} (ho : o < n) (hn : n % p = 0) (h : o % p + d ≤ p) (hd : 0 < d) : o + d ≤ n := by
  have := lt_of_mod (d := d - 1) ho hn (by omega)
  omega
theorem run_sizeOf_ti (hC : CfgOk P E C) {t : TypeId} {i : TI} (h : assoc C.ti t = some i) (w : World) : (sizeOf t).run P w = .ok i.size w := by
  obtain ⟨inf, h1, _, h3, _⟩ := hC.ti t i h
  simp [sizeOf, typeInfo, h1, h3]
theorem run_isAgg_ti (hC : CfgOk P E C) {t : TypeId} {i : TI} (h : assoc C.ti t = some i) (w : World) : (isAgg t).run P w = .ok (isAggD i.desc) w := by
  have hu := under_of hC h
  unfold isAgg
  rw [Sem.run_bind, run_underlying hu]
  cases hd : i.desc <;> simp [isAggD, hd]
theorem fieldT_ok (hC : CfgOk P E C) (hI : Inv E S j w) {s : TypeId} {f : Nat} {x : Ty} {v : Value} {b : Bt} (h : fieldT C s f x = some b) (hx : VT E S j ρ x v) :
    ∃ r, (Instr.fieldAt s v f).run P w = .ok r w ∧ VB E S j ρ b r := by
  unfold fieldT at h
  split at h
  case h_2 => cases h
  rename_i i hi
  split at h
  case h_2 => cases h
  rename_i fs hd
  split at h
  case h_2 => cases h
  rename_i fd hf
  split at h
  case h_2 => cases h
  rename_i fi k lo hi' hfi hb
  split at h
  case isFalse => cases h
  rename_i hcond
  cases h
  obtain ⟨hsz, hlt⟩ := hcond
  rcases b?_ok hb hx with ⟨e, _⟩ | ⟨g, o, n, rfl, k1, k2, k3, k4⟩
  · cases e
  obtain ⟨p0, p1, _⟩ := hI g k n k1
  rw [per_eq hC] at *
  have hu := under_of hC hi
  rw [hd] at hu
  have hm := mod_add (o := o) (d := fd.offset) (p := C.per k) (by omega)
  refine ⟨.pointer (some ⟨g, o + fd.offset, none⟩), ?_, .inr ⟨g, o + fd.offset, n, rfl, k1, lt_of_mod k2 p1 (by omega), ?_, ?_⟩⟩
  · simp [Instr.fieldAt, run_underlying hu, hf, Instr.sureAddr, fieldPlace, run_sizeOf_ti hC hfi, hsz, add_mk]
  · rw [per_eq hC, hm]; omega
  · rw [per_eq hC, hm]; omega
theorem segL_ok {segs : List (Nat × Bt)} : ∀ {n lo : Nat} {l : List Bt}, segL segs lo n = some l → l.length = n ∧ ∀ i, i < n → segAt segs (lo + i) = l[i]?
  | 0, lo, l, h => by cases h; exact ⟨rfl, fun i hi => by omega⟩
  | n + 1, lo, l, h => by
    simp only [segL] at h
    split at h
    · rename_i b m e1 e2
      cases h
      obtain ⟨h1, h2⟩ := segL_ok e2
      refine ⟨by simp [h1], fun i hi => ?_⟩
      cases i with
      | zero => simpa using e1
      | succ i => simpa [Nat.add_assoc, Nat.add_comm 1 i] using h2 i (by omega)
    · cases h
theorem one_of (hC : CfgOk P E C) {b : Bt} {v : Value} (h : VB E S j ρ b v) : v.oneCell' = true := by
  cases b with
  | bool o => obtain ⟨_, rfl, _⟩ := h; rfl
  | int k lo hi => obtain ⟨_, rfl, _⟩ := h; rfl
  | str o => obtain ⟨_, rfl, _⟩ := h; rfl
  | ptr k lo hi nl => rcases h with ⟨_, rfl⟩ | ⟨_, _, _, rfl, _⟩ <;> rfl
  | slice k lo hi => obtain ⟨_, _, _, rfl, _⟩ := h; rfl
  | nils => cases h; rfl
  | nili => cases h; rfl
  | iface t k => obtain ⟨_, _, rfl, _⟩ := h; rfl
  | meth t k m => obtain ⟨_, _, rfl, _⟩ := h; rfl
  | opq n => exact hC.op n v h
  | nz u p => obtain ⟨_, rfl, _⟩ := h; rfl
theorem cells_of {v : Value} (h : v.oneCell' = true) : v.cells = #[v] := by cases v <;> first | rfl | simp [Value.oneCell'] at h
theorem loadT_ok (hC : CfgOk P E C) (hI : Inv E S j w) {t : TypeId} {x r : Ty} {v : Value} (h : loadT C t x = some r) (hx : VT E S j ρ x v) :
    ∃ u, (Instr.loadAt t v).run P w = .ok u w ∧ VT E S j ρ r u := by
  unfold loadT at h
  split at h
  case h_2 => cases h
  rename_i i k lo hi hi' hb
  rcases b?_ok hb hx with ⟨e, _⟩ | ⟨g, o, n, rfl, k1, k2, k3, k4⟩
  · cases e
  obtain ⟨p0, p1, cs, p2, p3, p4⟩ := hI g k n k1
  rw [per_eq hC] at *
  split at h
  · rename_i hagg
    split at h
    case isFalse => cases h
    rename_i hc
    obtain ⟨rfl, hle⟩ := hc
    simp only [Option.map_eq_some_iff] at h
    obtain ⟨l, hl, rfl⟩ := h
    obtain ⟨l1, l2⟩ := segL_ok hl
    have ho : o % C.per k = lo := by omega
    have hbound : ∀ jj, jj < i.size → o + jj < n := fun jj hj => lt_of_mod k2 p1 (by omega)
    have hcell : ∀ jj, jj < i.size → ∃ u, w.cell? ⟨g, o + jj, none⟩ = some u ∧ ∃ b, l[jj]? = some b ∧ b.free = true ∧ VB E S j #[] b u := fun jj hj => by
      obtain ⟨b, u, h1, h2, h3, h4⟩ := hI.cell k1 (hbound jj hj)
      refine ⟨u, h1, b, ?_, h3, h4⟩
      rw [per_eq hC, mod_add (by omega), ho] at h2
      rw [← l2 jj hj]
      exact cellT_of hC h2
    have hrow := run_loadCells (P := P) w ⟨g, o, none⟩ i.size (fun jj => (w.cell? ⟨g, o + jj, none⟩).getD undef) (fun jj hj => by
      obtain ⟨u, h1, _⟩ := hcell jj hj
      rw [add_mk, h1]; rfl)
    refine ⟨.agg ((List.range i.size).map fun jj => (w.cell? ⟨g, o + jj, none⟩).getD undef).toArray, ?_, _, rfl, by simp [l1], fun jj b u hb' hu => ?_⟩
    · simp [Instr.loadAt, Instr.sureAddr, loadVar, run_isAgg_ti hC hi', hagg, run_sizeOf_ti hC hi', hrow]
    · have hj : jj < i.size := by rw [← l1]; exact (List.getElem?_eq_some_iff.1 hb').1
      obtain ⟨u', h1, b', h2, h3, h4⟩ := hcell jj hj
      simp [hj, h1] at hu
      subst hu
      rw [hb'] at h2
      cases h2
      exact h4.rho h3
  · rename_i hagg
    split at h
    case isFalse => cases h
    rename_i hsz
    simp only [Option.map_eq_some_iff] at h
    obtain ⟨b, hbb, rfl⟩ := h
    obtain ⟨b', u, h1, h2, h3, h4⟩ := hI.cell k1 k2
    have hs := segR_ok hbb k3 k4
    rw [per_eq hC] at h2
    have e := cellT_of hC h2
    rw [hs] at e
    cases e
    refine ⟨u, ?_, h4.rho h3⟩
    simp [Instr.loadAt, Instr.sureAddr, loadVar, run_isAgg_ti hC hi', hagg, h1]
theorem run_store_ok (hC : CfgOk P E C) (hI : Inv E S j w) {g k n o : Nat} {b : Bt} {u : Value} (hS : S g = some (k, n)) (ho : o < n) (hu : VB E S j #[] b u) :
    (store ⟨g, o, none⟩ u).run P w = .ok () (w.setCell ⟨g, o, none⟩ u) := by
  obtain ⟨_, v, h1, _⟩ := hI.cell hS ho
  rw [run_store P w _ u _ (one_of hC hu), h1, hI.fz hS]
  rfl
theorem run_storeCells_ok (hC : CfgOk P E C) {g k n : Nat} (hS : S g = some (k, n)) (tc : List (Kd × Nat)) : ∀ (us : List Value) (bs : List Bt) (o i : Nat) (w : World), Inv E S j w → o + i + us.length ≤ n → VL E S j #[] bs us → (∀ jj b, bs[jj]? = some b → E.cellT k ((o + i + jj) % E.per k) = some b ∧ b.free = true) →
    (∀ jj, jj < us.length → (k, (o + i + jj) % E.per k) ∈ E.watch → (k, (o + i + jj) % E.per k) ∈ tc) →
    ∃ w', (storeCells ⟨g, o, none⟩ us i).run P w = .ok () w' ∧ Inv E S j w' ∧ Stp E S S w w' tc
  | [], bs, o, i, w, hI, _, _, _, _ => ⟨w, rfl, hI, Stp.refl E S w tc⟩
  | u :: us, [], o, i, w, hI, _, hl, _, _ => by have := hl.1; simp at this
  | u :: us, b :: bs, o, i, w, hI, hn, hl, hb, ht => by
    simp only [List.length_cons] at hn
    have hb0 := hb 0 b rfl
    have hu : VB E S j #[] b u := hl.2 0 b u rfl rfl
    have hrun := run_store_ok (P := P) hC hI hS (o := o + i) (by omega) hu
    have hI' := hI.set hS (o := o + i) (by omega) hb0.1 hb0.2 hu
    have hs := Stp.set (w := w) (tc := tc) u hS (o := o + i) (fun hw => ht 0 (by simp) hw)
    obtain ⟨w', h1, h2, h3⟩ := run_storeCells_ok hC hS tc us bs o (i + 1) _ hI' (by omega) ⟨by simpa using hl.1, fun jj b' v' e1 e2 => hl.2 (jj + 1) b' v' (by simpa using e1) (by simpa using e2)⟩
      (fun jj b' e => by have := hb (jj + 1) b' (by simpa using e); rwa [show o + (i + 1) + jj = o + i + (jj + 1) by omega])
      (fun jj hj hw => by have := ht (jj + 1) (by simp; omega); rw [show o + i + (jj + 1) = o + (i + 1) + jj by omega] at this; exact this hw)
    refine ⟨w', ?_, h2, hs.trans h3⟩
    simp [storeCells, add_mk, hrun, h1]
theorem mem_touch (hC : CfgOk P E C) {k lo hi i : Nat} (h0 : lo ≤ i) (h1 : i ≤ hi) (h : (k, i) ∈ E.watch) : (k, i) ∈ touchT C k lo hi := by
  rw [hC.watch] at h
  exact List.mem_filter.2 ⟨h, by simp [h0, h1]⟩
theorem storeT_ok (hC : CfgOk P E C) (hI : Inv E S j w) {t : TypeId} {x y : Ty} {v u : Value} {tc : List (Kd × Nat)} (h : storeT C t x y = some tc) (hx : VT E S j ρ x v) (hy : VT E S j ρ y u) :
    ∃ w', (Instr.storeAt t v u).run P w = .ok () w' ∧ Inv E S j w' ∧ Stp E S S w w' tc := by
  unfold storeT at h
  split at h
  case h_2 => cases h
  rename_i i k lo hi hi' hb
  rcases b?_ok hb hx with ⟨e, _⟩ | ⟨g, o, n, rfl, k1, k2, k3, k4⟩
  · cases e
  obtain ⟨p0, p1, cs, p2, p3, p4⟩ := hI g k n k1
  rw [per_eq hC] at *
  split at h
  · rename_i hsz
    split at h
    case h_2 => cases h
    rename_i b c hb1 hb2
    split at h
    case isFalse => cases h
    rename_i hc
    simp only [Bool.and_eq_true] at hc
    cases h
    have hu : VB E S j #[] b u := (subB_ok hC hc.2 (b?_ok hb2 hy)).rho hc.1
    have hs := segR_ok hb1 k3 k4
    have ht := cellT_eq hC k _ hs
    have hrun := run_store_ok (P := P) hC hI k1 k2 hu
    refine ⟨_, ?_, hI.set k1 k2 (by rw [per_eq hC]; exact ht) hc.1 hu, Stp.set u k1 (fun hw => by rw [per_eq hC] at *; exact mem_touch hC k3 k4 hw)⟩
    simp [Instr.storeAt, Instr.sureAddr, storeVar, run_sizeOf_ti hC hi', cells_of (one_of hC hu), hsz, storeCells, add_mk, hrun]
  · rename_i hsz
    split at h
    case h_2 => cases h
    rename_i l
    split at h
    case isFalse => cases h
    rename_i hc
    obtain ⟨rfl, hle⟩ := hc
    split at h
    case h_2 => cases h
    rename_i m hm
    split at h
    case isFalse => cases h
    rename_i hc
    simp only [Bool.and_eq_true] at hc
    cases h
    obtain ⟨cs', rfl, hl⟩ := hy
    have hl' := subL_ok hC hc.2 hl
    obtain ⟨l1, l2⟩ := segL_ok hm
    have ho : o % C.per k = lo := by omega
    have hlen : cs'.toList.length = i.size := by rw [hl'.1, l1]
    have hle' : o + i.size ≤ n := by
      rcases Nat.eq_zero_or_pos i.size with h0 | h0
      · omega
      · exact le_of_mod k2 p1 (by omega) h0
    obtain ⟨w', h1, h2, h3⟩ := run_storeCells_ok (P := P) hC k1 (touchT C k lo (lo + i.size)) cs'.toList m o 0 w hI (by omega) (hl'.rho hc.1)
      (fun jj b e => by
        have hj : jj < i.size := by rw [← l1]; exact (List.getElem?_eq_some_iff.1 e).1
        rw [Nat.add_zero, per_eq hC, mod_add (by omega), ho]
        refine ⟨cellT_eq hC k _ ((l2 jj hj).trans e), List.all_eq_true.1 hc.1 b (List.mem_of_getElem? e)⟩)
      (fun jj hj hw => by
        rw [hlen] at hj
        rw [Nat.add_zero, per_eq hC, mod_add (by omega), ho] at *
        exact mem_touch hC (by omega) (by omega) hw)
    refine ⟨w', ?_, h2, h3⟩
    have hsize : cs'.size = i.size := by simpa using hlen
    have hcells : (Value.agg cs').cells = cs' := rfl
    simp [Instr.storeAt, Instr.sureAddr, storeVar, run_sizeOf_ti hC hi', hcells, hsize, h1]
end
end Ck
end Go.Proofs.YtnlaedfnifimkaaGreat
namespace Go.Proofs.YtnlaedfnifimkaaGreat
open Go.RowKit
namespace Ck
def fitS (C : Cfg) (k : Kd) : Nat → List Bt → Bool
  | _, [] => true
  | i, b :: l => (match segAt (C.segs k) (i % C.per k) with
    | some t => t.free && subB C.g0 b t
    | none => false) && fitS C k (i + 1) l
def cellsT : Ty → Option (List Bt)
  | .one b => some [b]
  | .same _ b => some [b]
  | .agg l => some l
  | _ => none
def constsT : List Value → Option (List Bt)
  | [] => some []
  | v :: r => match (constT v).b?, constsT r with
    | some b, some l => some (b :: l)
    | _, _ => none
def boxT (C : Cfg) (t : TypeId) (l : List Bt) : Option Bt :=
  match assoc C.kinds t with
  | some k => if l.length = C.per k ∧ fitS C k 0 l = true then some (.ptr k 0 0 false) else none
  | none => none
def allocT (C : Cfg) (t : TypeId) : Option Bt :=
  match assoc C.ti t with
  | some i => match constsT i.zero with
    | some l => if i.zero = [] then none else boxT C t l
    | none => none
  | none => none
def putT (l : List Bt) (off : Nat) (m : List Bt) : List Bt := m.zipIdx.foldl (fun l (b, j) => l.set (off + j) b) l
def fillT (place : Nat → Option (Nat × Nat)) (cells : List Bt) : List (Nat × Ty) → Option (List Bt)
  | [] => some cells
  | (i, t) :: rest => match place i, cellsT t with
    | some (off, size), some m => if m.length ≠ size || decide (off + m.length > cells.length) then none else fillT place (putT cells off m) rest
    | _, _ => none
def placesT (C : Cfg) (fs : List Field) : Option (List (Nat × Nat)) :=
  fs.mapM fun f => (assoc C.ti f.type).map fun i => (f.offset, i.size)
def buildT (C : Cfg) (t : TypeId) (parts : List (Nat × Ty)) : Option Ty :=
  match assoc C.ti t with
  | some i => if i.zero = [] then none else
    match constsT i.zero, i.desc with
    | some z, .struct fs => match placesT C fs.toList with
      | some p => (fillT (fun i => p[i]?) z parts).map .agg
      | none => none
    | some z, .array _ e => match assoc C.ti e with
      | some ie => (fillT (fun i => some (i * ie.size, ie.size)) z parts).map .agg
      | none => none
    | _, _ => none
  | none => none
def repT (z : List Bt) (n : Nat) : List Bt := (List.range n).map fun i => z[i % z.length]?.getD .nils
def buildSliceT (C : Cfg) (t : TypeId) (n : Nat) (parts : List (Nat × Ty)) : Option Bt :=
  match assoc C.ti t with
  | some i => match i.desc with
    | .slice e => match assoc C.ti e, assoc C.kinds e with
      | some ie, some k => if ie.zero = [] then none else
        match constsT ie.zero with
        | some z => if n * ie.size > 2 ^ 24 then none else
          match fillT (fun i => some (i * ie.size, ie.size)) (repT z (n * ie.size)) parts with
          | some l => if ie.zero.length = ie.size ∧ fitS C k 0 l = true then some (.slice k (some n) (some n)) else none
          | none => none
        | none => none
      | _, _ => none
    | _ => none
  | none => none
section
variable {P : Program} {E : Env} {C : Cfg} {S : St} {j : Nat} {ρ : Array Value} {w : World}
theorem fitS_ok (hC : CfgOk P E C) {k : Kd} : ∀ {l : List Bt} {i : Nat} {vs : List Value}, fitS C k i l = true → VL E S j ρ l vs → ∀ jj v, vs[jj]? = some v → ∃ t, E.cellT k ((i + jj) % E.per k) = some t ∧ t.free = true ∧ VB E S j #[] t v
  | [], i, vs, _, hl, jj, v, hv => by
    have : vs = [] := List.eq_nil_of_length_eq_zero (by simpa using hl.1)
    subst this; simp at hv
  | b :: l, i, [], h, hl, jj, v, hv => by simp at hv
  | b :: l, i, u :: vs, h, hl, jj, v, hv => by
    simp only [fitS, Bool.and_eq_true] at h
    cases jj with
    | zero =>
      simp at hv
      subst hv
      obtain ⟨h, _⟩ := h
      split at h
      · rename_i t ht
        simp only [Bool.and_eq_true] at h
        exact ⟨t, by rw [per_eq hC, Nat.add_zero]; exact cellT_eq hC k _ ht, h.1, (subB_ok hC h.2 (hl.2 0 b u rfl rfl)).rho h.1⟩
      · cases h
    | succ jj =>
      have := fitS_ok hC h.2 (vs := vs) ⟨by simpa using hl.1, fun a b' v' e1 e2 => hl.2 (a + 1) b' v' (by simpa using e1) (by simpa using e2)⟩ jj v (by simpa using hv)
      rwa [show i + 1 + jj = i + (jj + 1) by omega] at this
theorem constsT_ok : ∀ {vs : List Value} {l : List Bt}, constsT vs = some l → VL E S j ρ l vs
  | [], l, h => by cases h; exact ⟨rfl, fun i b v hb => by simp at hb⟩
  | v :: r, l, h => by
    simp only [constsT] at h
    split at h
    · rename_i b m e1 e2
      cases h
      have ih := constsT_ok e2
      refine ⟨by simp [ih.1], fun i b' v' hb hv => ?_⟩
      cases i with
      | zero => simp at hb hv; subst hb hv; exact b?_ok e1 (constT_ok v)
      | succ i => exact ih.2 i b' v' (by simpa using hb) (by simpa using hv)
    · cases h
theorem cellsT_ok (hC : CfgOk P E C) {t : Ty} {l : List Bt} {v : Value} (h : cellsT t = some l) (hv : VT E S j ρ t v) : VL E S j ρ l v.cells.toList := by
  cases t with
  | any => cases h
  | one b => cases h; rw [cells_of (one_of hC hv)]; exact ⟨rfl, fun i b' v' hb hv' => by cases i <;> simp at hb hv'; subst hb hv'; exact hv⟩
  | agg l' => cases h; obtain ⟨cs, rfl, hl⟩ := hv; exact hl
  | tup l' => cases h
  | same u b => cases h; rw [cells_of (one_of hC hv.2)]; exact ⟨rfl, fun i b' v' hb hv' => by cases i <;> simp at hb hv'; subst hb hv'; exact hv.2⟩
theorem newRow_ok (hC : CfgOk P E C) (hI : Inv E S j w) {t : TypeId} {k : Kd} (hk : assoc C.kinds t = some k) {l : List Bt} {cs : Array Value} (hf : fitS C k 0 l = true) (hl : VL E S j ρ l cs.toList) (hn : cs.size % C.per k = 0) :
    (newRow t cs).run P w = .ok ⟨w.heap.size, 0, none⟩ (w.alloc (.cells cs t)) ∧ Inv E (S.put w.heap.size (k, cs.size)) j (w.alloc (.cells cs t)) ∧ Stp E S (S.put w.heap.size (k, cs.size)) w (w.alloc (.cells cs t)) [] := by
  obtain ⟨rfl, hp, _⟩ := hC.kinds t k hk
  refine ⟨by simp [newRow], hI.new cs k hp (by rw [per_eq hC]; exact hn) fun i v hv => ?_, Stp.new hI cs k []⟩
  have := fitS_ok hC hf hl i v (by simpa using hv)
  simpa using this
theorem boxT_ok (hC : CfgOk P E C) (hI : Inv E S j w) {t : TypeId} {l : List Bt} {b : Bt} {v : Value} (h : boxT C t l = some b) (hl : VL E S j ρ l v.cells.toList) :
    ∃ r w' S', (newVar t v).run P w = .ok r w' ∧ Inv E S' j w' ∧ Stp E S S' w w' [] ∧ VB E S' j ρ b (.pointer (some r)) := by
  unfold boxT at h
  split at h
  case h_2 => cases h
  rename_i k hk
  split at h
  case isFalse => cases h
  rename_i hc
  cases h
  have hsz : v.cells.size = C.per k := by have := hl.1; simp at this; omega
  obtain ⟨hel, hp, _⟩ := hC.kinds t k hk
  rw [per_eq hC] at hp
  obtain ⟨h1, h2, h3⟩ := newRow_ok (P := P) hC hI hk hc.2 hl (by rw [hsz]; exact Nat.mod_self _)
  refine ⟨_, _, _, h1, h2, h3, .inr ⟨_, 0, v.cells.size, rfl, if_pos rfl, by omega, by omega, by simp⟩⟩
theorem allocT_ok (hC : CfgOk P E C) (hI : Inv E S j w) {t : TypeId} {b : Bt} {h' : Bool} {old : Value} (ho : h' = true) (h : allocT C t = some b) :
    ∃ r w' S', (Instr.alloc t h' old).run P w = .ok r w' ∧ Inv E S' j w' ∧ Stp E S S' w w' [] ∧ VB E S' j ρ b r := by
  subst ho
  unfold allocT at h
  split at h
  case h_2 => cases h
  rename_i i hi
  split at h
  case h_2 => cases h
  rename_i l hl
  split at h
  case isTrue => cases h
  rename_i hz
  obtain ⟨inf, i1, i2, i3, i4, i5⟩ := hC.ti t i hi
  obtain ⟨z, z1, z2⟩ := i5 hz
  obtain ⟨r, w', S', h1, h2, h3, h4⟩ := boxT_ok (P := P) (ρ := ρ) hC hI (v := z) h (by rw [z2]; exact constsT_ok hl)
  refine ⟨_, w', S', ?_, h2, h3, h4⟩
  simp [Instr.alloc, zeroValue, typeInfo, i1, z1, h1]
theorem VL.set {l : List Bt} {vs : List Value} (h : VL E S j ρ l vs) (i : Nat) {b : Bt} {v : Value} (hv : VB E S j ρ b v) : VL E S j ρ (l.set i b) (vs.set i v) := by
  refine ⟨by simp [h.1], fun i' b' v' e1 e2 => ?_⟩
  rw [List.getElem?_set] at e1 e2
  by_cases e : i = i'
  · subst e
    have hlen := h.1
    by_cases hl : i < l.length
    · rw [if_pos rfl, if_pos hl] at e1
      rw [if_pos rfl, if_pos (by omega)] at e2
      cases e1; cases e2; exact hv
    · rw [if_pos rfl, if_neg hl] at e1; cases e1
  · rw [if_neg e] at e1 e2; exact h.2 i' b' v' e1 e2
theorem put_ok (off : Nat) : ∀ (m : List Bt) (us : List Value) (n : Nat) (l : List Bt) (cs : Array Value), VL E S j ρ m us → VL E S j ρ l cs.toList →
    VL E S j ρ ((m.zipIdx n).foldl (fun l (b, j) => l.set (off + j) b) l) ((us.zipIdx n).foldl (fun cs (c, j) => cs.setIfInBounds (off + j) c) cs).toList
  | [], us, n, l, cs, hm, hl => by
    have : us = [] := List.eq_nil_of_length_eq_zero (by simpa using hm.1)
    subst this; exact hl
  | b :: m, [], n, l, cs, hm, hl => by have := hm.1; simp at this
  | b :: m, u :: us, n, l, cs, hm, hl => by
    simp only [List.zipIdx_cons, List.foldl_cons]
    refine put_ok off m us (n + 1) _ _ ⟨by simpa using hm.1, fun i b' v' e1 e2 => hm.2 (i + 1) b' v' (by simpa using e1) (by simpa using e2)⟩ ?_
    rw [Array.toList_setIfInBounds]
    exact hl.set _ (hm.2 0 b u rfl rfl)
theorem fillT_ok (hC : CfgOk P E C) (place : Nat → Option (Nat × Nat)) : ∀ (parts : List (Nat × Ty)) (vals : List (Nat × Value)) (l r : List Bt) (cs : Array Value), fillT place l parts = some r → VL E S j ρ l cs.toList → vals.length = parts.length →
    (∀ (i : Nat) (p : Nat × Ty) (v : Nat × Value), parts[i]? = some p → vals[i]? = some v → p.1 = v.1 ∧ VT E S j ρ p.2 v.2) → ∃ cs', Instr.fill place cs vals = some cs' ∧ VL E S j ρ r cs'.toList
  | [], vals, l, r, cs, h, hl, hlen, _ => by
    have : vals = [] := List.eq_nil_of_length_eq_zero (by simpa using hlen)
    subst this; cases h; exact ⟨cs, rfl, hl⟩
  | (i, t) :: parts, [], l, r, cs, h, hl, hlen, _ => by simp at hlen
  | (i, t) :: parts, (i', v) :: vals, l, r, cs, h, hl, hlen, hv => by
    simp only [fillT] at h
    split at h
    case h_2 => cases h
    rename_i off size m e1 e2
    split at h
    case isTrue => cases h
    rename_i hc
    obtain ⟨rfl, hv0⟩ := hv 0 _ _ rfl rfl
    simp only at hv0 e1
    have hm := cellsT_ok hC e2 hv0
    have hlm : v.cells.size = m.length := by simpa using hm.1
    have hlc : cs.size = l.length := by simpa using hl.1
    have hput := put_ok (E := E) (S := S) (j := j) (ρ := ρ) off m v.cells.toList 0 l cs hm hl
    obtain ⟨cs', h1, h2⟩ := fillT_ok hC place parts vals _ r _ h hput (by simpa using hlen) (fun a p u q1 q2 => hv (a + 1) p u (by simpa using q1) (by simpa using q2))
    refine ⟨cs', ?_, h2⟩
    simp only [Instr.fill, e1]
    simp only [Bool.or_eq_true, bne_iff_ne, ne_eq, decide_eq_true_eq, not_or, Decidable.not_not] at hc
    rw [if_neg (by rw [hlm]; simp [hc.1]; omega), ← h1]
    congr 1
    rw [← Array.foldl_toList, Array.toList_zipIdx]
theorem putT_len (off : Nat) : ∀ (m : List Bt) (n : Nat) (l : List Bt), ((m.zipIdx n).foldl (fun l (b, j) => l.set (off + j) b) l).length = l.length
  | [], n, l => rfl
  | b :: m, n, l => by simp only [List.zipIdx_cons, List.foldl_cons]; rw [putT_len off m]; simp
theorem fillT_len {place : Nat → Option (Nat × Nat)} : ∀ (parts : List (Nat × Ty)) (l r : List Bt), fillT place l parts = some r → r.length = l.length
  | [], l, r, h => by cases h; rfl
  | (i, t) :: parts, l, r, h => by
    simp only [fillT] at h
    split at h
    · split at h
      · cases h
      · rw [fillT_len parts _ r h]; exact putT_len _ _ 0 l
    · cases h
theorem placesT_ok (hC : CfgOk P E C) : ∀ {fs : List Field} {p : List (Nat × Nat)}, placesT C fs = some p → fs.mapM (fun f => (P.info? f.type).map fun i => (f.offset, i.size)) = some p
  | [], p, h => h
  | f :: fs, p, h => by
    unfold placesT at h
    simp only [List.mapM_cons, Option.bind_eq_bind, Option.pure_def, Option.bind_eq_some_iff, Option.map_eq_some_iff, Option.some.injEq] at h
    obtain ⟨a, ⟨i, hi, rfl⟩, q, hq, rfl⟩ := h
    obtain ⟨inf, i1, i2, i3, _⟩ := hC.ti _ _ hi
    have ih := placesT_ok hC (fs := fs) hq
    simp [List.mapM_cons, i1, i3, ih]
theorem buildT_ok (hC : CfgOk P E C) {t : TypeId} {parts : List (Nat × Ty)} {r : Ty} {vals : Array (Nat × Value)} (h : buildT C t parts = some r) (hlen : vals.size = parts.length)
    (hv : ∀ (i : Nat) (p : Nat × Ty) (v : Nat × Value), parts[i]? = some p → vals.toList[i]? = some v → p.1 = v.1 ∧ VT E S j ρ p.2 v.2) :
    ∃ u, (Instr.build t vals).run P w = .ok u w ∧ VT E S j ρ r u := by
  unfold buildT at h
  split at h
  case h_2 => cases h
  rename_i i hi
  split at h
  case isTrue => cases h
  rename_i hz
  obtain ⟨inf, i1, i2, i3, i4, i5⟩ := hC.ti t i hi
  obtain ⟨z, z1, z2⟩ := i5 hz
  split at h
  case h_3 => cases h
  · rename_i zl fs e1 e2
    split at h
    case h_2 => cases h
    rename_i p hp
    simp only [Option.map_eq_some_iff] at h
    obtain ⟨l, hl, rfl⟩ := h
    obtain ⟨cs', h1, h2⟩ := fillT_ok hC _ parts vals.toList zl l z.cells hl (by rw [z2]; exact constsT_ok e1) (by simpa using hlen) hv
    refine ⟨.agg cs', run_build w t vals cs' ?_, cs', rfl, h2⟩
    unfold Program.built
    rw [i1, i2, e2]
    simp only [z1, placesT_ok hC hp]
    rw [← h1]
    congr 1
    funext x
    simp
  · rename_i zl n e e1 e2
    split at h
    case h_2 => cases h
    rename_i ie hie
    simp only [Option.map_eq_some_iff] at h
    obtain ⟨l, hl, rfl⟩ := h
    obtain ⟨cs', h1, h2⟩ := fillT_ok hC _ parts vals.toList zl l z.cells hl (by rw [z2]; exact constsT_ok e1) (by simpa using hlen) hv
    obtain ⟨inf', j1, j2, j3, j4, j5⟩ := hC.ti e ie hie
    refine ⟨.agg cs', run_build w t vals cs' ?_, cs', rfl, h2⟩
    unfold Program.built
    rw [i1, i2, e2]
    simp only [z1, j1, j3]
    exact h1
theorem repT_ok {z : List Bt} {zs : List Value} (hz : VL E S j ρ z zs) (h0 : zs ≠ []) (n : Nat) : VL E S j ρ (repT z n) ((Array.range n).map (zs.toArray[· % zs.toArray.size]!)).toList := by
  have hl := hz.1
  have hpos : 0 < zs.length := List.length_pos_iff.2 h0
  refine ⟨by simp [repT], fun i b v hb hv => ?_⟩
  have hi : i < n := by have := (List.getElem?_eq_some_iff.1 hb).1; simpa [repT] using this
  rw [repT, List.getElem?_map, List.getElem?_range hi] at hb
  simp only [Option.map_some, Option.some.injEq] at hb
  have hlt : i % z.length < z.length := Nat.mod_lt _ (by omega)
  have hlt' : i % zs.length < zs.length := Nat.mod_lt _ hpos
  simp [hi] at hv
  rw [List.getElem?_eq_getElem hlt] at hb
  simp only [Option.getD_some] at hb
  subst hb
  have e : i % z.length = i % zs.length := by rw [hl]
  refine hz.2 (i % z.length) _ v (List.getElem?_eq_getElem hlt) ?_
  rw [e, List.getElem?_eq_getElem hlt', ← hv]
  simp [hlt']
theorem buildSliceT_ok (hC : CfgOk P E C) (hI : Inv E S j w) {t : TypeId} {n : Nat} {parts : List (Nat × Ty)} {b : Bt} {vals : Array (Nat × Value)} (h : buildSliceT C t n parts = some b) (hlen : vals.size = parts.length)
    (hv : ∀ (i : Nat) (p : Nat × Ty) (v : Nat × Value), parts[i]? = some p → vals.toList[i]? = some v → p.1 = v.1 ∧ VT E S j ρ p.2 v.2) :
    ∃ u w' S', (Instr.buildSlice t n vals).run P w = .ok u w' ∧ Inv E S' j w' ∧ Stp E S S' w w' [] ∧ VB E S' j ρ b u := by
  unfold buildSliceT at h
  split at h
  case h_2 => cases h
  rename_i i hi
  split at h
  case h_2 => cases h
  rename_i e hd
  split at h
  case h_2 => cases h
  rename_i ie k hie hk
  split at h
  case isTrue => cases h
  rename_i hz
  split at h
  case h_2 => cases h
  rename_i z hz'
  split at h
  case isTrue => cases h
  rename_i hbig
  split at h
  case h_2 => cases h
  rename_i l hl
  split at h
  case isFalse => cases h
  rename_i hc
  cases h
  obtain ⟨inf, i1, i2, i3, i4, i5⟩ := hC.ti e ie hie
  obtain ⟨zv, z1, z2⟩ := i5 hz
  have hu := under_of hC hi
  rw [hd] at hu
  have hzl := constsT_ok (E := E) (S := S) (j := j) (ρ := ρ) hz'
  have hrep := repT_ok hzl hz (n * ie.size)
  obtain ⟨hel, hp, ie', hie', hsz'⟩ := hC.kinds e k hk
  rw [hie] at hie'; cases hie'
  rw [per_eq hC] at hp hsz'
  have hzs : zv.cells = ie.zero.toArray := by rw [← z2]
  obtain ⟨cs', h1, h2⟩ := fillT_ok hC _ parts vals.toList _ l _ hl hrep (by simpa using hlen) hv
  have hsize : cs'.size = n * ie.size := by
    have := h2.1
    have hf := fillT_len parts _ l hl
    simp [repT] at hf
    simp at this; omega
  obtain ⟨h3, h4, h5⟩ := newRow_ok (P := P) hC hI hk hc.2 h2 (by rw [hsize, hsz']; exact Nat.mul_mod_left _ _)
  refine ⟨.slice (some ⟨w.heap.size, 0, none⟩) n n, _, _, ?_, h4, h5, _, n, n, rfl, Nat.le_refl _, ?_, by simp, fun m hm => by cases hm; exact Nat.le_refl _, fun hh => (by cases hh), .inr ⟨_, 0, cs'.size, rfl, if_pos rfl, by simp, ?_⟩⟩
  · simp only [Instr.buildSlice, Sem.run_bind, run_underlying hu, Result.andThen_ok, run_sizeOf_ti hC hie]
    rw [if_neg hbig]
    by_cases h0 : n * ie.size = 0
    · rw [if_pos h0]
      have hmap : (Array.range (n * ie.size)).map (fun x => (#[] : Array Value)[x % (#[] : Array Value).size]!) = (Array.range (n * ie.size)).map (fun x => ie.zero.toArray[x % ie.zero.toArray.size]!) := by simp [h0]
      simp only [Sem.run_bind, Sem.run_pure, Result.andThen_ok, hmap, h1, h3]
    · rw [if_neg h0]
      have hz0 : (zeroValue e).run P w = .ok zv w := by simp [zeroValue, typeInfo, i1, z1]
      simp only [Sem.run_bind, Sem.run_pure, Result.andThen_ok, hz0, hzs, h1, h3]
  · unfold maxLen
    have h0 : 0 < ie.size := by omega
    have := Nat.le_mul_of_pos_right n h0
    omega
  · rw [hsize, per_eq hC, hsz']; omega
end
end Ck
end Go.Proofs.YtnlaedfnifimkaaGreat
namespace Go.Proofs.YtnlaedfnifimkaaGreat
open Go.RowKit
namespace Ck
def indexAddrT (C : Cfg) (t : TypeId) (x i : Ty) : Option Bt :=
  match assoc C.ti t, i.b?, x.b? with
  | some ti, some (.int _ a b), some xb => if a < 0 then none else
    match ti.desc, xb with
    | .array len e, .ptr k lo hi false => match assoc C.ti e with
      | some ie => if b < len ∧ ie.size ≠ 0 ∧ hi + b.toNat * ie.size < C.per k then some (.ptr k (lo + a.toNat * ie.size) (hi + b.toNat * ie.size) false) else none
      | none => none
    | .slice e, .slice k (some m) _ => match assoc C.ti e with
      | some ie => if b < m ∧ ie.size = C.per k then some (.ptr k 0 0 false) else none
      | none => none
    | _, _ => none
  | _, _, _ => none
def joinAll (g0 : Nat) : List Bt → Option Bt
  | [] => none
  | [b] => some b
  | b :: l => match joinAll g0 l with
    | some c => joinB g0 b c
    | none => none
def indexT (C : Cfg) (t : TypeId) (x i : Ty) : Option Ty :=
  match assoc C.ti t, i.b?, x with
  | some ti, some (.int _ a b), .one (.str (some l)) => if a < 0 then none else
    match ti.desc with
    | .string => if b < l.length then some (.one (.int .u8 0 255)) else none
    | _ => none
  | some ti, some (.int _ a b), .agg l => if a < 0 then none else
    match ti.desc with
    | .array len e => match assoc C.ti e with
      | some ie => if b < len ∧ ie.size = 1 ∧ isAggD ie.desc = false ∧ l.length = len then (joinAll C.g0 l).map .one else none
      | none => none
    | _ => none
  | _, _, _ => none
def fieldV (C : Cfg) (t : TypeId) (x : Ty) (f : Nat) : Option Ty :=
  match assoc C.ti t, x with
  | some ti, .agg l => match ti.desc with
    | .struct fs => match fs[f]? with
      | some fd => match assoc C.ti fd.type with
        | some fi => if isAggD fi.desc then some (.agg ((l.drop fd.offset).take fi.size)) else (l[fd.offset]?).map .one
        | none => none
      | none => none
    | _ => none
  | _, _ => none
def sliceT (C : Cfg) (t : TypeId) (x : Ty) (hi : Ty) : Option Bt :=
  match assoc C.ti t, x.b?, hi.b? with
  | some ti, some (.slice k (some m) _), some (.int _ c c') => match ti.desc with
    | .slice e => match assoc C.ti e with
      | some _ => if c = c' ∧ 0 ≤ c ∧ c ≤ m then some (.slice k (some c.toNat) (some c.toNat)) else none
      | none => none
    | _ => none
  | _, _, _ => none
def lenT (C : Cfg) (t : TypeId) (x : Ty) : Option Bt :=
  match assoc C.ti t, x.b? with
  | some ti, some b => match ti.desc, b with
    | .slice _, .slice _ lo hi => some (.int .i64 (lo.getD 0 : Nat) (hi.getD maxLen : Nat))
    | .slice _, .nils => some (.int .i64 0 0)
    | .string, .str (some l) => some (.int .i64 (l.length : Nat) (l.length : Nat))
    | _, _ => none
  | _, _ => none
def convT (C : Cfg) (s d : TypeId) (x : Ty) : Option Bt :=
  match assoc C.ti s, assoc C.ti d, x.b? with
  | some _, some ti, some (.int _ a b) => match ti.desc with
    | .int k => some (fitB k a b)
    | _ => none
  | _, _, _ => none
def unT (op : UnOp) (x : Ty) : Option Bt :=
  match op, x.b? with
  | .not, some (.bool o) => some (.bool (o.map (!·)))
  | .not, some (.nz u p) => some (.nz u (!p))
  | .neg, some (.int k a b) => some (fitB k (-b) (-a))
  | .xor, some (.int k _ _) => some (fullB k)
  | _, _ => none
def nilT (C : Cfg) (x : Ty) : Option Bt :=
  match x.b? with
  | some (.ptr k lo hi false) => some (.ptr k lo hi false)
  | some (.iface t k) => some (.iface t k)
  | some (.meth t k m) => if C.meths.any (fun y => y.1 == t && y.2.1 == m) then some (.meth t k m) else none
  | _ => none
def makeT (C : Cfg) (t : TypeId) (l c : Ty) : Option Bt :=
  match assoc C.ti t, l.b?, c.b? with
  | some ti, some (.int _ a a'), some (.int _ b b') => match ti.desc with
    | .slice e => match assoc C.ti e, assoc C.kinds e with
      | some ie, some k => match constsT ie.zero with
        | some z => if a = a' ∧ b = b' ∧ 0 ≤ a ∧ a ≤ b ∧ b ≤ 1000000 ∧ ie.bytes ≤ 1024 ∧ ie.zero ≠ [] ∧ z.length = C.per k ∧ fitS C k 0 z = true then some (.slice k (some a.toNat) (some a.toNat)) else none
        | none => none
      | _, _ => none
    | _ => none
  | _, _, _ => none
section
variable {P : Program} {E : Env} {C : Cfg} {S : St} {j : Nat} {ρ : Array Value} {w : World}
theorem indexAddrT_ok (hC : CfgOk P E C) (hI : Inv E S j w) {t : TypeId} {x i : Ty} {v u : Value} {b : Bt} (h : indexAddrT C t x i = some b) (hx : VT E S j ρ x v) (hi : VT E S j ρ i u) :
    ∃ r, (Instr.indexAt t v u).run P w = .ok r w ∧ VB E S j ρ b r := by
  unfold indexAddrT at h
  split at h
  case h_2 => cases h
  rename_i ti kk a bb xb e1 e2 e3
  split at h
  case isTrue => cases h
  rename_i ha
  obtain ⟨n, rfl, n1, n2⟩ := b?_ok e2 hi
  have hv := b?_ok e3 hx
  have hu := under_of hC e1
  split at h
  case h_3 => cases h
  · rename_i len e k lo hi' hd
    rw [hd] at hu
    split at h
    case h_2 => cases h
    rename_i ie hie
    split at h
    case isFalse => cases h
    rename_i hc
    obtain ⟨c1, c2, c3⟩ := hc
    cases h
    rcases hv with ⟨e, _⟩ | ⟨g, o, m, rfl, k1, k2, k3, k4⟩
    · cases e
    obtain ⟨p0, p1, _⟩ := hI g k m k1
    rw [per_eq hC] at *
    have h1 : a.toNat * ie.size ≤ n.toNat * ie.size := Nat.mul_le_mul_right _ (by omega)
    have h2 : n.toNat * ie.size ≤ bb.toNat * ie.size := Nat.mul_le_mul_right _ (by omega)
    have hm := mod_add (o := o) (d := n.toNat * ie.size) (p := C.per k) (by omega)
    have hn : 0 ≤ n ∧ n < (len : Int) := ⟨by omega, by omega⟩
    refine ⟨.pointer (some ⟨g, o + n.toNat * ie.size, none⟩), ?_, .inr ⟨g, _, m, rfl, k1, lt_of_mod k2 p1 (by omega), ?_, ?_⟩⟩
    · simp [Instr.indexAt, asIntOf, run_underlying hu, Instr.sureAddr, run_sizeOf_ti hC hie, hn, add_mk]
    · rw [per_eq hC, hm]; omega
    · rw [per_eq hC, hm]; omega
  · rename_i e k m hi' hd
    rw [hd] at hu
    split at h
    case h_2 => cases h
    rename_i ie hie
    split at h
    case isFalse => cases h
    rename_i hc
    obtain ⟨c1, c2⟩ := hc
    cases h
    obtain ⟨ad, len, cap, rfl, q1, q2, q3, q4, q5, q6⟩ := hv
    simp only [Option.getD_some] at q3
    have hn : 0 ≤ n ∧ n < (len : Int) := ⟨by omega, by omega⟩
    rcases q6 with ⟨rfl, rfl⟩ | ⟨g, o, m', rfl, k1, k2, k3⟩
    · omega
    obtain ⟨p0, p1, _⟩ := hI g k m' k1
    rw [per_eq hC] at *
    have h1 : (n.toNat + 1) * C.per k ≤ cap * C.per k := Nat.mul_le_mul_right _ (by omega)
    rw [Nat.add_mul, Nat.one_mul] at h1
    refine ⟨.pointer (some ⟨g, o + n.toNat * C.per k, none⟩), ?_, .inr ⟨g, _, m', rfl, k1, by omega, Nat.zero_le _, ?_⟩⟩
    · simp [Instr.indexAt, asIntOf, run_underlying hu, run_sizeOf_ti hC hie, hn, add_mk, c2]
    · rw [per_eq hC, Nat.add_mod, k2, Nat.mul_mod_left]; simp
theorem joinAll_ok (hC : CfgOk P E C) : ∀ {l : List Bt} {b : Bt}, joinAll C.g0 l = some b → ∀ (i : Nat) c v, l[i]? = some c → VB E S j ρ c v → VB E S j ρ b v
  | [], b, h, i, c, v, hc, hv => by simp at hc
  | [x], b, h, i, c, v, hc, hv => by
    cases h
    cases i with
    | zero => simp at hc; subst hc; exact hv
    | succ i => simp at hc
  | x :: y :: l, b, h, i, c, v, hc, hv => by
    unfold joinAll at h
    split at h
    · rename_i d hd
      cases i with
      | zero => simp at hc; subst hc; exact (joinB_ok hC h).1 hv
      | succ i => exact (joinB_ok hC h).2 (joinAll_ok hC hd i c v (by simpa using hc) hv)
    · cases h
theorem indexT_ok (hC : CfgOk P E C) {t : TypeId} {x i : Ty} {v u : Value} {r : Ty} (h : indexT C t x i = some r) (hx : VT E S j ρ x v) (hi : VT E S j ρ i u) :
    ∃ y, (Instr.index t v u).run P w = .ok y w ∧ VT E S j ρ r y := by
  unfold indexT at h
  split at h
  case h_3 => cases h
  case h_1 =>
    rename_i ti kk a bb l e1 e2
    split at h
    case isTrue => cases h
    rename_i ha
    obtain ⟨n, rfl, n1, n2⟩ := b?_ok e2 hi
    have hu := under_of hC e1
    split at h
    case h_2 => cases h
    rename_i hd
    rw [hd] at hu
    split at h
    case isFalse => cases h
    rename_i hc
    cases h
    obtain ⟨s, rfl, hs⟩ := hx
    have hl := hs l rfl
    have hsz : n.toNat < s.size := by
      have : s.size = l.length := by rw [← hl]; rfl
      omega
    have h0 : 0 ≤ n := by omega
    have hb : (s[n.toNat]).toNat < 256 := UInt8.toNat_lt _
    exact ⟨.int .u8 (s[n.toNat]).toNat, by simp [Instr.index, asIntOf, run_underlying hu, h0, hsz], _, rfl, by omega, by omega⟩
  rename_i ti kk a bb l e1 e2
  split at h
  case isTrue => cases h
  rename_i ha
  obtain ⟨n, rfl, n1, n2⟩ := b?_ok e2 hi
  have hu := under_of hC e1
  split at h
  case h_2 => cases h
  rename_i len e hd
  rw [hd] at hu
  split at h
  case h_2 => cases h
  rename_i ie hie
  split at h
  case isFalse => cases h
  rename_i hc
  obtain ⟨c1, c2, c3, c4⟩ := hc
  simp only [Option.map_eq_some_iff] at h
  obtain ⟨b, hb, rfl⟩ := h
  obtain ⟨cs, rfl, hl⟩ := hx
  have hlt : n.toNat < cs.toList.length := by rw [hl.1, c4]; omega
  have hlt' : n.toNat < cs.size := by simpa using hlt
  have hn : 0 ≤ n ∧ n < (len : Int) := ⟨by omega, by omega⟩
  refine ⟨cs[n.toNat], ?_, joinAll_ok hC hb n.toNat (l[n.toNat]'(by omega)) _ (List.getElem?_eq_getElem _) (hl.2 n.toNat _ _ (List.getElem?_eq_getElem (by omega)) (by simp [hlt']))⟩
  simp [Instr.index, asIntOf, run_underlying hu, hn, run_sizeOf_ti hC hie, c2, part, run_isAgg_ti hC hie, c3, hlt']
theorem fieldV_ok (hC : CfgOk P E C) {t : TypeId} {x : Ty} {f : Nat} {v : Value} {r : Ty} (h : fieldV C t x f = some r) (hx : VT E S j ρ x v) :
    ∃ y, (Instr.field t v f).run P w = .ok y w ∧ VT E S j ρ r y := by
  unfold fieldV at h
  split at h
  case h_2 => cases h
  rename_i ti l e1
  have hu := under_of hC e1
  split at h
  case h_2 => cases h
  rename_i fs hd
  rw [hd] at hu
  split at h
  case h_2 => cases h
  rename_i fd hf
  split at h
  case h_2 => cases h
  rename_i fi hfi
  obtain ⟨cs, rfl, hl⟩ := hx
  split at h
  · rename_i hag
    cases h
    refine ⟨.agg (cs.extract fd.offset (fd.offset + fi.size)), ?_, _, rfl, ?_, fun i b v hb hv => ?_⟩
    · simp [Instr.field, run_underlying hu, hf, part, run_isAgg_ti hC hfi, hag, run_sizeOf_ti hC hfi, asAgg]
    · have := hl.1
      simp at this ⊢
      omega
    · rw [List.getElem?_take, List.getElem?_drop] at hb
      rw [Array.toList_extract, List.extract_eq_take_drop, List.getElem?_take, List.getElem?_drop] at hv
      split at hb
      · rw [if_pos (by omega)] at hv; exact hl.2 _ b v hb hv
      · cases hb
  · rename_i hag
    simp only [Option.map_eq_some_iff] at h
    obtain ⟨b, hb, rfl⟩ := h
    have hlt : fd.offset < cs.size := by
      have := (List.getElem?_eq_some_iff.1 hb).1
      have := hl.1
      simp at this; omega
    refine ⟨cs[fd.offset], ?_, hl.2 fd.offset b _ hb (by simp [hlt])⟩
    simp [Instr.field, run_underlying hu, hf, part, run_isAgg_ti hC hfi, hag, asAgg, hlt]
theorem sliceT_ok (hC : CfgOk P E C) {t : TypeId} {x h' : Ty} {v u : Value} {b : Bt} (h : sliceT C t x h' = some b) (hx : VT E S j ρ x v) (hh : VT E S j ρ h' u) :
    ∃ y, (Instr.sliceAt t v none (some u) none).run P w = .ok y w ∧ VB E S j ρ b y := by
  unfold sliceT at h
  split at h
  case h_2 => cases h
  rename_i ti k m hi kk c c' e1 e2 e3
  have hu := under_of hC e1
  split at h
  case h_2 => cases h
  rename_i e hd
  rw [hd] at hu
  split at h
  case h_2 => cases h
  rename_i ie hie
  split at h
  case isFalse => cases h
  rename_i hc
  obtain ⟨rfl, c1, c2⟩ := hc
  cases h
  obtain ⟨ad, len, cap, rfl, q1, q2, q3, q4, q5, q6⟩ := b?_ok e2 hx
  obtain ⟨n, rfl, n1, n2⟩ := b?_ok e3 hh
  obtain rfl : n = c := by omega
  simp only [Option.getD_some] at q3
  have hn : 0 ≤ n ∧ n ≤ (cap : Int) := ⟨by omega, by omega⟩
  have hadd : (if cap = 0 then ad else ad.map (·.add (0 * ie.size))) = ad := by
    split
    · rfl
    · cases ad with
      | none => rfl
      | some q => simp [Addr.add]
  refine ⟨.slice ad n.toNat cap, ?_, ad, n.toNat, cap, rfl, by omega, q2, Nat.le_refl _, fun m hm => by cases hm; exact Nat.le_refl _, fun hm => (by cases hm), q6⟩
  have hadd' : (if cap = 0 then ad else ad.map (·.add 0)) = ad := by simpa using hadd
  simp [Instr.sliceAt, Instr.slice, run_underlying hu, Instr.sliceBounds, Instr.sliceBound, asIntOf, hn, run_sizeOf_ti hC hie]
  intro h0
  rw [if_neg h0] at hadd'
  exact hadd'
theorem lenT_ok (hC : CfgOk P E C) {t ty : TypeId} {x : Ty} {v : Value} {b : Bt} (h : lenT C t x = some b) (hx : VT E S j ρ x v) :
    ∃ y, (Builtin.len_ #[t] ty #[v]).run P w = .ok y w ∧ VB E S j ρ b y := by
  unfold lenT at h
  split at h
  case h_2 => cases h
  rename_i ti xb e1 e2
  have hu := under_of hC e1
  have hv := b?_ok e2 hx
  split at h
  case h_4 => cases h
  · rename_i e k lo hi hd
    rw [hd] at hu
    cases h
    obtain ⟨ad, len, cap, rfl, q1, q2, q3, q4, q5, q6⟩ := hv
    refine ⟨.int .i64 len, by simp [Builtin.len_, run_underlying hu, goInt], _, rfl, ?_, ?_⟩
    · cases lo <;> simp at q3 ⊢; omega
    · cases hi with
      | none => simp; omega
      | some m => have := q4 m rfl; simp; omega
  · rename_i e hd
    rw [hd] at hu
    cases h
    cases hv
    exact ⟨.int .i64 0, by simp [Builtin.len_, run_underlying hu, goInt], _, rfl, Int.le_refl _, Int.le_refl _⟩
  · rename_i l hd
    rw [hd] at hu
    cases h
    obtain ⟨s, rfl, hs⟩ := hv
    have hl := hs l rfl
    have hsz : s.size = l.length := by rw [← hl]; rfl
    exact ⟨.int .i64 s.size, by simp [Builtin.len_, run_underlying hu, goInt], _, rfl, by rw [hsz]; exact Int.le_refl _, by rw [hsz]; exact Int.le_refl _⟩
theorem convT_ok (hC : CfgOk P E C) {s d : TypeId} {x : Ty} {v : Value} {b : Bt} (h : convT C s d x = some b) (hx : VT E S j ρ x v) :
    ∃ y, (convert s d v).run P w = .ok y w ∧ VB E S j ρ b y := by
  unfold convT at h
  split at h
  case h_2 => cases h
  rename_i ti' ti kk a bb e1 e2 e3
  split at h
  case h_2 => cases h
  rename_i k hd
  cases h
  have hu := under_of hC e2
  rw [hd] at hu
  have hu' := under_of hC e1
  obtain ⟨n, rfl, n1, n2⟩ := b?_ok e3 hx
  refine ⟨.int k (k.wrap n), ?_, fitB_ok n1 n2⟩
  simp [convert, run_underlying hu, run_underlying hu', Conv.intToInt]
theorem unT_ok {op : UnOp} {x : Ty} {v : Value} {b : Bt} (h : unT op x = some b) (hx : VT E S j ρ x v) :
    ∃ y, (Op.unary op v).run P w = .ok y w ∧ VB E S j ρ b y := by
  unfold unT at h
  split at h
  case h_5 => cases h
  · rename_i o e
    cases h
    obtain ⟨c, rfl, hc⟩ := b?_ok e hx
    refine ⟨.bool !c, rfl, _, rfl, fun d hd => ?_⟩
    cases o with
    | none => cases hd
    | some o' => have := hc o' rfl; subst this; simpa using hd
  · rename_i u p e
    cases h
    obtain ⟨c, rfl, hc⟩ := b?_ok e hx
    exact ⟨.bool !c, rfl, _, rfl, fun d => hc (by simpa using d)⟩
  · rename_i k a bb e
    cases h
    obtain ⟨n, rfl, n1, n2⟩ := b?_ok e hx
    exact ⟨.int k (k.wrap (0 - n)), by simp [Op.unary, Op.intArith], fitB_ok (by omega) (by omega)⟩
  · rename_i k a bb e
    cases h
    obtain ⟨n, rfl, n1, n2⟩ := b?_ok e hx
    exact ⟨_, by simp [Op.unary, Op.intBits]; rfl, fullB_ok k _⟩
theorem nilT_ok (hC : CfgOk P E C) {x : Operand} {ty : Ty} {a : Act} {o : Oper} {b : Bt} (ho : o.op = .nilCheck x) (h : nilT C ty = some b) (hx : VT E S j a.tmps ty (a.eval x)) :
    ∃ y, (execOp a.eval o).run P w = .ok (.value y) w ∧ VB E S j a.tmps b y := by
  unfold nilT at h
  unfold execOp
  rw [ho]
  split at h
  case h_4 => cases h
  · rename_i k lo hi e
    cases h
    have hv := b?_ok e hx
    rcases hv with ⟨e, _⟩ | ⟨g, oo, m, hv, k1⟩
    · cases e
    · refine ⟨a.eval x, ?_, .inr ⟨g, oo, m, hv, k1⟩⟩
      simp only [hv]
      rfl
  · rename_i t k e
    cases h
    obtain ⟨g, m, hv, k1⟩ := b?_ok e hx
    refine ⟨a.eval x, ?_, g, m, hv, k1⟩
    simp only [hv]
    rfl
  · rename_i t k m e
    split at h
    case isFalse => cases h
    rename_i hm
    cases h
    obtain ⟨g, n, hv, k1⟩ := b?_ok e hx
    simp only [List.any_eq_true, Bool.and_eq_true, beq_iff_eq] at hm
    obtain ⟨⟨t', m', f⟩, hmem, e1, e2⟩ := hm
    simp only at e1 e2
    subst e1 e2
    have hna := (hC.meths _ _ f hmem ⟨g, 0, none⟩ w).2
    refine ⟨a.eval x, ?_, g, n, hv, k1⟩
    simp only [hv]
    simp [hna]
end
end Ck
end Go.Proofs.YtnlaedfnifimkaaGreat
namespace Go.Proofs.YtnlaedfnifimkaaGreat
open Go.RowKit
namespace Ck
def slB (k : Kd) : Bt → Option (Option Nat × Option Nat)
  | .slice k' lo hi => if k = k' then some (lo, hi) else none
  | .nils => some (some 0, some 0)
  | _ => none
def appendT (C : Cfg) (t t' : TypeId) (x y : Ty) : Option (Bt × Nat) :=
  match assoc C.ti t, assoc C.ti t', x.b?, y.b? with
  | some ti, some ti', some xb, some yb =>
    match ti.desc, ti'.desc with
    | .slice e, .slice _ => match assoc C.ti e, assoc C.kinds e with
      | some ie, some k => match slB k xb, slB k yb, constsT ie.zero with
        | some (lo, hi), some (lo2, some m), some z =>
          if ie.bytes ≤ 1024 ∧ ie.zero ≠ [] ∧ z.length = C.per k ∧ fitS C k 0 z = true ∧ m ≤ 1000000 ∧ hi.getD 0 ≤ 1000000000 then
            some (.slice k (lo.map (· + lo2.getD 0)) (hi.map (· + m)), m)
          else none
        | _, _, _ => none
      | _, _ => none
    | _, _ => none
  | _, _, _, _ => none
section
variable {P : Program} {E : Env} {C : Cfg} {S : St} {j : Nat} {ρ : Array Value} {w : World}
def Fits (E : Env) (S : St) (j : Nat) (k : Kd) (o : Nat) (vs : List Value) : Prop :=
  ∀ (i : Nat) v, vs[i]? = some v → ∃ t, E.cellT k ((o + i) % E.per k) = some t ∧ t.free = true ∧ VB E S j #[] t v
theorem Fits.mono {j' : Nat} {k : Kd} {o : Nat} {vs : List Value} (h : Fits E S j k o vs) (hj : j ≤ j') : Fits E S j' k o vs := fun i v hv => by
  obtain ⟨t, h1, h2, h3⟩ := h i v hv
  exact ⟨t, h1, h2, h3.mono (fun _ _ h => h) hj⟩
theorem Fits.shift {k : Kd} {o o' : Nat} {vs : List Value} (h : Fits E S j k o vs) (he : o % E.per k = o' % E.per k) : Fits E S j k o' vs := fun i v hv => by
  obtain ⟨t, h1, h2, h3⟩ := h i v hv
  refine ⟨t, ?_, h2, h3⟩
  rw [Nat.add_mod, ← he, ← Nat.add_mod]; exact h1
theorem Fits.append {k : Kd} {o : Nat} {vs us : List Value} (h : Fits E S j k o vs) (h' : Fits E S j k (o + vs.length) us) : Fits E S j k o (vs ++ us) := fun i v hv => by
  rcases Nat.lt_or_ge i vs.length with hlt | hge
  · rw [List.getElem?_append_left hlt] at hv; exact h i v hv
  · rw [List.getElem?_append_right hge] at hv
    have := h' _ v hv
    rwa [show o + vs.length + (i - vs.length) = o + i by omega] at this
theorem fits_zero (hC : CfgOk P E C) {k : Kd} {zs : List Value} {z : List Bt} (hz : constsT zs = some z) (hf : fitS C k 0 z = true) (hl : z.length = C.per k) (h0 : zs ≠ []) (n : Nat) :
    Fits E S j k 0 ((Array.range n).map (zs.toArray[· % zs.toArray.size]!)).toList := fun i v hv => by
  have hzl := constsT_ok (E := E) (S := S) (j := j) (ρ := #[]) hz
  have hlen := hzl.1
  have hi : i < n := by have := (List.getElem?_eq_some_iff.1 hv).1; simpa using this
  have hpos : 0 < zs.length := List.length_pos_iff.2 h0
  have hlt : i % zs.length < zs.length := Nat.mod_lt _ hpos
  simp [hi] at hv
  obtain ⟨t, h1, h2, h3⟩ := fitS_ok hC hf hzl (i % zs.length) v (by rw [List.getElem?_eq_getElem hlt, ← hv]; simp [hlt])
  refine ⟨t, ?_, h2, h3⟩
  have e : E.per k = zs.length := by rw [per_eq hC]; omega
  rw [Nat.zero_add] at h1 ⊢
  rw [e] at h1 ⊢
  rwa [Nat.mod_mod] at h1
theorem newRow_fits (hI : Inv E S j w) {k : Kd} (hp : 0 < E.per k) {cs : Array Value} (hf : Fits E S j k 0 cs.toList) (hn : cs.size % E.per k = 0) :
    Inv E (S.put w.heap.size (k, cs.size)) j (w.alloc (.cells cs (E.elem k))) := hI.new cs k hp hn fun i v hv => by
  have := hf i v (by simpa using hv)
  rwa [Nat.zero_add] at this
theorem makeT_ok (hC : CfgOk P E C) (hI : Inv E S j w) {t : TypeId} {l c : Ty} {v u : Value} {b : Bt} (h : makeT C t l c = some b) (hl : VT E S j ρ l v) (hc : VT E S j ρ c u) :
    ∃ y w' S', (Instr.makeSlice t v u).run P w = .ok y w' ∧ Inv E S' j w' ∧ Stp E S S' w w' [] ∧ VB E S' j ρ b y := by
  unfold makeT at h
  split at h
  case h_2 => cases h
  rename_i ti kl a a' kc bb bb' e1 e2 e3
  have hu := under_of hC e1
  split at h
  case h_2 => cases h
  rename_i e hd
  rw [hd] at hu
  split at h
  case h_2 => cases h
  rename_i ie k hie hk
  split at h
  case h_2 => cases h
  rename_i z hz
  split at h
  case isFalse => cases h
  rename_i hcond
  obtain ⟨rfl, rfl, c1, c2, c3, c4, c5, c6, c7⟩ := hcond
  cases h
  obtain ⟨x, rfl, x1, x2⟩ := b?_ok e2 hl
  obtain ⟨y, rfl, y1, y2⟩ := b?_ok e3 hc
  obtain rfl : x = a := by omega
  obtain rfl : y = bb := by omega
  obtain ⟨inf, i1, i2, i3, i4, i5⟩ := hC.ti e ie hie
  obtain ⟨zv, z1, z2⟩ := i5 c5
  obtain ⟨hel, hp, ie', hie', hsz⟩ := hC.kinds e k hk
  rw [hie] at hie'; cases hie'
  have hb : (inf.bytes : Int) * y ≤ 281474976710656 := by
    rw [i4]
    have h1 : (ie.bytes : Int) * y ≤ 1024 * y := Int.mul_le_mul_of_nonneg_right (by omega) (by omega)
    omega
  have hrun := run_make w t e inf zv hu i1 z1 kl kc x y c1 c2 hb (by omega)
  have hfit := fits_zero (S := S) (j := j) hC hz c7 c6 c5 (y.toNat * inf.size)
  have hcs : madeCells zv.cells (y.toNat * inf.size) = (Array.range (y.toNat * inf.size)).map (ie.zero.toArray[· % ie.zero.toArray.size]!) := by
    unfold madeCells; rw [show zv.cells = ie.zero.toArray by rw [← z2]]
  rw [hcs] at hrun
  generalize hq : (Array.range (y.toNat * inf.size)).map (ie.zero.toArray[· % ie.zero.toArray.size]!) = cs at *
  have hsize : cs.size = y.toNat * E.per k := by rw [← hq]; simp [i3, hsz]
  refine ⟨_, _, S.put w.heap.size (k, cs.size), hrun, ?_, ?_, some _, x.toNat, y.toNat, rfl, by omega, by unfold maxLen; omega, Nat.le_refl _, fun m hm => by cases hm; exact Nat.le_refl _, fun hm => (by cases hm), .inr ⟨w.heap.size, 0, cs.size, rfl, if_pos rfl, Nat.zero_mod _, by rw [hsize]; omega⟩⟩
  · rw [← hel]; exact newRow_fits hI hp hfit (by rw [hsize]; exact Nat.mul_mod_left _ _)
  · rw [← hel]; exact Stp.new hI cs k []
theorem loadRow (hI : Inv E S j w) {g k n o m : Nat} (hS : S g = some (k, n)) (ho : o % E.per k = 0) (hm : o + m * E.per k ≤ n) :
    ∃ vs : List Value, (loadCells ⟨g, o, none⟩ (m * E.per k)).run P w = .ok vs.toArray w ∧ vs.length = m * E.per k ∧ Fits E S j k 0 vs := by
  have hcell : ∀ jj, jj < m * E.per k → ∃ u, w.cell? ⟨g, o + jj, none⟩ = some u ∧ ∃ t, E.cellT k (jj % E.per k) = some t ∧ t.free = true ∧ VB E S j #[] t u := fun jj hj => by
    obtain ⟨t, u, h1, h2, h3, h4⟩ := hI.cell hS (o := o + jj) (by omega)
    refine ⟨u, h1, t, ?_, h3, h4⟩
    rw [Nat.add_mod, ho, Nat.zero_add, Nat.mod_mod] at h2; exact h2
  have hrow := run_loadCells (P := P) w ⟨g, o, none⟩ (m * E.per k) (fun jj => (w.cell? ⟨g, o + jj, none⟩).getD undef) (fun jj hj => by
    obtain ⟨u, h1, _⟩ := hcell jj hj
    rw [add_mk, h1]; rfl)
  refine ⟨_, hrow, by simp, fun i v hv => ?_⟩
  have hi : i < m * E.per k := by have := (List.getElem?_eq_some_iff.1 hv).1; simpa using this
  obtain ⟨u, h1, t, h2, h3, h4⟩ := hcell i hi
  simp [hi, h1] at hv
  subst hv
  rw [Nat.zero_add]
  exact ⟨t, h2, h3, h4⟩
theorem run_storeFits (hC : CfgOk P E C) {g k n : Nat} (hS : S g = some (k, n)) (tc : List (Kd × Nat)) (htc : ∀ i, (k, i) ∈ E.watch → (k, i) ∈ tc) : ∀ (us : List Value) (o i : Nat) (w : World), Inv E S j w → o + i + us.length ≤ n → Fits E S j k (o + i) us →
    ∃ w', (storeCells ⟨g, o, none⟩ us i).run P w = .ok () w' ∧ Inv E S j w' ∧ Stp E S S w w' tc
  | [], o, i, w, hI, _, _ => ⟨w, rfl, hI, Stp.refl E S w tc⟩
  | u :: us, o, i, w, hI, hn, hf => by
    simp only [List.length_cons] at hn
    obtain ⟨t, t1, t2, t3⟩ := hf 0 u rfl
    rw [Nat.add_zero] at t1
    have hrun := run_store_ok (P := P) hC hI hS (o := o + i) (by omega) t3
    have hI' := hI.set hS (o := o + i) (by omega) t1 t2 t3
    have hs := Stp.set (w := w) (tc := tc) u hS (o := o + i) (fun hw => htc _ hw)
    obtain ⟨w', h1, h2, h3⟩ := run_storeFits hC hS tc htc us o (i + 1) _ hI' (by omega) (fun a v hv => by
      have := hf (a + 1) v (by simpa using hv)
      rwa [show o + i + (a + 1) = o + (i + 1) + a by omega] at this)
    exact ⟨w', by simp [storeCells, add_mk, hrun, h1], h2, hs.trans h3⟩
theorem slB_ok {k : Kd} {b : Bt} {lo hi : Option Nat} {v : Value} (h : slB k b = some (lo, hi)) (hv : VB E S j ρ b v) : VB E S j ρ (.slice k lo hi) v := by
  cases b <;> simp only [slB] at h <;> try cases h
  case slice k' lo' hi' =>
    split at h
    · rename_i e; subst e; cases h; exact hv
    · cases h
  case nils.refl =>
    cases hv
    exact ⟨none, 0, 0, rfl, Nat.le_refl _, by unfold maxLen; omega, Nat.le_refl _, fun m hm => by cases hm; exact Nat.le_refl _, fun hm => (by cases hm), .inl ⟨rfl, rfl⟩⟩
theorem appendT_ok (hC : CfgOk P E C) (hI : Inv E S j w) {t t' ty : TypeId} {x y : Ty} {v u : Value} {b : Bt} {bump : Nat} (h : appendT C t t' x y = some (b, bump)) (hj : j + bump ≤ E.J) (hx : VT E S j ρ x v) (hy : VT E S j ρ y u)
    {tc : List (Kd × Nat)} (htc : ∀ k i m l2, b = .slice k m l2 → (k, i) ∈ E.watch → (k, i) ∈ tc) :
    ∃ r w' S', (Builtin.append_ #[t, t'] ty #[v, u]).run P w = .ok r w' ∧ Inv E S' (j + bump) w' ∧ Stp E S S' w w' tc ∧ VB E S' (j + bump) ρ b r := by
  unfold appendT at h
  split at h
  case h_2 => cases h
  rename_i ti ti' xb yb e1 e2 e3 e4
  split at h
  case h_2 => cases h
  rename_i e e' hd hd'
  split at h
  case h_2 => cases h
  rename_i ie k hie hk
  split at h
  case h_2 => cases h
  rename_i lo hi lo2 m z f1 f2 hz
  split at h
  case isFalse => cases h
  rename_i hcond
  obtain ⟨c1, c2, c3, c4, c5, c6⟩ := hcond
  simp only [Option.some.injEq, Prod.mk.injEq] at h
  obtain ⟨rfl, rfl⟩ := h
  obtain ⟨base, sLen, sCap, rfl, s1, s2, s3, s4, s5, s6⟩ := slB_ok f1 (b?_ok e3 hx)
  obtain ⟨xa, n, xc, rfl, n1, n2, n3, n4, n5, n6⟩ := slB_ok f2 (b?_ok e4 hy)
  have hu := under_of hC e1
  rw [hd] at hu
  have hu' := under_of hC e2
  rw [hd'] at hu'
  obtain ⟨inf, i1, i2, i3, i4, i5⟩ := hC.ti e ie hie
  obtain ⟨zv, z1, z2⟩ := i5 c2
  obtain ⟨hel, hp, ie', hie', hsz⟩ := hC.kinds e k hk
  rw [hie] at hie'; cases hie'
  have hsize : inf.size = E.per k := by rw [i3, hsz]
  have hnm : n ≤ m := n4 m rfl
  have hroom := hC.room
  have hslen : sLen ≤ 1000000000 := by
    cases hi with
    | none => have := s5 rfl; omega
    | some q => have := s4 q rfl; simp at c6; omega
  obtain ⟨news, w1, w2, w3⟩ : ∃ vs : List Value, (Builtin.firstCells inf.size n (.slice xa n xc)).run P w = .ok vs.toArray w ∧ vs.length = n * E.per k ∧ Fits E S j k 0 vs := by
    rw [hsize]
    rcases n6 with ⟨rfl, rfl⟩ | ⟨g, o, q, rfl, k1, k2, k3⟩
    · obtain rfl : n = 0 := by omega
      exact ⟨[], rfl, by simp, fun i v hv => by simp at hv⟩
    · exact loadRow hI k1 k2 (Nat.le_trans (Nat.add_le_add_left (Nat.mul_le_mul_right _ n1) o) k3)
  have hzeros : ∀ (α : Type) (f : Bool → Sem α), ((do pure ((← underlying t') matches .int _) : Sem Bool) >>= f).run P w = (f false).run P w := fun α f => by
    simp [run_underlying hu']
  by_cases hfit : sLen + n ≤ sCap
  · -- in place
    have hnew : Fits E S j k (sLen * E.per k) news := w3.shift (by simp)
    obtain ⟨w', r1, r2, r3⟩ : ∃ w', (match base with | some a => storeCells (a.add (sLen * inf.size)) news | none => pure () : Sem Unit).run P w = .ok () w' ∧ Inv E S j w' ∧ Stp E S S w w' tc := by
      rcases s6 with ⟨rfl, rfl⟩ | ⟨g, o, q, rfl, k1, k2, k3⟩
      · exact ⟨w, rfl, hI, Stp.refl E S w tc⟩
      · have hle : (sLen + n) * E.per k ≤ sCap * E.per k := Nat.mul_le_mul_right _ hfit
        rw [Nat.add_mul] at hle
        rw [hsize]
        have hoff : ((⟨g, o, none⟩ : Addr).add (sLen * E.per k)) = ⟨g, o + sLen * E.per k, none⟩ := add_mk g o _
        simp only [hoff]
        exact run_storeFits hC k1 tc (fun i hw => htc k i _ _ rfl hw) news (o + sLen * E.per k) 0 w hI (by omega) (w3.shift (by rw [Nat.add_zero, Nat.add_mod, k2, Nat.mul_mod_left]))
    refine ⟨.slice base (sLen + n) sCap, w', S, ?_, r2.mono (by omega), r3, base, sLen + n, sCap, rfl, hfit, s2, ?_, ?_, ?_, s6⟩
    · simp [Builtin.append_, run_underlying hu, run_underlying hu', sizeOf, typeInfo, i1, Builtin.lenOf, hfit, w1]
      cases base with
      | none => cases r1; rfl
      | some a => simp only at r1; simp [r1]
    · cases lo with
      | none => simp at s3 ⊢; omega
      | some q => simp at s3 n3 ⊢; cases lo2 <;> simp at n3 ⊢ <;> omega
    · intro q hq
      cases hi with
      | none => simp at hq
      | some q' => simp at hq; have := s4 q' rfl; omega
    · intro hq
      cases hi with
      | none => have := s5 rfl; omega
      | some q' => simp at hq
  · -- a new row
    have hgt : sCap < sLen + n := by omega
    obtain ⟨olds, o1, o2, o3⟩ : ∃ vs : List Value, (Builtin.firstCells inf.size sLen (.slice base sLen sCap)).run P w.drew = .ok vs.toArray w.drew ∧ vs.length = sLen * E.per k ∧ Fits E S j k 0 vs := by
      rw [hsize]
      rcases s6 with ⟨rfl, rfl⟩ | ⟨g, o, q, rfl, k1, k2, k3⟩
      · obtain rfl : sLen = 0 := by omega
        exact ⟨[], rfl, by simp, fun i v hv => by simp at hv⟩
      · exact loadRow (w := w.drew) hI k1 k2 (Nat.le_trans (Nat.add_le_add_left (Nat.mul_le_mul_right _ s1) o) k3)
    have w1' : (Builtin.firstCells inf.size n (.slice xa n xc)).run P w.drew = .ok news.toArray w.drew := by
      rcases n6 with ⟨rfl, rfl⟩ | ⟨g, o, q, rfl, k1, k2, k3⟩
      · simp [Builtin.firstCells] at w1 ⊢; exact w1
      · have h1 := w1
        obtain ⟨vs, v1, v2, v3⟩ := loadRow (P := P) (m := n) hI k1 k2 (Nat.le_trans (Nat.add_le_add_left (Nat.mul_le_mul_right _ n1) o) k3)
        obtain ⟨us, u1, u2, u3⟩ := loadRow (P := P) (w := w.drew) (m := n) hI k1 k2 (Nat.le_trans (Nat.add_le_add_left (Nat.mul_le_mul_right _ n1) o) k3)
        have hcells : ∀ jj v, news[jj]? = some v → w.cell? ((⟨g, o, none⟩ : Addr).add jj) = some v := fun jj v hv => by
          have hj : jj < n * E.per k := by rw [← w2]; exact (List.getElem?_eq_some_iff.1 hv).1
          obtain ⟨t0, u0, q1, _⟩ := hI.cell k1 (o := o + jj) (by
            have : n * E.per k ≤ xc * E.per k := Nat.mul_le_mul_right _ n1
            omega)
          have hrow := run_loadCells (P := P) w ⟨g, o, none⟩ (n * E.per k) (fun jj => (w.cell? ⟨g, o + jj, none⟩).getD undef) (fun jj hj => by
            obtain ⟨t0, u0, q1, _⟩ := hI.cell k1 (o := o + jj) (by
              have : n * E.per k ≤ xc * E.per k := Nat.mul_le_mul_right _ n1
              omega)
            rw [add_mk, q1]; rfl)
          rw [hsize] at h1
          have h1' : (loadCells ⟨g, o, none⟩ (n * E.per k)).run P w = .ok news.toArray w := h1
          rw [h1'] at hrow
          injection hrow with hrow _
          have : news = (List.range (n * E.per k)).map (fun jj => (w.cell? ⟨g, o + jj, none⟩).getD undef) := by simpa using hrow
          rw [this] at hv
          simp [hj, q1] at hv
          rw [add_mk, q1, hv]
        have := run_loadCells_list (P := P) w.drew ⟨g, o, none⟩ news hcells
        rw [w2, ← hsize] at this
        exact this
    have hbytes : Builtin.nextslicecap (sLen + n) sCap * inf.bytes ≤ 281474976710656 := by
      refine growslice_fits hgt ?_
      rw [i4]
      have : (sLen + n) * ie.bytes ≤ (sLen + n) * 1024 := Nat.mul_le_mul_left _ c1
      omega
    let q := Question.appendCap (sLen + n) sCap e
    let nc := q.cut (w.tape w.drawn q)
    have hnc : sLen + n ≤ nc ∧ nc ≤ maxLen := by
      show sLen + n ≤ sLen + n + w.tape w.drawn q % (2 ^ 63 - (sLen + n)) ∧ sLen + n + w.tape w.drawn q % (2 ^ 63 - (sLen + n)) ≤ maxLen
      have : w.tape w.drawn q % (2 ^ 63 - (sLen + n)) < 2 ^ 63 - (sLen + n) := Nat.mod_lt _ (by omega)
      unfold maxLen
      omega
    let rest := Builtin.zeroCells zv.cells (nc - (sLen + n))
    have hrest : Fits E S j k 0 rest.toList := by
      have := fits_zero (S := S) (j := j) hC hz c4 c3 c2 ((nc - (sLen + n)) * zv.cells.size)
      rw [show ie.zero.toArray = zv.cells by rw [← z2]] at this
      exact this
    have hzsz : zv.cells.size = E.per k := by
      have := (constsT_ok (E := E) (S := S) (j := j) (ρ := #[]) hz).1
      rw [per_eq hC, ← c3, ← this, ← z2]; simp
    have hrl : rest.size = (nc - (sLen + n)) * E.per k := by simp [rest, Builtin.zeroCells, hzsz]
    let cs : Array Value := olds.toArray ++ news.toArray ++ rest
    have hcs : cs.size = nc * E.per k := by
      have : nc * E.per k = (sLen + n) * E.per k + (nc - (sLen + n)) * E.per k := by rw [← Nat.add_mul]; congr 1; omega
      rw [this, Nat.add_mul]
      simp [cs, o2, w2, hrl, Nat.add_assoc]
    have hfits : Fits E S j k 0 cs.toList := by
      have hl : cs.toList = (olds ++ news) ++ rest.toList := by simp [cs]
      rw [hl]
      refine (o3.append (w3.shift ?_)).append (hrest.shift ?_)
      · rw [Nat.zero_add, o2, Nat.mul_mod_left, Nat.zero_mod]
      · rw [Nat.zero_add, List.length_append, o2, w2, ← Nat.add_mul, Nat.mul_mod_left, Nat.zero_mod]
    have hId : Inv E S j w.drew := hI
    have hI' := newRow_fits hId hp hfits (by rw [hcs]; exact Nat.mul_mod_left _ _)
    have hS' := (Stp.new hId cs k tc)
    rw [hel] at hI' hS'
    refine ⟨.slice (some ⟨w.drew.heap.size, 0, none⟩) (sLen + n) nc, _, _, ?_, hI'.mono (by omega), ⟨hS'.os, hS'.tape, hS'.output, hS'.size, hS'.ext, hS'.old, hS'.out, hS'.keep⟩, some _, sLen + n, nc, rfl, hnc.1, hnc.2, ?_, ?_, ?_, .inr ⟨_, 0, cs.size, rfl, if_pos rfl, Nat.zero_mod _, by rw [hcs]; omega⟩⟩
    · have hmax : ¬ (((sLen + n : Nat) : Int) > IntKind.i64.max) := by simp [IntKind.max, IntKind.signed, IntKind.bits]; omega
      have hb2 : ¬ (Builtin.nextslicecap (sLen + n) sCap * inf.bytes > 2 ^ 48) := by omega
      have hzv : ∀ w : World, (zeroValue e).run P w = .ok zv w := fun w => by simp [zeroValue, typeInfo, i1, z1]
      have hti : ∀ w : World, (typeInfo e).run P w = .ok inf w := fun w => by simp [typeInfo, i1]
      have hso : ∀ w : World, (sizeOf e).run P w = .ok inf.size w := fun w => by simp [sizeOf, typeInfo, i1]
      have hch : (choose q).run P w = .ok nc w.drew := by rw [run_choose_drew]; rfl
      have hch' : (choose (Question.appendCap (sLen + n) sCap e)).run P w = .ok nc w.drew := hch
      have hmax' : ¬ (IntKind.i64.max < ((sLen : Int) + (n : Int))) := by have := hmax; simp at this ⊢; omega
      have hm2 : ¬ ((9223372036854775807 : Int) < (sLen : Int) + (n : Int)) := by omega
      have hb3 : ¬ (281474976710656 < Builtin.nextslicecap (sLen + n) sCap * inf.bytes) := by omega
      simp [Builtin.append_, run_underlying hu, run_underlying hu', hso, hti, Builtin.lenOf, hfit, -run_choose, -run_choose_drew, hch', o1, w1', hzv, hm2, hb3, newRow, cs, rest]
    · cases lo with
      | none => simp at s3 ⊢; omega
      | some q => simp at s3 n3 ⊢; cases lo2 <;> simp at n3 ⊢ <;> omega
    · intro q hq
      cases hi with
      | none => simp at hq
      | some q' => simp at hq; have := s4 q' rfl; omega
    · intro hq
      cases hi with
      | none => have := s5 rfl; omega
      | some q' => simp at hq
end
end Ck
end Go.Proofs.YtnlaedfnifimkaaGreat
namespace Go.Proofs.YtnlaedfnifimkaaGreat
open Go.RowKit
namespace Ck
structure Res (γ : Type) where
  ty : Ty
  bump : Nat
  g : γ
  same : Bool
  tc : List (Kd × Nat)
abbrev Hd (γ : Type) := γ → FuncId → List Ty → Option (Res γ)
def isUser (o : Oper) : Bool :=
  match o.op with
  | .call c => (match c.callee with
    | .builtin _ => false
    | _ => true)
  | _ => false
section
variable {γ : Type}
def pureR (g : γ) (t : Ty) : Res γ := ⟨t, 0, g, true, []⟩
def isBoolT (g0 : Nat) (t : Ty) : Bool := match t.b? with
  | some b => subB g0 b (.bool none)
  | none => false
def pick2 (g0 : Nat) (ta tb : Ty) : Ty :=
  if tb = .one (.bool (some false)) then (match ta with
    | .one (.nz u true) => .one (.nz u true)
    | t => joinT g0 t.clean tb.clean)
  else if ta = .one (.bool (some true)) then (match tb with
    | .one (.nz u false) => .one (.nz u false)
    | t => joinT g0 ta.clean t.clean)
  else joinT g0 ta.clean tb.clean
def pick3 (g0 : Nat) (u : Tmp) (p : Bool) (ta tb : Ty) : Ty :=
  if p && tb == .one (.bool (some false)) && isBoolT g0 ta then .one (.nz u true)
  else if !p && ta == .one (.bool (some true)) && isBoolT g0 tb then .one (.nz u false)
  else pick2 g0 ta tb
def pickT (g0 : Nat) (tc ta tb : Ty) : Option Ty :=
  match tc with
  | .one (.bool (some true)) => some ta
  | .one (.bool (some false)) => some tb
  | .one (.bool none) => some (pick2 g0 ta tb)
  | .one (.nz u p) => some (pick3 g0 u p ta tb)
  | _ => none
def moveT (st : Tmp → Bool) (f : Tmp → Ty) (x : Operand) : Ty :=
  match x with
  | .tmp u => match f u with
    | .one (.ptr k lo hi true) => if st u then .same u (.ptr k lo hi true) else .one (.ptr k lo hi true)
    | t => t
  | x => look f x
def findMeth (l : List (TypeId × String × FuncId)) (t : TypeId) (m : String) : Option FuncId := (l.find? fun y => y.1 == t && y.2.1 == m).map (·.2.2)
def binT (C : Cfg) (f : Tmp → Ty) (op : BinOp) (t : TypeId) (x y : Operand) : Option Bt :=
  match (look f x).b?, (look f y).b? with
  | some (.int k a b), some (.int k' c d) => binI op k a b k' c d
  | some (.str (some a)), some (.str (some b)) => if op = .add ∧ a.length + b.length ≤ 100000 then some (.str (some (a ++ b))) else none
  | _, _ => eqT C op t (look f x) (look f y)
def ofKind (C : Cfg) : Bt → List (Kd × Nat)
  | .slice k _ _ => C.watch.filter fun x => x.1 == k
  | _ => C.watch
def opT (C : Cfg) (H : Hd γ) (g : γ) (st : Tmp → Bool) (f fa fb : Tmp → Ty) (o : Oper) : Option (Res γ) :=
  match o.op with
  | .move x => some (pureR g (moveT st f x))
  | .assign x => some (pureR g (moveT st f x))
  | .pick c a b => (pickT C.g0 (look f c) (look fa a) (look fb b)).map (pureR g)
  | .alloc t => (allocT C t).map fun b => pureR g (.one b)
  | .box t x => match cellsT (look f x) with
    | some l => (boxT C t l).map fun b => pureR g (.one b)
    | none => none
  | .build t parts => (buildT C t (parts.toList.map fun p => (p.1, look f p.2))).map (pureR g)
  | .buildSlice t n parts => (buildSliceT C t n (parts.toList.map fun p => (p.1, look f p.2))).map fun b => pureR g (.one b)
  | .load t x => (loadT C t (look f x)).map (pureR g)
  | .store t x y => (storeT C t (look f x) (look f y)).map fun tc => ⟨.any, 0, g, true, tc⟩
  | .nilCheck x => (nilT C (look f x)).map fun b => pureR g (.one b)
  | .binOp op t x y _ => (binT C f op t x y).map fun b => pureR g (.one b)
  | .unOp op _ x => (unT op (look f x)).map fun b => pureR g (.one b)
  | .convert s d x => (convT C s d (look f x)).map fun b => pureR g (.one b)
  | .makeFunc (.method m) first captured => match first.toList, captured.toList with
    | [x], [] => match (look f x).b? with
      | some (.iface t k) => some (pureR g (.one (.meth t k m)))
      | _ => none
    | _, _ => none
  | .makeSlice t l c => (makeT C t (look f l) (look f c)).map fun b => pureR g (.one b)
  | .slice t x none (some h) none => (sliceT C t (look f x) (look f h)).map fun b => pureR g (.one b)
  | .fieldAddr s x i => (fieldT C s i (look f x)).map fun b => pureR g (.one b)
  | .field t x i => (fieldV C t (look f x) i).map (pureR g)
  | .indexAddr t x i => (indexAddrT C t (look f x) (look f i)).map fun b => pureR g (.one b)
  | .index t x i => (indexT C t (look f x) (look f i)).map (pureR g)
  | .extract x i => match look f x with
    | .tup l => (l[i]?).map fun b => pureR g b.ty
    | _ => none
  | .call c => match c.callee with
    | .value (.func fid) => H g fid (c.args.toList.map fun x => (look f x).clean)
    | .invoke x m => match (look f x).b? with
      | some (.iface t k) => match findMeth C.meths t m with
        | some fid => H g fid (.one (.ptr k 0 0 false) :: c.args.toList.map fun x => (look f x).clean)
        | none => none
      | _ => none
    | .builtin .len => match c.args.toList, c.argTypes.toList with
      | [x], [t] => (lenT C t (look f x)).map fun b => pureR g (.one b)
      | _, _ => none
    | .builtin .append => match c.args.toList, c.argTypes.toList with
      | [x, y], [t, t'] => (appendT C t t' (look f x) (look f y)).map fun b => ⟨.one b.1, b.2, g, true, ofKind C b.1⟩
      | _, _ => none
    | .builtin .min => match c.args.toList with
      | [x, y] => match (look f x).b?, (look f y).b? with
        | some (.int k a b), some (.int _ d e) => some (pureR g (.one (.int k (min a d) (min b e))))
        | _, _ => none
      | _ => none
    | _ => none
  | _ => none
def Post (E : Env) (GP : γ → St → World → Prop) (ρ : Array Value) (r : Res γ) (S : St) (j : Nat) (w : World) (v : Value) (w' : World) : Prop :=
  ∃ S' j', Stp E S S' w w' r.tc ∧ j ≤ j' ∧ j' ≤ j + r.bump ∧ Inv E S' j' w' ∧ GP r.g S' w' ∧ VT E S' j' ρ r.ty v
def ArgsOk (E : Env) (S : St) (j : Nat) (tys : List Ty) (vs : List Value) : Prop := vs.length = tys.length ∧ ∀ (i : Nat) ty v, tys[i]? = some ty → vs[i]? = some v → VT E S j #[] ty v
def Callable (P : Program) (f : FuncId) : Prop := ∃ fn c, P.funcs[f]? = some fn ∧ (fn.name == "runtime.NumGoroutine") = false ∧ fn.body = some c
structure GPs (E : Env) (GP : γ → St → World → Prop) : Prop where
  step : ∀ g S S' w w' tc, Stp E.str S S' w w' tc → GP g S w → GP g S' w'
structure GPok (E : Env) (GP : γ → St → World → Prop) : Prop where
  step : ∀ g S S' w w' tc, Stp E S S' w w' tc → GP g S w → GP g S' w'
def HOk (P : Program) (E : Env) (GP : γ → St → World → Prop) (H : Hd γ) : Prop :=
  ∀ g f tys r, H g f tys = some r → Callable P f ∧ r.ty.free = true ∧ (r.same = true → r.g = g) ∧ ∀ S j w args, Inv E S j w → GP g S w → j + r.bump ≤ E.J → ArgsOk E S j tys args →
    Calls P f args.toArray w fun e w' => ∃ v, e = .returned v ∧ Post E GP #[] r S j w v w'
def OpRes (P : Program) (o : Oper) (a : Act) (w : World) (R : Value → World → Prop) : Prop :=
  match (execOp a.eval o).run P w with
  | .ok (.value v) w' => R v w'
  | .ok .skip w' => R undef w'
  | .ok (.enter f args) w' => Calls P f args w' fun e w'' => ∃ v, e = .returned v ∧ R v w''
  | _ => False
theorem OpRes.wp {P : Program} {o : Oper} {a : Act} {w : World} {R : Value → World → Prop} {K : Act → World → Prop} {Q : Exit → Act → World → Prop} (h : OpRes P o a w R) (hK : ∀ v w', R v w' → K (a.put o.dst v) w') : o.wp P a w K Q := by
  unfold OpRes at h
  unfold Oper.wp
  split at h
  · rename_i v w' e; rw [e]; exact hK _ _ h
  · rename_i w' e; rw [e]; exact hK _ _ h
  · rename_i f args w' e
    rw [e]
    refine Calls.mono h ?_
    rintro e' w'' ⟨v, rfl, hR⟩
    exact hK _ _ hR
  · exact h.elim
theorem OpRes.val {P : Program} {o : Oper} {a : Act} {w w' : World} {v : Value} {R : Value → World → Prop} (h : (execOp a.eval o).run P w = .ok (.value v) w') (hR : R v w') : OpRes P o a w R := by
  unfold OpRes; rw [h]; exact hR
variable {P : Program} {E : Env} {C : Cfg} {S : St} {j : Nat} {w : World} {GP : γ → St → World → Prop} {H : Hd γ} {g : γ} {a : Act} {o : Oper}
theorem Post.pure {ρ : Array Value} {t : Ty} {v : Value} (hI : Inv E S j w) (hG : GP g S w) (hv : VT E S j ρ t v) : Post E GP ρ (pureR g t) S j w v w :=
  ⟨S, j, Stp.refl _ _ _ _, Nat.le_refl _, Nat.le_refl _, hI, hG, hv⟩
theorem pick2_ok (hC : CfgOk P E C) {ρ : Array Value} {ta tb : Ty} {va vb : Value} (p : Bool) (ha : p = true → VT E S j ρ ta va) (hb : p = false → VT E S j ρ tb vb) :
    VT E S j ρ (pick2 C.g0 ta tb) (if p then va else vb) := by
  have hjoin : VT E S j ρ (joinT C.g0 ta.clean tb.clean) (if p then va else vb) := by
    cases p
    · exact (joinT_ok hC).2 (hb rfl).clean
    · exact (joinT_ok hC).1 (ha rfl).clean
  unfold pick2
  split
  · rename_i e
    subst e
    split
    · rename_i u
      cases p
      · obtain ⟨x, e, hx⟩ := hb rfl
        refine ⟨x, e, fun hx' => ?_⟩
        have := hx false rfl
        rw [this] at hx'; cases hx'
      · exact ha rfl
    · exact hjoin
  · split
    · rename_i e
      subst e
      split
      · rename_i u _
        cases p
        · exact hb rfl
        · obtain ⟨x, e, hx⟩ := ha rfl
          refine ⟨x, e, fun hx' => ?_⟩
          have := hx true rfl
          rw [this] at hx'; cases hx'
      · exact hjoin
    · exact hjoin
theorem isBoolT_ok (hC : CfgOk P E C) {ρ : Array Value} {t : Ty} {v : Value} (h : isBoolT C.g0 t = true) (hv : VT E S j ρ t v) : ∃ b, v = .bool b := by
  unfold isBoolT at h
  split at h
  · rename_i b' hb'
    obtain ⟨x, e', _⟩ := subB_ok hC h (b?_ok hb' hv)
    exact ⟨x, e'⟩
  · cases h
theorem pick3_ok (hC : CfgOk P E C) {ρ : Array Value} {u : Tmp} {q : Bool} {ta tb : Ty} {va vb : Value} (p : Bool) (hp : p = q → ρ.getD u undef ≠ .pointer none) (ha : p = true → VT E S j ρ ta va) (hb : p = false → VT E S j ρ tb vb) :
    VT E S j ρ (pick3 C.g0 u q ta tb) (if p then va else vb) := by
  unfold pick3
  split
  · rename_i hcond
    simp only [Bool.and_eq_true, beq_iff_eq] at hcond
    obtain ⟨⟨rfl, rfl⟩, hbt⟩ := hcond
    cases p
    · obtain ⟨x, e', hx⟩ := hb rfl
      refine ⟨x, e', fun hx' => ?_⟩
      have := hx false rfl
      rw [this] at hx'; cases hx'
    · obtain ⟨x, e'⟩ := isBoolT_ok hC hbt (ha rfl)
      exact ⟨x, e', fun _ => hp rfl⟩
  · split
    · rename_i hcond
      simp only [Bool.and_eq_true, beq_iff_eq, Bool.not_eq_true'] at hcond
      obtain ⟨⟨rfl, rfl⟩, hbt⟩ := hcond
      cases p
      · obtain ⟨x, e'⟩ := isBoolT_ok hC hbt (hb rfl)
        exact ⟨x, e', fun _ => hp rfl⟩
      · obtain ⟨x, e', hx⟩ := ha rfl
        refine ⟨x, e', fun hx' => ?_⟩
        have := hx true rfl
        rw [this] at hx'; cases hx'
    · exact pick2_ok hC p ha hb
theorem pickT_ok (hC : CfgOk P E C) {ρ : Array Value} {tc ta tb r : Ty} {c va vb : Value} (h : pickT C.g0 tc ta tb = some r) (hc : VT E S j ρ tc c) (ha : c = .bool true → VT E S j ρ ta va) (hb : c = .bool false → VT E S j ρ tb vb) :
    ∃ p : Bool, c = .bool p ∧ VT E S j ρ r (if p then va else vb) := by
  unfold pickT at h
  split at h
  · cases h
    obtain ⟨p, e, hp⟩ := hc
    obtain rfl := hp true rfl
    exact ⟨true, e, ha e⟩
  · cases h
    obtain ⟨p, e, hp⟩ := hc
    obtain rfl := hp false rfl
    exact ⟨false, e, hb e⟩
  · cases h
    obtain ⟨p, e, hp⟩ := hc
    exact ⟨p, e, pick2_ok hC p (fun k => ha (by rw [e, k])) (fun k => hb (by rw [e, k]))⟩
  · cases h
    obtain ⟨p, e, hp⟩ := hc
    exact ⟨p, e, pick3_ok hC p hp (fun k => ha (by rw [e, k])) (fun k => hb (by rw [e, k]))⟩
  · cases h
theorem moveT_ok {st : Tmp → Bool} {f : Tmp → Ty} {x : Operand} (hx : ∀ t, VT E S j a.tmps (f t) (a.tmps.getD t undef)) : VT E S j a.tmps (moveT st f x) (a.eval x) := by
  cases x with
  | tmp u =>
    unfold moveT
    have h := hx u
    dsimp only
    split
    · rename_i k lo hi e
      rw [e] at h
      split
      · exact ⟨rfl, h⟩
      · exact h
    · exact h
  | const v => exact constT_ok v
  | global g => exact trivial
  | func f => exact trivial
theorem run_callFunc {f : FuncId} (hf : Callable P f) (args : Array Value) (w : World) : (callFunc f args).run P w = .ok (.enter f args) w := by
  obtain ⟨fn, c, h1, h2, h3⟩ := hf
  have h1' : fn.name ≠ "runtime.NumGoroutine" := by simpa using h2
  simp [callFunc, h1, h1', h3]
theorem args_ok {f : Tmp → Ty} (hx : ∀ t, VT E S j a.tmps (f t) (a.tmps.getD t undef)) (l : List Operand) : ArgsOk E S j (l.map fun x => (look f x).clean) (l.map a.eval) := by
  refine ⟨by simp, fun i ty v h1 h2 => ?_⟩
  rw [List.getElem?_map] at h1 h2
  simp only [Option.map_eq_some_iff] at h1 h2
  obtain ⟨x, e1, rfl⟩ := h1
  obtain ⟨y, e2, rfl⟩ := h2
  rw [e1] at e2; cases e2
  exact (look_ok hx x).clean
theorem parts_ok {f : Tmp → Ty} (hx : ∀ t, VT E S j a.tmps (f t) (a.tmps.getD t undef)) (l : List (Nat × Operand)) (i : Nat) (p : Nat × Ty) (v : Nat × Value) (h1 : (l.map fun p => (p.1, look f p.2))[i]? = some p) (h2 : (l.map fun p => (p.1, a.eval p.2))[i]? = some v) : p.1 = v.1 ∧ VT E S j a.tmps p.2 v.2 := by
  rw [List.getElem?_map] at h1 h2
  simp only [Option.map_eq_some_iff] at h1 h2
  obtain ⟨x, e1, rfl⟩ := h1
  obtain ⟨y, e2, rfl⟩ := h2
  rw [e1] at e2; cases e2
  exact ⟨rfl, look_ok hx _⟩
theorem head0 (v : Value) (us : Array Value) : (#[v] ++ us)[0]? = some v := by
  rw [Array.getElem?_append_left (by simp)]; rfl
theorem tail0 (v : Value) (us : Array Value) : (#[v] ++ us).extract 1 (#[v] ++ us).size = us := by
  rw [← Array.toList_inj]; simp [List.extract_eq_take_drop]
theorem invoke_method (v : Value) (us cap : Array Value) (m : String) : invoke (.fn (.method m) cap) (#[v] ++ us) = callMethod v m us := by
  unfold invoke
  dsimp only
  split
  · rename_i recv h
    rw [head0] at h
    cases h
    rw [tail0]
  · rename_i h
    exact absurd (head0 v us) (h v)
theorem run_value {s : Sem Value} {v : Value} {w w' : World} (h : s.run P w = .ok v w') : (do pure (Next.value (← s)) : Sem Next).run P w = .ok (.value v) w' := by
  simp [h]
theorem opT_ok (hC : CfgOk P E C) (hG : isUser o = true ∨ GPok E GP) (hH : HOk P E GP H) {st : Tmp → Bool} {f fa fb : Tmp → Ty} {r : Res γ} (h : opT C H g st f fa fb o = some r) (hI : Inv E S j w) (hg : GP g S w) (hj : j + r.bump ≤ E.J)
    (hf : ∀ t, VT E S j a.tmps (f t) (a.tmps.getD t undef))
    (hpa : ∀ c x y, o.op = .pick c x y → a.eval c = .bool true → ∀ t, VT E S j a.tmps (fa t) (a.tmps.getD t undef))
    (hpb : ∀ c x y, o.op = .pick c x y → a.eval c = .bool false → ∀ t, VT E S j a.tmps (fb t) (a.tmps.getD t undef)) :
    OpRes P o a w (Post E GP a.tmps r S j w) ∧ (r.same = true → r.g = g) := by
  have hl := fun x => look_ok hf x
  unfold opT at h
  have one : ∀ {s : Sem Value} {t : Ty} {v : Value}, execOp a.eval o = (do pure (Next.value (← s)) : Sem Next) → s.run P w = .ok v w → VT E S j a.tmps t v → OpRes P o a w (Post E GP a.tmps (pureR g t) S j w) := fun he hr hv =>
    OpRes.val (by rw [he]; exact run_value hr) (Post.pure hI hg hv)
  have new : isUser o = false → ∀ {s : Sem Value} {t : Ty} {v : Value} {w' : World} {S' : St}, execOp a.eval o = (do pure (Next.value (← s)) : Sem Next) → s.run P w = .ok v w' → Inv E S' j w' → Stp E S S' w w' [] → VT E S' j a.tmps t v → OpRes P o a w (Post E GP a.tmps (pureR g t) S j w) := fun hu {_ _ _ _ _} he hr hi hs hv =>
    OpRes.val (by rw [he]; exact run_value hr) ⟨_, j, hs, Nat.le_refl _, Nat.le_refl _, hi, (hG.resolve_left (by rw [hu]; decide)).step _ _ _ _ _ _ hs hg, hv⟩
  split at h
  · rename_i x ho; cases h; exact ⟨OpRes.val (v := a.eval x) (w' := w) (by simp [execOp, ho]) (Post.pure hI hg (moveT_ok hf)), fun _ => rfl⟩
  · rename_i x ho; cases h; exact ⟨OpRes.val (v := a.eval x) (w' := w) (by simp [execOp, ho]) (Post.pure hI hg (moveT_ok hf)), fun _ => rfl⟩
  · rename_i c x y ho
    simp only [Option.map_eq_some_iff] at h
    obtain ⟨t, ht, rfl⟩ := h
    obtain ⟨p, e, hv⟩ := pickT_ok hC (va := a.eval x) (vb := a.eval y) ht (hl c) (fun e => look_ok (hpa c x y ho e) x) (fun e => look_ok (hpb c x y ho e) y)
    exact ⟨OpRes.val (v := if p then a.eval x else a.eval y) (w' := w) (by simp [execOp, ho, e, asBool]) (Post.pure hI hg hv), fun _ => rfl⟩
  · rename_i t ho
    simp only [Option.map_eq_some_iff] at h
    obtain ⟨b, hb, rfl⟩ := h
    obtain ⟨v, w', S', h1, h2, h3, h4⟩ := allocT_ok (P := P) (ρ := a.tmps) hC hI (h' := true) (old := .tuple #[]) rfl hb
    exact ⟨new (by simp [isUser, ho]) (by simp only [execOp, ho]) h1 h2 h3 h4, fun _ => rfl⟩
  · rename_i t x ho
    split at h
    · rename_i l hc
      simp only [Option.map_eq_some_iff] at h
      obtain ⟨b, hb, rfl⟩ := h
      obtain ⟨v, w', S', h1, h2, h3, h4⟩ := boxT_ok (P := P) (ρ := a.tmps) hC hI (v := a.eval x) hb (cellsT_ok hC hc (hl x))
      exact ⟨new (by simp [isUser, ho]) (s := Instr.box t (a.eval x)) (by simp only [execOp, ho]) (by simp [Instr.box, h1]) h2 h3 h4, fun _ => rfl⟩
    · cases h
  · rename_i t parts ho
    simp only [Option.map_eq_some_iff] at h
    obtain ⟨b, hb, rfl⟩ := h
    obtain ⟨v, h1, h2⟩ := buildT_ok (P := P) (w := w) hC (vals := parts.map fun (i, x) => (i, a.eval x)) hb (by simp) (fun i p v e1 e2 => parts_ok hf parts.toList i p v e1 (by simpa using e2))
    exact ⟨one (by simp only [execOp, ho]) h1 h2, fun _ => rfl⟩
  · rename_i t n parts ho
    simp only [Option.map_eq_some_iff] at h
    obtain ⟨b, hb, rfl⟩ := h
    obtain ⟨v, w', S', h1, h2, h3, h4⟩ := buildSliceT_ok (P := P) (ρ := a.tmps) hC hI (vals := parts.map fun (i, x) => (i, a.eval x)) hb (by simp) (fun i p v e1 e2 => parts_ok hf parts.toList i p v e1 (by simpa using e2))
    exact ⟨new (by simp [isUser, ho]) (by simp only [execOp, ho]) h1 h2 h3 h4, fun _ => rfl⟩
  · rename_i t x ho
    simp only [Option.map_eq_some_iff] at h
    obtain ⟨b, hb, rfl⟩ := h
    obtain ⟨v, h1, h2⟩ := loadT_ok (P := P) hC hI hb (hl x)
    exact ⟨one (by simp only [execOp, ho]) h1 h2, fun _ => rfl⟩
  · rename_i t x y ho
    simp only [Option.map_eq_some_iff] at h
    obtain ⟨tc, hb, rfl⟩ := h
    obtain ⟨w', h1, h2, h3⟩ := storeT_ok (P := P) hC hI hb (hl x) (hl y)
    refine ⟨?_, fun _ => rfl⟩
    unfold OpRes
    rw [show (execOp a.eval o).run P w = .ok .skip w' by simp [execOp, ho, h1]]
    exact ⟨S, j, h3, Nat.le_refl _, Nat.le_refl _, h2, (hG.resolve_left (by simp [isUser, ho])).step _ _ _ _ _ _ h3 hg, trivial⟩
  · rename_i x ho
    simp only [Option.map_eq_some_iff] at h
    obtain ⟨b, hb, rfl⟩ := h
    obtain ⟨v, h1, h2⟩ := nilT_ok (P := P) (w := w) hC ho hb (hl x)
    exact ⟨OpRes.val h1 (Post.pure hI hg h2), fun _ => rfl⟩
  · rename_i op t x y t' ho
    simp only [Option.map_eq_some_iff] at h
    obtain ⟨b, hb, rfl⟩ := h
    refine ⟨?_, fun _ => rfl⟩
    unfold binT at hb
    split at hb
    · rename_i k a0 b0 k' c0 d0 e1 e2
      obtain ⟨n, hn, n1, n2⟩ := b?_ok e1 (hl x)
      obtain ⟨m, hm, m1, m2⟩ := b?_ok e2 (hl y)
      obtain ⟨v, h1, h2⟩ := binI_ok (P := P) (E := E) (S := S) (j := j) (ρ := a.tmps) t (w := w) hb n1 n2 m1 m2
      refine one (t := .one b) (s := do eqGuard op t x y (a.eval x) (a.eval y); binOp op t (a.eval x) (a.eval y)) (by simp only [execOp, ho]) ?_ h2
      rw [hn, hm, Sem.run_bind, eqGuard_int]
      exact h1
    · rename_i s0 s1 e1 e2
      split at hb
      · rename_i hop
        obtain ⟨rfl, hlen⟩ := hop
        cases hb
        obtain ⟨n, hn, n1⟩ := b?_ok e1 (hl x)
        obtain ⟨m, hm, m1⟩ := b?_ok e2 (hl y)
        refine one (t := .one _) (v := .string (n ++ m)) (s := do eqGuard .add t x y (a.eval x) (a.eval y); binOp .add t (a.eval x) (a.eval y)) (by simp only [execOp, ho]) ?_ ⟨_, rfl, fun l hl => ?_⟩
        · have z1 : n.size = s0.length := by rw [← n1 _ rfl]; rfl
          have z2 : m.size = s1.length := by rw [← m1 _ rfl]; rfl
          have z3 : ((n.size : Int) + (m.size : Int)) ≤ 9223372036854775807 := by omega
          rw [hn, hm]; simp [eqGuard, binOp, Op.stringOp, z3]
        · cases hl
          rw [← n1 _ rfl, ← m1 _ rfl]
          simp
      · cases hb
    · obtain ⟨v, h1, h2⟩ := eqT_ok (P := P) hC x y (w := w) hb (hl x) (hl y)
      exact one (t := .one b) (by simp only [execOp, ho]) h1 h2
  · rename_i op t x ho
    simp only [Option.map_eq_some_iff] at h
    obtain ⟨b, hb, rfl⟩ := h
    obtain ⟨v, h1, h2⟩ := unT_ok (P := P) (w := w) hb (hl x)
    exact ⟨one (by simp only [execOp, ho]) h1 h2, fun _ => rfl⟩
  · rename_i s d x ho
    simp only [Option.map_eq_some_iff] at h
    obtain ⟨b, hb, rfl⟩ := h
    obtain ⟨v, h1, h2⟩ := convT_ok (P := P) (w := w) hC hb (hl x)
    exact ⟨one (by simp only [execOp, ho]) h1 h2, fun _ => rfl⟩
  · rename_i m first captured ho
    split at h
    case h_2 => cases h
    rename_i x e1 e2
    split at h
    case h_2 => cases h
    rename_i t k e3
    cases h
    obtain ⟨b, n, hv, k1, k2⟩ := b?_ok e3 (hl x)
    have f1 : first = #[x] := by rw [← Array.toList_inj]; simpa using e1
    have f2 : captured = #[] := by rw [← Array.toList_inj]; simpa using e2
    refine ⟨one (t := .one (.meth t k m)) (s := Instr.makeFunc (.method m) (first.map a.eval) (captured.map a.eval)) (by simp only [execOp, ho]) (v := .func (.method m) #[a.eval x] #[]) ?_ ⟨b, n, by rw [hv], k1, k2⟩, fun _ => rfl⟩
    rw [f1, f2]; simp [Instr.makeFunc]
  · rename_i t l c ho
    simp only [Option.map_eq_some_iff] at h
    obtain ⟨b, hb, rfl⟩ := h
    obtain ⟨v, w', S', h1, h2, h3, h4⟩ := makeT_ok (P := P) (ρ := a.tmps) hC hI hb (hl l) (hl c)
    exact ⟨new (by simp [isUser, ho]) (by simp only [execOp, ho]) h1 h2 h3 h4, fun _ => rfl⟩
  · rename_i t x hh ho
    simp only [Option.map_eq_some_iff] at h
    obtain ⟨b, hb, rfl⟩ := h
    obtain ⟨v, h1, h2⟩ := sliceT_ok (P := P) (w := w) hC hb (hl x) (hl hh)
    exact ⟨one (by simp only [execOp, ho, Option.map_some, Option.map_none]) h1 h2, fun _ => rfl⟩
  · rename_i s x i ho
    simp only [Option.map_eq_some_iff] at h
    obtain ⟨b, hb, rfl⟩ := h
    obtain ⟨v, h1, h2⟩ := fieldT_ok (P := P) hC hI hb (hl x)
    exact ⟨one (by simp only [execOp, ho]) h1 h2, fun _ => rfl⟩
  · rename_i s x i ho
    simp only [Option.map_eq_some_iff] at h
    obtain ⟨b, hb, rfl⟩ := h
    obtain ⟨v, h1, h2⟩ := fieldV_ok (P := P) (w := w) hC hb (hl x)
    exact ⟨one (by simp only [execOp, ho]) h1 h2, fun _ => rfl⟩
  · rename_i s x i ho
    simp only [Option.map_eq_some_iff] at h
    obtain ⟨b, hb, rfl⟩ := h
    obtain ⟨v, h1, h2⟩ := indexAddrT_ok (P := P) hC hI hb (hl x) (hl i)
    exact ⟨one (by simp only [execOp, ho]) h1 h2, fun _ => rfl⟩
  · rename_i s x i ho
    simp only [Option.map_eq_some_iff] at h
    obtain ⟨b, hb, rfl⟩ := h
    obtain ⟨v, h1, h2⟩ := indexT_ok (P := P) (w := w) hC hb (hl x) (hl i)
    exact ⟨one (by simp only [execOp, ho]) h1 h2, fun _ => rfl⟩
  · rename_i x i ho
    split at h
    case h_2 => cases h
    rename_i l e
    simp only [Option.map_eq_some_iff] at h
    obtain ⟨b, hb, rfl⟩ := h
    have hx := hl x
    rw [e] at hx
    obtain ⟨cs, hv, hlen, hcs⟩ := hx
    have hlt : i < cs.size := by
      have := (List.getElem?_eq_some_iff.1 hb).1
      simp at hlen; omega
    refine ⟨one (t := b.ty) (s := Instr.extract (a.eval x) i) (v := cs[i]) (by simp only [execOp, ho]) ?_ (cm_ok (hcs i b _ hb (by simp [hlt]))), fun _ => rfl⟩
    rw [hv]
    simp [Instr.extract, hlt]
  · rename_i c ho
    have happ : ∀ (l : List Operand), (c.args.map a.eval).toList = (c.args.toList.map a.eval) := fun l => by simp
    split at h
    · rename_i fid hc
      obtain ⟨k1, k2, k3, k4⟩ := hH _ _ _ _ h
      refine ⟨?_, k3⟩
      have := k4 S j w _ hI hg hj (args_ok hf c.args.toList)
      unfold OpRes
      rw [show (execOp a.eval o).run P w = .ok (.enter fid (c.args.toList.map a.eval).toArray) w by
        simp [execOp, ho, resolve, hc, Act.eval, Deferred.ofValue, invoke, run_callFunc k1]
        try (rw [← Array.toList_inj]; simp)]
      refine Calls.mono this ?_
      rintro e w'' ⟨v, rfl, S', j', p1, p2, p3, p4, p5, p6⟩
      exact ⟨v, rfl, S', j', p1, p2, p3, p4, p5, p6.rho k2⟩
    · rename_i x m hc
      split at h
      case h_2 => cases h
      rename_i t k e
      split at h
      case h_2 => cases h
      rename_i fid hm
      obtain ⟨b, n, hv, q1, q2⟩ := b?_ok e (hl x)
      obtain ⟨k1, k2, k3, k4⟩ := hH _ _ _ _ h
      refine ⟨?_, k3⟩
      obtain ⟨al, hal⟩ := args_ok hf c.args.toList
      have := k4 S j w (.pointer (some ⟨b, 0, none⟩) :: c.args.toList.map a.eval) hI hg hj ⟨by simp, fun i ty v h1 h2 => by
        cases i with
        | zero => simp at h1 h2; subst h1 h2; exact .inr ⟨b, 0, n, rfl, q1, q2, by simp, by simp⟩
        | succ i => exact hal i ty v (by simpa using h1) (by simpa using h2)⟩
      have hmem : (t, m, fid) ∈ C.meths := by
        unfold findMeth at hm
        simp only [Option.map_eq_some_iff] at hm
        obtain ⟨⟨t', m', f'⟩, h1, rfl⟩ := hm
        have h2 := List.find?_some h1
        simp only [Bool.and_eq_true, beq_iff_eq] at h2
        obtain ⟨rfl, rfl⟩ := h2
        exact List.mem_of_find?_eq_some h1
      have hmeth := (hC.meths t m fid hmem ⟨b, 0, none⟩ w).1
      unfold OpRes
      rw [show (execOp a.eval o).run P w = .ok (.enter fid (.pointer (some ⟨b, 0, none⟩) :: c.args.toList.map a.eval).toArray) w by
        simp only [execOp, ho, resolve, hc, Sem.run_bind, Sem.run_pure, Result.andThen_ok, hv]
        rw [show invoke (Target.fn (Fn.method m) #[]) (#[Value.iface t (Value.pointer (some { block := b, off := 0 }))] ++ Array.map a.eval c.args) = callMethod (.iface t (.pointer (some ⟨b, 0, none⟩))) m (c.args.map a.eval) from invoke_method _ _ _ _]
        simp only [callMethod, Sem.run_bind, Result.andThen_ok, run_program, hmeth, run_callFunc k1]
        congr 2
        rw [← Array.toList_inj]; simp]
      refine Calls.mono this ?_
      rintro e w'' ⟨v, rfl, S', j', p1, p2, p3, p4, p5, p6⟩
      exact ⟨v, rfl, S', j', p1, p2, p3, p4, p5, p6.rho k2⟩
    · rename_i hc
      split at h
      case h_2 => cases h
      rename_i x t e1 e2
      simp only [Option.map_eq_some_iff] at h
      obtain ⟨b, hb, rfl⟩ := h
      have f1 : c.args = #[x] := by rw [← Array.toList_inj]; simpa using e1
      have f2 : c.argTypes = #[t] := by rw [← Array.toList_inj]; simpa using e2
      obtain ⟨v, h1, h2⟩ := lenT_ok (P := P) (w := w) (ty := o.type) hC hb (hl x)
      refine ⟨OpRes.val (v := v) (w' := w) ?_ (Post.pure hI hg h2), fun _ => rfl⟩
      simp [execOp, ho, resolve, hc, invoke, builtin, f1, f2, h1]
    · rename_i hc
      split at h
      case h_2 => cases h
      rename_i x y t t' e1 e2
      simp only [Option.map_eq_some_iff] at h
      obtain ⟨b, hb, rfl⟩ := h
      have f1 : c.args = #[x, y] := by rw [← Array.toList_inj]; simpa using e1
      have f2 : c.argTypes = #[t, t'] := by rw [← Array.toList_inj]; simpa using e2
      obtain ⟨v, w', S', h1, h2, h3, h4⟩ := appendT_ok (P := P) (ty := o.type) (ρ := a.tmps) hC hI (b := b.1) (bump := b.2) hb hj (hl x) (hl y) (tc := ofKind C b.1) (fun k i m l2 e hw => by rw [e]; rw [hC.watch] at hw; exact List.mem_filter.2 ⟨hw, by simp⟩)
      refine ⟨OpRes.val (v := v) (w' := w') ?_ ⟨S', j + b.2, h3, by omega, Nat.le_refl _, h2, (hG.resolve_left (by simp [isUser, ho, hc])).step _ _ _ _ _ _ h3 hg, h4⟩, fun _ => rfl⟩
      simp [execOp, ho, resolve, hc, invoke, builtin, f1, f2, h1]
    · rename_i hc
      split at h
      case h_2 => cases h
      rename_i x y e1
      split at h
      case h_2 => cases h
      rename_i k a0 b0 k' c0 d0 q1 q2
      cases h
      have f1 : c.args = #[x, y] := by rw [← Array.toList_inj]; simpa using e1
      obtain ⟨n1, hv1, u1, u2⟩ := b?_ok q1 (hl x)
      obtain ⟨n2, hv2, u3, u4⟩ := b?_ok q2 (hl y)
      refine ⟨OpRes.val (v := .int k (if n2 < n1 then n2 else n1)) (w' := w) ?_ (Post.pure hI hg ⟨_, rfl, ?_, ?_⟩), fun _ => rfl⟩
      · simp [execOp, ho, resolve, hc, invoke, builtin, f1, hv1, hv2, run_min_int2]
      · split <;> omega
      · split <;> omega
    · cases h
  · cases h
end
end Ck
end Go.Proofs.YtnlaedfnifimkaaGreat
