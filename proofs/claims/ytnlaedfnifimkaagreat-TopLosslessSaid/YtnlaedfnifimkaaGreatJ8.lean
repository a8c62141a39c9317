/- Part 8 of the proof: lemmas on what the program computes; no condition. -/
import Derived.Orders
import Derived.Deep.LoopGhost
import Derived.Test.YtnlaedfnifimkaaGreatProg
import Derived.KernelRfl
import Derived.Test.YtnlaedfnifimkaaGreatJ7
import Derived.Test.YtnlaedfnifimkaaGreatJ1
set_option linter.unusedVariables false
set_option linter.unusedSimpArgs false
set_option linter.unusedSectionVars false
namespace Go.Proofs.YtnlaedfnifimkaaGreat
open Go.RowKit
namespace Ck
structure AS (γ : Type) where
  tmps : List Ty
  bump : Nat
  g : γ
  tc : List (Kd × Nat)
def aft (o : Oper) : List Nat := (o.after.toList.filter (Region.binds .any)).map (·.on)
def wrOf (ops : List Oper) (t : Tmp) : Option Nat := ops.findIdx? fun o => o.dst == some t
def lkp (ops : List Oper) (s ts : List Ty) (i : Nat) (o : Oper) (eff : List (Nat × Bool)) (t : Tmp) : Ty :=
  match wrOf ops t with
  | none => s.getD t .any
  | some k =>
    if k = i then s.getD t .any
    else if (aft o).contains k then
      match ts[k]?, ops[k]? with
      | some ty, some ok => (match ok.guard with
        | none => ty
        | some gd => if eff.contains gd then ty else .any)
      | _, _ => .any
    else match ops[k]? with
      | some ok => if (aft ok).contains i then s.getD t .any else .any
      | none => .any
def pickE (ops : List Oper) (o : Oper) (b : Bool) : List (Nat × Bool) :=
  match o.op with
  | .pick (.tmp c) _ _ => (match wrOf ops c with
    | some k => [(k, b)]
    | none => [])
  | _ => []
section
variable {γ : Type}
def opAt (C : Cfg) (H : Hd γ) (g : γ) (ops : List Oper) (s ts : List Ty) (i : Nat) (o : Oper) : Option (Res γ) :=
  opT C H g (fun u => (wrOf ops u).isNone) (lkp ops s ts i o o.guard.toList) (lkp ops s ts i o (pickE ops o true ++ o.guard.toList)) (lkp ops s ts i o (pickE ops o false ++ o.guard.toList)) o
def opFits (ops : List Oper) (N i : Nat) (o : Oper) (r : Res γ) : Bool :=
  (match o.dst with
   | some d => decide (d < N) && wrOf ops d == some i
   | none => true) &&
  (aft o).all (fun k => decide (k < i)) &&
  (match o.guard with
   | some (k, _) => (aft o).contains k && (match ops[k]? with
     | some ok => ok.dst.isSome
     | none => false)
   | none => true) &&
  r.ty.calm && (match r.ty.speaks with
   | some u => (wrOf ops u).isNone
   | none => true)
def regionGo (C : Cfg) (H : Hd γ) (g : γ) (ops : List Oper) (s : List Ty) (N : Nat) : List Oper → Nat → List (Res γ) → Option (List (Res γ))
  | [], _, rs => some rs
  | o :: rest, i, rs => match opAt C H g ops s (rs.map (·.ty)) i o with
    | some r => if opFits ops N i o r then regionGo C H g ops s N rest (i + 1) (rs ++ [r]) else none
    | none => none
def ancs (ops : List Oper) : Nat → List Nat → List Nat
  | 0, l => l
  | n + 1, l => l ++ ancs ops n (l.flatMap fun i => match ops[i]? with
    | some o => aft o
    | none => [])
def loudOf (rs : List (Res γ)) : Option Nat := rs.findIdx? fun r => !r.same
def loudOk (ops : List Oper) (rs : List (Res γ)) : Bool :=
  match loudOf rs with
  | none => true
  | some m => (match ops[m]? with
    | some o => isUser o && o.guard.isNone
    | none => false) && (rs.zipIdx.all fun (r, i) => r.same || i == m) && (ops.zipIdx.all fun (o, i) => !isUser o || i == m || (ancs ops ops.length [m]).contains i)
def weak (ops : List Oper) (t : Ty) : Ty :=
  if t.calm then (match t.speaks with
    | some u => if (wrOf ops u).isNone then t else t.clean
    | none => t)
  else t.clean
def putTs : List (Oper × Res γ) → List Ty → List Ty
  | [], s => s
  | (o, r) :: l, s => putTs l (match o.dst with
    | some d => s.set d (if o.guard.isNone then r.ty else .any)
    | none => s)
def sumB (rs : List (Res γ)) : Nat := rs.foldr (fun r n => r.bump + n) 0
def addTc (l m : List (Kd × Nat)) : List (Kd × Nat) := l ++ m.filter fun x => !l.contains x
def allTc (rs : List (Res γ)) (tc : List (Kd × Nat)) : List (Kd × Nat) := rs.foldl (fun l r => addTc l r.tc) tc
def regionT (C : Cfg) (H : Hd γ) (s : AS γ) (ops : List Oper) : Option (AS γ) :=
  let s0 := s.tmps.map (weak ops)
  match regionGo C H s.g ops s0 s.tmps.length ops 0 [] with
  | some rs => if loudOk ops rs then
      some ⟨putTs (ops.zip rs) s0, s.bump + sumB rs, (match loudOf rs with
        | some m => ((rs[m]?).map (·.g)).getD s.g
        | none => s.g), allTc rs s.tc⟩
    else none
  | none => none
structure RegOk (C : Cfg) (H : Hd γ) (g : γ) (ops : List Oper) (s0 : List Ty) (N : Nat) (rs : List (Res γ)) : Prop where
  len : rs.length = ops.length
  at_ : ∀ i o r, ops[i]? = some o → rs[i]? = some r → opAt C H g ops s0 (rs.map (·.ty)) i o = some r ∧ opFits ops N i o r = true
theorem lkp_congr {ops : List Oper} {s ts ts' : List Ty} {i : Nat} {o : Oper} (h : ∀ k ∈ aft o, ts[k]? = ts'[k]?) (eff : List (Nat × Bool)) : lkp ops s ts i o eff = lkp ops s ts' i o eff := by
  funext t
  unfold lkp
  split
  · rfl
  · rename_i k _
    by_cases e : k = i
    · simp [e]
    · rw [if_neg e, if_neg e]
      by_cases hk : (aft o).contains k = true
      · rw [if_pos hk, if_pos hk, h k (by simpa using hk)]
      · rw [if_neg hk, if_neg hk]
theorem opAt_congr {C : Cfg} {H : Hd γ} {g : γ} {ops : List Oper} {s ts ts' : List Ty} {i : Nat} {o : Oper} (h : ∀ k ∈ aft o, ts[k]? = ts'[k]?) : opAt C H g ops s ts i o = opAt C H g ops s ts' i o := by
  unfold opAt
  rw [lkp_congr h, lkp_congr h, lkp_congr h]
theorem fits_aft {ops : List Oper} {N i : Nat} {o : Oper} {r : Res γ} (h : opFits ops N i o r = true) : ∀ k ∈ aft o, k < i := by
  unfold opFits at h
  simp only [Bool.and_eq_true] at h
  intro k hk
  simpa using List.all_eq_true.1 h.1.1.1.2 k hk
theorem regionGo_ok {C : Cfg} {H : Hd γ} {g : γ} {ops : List Oper} {s : List Ty} {N : Nat} : ∀ (rest : List Oper) (i : Nat) (rs out : List (Res γ)), regionGo C H g ops s N rest i rs = some out → rs.length = i →
    (∃ more, out = rs ++ more ∧ more.length = rest.length) ∧ ∀ k o r, rest[k]? = some o → out[i + k]? = some r → opAt C H g ops s (out.map (·.ty)) (i + k) o = some r ∧ opFits ops N (i + k) o r = true
  | [], i, rs, out, h, hl => by
    cases h
    exact ⟨⟨[], by simp, rfl⟩, fun k o r hk => by simp at hk⟩
  | o :: rest, i, rs, out, h, hl => by
    simp only [regionGo] at h
    split at h
    case h_2 => cases h
    rename_i r hr
    split at h
    case isFalse => cases h
    rename_i hf
    obtain ⟨⟨more, rfl, hm⟩, ih⟩ := regionGo_ok rest (i + 1) (rs ++ [r]) out h (by simp [hl])
    refine ⟨⟨r :: more, by simp, by simp [hm]⟩, fun k o' r' hk hr' => ?_⟩
    cases k with
    | zero =>
      simp only [List.getElem?_cons_zero, Option.some.injEq] at hk
      subst hk
      have : r' = r := by
        rw [Nat.add_zero, List.append_assoc, List.getElem?_append_right (by omega), hl] at hr'
        simpa using hr'.symm
      subst this
      refine ⟨?_, hf⟩
      rw [Nat.add_zero]
      rw [← hr]
      refine opAt_congr fun k hk => ?_
      have hlt := fits_aft hf k hk
      rw [List.map_append, List.map_append, List.append_assoc, List.getElem?_append_left (by simp; omega)]
    | succ k =>
      have := ih k o' r' (by simpa using hk) (by rwa [show i + 1 + k = i + (k + 1) by omega])
      rwa [show i + 1 + k = i + (k + 1) by omega] at this
theorem RegOk.of {C : Cfg} {H : Hd γ} {g : γ} {ops : List Oper} {s : List Ty} {N : Nat} {rs : List (Res γ)} (h : regionGo C H g ops s N ops 0 [] = some rs) : RegOk C H g ops s N rs := by
  obtain ⟨⟨more, rfl, hm⟩, ih⟩ := regionGo_ok ops 0 [] rs h rfl
  exact ⟨by simpa using hm, fun i o r hi hr => by simpa using ih i o r hi (by simpa using hr)⟩
theorem wrOf_some {ops : List Oper} {t : Tmp} {k : Nat} (h : wrOf ops t = some k) : ∃ o, ops[k]? = some o ∧ o.dst = some t := by
  unfold wrOf at h
  rw [List.findIdx?_eq_some_iff_getElem] at h
  obtain ⟨hk, h1, _⟩ := h
  exact ⟨ops[k], List.getElem?_eq_getElem hk, by simpa using h1⟩
theorem wrOf_none {ops : List Oper} {t : Tmp} (h : wrOf ops t = none) : ∀ (i : Nat) o, ops[i]? = some o → o.dst ≠ some t := by
  unfold wrOf at h
  rw [List.findIdx?_eq_none_iff] at h
  intro i o ho e
  have := h o (List.mem_of_getElem? ho)
  simp [e] at this
theorem mem_ancs {ops : List Oper} {L : Nat → Prop} (hL : ∀ i o, ops[i]? = some o → L i → ∀ k ∈ aft o, L k) : ∀ (n : Nat) (l : List Nat), (∀ i ∈ l, L i) → ∀ i ∈ ancs ops n l, L i
  | 0, l, h, i, hi => h i hi
  | n + 1, l, h, i, hi => by
    simp only [ancs, List.mem_append] at hi
    rcases hi with hi | hi
    · exact h i hi
    · refine mem_ancs hL n _ (fun k hk => ?_) i hi
      simp only [List.mem_flatMap] at hk
      obtain ⟨a, ha, hk⟩ := hk
      split at hk
      · rename_i o ho
        exact hL a o ho (h a ha) k hk
      · simp at hk
def spent : List Nat → Nat → Array Bool → Nat
  | [], _, _ => 0
  | b :: r, k, l => (if l.getD k false then b else 0) + spent r (k + 1) l
theorem spent_le : ∀ (bs : List Nat) (k : Nat) (l : Array Bool), spent bs k l ≤ bs.sum
  | [], _, _ => Nat.le_refl _
  | b :: r, k, l => by
    have := spent_le r (k + 1) l
    simp only [spent, List.sum_cons]
    split <;> omega
theorem getD_set {l : Array Bool} {i k : Nat} (hi : i < l.size) : (l.setIfInBounds i true).getD k false = if i = k then true else l.getD k false := by
  by_cases e : i = k
  · subst e; simp [hi]
  · simp [e]
theorem spent_far : ∀ (bs : List Nat) (k i : Nat) (l : Array Bool), i < l.size → i < k → spent bs k (l.setIfInBounds i true) = spent bs k l
  | [], _, _, _, _, _ => rfl
  | b :: r, k, i, l, hi, hk => by
    simp only [spent, getD_set hi, if_neg (show ¬ i = k by omega), spent_far r (k + 1) i l hi (by omega)]
theorem spent_set : ∀ (bs : List Nat) (k i : Nat) (l : Array Bool), i < l.size → k ≤ i → l.getD i false = false → spent bs k (l.setIfInBounds i true) = spent bs k l + bs.getD (i - k) 0
  | [], k, i, l, _, _, _ => by simp [spent]
  | b :: r, k, i, l, hi, hk, hf => by
    by_cases e : i = k
    · subst e
      simp only [spent, getD_set hi, if_true, hf, spent_far r (i + 1) i l hi (by omega), Nat.sub_self, List.getD_cons_zero]
      simp
      omega
    · have ih := spent_set r (k + 1) i l hi (by omega) hf
      simp only [spent, getD_set hi, if_neg e, ih]
      rw [show i - k = (i - (k + 1)) + 1 by omega, List.getD_cons_succ]
      omega
theorem spent_none : ∀ (bs : List Nat) (k n : Nat), spent bs k (Array.replicate n false) = 0
  | [], _, _ => rfl
  | b :: r, k, n => by
    have : (Array.replicate n false).getD k false = false := by
      by_cases h : k < n <;> simp [h]
    simp only [spent, this, spent_none r (k + 1) n]
    simp
theorem spent_all : ∀ (n k : Nat) (l : Array Bool), spent (List.replicate n 1) k l = n → ∀ i, k ≤ i → i < k + n → l.getD i false = true
  | 0, k, l, _, i, h1, h2 => by omega
  | n + 1, k, l, h, i, h1, h2 => by
    simp only [List.replicate_succ, spent] at h
    have hle := spent_le (List.replicate n 1) (k + 1) l
    simp at hle
    by_cases e : l.getD k false = true
    · rw [if_pos e] at h
      by_cases e' : i = k
      · subst e'; exact e
      · exact spent_all n (k + 1) l (by omega) i (by omega) (by omega)
    · rw [if_neg e] at h
      omega
end
end Ck
end Go.Proofs.YtnlaedfnifimkaaGreat
namespace Go.Proofs.YtnlaedfnifimkaaGreat
open Go.RowKit
namespace Ck
section
variable {γ : Type} {P : Program} {E : Env} {C : Cfg} {GP : γ → St → World → Prop} {H : Hd γ}
structure Sat (E : Env) (GP : γ → St → World → Prop) (S0 : St) (j0 : Nat) (w0 : World) (s : AS γ) (a : Act) (w : World) : Prop where
  defers : a.defers = []
  size : a.tmps.size = s.tmps.length
  mem : ∃ S j, Stp E S0 S w0 w s.tc ∧ j0 ≤ j ∧ j ≤ j0 + s.bump ∧ Inv E S j w ∧ GP s.g S w ∧ ∀ t, VT E S j a.tmps (s.tmps.getD t .any) (a.tmps.getD t undef)
theorem noUser {H' : Hd γ} {g : γ} {st : Tmp → Bool} {f fa fb : Tmp → Ty} {o : Oper} (h : isUser o = false) : opT C H g st f fa fb o = opT C H' g st f fa fb o := by
  obtain ⟨dst, op, type, pos, after, guard⟩ := o
  cases op
  case call c =>
    obtain ⟨callee, args, tys⟩ := c
    cases callee
    case builtin b => cases b <;> rfl
    all_goals simp [isUser] at h
  case makeFunc fn first captured => cases fn <;> rfl
  case slice t x lo hi mx => cases lo <;> cases hi <;> cases mx <;> rfl
  all_goals rfl
theorem mem_addTc {l m : List (Kd × Nat)} {x : Kd × Nat} : x ∈ addTc l m ↔ x ∈ l ∨ x ∈ m := by
  unfold addTc
  rw [List.mem_append, List.mem_filter]
  constructor
  · rintro (h | ⟨h, _⟩)
    · exact .inl h
    · exact .inr h
  · rintro (h | h)
    · exact .inl h
    · by_cases hl : x ∈ l
      · exact .inl hl
      · exact .inr ⟨h, by simpa using hl⟩
theorem allTc_base : ∀ (rs : List (Res γ)) (tc : List (Kd × Nat)) (x : Kd × Nat), x ∈ tc → x ∈ allTc rs tc
  | [], tc, x, h => h
  | r :: rs, tc, x, h => allTc_base rs _ x (mem_addTc.2 (.inl h))
theorem allTc_mem : ∀ (rs : List (Res γ)) (tc : List (Kd × Nat)) (r : Res γ), r ∈ rs → ∀ x ∈ r.tc, x ∈ allTc rs tc
  | r' :: rs, tc, r, h, x, hx => by
    cases h with
    | head => exact allTc_base rs _ x (mem_addTc.2 (.inr hx))
    | tail _ h => exact allTc_mem rs _ r h x hx
def curG (rs : List (Res γ)) (g : γ) (l : Array Bool) : γ :=
  match loudOf rs with
  | some m => if l.getD m false then ((rs[m]?).map (·.g)).getD g else g
  | none => g
structure RJ (E : Env) (GP : γ → St → World → Prop) (S0 : St) (j0 jb : Nat) (w0 : World) (TC : List (Kd × Nat)) (g : γ) (A : Array Oper) (s0 : List Ty) (rs : List (Res γ)) (N : Nat) (l : Array Bool) (a : Act) (w : World) : Prop where
  lsize : l.size = A.size
  closed : ∀ i o, A[i]? = some o → l.getD i false = true → ∀ k ∈ aft o, l.getD k false = true
  defers : a.defers = []
  size : a.tmps.size = N
  mem : ∃ S j, Stp E S0 S w0 w TC ∧ j0 ≤ j ∧ j ≤ jb + spent (rs.map (·.bump)) 0 l ∧ Inv E S j w ∧ GP (curG rs g l) S w ∧
    (∀ t, wrOf A.toList t = none → VT E S j a.tmps (s0.getD t .any) (a.tmps.getD t undef)) ∧
    (∀ t k, wrOf A.toList t = some k → l.getD k false = false → VT E S j a.tmps (s0.getD t .any) (a.tmps.getD t undef)) ∧
    (∀ t k o r, wrOf A.toList t = some k → l.getD k false = true → A[k]? = some o → rs[k]? = some r → (∀ q b, o.guard = some (q, b) → yielded A a.tmps q = some b) → VT E S j a.tmps r.ty (a.tmps.getD t undef))
variable {S0 : St} {j0 jb : Nat} {w0 : World} {TC : List (Kd × Nat)} {g : γ} {A : Array Oper} {s0 : List Ty} {rs : List (Res γ)} {N : Nat}
theorem Act.put_getD_ne {a : Act} {dst : Option Tmp} {v : Value} {t : Tmp} (h : dst ≠ some t) : (a.put dst v).tmps.getD t undef = a.tmps.getD t undef := by
  cases dst with
  | none => rfl
  | some d =>
    have : d ≠ t := fun e => h (e ▸ rfl)
    simp [Act.put, Array.getElem?_setIfInBounds_ne this]
theorem Act.put_getD_eq {a : Act} {d : Tmp} {v : Value} (h : d < a.tmps.size) : (a.put (some d) v).tmps.getD d undef = v := by
  simp [Act.put, h]
theorem yielded_put {a : Act} {dst : Option Tmp} {v : Value} {q : Nat} (h : ∀ o, A[q]? = some o → ∀ d, o.dst = some d → dst ≠ some d) : yielded A (a.put dst v).tmps q = yielded A a.tmps q := by
  unfold yielded
  cases ho : A[q]? with
  | none => rfl
  | some o =>
    cases hd : o.dst with
    | none => simp [hd]
    | some d =>
      have hne := h o ho d hd
      cases dst with
      | none => rfl
      | some d' =>
        have : d' ≠ d := fun e => hne (e ▸ rfl)
        simp [hd, Act.put, Array.getElem?_setIfInBounds_ne this]
theorem toList_at {i : Nat} {o : Oper} (h : A[i]? = some o) : A.toList[i]? = some o := by simpa using h
structure Calm (A : Array Oper) (s0 : List Ty) : Prop where
  calm : ∀ t, (s0.getD t .any).calm = true
  speaks : ∀ t u, (s0.getD t .any).speaks = some u → wrOf A.toList u = none
theorem RJ.put (hR : RegOk C H g A.toList s0 N rs) (hs : Calm A s0) {l : Array Bool} {a : Act} {w w' : World} {i : Nat} {o : Oper} {r : Res γ} (ho : A[i]? = some o) (hr : rs[i]? = some r) (hi : l.getD i false = false) (hrd : ∀ k ∈ aft o, l.getD k false = true)
    (lsize : l.size = A.size) (closed : ∀ i o, A[i]? = some o → l.getD i false = true → ∀ k ∈ aft o, l.getD k false = true) (hd : a.defers = []) (hsz : a.tmps.size = N) {S S' : St} {j j' : Nat} {v : Value}
    (h1 : Stp E S0 S w0 w TC) (h2 : j0 ≤ j) (h3 : j ≤ jb + spent (rs.map (·.bump)) 0 l)
    (q1 : ∀ t, wrOf A.toList t = none → VT E S j a.tmps (s0.getD t .any) (a.tmps.getD t undef))
    (q2 : ∀ t k, wrOf A.toList t = some k → l.getD k false = false → VT E S j a.tmps (s0.getD t .any) (a.tmps.getD t undef))
    (q3 : ∀ t k o r, wrOf A.toList t = some k → l.getD k false = true → A[k]? = some o → rs[k]? = some r → (∀ q b, o.guard = some (q, b) → yielded A a.tmps q = some b) → VT E S j a.tmps r.ty (a.tmps.getD t undef))
    (k1 : Stp E S S' w w' TC) (k2 : j ≤ j') (k3 : j' ≤ j + r.bump) (k4 : Inv E S' j' w') (k5 : GP (curG rs g (l.setIfInBounds i true)) S' w')
    (hv : (∀ q b, o.guard = some (q, b) → yielded A a.tmps q = some b) → VT E S' j' a.tmps r.ty v) :
    RJ E GP S0 j0 jb w0 TC g A s0 rs N (l.setIfInBounds i true) (a.put o.dst v) w' := by
  have hlt : i < l.size := by rw [lsize]; exact (Array.getElem?_eq_some_iff.1 ho).1
  obtain ⟨hat, hfit⟩ := hR.at_ i o r (toList_at ho) hr
  have hfit' := hfit
  unfold opFits at hfit'
  simp only [Bool.and_eq_true] at hfit'
  obtain ⟨⟨⟨⟨f1, f2⟩, f3⟩, f4⟩, f5⟩ := hfit'
  have hdst : ∀ d, o.dst = some d → d < N ∧ wrOf A.toList d = some i := fun d hd => by
    rw [hd] at f1
    simpa using f1
  have hg : ∀ {k : Nat} {ok : Oper} {rk : Res γ}, A[k]? = some ok → rs[k]? = some rk → ∀ q b, ok.guard = some (q, b) → q ∈ aft ok ∧ ∃ oq d, A[q]? = some oq ∧ oq.dst = some d ∧ wrOf A.toList d = some q := fun {k ok rk} hk hrk q b hgd => by
    obtain ⟨_, hf⟩ := hR.at_ k ok rk (toList_at hk) hrk
    unfold opFits at hf
    simp only [Bool.and_eq_true] at hf
    obtain ⟨⟨⟨_, f3⟩, _⟩, _⟩ := hf
    rw [hgd] at f3
    simp only [Bool.and_eq_true] at f3
    obtain ⟨f3, f3'⟩ := f3
    refine ⟨by simpa using f3, ?_⟩
    split at f3'
    · rename_i oq hoq
      obtain ⟨d, hd⟩ := Option.isSome_iff_exists.1 f3'
      have hoq' : A[q]? = some oq := by simpa using hoq
      have hql : q < rs.length := by
        rw [hR.len]; exact (List.getElem?_eq_some_iff.1 hoq).1
      obtain ⟨_, hf⟩ := hR.at_ q oq rs[q] hoq (List.getElem?_eq_getElem hql)
      unfold opFits at hf
      simp only [Bool.and_eq_true] at hf
      obtain ⟨⟨⟨⟨f1, _⟩, _⟩, _⟩, _⟩ := hf
      rw [hd] at f1
      exact ⟨oq, d, hoq', hd, by simpa using (by simpa using f1 : _ ∧ _).2⟩
    · cases f3'
  have hrho : ∀ u, wrOf A.toList u = none → (a.put o.dst v).tmps.getD u undef = a.tmps.getD u undef := fun u hu => Act.put_getD_ne (wrOf_none hu i o (toList_at ho))
  have keepT : ∀ {t : Ty} {x : Value}, t.calm = true → (∀ u, t.speaks = some u → wrOf A.toList u = none) → VT E S j a.tmps t x → VT E S' j' (a.put o.dst v).tmps t x := fun hc hu hx => VT.rho1 hc (fun u hs => hrho u (hu u hs)) (hx.mono k1.ext k2)
  have hrk : ∀ {k : Nat} {ok : Oper} {rk : Res γ}, A[k]? = some ok → rs[k]? = some rk → rk.ty.calm = true ∧ ∀ u, rk.ty.speaks = some u → wrOf A.toList u = none := fun {k ok rk} hk hrk => by
    obtain ⟨_, hf⟩ := hR.at_ k ok rk (toList_at hk) hrk
    unfold opFits at hf
    simp only [Bool.and_eq_true] at hf
    obtain ⟨⟨⟨_, _⟩, f4⟩, f5⟩ := hf
    refine ⟨f4, fun u hu => ?_⟩
    rw [hu] at f5
    simpa using f5
  refine ⟨by simpa using lsize, fun k ok hk hlk q hq => ?_, by rw [← hd]; cases o.dst <;> rfl, by rw [← hsz]; cases o.dst <;> simp [Act.put], S', j', h1.trans k1, by omega, ?_, k4, k5, fun t ht => ?_, fun t k ht hk => ?_, fun t k ok rk ht hk hok hrk' hgd => ?_⟩
  · rw [getD_set hlt] at hlk ⊢
    split
    · rfl
    · by_cases e : i = k
      · subst e; rw [ho] at hk; cases hk; exact hrd q hq
      · rw [if_neg e] at hlk; exact closed k ok hk hlk q hq
  · rw [spent_set _ _ _ _ hlt (Nat.zero_le _) hi]
    simp [hr]
    omega
  · rw [hrho t ht]; exact keepT (hs.calm t) (hs.speaks t) (q1 t ht)
  · rw [getD_set hlt] at hk
    split at hk
    · cases hk
    · rename_i e
      rw [Act.put_getD_ne (fun hdd => by
        have := (hdst t hdd).2
        rw [ht] at this; cases this; exact e rfl)]
      exact keepT (hs.calm t) (hs.speaks t) (q2 t k ht hk)
  · by_cases e : i = k
    · subst e
      rw [ho] at hok; cases hok
      rw [hr] at hrk'; cases hrk'
      obtain ⟨o', ho', hdt⟩ := wrOf_some ht
      have : o' = o := by rw [toList_at ho] at ho'; cases ho'; rfl
      subst this
      rw [hdt, Act.put_getD_eq (by rw [hsz]; exact (hdst t hdt).1), ← hdt]
      refine VT.rho1 (hrk ho hr).1 (fun u hu => hrho u ((hrk ho hr).2 u hu)) (hv fun q b hq => ?_)
      have := hgd q b hq
      rw [yielded_put] at this
      · exact this
      · intro oq hoq d hdq hdd
        obtain ⟨hqa, oq', d', x1, x2, x3⟩ := hg ho hr q b hq
        rw [x1] at hoq; cases hoq
        rw [x2] at hdq; cases hdq
        have := (hdst _ hdd).2
        rw [x3] at this; cases this
        have := fits_aft hfit _ hqa
        omega
    · rw [getD_set hlt, if_neg e] at hk
      have hne : o.dst ≠ some t := fun hdd => by
        have := (hdst t hdd).2
        rw [ht] at this; cases this; exact e rfl
      rw [Act.put_getD_ne hne]
      refine keepT (hrk hok hrk').1 (hrk hok hrk').2 (q3 t k ok rk ht hk hok hrk' fun q b hq => ?_)
      have := hgd q b hq
      rw [yielded_put] at this
      · exact this
      · intro oq hoq d hdq hdd
        obtain ⟨hqa, oq', d', x1, x2, x3⟩ := hg hok hrk' q b hq
        rw [x1] at hoq; cases hoq
        rw [x2] at hdq; cases hdq
        have := (hdst _ hdd).2
        rw [x3] at this; cases this
        have := closed k ok hok hk _ hqa
        rw [hi] at this; cases this
theorem sum_bump : ∀ rs : List (Res γ), (rs.map (·.bump)).sum = sumB rs
  | [] => rfl
  | r :: rs => by
    have := sum_bump rs
    simp only [List.map_cons, List.sum_cons, sumB, List.foldr_cons] at this ⊢
    omega
theorem loud_none {rs : List (Res γ)} (h : loudOf rs = none) {i : Nat} {r : Res γ} (hr : rs[i]? = some r) : r.same = true := by
  unfold loudOf at h
  rw [List.findIdx?_eq_none_iff] at h
  simpa using h r (List.mem_of_getElem? hr)
theorem loudOk_some {ops : List Oper} {rs : List (Res γ)} {m : Nat} (h : loudOk ops rs = true) (hm : loudOf rs = some m) :
    (∀ (i : Nat) r, rs[i]? = some r → i ≠ m → r.same = true) ∧ (∀ (i : Nat) o, ops[i]? = some o → isUser o = true → i ≠ m → i ∈ ancs ops ops.length [m]) ∧ ∃ o, ops[m]? = some o ∧ isUser o = true ∧ o.guard = none := by
  unfold loudOk at h
  rw [hm] at h
  simp only [Bool.and_eq_true, List.all_eq_true] at h
  refine ⟨fun i r hr hne => ?_, fun i o ho hu hne => ?_, ?_⟩
  rotate_left
  rotate_left
  · obtain ⟨⟨h, _⟩, _⟩ := h
    split at h
    · rename_i o ho
      simp only [Bool.and_eq_true] at h
      exact ⟨o, ho, h.1, by simpa using h.2⟩
    · cases h
  · have := h.1.2 (r, i) (List.mem_zipIdx_iff_getElem?.2 (by simpa using hr))
    simpa [hne] using this
  · have := h.2 (o, i) (List.mem_zipIdx_iff_getElem?.2 (by simpa using ho))
    simpa [hu, hne] using this
theorem RJ.step (hC : CfgOk P E C) (hG : GPs E GP) (hH : HOk P E GP H) (hR : RegOk C H g A.toList s0 N rs) (hs : Calm A s0) (hl : loudOk A.toList rs = true) (hTC : ∀ r ∈ rs, ∀ x ∈ r.tc, x ∈ TC) (hroom : jb + sumB rs ≤ E.J)
    {Q : Exit → Act → World → Prop} {l : Array Bool} {a : Act} {w : World} (h : RJ E GP S0 j0 jb w0 TC g A s0 rs N l a w) {i : Nat} {o : Oper} (ho : A[i]? = some o) (hi : l.getD i false = false) (hrd : ∀ k ∈ aft o, l.getD k false = true) :
    wpOp P A Q i (RJ E GP S0 j0 jb w0 TC g A s0 rs N (l.setIfInBounds i true)) a w := by
  obtain ⟨lsize, closed, hdef, hsz, S, j, h1, h2, h3, h4, h5, q1, q2, q3⟩ := h
  have hlt : i < l.size := by rw [lsize]; exact (Array.getElem?_eq_some_iff.1 ho).1
  have hil : i < rs.length := by rw [hR.len]; simpa [lsize] using hlt
  have hr : rs[i]? = some rs[i] := List.getElem?_eq_getElem hil
  generalize rs[i] = r at hr
  obtain ⟨hat, hfit⟩ := hR.at_ i o r (toList_at ho) hr
  have hmemr : r ∈ rs := List.mem_of_getElem? hr
  have hcurU : ∀ {S' : St} {w' : World}, GP (curG rs g l) = GP g → (r.same = true → r.g = g) → GP r.g S' w' → GP (curG rs g (l.setIfInBounds i true)) S' w' := fun {S' w'} hgg hsm hrg => by
    cases hm : loudOf rs with
    | none =>
      have : curG rs g (l.setIfInBounds i true) = g := by unfold curG; rw [hm]
      rw [this, ← hsm (loud_none hm hr)]
      exact hrg
    | some m =>
      by_cases e : i = m
      · subst e
        have : curG rs g (l.setIfInBounds i true) = r.g := by unfold curG; rw [hm]; dsimp only; rw [getD_set hlt, if_pos rfl, if_pos rfl, hr]; rfl
        rw [this]; exact hrg
      · have : curG rs g (l.setIfInBounds i true) = curG rs g l := by unfold curG; rw [hm]; dsimp only; rw [getD_set hlt, if_neg e]
        rw [this, hgg, ← hsm ((loudOk_some hl hm).1 i r hr e)]
        exact hrg
  have hcurP : ∀ {S' : St} {w' : World} {tc : List (Kd × Nat)}, loudOf rs ≠ some i → Stp E.str S S' w w' tc → GP (curG rs g (l.setIfInBounds i true)) S' w' := fun {S' w' tc} hne hst => by
    have : curG rs g (l.setIfInBounds i true) = curG rs g l := by
      unfold curG
      cases hm : loudOf rs with
      | none => rfl
      | some m =>
        have hnm : ¬ i = m := fun e => hne (by rw [hm, e])
        dsimp only
        rw [getD_set hlt, if_neg hnm]
    rw [this]
    exact hG.step _ _ _ _ _ _ hst h5
  have put := fun {S' : St} {w' : World} {j' : Nat} {v : Value} => RJ.put (E := E) (GP := GP) (v := v) (S := S) (S' := S') (w := w) (w' := w') (j := j) (j' := j') hR hs ho hr hi hrd lsize closed hdef hsz h1 h2 h3 q1 q2 q3
  unfold wpOp
  rw [ho]
  dsimp only
  by_cases hw : Region.wanted o (yielded A a.tmps) = true
  · rw [if_pos hw]
    left
    have hyg : ∀ q b, o.guard = some (q, b) → yielded A a.tmps q = some b := fun q b hq => by
      unfold Region.wanted at hw
      rw [hq] at hw
      simpa using hw
    have hlook : ∀ (eff : List (Nat × Bool)), (∀ q b, (q, b) ∈ eff → yielded A a.tmps q = some b) → ∀ t, VT E S j a.tmps (lkp A.toList s0 (rs.map (·.ty)) i o eff t) (a.tmps.getD t undef) := fun eff heff t => by
      unfold lkp
      split
      · rename_i hn; exact q1 t hn
      · rename_i k hk
        split
        · rename_i e; subst e; exact q2 t k hk hi
        · split
          · rename_i hc
            have hkl := hrd k (by simpa using hc)
            split
            · rename_i ty ok e1 e2
              have hok : A[k]? = some ok := by simpa using e2
              rw [List.getElem?_map] at e1
              simp only [Option.map_eq_some_iff] at e1
              obtain ⟨rk, hrk, rfl⟩ := e1
              split
              · rename_i hgn
                exact q3 t k ok rk hk hkl hok hrk (fun q b hq => by rw [hgn] at hq; cases hq)
              · rename_i gd hgd
                split
                · rename_i hmem
                  refine q3 t k ok rk hk hkl hok hrk (fun q b hq => ?_)
                  rw [hgd] at hq
                  cases hq
                  exact heff q b (by simpa using hmem)
                · exact trivial
            · exact trivial
          · split
            · rename_i ok hok
              split
              · rename_i hc
                refine q2 t k hk ?_
                cases hlk : l.getD k false with
                | false => rfl
                | true =>
                  have := closed k ok (by simpa using hok) hlk i (by simpa using hc)
                  rw [hi] at this; cases this
              · exact trivial
            · exact trivial
    have hf := hlook o.guard.toList (fun q b hq => hyg q b (by simpa using hq))
    have hpk : ∀ (b : Bool) (c x y : Operand), o.op = .pick c x y → a.eval c = .bool b → ∀ t, VT E S j a.tmps (lkp A.toList s0 (rs.map (·.ty)) i o (pickE A.toList o b ++ o.guard.toList) t) (a.tmps.getD t undef) := fun b c x y hop hc => by
      refine hlook _ (fun q b' hq => ?_)
      rcases List.mem_append.1 hq with hq | hq
      · unfold pickE at hq
        rw [hop] at hq
        cases c <;> try (simp at hq; done)
        rename_i tc
        dsimp only at hq
        split at hq
        · rename_i k hk
          simp at hq
          obtain ⟨rfl, rfl⟩ := hq
          obtain ⟨ok, hok, hdk⟩ := wrOf_some hk
          have hok' : A[q]? = some ok := by simpa using hok
          unfold yielded
          rw [hok']
          simp only [Option.bind_some, hdk]
          have hc' : a.tmps.getD tc undef = .bool b' := hc
          have : a.tmps[tc]? = some (.bool b') := by
            simp only [Array.getD_eq_getD_getElem?] at hc'
            cases e : a.tmps[tc]? with
            | none => rw [e] at hc'; cases hc'
            | some x => rw [e] at hc'; simp at hc'; rw [hc']
          rw [this]
        · simp at hq
      · exact hyg q b' (by simpa using hq)
    have hbump : j + r.bump ≤ E.J := by
      have h6 := spent_set (rs.map (·.bump)) 0 i l hlt (Nat.zero_le _) hi
      have h7 := spent_le (rs.map (·.bump)) 0 (l.setIfInBounds i true)
      have h8 := sum_bump rs
      simp [hr] at h6
      omega
    have htc : ∀ x ∈ r.tc, x ∈ TC := hTC r hmemr
    by_cases hu : isUser o = true ∧ GP (curG rs g l) = GP g
    · have h5' : GP g S w := by rw [← hu.2]; exact h5
      obtain ⟨hres, hsame⟩ := opT_ok hC (.inl hu.1) hH hat h4 h5' hbump hf (fun c x y hop hc => hpk true c x y hop hc) (fun c x y hop hc => hpk false c x y hop hc)
      refine hres.wp fun v w' ⟨S', j', p1, p2, p3, p4, p5, p6⟩ => put (p1.more htc) p2 p3 p4 (hcurU hu.2 hsame p5) (fun _ => p6)
    · by_cases hu' : isUser o = true
      · exfalso
        refine hu ⟨hu', ?_⟩
        unfold curG
        cases hm : loudOf rs with
        | none => rfl
        | some m =>
          dsimp only
          by_cases hlm : l.getD m false = true
          · by_cases e : i = m
            · subst e; rw [hi] at hlm; cases hlm
            · have hanc := (loudOk_some hl hm).2.1 i o (toList_at ho) hu' e
              have := mem_ancs (L := fun k => l.getD k false = true) (fun k ok hok hk => closed k ok (by simpa using hok) hk) A.toList.length [m] (by simpa using hlm) i hanc
              rw [hi] at this; cases this
          · rw [if_neg hlm]
      · have hat' : opAt C (fun _ _ _ => none : Hd γ) g A.toList s0 (rs.map (·.ty)) i o = some r := by
          unfold opAt at hat ⊢
          rw [← noUser (H := H) (by simpa using hu')]
          exact hat
        have hne : loudOf rs ≠ some i := fun hm => by
          obtain ⟨o', ho', hu2, _⟩ := (loudOk_some hl hm).2.2
          rw [toList_at ho] at ho'; cases ho'
          exact absurd hu2 hu'
        obtain ⟨hres, hsame⟩ := opT_ok (E := E.str) (GP := fun _ _ _ => True) (CfgOk.str hC) (.inr ⟨fun _ _ _ _ _ _ _ _ => trivial⟩) (fun _ _ _ _ hh => by cases hh) hat' (Inv_str.2 h4) trivial hbump (fun t => VT_str.2 (hf t)) (fun c x y hop hc t => VT_str.2 (hpk true c x y hop hc t)) (fun c x y hop hc t => VT_str.2 (hpk false c x y hop hc t))
        refine hres.wp fun v w' ⟨S', j', p1, p2, p3, p4, _, p6⟩ => put (p1.weak.more htc) p2 p3 (Inv_str.1 p4) (hcurP hne p1) (fun _ => VT_str.1 p6)
  · rw [if_neg hw]
    refine put (Stp.refl E S w TC) (Nat.le_refl _) (Nat.le_add_right _ _) h4 (hcurP (fun hm => ?_) (Stp.refl E.str S w TC)) (fun hy => ?_)
    · exfalso
      obtain ⟨o', ho', _, hgn⟩ := (loudOk_some hl hm).2.2
      rw [toList_at ho] at ho'; cases ho'
      exact hw (by unfold Region.wanted; rw [hgn])
    · exfalso
      apply hw
      unfold Region.wanted
      cases hq : o.guard with
      | none => rfl
      | some qb => obtain ⟨q, b⟩ := qb; simp [hy q b hq]
end
end Ck
end Go.Proofs.YtnlaedfnifimkaaGreat
namespace Go.Proofs.YtnlaedfnifimkaaGreat
open Go.RowKit
namespace Ck
section
variable {γ : Type} {P : Program} {E : Env} {C : Cfg} {GP : γ → St → World → Prop} {H : Hd γ}
theorem getD_map_weak (ops : List Oper) (l : List Ty) (t : Nat) : (l.map (weak ops)).getD t .any = weak ops (l.getD t .any) := by
  rw [List.getD_eq_getElem?_getD, List.getD_eq_getElem?_getD, List.getElem?_map]
  cases l[t]? <;> rfl
theorem weak_calm (ops : List Oper) (t : Ty) : (weak ops t).calm = true := by
  unfold weak
  split
  · rename_i h
    split
    · split
      · exact h
      · exact Ty.clean_calm t
    · exact h
  · exact Ty.clean_calm t
theorem clean_speaks (t : Ty) : t.clean.speaks = none := by
  cases t with
  | one b => cases b <;> rfl
  | same u b => cases b <;> rfl
  | _ => rfl
theorem weak_speaks (ops : List Oper) (t : Ty) (u : Tmp) (h : (weak ops t).speaks = some u) : wrOf ops u = none := by
  unfold weak at h
  split at h
  · split at h
    · rename_i v hv
      split at h
      · rename_i hn
        rw [hv] at h
        cases h
        simpa using hn
      · rw [clean_speaks] at h; cases h
    · rename_i hn; rw [hn] at h; cases h
  · rw [clean_speaks] at h; cases h
theorem weak_ok {S : St} {j : Nat} {ρ : Array Value} (ops : List Oper) {t : Ty} {v : Value} (h : VT E S j ρ t v) : VT E S j ρ (weak ops t) v := by
  unfold weak
  split
  · split
    · split
      · exact h
      · exact h.clean
    · exact h
  · exact h.clean
theorem putTs_len : ∀ (l : List (Oper × Res γ)) (s : List Ty), (putTs l s).length = s.length
  | [], s => rfl
  | (o, r) :: l, s => by
    simp only [putTs]
    rw [putTs_len l]
    cases o.dst <;> simp
theorem putTs_none : ∀ (l : List (Oper × Res γ)) (s : List Ty) (t : Nat), (∀ p ∈ l, p.1.dst ≠ some t) → (putTs l s).getD t .any = s.getD t .any
  | [], s, t, h => rfl
  | (o, r) :: l, s, t, h => by
    simp only [putTs]
    rw [putTs_none l _ t (fun p hp => h p (List.mem_cons_of_mem _ hp))]
    have h0 := h (o, r) List.mem_cons_self
    cases hd : o.dst with
    | none => rfl
    | some d =>
      have : d ≠ t := fun e => h0 (by rw [hd, e])
      simp [List.getD_eq_getElem?_getD, List.getElem?_set_ne this]
theorem putTs_append : ∀ (l m : List (Oper × Res γ)) (s : List Ty), putTs (l ++ m) s = putTs m (putTs l s)
  | [], m, s => rfl
  | (o, r) :: l, m, s => by simp only [List.cons_append, putTs]; exact putTs_append l m _
variable {S0 : St} {j0 : Nat} {w0 : World} {s s' : AS γ} {A : Array Oper} {a : Act} {w : World} {Q : Exit → Act → World → Prop}
theorem mem_aft {o : Oper} {k : Nat} : k ∈ aft o ↔ ∃ e ∈ o.after, Region.binds .any e = true ∧ e.on = k := by
  unfold aft
  simp only [List.mem_map, List.mem_filter, Array.mem_toList_iff]
  constructor
  · rintro ⟨e, ⟨h1, h2⟩, h3⟩; exact ⟨e, h1, h2, h3⟩
  · rintro ⟨e, h1, h2, h3⟩; exact ⟨e, ⟨h1, h2⟩, h3⟩
theorem all_listed {l : Array Bool} (hsz : l.size = A.size) (hlow : ∀ (i : Nat) o, A[i]? = some o → ∀ k ∈ aft o, k < i) (h : Region.ready .any A l = []) : ∀ i, i < A.size → l.getD i false = true := by
  intro i
  induction i using Nat.strongRecOn with
  | _ i ih =>
    intro hi
    cases hl : l.getD i false with
    | true => rfl
    | false =>
      exfalso
      have hmem : i ∈ Region.ready .any A l := by
        rw [mem_ready]
        refine ⟨?_, A[i], Array.getElem?_eq_getElem hi, fun e he hb => ?_⟩
        · have : i < l.size := by omega
          simp [this] at hl ⊢
          exact hl
        · have := hlow i A[i] (Array.getElem?_eq_getElem hi) e.on (mem_aft.2 ⟨e, he, hb, rfl⟩)
          exact ih e.on this (by omega)
      rw [h] at hmem
      cases hmem
theorem any_of {J : Array Bool → Act → World → Prop} (hJ : ∀ l a w, J l a w → l.size = A.size) (hlow : ∀ (i : Nat) o, A[i]? = some o → ∀ k ∈ aft o, k < i)
    (step : ∀ l a w (i : Nat) o, J l a w → A[i]? = some o → l.getD i false = false → (∀ k ∈ aft o, l.getD k false = true) → wpOp P A Q i (J (l.setIfInBounds i true)) a w)
    (fin : ∀ l a w, J l a w → (∀ i, i < A.size → l.getD i false = true) → Q .normal a w) :
    ∀ (fuel : Nat) (l : Array Bool) (a : Act) (w : World), J l a w → spent (List.replicate A.size 1) 0 l + fuel = A.size → wpAny P .any A Q fuel l a w
  | 0, l, a, w, h, hf => by
    have hall := spent_all A.size 0 l (by omega)
    have hall' : ∀ i, i < A.size → l.getD i false = true := fun i hi => hall i (Nat.zero_le _) (by omega)
    refine ⟨?_, fin l a w h hall'⟩
    cases hr : Region.ready .any A l with
    | nil => rfl
    | cons i r =>
      exfalso
      have hm : i ∈ Region.ready .any A l := by rw [hr]; exact List.mem_cons_self
      rw [mem_ready] at hm
      obtain ⟨h1, o, ho, _⟩ := hm
      have hi : i < A.size := (Array.getElem?_eq_some_iff.1 ho).1
      have := hall' i hi
      have hl : i < l.size := by rw [hJ l a w h]; exact hi
      simp [hl] at this h1
      rw [this] at h1; cases h1
  | fuel + 1, l, a, w, h, hf => by
    refine ⟨fun hr => fin l a w h (all_listed (hJ l a w h) hlow hr), fun i hi => ?_⟩
    rw [mem_ready] at hi
    obtain ⟨h1, o, ho, h2⟩ := hi
    have hlt : i < A.size := (Array.getElem?_eq_some_iff.1 ho).1
    have hl : i < l.size := by rw [hJ l a w h]; exact hlt
    have h1' : l.getD i false = false := by simp [hl] at h1 ⊢; exact h1
    refine wpOp_mono (fun a w h => ?_) (step l a w i o h ho h1' (fun k hk => by
      obtain ⟨e, he, hb, rfl⟩ := mem_aft.1 hk
      exact h2 e he hb))
    refine any_of hJ hlow step fin fuel _ a w h ?_
    rw [spent_set _ _ _ _ hl (Nat.zero_le _) h1']
    simp [hlt]
    omega
theorem ops_of {J : Array Bool → Act → World → Prop} (hJ : ∀ l a w, J l a w → l.size = A.size) (hlow : ∀ (i : Nat) o, A[i]? = some o → ∀ k ∈ aft o, k < i)
    (step : ∀ l a w (i : Nat) o, J l a w → A[i]? = some o → l.getD i false = false → (∀ k ∈ aft o, l.getD k false = true) → wpOp P A Q i (J (l.setIfInBounds i true)) a w)
    (fin : ∀ l a w, J l a w → (∀ i, i < A.size → l.getD i false = true) → Q .normal a w) :
    ∀ (n i : Nat) (l : Array Bool) (a : Act) (w : World), J l a w → i + n = A.size → (∀ k, k < A.size → l.getD k false = decide (k < i)) → wpOps P A Q (List.range' i n) a w
  | 0, i, l, a, w, h, hn, hl => fin l a w h (fun k hk => by rw [hl k hk]; simp; omega)
  | n + 1, i, l, a, w, h, hn, hl => by
    rw [List.range'_succ, wpOps_cons]
    have hi : i < A.size := by omega
    refine wpOp_mono (fun a w h => ?_) (step l a w i A[i] h (Array.getElem?_eq_getElem hi) (by rw [hl i hi]; simp) (fun k hk => by
      have := hlow i A[i] (Array.getElem?_eq_getElem hi) k hk
      rw [hl k (by omega)]; simpa using this))
    refine ops_of hJ hlow step fin n (i + 1) _ a w h (by omega) (fun k hk => ?_)
    have hls : i < l.size := by have := hJ _ a w h; simp at this; omega
    rw [getD_set hls, hl k hk]
    by_cases e : i = k
    · subst e; simp
    · rw [if_neg e]
      by_cases h' : k < i
      · simp [h']; omega
      · simp [h']; omega
theorem region_ok (hm : P.follows .mixedOrders = true) (hC : CfgOk P E C) (hG : GPs E GP) (hH : HOk P E GP H) {id : Nat} {draw : Bool} (h : regionT C H s A.toList = some s') (hroom : j0 + s'.bump ≤ E.J) (hs : Sat E GP S0 j0 w0 s a w)
    (hQ : ∀ a w, Sat E GP S0 j0 w0 s' a w → Q .normal a w) : (Code.region id A draw).wp P Q a w := by
  unfold regionT at h
  dsimp only at h
  split at h
  case h_2 => cases h
  rename_i rs hrs
  split at h
  case isFalse => cases h
  rename_i hloud
  cases h
  have hR := RegOk.of hrs
  generalize hs0 : s.tmps.map (weak A.toList) = s0 at *
  have hlen0 : s0.length = s.tmps.length := by rw [← hs0]; simp
  have hcalm : Calm A s0 := ⟨fun t => by rw [← hs0, getD_map_weak]; exact weak_calm _ _, fun t u hu => by rw [← hs0, getD_map_weak] at hu; exact weak_speaks _ _ u hu⟩
  have hlow : ∀ (i : Nat) o, A[i]? = some o → ∀ k ∈ aft o, k < i := fun i o ho => by
    have hil : i < rs.length := by rw [hR.len]; simpa using (Array.getElem?_eq_some_iff.1 ho).1
    exact fits_aft (hR.at_ i o rs[i] (toList_at ho) (List.getElem?_eq_getElem hil)).2
  have hroom' : (j0 + s.bump) + sumB rs ≤ E.J := by simpa [Nat.add_assoc] using hroom
  let J := RJ E GP S0 j0 (j0 + s.bump) w0 (allTc rs s.tc) s.g A s0 rs s.tmps.length
  have hJ : ∀ l a w, J l a w → l.size = A.size := fun l a w h => h.lsize
  have hstep : ∀ l a w (i : Nat) o, J l a w → A[i]? = some o → l.getD i false = false → (∀ k ∈ aft o, l.getD k false = true) → wpOp P A Q i (J (l.setIfInBounds i true)) a w := fun l a w i o hj ho hi hk =>
    RJ.step hC hG hH hR hcalm hloud (allTc_mem rs s.tc) hroom' hj ho hi hk
  have hfin : ∀ l a w, J l a w → (∀ i, i < A.size → l.getD i false = true) → Q .normal a w := fun l a w hj hall => by
    apply hQ
    obtain ⟨lsize, closed, hdef, hsz, S, j, h1, h2, h3, h4, h5, q1, q2, q3⟩ := hj
    refine ⟨hdef, by rw [hsz, putTs_len, hlen0], S, j, h1, h2, ?_, h4, ?_, fun t => ?_⟩
    · have := spent_le (rs.map (·.bump)) 0 l
      rw [sum_bump] at this
      show j ≤ j0 + (s.bump + sumB rs)
      omega
    · have : curG rs s.g l = (match loudOf rs with
        | some m => ((rs[m]?).map (·.g)).getD s.g
        | none => s.g) := by
        unfold curG
        cases hlo : loudOf rs with
        | none => rfl
        | some m =>
          obtain ⟨o, ho, _⟩ := (loudOk_some hloud hlo).2.2
          have : m < A.size := by simpa using (List.getElem?_eq_some_iff.1 ho).1
          simp only [hall m this, if_true]
      rw [this] at h5; exact h5
    · show VT E S j a.tmps ((putTs (A.toList.zip rs) s0).getD t .any) (a.tmps.getD t undef)
      cases hw : wrOf A.toList t with
      | none =>
        rw [putTs_none _ _ _ (fun p hp => by
          obtain ⟨i, hi⟩ := List.getElem?_of_mem hp
          obtain ⟨o, r⟩ := p
          rw [List.getElem?_zip_eq_some] at hi
          exact wrOf_none hw i o hi.1)]
        exact q1 t hw
      | some k =>
        obtain ⟨o, ho, hd⟩ := wrOf_some hw
        have hk : k < A.size := by simpa using (List.getElem?_eq_some_iff.1 ho).1
        have hkr : k < rs.length := by rw [hR.len]; simpa using hk
        have hr : rs[k]? = some rs[k] := List.getElem?_eq_getElem hkr
        generalize rs[k] = r at hr
        have hzip : (A.toList.zip rs)[k]? = some (o, r) := List.getElem?_zip_eq_some.2 ⟨ho, hr⟩
        have hsplit := List.take_append_drop k (A.toList.zip rs)
        have hkz : k < (A.toList.zip rs).length := (List.getElem?_eq_some_iff.1 hzip).1
        have hdrop : (A.toList.zip rs).drop k = (o, r) :: (A.toList.zip rs).drop (k + 1) := by
          rw [List.drop_eq_getElem_cons hkz]
          congr 1
          exact (List.getElem?_eq_some_iff.1 hzip).2
        have hfit := (hR.at_ k o r ho hr).2
        unfold opFits at hfit
        simp only [Bool.and_eq_true] at hfit
        obtain ⟨⟨⟨⟨f1, _⟩, _⟩, _⟩, _⟩ := hfit
        rw [hd] at f1
        have htN : t < s.tmps.length := by simpa using (by simpa using f1 : _ ∧ _).1
        rw [← hsplit, hdrop, putTs_append]
        simp only [putTs]
        rw [putTs_none _ _ _ (fun p hp => by
          obtain ⟨i, hi⟩ := List.getElem?_of_mem hp
          rw [List.getElem?_drop] at hi
          obtain ⟨o', r'⟩ := p
          rw [List.getElem?_zip_eq_some] at hi
          intro e
          have hfit' := (hR.at_ _ o' r' hi.1 hi.2).2
          unfold opFits at hfit'
          simp only [Bool.and_eq_true] at hfit'
          obtain ⟨⟨⟨⟨f1', _⟩, _⟩, _⟩, _⟩ := hfit'
          simp only at e
          rw [e] at f1'
          have : wrOf A.toList t = some (k + 1 + i) := by simpa using (by simpa using f1' : _ ∧ _).2
          rw [hw] at this
          injection this with this
          omega), hd]
        have hset : ∀ x : Ty, (((putTs ((A.toList.zip rs).take k) s0).set t x).getD t .any) = x := fun x => by
          rw [List.getD_eq_getElem?_getD, List.getElem?_set_self (by rw [putTs_len, hlen0]; exact htN)]
          rfl
        dsimp only
        rw [hset]
        split
        · rename_i hgn
          exact q3 t k o r hw (hall k hk) (by simpa using ho) hr (fun q b hq => by simp [hq] at hgn)
        · exact trivial
  have hstart : ∀ n, J (Array.replicate A.size false) a { w with drawn := n } := fun n => by
    obtain ⟨hdef, hsz, S, j, h1, h2, h3, h4, h5, h6⟩ := hs
    have hrep : ∀ k, (Array.replicate A.size false).getD k false = false := fun k => by
      by_cases h : k < A.size <;> simp [h]
    have hdr : Stp E.str S S w { w with drawn := n } (allTc rs s.tc) := (Stp.refl E.str S w _).drew n
    refine ⟨by simp, fun i o _ hl => (by rw [hrep] at hl; cases hl), hdef, hsz, S, j, (h1.more (allTc_base rs s.tc)).drew n, h2, by omega, h4, ?_, fun t _ => ?_, fun t k _ _ => ?_, fun t k o r _ hl => (by rw [hrep] at hl; cases hl)⟩
    · have : curG rs s.g (Array.replicate A.size false) = s.g := by
        unfold curG
        split
        · rw [hrep]; rfl
        · rfl
      rw [this]
      exact hG.step _ _ _ _ _ _ hdr h5
    · rw [← hs0, getD_map_weak]; exact weak_ok _ (h6 t)
    · rw [← hs0, getD_map_weak]; exact weak_ok _ (h6 t)
  cases draw with
  | true =>
    refine wp_region_any hm (any_of hJ hlow hstep hfin A.size _ a _ (hstart _) ?_)
    rw [spent_none]; omega
  | false =>
    refine wp_region ?_
    rw [List.range_eq_range']
    have := hstart w.drawn
    exact ops_of hJ hlow hstep hfin A.size 0 _ a w this (by omega) (fun k hk => by simp [hk])
end
end Ck
end Go.Proofs.YtnlaedfnifimkaaGreat
namespace Go.Proofs.YtnlaedfnifimkaaGreat
open Go.RowKit
namespace Ck
structure Out (γ : Type) where
  norm : Option (AS γ)
  exits : List (Nat × AS γ)
  ret : Option (AS γ)
  hi : Nat
section
variable {γ : Type}
def zipT (g0 : Nat) : List Ty → List Ty → List Ty
  | a :: l, b :: m => joinT g0 a b :: zipT g0 l m
  | _, _ => []
def joinS [DecidableEq γ] (g0 : Nat) (a b : AS γ) : Option (AS γ) :=
  if a.g = b.g ∧ a.tmps.length = b.tmps.length then some ⟨zipT g0 a.tmps b.tmps, max a.bump b.bump, a.g, addTc a.tc b.tc⟩ else none
def joinO [DecidableEq γ] (g0 : Nat) : Option (AS γ) → Option (AS γ) → Option (Option (AS γ))
  | none, y => some y
  | x, none => some x
  | some a, some b => (joinS g0 a b).map some
def joinX [DecidableEq γ] (g0 : Nat) (id : Nat) : List (Nat × AS γ) → Option (AS γ) → Option (Option (AS γ))
  | [], n => some n
  | (i, s) :: r, n => match joinX g0 id r n with
    | some m => if i = id then joinO g0 (some s) m else some m
    | none => none
def seqO [DecidableEq γ] (g0 : Nat) (o1 o2 : Out γ) : Option (Out γ) :=
  match joinO g0 o1.ret o2.ret with
  | some r => some ⟨o2.norm, o1.exits ++ o2.exits, r, max o1.hi o2.hi⟩
  | none => none
def bothO [DecidableEq γ] (g0 : Nat) (o1 o2 : Option (Out γ)) : Option (Out γ) :=
  match o1, o2 with
  | some o1, some o2 => match joinO g0 o1.ret o2.ret, joinO g0 o1.norm o2.norm with
    | some r, some n => some ⟨n, o1.exits ++ o2.exits, r, max o1.hi o2.hi⟩
    | _, _ => none
  | _, _ => none
def refine (u : Tmp) (s : AS γ) : AS γ :=
  match s.tmps.getD u .any with
  | .one (.ptr k lo hi true) => { s with tmps := s.tmps.set u (.one (.ptr k lo hi false)) }
  | _ => s
def resT (C : Cfg) (s : AS γ) : ResultVar → Option Ty
  | .tmp t => some (s.tmps.getD t .any).clean
  | .cell a t => (loadT C t (s.tmps.getD a .any)).map Ty.clean
def ressT (C : Cfg) (s : AS γ) : List ResultVar → Option (List Ty)
  | [] => some []
  | r :: l => match resT C s r, ressT C s l with
    | some t, some m => some (t :: m)
    | _, _ => none
def retS (C : Cfg) (rv : List ResultVar) (s : AS γ) : Option (AS γ) :=
  (ressT C s rv).map fun l => { s with tmps := l }
def iter [DecidableEq γ] (g0 : Nat) (f : AS γ → Option (Out γ)) : Nat → AS γ → Option (Out γ)
  | 0, _ => none
  | n + 1, s => match f s with
    | none => none
    | some o => match o.norm with
      | none => some o
      | some s' => match iter g0 f n s' with
        | none => none
        | some o' => seqO g0 o o'
def chk [DecidableEq γ] (C : Cfg) (H : Hd γ) (rv : List ResultVar) (loops : Nat) : Code → AS γ → Option (Out γ)
  | .skip, s => some ⟨some s, [], none, 0⟩
  | .region _ A _, s => (regionT C H s A.toList).map fun s' => ⟨some s', [], none, s'.bump⟩
  | .seq x y, s => match chk C H rv loops x s with
    | none => none
    | some o1 => match o1.norm with
      | none => some o1
      | some s1 => match chk C H rv loops y s1 with
        | none => none
        | some o2 => seqO C.g0 o1 o2
  | .cond c x y, s => match look (fun t => s.tmps.getD t .any) c with
    | .one (.bool (some true)) => chk C H rv loops x s
    | .one (.bool (some false)) => chk C H rv loops y s
    | .one (.bool none) => bothO C.g0 (chk C H rv loops x s) (chk C H rv loops y s)
    | .one (.nz u true) => bothO C.g0 (chk C H rv loops x (refine u s)) (chk C H rv loops y s)
    | .one (.nz u false) => bothO C.g0 (chk C H rv loops x s) (chk C H rv loops y (refine u s))
    | _ => none
  | .block id b, s => match chk C H rv loops b s with
    | none => none
    | some o => match joinX C.g0 id o.exits o.norm with
      | some n => some ⟨n, o.exits.filter (fun x => !(x.1 == id)), o.ret, o.hi⟩
      | none => none
  | .loop b, s => iter C.g0 (chk C H rv loops b) loops s
  | .exit id, s => some ⟨none, [(id, s)], none, 0⟩
  | .ret, s => match retS C rv s with
    | some r => some ⟨none, [], some r, 0⟩
    | none => none
  | _, _ => none
def tyOf : List Ty → Option Ty
  | [t] => some t
  | l => (l.mapM Ty.c?).map .tup
def funT [DecidableEq γ] (C : Cfg) (H : Hd γ) (loops : Nat) (fn : Func) (g : γ) (tys : List Ty) : Option (Res γ) :=
  match fn.body with
  | none => none
  | some c =>
    if tys.all Ty.free && decide (tys.length ≤ fn.ntmps) then
    match chk C H fn.results.toList loops c ⟨tys ++ List.replicate (fn.ntmps - tys.length) .any, 0, g, []⟩ with
    | none => none
    | some o => match o.exits, o.norm with
      | [], none => match o.ret with
        | some r => (tyOf r.tmps).bind fun t => if t.free then some ⟨t, max o.hi r.bump, r.g, decide (r.g = g), r.tc⟩ else none
        | none => none
      | [], some s => match retS C fn.results.toList s with
        | some r' => match joinO C.g0 o.ret (some r') with
          | some (some r) => (tyOf r.tmps).bind fun t => if t.free then some ⟨t, max o.hi r.bump, r.g, decide (r.g = g), r.tc⟩ else none
          | _ => none
        | none => none
      | _, _ => none
    else none
variable {P : Program} {E : Env} {C : Cfg} {GP : γ → St → World → Prop} {H : Hd γ}
variable {S0 : St} {j0 : Nat} {w0 : World} {s s' : AS γ} {a : Act} {w : World} {Q : Exit → Act → World → Prop}
theorem refine_ok {u : Tmp} (h : Sat E GP S0 j0 w0 s a w) (hu : a.tmps.getD u undef ≠ .pointer none) : Sat E GP S0 j0 w0 (refine u s) a w := by
  unfold refine
  split
  · rename_i k lo hi e
    obtain ⟨h1, h2, S, j, k1, k2, k3, k4, k5, k6⟩ := h
    refine ⟨h1, by simpa using h2, S, j, k1, k2, k3, k4, k5, fun t => ?_⟩
    have ht := k6 t
    show VT E S j a.tmps ((s.tmps.set u (.one (.ptr k lo hi false))).getD t .any) _
    by_cases e' : u = t
    · subst e'
      rw [e] at ht
      rw [List.getD_eq_getElem?_getD, List.getElem?_set]
      rw [if_pos rfl]
      split
      · rcases ht with ⟨_, hn⟩ | hx
        · exact absurd hn hu
        · exact .inr hx
      · exact trivial
    · rw [List.getD_eq_getElem?_getD, List.getElem?_set_ne e', ← List.getD_eq_getElem?_getD]
      exact ht
  · exact h
theorem resT_ok (hC : CfgOk P E C) {S : St} {j : Nat} (hI : Inv E S j w) (h6 : ∀ t, VT E S j a.tmps (s.tmps.getD t .any) (a.tmps.getD t undef)) : ∀ {rv : List ResultVar} {l : List Ty}, ressT C s rv = some l → ∃ vs : List Value,
    (rv.mapM fun x => (match x with
      | .tmp t => pure (a.tmps.getD t undef)
      | .cell b t => do loadVar t (← asAddr (a.tmps.getD b undef)) : Sem Value)).run P w = .ok vs w ∧ ArgsOk E S j l vs
  | [], l, h => by cases h; exact ⟨[], by simp, rfl, fun i ty v h1 => by simp at h1⟩
  | r :: rv, l, h => by
    simp only [ressT] at h
    split at h
    case h_2 => cases h
    rename_i t m e1 e2
    cases h
    obtain ⟨vs, h1, h2, h3⟩ := resT_ok hC hI h6 e2
    have : ∃ v, ((match r with
      | .tmp t => pure (a.tmps.getD t undef)
      | .cell b t => do loadVar t (← asAddr (a.tmps.getD b undef)) : Sem Value)).run P w = .ok v w ∧ VT E S j #[] t v := by
      cases r with
      | tmp q => cases e1; exact ⟨_, rfl, (h6 q).clean⟩
      | cell b ty =>
        simp only [resT, Option.map_eq_some_iff] at e1
        obtain ⟨t', ht', rfl⟩ := e1
        obtain ⟨v, hv1, hv2⟩ := loadT_ok (P := P) hC hI ht' (h6 b)
        refine ⟨v, ?_, hv2.clean⟩
        have hp : ∃ ad, a.tmps.getD b undef = .pointer (some ad) := by
          unfold loadT at ht'
          split at ht'
          · rename_i _ _ _ _ _ _ hb
            rcases b?_ok hb (h6 b) with ⟨e, _⟩ | ⟨g, o, n, e, _⟩
            · cases e
            · exact ⟨_, e⟩
          · cases ht'
        obtain ⟨ad, had⟩ := hp
        simp only [Instr.loadAt, Instr.sureAddr, had, Sem.run_bind, Sem.run_pure, Result.andThen_ok] at hv1
        simp only [had, asAddr, Sem.run_bind, Sem.run_pure, Result.andThen_ok]
        exact hv1
    obtain ⟨v, hv1, hv2⟩ := this
    refine ⟨v :: vs, ?_, by simp [h2], fun i ty u k1 k2 => ?_⟩
    · simp only [List.mapM_cons, Sem.run_bind]
      rw [hv1]
      simp only [Result.andThen_ok]
      rw [h1]
      rfl
    · cases i with
      | zero => simp at k1 k2; subst k1 k2; exact hv2
      | succ i => exact h3 i ty u (by simpa using k1) (by simpa using k2)
structure RSat (P : Program) (E : Env) (GP : γ → St → World → Prop) (rv : List ResultVar) (S0 : St) (j0 : Nat) (w0 : World) (r : AS γ) (a : Act) (w : World) : Prop where
  defers : a.defers = []
  mem : ∃ S j, Stp E S0 S w0 w r.tc ∧ j0 ≤ j ∧ j ≤ j0 + r.bump ∧ Inv E S j w ∧ GP r.g S w ∧ ∃ vs : List Value,
    (rv.mapM fun x => (match x with
      | .tmp t => pure (a.tmps.getD t undef)
      | .cell b t => do loadVar t (← asAddr (a.tmps.getD b undef)) : Sem Value)).run P w = .ok vs w ∧ ArgsOk E S j r.tmps vs
theorem retS_ok (hC : CfgOk P E C) {rv : List ResultVar} {r : AS γ} (h : retS C rv s = some r) (hs : Sat E GP S0 j0 w0 s a w) : RSat P E GP rv S0 j0 w0 r a w := by
  unfold retS at h
  simp only [Option.map_eq_some_iff] at h
  obtain ⟨l, hl, rfl⟩ := h
  obtain ⟨h1, h2, S, j, k1, k2, k3, k4, k5, k6⟩ := hs
  exact ⟨h1, S, j, k1, k2, k3, k4, k5, resT_ok hC k4 k6 hl⟩
variable [DecidableEq γ]
theorem zipT_len (g0 : Nat) : ∀ (a b : List Ty), a.length = b.length → (zipT g0 a b).length = a.length
  | [], [], _ => rfl
  | x :: a, y :: b, h => by simp [zipT, zipT_len g0 a b (by simpa using h)]
theorem zipT_getD (g0 : Nat) : ∀ (a b : List Ty) (t : Nat), a.length = b.length → (zipT g0 a b).getD t .any = if t < a.length then joinT g0 (a.getD t .any) (b.getD t .any) else .any
  | [], [], t, _ => by simp [zipT]
  | x :: a, y :: b, 0, h => by simp [zipT]
  | x :: a, y :: b, t + 1, h => by
    have := zipT_getD g0 a b t (by simpa using h)
    simp only [zipT, List.getD_cons_succ, List.length_cons, Nat.add_lt_add_iff_right]
    exact this
theorem joinS_ok (hC : CfgOk P E C) {x y z : AS γ} (h : joinS C.g0 x y = some z) : (Sat E GP S0 j0 w0 x a w → Sat E GP S0 j0 w0 z a w) ∧ (Sat E GP S0 j0 w0 y a w → Sat E GP S0 j0 w0 z a w) := by
  unfold joinS at h
  split at h
  case isFalse => cases h
  rename_i hc
  cases h
  obtain ⟨hg, hl⟩ := hc
  constructor
  · rintro ⟨h1, h2, S, j, k1, k2, k3, k4, k5, k6⟩
    refine ⟨h1, by rw [h2]; exact (zipT_len _ _ _ hl).symm, S, j, k1.more fun x hx => mem_addTc.2 (.inl hx), k2, Nat.le_trans k3 (Nat.add_le_add_left (Nat.le_max_left _ _) _), k4, k5, fun t => ?_⟩
    show VT E S j a.tmps ((zipT C.g0 x.tmps y.tmps).getD t .any) _
    rw [zipT_getD _ _ _ _ hl]
    split
    · exact (joinT_ok hC).1 (k6 t)
    · exact trivial
  · rintro ⟨h1, h2, S, j, k1, k2, k3, k4, k5, k6⟩
    refine ⟨h1, by rw [h2, ← hl]; exact (zipT_len _ _ _ hl).symm, S, j, k1.more fun x hx => mem_addTc.2 (.inr hx), k2, Nat.le_trans k3 (Nat.add_le_add_left (Nat.le_max_right _ _) _), k4, by rw [hg]; exact k5, fun t => ?_⟩
    show VT E S j a.tmps ((zipT C.g0 x.tmps y.tmps).getD t .any) _
    rw [zipT_getD _ _ _ _ hl]
    split
    · exact (joinT_ok hC).2 (k6 t)
    · exact trivial
theorem joinR_ok (hC : CfgOk P E C) {rv : List ResultVar} {x y z : AS γ} (h : joinS C.g0 x y = some z) : (RSat P E GP rv S0 j0 w0 x a w → RSat P E GP rv S0 j0 w0 z a w) ∧ (RSat P E GP rv S0 j0 w0 y a w → RSat P E GP rv S0 j0 w0 z a w) := by
  unfold joinS at h
  split at h
  case isFalse => cases h
  rename_i hc
  cases h
  obtain ⟨hg, hl⟩ := hc
  have hz : ∀ (t : Nat) ty, (zipT C.g0 x.tmps y.tmps)[t]? = some ty → ∃ u v, x.tmps[t]? = some u ∧ y.tmps[t]? = some v ∧ ty = joinT C.g0 u v := fun t ty ht => by
    have h1 := zipT_getD C.g0 x.tmps y.tmps t hl
    have hlt : t < x.tmps.length := by rw [← zipT_len C.g0 _ _ hl]; exact (List.getElem?_eq_some_iff.1 ht).1
    rw [List.getD_eq_getElem?_getD, ht, if_pos hlt] at h1
    refine ⟨_, _, List.getElem?_eq_getElem hlt, List.getElem?_eq_getElem (by omega), ?_⟩
    simp only [Option.getD_some] at h1
    rw [h1, List.getD_eq_getElem?_getD, List.getD_eq_getElem?_getD, List.getElem?_eq_getElem hlt, List.getElem?_eq_getElem (by omega)]
    rfl
  constructor
  · rintro ⟨h1, S, j, k1, k2, k3, k4, k5, vs, k6, k7, k8⟩
    refine ⟨h1, S, j, k1.more fun x hx => mem_addTc.2 (.inl hx), k2, Nat.le_trans k3 (Nat.add_le_add_left (Nat.le_max_left _ _) _), k4, k5, vs, k6, by rw [k7]; exact (zipT_len _ _ _ hl).symm, fun t ty v h1 h2 => ?_⟩
    obtain ⟨u, v', e1, e2, rfl⟩ := hz t ty h1
    exact (joinT_ok hC).1 (k8 t u v e1 h2)
  · rintro ⟨h1, S, j, k1, k2, k3, k4, k5, vs, k6, k7, k8⟩
    refine ⟨h1, S, j, k1.more fun x hx => mem_addTc.2 (.inr hx), k2, Nat.le_trans k3 (Nat.add_le_add_left (Nat.le_max_right _ _) _), k4, by rw [hg]; exact k5, vs, k6, by rw [k7, ← hl]; exact (zipT_len _ _ _ hl).symm, fun t ty v h1 h2 => ?_⟩
    obtain ⟨u, v', e1, e2, rfl⟩ := hz t ty h1
    exact (joinT_ok hC).2 (k8 t v' v e2 h2)
def May (R : AS γ → Prop) (o : Option (AS γ)) : Prop := ∃ s, o = some s ∧ R s
theorem joinO_ok {R : AS γ → Prop} (hR : ∀ x y z, joinS C.g0 x y = some z → (R x → R z) ∧ (R y → R z)) {x y z : Option (AS γ)} (h : joinO C.g0 x y = some z) : (May R x → May R z) ∧ (May R y → May R z) := by
  cases x with
  | none =>
    cases h
    refine ⟨?_, id⟩
    rintro ⟨s, hs, _⟩; cases hs
  | some x =>
    cases y with
    | none =>
      cases h
      refine ⟨id, ?_⟩
      rintro ⟨s, hs, _⟩; cases hs
    | some y =>
      simp only [joinO, Option.map_eq_some_iff] at h
      obtain ⟨u, hu, rfl⟩ := h
      constructor
      · rintro ⟨s, hs, hr⟩; cases hs; exact ⟨u, rfl, (hR _ _ _ hu).1 hr⟩
      · rintro ⟨s, hs, hr⟩; cases hs; exact ⟨u, rfl, (hR _ _ _ hu).2 hr⟩
theorem joinX_ok {R : AS γ → Prop} (hR : ∀ x y z, joinS C.g0 x y = some z → (R x → R z) ∧ (R y → R z)) {id : Nat} : ∀ {l : List (Nat × AS γ)} {n m : Option (AS γ)}, joinX C.g0 id l n = some m → (May R n → May R m) ∧ ∀ s, (id, s) ∈ l → R s → May R m
  | [], n, m, h => by cases h; exact ⟨fun h => h, fun s hs => by cases hs⟩
  | (i, s) :: r, n, m, h => by
    simp only [joinX] at h
    split at h
    case h_2 => cases h
    rename_i m' hm'
    obtain ⟨h1, h2⟩ := joinX_ok hR hm'
    split at h
    · rename_i e
      obtain ⟨h3, h4⟩ := joinO_ok hR h
      refine ⟨fun hn => h4 (h1 hn), fun s' hs' hr => ?_⟩
      cases hs' with
      | head => exact h3 ⟨_, rfl, hr⟩
      | tail _ hs' => exact h4 (h2 s' hs' hr)
    · rename_i e
      cases h
      refine ⟨h1, fun s' hs' hr => ?_⟩
      cases hs' with
      | head => exact absurd rfl e
      | tail _ hs' => exact h2 s' hs' hr
def QO (P : Program) (E : Env) (GP : γ → St → World → Prop) (rv : List ResultVar) (S0 : St) (j0 : Nat) (w0 : World) (o : Out γ) : Exit → Act → World → Prop
  | .normal, a, w => May (fun s => Sat E GP S0 j0 w0 s a w) o.norm
  | .exit id, a, w => ∃ s, (id, s) ∈ o.exits ∧ Sat E GP S0 j0 w0 s a w
  | .ret, a, w => May (fun s => RSat P E GP rv S0 j0 w0 s a w) o.ret
  | _, _, _ => False
theorem QO.seq1 (hC : CfgOk P E C) {rv : List ResultVar} {o1 o2 o : Out γ} (h : seqO C.g0 o1 o2 = some o) {e : Exit} {a : Act} {w : World} (hq : QO P E GP rv S0 j0 w0 o1 e a w) (hn : e ≠ .normal) : QO P E GP rv S0 j0 w0 o e a w := by
  unfold seqO at h
  split at h
  case h_2 => cases h
  rename_i r hr
  cases h
  cases e with
  | normal => exact absurd rfl hn
  | exit id => obtain ⟨s, h1, h2⟩ := hq; exact ⟨s, List.mem_append_left _ h1, h2⟩
  | ret => exact (joinO_ok (fun x y z hz => joinR_ok hC hz) hr).1 hq
  | goto l => exact hq
  | panic c => exact hq
  | outgrown => exact hq
theorem QO.seq2 (hC : CfgOk P E C) {rv : List ResultVar} {o1 o2 o : Out γ} (h : seqO C.g0 o1 o2 = some o) {e : Exit} {a : Act} {w : World} (hq : QO P E GP rv S0 j0 w0 o2 e a w) : QO P E GP rv S0 j0 w0 o e a w := by
  unfold seqO at h
  split at h
  case h_2 => cases h
  rename_i r hr
  cases h
  cases e with
  | normal => exact hq
  | exit id => obtain ⟨s, h1, h2⟩ := hq; exact ⟨s, List.mem_append_right _ h1, h2⟩
  | ret => exact (joinO_ok (fun x y z hz => joinR_ok hC hz) hr).2 hq
  | goto l => exact hq
  | panic c => exact hq
  | outgrown => exact hq
theorem QO.both (hC : CfgOk P E C) {rv : List ResultVar} {o1 o2 o : Out γ} (h : bothO C.g0 (some o1) (some o2) = some o) {e : Exit} {a : Act} {w : World} (hq : QO P E GP rv S0 j0 w0 o1 e a w ∨ QO P E GP rv S0 j0 w0 o2 e a w) : QO P E GP rv S0 j0 w0 o e a w := by
  unfold bothO at h
  dsimp only at h
  split at h
  case h_2 => cases h
  rename_i r n hr hn
  cases h
  cases e with
  | normal => exact hq.elim (joinO_ok (fun x y z hz => joinS_ok hC hz) hn).1 (joinO_ok (fun x y z hz => joinS_ok hC hz) hn).2
  | exit id =>
    rcases hq with ⟨s, h1, h2⟩ | ⟨s, h1, h2⟩
    · exact ⟨s, List.mem_append_left _ h1, h2⟩
    · exact ⟨s, List.mem_append_right _ h1, h2⟩
  | ret => exact hq.elim (joinO_ok (fun x y z hz => joinR_ok hC hz) hr).1 (joinO_ok (fun x y z hz => joinR_ok hC hz) hr).2
  | goto l => exact hq.elim id id
  | panic c => exact hq.elim id id
  | outgrown => exact hq.elim id id
theorem seqO_hi {g0 : Nat} {o1 o2 o : Out γ} (h : seqO g0 o1 o2 = some o) : o1.hi ≤ o.hi ∧ o2.hi ≤ o.hi ∧ o.norm = o2.norm := by
  unfold seqO at h
  split at h
  · cases h; exact ⟨Nat.le_max_left _ _, Nat.le_max_right _ _, rfl⟩
  · cases h
theorem bothO_some {g0 : Nat} {o1 o2 : Option (Out γ)} {o : Out γ} (h : bothO g0 o1 o2 = some o) : ∃ p1 p2, o1 = some p1 ∧ o2 = some p2 ∧ p1.hi ≤ o.hi ∧ p2.hi ≤ o.hi := by
  unfold bothO at h
  split at h
  · rename_i p1 p2
    split at h
    · cases h; exact ⟨p1, p2, rfl, rfl, Nat.le_max_left _ _, Nat.le_max_right _ _⟩
    · cases h
  · cases h
theorem iter_ok (hC : CfgOk P E C) {rv : List ResultVar} {b : Code} {f : AS γ → Option (Out γ)} (hf : ∀ s o, f s = some o → j0 + o.hi ≤ E.J → ∀ a w, Sat E GP S0 j0 w0 s a w → b.wp P (QO P E GP rv S0 j0 w0 o) a w) :
    ∀ (n : Nat) (s : AS γ) (o : Out γ), iter C.g0 f n s = some o → j0 + o.hi ≤ E.J → o.norm = none ∧ ∀ a w, Sat E GP S0 j0 w0 s a w → (Code.loop b).wp P (QO P E GP rv S0 j0 w0 o) a w := by
  intro n s o h hJ
  have key : ∀ (n : Nat) (s : AS γ) (o' : Out γ), iter C.g0 f n s = some o' → j0 + o'.hi ≤ E.J → o'.norm = none ∧ ∀ (R : Exit → Act → World → Prop), (∀ e a w, e ≠ .normal → QO P E GP rv S0 j0 w0 o' e a w → R e a w) → ∀ a w, Sat E GP S0 j0 w0 s a w → b.wp P (Exit.then (fun a' w' => ∃ s' n', n' < n ∧ ∃ o'', iter C.g0 f n' s' = some o'' ∧ j0 + o''.hi ≤ E.J ∧ (∀ e a w, e ≠ .normal → QO P E GP rv S0 j0 w0 o'' e a w → R e a w) ∧ Sat E GP S0 j0 w0 s' a' w') R) a w := by
    intro n
    induction n with
    | zero => intro s o' h; cases h
    | succ n ih =>
      intro s o' h hJ'
      simp only [iter] at h
      split at h
      case h_1 => cases h
      rename_i o1 h1
      split at h
      · rename_i hn
        cases h
        refine ⟨hn, fun R hR a w hs => wp_mono (hf s o' h1 hJ' a w hs) fun e a' w' hq => ?_⟩
        cases e with
        | normal => obtain ⟨s', hs', _⟩ := hq; rw [hn] at hs'; cases hs'
        | _ => exact hR _ _ _ (by intro e; cases e) hq
      · rename_i s1 hn
        split at h
        case h_1 => cases h
        rename_i o2 h2
        obtain ⟨k1, k2, k3⟩ := seqO_hi h
        obtain ⟨i1, i2⟩ := ih s1 o2 h2 (by omega)
        refine ⟨by rw [k3]; exact i1, fun R hR a w hs => wp_mono (hf s o1 h1 (by omega) a w hs) fun e a' w' hq => ?_⟩
        cases e with
        | normal =>
          obtain ⟨s', hs', hsat⟩ := hq
          rw [hn] at hs'; cases hs'
          exact ⟨s1, n, Nat.lt_succ_self n, o2, h2, by omega, fun e a w hne hq => hR e a w hne (QO.seq2 hC h hq), hsat⟩
        | _ => exact hR _ _ _ (by intro e; cases e) (QO.seq1 hC h hq (by intro e; cases e))
  refine ⟨(key n s o h hJ).1, fun a w hs => ?_⟩
  refine wp_loop_ghost (fun m a w => ∃ s' n', n' ≤ m ∧ ∃ o'', iter C.g0 f n' s' = some o'' ∧ j0 + o''.hi ≤ E.J ∧ (∀ e a w, e ≠ .normal → QO P E GP rv S0 j0 w0 o'' e a w → QO P E GP rv S0 j0 w0 o e a w) ∧ Sat E GP S0 j0 w0 s' a w) n ⟨s, n, Nat.le_refl _, o, h, hJ, fun _ _ _ _ h => h, hs⟩ ?_
  rintro m a w ⟨s', n', hle, o'', h1, h2, h3, h4⟩
  refine wp_mono ((key n' s' o'' h1 h2).2 _ h3 a w h4) fun e a' w' hq => ?_
  cases e with
  | normal =>
    obtain ⟨s2, n2, hlt, o2, q1, q2, q3, q4⟩ := hq
    exact ⟨n2, by omega, s2, n2, Nat.le_refl _, o2, q1, q2, q3, q4⟩
  | _ => exact hq
theorem chk_ok (hm : P.follows .mixedOrders = true) (hC : CfgOk P E C) (hG : GPs E GP) (hH : HOk P E GP H) {rv : List ResultVar} {loops : Nat} : ∀ (c : Code) (s : AS γ) (o : Out γ), chk C H rv loops c s = some o → j0 + o.hi ≤ E.J → ∀ a w, Sat E GP S0 j0 w0 s a w → c.wp P (QO P E GP rv S0 j0 w0 o) a w := by
  intro c
  induction c with
  | skip => intro s o h hJ a w hs; cases h; exact wp_skip ⟨_, rfl, hs⟩
  | region id A draw =>
    intro s o h hJ a w hs
    simp only [chk, Option.map_eq_some_iff] at h
    obtain ⟨s', hs', rfl⟩ := h
    exact region_ok hm hC hG hH hs' hJ hs fun a w h => ⟨_, rfl, h⟩
  | seq x y ihx ihy =>
    intro s o h hJ a w hs
    simp only [chk] at h
    split at h
    case h_1 => cases h
    rename_i o1 h1
    split at h
    · rename_i hn
      cases h
      refine wp_seq (wp_mono (ihx s o h1 hJ a w hs) fun e a' w' hq => ?_)
      cases e with
      | normal => obtain ⟨s', hs', _⟩ := hq; rw [hn] at hs'; cases hs'
      | _ => exact hq
    · rename_i s1 hn
      split at h
      case h_1 => cases h
      rename_i o2 h2
      obtain ⟨k1, k2, k3⟩ := seqO_hi h
      refine wp_seq (wp_mono (ihx s o1 h1 (by omega) a w hs) fun e a' w' hq => ?_)
      cases e with
      | normal =>
        obtain ⟨s', hs', hsat⟩ := hq
        rw [hn] at hs'; cases hs'
        exact wp_mono (ihy s1 o2 h2 (by omega) a' w' hsat) fun e a w hq => QO.seq2 hC h hq
      | _ => exact QO.seq1 hC h hq (by intro e; cases e)
  | cond c x y ihx ihy =>
    intro s o h hJ a w hs
    have hs' := hs
    obtain ⟨_, _, S, j, _, _, _, _, _, k6⟩ := hs'
    have hc := look_ok k6 c
    simp only [chk] at h
    split at h
    · rename_i e
      rw [e] at hc
      obtain ⟨b, hb, hv⟩ := hc
      obtain rfl := hv true rfl
      exact wp_cond_true hb (ihx s o h hJ a w hs)
    · rename_i e
      rw [e] at hc
      obtain ⟨b, hb, hv⟩ := hc
      obtain rfl := hv false rfl
      exact wp_cond_false hb (ihy s o h hJ a w hs)
    · rename_i e
      rw [e] at hc
      obtain ⟨b, hb, _⟩ := hc
      obtain ⟨p1, p2, e1, e2, l1, l2⟩ := bothO_some h
      rw [e1, e2] at h
      refine wp_cond_split hb (fun _ => ?_) (fun _ => ?_)
      · exact wp_mono (ihx s p1 e1 (by omega) a w hs) fun e a w hq => QO.both hC h (.inl hq)
      · exact wp_mono (ihy s p2 e2 (by omega) a w hs) fun e a w hq => QO.both hC h (.inr hq)
    · rename_i u e
      rw [e] at hc
      obtain ⟨b, hb, hn⟩ := hc
      obtain ⟨p1, p2, e1, e2, l1, l2⟩ := bothO_some h
      rw [e1, e2] at h
      refine wp_cond_split hb (fun hbt => ?_) (fun _ => ?_)
      · exact wp_mono (ihx _ p1 e1 (by omega) a w (refine_ok hs (hn hbt))) fun e a w hq => QO.both hC h (.inl hq)
      · exact wp_mono (ihy s p2 e2 (by omega) a w hs) fun e a w hq => QO.both hC h (.inr hq)
    · rename_i u e
      rw [e] at hc
      obtain ⟨b, hb, hn⟩ := hc
      obtain ⟨p1, p2, e1, e2, l1, l2⟩ := bothO_some h
      rw [e1, e2] at h
      refine wp_cond_split hb (fun _ => ?_) (fun hbf => ?_)
      · exact wp_mono (ihx s p1 e1 (by omega) a w hs) fun e a w hq => QO.both hC h (.inl hq)
      · exact wp_mono (ihy _ p2 e2 (by omega) a w (refine_ok hs (hn hbf))) fun e a w hq => QO.both hC h (.inr hq)
    · cases h
  | block id b ih =>
    intro s o h hJ a w hs
    simp only [chk] at h
    split at h
    case h_1 => cases h
    rename_i o1 h1
    split at h
    case h_2 => cases h
    rename_i n hn
    cases h
    refine wp_block (wp_mono (ih s o1 h1 hJ a w hs) fun e a' w' hq => ?_)
    obtain ⟨j1, j2⟩ := joinX_ok (R := fun s => Sat E GP S0 j0 w0 s a' w') (fun x y z hz => joinS_ok hC hz) hn
    cases e with
    | normal => exact j1 hq
    | exit id' =>
      obtain ⟨s', hm', hsat⟩ := hq
      show if id' = id then _ else _
      split
      · rename_i e; subst e; exact j2 s' hm' hsat
      · rename_i e
        exact ⟨s', List.mem_filter.2 ⟨hm', by simpa using e⟩, hsat⟩
    | ret => exact hq
    | goto l => exact hq
    | panic c => exact hq
    | outgrown => exact hq
  | loop b ih =>
    intro s o h hJ a w hs
    exact (iter_ok hC (fun s o h hJ a w hs => ih s o h hJ a w hs) loops s o h hJ).2 a w hs
  | exit id => intro s o h hJ a w hs; cases h; exact wp_exit ⟨s, List.mem_cons_self, hs⟩
  | ret =>
    intro s o h hJ a w hs
    simp only [chk] at h
    split at h
    · rename_i r hr; cases h; exact wp_ret ⟨r, rfl, retS_ok hC hr hs⟩
    · cases h
  | rangeFunc f ps x y _ _ => intro s o h; cases h
  | scope b _ => intro s o h; cases h
  | label l => intro s o h; cases h
  | goto l => intro s o h; cases h
  | refuse y => intro s o h; cases h
end
end Ck
end Go.Proofs.YtnlaedfnifimkaaGreat
namespace Go.Proofs.YtnlaedfnifimkaaGreat
open Go.RowKit
namespace Ck
structure Sig where
  args : List Ty
  res : Ty
  bump : Nat
  tc : List (Kd × Nat)
def SigOk (P : Program) (E : Env) (f : FuncId) (s : Sig) : Prop :=
  Callable P f ∧ s.res.free = true ∧ ∀ S j w args, Inv E S j w → j + s.bump ≤ E.J → ArgsOk E S j s.args args →
    Calls P f args.toArray w fun e w' => ∃ v, e = .returned v ∧ ∃ S' j', Stp E S S' w w' s.tc ∧ j ≤ j' ∧ j' ≤ j + s.bump ∧ Inv E S' j' w' ∧ VT E S' j' #[] s.res v
def subTs (g0 : Nat) : List Ty → List Ty → Bool
  | [], [] => true
  | a :: l, b :: m => subT g0 a b && subTs g0 l m
  | _, _ => false
def pickS (g0 : Nat) : List (FuncId × Sig) → FuncId → List Ty → Option Sig
  | [], _, _ => none
  | (n, s) :: r, f, tys => if n = f ∧ subTs g0 tys s.args = true then some s else pickS g0 r f tys
def tabH {γ : Type} (g0 : Nat) (l : List (FuncId × Sig)) : Hd γ := fun g f tys =>
  match pickS g0 l f tys with
  | some s => some ⟨s.res, s.bump, g, true, s.tc⟩
  | none => none
def sigChk (C : Cfg) (l : List (FuncId × Sig)) (fn : Func) (s : Sig) : Bool :=
  match funT C (tabH C.g0 l) 64 fn () s.args with
  | some r => s.res.free && subT C.g0 r.ty s.res && decide (r.bump ≤ s.bump) && r.tc.all fun x => s.tc.contains x
  | none => false
def tabChk (C : Cfg) : List (FuncId × Func × Sig) → List (FuncId × Sig) → Bool
  | [], _ => true
  | (f, fn, s) :: r, acc => sigChk C acc fn s && tabChk C r ((f, s) :: acc)
def tabOf : List (FuncId × Func × Sig) → List (FuncId × Sig) → List (FuncId × Sig)
  | [], acc => acc
  | (f, _, s) :: r, acc => tabOf r ((f, s) :: acc)
section
variable {γ : Type} [DecidableEq γ] {P : Program} {E : Env} {C : Cfg} {GP : γ → St → World → Prop} {H : Hd γ}
theorem tyOf_ok {S : St} {j : Nat} {l : List Ty} {t : Ty} {vs : List Value} (h : tyOf l = some t) (hv : ArgsOk E S j l vs) :
    VT E S j #[] t (if h : vs.toArray.size = 1 then vs.toArray[0] else .tuple vs.toArray) := by
  obtain ⟨hlen, hv⟩ := hv
  by_cases h1 : ∃ x, l = [x]
  · obtain ⟨x, rfl⟩ := h1
    cases h
    obtain ⟨v, rfl⟩ : ∃ v, vs = [v] := by
      match vs, hlen with
      | [v], _ => exact ⟨v, rfl⟩
    rw [dif_pos (by simp)]
    exact hv 0 t v rfl rfl
  · have hne : ¬ vs.toArray.size = 1 := fun e => h1 (by
      have : l.length = 1 := by simp at e; omega
      exact List.length_eq_one_iff.1 this)
    rw [dif_neg hne]
    have h' : (l.mapM Ty.c?).map .tup = some t := by
      unfold tyOf at h
      split at h
      · exact absurd ⟨_, rfl⟩ h1
      · exact h
    simp only [Option.map_eq_some_iff] at h'
    obtain ⟨bs, hbs, rfl⟩ := h'
    refine ⟨vs.toArray, rfl, ?_⟩
    clear h h1 hne
    induction l generalizing vs bs with
    | nil =>
      simp at hbs; subst hbs
      have : vs = [] := List.eq_nil_of_length_eq_zero (by simpa using hlen)
      subst this
      exact ⟨rfl, fun i b v hb => by simp at hb⟩
    | cons x l ih =>
      cases vs with
      | nil => simp at hlen
      | cons v vs =>
        simp only [List.mapM_cons, Option.bind_eq_bind, Option.pure_def, Option.bind_eq_some_iff, Option.some.injEq] at hbs
        obtain ⟨b, hb, m, hm, rfl⟩ := hbs
        obtain ⟨i1, i2⟩ := ih (vs := vs) (by simpa using hlen) (fun i ty v' e1 e2 => hv (i + 1) ty v' (by simpa using e1) (by simpa using e2)) m hm
        refine ⟨by simpa using i1, fun i b' v' e1 e2 => ?_⟩
        cases i with
        | zero => simp at e1 e2; subst e1 e2; exact c?_ok hb (hv 0 x v rfl rfl)
        | succ i => exact i2 i b' v' (by simpa using e1) (by simpa using e2)
theorem funT_ok (hm : P.follows .mixedOrders = true) (hC : CfgOk P E C) (hG : GPs E GP) (hH : HOk P E GP H) {loops : Nat} {fn : Func} {f : FuncId} {g : γ} {tys : List Ty} {r : Res γ} (hf : P.funcs[f]? = some fn) (hname : (fn.name == "runtime.NumGoroutine") = false)
    (h : funT C H loops fn g tys = some r) : Callable P f ∧ r.ty.free = true ∧ (r.same = true → r.g = g) ∧ ∀ S j w args, Inv E S j w → GP g S w → j + r.bump ≤ E.J → ArgsOk E S j tys args →
    Calls P f args.toArray w fun e w' => ∃ v, e = .returned v ∧ Post E GP #[] r S j w v w' := by
  unfold funT at h
  split at h
  case h_1 => cases h
  rename_i c hb
  refine ⟨⟨fn, c, hf, hname, hb⟩, ?_⟩
  split at h
  case isFalse => cases h
  rename_i hfree
  simp only [Bool.and_eq_true, decide_eq_true_eq] at hfree
  obtain ⟨hfree, hnt⟩ := hfree
  split at h
  case h_1 => cases h
  rename_i o ho
  obtain ⟨rs, hrs, t, ht, htf, rfl, hex⟩ : ∃ rs : AS γ, ((o.norm = none ∧ o.ret = some rs) ∨ ∃ s r', o.norm = some s ∧ retS C fn.results.toList s = some r' ∧ joinO C.g0 o.ret (some r') = some (some rs)) ∧ ∃ t, tyOf rs.tmps = some t ∧ t.free = true ∧ r = ⟨t, max o.hi rs.bump, rs.g, decide (rs.g = g), rs.tc⟩ ∧ o.exits = [] := by
    split at h
    · rename_i hex hn
      split at h
      case h_2 => cases h
      rename_i rs hr
      simp only [Option.bind_eq_some_iff] at h
      obtain ⟨t, ht, h⟩ := h
      split at h
      · rename_i htf; cases h; exact ⟨rs, .inl ⟨hn, hr⟩, t, ht, htf, rfl, hex⟩
      · cases h
    · rename_i s hex hn
      split at h
      case h_2 => cases h
      rename_i r' hr'
      split at h
      case h_2 => cases h
      rename_i rs hj
      simp only [Option.bind_eq_some_iff] at h
      obtain ⟨t, ht, h⟩ := h
      split at h
      · rename_i htf; cases h; exact ⟨rs, .inr ⟨s, r', hn, hr', hj⟩, t, ht, htf, rfl, hex⟩
      · cases h
    · cases h
  refine ⟨htf, fun hd => by simpa using hd, fun S j w args hI hg hj hargs => ?_⟩
  refine calls_of_wp hf hb ?_
  have hsat : Sat E GP S j w (⟨tys ++ List.replicate (fn.ntmps - tys.length) .any, 0, g, []⟩ : AS γ) { tmps := args.toArray ++ Array.replicate (fn.ntmps - args.toArray.size) undef, defers := [] } w := by
    refine ⟨rfl, by simp [hargs.1], S, j, Stp.refl _ _ _ _, Nat.le_refl _, Nat.le_refl _, hI, hg, fun t => ?_⟩
    show VT E S j _ ((tys ++ List.replicate (fn.ntmps - tys.length) Ty.any).getD t Ty.any) _
    rw [List.getD_eq_getElem?_getD]
    by_cases h' : t < tys.length
    · rw [List.getElem?_append_left h']
      have ht' : t < args.length := by rw [hargs.1]; exact h'
      have := hargs.2 t tys[t] args[t] (List.getElem?_eq_getElem h') (List.getElem?_eq_getElem ht')
      rw [List.getElem?_eq_getElem h']
      have hval : (args.toArray ++ Array.replicate (fn.ntmps - args.toArray.size) undef).getD t undef = args[t] := by
        rw [Array.getD_eq_getD_getElem?, Array.getElem?_append_left (by simpa using ht')]
        simp [ht']
      rw [hval]
      exact this.rho (List.all_eq_true.1 hfree _ (List.getElem_mem h'))
    · rw [List.getElem?_append_right (by omega)]
      have : ((List.replicate (fn.ntmps - tys.length) Ty.any)[t - tys.length]?).getD Ty.any = Ty.any := by
        by_cases h2 : t - tys.length < fn.ntmps - tys.length <;> simp [h2]
      rw [this]; exact trivial
  have hhi : j + o.hi ≤ E.J := Nat.le_trans (Nat.add_le_add_left (Nat.le_max_left _ _) j) hj
  refine wp_mono (chk_ok hm hC hG hH c _ o ho hhi _ _ hsat) fun e a w' hq => ?_
  have fin : RSat P E GP fn.results.toList S j w rs a w' → a.defers = [] ∧ ∃ v, (results fn a.tmps).run P w' = .ok v w' ∧ ∃ v', Ending.returned v = .returned v' ∧ Post E GP #[] ⟨t, max o.hi rs.bump, rs.g, decide (rs.g = g), rs.tc⟩ S j w v' w' := by
    rintro ⟨h1, S', j', k1, k2, k3, k4, k5, vs, k6, k7⟩
    refine ⟨h1, _, ?_, _, rfl, S', j', k1, k2, Nat.le_trans k3 (Nat.add_le_add_left (Nat.le_max_right _ _) j), k4, k5, tyOf_ok ht k7⟩
    unfold results
    rw [Array.mapM_eq_mapM_toList]
    simp only [Sem.run_bind, map_eq_pure_bind]
    erw [k6]
    rfl
  cases e with
  | normal =>
    obtain ⟨s, hs, hsat'⟩ := hq
    rcases hrs with ⟨hn, _⟩ | ⟨s', r', hn, hr', hj'⟩
    · rw [hn] at hs; cases hs
    · rw [hn] at hs; cases hs
      obtain ⟨x, hx, hxr⟩ := (joinO_ok (R := fun s => RSat P E GP fn.results.toList S j w s a w') (fun x y z hz => joinR_ok hC hz) hj').2 ⟨r', rfl, retS_ok hC hr' hsat'⟩
      cases hx
      exact fin hxr
  | ret =>
    rcases hrs with ⟨hn, hr⟩ | ⟨s', r', hn, hr', hj'⟩
    · obtain ⟨x, hx, hxr⟩ := hq
      rw [hr] at hx; cases hx
      exact fin hxr
    · obtain ⟨x, hx, hxr⟩ := (joinO_ok (R := fun s => RSat P E GP fn.results.toList S j w s a w') (fun x y z hz => joinR_ok hC hz) hj').1 hq
      cases hx
      exact fin hxr
  | exit id =>
    obtain ⟨s, hs, _⟩ := hq
    rw [hex] at hs; cases hs
  | goto l => exact hq.elim
  | panic ch => exact hq.elim
  | outgrown => exact hq.elim
theorem subTs_ok (hC : CfgOk P E C) {S : St} {j : Nat} : ∀ {l m : List Ty} {vs : List Value}, subTs C.g0 l m = true → ArgsOk E S j l vs → ArgsOk E S j m vs
  | [], [], vs, _, h => h
  | a :: l, b :: m, [], h, hv => by have := hv.1; simp at this
  | a :: l, b :: m, v :: vs, h, hv => by
    simp only [subTs, Bool.and_eq_true] at h
    obtain ⟨i1, i2⟩ := subTs_ok hC h.2 (vs := vs) ⟨by simpa using hv.1, fun i ty v' e1 e2 => hv.2 (i + 1) ty v' (by simpa using e1) (by simpa using e2)⟩
    refine ⟨by simpa using i1, fun i ty v' e1 e2 => ?_⟩
    cases i with
    | zero => simp at e1 e2; subst e1 e2; exact subT_ok hC h.1 (hv.2 0 a v rfl rfl)
    | succ i => exact i2 i ty v' (by simpa using e1) (by simpa using e2)
  | [], _ :: _, _, h, _ => by simp [subTs] at h
  | _ :: _, [], _, h, _ => by simp [subTs] at h
theorem assoc_mem {α : Type} : ∀ {l : List (Nat × α)} {i : Nat} {x : α}, assoc l i = some x → (i, x) ∈ l
  | [], _, _, h => by cases h
  | (n, y) :: r, i, x, h => by
    simp only [assoc] at h
    split at h
    · rename_i e; subst e; cases h; exact List.mem_cons_self
    · exact List.mem_cons_of_mem _ (assoc_mem h)
theorem pickS_mem {g0 : Nat} : ∀ {l : List (FuncId × Sig)} {f : FuncId} {tys : List Ty} {s : Sig}, pickS g0 l f tys = some s → (f, s) ∈ l ∧ subTs g0 tys s.args = true
  | [], _, _, _, h => by cases h
  | (n, y) :: r, f, tys, s, h => by
    simp only [pickS] at h
    split at h
    · rename_i e
      obtain ⟨rfl, e⟩ := e
      cases h
      exact ⟨List.mem_cons_self, e⟩
    · obtain ⟨h1, h2⟩ := pickS_mem h
      exact ⟨List.mem_cons_of_mem _ h1, h2⟩
end
section
variable {γ : Type} {P : Program} {E : Env} {C : Cfg} {GP : γ → St → World → Prop} {H : Hd γ}
theorem tabH_ok (hC : CfgOk P E C) (hG : GPok E GP) {l : List (FuncId × Sig)} (hl : ∀ f s, (f, s) ∈ l → SigOk P E f s) : HOk P E GP (tabH C.g0 l) := by
  intro g f tys r h
  unfold tabH at h
  split at h
  case h_2 => cases h
  rename_i s hs
  cases h
  obtain ⟨hmem, hsub⟩ := pickS_mem hs
  obtain ⟨h1, h2, h3⟩ := hl f s hmem
  refine ⟨h1, h2, fun _ => rfl, fun S j w args hI hg hj hargs => ?_⟩
  refine Calls.mono (h3 S j w args hI hj (subTs_ok hC hsub hargs)) ?_
  rintro e w' ⟨v, rfl, S', j', k1, k2, k3, k4, k5⟩
  exact ⟨v, rfl, S', j', k1, k2, k3, k4, hG.step _ _ _ _ _ _ k1 hg, k5⟩
theorem sigChk_ok (hm : P.follows .mixedOrders = true) (hC : CfgOk P E C) {l : List (FuncId × Sig)} (hl : ∀ f s, (f, s) ∈ l → SigOk P E f s) {f : FuncId} {fn : Func} {s : Sig} (hf : P.funcs[f]? = some fn) (hname : (fn.name == "runtime.NumGoroutine") = false)
    (h : sigChk C l fn s = true) : SigOk P E f s := by
  unfold sigChk at h
  split at h
  case h_2 => cases h
  rename_i r hr
  simp only [Bool.and_eq_true, decide_eq_true_eq, List.all_eq_true] at h
  obtain ⟨⟨⟨h1, h2⟩, h3⟩, h4⟩ := h
  have hG : GPok E (fun (_ : Unit) _ _ => True) := ⟨fun _ _ _ _ _ _ _ _ => trivial⟩
  have hGs : GPs E (fun (_ : Unit) _ _ => True) := ⟨fun _ _ _ _ _ _ _ _ => trivial⟩
  obtain ⟨k1, k2, k3, k4⟩ := funT_ok hm hC hGs (tabH_ok hC hG hl) hf hname hr
  refine ⟨k1, h1, fun S j w args hI hj hargs => ?_⟩
  refine Calls.mono (k4 S j w args hI trivial (by omega) hargs) ?_
  rintro e w' ⟨v, rfl, S', j', q1, q2, q3, q4, q5, q6⟩
  exact ⟨v, rfl, S', j', q1.more (fun x hx => by simpa using h4 x hx), q2, by omega, q4, subT_ok hC h2 q6⟩
theorem tabChk_ok (hm : P.follows .mixedOrders = true) (hC : CfgOk P E C) : ∀ {r : List (FuncId × Func × Sig)} {acc : List (FuncId × Sig)}, tabChk C r acc = true → (∀ f s, (f, s) ∈ acc → SigOk P E f s) →
    (∀ f fn s, (f, fn, s) ∈ r → P.funcs[f]? = some fn ∧ (fn.name == "runtime.NumGoroutine") = false) → ∀ f s, (f, s) ∈ tabOf r acc → SigOk P E f s
  | [], acc, _, h, _ => h
  | (f, fn, s) :: r, acc, h, hacc, hfs => by
    simp only [tabChk, Bool.and_eq_true] at h
    obtain ⟨e1, e2⟩ := hfs f fn s List.mem_cons_self
    have hs := sigChk_ok hm hC hacc e1 e2 h.1
    refine tabChk_ok hm hC (r := r) (acc := (f, s) :: acc) h.2 (fun f' s' hm' => ?_) (fun f' fn' s' hm' => hfs f' fn' s' (List.mem_cons_of_mem _ hm'))
    cases hm' with
    | head => exact hs
    | tail _ hm' => exact hacc f' s' hm'
end
end Ck
end Go.Proofs.YtnlaedfnifimkaaGreat
namespace Go.Proofs.YtnlaedfnifimkaaGreat
open Go.RowKit
namespace Ck
abbrev I64 : Bt := .int .i64 (-9223372036854775808) 9223372036854775807
abbrev U8 : Bt := .int .u8 0 255
abbrev U16 : Bt := .int .u16 0 65535
abbrev TI64 : Ty := .one I64
abbrev TU8 : Ty := .one U8
abbrev TU16 : Ty := .one U16
abbrev TB : Ty := .one (.bool none)
abbrev TC : Ty := .one (.ptr 0 0 0 false)
def zc : Option Value → List Value
  | some v => v.cells.toList
  | none => []
noncomputable def ti3 : TI := ⟨Tryz.t3.desc, 1, 8, (zc Tryz.t3.zero)⟩
noncomputable def ti4 : TI := ⟨Tryz.t4.desc, 1, 1, (zc Tryz.t4.zero)⟩
noncomputable def ti5 : TI := ⟨Tryz.t5.desc, 1, 1, (zc Tryz.t5.zero)⟩
noncomputable def ti9 : TI := ⟨Tryz.t9.desc, 1, 16, (zc Tryz.t9.zero)⟩
noncomputable def ti25 : TI := ⟨Tryz.t25.desc, 1, 2, (zc Tryz.t25.zero)⟩
noncomputable def ti56 : TI := ⟨Tryz.t55.desc, 30, 36, (zc Tryz.t56.zero)⟩
noncomputable def ti75 : TI := ⟨Tryz.t75.desc, 1, 8, (zc Tryz.t75.zero)⟩
noncomputable def ti78 : TI := ⟨Tryz.t78.desc, 65536, 65536, []⟩
noncomputable def ti79 : TI := ⟨Tryz.t79.desc, 8, 8, (zc Tryz.t79.zero)⟩
noncomputable def ti81 : TI := ⟨Tryz.t80.desc, 8, 8, (zc Tryz.t81.zero)⟩
noncomputable def ti82 : TI := ⟨Tryz.t82.desc, 1, 8, (zc Tryz.t82.zero)⟩
noncomputable def ti83 : TI := ⟨Tryz.t83.desc, 1, 24, (zc Tryz.t83.zero)⟩
noncomputable def ti84 : TI := ⟨Tryz.t84.desc, 1, 24, (zc Tryz.t84.zero)⟩
noncomputable def ti85 : TI := ⟨Tryz.t85.desc, 12288, 12288, []⟩
noncomputable def ti87 : TI := ⟨Tryz.t86.desc, 77842, 77912, []⟩
noncomputable def ti88 : TI := ⟨Tryz.t88.desc, 1, 8, (zc Tryz.t88.zero)⟩
noncomputable def ti112 : TI := ⟨Tryz.t112.desc, 1, 24, (zc Tryz.t112.zero)⟩
noncomputable def ti113 : TI := ⟨Tryz.t3.desc, 1, 8, (zc Tryz.t113.zero)⟩
noncomputable def ti115 : TI := ⟨Tryz.t114.desc, 50, 176, (zc Tryz.t115.zero)⟩
noncomputable def ti157 : TI := ⟨Tryz.t156.desc, 1, 16, (zc Tryz.t157.zero)⟩
noncomputable def ti227 : TI := ⟨Tryz.t3.desc, 1, 8, (zc Tryz.t227.zero)⟩
noncomputable def ti228 : TI := ⟨Tryz.t3.desc, 1, 8, (zc Tryz.t228.zero)⟩
noncomputable def ti230 : TI := ⟨Tryz.t229.desc, 4, 32, (zc Tryz.t230.zero)⟩
noncomputable def ti255 : TI := ⟨Tryz.t255.desc, 1, 8, (zc Tryz.t255.zero)⟩
noncomputable def ti293 : TI := ⟨Tryz.t293.desc, 1, 8, (zc Tryz.t293.zero)⟩
noncomputable def ti322 : TI := ⟨Tryz.t322.desc, 1, 2, (zc Tryz.t322.zero)⟩
noncomputable def ti323 : TI := ⟨Tryz.t323.desc, 1, 1, (zc Tryz.t323.zero)⟩
noncomputable def ti325 : TI := ⟨Tryz.t324.desc, 3, 3, (zc Tryz.t325.zero)⟩
noncomputable def ti335 : TI := ⟨Tryz.t335.desc, 1, 8, (zc Tryz.t335.zero)⟩
noncomputable def ti340 : TI := ⟨Tryz.t340.desc, 4, 4, (zc Tryz.t340.zero)⟩
noncomputable def ti354 : TI := ⟨Tryz.t353.desc, 2, 2, (zc Tryz.t354.zero)⟩
noncomputable def ti359 : TI := ⟨Tryz.t359.desc, 1, 24, (zc Tryz.t359.zero)⟩
noncomputable def ti360 : TI := ⟨Tryz.t360.desc, 2, 2, (zc Tryz.t360.zero)⟩
noncomputable def ti417 : TI := ⟨Tryz.t417.desc, 1, 8, (zc Tryz.t417.zero)⟩
noncomputable def ti419 : TI := ⟨Tryz.t418.desc, 4, 16, (zc Tryz.t419.zero)⟩
noncomputable def ti420 : TI := ⟨Tryz.t420.desc, 8, 64, (zc Tryz.t420.zero)⟩
theorem ti3_ok : TIok Tryz.prog 3 ti3 := ⟨Tryz.t3, by kernel_rfl, by kernel_rfl, by kernel_rfl, by kernel_rfl, fun _ => ⟨_, rfl, rfl⟩⟩
theorem ti4_ok : TIok Tryz.prog 4 ti4 := ⟨Tryz.t4, by kernel_rfl, by kernel_rfl, by kernel_rfl, by kernel_rfl, fun _ => ⟨_, rfl, rfl⟩⟩
theorem ti5_ok : TIok Tryz.prog 5 ti5 := ⟨Tryz.t5, by kernel_rfl, by kernel_rfl, by kernel_rfl, by kernel_rfl, fun _ => ⟨_, rfl, rfl⟩⟩
theorem ti9_ok : TIok Tryz.prog 9 ti9 := ⟨Tryz.t9, by kernel_rfl, by kernel_rfl, by kernel_rfl, by kernel_rfl, fun _ => ⟨_, rfl, rfl⟩⟩
theorem ti25_ok : TIok Tryz.prog 25 ti25 := ⟨Tryz.t25, by kernel_rfl, by kernel_rfl, by kernel_rfl, by kernel_rfl, fun _ => ⟨_, rfl, rfl⟩⟩
theorem ti56_ok : TIok Tryz.prog 56 ti56 := ⟨Tryz.t56, by kernel_rfl, by kernel_rfl, by kernel_rfl, by kernel_rfl, fun _ => ⟨_, rfl, rfl⟩⟩
theorem ti75_ok : TIok Tryz.prog 75 ti75 := ⟨Tryz.t75, by kernel_rfl, by kernel_rfl, by kernel_rfl, by kernel_rfl, fun _ => ⟨_, rfl, rfl⟩⟩
theorem ti78_ok : TIok Tryz.prog 78 ti78 := ⟨Tryz.t78, by kernel_rfl, by kernel_rfl, by kernel_rfl, by kernel_rfl, fun h => absurd rfl h⟩
theorem ti79_ok : TIok Tryz.prog 79 ti79 := ⟨Tryz.t79, by kernel_rfl, by kernel_rfl, by kernel_rfl, by kernel_rfl, fun _ => ⟨_, rfl, rfl⟩⟩
theorem ti81_ok : TIok Tryz.prog 81 ti81 := ⟨Tryz.t81, by kernel_rfl, by kernel_rfl, by kernel_rfl, by kernel_rfl, fun _ => ⟨_, rfl, rfl⟩⟩
theorem ti82_ok : TIok Tryz.prog 82 ti82 := ⟨Tryz.t82, by kernel_rfl, by kernel_rfl, by kernel_rfl, by kernel_rfl, fun _ => ⟨_, rfl, rfl⟩⟩
theorem ti83_ok : TIok Tryz.prog 83 ti83 := ⟨Tryz.t83, by kernel_rfl, by kernel_rfl, by kernel_rfl, by kernel_rfl, fun _ => ⟨_, rfl, rfl⟩⟩
theorem ti84_ok : TIok Tryz.prog 84 ti84 := ⟨Tryz.t84, by kernel_rfl, by kernel_rfl, by kernel_rfl, by kernel_rfl, fun _ => ⟨_, rfl, rfl⟩⟩
theorem ti85_ok : TIok Tryz.prog 85 ti85 := ⟨Tryz.t85, by kernel_rfl, by kernel_rfl, by kernel_rfl, by kernel_rfl, fun h => absurd rfl h⟩
theorem ti87_ok : TIok Tryz.prog 87 ti87 := ⟨Tryz.t87, by kernel_rfl, by kernel_rfl, by kernel_rfl, by kernel_rfl, fun h => absurd rfl h⟩
theorem ti88_ok : TIok Tryz.prog 88 ti88 := ⟨Tryz.t88, by kernel_rfl, by kernel_rfl, by kernel_rfl, by kernel_rfl, fun _ => ⟨_, rfl, rfl⟩⟩
theorem ti112_ok : TIok Tryz.prog 112 ti112 := ⟨Tryz.t112, by kernel_rfl, by kernel_rfl, by kernel_rfl, by kernel_rfl, fun _ => ⟨_, rfl, rfl⟩⟩
theorem ti113_ok : TIok Tryz.prog 113 ti113 := ⟨Tryz.t113, by kernel_rfl, by kernel_rfl, by kernel_rfl, by kernel_rfl, fun _ => ⟨_, rfl, rfl⟩⟩
theorem ti115_ok : TIok Tryz.prog 115 ti115 := ⟨Tryz.t115, by kernel_rfl, by kernel_rfl, by kernel_rfl, by kernel_rfl, fun _ => ⟨_, rfl, rfl⟩⟩
theorem ti157_ok : TIok Tryz.prog 157 ti157 := ⟨Tryz.t157, by kernel_rfl, by kernel_rfl, by kernel_rfl, by kernel_rfl, fun _ => ⟨_, rfl, rfl⟩⟩
theorem ti227_ok : TIok Tryz.prog 227 ti227 := ⟨Tryz.t227, by kernel_rfl, by kernel_rfl, by kernel_rfl, by kernel_rfl, fun _ => ⟨_, rfl, rfl⟩⟩
theorem ti228_ok : TIok Tryz.prog 228 ti228 := ⟨Tryz.t228, by kernel_rfl, by kernel_rfl, by kernel_rfl, by kernel_rfl, fun _ => ⟨_, rfl, rfl⟩⟩
theorem ti230_ok : TIok Tryz.prog 230 ti230 := ⟨Tryz.t230, by kernel_rfl, by kernel_rfl, by kernel_rfl, by kernel_rfl, fun _ => ⟨_, rfl, rfl⟩⟩
theorem ti255_ok : TIok Tryz.prog 255 ti255 := ⟨Tryz.t255, by kernel_rfl, by kernel_rfl, by kernel_rfl, by kernel_rfl, fun _ => ⟨_, rfl, rfl⟩⟩
theorem ti293_ok : TIok Tryz.prog 293 ti293 := ⟨Tryz.t293, by kernel_rfl, by kernel_rfl, by kernel_rfl, by kernel_rfl, fun _ => ⟨_, rfl, rfl⟩⟩
theorem ti322_ok : TIok Tryz.prog 322 ti322 := ⟨Tryz.t322, by kernel_rfl, by kernel_rfl, by kernel_rfl, by kernel_rfl, fun _ => ⟨_, rfl, rfl⟩⟩
theorem ti323_ok : TIok Tryz.prog 323 ti323 := ⟨Tryz.t323, by kernel_rfl, by kernel_rfl, by kernel_rfl, by kernel_rfl, fun _ => ⟨_, rfl, rfl⟩⟩
theorem ti325_ok : TIok Tryz.prog 325 ti325 := ⟨Tryz.t325, by kernel_rfl, by kernel_rfl, by kernel_rfl, by kernel_rfl, fun _ => ⟨_, rfl, rfl⟩⟩
theorem ti335_ok : TIok Tryz.prog 335 ti335 := ⟨Tryz.t335, by kernel_rfl, by kernel_rfl, by kernel_rfl, by kernel_rfl, fun _ => ⟨_, rfl, rfl⟩⟩
theorem ti340_ok : TIok Tryz.prog 340 ti340 := ⟨Tryz.t340, by kernel_rfl, by kernel_rfl, by kernel_rfl, by kernel_rfl, fun _ => ⟨_, rfl, rfl⟩⟩
theorem ti354_ok : TIok Tryz.prog 354 ti354 := ⟨Tryz.t354, by kernel_rfl, by kernel_rfl, by kernel_rfl, by kernel_rfl, fun _ => ⟨_, rfl, rfl⟩⟩
theorem ti359_ok : TIok Tryz.prog 359 ti359 := ⟨Tryz.t359, by kernel_rfl, by kernel_rfl, by kernel_rfl, by kernel_rfl, fun _ => ⟨_, rfl, rfl⟩⟩
theorem ti360_ok : TIok Tryz.prog 360 ti360 := ⟨Tryz.t360, by kernel_rfl, by kernel_rfl, by kernel_rfl, by kernel_rfl, fun _ => ⟨_, rfl, rfl⟩⟩
theorem ti417_ok : TIok Tryz.prog 417 ti417 := ⟨Tryz.t417, by kernel_rfl, by kernel_rfl, by kernel_rfl, by kernel_rfl, fun _ => ⟨_, rfl, rfl⟩⟩
theorem ti419_ok : TIok Tryz.prog 419 ti419 := ⟨Tryz.t419, by kernel_rfl, by kernel_rfl, by kernel_rfl, by kernel_rfl, fun _ => ⟨_, rfl, rfl⟩⟩
theorem ti420_ok : TIok Tryz.prog 420 ti420 := ⟨Tryz.t420, by kernel_rfl, by kernel_rfl, by kernel_rfl, by kernel_rfl, fun _ => ⟨_, rfl, rfl⟩⟩
noncomputable def tiL : List (TypeId × TI) := [(3, ti3), (4, ti4), (5, ti5), (9, ti9), (25, ti25), (56, ti56), (75, ti75), (78, ti78), (79, ti79), (81, ti81), (82, ti82), (83, ti83), (84, ti84), (85, ti85), (87, ti87), (88, ti88), (112, ti112), (113, ti113), (115, ti115), (157, ti157), (227, ti227), (228, ti228), (230, ti230), (255, ti255), (293, ti293), (322, ti322), (323, ti323), (325, ti325), (335, ti335), (340, ti340), (354, ti354), (359, ti359), (360, ti360), (417, ti417), (419, ti419), (420, ti420)]
noncomputable def cfg : Cfg := { K := [⟨115, 50, [(19, .int .u8 0 255), (5, .int .u16 0 65535), (4, .bool none), (2, .int .u8 0 255), (1, .slice 2 (some 0) none), (1, .int .i64 0 9223372036854775807), (1, .int .u8 0 255), (2, .int .i64 (-9223372036854775808) 9223372036854775807), (1, .bool none), (2, .int .u8 0 255), (1, .int .u16 0 65535), (1, .int .u8 0 255), (2, .bool none), (1, .int .i64 (-9223372036854775808) 9223372036854775807), (1, .bool none), (1, .int .i64 (-9223372036854775808) 9223372036854775807), (1, .int .u16 0 65535), (3, .int .i64 (-9223372036854775808) 9223372036854775807), (1, .bool none)]⟩, ⟨87, 77842, [(65544, .int .u8 0 255), (2, .bool none), (1, .bool (some false)), (1, .opq 0), (1, .int .i64 (-9223372036854775808) 9223372036854775807), (1, .int .u8 0 255), (2, .bool none), (1, .slice 3 (some 0) none), (1, .slice 4 none none), (12288, .int .u8 0 255)]⟩, ⟨230, 4, [(4, .int .i64 (-9223372036854775808) 9223372036854775807)]⟩, ⟨419, 4, [(1, .int .u64 0 18446744073709551615), (1, .bool none), (1, .int .u16 0 65535), (1, .int .u8 0 255)]⟩, ⟨82, 1, [(1, .opq 1)]⟩, ⟨325, 3, [(3, .bool none)]⟩, ⟨354, 2, [(1, .int .u8 0 255), (1, .bool none)]⟩], ti := tiL, kinds := [(115, 0), (87, 1), (230, 2), (419, 3), (82, 4), (325, 5), (354, 6)], watch := [(0, 30), (0, 31), (0, 35)], g0 := 1000, meths := [(75, "Hold", 377), (75, "Read", 34), (75, "Write", 128), (75, "In", 378), (75, "Out", 380), (75, "Int", 379)] }
theorem tiL_ok : ∀ p ∈ tiL, TIok Tryz.prog p.1 p.2 := by
  unfold tiL
  simp only [List.forall_mem_cons]
  exact ⟨ti3_ok, ti4_ok, ti5_ok, ti9_ok, ti25_ok, ti56_ok, ti75_ok, ti78_ok, ti79_ok, ti81_ok, ti82_ok, ti83_ok, ti84_ok, ti85_ok, ti87_ok, ti88_ok, ti112_ok, ti113_ok, ti115_ok, ti157_ok, ti227_ok, ti228_ok, ti230_ok, ti255_ok, ti293_ok, ti322_ok, ti323_ok, ti325_ok, ti335_ok, ti340_ok, ti354_ok, ti359_ok, ti360_ok, ti417_ok, ti419_ok, ti420_ok, fun _ h => by cases h⟩
noncomputable def mkE (T : Int) (L G J : Nat) : Env :=
  { K := cfg.K, op := fun n v => match n with
      | 0 => v = .int .u64 T
      | 1 => ∃ x, v = .int .u64 x ∧ 0 ≤ x ∧ x ≤ T
      | _ => False
    L := L, G := G, J := J, watch := cfg.watch, mine := fun _ => False }
set_option maxRecDepth 100000 in
theorem cfg_ok {T : Int} {L G J : Nat} (h0 : 0 ≤ T) (hG : 1000 ≤ G) (hJ : G + J ≤ 1000000000) : CfgOk Tryz.prog (mkE T L G J) cfg := by
  refine ⟨rfl, rfl, hG, hJ, fun t i h => tiL_ok (t, i) (assoc_mem h), fun t k h => ?_, fun n v h => ?_, fun v h => ?_, ⟨0, rfl, Int.le_refl _, h0⟩, fun t m f h a w => ?_⟩
  · have hm := assoc_mem h
    have : ∀ p ∈ cfg.kinds, (mkE T L G J).elem p.2 = p.1 ∧ 0 < (mkE T L G J).per p.2 ∧ ∃ i, assoc cfg.ti p.1 = some i ∧ i.size = (mkE T L G J).per p.2 := by
      simp only [cfg, List.forall_mem_cons]
      exact ⟨⟨rfl, (by show 0 < 50; decide), _, rfl, rfl⟩, ⟨rfl, (by show 0 < 77842; decide), _, rfl, rfl⟩, ⟨rfl, (by show 0 < 4; decide), _, rfl, rfl⟩, ⟨rfl, (by show 0 < 4; decide), _, rfl, rfl⟩, ⟨rfl, (by show 0 < 1; decide), _, rfl, rfl⟩, ⟨rfl, (by show 0 < 3; decide), _, rfl, rfl⟩, ⟨rfl, (by show 0 < 2; decide), _, rfl, rfl⟩, fun _ h => by cases h⟩
    exact this (t, k) hm
  · match n, h with
    | 0, h => rw [show v = .int .u64 T from h]; rfl
    | 1, ⟨x, h, _⟩ => rw [h]; rfl
  · exact ⟨T, h, h0, Int.le_refl _⟩
  · have : ∀ p ∈ cfg.meths, (method (Tryz.prog.types.size + Made.depth) p.1 (.pointer (some a)) p.2.1).run Tryz.prog w = .ok (p.2.2, .pointer (some a)) w ∧ (nilAhead (Tryz.prog.types.size + Made.depth) p.1 (.pointer (some a)) p.2.1).run Tryz.prog w = .ok (some false) w := by
      simp only [cfg, List.forall_mem_cons]
      exact ⟨⟨by kernel_rfl, by kernel_rfl⟩, ⟨by kernel_rfl, by kernel_rfl⟩, ⟨by kernel_rfl, by kernel_rfl⟩, ⟨by kernel_rfl, by kernel_rfl⟩, ⟨by kernel_rfl, by kernel_rfl⟩, ⟨by kernel_rfl, by kernel_rfl⟩, fun _ h => by cases h⟩
    exact this (t, m, f) h
theorem prog_mixed : Tryz.prog.follows .mixedOrders = true := by kernel_rfl
theorem stp_below {E : Env} {S : St} {j : Nat} {w w' : World} (hI : Inv E S j w) (h : Below w.heap.size w w') : Inv E S j w' ∧ Stp E S S w w' [] := by
  refine ⟨fun b k n hb => ?_, h.os, h.tape, h.output, h.size, fun _ _ h => h, fun _ _ => rfl, fun b hb _ _ => h.block b hb, fun b k n o hb _ _ => ?_⟩
  · obtain ⟨h1, h2, cs, h3, h4⟩ := hI b k n hb
    exact ⟨h1, h2, cs, (h.block b (hI.lt hb)).trans h3, h4⟩
  · exact h.cell (p := ⟨b, o, none⟩) (hI.lt hb)
end Ck
end Go.Proofs.YtnlaedfnifimkaaGreat
namespace Go.Proofs.YtnlaedfnifimkaaGreat
open Go.RowKit
def kk (j : Nat) : Int := 128 / 2 ^ j
def nn (b : Int) (j : Nat) : Int := b % 2 ^ (8 - j)
def bitH (b : Int) (j : Nat) : Bool := decide (kk j ≤ nn b j)
theorem nat8 {j : Nat} (h : j < 8) : j = 0 ∨ j = 1 ∨ j = 2 ∨ j = 3 ∨ j = 4 ∨ j = 5 ∨ j = 6 ∨ j = 7 := by omega
def byteN (f : Nat → Bool) : Nat → Int
  | 0 => 0
  | i + 1 => 2 * byteN f i + (if f i then 1 else 0)
theorem byteN_bd (f : Nat → Bool) (i : Nat) : 0 ≤ byteN f i ∧ byteN f i < 2 ^ i := by
  induction i with
  | zero => simp [byteN]
  | succ i ih =>
    have e : (2 : Int) ^ (i + 1) = 2 * 2 ^ i := by rw [Int.pow_succ]; omega
    simp only [byteN, e]
    split <;> omega
theorem byteN_le (f : Nat → Bool) {i : Nat} (h : i ≤ 8) : 0 ≤ byteN f i ∧ byteN f i ≤ 255 := by
  have := byteN_bd f i
  have : (2 : Int) ^ i ≤ 2 ^ 8 := by
    rcases (show i = 8 ∨ i < 8 by omega) with rfl | h
    · exact Int.le_refl _
    · rcases nat8 h with rfl | rfl | rfl | rfl | rfl | rfl | rfl | rfl <;> decide
  omega
def byteS (f : Nat → Bool) : Int := byteN f 8
theorem byteS_bd (f : Nat → Bool) : 0 ≤ byteS f ∧ byteS f ≤ 255 := byteN_le f (Nat.le_refl 8)
def sel8 (a b c d e f g h : Bool) : Nat → Bool
  | 0 => a | 1 => b | 2 => c | 3 => d | 4 => e | 5 => f | 6 => g | 7 => h | _ => false
def flagsS (a b c d e f g h : Bool) : Int := byteS (sel8 a b c d e f g h)
theorem flagsS_bd (a b c d e f g h : Bool) : 0 ≤ flagsS a b c d e f g h ∧ flagsS a b c d e f g h ≤ 255 := byteS_bd _
def ofR (b : Int) : Int := flagsS (bitH b 0) (b == 0) (bitH b 2) false (bitH b 4) false false false
theorem bitH_tb {n j : Nat} (h : n < 256) (hj : j < 8) : bitH (n : Nat) j = n.testBit (7 - j) := by
  have : ∀ n : Fin 256, ∀ j : Fin 8, bitH (n.val : Nat) j.val = n.val.testBit (7 - j.val) := by decide +kernel
  exact this ⟨n, h⟩ ⟨j, hj⟩
theorem tb_not {n k : Nat} (h : n < 256) (hk : k < 8) : (255 - n).testBit k = !(n.testBit k) := by
  have : ∀ n : Fin 256, ∀ k : Fin 8, (255 - n.val).testBit k.val = !(n.val.testBit k.val) := by decide +kernel
  exact this ⟨n, h⟩ ⟨k, hk⟩
theorem and_bd (a b : Nat) (ha : a < 256) : a &&& b < 256 := Nat.lt_of_le_of_lt Nat.and_le_left ha
theorem or_bd (a b : Nat) (ha : a < 256) (hb : b < 256) : a ||| b < 256 := Nat.or_lt_two_pow (n := 8) ha hb
theorem xor_bd (a b : Nat) (ha : a < 256) (hb : b < 256) : a ^^^ b < 256 := Nat.xor_lt_two_pow (n := 8) ha hb
theorem bits_bd (op : BinOp) {a b : Int} (h0 : 0 ≤ a) (h1 : a ≤ 255) (h2 : 0 ≤ b) (h3 : b ≤ 255) (ho : op = .and ∨ op = .or ∨ op = .xor ∨ op = .andNot) : 0 ≤ bits op .u8 a b ∧ bits op .u8 a b ≤ 255 := by
  obtain ⟨n, rfl⟩ := Int.eq_ofNat_of_zero_le h0
  obtain ⟨m, rfl⟩ := Int.eq_ofNat_of_zero_le h2
  have a1 := and_bd n m (by omega)
  have a2 := or_bd n m (by omega) (by omega)
  have a3 := xor_bd n m (by omega) (by omega)
  have a4 := and_bd n (255 - m) (by omega)
  rcases ho with rfl | rfl | rfl | rfl
  · rw [u8_and_nat n m (by omega) (by omega)]; omega
  · rw [u8_or_nat n m (by omega) (by omega)]; omega
  · rw [u8_xor_nat n m (by omega) (by omega)]; omega
  · rw [u8_andNot_nat n m (by omega) (by omega)]; omega
section
variable {a b : Int} (h0 : 0 ≤ a) (h1 : a ≤ 255) (h2 : 0 ≤ b) (h3 : b ≤ 255) {j : Nat} (hj : j < 8)
include h0 h1 h2 h3 hj
theorem bitH_andB : bitH (bits .and .u8 a b) j = (bitH a j && bitH b j) := by
  obtain ⟨n, rfl⟩ := Int.eq_ofNat_of_zero_le h0
  obtain ⟨m, rfl⟩ := Int.eq_ofNat_of_zero_le h2
  rw [u8_and_nat n m (by omega) (by omega), bitH_tb (and_bd n m (by omega)) hj, bitH_tb (by omega) hj, bitH_tb (by omega) hj, Nat.testBit_and]
theorem bitH_orB : bitH (bits .or .u8 a b) j = (bitH a j || bitH b j) := by
  obtain ⟨n, rfl⟩ := Int.eq_ofNat_of_zero_le h0
  obtain ⟨m, rfl⟩ := Int.eq_ofNat_of_zero_le h2
  rw [u8_or_nat n m (by omega) (by omega), bitH_tb (or_bd n m (by omega) (by omega)) hj, bitH_tb (by omega) hj, bitH_tb (by omega) hj, Nat.testBit_or]
theorem bitH_xorB : bitH (bits .xor .u8 a b) j = (bitH a j ^^ bitH b j) := by
  obtain ⟨n, rfl⟩ := Int.eq_ofNat_of_zero_le h0
  obtain ⟨m, rfl⟩ := Int.eq_ofNat_of_zero_le h2
  rw [u8_xor_nat n m (by omega) (by omega), bitH_tb (xor_bd n m (by omega) (by omega)) hj, bitH_tb (by omega) hj, bitH_tb (by omega) hj, Nat.testBit_xor]
theorem bitH_andNotB : bitH (bits .andNot .u8 a b) j = (bitH a j && !(bitH b j)) := by
  obtain ⟨n, rfl⟩ := Int.eq_ofNat_of_zero_le h0
  obtain ⟨m, rfl⟩ := Int.eq_ofNat_of_zero_le h2
  rw [u8_andNot_nat n m (by omega) (by omega), bitH_tb (and_bd n _ (by omega)) hj, bitH_tb (by omega) hj, bitH_tb (by omega) hj, Nat.testBit_and, tb_not (by omega) (by omega)]
end
theorem flagsS_bit (a b c d e f g h : Bool) {j : Nat} (hj : j < 8) : bitH (flagsS a b c d e f g h) j = sel8 a b c d e f g h j := by
  have : ∀ a b c d e f g h : Bool, ∀ j : Fin 8, bitH (flagsS a b c d e f g h) j.val = sel8 a b c d e f g h j.val := by decide +kernel
  exact this a b c d e f g h ⟨j, hj⟩
end Go.Proofs.YtnlaedfnifimkaaGreat
namespace Go.Proofs.YtnlaedfnifimkaaGreat
open Go.RowKit
def BV (x : Int) (f : Nat → Bool) : Prop := (0 ≤ x ∧ x ≤ 255) ∧ ∀ j, j < 8 → bitH x j = f j
theorem BV.or {x y : Int} {f g : Nat → Bool} (h : BV x f) (k : BV y g) : BV (bits .or .u8 x y) (fun j => f j || g j) :=
  ⟨bits_bd .or h.1.1 h.1.2 k.1.1 k.1.2 (by simp), fun j hj => by rw [bitH_orB h.1.1 h.1.2 k.1.1 k.1.2 hj, h.2 j hj, k.2 j hj]⟩
theorem BV.and {x y : Int} {f g : Nat → Bool} (h : BV x f) (k : BV y g) : BV (bits .and .u8 x y) (fun j => f j && g j) :=
  ⟨bits_bd .and h.1.1 h.1.2 k.1.1 k.1.2 (by simp), fun j hj => by rw [bitH_andB h.1.1 h.1.2 k.1.1 k.1.2 hj, h.2 j hj, k.2 j hj]⟩
theorem BV.xor {x y : Int} {f g : Nat → Bool} (h : BV x f) (k : BV y g) : BV (bits .xor .u8 x y) (fun j => f j ^^ g j) :=
  ⟨bits_bd .xor h.1.1 h.1.2 k.1.1 k.1.2 (by simp), fun j hj => by rw [bitH_xorB h.1.1 h.1.2 k.1.1 k.1.2 hj, h.2 j hj, k.2 j hj]⟩
theorem BV.andNot {x y : Int} {f g : Nat → Bool} (h : BV x f) (k : BV y g) : BV (bits .andNot .u8 x y) (fun j => f j && !(g j)) :=
  ⟨bits_bd .andNot h.1.1 h.1.2 k.1.1 k.1.2 (by simp), fun j hj => by rw [bitH_andNotB h.1.1 h.1.2 k.1.1 k.1.2 hj, h.2 j hj, k.2 j hj]⟩
theorem BV.flags (a b c d e f g h : Bool) : BV (flagsS a b c d e f g h) (sel8 a b c d e f g h) := ⟨flagsS_bd a b c d e f g h, fun _ hj => flagsS_bit a b c d e f g h hj⟩
theorem BV.congr {x : Int} {f g : Nat → Bool} (h : BV x f) (e : ∀ j, j < 8 → f j = g j) : BV x g := ⟨h.1, fun j hj => (h.2 j hj).trans (e j hj)⟩
theorem BV.k8 : BV 8 (fun j => j == 4) := ⟨by omega, by decide +kernel⟩
theorem BV.k4 : BV 4 (fun j => j == 5) := ⟨by omega, by decide +kernel⟩
theorem BV.k2 : BV 2 (fun j => j == 6) := ⟨by omega, by decide +kernel⟩
theorem BV.k1 : BV 1 (fun j => j == 7) := ⟨by omega, by decide +kernel⟩
theorem BV.k0 : BV 0 (fun _ => false) := ⟨by omega, by decide +kernel⟩
theorem BV.num (n : Int) (h : (0 ≤ n ∧ n ≤ 255)) : BV n (bitH n) := ⟨h, fun _ _ => rfl⟩
theorem BV.of {b : Int} (h0 : 0 ≤ b) (h1 : b ≤ 255) : BV (ofR b) (sel8 (bitH b 0) (b == 0) (bitH b 2) false (bitH b 4) false false false) := BV.flags _ _ _ _ _ _ _ _
end Go.Proofs.YtnlaedfnifimkaaGreat
namespace Go.Proofs.YtnlaedfnifimkaaGreat
open Go.RowKit
def toldF (a b c : Bool) : Int := flagsS false false false a false b false c
theorem BV.told (a b c : Bool) : BV (toldF a b c) (sel8 false false false a false b false c) := BV.flags _ _ _ _ _ _ _ _
end Go.Proofs.YtnlaedfnifimkaaGreat
namespace Go.Proofs.YtnlaedfnifimkaaGreat
open Go.RowKit
set_option maxHeartbeats 1000000 in
theorem flagsW_any (a b c : Bool) (w : World) :
    Calls Tryz.prog 275 #[.agg #[.bool a, .bool b, .bool c]] w fun e w' => e = .returned (.int .u8 (toldF a b c)) ∧ Below w.heap.size w w' := by
  cases a
  all_goals cases b
  all_goals cases c
  all_goals
    go_enter Tryz.func275, Tryz.ntmps275
    go_wp2
    go_ret
    exact ⟨ret_int (by decide +kernel), (Below.refl _ _).alloc (Nat.le_refl _) _⟩
end Go.Proofs.YtnlaedfnifimkaaGreat
namespace Go.Proofs.YtnlaedfnifimkaaGreat
open Go.RowKit
namespace Ck
def base1 : List (FuncId × Sig) := [(275, ⟨[.agg [.bool none, .bool none, .bool none]], TU8, 0, []⟩)]
noncomputable def tab1 : List (FuncId × Func × Sig) := [
  (131, Tryz.f131, ⟨[TC, TI64, TU16, TI64], Ty.tup [], 0, []⟩),
  (212, Tryz.f212, ⟨[TU8], Ty.one (Bt.int IntKind.i64 (Int.ofNat 0) (Int.ofNat 3)), 0, []⟩),
  (255, Tryz.f255, ⟨[TU8], Ty.one (Bt.int IntKind.i64 (Int.ofNat 0) (Int.ofNat 7)), 0, []⟩),
  (258, Tryz.f258, ⟨[Ty.one (Bt.slice 2 (some 0) none), Ty.one (Bt.slice 2 (some 0) (some 16))], Ty.one (Bt.slice 2 (some 0) none), 16, []⟩),
  (260, Tryz.f260, ⟨[TI64], Ty.agg [I64, I64, I64, I64], 0, []⟩),
  (261, Tryz.f261, ⟨[TI64, TI64], Ty.agg [I64, I64, I64, I64], 0, []⟩),
  (263, Tryz.f263, ⟨[TU8], Ty.one (Bt.int IntKind.i64 (Int.ofNat 0) (Int.ofNat 7)), 0, []⟩),
  (265, Tryz.f265, ⟨[TI64, TI64], Ty.agg [I64, I64, I64, I64], 0, []⟩),
  (267, Tryz.f267, ⟨[TI64], Ty.agg [I64, I64, I64, I64], 0, []⟩),
  (256, Tryz.f256, ⟨[Ty.one (Bt.slice 2 (some 0) none), TU8], Ty.one (Bt.slice 2 (some 0) none), 32, []⟩),
  (257, Tryz.f257, ⟨[TU8], Ty.one (Bt.int IntKind.i64 (Int.ofNat 0) (Int.ofNat 1)), 0, []⟩),
  (259, Tryz.f259, ⟨[Ty.one (Bt.slice 2 (some 0) none)], Ty.one (Bt.slice 2 (some 0) none), 16, []⟩),
  (266, Tryz.f266, ⟨[TI64, TI64], Ty.agg [I64, I64, I64, I64], 0, []⟩),
  (271, Tryz.f271, ⟨[TU8], Ty.one (Bt.int IntKind.i64 (Int.ofNat 0) (Int.ofNat 3)), 0, []⟩),
  (262, Tryz.f262, ⟨[Ty.one (Bt.slice 2 (some 0) none), TU8], Ty.one (Bt.slice 2 (some 0) none), 32, []⟩),
  (264, Tryz.f264, ⟨[Ty.one (Bt.slice 2 (some 0) none), TI64], Ty.one (Bt.slice 2 (some 0) none), 16, []⟩),
  (213, Tryz.f213, ⟨[Ty.one (Bt.slice 2 (some 0) none), TI64, TU8], Ty.one (Bt.slice 2 (some 0) none), 32, []⟩),
  (214, Tryz.f214, ⟨[Ty.one (Bt.slice 2 (some 0) none), TI64, TU8], Ty.one (Bt.slice 2 (some 0) none), 32, []⟩),
  (215, Tryz.f215, ⟨[Ty.one (Bt.slice 2 (some 0) none), TI64, TU8], Ty.one (Bt.slice 2 (some 0) none), 32, []⟩),
  (268, Tryz.f268, ⟨[Ty.one (Bt.slice 2 (some 0) none), TU8], Ty.one (Bt.slice 2 (some 0) none), 16, []⟩),
  (269, Tryz.f269, ⟨[Ty.one (Bt.slice 2 (some 0) none), TU8], Ty.one (Bt.slice 2 (some 0) none), 32, []⟩),
  (270, Tryz.f270, ⟨[Ty.one (Bt.slice 2 (some 0) none)], Ty.one (Bt.slice 2 (some 0) none), 16, []⟩),
  (216, Tryz.f216, ⟨[Ty.one (Bt.slice 2 (some 0) none), TU8], Ty.one (Bt.slice 2 (some 0) none), 48, []⟩),
  (217, Tryz.f217, ⟨[Ty.one (Bt.slice 2 (some 0) none), TU8], Ty.one (Bt.slice 2 (some 0) none), 32, []⟩),
  (272, Tryz.f272, ⟨[Ty.one (Bt.slice 2 (some 0) none), TU8], Ty.one (Bt.slice 2 (some 0) none), 32, []⟩),
  (273, Tryz.f273, ⟨[Ty.one (Bt.slice 2 (some 0) none), TU8], Ty.one (Bt.slice 2 (some 0) none), 16, []⟩),
  (218, Tryz.f218, ⟨[Ty.one (Bt.slice 2 (some 0) none), TU8], Ty.one (Bt.slice 2 (some 0) none), 48, []⟩),
  (219, Tryz.f219, ⟨[Ty.one (Bt.slice 2 (some 0) none), TU8], Ty.one (Bt.slice 2 (some 0) none), 32, []⟩),
  (183, Tryz.f183, ⟨[Ty.one (Bt.slice 2 (some 0) none), TI64, TI64, TU8], Ty.one (Bt.slice 2 (some 0) none), 48, []⟩),
  (158, Tryz.f158, ⟨[TU8, TU8], TU16, 0, []⟩),
  (220, Tryz.f220, ⟨[TC, TI64], Ty.one (Bt.ptr 0 19 20 true), 0, []⟩),
  (184, Tryz.f184, ⟨[TC, TI64, TI64], TU16, 0, []⟩),
  (159, Tryz.f159, ⟨[TC, TI64, TI64, TU8], Ty.tup [], 48, [(0, 31), (0, 30)]⟩),
  (221, Tryz.f221, ⟨[TC], Ty.tup [], 0, []⟩),
  (222, Tryz.f222, ⟨[TU16, TU8], TU16, 0, []⟩),
  (228, Tryz.f228, ⟨[TU16], TU8, 0, []⟩),
  (234, Tryz.f234, ⟨[TU16], TU8, 0, []⟩),
  (223, Tryz.f223, ⟨[TC, TI64, TI64, TU16], Ty.tup [], 0, []⟩),
  (224, Tryz.f224, ⟨[TU8], Ty.one (Bt.int IntKind.i64 (Int.ofNat 0) (Int.ofNat 3)), 0, []⟩),
  (225, Tryz.f225, ⟨[TC], TU16, 0, []⟩),
  (292, Tryz.f292, ⟨[TI64], TB, 0, []⟩),
  (274, Tryz.f274, ⟨[TU16, TU16, TI64], Ty.tup [Cm.one U16, Cm.agg [Bt.bool none, Bt.bool none, Bt.bool none]], 0, []⟩),
  (226, Tryz.f226, ⟨[TU16, TU16, TU8], Ty.tup [Cm.one U16, Cm.one U8], 0, []⟩),
  (227, Tryz.f227, ⟨[TC, TU8], Ty.tup [], 0, []⟩),
  (276, Tryz.f276, ⟨[TC, TU16], Ty.tup [], 0, []⟩),
  (229, Tryz.f229, ⟨[TC], Ty.tup [], 0, []⟩),
  (230, Tryz.f230, ⟨[TC], Ty.tup [], 0, []⟩),
  (189, Tryz.f189, ⟨[TU8], Ty.one (Bt.int IntKind.i64 (Int.ofNat 0) (Int.ofNat 7)), 0, []⟩),
  (190, Tryz.f190, ⟨[TU8], Ty.one (Bt.int IntKind.i64 (Int.ofNat 0) (Int.ofNat 7)), 0, []⟩),
  (287, Tryz.f287, ⟨[TC, TI64], Ty.one (Bt.ptr 0 0 7 true), 0, []⟩),
  (235, Tryz.f235, ⟨[TC, TI64, TI64], TU8, 0, []⟩),
  (236, Tryz.f236, ⟨[TC, TI64, TI64, TU8], Ty.tup [], 0, []⟩),
  (289, Tryz.f289, ⟨[TU8], TU8, 0, []⟩),
  (323, Tryz.f323, ⟨[TB], Ty.one (Bt.int IntKind.i64 (Int.ofNat 0) (Int.ofNat 1)), 0, []⟩),
  (288, Tryz.f288, ⟨[TU8, TU8, TB], TU8, 0, []⟩),
  (324, Tryz.f324, ⟨[TU8, Ty.one (Bt.slice 6 (some 1) (some 1))], TU8, 0, []⟩),
  (324, Tryz.f324, ⟨[TU8, Ty.one (Bt.slice 6 (some 2) (some 2))], TU8, 0, []⟩),
  (324, Tryz.f324, ⟨[TU8, Ty.one (Bt.slice 6 (some 3) (some 3))], TU8, 0, []⟩),
  (324, Tryz.f324, ⟨[TU8, Ty.one (Bt.slice 6 (some 4) (some 4))], TU8, 0, []⟩),
  (325, Tryz.f325, ⟨[TI64], TB, 0, []⟩),
  (309, Tryz.f309, ⟨[TU8, TU8, TB], Ty.tup [Cm.one U8, Cm.one U8], 0, []⟩),
  (277, Tryz.f277, ⟨[TU8, TU8], Ty.tup [Cm.one U8, Cm.one U8], 0, []⟩),
  (294, Tryz.f294, ⟨[TU8, TU8, TB], Ty.tup [Cm.one U8, Cm.one U8], 0, []⟩),
  (278, Tryz.f278, ⟨[TU8, TU8], Ty.tup [Cm.one U8, Cm.one U8], 0, []⟩),
  (332, Tryz.f332, ⟨[TU8], Ty.one (Bt.int IntKind.i64 (Int.ofNat 0) (Int.ofNat 3)), 0, []⟩),
  (333, Tryz.f333, ⟨[TU8], Ty.one (Bt.int IntKind.i64 (Int.ofNat 0) (Int.ofNat 7)), 0, []⟩),
  (334, Tryz.f334, ⟨[TU8], Ty.one (Bt.int IntKind.i64 (Int.ofNat 0) (Int.ofNat 7)), 0, []⟩),
  (310, Tryz.f310, ⟨[TU8], TB, 0, []⟩),
  (279, Tryz.f279, ⟨[TC], TI64, 0, []⟩),
  (191, Tryz.f191, ⟨[TU8, TU8], TB, 0, []⟩),
  (322, Tryz.f322, ⟨[TU8], Ty.one (Bt.int IntKind.i64 (Int.ofNat 0) (Int.ofNat 255)), 0, []⟩),
  (290, Tryz.f290, ⟨[TU8], TB, 0, []⟩),
  (237, Tryz.f237, ⟨[TU8], TU8, 0, []⟩),
  (311, Tryz.f311, ⟨[TU8, TU8], Ty.tup [Cm.one U8, Cm.one U8], 0, []⟩),
  (312, Tryz.f312, ⟨[TU8, TU8], Ty.tup [Cm.one U8, Cm.one U8], 0, []⟩),
  (313, Tryz.f313, ⟨[TU8, TU8, TU8], TU8, 0, []⟩),
  (314, Tryz.f314, ⟨[TU8, TU8, TU8], TU8, 0, []⟩),
  (320, Tryz.f320, ⟨[TI64, TU8, TU8], Ty.tup [Cm.one U8, Cm.one (Bt.int IntKind.u8 (Int.ofNat 0) (Int.ofNat 1))], 0, []⟩),
  (315, Tryz.f315, ⟨[TI64, TU8, TU8], Ty.tup [Cm.one U8, Cm.one U8], 0, []⟩),
  (280, Tryz.f280, ⟨[TC], Ty.tup [Cm.one U8, Cm.one U8], 0, []⟩),
  (316, Tryz.f316, ⟨[TU8, TU8], Ty.tup [Cm.one U8, Cm.one U8], 0, []⟩),
  (317, Tryz.f317, ⟨[TU8, TU8], Ty.tup [Cm.one U8, Cm.one U8], 0, []⟩),
  (318, Tryz.f318, ⟨[TU8, TU8], Ty.tup [Cm.one U8, Cm.one U8], 0, []⟩),
  (319, Tryz.f319, ⟨[TU8, TU8], TU8, 0, []⟩),
  (281, Tryz.f281, ⟨[TI64, TU8, TU8, TU8], Ty.tup [Cm.one U8, Cm.one U8], 0, []⟩),
  (231, Tryz.f231, ⟨[TC, TI64], Ty.tup [], 0, []⟩),
  (185, Tryz.f185, ⟨[TC, TI64], Ty.tup [], 0, []⟩),
  (232, Tryz.f232, ⟨[TC], Ty.tup [], 0, []⟩),
  (282, Tryz.f282, ⟨[TU8], Ty.one (Bt.int IntKind.i64 (Int.ofNat 0) (Int.ofNat 3)), 0, []⟩),
  (283, Tryz.f283, ⟨[TI64, TU8, TU8], Ty.tup [Cm.one U8, Cm.one U8], 0, []⟩),
  (321, Tryz.f321, ⟨[TI64], TB, 0, []⟩),
  (284, Tryz.f284, ⟨[Ty.one (Bt.int IntKind.i64 0 7), TU8, TU8, TU8], TU8, 0, []⟩),
  (285, Tryz.f285, ⟨[Ty.one (Bt.int IntKind.i64 0 7), TU8], TU8, 0, []⟩),
  (286, Tryz.f286, ⟨[Ty.one (Bt.int IntKind.i64 0 7), TU8], TU8, 0, []⟩),
  (233, Tryz.f233, ⟨[TC, TU8, TU8], TU8, 0, []⟩),
  (186, Tryz.f186, ⟨[TC, TI64], Ty.tup [], 0, []⟩),
  (291, Tryz.f291, ⟨[TU8], Ty.one (Bt.int IntKind.i64 (Int.ofNat 0) (Int.ofNat 1)), 0, []⟩),
  (293, Tryz.f293, ⟨[TU16], TU8, 0, []⟩),
  (238, Tryz.f238, ⟨[TU16, TU16, TU8], Ty.tup [Cm.one U16, Cm.one U8], 0, []⟩),
  (239, Tryz.f239, ⟨[TU16, TU16, TU8], Ty.tup [Cm.one U16, Cm.one U8], 0, []⟩),
  (240, Tryz.f240, ⟨[TU8], Ty.tup [Cm.one U8, Cm.one U8], 0, []⟩),
  (241, Tryz.f241, ⟨[TC], TU8, 0, []⟩),
  (242, Tryz.f242, ⟨[TU8, TU8, TU8], Ty.tup [Cm.one U8, Cm.one U8, Cm.one U8], 0, []⟩),
  (243, Tryz.f243, ⟨[TU8, TU8, TU8], Ty.tup [Cm.one U8, Cm.one U8, Cm.one U8], 0, []⟩),
  (295, Tryz.f295, ⟨[TC], Ty.one (Bt.int IntKind.u16 (Int.ofNat 1) (Int.ofNat 65535)), 0, []⟩),
  (326, Tryz.f326, ⟨[TU8], TU8, 0, []⟩),
  (296, Tryz.f296, ⟨[TU8, TU8, TU16, TU8], TU8, 0, []⟩),
  (297, Tryz.f297, ⟨[TU8, TU8, TU16, TU8], TU8, 0, []⟩),
  (298, Tryz.f298, ⟨[TU8, TU8, TU8], TU8, 0, []⟩),
  (299, Tryz.f299, ⟨[TC], Ty.tup [], 0, []⟩),
  (300, Tryz.f300, ⟨[TU8, TU16], TU8, 0, []⟩),
  (301, Tryz.f301, ⟨[TU8, TU8, TU8, TU16], TU8, 0, []⟩),
  (244, Tryz.f244, ⟨[TC, TI64], Ty.tup [], 0, []⟩),
  (187, Tryz.f187, ⟨[TC, TI64], Ty.tup [], 0, []⟩),
  (160, Tryz.f160, ⟨[TC, TI64], Ty.tup [], 0, []⟩),
  (188, Tryz.f188, ⟨[TU8, TI64], TB, 0, []⟩),
  (161, Tryz.f161, ⟨[TC, TI64], TB, 0, []⟩),
  (245, Tryz.f245, ⟨[TC], TU16, 0, []⟩),
  (192, Tryz.f192, ⟨[TC, TI64], TU16, 0, []⟩),
  (302, Tryz.f302, ⟨[TC], TU16, 0, []⟩),
  (246, Tryz.f246, ⟨[TC], TU16, 0, []⟩),
  (193, Tryz.f193, ⟨[TC, TI64], TU8, 0, []⟩),
  (162, Tryz.f162, ⟨[TC, Ty.agg [I64, I64, I64, I64]], Ty.tup [], 0, []⟩)]
set_option maxRecDepth 100000 in
theorem tab1_chk : tabChk cfg tab1 base1 = true := by kernel_rfl
set_option maxRecDepth 100000 in
theorem tab1_fns : ∀ f fn s, (f, fn, s) ∈ tab1 → Tryz.prog.funcs[f]? = some fn ∧ (fn.name == "runtime.NumGoroutine") = false := by
  have : ∀ p ∈ tab1, Tryz.prog.funcs[p.1]? = some p.2.1 ∧ (p.2.1.name == "runtime.NumGoroutine") = false := by
    unfold tab1
    simp only [List.forall_mem_cons]
    exact ⟨⟨Tryz.func131, by kernel_rfl⟩, ⟨Tryz.func212, by kernel_rfl⟩, ⟨Tryz.func255, by kernel_rfl⟩, ⟨Tryz.func258, by kernel_rfl⟩, ⟨Tryz.func260, by kernel_rfl⟩, ⟨Tryz.func261, by kernel_rfl⟩, ⟨Tryz.func263, by kernel_rfl⟩, ⟨Tryz.func265, by kernel_rfl⟩, ⟨Tryz.func267, by kernel_rfl⟩, ⟨Tryz.func256, by kernel_rfl⟩, ⟨Tryz.func257, by kernel_rfl⟩, ⟨Tryz.func259, by kernel_rfl⟩, ⟨Tryz.func266, by kernel_rfl⟩, ⟨Tryz.func271, by kernel_rfl⟩, ⟨Tryz.func262, by kernel_rfl⟩, ⟨Tryz.func264, by kernel_rfl⟩, ⟨Tryz.func213, by kernel_rfl⟩, ⟨Tryz.func214, by kernel_rfl⟩, ⟨Tryz.func215, by kernel_rfl⟩, ⟨Tryz.func268, by kernel_rfl⟩, ⟨Tryz.func269, by kernel_rfl⟩, ⟨Tryz.func270, by kernel_rfl⟩, ⟨Tryz.func216, by kernel_rfl⟩, ⟨Tryz.func217, by kernel_rfl⟩, ⟨Tryz.func272, by kernel_rfl⟩, ⟨Tryz.func273, by kernel_rfl⟩, ⟨Tryz.func218, by kernel_rfl⟩, ⟨Tryz.func219, by kernel_rfl⟩, ⟨Tryz.func183, by kernel_rfl⟩, ⟨Tryz.func158, by kernel_rfl⟩, ⟨Tryz.func220, by kernel_rfl⟩, ⟨Tryz.func184, by kernel_rfl⟩, ⟨Tryz.func159, by kernel_rfl⟩, ⟨Tryz.func221, by kernel_rfl⟩, ⟨Tryz.func222, by kernel_rfl⟩, ⟨Tryz.func228, by kernel_rfl⟩, ⟨Tryz.func234, by kernel_rfl⟩, ⟨Tryz.func223, by kernel_rfl⟩, ⟨Tryz.func224, by kernel_rfl⟩, ⟨Tryz.func225, by kernel_rfl⟩, ⟨Tryz.func292, by kernel_rfl⟩, ⟨Tryz.func274, by kernel_rfl⟩, ⟨Tryz.func226, by kernel_rfl⟩, ⟨Tryz.func227, by kernel_rfl⟩, ⟨Tryz.func276, by kernel_rfl⟩, ⟨Tryz.func229, by kernel_rfl⟩, ⟨Tryz.func230, by kernel_rfl⟩, ⟨Tryz.func189, by kernel_rfl⟩, ⟨Tryz.func190, by kernel_rfl⟩, ⟨Tryz.func287, by kernel_rfl⟩, ⟨Tryz.func235, by kernel_rfl⟩, ⟨Tryz.func236, by kernel_rfl⟩, ⟨Tryz.func289, by kernel_rfl⟩, ⟨Tryz.func323, by kernel_rfl⟩, ⟨Tryz.func288, by kernel_rfl⟩, ⟨Tryz.func324, by kernel_rfl⟩, ⟨Tryz.func324, by kernel_rfl⟩, ⟨Tryz.func324, by kernel_rfl⟩, ⟨Tryz.func324, by kernel_rfl⟩, ⟨Tryz.func325, by kernel_rfl⟩, ⟨Tryz.func309, by kernel_rfl⟩, ⟨Tryz.func277, by kernel_rfl⟩, ⟨Tryz.func294, by kernel_rfl⟩, ⟨Tryz.func278, by kernel_rfl⟩, ⟨Tryz.func332, by kernel_rfl⟩, ⟨Tryz.func333, by kernel_rfl⟩, ⟨Tryz.func334, by kernel_rfl⟩, ⟨Tryz.func310, by kernel_rfl⟩, ⟨Tryz.func279, by kernel_rfl⟩, ⟨Tryz.func191, by kernel_rfl⟩, ⟨Tryz.func322, by kernel_rfl⟩, ⟨Tryz.func290, by kernel_rfl⟩, ⟨Tryz.func237, by kernel_rfl⟩, ⟨Tryz.func311, by kernel_rfl⟩, ⟨Tryz.func312, by kernel_rfl⟩, ⟨Tryz.func313, by kernel_rfl⟩, ⟨Tryz.func314, by kernel_rfl⟩, ⟨Tryz.func320, by kernel_rfl⟩, ⟨Tryz.func315, by kernel_rfl⟩, ⟨Tryz.func280, by kernel_rfl⟩, ⟨Tryz.func316, by kernel_rfl⟩, ⟨Tryz.func317, by kernel_rfl⟩, ⟨Tryz.func318, by kernel_rfl⟩, ⟨Tryz.func319, by kernel_rfl⟩, ⟨Tryz.func281, by kernel_rfl⟩, ⟨Tryz.func231, by kernel_rfl⟩, ⟨Tryz.func185, by kernel_rfl⟩, ⟨Tryz.func232, by kernel_rfl⟩, ⟨Tryz.func282, by kernel_rfl⟩, ⟨Tryz.func283, by kernel_rfl⟩, ⟨Tryz.func321, by kernel_rfl⟩, ⟨Tryz.func284, by kernel_rfl⟩, ⟨Tryz.func285, by kernel_rfl⟩, ⟨Tryz.func286, by kernel_rfl⟩, ⟨Tryz.func233, by kernel_rfl⟩, ⟨Tryz.func186, by kernel_rfl⟩, ⟨Tryz.func291, by kernel_rfl⟩, ⟨Tryz.func293, by kernel_rfl⟩, ⟨Tryz.func238, by kernel_rfl⟩, ⟨Tryz.func239, by kernel_rfl⟩, ⟨Tryz.func240, by kernel_rfl⟩, ⟨Tryz.func241, by kernel_rfl⟩, ⟨Tryz.func242, by kernel_rfl⟩, ⟨Tryz.func243, by kernel_rfl⟩, ⟨Tryz.func295, by kernel_rfl⟩, ⟨Tryz.func326, by kernel_rfl⟩, ⟨Tryz.func296, by kernel_rfl⟩, ⟨Tryz.func297, by kernel_rfl⟩, ⟨Tryz.func298, by kernel_rfl⟩, ⟨Tryz.func299, by kernel_rfl⟩, ⟨Tryz.func300, by kernel_rfl⟩, ⟨Tryz.func301, by kernel_rfl⟩, ⟨Tryz.func244, by kernel_rfl⟩, ⟨Tryz.func187, by kernel_rfl⟩, ⟨Tryz.func160, by kernel_rfl⟩, ⟨Tryz.func188, by kernel_rfl⟩, ⟨Tryz.func161, by kernel_rfl⟩, ⟨Tryz.func245, by kernel_rfl⟩, ⟨Tryz.func192, by kernel_rfl⟩, ⟨Tryz.func302, by kernel_rfl⟩, ⟨Tryz.func246, by kernel_rfl⟩, ⟨Tryz.func193, by kernel_rfl⟩, ⟨Tryz.func162, by kernel_rfl⟩, fun _ h => by cases h⟩
  exact fun f fn s h => this (f, fn, s) h
theorem flags_sig {E : Env} : SigOk Tryz.prog E 275 ⟨[.agg [.bool none, .bool none, .bool none]], TU8, 0, []⟩ := by
  refine ⟨⟨Tryz.f275, _, Tryz.func275, by kernel_rfl, rfl⟩, rfl, fun S j w args hI _ ha => ?_⟩
  obtain ⟨hl, hv⟩ := ha
  obtain ⟨v, rfl⟩ : ∃ v, args = [v] := by
    match args, hl with
    | [v], _ => exact ⟨v, rfl⟩
  obtain ⟨cs, rfl, hcl, hcv⟩ := hv 0 _ v rfl rfl
  obtain ⟨x, y, z, hcs⟩ : ∃ x y z, cs.toList = [x, y, z] := by
    match h : cs.toList, hcl with
    | [x, y, z], _ => exact ⟨x, y, z, rfl⟩
  rw [hcs] at hcv
  obtain ⟨a, rfl, _⟩ := hcv 0 _ x rfl rfl
  obtain ⟨b, rfl, _⟩ := hcv 1 _ y rfl rfl
  obtain ⟨c, rfl, _⟩ := hcv 2 _ z rfl rfl
  have : cs = #[.bool a, .bool b, .bool c] := by rw [← Array.toList_inj]; exact hcs
  subst this
  refine (flagsW_any a b c w).mono ?_
  rintro e w' ⟨rfl, hb⟩
  obtain ⟨h1, h2⟩ := stp_below hI hb
  refine ⟨_, rfl, S, j, h2, Nat.le_refl _, Nat.le_refl _, h1, _, rfl, ?_, ?_⟩ <;> cases a <;> cases b <;> cases c <;> decide
theorem tab1_ok {T : Int} {L G J : Nat} (h0 : 0 ≤ T) (hG : 1000 ≤ G) (hJ : G + J ≤ 1000000000) : ∀ f s, (f, s) ∈ tabOf tab1 base1 → SigOk Tryz.prog (mkE T L G J) f s :=
  tabChk_ok prog_mixed (cfg_ok h0 hG hJ) tab1_chk (fun f s h => by
    simp only [base1, List.mem_singleton] at h
    cases h
    exact flags_sig) tab1_fns
end Ck
end Go.Proofs.YtnlaedfnifimkaaGreat
