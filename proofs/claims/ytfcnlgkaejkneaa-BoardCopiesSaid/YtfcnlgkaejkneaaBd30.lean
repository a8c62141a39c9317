/- Layer 11: a slice of steps that came in; the law's step, of any kind; how many T-states a script has. -/
import Derived.Test.YtfcnlgkaejkneaaBd29
import Derived.Deep.SlicePairs
import Derived.Deep.Grids
import Derived.ChangeArms
import Derived.OpenShut
import Derived.Lib.SmallJoins
namespace Go.Proofs.Ytfcnlgkaejkneaa
open Go.ChangeShapes Go.WideShapes Go.ChangeAt Go.RowKit Go.Deep Go.Joins

/-- a step as it stands: its kind, its number, its address, its byte, its name -/
structure OpD where
  k : Int
  n : Int
  a : Int
  v : Int
  s : ByteArray
instance : Inhabited OpD := ⟨⟨0, 0, 0, 0, ⟨#[]⟩⟩⟩
def OpD.cs (o : OpD) : List Value := [.int .i64 o.k, .int .i64 o.n, .int .u16 o.a, .int .u8 o.v, .string o.s]
def OpD.ok (o : OpD) : Prop := -9223372036854775808 ≤ o.n ∧ o.n ≤ 9223372036854775807 ∧ 0 ≤ o.a ∧ o.a ≤ 65535 ∧ 0 ≤ o.v ∧ o.v ≤ 255
def opsC (l : List OpD) : List Value := l.flatMap OpD.cs
theorem opsC_len (l : List OpD) : (opsC l).length = l.length * 5 := by
  induction l with
  | nil => rfl
  | cons a l ih => simp only [opsC, List.flatMap_cons, List.length_append, OpD.cs, List.length_cons, List.length_nil] at ih ⊢; omega
theorem opsC_at : ∀ {l : List OpD} {i j : Nat} {u : Value}, i < l.length → j < 5 → (l.getD i default).cs[j]? = some u → (opsC l)[i * 5 + j]? = some u
  | [], i, j, u, h, _, _ => absurd h (by simp)
  | o :: l, 0, j, u, _, hj, h => by
    have h1 : (o.cs)[j]? = some u := by simpa using h
    have h2 : j < o.cs.length := by simp [OpD.cs]; omega
    rw [show opsC (o :: l) = o.cs ++ opsC l from by simp [opsC], Nat.zero_mul, Nat.zero_add, List.getElem?_append_left h2]
    exact h1
  | o :: l, i + 1, j, u, hi, hj, h => by
    have := opsC_at (l := l) (i := i) (j := j) (u := u) (by simpa using hi) hj (by simpa using h)
    rw [show opsC (o :: l) = o.cs ++ opsC l from by simp [opsC], List.getElem?_append_right (by simp [OpD.cs]; omega)]
    rw [show (i + 1) * 5 + j - o.cs.length = i * 5 + j from by simp [OpD.cs]; omega]
    exact this
theorem op_at {w : World} {B n : Nat} {A : Option Addr} {l : List OpD} (h : Reads w B 5 A n (opsC l)) {i : Nat} (hi : i < n) :
    ∃ ad, A = some ad ∧ ad.block < B ∧ w.cell? (ad.add (i * 5)) = some (.int .i64 (l.getD i default).k) ∧ w.cell? ⟨(ad.add (i * 5)).block, (ad.add (i * 5)).off + 1, none⟩ = some (.int .i64 (l.getD i default).n) ∧ w.cell? ⟨(ad.add (i * 5)).block, (ad.add (i * 5)).off + 2, none⟩ = some (.int .u16 (l.getD i default).a) ∧ w.cell? ⟨(ad.add (i * 5)).block, (ad.add (i * 5)).off + 3, none⟩ = some (.int .u8 (l.getD i default).v) ∧ w.cell? ⟨(ad.add (i * 5)).block, (ad.add (i * 5)).off + 4, none⟩ = some (.string (l.getD i default).s) := by
  obtain ⟨ad, e, hb, hc⟩ := h.2 (by omega)
  have hl : i < l.length := by have := h.1; rw [opsC_len] at this; omega
  have hA := fun j u (hj : j < 5) hu => hc _ u (opsC_at (l := l) hl hj hu)
  refine ⟨ad, e, hb, hA 0 _ (by decide) rfl, ?_, ?_, ?_, ?_⟩
  · rw [← add_lit11 _ 1 (by decide), add_of_add]; exact hA 1 _ (by decide) rfl
  · rw [← add_lit11 _ 2 (by decide), add_of_add]; exact hA 2 _ (by decide) rfl
  · rw [← add_lit11 _ 3 (by decide), add_of_add]; exact hA 3 _ (by decide) rfl
  · rw [← add_lit11 _ 4 (by decide), add_of_add]; exact hA 4 _ (by decide) rfl
theorem open_cells5 {H : Type} {enc : TypeId × Value → H} {P : Program} {w : World} {base : Nat} {spare : Nat → Bool} {held : Bool} {fuel : Nat} {t : TypeId} {f0 f1 f2 f3 f4 : Field} (hs : P.underlying t = some (.struct #[f0, f1, f2, f3, f4])) (hone : oneCellFields P #[f0, f1, f2, f3, f4] = true) {cs : List Value} (hC : cs.length = 5) {x : DataW H × List MemPlace}
    (hf : DataW.trod enc P w base spare held fuel t cs = some x) :
    ∃ (v0 v1 v2 v3 v4 : Value) (y0 y1 y2 y3 y4 : DataW H × List MemPlace) (n : Nat), cs = [v0, v1, v2, v3, v4] ∧ DataW.trod enc P w base spare held n f0.type [v0] = some y0 ∧ DataW.trod enc P w base spare held n f1.type [v1] = some y1 ∧ DataW.trod enc P w base spare held n f2.type [v2] = some y2 ∧ DataW.trod enc P w base spare held n f3.type [v3] = some y3 ∧ DataW.trod enc P w base spare held n f4.type [v4] = some y4 := by
  match cs, hC with
  | [c0, c1, c2, c3, c4], _ =>
    obtain ⟨xs, n, _, hx, _, hlen, hg⟩ := DataW.trod_struct hs hf
    obtain ⟨o0, k0⟩ := hone_of hone 0 f0 rfl
    obtain ⟨o1, k1⟩ := hone_of hone 1 f1 rfl
    obtain ⟨o2, k2⟩ := hone_of hone 2 f2 rfl
    obtain ⟨o3, k3⟩ := hone_of hone 3 f3 rfl
    obtain ⟨o4, k4⟩ := hone_of hone 4 f4 rfl
    match xs, hlen with
    | [y0, y1, y2, y3, y4], _ =>
      exact ⟨c0, c1, c2, c3, c4, y0, y1, y2, y3, y4, n, rfl, by simpa [Value.cells, o0, k0] using hg 0 f0 rfl, by simpa [Value.cells, o1, k1] using hg 1 f1 rfl, by simpa [Value.cells, o2, k2] using hg 2 f2 rfl, by simpa [Value.cells, o3, k3] using hg 3 f3 rfl, by simpa [Value.cells, o4, k4] using hg 4 f4 rfl⟩
theorem one_op {H : Type} {enc : TypeId × Value → H} {W : World} {fuel : Nat} {cs : List Value} (hC : cs.length = 5) {x : DataW H × List MemPlace} (hf : DataW.trod enc Try.prog W 0 (fun _ => true) true fuel 62 cs = some x) : ∃ o : OpD, cs = o.cs ∧ o.ok := by
  obtain ⟨c0, c1, c2, c3, c4, y0, y1, y2, y3, y4, n, rfl, g0, g1, g2, g3, g4⟩ := open_cells5 Try.underlying62 (by kernel_rfl) hC hf
  obtain ⟨z0, e0, _, u0⟩ := DataW.trod_int Try.underlying3 g0
  obtain ⟨z1, e1, _, u1⟩ := DataW.trod_int Try.underlying3 g1
  obtain ⟨z2, e2, _, u2⟩ := DataW.trod_int Try.underlying43 g2
  obtain ⟨z3, e3, _, u3⟩ := DataW.trod_int Try.underlying5 g3
  obtain ⟨z4, e4, _⟩ := DataW.trod_string Try.underlying9 g4
  obtain rfl : c0 = _ := by simpa using e0
  obtain rfl : c1 = _ := by simpa using e1
  obtain rfl : c2 = _ := by simpa using e2
  obtain rfl : c3 = _ := by simpa using e3
  obtain rfl : c4 = _ := by simpa using e4
  exact ⟨⟨z0, z1, z2, z3, z4⟩, rfl, (bounds_i64 u1).1, (bounds_i64 u1).2, (u16_bd u2).1, (u16_bd u2).2, (bounds_u8 u3).1, (bounds_u8 u3).2⟩
theorem open_ops {H : Type} {enc : TypeId × Value → H} {W : World} {fuel : Nat} {A : Option Addr} {len cap : Nat} {x : DataW H × List MemPlace} (hf : DataW.trod enc Try.prog W 0 (fun _ => true) true fuel 49 [.slice A len cap] = some x) (lt : ∀ p ∈ x.2, p.block < W.heap.size) :
    ∃ l : List OpD, Reads W W.heap.size 5 A len (opsC l) ∧ ∀ i, i < len → (l.getD i default).ok := by
  rcases open_slice Try.underlying49 hf with ⟨hcs, _⟩ | ⟨a, l, c, m, n, D, Pl, hcs, _, hl, _, hmm, hx, hall⟩
  · simp at hcs
    obtain ⟨rfl, rfl, rfl⟩ := hcs
    exact ⟨[], ⟨rfl, fun h => absurd h (by omega)⟩, fun i hi => absurd hi (by omega)⟩
  · simp at hcs
    obtain ⟨rfl, rfl, rfl⟩ := hcs
    have hm : m = cap := by simpa using hmm
    have ce : Try.prog.cellsOf 62 = 5 := by kernel_rfl
    rw [ce] at hall
    have each : ∀ i, i < len → ∃ o : OpD, o.ok ∧ ∀ j u, o.cs[j]? = some u → W.cell? ((a.add (i * 5)).add j) = some u := by
      intro i hi
      obtain ⟨cs', h1, h2⟩ := hall i (by omega)
      obtain ⟨_, hlen, hcell⟩ := World.cells?_some h1
      obtain ⟨o, rfl, h4⟩ := one_op hlen h2
      refine ⟨o, h4, fun j u hu => ?_⟩
      have hj : j < 5 := by
        rcases Nat.lt_or_ge j o.cs.length with h9 | h9
        · omega
        · rw [List.getElem?_eq_none h9] at hu; cases hu
      rw [hcell j hj]
      exact hu
    obtain ⟨q, hq⟩ := Go.Deep.choose_lt each
    have hlr : ((List.range len).map q).length = len := by simp
    have hgd : ∀ i, i < len → ((List.range len).map q).getD i default = q i := fun i hi => by simp [List.getD_eq_getElem?_getD, hi]
    refine ⟨(List.range len).map q, ⟨by rw [opsC_len, hlr], fun hn => ⟨a, rfl, ?_, fun j u hu => ?_⟩⟩, fun i hi => by rw [hgd i hi]; exact (hq i hi).1⟩
    · refine lt (.cell a.block a.off) ?_
      rw [hx]
      exact List.mem_append_left _ (MemPlace.mem_row.2 ⟨0, by rw [ce]; omega, by simp⟩)
    · have hj : j < len * 5 := by
        rcases Nat.lt_or_ge j (len * 5) with h | h
        · exact h
        · rw [List.getElem?_eq_none (by rw [opsC_len, hlr]; exact h)] at hu; cases hu
      have hi : j / 5 < len := by omega
      obtain ⟨u', hu'⟩ : ∃ u', ((q (j / 5)).cs)[j % 5]? = some u' := ⟨_, List.getElem?_eq_getElem (by simp [OpD.cs]; omega)⟩
      have h2 := opsC_at (l := (List.range len).map q) (i := j / 5) (j := j % 5) (u := u') (by rw [hlr]; exact hi) (by omega) (by rw [hgd _ hi]; exact hu')
      rw [show j / 5 * 5 + j % 5 = j by omega, hu] at h2
      rw [Option.some.inj h2]
      have := (hq _ hi).2 _ _ hu'
      rw [add_of_add, show j / 5 * 5 + j % 5 = j by omega] at this
      exact this
/-- a step of any kind -/
theorem step_any (w : World) (base g q P : Nat) (s : PS) (n : Nat) (same : Bool) (A E D A' E' : Value) (h : PAt w base g q P s A E D A' E') (ok : s.Ok n same) (hn : n ≤ 100) (hb : base ≤ w.heap.size) (k N a v : Int) (str : ByteArray) (n0 : -9223372036854775808 ≤ N) (n1 : N ≤ 9223372036854775807) (a0 : 0 ≤ a) (a1 : a ≤ 65535) (v0 : 0 ≤ v) (v1 : v ≤ 255) :
    Calls Try.prog 22 #[.pointer (some ⟨P, 0, none⟩), .agg #[.int .i64 k, .int .i64 N, .int .u16 a, .int .u8 v, .string str]] w fun x w' => StepO w w' x base g q P n same s.ph := by
  obtain ⟨m, rfl⟩ : ∃ m : Nat, a = (m : Int) := ⟨a.toNat, by omega⟩
  by_cases hk : k < 0 ∨ 7 < k
  · exact stepN w base g q P s n same A E D A' E' h ok hn hb k N m v str hk
  · obtain rfl | rfl | rfl | rfl | rfl | rfl | rfl | rfl : k = 0 ∨ k = 1 ∨ k = 2 ∨ k = 3 ∨ k = 4 ∨ k = 5 ∨ k = 6 ∨ k = 7 := by omega
    · exact step0 w base g q P s n same A E D A' E' h ok hn hb N m v str (by omega)
    · exact step1 w base g q P s n same A E D A' E' h ok hn hb N m v str (by omega)
    · exact step2 w base g q P s n same A E D A' E' h ok hn hb N m v str a0 a1
    · exact step3 w base g q P s n same A E D A' E' h ok hn hb N m v str a0 a1 v0 v1
    · exact step4 w base g q P s n same A E D A' E' h ok hn hb N m v str
    · exact step5 w base g q P s n same A E D A' E' h ok hn hb N m v str
    · exact step6 w base g q P s n same A E D A' E' h ok hn hb N m v str
    · exact step7 w base g q P s n same A E D A' E' h ok hn hb N m v str n0 n1 a0 a1 v0 v1
def sumN (l : List OpD) : Nat → Int
  | 0 => 0
  | i + 1 => sumN l i + max 0 (min (l.getD i default).n 3000)
theorem sumN_bd (l : List OpD) : ∀ i : Nat, 0 ≤ sumN l i ∧ sumN l i ≤ 3000 * (i : Int)
  | 0 => by simp [sumN]
  | i + 1 => by
    have ih := sumN_bd l i
    unfold sumN
    omega

set_option maxRecDepth 100000 in
set_option maxHeartbeats 8000000 in
theorem steps_any (w : World) (A : Option Addr) (m c : Nat) (l : List OpD) (h : Reads w w.heap.size 5 A m (opsC l)) (hm : m ≤ 60) :
    Calls Try.prog 20 #[.slice A m c] w fun x w' => x = .returned (.int .i64 (sumN l m)) ∧ w = w' := by
  go_enter Try.func20, Try.ntmps20
  go_wp2
  go_loop [3, 4] (fun y x => ∃ i : Nat, x = .int .i64 (i : Int) ∧ i ≤ m ∧ y = .int .i64 (sumN l i)) (fun _ x => m - (intOf x).toNat)
  case atStart => exact ⟨0, rfl, by omega, rfl⟩
  case round =>
    obtain ⟨i, rfl, hi, rfl⟩ := hrel
    have hi0 : (0 : Int) ≤ (i : Int) := Int.natCast_nonneg _
    by_cases hlt : i < m
    · have hiI : (i : Int) < (m : Int) := by omega
      have hwi : IntKind.i64.wrap ((i : Int) + 1) = (i : Int) + 1 := by rw [IntKind.wrap_i64]; omega
      obtain ⟨ad, rfl, _, _, c1, _⟩ := op_at h hlt
      have HB := sumN_bd l i
      have HN := Lib.hid (show sumN l (i + 1) = sumN l i + max 0 (min (l.getD i default).n 3000) from rfl)
      generalize (l.getD i default).n = N at *
      generalize sumN l i = S at *
      by_cases k1 : 3000 < N
      · have hws : IntKind.i64.wrap (S + 3000) = S + 3000 := by rw [IntKind.wrap_i64]; omega
        go_wp2
        go_round
        case rel => exact ⟨i + 1, by go_num, by omega, by rw [HN.out]; first | go_num | (congr 1; omega)⟩
        case measure => simp [intOf]; omega
      · by_cases k2 : 0 < N
        · have hws : IntKind.i64.wrap (S + N) = S + N := by rw [IntKind.wrap_i64]; omega
          go_wp2
          go_round
          case rel => exact ⟨i + 1, by go_num, by omega, by rw [HN.out, show max 0 (min N 3000) = N by omega]⟩
          case measure => simp [intOf]; omega
        · have hws : IntKind.i64.wrap S = S := by rw [IntKind.wrap_i64]; omega
          go_wp2
          go_round
          case rel => exact ⟨i + 1, by go_num, by omega, by rw [HN.out, show max 0 (min N 3000) = 0 by omega, Int.add_zero]⟩
          case measure => simp [intOf]; omega
    · obtain rfl : i = m := by omega
      obtain ⟨S, hS⟩ : ∃ S, S = sumN l i := ⟨_, rfl⟩
      rw [← hS]
      have HS := Lib.hid hS
      clear hS
      go_wp2
      go_ret
      exact ⟨by rw [← HS.out]; rfl, rfl⟩
end Go.Proofs.Ytfcnlgkaejkneaa
