/- Layer 27: blocks as data; two blocks of any data compared. -/
import Derived.Test.YtckgmnlmimogjaaNorm5e
import Derived.Test.YtckgmnlmimogjaaNorm6
namespace Go.Proofs.Ytckgmnlmimogjaa
open Go.RowKit

def fl (l : List (Int × Int)) : List Value := l.flatMap fun p => [.int .i64 p.1, .int .i64 p.2]
theorem fl_app (a b : List (Int × Int)) : fl (a ++ b) = fl a ++ fl b := by simp [fl]
theorem fl_len : ∀ l : List (Int × Int), (fl l).length = l.length * 2
  | [] => rfl
  | p :: l => by
    have := fl_len l
    simp only [fl, List.flatMap_cons, List.length_append, List.length_cons, List.length_nil] at this ⊢
    omega
theorem fl_at : ∀ {l : List (Int × Int)} {i : Nat} {p : Int × Int}, l[i]? = some p → (fl l)[i * 2]? = some (.int .i64 p.1) ∧ (fl l)[i * 2 + 1]? = some (.int .i64 p.2)
  | [], i, p, h => by cases h
  | q :: l, 0, p, h => by
    obtain rfl : q = p := by simpa using h
    exact ⟨rfl, rfl⟩
  | q :: l, i + 1, p, h => by
    have := fl_at (l := l) (i := i) (p := p) (by simpa using h)
    rw [show (i + 1) * 2 = i * 2 + 1 + 1 by omega]
    exact this
theorem fl_one (l : List (Int × Int)) : ∀ u ∈ fl l, u.oneCell' = true := by
  intro u hu
  simp only [fl, List.mem_flatMap, List.mem_cons, List.not_mem_nil, or_false] at hu
  obtain ⟨p, _, rfl | rfl⟩ := hu <;> rfl
/-- a symbol as it stands: its kind, its pulses' slice, the pulses -/
structure SymD where
  k : Int
  a : Option Addr
  n : Nat
  c : Nat
  zs : List Int
def symV (l : List SymD) : List Value := l.flatMap fun q => [.int .i64 q.k, .slice q.a q.n q.c]
def SymD.okw (w : World) (B : Nat) (q : SymD) : Prop := Reads w B 1 q.a q.n (q.zs.map (Value.int .i64))
def SymD.dat (q : SymD) : Int × List Int := (q.k, q.zs)
theorem symV_len : ∀ l : List SymD, (symV l).length = l.length * 2
  | [] => rfl
  | p :: l => by
    have := symV_len l
    simp only [symV, List.flatMap_cons, List.length_append, List.length_cons, List.length_nil] at this ⊢
    omega
theorem symV_at : ∀ {l : List SymD} {i : Nat} {p : SymD}, l[i]? = some p → (symV l)[i * 2]? = some (.int .i64 p.k) ∧ (symV l)[i * 2 + 1]? = some (.slice p.a p.n p.c)
  | [], i, p, h => by cases h
  | q :: l, 0, p, h => by
    obtain rfl : q = p := by simpa using h
    exact ⟨rfl, rfl⟩
  | q :: l, i + 1, p, h => by
    have := symV_at (l := l) (i := i) (p := p) (by simpa using h)
    rw [show (i + 1) * 2 = i * 2 + 1 + 1 by omega]
    exact this
theorem add_one_lit (a : Addr) : a.add 1 = ⟨a.block, a.off + 1, none⟩ := by unfold Addr.add; rw [if_neg (by decide)]
theorem pair_at {w : World} {B n : Nat} {A : Option Addr} {xs : List Value} (h : Reads w B 2 A n xs) {i : Nat} (hi : i < n) {u v : Value} (hu : xs[i * 2]? = some u) (hv : xs[i * 2 + 1]? = some v) :
    ∃ ad, A = some ad ∧ ad.block < B ∧ w.cell? (ad.add (i * 2)) = some u ∧ w.cell? ⟨(ad.add (i * 2)).block, (ad.add (i * 2)).off + 1, none⟩ = some v := by
  obtain ⟨ad, e, hb, hc⟩ := h.2 (by omega)
  refine ⟨ad, e, hb, hc _ _ hu, ?_⟩
  have := hc _ _ hv
  rw [← add_of_add, show ((ad.add (i * 2)).add 1) = ⟨(ad.add (i * 2)).block, (ad.add (i * 2)).off + 1, none⟩ from add_one_lit _] at this
  exact this
theorem idx_some {α : Type} {l : List α} {i : Nat} (h : i < l.length) : ∃ p, l[i]? = some p := ⟨l[i], List.getElem?_eq_getElem h⟩

set_option maxHeartbeats 2000000 in
theorem ints_gen (w : World) (B n c c' : Nat) (A A' : Option Addr) (zs : List Int) (h1 : Reads w B 1 A n (zs.map (Value.int .i64))) (h2 : Reads w B 1 A' n (zs.map (Value.int .i64))) (hn : n ≤ 1000000) :
    Calls Try.prog 27 #[.slice A n c, .slice A' n c'] w fun e w' => e = .returned (.bool true) ∧ ∃ m, w' = w.drewN m := by
  have HR := Lib.hid (And.intro h1 h2)
  clear h1 h2
  go_enter Try.func27, Try.ntmps27
  go_wp2
  go_loopw [5] (fun i wr => ∃ j m : Nat, j ≤ n ∧ i = .int .i64 j ∧ wr = w.drewN m) (fun i _ => n - (intOf i).toNat)
  case atStart => exact ⟨0, 0, by omega, rfl, rfl⟩
  case round =>
    obtain ⟨j, m, hj, rfl, rfl⟩ := hrel
    by_cases hlt : j < n
    · obtain ⟨ad, rfl, _, a0⟩ := i32_at HR.out.1 hlt
      obtain ⟨ad', rfl, _, b0⟩ := i32_at HR.out.2 hlt
      have hjI : (j : Int) < (n : Int) := by omega
      have hj0 : (0 : Int) ≤ (j : Int) := Int.natCast_nonneg _
      have hwj : IntKind.i64.wrap ((j : Int) + 1) = (j : Int) + 1 := by rw [IntKind.wrap_i64]; omega
      go_wp2
      go_quiet (fail)
      go_wp2
      go_roundw
      case rel => exact ⟨j + 1, m + nq, by omega, by go_num, by first | rfl | rw [World.drewN_drewN]⟩
      case measure => simp [intOf]; omega
    · go_wp2
      go_ret
      exact ⟨rfl, m, rfl⟩

set_option maxHeartbeats 4000000 in
theorem syms_gen (w : World) (B n c c' : Nat) (A A' : Option Addr) (l l' : List SymD) (h1 : Reads w B 2 A n (symV l)) (h2 : Reads w B 2 A' n (symV l')) (ok : ∀ q ∈ l, q.okw w B) (ok' : ∀ q ∈ l', q.okw w B) (he : l.map SymD.dat = l'.map SymD.dat) (hn : n ≤ 1000000) (hq9 : ∀ q ∈ l, q.n ≤ 1000000) :
    Calls Try.prog 28 #[.slice A n c, .slice A' n c'] w fun e w' => e = .returned (.bool true) ∧ ∃ m, w' = w.drewN m := by
  have hl : l.length = n := by have := h1.1; rw [symV_len] at this; omega
  have hl' : l'.length = n := by have := h2.1; rw [symV_len] at this; omega
  have HR := Lib.hid (And.intro h1 (And.intro h2 (And.intro ok (And.intro ok' (And.intro hl hl')))))
  have HE := Lib.hid he
  have HN9 := Lib.hid hq9
  clear h1 h2 ok ok' hl hl' he hq9
  go_enter Try.func28, Try.ntmps28
  go_wp2
  go_loopw [5] (fun i wr => ∃ j m : Nat, j ≤ n ∧ i = .int .i64 j ∧ wr = w.drewN m) (fun i _ => n - (intOf i).toNat)
  case atStart => exact ⟨0, 0, by omega, rfl, rfl⟩
  case round =>
    obtain ⟨j, m, hj, rfl, rfl⟩ := hrel
    by_cases hlt : j < n
    · obtain ⟨p, hp⟩ := idx_some (l := l) (i := j) (by rw [HR.out.2.2.2.2.1]; exact hlt)
      obtain ⟨q, hq⟩ := idx_some (l := l') (i := j) (by rw [HR.out.2.2.2.2.2]; exact hlt)
      obtain ⟨f0, f1⟩ := symV_at hp
      obtain ⟨g0, g1⟩ := symV_at hq
      have hd : p.dat = q.dat := by
        have h1 : (l.map SymD.dat)[j]? = some p.dat := by rw [List.getElem?_map, hp]; rfl
        have h2 : (l'.map SymD.dat)[j]? = some q.dat := by rw [List.getElem?_map, hq]; rfl
        rw [HE.out, h2] at h1
        injection h1 with h1
        exact h1.symm
      obtain ⟨ad, rfl, _, a0, a1⟩ := pair_at HR.out.1 hlt f0 f1
      obtain ⟨ad', rfl, _, b0, b1⟩ := pair_at HR.out.2.1 hlt g0 g1
      have okp := HR.out.2.2.1 p (List.mem_of_getElem? hp)
      have okq := HR.out.2.2.2.1 q (List.mem_of_getElem? hq)
      have hpn9 := HN9.out p (List.mem_of_getElem? hp)
      clear hp hq f0 f1 g0 g1
      obtain ⟨pk, pa, pn, pc, pz⟩ := p
      obtain ⟨qk, qa, qn, qc, qz⟩ := q
      simp only [SymD.dat, Prod.mk.injEq] at hd
      obtain ⟨rfl, rfl⟩ := hd
      unfold SymD.okw at okp okq
      simp only at okp okq a0 a1 b0 b1 hpn9
      obtain rfl : pn = qn := by rw [← reads_len okp, ← reads_len okq]
      have HI := Lib.hid (fun k => (ints_gen (w.drewN (m + k)) B pn pc qc pa qa pz (okp.drewN _) (okq.drewN _) hpn9).mono (R' := fun e w'' => e = .returned (.bool true) ∧ ∃ x, w'' = w.drewN (m + x)) (by rintro e w' ⟨rfl, x, rfl⟩; exact ⟨rfl, k + x, by rw [World.drewN_drewN, Nat.add_assoc]⟩))
      have hjI : (j : Int) < (n : Int) := by omega
      have hj0 : (0 : Int) ≤ (j : Int) := Int.natCast_nonneg _
      have hwj : IntKind.i64.wrap ((j : Int) + 1) = (j : Int) + 1 := by rw [IntKind.wrap_i64]; omega
      clear okp okq
      go_wp2
      go_quiet (first | (go_at_call 27; exact HI.out _) | fail)
      go_wp2
      go_roundw
      case rel => exact ⟨j + 1, m + nq, by omega, by go_num, by first | rfl | rw [World.drewN_drewN]⟩
      case measure => simp [intOf]; omega
    · go_wp2
      go_ret
      exact ⟨rfl, m, rfl⟩

theorem eqRep (w : World) (a b : Int) : (Op.equalIn 10000 76 (.agg #[.int .i64 a, .int .i64 b]) (.agg #[.int .i64 a, .int .i64 b])).run Try.prog w = .ok true w := by
  have hf : (Try.prog.fieldsOf 76).toList = [{ name := "Sym", type := 3, offset := 0, embedded := false, tag := "", pkgPath := "", byteOffset := 0 }, { name := "Times", type := 3, offset := 1, embedded := false, tag := "", pkgPath := "", byteOffset := 8 }] := by kernel_rfl
  rw [show (10000 : Nat) = 9999 + 1 from rfl, run_equalIn_struct w 9999 _ _ _ (by kernel_rfl) (by kernel_rfl), hf]
  obtain ⟨i0, hi, hz0, hz1, hz2⟩ := info_parts (show (Try.prog.info? 3).map (fun i => (i.zero, i.size, i.bytes)) = some (some (.int .i64 0), 1, 8) by kernel_rfl)
  have h1 := fun x y => run_equalIn_int w 9998 3 .i64 .i64 x y Try.underlying3
  have hc : Try.prog.cellsOf 3 = 1 := by kernel_rfl
  simp [Op.eqFields, part, h1]

theorem conv27b {w : World} {B n : Nat} {A : Option Addr} {zs : List Int} (c : Nat) (hr : Reads w B 1 A n (zs.map (Value.int .u8))) : (convert 27 9 (.slice A n c)).run Try.prog w = .ok (.string (strOfNums zs)) w :=
  conv_reads w 27 5 9 Try.underlying27 Try.underlying5 Try.underlying9 c hr

set_option maxRecDepth 100000 in
set_option maxHeartbeats 8000000 in
theorem same_gen (w : World) (i0 i1 i2 i3 i4 i5 i6 i7 i8 i9 i10 i11 : Int) (DA DA' ta ta' PA PA' RA RA' : Option Addr) (dn dc dc' tn tc tc' pn pc pc' rn rc rc' : Nat) (ds ts : List Int) (pl pl' : List SymD) (rl : List (Int × Int))
    (hd : Reads w w.heap.size 1 DA dn (ds.map (Value.int .u8))) (hd' : Reads w w.heap.size 1 DA' dn (ds.map (Value.int .u8)))
    (ht : Reads w w.heap.size 1 ta tn (ts.map (Value.int .i64))) (ht' : Reads w w.heap.size 1 ta' tn (ts.map (Value.int .i64)))
    (hp : Reads w w.heap.size 2 PA pn (symV pl)) (hp' : Reads w w.heap.size 2 PA' pn (symV pl')) (ok : ∀ q ∈ pl, q.okw w w.heap.size) (ok' : ∀ q ∈ pl', q.okw w w.heap.size) (he : pl.map SymD.dat = pl'.map SymD.dat)
    (hr : Reads w w.heap.size 2 RA rn (fl rl)) (hr' : Reads w w.heap.size 2 RA' rn (fl rl)) (n1 : tn ≤ 1000000) (n2 : pn ≤ 1000000) (n3 : rn ≤ 1000000) (n4 : ∀ q ∈ pl, q.n ≤ 1000000) :
    Calls Try.prog 11 #[.agg #[.int .i64 i0, .int .i64 i1, .int .i64 i2, .int .i64 i3, .int .i64 i4, .int .i64 i5, .int .i64 i6, .int .i64 i7, .int .i64 i8, .int .i64 i9, .int .i64 i10, .int .i64 i11, .slice DA dn dc, .slice ta tn tc, .slice none 0 0, .slice PA pn pc, .slice none 0 0, .slice RA rn rc], .agg #[.int .i64 i0, .int .i64 i1, .int .i64 i2, .int .i64 i3, .int .i64 i4, .int .i64 i5, .int .i64 i6, .int .i64 i7, .int .i64 i8, .int .i64 i9, .int .i64 i10, .int .i64 i11, .slice DA' dn dc', .slice ta' tn tc', .slice none 0 0, .slice PA' pn pc', .slice none 0 0, .slice RA' rn rc']] w fun e w' => e = .returned (.bool true) ∧ Below w.heap.size w w' := by
  have hb : Below w.heap.size w ((w.alloc (.cells #[.int .i64 i0, .int .i64 i1, .int .i64 i2, .int .i64 i3, .int .i64 i4, .int .i64 i5, .int .i64 i6, .int .i64 i7, .int .i64 i8, .int .i64 i9, .int .i64 i10, .int .i64 i11, .slice DA dn dc, .slice ta tn tc, .slice none 0 0, .slice PA pn pc, .slice none 0 0, .slice RA rn rc] 33)).alloc (.cells #[.int .i64 i0, .int .i64 i1, .int .i64 i2, .int .i64 i3, .int .i64 i4, .int .i64 i5, .int .i64 i6, .int .i64 i7, .int .i64 i8, .int .i64 i9, .int .i64 i10, .int .i64 i11, .slice DA' dn dc', .slice ta' tn tc', .slice none 0 0, .slice PA' pn pc', .slice none 0 0, .slice RA' rn rc'] 33)) := ((Below.refl _ _).alloc (Nat.le_refl _) _).alloc (by simp) _
  have hP : Blk ((w.alloc (.cells #[.int .i64 i0, .int .i64 i1, .int .i64 i2, .int .i64 i3, .int .i64 i4, .int .i64 i5, .int .i64 i6, .int .i64 i7, .int .i64 i8, .int .i64 i9, .int .i64 i10, .int .i64 i11, .slice DA dn dc, .slice ta tn tc, .slice none 0 0, .slice PA pn pc, .slice none 0 0, .slice RA rn rc] 33)).alloc (.cells #[.int .i64 i0, .int .i64 i1, .int .i64 i2, .int .i64 i3, .int .i64 i4, .int .i64 i5, .int .i64 i6, .int .i64 i7, .int .i64 i8, .int .i64 i9, .int .i64 i10, .int .i64 i11, .slice DA' dn dc', .slice ta' tn tc', .slice none 0 0, .slice PA' pn pc', .slice none 0 0, .slice RA' rn rc'] 33)) w.heap.size 33 #[.int .i64 i0, .int .i64 i1, .int .i64 i2, .int .i64 i3, .int .i64 i4, .int .i64 i5, .int .i64 i6, .int .i64 i7, .int .i64 i8, .int .i64 i9, .int .i64 i10, .int .i64 i11, .slice DA dn dc, .slice ta tn tc, .slice none 0 0, .slice PA pn pc, .slice none 0 0, .slice RA rn rc] := Blk.alloc (Blk.new w _ _) _
  have hQ : Blk ((w.alloc (.cells #[.int .i64 i0, .int .i64 i1, .int .i64 i2, .int .i64 i3, .int .i64 i4, .int .i64 i5, .int .i64 i6, .int .i64 i7, .int .i64 i8, .int .i64 i9, .int .i64 i10, .int .i64 i11, .slice DA dn dc, .slice ta tn tc, .slice none 0 0, .slice PA pn pc, .slice none 0 0, .slice RA rn rc] 33)).alloc (.cells #[.int .i64 i0, .int .i64 i1, .int .i64 i2, .int .i64 i3, .int .i64 i4, .int .i64 i5, .int .i64 i6, .int .i64 i7, .int .i64 i8, .int .i64 i9, .int .i64 i10, .int .i64 i11, .slice DA' dn dc', .slice ta' tn tc', .slice none 0 0, .slice PA' pn pc', .slice none 0 0, .slice RA' rn rc'] 33)) (w.heap.size + 1) 33 #[.int .i64 i0, .int .i64 i1, .int .i64 i2, .int .i64 i3, .int .i64 i4, .int .i64 i5, .int .i64 i6, .int .i64 i7, .int .i64 i8, .int .i64 i9, .int .i64 i10, .int .i64 i11, .slice DA' dn dc', .slice ta' tn tc', .slice none 0 0, .slice PA' pn pc', .slice none 0 0, .slice RA' rn rc'] := by
    have := Blk.new (w.alloc (.cells #[.int .i64 i0, .int .i64 i1, .int .i64 i2, .int .i64 i3, .int .i64 i4, .int .i64 i5, .int .i64 i6, .int .i64 i7, .int .i64 i8, .int .i64 i9, .int .i64 i10, .int .i64 i11, .slice DA dn dc, .slice ta tn tc, .slice none 0 0, .slice PA pn pc, .slice none 0 0, .slice RA rn rc] 33)) 33 #[.int .i64 i0, .int .i64 i1, .int .i64 i2, .int .i64 i3, .int .i64 i4, .int .i64 i5, .int .i64 i6, .int .i64 i7, .int .i64 i8, .int .i64 i9, .int .i64 i10, .int .i64 i11, .slice DA' dn dc', .slice ta' tn tc', .slice none 0 0, .slice PA' pn pc', .slice none 0 0, .slice RA' rn rc']
    simpa using this
  have hv1 := fun m => conv27b (w := ((w.alloc (.cells #[.int .i64 i0, .int .i64 i1, .int .i64 i2, .int .i64 i3, .int .i64 i4, .int .i64 i5, .int .i64 i6, .int .i64 i7, .int .i64 i8, .int .i64 i9, .int .i64 i10, .int .i64 i11, .slice DA dn dc, .slice ta tn tc, .slice none 0 0, .slice PA pn pc, .slice none 0 0, .slice RA rn rc] 33)).alloc (.cells #[.int .i64 i0, .int .i64 i1, .int .i64 i2, .int .i64 i3, .int .i64 i4, .int .i64 i5, .int .i64 i6, .int .i64 i7, .int .i64 i8, .int .i64 i9, .int .i64 i10, .int .i64 i11, .slice DA' dn dc', .slice ta' tn tc', .slice none 0 0, .slice PA' pn pc', .slice none 0 0, .slice RA' rn rc'] 33)).drewN m) dc ((hd.below hb).drewN m)
  have hv2 := fun m => conv27b (w := ((w.alloc (.cells #[.int .i64 i0, .int .i64 i1, .int .i64 i2, .int .i64 i3, .int .i64 i4, .int .i64 i5, .int .i64 i6, .int .i64 i7, .int .i64 i8, .int .i64 i9, .int .i64 i10, .int .i64 i11, .slice DA dn dc, .slice ta tn tc, .slice none 0 0, .slice PA pn pc, .slice none 0 0, .slice RA rn rc] 33)).alloc (.cells #[.int .i64 i0, .int .i64 i1, .int .i64 i2, .int .i64 i3, .int .i64 i4, .int .i64 i5, .int .i64 i6, .int .i64 i7, .int .i64 i8, .int .i64 i9, .int .i64 i10, .int .i64 i11, .slice DA' dn dc', .slice ta' tn tc', .slice none 0 0, .slice PA' pn pc', .slice none 0 0, .slice RA' rn rc'] 33)).drewN m) dc' ((hd'.below hb).drewN m)
  have hv1' := conv27b dc (hd.below hb)
  have hv2' := conv27b dc' (hd'.below hb)
  generalize strOfNums ds = S at *
  have HM := Lib.hid (And.intro (ht.below hb) (And.intro (ht'.below hb) (And.intro (hp.below hb) (And.intro (hp'.below hb) (And.intro (fun q hq => (ok q hq).below hb) (And.intro (fun q hq => (ok' q hq).below hb) (And.intro (hr.below hb) (hr'.below hb))))))))
  have HE := Lib.hid he
  have hrl : rl.length = rn := by have := hr.1; rw [fl_len] at this; omega
  have HRL := Lib.hid hrl
  have HB := Lib.hid hb
  have HN4 := Lib.hid n4
  clear n4 hd hd' ht ht' hp hp' ok ok' he hr hr' hrl hb
  go_enter Try.func11, Try.ntmps11
  go_upto_region 1 with fail
  generalize ((w.alloc (.cells #[.int .i64 i0, .int .i64 i1, .int .i64 i2, .int .i64 i3, .int .i64 i4, .int .i64 i5, .int .i64 i6, .int .i64 i7, .int .i64 i8, .int .i64 i9, .int .i64 i10, .int .i64 i11, .slice DA dn dc, .slice ta tn tc, .slice none 0 0, .slice PA pn pc, .slice none 0 0, .slice RA rn rc] 33)).alloc (.cells #[.int .i64 i0, .int .i64 i1, .int .i64 i2, .int .i64 i3, .int .i64 i4, .int .i64 i5, .int .i64 i6, .int .i64 i7, .int .i64 i8, .int .i64 i9, .int .i64 i10, .int .i64 i11, .slice DA' dn dc', .slice ta' tn tc', .slice none 0 0, .slice PA' pn pc', .slice none 0 0, .slice RA' rn rc'] 33)) = W at *
  have pc0 : W.cell? ⟨w.heap.size, 0, none⟩ = some (.int .i64 i0) := (hP.cell 0).trans rfl
  have pc1 : W.cell? ⟨w.heap.size, 1, none⟩ = some (.int .i64 i1) := (hP.cell 1).trans rfl
  have pc2 : W.cell? ⟨w.heap.size, 2, none⟩ = some (.int .i64 i2) := (hP.cell 2).trans rfl
  have pc3 : W.cell? ⟨w.heap.size, 3, none⟩ = some (.int .i64 i3) := (hP.cell 3).trans rfl
  have pc4 : W.cell? ⟨w.heap.size, 4, none⟩ = some (.int .i64 i4) := (hP.cell 4).trans rfl
  have pc5 : W.cell? ⟨w.heap.size, 5, none⟩ = some (.int .i64 i5) := (hP.cell 5).trans rfl
  have pc6 : W.cell? ⟨w.heap.size, 6, none⟩ = some (.int .i64 i6) := (hP.cell 6).trans rfl
  have pc7 : W.cell? ⟨w.heap.size, 7, none⟩ = some (.int .i64 i7) := (hP.cell 7).trans rfl
  have pc8 : W.cell? ⟨w.heap.size, 8, none⟩ = some (.int .i64 i8) := (hP.cell 8).trans rfl
  have pc9 : W.cell? ⟨w.heap.size, 9, none⟩ = some (.int .i64 i9) := (hP.cell 9).trans rfl
  have pc10 : W.cell? ⟨w.heap.size, 10, none⟩ = some (.int .i64 i10) := (hP.cell 10).trans rfl
  have pc11 : W.cell? ⟨w.heap.size, 11, none⟩ = some (.int .i64 i11) := (hP.cell 11).trans rfl
  have pc12 : W.cell? ⟨w.heap.size, 12, none⟩ = some (.slice DA dn dc) := (hP.cell 12).trans rfl
  have pc13 : W.cell? ⟨w.heap.size, 13, none⟩ = some (.slice ta tn tc) := (hP.cell 13).trans rfl
  have pc14 : W.cell? ⟨w.heap.size, 14, none⟩ = some (.slice none 0 0) := (hP.cell 14).trans rfl
  have pc15 : W.cell? ⟨w.heap.size, 15, none⟩ = some (.slice PA pn pc) := (hP.cell 15).trans rfl
  have pc16 : W.cell? ⟨w.heap.size, 16, none⟩ = some (.slice none 0 0) := (hP.cell 16).trans rfl
  have pc17 : W.cell? ⟨w.heap.size, 17, none⟩ = some (.slice RA rn rc) := (hP.cell 17).trans rfl
  have qc0 : W.cell? ⟨w.heap.size + 1, 0, none⟩ = some (.int .i64 i0) := (hQ.cell 0).trans rfl
  have qc1 : W.cell? ⟨w.heap.size + 1, 1, none⟩ = some (.int .i64 i1) := (hQ.cell 1).trans rfl
  have qc2 : W.cell? ⟨w.heap.size + 1, 2, none⟩ = some (.int .i64 i2) := (hQ.cell 2).trans rfl
  have qc3 : W.cell? ⟨w.heap.size + 1, 3, none⟩ = some (.int .i64 i3) := (hQ.cell 3).trans rfl
  have qc4 : W.cell? ⟨w.heap.size + 1, 4, none⟩ = some (.int .i64 i4) := (hQ.cell 4).trans rfl
  have qc5 : W.cell? ⟨w.heap.size + 1, 5, none⟩ = some (.int .i64 i5) := (hQ.cell 5).trans rfl
  have qc6 : W.cell? ⟨w.heap.size + 1, 6, none⟩ = some (.int .i64 i6) := (hQ.cell 6).trans rfl
  have qc7 : W.cell? ⟨w.heap.size + 1, 7, none⟩ = some (.int .i64 i7) := (hQ.cell 7).trans rfl
  have qc8 : W.cell? ⟨w.heap.size + 1, 8, none⟩ = some (.int .i64 i8) := (hQ.cell 8).trans rfl
  have qc9 : W.cell? ⟨w.heap.size + 1, 9, none⟩ = some (.int .i64 i9) := (hQ.cell 9).trans rfl
  have qc10 : W.cell? ⟨w.heap.size + 1, 10, none⟩ = some (.int .i64 i10) := (hQ.cell 10).trans rfl
  have qc11 : W.cell? ⟨w.heap.size + 1, 11, none⟩ = some (.int .i64 i11) := (hQ.cell 11).trans rfl
  have qc12 : W.cell? ⟨w.heap.size + 1, 12, none⟩ = some (.slice DA' dn dc') := (hQ.cell 12).trans rfl
  have qc13 : W.cell? ⟨w.heap.size + 1, 13, none⟩ = some (.slice ta' tn tc') := (hQ.cell 13).trans rfl
  have qc14 : W.cell? ⟨w.heap.size + 1, 14, none⟩ = some (.slice none 0 0) := (hQ.cell 14).trans rfl
  have qc15 : W.cell? ⟨w.heap.size + 1, 15, none⟩ = some (.slice PA' pn pc') := (hQ.cell 15).trans rfl
  have qc16 : W.cell? ⟨w.heap.size + 1, 16, none⟩ = some (.slice none 0 0) := (hQ.cell 16).trans rfl
  have qc17 : W.cell? ⟨w.heap.size + 1, 17, none⟩ = some (.slice RA' rn rc') := (hQ.cell 17).trans rfl
  clear hP hQ
  go_wp2_with fail
  refine (ints_gen W w.heap.size tn tc tc' ta ta' ts HM.out.1 HM.out.2.1 n1).mono ?_
  rintro e w1 ⟨rfl, m1, rfl⟩
  go_wp2_with fail
  refine (syms_gen _ w.heap.size pn pc pc' PA PA' pl pl' (HM.out.2.2.1.drewN m1) (HM.out.2.2.2.1.drewN m1) (fun q hq => (HM.out.2.2.2.2.1 q hq).drewN m1) (fun q hq => (HM.out.2.2.2.2.2.1 q hq).drewN m1) HE.out n2 HN4.out).mono ?_
  rintro e w1 ⟨rfl, m2, rfl⟩
  go_wp2_with fail
  refine (syms_gen _ w.heap.size 0 0 0 none none [] [] Reads.none_ Reads.none_ nofun nofun rfl (by omega) nofun).mono ?_
  rintro e w1 ⟨rfl, m3, rfl⟩
  simp only [World.drewN_drewN]
  generalize hm : m1 + m2 + m3 = m at *
  clear hm
  go_wp2_with fail
  go_loopw [5] (fun i wr => ∃ j k : Nat, j ≤ rn ∧ i = .int .i64 j ∧ wr = W.drewN k) (fun i _ => rn - (intOf i).toNat)
  case atStart => exact ⟨0, m, by omega, rfl, rfl⟩
  case round =>
    obtain ⟨j, k, hj, rfl, rfl⟩ := hrel
    by_cases hlt : j < rn
    · obtain ⟨⟨s, t⟩, hst⟩ := idx_some (l := rl) (i := j) (by rw [HRL.out]; exact hlt)
      obtain ⟨f0, f1⟩ := fl_at hst
      obtain ⟨ad, rfl, _, a0, a1⟩ := pair_at HM.out.2.2.2.2.2.2.1 hlt f0 f1
      obtain ⟨ad', rfl, _, b0, b1⟩ := pair_at HM.out.2.2.2.2.2.2.2 hlt f0 f1
      clear f0 f1 hst
      simp only at a0 a1 b0 b1
      have heq := fun w' => eqRep w' s t
      have hjI : (j : Int) < (rn : Int) := by omega
      have hj0 : (0 : Int) ≤ (j : Int) := Int.natCast_nonneg _
      have hwj : IntKind.i64.wrap ((j : Int) + 1) = (j : Int) + 1 := by rw [IntKind.wrap_i64]; omega
      go_wp2
      go_quiet (fail)
      go_wp2
      go_roundw
      case rel => exact ⟨j + 1, k + nq, by omega, by go_num, by first | rfl | rw [World.drewN_drewN]⟩
      case measure => simp [intOf]; omega
    · go_wp2_with fail
      go_loopw [6] (fun i wr => i = .int .i64 0 ∧ wr = W.drewN k) (fun _ _ => 0)
      case atStart => exact ⟨rfl, rfl⟩
      case round =>
        obtain ⟨rfl, rfl⟩ := hrel
        go_wp2
        go_ret
        exact ⟨rfl, below_drewN HB.out k⟩

end Go.Proofs.Ytckgmnlmimogjaa
