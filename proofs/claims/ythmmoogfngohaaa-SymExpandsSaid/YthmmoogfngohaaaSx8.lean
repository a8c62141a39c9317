/- The law SymExpands walked: the edges of any generalised block, or why there are none, are the document's. -/
import Derived.Test.YthmmoogfngohaaaSx7
namespace Go.Proofs.Ythmmoogfngohaaa
open Go.RowKit

set_option maxHeartbeats 2000000 in
theorem same_gen (w : World) (v1 v2 : Value) (B1 B2 : Nat) (L : Edges) (h1 : w.ownsRow B1 45 2 v1 L.length (fl L)) (h2 : w.ownsRow B2 55 2 v2 L.length (fl L)) (hK : L.length ≤ 1048576) :
    Calls Try.prog 9 #[v1, v2] w fun e w' => e = .returned (.bool true) ∧ ∃ n, w' = w.drewN n := by
  have r1 := h1
  have r2 := h2
  obtain ⟨A1, c1, rfl⟩ := own_slice r1
  obtain ⟨A2, c2, rfl⟩ := own_slice r2
  have HR1 := Lib.hid (Reads.of_own r1)
  have HR2 := Lib.hid (Reads.of_own r2)
  have HI := Lib.hid (fun j (h : j < L.length) => idx_some (l := L) (i := j) h)
  have HF := Lib.hid (fun j p (h : L[j]? = some p) => fl_at (l := L) (i := j) (p := p) h)
  clear h1 h2 r1 r2
  generalize hk : L.length = K at *
  have HK := Lib.hid hk
  clear hk
  go_enter Try.func9, Try.ntmps9
  go_wp2
  go_loopw [5] (fun i wr => ∃ j n : Nat, j ≤ K ∧ i = .int .i64 j ∧ wr = w.drewN n) (fun i _ => K - (intOf i).toNat)
  case atStart => exact ⟨0, 0, by omega, rfl, rfl⟩
  case round =>
    obtain ⟨j, n, hj, rfl, rfl⟩ := hrel
    by_cases hlt : j < K
    · obtain ⟨⟨s, t⟩, hst⟩ := HI.out j hlt
      obtain ⟨f1, f2⟩ := HF.out j _ hst
      obtain ⟨g1, rfl, _, a0, a1⟩ := pair_at HR1.out hlt f1 f2
      obtain ⟨g2, rfl, _, b0, b1⟩ := pair_at HR2.out hlt f1 f2
      clear f1 f2 hst
      have hjI : (j : Int) < (K : Int) := by omega
      have hj0 : (0 : Int) ≤ (j : Int) := Int.natCast_nonneg _
      have hwj : IntKind.i64.wrap ((j : Int) + 1) = (j : Int) + 1 := by rw [IntKind.wrap_i64]; omega
      simp only at a0 a1 b0 b1
      go_wp2
      go_quiet (fail)
      go_wp2
      go_roundw
      case rel => exact ⟨j + 1, n + nq, by omega, by go_num, by first | rfl | rw [World.drewN_drewN]⟩
      case measure => simp [intOf]; omega
    · go_wp2
      go_ret
      exact ⟨rfl, n, rfl⟩

/-- a symbol of any length -/
def SymD.okw (w : World) (B : Nat) (q : SymD) : Prop := -9223372036854775808 ≤ q.k ∧ q.k ≤ 9223372036854775807 ∧ Reads w B 1 q.a q.n (q.zs.map (Value.int .i64))
theorem SymD.okw.below {w w' : World} {B : Nat} {q : SymD} (h : q.okw w B) (hb : Below B w w') : q.okw w' B := ⟨h.1, h.2.1, h.2.2.below hb⟩
theorem SymD.ok.below {w w' : World} {B : Nat} {q : SymD} (h : q.ok w B) (hb : Below B w w') : q.ok w' B := ⟨h.1, h.2.1, h.2.2.1.below hb, h.2.2.2⟩

/-- light's answer: true only if so much is small -/
def LightP (w w' : World) (e : Ending) (p : Prop) : Prop := ∃ b, e = .returned (.bool b) ∧ (b = true → p) ∧ Below w.heap.size w w'

set_option maxRecDepth 100000 in
set_option maxHeartbeats 8000000 in
theorem light_gen (w : World) (pil sy : List SymD) (reps : List (Int × Int)) (i0 i1 i2 i3 i4 i5 i6 i7 i8 i9 i10 i11 : Int) (DA ta ia PA YA RA : Option Addr) (dn dc tn tc im ic pn pc yn yc rn rc : Nat)
    (hP : Reads w w.heap.size 2 PA pn (symV pil)) (hRp : Reads w w.heap.size 2 RA rn (fl reps)) (hrb : ∀ p ∈ reps, -9223372036854775808 ≤ p.1 ∧ p.1 ≤ 9223372036854775807 ∧ -9223372036854775808 ≤ p.2 ∧ p.2 ≤ 9223372036854775807)
    (hY : Reads w w.heap.size 2 YA yn (symV sy)) :
    Calls Try.prog 5 #[.agg #[.int .i64 i0, .int .i64 i1, .int .i64 i2, .int .i64 i3, .int .i64 i4, .int .i64 i5, .int .i64 i6, .int .i64 i7, .int .i64 i8, .int .i64 i9, .int .i64 i10, .int .i64 i11, .slice DA dn dc, .slice ta tn tc, .slice ia im ic, .slice PA pn pc, .slice YA yn yc, .slice RA rn rc]] w fun e w' => LightP w w' e (rn ≤ 10000 ∧ pn ≤ 256 ∧ yn ≤ 256 ∧ dn ≤ 1000 ∧ (∀ q ∈ pil, q.n ≤ 300) ∧ (∀ q ∈ sy, q.n ≤ 300)) := by
  have hB1 : Blk (w.alloc (.cells #[.int .i64 i0, .int .i64 i1, .int .i64 i2, .int .i64 i3, .int .i64 i4, .int .i64 i5, .int .i64 i6, .int .i64 i7, .int .i64 i8, .int .i64 i9, .int .i64 i10, .int .i64 i11, .slice DA dn dc, .slice ta tn tc, .slice ia im ic, .slice PA pn pc, .slice YA yn yc, .slice RA rn rc] 28)) w.heap.size 28 #[.int .i64 i0, .int .i64 i1, .int .i64 i2, .int .i64 i3, .int .i64 i4, .int .i64 i5, .int .i64 i6, .int .i64 i7, .int .i64 i8, .int .i64 i9, .int .i64 i10, .int .i64 i11, .slice DA dn dc, .slice ta tn tc, .slice ia im ic, .slice PA pn pc, .slice YA yn yc, .slice RA rn rc] := Blk.new w _ _
  have hb : Below w.heap.size w (w.alloc (.cells #[.int .i64 i0, .int .i64 i1, .int .i64 i2, .int .i64 i3, .int .i64 i4, .int .i64 i5, .int .i64 i6, .int .i64 i7, .int .i64 i8, .int .i64 i9, .int .i64 i10, .int .i64 i11, .slice DA dn dc, .slice ta tn tc, .slice ia im ic, .slice PA pn pc, .slice YA yn yc, .slice RA rn rc] 28)) := (Below.refl _ _).alloc (Nat.le_refl _) _
  have hpl : pil.length = pn := by have := hP.1; rw [symV_len] at this; omega
  have hyl : sy.length = yn := by have := hY.1; rw [symV_len] at this; omega
  have hrn : reps.length = rn := by have := hRp.1; rw [fl_len] at this; omega
  have HM := Lib.hid (And.intro (hP.below hb) (And.intro (hRp.below hb) (And.intro hrb (hY.below hb))))
  have HPL := Lib.hid hpl
  have HYL := Lib.hid hyl
  have HRN := Lib.hid hrn
  have HB := Lib.hid hb
  have k12 : (w.alloc (.cells #[.int .i64 i0, .int .i64 i1, .int .i64 i2, .int .i64 i3, .int .i64 i4, .int .i64 i5, .int .i64 i6, .int .i64 i7, .int .i64 i8, .int .i64 i9, .int .i64 i10, .int .i64 i11, .slice DA dn dc, .slice ta tn tc, .slice ia im ic, .slice PA pn pc, .slice YA yn yc, .slice RA rn rc] 28)).cell? ⟨w.heap.size, 12, none⟩ = some (.slice DA dn dc) := (hB1.cell 12).trans rfl
  have k15 : (w.alloc (.cells #[.int .i64 i0, .int .i64 i1, .int .i64 i2, .int .i64 i3, .int .i64 i4, .int .i64 i5, .int .i64 i6, .int .i64 i7, .int .i64 i8, .int .i64 i9, .int .i64 i10, .int .i64 i11, .slice DA dn dc, .slice ta tn tc, .slice ia im ic, .slice PA pn pc, .slice YA yn yc, .slice RA rn rc] 28)).cell? ⟨w.heap.size, 15, none⟩ = some (.slice PA pn pc) := (hB1.cell 15).trans rfl
  have k16 : (w.alloc (.cells #[.int .i64 i0, .int .i64 i1, .int .i64 i2, .int .i64 i3, .int .i64 i4, .int .i64 i5, .int .i64 i6, .int .i64 i7, .int .i64 i8, .int .i64 i9, .int .i64 i10, .int .i64 i11, .slice DA dn dc, .slice ta tn tc, .slice ia im ic, .slice PA pn pc, .slice YA yn yc, .slice RA rn rc] 28)).cell? ⟨w.heap.size, 16, none⟩ = some (.slice YA yn yc) := (hB1.cell 16).trans rfl
  have k17 : (w.alloc (.cells #[.int .i64 i0, .int .i64 i1, .int .i64 i2, .int .i64 i3, .int .i64 i4, .int .i64 i5, .int .i64 i6, .int .i64 i7, .int .i64 i8, .int .i64 i9, .int .i64 i10, .int .i64 i11, .slice DA dn dc, .slice ta tn tc, .slice ia im ic, .slice PA pn pc, .slice YA yn yc, .slice RA rn rc] 28)).cell? ⟨w.heap.size, 17, none⟩ = some (.slice RA rn rc) := (hB1.cell 17).trans rfl
  clear hP hRp hrb hY hpl hyl hrn hb hB1
  go_enter Try.func5, Try.ntmps5
  go_upto_region 1 with fail
  generalize w.alloc (.cells #[.int .i64 i0, .int .i64 i1, .int .i64 i2, .int .i64 i3, .int .i64 i4, .int .i64 i5, .int .i64 i6, .int .i64 i7, .int .i64 i8, .int .i64 i9, .int .i64 i10, .int .i64 i11, .slice DA dn dc, .slice ta tn tc, .slice ia im ic, .slice PA pn pc, .slice YA yn yc, .slice RA rn rc] 28) = W at *
  go_wp2_with fail
  go_loopw [3, 4] (fun x y wr => ∃ m i : Nat, x = .int .i64 m ∧ y = .int .i64 i ∧ i ≤ rn ∧ i ≤ m ∧ m ≤ 300001 ∧ W = wr) (fun _ y _ => rn + 1 - (intOf y).toNat)
  case atStart => exact ⟨0, 0, rfl, rfl, by omega, by omega, by omega, by trivial⟩
  case round =>
    obtain ⟨m, i, rfl, rfl, hi, him, hm, rfl⟩ := hrel
    by_cases hlt : i < rn
    · have hiI : (i : Int) < (rn : Int) := by omega
      have HJ := Lib.hid hlt
      by_cases hm2 : m < 200000
      · have hmI : (m : Int) < 200000 := by omega
        have hi0 : (0 : Int) ≤ (i : Int) := Int.natCast_nonneg _
        have hwi : IntKind.i64.wrap ((i : Int) + 1) = (i : Int) + 1 := by rw [IntKind.wrap_i64]; omega
        have hwm : IntKind.i64.wrap ((m : Int) + 1) = (m : Int) + 1 := by rw [IntKind.wrap_i64]; omega
        obtain ⟨⟨s, t⟩, hst⟩ := idx_some (l := reps) (i := i) (by rw [HRN.out]; exact hlt)
        obtain ⟨f1, f2⟩ := fl_at hst
        obtain ⟨ra, rfl, hrab, q0, q1⟩ := pair_at HM.out.2.1 hlt f1 f2
        have hbd := HM.out.2.2.1 _ (List.mem_of_getElem? hst)
        simp only at q0 q1 hbd
        clear f1 f2 hst
        by_cases t0 : t < 0
        · have ht1 : ¬ (100000 : Int) < t := by omega
          have ht2 : t < 100000 := by omega
          go_wp2
          go_roundw
          case rel => exact ⟨m + 1, i + 1, by first | rfl | go_num, by go_num, HJ.out, by omega, by omega, by trivial⟩
          case measure => have := HJ.out; simp [intOf]; omega
        · obtain ⟨t', rfl⟩ : ∃ t' : Nat, t = t' := ⟨t.toNat, by omega⟩
          by_cases t1 : t' < 100000
          · have ht2 : (t' : Int) < 100000 := by omega
            have ht3 : ¬ (t' : Int) < 0 := by omega
            have hwt : IntKind.i64.wrap ((m : Int) + 1 + (t' : Int)) = (m : Int) + 1 + (t' : Int) := by rw [IntKind.wrap_i64]; omega
            by_cases t2 : t' = 0
            · subst t2
              go_wp2
              go_roundw
              case rel => exact ⟨m + 1, i + 1, by first | rfl | go_num, by go_num, HJ.out, by omega, by omega, by trivial⟩
              case measure => have := HJ.out; simp [intOf]; omega
            · have ht4 : (0 : Int) < (t' : Int) := by omega
              go_wp2
              go_roundw
              case rel => exact ⟨m + 1 + t', i + 1, by first | rfl | go_num, by go_num, HJ.out, by omega, by omega, by trivial⟩
              case measure => have := HJ.out; simp [intOf]; omega
          · have hwt : IntKind.i64.wrap ((m : Int) + 1 + 100000) = (m : Int) + 1 + 100000 := by rw [IntKind.wrap_i64]; omega
            by_cases t2 : t' = 100000
            · subst t2
              go_wp2
              go_roundw
              case rel => exact ⟨m + 1 + 100000, i + 1, by first | rfl | go_num, by go_num, HJ.out, by omega, by omega, by trivial⟩
              case measure => have := HJ.out; simp [intOf]; omega
            · have ht4 : (100000 : Int) < (t' : Int) := by omega
              have ht5 : ¬ (t' : Int) < 100000 := by omega
              go_wp2
              go_roundw
              case rel => exact ⟨m + 1 + 100000, i + 1, by first | rfl | go_num, by go_num, HJ.out, by omega, by omega, by trivial⟩
              case measure => have := HJ.out; simp [intOf]; omega
      · have hmI : ¬ (m : Int) < 200000 := by omega
        have HMM := Lib.hid (show m ≤ 10000 → rn ≤ 10000 from fun h => absurd h (by omega))
        clear hm2 him hm hi hlt HJ
        go_wp2_with fail
        go_loopw [5, 6] (fun x y wr => ∃ g i : Nat, x = .int .i64 g ∧ y = .int .i64 i ∧ i ≤ pn ∧ i ≤ 300 ∧ (∀ j q, j < i → pil[j]? = some q → q.n ≤ g) ∧ W = wr) (fun _ y _ => pn + 1 - (intOf y).toNat)
        case atStart => exact ⟨1, 0, rfl, rfl, by omega, by omega, fun j q hj => by omega, by trivial⟩
        case round =>
          obtain ⟨g, i, rfl, rfl, hip, hi3, hall, rfl⟩ := hrel
          by_cases hlt : i < pn ∧ i < 300
          · obtain ⟨hlt, hl3⟩ := hlt
            have hiI : (i : Int) < (pn : Int) := by omega
            have hi3I : (i : Int) < 300 := by omega
            have hi0 : (0 : Int) ≤ (i : Int) := Int.natCast_nonneg _
            have hwi : IntKind.i64.wrap ((i : Int) + 1) = (i : Int) + 1 := by rw [IntKind.wrap_i64]; omega
            have HJ := Lib.hid (And.intro hlt hl3)
            have HALL := Lib.hid hall
            clear hall
            obtain ⟨q, hq⟩ := idx_some (l := pil) (i := i) (by rw [HPL.out]; exact hlt)
            obtain ⟨p1, p2⟩ := symV_at hq
            obtain ⟨pa, rfl, hpab, c0, c1⟩ := pair_at HM.out.1 hlt p1 p2
            have HQ := Lib.hid hq
            clear p1 p2 hq
            obtain ⟨qk, qa, qn, qc, qz⟩ := q
            simp only at c0 c1
            rcases Nat.lt_trichotomy g qn with h | h | h
            · have h1 : (g : Int) < (qn : Int) := by omega
              go_wp2
              go_roundw
              case rel =>
                refine ⟨qn, i + 1, by first | rfl | go_num, by go_num, HJ.out.1, HJ.out.2, fun j q hj hjq => ?_, by trivial⟩
                by_cases e : j = i
                · subst e
                  have e2 := HQ.out.symm.trans hjq
                  injection e2 with e2
                  subst e2
                  simp only
                  omega
                · exact Nat.le_trans (HALL.out j q (by omega) hjq) (by omega)
              case measure => have := HJ.out; simp [intOf]; omega
            · subst h
              go_wp2
              go_roundw
              case rel =>
                refine ⟨g, i + 1, by first | rfl | go_num, by go_num, HJ.out.1, HJ.out.2, fun j q hj hjq => ?_, by trivial⟩
                by_cases e : j = i
                · subst e
                  have e2 := HQ.out.symm.trans hjq
                  injection e2 with e2
                  subst e2
                  simp only
                  omega
                · exact Nat.le_trans (HALL.out j q (by omega) hjq) (by omega)
              case measure => have := HJ.out; simp [intOf]; omega
            · have h1 : (qn : Int) < (g : Int) := by omega
              go_wp2
              go_roundw
              case rel =>
                refine ⟨g, i + 1, by first | rfl | go_num, by go_num, HJ.out.1, HJ.out.2, fun j q hj hjq => ?_, by trivial⟩
                by_cases e : j = i
                · subst e
                  have e2 := HQ.out.symm.trans hjq
                  injection e2 with e2
                  subst e2
                  simp only
                  omega
                · exact Nat.le_trans (HALL.out j q (by omega) hjq) (by omega)
              case measure => have := HJ.out; simp [intOf]; omega
          · have HA1 := Lib.hid (show pn ≤ 256 → ∀ q ∈ pil, q.n ≤ g from fun h q hq => by
              obtain ⟨j, hj⟩ := List.mem_iff_getElem?.1 hq
              have hjl : j < pil.length := by
                rcases Nat.lt_or_ge j pil.length with h | h
                · exact h
                · rw [List.getElem?_eq_none h] at hj; cases hj
              have := HPL.out
              exact hall j q (by omega) hj)
            have hcase : ¬ (i < pn) ∨ ¬ (i < 300) := by omega
            clear hall
            have hg1 : ∃ g1, g1 = g := ⟨_, rfl⟩
            obtain ⟨g1, rfl⟩ := hg1
            rcases Nat.lt_or_ge i pn with h1 | h1
            · have hiI : (i : Int) < (pn : Int) := by omega
              have hi3I : ¬ (i : Int) < 300 := by omega
              clear hlt hcase hi3 hip h1
              go_wp2_with fail
              go_loopw [5, 7] (fun x y wr => ∃ g i : Nat, g1 ≤ g ∧ x = .int .i64 g ∧ y = .int .i64 i ∧ i ≤ yn ∧ i ≤ 300 ∧ (∀ j q, j < i → sy[j]? = some q → q.n ≤ g) ∧ W = wr) (fun _ y _ => yn + 1 - (intOf y).toNat)
              case atStart => exact ⟨g1, 0, Nat.le_refl _, rfl, rfl, by omega, by omega, fun j q hj => by omega, rfl⟩
              case round =>
                obtain ⟨g, i, hgg, rfl, rfl, hip, hi3, hall, rfl⟩ := hrel
                by_cases hlt : i < yn ∧ i < 300
                · obtain ⟨hlt, hl3⟩ := hlt
                  have hiI : (i : Int) < (yn : Int) := by omega
                  have hi3I : (i : Int) < 300 := by omega
                  have hi0 : (0 : Int) ≤ (i : Int) := Int.natCast_nonneg _
                  have hwi : IntKind.i64.wrap ((i : Int) + 1) = (i : Int) + 1 := by rw [IntKind.wrap_i64]; omega
                  have HJ := Lib.hid (And.intro hlt hl3)
                  have HALL := Lib.hid hall
                  clear hall
                  obtain ⟨q, hq⟩ := idx_some (l := sy) (i := i) (by rw [HYL.out]; exact hlt)
                  obtain ⟨p1, p2⟩ := symV_at hq
                  obtain ⟨pa, rfl, hpab, c0, c1⟩ := pair_at HM.out.2.2.2 hlt p1 p2
                  have HQ := Lib.hid hq
                  clear p1 p2 hq
                  obtain ⟨qk, qa, qn, qc, qz⟩ := q
                  simp only at c0 c1
                  rcases Nat.lt_trichotomy g qn with h | h | h
                  · have h1 : (g : Int) < (qn : Int) := by omega
                    go_wp2
                    go_roundw
                    case rel =>
                      refine ⟨qn, i + 1, by omega, by first | rfl | go_num, by go_num, HJ.out.1, HJ.out.2, fun j q hj hjq => ?_, by trivial⟩
                      by_cases e : j = i
                      · subst e
                        have e2 := HQ.out.symm.trans hjq
                        injection e2 with e2
                        subst e2
                        simp only
                        omega
                      · exact Nat.le_trans (HALL.out j q (by omega) hjq) (by omega)
                    case measure => have := HJ.out; simp [intOf]; omega
                  · subst h
                    go_wp2
                    go_roundw
                    case rel =>
                      refine ⟨g, i + 1, hgg, by first | rfl | go_num, by go_num, HJ.out.1, HJ.out.2, fun j q hj hjq => ?_, by trivial⟩
                      by_cases e : j = i
                      · subst e
                        have e2 := HQ.out.symm.trans hjq
                        injection e2 with e2
                        subst e2
                        simp only
                        omega
                      · exact Nat.le_trans (HALL.out j q (by omega) hjq) (by omega)
                    case measure => have := HJ.out; simp [intOf]; omega
                  · have h1 : (qn : Int) < (g : Int) := by omega
                    go_wp2
                    go_roundw
                    case rel =>
                      refine ⟨g, i + 1, hgg, by first | rfl | go_num, by go_num, HJ.out.1, HJ.out.2, fun j q hj hjq => ?_, by trivial⟩
                      by_cases e : j = i
                      · subst e
                        have e2 := HQ.out.symm.trans hjq
                        injection e2 with e2
                        subst e2
                        simp only
                        omega
                      · exact Nat.le_trans (HALL.out j q (by omega) hjq) (by omega)
                    case measure => have := HJ.out; simp [intOf]; omega
                · have HG1 := Lib.hid hgg
                  have HA2 := Lib.hid (show yn ≤ 256 → ∀ q ∈ sy, q.n ≤ g from fun h q hq => by
                    obtain ⟨j, hj⟩ := List.mem_iff_getElem?.1 hq
                    have hjl : j < sy.length := by
                      rcases Nat.lt_or_ge j sy.length with h | h
                      · exact h
                      · rw [List.getElem?_eq_none h] at hj; cases hj
                    have := HYL.out
                    exact hall j q (by omega) hj)
                  have hcase : ¬ (i < yn) ∨ ¬ (i < 300) := by omega
                  clear hall
                  rcases Nat.lt_or_ge i yn with h1 | h1
                  · have hiI : (i : Int) < (yn : Int) := by omega
                    have hi3I : ¬ (i : Int) < 300 := by omega
                    clear hlt hcase hi3 hip h1 hgg
                    by_cases d1 : (m : Int) ≤ 10000
                    · by_cases d2 : (pn : Int) ≤ 256
                      · by_cases d3 : (yn : Int) ≤ 256
                        · by_cases d4 : (dn : Int) ≤ 1000
                          · by_cases d5 : (g : Int) ≤ 300
                            · have HE := Lib.hid (show rn ≤ 10000 ∧ pn ≤ 256 ∧ yn ≤ 256 ∧ dn ≤ 1000 ∧ (∀ q ∈ pil, q.n ≤ 300) ∧ (∀ q ∈ sy, q.n ≤ 300) from
                                ⟨HMM.out (by omega), by omega, by omega, by omega, fun q hq => by have := HA1.out (by omega) q hq; have := HG1.out; omega, fun q hq => by have := HA2.out (by omega) q hq; omega⟩)
                              first | (exfalso; omega) | (go_wp2; go_ret; exact ⟨true, rfl, fun _ => HE.out, HB.out⟩)
                            · first | (exfalso; omega) | (go_wp2; go_ret; exact ⟨false, rfl, nofun, HB.out⟩)
                          · first | (exfalso; omega) | (go_wp2; go_ret; exact ⟨false, rfl, nofun, HB.out⟩)
                        · first | (exfalso; omega) | (go_wp2; go_ret; exact ⟨false, rfl, nofun, HB.out⟩)
                      · first | (exfalso; omega) | (go_wp2; go_ret; exact ⟨false, rfl, nofun, HB.out⟩)
                    · first | (exfalso; omega) | (go_wp2; go_ret; exact ⟨false, rfl, nofun, HB.out⟩)
                  · have hiI : ¬ (i : Int) < (yn : Int) := by omega
                    clear hlt hcase hi3 hip h1 hgg
                    by_cases d1 : (m : Int) ≤ 10000
                    · by_cases d2 : (pn : Int) ≤ 256
                      · by_cases d3 : (yn : Int) ≤ 256
                        · by_cases d4 : (dn : Int) ≤ 1000
                          · by_cases d5 : (g : Int) ≤ 300
                            · have HE := Lib.hid (show rn ≤ 10000 ∧ pn ≤ 256 ∧ yn ≤ 256 ∧ dn ≤ 1000 ∧ (∀ q ∈ pil, q.n ≤ 300) ∧ (∀ q ∈ sy, q.n ≤ 300) from
                                ⟨HMM.out (by omega), by omega, by omega, by omega, fun q hq => by have := HA1.out (by omega) q hq; have := HG1.out; omega, fun q hq => by have := HA2.out (by omega) q hq; omega⟩)
                              first | (exfalso; omega) | (go_wp2; go_ret; exact ⟨true, rfl, fun _ => HE.out, HB.out⟩)
                            · first | (exfalso; omega) | (go_wp2; go_ret; exact ⟨false, rfl, nofun, HB.out⟩)
                          · first | (exfalso; omega) | (go_wp2; go_ret; exact ⟨false, rfl, nofun, HB.out⟩)
                        · first | (exfalso; omega) | (go_wp2; go_ret; exact ⟨false, rfl, nofun, HB.out⟩)
                      · first | (exfalso; omega) | (go_wp2; go_ret; exact ⟨false, rfl, nofun, HB.out⟩)
                    · first | (exfalso; omega) | (go_wp2; go_ret; exact ⟨false, rfl, nofun, HB.out⟩)
            · have hiI : ¬ (i : Int) < (pn : Int) := by omega
              clear hlt hcase hi3 hip h1
              go_wp2_with fail
              go_loopw [5, 7] (fun x y wr => ∃ g i : Nat, g1 ≤ g ∧ x = .int .i64 g ∧ y = .int .i64 i ∧ i ≤ yn ∧ i ≤ 300 ∧ (∀ j q, j < i → sy[j]? = some q → q.n ≤ g) ∧ W = wr) (fun _ y _ => yn + 1 - (intOf y).toNat)
              case atStart => exact ⟨g1, 0, Nat.le_refl _, rfl, rfl, by omega, by omega, fun j q hj => by omega, rfl⟩
              case round =>
                obtain ⟨g, i, hgg, rfl, rfl, hip, hi3, hall, rfl⟩ := hrel
                by_cases hlt : i < yn ∧ i < 300
                · obtain ⟨hlt, hl3⟩ := hlt
                  have hiI : (i : Int) < (yn : Int) := by omega
                  have hi3I : (i : Int) < 300 := by omega
                  have hi0 : (0 : Int) ≤ (i : Int) := Int.natCast_nonneg _
                  have hwi : IntKind.i64.wrap ((i : Int) + 1) = (i : Int) + 1 := by rw [IntKind.wrap_i64]; omega
                  have HJ := Lib.hid (And.intro hlt hl3)
                  have HALL := Lib.hid hall
                  clear hall
                  obtain ⟨q, hq⟩ := idx_some (l := sy) (i := i) (by rw [HYL.out]; exact hlt)
                  obtain ⟨p1, p2⟩ := symV_at hq
                  obtain ⟨pa, rfl, hpab, c0, c1⟩ := pair_at HM.out.2.2.2 hlt p1 p2
                  have HQ := Lib.hid hq
                  clear p1 p2 hq
                  obtain ⟨qk, qa, qn, qc, qz⟩ := q
                  simp only at c0 c1
                  rcases Nat.lt_trichotomy g qn with h | h | h
                  · have h1 : (g : Int) < (qn : Int) := by omega
                    go_wp2
                    go_roundw
                    case rel =>
                      refine ⟨qn, i + 1, by omega, by first | rfl | go_num, by go_num, HJ.out.1, HJ.out.2, fun j q hj hjq => ?_, by trivial⟩
                      by_cases e : j = i
                      · subst e
                        have e2 := HQ.out.symm.trans hjq
                        injection e2 with e2
                        subst e2
                        simp only
                        omega
                      · exact Nat.le_trans (HALL.out j q (by omega) hjq) (by omega)
                    case measure => have := HJ.out; simp [intOf]; omega
                  · subst h
                    go_wp2
                    go_roundw
                    case rel =>
                      refine ⟨g, i + 1, hgg, by first | rfl | go_num, by go_num, HJ.out.1, HJ.out.2, fun j q hj hjq => ?_, by trivial⟩
                      by_cases e : j = i
                      · subst e
                        have e2 := HQ.out.symm.trans hjq
                        injection e2 with e2
                        subst e2
                        simp only
                        omega
                      · exact Nat.le_trans (HALL.out j q (by omega) hjq) (by omega)
                    case measure => have := HJ.out; simp [intOf]; omega
                  · have h1 : (qn : Int) < (g : Int) := by omega
                    go_wp2
                    go_roundw
                    case rel =>
                      refine ⟨g, i + 1, hgg, by first | rfl | go_num, by go_num, HJ.out.1, HJ.out.2, fun j q hj hjq => ?_, by trivial⟩
                      by_cases e : j = i
                      · subst e
                        have e2 := HQ.out.symm.trans hjq
                        injection e2 with e2
                        subst e2
                        simp only
                        omega
                      · exact Nat.le_trans (HALL.out j q (by omega) hjq) (by omega)
                    case measure => have := HJ.out; simp [intOf]; omega
                · have HG1 := Lib.hid hgg
                  have HA2 := Lib.hid (show yn ≤ 256 → ∀ q ∈ sy, q.n ≤ g from fun h q hq => by
                    obtain ⟨j, hj⟩ := List.mem_iff_getElem?.1 hq
                    have hjl : j < sy.length := by
                      rcases Nat.lt_or_ge j sy.length with h | h
                      · exact h
                      · rw [List.getElem?_eq_none h] at hj; cases hj
                    have := HYL.out
                    exact hall j q (by omega) hj)
                  have hcase : ¬ (i < yn) ∨ ¬ (i < 300) := by omega
                  clear hall
                  rcases Nat.lt_or_ge i yn with h1 | h1
                  · have hiI : (i : Int) < (yn : Int) := by omega
                    have hi3I : ¬ (i : Int) < 300 := by omega
                    clear hlt hcase hi3 hip h1 hgg
                    by_cases d1 : (m : Int) ≤ 10000
                    · by_cases d2 : (pn : Int) ≤ 256
                      · by_cases d3 : (yn : Int) ≤ 256
                        · by_cases d4 : (dn : Int) ≤ 1000
                          · by_cases d5 : (g : Int) ≤ 300
                            · have HE := Lib.hid (show rn ≤ 10000 ∧ pn ≤ 256 ∧ yn ≤ 256 ∧ dn ≤ 1000 ∧ (∀ q ∈ pil, q.n ≤ 300) ∧ (∀ q ∈ sy, q.n ≤ 300) from
                                ⟨HMM.out (by omega), by omega, by omega, by omega, fun q hq => by have := HA1.out (by omega) q hq; have := HG1.out; omega, fun q hq => by have := HA2.out (by omega) q hq; omega⟩)
                              first | (exfalso; omega) | (go_wp2; go_ret; exact ⟨true, rfl, fun _ => HE.out, HB.out⟩)
                            · first | (exfalso; omega) | (go_wp2; go_ret; exact ⟨false, rfl, nofun, HB.out⟩)
                          · first | (exfalso; omega) | (go_wp2; go_ret; exact ⟨false, rfl, nofun, HB.out⟩)
                        · first | (exfalso; omega) | (go_wp2; go_ret; exact ⟨false, rfl, nofun, HB.out⟩)
                      · first | (exfalso; omega) | (go_wp2; go_ret; exact ⟨false, rfl, nofun, HB.out⟩)
                    · first | (exfalso; omega) | (go_wp2; go_ret; exact ⟨false, rfl, nofun, HB.out⟩)
                  · have hiI : ¬ (i : Int) < (yn : Int) := by omega
                    clear hlt hcase hi3 hip h1 hgg
                    by_cases d1 : (m : Int) ≤ 10000
                    · by_cases d2 : (pn : Int) ≤ 256
                      · by_cases d3 : (yn : Int) ≤ 256
                        · by_cases d4 : (dn : Int) ≤ 1000
                          · by_cases d5 : (g : Int) ≤ 300
                            · have HE := Lib.hid (show rn ≤ 10000 ∧ pn ≤ 256 ∧ yn ≤ 256 ∧ dn ≤ 1000 ∧ (∀ q ∈ pil, q.n ≤ 300) ∧ (∀ q ∈ sy, q.n ≤ 300) from
                                ⟨HMM.out (by omega), by omega, by omega, by omega, fun q hq => by have := HA1.out (by omega) q hq; have := HG1.out; omega, fun q hq => by have := HA2.out (by omega) q hq; omega⟩)
                              first | (exfalso; omega) | (go_wp2; go_ret; exact ⟨true, rfl, fun _ => HE.out, HB.out⟩)
                            · first | (exfalso; omega) | (go_wp2; go_ret; exact ⟨false, rfl, nofun, HB.out⟩)
                          · first | (exfalso; omega) | (go_wp2; go_ret; exact ⟨false, rfl, nofun, HB.out⟩)
                        · first | (exfalso; omega) | (go_wp2; go_ret; exact ⟨false, rfl, nofun, HB.out⟩)
                      · first | (exfalso; omega) | (go_wp2; go_ret; exact ⟨false, rfl, nofun, HB.out⟩)
                    · first | (exfalso; omega) | (go_wp2; go_ret; exact ⟨false, rfl, nofun, HB.out⟩)
    · have hiI : ¬ (i : Int) < (rn : Int) := by omega
      have HMM := Lib.hid (show m ≤ 10000 → rn ≤ 10000 by omega)
      clear him hm hi hlt
      go_wp2_with fail
      go_loopw [5, 6] (fun x y wr => ∃ g i : Nat, x = .int .i64 g ∧ y = .int .i64 i ∧ i ≤ pn ∧ i ≤ 300 ∧ (∀ j q, j < i → pil[j]? = some q → q.n ≤ g) ∧ W = wr) (fun _ y _ => pn + 1 - (intOf y).toNat)
      case atStart => exact ⟨1, 0, rfl, rfl, by omega, by omega, fun j q hj => by omega, by trivial⟩
      case round =>
        obtain ⟨g, i, rfl, rfl, hip, hi3, hall, rfl⟩ := hrel
        by_cases hlt : i < pn ∧ i < 300
        · obtain ⟨hlt, hl3⟩ := hlt
          have hiI : (i : Int) < (pn : Int) := by omega
          have hi3I : (i : Int) < 300 := by omega
          have hi0 : (0 : Int) ≤ (i : Int) := Int.natCast_nonneg _
          have hwi : IntKind.i64.wrap ((i : Int) + 1) = (i : Int) + 1 := by rw [IntKind.wrap_i64]; omega
          have HJ := Lib.hid (And.intro hlt hl3)
          have HALL := Lib.hid hall
          clear hall
          obtain ⟨q, hq⟩ := idx_some (l := pil) (i := i) (by rw [HPL.out]; exact hlt)
          obtain ⟨p1, p2⟩ := symV_at hq
          obtain ⟨pa, rfl, hpab, c0, c1⟩ := pair_at HM.out.1 hlt p1 p2
          have HQ := Lib.hid hq
          clear p1 p2 hq
          obtain ⟨qk, qa, qn, qc, qz⟩ := q
          simp only at c0 c1
          rcases Nat.lt_trichotomy g qn with h | h | h
          · have h1 : (g : Int) < (qn : Int) := by omega
            go_wp2
            go_roundw
            case rel =>
              refine ⟨qn, i + 1, by first | rfl | go_num, by go_num, HJ.out.1, HJ.out.2, fun j q hj hjq => ?_, by trivial⟩
              by_cases e : j = i
              · subst e
                have e2 := HQ.out.symm.trans hjq
                injection e2 with e2
                subst e2
                simp only
                omega
              · exact Nat.le_trans (HALL.out j q (by omega) hjq) (by omega)
            case measure => have := HJ.out; simp [intOf]; omega
          · subst h
            go_wp2
            go_roundw
            case rel =>
              refine ⟨g, i + 1, by first | rfl | go_num, by go_num, HJ.out.1, HJ.out.2, fun j q hj hjq => ?_, by trivial⟩
              by_cases e : j = i
              · subst e
                have e2 := HQ.out.symm.trans hjq
                injection e2 with e2
                subst e2
                simp only
                omega
              · exact Nat.le_trans (HALL.out j q (by omega) hjq) (by omega)
            case measure => have := HJ.out; simp [intOf]; omega
          · have h1 : (qn : Int) < (g : Int) := by omega
            go_wp2
            go_roundw
            case rel =>
              refine ⟨g, i + 1, by first | rfl | go_num, by go_num, HJ.out.1, HJ.out.2, fun j q hj hjq => ?_, by trivial⟩
              by_cases e : j = i
              · subst e
                have e2 := HQ.out.symm.trans hjq
                injection e2 with e2
                subst e2
                simp only
                omega
              · exact Nat.le_trans (HALL.out j q (by omega) hjq) (by omega)
            case measure => have := HJ.out; simp [intOf]; omega
        · have HA1 := Lib.hid (show pn ≤ 256 → ∀ q ∈ pil, q.n ≤ g from fun h q hq => by
            obtain ⟨j, hj⟩ := List.mem_iff_getElem?.1 hq
            have hjl : j < pil.length := by
              rcases Nat.lt_or_ge j pil.length with h | h
              · exact h
              · rw [List.getElem?_eq_none h] at hj; cases hj
            have := HPL.out
            exact hall j q (by omega) hj)
          have hcase : ¬ (i < pn) ∨ ¬ (i < 300) := by omega
          clear hall
          have hg1 : ∃ g1, g1 = g := ⟨_, rfl⟩
          obtain ⟨g1, rfl⟩ := hg1
          rcases Nat.lt_or_ge i pn with h1 | h1
          · have hiI : (i : Int) < (pn : Int) := by omega
            have hi3I : ¬ (i : Int) < 300 := by omega
            clear hlt hcase hi3 hip h1
            go_wp2_with fail
            go_loopw [5, 7] (fun x y wr => ∃ g i : Nat, g1 ≤ g ∧ x = .int .i64 g ∧ y = .int .i64 i ∧ i ≤ yn ∧ i ≤ 300 ∧ (∀ j q, j < i → sy[j]? = some q → q.n ≤ g) ∧ W = wr) (fun _ y _ => yn + 1 - (intOf y).toNat)
            case atStart => exact ⟨g1, 0, Nat.le_refl _, rfl, rfl, by omega, by omega, fun j q hj => by omega, rfl⟩
            case round =>
              obtain ⟨g, i, hgg, rfl, rfl, hip, hi3, hall, rfl⟩ := hrel
              by_cases hlt : i < yn ∧ i < 300
              · obtain ⟨hlt, hl3⟩ := hlt
                have hiI : (i : Int) < (yn : Int) := by omega
                have hi3I : (i : Int) < 300 := by omega
                have hi0 : (0 : Int) ≤ (i : Int) := Int.natCast_nonneg _
                have hwi : IntKind.i64.wrap ((i : Int) + 1) = (i : Int) + 1 := by rw [IntKind.wrap_i64]; omega
                have HJ := Lib.hid (And.intro hlt hl3)
                have HALL := Lib.hid hall
                clear hall
                obtain ⟨q, hq⟩ := idx_some (l := sy) (i := i) (by rw [HYL.out]; exact hlt)
                obtain ⟨p1, p2⟩ := symV_at hq
                obtain ⟨pa, rfl, hpab, c0, c1⟩ := pair_at HM.out.2.2.2 hlt p1 p2
                have HQ := Lib.hid hq
                clear p1 p2 hq
                obtain ⟨qk, qa, qn, qc, qz⟩ := q
                simp only at c0 c1
                rcases Nat.lt_trichotomy g qn with h | h | h
                · have h1 : (g : Int) < (qn : Int) := by omega
                  go_wp2
                  go_roundw
                  case rel =>
                    refine ⟨qn, i + 1, by omega, by first | rfl | go_num, by go_num, HJ.out.1, HJ.out.2, fun j q hj hjq => ?_, by trivial⟩
                    by_cases e : j = i
                    · subst e
                      have e2 := HQ.out.symm.trans hjq
                      injection e2 with e2
                      subst e2
                      simp only
                      omega
                    · exact Nat.le_trans (HALL.out j q (by omega) hjq) (by omega)
                  case measure => have := HJ.out; simp [intOf]; omega
                · subst h
                  go_wp2
                  go_roundw
                  case rel =>
                    refine ⟨g, i + 1, hgg, by first | rfl | go_num, by go_num, HJ.out.1, HJ.out.2, fun j q hj hjq => ?_, by trivial⟩
                    by_cases e : j = i
                    · subst e
                      have e2 := HQ.out.symm.trans hjq
                      injection e2 with e2
                      subst e2
                      simp only
                      omega
                    · exact Nat.le_trans (HALL.out j q (by omega) hjq) (by omega)
                  case measure => have := HJ.out; simp [intOf]; omega
                · have h1 : (qn : Int) < (g : Int) := by omega
                  go_wp2
                  go_roundw
                  case rel =>
                    refine ⟨g, i + 1, hgg, by first | rfl | go_num, by go_num, HJ.out.1, HJ.out.2, fun j q hj hjq => ?_, by trivial⟩
                    by_cases e : j = i
                    · subst e
                      have e2 := HQ.out.symm.trans hjq
                      injection e2 with e2
                      subst e2
                      simp only
                      omega
                    · exact Nat.le_trans (HALL.out j q (by omega) hjq) (by omega)
                  case measure => have := HJ.out; simp [intOf]; omega
              · have HG1 := Lib.hid hgg
                have HA2 := Lib.hid (show yn ≤ 256 → ∀ q ∈ sy, q.n ≤ g from fun h q hq => by
                  obtain ⟨j, hj⟩ := List.mem_iff_getElem?.1 hq
                  have hjl : j < sy.length := by
                    rcases Nat.lt_or_ge j sy.length with h | h
                    · exact h
                    · rw [List.getElem?_eq_none h] at hj; cases hj
                  have := HYL.out
                  exact hall j q (by omega) hj)
                have hcase : ¬ (i < yn) ∨ ¬ (i < 300) := by omega
                clear hall
                rcases Nat.lt_or_ge i yn with h1 | h1
                · have hiI : (i : Int) < (yn : Int) := by omega
                  have hi3I : ¬ (i : Int) < 300 := by omega
                  clear hlt hcase hi3 hip h1 hgg
                  by_cases d1 : (m : Int) ≤ 10000
                  · by_cases d2 : (pn : Int) ≤ 256
                    · by_cases d3 : (yn : Int) ≤ 256
                      · by_cases d4 : (dn : Int) ≤ 1000
                        · by_cases d5 : (g : Int) ≤ 300
                          · have HE := Lib.hid (show rn ≤ 10000 ∧ pn ≤ 256 ∧ yn ≤ 256 ∧ dn ≤ 1000 ∧ (∀ q ∈ pil, q.n ≤ 300) ∧ (∀ q ∈ sy, q.n ≤ 300) from
                              ⟨HMM.out (by omega), by omega, by omega, by omega, fun q hq => by have := HA1.out (by omega) q hq; have := HG1.out; omega, fun q hq => by have := HA2.out (by omega) q hq; omega⟩)
                            first | (exfalso; omega) | (go_wp2; go_ret; exact ⟨true, rfl, fun _ => HE.out, HB.out⟩)
                          · first | (exfalso; omega) | (go_wp2; go_ret; exact ⟨false, rfl, nofun, HB.out⟩)
                        · first | (exfalso; omega) | (go_wp2; go_ret; exact ⟨false, rfl, nofun, HB.out⟩)
                      · first | (exfalso; omega) | (go_wp2; go_ret; exact ⟨false, rfl, nofun, HB.out⟩)
                    · first | (exfalso; omega) | (go_wp2; go_ret; exact ⟨false, rfl, nofun, HB.out⟩)
                  · first | (exfalso; omega) | (go_wp2; go_ret; exact ⟨false, rfl, nofun, HB.out⟩)
                · have hiI : ¬ (i : Int) < (yn : Int) := by omega
                  clear hlt hcase hi3 hip h1 hgg
                  by_cases d1 : (m : Int) ≤ 10000
                  · by_cases d2 : (pn : Int) ≤ 256
                    · by_cases d3 : (yn : Int) ≤ 256
                      · by_cases d4 : (dn : Int) ≤ 1000
                        · by_cases d5 : (g : Int) ≤ 300
                          · have HE := Lib.hid (show rn ≤ 10000 ∧ pn ≤ 256 ∧ yn ≤ 256 ∧ dn ≤ 1000 ∧ (∀ q ∈ pil, q.n ≤ 300) ∧ (∀ q ∈ sy, q.n ≤ 300) from
                              ⟨HMM.out (by omega), by omega, by omega, by omega, fun q hq => by have := HA1.out (by omega) q hq; have := HG1.out; omega, fun q hq => by have := HA2.out (by omega) q hq; omega⟩)
                            first | (exfalso; omega) | (go_wp2; go_ret; exact ⟨true, rfl, fun _ => HE.out, HB.out⟩)
                          · first | (exfalso; omega) | (go_wp2; go_ret; exact ⟨false, rfl, nofun, HB.out⟩)
                        · first | (exfalso; omega) | (go_wp2; go_ret; exact ⟨false, rfl, nofun, HB.out⟩)
                      · first | (exfalso; omega) | (go_wp2; go_ret; exact ⟨false, rfl, nofun, HB.out⟩)
                    · first | (exfalso; omega) | (go_wp2; go_ret; exact ⟨false, rfl, nofun, HB.out⟩)
                  · first | (exfalso; omega) | (go_wp2; go_ret; exact ⟨false, rfl, nofun, HB.out⟩)
          · have hiI : ¬ (i : Int) < (pn : Int) := by omega
            clear hlt hcase hi3 hip h1
            go_wp2_with fail
            go_loopw [5, 7] (fun x y wr => ∃ g i : Nat, g1 ≤ g ∧ x = .int .i64 g ∧ y = .int .i64 i ∧ i ≤ yn ∧ i ≤ 300 ∧ (∀ j q, j < i → sy[j]? = some q → q.n ≤ g) ∧ W = wr) (fun _ y _ => yn + 1 - (intOf y).toNat)
            case atStart => exact ⟨g1, 0, Nat.le_refl _, rfl, rfl, by omega, by omega, fun j q hj => by omega, rfl⟩
            case round =>
              obtain ⟨g, i, hgg, rfl, rfl, hip, hi3, hall, rfl⟩ := hrel
              by_cases hlt : i < yn ∧ i < 300
              · obtain ⟨hlt, hl3⟩ := hlt
                have hiI : (i : Int) < (yn : Int) := by omega
                have hi3I : (i : Int) < 300 := by omega
                have hi0 : (0 : Int) ≤ (i : Int) := Int.natCast_nonneg _
                have hwi : IntKind.i64.wrap ((i : Int) + 1) = (i : Int) + 1 := by rw [IntKind.wrap_i64]; omega
                have HJ := Lib.hid (And.intro hlt hl3)
                have HALL := Lib.hid hall
                clear hall
                obtain ⟨q, hq⟩ := idx_some (l := sy) (i := i) (by rw [HYL.out]; exact hlt)
                obtain ⟨p1, p2⟩ := symV_at hq
                obtain ⟨pa, rfl, hpab, c0, c1⟩ := pair_at HM.out.2.2.2 hlt p1 p2
                have HQ := Lib.hid hq
                clear p1 p2 hq
                obtain ⟨qk, qa, qn, qc, qz⟩ := q
                simp only at c0 c1
                rcases Nat.lt_trichotomy g qn with h | h | h
                · have h1 : (g : Int) < (qn : Int) := by omega
                  go_wp2
                  go_roundw
                  case rel =>
                    refine ⟨qn, i + 1, by omega, by first | rfl | go_num, by go_num, HJ.out.1, HJ.out.2, fun j q hj hjq => ?_, by trivial⟩
                    by_cases e : j = i
                    · subst e
                      have e2 := HQ.out.symm.trans hjq
                      injection e2 with e2
                      subst e2
                      simp only
                      omega
                    · exact Nat.le_trans (HALL.out j q (by omega) hjq) (by omega)
                  case measure => have := HJ.out; simp [intOf]; omega
                · subst h
                  go_wp2
                  go_roundw
                  case rel =>
                    refine ⟨g, i + 1, hgg, by first | rfl | go_num, by go_num, HJ.out.1, HJ.out.2, fun j q hj hjq => ?_, by trivial⟩
                    by_cases e : j = i
                    · subst e
                      have e2 := HQ.out.symm.trans hjq
                      injection e2 with e2
                      subst e2
                      simp only
                      omega
                    · exact Nat.le_trans (HALL.out j q (by omega) hjq) (by omega)
                  case measure => have := HJ.out; simp [intOf]; omega
                · have h1 : (qn : Int) < (g : Int) := by omega
                  go_wp2
                  go_roundw
                  case rel =>
                    refine ⟨g, i + 1, hgg, by first | rfl | go_num, by go_num, HJ.out.1, HJ.out.2, fun j q hj hjq => ?_, by trivial⟩
                    by_cases e : j = i
                    · subst e
                      have e2 := HQ.out.symm.trans hjq
                      injection e2 with e2
                      subst e2
                      simp only
                      omega
                    · exact Nat.le_trans (HALL.out j q (by omega) hjq) (by omega)
                  case measure => have := HJ.out; simp [intOf]; omega
              · have HG1 := Lib.hid hgg
                have HA2 := Lib.hid (show yn ≤ 256 → ∀ q ∈ sy, q.n ≤ g from fun h q hq => by
                  obtain ⟨j, hj⟩ := List.mem_iff_getElem?.1 hq
                  have hjl : j < sy.length := by
                    rcases Nat.lt_or_ge j sy.length with h | h
                    · exact h
                    · rw [List.getElem?_eq_none h] at hj; cases hj
                  have := HYL.out
                  exact hall j q (by omega) hj)
                have hcase : ¬ (i < yn) ∨ ¬ (i < 300) := by omega
                clear hall
                rcases Nat.lt_or_ge i yn with h1 | h1
                · have hiI : (i : Int) < (yn : Int) := by omega
                  have hi3I : ¬ (i : Int) < 300 := by omega
                  clear hlt hcase hi3 hip h1 hgg
                  by_cases d1 : (m : Int) ≤ 10000
                  · by_cases d2 : (pn : Int) ≤ 256
                    · by_cases d3 : (yn : Int) ≤ 256
                      · by_cases d4 : (dn : Int) ≤ 1000
                        · by_cases d5 : (g : Int) ≤ 300
                          · have HE := Lib.hid (show rn ≤ 10000 ∧ pn ≤ 256 ∧ yn ≤ 256 ∧ dn ≤ 1000 ∧ (∀ q ∈ pil, q.n ≤ 300) ∧ (∀ q ∈ sy, q.n ≤ 300) from
                              ⟨HMM.out (by omega), by omega, by omega, by omega, fun q hq => by have := HA1.out (by omega) q hq; have := HG1.out; omega, fun q hq => by have := HA2.out (by omega) q hq; omega⟩)
                            first | (exfalso; omega) | (go_wp2; go_ret; exact ⟨true, rfl, fun _ => HE.out, HB.out⟩)
                          · first | (exfalso; omega) | (go_wp2; go_ret; exact ⟨false, rfl, nofun, HB.out⟩)
                        · first | (exfalso; omega) | (go_wp2; go_ret; exact ⟨false, rfl, nofun, HB.out⟩)
                      · first | (exfalso; omega) | (go_wp2; go_ret; exact ⟨false, rfl, nofun, HB.out⟩)
                    · first | (exfalso; omega) | (go_wp2; go_ret; exact ⟨false, rfl, nofun, HB.out⟩)
                  · first | (exfalso; omega) | (go_wp2; go_ret; exact ⟨false, rfl, nofun, HB.out⟩)
                · have hiI : ¬ (i : Int) < (yn : Int) := by omega
                  clear hlt hcase hi3 hip h1 hgg
                  by_cases d1 : (m : Int) ≤ 10000
                  · by_cases d2 : (pn : Int) ≤ 256
                    · by_cases d3 : (yn : Int) ≤ 256
                      · by_cases d4 : (dn : Int) ≤ 1000
                        · by_cases d5 : (g : Int) ≤ 300
                          · have HE := Lib.hid (show rn ≤ 10000 ∧ pn ≤ 256 ∧ yn ≤ 256 ∧ dn ≤ 1000 ∧ (∀ q ∈ pil, q.n ≤ 300) ∧ (∀ q ∈ sy, q.n ≤ 300) from
                              ⟨HMM.out (by omega), by omega, by omega, by omega, fun q hq => by have := HA1.out (by omega) q hq; have := HG1.out; omega, fun q hq => by have := HA2.out (by omega) q hq; omega⟩)
                            first | (exfalso; omega) | (go_wp2; go_ret; exact ⟨true, rfl, fun _ => HE.out, HB.out⟩)
                          · first | (exfalso; omega) | (go_wp2; go_ret; exact ⟨false, rfl, nofun, HB.out⟩)
                        · first | (exfalso; omega) | (go_wp2; go_ret; exact ⟨false, rfl, nofun, HB.out⟩)
                      · first | (exfalso; omega) | (go_wp2; go_ret; exact ⟨false, rfl, nofun, HB.out⟩)
                    · first | (exfalso; omega) | (go_wp2; go_ret; exact ⟨false, rfl, nofun, HB.out⟩)
                  · first | (exfalso; omega) | (go_wp2; go_ret; exact ⟨false, rfl, nofun, HB.out⟩)

end Go.Proofs.Ythmmoogfngohaaa
