/- Contracts of layer 27: the finder: near, run, one, bit. -/
import Derived.Test.YtckgmnlmimogjaaNorm
import Derived.BigRegion
namespace Go.Proofs.Ytckgmnlmimogjaa
open Go.RowKit

def Fd (w : World) (g : Nat) (A : Option Addr) (N c : Nat) (at_ tol : Int) : Prop := Blk w g 66 #[.slice A N c, .int .i64 at_, .int .i64 tol]
theorem grown_trans {w w1 w2 : World} {r : Option Nat} (h : w.grownBy w1 r) (h' : w1.grownBy w2 r) : w.grownBy w2 r :=
  ⟨h'.os.trans h.os, h'.tape.trans h.tape, h'.output.trans h.output, Nat.le_trans h.size h'.size, fun j hj hne => (h'.block j (Nat.lt_of_lt_of_le hj h.size) hne).trans (h.block j hj hne)⟩
theorem grown_set {w : World} {g i : Nat} (v : Value) : w.grownBy (w.setCell ⟨g, i, none⟩ v) (some g) :=
  ⟨rfl, rfl, rfl, by simp [World.setCell], fun j _ hne => Below.heap_setCell w ⟨g, i, none⟩ v j (fun e => hne (by rw [e]))⟩
theorem grown_drew {w : World} {r : Option Nat} : w.grownBy w.drew r := ⟨rfl, rfl, rfl, Nat.le_refl _, fun _ _ _ => rfl⟩
theorem grown_reads {w w' : World} {B g n size : Nat} {A : Option Addr} {xs : List Value} (h : Reads w B size A n xs) (hg : w.grownBy w' (some g)) (hB : B ≤ g) (hlt : g < w.heap.size) : Reads w' B size A n xs :=
  h.grown hg (by omega) (fun j hj => by injection hj with hj; omega)

set_option maxHeartbeats 1000000 in
theorem near_any {w : World} {g N c a B k : Nat} {A : Option Addr} {zs : List Int} {tol n : Int} (h : Fd w g A N c a tol) (hr : Reads w B 1 A N (zs.map (Value.int .u32))) (hz : isU32 zs) (hN : N ≤ 5000) (ha : a ≤ N) (hk : k ≤ 1) (t0 : 0 ≤ tol) (t1 : tol ≤ 65535) (n0 : 0 ≤ n) (n1 : n ≤ 65535) :
    Calls Try.prog 42 #[.pointer (some ⟨g, 0, none⟩), .int .i64 k, .int .i64 n] w fun e w' => e = .returned (.bool (nr zs (a + k) n tol)) ∧ Fd w' g A N c a tol ∧ w.grownBy w' (some g) := by
  have hl := reads_len hr
  have c0 : w.cell? ⟨g, 0, none⟩ = some (.slice A N c) := (h.cell 0).trans rfl
  have c1 : w.cell? ⟨g, 1, none⟩ = some (.int .i64 a) := (h.cell 1).trans rfl
  have c2 : w.cell? ⟨g, 2, none⟩ = some (.int .i64 tol) := (h.cell 2).trans rfl
  obtain ⟨q, hq⟩ : ∃ q, q = a + k := ⟨_, rfl⟩
  rw [← hq]
  have hw : IntKind.i64.wrap ((a : Int) + (k : Int)) = (q : Int) := by rw [IntKind.wrap_i64]; omega
  by_cases hlt : q < N
  · obtain ⟨ad, rfl, hab, hcl⟩ := i32_at hr hlt
    have hzi := isU32_at hz (k := q) (by omega)
    obtain ⟨z, hzz⟩ : ∃ z, z = zs.getD q 0 := ⟨_, rfl⟩
    rw [← hzz] at hcl hzi
    rw [nr_in (by omega) hzz.symm]
    have hqI : ¬ (N : Int) ≤ (q : Int) := by omega
    have hqI' : (q : Int) < (N : Int) := by omega
    have hq0 : (0 : Int) ≤ (q : Int) := Int.natCast_nonneg _
    have hw2 : IntKind.i64.wrap (z - n) = z - n := by rw [IntKind.wrap_i64]; omega
    have hw3 : IntKind.i64.wrap (-tol) = -tol := by rw [IntKind.wrap_i64]; omega
    have hw4 : IntKind.i64.wrap z = z := by rw [IntKind.wrap_i64]; omega
    have HH := Lib.hid h
    clear h hr hz hzz hq
    by_cases h1 : z - n ≤ tol
    · by_cases h2 : -tol ≤ z - n
      · go_enter Try.func42, Try.ntmps42
        go_wp2
        go_region
        go_wp2
        go_region
        go_wp2
        go_ret
        exact ⟨by simp [h1, h2], HH.out, grown_trans grown_drew grown_drew⟩
      · go_enter Try.func42, Try.ntmps42
        go_wp2
        go_region
        go_wp2
        go_region
        go_wp2
        go_ret
        exact ⟨by simp [h1, h2], HH.out, grown_trans grown_drew grown_drew⟩
    · go_enter Try.func42, Try.ntmps42
      go_wp2
      go_region
      go_wp2
      go_region
      go_wp2
      go_ret
      exact ⟨by rw [show decide (z - n ≤ tol) = false by simpa using h1]; rfl, HH.out, grown_trans grown_drew grown_drew⟩
  · rw [nr_out (by omega)]
    have hqI : (N : Int) ≤ (q : Int) := by omega
    have HH := Lib.hid h
    clear h hr hz hq
    go_enter Try.func42, Try.ntmps42
    go_wp2
    go_region
    go_wp2
    go_ret
    exact ⟨rfl, HH.out, grown_drew⟩

set_option maxHeartbeats 1000000 in
theorem run_any {w : World} {g N c a B : Nat} {A : Option Addr} {zs : List Int} {tol n : Int} (h : Fd w g A N c a tol) (hr : Reads w B 1 A N (zs.map (Value.int .u32))) (hB : B ≤ g) (hz : isU32 zs) (hN : N ≤ 5000) (ha : a ≤ N) (t0 : 0 ≤ tol) (t1 : tol ≤ 65535) (n0 : 0 ≤ n) (n1 : n ≤ 65535) :
    Calls Try.prog 21 #[.pointer (some ⟨g, 0, none⟩), .int .i64 n] w fun e w' => e = .returned (.int .i64 (runN zs a n tol)) ∧ Fd w' g A N c ((a + runN zs a n tol : Nat) : Int) tol ∧ w.grownBy w' (some g) := by
  have hl := reads_len hr
  have hin : a + runN zs a n tol ≤ N := by rw [← hl]; exact runN_in (by omega)
  have HR := Lib.hid hr
  have HAT := Lib.hid (fun m (hm : m ≤ runN zs a n tol) => runN_at hm)
  obtain ⟨R, hR⟩ : ∃ R, R = runN zs a n tol := ⟨_, rfl⟩
  rw [← hR] at hin HAT ⊢
  have hg := h.lt
  have H0 := Lib.hid h
  clear h hr hR
  go_enter Try.func21, Try.ntmps21
  go_wp2
  go_loopw [5] (fun x wr => ∃ m : Nat, m ≤ R ∧ x = .int .i64 m ∧ Fd wr g A N c ((a + m : Nat) : Int) tol ∧ w.grownBy wr (some g)) (fun x _ => R + 1 - (intOf x).toNat)
  case atStart => exact ⟨0, by omega, rfl, H0.out, World.grownBy.refl w _⟩
  case round =>
    obtain ⟨m, hm, rfl, hF, hgr⟩ := hrel
    have hnear := near_any (k := 0) hF (grown_reads HR.out hgr hB hg) hz hN (by omega) (by omega) t0 t1 n0 n1
    rw [Nat.add_zero, HAT.out m hm] at hnear
    go_wp2_with fail
    refine hnear.mono ?_
    rintro e w1 ⟨rfl, hF1, hg1⟩
    clear hnear hF
    have hgr1 := grown_trans hgr hg1
    by_cases hlt : m < R
    · obtain ⟨q, hq⟩ : ∃ q, q = a + m := ⟨_, rfl⟩
      obtain ⟨r, hr'⟩ : ∃ r, r = a + (m + 1) := ⟨_, rfl⟩
      rw [← hq] at hF1
      have hw : IntKind.i64.wrap ((q : Int) + 1) = (r : Int) := by rw [IntKind.wrap_i64]; omega
      have HQR := Lib.hid (And.intro hq hr')
      clear hq hr'
      have c1 : w1.cell? ⟨g, 1, none⟩ = some (.int .i64 q) := (hF1.cell 1).trans rfl
      have f1 := hF1.frozen 1
      have hF2 := hF1.set_ 1 (.int .i64 (r : Int))
      have HF2 := Lib.hid hF2
      have hd : decide (m < R) = true := by simp [hlt]
      clear hF1 hF2
      go_wp2
      go_roundw
      case rel =>
        refine ⟨m + 1, by omega, by go_num, ?_, grown_trans hgr1 (grown_set _)⟩
        rw [← HQR.out.2]
        exact HF2.out
      case measure => simp [intOf]; omega
    · obtain rfl : m = R := by omega
      have hd : decide (m < m) = false := by simp
      go_wp2
      go_ret
      exact ⟨rfl, hF1, hgr1⟩

set_option maxHeartbeats 1000000 in
theorem one_any {w : World} {g N c a B : Nat} {A : Option Addr} {zs : List Int} {tol n : Int} (h : Fd w g A N c a tol) (hr : Reads w B 1 A N (zs.map (Value.int .u32))) (hz : isU32 zs) (hN : N ≤ 5000) (ha : a ≤ N) (t0 : 0 ≤ tol) (t1 : tol ≤ 65535) (n0 : 0 ≤ n) (n1 : n ≤ 65535) :
    Calls Try.prog 22 #[.pointer (some ⟨g, 0, none⟩), .int .i64 n] w fun e w' => e = .returned (.bool (nr zs a n tol)) ∧ Fd w' g A N c (if nr zs a n tol then ((a + 1 : Nat) : Int) else (a : Int)) tol ∧ w.grownBy w' (some g) := by
  have hnear := near_any (k := 0) h hr hz hN ha (by omega) t0 t1 n0 n1
  rw [Nat.add_zero] at hnear
  have hw : IntKind.i64.wrap ((a : Int) + 1) = ((a + 1 : Nat) : Int) := by rw [IntKind.wrap_i64]; omega
  clear h hr hz
  go_enter Try.func22, Try.ntmps22
  cases hx : nr zs a n tol with
  | false =>
    rw [hx] at hnear
    go_wp2_with fail
    refine hnear.mono ?_
    rintro e w1 ⟨rfl, hF1, hg1⟩
    go_wp2
    go_ret
    exact ⟨rfl, hF1, hg1⟩
  | true =>
    rw [hx] at hnear
    go_wp2_with fail
    refine hnear.mono ?_
    rintro e w1 ⟨rfl, hF1, hg1⟩
    have c1 : w1.cell? ⟨g, 1, none⟩ = some (.int .i64 a) := (hF1.cell 1).trans rfl
    have f1 := hF1.frozen 1
    have HF2 := Lib.hid (hF1.set_ 1 (.int .i64 ((a + 1 : Nat) : Int)))
    clear hF1
    go_wp2
    go_ret
    exact ⟨rfl, HF2.out, grown_trans hg1 (grown_set _)⟩

theorem tab2_at (a b : Int) (w : World) : (Instr.index 23 (.agg #[.int .i64 a, .int .i64 b]) (.int .i64 0)).run Try.prog w = .ok (.int .i64 a) w ∧ (Instr.index 23 (.agg #[.int .i64 a, .int .i64 b]) (.int .i64 1)).run Try.prog w = .ok (.int .i64 b) w := ⟨by kernel_rfl, by kernel_rfl⟩
/-- what a bit comes to: 0, 1 or none (2) -/
def bitV (zs : List Int) (k : Nat) (z o tol : Int) : Int := if two zs k z tol then 0 else if two zs k o tol then 1 else 2
set_option maxHeartbeats 2000000 in
theorem bit_any {w : World} {g N c a B : Nat} {A : Option Addr} {zs : List Int} {tol p s1 s2 z o : Int} (h : Fd w g A N c a tol) (hr : Reads w B 1 A N (zs.map (Value.int .u32))) (hB : B ≤ g) (hz : isU32 zs) (hN : N ≤ 5000) (ha : a ≤ N) (t0 : 0 ≤ tol) (t1 : tol ≤ 65535) (n0 : 0 ≤ z) (n1 : z ≤ 65535) (n2 : 0 ≤ o) (n3 : o ≤ 65535) :
    Calls Try.prog 43 #[.pointer (some ⟨g, 0, none⟩), .agg #[.int .i64 p, .int .i64 s1, .int .i64 s2, .int .i64 z, .int .i64 o]] w fun e w' =>
      e = .returned (.tuple #[.int .i64 (if bitV zs a z o tol = 2 then 0 else bitV zs a z o tol), .bool (bitV zs a z o tol != 2)]) ∧ Fd w' g A N c (if bitV zs a z o tol = 2 then (a : Int) else ((a + 2 : Nat) : Int)) tol ∧ w.grownBy w' (some g) := by
  have hg := h.lt
  have h0 : Fd (w.alloc (.cells #[.int .i64 p, .int .i64 s1, .int .i64 s2, .int .i64 z, .int .i64 o] 36)) g A N c a tol := Blk.alloc h _
  have hg0 : w.grownBy (w.alloc (.cells #[.int .i64 p, .int .i64 s1, .int .i64 s2, .int .i64 z, .int .i64 o] 36)) (some g) := World.grownBy_alloc w _ _
  have hi0 := fun w' => (tab2_at z o w').1
  have hi1 := fun w' => (tab2_at z o w').2
  have HR := Lib.hid hr
  have hw : IntKind.i64.wrap ((a : Int) + 2) = ((a + 2 : Nat) : Int) := by rw [IntKind.wrap_i64]; omega
  clear h hr
  have near0 := fun (w' : World) (n : Int) (hF : Fd w' g A N c a tol) (hgr : w.grownBy w' (some g)) (n0 : 0 ≤ n) (n1 : n ≤ 65535) => near_any (k := 0) hF (grown_reads HR.out hgr hB hg) hz hN ha (by omega) t0 t1 n0 n1
  have near1 := fun (w' : World) (n : Int) (hF : Fd w' g A N c a tol) (hgr : w.grownBy w' (some g)) (n0 : 0 ≤ n) (n1 : n ≤ 65535) => near_any (k := 1) hF (grown_reads HR.out hgr hB hg) hz hN ha (by omega) t0 t1 n0 n1
  simp only [Nat.add_zero] at near0
  have N0 := Lib.hid near0
  have N1 := Lib.hid near1
  clear near0 near1 hz
  obtain ⟨V, hV⟩ : ∃ V, V = bitV zs a z o tol := ⟨_, rfl⟩
  rw [← hV]
  have HV := Lib.hid hV
  obtain ⟨r, hr'⟩ : ∃ r, r = a + 2 := ⟨_, rfl⟩
  rw [← hr'] at hw ⊢
  have HR' := Lib.hid hr'
  clear hV hr'
  go_enter Try.func43, Try.ntmps43
  go_wp2_with fail
  go_loopw [13] (fun x wr => Fd wr g A N c a tol ∧ w.grownBy wr (some g) ∧ (x = .int .i64 0 ∨ (x = .int .i64 1 ∧ two zs a z tol = false) ∨ (x = .int .i64 2 ∧ two zs a z tol = false ∧ two zs a o tol = false))) (fun x _ => 3 - (intOf x).toNat)
  case atStart => exact ⟨h0, hg0, .inl rfl⟩
  case round =>
    obtain ⟨hF, hgr, hx⟩ := hrel
    rcases hx with rfl | ⟨rfl, hx⟩ | ⟨rfl, hx, hy⟩
    · go_wp2_with fail
      refine (N0.out _ z hF hgr n0 n1).mono ?_
      rintro e w1 ⟨rfl, hF1, hg1⟩
      have hgr1 := grown_trans hgr hg1
      cases h0' : nr zs a z tol with
      | false =>
        have HX := Lib.hid (show two zs a z tol = false by unfold two; rw [h0']; rfl)
        go_wp2
        go_roundw
        case rel => exact ⟨hF1, hgr1, .inr (.inl ⟨by go_num, HX.out⟩)⟩
        case measure => simp [intOf]
      | true =>
        go_wp2_with fail
        refine (N1.out _ z hF1 hgr1 n0 n1).mono ?_
        rintro e w2 ⟨rfl, hF2, hg2⟩
        have hgr2 := grown_trans hgr1 hg2
        cases h1' : nr zs (a + 1) z tol with
        | false =>
          have HX := Lib.hid (show two zs a z tol = false by unfold two; rw [h0', h1']; rfl)
          go_wp2
          go_roundw
          case rel => exact ⟨hF2, hgr2, .inr (.inl ⟨by go_num, HX.out⟩)⟩
          case measure => simp [intOf]
        | true =>
          obtain rfl : V = 0 := HV.out.trans (by unfold bitV two; rw [h0', h1']; rfl)
          have c1 : w2.cell? ⟨g, 1, none⟩ = some (.int .i64 a) := (hF2.cell 1).trans rfl
          have f1 := hF2.frozen 1
          have HF2 := Lib.hid (hF2.set_ 1 (.int .i64 (r : Int)))
          clear hF hF1 hF2
          go_wp2
          go_ret2
          exact ⟨rfl, HF2.out, grown_trans hgr2 (grown_set _)⟩
    · go_wp2_with fail
      refine (N0.out _ o hF hgr n2 n3).mono ?_
      rintro e w1 ⟨rfl, hF1, hg1⟩
      have hgr1 := grown_trans hgr hg1
      cases h0' : nr zs a o tol with
      | false =>
        have HX := Lib.hid (And.intro hx (show two zs a o tol = false by unfold two; rw [h0']; rfl))
        clear hx
        go_wp2
        go_roundw
        case rel => exact ⟨hF1, hgr1, .inr (.inr ⟨by go_num, HX.out⟩)⟩
        case measure => simp [intOf]
      | true =>
        go_wp2_with fail
        refine (N1.out _ o hF1 hgr1 n2 n3).mono ?_
        rintro e w2 ⟨rfl, hF2, hg2⟩
        have hgr2 := grown_trans hgr1 hg2
        cases h1' : nr zs (a + 1) o tol with
        | false =>
          have HX := Lib.hid (And.intro hx (show two zs a o tol = false by unfold two; rw [h0', h1']; rfl))
          clear hx
          go_wp2
          go_roundw
          case rel => exact ⟨hF2, hgr2, .inr (.inr ⟨by go_num, HX.out⟩)⟩
          case measure => simp [intOf]
        | true =>
          obtain rfl : V = 1 := HV.out.trans (by unfold bitV; rw [hx]; unfold two; rw [h0', h1']; rfl)
          have c1 : w2.cell? ⟨g, 1, none⟩ = some (.int .i64 a) := (hF2.cell 1).trans rfl
          have f1 := hF2.frozen 1
          have HF2 := Lib.hid (hF2.set_ 1 (.int .i64 (r : Int)))
          clear hF hF1 hF2 hx
          go_wp2
          go_ret2
          exact ⟨rfl, HF2.out, grown_trans hgr2 (grown_set _)⟩
    · obtain rfl : V = 2 := HV.out.trans (by unfold bitV; rw [hx, hy]; rfl)
      clear hx hy
      go_wp2
      go_ret2
      exact ⟨rfl, hF, hgr⟩

end Go.Proofs.Ytckgmnlmimogjaa
