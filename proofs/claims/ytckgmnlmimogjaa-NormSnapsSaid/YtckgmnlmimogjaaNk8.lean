/- Layer 27: contract of a tidy tape. -/
import Derived.Test.YtckgmnlmimogjaaNk7
namespace Go.Proofs.Ytckgmnlmimogjaa
open Go.RowKit

theorem bits_in {zs : List Int} {z o tol : Int} : ∀ (n k : Nat), zs.length - k ≤ n → k ≤ zs.length → k + 2 * (bitsN zs k z o tol).length ≤ zs.length
  | 0, k, h, hk => by
    by_cases hv : bitV zs k z o tol = 2
    · rw [bit_none hv]; simpa using hk
    · obtain ⟨_, _, h2⟩ := bit_some hv
      omega
  | n + 1, k, h, hk => by
    by_cases hv : bitV zs k z o tol = 2
    · rw [bit_none hv]; simpa using hk
    · obtain ⟨e, _, h2⟩ := bit_some hv
      have := bits_in (z := z) (o := o) (tol := tol) n (k + 2) (by omega) h2
      rw [e, List.length_cons]
      omega
theorem pauE_le {zs : List Int} {k : Nat} (h : k ≤ zs.length) : pauE zs k ≤ zs.length := by
  unfold pauE
  split <;> omega
theorem fnd_pos {zs : List Int} {a : Nat} {p s1 s2 z o tol : Int} {d : List Int} {m : Nat} {pa : Int} {k : Nat} (h : fnd zs (a : Int) p s1 s2 z o tol = some (d, m, pa, k)) : 1 ≤ k ∧ a + k ≤ zs.length := by
  unfold fnd at h
  split at h
  · cases h
  · simp only [Int.toNat_natCast] at h
    split at h
    · cases h
    · rename_i h1
      split at h
      · cases h
      · injection h with h
        have h4 : pauE zs (a + runN zs a p tol + 2 + 16 * ((bitsN zs (a + runN zs a p tol + 2) z o tol).length / 8)) - a = k := congrArg (fun x => x.2.2.2) h
        have hr : ¬ runN zs a p tol < 256 := fun e => h1 (.inl e)
        have hn2 : nr zs (a + runN zs a p tol + 1) s2 tol = true := by
          cases hx : nr zs (a + runN zs a p tol + 1) s2 tol
          · exact absurd (.inr (.inr hx)) h1
          · rfl
        have hl := nr_lt hn2
        have hb := bits_in (zs := zs) (z := z) (o := o) (tol := tol) _ (a + runN zs a p tol + 2) (Nat.le_refl _) (by omega)
        have hp := pauE_le (zs := zs) (k := a + runN zs a p tol + 2 + 16 * ((bitsN zs (a + runN zs a p tol + 2) z o tol).length / 8)) (by omega)
        have hq := pauE_in zs (a + runN zs a p tol + 2 + 16 * ((bitsN zs (a + runN zs a p tol + 2) z o tol).length / 8))
        omega
theorem fstL_pos {zs : List Int} {a : Nat} {tol : Int} : ∀ {l : List TmD} {t : TmD} {d : List Int} {m : Nat} {pa : Int} {k : Nat}, fstL zs (a : Int) tol l = some (t, d, m, pa, k) → 1 ≤ k ∧ a + k ≤ zs.length
  | [], _, _, _, _, _, h => by cases h
  | q :: l, t, d, m, pa, k, h => by
    unfold fstL at h
    split at h
    · rename_i r hr
      injection h with h
      injection h with h1 h2
      subst h1 h2
      exact fnd_pos hr
    · exact fstL_pos h
/-- a block that is found, as data -/
def fndD (t : TmD) (d : List Int) (m : Nat) (pa : Int) : BD := if stdB t.p t.s1 t.s2 t.z t.o then ⟨16, pa, 0, 0, 0, 0, 0, 0, 0, 0, 0, 0, d, [], [], []⟩ else ⟨17, pa, t.p, t.s1, t.s2, t.z, t.o, 0, m, 8, 0, 0, d, [], [], []⟩
theorem tmB_cells {t : TmD} {d : List Int} {m : Nat} {pa : Int} {VA : Option Addr} {dn vc : Nat} {D : BD} (hD : D = fndD t d m pa) : tmB t m pa (.slice VA dn vc) = #[.int .i64 D.i0, .int .i64 D.i1, .int .i64 D.i2, .int .i64 D.i3, .int .i64 D.i4, .int .i64 D.i5, .int .i64 D.i6, .int .i64 D.i7, .int .i64 D.i8, .int .i64 D.i9, .int .i64 D.i10, .int .i64 D.i11, .slice VA dn vc, .slice none 0 0, .slice none 0 0, .slice none 0 0, .slice none 0 0, .slice none 0 0] := by
  subst hD
  unfold tmB blkV fndD
  split <;> rfl
theorem fndD_at {w : World} {φ : Nat → Prop} {t : TmD} {d : List Int} {m : Nat} {pa : Int} {VA : Option Addr} {dn vc : Nat} {D : BD} (hD : D = fndD t d m pa) (h : RdP w φ 1 VA dn (d.map (Value.int .u8))) : BlkAt w φ D [.int .i64 D.i0, .int .i64 D.i1, .int .i64 D.i2, .int .i64 D.i3, .int .i64 D.i4, .int .i64 D.i5, .int .i64 D.i6, .int .i64 D.i7, .int .i64 D.i8, .int .i64 D.i9, .int .i64 D.i10, .int .i64 D.i11, .slice VA dn vc, .slice none 0 0, .slice none 0 0, .slice none 0 0, .slice none 0 0, .slice none 0 0] := by
  have h1 : D.ds = d ∧ D.ts = [] ∧ D.pil = [] ∧ D.rep = [] := by
    subst hD
    unfold fndD
    split <;> exact ⟨rfl, rfl, rfl, rfl⟩
  obtain ⟨e1, e2, e3, e4⟩ := h1
  refine ⟨VA, dn, vc, none, 0, 0, none, 0, 0, none, 0, 0, [], rfl, by rw [e1]; exact h, by rw [e2]; exact RdP.none_, RdP.none_, fun q hq => absurd hq (by simp), by rw [e3]; rfl, by rw [e4]; exact RdP.none_, by omega, by omega, by omega⟩
def nrmS (zs : List Int) (tol : Int) (tms : List TmD) (lv : Bool) : Nat → Nat → Nat → List BD → Int × List BD
  | 0, _, _, dl => (0, dl)
  | f + 1, fr, at_, dl =>
    if at_ < zs.length then
      match fstL zs at_ tol (stdT :: tms) with
      | none => nrmS zs tol tms lv f fr (at_ + 1) dl
      | some (t, d, m, pa, k) =>
        if restE zs lv fr at_ dl ≠ 0 then (restE zs lv fr at_ dl, []) else
        if 4096 < (restD zs lv fr at_ dl).length + 1 then (8, []) else nrmS zs tol tms lv f (at_ + k) (at_ + k) (restD zs lv fr at_ dl ++ [fndD t d m pa])
    else if restE zs lv fr zs.length dl ≠ 0 then (restE zs lv fr zs.length dl, []) else (0, restD zs lv fr zs.length dl)
section
variable {zs : List Int} {tol : Int} {tms : List TmD} {lv : Bool} {f fr at_ : Nat} {dl : List BD} {t : TmD} {d : List Int} {m : Nat} {pa : Int} {k : Nat}
theorem nrm_no (h : at_ < zs.length) (hf : fstL zs at_ tol (stdT :: tms) = none) : nrmS zs tol tms lv (f + 1) fr at_ dl = nrmS zs tol tms lv f fr (at_ + 1) dl := by
  rw [nrmS, if_pos h, hf]
theorem nrm_some (h : at_ < zs.length) (hf : fstL zs at_ tol (stdT :: tms) = some (t, d, m, pa, k)) : nrmS zs tol tms lv (f + 1) fr at_ dl = if restE zs lv fr at_ dl ≠ 0 then (restE zs lv fr at_ dl, []) else if 4096 < (restD zs lv fr at_ dl).length + 1 then (8, []) else nrmS zs tol tms lv f (at_ + k) (at_ + k) (restD zs lv fr at_ dl ++ [fndD t d m pa]) := by
  rw [nrmS, if_pos h, hf]
theorem nrm_end (h : ¬ at_ < zs.length) : nrmS zs tol tms lv (f + 1) fr at_ dl = if restE zs lv fr zs.length dl ≠ 0 then (restE zs lv fr zs.length dl, []) else (0, restD zs lv fr zs.length dl) := by
  rw [nrmS, if_neg h]
end
theorem restD_len {zs : List Int} {lv : Bool} {a b : Nat} {dl : List BD} (h : dl.length ≤ 4096) : (restD zs lv a b dl).length ≤ 4096 := by
  unfold restD
  split
  · exact h
  · split
    · exact h
    · split
      · exact h
      · rw [List.length_append]; omega
def LoopN (zs : List Int) (tol : Int) (tms : List TmD) (lv : Bool) (base : Nat) (G : Value) (w1 : World) (x y : Value) (wr : World) : Prop :=
  ∃ (f fr at_ : Nat) (dl : List BD), x = .int .i64 fr ∧ y = .int .i64 at_ ∧ fr ≤ at_ ∧ at_ ≤ zs.length ∧ TS wr base base lv G dl ∧ dl.length ≤ 4096 ∧ nrmS zs tol tms lv (zs.length + 1) 0 0 [] = nrmS zs tol tms lv f fr at_ dl ∧ zs.length < f + at_ ∧ Below base w1 wr
/-- the answer: a tape and why there is none -/
def TapeO (w w' : World) (e : Ending) (r : Int × List BD) : Prop :=
  ∃ A' m c' xs, e = .returned (.tuple #[.agg #[.int .i64 (if r.1 = 0 then 1 else 0), .int .i64 (if r.1 = 0 then 20 else 0), .slice A' m c'], .int .i64 r.1]) ∧ RdP w' (fun b => w.heap.size ≤ b ∧ b < w'.heap.size) 18 A' m xs ∧ BlksAt w' (fun b => w.heap.size ≤ b ∧ b < w'.heap.size) r.2 xs ∧ Below w.heap.size w w'

set_option maxRecDepth 100000 in
set_option maxHeartbeats 8000000 in
theorem normal_any (w : World) (lv : Bool) (A L : Option Addr) (N c ln lc : Nat) (tol : Int) (zs : List Int) (tms : List TmD) (hr : Reads w w.heap.size 1 A N (zs.map (Value.int .u32))) (hz : isU32 zs) (hN : N ≤ 4000) (hc : N ≤ c) (hL : Reads w w.heap.size 5 L ln (tmV tms)) (hln : ln ≤ 100) :
    Calls Try.prog 14 #[.bool lv, .slice A N c, .int .i64 tol, .slice L ln lc] w fun e w' => TapeO w w' e (nrmS zs tol tms lv (zs.length + 1) 0 0 []) := by
  have hzl := reads_len hr
  have HR := Lib.hid (And.intro hr (And.intro hz (And.intro hL hzl)))
  clear hr hz hL hzl
  go_enter Try.func14, Try.ntmps14
  go_upto_region 1 with fail
  have hs0 : (w.alloc (.cells #[.int .i64 0, .int .i64 0, .slice none 0 0] 45)).heap.size = w.heap.size + 1 := by simp
  have hR0 : Blk (w.alloc (.cells #[.int .i64 0, .int .i64 0, .slice none 0 0] 45)) w.heap.size 45 #[.int .i64 0, .int .i64 0, .slice none 0 0] := Blk.new w _ _
  have hb0 : Below w.heap.size w (w.alloc (.cells #[.int .i64 0, .int .i64 0, .slice none 0 0] 45)) := (Below.refl _ _).alloc (Nat.le_refl _) _
  generalize (w.alloc (.cells #[.int .i64 0, .int .i64 0, .slice none 0 0] 45)) = w0 at *
  have hX0 : TS (w0.alloc (.cells #[.int .i64 1, .int .i64 20, .slice none 0 0, .bool lv, .slice A N c] 82)) w0.heap.size w0.heap.size lv (.slice A N c) [] := ⟨_, [], Blk.new w0 _ _, World.ownsRow_nil _ _ _ _, rfl⟩
  have hbx : Below w0.heap.size w0 (w0.alloc (.cells #[.int .i64 1, .int .i64 20, .slice none 0 0, .bool lv, .slice A N c] 82)) := (Below.refl _ _).alloc (Nat.le_refl _) _
  have HM := Lib.hid (And.intro hs0 (And.intro hR0 hb0))
  have HX := Lib.hid (And.intro hX0 hbx)
  clear hs0 hR0 hb0 hX0 hbx
  go_wp2_with fail
  have hlp : LoopN zs tol tms lv w0.heap.size (.slice A N c) w0 (.int .i64 0) (.int .i64 0) (w0.alloc (.cells #[.int .i64 1, .int .i64 20, .slice none 0 0, .bool lv, .slice A N c] 82)) :=
    ⟨zs.length + 1, 0, 0, [], rfl, rfl, Nat.le_refl _, Nat.zero_le _, HX.out.1, by simp, rfl, by omega, HX.out.2⟩
  have HLP := Lib.hid hlp
  clear hlp
  generalize (w0.alloc (.cells #[.int .i64 1, .int .i64 20, .slice none 0 0, .bool lv, .slice A N c] 82)) = w1 at *
  go_loopw [11, 12] (fun x y wr => LoopN zs tol tms lv w0.heap.size (.slice A N c) w0 x y wr) (fun _ y _ => N - (intOf y).toNat)
  case atStart => exact HLP.out
  case round =>
    obtain ⟨f, fr, at_, dl, rfl, rfl, hfa, haN, hTS, hdl, hnr, hfu, hbl⟩ := hrel
    rw [HR.out.2.2.2] at haN
    have hj0 : (0 : Int) ≤ (at_ : Int) := Int.natCast_nonneg _
    obtain ⟨f, rfl⟩ : ∃ g, f = g + 1 := ⟨f - 1, by have := HR.out.2.2.2; omega⟩
    have hbw : Below w.heap.size w wr := HM.out.2.2.trans (hbl.mono (by rw [HM.out.1]; omega))
    have hws : w.heap.size < wr.heap.size := by have := hbl.size; have := HM.out.1; omega
    have hRx : Blk wr w.heap.size 45 #[.int .i64 0, .int .i64 0, .slice none 0 0] := HM.out.2.1.below hbl (by rw [HM.out.1]; omega)
    by_cases hlt : at_ < N
    · have hlI : (at_ : Int) < (N : Int) := by omega
      have hlz : at_ < zs.length := by rw [HR.out.2.2.2]; exact hlt
      have hfs := first_any wr A L N c ln lc (at_ : Int) tol zs tms ((HR.out.1.below hbw).more hbw.size) HR.out.2.1 (by omega) ((HR.out.2.2.1.below hbw).more hbw.size) hln
      have HS := Lib.hid (And.intro hTS (And.intro hnr (And.intro hbl (And.intro hfu (And.intro hRx hbw)))))
      clear hTS hnr hbl hfu hRx hbw
      go_wp2_with fail
      refine hfs.mono ?_
      rintro e w2 ⟨hb2, hF⟩
      clear hfs
      have hTS2 := HS.out.1.below hb2
      have hbl2 := HS.out.2.2.1.trans (hb2.mono HS.out.2.2.1.size)
      have hs2 := hb2.size
      rcases hF with ⟨hn, rfl⟩ | ⟨t, d, m, pa, k, V, hs, rfl, hown, hu8⟩
      · have HNN := Lib.hid (nrm_no (lv := lv) (f := f) (fr := fr) (dl := dl) hlz hn)
        have H2 := Lib.hid (And.intro hTS2 hbl2)
        have hwa : IntKind.i64.wrap ((at_ : Int) + 1) = (at_ : Int) + 1 := by rw [IntKind.wrap_i64]; omega
        clear hTS2 hbl2 hn hb2
        go_wp2_with (first
          | (refine wpList_store_box rfl 33 _ _ rfl (w2.heap.size) blkZ rfl rfl 33 #[.int .i64 0, .int .i64 0, .int .i64 0, .int .i64 0, .int .i64 0, .int .i64 0, .int .i64 0, .int .i64 0, .int .i64 0, .int .i64 0, .int .i64 0, .int .i64 0, .slice none 0 0, .slice none 0 0, .slice none 0 0, .slice none 0 0, .slice none 0 0, .slice none 0 0] (Blk.new w2 _ _) blkZ_info rfl blkZ_one ?_)
          | fail)
        intro w5 hB5 hg5
        have hb5 : Below w2.heap.size w2 w5 := ((Below.refl _ _).alloc (Nat.le_refl _) _).grown hg5 (by simp) (fun b hb => by injection hb with hb; omega)
        have H5 := Lib.hid (And.intro (H2.out.1.below hb5) (H2.out.2.trans (hb5.mono H2.out.2.size)))
        clear hB5 hg5 hb5
        go_wp2
        go_roundw
        case rel => exact ⟨f, fr, at_ + 1, dl, rfl, by go_num, by omega, by omega, H5.out.1, hdl, by rw [HS.out.2.1, HNN.out], by have := HS.out.2.2.2.1; omega, H5.out.2⟩
        case measure => simp [intOf]; omega
      · obtain ⟨VA, vc, rfl⟩ := own_slice hown
        obtain ⟨D, hD⟩ : ∃ D, D = fndD t d m pa := ⟨_, rfl⟩
        obtain ⟨k1, k2⟩ := fstL_pos hs
        have hns := nrm_some (lv := lv) (f := f) (fr := fr) (dl := dl) hlz hs
        rw [← hD] at hns
        rw [tmB_cells hD]
        rw [HR.out.2.2.2] at k2
        obtain ⟨E, hE⟩ : ∃ E : Int, E = restE zs lv fr at_ dl := ⟨_, rfl⟩
        rw [← hE] at hns
        have HNS := Lib.hid hns
        have HOW := Lib.hid (And.intro hown (And.intro hD hb2))
        clear hs hns hown hD hTS2 hbl2 hb2
        generalize d.length = dn at *
        go_wp2_with (first
          | (refine wpList_store_box rfl 33 _ _ rfl (w2.heap.size) #[.int .i64 D.i0, .int .i64 D.i1, .int .i64 D.i2, .int .i64 D.i3, .int .i64 D.i4, .int .i64 D.i5, .int .i64 D.i6, .int .i64 D.i7, .int .i64 D.i8, .int .i64 D.i9, .int .i64 D.i10, .int .i64 D.i11, .slice VA dn vc, .slice none 0 0, .slice none 0 0, .slice none 0 0, .slice none 0 0, .slice none 0 0] rfl rfl 33 #[.int .i64 0, .int .i64 0, .int .i64 0, .int .i64 0, .int .i64 0, .int .i64 0, .int .i64 0, .int .i64 0, .int .i64 0, .int .i64 0, .int .i64 0, .int .i64 0, .slice none 0 0, .slice none 0 0, .slice none 0 0, .slice none 0 0, .slice none 0 0, .slice none 0 0] (Blk.new w2 _ _) blkInfo rfl (by simp [Value.oneCell']) ?_)
          | fail)
        intro w5 hB5 hg5
        have hb5 : Below w2.heap.size w2 w5 := ((Below.refl _ _).alloc (Nat.le_refl _) _).grown hg5 (by simp) (fun b hb => by injection hb with hb; omega)
        have hb25 : Below wr.heap.size wr w5 := HOW.out.2.2.trans (hb5.mono hs2)
        have hsb := HS.out.2.2.1.size
        have hsM := HM.out.1
        have hs5 := hb5.size
        have hre := rest_any w5 w0.heap.size w0.heap.size fr at_ N c wr.heap.size lv A zs dl (HS.out.1.tsk hb25) HS.out.1.lt hb25.size (Nat.le_refl _) (by have := hb25.size; omega) ((HR.out.1.below (HS.out.2.2.2.2.2.trans (hb25.mono (by omega)))).more (by omega)) HR.out.2.1 hfa (by omega) hN hc hdl
        rw [← hE] at hre
        have H5 := Lib.hid (And.intro hB5 (And.intro hb5 hb25))
        clear hB5 hg5 hb5 hb25 hE
        clear hsM
        go_wp2_with fail
        refine hre.mono ?_
        rintro e w6 ⟨rfl, hT6, hb6, hk6⟩
        clear hre
        have hsM := HM.out.1
        have hbw6 : Below w0.heap.size w0 w6 := (HS.out.2.2.1.trans (H5.out.2.2.mono hsb)).trans hb6
        have HRE := Lib.hid (And.intro (show Blk w6 w.heap.size 45 #[.int .i64 0, .int .i64 0, .slice none 0 0] from HM.out.2.1.below hbw6 (by omega)) (HM.out.2.2.trans (hbw6.mono (by omega))))
        by_cases hE0 : E = 0
        · subst hE0
          obtain ⟨V6, xs6, hB6, hV6, hkk6, hP6⟩ := hT6
          have hs6 := hb6.size
          have hk6' : ∀ b, wr.heap.size ≤ b → b < w2.heap.size → w6.heap[b]? = w2.heap[b]? := fun b h1 h2 => (hk6 b h1 (by omega)).trans (H5.out.2.1.block b h2)
          have hBx : Blk w6 w2.heap.size 33 #[.int .i64 D.i0, .int .i64 D.i1, .int .i64 D.i2, .int .i64 D.i3, .int .i64 D.i4, .int .i64 D.i5, .int .i64 D.i6, .int .i64 D.i7, .int .i64 D.i8, .int .i64 D.i9, .int .i64 D.i10, .int .i64 D.i11, .slice VA dn vc, .slice none 0 0, .slice none 0 0, .slice none 0 0, .slice none 0 0, .slice none 0 0] := (hk6 _ hs2 H5.out.1.lt).trans H5.out.1
          have hs6B : w5.heap.size ≤ w6.heap.size := hb6.size
          have hrd : Reads (w6.alloc (.cells #[.int .i64 D.i0, .int .i64 D.i1, .int .i64 D.i2, .int .i64 D.i3, .int .i64 D.i4, .int .i64 D.i5, .int .i64 D.i6, .int .i64 D.i7, .int .i64 D.i8, .int .i64 D.i9, .int .i64 D.i10, .int .i64 D.i11, .slice VA dn vc, .slice none 0 0, .slice none 0 0, .slice none 0 0, .slice none 0 0, .slice none 0 0] 33)) (w6.alloc (.cells #[.int .i64 D.i0, .int .i64 D.i1, .int .i64 D.i2, .int .i64 D.i3, .int .i64 D.i4, .int .i64 D.i5, .int .i64 D.i6, .int .i64 D.i7, .int .i64 D.i8, .int .i64 D.i9, .int .i64 D.i10, .int .i64 D.i11, .slice VA dn vc, .slice none 0 0, .slice none 0 0, .slice none 0 0, .slice none 0 0, .slice none 0 0] 33)).heap.size 18 (some ⟨w6.heap.size, 0, none⟩) 1 [.int .i64 D.i0, .int .i64 D.i1, .int .i64 D.i2, .int .i64 D.i3, .int .i64 D.i4, .int .i64 D.i5, .int .i64 D.i6, .int .i64 D.i7, .int .i64 D.i8, .int .i64 D.i9, .int .i64 D.i10, .int .i64 D.i11, .slice VA dn vc, .slice none 0 0, .slice none 0 0, .slice none 0 0, .slice none 0 0, .slice none 0 0] := ⟨rfl, fun _ => ⟨_, rfl, by simp, lit_cells w6 [.int .i64 D.i0, .int .i64 D.i1, .int .i64 D.i2, .int .i64 D.i3, .int .i64 D.i4, .int .i64 D.i5, .int .i64 D.i6, .int .i64 D.i7, .int .i64 D.i8, .int .i64 D.i9, .int .i64 D.i10, .int .i64 D.i11, .slice VA dn vc, .slice none 0 0, .slice none 0 0, .slice none 0 0, .slice none 0 0, .slice none 0 0] 33⟩⟩
          have hk7 : BlksAt (w6.alloc (.cells #[.int .i64 D.i0, .int .i64 D.i1, .int .i64 D.i2, .int .i64 D.i3, .int .i64 D.i4, .int .i64 D.i5, .int .i64 D.i6, .int .i64 D.i7, .int .i64 D.i8, .int .i64 D.i9, .int .i64 D.i10, .int .i64 D.i11, .slice VA dn vc, .slice none 0 0, .slice none 0 0, .slice none 0 0, .slice none 0 0, .slice none 0 0] 33)) (PhiT (w6.alloc (.cells #[.int .i64 D.i0, .int .i64 D.i1, .int .i64 D.i2, .int .i64 D.i3, .int .i64 D.i4, .int .i64 D.i5, .int .i64 D.i6, .int .i64 D.i7, .int .i64 D.i8, .int .i64 D.i9, .int .i64 D.i10, .int .i64 D.i11, .slice VA dn vc, .slice none 0 0, .slice none 0 0, .slice none 0 0, .slice none 0 0, .slice none 0 0] 33)) w0.heap.size w0.heap.size V6) (restD zs lv fr at_ dl) xs6 := BlksAt.keep (fun b hp => Below.heap_alloc _ _ _ hp.2.1) (fun b hp => ⟨hp.1, by have := hp.2.1; simp; omega, hp.2.2⟩) hkk6
          have hd7 : BlkAt (w6.alloc (.cells #[.int .i64 D.i0, .int .i64 D.i1, .int .i64 D.i2, .int .i64 D.i3, .int .i64 D.i4, .int .i64 D.i5, .int .i64 D.i6, .int .i64 D.i7, .int .i64 D.i8, .int .i64 D.i9, .int .i64 D.i10, .int .i64 D.i11, .slice VA dn vc, .slice none 0 0, .slice none 0 0, .slice none 0 0, .slice none 0 0, .slice none 0 0] 33)) (PhiT (w6.alloc (.cells #[.int .i64 D.i0, .int .i64 D.i1, .int .i64 D.i2, .int .i64 D.i3, .int .i64 D.i4, .int .i64 D.i5, .int .i64 D.i6, .int .i64 D.i7, .int .i64 D.i8, .int .i64 D.i9, .int .i64 D.i10, .int .i64 D.i11, .slice VA dn vc, .slice none 0 0, .slice none 0 0, .slice none 0 0, .slice none 0 0, .slice none 0 0] 33)) w0.heap.size w0.heap.size V6) D [.int .i64 D.i0, .int .i64 D.i1, .int .i64 D.i2, .int .i64 D.i3, .int .i64 D.i4, .int .i64 D.i5, .int .i64 D.i6, .int .i64 D.i7, .int .i64 D.i8, .int .i64 D.i9, .int .i64 D.i10, .int .i64 D.i11, .slice VA dn vc, .slice none 0 0, .slice none 0 0, .slice none 0 0, .slice none 0 0, .slice none 0 0] := fndD_at HOW.out.2.1 ((RdP.of_own HOW.out.1).keep (fun b hp => (Below.heap_alloc _ _ _ (by omega)).trans (hk6' b hp.1 hp.2)) (fun b hp => ⟨by omega, by simp; omega, by have := HS.out.1.lt; omega, fun e => by rcases hP6 b e with h | h <;> omega⟩))
          have hdl1 := restD_len (zs := zs) (lv := lv) (a := fr) (b := at_) hdl
          have hp := put_any (w6.alloc (.cells #[.int .i64 D.i0, .int .i64 D.i1, .int .i64 D.i2, .int .i64 D.i3, .int .i64 D.i4, .int .i64 D.i5, .int .i64 D.i6, .int .i64 D.i7, .int .i64 D.i8, .int .i64 D.i9, .int .i64 D.i10, .int .i64 D.i11, .slice VA dn vc, .slice none 0 0, .slice none 0 0, .slice none 0 0, .slice none 0 0, .slice none 0 0] 33)) w0.heap.size w0.heap.size lv (.slice A N c) V6 (restD zs lv fr at_ dl).length 1 1 (some ⟨w6.heap.size, 0, none⟩) xs6 [.int .i64 D.i0, .int .i64 D.i1, .int .i64 D.i2, .int .i64 D.i3, .int .i64 D.i4, .int .i64 D.i5, .int .i64 D.i6, .int .i64 D.i7, .int .i64 D.i8, .int .i64 D.i9, .int .i64 D.i10, .int .i64 D.i11, .slice VA dn vc, .slice none 0 0, .slice none 0 0, .slice none 0 0, .slice none 0 0, .slice none 0 0] (hB6.alloc _) (hV6.alloc _) hrd hd7.one hdl1 (by omega) (by simp; omega)
          have H7 := Lib.hid (And.intro (hB6.alloc (.cells #[.int .i64 D.i0, .int .i64 D.i1, .int .i64 D.i2, .int .i64 D.i3, .int .i64 D.i4, .int .i64 D.i5, .int .i64 D.i6, .int .i64 D.i7, .int .i64 D.i8, .int .i64 D.i9, .int .i64 D.i10, .int .i64 D.i11, .slice VA dn vc, .slice none 0 0, .slice none 0 0, .slice none 0 0, .slice none 0 0, .slice none 0 0] 33)) (And.intro (hV6.alloc (.cells #[.int .i64 D.i0, .int .i64 D.i1, .int .i64 D.i2, .int .i64 D.i3, .int .i64 D.i4, .int .i64 D.i5, .int .i64 D.i6, .int .i64 D.i7, .int .i64 D.i8, .int .i64 D.i9, .int .i64 D.i10, .int .i64 D.i11, .slice VA dn vc, .slice none 0 0, .slice none 0 0, .slice none 0 0, .slice none 0 0, .slice none 0 0] 33)) (And.intro hk7 (And.intro hd7 (And.intro hbw6 hs6B)))))
          clear hB6 hV6 hkk6 hP6 hk6' hk6 hrd hk7 hd7 hbw6 hb6 hs6 hs6B
          clear hsM
          go_wp2_with (first
            | (refine wpList_load_box rfl 33 _ rfl (w2.heap.size) rfl 33 #[.int .i64 D.i0, .int .i64 D.i1, .int .i64 D.i2, .int .i64 D.i3, .int .i64 D.i4, .int .i64 D.i5, .int .i64 D.i6, .int .i64 D.i7, .int .i64 D.i8, .int .i64 D.i9, .int .i64 D.i10, .int .i64 D.i11, .slice VA dn vc, .slice none 0 0, .slice none 0 0, .slice none 0 0, .slice none 0 0, .slice none 0 0] hBx _ Try.underlying33 rfl blkInfo (fun (_ : Hid _) => ?_))
            | fail)
          clear hBx
          refine hp.mono ?_
          rintro e w8 hO
          clear hp
          obtain ⟨he, hT8, hb8, _⟩ := ts_put (l := [D]) H7.out.1 H7.out.2.1 H7.out.2.2.1 (BlksAt.single H7.out.2.2.2.1) rfl (Nat.le_refl _) (by have := H7.out.2.2.2.2.2; simp; omega) hO
          clear hO HRE
          have hbw8 : Below w0.heap.size w0 w8 := (H7.out.2.2.2.2.1.alloc (by have := H7.out.2.2.2.2.2; omega) _).trans hb8
          by_cases hlim : 4096 < (restD zs lv fr at_ dl).length + 1
          · rw [if_pos (show 4096 < (restD zs lv fr at_ dl).length + [D].length from hlim)] at he
            subst he
            have HRE := Lib.hid (And.intro (show Blk w8 w.heap.size 45 #[.int .i64 0, .int .i64 0, .slice none 0 0] from HM.out.2.1.below hbw8 (by have := HM.out.1; omega)) (HM.out.2.2.trans (hbw8.mono (by have := HM.out.1; omega))))
            have HLI := Lib.hid hlim
            have HEZ := Lib.hid (show ¬ (8 : Int) = 0 by decide)
            clear hT8 hb8 hbw8 hlim
            go_wp2_with (first
              | (refine wpList_store_box rfl 45 _ _ rfl (w.heap.size) #[.int .i64 0, .int .i64 0, .slice none 0 0] rfl rfl 45 #[.int .i64 0, .int .i64 0, .slice none 0 0] HRE.out.1 tape3Info rfl (by simp [Value.oneCell']) ?_)
              | fail)
            intro w9 hB9 hg9
            have H9 := Lib.hid hg9
            clear hg9
            go_wp2_with fail
            refine bodyPost_ret (results_cell_tmp9 rfl _ _ w.heap.size 45 _ (0, 0) _ rfl hB9 Try.underlying45 rfl tape3Info) rfl ?_
            rw [HS.out.2.1, HNS.out, if_neg (by simp), if_pos HLI.out]
            refine ⟨none, 0, 0, [], ?_, RdP.none_, rfl, HRE.out.2.grown H9.out HRE.out.2.size (fun b hb => by injection hb with hb; omega)⟩
            show _ = Ending.returned (.tuple #[.agg #[.int .i64 (if (8 : Int) = 0 then 1 else 0), .int .i64 (if (8 : Int) = 0 then 20 else 0), .slice none 0 0], .int .i64 (8 : Int)])
            rw [if_neg HEZ.out, if_neg HEZ.out]
            rfl
          · rw [if_neg (show ¬ 4096 < (restD zs lv fr at_ dl).length + [D].length from hlim)] at he hT8
            subst he
            have H8 := Lib.hid (And.intro hT8.ts (And.intro hbw8 (show (restD zs lv fr at_ dl).length + 1 ≤ 4096 by omega)))
            have HLI := Lib.hid hlim
            have hwk : IntKind.i64.wrap ((at_ : Int) + (k : Int)) = (at_ : Int) + (k : Int) := by rw [IntKind.wrap_i64]; omega
            clear hT8 hb8 hbw8 hlim
            go_wp2
            go_roundw
            case rel => exact ⟨f, at_ + k, at_ + k, restD zs lv fr at_ dl ++ [D], by go_num, by go_num, Nat.le_refl _, by rw [HR.out.2.2.2]; omega, H8.out.1, by rw [List.length_append]; exact H8.out.2.2, by rw [HS.out.2.1, HNS.out, if_neg (by simp), if_neg HLI.out], by have := HS.out.2.2.2.1; omega, H8.out.2.1⟩
            case measure => simp [intOf]; omega
        · have hEB : (E == 0) = false := by simpa using hE0
          have HEZ := Lib.hid hE0
          clear hT6 hb6 hk6 hbw6
          go_wp2_with (first
            | (refine wpList_store_box rfl 45 _ _ rfl (w.heap.size) #[.int .i64 0, .int .i64 0, .slice none 0 0] rfl rfl 45 #[.int .i64 0, .int .i64 0, .slice none 0 0] HRE.out.1 tape3Info rfl (by simp [Value.oneCell']) ?_)
            | fail)
          intro w9 hB9 hg9
          have H9 := Lib.hid hg9
          clear hg9
          go_wp2_with fail
          refine bodyPost_ret (results_cell_tmp9 rfl _ _ w.heap.size 45 _ (0, 0) _ rfl hB9 Try.underlying45 rfl tape3Info) rfl ?_
          rw [HS.out.2.1, HNS.out, if_pos HEZ.out]
          refine ⟨none, 0, 0, [], ?_, RdP.none_, rfl, HRE.out.2.grown H9.out HRE.out.2.size (fun b hb => by injection hb with hb; omega)⟩
          show _ = Ending.returned (.tuple #[.agg #[.int .i64 (if E = 0 then 1 else 0), .int .i64 (if E = 0 then 20 else 0), .slice none 0 0], .int .i64 E])
          rw [if_neg HEZ.out, if_neg HEZ.out]
          rfl
    · obtain rfl : N = at_ := by omega
      have hlI : ¬ (N : Int) < (N : Int) := by omega
      have hsb := hbl.size
      have hre := rest_any wr w0.heap.size w0.heap.size fr N N c wr.heap.size lv A zs dl (hTS.tsk (Below.refl _ _)) hTS.lt (Nat.le_refl _) (Nat.le_refl _) hsb ((HR.out.1.below hbw).more (by rw [HM.out.1]; omega)) HR.out.2.1 hfa (Nat.le_refl _) hN hc hdl
      have hne := nrm_end (tol := tol) (tms := tms) (lv := lv) (f := f) (fr := fr) (dl := dl) (zs := zs) (at_ := N) (by rw [HR.out.2.2.2]; omega)
      rw [HR.out.2.2.2] at hne
      rw [hne] at hnr
      obtain ⟨E, hE⟩ : ∃ E : Int, E = restE zs lv fr N dl := ⟨_, rfl⟩
      rw [← hE] at hnr hre
      have HS := Lib.hid (And.intro hnr (And.intro hRx (And.intro hbw hE)))
      clear hTS hnr hbl hfu hRx hbw hne hE
      go_wp2_with fail
      refine hre.mono ?_
      rintro e w3 ⟨rfl, hT3, hb3, _⟩
      clear hre
      have hR3 : Blk w3 w.heap.size 45 #[.int .i64 0, .int .i64 0, .slice none 0 0] := HS.out.2.1.below hb3 (by rw [HM.out.1]; omega)
      have hbw3 : Below w.heap.size w w3 := HS.out.2.2.1.trans (hb3.mono (by rw [HM.out.1]; omega))
      by_cases hE0 : E = 0
      · subst hE0
        obtain ⟨V, xs, hB, hV, hk, _⟩ := hT3
        obtain ⟨VA, vc, rfl⟩ := own_slice hV
        have hl3 : ∀ j v, [Value.int .i64 1, Value.int .i64 20, Value.slice VA (restD zs lv fr N dl).length vc][j]? = some v → w3.cell? ((⟨w0.heap.size, 0, none⟩ : Addr).add j) = some v := by
          intro j v hv
          match j, hv with
          | 0, hv => injection hv with hv; subst hv; exact (hB.cell 0).trans rfl
          | 1, hv => injection hv with hv; subst hv; exact (hB.cell 1).trans rfl
          | 2, hv => injection hv with hv; subst hv; exact (hB.cell 2).trans rfl
          | j + 3, hv => simp at hv
        have HL3 := Lib.hid hl3
        have H3 := Lib.hid (And.intro hV (And.intro hk (And.intro hbw3 hB.lt)))
        have HR3 := Lib.hid hR3
        clear hl3 hV hk hbw3 hB hR3 hb3
        go_wp2_with (first
          | (refine wpList_load_at rfl 45 _ rfl ⟨w0.heap.size, 0, none⟩ rfl [.int .i64 1, .int .i64 20, .slice VA (restD zs lv fr N dl).length vc] HL3.out _ Try.underlying45 rfl tape3Info ?_)
          | (refine wpList_store_box rfl 45 _ _ rfl (w.heap.size) #[.int .i64 1, .int .i64 20, .slice VA (restD zs lv fr N dl).length vc] rfl rfl 45 #[.int .i64 0, .int .i64 0, .slice none 0 0] HR3.out tape3Info rfl (by simp [Value.oneCell']) ?_)
          | fail)
        intro w9 hB9 hg9
        have H9 := Lib.hid hg9
        clear hg9
        go_wp2_with fail
        refine bodyPost_ret (results_cell_tmp9 rfl _ _ w.heap.size 45 _ (0, 0) _ rfl hB9 Try.underlying45 rfl tape3Info) rfl ?_
        obtain ⟨hV, hk, hbw3, _⟩ := H3.out
        have hs9 := H9.out.size
        have hs0 := HM.out.1
        rw [HS.out.1, if_neg (by simp)]
        refine ⟨VA, _, vc, xs, rfl, ?_, BlksAt.keep (fun b hp => H9.out.block b hp.2.1 (by intro e; injection e with e; have := hp.1; omega)) (fun b hp => ⟨by have := hp.1; omega, by have := hp.2.1; omega⟩) hk, hbw3.grown H9.out hbw3.size (fun b hb => by injection hb with hb; omega)⟩
        exact (RdP.of_own (hV.kept H9.out (.inr (fun e => by have := (hV.lt _ e).1; omega)))).keep (fun b _ => rfl) (fun b hp => ⟨by have := hp.1; omega, hp.2⟩)
      · have hEB : (E == 0) = false := by simpa using hE0
        have HEZ := Lib.hid hE0
        have H3 := Lib.hid hbw3
        have HR3 := Lib.hid hR3
        clear hbw3 hR3 hb3 hT3
        go_wp2_with (first
          | (refine wpList_store_box rfl 45 _ _ rfl (w.heap.size) #[.int .i64 0, .int .i64 0, .slice none 0 0] rfl rfl 45 #[.int .i64 0, .int .i64 0, .slice none 0 0] HR3.out tape3Info rfl (by simp [Value.oneCell']) ?_)
          | fail)
        intro w9 hB9 hg9
        have H9 := Lib.hid hg9
        clear hg9
        go_wp2_with fail
        refine bodyPost_ret (results_cell_tmp9 rfl _ _ w.heap.size 45 _ (0, 0) _ rfl hB9 Try.underlying45 rfl tape3Info) rfl ?_
        rw [HS.out.1, if_pos HEZ.out]
        refine ⟨none, 0, 0, [], ?_, RdP.none_, rfl, H3.out.grown H9.out H3.out.size (fun b hb => by injection hb with hb; omega)⟩
        show _ = Ending.returned (.tuple #[.agg #[.int .i64 (if E = 0 then 1 else 0), .int .i64 (if E = 0 then 20 else 0), .slice none 0 0], .int .i64 E])
        rw [if_neg HEZ.out, if_neg HEZ.out]
        rfl
end Go.Proofs.Ytckgmnlmimogjaa
