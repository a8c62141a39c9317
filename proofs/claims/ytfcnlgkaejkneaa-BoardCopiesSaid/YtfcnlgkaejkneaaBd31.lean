/- Layer 11: the walk of BoardPlays. -/
import Derived.Test.YtfcnlgkaejkneaaBd30
import Derived.Test.YtfcnlgkaejkneaaBd12
namespace Go.Proofs.Ytfcnlgkaejkneaa
open Go.RowKit

/-- two boards as they begin -/
def startB (F : Int) (rz mz : List Int) (slow : Bool) : Bd := { newB F rz mz with slow := slow, log := true }
def startS (F : Int) (rz mz : List Int) (slow : Bool) : PS := ⟨startB F rz mz slow, [], [], startB F rz mz slow, F, [], [], []⟩
theorem start_ok {F : Int} (h0 : 0 ≤ F) (h1 : F ≤ 69887) (rz mz : List Int) (slow : Bool) : (startS F rz mz slow).Ok 0 true :=
  ⟨h0, h1, Int.le_refl 0, Int.le_refl 0, Same10.start.1, Nat.le_refl _, Nat.le_refl _, by show F = (0 + F) % 69888; omega, Int.le_refl 0, Int.le_refl 0, h0, h1, Same10.start, Nat.le_refl _, Nat.le_refl _, Nat.le_refl _, fun _ => ⟨rfl, rfl, rfl⟩⟩
theorem PS.Ok.up {s : PS} {n m : Nat} {same : Bool} (ok : s.Ok n same) (h : n ≤ m) : s.Ok m same := by
  induction m with
  | zero => obtain rfl : n = 0 := by omega
            exact ok
  | succ m ih =>
    by_cases e : n = m + 1
    · exact e ▸ ok
    · exact ok_next (ih (by omega))
theorem start_at {w : World} {base g q P : Nat} (F : Int) (rz mz : List Int) (slow : Bool) (hB : BdIs w g (startB F rz mz slow) (.slice none 0 0) (.slice none 0 0)) (hX : DcIs w q (startB F rz mz slow) F (.slice none 0 0) (.slice none 0 0) (.slice none 0 0)) (hP : Blk w P 55 #[.pointer (some ⟨g, 0, none⟩), .pointer (some ⟨q, 0, none⟩)]) (hg : base ≤ g) (hq : base ≤ q) :
    PAt w base g q P (startS F rz mz slow) (.slice none 0 0) (.slice none 0 0) (.slice none 0 0) (.slice none 0 0) (.slice none 0 0) :=
  ⟨⟨hB, World.ownsRow_nil _ _ _ _, World.ownsRow_nil _ _ _ _⟩, ⟨hX, World.ownsRow_nil _ _ _ _, World.ownsRow_nil _ _ _ _, World.ownsRow_nil _ _ _ _⟩, hP, hg, hq, fun k h => by simp [Value.ownBlock] at h, fun k h => by simp [Value.ownBlock] at h⟩
theorem below_set11 {g i : Nat} {a b : World} {v : Value} (h : Below a.heap.size a b) (hg : a.heap.size ≤ g) : Below a.heap.size a (b.setCell ⟨g, i, none⟩ v) :=
  h.grown (grown_cell b g i v) h.size (fun k e => by injection e with e; omega)
theorem nine (B : Nat) (w : World) : Reads (w.alloc (.cells #[.int .u8 1, .int .u8 2, .int .u8 3] 5)) (w.alloc (.cells #[.int .u8 1, .int .u8 2, .int .u8 3] 5)).heap.size 1 (some ⟨w.heap.size, 0, none⟩) 3 (([1, 2, 3] : List Int).map (Value.int .u8)) :=
  reads_new w 5 #[.int .u8 1, .int .u8 2, .int .u8 3] [.int .u8 1, .int .u8 2, .int .u8 3] rfl

set_option maxRecDepth 100000 in
set_option maxHeartbeats 8000000 in
theorem boardPlays_walk (OA : Option Addr) (m c : Nat) (l : List OpD) (phase : Int) (slow : Bool) (w : World) (hO : Reads w w.heap.size 5 OA m (opsC l)) (hok : ∀ i, i < m → (l.getD i default).ok) (hph : (Lit.int .i64 phase).wf = true) :
    Calls Try.prog 5 #[.slice OA m c, .int .i64 phase, .bool slow] w fun x w' => x = .returned (.bool true) ∧ Below w.heap.size w w' := by
  obtain ⟨p0, p1⟩ := bounds_i64 hph
  clear hph
  have HO := Lib.hid (And.intro hO hok)
  clear hO hok
  go_enter Try.func5, Try.ntmps5
  by_cases hm : (60 : Int) < (m : Int)
  · have hlv := lives_any w
    go_wp2_with fail
    refine hlv.mono ?_
    rintro x w9 ⟨rfl, hb9⟩
    have H9 := Lib.hid (bthen (Below.refl w.heap.size w) hb9)
    clear hlv hb9
    go_wp2
    go_ret
    exact ⟨rfl, H9.out⟩
  · have hst := steps_any w OA m c l HO.out.1 (by omega)
    obtain ⟨S, hS⟩ : ∃ S, S = sumN l m := ⟨_, rfl⟩
    rw [← hS] at hst
    clear hS
    go_wp2_with fail
    refine hst.mono ?_
    rintro x w' ⟨rfl, rfl⟩
    clear hst
    by_cases hs : 20000 < S
    · have hlv := lives_any w
      go_wp2_with fail
      refine hlv.mono ?_
      rintro x w9 ⟨rfl, hb9⟩
      have H9 := Lib.hid (bthen (Below.refl w.heap.size w) hb9)
      clear hlv hb9
      go_wp2
      go_ret
      exact ⟨rfl, H9.out⟩
    · go_wp2_with fail
      refine (rom_any w 201).mono ?_
      rintro x w1 ⟨rfl, hR1, hb1⟩
      have hs1 := hb1.size
      have hnw := bNew_any (w1.alloc (.cells #[.int .u8 1, .int .u8 2, .int .u8 3] 5)) (some ⟨w.heap.size, 0, none⟩) (some ⟨w1.heap.size, 0, none⟩) 16384 3 3 phase p0 p1 (List.replicate 16384 201) [1, 2, 3] (fill_reads (hR1.alloc _)) (nine 0 w1) (by decide)
      have hb1a : Below w.heap.size w (w1.alloc (.cells #[.int .u8 1, .int .u8 2, .int .u8 3] 5)) := hb1.alloc hs1 _
      have H1 := Lib.hid hb1a
      clear hR1 hb1 hb1a
      go_wp2_with fail
      refine hnw.mono ?_
      rintro x w2 ⟨g, rfl, hg, hB, hb2⟩
      clear hnw
      have hg1 : w.heap.size ≤ g := by have := H1.out.size; omega
      have H2 := Lib.hid (H1.out.trans (hb2.mono H1.out.size))
      clear hb2 hg H1
      obtain ⟨F, hF⟩ : ∃ F, F = frameS phase := ⟨_, rfl⟩
      rw [← hF] at hB
      have HF := Lib.hid (And.intro hF (show 0 ≤ F ∧ F ≤ 69887 by rw [hF]; exact frameS_bd phase))
      clear hF
      have cS : w2.cell? ⟨g, 65544, none⟩ = some (.bool (newB F (List.replicate 16384 201) [1, 2, 3]).slow) := hB.at_ (i := 65544) (by decide) bd_slow
      have fS : w2.frozen? ⟨g, 65544, none⟩ = false := hB.fz 65544
      have cL : w2.cell? ⟨g, 65546, none⟩ = some (.bool (newB F (List.replicate 16384 201) [1, 2, 3]).log) := hB.at_ (i := 65546) (by decide) bd_log
      have fL : w2.frozen? ⟨g, 65546, none⟩ = false := hB.fz 65546
      have hB2 : BdIs ((w2.setCell ⟨g, 65544, none⟩ (.bool slow)).setCell ⟨g, 65546, none⟩ (.bool true)) g (startB F (List.replicate 16384 201) [1, 2, 3] slow) (.slice none 0 0) (.slice none 0 0) := BdIs.put (BdIs.put hB (set_slow slow)) (set_log true)
      have hb3 : Below w.heap.size w ((w2.setCell ⟨g, 65544, none⟩ (.bool slow)).setCell ⟨g, 65546, none⟩ (.bool true)) := below_set11 (below_set11 H2.out hg1) hg1
      have H3 := Lib.hid (And.intro hB2 hb3)
      clear hB hB2 hb3 H2
      generalize (newB F (List.replicate 16384 201) [1, 2, 3]).slow = z1 at *
      generalize (newB F (List.replicate 16384 201) [1, 2, 3]).log = z2 at *
      go_upto_region 7 with fail
      generalize (w2.setCell ⟨g, 65544, none⟩ (.bool slow)).setCell ⟨g, 65546, none⟩ (.bool true) = w3 at *
      clear cS fS cL fL
      have hro := rom_any w3 201
      go_wp2_with fail
      refine hro.mono ?_
      rintro x w4 ⟨rfl, hR4, hb4⟩
      clear hro
      have hs4 := hb4.size
      have hnw := dNew_any (w4.alloc (.cells #[.int .u8 1, .int .u8 2, .int .u8 3] 5)) (some ⟨w3.heap.size, 0, none⟩) (some ⟨w4.heap.size, 0, none⟩) 16384 3 3 phase p0 p1 (List.replicate 16384 201) [1, 2, 3] (fill_reads (hR4.alloc _)) (nine 0 w4) (by decide)
      rw [← HF.out.1] at hnw
      have hs3 := H3.out.2.size
      have hB4 : BdIs (w4.alloc (.cells #[.int .u8 1, .int .u8 2, .int .u8 3] 5)) g (startB F (List.replicate 16384 201) [1, 2, 3] slow) (.slice none 0 0) (.slice none 0 0) := Blk.alloc (H3.out.1.below hb4) _
      have H4 := Lib.hid (And.intro hB4 ((H3.out.2.trans (hb4.mono hs3)).alloc (by omega) (.cells #[.int .u8 1, .int .u8 2, .int .u8 3] 5)))
      clear hR4 hb4 hB4 H3
      go_wp2_with fail
      refine hnw.mono ?_
      rintro x w5 ⟨rfl, hX, hb5⟩
      clear hnw
      have hB5 := H4.out.1.below hb5
      have hs5 := H4.out.2.size
      have hz5 : (w4.alloc (.cells #[.int .u8 1, .int .u8 2, .int .u8 3] 5)).heap.size = w4.heap.size + 1 := by simp
      have H5 := Lib.hid (And.intro hB5 (And.intro hX (H4.out.2.trans (hb5.mono hs5))))
      clear hB5 hX hb5 H4 hz5
      obtain ⟨q, hq⟩ : ∃ q, q = (w4.alloc (.cells #[.int .u8 1, .int .u8 2, .int .u8 3] 5)).heap.size := ⟨_, rfl⟩
      rw [← hq] at H5 hs5 ⊢
      have HQ := Lib.hid hq
      clear hq
      go_upto_region 8 with fail
      have hP6 : Blk (w5.alloc (.cells #[.pointer (some ⟨g, 0, none⟩), .pointer (some ⟨q, 0, none⟩)] 55)) w5.heap.size 55 #[.pointer (some ⟨g, 0, none⟩), .pointer (some ⟨q, 0, none⟩)] := Blk.new w5 _ _
      have hB6 : BdIs (w5.alloc (.cells #[.pointer (some ⟨g, 0, none⟩), .pointer (some ⟨q, 0, none⟩)] 55)) g (startB F (List.replicate 16384 201) [1, 2, 3] slow) (.slice none 0 0) (.slice none 0 0) := Blk.alloc H5.out.1 _
      have hX6 : DcIs (w5.alloc (.cells #[.pointer (some ⟨g, 0, none⟩), .pointer (some ⟨q, 0, none⟩)] 55)) q (newB F (List.replicate 16384 201) [1, 2, 3]) F (.slice none 0 0) (.slice none 0 0) (.slice none 0 0) := Blk.alloc H5.out.2.1 _
      have hq6 : w.heap.size ≤ q := hs5
      have hb6 : Below w.heap.size w (w5.alloc (.cells #[.pointer (some ⟨g, 0, none⟩), .pointer (some ⟨q, 0, none⟩)] 55)) := H5.out.2.2.alloc (by have := H5.out.2.2.size; omega) _
      have hg6 := hg1
      have hs59 := H5.out.2.2.size
      clear H5 HQ hs5
      obtain ⟨P, hP⟩ : ∃ P, P = w5.heap.size := ⟨_, rfl⟩
      rw [← hP] at hP6 ⊢
      have hp6 : w.heap.size ≤ P := by rw [hP]; exact hs59
      clear hs59
      clear hP
      generalize w5.alloc (.cells #[.pointer (some ⟨g, 0, none⟩), .pointer (some ⟨q, 0, none⟩)] 55) = w6 at *
      have q1 : w6.cell? ⟨P, 1, none⟩ = some (.pointer (some ⟨q, 0, none⟩)) := (hP6.cell 1).trans rfl
      have cS : w6.cell? ⟨q, 65541, none⟩ = some (.bool (newB F (List.replicate 16384 201) [1, 2, 3]).slow) := hX6.at_ (i := 65541) (by decide) dc_slow
      have fS : w6.frozen? ⟨q, 65541, none⟩ = false := hX6.fz 65541
      have cL : w6.cell? ⟨q, 65542, none⟩ = some (.bool (newB F (List.replicate 16384 201) [1, 2, 3]).log) := hX6.at_ (i := 65542) (by decide) dc_log
      have fL : w6.frozen? ⟨q, 65542, none⟩ = false := hX6.fz 65542
      have hX7 : DcIs ((w6.setCell ⟨q, 65541, none⟩ (.bool slow)).setCell ⟨q, 65542, none⟩ (.bool true)) q (startB F (List.replicate 16384 201) [1, 2, 3] slow) F (.slice none 0 0) (.slice none 0 0) (.slice none 0 0) := DcIs.put (DcIs.put hX6 (dset_slow slow)) (dset_log true)
      have hb7 : Below w.heap.size w ((w6.setCell ⟨q, 65541, none⟩ (.bool slow)).setCell ⟨q, 65542, none⟩ (.bool true)) := below_set11 (below_set11 hb6 hq6) hq6
      have hqg : g ≠ q := Blk.ne_ hB6 hX6 (by decide)
      have hqP : P ≠ q := Blk.ne_ hP6 hX6 (by decide)
      have HS := Lib.hid (And.intro (start_at F (List.replicate 16384 201) [1, 2, 3] slow ((Blk.far (p := ⟨q, 65542, none⟩) (Blk.far (p := ⟨q, 65541, none⟩) hB6 hqg (.bool slow)) hqg (.bool true)) : BdIs _ g _ (.slice none 0 0) (.slice none 0 0)) hX7 (Blk.far (p := ⟨q, 65542, none⟩) (Blk.far (p := ⟨q, 65541, none⟩) hP6 hqP (.bool slow)) hqP (.bool true)) hg6 hq6) hb7)
      clear hP6 hB6 hX6 hb6 hX7 hb7 hqg hqP
      generalize (newB F (List.replicate 16384 201) [1, 2, 3]).slow = z3 at *
      generalize (newB F (List.replicate 16384 201) [1, 2, 3]).log = z4 at *
      go_upto_region 11 with fail
      generalize (w6.setCell ⟨q, 65541, none⟩ (.bool slow)).setCell ⟨q, 65542, none⟩ (.bool true) = w7 at *
      clear q1 cS fS cL fL
      go_loopw [10] (fun x wr => ∃ (i : Nat) (s : PS) (A E D A' E' : Value), x = .int .i64 (i : Int) ∧ i ≤ m ∧ s.Ok i true ∧ PAt wr w.heap.size g q P s A E D A' E' ∧ Below w.heap.size w wr) (fun x _ => m - (intOf x).toNat)
      case atStart => exact ⟨0, _, _, _, _, _, _, rfl, by omega, start_ok HF.out.2.1 HF.out.2.2 _ _ slow, HS.out.1, HS.out.2⟩
      case round =>
        clear HS
        obtain ⟨i, s, A, E, D, A', E', rfl, hi, ok, hP, hbl⟩ := hrel
        have hi0 : (0 : Int) ≤ (i : Int) := Int.natCast_nonneg _
        by_cases hlt : i < m
        · have hiI : (i : Int) < (m : Int) := by omega
          have hwi : IntKind.i64.wrap ((i : Int) + 1) = (i : Int) + 1 := by rw [IntKind.wrap_i64]; omega
          obtain ⟨ad, hae, _, c0, c1, c2, c3, c4⟩ := op_at (HO.out.1.below hbl) hlt
          subst hae
          obtain ⟨n0, n1, a0, a1, v0, v1⟩ := HO.out.2 i hlt
          have HT := Lib.hid (step_any wr w.heap.size g q P s i true A E D A' E' hP ok (by omega) hbl.size (l.getD i default).k (l.getD i default).n (l.getD i default).a (l.getD i default).v (l.getD i default).s n0 n1 a0 a1 v0 v1)
          have HB := Lib.hid hbl
          clear hP ok hbl n0 n1 a0 a1 v0 v1
          generalize (l.getD i default).k = k9 at *
          generalize (l.getD i default).n = n9 at *
          generalize (l.getD i default).a = a9 at *
          generalize (l.getD i default).v = v9 at *
          generalize (l.getD i default).s = s9 at *
          go_wp2_with fail
          refine HT.out.mono ?_
          rintro x w8 ⟨r, s2, A2, E2, D2, A3, E3, rfl, _, ok2, hP2, hr, hb2⟩
          obtain rfl : r = true := hr rfl
          have H8 := Lib.hid (And.intro ok2 (And.intro hP2 (HB.out.trans (hb2.mono (by have := HB.out.size; omega)))))
          clear ok2 hP2 hb2 hr HT c0 c1 c2 c3 c4
          go_wp2
          go_roundw
          case rel => exact ⟨i + 1, s2, A2, E2, D2, A3, E3, by go_num, by omega, H8.out.1, H8.out.2.1, H8.out.2.2⟩
          case measure => simp [intOf]; omega
        · obtain rfl : i = m := by omega
          have HE := Lib.hid (same_ok wr w.heap.size g q P s A E D A' E' hP (ok.eq rfl) (by have := ok.a1; omega) (by have := ok.e1; omega))
          have HB := Lib.hid hbl
          clear hP ok hbl
          go_wp2_with fail
          refine HE.out.mono ?_
          rintro x w8 ⟨rfl, hb8⟩
          have H8 := Lib.hid (bthen HB.out hb8)
          clear hb8 HE HB
          have hlv := lives_any w8
          go_wp2_with fail
          refine hlv.mono ?_
          rintro x w9 ⟨rfl, hb9⟩
          have H9 := Lib.hid (bthen H8.out hb9)
          clear hlv hb9
          go_wp2
          go_ret
          exact ⟨rfl, H9.out⟩
end Go.Proofs.Ytfcnlgkaejkneaa
