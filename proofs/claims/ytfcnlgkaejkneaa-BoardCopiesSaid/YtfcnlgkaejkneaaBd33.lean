/- Layer 11: the walk of BoardCopies. -/
import Derived.Test.YtfcnlgkaejkneaaBd32
import Derived.BigRegion
namespace Go.Proofs.Ytfcnlgkaejkneaa
open Go.RowKit

/-- a copied board beside one of the document's that has just begun -/
theorem copy_ok {s : PS} {n : Nat} {same : Bool} (ok : s.Ok n same) (F : Int) (h0 : 0 ≤ F) (h1 : F ≤ 69887) (rz mz : List Int) : PS.Ok ⟨s.b1, s.al1, s.es1, newB F rz mz, F, [], [], []⟩ n false :=
  ⟨ok.f0, ok.f1, ok.t0, ok.t1, ok.K1, ok.a1, ok.e1, by show F = (0 + F) % 69888; omega, Int.le_refl 0, by show (0 : Int) ≤ (n : Int) * 4000; omega, h0, h1, Same10.start, Nat.zero_le _, Nat.zero_le _, Nat.zero_le _, fun e => by cases e⟩
theorem copy_at {w : World} {base g q P : Nat} {s : PS} {A E : Value} (F : Int) (rz mz : List Int) (hB : BdAt w base g s.b1 s.al1 s.es1 A E) (hX : DcIs w q (newB F rz mz) F (.slice none 0 0) (.slice none 0 0) (.slice none 0 0)) (hP : Blk w P 55 #[.pointer (some ⟨g, 0, none⟩), .pointer (some ⟨q, 0, none⟩)]) (hg : base ≤ g) (hq : base ≤ q) :
    PAt w base g q P ⟨s.b1, s.al1, s.es1, newB F rz mz, F, [], [], []⟩ A E (.slice none 0 0) (.slice none 0 0) (.slice none 0 0) :=
  ⟨hB, ⟨hX, World.ownsRow_nil _ _ _ _, World.ownsRow_nil _ _ _ _, World.ownsRow_nil _ _ _ _⟩, hP, hg, hq, fun k _ h' => by simp [Value.ownBlock] at h', fun k _ h' => by simp [Value.ownBlock] at h'⟩
/-- a picture's bytes, whatever they are -/
def anyRow (f : Nat → Int) : Array Value := cellsF (fun k => .int .u8 (f k)) 12288
theorem anyRow_set (f : Nat → Int) (i : Nat) (v : Int) : (anyRow f).setIfInBounds i (.int .u8 v) = anyRow (fun k => if k = i then v else f k) := by
  unfold anyRow
  rw [cellsF_set]
  refine cellsF_congr fun k _ => ?_
  by_cases e : k = i <;> simp [e]
theorem ok_border {s : PS} {n : Nat} (ok : s.Ok n true) (x : Int) : PS.Ok { s with b1 := { s.b1 with bo := x }, b2 := { s.b2 with bo := x } } n true :=
  ⟨ok.f0, ok.f1, ok.t0, ok.t1, ok.K1, ok.a1, ok.e1, ok.fd, ok.u0, ok.u1, ok.p0, ok.p1, ok.K2, ok.z2, ok.a2, ok.e2, fun e => by
    obtain ⟨e1, e2, e3⟩ := ok.eq e
    exact ⟨by simp only [e1], e2, e3⟩⟩
theorem opInfo11 : (Try.prog.info? 62).map (·.size) = some 5 := by kernel_rfl
set_option maxRecDepth 100000 in
set_option maxHeartbeats 16000000 in
theorem boardCopies_walk (OA : Option Addr) (m c : Nat) (l : List OpD) (k9 n9 a9 v9 : Int) (s9 : ByteArray) (w : World) (hO : Reads w w.heap.size 5 OA m (opsC l)) (hok : ∀ i, i < m → (l.getD i default).ok) (ho : OpD.ok ⟨k9, n9, a9, v9, s9⟩) :
    Calls Try.prog 6 #[.slice OA m c, .agg #[.int .i64 k9, .int .i64 n9, .int .u16 a9, .int .u8 v9, .string s9]] w fun x w' => x = .returned (.bool true) ∧ Below w.heap.size w w' := by
  obtain ⟨n0, n1, a0, a1, v0, v1⟩ := ho
  simp only at n0 n1 a0 a1 v0 v1
  have HO := Lib.hid (And.intro hO hok)
  clear hO hok
  have hx0 : Blk (w.alloc (.cells #[.int .i64 k9, .int .i64 n9, .int .u16 a9, .int .u8 v9, .string s9] 62)) w.heap.size 62 #[.int .i64 k9, .int .i64 n9, .int .u16 a9, .int .u8 v9, .string s9] := Blk.new w _ _
  have hb0 : Below w.heap.size w (w.alloc (.cells #[.int .i64 k9, .int .i64 n9, .int .u16 a9, .int .u8 v9, .string s9] 62)) := (Below.refl _ _).alloc (Nat.le_refl _) _
  have hsz0 : w.heap.size < (w.alloc (.cells #[.int .i64 k9, .int .i64 n9, .int .u16 a9, .int .u8 v9, .string s9] 62)).heap.size := by simp
  go_enter Try.func6, Try.ntmps6
  go_upto_region 2 with fail
  generalize w.alloc (.cells #[.int .i64 k9, .int .i64 n9, .int .u16 a9, .int .u8 v9, .string s9] 62) = W at *
  have d0 : W.cell? ⟨w.heap.size, 0, none⟩ = some (.int .i64 k9) := (hx0.cell 0).trans rfl
  have d1 : W.cell? ⟨w.heap.size, 1, none⟩ = some (.int .i64 n9) := (hx0.cell 1).trans rfl
  have d2 : W.cell? ⟨w.heap.size, 2, none⟩ = some (.int .u16 a9) := (hx0.cell 2).trans rfl
  have d3 : W.cell? ⟨w.heap.size, 3, none⟩ = some (.int .u8 v9) := (hx0.cell 3).trans rfl
  have d4 : W.cell? ⟨w.heap.size, 4, none⟩ = some (.string s9) := (hx0.cell 4).trans rfl
  have H0 := Lib.hid (And.intro hx0 hb0)
  clear hx0 hb0
  go_wp2_with fail
  refine (bWrite_nil W 20000 1).mono ?_
  rintro x w' ⟨⟨u, rfl⟩, rfl⟩
  go_wp2_with fail
  refine (out_nil W 254 1).mono ?_
  rintro x w' ⟨⟨u, rfl⟩, rfl⟩
  go_wp2_with fail
  refine (next_nilB W).mono ?_
  rintro x w' ⟨⟨u, rfl⟩, rfl⟩
  go_wp2_with fail
  refine (bRead_nil W 5).mono ?_
  rintro x w' ⟨rfl, rfl⟩
  go_wp2_with fail
  refine (in_nil W 254).mono ?_
  rintro x w' ⟨rfl, rfl⟩
  go_wp2_with fail
  refine (hold_nilB W 0 16384 0).mono ?_
  rintro x w' ⟨rfl, rfl⟩
  go_wp2_with fail
  refine (int_nilB W).mono ?_
  rintro x w' ⟨rfl, rfl⟩
  go_wp2_with fail
  refine (bT_nil W).mono ?_
  rintro x w' ⟨rfl, rfl⟩
  go_wp2_with fail
  refine (bFrame_nil W).mono ?_
  rintro x w' ⟨rfl, rfl⟩
  go_wp2_with fail
  refine (bBorder_nil W).mono ?_
  rintro x w' ⟨rfl, rfl⟩
  go_wp2_with fail
  refine (bMic_nil W).mono ?_
  rintro x w' ⟨rfl, rfl⟩
  go_wp2_with fail
  refine (bSpk_nil W).mono ?_
  rintro x w' ⟨rfl, rfl⟩
  go_wp2_with fail
  refine (bActs_nil W).mono ?_
  rintro x w' ⟨rfl, rfl⟩
  go_wp2_with fail
  refine (bEdges_nil W).mono ?_
  rintro x w' ⟨rfl, rfl⟩
  go_wp2_with fail
  refine (bPic_nil W).mono ?_
  rintro x w' ⟨rfl, rfl⟩
  go_wp2_with fail
  refine (bCopy_nil W).mono ?_
  rintro x w' ⟨rfl, rfl⟩
  by_cases hm : (60 : Int) < (m : Int)
  · have hlv := lives_any W
    go_wp2_with fail
    refine hlv.mono ?_
    rintro x w90 ⟨rfl, hb9⟩
    have H9 := Lib.hid (bthen H0.out.2 hb9)
    clear hlv hb9
    go_wp2
    go_ret
    exact ⟨rfl, H9.out⟩
  · have hst := steps_any W OA m c l ((HO.out.1.below H0.out.2).more (Nat.le_of_lt hsz0)) (by omega)
    obtain ⟨S, hS⟩ : ∃ S, S = sumN l m := ⟨_, rfl⟩
    rw [← hS] at hst
    clear hS
    go_wp2_with fail
    refine hst.mono ?_
    rintro x w' ⟨rfl, rfl⟩
    clear hst
    by_cases hs : 20000 < S
    · have hlv := lives_any W
      go_wp2_with fail
      refine hlv.mono ?_
      rintro x w90 ⟨rfl, hb9⟩
      have H9 := Lib.hid (bthen H0.out.2 hb9)
      clear hlv hb9
      go_wp2
      go_ret
      exact ⟨rfl, H9.out⟩
    · by_cases hn9 : 3000 < n9
      · have hlv := lives_any W
        go_wp2_with fail
        refine hlv.mono ?_
        rintro x w90 ⟨rfl, hb9⟩
        have H9 := Lib.hid (bthen H0.out.2 hb9)
        clear hlv hb9
        go_wp2
        go_ret
        exact ⟨rfl, H9.out⟩
      · go_wp2_with fail
        refine (rom_any W 201).mono ?_
        rintro x w1 ⟨rfl, hR1, hb1⟩
        have hnw := bNew_any w1 (some ⟨W.heap.size, 0, none⟩) none 16384 0 0 0 (by decide) (by decide) (List.replicate 16384 201) [] (fill_reads hR1) Reads.none_ (by decide)
        have hsW := H0.out.2.size
        have hs1a := hb1.size
        have H1 := Lib.hid (And.intro (H0.out.1.below hb1 H0.out.1.lt) (H0.out.2.trans (hb1.mono hsW)))
        clear hR1 hb1 H0
        go_wp2_with fail
        refine hnw.mono ?_
        rintro x w2 ⟨g, rfl, hg, hB, hb2⟩
        clear hnw
        have hs1 := H1.out.2.size
        have hg0 : w.heap.size + 1 ≤ g := by omega
        have hg1 : w.heap.size ≤ g := by omega
        have H2 := Lib.hid (And.intro (H1.out.1.below hb2 H1.out.1.lt) (H1.out.2.trans (hb2.mono hs1)))
        clear hb2 hg H1
        obtain ⟨F, hF⟩ : ∃ F, F = frameS 0 := ⟨_, rfl⟩
        rw [← hF] at hB
        have HF := Lib.hid (And.intro hF (show 0 ≤ F ∧ F ≤ 69887 by rw [hF]; exact frameS_bd 0))
        clear hF
        have cL : w2.cell? ⟨g, 65546, none⟩ = some (.bool (newB F (List.replicate 16384 201) []).log) := hB.at_ (i := 65546) (by decide) bd_log
        have fL : w2.frozen? ⟨g, 65546, none⟩ = false := hB.fz 65546
        have hB2 : BdIs (w2.setCell ⟨g, 65546, none⟩ (.bool true)) g (startB F (List.replicate 16384 201) [] false) (.slice none 0 0) (.slice none 0 0) := BdIs.put hB (set_log true)
        have hgx : w.heap.size ≠ g := Blk.ne_ H2.out.1 hB (by decide)
        have hx3 : Blk (w2.setCell ⟨g, 65546, none⟩ (.bool true)) w.heap.size 62 #[.int .i64 k9, .int .i64 n9, .int .u16 a9, .int .u8 v9, .string s9] := Blk.far (p := ⟨g, 65546, none⟩) H2.out.1 hgx (.bool true)
        have H3 := Lib.hid (And.intro hB2 (And.intro hx3 (below_set11 (i := 65546) (v := .bool true) H2.out.2 hg1)))
        clear hB hB2 hx3 H2 hgx
        generalize (newB F (List.replicate 16384 201) []).log = z1 at *
        clear d0 d1 d2 d3 d4
        go_upto_region 13 with fail
        generalize w2.setCell ⟨g, 65546, none⟩ (.bool true) = w3 at *
        clear cL fL
        have hs3 := H3.out.2.2.size
        go_wp2_with fail
        refine (rom_any w3 201).mono ?_
        rintro x w4 ⟨rfl, hR4, hb4⟩
        have hnw := dNew_any w4 (some ⟨w3.heap.size, 0, none⟩) none 16384 0 0 0 (by decide) (by decide) (List.replicate 16384 201) [] (fill_reads hR4) Reads.none_ (by decide)
        rw [← HF.out.1] at hnw
        have hs4a := hb4.size
        have hs2a : w.heap.size < w3.heap.size := H3.out.2.1.lt
        have H4 := Lib.hid (And.intro (H3.out.1.below hb4) (And.intro (H3.out.2.1.below hb4 H3.out.2.1.lt) (H3.out.2.2.trans (hb4.mono hs3))))
        clear hR4 hb4 H3
        have hs4 := H4.out.2.2.size
        go_wp2_with fail
        refine hnw.mono ?_
        rintro x w5 ⟨rfl, hX, hb5⟩
        clear hnw
        have H5 := Lib.hid (And.intro (H4.out.1.below hb5) (And.intro hX (And.intro (H4.out.2.1.below hb5 H4.out.2.1.lt) (H4.out.2.2.trans (hb5.mono hs4)))))
        clear hX hb5 H4
        have hs5 := H5.out.2.2.2.size
        obtain ⟨q, hq⟩ : ∃ q, q = w4.heap.size := ⟨_, rfl⟩
        rw [← hq] at H5 ⊢
        have hq0 : w.heap.size + 1 ≤ q := by omega
        have hq6 : w.heap.size ≤ q := by omega
        clear hq
        go_upto_region 14 with fail
        have hP6 : Blk (w5.alloc (.cells #[.pointer (some ⟨g, 0, none⟩), .pointer (some ⟨q, 0, none⟩)] 55)) w5.heap.size 55 #[.pointer (some ⟨g, 0, none⟩), .pointer (some ⟨q, 0, none⟩)] := Blk.new w5 _ _
        have hB6 : BdIs (w5.alloc (.cells #[.pointer (some ⟨g, 0, none⟩), .pointer (some ⟨q, 0, none⟩)] 55)) g (startB F (List.replicate 16384 201) [] false) (.slice none 0 0) (.slice none 0 0) := Blk.alloc H5.out.1 _
        have hX6 : DcIs (w5.alloc (.cells #[.pointer (some ⟨g, 0, none⟩), .pointer (some ⟨q, 0, none⟩)] 55)) q (newB F (List.replicate 16384 201) []) F (.slice none 0 0) (.slice none 0 0) (.slice none 0 0) := Blk.alloc H5.out.2.1 _
        have hx6 : Blk (w5.alloc (.cells #[.pointer (some ⟨g, 0, none⟩), .pointer (some ⟨q, 0, none⟩)] 55)) w.heap.size 62 #[.int .i64 k9, .int .i64 n9, .int .u16 a9, .int .u8 v9, .string s9] := Blk.alloc H5.out.2.2.1 _
        have hb6 : Below w.heap.size w (w5.alloc (.cells #[.pointer (some ⟨g, 0, none⟩), .pointer (some ⟨q, 0, none⟩)] 55)) := H5.out.2.2.2.alloc (by omega) _
        clear H5
        obtain ⟨P, hP⟩ : ∃ P, P = w5.heap.size := ⟨_, rfl⟩
        rw [← hP] at hP6 ⊢
        have hp6 : w.heap.size ≤ P := by omega
        clear hP
        generalize w5.alloc (.cells #[.pointer (some ⟨g, 0, none⟩), .pointer (some ⟨q, 0, none⟩)] 55) = w6 at *
        have q1 : w6.cell? ⟨P, 1, none⟩ = some (.pointer (some ⟨q, 0, none⟩)) := (hP6.cell 1).trans rfl
        have cL : w6.cell? ⟨q, 65542, none⟩ = some (.bool (newB F (List.replicate 16384 201) []).log) := hX6.at_ (i := 65542) (by decide) dc_log
        have fL : w6.frozen? ⟨q, 65542, none⟩ = false := hX6.fz 65542
        have hX7 : DcIs (w6.setCell ⟨q, 65542, none⟩ (.bool true)) q (startB F (List.replicate 16384 201) [] false) F (.slice none 0 0) (.slice none 0 0) (.slice none 0 0) := DcIs.put hX6 (dset_log true)
        have hb7 : Below w.heap.size w (w6.setCell ⟨q, 65542, none⟩ (.bool true)) := below_set11 hb6 hq6
        have hqg : g ≠ q := Blk.ne_ hB6 hX6 (by decide)
        have hqP : P ≠ q := Blk.ne_ hP6 hX6 (by decide)
        have hqx : w.heap.size ≠ q := Blk.ne_ hx6 hX6 (by decide)
        have HS := Lib.hid (And.intro (start_at F (List.replicate 16384 201) [] false (show BdIs (w6.setCell ⟨q, 65542, none⟩ (.bool true)) g (startB F (List.replicate 16384 201) [] false) (.slice none 0 0) (.slice none 0 0) from Blk.far (p := ⟨q, 65542, none⟩) hB6 hqg (.bool true)) hX7 (Blk.far (p := ⟨q, 65542, none⟩) hP6 hqP (.bool true)) hg0 hq0) (And.intro (show Blk (w6.setCell ⟨q, 65542, none⟩ (.bool true)) w.heap.size 62 #[.int .i64 k9, .int .i64 n9, .int .u16 a9, .int .u8 v9, .string s9] from Blk.far (p := ⟨q, 65542, none⟩) hx6 hqx (.bool true)) hb7))
        clear hP6 hB6 hX6 hb6 hX7 hb7 hqg hqP hqx hx6
        generalize (newB F (List.replicate 16384 201) []).log = z4 at *
        go_upto_region 16 with fail
        generalize w6.setCell ⟨q, 65542, none⟩ (.bool true) = w7 at *
        clear q1 cL fL
        go_loopw [9] (fun x wr => ∃ (i : Nat) (s : PS) (A E D A' E' : Value), x = .int .i64 (i : Int) ∧ i ≤ m ∧ s.Ok i true ∧ PAt wr (w.heap.size + 1) g q P s A E D A' E' ∧ Blk wr w.heap.size 62 #[.int .i64 k9, .int .i64 n9, .int .u16 a9, .int .u8 v9, .string s9] ∧ Below w.heap.size w wr) (fun x _ => m - (intOf x).toNat)
        case atStart => exact ⟨0, _, _, _, _, _, _, rfl, by omega, start_ok HF.out.2.1 HF.out.2.2 _ _ false, HS.out.1, HS.out.2.1, HS.out.2.2⟩
        case round =>
          clear HS
          obtain ⟨i, s, A, E, D, A', E', rfl, hi, ok, hP, hx, hbl⟩ := hrel
          have hi0 : (0 : Int) ≤ (i : Int) := Int.natCast_nonneg _
          by_cases hlt : i < m
          · have hiI : (i : Int) < (m : Int) := by omega
            have hwi : IntKind.i64.wrap ((i : Int) + 1) = (i : Int) + 1 := by rw [IntKind.wrap_i64]; omega
            obtain ⟨ad, hae, _, c0, c1, c2, c3, c4⟩ := op_at (HO.out.1.below hbl) hlt
            subst hae
            obtain ⟨m0, m1, b0, b1, u0, u1⟩ := HO.out.2 i hlt
            have HT := Lib.hid (step_any wr (w.heap.size + 1) g q P s i true A E D A' E' hP ok (by omega) hx.lt (l.getD i default).k (l.getD i default).n (l.getD i default).a (l.getD i default).v (l.getD i default).s m0 m1 b0 b1 u0 u1)
            have HB := Lib.hid (And.intro hx hbl)
            clear hP ok hbl hx m0 m1 b0 b1 u0 u1
            generalize (l.getD i default).k = k8 at *
            generalize (l.getD i default).n = n8 at *
            generalize (l.getD i default).a = a8 at *
            generalize (l.getD i default).v = v8 at *
            generalize (l.getD i default).s = s8 at *
            go_wp2_with fail
            refine HT.out.mono ?_
            rintro x w8 ⟨r, s2, A2, E2, D2, A3, E3, rfl, _, ok2, hP2, hr, hb2⟩
            have H8 := Lib.hid (And.intro ok2 (And.intro hP2 (And.intro (HB.out.1.below hb2 (Nat.lt_succ_self _)) (HB.out.2.trans (hb2.mono (Nat.le_succ _))))))
            clear ok2 hP2 hb2 hr HT c0 c1 c2 c3 c4
            go_wp2
            go_roundw
            case rel => exact ⟨i + 1, s2, A2, E2, D2, A3, E3, by go_num, by omega, H8.out.1, H8.out.2.1, H8.out.2.2.1, H8.out.2.2.2⟩
            case measure => simp [intOf]; omega
          · obtain rfl : i = m := by omega
            rename World => V0
            have hmm : i ≤ 60 := by omega
            have hal := ok.a1
            have hes := ok.e1
            have hcp := bCopy_any V0 (w.heap.size + 1) g s.b1 s.al1 s.es1 A E hP.B (by omega) (by omega)
            have HW := Lib.hid (And.intro hP (And.intro hx (And.intro hbl ok)))
            clear hP hx hbl ok
            have hwr : w.heap.size < V0.heap.size := HW.out.2.1.lt
            go_wp2_with fail
            refine hcp.mono ?_
            rintro x w8 ⟨A2, E2, rfl, hC8, hb8⟩
            clear hcp
            have hs8 := hb8.size
            go_wp2_with fail
            refine (rom_any w8 201).mono ?_
            rintro x w9 ⟨rfl, hR9, hb9⟩
            have hnw := dNew_any w9 (some ⟨w8.heap.size, 0, none⟩) none 16384 0 0 0 (by decide) (by decide) (List.replicate 16384 201) [] (fill_reads hR9) Reads.none_ (by decide)
            rw [← HF.out.1] at hnw
            have hs9 := hb9.size
            have H9 := Lib.hid (And.intro (hC8.kept hb9) (hb8.trans (hb9.mono hs8)))
            clear hC8 hb8 hb9 hR9
            go_wp2_with fail
            refine hnw.mono ?_
            rintro x w10 ⟨rfl, hX, hb10⟩
            clear hnw
            have hs10 := hb10.size
            have H10 := Lib.hid (And.intro (H9.out.1.kept hb10) (And.intro hX (H9.out.2.trans (hb10.mono H9.out.2.size))))
            clear hX hb10 H9
            obtain ⟨y, hy⟩ : ∃ y, y = w9.heap.size := ⟨_, rfl⟩
            rw [← hy] at H10 ⊢
            have hy6 : V0.heap.size ≤ y := by omega
            clear hy
            go_upto_region 23 with fail
            have hP6 : Blk (w10.alloc (.cells #[.pointer (some ⟨V0.heap.size, 0, none⟩), .pointer (some ⟨y, 0, none⟩)] 55)) w10.heap.size 55 #[.pointer (some ⟨V0.heap.size, 0, none⟩), .pointer (some ⟨y, 0, none⟩)] := Blk.new w10 _ _
            have hC6 : BdAt (w10.alloc (.cells #[.pointer (some ⟨V0.heap.size, 0, none⟩), .pointer (some ⟨y, 0, none⟩)] 55)) V0.heap.size V0.heap.size s.b1 s.al1 s.es1 A2 E2 := H10.out.1.kept ((Below.refl _ _).alloc (Nat.le_refl _) _)
            have hX6 : DcIs (w10.alloc (.cells #[.pointer (some ⟨V0.heap.size, 0, none⟩), .pointer (some ⟨y, 0, none⟩)] 55)) y (newB F (List.replicate 16384 201) []) F (.slice none 0 0) (.slice none 0 0) (.slice none 0 0) := Blk.alloc H10.out.2.1 _
            have hb6 : Below V0.heap.size V0 (w10.alloc (.cells #[.pointer (some ⟨V0.heap.size, 0, none⟩), .pointer (some ⟨y, 0, none⟩)] 55)) := H10.out.2.2.alloc (by omega) _
            clear H10
            obtain ⟨P2, hP2⟩ : ∃ P2, P2 = w10.heap.size := ⟨_, rfl⟩
            rw [← hP2] at hP6 ⊢
            clear hP2
            generalize w10.alloc (.cells #[.pointer (some ⟨V0.heap.size, 0, none⟩), .pointer (some ⟨y, 0, none⟩)] 55) = w11 at *
            have hx11 : Blk w11 w.heap.size 62 #[.int .i64 k9, .int .i64 n9, .int .u16 a9, .int .u8 v9, .string s9] := HW.out.2.1.below hb6 hwr
            have d0 : w11.cell? ⟨w.heap.size, 0, none⟩ = some (.int .i64 k9) := (hx11.cell 0).trans rfl
            have d1 : w11.cell? ⟨w.heap.size, 1, none⟩ = some (.int .i64 n9) := (hx11.cell 1).trans rfl
            have d2 : w11.cell? ⟨w.heap.size, 2, none⟩ = some (.int .u16 a9) := (hx11.cell 2).trans rfl
            have d3 : w11.cell? ⟨w.heap.size, 3, none⟩ = some (.int .u8 v9) := (hx11.cell 3).trans rfl
            have d4 : w11.cell? ⟨w.heap.size, 4, none⟩ = some (.string s9) := (hx11.cell 4).trans rfl
            have hstp := step_any w11 V0.heap.size V0.heap.size y P2 _ i false A2 E2 (.slice none 0 0) (.slice none 0 0) (.slice none 0 0) (copy_at F (List.replicate 16384 201) [] hC6 hX6 hP6 (Nat.le_refl _) hy6) (copy_ok HW.out.2.2.2 F HF.out.2.1 HF.out.2.2 _ _) (by omega) hb6.size k9 n9 a9 v9 s9 n0 n1 a0 a1 v0 v1
            have HT := Lib.hid hstp
            have H11 := Lib.hid hb6
            have HX11 := Lib.hid hx11
            clear hP6 hC6 hX6 hb6 hx11 hstp
            clear d0 d1 d2 d3 d4
            go_wp2_with (first
              | (refine wpList_load_box rfl 62 (.tmp 3) rfl w.heap.size rfl 62 #[.int .i64 k9, .int .i64 n9, .int .u16 a9, .int .u8 v9, .string s9] HX11.out _ Try.underlying62 rfl opInfo11 ?_)
              | fail)
            clear HX11
            refine HT.out.mono ?_
            rintro x w12 ⟨r, s2, A3, E3, D3, A4, E4, rfl, _, ok2, hP2, _, hb12⟩
            have hs11 := H11.out.size
            have hG : V0.heap.size ≤ w12.heap.size := by have := hb12.size; omega
            have hou := outU w12 V0.heap.size V0.heap.size s2.b1 s2.al1 s2.es1 A3 E3 254 8 (by decide) (by decide) (by decide) (by decide) hP2.B (by have := ok2.a1; omega) (by have := ok2.e1; omega) hG
            have H12 := Lib.hid (And.intro hP2 (And.intro ok2 (H11.out.trans hb12)))
            clear hP2 ok2 hb12 HT H11
            go_wp2_with fail
            refine hou.mono ?_
            rintro x w13 ⟨u, A5, E5, rfl, hB13, hc13, nA, nE⟩
            clear hou nA nE
            have hb13 := H12.out.1.belowB hc13 hG
            have hG13 : V0.heap.size ≤ w13.heap.size := by have := hb13.size; omega
            have hou := outU w13 V0.heap.size V0.heap.size _ _ _ A5 E5 254 0 (by decide) (by decide) (by decide) (by decide) hB13 (by have := H12.out.2.1.a1; have := outL_len s2.b1 s2.al1 254 8; omega) (by have := H12.out.2.1.e1; have := outE_len s2.b1 s2.es1 254 8; omega) hG13
            have H13 := Lib.hid (And.intro hB13 (H12.out.2.2.trans hb13))
            clear hB13 hc13 hb13
            go_wp2_with fail
            refine hou.mono ?_
            rintro x w14 ⟨u, A6, E6, rfl, hB14, hc14, nA, nE⟩
            clear hou nA nE
            have hb14 : Below V0.heap.size w13 w14 := hc14.below hG13 (by rintro k (rfl | e | e); exact Nat.le_refl _; exact (own_lt11 H13.out.1.acts k e).2; exact (own_lt11 H13.out.1.edges k e).2)
            obtain ⟨e1, e2, _⟩ := outP_is (outP s2.b1 254 8) 254 0
            obtain ⟨e3, e4, _⟩ := outP_is s2.b1 254 8
            have hnx := next_anyB w14 V0.heap.size (outP (outP s2.b1 254 8) 254 0) A6 E6 hB14.bd (by rw [e1, e3]; exact H12.out.2.1.f0) (by rw [e1, e3]; exact H12.out.2.1.f1) (by rw [e2, e4]; exact H12.out.2.1.t0) (by rw [e2, e4]; have := H12.out.2.1.t1; omega)
            have H14 := Lib.hid (H13.out.2.trans hb14)
            clear hB14 hc14 hb14 H13 e1 e2 e3 e4
            go_wp2_with fail
            refine hnx.mono ?_
            rintro x w15 ⟨⟨u, rfl⟩, _, hg15⟩
            clear hnx H12
            have H15 := Lib.hid (show Below V0.heap.size V0 w15 from H14.out.grown hg15 H14.out.size (fun k e => by injection e with e; omega))
            clear hg15 H14
            have hpc := bPic_any w15 g s.b1 A E (HW.out.1.kept H15.out).B.bd
            go_wp2_with fail
            refine hpc.mono ?_
            rintro x w16 ⟨rfl, hL, hb16⟩
            clear hpc
            have hs15 := H15.out.size
            obtain ⟨G9, hG9⟩ : ∃ G9, G9 = w15.heap.size := ⟨_, rfl⟩
            rw [← hG9] at hL hs15 ⊢
            have H16 := Lib.hid (And.intro (show Blk w16 G9 5 (anyRow s.b1.seen) from hL) (H15.out.trans (hb16.mono (hG9 ▸ hs15))))
            clear hL hb16 H15 hG9
            go_upto_region 29 with fail
            go_loopw [13] (fun x wr => ∃ (j : Nat) (f : Nat → Int), x = .int .i64 (j : Int) ∧ j ≤ 12288 ∧ Blk wr G9 5 (anyRow f) ∧ Below V0.heap.size V0 wr) (fun x _ => 12288 - (intOf x).toNat)
            case atStart => exact ⟨0, _, rfl, by omega, H16.out.1, H16.out.2⟩
            case round =>
              obtain ⟨j, f, rfl, hj, hL, hbq⟩ := hrel
              have hj0 : (0 : Int) ≤ (j : Int) := Int.natCast_nonneg _
              clear H16
              by_cases hjl : j < 12288
              · have hjI : (j : Int) < 12288 := by omega
                have hwj : IntKind.i64.wrap ((j : Int) + 1) = (j : Int) + 1 := by rw [IntKind.wrap_i64]; omega
                have c1 : wr.cell? ⟨G9, j, none⟩ = some (.int .u8 (f j)) := (hL.cell j).trans (cellsF_at _ hjl)
                have f1 : wr.frozen? ⟨G9, j, none⟩ = false := hL.frozen j
                generalize f j = z at *
                obtain ⟨z1, hz1⟩ : ∃ z1, IntKind.u8.wrap (z + 1) = z1 := ⟨_, rfl⟩
                have HQ := Lib.hid (show Blk (wr.setCell ⟨G9, j, none⟩ (.int .u8 z1)) G9 5 (anyRow (fun k => if k = j then z1 else f k)) ∧ Below V0.heap.size V0 (wr.setCell ⟨G9, j, none⟩ (.int .u8 z1)) from ⟨by rw [← anyRow_set]; exact hL.set_ j _, below_set11 hbq hs15⟩)
                clear hL hbq
                go_wp2
                go_roundw
                case rel => exact ⟨j + 1, _, by go_num, by omega, HQ.out.1, HQ.out.2⟩
                case measure => simp [intOf]; omega
              · obtain rfl : j = 12288 := by omega
                have k17 := HW.out.1.kept hbq
                have hsm := same_ok wr (w.heap.size + 1) g q P s A E D A' E' k17 (HW.out.2.2.2.eq rfl) (by omega) (by omega)
                have H17 := Lib.hid (And.intro k17 (And.intro (HW.out.2.1.below hbq hwr) (HW.out.2.2.1.trans (hbq.mono (Nat.le_of_lt hwr)))))
                have hsq := hbq.size
                clear k17 hL hbq
                go_wp2_with fail
                refine hsm.mono ?_
                rintro x w17 ⟨rfl, hb17⟩
                clear hsm
                have k18 := H17.out.1.kept hb17
                have x18 := H17.out.2.1.below hb17 H17.out.2.1.lt
                have b18 := bthen H17.out.2.2 hb17
                clear hb17 H17
                go_wp2_with fail
                refine (paint_nilB w17 3).mono ?_
                rintro x w' ⟨⟨u, rfl⟩, rfl⟩
                have d0 : w17.cell? ⟨w.heap.size, 0, none⟩ = some (.int .i64 k9) := (x18.cell 0).trans rfl
                have d1 : w17.cell? ⟨w.heap.size, 1, none⟩ = some (.int .i64 n9) := (x18.cell 1).trans rfl
                have d2 : w17.cell? ⟨w.heap.size, 2, none⟩ = some (.int .u16 a9) := (x18.cell 2).trans rfl
                have d3 : w17.cell? ⟨w.heap.size, 3, none⟩ = some (.int .u8 v9) := (x18.cell 3).trans rfl
                have d4 : w17.cell? ⟨w.heap.size, 4, none⟩ = some (.string s9) := (x18.cell 4).trans rfl
                have hpa := paint_anyB w17 g s.b1 A E v9 k18.B.bd v0 v1
                have H18 := Lib.hid (And.intro k18 (And.intro x18 b18))
                clear k18 x18 b18
                go_wp2_with fail
                refine hpa.mono ?_
                rintro x w19 ⟨⟨u, rfl⟩, hB19, hg19⟩
                clear hpa
                clear d0 d1 d2 d3 d4
                have k19 := H18.out.1.grownB hB19 hg19
                have c19 := ch_grown (A := A) (E := E) hg19
                have x19 := c19.blk H18.out.2.1 (H18.out.1.B.not H18.out.2.1 (by decide) (by decide) (by decide))
                have b19 := H18.out.2.2.trans ((H18.out.1.belowB c19 H18.out.2.1.lt).mono (Nat.le_succ _))
                clear hB19 hg19 c19 H18
                have d0 : w19.cell? ⟨w.heap.size, 0, none⟩ = some (.int .i64 k9) := (x19.cell 0).trans rfl
                have d1 : w19.cell? ⟨w.heap.size, 1, none⟩ = some (.int .i64 n9) := (x19.cell 1).trans rfl
                have d2 : w19.cell? ⟨w.heap.size, 2, none⟩ = some (.int .u16 a9) := (x19.cell 2).trans rfl
                have d3 : w19.cell? ⟨w.heap.size, 3, none⟩ = some (.int .u8 v9) := (x19.cell 3).trans rfl
                have d4 : w19.cell? ⟨w.heap.size, 4, none⟩ = some (.string s9) := (x19.cell 4).trans rfl
                have q1 : w19.cell? ⟨P, 1, none⟩ = some (.pointer (some ⟨q, 0, none⟩)) := (k19.P.cell 1).trans rfl
                have cB : w19.cell? ⟨q, 65547, none⟩ = some (.int .u8 s.b2.bo) := k19.X.bd.at_ (i := 65547) (by decide) dc_bo
                have fB : w19.frozen? ⟨q, 65547, none⟩ = false := k19.X.bd.fz 65547
                have hX20 : DcIs (w19.setCell ⟨q, 65547, none⟩ (.int .u8 (v9 % 8))) q { s.b2 with bo := v9 % 8 } s.ph D A' E' := DcIs.put k19.X.bd (dset_bo _)
                have k20 := k19.grownX hX20 (grown_cell w19 q 65547 (.int .u8 (v9 % 8)))
                have b20 : Below w.heap.size w (w19.setCell ⟨q, 65547, none⟩ (.int .u8 (v9 % 8))) := below_set11 b19 hq6
                have H20 := Lib.hid (And.intro (k20.kept (Below.refl _ _).drew) b20.drew)
                clear k19 x19 b19 hX20 k20 b20
                have hw1 : IntKind.i64.wrap v9 = v9 := by rw [IntKind.wrap_i64]; omega
                have hw2 : v9.tmod 8 = v9 % 8 := by rw [Int.tmod_eq_emod_of_nonneg v0]
                have hw3 : IntKind.u8.wrap (v9 % 8) = v9 % 8 := by simp [IntKind.wrap, IntKind.bits, IntKind.signed]; omega
                go_upto_region 36 with fail
                go_region
                generalize (w19.setCell ⟨q, 65547, none⟩ (.int .u8 (v9 % 8))).drew = w20 at *
                clear q1 cB fB d0 d1 d2 d3 d4 hw1 hw2 hw3
                have hsm := same_ok w20 (w.heap.size + 1) g q P _ A E D A' E' H20.out.1 ((ok_border HW.out.2.2.2 (v9 % 8)).eq rfl) (by simp only; omega) (by simp only; omega)
                go_wp2_with fail
                refine hsm.mono ?_
                rintro x w21 ⟨rfl, hb21⟩
                clear hsm
                have H21 := Lib.hid (bthen H20.out.2 hb21)
                clear hb21 H20
                have hlv := lives_any w21
                go_wp2_with fail
                refine hlv.mono ?_
                rintro x w90 ⟨rfl, hb9⟩
                have H9 := Lib.hid (bthen H21.out hb9)
                clear hlv hb9
                go_wp2
                go_ret
                exact ⟨rfl, H9.out⟩
end Go.Proofs.Ytfcnlgkaejkneaa
