/- Layer 11: the walk of BoardScreen. -/
import Derived.Test.YtfcnlgkaejkneaaBd11
namespace Go.Proofs.Ytfcnlgkaejkneaa
open Go.RowKit

theorem below_drewN12 {B : Nat} {a b : World} (h : Below B a b) (k : Nat) : Below B a (b.drewN k) := ⟨h.os, h.tape, h.output, h.size, h.block⟩
set_option maxRecDepth 100000 in
set_option maxHeartbeats 8000000 in
theorem boardScreen_walk (RA : Option Addr) (n c : Nat) (xs : List Int) (phase ad : Int) (w : World) (hx : IsRow .u8 w RA n c xs) (hph : (Lit.int .i64 phase).wf = true) (had : (Lit.int .u16 ad).wf = true) :
    Calls Try.prog 4 #[.slice RA n c, .int .i64 phase, .int .u16 ad] w fun x w' => x = .returned (.bool true) ∧ Below w.heap.size w w' := by
  obtain ⟨hr, _, _, _⟩ := row_u8 hx
  obtain ⟨p0, p1⟩ := bounds_i64 hph
  obtain ⟨d0, d1⟩ := u16_bd had
  obtain ⟨zs, hzs⟩ : ∃ zs, zs = xs.take n := ⟨_, rfl⟩
  rw [← hzs] at hr
  clear hzs hx hph had
  go_enter Try.func4, Try.ntmps4
  by_cases hn : (6912 : Int) < (n : Int)
  · clear hr
    have hlv := lives_any w
    go_wp2_with fail
    refine hlv.mono ?_
    rintro x w9 ⟨rfl, hb9⟩
    have H9 := Lib.hid (bthen (Below.refl w.heap.size w) hb9)
    clear hlv hb9
    go_wp2
    go_ret
    exact ⟨rfl, H9.out⟩
  · by_cases h5 : phase.tmod 5 = 0
    · have HR := Lib.hid (And.intro hr (show n ≤ 49152 by omega))
      clear hr
      have hro := rom_any w 9
      go_wp2_with fail
      refine hro.mono ?_
      rintro x w1 ⟨rfl, hB1, hb1⟩
      clear hro
      have hs1 := hb1.size
      have hnw := bNew_any w1 (some ⟨w.heap.size, 0, none⟩) RA 16384 n c phase p0 p1 (List.replicate 16384 9) zs (fill_reads hB1) ((HR.out.1.below hb1).more hs1) HR.out.2
      have H1 := Lib.hid hb1
      clear hB1 hb1
      skip
      go_wp2_with fail
      refine hnw.mono ?_
      rintro x w2 ⟨g, rfl, hg, hB, hb2⟩
      clear hnw
      have hs2 := hb2.size
      have H2 := Lib.hid (H1.out.trans (hb2.mono hs1))
      obtain ⟨F, hF⟩ : ∃ F, F = frameS phase := ⟨_, rfl⟩
      rw [← hF] at hB
      have HF := Lib.hid (show 0 ≤ F ∧ F ≤ 69887 by rw [hF]; exact frameS_bd phase)
      clear hF
      obtain ⟨B0, hB0⟩ : ∃ B0, B0 = newB F (List.replicate 16384 9) zs := ⟨_, rfl⟩
      rw [← hB0] at hB
      have HI := Lib.hid (show RunI F B0.M 0 B0 ∧ ∀ i, i < 16384 → B0.M i = 9 by rw [hB0]; exact ⟨RunI.start F HF.out.1 HF.out.2 _ _, fun i hi => new_low F 9 zs hi⟩)
      clear hB0
      obtain ⟨a, ha⟩ : ∃ a : Nat, ad % 16384 = (a : Int) := ⟨(ad % 16384).toNat, by omega⟩
      have ha1 : a < 16384 := by omega
      have hat : ad.tmod 16384 = (a : Int) := by rw [Int.tmod_eq_emod_of_nonneg d0, ha]
      have hwa : IntKind.u16.wrap (a : Int) = (a : Int) := by simp [IntKind.wrap, IntKind.bits, IntKind.signed]; omega
      have hwd : IntKind.i64.wrap ad = ad := by rw [IntKind.wrap_i64]; omega
      have hwr := bWrite_any w2 g B0 _ _ a 5 (by omega) hB
      have hgw : w.heap.size ≤ g := by omega
      clear hB hb2
      go_wp2_with fail
      refine hwr.mono ?_
      rintro x w3 ⟨⟨u, rfl⟩, hB3, hg3⟩
      clear hwr
      have hs3 := hg3.size
      rw [show wrB B0 a 5 = B0 from if_neg (by omega)] at hB3
      have H3 := Lib.hid (H2.out.trans (grown_below hg3 (by omega) hgw))
      clear hg3
      have hrd := bRead_any w3 g B0 _ _ a (by omega) hB3
      rw [HI.out.2 a ha1] at hrd
      go_wp2_with fail
      refine hrd.mono ?_
      rintro x w' ⟨rfl, rfl⟩
      clear hrd ha hat hwa hwd
      have HB := Lib.hid (And.intro hB3 H3.out)
      clear hB3
      go_upto_region 10 with fail
      go_loopw [9] (fun x wr => ∃ (i : Nat) (b : Bd), x = .int .i64 (i : Int) ∧ i ≤ 69888 ∧ BdIs wr g b (.slice none 0 0) (.slice none 0 0) ∧ RunI F B0.M i b ∧ Below w.heap.size w wr) (fun x _ => 69888 - (intOf x).toNat)
      case atStart => exact ⟨0, B0, rfl, by omega, HB.out.1, HI.out.1, HB.out.2⟩
      case round =>
        obtain ⟨i, b, rfl, hi, hB, hR, hbl⟩ := hrel
        have hi0 : (0 : Int) ≤ (i : Int) := Int.natCast_nonneg _
        by_cases hlt : i < 69888
        · have hiI : (i : Int) < 69888 := by omega
          have hwi : IntKind.i64.wrap ((i : Int) + 1) = (i : Int) + 1 := by rw [IntKind.wrap_i64]; omega
          have hnx := next_anyB wr g b _ _ hB (by rw [hR.fr]; omega) (by rw [hR.fr]; omega) (by rw [hR.t]; omega) (by rw [hR.t]; omega)
          have HX := Lib.hid (And.intro hR hbl)
          have hsz := hbl.size
          clear hB hR hbl
          go_wp2_with fail
          refine hnx.mono ?_
          rintro x w' ⟨⟨u, rfl⟩, h1, h2⟩
          clear hnx
          have HY := Lib.hid (show BdIs w' g (nextB b) (.slice none 0 0) (.slice none 0 0) ∧ Below w.heap.size w w' from ⟨h1, HX.out.2.trans (grown_below h2 hsz hgw)⟩)
          clear h1 h2
          go_wp2
          go_roundw
          case rel => exact ⟨i + 1, nextB b, by go_num, by omega, HY.out.1, HX.out.1.step, HY.out.2⟩
          case measure => simp [intOf]; omega
        · obtain rfl : i = 69888 := by omega
          have hiI : ¬ ((69888 : Nat) : Int) < 69888 := by omega
          have hpic := bPic_any wr g b _ _ hB
          have hsz : w.heap.size ≤ wr.heap.size := hbl.size
          obtain ⟨gl, hgl⟩ : ∃ gl, wr.heap.size = gl := ⟨_, rfl⟩
          rw [hgl] at hpic hsz
          have HS0 := Lib.hid (And.intro hB (And.intro hbl hgl))
          have HRI := Lib.hid hR
          clear hB hR hbl hgl
          go_wp2_with fail
          refine hpic.mono ?_
          rintro x w4 ⟨rfl, hP, hbp⟩
          clear hpic
          have HS := Lib.hid (show BdIs w4 g b (.slice none 0 0) (.slice none 0 0) ∧ Blk w4 gl 5 (picC b) ∧ Below w.heap.size w w4 from ⟨HS0.out.1.below (by rw [HS0.out.2.2]; exact hbp), hP, HS0.out.2.1.trans (hbp.mono hsz)⟩)
          clear hP hbp
          go_upto_region 17 with fail
          go_loopw [11] (fun x wr => ∃ line : Nat, x = .int .i64 (line : Int) ∧ line ≤ 192 ∧ BdIs wr g b (.slice none 0 0) (.slice none 0 0) ∧ Blk wr gl 5 (picC b) ∧ Below w.heap.size w wr) (fun x _ => 192 - (intOf x).toNat)
          case atStart => exact ⟨0, rfl, by omega, HS.out.1, HS.out.2.1, HS.out.2.2⟩
          case round =>
            obtain ⟨line, rfl, hl, hB, hP, hbl⟩ := hrel
            have l0 : (0 : Int) ≤ (line : Int) := Int.natCast_nonneg _
            by_cases hlt : line < 192
            · have hlI : (line : Int) < 192 := by omega
              have hwl : IntKind.i64.wrap ((line : Int) + 1) = (line : Int) + 1 := by rw [IntKind.wrap_i64]; omega
              have HL := Lib.hid (And.intro hB (And.intro hP hbl))
              clear hB hP hbl
              go_upto_region 20 with fail
              go_loopw [12] (fun x wr => ∃ cell : Nat, x = .int .i64 (cell : Int) ∧ cell ≤ 32 ∧ BdIs wr g b (.slice none 0 0) (.slice none 0 0) ∧ Blk wr gl 5 (picC b) ∧ Below w.heap.size w wr) (fun x _ => 32 - (intOf x).toNat)
              case atStart => exact ⟨0, rfl, by omega, HL.out.1, HL.out.2.1, HL.out.2.2⟩
              case round =>
                obtain ⟨cell, rfl, hc, hB, hP, hbl⟩ := hrel
                have c0 : (0 : Int) ≤ (cell : Int) := Int.natCast_nonneg _
                by_cases hct : cell < 32
                · have hcI : (cell : Int) < 32 := by omega
                  have hwc : IntKind.i64.wrap ((cell : Int) + 1) = (cell : Int) + 1 := by rw [IntKind.wrap_i64]; omega
                  have HC := Lib.hid (And.intro hB (And.intro hP hbl))
                  clear hB hP hbl
                  go_upto_region 22 with fail
                  go_cut [13] from 69 to 73 (fun u wx => ∃ a : Nat, u = .int .i64 (a : Int) ∧ (a : Int) = 2 * (32 * line + cell) ∧ wr = wx)
                  case first =>
                    obtain ⟨a, ha⟩ : ∃ a : Nat, (a : Int) = 2 * (32 * (line : Int) + cell) := ⟨(2 * (32 * (line : Int) + cell)).toNat, by omega⟩
                    have HAP := Lib.hid ha
                    clear ha
                    have hx0 : IntKind.i64.wrap (32 * (line : Int)) = 32 * (line : Int) := by rw [IntKind.wrap_i64]; omega
                    have hx1 : IntKind.i64.wrap (32 * (line : Int) + (cell : Int)) = 32 * (line : Int) + (cell : Int) := by rw [IntKind.wrap_i64]; omega
                    have hx2 : IntKind.i64.wrap (2 * (32 * (line : Int) + (cell : Int))) = 2 * (32 * (line : Int) + (cell : Int)) := by rw [IntKind.wrap_i64]; omega
                    go_wp2_with fail
                    go_meet
                    exact ⟨a, congrArg (Value.int .i64) HAP.out.symm, HAP.out, rfl⟩
                  case rest =>
                    obtain ⟨a, rfl, ha, rfl⟩ := hcut
                    have HA := Lib.hid ha
                    clear ha
                    go_upto_region 23 with fail
                    go_cut [14] from 74 to 88 (fun v wx => ∃ p : Nat, v = .int .i64 (p : Int) ∧ (p : Int) = 16384 + (line : Int) / 64 * 2048 + line % 8 * 256 + line / 8 % 8 * 32 + cell ∧ wr = wx)
                    case first =>
                      obtain ⟨p, hp⟩ : ∃ p : Nat, (p : Int) = 16384 + (line : Int) / 64 * 2048 + line % 8 * 256 + line / 8 % 8 * 32 + cell := ⟨(16384 + (line : Int) / 64 * 2048 + line % 8 * 256 + line / 8 % 8 * 32 + cell).toNat, by omega⟩
                      have HAP := Lib.hid hp
                      clear hp
                      have hx0 : IntKind.i64.wrap ((line : Int) / 64) = (line : Int) / 64 := by rw [IntKind.wrap_i64]; omega
                      have hx1 : IntKind.i64.wrap ((line : Int) / 64 * 2048) = (line : Int) / 64 * 2048 := by rw [IntKind.wrap_i64]; omega
                      have hx2 : IntKind.i64.wrap (16384 + (line : Int) / 64 * 2048) = 16384 + (line : Int) / 64 * 2048 := by rw [IntKind.wrap_i64]; omega
                      have hx3 : IntKind.i64.wrap ((line : Int) % 8) = (line : Int) % 8 := by rw [IntKind.wrap_i64]; omega
                      have hx4 : IntKind.i64.wrap ((line : Int) % 8 * 256) = (line : Int) % 8 * 256 := by rw [IntKind.wrap_i64]; omega
                      have hx5 : IntKind.i64.wrap (16384 + (line : Int) / 64 * 2048 + (line : Int) % 8 * 256) = 16384 + (line : Int) / 64 * 2048 + (line : Int) % 8 * 256 := by rw [IntKind.wrap_i64]; omega
                      have hx6 : IntKind.i64.wrap ((line : Int) / 8) = (line : Int) / 8 := by rw [IntKind.wrap_i64]; omega
                      have hx7 : IntKind.i64.wrap ((line : Int) / 8 % 8) = (line : Int) / 8 % 8 := by rw [IntKind.wrap_i64]; omega
                      have hx8 : IntKind.i64.wrap ((line : Int) / 8 % 8 * 32) = (line : Int) / 8 % 8 * 32 := by rw [IntKind.wrap_i64]; omega
                      have hx9 : IntKind.i64.wrap (16384 + (line : Int) / 64 * 2048 + (line : Int) % 8 * 256 + (line : Int) / 8 % 8 * 32) = 16384 + (line : Int) / 64 * 2048 + (line : Int) % 8 * 256 + (line : Int) / 8 % 8 * 32 := by rw [IntKind.wrap_i64]; omega
                      have hx10 : IntKind.i64.wrap (16384 + (line : Int) / 64 * 2048 + (line : Int) % 8 * 256 + (line : Int) / 8 % 8 * 32 + (cell : Int)) = 16384 + (line : Int) / 64 * 2048 + (line : Int) % 8 * 256 + (line : Int) / 8 % 8 * 32 + (cell : Int) := by rw [IntKind.wrap_i64]; omega
                      go_wp2_with fail
                      go_meet
                      exact ⟨p, congrArg (Value.int .i64) HAP.out.symm, HAP.out, rfl⟩
                    case rest =>
                      obtain ⟨p, rfl, hp, rfl⟩ := hcut
                      have ha := HA.out
                      obtain ⟨q, hq⟩ : ∃ q : Nat, (q : Int) = 22528 + (line : Int) / 8 * 32 + cell := ⟨(22528 + (line : Int) / 8 * 32 + cell).toNat, by omega⟩
                      obtain ⟨a1, ha1⟩ : ∃ a1 : Nat, a1 = a + 1 := ⟨_, rfl⟩
                      have hk := HRI.out.pix HF.out.1 HF.out.2 hlt hct ha hp hq
                      have ca : wr.cell? ⟨gl, a, none⟩ = some (.int .u8 (b.M p)) := by rw [HC.out.2.1.cell a, picC, cellsF_at _ (by omega), hk.1]
                      have ca1 : wr.cell? ⟨gl, a1, none⟩ = some (.int .u8 (b.M q)) := by rw [ha1, HC.out.2.1.cell (a + 1), picC, cellsF_at _ (by omega), hk.2]
                      have cp : wr.cell? ⟨g, p, none⟩ = some (.int .u8 (b.M p)) := HC.out.1.at_ (by omega) (bd_M (by omega))
                      have cq : wr.cell? ⟨g, q, none⟩ = some (.int .u8 (b.M q)) := HC.out.1.at_ (by omega) (bd_M (by omega))
                      generalize b.M p = V at ca cp
                      generalize b.M q = V2 at ca1 cq
                      have hb1 : (a : Int) < 12288 := by omega
                      have hb2 : (p : Int) < 65536 := by omega
                      have hb3 : (a1 : Int) < 12288 := by omega
                      have hb4 : (q : Int) < 65536 := by omega
                      have z1 : (0 : Int) ≤ (a : Int) := Int.natCast_nonneg _
                      have z2 : (0 : Int) ≤ (p : Int) := Int.natCast_nonneg _
                      have z3 : (0 : Int) ≤ (a1 : Int) := Int.natCast_nonneg _
                      have z4 : (0 : Int) ≤ (q : Int) := Int.natCast_nonneg _
                      have y1 : IntKind.i64.wrap ((a : Int) + 1) = (a1 : Int) := by rw [IntKind.wrap_i64]; omega
                      have y2 : IntKind.i64.wrap ((line : Int) / 8) = (line : Int) / 8 := by rw [IntKind.wrap_i64]; omega
                      have y3 : IntKind.i64.wrap ((line : Int) / 8 * 32) = (line : Int) / 8 * 32 := by rw [IntKind.wrap_i64]; omega
                      have y4 : IntKind.i64.wrap (22528 + (line : Int) / 8 * 32) = 22528 + (line : Int) / 8 * 32 := by rw [IntKind.wrap_i64]; omega
                      have y5 : IntKind.i64.wrap (22528 + (line : Int) / 8 * 32 + (cell : Int)) = (q : Int) := by rw [IntKind.wrap_i64]; omega
                      clear ha hp hq ha1 hk
                      go_upto_region 24 with fail
                      go_quiet (fail)
                      go_wp2
                      go_roundw
                      case rel => exact ⟨cell + 1, by go_num, by omega, HC.out.1, HC.out.2.1, below_drewN12 HC.out.2.2 _⟩
                      case measure => simp [intOf]; omega
                · obtain rfl : cell = 32 := by omega
                  have hcI : ¬ ((32 : Nat) : Int) < 32 := by omega
                  have HC := Lib.hid (And.intro hB (And.intro hP hbl))
                  clear hB hP hbl
                  go_wp2
                  go_roundw
                  case rel => exact ⟨line + 1, by go_num, by omega, HC.out.1, HC.out.2.1, HC.out.2.2⟩
                  case measure => simp [intOf]; omega
            · obtain rfl : line = 192 := by omega
              have hlI : ¬ ((192 : Nat) : Int) < 192 := by omega
              have hT := bT_any wr g b _ _ hB
              rw [HRI.out.t, show ((69888 : Nat) : Int) = 69888 from rfl] at hT
              have HE := Lib.hid hbl
              clear hB hP hbl
              go_wp2_with fail
              refine hT.mono ?_
              rintro x w' ⟨rfl, rfl⟩
              clear hT
              have hlv := lives_any wr
              go_wp2_with fail
              refine hlv.mono ?_
              rintro x w9 ⟨rfl, hb9⟩
              have H9 := Lib.hid (bthen HE.out hb9)
              clear hlv hb9
              go_wp2
              go_ret
              exact ⟨rfl, H9.out⟩
    · have h5b : (phase.tmod 5 == 0) = false := by simpa using h5
      clear h5 hr
      have hlv := lives_any w
      go_wp2_with fail
      refine hlv.mono ?_
      rintro x w9 ⟨rfl, hb9⟩
      have H9 := Lib.hid (bthen (Below.refl w.heap.size w) hb9)
      clear hlv hb9
      go_wp2
      go_ret
      exact ⟨rfl, H9.out⟩
end Go.Proofs.Ytfcnlgkaejkneaa
