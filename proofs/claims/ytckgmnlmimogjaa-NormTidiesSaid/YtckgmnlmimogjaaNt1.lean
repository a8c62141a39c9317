/- Layer 26 for 27: the document's block of a long gap. -/
import Derived.Test.YtckgmnlmimogjaaNk7
namespace Go.Proofs.Ytckgmnlmimogjaa
open Go.RowKit

theorem pil_own (w : World) (base : Nat) (hb : base ≤ w.heap.size) : (((w.alloc (.cells #[.int .i64 65535] 3)).alloc (.cells #[.int .i64 65535] 3)).alloc (.cells #[.int .i64 0, .slice (some ⟨w.heap.size, 0, none⟩) 1 1, .int .i64 1, .slice (some ⟨w.heap.size + 1, 0, none⟩) 1 1] 104)).ownsRow base 104 2 (.slice (some ⟨w.heap.size + 1 + 1, 0, none⟩) 2 2) 2 (symV [⟨0, some ⟨w.heap.size, 0, none⟩, 1, 1, [65535]⟩, ⟨1, some ⟨w.heap.size + 1, 0, none⟩, 1, 1, [65535]⟩]) ∧ ∀ q ∈ ([⟨0, some ⟨w.heap.size, 0, none⟩, 1, 1, [65535]⟩, ⟨1, some ⟨w.heap.size + 1, 0, none⟩, 1, 1, [65535]⟩] : List SymD), q.own (((w.alloc (.cells #[.int .i64 65535] 3)).alloc (.cells #[.int .i64 65535] 3)).alloc (.cells #[.int .i64 0, .slice (some ⟨w.heap.size, 0, none⟩) 1 1, .int .i64 1, .slice (some ⟨w.heap.size + 1, 0, none⟩) 1 1] 104)) base := by
  have e1 : (w.alloc (.cells #[.int .i64 65535] 3)).ownsRow base 3 1 (.slice (some ⟨w.heap.size, 0, none⟩) 1 1) 1 ([(65535 : Int)].map (Value.int .i64)) := World.ownsRow_lit w #[.int .i64 65535] 1 hb (by decide) rfl
  have e2 : ((w.alloc (.cells #[.int .i64 65535] 3)).alloc (.cells #[.int .i64 65535] 3)).ownsRow base 3 1 (.slice (some ⟨w.heap.size + 1, 0, none⟩) 1 1) 1 ([(65535 : Int)].map (Value.int .i64)) := by
    have := World.ownsRow_lit (base := base) (e := 3) (size := 1) (w.alloc (.cells #[.int .i64 65535] 3)) #[.int .i64 65535] 1 (by simp; omega) (by decide) rfl
    simpa using this
  refine ⟨?_, ?_⟩
  · have := World.ownsRow_lit (base := base) (e := 104) (size := 2) ((w.alloc (.cells #[.int .i64 65535] 3)).alloc (.cells #[.int .i64 65535] 3)) #[.int .i64 0, .slice (some ⟨w.heap.size, 0, none⟩) 1 1, .int .i64 1, .slice (some ⟨w.heap.size + 1, 0, none⟩) 1 1] 2 (by simp; omega) (by decide) rfl
    simpa [symV] using this
  · intro q hq
    simp only [List.mem_cons, List.not_mem_nil, or_false] at hq
    rcases hq with rfl | rfl
    · exact ⟨(e1.alloc _).alloc _, by show 1 ≤ 1000000; omega⟩
    · exact ⟨e2.alloc _, by show 1 ≤ 1000000; omega⟩
theorem rep_own (w : World) (base : Nat) (a b : Int) (hb : base ≤ w.heap.size) : (w.alloc (.cells #[.int .i64 a, .int .i64 b] 76)).ownsRow base 76 2 (.slice (some ⟨w.heap.size, 0, none⟩) 1 1) 1 (fl [(a, b)]) := by
  have := World.ownsRow_lit (base := base) (e := 76) (size := 2) w #[.int .i64 a, .int .i64 b] 1 hb (by decide) rfl
  simpa [fl] using this

set_option maxRecDepth 100000 in
set_option maxHeartbeats 8000000 in
theorem longr_any (w : World) (n : Nat) (h0 : 65535 < n) (h1 : n ≤ 4294967295) :
    Calls Try.prog 51 #[.int .i64 n] w fun e w' => ∃ cs, e = .returned (.agg cs.toArray) ∧ BlkAt w' (fun b => w.heap.size ≤ b ∧ b < w'.heap.size) (longD n) cs ∧ Below w.heap.size w w' := by
  obtain ⟨i0, hi, hz0, hz1, hz2⟩ := info_parts repInfo'
  obtain ⟨i1, hj, hy0, hy1, hy2⟩ := info_parts symInfo'
  have HN := Lib.hid (And.intro h0 h1)
  have eq1 : IntKind.i64.wrap (IntKind.i64.wrap ((n : Int) / 65535) - 1) = (n / 65535 : Nat) - 1 := by rw [IntKind.wrap_i64, IntKind.wrap_i64]; omega
  have em : ((n : Int).tmod 65535) = ((n % 65535 : Nat) : Int) := by rw [Int.tmod_eq_emod_of_nonneg (by omega)]; omega
  have hK0 : ((n / 65535 : Nat) : Int) - 1 ≤ 65536 ∧ 0 ≤ ((n / 65535 : Nat) : Int) - 1 := by omega
  clear h0 h1
  go_enter Try.func51, Try.ntmps51
  go_upto_region 1 with fail
  have hs0 : (w.alloc (.cells #[.int .i64 0, .int .i64 0, .int .i64 0, .int .i64 0, .int .i64 0, .int .i64 0, .int .i64 0, .int .i64 0, .int .i64 0, .int .i64 0, .int .i64 0, .int .i64 0, .slice none 0 0, .slice none 0 0, .slice none 0 0, .slice none 0 0, .slice none 0 0, .slice none 0 0] 33)).heap.size = w.heap.size + 1 := by simp
  have hB0 : Blk (w.alloc (.cells #[.int .i64 0, .int .i64 0, .int .i64 0, .int .i64 0, .int .i64 0, .int .i64 0, .int .i64 0, .int .i64 0, .int .i64 0, .int .i64 0, .int .i64 0, .int .i64 0, .slice none 0 0, .slice none 0 0, .slice none 0 0, .slice none 0 0, .slice none 0 0, .slice none 0 0] 33)) w.heap.size 33 #[.int .i64 0, .int .i64 0, .int .i64 0, .int .i64 0, .int .i64 0, .int .i64 0, .int .i64 0, .int .i64 0, .int .i64 0, .int .i64 0, .int .i64 0, .int .i64 0, .slice none 0 0, .slice none 0 0, .slice none 0 0, .slice none 0 0, .slice none 0 0, .slice none 0 0] := Blk.new w _ _
  have hb0 : Below w.heap.size w (w.alloc (.cells #[.int .i64 0, .int .i64 0, .int .i64 0, .int .i64 0, .int .i64 0, .int .i64 0, .int .i64 0, .int .i64 0, .int .i64 0, .int .i64 0, .int .i64 0, .int .i64 0, .slice none 0 0, .slice none 0 0, .slice none 0 0, .slice none 0 0, .slice none 0 0, .slice none 0 0] 33)) := (Below.refl _ _).alloc (Nat.le_refl _) _
  generalize (w.alloc (.cells #[.int .i64 0, .int .i64 0, .int .i64 0, .int .i64 0, .int .i64 0, .int .i64 0, .int .i64 0, .int .i64 0, .int .i64 0, .int .i64 0, .int .i64 0, .int .i64 0, .slice none 0 0, .slice none 0 0, .slice none 0 0, .slice none 0 0, .slice none 0 0, .slice none 0 0] 33)) = w0 at *
  have HM := Lib.hid (And.intro hs0 (And.intro hB0 hb0))
  clear hs0 hB0 hb0
  go_upto_region 2 with (first
    | (refine wpList_store_box rfl 33 _ _ rfl (w0.heap.size) #[.int .i64 25, .int .i64 0, .int .i64 1, .int .i64 2, .int .i64 0, .int .i64 0, .int .i64 0, .int .i64 0, .int .i64 0, .int .i64 0, .int .i64 0, .int .i64 0, .slice none 0 0, .slice none 0 0, .slice none 0 0, .slice none 0 0, .slice none 0 0, .slice none 0 0] rfl rfl 33 #[.int .i64 0, .int .i64 0, .int .i64 0, .int .i64 0, .int .i64 0, .int .i64 0, .int .i64 0, .int .i64 0, .int .i64 0, .int .i64 0, .int .i64 0, .int .i64 0, .slice none 0 0, .slice none 0 0, .slice none 0 0, .slice none 0 0, .slice none 0 0, .slice none 0 0] (Blk.new w0 _ _) blkInfo rfl (by simp [Value.oneCell']) ?_)
    | fail)
  intro w1 hB1 hg1
  have hb1 : Below w0.heap.size w0 w1 := ((Below.refl _ _).alloc (Nat.le_refl _) _).grown hg1 (by simp) (fun b hb => by injection hb with hb; omega)
  have hbs1 : w0.heap.size < w1.heap.size := hB1.lt
  have hL1 : LS w1 w0.heap.size w0.heap.size 2 (.slice none 0 0) (.slice none 0 0) [] [] := ⟨hB1, World.ownsRow_nil _ _ _ _, World.ownsRow_nil _ _ _ _, fun q hq => absurd hq (by simp)⟩
  have f15 : w1.frozen? ⟨w0.heap.size, 15, none⟩ = false := hB1.frozen 15
  have c15 : w1.cell? ⟨w0.heap.size, 15, none⟩ = some (.slice none 0 0) := (hB1.cell 15).trans rfl
  have c15a : ((((w1.alloc (.cells #[.int .i64 65535] 3)).alloc (.cells #[.int .i64 65535] 3)).alloc (.cells #[.int .i64 0, .slice (some ⟨w1.heap.size, 0, none⟩) 1 1, .int .i64 1, .slice (some ⟨w1.heap.size + 1, 0, none⟩) 1 1] 104))).cell? ⟨w0.heap.size, 15, none⟩ = some (.slice none 0 0) := ((((hB1.alloc _).alloc _).alloc _).cell 15).trans rfl
  have f15a : ((((w1.alloc (.cells #[.int .i64 65535] 3)).alloc (.cells #[.int .i64 65535] 3)).alloc (.cells #[.int .i64 0, .slice (some ⟨w1.heap.size, 0, none⟩) 1 1, .int .i64 1, .slice (some ⟨w1.heap.size + 1, 0, none⟩) 1 1] 104))).frozen? ⟨w0.heap.size, 15, none⟩ = false := (((hB1.alloc _).alloc _).alloc _).frozen 15
  have hne1 : w0.heap.size ≠ w1.heap.size ∧ w0.heap.size ≠ w1.heap.size + 1 ∧ w0.heap.size ≠ w1.heap.size + 1 + 1 := by omega
  obtain ⟨hne1, hne2, hne3⟩ := hne1
  have HL1 := Lib.hid (And.intro hL1 hb1)
  clear hB1 hg1 hL1 hb1
  go_upto_region 3 with fail
  obtain ⟨hL1, hb1⟩ := HL1.out
  obtain ⟨hp1, hp2⟩ := pil_own w1 w0.heap.size (by omega)
  have hL2 := (((hL1.alloc (.cells #[.int .i64 65535] 3)).alloc (.cells #[.int .i64 65535] 3)).alloc (.cells #[.int .i64 0, .slice (some ⟨w1.heap.size, 0, none⟩) 1 1, .int .i64 1, .slice (some ⟨w1.heap.size + 1, 0, none⟩) 1 1] 104)).setP (World.grownBy.refl _ _) hp1 hp2
  have hb2 : Below w0.heap.size w0 (((((w1.alloc (.cells #[.int .i64 65535] 3)).alloc (.cells #[.int .i64 65535] 3)).alloc (.cells #[.int .i64 0, .slice (some ⟨w1.heap.size, 0, none⟩) 1 1, .int .i64 1, .slice (some ⟨w1.heap.size + 1, 0, none⟩) 1 1] 104))).setCell ⟨w0.heap.size, 15, none⟩ (.slice (some ⟨w1.heap.size + 1 + 1, 0, none⟩) 2 2)) := (((hb1.alloc (by omega) _).alloc (by simp; omega) _).alloc (by simp; omega) _).setCell (Nat.le_refl _) _
  generalize hP : (Value.slice (some ⟨w1.heap.size + 1 + 1, 0, none⟩) 2 2) = PV at *
  have hbs2 : w0.heap.size < (((((w1.alloc (.cells #[.int .i64 65535] 3)).alloc (.cells #[.int .i64 65535] 3)).alloc (.cells #[.int .i64 0, .slice (some ⟨w1.heap.size, 0, none⟩) 1 1, .int .i64 1, .slice (some ⟨w1.heap.size + 1, 0, none⟩) 1 1] 104))).setCell ⟨w0.heap.size, 15, none⟩ PV).heap.size := hL2.1.lt
  obtain ⟨PL, hPL⟩ : ∃ PL : List SymD, PL = [⟨0, some ⟨w1.heap.size, 0, none⟩, 1, 1, [65535]⟩, ⟨1, some ⟨w1.heap.size + 1, 0, none⟩, 1, 1, [65535]⟩] := ⟨_, rfl⟩
  rw [← hPL] at hL2
  have HPL := Lib.hid (And.intro hPL (And.intro hP.symm hL2.2.1))
  generalize ((((w1.alloc (.cells #[.int .i64 65535] 3)).alloc (.cells #[.int .i64 65535] 3)).alloc (.cells #[.int .i64 0, .slice (some ⟨w1.heap.size, 0, none⟩) 1 1, .int .i64 1, .slice (some ⟨w1.heap.size + 1, 0, none⟩) 1 1] 104))).setCell ⟨w0.heap.size, 15, none⟩ PV = w2 at *
  clear f15 c15 c15a f15a hne1 hne2 hne3 hL1 hb1 hp1 hp2 HL1 hP hPL hbs1
  have f17 : w2.frozen? ⟨w0.heap.size, 17, none⟩ = false := hL2.1.frozen 17
  have c17 : w2.cell? ⟨w0.heap.size, 17, none⟩ = some (.slice none 0 0) := (hL2.1.cell 17).trans rfl
  have c17a : (w2.alloc (.cells #[.int .i64 0, .int .i64 1] 76)).cell? ⟨w0.heap.size, 17, none⟩ = some (.slice none 0 0) := ((hL2.1.alloc _).cell 17).trans rfl
  have f17a : (w2.alloc (.cells #[.int .i64 0, .int .i64 1] 76)).frozen? ⟨w0.heap.size, 17, none⟩ = false := (hL2.1.alloc _).frozen 17
  have hne1 : w0.heap.size ≠ w2.heap.size := by omega
  have HL2 := Lib.hid (And.intro hL2 hb2)
  clear hL2 hb2
  go_upto_region 4 with fail
  obtain ⟨hL2, hb2⟩ := HL2.out
  have hL3 := (hL2.alloc (.cells #[.int .i64 0, .int .i64 1] 76)).setR (rl' := [(0, 1)]) (rv' := .slice (some ⟨w2.heap.size, 0, none⟩) 1 1) (World.grownBy.refl _ _) (rep_own w2 w0.heap.size 0 1 (by omega))
  have hb3 : Below w0.heap.size w0 ((w2.alloc (.cells #[.int .i64 0, .int .i64 1] 76)).setCell ⟨w0.heap.size, 17, none⟩ (.slice (some ⟨w2.heap.size, 0, none⟩) 1 1)) := (hb2.alloc (by omega) _).setCell (Nat.le_refl _) _
  rw [World.setCell_alloc_past _ _ _ _ hbs2] at hL3 hb3
  generalize (w2.setCell ⟨w0.heap.size, 17, none⟩ (.slice (some ⟨w2.heap.size, 0, none⟩) 1 1)).alloc (.cells #[.int .i64 0, .int .i64 1] 76) = w3 at *
  generalize Value.slice (some ⟨w2.heap.size, 0, none⟩) 1 1 = RV at *
  have HLS := Lib.hid hL3
  have HBL := Lib.hid hb3
  clear hL2 hb2 hL3 hb3 HL2 f17 c17 c17a f17a hne1 hbs2 em
  go_wp2
  have hK1 : (n : Int) / 65535 - 1 ≤ 65536 ∧ 0 ≤ (n : Int) / 65535 - 1 := by omega
  clear hK0
  generalize hKI : (n : Int) / 65535 - 1 = KI at *
  have HKI := Lib.hid hKI
  clear hKI
  go_loopw [4] (fun x wr => ∃ (k : Int) (rv : Value) (rl : List (Int × Int)), 0 ≤ k ∧ k ≤ 65536 ∧ x = .int .i64 k ∧ LS wr w0.heap.size w0.heap.size 2 PV rv PL rl ∧ (0, 1) :: repsI KI = rl ++ repsI k ∧ rl.length + k.toNat / 65535 ≤ 10 ∧ Below w0.heap.size w0 wr) (fun x _ => (intOf x).toNat)
  case atStart => exact ⟨KI, _, _, by omega, hK1.1, rfl, HLS.out, rfl, by simp; omega, HBL.out⟩
  case round =>
    obtain ⟨k, rv, rl, hk0, hk1, rfl, hLS, hrl, hll, hbl⟩ := hrel
    have c17 : wr.cell? ⟨w0.heap.size, 17, none⟩ = some rv := (hLS.1.cell 17).trans rfl
    have f17 : wr.frozen? ⟨w0.heap.size, 17, none⟩ = false := hLS.1.frozen 17
    have hbs : w0.heap.size ≤ wr.heap.size := hbl.size
    by_cases hkp : (65535 : Int) ≤ k
    · have hwk : IntKind.i64.wrap (k - 65535) = k - 65535 := by rw [IntKind.wrap_i64]; omega
      have HQ := Lib.hid (show (0, 1) :: repsI KI = (rl ++ [(1, 65535)]) ++ repsI (k - 65535) from by
        rw [hrl]
        unfold repsI
        by_cases hk8 : k ≤ 65535
        · obtain rfl : k = 65535 := by omega
          simp
        · rw [if_neg (by omega), if_neg hk8, if_neg (by omega), if_pos (by omega)]
          simp)
      have HX := Lib.hid (And.intro hLS (And.intro hrl (And.intro hll hbl)))
      have HW := Lib.hid (And.intro hk0 (And.intro hk1 hkp))
      have hown := hLS.2.2.1.alloc (.cells #[.int .i64 1, .int .i64 65535] 76)
      have HC := Lib.hid (And.intro (lit_cells wr [.int .i64 1, .int .i64 65535] 76) (And.intro (show ∀ u ∈ [Value.int .i64 1, Value.int .i64 65535], u.oneCell' = true by intro u hu; simp at hu; rcases hu with rfl | rfl <;> rfl) (And.intro (show rl.length + 1 ≤ maxLen by unfold maxLen; omega) (And.intro (show (rl.length + 1) * 16 ≤ 140737488355328 by omega) (show w0.heap.size ≤ (wr.alloc (.cells #[.int .i64 1, .int .i64 65535] 76)).heap.size by simp; omega)))))
      clear hLS hrl hbl hk0 hk1
      go_wp2_with (first
        | (at_builtin; refine wpList_append_own _ rfl _ _ 31 rfl w0.heap.size 76 i0 (.agg #[.int .i64 0, .int .i64 0]) 2 16 Try.underlying31 hi hz0 hz1 hz2 rfl (by decide) _ _ _ rfl hown ⟨wr.heap.size, 0, none⟩ 1 1 [.int .i64 1, .int .i64 65535] rfl rfl HC.out.1 HC.out.2.1 HC.out.2.2.1 HC.out.2.2.2.1 HC.out.2.2.2.2 ?_)
        | go_in)
      intro v' w4 hown' hgrow _
      obtain ⟨Ag, cg, rfl⟩ := own_slice hown'
      obtain ⟨hLS, hrl, hll, hbl⟩ := HX.out
      have hLS' := (hLS.alloc (.cells #[.int .i64 1, .int .i64 65535] 76)).setR (rl' := rl ++ [(1, 65535)]) (rv' := .slice Ag (rl.length + 1) cg) hgrow (by rw [List.length_append, fl_app]; exact hown')
      have hb1 : Below w0.heap.size w0 w4 := (hbl.alloc hbs (.cells #[.int .i64 1, .int .i64 65535] 76)).grown hgrow (by simp; omega) (fun i hi => (hLS.2.2.1.lt i hi).1)
      have hb2 : Below w0.heap.size w0 (w4.setCell ⟨w0.heap.size, 17, none⟩ (.slice Ag (rl.length + 1) cg)) := hb1.setCell (Nat.le_refl _) _
      have hB7 := (hLS.1.alloc (.cells #[.int .i64 1, .int .i64 65535] 76)).grown hgrow (fun e => own_blk_ne hLS.2.2.1 hLS.1 (by decide) e.symm)
      have f17' : w4.frozen? ⟨w0.heap.size, 17, none⟩ = false := hB7.frozen 17
      have c17' : w4.cell? ⟨w0.heap.size, 17, none⟩ = some rv := (hB7.cell 17).trans rfl
      clear hB7
      have HR2 := Lib.hid (And.intro hLS' hb2)
      have HL9 := Lib.hid hll
      clear hLS hrl hll hbl hLS' hb1 hb2 hgrow hown' c17 f17 hown
      go_wp2
      go_roundw
      case rel =>
        have hk3 := HW.out.2.2
        have hk4 := HW.out.2.1
        exact ⟨k - 65535, _, _, by omega, by omega, by go_num, HR2.out.1, HQ.out, by rw [List.length_append]; simp; have := HL9.out; omega, HR2.out.2⟩
      case measure => have hk3 := HW.out.2.2; simp [intOf]; omega
    · have HX := Lib.hid (And.intro hLS (And.intro hrl (And.intro hll hbl)))
      clear hLS hrl hll hbl
      go_upto_if 29 with fail
      go_cut [29] from 30 to 36 (fun _ wx => ∃ (rv : Value) (rl : List (Int × Int)), LS wx w0.heap.size w0.heap.size 2 PV rv PL rl ∧ (0, 1) :: repsI KI = rl ∧ rl.length ≤ 11 ∧ Below w0.heap.size w0 wx)
      case first =>
        obtain ⟨hLS, hrl, hll, hbl⟩ := HX.out
        by_cases hk9 : 0 < k
        · have hown := hLS.2.2.1.alloc (.cells #[.int .i64 1, .int .i64 k] 76)
          have HC := Lib.hid (And.intro (lit_cells wr [.int .i64 1, .int .i64 k] 76) (And.intro (show ∀ u ∈ [Value.int .i64 1, Value.int .i64 k], u.oneCell' = true by intro u hu; simp at hu; rcases hu with rfl | rfl <;> rfl) (And.intro (show rl.length + 1 ≤ maxLen by unfold maxLen; omega) (And.intro (show (rl.length + 1) * 16 ≤ 140737488355328 by omega) (show w0.heap.size ≤ (wr.alloc (.cells #[.int .i64 1, .int .i64 k] 76)).heap.size by simp; omega)))))
          clear hLS hrl hbl
          go_wp2_with (first
            | (at_builtin; refine wpList_append_own _ rfl _ _ 31 rfl w0.heap.size 76 i0 (.agg #[.int .i64 0, .int .i64 0]) 2 16 Try.underlying31 hi hz0 hz1 hz2 rfl (by decide) _ _ _ rfl hown ⟨wr.heap.size, 0, none⟩ 1 1 [.int .i64 1, .int .i64 k] rfl rfl HC.out.1 HC.out.2.1 HC.out.2.2.1 HC.out.2.2.2.1 HC.out.2.2.2.2 ?_)
            | go_in)
          intro v' w4 hown' hgrow _
          obtain ⟨Ag, cg, rfl⟩ := own_slice hown'
          obtain ⟨hLS, hrl, hll, hbl⟩ := HX.out
          have hLS' := (hLS.alloc (.cells #[.int .i64 1, .int .i64 k] 76)).setR (rl' := rl ++ [(1, k)]) (rv' := .slice Ag (rl.length + 1) cg) hgrow (by rw [List.length_append, fl_app]; exact hown')
          have hb1 : Below w0.heap.size w0 w4 := (hbl.alloc hbs (.cells #[.int .i64 1, .int .i64 k] 76)).grown hgrow (by simp; omega) (fun i hi => (hLS.2.2.1.lt i hi).1)
          have hb2 : Below w0.heap.size w0 (w4.setCell ⟨w0.heap.size, 17, none⟩ (.slice Ag (rl.length + 1) cg)) := hb1.setCell (Nat.le_refl _) _
          have hB7 := (hLS.1.alloc (.cells #[.int .i64 1, .int .i64 k] 76)).grown hgrow (fun e => own_blk_ne hLS.2.2.1 hLS.1 (by decide) e.symm)
          have f17' : w4.frozen? ⟨w0.heap.size, 17, none⟩ = false := hB7.frozen 17
          have c17' : w4.cell? ⟨w0.heap.size, 17, none⟩ = some rv := (hB7.cell 17).trans rfl
          clear hB7
          have HR2 := Lib.hid (And.intro hLS' hb2)
          have HQ := Lib.hid (show (0, 1) :: repsI KI = rl ++ [(1, k)] from by
            rw [hrl]
            unfold repsI
            rw [if_neg (by omega), if_pos (by omega)])
          have HL9 := Lib.hid hll
          clear hLS hrl hll hbl hLS' hb1 hb2 hgrow hown' c17 f17 hown
          go_wp2
          go_meet
          exact ⟨_, _, HR2.out.1, HQ.out, by rw [List.length_append]; simp; have := HL9.out; omega, HR2.out.2⟩
        · have hrk : repsI k = [] := by unfold repsI; rw [if_pos (by omega)]
          rw [hrk, List.append_nil] at hrl
          have HR2 := Lib.hid (And.intro hLS (And.intro hrl hbl))
          have HL9 := Lib.hid hll
          clear hLS hrl hll hbl hrk c17 f17
          go_wp2
          go_meet
          exact ⟨_, _, HR2.out.1, HR2.out.2.1, by have := HL9.out; omega, HR2.out.2.2⟩
      case rest =>
      rename World => w5
      clear HX c17 f17 hbs hk0 hk1 hkp
      obtain ⟨rv, rl, hLS, hrl, hl9, hbl⟩ := hcut
      obtain ⟨L, hL⟩ : ∃ L : Nat, L = n % 65535 := ⟨_, rfl⟩
      have hL1 : (n : Int) % 65535 = (L : Int) := by omega
      have hL2 : (n : Int).tmod 65535 = (L : Int) := by rw [Int.tmod_eq_emod_of_nonneg (by omega)]; exact hL1
      have hL3 : L < 65535 := by omega
      have HL := Lib.hid (And.intro hL hL3)
      clear hL
      have hbs : w0.heap.size ≤ w5.heap.size := hbl.size
      by_cases hL0 : 0 < L
      · have hL4 : (0 : Int) < (L : Int) := by omega
        have f3 : w5.frozen? ⟨w0.heap.size, 3, none⟩ = false := hLS.1.frozen 3
        have c3 : w5.cell? ⟨w0.heap.size, 3, none⟩ = some (.int .i64 2) := (hLS.1.cell 3).trans rfl
        have hL5 := hLS.set3 (j3 := 3)
        have hb5 : Below w0.heap.size w0 (w5.setCell ⟨w0.heap.size, 3, none⟩ (.int .i64 3)) := hbl.setCell (Nat.le_refl _) _
        have HL5 := Lib.hid (And.intro hL5 (And.intro hb5 hrl))
        clear hLS hbl hL5 hb5 hrl
        go_upto_region 12 with fail
        generalize w5.setCell ⟨w0.heap.size, 3, none⟩ (.int .i64 3) = w6 at *
        clear f3 c3 hbs
        obtain ⟨hLS, hbl, hrl⟩ := HL5.out
        have hbs : w0.heap.size ≤ w6.heap.size := hbl.size
        have c15 : w6.cell? ⟨w0.heap.size, 15, none⟩ = some PV := (hLS.1.cell 15).trans rfl
        have hPn : PL.length = 2 := by rw [HPL.out.1]; rfl
        have hown := (hLS.2.1.alloc (.cells #[.int .i64 L] 3)).alloc (.cells #[.int .i64 1, .slice (some ⟨w6.heap.size, 0, none⟩) 1 1] 104)
        rw [hPn] at hown
        have HC := Lib.hid (And.intro (lit_cells1 w6 (.cells #[.int .i64 L] 3) [.int .i64 1, .slice (some ⟨w6.heap.size, 0, none⟩) 1 1] 104) (And.intro (show ∀ u ∈ [Value.int .i64 1, Value.slice (some ⟨w6.heap.size, 0, none⟩) 1 1], u.oneCell' = true by intro u hu; simp at hu; rcases hu with rfl | rfl <;> rfl) (And.intro (show 2 + 1 ≤ maxLen by unfold maxLen; omega) (And.intro (show (2 + 1) * 32 ≤ 140737488355328 by omega) (show w0.heap.size ≤ ((w6.alloc (.cells #[.int .i64 L] 3)).alloc (.cells #[.int .i64 1, .slice (some ⟨w6.heap.size, 0, none⟩) 1 1] 104)).heap.size by simp; omega)))))
        have HPn := Lib.hid hPn
        clear hLS hrl hbl hPn
        go_wp2_with (first
          | (at_builtin; refine wpList_append_own _ rfl _ _ 30 rfl w0.heap.size 104 i1 (.agg #[.int .i64 0, .slice none 0 0]) 2 32 Try.underlying30 hj hy0 hy1 hy2 rfl (by decide) _ _ _ rfl hown ⟨w6.heap.size + 1, 0, none⟩ 1 1 [.int .i64 1, .slice (some ⟨w6.heap.size, 0, none⟩) 1 1] rfl rfl HC.out.1 HC.out.2.1 HC.out.2.2.1 HC.out.2.2.2.1 HC.out.2.2.2.2 ?_)
          | go_in)
        intro v' w7 hown' hgrow _
        obtain ⟨Ag, cg, rfl⟩ := own_slice hown'
        obtain ⟨hLS, hbl, hrl⟩ := HL5.out
        have hqn : SymD.own ((w6.alloc (.cells #[.int .i64 L] 3)).alloc (.cells #[.int .i64 1, .slice (some ⟨w6.heap.size, 0, none⟩) 1 1] 104)) w0.heap.size ⟨1, some ⟨w6.heap.size, 0, none⟩, 1, 1, [(L : Int)]⟩ :=
          ⟨(World.ownsRow_lit (base := w0.heap.size) (e := 3) (size := 1) w6 #[.int .i64 L] 1 hbs (by decide) rfl).alloc _, by show 1 ≤ 1000000; omega⟩
        have hAA := (hLS.alloc (.cells #[.int .i64 L] 3)).alloc (.cells #[.int .i64 1, .slice (some ⟨w6.heap.size, 0, none⟩) 1 1] 104)
        have hLS' := hAA.setP (pl' := PL ++ [⟨1, some ⟨w6.heap.size, 0, none⟩, 1, 1, [(L : Int)]⟩]) (pv' := .slice Ag 3 cg) hgrow (by rw [List.length_append, HPn.out]; simpa [symV] using hown') (by
          intro q hq
          rcases List.mem_append.1 hq with hq | hq
          · exact hAA.2.2.2 q hq
          · rcases List.mem_singleton.1 hq with rfl
            exact hqn)
        have hb1 : Below w0.heap.size w0 w7 := ((hbl.alloc hbs _).alloc (by simp; omega) _).grown hgrow (by simp; omega) (fun i hi => (hLS.2.1.lt i hi).1)
        have hb2 : Below w0.heap.size w0 (w7.setCell ⟨w0.heap.size, 15, none⟩ (.slice Ag 3 cg)) := hb1.setCell (Nat.le_refl _) _
        have hB1 := hAA.1.grown hgrow (fun e => own_blk_ne hLS.2.1 hLS.1 (by decide) e.symm)
        have f15' : w7.frozen? ⟨w0.heap.size, 15, none⟩ = false := hB1.frozen 15
        have c15' : w7.cell? ⟨w0.heap.size, 15, none⟩ = some PV := (hB1.cell 15).trans rfl
        have HR2 := Lib.hid (And.intro hLS' (And.intro hb2 hrl))
        clear hLS hbl hLS' hb1 hgrow hown' hown hqn hAA hB1 c15 hrl HL5 hbs
        go_upto_region 13 with fail
        generalize (w7.setCell ⟨w0.heap.size, 15, none⟩ (.slice Ag 3 cg)) = w8 at *
        obtain ⟨hLS, hbl, hrl⟩ := HR2.out
        clear hb2 c15' f15'
        have hbs : w0.heap.size ≤ w8.heap.size := hbl.size
        have c17 : w8.cell? ⟨w0.heap.size, 17, none⟩ = some rv := (hLS.1.cell 17).trans rfl
        have hown := hLS.2.2.1.alloc (.cells #[.int .i64 2, .int .i64 1] 76)
        have HC := Lib.hid (And.intro (lit_cells w8 [.int .i64 2, .int .i64 1] 76) (And.intro (show ∀ u ∈ [Value.int .i64 2, Value.int .i64 1], u.oneCell' = true by intro u hu; simp at hu; rcases hu with rfl | rfl <;> rfl) (And.intro (show rl.length + 1 ≤ maxLen by unfold maxLen; omega) (And.intro (show (rl.length + 1) * 16 ≤ 140737488355328 by omega) (show w0.heap.size ≤ (w8.alloc (.cells #[.int .i64 2, .int .i64 1] 76)).heap.size by simp; omega)))))
        clear hLS hbl hrl
        go_wp2_with (first
          | (at_builtin; refine wpList_append_own _ rfl _ _ 31 rfl w0.heap.size 76 i0 (.agg #[.int .i64 0, .int .i64 0]) 2 16 Try.underlying31 hi hz0 hz1 hz2 rfl (by decide) _ _ _ rfl hown ⟨w8.heap.size, 0, none⟩ 1 1 [.int .i64 2, .int .i64 1] rfl rfl HC.out.1 HC.out.2.1 HC.out.2.2.1 HC.out.2.2.2.1 HC.out.2.2.2.2 ?_)
          | go_in)
        intro v' w9 hown' hgrow _
        obtain ⟨Ar, cr, rfl⟩ := own_slice hown'
        obtain ⟨hLS, hbl, hrl⟩ := HR2.out
        have hLA := hLS.alloc (.cells #[.int .i64 2, .int .i64 1] 76)
        have hLS' := hLA.setR (rl' := rl ++ [(2, 1)]) (rv' := .slice Ar (rl.length + 1) cr) hgrow (by rw [List.length_append, fl_app]; exact hown')
        have hb1 : Below w0.heap.size w0 w9 := (hbl.alloc hbs (.cells #[.int .i64 2, .int .i64 1] 76)).grown hgrow (by simp; omega) (fun i hi => (hLS.2.2.1.lt i hi).1)
        have hb2 : Below w0.heap.size w0 (w9.setCell ⟨w0.heap.size, 17, none⟩ (.slice Ar (rl.length + 1) cr)) := hb1.setCell (Nat.le_refl _) _
        have hB1 := hLA.1.grown hgrow (fun e => own_blk_ne hLS.2.2.1 hLS.1 (by decide) e.symm)
        have f17' : w9.frozen? ⟨w0.heap.size, 17, none⟩ = false := hB1.frozen 17
        have c17' : w9.cell? ⟨w0.heap.size, 17, none⟩ = some rv := (hB1.cell 17).trans rfl
        have HL3 := Lib.hid (And.intro hLS' (And.intro hb2 hrl))
        clear hLS hbl hLS' hb1 hb2 hgrow hown' hown hLA hB1 c17 hrl HR2 hbs
        go_upto_region 14 with fail
        generalize (w9.setCell ⟨w0.heap.size, 17, none⟩ (.slice Ar (rl.length + 1) cr)) = w10 at *
        clear c17' f17'
        have hBx := HL3.out.1.1
        have hRx : Blk w10 w.heap.size 33 #[.int .i64 0, .int .i64 0, .int .i64 0, .int .i64 0, .int .i64 0, .int .i64 0, .int .i64 0, .int .i64 0, .int .i64 0, .int .i64 0, .int .i64 0, .int .i64 0, .slice none 0 0, .slice none 0 0, .slice none 0 0, .slice none 0 0, .slice none 0 0, .slice none 0 0] := HM.out.2.1.below HL3.out.2.1 (by rw [HM.out.1]; omega)
        have hb8 : Below w.heap.size w w10 := HM.out.2.2.trans (HL3.out.2.1.mono (by rw [HM.out.1]; omega))
        have HY := Lib.hid (And.intro hRx hb8)
        clear hb8
        go_wp2_with (first
          | (refine wpList_load_box rfl 33 _ rfl (w0.heap.size) rfl 33 #[.int .i64 25, .int .i64 0, .int .i64 1, .int .i64 3, .int .i64 0, .int .i64 0, .int .i64 0, .int .i64 0, .int .i64 0, .int .i64 0, .int .i64 0, .int .i64 0, .slice none 0 0, .slice none 0 0, .slice none 0 0, .slice Ag 3 cg, .slice none 0 0, .slice Ar (rl.length + 1) cr] hBx _ Try.underlying33 rfl blkInfo ?_)
          | (refine wpList_store_box rfl 33 _ _ rfl (w.heap.size) #[.int .i64 25, .int .i64 0, .int .i64 1, .int .i64 3, .int .i64 0, .int .i64 0, .int .i64 0, .int .i64 0, .int .i64 0, .int .i64 0, .int .i64 0, .int .i64 0, .slice none 0 0, .slice none 0 0, .slice none 0 0, .slice Ag 3 cg, .slice none 0 0, .slice Ar (rl.length + 1) cr] rfl rfl 33 #[.int .i64 0, .int .i64 0, .int .i64 0, .int .i64 0, .int .i64 0, .int .i64 0, .int .i64 0, .int .i64 0, .int .i64 0, .int .i64 0, .int .i64 0, .int .i64 0, .slice none 0 0, .slice none 0 0, .slice none 0 0, .slice none 0 0, .slice none 0 0, .slice none 0 0] hRx blkInfo rfl (by simp [Value.oneCell', HPL.out.2.1]) ?_)
          | fail)
        try (refine fun (_ : Hid _) => ?_)
        refine wpList_store_box rfl 33 _ _ rfl (w.heap.size) _ rfl rfl 33 #[.int .i64 0, .int .i64 0, .int .i64 0, .int .i64 0, .int .i64 0, .int .i64 0, .int .i64 0, .int .i64 0, .int .i64 0, .int .i64 0, .int .i64 0, .int .i64 0, .slice none 0 0, .slice none 0 0, .slice none 0 0, .slice none 0 0, .slice none 0 0, .slice none 0 0] hRx blkInfo rfl (by simp [Value.oneCell', HPL.out.2.1]) ?_
        intro w11 hB11 hg11
        have HZ := Lib.hid (And.intro hB11 hg11)
        clear hRx hBx hg11
        go_wp2_with fail
        refine bodyPost_ret (results_cell_row rfl _ _ w.heap.size 33 _ (0, 0) _ rfl hB11 Try.underlying33 rfl blkInfo) rfl ?_
        have hsz := HM.out.1
        have hsz9 := HL3.out.2.1.size
        refine ⟨_, rfl, ?_, HY.out.2.grown HZ.out.2 (by have := HY.out.2.size; omega) (fun b hb => by injection hb with hb; omega)⟩
        have hLS9 := HL3.out.1
        have hF := hLS9.blkAt HZ.out.2 (by omega) (by simp [HPn.out]) (by simp) (by have := HPn.out; omega) (by simp; omega)
        have hE := HKI.out
        have hLe := HL.out.1
        have hF := hF.keep (w' := w11) (ψ := fun b => w.heap.size ≤ b ∧ b < w11.heap.size) (fun b _ => rfl) (fun b hb => ⟨by omega, hb.2⟩)
        refine (show longD n = _ from ?_) ▸ hF
        have hLp : 0 < n % 65535 := by omega
        simp only [longD, longP, longR, if_pos hLp, HPL.out.1, SymD.dat, List.map_append, List.map_cons, List.map_nil]
        rw [← HL3.out.2.2, ← hLe, show ((n / 65535 : Nat) : Int) - 1 = KI by omega]
        rfl
      · obtain ⟨Ar, cr, rfl⟩ := own_slice hLS.2.2.1
        have hL4 : ¬ (0 : Int) < (L : Int) := by omega
        have HL3 := Lib.hid (And.intro hLS (And.intro hbl hrl))
        clear hLS hbl hrl hbs
        go_upto_region 14 with fail
        have hBx := HL3.out.1.1
        have hRx : Blk w5 w.heap.size 33 #[.int .i64 0, .int .i64 0, .int .i64 0, .int .i64 0, .int .i64 0, .int .i64 0, .int .i64 0, .int .i64 0, .int .i64 0, .int .i64 0, .int .i64 0, .int .i64 0, .slice none 0 0, .slice none 0 0, .slice none 0 0, .slice none 0 0, .slice none 0 0, .slice none 0 0] := HM.out.2.1.below HL3.out.2.1 (by rw [HM.out.1]; omega)
        have hb8 : Below w.heap.size w w5 := HM.out.2.2.trans (HL3.out.2.1.mono (by rw [HM.out.1]; omega))
        have HY := Lib.hid (And.intro hRx hb8)
        clear hb8
        go_wp2_with (first
          | (refine wpList_load_box rfl 33 _ rfl (w0.heap.size) rfl 33 #[.int .i64 25, .int .i64 0, .int .i64 1, .int .i64 2, .int .i64 0, .int .i64 0, .int .i64 0, .int .i64 0, .int .i64 0, .int .i64 0, .int .i64 0, .int .i64 0, .slice none 0 0, .slice none 0 0, .slice none 0 0, PV, .slice none 0 0, .slice Ar (rl.length) cr] hBx _ Try.underlying33 rfl blkInfo ?_)
          | (refine wpList_store_box rfl 33 _ _ rfl (w.heap.size) #[.int .i64 25, .int .i64 0, .int .i64 1, .int .i64 2, .int .i64 0, .int .i64 0, .int .i64 0, .int .i64 0, .int .i64 0, .int .i64 0, .int .i64 0, .int .i64 0, .slice none 0 0, .slice none 0 0, .slice none 0 0, PV, .slice none 0 0, .slice Ar (rl.length) cr] rfl rfl 33 #[.int .i64 0, .int .i64 0, .int .i64 0, .int .i64 0, .int .i64 0, .int .i64 0, .int .i64 0, .int .i64 0, .int .i64 0, .int .i64 0, .int .i64 0, .int .i64 0, .slice none 0 0, .slice none 0 0, .slice none 0 0, .slice none 0 0, .slice none 0 0, .slice none 0 0] hRx blkInfo rfl (by simp [Value.oneCell', HPL.out.2.1]) ?_)
          | fail)
        try (refine fun (_ : Hid _) => ?_)
        refine wpList_store_box rfl 33 _ _ rfl (w.heap.size) _ rfl rfl 33 #[.int .i64 0, .int .i64 0, .int .i64 0, .int .i64 0, .int .i64 0, .int .i64 0, .int .i64 0, .int .i64 0, .int .i64 0, .int .i64 0, .int .i64 0, .int .i64 0, .slice none 0 0, .slice none 0 0, .slice none 0 0, .slice none 0 0, .slice none 0 0, .slice none 0 0] hRx blkInfo rfl (by simp [Value.oneCell', HPL.out.2.1]) ?_
        intro w11 hB11 hg11
        have HZ := Lib.hid (And.intro hB11 hg11)
        clear hRx hBx hg11
        go_wp2_with fail
        refine bodyPost_ret (results_cell_row rfl _ _ w.heap.size 33 _ (0, 0) _ rfl hB11 Try.underlying33 rfl blkInfo) rfl ?_
        have hsz := HM.out.1
        have hsz9 := HL3.out.2.1.size
        refine ⟨_, rfl, ?_, HY.out.2.grown HZ.out.2 (by have := HY.out.2.size; omega) (fun b hb => by injection hb with hb; omega)⟩
        have hLS9 := HL3.out.1
        rw [HPL.out.2.1] at hLS9 ⊢
        have hF := hLS9.blkAt HZ.out.2 (by omega) (by rw [HPL.out.1]; rfl) rfl (by omega) (by omega)
        have hE := HKI.out
        have hLe := HL.out.1
        have hF := hF.keep (w' := w11) (ψ := fun b => w.heap.size ≤ b ∧ b < w11.heap.size) (fun b _ => rfl) (fun b hb => ⟨by omega, hb.2⟩)
        refine (show longD n = _ from ?_) ▸ hF
        have hLp : ¬ 0 < n % 65535 := by omega
        simp only [longD, longP, longR, if_neg hLp, HPL.out.1, SymD.dat, List.map_append, List.map_cons, List.map_nil, List.append_nil]
        rw [← HL3.out.2.2, show ((n / 65535 : Nat) : Int) - 1 = KI by omega]
        rfl
end Go.Proofs.Ytckgmnlmimogjaa
