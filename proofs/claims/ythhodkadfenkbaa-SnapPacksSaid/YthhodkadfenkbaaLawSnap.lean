/- The laws of layer 31, walked: SnapPacks and SnapSmall return true and write nothing that was there. -/
import Derived.Test.YthhodkadfenkbaaR31e
import Derived.Deep.RegionWith
import Derived.Deep.CutRange
namespace Go.Proofs.Ythhodkadfenkbaa
open Go.RowKit

theorem reads_new (w : World) (t : TypeId) (cs : Array Value) (l : List Value) (h : cs.toList = l) :
    Reads (w.alloc (.cells cs t)) (w.alloc (.cells cs t)).heap.size 1 (some ⟨w.heap.size, 0, none⟩) l.length l := by
  refine ⟨by simp, fun _ => ⟨_, rfl, by simp, fun j v hv => ?_⟩⟩
  rw [show (Addr.add ⟨w.heap.size, 0, none⟩ j) = ⟨w.heap.size, j, none⟩ by unfold Addr.add; split <;> simp_all, World.cell?_alloc_at _ _ _ _ rfl]
  rw [← Array.getElem?_toList, h]
  exact hv
theorem own_cap {w : World} {B e size n m cap : Nat} {A : Option Addr} {xs : List Value} (h : w.ownsRow B e size (.slice A n cap) m xs) : cap ≤ maxLen := by
  rcases h.2 with ⟨h0, _⟩ | ⟨g', cap', cur, hv, _, _, h1, h2, _⟩
  · injection h0 with _ _ e; subst e; unfold maxLen; omega
  · injection hv with _ e1 e2
    subst e2
    exact h2
theorem conv_any {w : World} {B n : Nat} {A : Option Addr} {zs : List Int} (c : Nat) (hr : Reads w B 1 A n (zs.map (Value.int .u8))) : (convert 22 9 (.slice A n c)).run Try.prog w = .ok (.string (strOfNums zs)) w :=
  conv_reads w 22 5 9 Try.underlying22 Try.underlying5 Try.underlying9 c hr

theorem packL_in (n : Nat) : ∀ (al : Bool) (zs : List Int), zs.length ≤ n → isU8 zs → isU8 (packL al zs) := by
  induction n with
  | zero => intro al zs h _; obtain rfl : zs = [] := List.eq_nil_of_length_eq_zero (by omega); rw [packL_nil]; intro z hz; simp at hz
  | succ n ih =>
    intro al zs h hz
    by_cases h0 : 0 < zs.length
    · have hx := isU8_at hz h0
      cases hr : rawB al zs with
      | true =>
        have ih1 := ih (zs.getD 0 0 == 237 && !al) (zs.drop 1) (by simp; omega) (isU8_drop hz 1)
        rw [packL_raw h0 hr]
        intro z hm
        rcases List.mem_cons.1 hm with rfl | hm
        · exact hx
        · exact ih1 z hm
      | false =>
        have hk := (rawB_false hr).2
        have hk1 : 2 ≤ runN zs := by omega
        have ih1 := ih false (zs.drop (runN zs)) (by simp; omega) (isU8_drop hz _)
        have h255 := runN_255 zs
        rw [packL_run h0 hr]
        intro z hm
        simp only [List.mem_cons] at hm
        rcases hm with rfl | rfl | rfl | rfl | hm
        · omega
        · omega
        · omega
        · exact hx
        · exact ih1 z hm
    · obtain rfl : zs = [] := List.eq_nil_of_length_eq_zero (by omega)
      rw [packL_nil]; intro z hz; simp at hz

theorem pack_five : packL false [7, 7, 7, 7, 7] = [237, 237, 5, 7] := by
  rw [packL_run (by decide) (by decide)]
  rw [show runN [7, 7, 7, 7, 7] = 5 by decide]
  simp [packL_nil]
theorem pack_seven : packL false [237, 7, 7, 7, 7, 7, 7] = [237, 7, 237, 237, 5, 7] := by
  rw [packL_raw (by decide) (by decide), show (([237, 7, 7, 7, 7, 7, 7] : List Int).getD 0 0 == 237 && !false) = true by decide, List.drop_succ_cons, List.drop_zero]
  rw [packL_raw (by decide) (by decide), show (([7, 7, 7, 7, 7, 7] : List Int).getD 0 0 == 237 && !true) = false by decide, List.drop_succ_cons, List.drop_zero, pack_five]
  rfl
theorem str_five : strOfNums [237, 237, 5, 7] = ⟨#[237, 237, 5, 7]⟩ := by rfl
theorem str_seven : strOfNums [237, 7, 237, 237, 5, 7] = ⟨#[237, 7, 237, 237, 5, 7]⟩ := by rfl

set_option maxHeartbeats 1000000 in
theorem lives31 (w : World) :
    Calls Try.prog 5 #[] w fun e w' => e = .returned (.bool true) ∧ Below w.heap.size w w' := by
  have hb0 : Below w.heap.size w (w.alloc (.cells #[.int .u8 7, .int .u8 7, .int .u8 7, .int .u8 7, .int .u8 7] 5)) := (Below.refl _ _).alloc (Nat.le_refl _) _
  have hr0 := reads_new w 5 #[.int .u8 7, .int .u8 7, .int .u8 7, .int .u8 7, .int .u8 7] (([7, 7, 7, 7, 7] : List Int).map (Value.int .u8)) rfl
  have hs0 : (w.alloc (.cells #[.int .u8 7, .int .u8 7, .int .u8 7, .int .u8 7, .int .u8 7] 5)).heap.size = w.heap.size + 1 := by simp
  go_enter Try.func5, Try.ntmps5
  go_wp2_with fail
  generalize w.alloc (.cells #[.int .u8 7, .int .u8 7, .int .u8 7, .int .u8 7, .int .u8 7] 5) = w1 at *
  refine (pack_any w1 5 5 _ [7, 7, 7, 7, 7] hr0 (by omega) (by omega) (by omega)).mono ?_
  rintro e w2 ⟨v, rfl, hown, hb1⟩
  rw [pack_five] at hown
  change w2.ownsRow _ _ 1 _ 4 _ at hown
  obtain ⟨A1, c1, rfl⟩ := own_slice hown
  have hcv := conv_any c1 (Reads.of_own hown)
  rw [str_five] at hcv
  have hr1 := reads_new w2 5 #[.int .u8 237, .int .u8 7, .int .u8 7, .int .u8 7, .int .u8 7, .int .u8 7, .int .u8 7] (([237, 7, 7, 7, 7, 7, 7] : List Int).map (Value.int .u8)) rfl
  have hb2 : Below w2.heap.size w2 (w2.alloc (.cells #[.int .u8 237, .int .u8 7, .int .u8 7, .int .u8 7, .int .u8 7, .int .u8 7, .int .u8 7] 5)) := (Below.refl _ _).alloc (Nat.le_refl _) _
  clear hown
  go_wp2_with fail
  clear hcv
  generalize w2.alloc (.cells #[.int .u8 237, .int .u8 7, .int .u8 7, .int .u8 7, .int .u8 7, .int .u8 7, .int .u8 7] 5) = w3 at *
  refine (pack_any w3 7 7 _ [237, 7, 7, 7, 7, 7, 7] hr1 (by omega) (by omega) (by omega)).mono ?_
  rintro e w4 ⟨v2, rfl, hown2, hb3⟩
  rw [pack_seven] at hown2
  change w4.ownsRow _ _ 1 _ 6 _ at hown2
  obtain ⟨A2, c2, rfl⟩ := own_slice hown2
  have hcv := conv_any c2 (Reads.of_own hown2)
  rw [str_seven] at hcv
  clear hown2
  go_wp2
  go_ret
  exact ⟨rfl, bthen (bthen (bthen hb0 hb1) hb2) hb3⟩

set_option maxHeartbeats 4000000 in
theorem snapPacks_walk (A : Option Addr) (n c : Nat) (zs : List Int) (k : Int) (w : World) (w0 : IsRow .u8 w A n c zs) (w1 : (Lit.int .i64 k).wf = true) :
    Calls Try.prog 3 #[.slice A n c, .int .i64 k] w fun e w' => e = .returned (.bool true) ∧ Below w.heap.size w w' := by
  obtain ⟨k0, k1⟩ := bounds_i64 w1
  obtain ⟨hr, hz, hnc, hc⟩ := row_u8 w0
  clear w0 w1
  generalize zs.take n = ys at *
  unfold maxLen at hc
  by_cases hbig : (3000 < (n : Int)) ∨ ((n : Int) ≤ 3000 ∧ 5000 < k ∧ k ≤ 65536)
  · go_enter Try.func3, Try.ntmps3
    rcases hbig with h | ⟨h, h2, h3⟩
    all_goals
      go_wp2_with fail
      refine (lives31 _).mono ?_
      rintro e w3 ⟨rfl, hb3⟩
      go_wp2
      go_ret
      exact ⟨rfl, hb3⟩
  · have hn : (n : Int) ≤ 3000 := by omega
    have hk : k ≤ 5000 ∨ 65536 < k := by omega
    clear hbig
    have hl := reads_len hr
    have hback := unp_packL 2 4 [] (by simp) ys.length false ys (Nat.le_refl _) (fun e => by cases e)
    rw [List.append_nil, hl] at hback
    have hU : unpI ((n : Nat) : Int) (packL false ys) = .ok ys (packL false ys).length := by
      unfold unpI
      rw [if_neg (by omega), Int.toNat_natCast, hback]
    have HU := Lib.hid hU
    clear hU hback
    have hpl := packL_len ys.length false ys (Nat.le_refl _)
    have hzp : isU8 (packL false ys) := packL_in ys.length false ys (Nat.le_refl _) hz
    rw [hl] at hpl
    go_enter Try.func3, Try.ntmps3
    rcases hk with hk | hk
    all_goals
      go_wp2_with fail
      refine (pack_any w n c A ys hr (by omega) hnc (by omega)).mono ?_
      rintro e w1 ⟨v1, rfl, own1, hb1⟩
      have hr1 := (hr.below hb1).more hb1.size
      obtain ⟨A1, c1, rfl, hc1⟩ := own_sliceC own1
      have hm1 := own_cap own1
      go_wp2_with fail
      refine (unpack_any w1 n c A ys k hr1 hz hnc (by omega)).mono ?_
      rintro e w2 ⟨v2, rfl, own2, hb2⟩
      have hr2 := (hr1.below hb2).more hb2.size
      have own1b := own_kept own1 hb2
      go_wp2_with fail
      refine (unpackR_any w2 n c A ys k hr2 hz (by omega) hnc (by omega)).mono ?_
      rintro e w3 ⟨v3, rfl, own3, hb3⟩
      have hr3 := (hr2.below hb3).more hb3.size
      have own1c := own_kept own1b hb3
      have own2b := own_kept own2 hb3
      obtain ⟨A2, c2, rfl⟩ := own_slice own2
      obtain ⟨A3, c3, rfl⟩ := own_slice own3
      have hB : Below w.heap.size w w3 := bthen (bthen hb1 hb2) hb3
      clear own1 own1b own2 hb1 hb2 hb3 hr1 hr2
      generalize unpI k ys = U at *
      obtain ⟨PK, hPK⟩ : ∃ PK, PK = packL false ys := ⟨_, rfl⟩
      rw [← hPK] at own1c HU hpl hzp hc1 ⊢
      have HPK := Lib.hid hPK
      clear hPK
      go_upto_region 6 with fail
      go_cut [65] from 43 to 65 (fun s wx => s = .bool false ∧ Below w3.heap.size w3 wx)
      case first =>
        have rp := (Reads.of_own own1c)
        have rl := (Reads.of_own own2b)
        have rm := (Reads.of_own own3)
        have KEY := Lib.hid (fun w' (h : Below w3.heap.size w3 w') => (show Below w3.heap.size w3 w' ∧ (convert 22 9 (.slice A1 PK.length c1)).run Try.prog w' = .ok (.string (strOfNums PK)) w' ∧ (convert 22 9 (.slice A2 U.l.length c2)).run Try.prog w' = .ok (.string (strOfNums U.l)) w' ∧ (convert 22 9 (.slice A3 U.l.length c3)).run Try.prog w' = .ok (.string (strOfNums U.l)) w' from ⟨h, conv_any c1 (rp.below h), conv_any c2 (rl.below h), conv_any c3 (rm.below h)⟩))
        have KP := Lib.hid (fun w' (h : Below w3.heap.size w3 w') => (show Calls Try.prog 9 #[.slice A n c] w' fun e wa => ∃ A4 c4, e = .returned (.slice A4 PK.length c4) ∧ Below w3.heap.size w3 wa ∧ (convert 22 9 (.slice A4 PK.length c4)).run Try.prog wa = .ok (.string (strOfNums PK)) wa by
          refine (packR_any w' n c A ys ((hr3.below h).more h.size) (by omega) hnc (by omega)).mono ?_
          rintro e wa ⟨va, rfl, owna, hba⟩
          rw [← HPK.out] at owna
          obtain ⟨A4, c4, rfl⟩ := own_slice owna
          exact ⟨A4, c4, rfl, bthen h hba, conv_any c4 (Reads.of_own owna)⟩))
        clear rp rl rm own1c own2b own3 hr3 hr
        generalize strOfNums PK = SP at *
        generalize strOfNums U.l = SU at *
        go_region_held3 (fun w' => Below w3.heap.size w3 w' ∧ (convert 22 9 (.slice A1 PK.length c1)).run Try.prog w' = .ok (.string SP) w' ∧ (convert 22 9 (.slice A2 U.l.length c2)).run Try.prog w' = .ok (.string SU) w' ∧ (convert 22 9 (.slice A3 U.l.length c3)).run Try.prog w' = .ok (.string SU) w')
          (first | exact KEY.out _ ((Below.refl _ _).drew) | exact KEY.out _ hbA)
          (first
            | (go_at_call 9
               refine (KP.out _ (by first | assumption | (rename_i hH; exact hH.1) | exact (Below.refl _ _).drew)).mono ?_
               rintro e wa ⟨A4, c4, rfl, hbA, hcA⟩))
        all_goals
          rename_i hH
          have hHB := hH.1
          clear hH hcA
          go_wp2_with fail
          go_meet
          exact ⟨rfl, hHB⟩
      case rest =>
        obtain ⟨rfl, hb4⟩ := hcut
        have rp := ((Reads.of_own own1c).below hb4).more hb4.size
        have hr4 := (hr3.below hb4).more hb4.size
        clear own1c own2b own3
        have hun : Calls Try.prog 7 #[.slice A1 PK.length c1, .int .i64 n] wc fun e w' => ∃ A5 c5, e = .returned (.tuple #[.slice A5 n c5, .int .i64 (PK.length : Nat), .int .i64 0]) ∧ (convert 22 9 (.slice A5 n c5)).run Try.prog w' = .ok (.string (strOfNums ys)) w' ∧ (convert 22 9 (.slice A n c)).run Try.prog w' = .ok (.string (strOfNums ys)) w' ∧ Below wc.heap.size wc w' := by
          have h := unpack_any wc PK.length c1 A1 PK n rp hzp hc1 (by unfold maxLen at hm1; omega)
          rw [HU.out] at h
          refine h.mono ?_
          rintro e w5 ⟨v5, rfl, own5, hb5⟩
          change w5.ownsRow _ _ 1 _ ys.length (ys.map (Value.int .u8)) at own5
          rw [hl] at own5
          obtain ⟨A5, c5, rfl⟩ := own_slice own5
          exact ⟨A5, c5, rfl, conv_any c5 (Reads.of_own own5), conv_any c (hr4.below hb5), hb5⟩
        generalize strOfNums ys = SY at *
        have HUN := Lib.hid hun
        clear hun rp hr4 hr3
        go_wp2_with fail
        refine HUN.out.mono ?_
        rintro e w5 ⟨A5, c5, rfl, cv1, cv2, hb5⟩
        go_wp2_with fail
        refine (lives31 _).mono ?_
        rintro e w6 ⟨rfl, hb6⟩
        go_wp2
        go_ret
        exact ⟨rfl, bthen (bthen (bthen hB hb4) hb5) hb6⟩

end Go.Proofs.Ythhodkadfenkbaa
