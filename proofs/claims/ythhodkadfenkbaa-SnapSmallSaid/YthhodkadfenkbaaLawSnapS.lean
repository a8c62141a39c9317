/- The law SnapSmall of layer 31, walked: it returns true and writes nothing that was there. -/
import Derived.Test.YthhodkadfenkbaaLawSnapL
namespace Go.Proofs.Ythhodkadfenkbaa
open Go.RowKit

theorem make_u8 (w : World) (K : Nat) (hK : K ≤ 2000) : ∃ cs : Array Value, cs.size = K ∧ (Instr.makeSlice 22 (.int .i64 K) (.int .i64 K)).run Try.prog w = .ok (.slice (some ⟨w.heap.size, 0, none⟩) K K) (w.alloc (.cells cs 5)) := by
  obtain ⟨i0, hi, hz0, hz1, hz2⟩ := info_parts u8Info
  have h := run_makeSlice (P := Try.prog) w 22 5 i0 (.int .u8 0) Try.underlying22 hi hz0 .i64 .i64 K K (by omega) (by omega) (by rw [hz1]; simp; omega) (by rw [hz2]; omega) (by omega)
  rw [hz1] at h
  exact ⟨madeCells (Value.int .u8 0).cells ((K : Int).toNat * 1), by rw [size_madeCells]; simp, by simpa using h⟩
theorem reads_blk {w : World} {g K : Nat} {t : TypeId} {cs : Array Value} {x : Int} (hB : Blk w g t cs) (hs : cs.size = K) (hx : ∀ j, j < K → cs[j]? = some (.int .u8 x)) : Reads w w.heap.size 1 (some ⟨g, 0, none⟩) K ((List.replicate K x).map (Value.int .u8)) := by
  refine ⟨by simp, fun _ => ⟨_, rfl, hB.lt, fun j v hv => ?_⟩⟩
  rw [show (Addr.add ⟨g, 0, none⟩ j) = ⟨g, j, none⟩ by unfold Addr.add; split <;> simp_all, hB.cell j]
  rw [List.map_replicate, List.getElem?_replicate] at hv
  split at hv
  · rename_i hj
    rw [hx j hj, ← hv]
  · cases hv

set_option maxRecDepth 100000 in
set_option maxHeartbeats 4000000 in
theorem snapSmall_walk (A : Option Addr) (n c : Nat) (zs : List Int) (x k : Int) (w : World) (w0 : IsRow .u8 w A n c zs) (w1 : (Lit.int .u8 x).wf = true) (w2 : (Lit.int .i64 k).wf = true) :
    Calls Try.prog 4 #[.slice A n c, .int .u8 x, .int .i64 k] w fun e w' => e = .returned (.bool true) ∧ Below w.heap.size w w' := by
  obtain ⟨k0, k1⟩ := bounds_i64 w2
  obtain ⟨x0, x1⟩ := bounds_u8 w1
  obtain ⟨hr, hz, hnc, hc⟩ := row_u8 w0
  clear w0 w1 w2
  generalize zs.take n = ys at *
  unfold maxLen at hc
  go_enter Try.func4, Try.ntmps4
  go_upto_region 1 with fail
  go_cut [7] from 15 to 17 (fun s wx => ∃ K : Nat, s = .int .i64 K ∧ (K : Int) ≤ 2000 ∧ w = wx)
  case first =>
    go_wp2_with fail
    all_goals
      go_meet
      first
        | exact ⟨0, rfl, by omega, rfl⟩
        | exact ⟨2000, rfl, by omega, rfl⟩
        | exact ⟨k.toNat, by congr 1; omega, by omega, rfl⟩
  case rest =>
    obtain ⟨K, rfl, hK, rfl⟩ := hcut
    by_cases hn : (n : Int) ≤ 3000
    · obtain ⟨cs, hcs, hmk⟩ := make_u8 w K (by omega)
      have hB0 := Blk.new w 5 cs
      have hb0 : Below w.heap.size w (w.alloc (.cells cs 5)) := (Below.refl _ _).alloc (Nat.le_refl _) _
      go_upto_region 6 with fail
      clear hmk
      generalize w.alloc (.cells cs 5) = W at *
      go_loopw [9] (fun i wr => ∃ (j : Nat) (cs : Array Value), j ≤ K ∧ i = .int .i64 j ∧ cs.size = K ∧ (∀ m, m < j → cs[m]? = some (.int .u8 x)) ∧ Blk wr w.heap.size 5 cs ∧ Below w.heap.size w wr) (fun i _ => K - (intOf i).toNat)
      case atStart => exact ⟨0, cs, by omega, rfl, hcs, fun m hm => by omega, hB0, hb0⟩
      case round =>
        clear hB0 hb0 hcs
        obtain ⟨j, cs, hj, rfl, hcs, hx, hB, hbl⟩ := hrel
        by_cases hlt : j < K
        · have hcell : wr.cell? ⟨w.heap.size, j, none⟩ = some cs[j] := by rw [hB.cell j]; exact Array.getElem?_eq_getElem (by omega)
          have hfr := hB.frozen j
          have hB2 := hB.set_ j (.int .u8 x)
          have hb2 := hbl.setCell (p := ⟨w.heap.size, j, none⟩) (Nat.le_refl _) (.int .u8 x)
          go_wp2
          go_roundw
          case rel =>
            refine ⟨j + 1, cs.setIfInBounds j (.int .u8 x), by omega, by go_num, by simpa using hcs, fun m hm => ?_, hB2, hb2⟩
            by_cases e : j = m
            · subst e
              simp [hcs, hlt]
            · rw [Array.getElem?_setIfInBounds_ne e]
              exact hx m (by omega)
          case measure => simp [intOf]; omega
        · obtain rfl : j = K := by omega
          have hrl := reads_blk hB hcs hx
          have hrb := (hr.below hbl).more hbl.size
          have hxl : isU8 (List.replicate j x) := fun z hz' => by obtain rfl := List.eq_of_mem_replicate hz'; exact ⟨x0, x1⟩
          clear hB hcs hx hr
          go_wp2_with fail
          refine (pack_any wr j j _ (List.replicate j x) hrl (by omega) (Nat.le_refl _) (by omega)).mono ?_
          rintro e w1 ⟨v1, rfl, own1, hb1⟩
          obtain ⟨A1, c1, rfl, hc1⟩ := own_sliceC own1
          go_wp2_with fail
          refine (pack_any w1 n c A ys ((hrb.below hb1).more hb1.size) (by omega) hnc (by omega)).mono ?_
          rintro e w2 ⟨v2, rfl, own2, hb2⟩
          obtain ⟨A2, c2, rfl⟩ := own_slice own2
          have hPL := packL_len n false ys (by have := reads_len hrb; omega)
          rw [reads_len hrb] at hPL
          have hP2 := packL_len j false (List.replicate j x) (by simp)
          rw [List.length_replicate] at hP2
          have hPR := fun (h : x ≠ 237) (h5 : 5 ≤ j % 255) => packL_rep x h j j (Nat.le_refl _) h5
          have hzp : isU8 (packL false (List.replicate j x) ++ [0, 1]) := isU8_app (packL_in _ false _ (Nat.le_refl _) hxl) (by intro z hz'; simp at hz'; omega)
          have hback := unp_packL 2 4 [0, 1] (by simp) j false (List.replicate j x) (by simp) (fun e => by cases e)
          rw [List.length_replicate] at hback
          have hU : unpI (j : Int) (packL false (List.replicate j x) ++ [0, 1]) = .ok (List.replicate j x) (packL false (List.replicate j x)).length := by
            unfold unpI
            rw [if_neg (by omega), Int.toNat_natCast, hback]
          have HU := Lib.hid hU
          have own1b := own_kept own1 hb2
          have hrl2 := (((hrl.below hb1).more hb1.size).below hb2).more hb2.size
          have hB : Below w.heap.size w w2 := bthen (bthen hbl hb1) hb2
          clear hback hU own1 own2 hb1 hb2 hbl hrb hrl
          generalize hPK : packL false (List.replicate j x) = PK at *
          have HPK := Lib.hid hPK
          clear hPK
          generalize (packL false ys).length = QL at *
          go_upto_region 10 with fail
          go_cut [60] from 37 to 60 (fun s wx => s = .bool false ∧ w2 = wx)
          case first =>
            have hQI : (QL : Int) ≤ 2 * (n : Int) := by omega
            have hPI : (PK.length : Int) ≤ 4000 := by omega
            by_cases hP : (PK.length : Int) ≤ 4 * ((j : Int) / 255) + 4
            · go_wp2_with fail
              go_meet
              exact ⟨by first | rfl | exact congrArg Value.bool (by simp; omega), rfl⟩
            · by_cases hx7 : x = 237
              · subst hx7
                go_wp2_with fail
                go_meet
                exact ⟨by first | rfl | exact congrArg Value.bool (by simp; omega), rfl⟩
              · have h5 : (j : Int) % 255 < 5 := by
                  rcases Nat.lt_or_ge (j % 255) 5 with h | h
                  · omega
                  · have := hPR hx7 h
                    omega
                go_wp2_with fail
                go_meet
                exact ⟨by first | rfl | exact congrArg Value.bool (by simp; omega), rfl⟩
          case rest =>
            obtain ⟨rfl, rfl⟩ := hcut
            obtain ⟨i0, hi, hz0, hz1, hz2⟩ := info_parts u8Info
            have hone : ∀ u ∈ PK.map (Value.int .u8), u.oneCell' = true := fun u hu => by
              simp only [List.mem_map] at hu
              obtain ⟨z, _, rfl⟩ := hu
              rfl
            have rp := Reads.of_own own1b
            clear hPR
            go_wp2_with (first
              | (at_builtin; refine wpList_append_any _ rfl _ _ 22 rfl w2.heap.size 5 i0 (.int .u8 0) 1 1 Try.underlying22 hi hz0 hz1 hz2 rfl (by decide) _ 0 [] rfl (World.ownsRow_lit w2 #[] 0 (Nat.le_refl _) (by decide) rfl) w2.heap.size A1 PK.length c1 (PK.map (Value.int .u8)) rfl (rp.alloc (Nat.le_refl _) _) hone (by unfold maxLen; omega) (by omega) (by simp) ?_)
              | go_in)
            intro v3 w3 own3 hg3 _
            have hb3 : Below w2.heap.size w2 w3 := ((Below.refl _ _).alloc (Nat.le_refl _) (.cells #[] 5)).grown hg3 (by simp) (fun i hi => by simp [Value.ownBlock] at hi; omega)
            have hs3 := hb3.size
            clear hg3
            go_wp2_with (first
              | (at_builtin; refine wpList_append_own _ rfl _ _ 22 rfl w2.heap.size 5 i0 (.int .u8 0) 1 1 Try.underlying22 hi hz0 hz1 hz2 rfl (by decide) _ PK.length _ rfl (own3.alloc _) ⟨w3.heap.size, 0, none⟩ 2 2 [.int .u8 0, .int .u8 1] rfl rfl (World.news_of_block (cs := #[.int .u8 0, .int .u8 1]) (t := 5) (fr := (0, 0)) (heap_alloc_new w3 _)) (by simp [Value.oneCell']) (by unfold maxLen; omega) (by omega) (by simp; omega) ?_)
              | go_in)
            intro v4 w4 own4 hg4 _
            have hb4 : Below w2.heap.size w2 w4 := (hb3.alloc hs3 (.cells #[.int .u8 0, .int .u8 1] 5)).grown hg4 (by simp; omega) (fun i hi => (own3.lt i hi).1)
            clear hg4
            obtain ⟨A4, c4, rfl, hc4⟩ := own_sliceC own4
            have hm4 := own_cap own4
            have rp4 : Reads w4 w4.heap.size 1 A4 (PK.length + 2) ((PK ++ [0, 1]).map (Value.int .u8)) := by simpa using Reads.of_own own4
            have hun : Calls Try.prog 7 #[.slice A4 (PK.length + 2) c4, .int .i64 j] w4 fun e w' => ∃ A5 c5, e = .returned (.tuple #[.slice A5 j c5, .int .i64 (PK.length : Nat), .int .i64 0]) ∧ (convert 22 9 (.slice A5 j c5)).run Try.prog w' = .ok (.string (strOfNums (List.replicate j x))) w' ∧ (convert 22 9 (.slice (some ⟨w.heap.size, 0, none⟩) j j)).run Try.prog w' = .ok (.string (strOfNums (List.replicate j x))) w' ∧ Below w4.heap.size w4 w' := by
              have h := unpack_any w4 (PK.length + 2) c4 A4 (PK ++ [0, 1]) j rp4 hzp hc4 (by unfold maxLen at hm4; omega)
              rw [HU.out] at h
              refine h.mono ?_
              rintro e w5 ⟨v5, rfl, own5, hb5⟩
              change w5.ownsRow _ _ 1 _ (List.replicate j x).length ((List.replicate j x).map (Value.int .u8)) at own5
              rw [List.length_replicate] at own5
              obtain ⟨A5, c5, rfl⟩ := own_slice own5
              exact ⟨A5, c5, rfl, conv_any c5 (Reads.of_own own5), conv_any j (((hrl2.below hb4).more hb4.size).below hb5), hb5⟩
            generalize strOfNums (List.replicate j x) = SY at *
            have HUN := Lib.hid hun
            clear hun rp4 rp own3 own4 own1b hrl2
            go_wp2_with fail
            refine HUN.out.mono ?_
            rintro e w5 ⟨A5, c5, rfl, cv1, cv2, hb5⟩
            go_wp2_with fail
            refine (lives31 _).mono ?_
            rintro e w6 ⟨rfl, hb6⟩
            go_wp2
            go_ret
            exact ⟨rfl, bthen (bthen (bthen hB hb4) hb5) hb6⟩
    · go_wp2_with fail
      refine (lives31 _).mono ?_
      rintro e w3 ⟨rfl, hb3⟩
      go_wp2
      go_ret
      exact ⟨rfl, hb3⟩

end Go.Proofs.Ythhodkadfenkbaa
