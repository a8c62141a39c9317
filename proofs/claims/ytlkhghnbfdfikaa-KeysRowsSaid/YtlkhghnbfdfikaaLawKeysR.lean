/- The laws of layer 10, walked: KeysRows: it returns true and writes nothing that was there. -/
import Derived.Test.YtlkhghnbfdfikaaLawKeysP
namespace Go.Proofs.Ytlkhghnbfdfikaa
open Go.RowKit

theorem one_any (i : Nat) (w : World) (hi : i < 8) :
    Calls Try.prog 37 #[.int .i64 i] w fun e w' => e = .returned (.int .i64 (2 ^ i)) ∧ w = w' := by
  go_enter Try.func37, Try.ntmps37
  go_wp2
  go_loop [3, 4] (fun v x => ∃ j : Nat, j ≤ i ∧ x = .int .i64 j ∧ v = .int .i64 (2 ^ j)) (fun _ x => i - (intOf x).toNat)
  case atStart => exact ⟨0, by omega, rfl, rfl⟩
  case round =>
    obtain ⟨j, hj, rfl, rfl⟩ := hrel
    by_cases hlt : j < i
    · have HP := Lib.hid (show (2 : Int) ^ (j + 1) = 2 * 2 ^ j by rw [Int.pow_succ]; omega)
      have p0 : (1 : Int) ≤ 2 ^ j ∧ (2 : Int) ^ j ≤ 64 := by
        rcases (show j = 0 ∨ j = 1 ∨ j = 2 ∨ j = 3 ∨ j = 4 ∨ j = 5 ∨ j = 6 by omega) with rfl | rfl | rfl | rfl | rfl | rfl | rfl <;> decide
      obtain ⟨p1, p2⟩ := p0
      generalize (2 : Int) ^ j = Pw at *
      go_wp2
      go_round
      case rel => exact ⟨j + 1, by omega, by go_num, by rw [HP.out]⟩
      case measure => simp [intOf]; omega
    · obtain rfl : j = i := by omega
      generalize hP : (2 : Int) ^ j = Pw at *
      have HP := Lib.hid hP
      clear hP
      go_wp2
      go_ret
      exact ⟨by rw [HP.out]; rfl, rfl⟩

/-- the keys that are down, the first i of them taken out -/
def offD (d : Nat → Int) : Nat → Nat → Int
  | 0 => d
  | i + 1 => updD (offD d i) ((downL d 40).getD i 0 / 5) ((downL d 40).getD i 0 % 5) false
theorem offD_rows {d : Nat → Int} (h : Rows5 d) : ∀ i, Rows5 (offD d i)
  | 0 => h
  | i + 1 => (offD_rows h i).upd _ (by omega) false
theorem offD_on {d : Nat → Int} (h : Rows5 d) : ∀ i, i ≤ (downL d 40).length → ∀ n, onD (offD d i) n = (onD d n && !((downL d 40).take i).contains n)
  | 0, _, n => by simp [offD]
  | i + 1, hi, n => by
    have ih := offD_on h i (by omega) n
    rw [offD, onD_upd (offD_rows h i) (by omega) false n]
    have ht : (downL d 40).take (i + 1) = (downL d 40).take i ++ [(downL d 40).getD i 0] := by
      rw [List.take_succ_eq_append_getElem (by omega)]; simp [List.getD_eq_getElem?_getD, show i < (downL d 40).length by omega]
    rw [ht]
    generalize (downL d 40).getD i 0 = x at *
    rw [show 5 * (x / 5) + x % 5 = x by omega]
    by_cases e : n = x
    · subst e
      simp
    · rw [if_neg e, ih]
      simp [e]
theorem downL_mem {d : Nat → Int} {m n : Nat} : n ∈ downL d m ↔ n < m ∧ onD d n = true := by
  unfold downL
  rw [List.mem_filter, List.mem_range]
theorem downL_nodup (d : Nat → Int) (m : Nat) : (downL d m).Nodup := by
  unfold downL
  exact (List.nodup_range).filter _

/-- the i-th key that is down is still down when those ahead of it were taken out -/
theorem offD_next {d : Nat → Int} (h : Rows5 d) {i : Nat} (hi : i < (downL d 40).length) : (downL d 40).getD i 0 < 40 ∧ onD (offD d i) ((downL d 40).getD i 0) = true := by
  have hg : (downL d 40).getD i 0 = (downL d 40)[i] := by simp [List.getD_eq_getElem?_getD, hi]
  have hm : (downL d 40).getD i 0 ∈ downL d 40 := by rw [hg]; exact List.getElem_mem hi
  obtain ⟨h1, h2⟩ := downL_mem.1 hm
  refine ⟨h1, ?_⟩
  rw [offD_on h i (by omega), h2]
  have hn : (downL d 40).getD i 0 ∉ (downL d 40).take i := by
    intro hc
    obtain ⟨j, hj, he⟩ := List.getElem_of_mem hc
    have hj' : j < i := by rw [List.length_take] at hj; omega
    rw [List.getElem_take, hg] at he
    exact List.pairwise_iff_getElem.1 (downL_nodup d 40) j i (by omega) hi hj' he
  have hc : ((downL d 40).take i).contains ((downL d 40).getD i 0) = false := by rw [List.contains_eq_mem]; exact decide_eq_false hn
  rw [hc]
  rfl
theorem offD_end {d : Nat → Int} (h : Rows5 d) : ∀ n, n < 40 → onD (offD d (downL d 40).length) n = false := by
  intro n hn
  rw [offD_on h _ (Nat.le_refl _), List.take_of_length_le (Nat.le_refl _)]
  cases ho : onD d n with
  | false => rfl
  | true =>
    have : n ∈ downL d 40 := downL_mem.2 ⟨hn, ho⟩
    simp [this]
theorem downL_none {d : Nat → Int} (h : ∀ n, n < 40 → onD d n = false) : downL d 40 = [] := by
  rw [List.eq_nil_iff_forall_not_mem]
  intro n hn
  obtain ⟨h1, h2⟩ := downL_mem.1 hn
  rw [h n h1] at h2
  cases h2
theorem keyB_first : ∀ x : Fin 40, ∀ m : Fin 40, m < x → keyB m.val ≠ keyB x.val := by decide +kernel
theorem keyB_fst {x : Nat} (h : x < 40) : Fst (keyB x) x := fun m hm => keyB_first ⟨x, h⟩ ⟨m, by omega⟩ hm
theorem bt_off : ∀ v : Fin 32, ∀ k : Fin 5, bt v.val k.val = false → (bits .and .u8 (((v.val : Nat) : Int) / 2 ^ k.val) 1 == 0) = true := by decide +kernel
theorem bit_off {x : Int} (h0 : 0 ≤ x) (h1 : x ≤ 31) {k : Nat} (hk : k < 5) (h : bt x k = false) : bits .and .u8 (x / 2 ^ k) 1 = 0 := by
  obtain ⟨f, rfl⟩ := fin32 h0 h1
  simpa using bt_off f ⟨k, hk⟩ h
theorem and_bd {a b : Int} (a0 : 0 ≤ a) (a1 : a ≤ 255) (b0 : 0 ≤ b) (b1 : b ≤ 255) : 0 ≤ bits .and .u8 a b ∧ bits .and .u8 a b ≤ 255 := by
  obtain ⟨m, rfl⟩ := Int.eq_ofNat_of_zero_le a0
  obtain ⟨n, rfl⟩ := Int.eq_ofNat_of_zero_le b0
  have e := (bits_nat .u8 8 (by decide) wraps_u8 m n (by omega) (by omega)).1
  have hlt : m &&& n < 2 ^ 8 := Nat.and_lt_two_pow _ (by omega)
  rw [e]
  omega

/-- a key that is down, found, asked for in its row, and released -/
structure Step10 (d : Nat → Int) (i x r k : Nat) : Prop where
  r8 : r < 8
  k5 : k < 5
  name : Fst (keyB x) x
  eq : x = 5 * r + k
  off : bits .and .u8 (readS (offD d i) (255 - 2 ^ r) 8 / 2 ^ k) 1 = 0
  next : offD d (i + 1) = updD (offD d i) r k false
  ask : 0 ≤ (255 : Int) - 2 ^ r ∧ (255 : Int) - 2 ^ r ≤ 255
theorem pow8 : ∀ r, r < 8 → (1 : Int) ≤ 2 ^ r ∧ (2 : Int) ^ r ≤ 128 := by decide
theorem step10 {d : Nat → Int} (h : Rows5 d) {i : Nat} (hi : i < (downL d 40).length) : ∃ r k, Step10 d i ((downL d 40).getD i 0) r k := by
  obtain ⟨h1, h2⟩ := offD_next h hi
  have hn : offD d (i + 1) = updD (offD d i) ((downL d 40).getD i 0 / 5) ((downL d 40).getD i 0 % 5) false := rfl
  generalize (downL d 40).getD i 0 = x at *
  have hr := readS_in (offD_rows h i) (255 - 2 ^ (x / 5)) 8
  have hp := pow8 (x / 5) (by omega)
  refine ⟨x / 5, x % 5, by omega, by omega, keyB_fst h1, by omega, ?_, hn, by omega⟩
  exact bit_off hr.1 hr.2 (by omega) (read_down (offD_rows h i) (by omega) (by omega) (by rw [show 5 * (x / 5) + x % 5 = x by omega]; exact h2))

theorem downV_get {d : Nat → Int} {i : Nat} (h : i < (downL d 40).length) : (downV d 40)[i]? = some (.string (keyB ((downL d 40).getD i 0))) := by
  unfold downV
  rw [List.getElem?_map, List.getElem?_eq_getElem h]
  simp [List.getD_eq_getElem?_getD, h]

set_option maxRecDepth 100000 in
set_option maxHeartbeats 8000000 in
theorem keysRows_walk (A : Option Addr) (m c : Nat) (l : List (ByteArray × Bool)) (a b : Int) (w : World) (hr : Reads w w.heap.size 2 A m (opsV l)) (w1 : (Lit.int .u8 a).wf = true) (w2 : (Lit.int .u8 b).wf = true) :
    Calls Try.prog 9 #[.slice A m c, .int .u8 a, .int .u8 b] w fun e w' => e = .returned (.bool true) ∧ Below w.heap.size w w' := by
  obtain ⟨a0, a1⟩ := bounds_u8 w1
  obtain ⟨b0, b1⟩ := bounds_u8 w2
  clear w1 w2
  by_cases hm : (m : Int) ≤ 200
  · go_enter Try.func9, Try.ntmps9
    go_wp2_with fail
    refine (play_any A m c l w hr (by omega)).mono ?_
    rintro e w1 ⟨v, d, zs, rfl, hB, _, hS, _, hb1⟩
    have hR5 := hS.1
    clear hS hr
    obtain ⟨c0, c1⟩ := and_bd a0 a1 b0 b1
    have hAB := read_and hR5 a0 a1 b0 b1
    have h255 : readS d 255 8 = 31 := readS_off 255 8 ask_255
    obtain ⟨ra0, ra1⟩ := readS_in hR5 a 8
    have KA := Lib.hid (read_any w.heap.size d a w1 a0 a1 (blk_reads hB))
    have KB := Lib.hid (read_any w.heap.size d b w1 b0 b1 (blk_reads hB))
    have KAB := Lib.hid (read_any w.heap.size d (bits .and .u8 a b) w1 c0 c1 (blk_reads hB))
    have K255 := Lib.hid (read_any w.heap.size d 255 w1 (by omega) (by omega) (blk_reads hB))
    rw [h255] at K255
    rw [← hAB] at KAB
    have KD := Lib.hid (down_any w.heap.size d w1 hB.lt (fun j => ⟨(hR5 j).1, by have := (hR5 j).2; omega⟩) (blk_reads hB))
    have HR5 := Lib.hid hR5
    have KEND := Lib.hid (fun w' hc => read_any w.heap.size (offD d (downL d 40).length) a w' a0 a1 hc)
    rw [read_none (offD_rows hR5 _) (offD_end hR5)] at KEND
    clear hAB h255 hR5
    generalize readS d a 8 = RA at *
    generalize readS d b 8 = RB at *
    go_wp2_with fail
    refine KA.out.mono ?_
    rintro e w2 ⟨rfl, rfl⟩
    go_wp2_with fail
    refine KB.out.mono ?_
    rintro e w2 ⟨rfl, rfl⟩
    go_wp2_with fail
    refine KAB.out.mono ?_
    rintro e w2 ⟨rfl, rfl⟩
    go_wp2_with fail
    refine K255.out.mono ?_
    rintro e w2 ⟨rfl, rfl⟩
    go_wp2_with fail
    refine KA.out.mono ?_
    rintro e w2 ⟨rfl, rfl⟩
    go_wp2_with fail
    refine KD.out.mono ?_
    rintro e w2 ⟨v2, rfl, hD, hb2⟩
    obtain ⟨DA, dc, rfl⟩ := own_sliceK hD
    have hB2 := hB.below hb2 hB.lt
    have hbl2 : Below w.heap.size w w2 := bthen hb1 hb2
    have hne := own_blk_ne hD hB2 (by decide)
    have HNE := Lib.hid hne
    have hLL := downL_le d 40
    clear KA KB KAB K255 KD hB hb1 hb2 hne
    go_wp2
    go_loopw [11] (fun x wr => ∃ i : Nat, i ≤ (downL d 40).length ∧ x = .int .i64 i ∧ Blk wr w.heap.size 68 (keysA (offD d i)) ∧ wr.ownsRow w1.heap.size 9 1 (.slice DA (downL d 40).length dc) (downL d 40).length (downV d 40) ∧ Below w.heap.size w wr) (fun x _ => (downL d 40).length - (intOf x).toNat)
    case atStart => exact ⟨0, by omega, rfl, hB2, hD, hbl2⟩
    case round =>
      clear hB2 hD hbl2
      obtain ⟨i, hi, rfl, hB, hD, hbl⟩ := hrel
      by_cases hlt : i < (downL d 40).length
      · obtain ⟨r, k, hst⟩ := step10 HR5.out hlt
        obtain ⟨gD, cD, e1, _, hgD⟩ := hD.form (by omega)
        injection e1 with e1 _ e2
        subst e1 e2
        have hcell : wr.cell? ⟨gD, i, none⟩ = some (.string (keyB ((downL d 40).getD i 0))) := (hD.cellAt i (by omega)).trans (downV_get hlt)
        obtain ⟨r8, k5, hF, hx, off, next, q0, q1⟩ := hst
        have NEXT := Lib.hid next
        clear next
        generalize (downL d 40).getD i 0 = x at *
        subst hx
        have hlen := offD_rows HR5.out i
        obtain ⟨v0, v1⟩ := readS_in hlen (255 - 2 ^ r) 8
        have KF := Lib.hid (find_at r8 k5 rfl hF wr)
        have KO := Lib.hid (fun w' => one_any r w' r8)
        have KR := Lib.hid (fun w' (hB : Blk w' w.heap.size 68 (keysA (offD d i))) => read_any w.heap.size (offD d i) (255 - 2 ^ r) w' q0 q1 (blk_reads hB))
        have KREL := Lib.hid (fun w' (hB : Blk w' w.heap.size 68 (keysA (offD d i))) => release_key (keyB (5 * r + k)) w.heap.size r k (offD d i) w' r8 k5 rfl hF hB)
        clear hlen hF
        generalize hP : (2 : Int) ^ r = P2 at *
        clear hP
        generalize readS (offD d i) (255 - P2) 8 = V at *
        have r0 : (0 : Int) ≤ (r : Int) := by omega
        have r7 : (r : Int) ≤ 7 := by omega
        have k0 : (0 : Int) ≤ (k : Int) := by omega
        have k4 : (k : Int) ≤ 4 := by omega
        generalize keyB (5 * r + k) = T at *
        generalize hM : (downL d 40).length = M at *
        have HM := Lib.hid hM
        clear hM
        go_wp2_with fail
        refine KF.out.mono ?_
        rintro e w4 ⟨rfl, hb4⟩
        have hB4 := hB.below hb4 hB.lt
        have hD4 := own_kept10 hD hb4
        have hbl4 : Below w.heap.size w w4 := bthen hbl hb4
        have hcell4 : w4.cell? ⟨gD, i, none⟩ = some (.string T) := (hb4.cell hgD).trans hcell
        clear hB hD hbl hb4 hcell hgD
        rcases (show k = 0 ∨ k = 1 ∨ k = 2 ∨ k = 3 ∨ k = 4 by omega) with rfl | rfl | rfl | rfl | rfl
        all_goals
          simp only [show ((2 : Int) ^ 0) = 1 from rfl, show ((2 : Int) ^ 1) = 2 from rfl, show ((2 : Int) ^ 2) = 4 from rfl, show ((2 : Int) ^ 3) = 8 from rfl, show ((2 : Int) ^ 4) = 16 from rfl, Int.ediv_one] at off
          go_wp2_with fail
          refine (KO.out w4).mono ?_
          rintro e w5 ⟨rfl, rfl⟩
          go_wp2_with fail
          refine (KR.out w4 hB4).mono ?_
          rintro e w5 ⟨rfl, rfl⟩
          go_wp2_with fail
          refine (KREL.out w4 hB4).mono ?_
          rintro e w5 ⟨rfl, hB5, hg5⟩
          go_wp2
          go_roundw
          case rel => exact ⟨i + 1, by omega, by go_num, by rw [NEXT.out]; exact hB5, hD4.kept hg5 (.inr HNE.out), below_grown hbl4 hg5 (Nat.le_refl _)⟩
          case measure => simp [intOf]; omega
      · obtain rfl : i = (downL d 40).length := by omega
        have hEND := downL_none (offD_end HR5.out)
        have KD := Lib.hid (fun w' hc hg => down_any w.heap.size (offD d (downL d 40).length) w' hg (fun j => ⟨(offD_rows HR5.out _ j).1, by have := (offD_rows HR5.out (downL d 40).length j).2; omega⟩) hc)
        rw [hEND] at KD
        clear hEND
        go_wp2_with fail
        refine (KEND.out wr (blk_reads hB)).mono ?_
        rintro e w4 ⟨rfl, rfl⟩
        go_wp2_with fail
        refine (KD.out wr (blk_reads hB) hB.lt).mono ?_
        rintro e w4 ⟨v4, rfl, hD4, hb4⟩
        change w4.ownsRow _ _ 1 _ 0 _ at hD4
        obtain ⟨DA4, dc4, rfl⟩ := own_sliceK hD4
        go_wp2_with fail
        refine (lives10 _).mono ?_
        rintro e w5 ⟨rfl, hb5⟩
        go_wp2
        go_ret
        exact ⟨rfl, bthen (bthen hbl hb4) hb5⟩
  · have hm' : (200 : Int) < (m : Int) := by omega
    go_enter Try.func9, Try.ntmps9
    go_wp2_with fail
    refine (lives10 _).mono ?_
    rintro e w5 ⟨rfl, hb5⟩
    go_wp2
    go_ret
    exact ⟨rfl, hb5⟩

end Go.Proofs.Ytlkhghnbfdfikaa
