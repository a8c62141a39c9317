/- Contracts of layer 18: the sum of bytes, by the program and by the document. -/
import Derived.Test.YtpfojhmaeaeecaaTap
import Derived.Test.YtpfojhmaeaeecaaR01
import Derived.Laws.MakeOwn
import Derived.Deep.CutRange
import Derived.Deep.RegionHeld3
namespace Go.Proofs.Ytpfojhmaeaeecaa
open Go.RowKit

def sumX (zs : List Int) : Int := zs.foldl (fun s z => bits .xor .u8 s z) 0
theorem sumX_snoc (zs : List Int) (z : Int) : sumX (zs ++ [z]) = bits .xor .u8 (sumX zs) z := by simp [sumX, List.foldl_append]
theorem sumX_in (n : Nat) : ∀ zs : List Int, zs.length ≤ n → isU8 zs → 0 ≤ sumX zs ∧ sumX zs ≤ 255 := by
  induction n with
  | zero => intro zs h _; obtain rfl : zs = [] := List.eq_nil_of_length_eq_zero (by omega); simp [sumX]
  | succ n ih =>
    intro zs h hz
    rcases Nat.eq_zero_or_pos zs.length with h0 | h0
    · obtain rfl : zs = [] := List.eq_nil_of_length_eq_zero h0; simp [sumX]
    · have e : zs = zs.take (zs.length - 1) ++ [zs.getD (zs.length - 1) 0] := by
        rw [← take_snocI zs (zs.length - 1) (by omega), show zs.length - 1 + 1 = zs.length by omega, List.take_length]
      have ih1 := ih (zs.take (zs.length - 1)) (by simp; omega) (fun z hm => hz z (List.mem_of_mem_take hm))
      have hl := isU8_at hz (k := zs.length - 1) (by omega)
      rw [e, sumX_snoc]
      exact bits_bd .xor ih1.1 ih1.2 hl.1 hl.2 (by simp)

set_option maxHeartbeats 1000000 in
theorem sum_any (w : World) (B n c : Nat) (A : Option Addr) (zs : List Int) (hr : Reads w B 1 A n (zs.map (Value.int .u8))) (hn : n ≤ 2000000) :
    Calls Try.prog 15 #[.slice A n c] w fun e w' => e = .returned (.int .u8 (sumX zs)) ∧ w = w' := by
  have HL := Lib.hid (reads_len hr)
  go_enter Try.func15, Try.ntmps15
  go_wp2
  go_loop [3, 8] (fun v x => ∃ i : Nat, i ≤ n ∧ x = .int .i64 i ∧ v = .int .u8 (sumX (zs.take i))) (fun _ x => n - (intOf x).toNat)
  case atStart => exact ⟨0, by omega, rfl, rfl⟩
  case round =>
    obtain ⟨i, hi, rfl, rfl⟩ := hrel
    by_cases hlt : i < n
    · obtain ⟨ad, rfl, hab, hcl⟩ := u8_at hr hlt
      have HT := Lib.hid (take_snocI zs i (by rw [HL.out]; exact hlt))
      have HS := Lib.hid (sumX_snoc (zs.take i) (zs.getD i 0))
      generalize sumX (zs.take i) = V at *
      generalize zs.getD i 0 = z at *
      go_wp2
      go_round
      case rel => exact ⟨i + 1, by omega, by go_num, by rw [HT.out, HS.out]⟩
      case measure => simp [intOf]; omega
    · have hk2 : zs.take i = zs := by have := HL.out; rw [List.take_of_length_le (by omega)]
      have HK := Lib.hid hk2
      clear hk2
      go_wp2
      go_ret
      exact ⟨by rw [HK.out]; rfl, rfl⟩
theorem right_any (w : World) (B n c : Nat) (A : Option Addr) (zs : List Int) (hr : Reads w B 1 A n (zs.map (Value.int .u8))) (hn : n ≤ 2000000) :
    Calls Try.prog 16 #[.slice A n c] w fun e w' => e = .returned (.bool (decide (0 < n) && (sumX zs == 0))) ∧ w = w' := by
  by_cases h0 : 0 < n
  · have hI : (0 : Int) < (n : Int) := by omega
    have hs := sum_any w B n c A zs hr hn
    rw [decide_eq_true h0]
    generalize sumX zs = S at *
    go_enter Try.func16, Try.ntmps16
    go_wp2_with fail
    refine hs.mono ?_
    rintro e w1 ⟨rfl, rfl⟩
    go_wp2
    go_ret
    exact ⟨by first | rfl | simp, rfl⟩
  · obtain rfl : n = 0 := by omega
    rw [decide_eq_false h0]
    go_enter Try.func16, Try.ntmps16
    go_wp2
    go_ret
    exact ⟨by first | rfl | simp, rfl⟩

/-- the document's sum, bit by bit -/
def xorF (zs : List Int) (k : Nat) : Bool := zs.foldl (fun s z => s != bitH z k) false
theorem xorF_snoc (zs : List Int) (z : Int) (k : Nat) : xorF (zs ++ [z]) k = (xorF zs k != bitH z k) := by simp [xorF, List.foldl_append]
theorem xorF_sum (n : Nat) : ∀ zs : List Int, zs.length ≤ n → isU8 zs → ∀ k, k < 8 → bitH (sumX zs) k = xorF zs k := by
  induction n with
  | zero => intro zs h _ k hk; obtain rfl : zs = [] := List.eq_nil_of_length_eq_zero (by omega); rcases nat8 hk with rfl | rfl | rfl | rfl | rfl | rfl | rfl | rfl <;> decide
  | succ n ih =>
    intro zs h hz k hk
    rcases Nat.eq_zero_or_pos zs.length with h0 | h0
    · obtain rfl : zs = [] := List.eq_nil_of_length_eq_zero h0
      rcases nat8 hk with rfl | rfl | rfl | rfl | rfl | rfl | rfl | rfl <;> decide
    · have e : zs = zs.take (zs.length - 1) ++ [zs.getD (zs.length - 1) 0] := by
        rw [← take_snocI zs (zs.length - 1) (by omega), show zs.length - 1 + 1 = zs.length by omega, List.take_length]
      have hz1 : isU8 (zs.take (zs.length - 1)) := fun z hm => hz z (List.mem_of_mem_take hm)
      have ih1 := ih (zs.take (zs.length - 1)) (by simp; omega) hz1 k hk
      have hs := sumX_in n (zs.take (zs.length - 1)) (by simp; omega) hz1
      have hl := isU8_at hz (k := zs.length - 1) (by omega)
      rw [e, sumX_snoc, xorF_snoc, bitH_xorB hs.1 hs.2 hl.1 hl.2 hk, ih1]

def rowB8 (f : Nat → Bool) : Array Value := #[.bool (f 0), .bool (f 1), .bool (f 2), .bool (f 3), .bool (f 4), .bool (f 5), .bool (f 6), .bool (f 7)]
theorem rowB8_at (f : Nat → Bool) {j : Nat} (h : j < 8) : (rowB8 f)[j]? = some (.bool (f j)) := by
  rcases nat8 h with rfl | rfl | rfl | rfl | rfl | rfl | rfl | rfl <;> rfl
theorem rowB8_set (f : Nat → Bool) {i : Nat} (h : i < 8) (x : Bool) : (rowB8 f).setIfInBounds i (.bool x) = rowB8 (fun j => if j = i then x else f j) := by
  rcases nat8 h with rfl | rfl | rfl | rfl | rfl | rfl | rfl | rfl <;> rfl
theorem rowB8_congr {f h : Nat → Bool} (e : ∀ k, k < 8 → f k = h k) : rowB8 f = rowB8 h := by
  unfold rowB8
  rw [e 0 (by omega), e 1 (by omega), e 2 (by omega), e 3 (by omega), e 4 (by omega), e 5 (by omega), e 6 (by omega), e 7 (by omega)]

set_option maxRecDepth 100000 in
set_option maxHeartbeats 2000000 in
theorem sum18R_any (w : World) (n c : Nat) (A : Option Addr) (zs : List Int) (hr : Reads w w.heap.size 1 A n (zs.map (Value.int .u8))) (hz : isU8 zs) (hn : n ≤ 2000000) :
    Calls Try.prog 14 #[.slice A n c] w fun e w' => e = .returned (.int .u8 (sumX zs)) ∧ Below w.heap.size w w' := by
  have HL := Lib.hid (reads_len hr)
  have hb0 : Below w.heap.size w (w.alloc (.cells (rowB8 fun _ => false) 4)) := (Below.refl _ _).alloc (Nat.le_refl _) _
  have hB0 : Blk (w.alloc (.cells (rowB8 fun _ => false) 4)) w.heap.size 4 (rowB8 fun _ => false) := Blk.new w _ _
  have hmk : (Instr.makeSlice 75 (.int .i64 8) (.int .i64 8)).run Try.prog w = .ok (.slice (some ⟨w.heap.size, 0, none⟩) 8 8) (w.alloc (.cells (rowB8 fun _ => false) 4)) := by
    obtain ⟨i0, hi, hz0, hz1, hz2⟩ := info_parts boolInfo
    have h := run_makeSlice (P := Try.prog) w 75 4 i0 (.bool false) Try.underlying75 hi hz0 .i64 .i64 8 8 (by omega) (by omega) (by rw [hz1]; decide) (by rw [hz2]; decide) (by omega)
    rw [hz1, show madeCells (Value.bool false).cells (Int.toNat 8 * 1) = rowB8 fun _ => false from by kernel_rfl] at h
    exact h
  go_enter Try.func14, Try.ntmps14
  go_upto_region 3 with fail
  clear hmk
  generalize w.alloc (.cells (rowB8 fun _ => false) 4) = W at *
  go_loopw [4] (fun x wr => ∃ i : Nat, i ≤ n ∧ x = .int .i64 i ∧ Blk wr w.heap.size 4 (rowB8 (xorF (zs.take i))) ∧ Below w.heap.size w wr) (fun x _ => n - (intOf x).toNat)
  case atStart => exact ⟨0, by omega, rfl, hB0, hb0⟩
  case round =>
    clear hB0 hb0
    obtain ⟨i, hi, rfl, hB, hbl⟩ := hrel
    by_cases hlt : i < n
    · obtain ⟨ad, rfl, hab, hcl⟩ := u8_at (hr.below hbl) hlt
      obtain ⟨z0, z1⟩ := isU8_at hz (k := i) (by rw [HL.out]; exact hlt)
      have HT := Lib.hid (take_snocI zs i (by rw [HL.out]; exact hlt))
      have HX := Lib.hid (fun k => xorF_snoc (zs.take i) (zs.getD i 0) k)
      generalize zs.getD i 0 = z at *
      generalize xorF (zs.take i) = f at *
      go_wp2_with fail
      refine (bits_any z _ z0 z1).mono ?_
      rintro e w1 ⟨v, rfl, ⟨gm, cm, rfl, hcm, _, hgm, hM⟩, hb1⟩
      have hB1 := hB.below hb1 hB.lt
      have hbl1 : Below w.heap.size w w1 := bthen hbl hb1
      have hgne : gm ≠ w.heap.size := by have := hB.lt; omega
      clear hB hbl hb1 hgm
      go_wp2
      go_loopw [6] (fun x wq => ∃ k : Nat, k ≤ 8 ∧ x = .int .i64 k ∧ Blk wq w.heap.size 4 (rowB8 (fun j => if j < k then (f j != bitH z j) else f j)) ∧ BoolRow wq gm 8 (bitH z) ∧ Below w.heap.size w wq) (fun x _ => 8 - (intOf x).toNat)
      case atStart => exact ⟨0, by omega, rfl, by simpa using hB1, hM, hbl1⟩
      case round =>
        clear hB1 hM hbl1 hcl
        obtain ⟨k, hk, rfl, hB, hM, hbl⟩ := hrel
        by_cases hk8 : k < 8
        · have cl : wr.cell? ⟨w.heap.size, k, none⟩ = some (.bool (f k)) := (hB.cell k).trans (by rw [rowB8_at _ hk8]; simp)
          have cf := hB.frozen k
          have cmm := hM.2 k hk8
          have hj0 : (0 : Int) ≤ (k : Int) := Int.natCast_nonneg _
          have hj1 : (k : Int) < 8 := by omega
          have hB2 : ∀ w2 : World, w2.heap = wr.heap → Blk (w2.setCell ⟨w.heap.size, k, none⟩ (.bool (f k != bitH z k))) w.heap.size 4 (rowB8 (fun j => if j < k + 1 then (f j != bitH z j) else f j)) := fun w2 h => by
            have hBq : Blk w2 w.heap.size 4 (rowB8 (fun j => if j < k then (f j != bitH z j) else f j)) := by unfold Blk at hB ⊢; rw [h]; exact hB
            have := hBq.set_ k (.bool (f k != bitH z k))
            rw [rowB8_set _ hk8] at this
            rw [rowB8_congr (h := fun j => if j = k then (f k != bitH z k) else if j < k then (f j != bitH z j) else f j) (fun j hj => by
              by_cases e1 : j = k
              · subst e1; simp
              · rw [if_neg e1]
                by_cases e2 : j < k
                · rw [if_pos e2, if_pos (by omega)]
                · rw [if_neg e2, if_neg (by omega)])]
            exact this
          have HB2 := Lib.hid hB2
          have hb2 : Below w.heap.size w (wr.setCell ⟨w.heap.size, k, none⟩ (.bool (f k != bitH z k))).drew := (hbl.setCell (p := ⟨w.heap.size, k, none⟩) (Nat.le_refl _) _).drew
          have hM2 : BoolRow (wr.setCell ⟨w.heap.size, k, none⟩ (.bool (f k != bitH z k))).drew gm 8 (bitH z) := ⟨by simpa [World.setCell] using hM.1, fun j hj => (World.cell?_setCell_other wr ⟨w.heap.size, k, none⟩ ⟨gm, j, none⟩ _ (fun e => hgne (by injection e with e1; exact e1.symm))).trans (hM.2 j hj)⟩
          have HR := Lib.hid (show Blk (wr.setCell ⟨w.heap.size, k, none⟩ (.bool (f k != bitH z k))).drew w.heap.size 4 (rowB8 (fun j => if j < k + 1 then (f j != bitH z j) else f j)) ∧ BoolRow (wr.setCell ⟨w.heap.size, k, none⟩ (.bool (f k != bitH z k))).drew gm 8 (bitH z) ∧ Below w.heap.size w (wr.setCell ⟨w.heap.size, k, none⟩ (.bool (f k != bitH z k))).drew from ⟨Blk.drew (HB2.out wr rfl), hM2, hb2⟩)
          clear hB2 hB hM hbl hb2 hM2 HB2
          go_wp2_with (first | go_region | fail)
          go_roundw
          case rel => exact ⟨k + 1, by omega, by go_num, HR.out⟩
          case measure => simp [intOf]; omega
        · obtain rfl : k = 8 := by omega
          go_wp2
          go_roundw
          case rel =>
            refine ⟨i + 1, by omega, by go_num, ?_, hbl⟩
            rw [HT.out, rowB8_congr (h := fun j => if j < 8 then (f j != bitH z j) else f j) (fun j hj => by rw [if_pos hj]; exact HX.out j)]
            exact hB
          case measure => simp [intOf]; omega
    · have hk2 : zs.take i = zs := by have := HL.out; rw [List.take_of_length_le (by omega)]
      rw [hk2] at hB
      have hrow : BoolRow wr w.heap.size 8 (xorF zs) := ⟨hB.lt, fun j hj => (hB.cell j).trans (rowB8_at _ hj)⟩
      have hs := sumX_in zs.length zs (Nat.le_refl _) hz
      have heq := byteS_is hs.1 hs.2 (fun j hj => xorF_sum zs.length zs (Nat.le_refl _) hz j hj)
      have hby := byte_any w.heap.size 8 (xorF zs) wr hrow
      rw [← heq] at hby
      clear hk2 hB hrow heq hs
      go_wp2_with fail
      refine hby.mono ?_
      rintro e w1 ⟨rfl, rfl⟩
      go_wp2
      go_ret
      exact ⟨rfl, hbl⟩

end Go.Proofs.Ytpfojhmaeaeecaa
