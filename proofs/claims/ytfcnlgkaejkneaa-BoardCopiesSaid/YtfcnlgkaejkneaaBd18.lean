/- Layer 11: the document's New. -/
import Derived.Test.YtfcnlgkaejkneaaBd17
namespace Go.Proofs.Ytfcnlgkaejkneaa
open Go.RowKit

/-- memory behind i bytes of the ROM; behind the ROM and i bytes of the RAM -/
def romM (rz : List Int) (i : Nat) : Nat → Int := fun k => if k < i then rz.getD k 0 else 0
def ramM (rz mz : List Int) (i : Nat) : Nat → Int := fun k => if 16384 ≤ k ∧ k < 16384 + i then mz.getD (k - 16384) 0 else romM rz 16384 k
theorem romM_step (rz : List Int) (i : Nat) : (fun k => if k = i then rz.getD i 0 else romM rz i k) = romM rz (i + 1) := by
  funext k
  unfold romM
  by_cases h : k = i
  · subst h; rw [if_pos rfl, if_pos (by omega)]
  · rw [if_neg h]
    by_cases h2 : k < i
    · rw [if_pos h2, if_pos (by omega)]
    · rw [if_neg h2, if_neg (by omega)]
theorem ramM_step (rz mz : List Int) (i : Nat) : (fun k => if k = 16384 + i then mz.getD i 0 else ramM rz mz i k) = ramM rz mz (i + 1) := by
  funext k
  unfold ramM
  by_cases h : k = 16384 + i
  · subst h; rw [if_pos rfl, if_pos (by omega), show 16384 + i - 16384 = i by omega]
  · rw [if_neg h]
    by_cases h2 : 16384 ≤ k ∧ k < 16384 + i
    · rw [if_pos h2, if_pos (by omega)]
    · rw [if_neg h2, if_neg (by omega)]
theorem ramM_new (rz mz : List Int) (hr : rz.length = 16384) : ramM rz mz mz.length = layM (layM (fun _ => 0) 0 rz) 16384 mz := by
  funext k
  unfold ramM layM romM
  by_cases h : 16384 ≤ k ∧ k < 16384 + mz.length
  · rw [if_pos h, if_pos h]
  · rw [if_neg h, if_neg h]
    by_cases h2 : k < 16384
    · rw [if_pos h2, if_pos (by omega)]; rfl
    · rw [if_neg h2, if_neg (by omega)]
theorem u8_byte {w : World} {B n : Nat} {A : Option Addr} {zs : List Int} (h : Reads w B 1 A n (zs.map (Value.int .u8))) {k : Nat} (hk : k < n) : ∃ ad, A = some ad ∧ w.cell? (ad.add k) = some (.int .u8 (zs.getD k 0)) := by
  obtain ⟨ad, u, e, _, hu, hc⟩ := h.at_ hk
  refine ⟨ad, e, ?_⟩
  rw [List.getElem?_map] at hu
  rcases he : zs[k]? with _ | z
  · rw [he] at hu; cases hu
  · rw [he] at hu
    injection hu with hu
    rw [List.getD_eq_getElem?_getD, he, hc, ← hu]
    rfl
set_option maxRecDepth 100000 in
set_option maxHeartbeats 8000000 in
theorem dNew_any (w : World) (RA MA : Option Addr) (rc mn mc : Nat) (ph : Int) (p0 : -9223372036854775808 ≤ ph) (p1 : ph ≤ 9223372036854775807) (rz mz : List Int) (hR : Reads w w.heap.size 1 RA 16384 (rz.map (Value.int .u8))) (hM : Reads w w.heap.size 1 MA mn (mz.map (Value.int .u8))) (hm : mn ≤ 49152) :
    Calls Try.prog 21 #[.slice RA 16384 rc, .slice MA mn mc, .int .i64 ph] w fun x w' => x = .returned (.pointer (some ⟨w.heap.size, 0, none⟩)) ∧ DcIs w' w.heap.size (newB (frameS ph) rz mz) (frameS ph) (.slice none 0 0) (.slice none 0 0) (.slice none 0 0) ∧ Below w.heap.size w w' := by
  have hrl : rz.length = 16384 := reads_len hR
  have hml : mz.length = mn := reads_len hM
  obtain ⟨hz, hi⟩ := zero_of_info dcZero
  have hZs : (flat dcRuns).toArray.size = 77842 := by rw [dc0_cells]; exact cellsF_size _ _
  have hZc := dc0_cells
  generalize (flat dcRuns).toArray = Z at *
  have hfr := frameR_any ph w p0 p1
  obtain ⟨F, hF⟩ : ∃ F, F = frameS ph := ⟨_, rfl⟩
  rw [← hF] at hfr ⊢
  have HB := Lib.hid (show DcIs (w.alloc (.cells (Z.setIfInBounds 65540 (.int .i64 F)) 59)) w.heap.size { bd0 with M := romM rz 0 } F (.slice none 0 0) (.slice none 0 0) (.slice none 0 0) ∧ Below w.heap.size w (w.alloc (.cells (Z.setIfInBounds 65540 (.int .i64 F)) 59)) from ⟨by
    have := Blk.new w 59 (Z.setIfInBounds 65540 (.int .i64 F))
    rw [hZc, dset_ph] at this
    rw [hZc, dset_ph]
    exact this, (Below.refl _ _).alloc (Nat.le_refl _) _⟩)
  have HH := Lib.hid (And.intro hR (And.intro hM (And.intro hrl (And.intro hml hF))))
  clear hF hR hM hrl hml hZc p0 p1
  go_enter Try.func21, Try.ntmps21
  go_wp2_with fail
  refine hfr.mono ?_
  rintro x w' ⟨rfl, rfl⟩
  clear hfr
  go_upto_region 3 with fail
  generalize w.alloc (.cells (Z.setIfInBounds 65540 (.int .i64 F)) 59) = w1 at *
  clear hz hi hZs
  go_loopw [8] (fun x wr => ∃ i : Nat, x = .int .i64 (i : Int) ∧ i ≤ 16384 ∧ DcIs wr w.heap.size { bd0 with M := romM rz i } F (.slice none 0 0) (.slice none 0 0) (.slice none 0 0) ∧ Below w.heap.size w wr) (fun x _ => 16384 - (intOf x).toNat)
  case atStart => exact ⟨0, rfl, by omega, HB.out.1, HB.out.2⟩
  case round =>
    obtain ⟨i, rfl, hi, hB, hbl⟩ := hrel
    have hi0 : (0 : Int) ≤ (i : Int) := Int.natCast_nonneg _
    by_cases hlt : i < 16384
    · have hiI : (i : Int) < 16384 := by omega
      have hi6 : (i : Int) < 65536 := by omega
      have hwi : IntKind.i64.wrap ((i : Int) + 1) = (i : Int) + 1 := by rw [IntKind.wrap_i64]; omega
      obtain ⟨ad, e, hc⟩ := u8_byte (HH.out.1.below hbl) hlt
      obtain ⟨z, hzz⟩ : ∃ z, z = rz.getD i 0 := ⟨_, rfl⟩
      rw [← hzz] at hc
      have cM : wr.cell? ⟨w.heap.size, 1 + i, none⟩ = some (.int .u8 (romM rz i i)) := hB.at_ (i := 1 + i) (by omega) (by rw [Nat.add_comm]; exact dc_M (by omega))
      have fM := hB.fz (1 + i)
      have HX := Lib.hid (show DcIs (wr.setCell ⟨w.heap.size, 1 + i, none⟩ (.int .u8 z)) w.heap.size { bd0 with M := romM rz (i + 1) } F (.slice none 0 0) (.slice none 0 0) (.slice none 0 0) ∧ Below w.heap.size w (wr.setCell ⟨w.heap.size, 1 + i, none⟩ (.int .u8 z)) from ⟨by
        have := hB.put (i := 1 + i) (v := .int .u8 z) (by rw [Nat.add_comm]; exact dset_M i (by omega) z)
        rw [hzz] at this ⊢
        rw [← romM_step]
        exact this, hbl.setCell (Nat.le_refl _) _⟩)
      clear hB hbl hzz
      subst e
      go_upto_region 5 with fail
      go_region
      go_wp2
      go_roundw
      case rel => exact ⟨i + 1, by go_num, by omega, HX.out.1, HX.out.2.drew⟩
      case measure => simp [intOf]; omega
    · obtain rfl : i = 16384 := by omega
      have hiI : ¬ ((16384 : Nat) : Int) < 16384 := by omega
      have HS := Lib.hid (show DcIs wr w.heap.size { bd0 with M := ramM rz mz 0 } F (.slice none 0 0) (.slice none 0 0) (.slice none 0 0) ∧ Below w.heap.size w wr from ⟨by
        have e : ramM rz mz 0 = romM rz 16384 := by funext k; unfold ramM; rw [if_neg (by omega)]
        rw [e]; exact hB, hbl⟩)
      clear hB hbl
      go_upto_region 7 with fail
      go_loopw [9] (fun x wr => ∃ i : Nat, x = .int .i64 (i : Int) ∧ i ≤ mn ∧ DcIs wr w.heap.size { bd0 with M := ramM rz mz i } F (.slice none 0 0) (.slice none 0 0) (.slice none 0 0) ∧ Below w.heap.size w wr) (fun x _ => mn - (intOf x).toNat)
      case atStart => exact ⟨0, rfl, by omega, HS.out.1, HS.out.2⟩
      case round =>
        obtain ⟨i, rfl, hi, hB, hbl⟩ := hrel
        have hi0 : (0 : Int) ≤ (i : Int) := Int.natCast_nonneg _
        by_cases hlt : i < mn
        · have hiI : (i : Int) < (mn : Int) := by omega
          obtain ⟨q, hq⟩ : ∃ q : Nat, q = 16384 + i := ⟨_, rfl⟩
          have hq0 : (0 : Int) ≤ (q : Int) := Int.natCast_nonneg _
          have hq6 : (q : Int) < 65536 := by omega
          have hwq : IntKind.i64.wrap (16384 + (i : Int)) = (q : Int) := by rw [IntKind.wrap_i64]; omega
          have hwi : IntKind.i64.wrap ((i : Int) + 1) = (i : Int) + 1 := by rw [IntKind.wrap_i64]; omega
          obtain ⟨ad, e, hc⟩ := u8_byte (HH.out.2.1.below hbl) hlt
          obtain ⟨z, hzz⟩ : ∃ z, z = mz.getD i 0 := ⟨_, rfl⟩
          rw [← hzz] at hc
          have cM : wr.cell? ⟨w.heap.size, 1 + q, none⟩ = some (.int .u8 (ramM rz mz i q)) := hB.at_ (i := 1 + q) (by omega) (by rw [Nat.add_comm]; exact dc_M (by omega))
          have fM := hB.fz (1 + q)
          have HX := Lib.hid (show DcIs (wr.setCell ⟨w.heap.size, 1 + q, none⟩ (.int .u8 z)) w.heap.size { bd0 with M := ramM rz mz (i + 1) } F (.slice none 0 0) (.slice none 0 0) (.slice none 0 0) ∧ Below w.heap.size w (wr.setCell ⟨w.heap.size, 1 + q, none⟩ (.int .u8 z)) from ⟨by
            have := hB.put (i := 1 + q) (v := .int .u8 z) (by rw [Nat.add_comm]; exact dset_M q (by omega) z)
            rw [hzz] at this ⊢
            rw [← ramM_step, ← hq]
            exact this, hbl.setCell (Nat.le_refl _) _⟩)
          clear hB hbl hzz hq
          subst e
          go_upto_region 9 with fail
          go_region
          go_wp2
          go_roundw
          case rel => exact ⟨i + 1, by go_num, by omega, HX.out.1, HX.out.2.drew⟩
          case measure => simp [intOf]; omega
        · obtain rfl : i = mn := by omega
          have hiI : ¬ (i : Int) < (i : Int) := by omega
          have HX := Lib.hid (show DcIs wr w.heap.size (newB F rz mz) F (.slice none 0 0) (.slice none 0 0) (.slice none 0 0) ∧ Below w.heap.size w wr from ⟨by
            unfold newB DcIs
            rw [dc_any_fr { bd0 with M := layM (layM (fun _ => 0) 0 rz) 16384 mz }, ← ramM_new rz mz HH.out.2.2.1, HH.out.2.2.2.1]
            exact hB, hbl⟩)
          clear hB hbl
          go_wp2
          go_ret
          exact ⟨rfl, HX.out.1, HX.out.2⟩
end Go.Proofs.Ytfcnlgkaejkneaa
