/- Part 10 of the proof: lemmas on what the program computes; no condition. -/
import Derived.StillTailTactics
import Derived.Deep.RegionHeld3
import Derived.Maps.OwnSet
import Derived.Maps.Views
import Derived.StringKeys
import Derived.BigQuiet
import Derived.Deep.CutRange
import Derived.BigRegion
import Derived.Deep.WholeRow
import Derived.Test.YtnlaedfnifimkaaGreatProg
import Derived.KernelRfl
import Derived.Test.YtnlaedfnifimkaaGreatJ9
import Derived.Test.YtnlaedfnifimkaaGreatJ3
import Derived.Test.YtnlaedfnifimkaaGreatJ6
import Derived.Test.YtnlaedfnifimkaaGreatJ1
import Derived.Test.YtnlaedfnifimkaaGreatJ8
set_option linter.unusedVariables false
set_option linter.unusedSimpArgs false
set_option linter.unusedSectionVars false
namespace Go.Proofs.YtnlaedfnifimkaaGreat
open Go.RowKit
namespace Ck
theorem vlNil {E : Env} {S : St} {j : Nat} {ρ : Array Value} : VL E S j ρ [] [] := ⟨rfl, fun i b v e => by simp at e⟩
theorem vlCons {E : Env} {S : St} {j : Nat} {ρ : Array Value} {b : Bt} {v : Value} {l : List Bt} {vs : List Value} (h : VB E S j ρ b v) (hl : VL E S j ρ l vs) : VL E S j ρ (b :: l) (v :: vs) :=
  ⟨by simp [hl.1], fun i b' v' e1 e2 => by
    cases i with
    | zero => simp at e1 e2; subst e1 e2; exact h
    | succ i => exact hl.2 i b' v' (by simpa using e1) (by simpa using e2)⟩
def cpuT : List Bt := [.int .u8 0 255, .int .u8 0 255, .int .u8 0 255, .int .u8 0 255, .int .u8 0 255, .int .u8 0 255, .int .u8 0 255, .int .u8 0 255, .int .u8 0 255, .int .u8 0 255, .int .u8 0 255, .int .u8 0 255, .int .u8 0 255, .int .u8 0 255, .int .u8 0 255, .int .u8 0 255, .int .u8 0 255, .int .u8 0 255, .int .u8 0 255, .int .u16 0 65535, .int .u16 0 65535, .int .u16 0 65535, .int .u16 0 65535, .int .u16 0 65535, .bool none, .bool none, .bool none, .bool none, .int .u8 0 255, .int .u8 0 255, .slice 2 (some 0) (some 0), .int .i64 0 0, .int .u8 0 255, I64, I64, .bool none, .int .u8 0 255, .int .u8 0 255, .int .u16 0 65535, .int .u8 0 255, .bool none, .bool none, I64, .bool none, I64, .int .u16 0 65535, I64, I64, I64, .bool none]
theorem cpu0_vl {E : Env} {S : St} {j s : Nat} (hs : S s = some (2, 64)) (hp : E.per 2 = 4) : VL E S j #[] cpuT (cpu0 s).toList := by
  unfold cpuT
  show VL E S j #[] _ [.int .u8 255, .int .u8 255, .int .u8 0, .int .u8 0, .int .u8 0, .int .u8 0, .int .u8 0, .int .u8 0, .int .u8 0, .int .u8 0, .int .u8 0, .int .u8 0, .int .u8 0, .int .u8 0, .int .u8 0, .int .u8 0, .int .u8 0, .int .u8 0, .int .u8 0, .int .u16 0, .int .u16 0, .int .u16 65535, .int .u16 0, .int .u16 0, .bool false, .bool false, .bool false, .bool false, .int .u8 0, .int .u8 0, .slice (some ⟨s, 0, none⟩) 0 16, .int .i64 0, .int .u8 0, .int .i64 0, .int .i64 0, .bool false, .int .u8 0, .int .u8 0, .int .u16 0, .int .u8 0, .bool false, .bool false, .int .i64 (-1), .bool false, .int .i64 0, .int .u16 0, .int .i64 0, .int .i64 0, .int .i64 0, .bool false]
  exact (vlCons ⟨255, rfl, by decide, by decide⟩ (vlCons ⟨255, rfl, by decide, by decide⟩ (vlCons ⟨0, rfl, by decide, by decide⟩ (vlCons ⟨0, rfl, by decide, by decide⟩ (vlCons ⟨0, rfl, by decide, by decide⟩ (vlCons ⟨0, rfl, by decide, by decide⟩ (vlCons ⟨0, rfl, by decide, by decide⟩ (vlCons ⟨0, rfl, by decide, by decide⟩ (vlCons ⟨0, rfl, by decide, by decide⟩ (vlCons ⟨0, rfl, by decide, by decide⟩ (vlCons ⟨0, rfl, by decide, by decide⟩ (vlCons ⟨0, rfl, by decide, by decide⟩ (vlCons ⟨0, rfl, by decide, by decide⟩ (vlCons ⟨0, rfl, by decide, by decide⟩ (vlCons ⟨0, rfl, by decide, by decide⟩ (vlCons ⟨0, rfl, by decide, by decide⟩ (vlCons ⟨0, rfl, by decide, by decide⟩ (vlCons ⟨0, rfl, by decide, by decide⟩ (vlCons ⟨0, rfl, by decide, by decide⟩ (vlCons ⟨0, rfl, by decide, by decide⟩ (vlCons ⟨0, rfl, by decide, by decide⟩ (vlCons ⟨65535, rfl, by decide, by decide⟩ (vlCons ⟨0, rfl, by decide, by decide⟩ (vlCons ⟨0, rfl, by decide, by decide⟩ (vlCons ⟨false, rfl, fun _ h => by cases h⟩ (vlCons ⟨false, rfl, fun _ h => by cases h⟩ (vlCons ⟨false, rfl, fun _ h => by cases h⟩ (vlCons ⟨false, rfl, fun _ h => by cases h⟩ (vlCons ⟨0, rfl, by decide, by decide⟩ (vlCons ⟨0, rfl, by decide, by decide⟩ (vlCons ⟨_, 0, 16, rfl, by omega, by unfold maxLen; omega, Nat.le_refl _, fun m e => (by cases e; omega), fun e => (by cases e), .inr ⟨s, 0, 64, rfl, hs, (by rw [hp]), (by rw [hp]; omega)⟩⟩ (vlCons ⟨0, rfl, by decide, by decide⟩ (vlCons ⟨0, rfl, by decide, by decide⟩ (vlCons ⟨0, rfl, by decide, by decide⟩ (vlCons ⟨0, rfl, by decide, by decide⟩ (vlCons ⟨false, rfl, fun _ h => by cases h⟩ (vlCons ⟨0, rfl, by decide, by decide⟩ (vlCons ⟨0, rfl, by decide, by decide⟩ (vlCons ⟨0, rfl, by decide, by decide⟩ (vlCons ⟨0, rfl, by decide, by decide⟩ (vlCons ⟨false, rfl, fun _ h => by cases h⟩ (vlCons ⟨false, rfl, fun _ h => by cases h⟩ (vlCons ⟨(-1), rfl, by decide, by decide⟩ (vlCons ⟨false, rfl, fun _ h => by cases h⟩ (vlCons ⟨0, rfl, by decide, by decide⟩ (vlCons ⟨0, rfl, by decide, by decide⟩ (vlCons ⟨0, rfl, by decide, by decide⟩ (vlCons ⟨0, rfl, by decide, by decide⟩ (vlCons ⟨0, rfl, by decide, by decide⟩ (vlCons ⟨false, rfl, fun _ h => by cases h⟩ vlNil))))))))))))))))))))))))))))))))))))))))))))))))))
theorem bd_fits {T : Int} {L G J j : Nat} {S : St} (hC : CfgOk Tryz.prog (mkE T L G J) cfg) {b : Bd} (hM : ∀ i, 0 ≤ b.M i ∧ b.M i ≤ 255) (hK : ∀ i, 0 ≤ b.K i ∧ b.K i ≤ 255) (hl : b.log = false) (ht : b.t = T) (hf : -9223372036854775808 ≤ b.fr ∧ b.fr ≤ 9223372036854775807) (hb : 0 ≤ b.bo ∧ b.bo ≤ 255) (hs : ∀ i, 0 ≤ b.seen i ∧ b.seen i ≤ 255) (hL : L = 0) {i : Nat} {v : Value} (hi : i < 77842) (hv : bdAt b (.slice none 0 0) (.slice none 0 0) i = v) :
    ∃ t, (mkE T L G J).cellT 1 (i % (mkE T L G J).per 1) = some t ∧ t.free = true ∧ VB (mkE T L G J) S j #[] t v := by
  have e : i % (mkE T L G J).per 1 = i := by show i % 77842 = i; omega
  rw [e]
  have hc : ∀ t, segAt [(65544, U8), (2, .bool none), (1, .bool (some false)), (1, .opq 0), (1, I64), (1, U8), (2, .bool none), (1, .slice 3 (some 0) none), (1, .slice 4 none none), (12288, U8)] i = some t → (mkE T L G J).cellT 1 i = some t := fun t h => cellT_eq hC 1 i h
  subst hv
  simp only [segAt] at hc
  by_cases h1 : i < 65544
  · refine ⟨U8, hc _ (by rw [if_pos h1]), rfl, ?_⟩
    unfold bdAt
    by_cases h2 : i < 65536
    · rw [if_pos h2]; exact ⟨_, rfl, (hM i).1, (hM i).2⟩
    · rw [if_neg h2, if_pos h1]; exact ⟨_, rfl, (hK _).1, (hK _).2⟩
  · by_cases h3 : i < 65554
    · obtain rfl | rfl | rfl | rfl | rfl | rfl | rfl | rfl | rfl | rfl : i = 65544 ∨ i = 65545 ∨ i = 65546 ∨ i = 65547 ∨ i = 65548 ∨ i = 65549 ∨ i = 65550 ∨ i = 65551 ∨ i = 65552 ∨ i = 65553 := by omega
      · exact ⟨.bool none, hc _ (by rfl), rfl, by rw [bd_slow]; exact ⟨_, rfl, fun _ h => by cases h⟩⟩
      · exact ⟨.bool none, hc _ (by rfl), rfl, by rw [bd_ear]; exact ⟨_, rfl, fun _ h => by cases h⟩⟩
      · exact ⟨.bool (some false), hc _ (by rfl), rfl, by rw [bd_log, hl]; exact ⟨_, rfl, fun _ h => by cases h; rfl⟩⟩
      · exact ⟨.opq 0, hc _ (by rfl), rfl, by rw [Proofs.YtnlaedfnifimkaaGreat.bd_t, ht]; rfl⟩
      · exact ⟨I64, hc _ (by rfl), rfl, by rw [bd_fr]; exact ⟨_, rfl, hf.1, hf.2⟩⟩
      · exact ⟨U8, hc _ (by rfl), rfl, by rw [bd_bo]; exact ⟨_, rfl, hb.1, hb.2⟩⟩
      · exact ⟨.bool none, hc _ (by rfl), rfl, by rw [bd_mic]; exact ⟨_, rfl, fun _ h => by cases h⟩⟩
      · exact ⟨.bool none, hc _ (by rfl), rfl, by rw [bd_spk]; exact ⟨_, rfl, fun _ h => by cases h⟩⟩
      · exact ⟨.slice 3 (some 0) none, hc _ (by rfl), rfl, by rw [bd_A]; exact ⟨none, 0, 0, rfl, Nat.le_refl _, by unfold maxLen; omega, Nat.le_refl _, fun m e => (by cases e), fun _ => Nat.zero_le _, .inl ⟨rfl, rfl⟩⟩⟩
      · exact ⟨.slice 4 none none, hc _ (by rfl), rfl, by rw [bd_E]; exact ⟨none, 0, 0, rfl, Nat.le_refl _, by unfold maxLen; omega, by subst hL; exact Nat.le_refl _, fun m e => (by cases e), fun _ => Nat.zero_le _, .inl ⟨rfl, rfl⟩⟩⟩
    · obtain ⟨m, rfl⟩ : ∃ m, i = 65554 + m := ⟨i - 65554, by omega⟩
      refine ⟨U8, hc _ ?_, rfl, by rw [bd_S]; exact ⟨_, rfl, (hs m).1, (hs m).2⟩⟩
      rw [if_neg (by omega), if_neg (by omega), if_neg (by omega), if_neg (by omega), if_neg (by omega), if_neg (by omega), if_neg (by omega), if_neg (by omega), if_neg (by omega), if_pos (by omega)]
theorem step0_fits {T : Int} {L G J j : Nat} {S : St} (hC : CfgOk Tryz.prog (mkE T L G J) cfg) {i : Nat} {v : Value} (hv : step0[i]? = some v) :
    ∃ t, (mkE T L G J).cellT 2 (i % (mkE T L G J).per 2) = some t ∧ t.free = true ∧ VB (mkE T L G J) S j #[] t v := by
  have hz : constsT step0.toList = some (List.replicate 64 (.int .i64 0 0)) := by kernel_rfl
  have hf : fitS cfg 2 0 (List.replicate 64 (.int .i64 0 0)) = true := by kernel_rfl
  have h := fitS_ok (E := mkE T L G J) (S := S) (j := j) (ρ := #[]) hC hf (constsT_ok hz) i v (by simpa using hv)
  rwa [Nat.zero_add] at h
theorem cpu0_fits {T : Int} {L G J j s : Nat} {S : St} (hC : CfgOk Tryz.prog (mkE T L G J) cfg) (hs : S s = some (2, 64)) {i : Nat} {v : Value} (hv : (cpu0 s)[i]? = some v) :
    ∃ t, (mkE T L G J).cellT 0 (i % (mkE T L G J).per 0) = some t ∧ t.free = true ∧ VB (mkE T L G J) S j #[] t v := by
  have hf : fitS cfg 0 0 cpuT = true := by kernel_rfl
  have h := fitS_ok (E := mkE T L G J) (S := S) (j := j) (ρ := #[]) hC hf (cpu0_vl hs rfl) i v (by simpa using hv)
  rwa [Nat.zero_add] at h
theorem ms_start {G J c g s : Nat} {φ : Nat → Prop} {w : World} {b : Bd} (hG : 1000 ≤ G) (hJ : G + J ≤ 1000000000) (hc : Blk w c 115 (cpu0 s)) (hs : Blk w s 230 step0) (hg : BdIs w g b (.slice none 0 0) (.slice none 0 0)) (hcs : c ≠ s) (hcg : c ≠ g) (hsg : s ≠ g)
    (hM : ∀ i, 0 ≤ b.M i ∧ b.M i ≤ 255) (hK : ∀ i, 0 ≤ b.K i ∧ b.K i ≤ 255) (hl : b.log = false) (ht : b.t = 0) (hf : -9223372036854775808 ≤ b.fr ∧ b.fr ≤ 9223372036854775807) (hb : 0 ≤ b.bo ∧ b.bo ≤ 255) (hse : ∀ i, 0 ≤ b.seen i ∧ b.seen i ≤ 255)
    (hφ : ∀ q, φ q → q ≠ c ∧ q ≠ s ∧ q ≠ g ∧ q < w.heap.size) : MS 0 0 G J 0 c g φ w := by
  have hC := cfg_ok (T := 0) (L := 0) (by omega) hG hJ
  let S : St := fun q => if q = c then some (0, 50) else if q = g then some (1, 77842) else if q = s then some (2, 64) else none
  have hSc : S c = some (0, 50) := if_pos rfl
  have hSg : S g = some (1, 77842) := by show (if g = c then _ else if g = g then _ else _) = _; rw [if_neg (fun e => hcg e.symm), if_pos rfl]
  have hSs : S s = some (2, 64) := by show (if s = c then _ else if s = g then _ else if s = s then _ else _) = _; rw [if_neg (fun e => hcs e.symm), if_neg hsg, if_pos rfl]
  refine ⟨S, 0, Nat.le_refl _, fun q k n hq => ?_, hSc, hSg, fun q hq => ?_⟩
  · by_cases e1 : q = c
    · subst e1
      rw [hSc] at hq
      cases hq
      exact ⟨by show 0 < 50; omega, by show 50 % 50 = 0; omega, _, hc, rfl, fun i v hv => cpu0_fits hC hSs hv⟩
    · by_cases e2 : q = g
      · subst e2
        rw [hSg] at hq
        cases hq
        refine ⟨by show 0 < 77842; omega, by show 77842 % 77842 = 0; omega, _, hg, cellsF_size _ _, fun i v hv => ?_⟩
        obtain ⟨hlt, _⟩ := Array.getElem?_eq_some_iff.1 hv
        have hlt : i < 77842 := by rw [bdC, cellsF_size] at hlt; exact hlt
        rw [bdC, cellsF_at _ hlt] at hv
        exact bd_fits hC hM hK hl ht hf hb hse rfl hlt (by injection hv)
      · by_cases e3 : q = s
        · subst e3
          rw [hSs] at hq
          cases hq
          exact ⟨by show 0 < 4; omega, by show 64 % 4 = 0; omega, _, hs, rfl, fun i v hv => step0_fits hC hv⟩
        · have : S q = none := by show (if q = c then _ else if q = g then _ else if q = s then _ else _) = _; rw [if_neg e1, if_neg e2, if_neg e3]
          rw [this] at hq; cases hq
  · obtain ⟨h1, h2, h3, h4⟩ := hφ q hq
    exact ⟨by show (if q = c then _ else if q = g then _ else if q = s then _ else _) = _; rw [if_neg h1, if_neg h3, if_neg h2], h4⟩
set_option maxRecDepth 100000 in
set_option maxHeartbeats 4000000 in
theorem machNew_any {G J : Nat} (w : World) (RA MA : Option Addr) (rc mn mc : Nat) (ph : Int) (p0 : -9223372036854775808 ≤ ph) (p1 : ph ≤ 9223372036854775807) (rz mz : List Int) (hR : Reads w w.heap.size 1 RA 16384 (rz.map (Value.int .u8))) (hM : Reads w w.heap.size 1 MA mn (mz.map (Value.int .u8))) (hr8 : isU8 rz) (hm8 : isU8 mz) (hm : mn ≤ 49152) (hG : 1000 ≤ G) (hJ : G + J ≤ 1000000000) :
    Calls Tryz.prog 8 #[.slice RA 16384 rc, .slice MA mn mc, .int .i64 ph] w fun x w' => ∃ m c g, x = .returned (.tuple #[.pointer (some ⟨m, 0, none⟩), .int .i64 0]) ∧ w.heap.size ≤ m ∧ MS 0 0 G J 0 c g (fun b => b < w.heap.size ∨ b = m) w' ∧
      Blk w' m 92 #[.pointer (some ⟨c, 0, none⟩), .pointer (some ⟨g, 0, none⟩), .pointer none, .slice none 0 0, .bool false, .int .u64 0, .int .i64 0, .bool false] ∧ w'.cell? ⟨c, 42, none⟩ = some (.int .i64 (-1)) ∧ Below w.heap.size w w' := by
  have hbn := bNew_any w RA MA rc mn mc ph p0 p1 rz mz hR hM hm
  clear hR hM
  go_enter Tryz.func8, Tryz.ntmps8
  go_wp2_with fail
  refine hbn.mono ?_
  rintro x w1 ⟨g, rfl, hg, hB, hb⟩
  clear hbn
  have fs : w1.frozen? ⟨g, 65544, none⟩ = false := hB.fz 65544
  have cs : w1.cell? ⟨g, 65544, none⟩ = some (.bool false) := hB.at_ (by decide) bd_slow
  have H1 := Lib.hid (show BdIs (w1.setCell ⟨g, 65544, none⟩ (.bool true)) g { newB (frameS ph) rz mz with slow := true } (.slice none 0 0) (.slice none 0 0) ∧ Below w.heap.size w (w1.setCell ⟨g, 65544, none⟩ (.bool true)) from ⟨hB.put (set_slow true), hb.setCell (by exact hg) _⟩)
  clear hB hb
  go_upto_region 5 with fail
  generalize w1.setCell ⟨g, 65544, none⟩ (.bool true) = W at *
  clear fs cs
  go_wp2_with fail
  refine (begin_any _).mono ?_
  rintro x w2 ⟨rfl, hb2⟩
  go_wp2_with fail
  refine (cpuNew_any _).mono ?_
  rintro x w3 ⟨c, s, rfl, c0, s0, sz, hcs, hC, hS, hb3⟩
  have hgW : g < W.heap.size := Blk.lt H1.out.1
  have hsz := H1.out.2.size
  have hsz2 := hb2.size
  have hsz3 := hb3.size
  have hB3 : BdIs w3 g { newB (frameS ph) rz mz with slow := true } (.slice none 0 0) (.slice none 0 0) := Blk.below (Blk.below H1.out.1 hb2 hgW) hb3 (by omega)
  have hlow : Below w.heap.size w w3 := (H1.out.2.trans (hb2.mono hsz)).trans (hb3.mono (by omega))
  have HX := Lib.hid (And.intro hB3 (And.intro hC (And.intro hS (And.intro hlow (And.intro hcs (And.intro (show c < w3.heap.size from Blk.lt hC) sz))))))
  have HY := Lib.hid (show c ≠ g ∧ s ≠ g ∧ w.heap.size ≤ c ∧ w.heap.size ≤ s ∧ g < w3.heap.size ∧ w.heap.size ≤ w3.heap.size from ⟨by omega, by omega, by omega, by omega, by omega, by omega⟩)
  clear hB3 hC hS hlow hcs sz H1 hb2 hb3 hgW hsz hsz2 hsz3 c0 s0
  go_wp2
  go_ret2
  have hn := Blk.new w3 92 #[.pointer (some ⟨c, 0, none⟩), .pointer (some ⟨g, 0, none⟩), .pointer none, .slice none 0 0, .bool false, .int .u64 0, .int .i64 0, .bool false]
  have hC4 := HX.out.2.1.alloc (.cells #[.pointer (some ⟨c, 0, none⟩), .pointer (some ⟨g, 0, none⟩), .pointer none, .slice none 0 0, .bool false, .int .u64 0, .int .i64 0, .bool false] 92)
  have hS4 := HX.out.2.2.1.alloc (.cells #[.pointer (some ⟨c, 0, none⟩), .pointer (some ⟨g, 0, none⟩), .pointer none, .slice none 0 0, .bool false, .int .u64 0, .int .i64 0, .bool false] 92)
  have hB4 := Blk.alloc HX.out.1 (.cells #[.pointer (some ⟨c, 0, none⟩), .pointer (some ⟨g, 0, none⟩), .pointer none, .slice none 0 0, .bool false, .int .u64 0, .int .i64 0, .bool false] 92)
  have hlt : w3.heap.size < (w3.alloc (.cells #[.pointer (some ⟨c, 0, none⟩), .pointer (some ⟨g, 0, none⟩), .pointer none, .slice none 0 0, .bool false, .int .u64 0, .int .i64 0, .bool false] 92)).heap.size := by simp
  refine ⟨w3.heap.size, c, g, rfl, HY.out.2.2.2.2.2, ?_, hn, (hC4.cell 42).trans rfl, HX.out.2.2.2.1.alloc (by exact HY.out.2.2.2.2.2) _⟩
  obtain ⟨y1, y2, y3, y4, y5, y6⟩ := HY.out
  obtain ⟨x1, x2, x3, x4, x5, x6, x7⟩ := HX.out
  refine ms_start hG hJ hC4 hS4 hB4 x5 y1 y2 (fun i => ?_) (fun i => ⟨Int.le_refl _, show (0 : Int) ≤ 255 by decide⟩) rfl rfl ⟨?_, ?_⟩ ⟨Int.le_refl _, show (0 : Int) ≤ 255 by decide⟩ (fun i => ⟨Int.le_refl _, show (0 : Int) ≤ 255 by decide⟩) (fun q hq => ?_)
  · show 0 ≤ layM (layM (fun _ => 0) 0 rz) 16384 mz i ∧ layM (layM (fun _ => 0) 0 rz) 16384 mz i ≤ 255
    have hb : ∀ (f : Nat → Int) (off : Nat) (zs : List Int), isU8 zs → (∀ i, 0 ≤ f i ∧ f i ≤ 255) → ∀ i, 0 ≤ layM f off zs i ∧ layM f off zs i ≤ 255 := fun f off zs hz hf i => by
      unfold layM
      split
      · rename_i hi
        exact isU8_at hz (by omega)
      · exact hf i
    exact hb _ _ _ hm8 (hb _ _ _ hr8 fun _ => ⟨Int.le_refl _, by decide⟩) i
  · show -9223372036854775808 ≤ frameS ph
    have := frameS_bd ph; omega
  · show frameS ph ≤ 9223372036854775807
    have := frameS_bd ph; omega
  · rcases hq with hq | hq <;> refine ⟨?_, ?_, ?_, ?_⟩ <;> omega
end Ck
end Go.Proofs.YtnlaedfnifimkaaGreat
namespace Go.Proofs.YtnlaedfnifimkaaGreat
open Go.RowKit
namespace Ck
section
variable {P : Program}
theorem run_load_at {o : Oper} {a : Act} {w : World} (ty : TypeId) (x : Operand) (ho : o.op = .load ty x) (ad : Addr) (hx : a.eval x = .pointer (some ad)) (cs : List Value) (hc : ∀ j v, cs[j]? = some v → w.cell? (ad.add j) = some v) (d : TypeDesc)
    (hu : P.underlying ty = some d) (hd : (match d with | .struct _ | .array _ _ => true | _ => false) = true) (hi : (P.info? ty).map (·.size) = some cs.length) :
    (execOp a.eval o).run P w = .ok (.value (.agg cs.toArray)) w := by
  have hl : (loadCells ad cs.length).run P w = .ok cs.toArray w := run_loadCells_list (P := P) w ad cs hc
  have hv : (loadVar ty ad).run P w = .ok (.agg cs.toArray) w := by
    cases hq : P.info? ty with
    | none => simp [hq] at hi
    | some i =>
      have hs : i.size = cs.length := by simpa [hq] using hi
      have hagg : (isAgg ty).run P w = .ok true w := by
        unfold isAgg
        rw [Sem.run_bind, run_underlying hu w]
        cases d <;> simp_all
      simp [loadVar, Sem.run_bind, hagg, sizeOf, typeInfo, hq, hs, hl]
  unfold execOp
  simp only [ho, hx, Instr.loadAt, Instr.sureAddr, Sem.run_bind, Sem.run_pure, Result.andThen_ok, hv]
theorem still_load_at {ops : Array Oper} {w : World} {Q : Act → Prop} {a : Act} {o : Oper} {rest : List Oper} (hgd : o.guard = none) (ty : TypeId) (x : Operand) (ho : o.op = .load ty x) (ad : Addr) (hx : a.eval x = .pointer (some ad)) (cs : List Value) (hc : ∀ j v, cs[j]? = some v → w.cell? (ad.add j) = some v) (d : TypeDesc)
    (hu : P.underlying ty = some d) (hd : (match d with | .struct _ | .array _ _ => true | _ => false) = true) (hi : (P.info? ty).map (·.size) = some cs.length) (h : wpStill P ops w Q rest (a.put o.dst (.agg cs.toArray))) : wpStill P ops w Q (o :: rest) a :=
  wpStill_step fun K hK => by
    rw [if_pos (by simp [Region.wanted, hgd])]
    unfold Oper.still
    rw [run_load_at ty x ho ad hx cs hc d hu hd hi, Oper.stillUpon_value]
    exact hK _ h
theorem wpList_load_at {ops : Array Oper} {rest : List Oper} {o : Oper} {a : Act} {w : World} {Q : Exit → Act → World → Prop} (hgd : o.guard = none) (ty : TypeId) (x : Operand) (ho : o.op = .load ty x) (ad : Addr) (hx : a.eval x = .pointer (some ad)) (cs : List Value) (hc : ∀ j v, cs[j]? = some v → w.cell? (ad.add j) = some v) (d : TypeDesc)
    (hu : P.underlying ty = some d) (hd : (match d with | .struct _ | .array _ _ => true | _ => false) = true) (hi : (P.info? ty).map (·.size) = some cs.length) (h : wpList P ops Q rest (a.put o.dst (.agg cs.toArray)) w) : wpList P ops Q (o :: rest) a w :=
  wpList_plain hgd fun _ hK => by
    unfold Oper.wp
    rw [run_load_at ty x ho ad hx cs hc d hu hd hi]
    exact hK _ _ h
theorem wpList_store_inv {E : Env} {C : Cfg} {S : St} {j : Nat} {w : World} {ops : Array Oper} {rest : List Oper} {o : Oper} {a : Act} {Q : Exit → Act → World → Prop} (hgd : o.guard = none) (ty : TypeId) (x y : Operand) (ho : o.op = .store ty x y)
    (hC : CfgOk P E C) (hI : Inv E S j w) {tx tz : Ty} {tc : List (Kd × Nat)} (ht : storeT C ty tx tz = some tc) {v u : Value} (hx : a.eval x = v) (hy : a.eval y = u) (h1 : VT E S j #[] tx v) (h2 : VT E S j #[] tz u)
    (h : ∀ w', Inv E S j w' → Stp E S S w w' tc → wpList P ops Q rest (a.put o.dst undef) w') : wpList P ops Q (o :: rest) a w := by
  obtain ⟨w', k1, k2, k3⟩ := storeT_ok (P := P) (ρ := #[]) hC hI ht h1 h2
  exact wpList_plain hgd fun _ hK => by
    unfold Oper.wp
    rw [show (execOp a.eval o).run P w = .ok .skip w' by simp [execOp, ho, hx, hy, k1]]
    exact hK _ _ (h w' k2 k3)
end
def regsT : List Bt := [.int .u8 0 255, .int .u8 0 255, .int .u8 0 255, .int .u8 0 255, .int .u8 0 255, .int .u8 0 255, .int .u8 0 255, .int .u8 0 255, .int .u8 0 255, .int .u8 0 255, .int .u8 0 255, .int .u8 0 255, .int .u8 0 255, .int .u8 0 255, .int .u8 0 255, .int .u8 0 255, .int .u8 0 255, .int .u8 0 255, .int .u8 0 255, .int .u16 0 65535, .int .u16 0 65535, .int .u16 0 65535, .int .u16 0 65535, .int .u16 0 65535, .bool none, .bool none, .bool none, .bool none, .int .u8 0 255, .int .u8 0 255]
theorem regs_store : storeT cfg 56 (.one (.ptr 0 0 0 false)) (.agg regsT) = some [(0, 30)] := by kernel_rfl
def RegsOk (cs : List Value) : Prop := ∀ E S j, VL E S j #[] regsT cs
theorem regsInfo : (Tryz.prog.info? 56).map (·.size) = some 30 := by kernel_rfl
theorem done_yes (w : World) (c : Nat) (hk : w.cell? ⟨c, 42, none⟩ = some (.int .i64 (-1))) : Calls Tryz.prog 37 #[.pointer (some ⟨c, 0, none⟩)] w fun x w' => x = .returned (.bool true) ∧ w = w' := by
  go_enter Tryz.func37, Tryz.ntmps37
  go_wp2
  go_ret
  exact ⟨rfl, rfl⟩
set_option maxRecDepth 100000 in
set_option maxHeartbeats 4000000 in
theorem setRegs_any {T : Int} {L G J jb c g m : Nat} {φ : Nat → Prop} {w : World} {x2 x3 x4 x5 x6 x7 : Value} (cs : List Value) (pre im : Int) (hM : MS T L G J jb c g φ w) (h0 : 0 ≤ T) (hG : 1000 ≤ G) (hJ : G + J ≤ 1000000000) (hm : φ m)
    (hB : Blk w m 92 #[.pointer (some ⟨c, 0, none⟩), .pointer (some ⟨g, 0, none⟩), x2, x3, x4, x5, x6, x7]) (hk : w.cell? ⟨c, 42, none⟩ = some (.int .i64 (-1))) (hcs : RegsOk cs) (h29 : cs[29]? = some (.int .u8 pre)) (h28 : cs[28]? = some (.int .u8 im)) (hp : pre ≤ 2) (hi : im ≤ 2) :
    Calls Tryz.prog 17 #[.pointer (some ⟨m, 0, none⟩), .agg cs.toArray] w fun x w' => x = .returned (.int .i64 0) ∧ MS T L G J jb c g φ w' ∧ Fr φ w w' := by
  have hlen : cs.length = 30 := (hcs (mkE 0 0 0 0) (fun _ => none) 0).1
  have hb := (Below.refl w.heap.size w).alloc (Nat.le_refl _) (.cells cs.toArray 56)
  have hR := Blk.new w 56 cs.toArray
  obtain ⟨nc, ng, nm⟩ := hM.not hm
  have hcl := hM.lt.1
  have H0 := Lib.hid (show MS T L G J jb c g φ (w.alloc (.cells cs.toArray 56)) ∧ Fr φ w (w.alloc (.cells cs.toArray 56)) from ⟨hM.below hb, Fr.of_below hb fun b hb => (hM.not hb).2.2⟩)
  have hd := fun (W : World) (h : W.cell? ⟨c, 42, none⟩ = some (.int .i64 (-1))) => done_yes W c h
  have k0 : (w.alloc (.cells cs.toArray 56)).cell? ⟨m, 0, none⟩ = some (.pointer (some ⟨c, 0, none⟩)) := ((hB.alloc _).cell 0).trans rfl
  have kk : (w.alloc (.cells cs.toArray 56)).cell? ⟨c, 42, none⟩ = some (.int .i64 (-1)) := (World.cell?_alloc_lt w _ ⟨c, 42, none⟩ hcl).trans hk
  have r29 : (w.alloc (.cells cs.toArray 56)).cell? ⟨w.heap.size, 29, none⟩ = some (.int .u8 pre) := (hR.cell 29).trans (by simpa using h29)
  have r28 : (w.alloc (.cells cs.toArray 56)).cell? ⟨w.heap.size, 28, none⟩ = some (.int .u8 im) := (hR.cell 28).trans (by simpa using h28)
  have hp' : ¬ 2 < pre := by omega
  have hi' : ¬ 2 < im := by omega
  have HD := Lib.hid hd
  have HR := Lib.hid (And.intro hR hlen)
  clear hM hB hb hR hk hd h28 h29 hp hi
  go_enter Tryz.func17, Tryz.ntmps17
  go_upto_region 3 with fail
  generalize w.alloc (.cells cs.toArray 56) = W at *
  go_wp2_with fail
  refine (HD.out _ kk).mono ?_
  rintro x w' ⟨rfl, rfl⟩
  go_upto_region 7 with fail
  have hl2 := HR.out.1
  refine wp_region_still_tail 7 (by kernel_rfl) (by kernel_rfl) ?_
  simp only [List.take_succ_cons, List.take_zero, List.drop_succ_cons, List.drop_zero]
  repeat still_step
  refine still_load_at rfl 56 _ rfl ⟨w.heap.size, 0, none⟩ rfl cs (fun j v hv => by rw [add_mk, Nat.zero_add]; exact (hl2.cell j).trans (by simpa using hv)) _ Tryz.underlying56 rfl (by rw [HR.out.2]; exact regsInfo) ?_
  repeat still_step
  refine wpStill_nil ?_
  obtain ⟨S, j, q1, q2, q3, q4, q5⟩ := H0.out.1.ex
  have hC := cfg_ok (L := L) h0 hG hJ
  refine wpList_store_inv (tx := .one (.ptr 0 0 0 false)) (tz := .agg regsT) rfl 56 _ _ rfl hC (w := W.drew) (S := S) (j := j) q2 regs_store rfl rfl (vc q3 (by decide) rfl) ⟨_, rfl, by simpa using hcs _ _ _⟩ ?_
  intro w' hI' hS'
  have HX := Lib.hid (show MS T L G J jb c g φ w' ∧ Fr φ w w' from ⟨⟨S, j, q1, hI', q3, q4, hS'.none q5⟩, H0.out.2.drew.trans (Fr.of_stp hS' q5)⟩)
  clear k0 kk r29 r28 hl2 HR HD H0 q2 hI' hS' q5
  go_wp2
  go_ret
  exact ⟨rfl, HX.out⟩
theorem slow_any {T : Int} {L G J jb c g m : Nat} {φ : Nat → Prop} {w : World} {x2 x3 x4 x5 x6 x7 : Value} (b : Bool) (hM : MS T L G J jb c g φ w) (h0 : 0 ≤ T) (hG : 1000 ≤ G) (hJ : G + J ≤ 1000000000) (hm : φ m)
    (hB : Blk w m 92 #[.pointer (some ⟨c, 0, none⟩), .pointer (some ⟨g, 0, none⟩), x2, x3, x4, x5, x6, x7]) :
    Calls Tryz.prog 10 #[.pointer (some ⟨m, 0, none⟩), .bool b] w fun x w' => (∃ u, x = .returned u) ∧ MS T L G J jb c g φ w' ∧ Fr φ w w' := by
  have k1 : w.cell? ⟨m, 1, none⟩ = some (.pointer (some ⟨g, 0, none⟩)) := (hB.cell 1).trans rfl
  obtain ⟨S, j, q1, q2, q3, q4, q5⟩ := hM.ex
  have hC := cfg_ok (L := L) h0 hG hJ
  obtain ⟨y, hy⟩ := bd_bool hC q2 q4 65544 (q := none) (by decide) (by rfl)
  have hf : w.frozen? ⟨g, 65544, none⟩ = false := q2.fz q4
  have hI' := bd_put hC q2 q4 65544 (t := .bool none) (u := .bool b) (by decide) (by rfl) rfl ⟨b, rfl, fun _ h => by cases h⟩
  have hne := (hM.not hm).2.1
  have HX := Lib.hid (show MS T L G J jb c g φ (w.setCell ⟨g, 65544, none⟩ (.bool b)) ∧ Fr φ w (w.setCell ⟨g, 65544, none⟩ (.bool b)) from ⟨⟨S, j, q1, hI', q3, q4, fun q hq => ⟨(q5 q hq).1, by simpa [World.setCell] using (q5 q hq).2⟩⟩, Fr.of_grown (gr_cell _ _ _ _) fun q hq => ⟨(q5 q hq).2, (hM.not hq).2.1⟩⟩)
  clear hM hB q2 hI'
  go_enter Tryz.func10, Tryz.ntmps10
  go_wp2
  first | go_end0 | ((try simp only [Exit.inBlock, Exit.then]); refine bodyPost_ret (v := .tuple #[]) (results_none rfl _ _ _) rfl ?_)
  exact ⟨⟨_, rfl⟩, HX.out⟩
end Ck
end Go.Proofs.YtnlaedfnifimkaaGreat
namespace Go.Proofs.YtnlaedfnifimkaaGreat
open Go.RowKit
namespace Tl
open Ck
def RecO (w w' : World) (x : Ending) (f : Int) (b : Bool) (zs : List Int) : Prop :=
  Below w.heap.size w w' ∧ ((gapsF f zs = none ∧ x = .returned (.tuple #[.bool false, .slice none 0 0, .int .i64 5])) ∨
    ∃ gs V cV, gapsF f zs = some gs ∧ x = .returned (.tuple #[.bool b, .slice V gs.length cV, .int .i64 0]) ∧ w'.ownsRow w.heap.size 50 1 (.slice V gs.length cV) gs.length (gs.map (Value.int .u32)))
def GapsP (w w' : World) (f : Int) (zs : List Int) (V : Option Addr) (n cV : Nat) (k : Int) : Prop :=
  (gapsF f zs = none ∧ V = none ∧ n = 0 ∧ cV = 0 ∧ k = 5) ∨ ∃ gs, gapsF f zs = some gs ∧ n = gs.length ∧ k = 0 ∧ w'.ownsRow w.heap.size 50 1 (.slice V n cV) gs.length (gs.map (Value.int .u32))
theorem gaps_one {w w' : World} {e : Ending} {f : Int} {zs : List Int} (h : GapsO w w' e f zs) : ∃ V n cV k, e = .returned (.tuple #[.slice V n cV, .int .i64 k]) ∧ Below w.heap.size w w' ∧ Hid (GapsP w w' f zs V n cV k) := by
  obtain ⟨hb, ⟨h1, h2⟩ | ⟨gs, V, cV, h1, h2, h3⟩⟩ := h
  · exact ⟨none, 0, 0, 5, h2, hb, Lib.hid (.inl ⟨h1, rfl, rfl, rfl, rfl⟩)⟩
  · exact ⟨V, gs.length, cV, 0, h2, hb, Lib.hid (.inr ⟨gs, h1, rfl, rfl, h3⟩)⟩
theorem recS_keep {w w1 w2 : World} {m g : Nat} {f : Int} {L : Nat} (hm : m < w.heap.size) (h : Below w.heap.size w w1 ∧ w1.cell? ⟨m, 1, none⟩ = some (.pointer (some ⟨g, 0, none⟩)) ∧ w1.cell? ⟨m, 5, none⟩ = some (.int .u64 f) ∧ w1.cell? ⟨m, 6, none⟩ = some (.int .i64 L)) (k : Below w1.heap.size w1 w2) :
    Below w.heap.size w w2 ∧ w2.cell? ⟨m, 1, none⟩ = some (.pointer (some ⟨g, 0, none⟩)) ∧ w2.cell? ⟨m, 5, none⟩ = some (.int .u64 f) ∧ w2.cell? ⟨m, 6, none⟩ = some (.int .i64 L) := by
  have hs := h.1.size
  exact ⟨bthen h.1 k, (k.cell (p := ⟨m, 1, none⟩) (by show m < _; omega)).trans h.2.1, (k.cell (p := ⟨m, 5, none⟩) (by show m < _; omega)).trans h.2.2.1, (k.cell (p := ⟨m, 6, none⟩) (by show m < _; omega)).trans h.2.2.2⟩
theorem reads_drop {w : World} {B n c k : Nat} {A : Option Addr} {kd : IntKind} {zs : List Int} (h : Reads w B 1 A n (zs.map (Value.int kd))) (hk : k ≤ n) (hc : n ≤ c) : Reads w B 1 (if c = k then A else A.map (·.add k)) (n - k) ((zs.drop k).map (Value.int kd)) := by
  have := h.cut hk hc
  rw [Nat.mul_one, ← List.map_drop] at this
  exact this
set_option maxRecDepth 100000 in
set_option maxHeartbeats 8000000 in
theorem recorded_any {g L M m len cap : Nat} {T f : Int} {A : Option Addr} {zs : List Int} {w : World} {x0 x2 x3 : Value} {b : Bool} (hE : EdgeAt g L M T A len cap zs w) (hg : g < w.heap.size)
    (hB : Blk w m 92 #[x0, .pointer (some ⟨g, 0, none⟩), x2, x3, .bool true, .int .u64 f, .int .i64 L, .bool b]) (f0 : 0 ≤ f) (f1 : f ≤ 1000000000) (hT : T ≤ 1000000000) (hM : M ≤ 1000000000) :
    Calls Tryz.prog 20 #[.pointer (some ⟨m, 0, none⟩)] w fun x w' => RecO w w' x f b (zs.drop L) := by
  have c1 : w.cell? ⟨m, 1, none⟩ = some (.pointer (some ⟨g, 0, none⟩)) := (hB.cell 1).trans rfl
  have c4 : w.cell? ⟨m, 4, none⟩ = some (.bool true) := (hB.cell 4).trans rfl
  have c5 : w.cell? ⟨m, 5, none⟩ = some (.int .u64 f) := (hB.cell 5).trans rfl
  have c6 : w.cell? ⟨m, 6, none⟩ = some (.int .i64 L) := (hB.cell 6).trans rfl
  have c7 : w.cell? ⟨m, 7, none⟩ = some (.bool b) := (hB.cell 7).trans rfl
  have hm := hB.lt
  have l1 : (0 : Int) ≤ (L : Int) := Int.natCast_nonneg _
  have l2 := hE.low
  have l3 := hE.le
  have l4 := hE.high
  have lI : (L : Int) ≤ (len : Int) := by omega
  have lC : (L : Int) ≤ (cap : Int) := by omega
  have HB := Lib.hid hB
  have HED := Lib.hid (show ∀ wq : World, Below w.heap.size w wq → Calls Tryz.prog 43 #[.pointer (some ⟨g, 0, none⟩)] wq fun x w' => ∃ V cV, x = .returned (.slice V len cV) ∧ w'.ownsRow wq.heap.size 82 1 (.slice V len cV) len (zs.map (Value.int .u64)) ∧ Below wq.heap.size wq w' from
    fun wq hb => ms_edges (T := T) (L := L) (M := M) (cap := cap) (A := A) ⟨(hb.cell (p := ⟨g, 65553, none⟩) hg).trans hE.cell, hE.le, hE.low, hE.high, hE.count, (hE.rd.below hb).more hb.size, hE.bd⟩ hM)
  have HZ := Lib.hid (show ∀ z ∈ zs.drop L, 0 ≤ z ∧ z ≤ 1000000000 from fun z hz => by have := hE.bd z (List.mem_of_mem_drop hz); omega)
  clear hE hB
  go_enter Tryz.func20, Tryz.ntmps20
  go_wp2_with fail
  go_region_held3 (fun w' => Below w.heap.size w w' ∧ w'.cell? ⟨m, 1, none⟩ = some (.pointer (some ⟨g, 0, none⟩)) ∧ w'.cell? ⟨m, 5, none⟩ = some (.int .u64 f) ∧ w'.cell? ⟨m, 6, none⟩ = some (.int .i64 L))
    (first | exact ⟨(Below.refl _ _).drew, c1, c5, c6⟩ | exact recS_keep hm (by assumption) hbB | assumption | (trace_state; fail))
    (first
      | (go_at_call 43; refine (HED.out _ (And.left (by assumption))).mono ?_; rintro e wB ⟨V, cV, rfl, hown, hbB⟩; have hcV := capOf hown; have HSZ := Lib.hid (show w.heap.size ≤ wB.heap.size from hbB.size); have hcL : (L : Int) ≤ (cV : Int) := by omega)
      | (go_at_call 45; have hrd := reads_drop (Reads.of_own hown) l2 hcV; generalize (if cV = L then V else Option.map (fun x => x.add L) V) = A9 at *; refine ((gaps_any _ _ _ _ f (zs.drop L) hrd f0 f1 HZ.out (by omega)).mono fun _ _ h => gaps_one h).mono ?_; clear hbB; rintro e wC ⟨VG, nG, cG, kG, rfl, hbB, hGP⟩))
  rename_i hS
  have c7c : wC.cell? ⟨m, 7, none⟩ = some (.bool b) := (hS.1.cell (p := ⟨m, 7, none⟩) hm).trans c7
  have HB9 := Lib.hid hS.1
  rcases hGP.out with ⟨g1, rfl, rfl, rfl, rfl⟩ | ⟨gs, g1, rfl, rfl, g2⟩
  · have HG := Lib.hid g1
    clear hS hown hbB hrd hGP g1
    go_wp2
    go_ret3
    exact ⟨HB9.out, .inl ⟨HG.out, rfl⟩⟩
  · have HG := Lib.hid (And.intro g1 g2)
    clear hS hown hbB hrd hGP g1 g2
    go_wp2
    go_ret3
    exact ⟨HB9.out, .inr ⟨gs, VG, cG, HG.out.1, rfl, own_low HG.out.2 HSZ.out⟩⟩
end Tl
end Go.Proofs.YtnlaedfnifimkaaGreat
namespace Go.Proofs.YtnlaedfnifimkaaGreat
open Go.RowKit Go.Joins
namespace Tl
open Ck
def MExO (w w' : World) (x : Ending) (b : Bool) (gs : List Int) : Prop :=
  Below w.heap.size w w' ∧ ∃ A' c' xs, x = .returned (.tuple #[.agg #[.int .i64 1, .int .i64 20, .slice A' (exL b gs).length c'], .int .i64 0]) ∧ RdP w' (· < w'.heap.size) 18 A' (exL b gs).length xs ∧ BlksAt w' (· < w'.heap.size) (exL b gs) xs
set_option maxRecDepth 100000 in
set_option maxHeartbeats 8000000 in
theorem mexact_any {g L M m len cap : Nat} {T f : Int} {A : Option Addr} {zs : List Int} {w : World} {x0 x2 x3 : Value} {b : Bool} (hE : EdgeAt g L M T A len cap zs w) (hg : g < w.heap.size)
    (hB : Blk w m 92 #[x0, .pointer (some ⟨g, 0, none⟩), x2, x3, .bool true, .int .u64 f, .int .i64 L, .bool b]) (f0 : 0 ≤ f) (f1 : f ≤ 1000000000) (hT : T ≤ 1000000000) (hM : M ≤ 1000000000) {gs : List Int} (hgs : gapsF f (zs.drop L) = some gs) (hz : isU32 gs) (hn : gs.length ≤ 60000) :
    Calls Tryz.prog 21 #[.pointer (some ⟨m, 0, none⟩)] w fun x w' => MExO w w' x b gs := by
  go_enter Tryz.func21, Tryz.ntmps21
  go_upto_region 1 with fail
  have hb0 : Below w.heap.size w (w.alloc (.cells #[.int .i64 0, .int .i64 0, .slice none 0 0] 66)) := (Below.refl _ _).alloc (Nat.le_refl _) _
  have hT0 := Blk.new w 66 #[.int .i64 0, .int .i64 0, .slice none 0 0]
  have hs0 : w.heap.size + 1 = (w.alloc (.cells #[.int .i64 0, .int .i64 0, .slice none 0 0] 66)).heap.size := by simp
  generalize (w.alloc (.cells #[.int .i64 0, .int .i64 0, .slice none 0 0] 66)) = w0 at *
  have hrc := recorded_any (hE.below hg hb0) (by omega) (hB.below hb0 hB.lt) f0 f1 hT hM
  have HZ := Lib.hid (And.intro hgs (And.intro hz hn))
  have H0 := Lib.hid (And.intro hb0 (And.intro hT0 hs0))
  clear hb0 hT0 hs0 hE hB hgs hz hn
  go_wp2_with fail
  refine hrc.mono ?_
  rintro x w1 ⟨hb1, ⟨h1, _⟩ | ⟨gs', V, cV, h1, rfl, hown⟩⟩
  · rw [HZ.out.1] at h1; cases h1
  · rw [HZ.out.1] at h1
    injection h1 with h1
    subst h1
    have hr1 := Reads.of_own hown
    have hex := exact_any w1 b V gs.length cV gs hr1 HZ.out.2.1 (by have := HZ.out.2.2; omega)
    have H1 := Lib.hid (And.intro hb1 (H0.out.2.1.below hb1 H0.out.2.1.lt))
    clear hb1 hown hr1 hrc
    generalize gs.length = gl at *
    go_wp2_with fail
    refine hex.mono ?_
    rintro x w2 ⟨A', m', c', xs, rfl, hr2, hk2, hb2⟩
    have hT2 := H1.out.2.below hb2 H1.out.2.lt
    have hl := blks_len hr2 hk2
    have hV : exV gs = (1, 20, 0) := by unfold exV; rw [if_neg (fun h => by have := HZ.out.2.1 0 h; omega)]
    rw [hV]
    have HR := Lib.hid (And.intro hr2 hk2)
    have HL := Lib.hid hl
    have hs1 := H1.out.1.size
    have hbw : Below w.heap.size w w2 := H0.out.1.trans ((H1.out.1.trans (hb2.mono hs1)).mono (by have := H0.out.2.2; omega))
    have HBW := Lib.hid hbw
    clear hr2 hk2 hb2 hex hl hV hbw hs1
    go_wp2_with (first
      | (refine wpList_store_box rfl 66 _ _ (by rfl) w.heap.size #[.int .i64 1, .int .i64 20, .slice A' m' c'] (by rfl) (by rfl) 66 #[.int .i64 0, .int .i64 0, .slice none 0 0] hT2 tapeInfo rfl (by simp [Value.oneCell']) ?_)
      | fail)
    intro w3 hB3 hg3
    have hlt := hT2.lt
    have HF := Lib.hid (show MExO w w3 (.returned (.tuple #[.agg #[.int .i64 1, .int .i64 20, .slice A' m' c'], .int .i64 0])) b gs from by
      have h0 := H0.out.2.2
      have h1 := H1.out.1.size
      have hk : ∀ k, w1.heap.size ≤ k ∧ k < w2.heap.size → w3.heap[k]? = w2.heap[k]? := fun k hk => hg3.block k hk.2 (fun e => by injection e with e; omega)
      have hs := hg3.size
      refine ⟨HBW.out.grown hg3 HBW.out.size (fun k e => by injection e with e; omega), A', c', xs, by rw [HL.out], ?_, ?_⟩
      · rw [HL.out]
        exact HR.out.1.keep hk (fun k hk => by show k < _; have := hk.2; omega)
      · exact BlksAt.keep hk (fun k hk => by show k < _; have := hk.2; omega) HR.out.2)
    clear hg3 hT2
    go_wp2_with fail
    refine bodyPost_ret (Tl.results_cell_tmp9 rfl _ _ w.heap.size 66 _ (0, 0) _ rfl hB3 Tryz.underlying66 rfl tapeInfo) rfl ?_
    exact HF.out
end Tl
end Go.Proofs.YtnlaedfnifimkaaGreat
namespace Go.Proofs.YtnlaedfnifimkaaGreat
open Go.RowKit Go.Joins
namespace Tl
open Ck
theorem regs_one {cs : List Value} (h : RegsOk cs) : ∀ u ∈ cs, u.oneCell' = true := by
  obtain ⟨hl, h⟩ := h (mkE 0 0 0 0) (fun _ => none) 0
  intro u hu
  obtain ⟨i, hi, rfl⟩ := List.mem_iff_getElem.1 hu
  have hb : ∀ b ∈ regsT, ∀ v, VB (mkE 0 0 0 0) (fun _ => none) 0 #[] b v → v.oneCell' = true := by
    intro b hb v hv
    simp only [regsT, List.mem_cons, List.not_mem_nil, or_false] at hb
    rcases hb with rfl | rfl | rfl | rfl | rfl | rfl | rfl | rfl | rfl | rfl | rfl | rfl | rfl | rfl | rfl | rfl | rfl | rfl | rfl | rfl | rfl | rfl | rfl | rfl | rfl | rfl | rfl | rfl | rfl | rfl
    all_goals (obtain ⟨n, rfl, _⟩ := hv; rfl)
  exact hb _ (List.getElem_mem (by rw [← hl]; exact hi)) _ (h i (regsT[i]'(by rw [← hl]; exact hi)) cs[i] (List.getElem?_eq_getElem _) (List.getElem?_eq_getElem hi))
theorem regs_set {cs : List Value} (h : RegsOk cs) {x : Int} (h0 : 0 ≤ x) (h1 : x ≤ 65535) : RegsOk (cs.set 22 (.int .u16 x)) := by
  intro E S j
  obtain ⟨hl, h⟩ := h E S j
  refine ⟨by rw [List.length_set]; exact hl, fun i b v hb hv => ?_⟩
  by_cases e : i = 22
  · subst e
    rw [List.getElem?_set_self (by rw [hl]; decide)] at hv
    cases hv
    cases hb
    exact ⟨x, rfl, h0, h1⟩
  · rw [List.getElem?_set_ne (fun e2 => e e2.symm)] at hv
    exact h i b v hb hv
def wldC (rv : Value) (ph : Int) (sl : Bool) (cs : List Value) (pl : Int) : Array Value := (([rv, .int .i64 ph, .bool sl] : List Value) ++ cs ++ ([.int .i64 pl] : List Value)).toArray
theorem wldInfo : (Tryz.prog.info? 58).map (·.size) = some 34 := by kernel_rfl
section
variable {rv : Value} {ph pl : Int} {sl : Bool} {cs : List Value}
theorem wldC_regs {k : Nat} {v : Value} (h : cs[k]? = some v) : (wldC rv ph sl cs pl)[3 + k]? = some v := by
  have hk : k < cs.length := by
    rcases Nat.lt_or_ge k cs.length with h2 | h2
    · exact h2
    · rw [List.getElem?_eq_none h2] at h; cases h
  unfold wldC
  rw [List.getElem?_toArray, List.append_assoc, List.getElem?_append_right (by simp), List.getElem?_append_left (by simp; omega)]
  simpa using h
theorem wldC_place (hl : cs.length = 30) : (wldC rv ph sl cs pl)[33]? = some (.int .i64 pl) := by
  unfold wldC
  rw [List.getElem?_toArray, List.getElem?_append_right (by simp; omega)]
  simp [hl]
def regs0 : Array Value := #[.int .u8 0, .int .u8 0, .int .u8 0, .int .u8 0, .int .u8 0, .int .u8 0, .int .u8 0, .int .u8 0, .int .u8 0, .int .u8 0, .int .u8 0, .int .u8 0, .int .u8 0, .int .u8 0, .int .u8 0, .int .u8 0, .int .u8 0, .int .u8 0, .int .u8 0, .int .u16 0, .int .u16 0, .int .u16 0, .int .u16 0, .int .u16 0, .bool false, .bool false, .bool false, .bool false, .int .u8 0, .int .u8 0]
def BegunO (w w' : World) (x : Ending) (cs : List Value) : Prop := ∃ cs', x = .returned (.agg cs'.toArray) ∧ RegsOk cs' ∧ cs'[28]? = cs[28]? ∧ cs'[29]? = cs[29]? ∧ Below w.heap.size w w'
set_option maxRecDepth 100000 in
set_option maxHeartbeats 8000000 in
theorem begun_any (w : World) (hcs : RegsOk cs) :
    Calls Tryz.prog 18 #[.agg (wldC rv ph sl cs pl)] w fun x w' => BegunO w w' x cs := by
  have hl : cs.length = 30 := (hcs (mkE 0 0 0 0) (fun _ => none) 0).1
  have hone := regs_one hcs
  have hsz : cs.toArray.size = 30 := by simpa using hl
  have hall : cs.toArray.all (·.oneCell') = true := by simpa using hone
  have HC := Lib.hid (And.intro hcs (And.intro hl hone))
  have hW1 : Blk ((w.alloc (.cells (wldC rv ph sl cs pl) 58)).alloc (.cells regs0 56)) w.heap.size 58 (wldC rv ph sl cs pl) := (Blk.new w _ _).alloc _
  have hQ1 : Blk ((w.alloc (.cells (wldC rv ph sl cs pl) 58)).alloc (.cells regs0 56)) (w.heap.size + 1) 56 regs0 := by
    have := Blk.new (w.alloc (.cells (wldC rv ph sl cs pl) 58)) 56 regs0
    simpa using this
  have hb1 : Below w.heap.size w ((w.alloc (.cells (wldC rv ph sl cs pl) 58)).alloc (.cells regs0 56)) := ((Below.refl _ _).alloc (Nat.le_refl _) _).alloc (by simp) _
  clear hcs hone
  go_enter Tryz.func18, Tryz.ntmps18
  go_upto_region 1 with fail
  change Code.wp _ _ _ _ ((w.alloc (.cells (wldC rv ph sl cs pl) 58)).alloc (.cells regs0 56))
  generalize ((w.alloc (.cells (wldC rv ph sl cs pl) 58)).alloc (.cells regs0 56)) = w1 at *
  have hX : ∀ j v, cs[j]? = some v → w1.cell? ((⟨w.heap.size, 3, none⟩ : Addr).add j) = some v := fun j v hv => by
    rw [add_mk]
    exact (hW1.cell (3 + j)).trans (wldC_regs hv)
  have HX := Lib.hid hX
  have H1 := Lib.hid (And.intro hW1 (And.intro hQ1 hb1))
  clear hX hW1 hQ1 hb1
  go_upto_region 2 with (first
    | (refine wpList_load_at rfl 56 _ rfl ⟨w.heap.size, 3, none⟩ rfl cs HX.out _ Tryz.underlying56 rfl (by rw [hl]; exact regsInfo) ?_)
    | (refine wpList_store_box rfl 56 _ _ (by rfl) w1.heap.size cs.toArray (by rfl) (by rfl) 56 regs0 (Blk.new w1 _ _) (by rw [hsz]; exact regsInfo) (by rw [hsz]; rfl) hall ?_)
    | fail)
  intro w2 hB2 hg2
  have hb2 : Below w1.heap.size w1 w2 := ((Below.refl _ _).alloc (Nat.le_refl _) _).grown hg2 (by simp) (fun b e => by injection e with e; omega)
  have hs1 := H1.out.2.2.size
  have hW2 := H1.out.1.below hb2 H1.out.1.lt
  have hQ2 := H1.out.2.1.below hb2 H1.out.2.1.lt
  have hbw := H1.out.2.2.trans (hb2.mono hs1)
  have hne1 : w1.heap.size ≠ w.heap.size + 1 := by have := H1.out.2.1.lt; omega
  clear hb2 hg2 H1 HX
  generalize w1.heap.size = t3 at *
  have c33 : w2.cell? ⟨w.heap.size, 33, none⟩ = some (.int .i64 pl) := (hW2.cell 33).trans (wldC_place hl)
  by_cases hp : 1 ≤ pl ∧ pl ≤ 3
  · obtain ⟨v22, hv22⟩ : ∃ v, cs[22]? = some v := ⟨_, List.getElem?_eq_getElem (by omega)⟩
    have c22 : w2.cell? ⟨t3, 22, none⟩ = some v22 := (hB2.cell 22).trans (by simpa using hv22)
    have f22 : w2.frozen? ⟨t3, 22, none⟩ = false := hB2.frozen 22
    have hp1 := hp.1
    have hp2 := hp.2
    have hw1 : IntKind.i64.wrap (3 * pl) = 3 * pl := by rw [IntKind.wrap_i64]; omega
    have hw2 : IntKind.i64.wrap (253 + 3 * pl) = 253 + 3 * pl := by rw [IntKind.wrap_i64]; omega
    have hw3 : IntKind.u16.wrap (253 + 3 * pl) = 253 + 3 * pl := by simp [IntKind.wrap, IntKind.bits, IntKind.signed]; omega
    have HK := Lib.hid (show RegsOk (cs.set 22 (.int .u16 (253 + 3 * pl))) from regs_set HC.out.1 (by omega) (by omega))
    have hB3 : Blk (w2.setCell ⟨t3, 22, none⟩ (.int .u16 (253 + 3 * pl))) t3 56 (cs.set 22 (.int .u16 (253 + 3 * pl))).toArray := by
      have := hB2.set_ 22 (.int .u16 (253 + 3 * pl))
      simpa using this
    have hQ3 : Blk (w2.setCell ⟨t3, 22, none⟩ (.int .u16 (253 + 3 * pl))) (w.heap.size + 1) 56 regs0 := Blk.far (p := ⟨t3, 22, none⟩) hQ2 (fun e => hne1 e.symm) _
    have HS := Lib.hid (show Below w.heap.size w (w2.setCell ⟨t3, 22, none⟩ (.int .u16 (253 + 3 * pl))) from hbw.setCell (by show w.heap.size ≤ t3; omega) _)
    have hsz2 : (cs.set 22 (.int .u16 (253 + 3 * pl))).toArray.size = 30 := by simpa using hl
    have hall2 : (cs.set 22 (.int .u16 (253 + 3 * pl))).toArray.all (·.oneCell') = true := by simpa using regs_one HK.out
    clear hB2 hQ2 hbw hW2 hp
    go_upto_region 4 with fail
    clear c22 f22 c33 hw1 hw2 hw3
    generalize (w2.setCell ⟨t3, 22, none⟩ (.int .u16 (253 + 3 * pl))) = w3 at *
    go_wp2_with (first
      | (refine wpList_load_box rfl 56 _ rfl t3 rfl 56 (cs.set 22 (.int .u16 (253 + 3 * pl))).toArray hB3 _ Tryz.underlying56 rfl (by rw [hsz2]; exact regsInfo) ?_)
      | (refine wpList_store_box rfl 56 _ _ (by rfl) (w.heap.size + 1) (cs.set 22 (.int .u16 (253 + 3 * pl))).toArray (by rfl) (by rfl) 56 regs0 hQ3 (by rw [hsz2]; exact regsInfo) (by rw [hsz2]; rfl) hall2 ?_)
      | fail)
    try (refine fun (_ : Hid _) => ?_)
    try go_wp2_with (first
      | (refine wpList_store_box rfl 56 _ _ (by rfl) (w.heap.size + 1) (cs.set 22 (.int .u16 (253 + 3 * pl))).toArray (by rfl) (by rfl) 56 regs0 hQ3 (by rw [hsz2]; exact regsInfo) (by rw [hsz2]; rfl) hall2 ?_)
      | fail)
    intro w9 hB9 hg9
    have HF := Lib.hid (HS.out.grown hg9 HS.out.size (fun b e => by injection e with e; omega))
    clear hg9
    go_wp2_with fail
    refine bodyPost_ret (results_cell_row rfl _ _ (w.heap.size + 1) 56 _ (0, 0) _ rfl hB9 Tryz.underlying56 rfl (by rw [hsz2]; exact regsInfo)) rfl ?_
    exact ⟨_, rfl, HK.out, List.getElem?_set_ne (by decide), List.getElem?_set_ne (by decide), HF.out⟩
  · have HS := Lib.hid hbw
    clear hbw hW2
    by_cases hp1 : 1 ≤ pl
    · have hp2 : ¬ pl ≤ 3 := fun h => hp ⟨hp1, h⟩
      clear hp
      go_upto_region 4 with fail
      go_wp2_with (first
        | (refine wpList_load_box rfl 56 _ rfl t3 rfl 56 cs.toArray hB2 _ Tryz.underlying56 rfl (by rw [hsz]; exact regsInfo) ?_)
        | (refine wpList_store_box rfl 56 _ _ (by rfl) (w.heap.size + 1) cs.toArray (by rfl) (by rfl) 56 regs0 hQ2 (by rw [hsz]; exact regsInfo) (by rw [hsz]; rfl) hall ?_)
        | fail)
      try (refine fun (_ : Hid _) => ?_)
      try go_wp2_with (first
        | (refine wpList_store_box rfl 56 _ _ (by rfl) (w.heap.size + 1) cs.toArray (by rfl) (by rfl) 56 regs0 hQ2 (by rw [hsz]; exact regsInfo) (by rw [hsz]; rfl) hall ?_)
        | fail)
      intro w9 hB9 hg9
      have HF := Lib.hid (HS.out.grown hg9 HS.out.size (fun b e => by injection e with e; omega))
      clear hg9
      go_wp2_with fail
      refine bodyPost_ret (results_cell_row rfl _ _ (w.heap.size + 1) 56 _ (0, 0) _ rfl hB9 Tryz.underlying56 rfl (by rw [hsz]; exact regsInfo)) rfl ?_
      exact ⟨cs, rfl, HC.out.1, rfl, rfl, HF.out⟩
    · clear hp
      go_upto_region 4 with fail
      go_wp2_with (first
        | (refine wpList_load_box rfl 56 _ rfl t3 rfl 56 cs.toArray hB2 _ Tryz.underlying56 rfl (by rw [hsz]; exact regsInfo) ?_)
        | (refine wpList_store_box rfl 56 _ _ (by rfl) (w.heap.size + 1) cs.toArray (by rfl) (by rfl) 56 regs0 hQ2 (by rw [hsz]; exact regsInfo) (by rw [hsz]; rfl) hall ?_)
        | fail)
      try (refine fun (_ : Hid _) => ?_)
      try go_wp2_with (first
        | (refine wpList_store_box rfl 56 _ _ (by rfl) (w.heap.size + 1) cs.toArray (by rfl) (by rfl) 56 regs0 hQ2 (by rw [hsz]; exact regsInfo) (by rw [hsz]; rfl) hall ?_)
        | fail)
      intro w9 hB9 hg9
      have HF := Lib.hid (HS.out.grown hg9 HS.out.size (fun b e => by injection e with e; omega))
      clear hg9
      go_wp2_with fail
      refine bodyPost_ret (results_cell_row rfl _ _ (w.heap.size + 1) 56 _ (0, 0) _ rfl hB9 Tryz.underlying56 rfl (by rw [hsz]; exact regsInfo)) rfl ?_
      exact ⟨cs, rfl, HC.out.1, rfl, rfl, HF.out⟩
end
end Tl
end Go.Proofs.YtnlaedfnifimkaaGreat
namespace Go.Proofs.YtnlaedfnifimkaaGreat
open Go.RowKit Go.Maps
def lookM (ms : List (List UInt8 × Int)) (s : List UInt8) : Option Int := (ms.find? (fun p => p.1 == s)).map (·.2)
theorem lookM_cons (n : List UInt8) (v : Int) (ms : List (List UInt8 × Int)) (s : List UInt8) : lookM ((n, v) :: ms) s = if n = s then some v else lookM ms s := by
  unfold lookM
  rw [List.find?_cons]
  by_cases h : n = s
  · simp [h]
  · have hb : (n == s) = false := by simpa using h
    simp [h, hb]
def MkAt (w : World) (b : Nat) (ms : List (List UInt8 × Int)) : Prop :=
  ∃ (D : DataW Unit), w.ownsMap Tryz.prog 9 (plainElem Tryz.prog 3) b ms.length D ∧ Maps.IsMap D ∧
    ∀ s : List UInt8, Maps.has D (.string s) = (lookM ms s).isSome ∧ D.atKey (.string s) (.lit (.int .i64 0)) = .lit (.int .i64 ((lookM ms s).getD 0))
theorem intZ (w : World) : (zeroValue 3).run Tryz.prog w = .ok (.int .i64 0) w := by kernel_rfl
theorem MkAt.look {w : World} {b : Nat} {ms : List (List UInt8 × Int)} (h : MkAt w b ms) {s : ByteArray} (hs : s.size ≤ maxLen) :
    (Instr.lookup 184 (.map (some b)) (.string s) true).run Tryz.prog w = .ok (.tuple #[.int .i64 ((lookM ms s.data.toList).getD 0), .bool (lookM ms s.data.toList).isSome]) w := by
  obtain ⟨D, hown, _, hat⟩ := h
  obtain ⟨v, ps, hrun, hv⟩ := hown.look_ok (Maps.string_keyed Tryz.underlying9) Tryz.underlying184 (intZ w) (plainElem_int Tryz.underlying3 (by decide)) (WideMaps.keyOf_string_mk Tryz.underlying9 hs)
  obtain ⟨c, rfl, hc, _⟩ := plainElem_int_inv Tryz.underlying3 hv
  obtain ⟨h1, h2⟩ := hat s.data.toList
  rw [h2] at hc
  simp only [Prod.mk.injEq, DataW.lit.injEq, Lit.int.injEq, true_and] at hc
  rw [hrun, h1, hc.1]
theorem MkAt.put {w : World} {b : Nat} {ms : List (List UInt8 × Int)} (h : MkAt w b ms) {s : ByteArray} (hs : s.size ≤ maxLen) {x : Int} (hx : (Lit.int .i64 x).wf = true) (hn : ms.length < 1000) :
    ∃ w', (Instr.mapUpdate 184 (.map (some b)) (.string s) (.int .i64 x)).run Tryz.prog w = .ok () w' ∧ MkAt w' b ((s.data.toList, x) :: ms) ∧ w.grownBy w' (some b) := by
  obtain ⟨D, hown, hD, hat⟩ := h
  obtain ⟨w', hrun, hown', hg⟩ := hown.update (Maps.string_keyed Tryz.underlying9) Tryz.underlying184 (by unfold maxLen; omega) (WideMaps.keyOf_string_mk Tryz.underlying9 hs) (plainElem_int Tryz.underlying3 hx)
  refine ⟨w', hrun, ⟨_, hown', hD.put _ _, fun y => ?_⟩, hg⟩
  rw [lookM_cons]
  by_cases hy : s.data.toList = y
  · subst hy
    rw [Maps.has_put_same hD (by exact trivial), Maps.atKey_put_same hD (by exact trivial), if_pos rfl]
    exact ⟨rfl, rfl⟩
  · rw [Maps.has_put_other (by simpa using fun e => hy e.symm), Maps.atKey_put_other (by simpa using fun e => hy e.symm), if_neg hy]
    exact hat y
theorem MkAt.new (w : World) : MkAt (w.alloc (.map #[] 0)) w.heap.size [] := ⟨_, World.ownsMap_made _ _ _ _, ⟨_, rfl⟩, fun _ => ⟨rfl, rfl⟩⟩
theorem MkAt.kept {w w' : World} {b : Nat} {ms : List (List UInt8 × Int)} (h : MkAt w b ms) (hk : w'.heap[b]? = w.heap[b]?) : MkAt w' b ms := by
  obtain ⟨D, ⟨es, clock, hb, F, hs, e⟩, hD, hat⟩ := h
  exact ⟨D, ⟨es, clock, hk.trans hb, F, hs, e⟩, hD, hat⟩
theorem MkAt.lt {w : World} {b : Nat} {ms : List (List UInt8 × Int)} (h : MkAt w b ms) : b < w.heap.size := by
  obtain ⟨D, hown, _⟩ := h
  exact hown.lt
end Go.Proofs.YtnlaedfnifimkaaGreat
namespace Go.Proofs.YtnlaedfnifimkaaGreat
open Go.RowKit
namespace Rm
structure Ch (w w' : World) (φ : Nat → Prop) : Prop where
  os : w'.os = w.os
  tape : w'.tape = w.tape
  output : w'.output = w.output
  size : w.heap.size ≤ w'.heap.size
  block : ∀ k, k < w.heap.size → ¬ φ k → w'.heap[k]? = w.heap[k]?
theorem Ch.refl (w : World) (φ : Nat → Prop) : Ch w w φ := ⟨rfl, rfl, rfl, Nat.le_refl _, fun _ _ _ => rfl⟩
theorem Ch.trans {a b c : World} {φ ψ χ : Nat → Prop} (h : Ch a b φ) (k : Ch b c ψ) (h1 : ∀ q, φ q → χ q) (h2 : ∀ q, q < a.heap.size → ψ q → χ q) : Ch a c χ :=
  ⟨k.os.trans h.os, k.tape.trans h.tape, k.output.trans h.output, Nat.le_trans h.size k.size, fun q hq hn => (k.block q (Nat.lt_of_lt_of_le hq h.size) (fun e => hn (h2 q hq e))).trans (h.block q hq (fun e => hn (h1 q e)))⟩
theorem Ch.of_grown {w w' : World} {r : Option Nat} {φ : Nat → Prop} (h : w.grownBy w' r) (hr : ∀ g, r = some g → φ g) : Ch w w' φ := ⟨h.os, h.tape, h.output, h.size, fun k hk hn => h.block k hk (fun e => hn (hr k e.symm))⟩
theorem Ch.of_below {w w' : World} {φ : Nat → Prop} (h : Below w.heap.size w w') : Ch w w' φ := ⟨h.os, h.tape, h.output, h.size, fun k hk _ => h.block k hk⟩
theorem own_types_ne {w : World} {base base' : Nat} {e e' : TypeId} {size size' n n' : Nat} {v v' : Value} {xs xs' : List Value} (h : w.ownsRow base e size v n xs) (h' : w.ownsRow base' e' size' v' n' xs') (hne : e ≠ e') : ∀ k, v.ownBlock = some k → v'.ownBlock ≠ some k := by
  intro k hk hk'
  rcases h.2 with ⟨rfl, _⟩ | ⟨g, cap, cur, rfl, _, hh, _⟩
  · simp [Value.ownBlock] at hk
  · rcases h'.2 with ⟨rfl, _⟩ | ⟨g', cap', cur', rfl, _, hh', _⟩
    · simp [Value.ownBlock] at hk'
    · simp [Value.ownBlock] at hk hk'
      subst hk
      subst hk'
      rw [hh] at hh'
      injection hh' with hh'
      injection hh' with _ h2
      exact hne h2
theorem own_keep {w w' : World} {base : Nat} {e : TypeId} {size n : Nat} {v : Value} {xs : List Value} (h : w.ownsRow base e size v n xs) (hk : ∀ k, v.ownBlock = some k → w'.heap[k]? = w.heap[k]?) : w'.ownsRow base e size v n xs := by
  refine ⟨h.1, ?_⟩
  rcases h.2 with hn | ⟨g, cap, cur, rfl, hb, hgg, rest⟩
  · exact .inl hn
  · exact .inr ⟨g, cap, cur, rfl, hb, (hk g rfl).trans hgg, rest⟩
theorem mk_blk_ne {w : World} {b g : Nat} {ms : List (List UInt8 × Int)} {t : TypeId} {cs : Array Value} (h : MkAt w b ms) (hg : Blk w g t cs) : b ≠ g := by
  rintro rfl
  obtain ⟨D, ⟨es, clock, hb, _⟩, _⟩ := h
  have hg : w.heap[b]? = _ := hg
  rw [hb] at hg
  cases hg
theorem mk_own_ne {w : World} {b : Nat} {ms : List (List UInt8 × Int)} {base : Nat} {e : TypeId} {size n : Nat} {v : Value} {xs : List Value} (h : MkAt w b ms) (hr : w.ownsRow base e size v n xs) : v.ownBlock ≠ some b := by
  intro hv
  obtain ⟨D, ⟨es, clock, hb, _⟩, _⟩ := h
  rcases hr.2 with ⟨rfl, _⟩ | ⟨g, cap, cur, rfl, _, hh, _⟩
  · simp [Value.ownBlock] at hv
  · simp [Value.ownBlock] at hv
    subst hv
    rw [hb] at hh
    cases hh
structure AG where
  len : Nat
  marks : List (List UInt8 × Int)
  told : List (List UInt8 × Nat × Bool)
  deriving DecidableEq
def toldV (l : List (List UInt8 × Nat × Bool)) : List Value := l.flatMap fun t => [.string ⟨t.1.toArray⟩, .int .i64 t.2.1, .bool t.2.2]
theorem toldV_snoc (l : List (List UInt8 × Nat × Bool)) (t : List UInt8 × Nat × Bool) : toldV (l ++ [t]) = toldV l ++ [.string ⟨t.1.toArray⟩, .int .i64 t.2.1, .bool t.2.2] := by simp [toldV]
structure AsmAt (w : World) (base A : Nat) (g : AG) (OV TV : Value) (mb : Nat) (zs : List Int) : Prop where
  cell : Blk w A 187 #[.int .i64 0, OV, .map (some mb), TV, .int .i64 0]
  out : w.ownsRow base 5 1 OV g.len (zs.map (Value.int .u8))
  z8 : isU8 zs
  mks : MkAt w mb g.marks
  told : w.ownsRow base 194 3 TV g.told.length (toldV g.told)
  lo : base ≤ A ∧ base ≤ mb
  le : g.len ≤ 65536
  ml : g.marks.length ≤ 900
  tl : g.told.length ≤ 900
def AsmBlk (A : Nat) (OV TV : Value) (mb k : Nat) : Prop := k = A ∨ k = mb ∨ OV.ownBlock = some k ∨ TV.ownBlock = some k
def NewBlk (w : World) (V V' : Value) : Prop := V'.ownBlock = V.ownBlock ∨ ∃ k, V'.ownBlock = some k ∧ w.heap.size ≤ k
section
variable {w w' : World} {base A mb : Nat} {g : AG} {OV TV : Value} {zs : List Int}
theorem AsmAt.keep (h : AsmAt w base A g OV TV mb zs) (hk : ∀ k, AsmBlk A OV TV mb k → w'.heap[k]? = w.heap[k]?) : AsmAt w' base A g OV TV mb zs :=
  ⟨(hk A (.inl rfl)).trans h.cell, own_keep h.out fun k e => hk k (.inr (.inr (.inl e))), h.z8, h.mks.kept (hk mb (.inr (.inl rfl))), own_keep h.told fun k e => hk k (.inr (.inr (.inr e))), h.lo, h.le, h.ml, h.tl⟩
theorem AsmAt.lt (h : AsmAt w base A g OV TV mb zs) {k : Nat} (hk : AsmBlk A OV TV mb k) : base ≤ k ∧ k < w.heap.size := by
  rcases hk with rfl | rfl | e | e
  · exact ⟨h.lo.1, h.cell.lt⟩
  · exact ⟨h.lo.2, h.mks.lt⟩
  · exact h.out.lt k e
  · exact h.told.lt k e
theorem AsmAt.kept (h : AsmAt w base A g OV TV mb zs) (hb : Below w.heap.size w w') : AsmAt w' base A g OV TV mb zs := h.keep fun k hk => hb.block k (h.lt hk).2
theorem AsmAt.drew (h : AsmAt w base A g OV TV mb zs) : AsmAt w.drew base A g OV TV mb zs := h.keep fun _ _ => rfl
theorem AsmAt.drewN (h : AsmAt w base A g OV TV mb zs) (n : Nat) : AsmAt (w.drewN n) base A g OV TV mb zs := h.keep fun _ _ => rfl
theorem bad_any (h : AsmAt w base A g OV TV mb zs) : Calls Tryz.prog 93 #[.pointer (some ⟨A, 0, none⟩)] w fun x w' => x = .returned (.bool false) ∧ w = w' := by
  have c4 : w.cell? ⟨A, 4, none⟩ = some (.int .i64 0) := (h.cell.cell 4).trans rfl
  clear h
  go_enter Tryz.func93, Tryz.ntmps93
  go_wp2
  go_ret
  exact ⟨rfl, rfl⟩
theorem here_any (h : AsmAt w base A g OV TV mb zs) : Calls Tryz.prog 94 #[.pointer (some ⟨A, 0, none⟩)] w fun x w' => x = .returned (.int .i64 (g.len : Int)) ∧ ∃ n, w' = w.drewN n := by
  obtain ⟨OA, oc, rfl⟩ := own_slice h.out
  have c0 : w.cell? ⟨A, 0, none⟩ = some (.int .i64 0) := (h.cell.cell 0).trans rfl
  have c1 : w.cell? ⟨A, 1, none⟩ = some (.slice OA g.len oc) := (h.cell.cell 1).trans rfl
  have hle := h.le
  have hw : IntKind.i64.wrap (0 + (g.len : Int)) = (g.len : Int) := by rw [IntKind.wrap_i64]; omega
  clear h
  go_enter Tryz.func94, Tryz.ntmps94
  go_wp2_with fail
  go_quiet (fail)
  go_wp2
  go_ret
  exact ⟨rfl, _, rfl⟩
end
end Rm
end Go.Proofs.YtnlaedfnifimkaaGreat
namespace Go.Proofs.YtnlaedfnifimkaaGreat
open Go.RowKit
namespace Rm
def AsmO (w w' : World) (base A : Nat) (g' : AG) (OV TV : Value) (mb : Nat) : Prop :=
  ∃ OV' TV' zs', AsmAt w' base A g' OV' TV' mb zs' ∧ Ch w w' (AsmBlk A OV TV mb) ∧ NewBlk w OV OV' ∧ NewBlk w TV TV'
theorem u8Info : (Tryz.prog.info? 5).map (fun i => (i.zero, i.size, i.bytes)) = some (some (.int .u8 0), 1, 1) := by kernel_rfl
section
variable {w w' : World} {base A mb : Nat} {g : AG} {OV TV : Value} {zs : List Int}
theorem AsmAt.outs {w2 : World} {OV2 : Value} {n : Nat} {us : List Int} (h : AsmAt w base A g OV TV mb zs) (h2 : w2.ownsRow base 5 1 OV2 (g.len + n) (zs.map (Value.int .u8) ++ us.map (Value.int .u8))) (hg : w.grownBy w2 OV.ownBlock) (hn : OV2.ownBlock = OV.ownBlock ∨ OV2.ownBlock = some w.heap.size) (hu : isU8 us) (hl : g.len + n ≤ 65536) :
    AsmAt (w2.setCell ⟨A, 1, none⟩ OV2) base A { g with len := g.len + n } OV2 TV mb (zs ++ us) ∧ Ch w (w2.setCell ⟨A, 1, none⟩ OV2) (AsmBlk A OV TV mb) := by
  have e1 := own_blk_ne h.out h.cell (by decide)
  have e2 := own_types_ne h.told h.out (by decide)
  have e3 := mk_own_ne h.mks h.out
  have hA := h.cell.lt
  have hcell : Blk w2 A 187 #[.int .i64 0, OV, .map (some mb), TV, .int .i64 0] := h.cell.grown hg (fun e => e1 e.symm)
  have f1 := own_blk_ne h2 hcell (by decide)
  have hmk : MkAt w2 mb g.marks := h.mks.kept (hg.block mb h.mks.lt (fun e => e3 e.symm))
  have htold : w2.ownsRow base 194 3 TV g.told.length (toldV g.told) := own_keep h.told fun k hk => hg.block k (h.told.lt k hk).2 (fun e => e2 k hk e.symm)
  have g1 := mk_blk_ne hmk hcell
  have g2 := own_blk_ne htold hcell (by decide)
  refine ⟨⟨hcell.set_ 1 OV2, ?_, ?_, hmk.kept (Below.heap_setCell _ _ _ _ g1), own_keep htold fun k hk => Below.heap_setCell _ _ _ _ (fun e => g2 (by rw [hk, e])), h.lo, hl, h.ml, h.tl⟩, ?_⟩
  · rw [List.map_append]
    exact own_keep h2 fun k hk => Below.heap_setCell _ _ _ _ (fun e => f1 (by rw [hk, e]))
  · intro z hz
    rcases List.mem_append.1 hz with hz | hz
    · exact h.z8 z hz
    · exact hu z hz
  · refine ⟨hg.os, hg.tape, hg.output, by simpa [World.setCell] using hg.size, fun k hk hne => ?_⟩
    have k1 : k ≠ A := fun e => hne (.inl e)
    rw [Below.heap_setCell _ _ _ _ k1]
    exact hg.block k hk (fun e => hne (.inr (.inr (.inl e.symm))))
set_option maxRecDepth 100000 in
set_option maxHeartbeats 1000000 in
theorem bytes_any (h : AsmAt w base A g OV TV mb zs) (hb : base ≤ w.heap.size) (BA : Option Addr) (n bc : Nat) (us : List Int) (hr : Reads w w.heap.size 1 BA n (us.map (Value.int .u8))) (hu : isU8 us) (hn : g.len + n ≤ 65536) :
    Calls Tryz.prog 58 #[.pointer (some ⟨A, 0, none⟩), .slice BA n bc] w fun x w' => x = .returned (.tuple #[]) ∧ AsmO w w' base A { g with len := g.len + n } OV TV mb := by
  obtain ⟨i0, hi, hz0, hz1, hz2⟩ := info_parts u8Info
  obtain ⟨OA, oc, rfl⟩ := own_slice h.out
  have hbad := bad_any h
  have hhere := here_any h
  have hw1 : IntKind.i64.wrap (65536 - (g.len : Int)) = 65536 - (g.len : Int) := by have := h.le; rw [IntKind.wrap_i64]; omega
  have hc1 : ¬ (65536 - (g.len : Int) < (n : Int)) := by omega
  have HH := Lib.hid h
  have hone : ∀ u ∈ us.map (Value.int .u8), u.oneCell' = true := by intro u hu; obtain ⟨x, _, rfl⟩ := List.mem_map.1 hu; rfl
  clear h
  go_enter Tryz.func58, Tryz.ntmps58
  go_wp2_with fail
  refine hbad.mono ?_
  rintro x w' ⟨rfl, rfl⟩
  clear hbad
  go_wp2_with fail
  refine hhere.mono ?_
  rintro x w' ⟨rfl, q, rfl⟩
  clear hhere
  go_upto_region 3 with fail
  have HW := Lib.hid (show AsmAt (w.drewN q) base A g (.slice OA g.len oc) TV mb zs from HH.out.drewN q)
  have HC := Lib.hid (show Ch w (w.drewN q) (fun _ => False) ∧ (w.drewN q).heap.size = w.heap.size from ⟨⟨rfl, rfl, rfl, Nat.le_refl _, fun _ _ _ => rfl⟩, rfl⟩)
  have hr1 : Reads (w.drewN q) (w.drewN q).heap.size 1 BA n (us.map (Value.int .u8)) := hr
  have hb1 : base ≤ (w.drewN q).heap.size := hb
  clear hr hb HH
  generalize w.drewN q = W at *
  have c1 : W.cell? ⟨A, 1, none⟩ = some (.slice OA g.len oc) := (HW.out.cell.cell 1).trans rfl
  have hown := HW.out.out
  go_wp2_with (first
    | (at_builtin; refine wpList_append_any _ rfl _ _ 24 rfl base 5 i0 (.int .u8 0) 1 1 Tryz.underlying24 hi hz0 hz1 hz2 rfl (by omega) _ g.len _ rfl hown W.heap.size BA n bc _ rfl hr1 hone (by unfold maxLen; omega) (by omega) hb1 ?_)
    | go_in)
  intro v2 w2 own2 hg2 hnew
  obtain ⟨VA, vc, rfl⟩ := own_slice own2
  obtain ⟨k1, k2⟩ := HW.out.outs own2 hg2 hnew hu hn
  have d1 : w2.cell? ⟨A, 1, none⟩ = some (.slice OA g.len oc) := (Blk.cell (HW.out.cell.grown hg2 (fun e => own_blk_ne HW.out.out HW.out.cell (by decide) e.symm)) 1).trans rfl
  have f1 : w2.frozen? ⟨A, 1, none⟩ = false := Blk.frozen (HW.out.cell.grown hg2 (fun e => own_blk_ne HW.out.out HW.out.cell (by decide) e.symm)) 1
  have HX := Lib.hid (show AsmO w (w2.setCell ⟨A, 1, none⟩ (.slice VA (g.len + n) vc)) base A { g with len := g.len + n } (.slice OA g.len oc) TV mb from ⟨_, TV, _, k1, HC.out.1.trans k2 (fun _ e => e.elim) (fun _ _ e => e), by
    rcases hnew with e | e
    · exact .inl e
    · exact .inr ⟨_, e, by rw [HC.out.2]; exact Nat.le_refl _⟩, .inl rfl⟩)
  clear k1 k2 own2 hg2 hnew hown c1 HW HC hr1
  go_wp2
  first | go_end0 | ((try simp only [Exit.inBlock, Exit.then]); refine bodyPost_ret (v := .tuple #[]) (results_none rfl _ _ _) rfl ?_)
  exact ⟨rfl, HX.out⟩
end
end Rm
end Go.Proofs.YtnlaedfnifimkaaGreat
namespace Go.Proofs.YtnlaedfnifimkaaGreat
open Go.RowKit
namespace Rm
section
variable {w w' : World} {base A mb : Nat} {g : AG} {OV TV : Value} {zs : List Int}
theorem hereU_any (h : AsmAt w base A g OV TV mb zs) (hl : g.len ≤ 65535) : Calls Tryz.prog 96 #[.pointer (some ⟨A, 0, none⟩)] w fun x w' => x = .returned (.int .u16 (g.len : Int)) ∧ ∃ n, w' = w.drewN n := by
  have hh := here_any h
  have hw : IntKind.u16.wrap (g.len : Int) = (g.len : Int) := by simp [IntKind.wrap, IntKind.bits, IntKind.signed]; omega
  clear h
  go_enter Tryz.func96, Tryz.ntmps96
  go_wp2_with fail
  refine hh.mono ?_
  rintro x w' ⟨rfl, n, rfl⟩
  clear hh
  go_wp2
  go_ret
  exact ⟨rfl, _, rfl⟩
theorem AsmAt.marked {w2 : World} {s : List UInt8} (h : AsmAt w base A g OV TV mb zs) (hm : MkAt w2 mb ((s, (g.len : Int)) :: g.marks)) (hg : w.grownBy w2 (some mb)) (hl : g.marks.length + 1 ≤ 900) :
    AsmAt w2 base A { g with marks := (s, (g.len : Int)) :: g.marks } OV TV mb zs ∧ Ch w w2 (AsmBlk A OV TV mb) := by
  have e1 := mk_blk_ne h.mks h.cell
  have e2 := mk_own_ne h.mks h.out
  have e3 := mk_own_ne h.mks h.told
  refine ⟨⟨h.cell.grown hg (fun e => e1 (by injection e with e; exact e.symm)), own_keep h.out fun k hk => hg.block k (h.out.lt k hk).2 (fun e => e2 (hk.trans e)), h.z8, hm, own_keep h.told fun k hk => hg.block k (h.told.lt k hk).2 (fun e => e3 (hk.trans e)), h.lo, h.le, hl, h.tl⟩, ?_⟩
  exact Ch.of_grown hg fun k e => .inr (.inl (by injection e with e; exact e.symm))
set_option maxRecDepth 100000 in
set_option maxHeartbeats 1000000 in
theorem mark_any (h : AsmAt w base A g OV TV mb zs) (s : ByteArray) (hs : s.size ≤ maxLen) (hn : lookM g.marks s.data.toList = none) (hl : g.marks.length + 1 ≤ 900) :
    Calls Tryz.prog 61 #[.pointer (some ⟨A, 0, none⟩), .string s] w fun x w' => x = .returned (.tuple #[]) ∧ AsmO w w' base A { g with marks := (s.data.toList, (g.len : Int)) :: g.marks } OV TV mb := by
  have hbad := bad_any h
  have c2 : w.cell? ⟨A, 2, none⟩ = some (.map (some mb)) := (h.cell.cell 2).trans rfl
  have hlk := h.mks.look hs
  rw [hn] at hlk
  have hlk : (Instr.lookup 184 (.map (some mb)) (.string s) true).run Tryz.prog w = .ok (.tuple #[.int .i64 0, .bool false]) w := hlk
  have HH := Lib.hid h
  clear h hn
  go_enter Tryz.func61, Tryz.ntmps61
  go_wp2_with fail
  refine hbad.mono ?_
  rintro x w' ⟨rfl, rfl⟩
  clear hbad
  go_upto_region 4 with fail
  clear hlk
  refine wp_region_held_drew (S := fun w' => w'.cell? ⟨A, 2, none⟩ = some (.map (some mb))) (by kernel_rfl) ?_ (fun hHeld => ?_)
  · exact c2
  have HW := Lib.hid (show AsmAt w.drew base A g OV TV mb zs ∧ Ch w w.drew (fun _ => False) ∧ w.drew.heap.size = w.heap.size from ⟨HH.out.drew, ⟨rfl, rfl, rfl, Nat.le_refl _, fun _ _ _ => rfl⟩, rfl⟩)
  clear HH c2
  generalize w.drew = W at *
  refine wpAnyH_take (i := 0) (oi := _) (v := ?_) (by simp only [List.getElem?_toArray, List.getElem?_cons_succ, List.getElem?_cons_zero]; rfl) (by kernel_rfl) (by kernel_rfl) (by kernel_rfl) (by intro _ _ _ h; exact h) (Or.inl ⟨by rfl, ?_⟩) (by assumption) ?_
  rotate_left
  · intro w hSw
    try dsimp only at hSw
    go_simp
    try with_reducible rfl
  try simp only [Act.put, List.setIfInBounds_toArray, List.set_cons_zero, List.set_cons_succ]
  refine wpAnyH_take (i := 1) (oi := _) (v := ?_) (by simp only [List.getElem?_toArray, List.getElem?_cons_succ, List.getElem?_cons_zero]; rfl) (by kernel_rfl) (by kernel_rfl) (by kernel_rfl) (by intro _ _ _ h; exact h) (Or.inl ⟨by rfl, ?_⟩) (by assumption) ?_
  rotate_left
  · intro w hSw
    try dsimp only at hSw
    go_simp
    try with_reducible rfl
  try simp only [Act.put, List.setIfInBounds_toArray, List.set_cons_zero, List.set_cons_succ]
  refine wpAnyH_take (i := 2) (oi := _) (v := ?_) (by simp only [List.getElem?_toArray, List.getElem?_cons_succ, List.getElem?_cons_zero]; rfl) (by kernel_rfl) (by kernel_rfl) (by kernel_rfl) (by intro _ _ _ h; exact h) (Or.inl ⟨by rfl, ?_⟩) (by assumption) ?_
  rotate_left
  · intro w hSw
    try dsimp only at hSw
    go_simp
    try with_reducible rfl
  try simp only [Act.put, List.setIfInBounds_toArray, List.set_cons_zero, List.set_cons_succ]
  refine wpAnyH_take (i := 3) (oi := _) (v := ?_) (by simp only [List.getElem?_toArray, List.getElem?_cons_succ, List.getElem?_cons_zero]; rfl) (by kernel_rfl) (by kernel_rfl) (by kernel_rfl) (by intro _ _ _ h; exact h) (Or.inl ⟨by rfl, ?_⟩) (by assumption) ?_
  rotate_left
  · intro w hSw
    try dsimp only at hSw
    go_simp
    try with_reducible rfl
  try simp only [Act.put, List.setIfInBounds_toArray, List.set_cons_zero, List.set_cons_succ]
  refine wpAnyH_take (i := 4) (oi := _) (v := ?_) (by simp only [List.getElem?_toArray, List.getElem?_cons_succ, List.getElem?_cons_zero]; rfl) (by kernel_rfl) (by kernel_rfl) (by kernel_rfl) (by intro _ _ _ h; exact h) (Or.inl ⟨by rfl, ?_⟩) (by assumption) ?_
  rotate_left
  · intro w hSw
    try dsimp only at hSw
    go_simp
    try with_reducible rfl
  try simp only [Act.put, List.setIfInBounds_toArray, List.set_cons_zero, List.set_cons_succ]
  refine wpAnyH_take (i := 5) (oi := _) (v := ?_) (by simp only [List.getElem?_toArray, List.getElem?_cons_succ, List.getElem?_cons_zero]; rfl) (by kernel_rfl) (by kernel_rfl) (by kernel_rfl) (by intro _ _ _ h; exact h) (Or.inl ⟨by rfl, ?_⟩) (by assumption) ?_
  rotate_left
  · intro w hSw
    try dsimp only at hSw
    go_simp
    try with_reducible rfl
  try simp only [Act.put, List.setIfInBounds_toArray, List.set_cons_zero, List.set_cons_succ]
  refine wpAnyH_ready (rs := [6]) (by kernel_rfl) (by simp) ?_
  refine AllReadyH.cons (o := _) (by simp only [List.getElem?_toArray, List.getElem?_cons_succ, List.getElem?_cons_zero]; rfl) (fun K hK => ?_) AllReadyH.nil
  go_simp
  go_wp2_with fail
  refine (here_any HW.out.1).mono ?_
  rintro x w1 ⟨rfl, q, rfl⟩
  have HV := Lib.hid (show AsmAt (W.drewN q) base A g OV TV mb zs ∧ Ch w (W.drewN q) (fun _ => False) ∧ (W.drewN q).heap.size = w.heap.size from ⟨HW.out.1.drewN q, ⟨HW.out.2.1.os, HW.out.2.1.tape, HW.out.2.1.output, HW.out.2.1.size, HW.out.2.1.block⟩, HW.out.2.2⟩)
  clear HW
  refine hK.out _ _ ?_ (fun hHeld => ?_)
  · exact (HV.out.1.cell.cell 2).trans rfl
  clear hK K
  try simp only [Act.put, List.setIfInBounds_toArray, List.set_cons_zero, List.set_cons_succ]
  generalize W.drewN q = V at *
  obtain ⟨w2, hput, hmk, hgr⟩ := HV.out.1.mks.put hs (x := (g.len : Int)) (by have := HV.out.1.le; simp only [Lit.wf, Bool.and_eq_true, decide_eq_true_eq]; exact ⟨show (-9223372036854775808 : Int) ≤ _ by omega, show _ ≤ (9223372036854775807 : Int) by omega⟩) (by omega)
  have HM := Lib.hid (And.intro hmk hgr)
  clear hmk hgr
  refine wpAnyH_ready (rs := [7]) (by kernel_rfl) (by simp) ?_
  refine AllReadyH.cons (o := _) (by simp only [List.getElem?_toArray, List.getElem?_cons_succ, List.getElem?_cons_zero]; rfl) (fun K hK => ?_) AllReadyH.nil
  go_simp
  refine hK.out _ _ ?_ (fun hHeld => ?_)
  · exact (Blk.cell (HV.out.1.cell.grown HM.out.2 (fun e => mk_blk_ne HV.out.1.mks HV.out.1.cell (by injection e with e; exact e.symm))) 2).trans rfl
  clear hK K
  try simp only [Act.put, List.setIfInBounds_toArray, List.set_cons_zero, List.set_cons_succ]
  obtain ⟨k1, k2⟩ := HV.out.1.marked HM.out.1 HM.out.2 hl
  have HX := Lib.hid (show AsmO w w2 base A { g with marks := (s.data.toList, (g.len : Int)) :: g.marks } OV TV mb from ⟨_, _, _, k1, HV.out.2.1.trans k2 (fun _ e => e.elim) (fun _ _ e => e), .inl rfl, .inl rfl⟩)
  clear k1 k2 HV HM hput
  refine wpAnyH_done (by kernel_rfl) ?_ _
  go_wp2
  first | go_end0 | ((try simp only [Exit.inBlock, Exit.then]); refine bodyPost_ret (v := .tuple #[]) (results_none rfl _ _ _) rfl ?_)
  exact ⟨rfl, HX.out⟩
end
end Rm
end Go.Proofs.YtnlaedfnifimkaaGreat
namespace Go.Proofs.YtnlaedfnifimkaaGreat
open Go.RowKit Ck
namespace Rm
theorem toldInfo : (Tryz.prog.info? 194).map (fun i => (i.zero, i.size, i.bytes)) = some (some (.agg #[.string ⟨#[]⟩, .int .i64 0, .bool false]), 3, 32) := by kernel_rfl
theorem make2 (w : World) : (Instr.makeSlice 24 (.int .i64 2) (.int .i64 2)).run Tryz.prog w = .ok (.slice (some ⟨w.heap.size, 0, none⟩) 2 2) (w.alloc (.cells #[.int .u8 0, .int .u8 0] 5)) := by
  obtain ⟨i0, hi, hz0, hz1, hz2⟩ := info_parts u8Info
  have h := run_makeSlice (P := Tryz.prog) w 24 5 i0 _ Tryz.underlying24 hi hz0 .i64 .i64 2 2 (by omega) (by omega) (by rw [hz1]; decide) (by rw [hz2]; decide) (by decide)
  rw [hz1] at h
  rw [h]
  have e : madeCells (Value.int .u8 0).cells ((2 : Int).toNat * 1) = #[.int .u8 0, .int .u8 0] := by kernel_rfl
  rw [e]
  rfl
set_option maxHeartbeats 1000000 in
theorem clone8_any (w : World) (n c : Nat) (A : Option Addr) (zs : List Value) (hr : Reads w w.heap.size 1 A n zs) (hone : ∀ u ∈ zs, u.oneCell' = true) (hn : n ≤ 1000000000) :
    Calls Tryz.prog 101 #[.slice A n c] w fun e w' => ∃ V cV, e = .returned (.slice V n cV) ∧ w'.ownsRow w.heap.size 5 1 (.slice V n cV) n zs ∧ Below w.heap.size w w' := by
  obtain ⟨i0, hi, hz0, hz1, hz2⟩ := info_parts u8Info
  rcases A with _ | ad
  · have h0 : n = 0 := by
      rcases Nat.eq_zero_or_pos n with h | h
      · exact h
      · obtain ⟨ad, e, _⟩ := hr.2 h; cases e
    subst h0
    have hz : zs = [] := List.eq_nil_of_length_eq_zero (by have := hr.1; omega)
    subst hz
    have hnil := Lib.run_eql_slice_nil (P := Tryz.prog) w 24 5 none 0 c 0 0 Tryz.underlying24
    go_enter Tryz.func101, Tryz.ntmps101
    go_wp2
    go_ret
    exact ⟨none, 0, rfl, World.ownsRow_nil _ _ _ _, Below.refl _ _⟩
  · have hnil := Lib.run_eql_slice_nil (P := Tryz.prog) w 24 5 (some ad) n c 0 0 Tryz.underlying24
    have hb0 : Below w.heap.size w (w.alloc (.cells #[] 5)) := (Below.refl _ _).alloc (Nat.le_refl _) _
    have hlit : (w.alloc (.cells #[] 5)).ownsRow w.heap.size 5 1 (.slice (some ⟨w.heap.size, 0, none⟩) 0 0) 0 [] := World.ownsRow_lit w #[] 0 (Nat.le_refl _) (by unfold maxLen; omega) rfl
    have hr0 := hr.below hb0
    go_enter Tryz.func101, Tryz.ntmps101
    go_wp2_with (first
      | (at_builtin; refine wpList_append_any _ rfl _ _ 24 rfl w.heap.size 5 i0 (.int .u8 0) 1 1 Tryz.underlying24 hi hz0 hz1 hz2 rfl (by omega) _ 0 [] rfl hlit w.heap.size (some ad) n c zs rfl hr0 hone (by unfold maxLen; omega) (by omega) (by have := hb0.size; omega) ?_)
      | go_in)
    intro v2 w2 own2 hg2 _
    have hb2 : Below w.heap.size w w2 := hb0.grown hg2 hb0.size (fun i hi => by simp [Value.ownBlock] at hi; omega)
    have own3 : w2.ownsRow w.heap.size 5 1 v2 n zs := by simpa using own2
    obtain ⟨A3, c3, rfl⟩ := own_slice own3
    go_wp2
    go_ret
    exact ⟨A3, c3, rfl, own3, hb2⟩
section
variable {w w' : World} {base A mb : Nat} {g : AG} {OV TV : Value} {zs : List Int}
theorem AsmAt.tolds {w2 : World} {TV2 : Value} {t : List UInt8 × Nat × Bool} (h : AsmAt w base A g OV TV mb zs) (h2 : w2.ownsRow base 194 3 TV2 (g.told.length + 1) (toldV (g.told ++ [t]))) (hg : w.grownBy w2 TV.ownBlock) (hl : g.told.length + 1 ≤ 900) :
    AsmAt (w2.setCell ⟨A, 3, none⟩ TV2) base A { g with told := g.told ++ [t] } OV TV2 mb zs ∧ Ch w (w2.setCell ⟨A, 3, none⟩ TV2) (AsmBlk A OV TV mb) := by
  have e1 := own_blk_ne h.told h.cell (by decide)
  have e2 := own_types_ne h.out h.told (by decide)
  have e3 := mk_own_ne h.mks h.told
  have hA := h.cell.lt
  have hcell : Blk w2 A 187 #[.int .i64 0, OV, .map (some mb), TV, .int .i64 0] := h.cell.grown hg (fun e => e1 e.symm)
  have f1 := own_blk_ne h2 hcell (by decide)
  have hmk : MkAt w2 mb g.marks := h.mks.kept (hg.block mb h.mks.lt (fun e => e3 e.symm))
  have hout : w2.ownsRow base 5 1 OV g.len (zs.map (Value.int .u8)) := own_keep h.out fun k hk => hg.block k (h.out.lt k hk).2 (fun e => e2 k hk e.symm)
  have g1 := mk_blk_ne hmk hcell
  have g2 := own_blk_ne hout hcell (by decide)
  refine ⟨⟨hcell.set_ 3 TV2, own_keep hout fun k hk => Below.heap_setCell _ _ _ _ (fun e => g2 (by rw [hk, e])), h.z8, hmk.kept (Below.heap_setCell _ _ _ _ g1), ?_, h.lo, h.le, h.ml, by simpa using hl⟩, ?_⟩
  · rw [show (g.told ++ [t]).length = g.told.length + 1 by simp]
    exact own_keep h2 fun k hk => Below.heap_setCell _ _ _ _ (fun e => f1 (by rw [hk, e]))
  · refine ⟨hg.os, hg.tape, hg.output, by simpa [World.setCell] using hg.size, fun k hk hne => ?_⟩
    have k1 : k ≠ A := fun e => hne (.inl e)
    rw [Below.heap_setCell _ _ _ _ k1]
    exact hg.block k hk (fun e => hne (.inr (.inr (.inr e.symm))))
theorem AsmO.next {w1 w2 : World} {g1 g2 : AG} {OV' TV' : Value} {zs' : List Int} (h1 : AsmAt w1 base A g1 OV' TV' mb zs') (h2 : Ch w w1 (AsmBlk A OV TV mb)) (h3 : NewBlk w OV OV') (h4 : NewBlk w TV TV') (hb : AsmO w1 w2 base A g2 OV' TV' mb) : AsmO w w2 base A g2 OV TV mb := by
  obtain ⟨OV2, TV2, zs2, k1, k2, k3, k4⟩ := hb
  have nb : ∀ {V V' V2 : Value}, NewBlk w V V' → NewBlk w1 V' V2 → NewBlk w V V2 := fun a b => by
    rcases b with b | ⟨k, b, c⟩
    · rcases a with a | ⟨k, a, c⟩
      · exact .inl (b.trans a)
      · exact .inr ⟨k, b.trans a, c⟩
    · exact .inr ⟨k, b, Nat.le_trans h2.size c⟩
  refine ⟨OV2, TV2, zs2, k1, h2.trans k2 (fun q e => e) (fun q hq e => ?_), nb h3 k3, nb h4 k4⟩
  rcases e with e | e | e | e
  · exact .inl e
  · exact .inr (.inl e)
  · rcases h3 with h3 | ⟨k, h3, c⟩
    · exact .inr (.inr (.inl (h3.symm.trans e)))
    · rw [h3] at e; injection e with e; omega
  · rcases h4 with h4 | ⟨k, h4, c⟩
    · exact .inr (.inr (.inr (h4.symm.trans e)))
    · rw [h4] at e; injection e with e; omega
end
set_option maxRecDepth 100000 in
set_option maxHeartbeats 2000000 in
theorem fill_any {w : World} {base A mb : Nat} {g : AG} {OV TV : Value} {zs : List Int} (h : AsmAt w base A g OV TV mb zs) (hb : base ≤ w.heap.size) (s : ByteArray) (near : Bool) (CA : Option Addr) (n cc : Nat) (us : List Int) (hr : Reads w w.heap.size 1 CA n (us.map (Value.int .u8))) (hu : isU8 us) (hn : g.len + (n + (if near then 1 else 2)) ≤ 65536) (ht : g.told.length + 1 ≤ 900) :
    Calls Tryz.prog 95 #[.pointer (some ⟨A, 0, none⟩), .string s, .bool near, .slice CA n cc] w fun x w' => x = .returned (.tuple #[]) ∧ AsmO w w' base A ⟨g.len + (n + (if near then 1 else 2)), g.marks, g.told ++ [(s.data.toList, g.len + n, near)]⟩ OV TV mb := by
  obtain ⟨OA, oc, rfl⟩ := own_slice h.out
  have hbad := bad_any h
  have c1 : w.cell? ⟨A, 1, none⟩ = some (.slice OA g.len oc) := (h.cell.cell 1).trans rfl
  have hmk := make2
  have hw1 : IntKind.i64.wrap ((g.len : Int) + (n : Int)) = ((g.len + n : Nat) : Int) := by have := h.le; rw [IntKind.wrap_i64]; split at hn <;> omega
  have HH := Lib.hid h
  have HN := Lib.hid hn
  clear h hn
  go_enter Tryz.func95, Tryz.ntmps95
  go_wp2_with fail
  refine hbad.mono ?_
  rintro x w' ⟨rfl, rfl⟩
  clear hbad
  go_upto_region 3 with fail
  have hbW := (Below.refl w.heap.size w).alloc (Nat.le_refl _) (.cells #[.int .u8 0, .int .u8 0] 5)
  have HZ := Lib.hid (Blk.new w 5 #[.int .u8 0, .int .u8 0])
  have HS := Lib.hid (show w.heap.size < (w.alloc (.cells #[.int .u8 0, .int .u8 0] 5)).heap.size by simp)
  have hrW : Reads (w.alloc (.cells #[.int .u8 0, .int .u8 0] 5)) (w.alloc (.cells #[.int .u8 0, .int .u8 0] 5)).heap.size 1 CA n (us.map (Value.int .u8)) := (hr.below hbW).more hbW.size
  have HB := Lib.hid hbW
  obtain ⟨i0, hi, hz0, hz1, hz2⟩ := info_parts u8Info
  obtain ⟨i1, hj, hy0, hy1, hy2⟩ := info_parts toldInfo
  have hone : ∀ u ∈ us.map (Value.int .u8), u.oneCell' = true := by intro u hu; obtain ⟨x, _, rfl⟩ := List.mem_map.1 hu; rfl
  clear hbW hr c1 hmk
  generalize w.alloc (.cells #[.int .u8 0, .int .u8 0] 5) = W at *
  cases near with
  | true =>
    have hN : g.len + (n + 1) ≤ 65536 := by have := HN.out; simpa using this
    clear HN
    go_upto_region 5 with fail
    go_wp2_with fail
    refine (clone8_any W n cc CA _ hrW hone (by omega)).mono ?_
    rintro x w2 ⟨V, vc, rfl, own2, hb2⟩
    have hZ2 : Reads w2 w2.heap.size 1 (some ⟨w.heap.size, 0, none⟩) 1 ([Value.int .u8 0]) := ⟨rfl, fun _ => ⟨⟨w.heap.size, 0, none⟩, rfl, by have := HS.out; have := hb2.size; show w.heap.size < w2.heap.size; omega, fun j u hj => by
      rw [add_mk, Nat.zero_add]
      have hj2 : j < 1 := by have := (List.getElem?_eq_some_iff.1 hj).1; simpa using this
      rw [(HZ.out.below hb2 HS.out).cell j]
      match j, hj2, hj with
      | 0, _, hj => exact hj
 ⟩⟩
    have hsz2 := hb2.size
    have hWw := HB.out.size
    go_wp2_with (first
      | (at_builtin; refine wpList_append_any _ rfl _ _ 24 rfl W.heap.size 5 i0 (.int .u8 0) 1 1 Tryz.underlying24 hi hz0 hz1 hz2 rfl (by omega) _ n _ rfl own2 w2.heap.size (some ⟨w.heap.size, 0, none⟩) 1 2 _ rfl hZ2 (by simp [Value.oneCell']) (by unfold maxLen; omega) (by omega) hsz2 ?_)
      | go_in)
    intro v3 w3 own3 hg3 _
    have hb3 : Below W.heap.size W w3 := hb2.grown hg3 hb2.size (fun i hi => (own2.lt i hi).1)
    obtain ⟨VA, vac, rfl⟩ := own_slice own3
    have HB3 := Lib.hid (show Below w.heap.size w w3 from HB.out.trans (hb3.mono hWw))
    have hR3 := Reads.of_own own3
    rw [show us.map (Value.int .u8) ++ [Value.int .u8 0] = (us ++ [0]).map (Value.int .u8) by simp] at hR3
    have hby := bytes_any (HH.out.kept HB3.out) (Nat.le_trans hb HB3.out.size) VA (n + 1) vac (us ++ [0]) hR3 (by intro z hz; rcases List.mem_append.1 hz with hz | hz; exact hu z hz; simp at hz; omega) hN
    clear own2 own3 hb2 hb3 hg3 hZ2 hR3 hrW hsz2
    go_wp2_with fail
    refine hby.mono ?_
    rintro x w4 ⟨rfl, hO⟩
    clear hby
    obtain ⟨OV4, TV4, zs4, a1, a2, a3, a4⟩ := AsmO.next (HH.out.kept HB3.out) (Ch.of_below HB3.out) (.inl rfl) (.inl rfl) hO
    clear hO
    obtain ⟨TA, tc, rfl⟩ := own_slice a1.told
    have c3 : w4.cell? ⟨A, 3, none⟩ = some (.slice TA g.told.length tc) := (a1.cell.cell 3).trans rfl
    have H4 := Lib.hid a1
    have HO := Lib.hid (And.intro a2 (And.intro a3 a4))
    have H5 := Lib.hid (show AsmAt (w4.alloc (.cells #[.string s, .int .i64 ((g.len : Int) + (n : Int)), .bool true] 194)) base A ⟨g.len + (n + 1), g.marks, g.told⟩ OV4 (.slice TA g.told.length tc) mb zs4 ∧ Below w4.heap.size w4 (w4.alloc (.cells #[.string s, .int .i64 ((g.len : Int) + (n : Int)), .bool true] 194)) from ⟨a1.kept ((Below.refl _ _).alloc (Nat.le_refl _) _), (Below.refl _ _).alloc (Nat.le_refl _) _⟩)
    have hBt := Blk.new w4 194 #[.string s, .int .i64 ((g.len : Int) + (n : Int)), .bool true]
    have hlt5 : w4.heap.size < (w4.alloc (.cells #[.string s, .int .i64 ((g.len : Int) + (n : Int)), .bool true] 194)).heap.size := by simp
    have hr5 : Reads (w4.alloc (.cells #[.string s, .int .i64 ((g.len : Int) + (n : Int)), .bool true] 194)) (w4.alloc (.cells #[.string s, .int .i64 ((g.len : Int) + (n : Int)), .bool true] 194)).heap.size 3 (some ⟨w4.heap.size, 0, none⟩) 1 [.string s, .int .i64 ((g.len : Int) + (n : Int)), .bool true] := ⟨rfl, fun _ => ⟨⟨w4.heap.size, 0, none⟩, rfl, hlt5, fun j u hj => by
      rw [add_mk, Nat.zero_add, hBt.cell j]
      simpa using hj⟩⟩
    have hb5 : base ≤ (w4.alloc (.cells #[.string s, .int .i64 ((g.len : Int) + (n : Int)), .bool true] 194)).heap.size := by have := H4.out.lt (k := A) (.inl rfl); omega
    have hto := H5.out.1.told
    clear a1 a2 a3 a4 hBt
    go_wp2_with (first
      | (at_builtin; refine wpList_append_any _ rfl _ _ 185 rfl base 194 i1 (.agg #[.string ⟨#[]⟩, .int .i64 0, .bool false]) 3 32 Tryz.underlying185 hj hy0 hy1 hy2 rfl (by omega) _ g.told.length _ rfl hto (w4.alloc (.cells #[.string s, .int .i64 ((g.len : Int) + (n : Int)), .bool true] 194)).heap.size (some ⟨w4.heap.size, 0, none⟩) 1 1 _ rfl hr5 (by simp [Value.oneCell']) (by unfold maxLen; omega) (by omega) hb5 ?_)
      | go_in)
    intro v6 w6 own6 hg6 hnew6
    rw [show ((g.len : Int) + (n : Int)) = ((g.len + n : Nat) : Int) by omega] at own6
    rw [show toldV g.told ++ [.string s, .int .i64 ((g.len + n : Nat) : Int), .bool true] = toldV (g.told ++ [(s.data.toList, g.len + n, true)]) by rw [toldV_snoc]] at own6
    obtain ⟨k1, k2⟩ := H5.out.1.tolds own6 hg6 ht
    have hcA := H5.out.1.cell.grown hg6 (fun e => own_blk_ne H5.out.1.told H5.out.1.cell (by decide) e.symm)
    have d3 : w6.cell? ⟨A, 3, none⟩ = some (.slice TA g.told.length tc) := (hcA.cell 3).trans rfl
    have f3 : w6.frozen? ⟨A, 3, none⟩ = false := hcA.frozen 3
    obtain ⟨TA6, tc6, rfl⟩ := own_slice own6
    have HX := Lib.hid (show AsmO w (w6.setCell ⟨A, 3, none⟩ (.slice TA6 (g.told.length + 1) tc6)) base A ⟨g.len + (n + 1), g.marks, g.told ++ [(s.data.toList, g.len + n, true)]⟩ (.slice OA g.len oc) TV mb from
      AsmO.next H4.out HO.out.1 HO.out.2.1 HO.out.2.2 ⟨_, _, _, k1, (Ch.of_below (φ := fun _ => False) H5.out.2).trans k2 (fun _ e => e.elim) (fun _ _ e => e), .inl rfl, by
        rcases hnew6 with e | e
        · exact .inl e
        · exact .inr ⟨_, e, Nat.le_succ _⟩⟩)
    clear k1 k2 own6 hg6 hnew6 hto hr5 c3 H4 HO H5 HH hcA HB3
    go_wp2
    first | go_end0 | ((try simp only [Exit.inBlock, Exit.then]); refine bodyPost_ret (v := .tuple #[]) (results_none rfl _ _ _) rfl ?_)
    exact ⟨rfl, by simpa using HX.out⟩
  | false =>
    have hN : g.len + (n + 2) ≤ 65536 := by have := HN.out; simpa using this
    clear HN
    go_upto_region 5 with fail
    go_wp2_with fail
    refine (clone8_any W n cc CA _ hrW hone (by omega)).mono ?_
    rintro x w2 ⟨V, vc, rfl, own2, hb2⟩
    have hZ2 : Reads w2 w2.heap.size 1 (some ⟨w.heap.size, 0, none⟩) 2 ([Value.int .u8 0, Value.int .u8 0]) := ⟨rfl, fun _ => ⟨⟨w.heap.size, 0, none⟩, rfl, by have := HS.out; have := hb2.size; show w.heap.size < w2.heap.size; omega, fun j u hj => by
      rw [add_mk, Nat.zero_add]
      have hj2 : j < 2 := by have := (List.getElem?_eq_some_iff.1 hj).1; simpa using this
      rw [(HZ.out.below hb2 HS.out).cell j]
      match j, hj2, hj with
      | 0, _, hj => exact hj
      | 1, _, hj => exact hj⟩⟩
    have hsz2 := hb2.size
    have hWw := HB.out.size
    go_wp2_with (first
      | (at_builtin; refine wpList_append_any _ rfl _ _ 24 rfl W.heap.size 5 i0 (.int .u8 0) 1 1 Tryz.underlying24 hi hz0 hz1 hz2 rfl (by omega) _ n _ rfl own2 w2.heap.size (some ⟨w.heap.size, 0, none⟩) 2 2 _ rfl hZ2 (by simp [Value.oneCell']) (by unfold maxLen; omega) (by omega) hsz2 ?_)
      | go_in)
    intro v3 w3 own3 hg3 _
    have hb3 : Below W.heap.size W w3 := hb2.grown hg3 hb2.size (fun i hi => (own2.lt i hi).1)
    obtain ⟨VA, vac, rfl⟩ := own_slice own3
    have HB3 := Lib.hid (show Below w.heap.size w w3 from HB.out.trans (hb3.mono hWw))
    have hR3 := Reads.of_own own3
    rw [show us.map (Value.int .u8) ++ [Value.int .u8 0, Value.int .u8 0] = (us ++ [0, 0]).map (Value.int .u8) by simp] at hR3
    have hby := bytes_any (HH.out.kept HB3.out) (Nat.le_trans hb HB3.out.size) VA (n + 2) vac (us ++ [0, 0]) hR3 (by intro z hz; rcases List.mem_append.1 hz with hz | hz; exact hu z hz; simp at hz; omega) hN
    clear own2 own3 hb2 hb3 hg3 hZ2 hR3 hrW hsz2
    go_wp2_with fail
    refine hby.mono ?_
    rintro x w4 ⟨rfl, hO⟩
    clear hby
    obtain ⟨OV4, TV4, zs4, a1, a2, a3, a4⟩ := AsmO.next (HH.out.kept HB3.out) (Ch.of_below HB3.out) (.inl rfl) (.inl rfl) hO
    clear hO
    obtain ⟨TA, tc, rfl⟩ := own_slice a1.told
    have c3 : w4.cell? ⟨A, 3, none⟩ = some (.slice TA g.told.length tc) := (a1.cell.cell 3).trans rfl
    have H4 := Lib.hid a1
    have HO := Lib.hid (And.intro a2 (And.intro a3 a4))
    have H5 := Lib.hid (show AsmAt (w4.alloc (.cells #[.string s, .int .i64 ((g.len : Int) + (n : Int)), .bool false] 194)) base A ⟨g.len + (n + 2), g.marks, g.told⟩ OV4 (.slice TA g.told.length tc) mb zs4 ∧ Below w4.heap.size w4 (w4.alloc (.cells #[.string s, .int .i64 ((g.len : Int) + (n : Int)), .bool false] 194)) from ⟨a1.kept ((Below.refl _ _).alloc (Nat.le_refl _) _), (Below.refl _ _).alloc (Nat.le_refl _) _⟩)
    have hBt := Blk.new w4 194 #[.string s, .int .i64 ((g.len : Int) + (n : Int)), .bool false]
    have hlt5 : w4.heap.size < (w4.alloc (.cells #[.string s, .int .i64 ((g.len : Int) + (n : Int)), .bool false] 194)).heap.size := by simp
    have hr5 : Reads (w4.alloc (.cells #[.string s, .int .i64 ((g.len : Int) + (n : Int)), .bool false] 194)) (w4.alloc (.cells #[.string s, .int .i64 ((g.len : Int) + (n : Int)), .bool false] 194)).heap.size 3 (some ⟨w4.heap.size, 0, none⟩) 1 [.string s, .int .i64 ((g.len : Int) + (n : Int)), .bool false] := ⟨rfl, fun _ => ⟨⟨w4.heap.size, 0, none⟩, rfl, hlt5, fun j u hj => by
      rw [add_mk, Nat.zero_add, hBt.cell j]
      simpa using hj⟩⟩
    have hb5 : base ≤ (w4.alloc (.cells #[.string s, .int .i64 ((g.len : Int) + (n : Int)), .bool false] 194)).heap.size := by have := H4.out.lt (k := A) (.inl rfl); omega
    have hto := H5.out.1.told
    clear a1 a2 a3 a4 hBt
    go_wp2_with (first
      | (at_builtin; refine wpList_append_any _ rfl _ _ 185 rfl base 194 i1 (.agg #[.string ⟨#[]⟩, .int .i64 0, .bool false]) 3 32 Tryz.underlying185 hj hy0 hy1 hy2 rfl (by omega) _ g.told.length _ rfl hto (w4.alloc (.cells #[.string s, .int .i64 ((g.len : Int) + (n : Int)), .bool false] 194)).heap.size (some ⟨w4.heap.size, 0, none⟩) 1 1 _ rfl hr5 (by simp [Value.oneCell']) (by unfold maxLen; omega) (by omega) hb5 ?_)
      | go_in)
    intro v6 w6 own6 hg6 hnew6
    rw [show ((g.len : Int) + (n : Int)) = ((g.len + n : Nat) : Int) by omega] at own6
    rw [show toldV g.told ++ [.string s, .int .i64 ((g.len + n : Nat) : Int), .bool false] = toldV (g.told ++ [(s.data.toList, g.len + n, false)]) by rw [toldV_snoc]] at own6
    obtain ⟨k1, k2⟩ := H5.out.1.tolds own6 hg6 ht
    have hcA := H5.out.1.cell.grown hg6 (fun e => own_blk_ne H5.out.1.told H5.out.1.cell (by decide) e.symm)
    have d3 : w6.cell? ⟨A, 3, none⟩ = some (.slice TA g.told.length tc) := (hcA.cell 3).trans rfl
    have f3 : w6.frozen? ⟨A, 3, none⟩ = false := hcA.frozen 3
    obtain ⟨TA6, tc6, rfl⟩ := own_slice own6
    have HX := Lib.hid (show AsmO w (w6.setCell ⟨A, 3, none⟩ (.slice TA6 (g.told.length + 1) tc6)) base A ⟨g.len + (n + 2), g.marks, g.told ++ [(s.data.toList, g.len + n, false)]⟩ (.slice OA g.len oc) TV mb from
      AsmO.next H4.out HO.out.1 HO.out.2.1 HO.out.2.2 ⟨_, _, _, k1, (Ch.of_below (φ := fun _ => False) H5.out.2).trans k2 (fun _ e => e.elim) (fun _ _ e => e), .inl rfl, by
        rcases hnew6 with e | e
        · exact .inl e
        · exact .inr ⟨_, e, Nat.le_succ _⟩⟩)
    clear k1 k2 own6 hg6 hnew6 hto hr5 c3 H4 HO H5 HH hcA HB3
    go_wp2
    first | go_end0 | ((try simp only [Exit.inBlock, Exit.then]); refine bodyPost_ret (v := .tuple #[]) (results_none rfl _ _ _) rfl ?_)
    exact ⟨rfl, by simpa using HX.out⟩
end Rm
end Go.Proofs.YtnlaedfnifimkaaGreat
namespace Go.Proofs.YtnlaedfnifimkaaGreat
open Go.RowKit Ck
namespace Rm
def toldOk (g : AG) (t : List UInt8 × Nat × Bool) : Bool :=
  match lookM g.marks t.1 with
  | none => false
  | some q => decide (t.1.length ≤ 1000) && decide (0 ≤ q) && decide (q ≤ 65536) && (if t.2.2 then decide (t.2.1 < g.len) && decide (-128 ≤ q - ((t.2.1 : Int) + 1)) && decide (q - ((t.2.1 : Int) + 1) ≤ 127) else decide (t.2.1 + 1 < g.len))
def doneOk (g : AG) : Bool := g.told.all (toldOk g)
theorem toldV_at {l : List (List UInt8 × Nat × Bool)} {i : Nat} {t : List UInt8 × Nat × Bool} (h : l[i]? = some t) : (toldV l)[i * 3]? = some (.string ⟨t.1.toArray⟩) ∧ (toldV l)[i * 3 + 1]? = some (.int .i64 t.2.1) ∧ (toldV l)[i * 3 + 2]? = some (.bool t.2.2) := by
  induction l generalizing i with
  | nil => simp at h
  | cons a l ih =>
    cases i with
    | zero =>
      simp at h
      subst h
      simp [toldV]
    | succ i =>
      have := ih (i := i) (by simpa using h)
      have e : toldV (a :: l) = [.string ⟨a.1.toArray⟩, .int .i64 a.2.1, .bool a.2.2] ++ toldV l := by simp [toldV]
      rw [e]
      refine ⟨?_, ?_, ?_⟩
      · rw [List.getElem?_append_right (by simp; omega)]; simpa [show (i + 1) * 3 - 3 = i * 3 by omega] using this.1
      · rw [List.getElem?_append_right (by simp; omega)]; simpa [show (i + 1) * 3 + 1 - 3 = i * 3 + 1 by omega] using this.2.1
      · rw [List.getElem?_append_right (by simp; omega)]; simpa [show (i + 1) * 3 + 2 - 3 = i * 3 + 2 by omega] using this.2.2
structure Row8 (w wr : World) (og len cV : Nat) : Prop where
  lo : w.heap.size ≤ og
  le : len ≤ cV
  mx : cV ≤ maxLen
  ex : ∃ cs : Array Value, Blk wr og 5 cs ∧ cs.size = cV ∧ ∀ (i : Nat) v, cs[i]? = some v → ∃ z, v = .int .u8 z ∧ 0 ≤ z ∧ z ≤ 255
theorem Row8.cell {w wr : World} {og len cV j : Nat} (h : Row8 w wr og len cV) (hj : j < len) : ∃ z, wr.cell? ⟨og, j, none⟩ = some (.int .u8 z) := by
  obtain ⟨cs, h1, h2, h3⟩ := h.ex
  have hlt : j < cs.size := by have := h.le; omega
  obtain ⟨z, hz, _⟩ := h3 j cs[j] (Array.getElem?_eq_getElem hlt)
  exact ⟨z, by rw [h1.cell j, Array.getElem?_eq_getElem hlt, hz]⟩
theorem Row8.fz {w wr : World} {og len cV j : Nat} (h : Row8 w wr og len cV) : wr.frozen? ⟨og, j, none⟩ = false := by
  obtain ⟨cs, h1, _⟩ := h.ex
  exact h1.frozen j
theorem Row8.keep {w wr wr' : World} {og len cV : Nat} (h : Row8 w wr og len cV) (hk : wr'.heap[og]? = wr.heap[og]?) : Row8 w wr' og len cV := by
  obtain ⟨cs, h1, h2, h3⟩ := h.ex
  exact ⟨h.lo, h.le, h.mx, cs, hk.trans h1, h2, h3⟩
theorem Row8.set {w wr : World} {og len cV : Nat} (h : Row8 w wr og len cV) (j : Nat) {x : Int} (h0 : 0 ≤ x) (h1 : x ≤ 255) : Row8 w (wr.setCell ⟨og, j, none⟩ (.int .u8 x)) og len cV := by
  obtain ⟨cs, k1, k2, k3⟩ := h.ex
  refine ⟨h.lo, h.le, h.mx, _, k1.set_ j _, by simpa using k2, fun i v hv => ?_⟩
  by_cases e : j = i
  · subst e
    rw [Array.getElem?_setIfInBounds_self] at hv
    split at hv
    · cases hv; exact ⟨x, rfl, h0, h1⟩
    · cases hv
  · rw [Array.getElem?_setIfInBounds_ne e] at hv
    exact k3 i v hv
theorem Row8.lt {w wr : World} {og len cV : Nat} (h : Row8 w wr og len cV) : og < wr.heap.size := by
  obtain ⟨cs, h1, _⟩ := h.ex
  exact h1.lt
section
variable {P : Program}
theorem wpList_append_fresh {ops : Array Oper} {rest : List Oper} {o : Oper} {a : Act} {w : World} {Q : Exit → Act → World → Prop} (hgd : o.guard = none) (s x : Operand) (t : TypeId)
    (ho : o.op = .call { callee := .builtin .append, args := #[s, x], argTypes := #[t, t] })
    (e : TypeId) (i : TypeInfo) (z : Value) (ht : P.underlying t = some (.slice e)) (hi : P.info? e = some i) (hz : i.zero = some z)
    (b ad : Addr) (n c : Nat) (news : List Value) (hs : a.eval s = .slice (some b) 0 0) (hx : a.eval x = .slice (some ad) n c) (hl : news.length = n * i.size) (hnews : ∀ j v, news[j]? = some v → w.cell? (ad.add j) = some v)
    (h0 : 0 < n) (h63 : n ≤ maxLen) (hfit : n * i.bytes ≤ 140737488355328)
    (h : ∀ cap g w2, n ≤ cap → cap ≤ maxLen → Hid (g = w.heap.size ∧ w2 = w.drew.alloc (.cells (news.toArray ++ Builtin.zeroCells z.cells (cap - n)) e)) → wpList P ops Q rest (a.put o.dst (.slice (some ⟨g, 0, none⟩) n cap)) w2) : wpList P ops Q (o :: rest) a w :=
  wpList_plain hgd fun _ hK => by
    have hrun := run_append_grow (P := P) (w := w) t o.type e i z ht hi hz b 0 0 [] (by simp) (fun j v hj => by simp at hj) ad n c news hl hnews (by omega) (by unfold maxLen at h63; omega) (by rw [Nat.zero_add]; exact growslice_fits h0 hfit)
    unfold Oper.wp execOp
    simp only [ho, resolve, invoke, builtin, Sem.run_bind, Sem.run_pure, Result.andThen_ok, List.map_toArray, List.map_cons, List.map_nil, hs, hx, hrun]
    have hc : n ≤ grownCap w (0 + n) 0 e ∧ grownCap w (0 + n) 0 e ≤ maxLen := by
      rw [Nat.zero_add]
      show n ≤ n + w.tape w.drawn (.appendCap n 0 e) % (2 ^ 63 - n) ∧ n + w.tape w.drawn (.appendCap n 0 e) % (2 ^ 63 - n) ≤ maxLen
      have : w.tape w.drawn (.appendCap n 0 e) % (2 ^ 63 - n) < 2 ^ 63 - n := Nat.mod_lt _ (by unfold maxLen at h63; omega)
      unfold maxLen
      omega
    have := hK _ _ (h _ _ _ hc.1 hc.2 (Lib.hid ⟨rfl, rfl⟩))
    simpa [Oper.upon] using this
end
set_option maxHeartbeats 1000000 in
theorem cloneF_any (w : World) (n c : Nat) (ad : Addr) (zs : List Int) (hr : Reads w w.heap.size 1 (some ad) n (zs.map (Value.int .u8))) (hz : isU8 zs) (h0 : 0 < n) (hn : n ≤ 1000000000) :
    Calls Tryz.prog 101 #[.slice (some ad) n c] w fun e w' => ∃ og cV, e = .returned (.slice (some ⟨og, 0, none⟩) n cV) ∧ Row8 w w' og n cV ∧ Below w.heap.size w w' := by
  obtain ⟨i0, hi, hz0, hz1, hz2⟩ := info_parts u8Info
  have hnil := Lib.run_eql_slice_nil (P := Tryz.prog) w 24 5 (some ad) n c 0 0 Tryz.underlying24
  have hb0 : Below w.heap.size w (w.alloc (.cells #[] 5)) := (Below.refl _ _).alloc (Nat.le_refl _) _
  have hr0 := hr.below hb0
  have HL := Lib.hid (show (zs.map (Value.int .u8)).length = n * i0.size from by rw [hz1]; exact hr.1)
  have HC := Lib.hid (show ∀ j v, (zs.map (Value.int .u8))[j]? = some v → (w.alloc (.cells #[] 5)).cell? (ad.add j) = some v from by
    obtain ⟨ad', e, _, hc⟩ := hr0.2 h0
    injection e with e
    subst e
    exact hc)
  have HB := Lib.hid hb0
  have HZ := Lib.hid (show zs.length = n from by simpa using hr.1)
  clear hr hr0 hb0
  go_enter Tryz.func101, Tryz.ntmps101
  go_wp2_with (first
    | (at_builtin; refine wpList_append_fresh rfl _ _ 24 rfl 5 i0 (.int .u8 0) Tryz.underlying24 hi hz0 ⟨w.heap.size, 0, none⟩ ad n c _ rfl rfl HL.out HC.out h0 (by unfold maxLen; omega) (by rw [hz2]; omega) ?_)
    | go_in)
  intro cap og w5 hc1 hc2 hgw
  generalize hW : w.alloc (.cells #[] 5) = W at *
  have hn1 := Blk.new W.drew 5 ((zs.map (Value.int .u8)).toArray ++ Builtin.zeroCells (Value.int .u8 0).cells (cap - n))
  have HX := Lib.hid (show Row8 w (W.drew.alloc (.cells ((zs.map (Value.int .u8)).toArray ++ Builtin.zeroCells (Value.int .u8 0).cells (cap - n)) 5)) W.heap.size n cap ∧ Below w.heap.size w (W.drew.alloc (.cells ((zs.map (Value.int .u8)).toArray ++ Builtin.zeroCells (Value.int .u8 0).cells (cap - n)) 5)) from ⟨⟨HB.out.size, hc1, hc2, _, hn1, ?_, fun i v hv => ?_⟩, (HB.out.drew).alloc (by exact HB.out.size) _⟩)
  rotate_left
  · have := HZ.out
    simp [Builtin.zeroCells, Value.cells]
    omega
  · have hz' := HZ.out
    by_cases hi' : i < n
    · rw [Array.getElem?_append_left (by simp; omega)] at hv
      simp only [List.getElem?_toArray, List.getElem?_map, Option.map_eq_some_iff] at hv
      obtain ⟨z, h1, rfl⟩ := hv
      exact ⟨z, rfl, hz z (List.mem_of_getElem? h1)⟩
    · rw [Array.getElem?_append_right (by simp; omega)] at hv
      have : v = .int .u8 0 := by
        obtain ⟨hlt, e⟩ := Array.getElem?_eq_some_iff.1 hv
        rw [← e]
        simp [Builtin.zeroCells, Value.cells, Nat.mod_one]
      exact ⟨0, this, by decide, by decide⟩
  obtain ⟨e1, e2⟩ := hgw.out
  have e1' : og = W.heap.size := e1.trans (by rw [← hW]; simp)
  have e2' : w5 = W.drew.alloc (.cells ((zs.map (Value.int .u8)).toArray ++ Builtin.zeroCells (Value.int .u8 0).cells (cap - n)) 5) := e2
  rw [← e1', ← e2'] at HX
  clear e1' e2'
  clear hn1 e1 e2 hgw
  go_wp2
  go_ret
  exact ⟨_, _, rfl, HX.out⟩
def DoneR (w wr : World) (og len cV : Nat) : Prop := Below w.heap.size w wr ∧ Row8 w wr og len cV
set_option maxRecDepth 100000 in
set_option maxHeartbeats 8000000 in
theorem done_any {w : World} {base A mb : Nat} {g : AG} {OV TV : Value} {zs : List Int} (h : AsmAt w base A g OV TV mb zs) (hd : doneOk g = true) (hpos : 0 < g.len) :
    Calls Tryz.prog 66 #[.pointer (some ⟨A, 0, none⟩)] w fun x w' => ∃ og cV, x = .returned (.tuple #[.slice (some ⟨og, 0, none⟩) g.len cV, .int .i64 0]) ∧ DoneR w w' og g.len cV := by
  obtain ⟨OA, oc, rfl⟩ := own_slice h.out
  obtain ⟨TA, tc, rfl⟩ := own_slice h.told
  have c1 : w.cell? ⟨A, 1, none⟩ = some (.slice OA g.len oc) := (h.cell.cell 1).trans rfl
  have c3 : w.cell? ⟨A, 3, none⟩ = some (.slice TA g.told.length tc) := (h.cell.cell 3).trans rfl
  have c4 : w.cell? ⟨A, 4, none⟩ = some (.int .i64 0) := (h.cell.cell 4).trans rfl
  obtain ⟨o1, ocap, e, _⟩ := h.out.form hpos
  injection e with e1 _ e3
  subst e1 e3
  have hcl := cloneF_any w g.len oc ⟨o1, 0, none⟩ zs (Reads.of_own h.out) h.z8 hpos (by have := h.le; omega)
  have HH := Lib.hid h
  clear h
  go_enter Tryz.func66, Tryz.ntmps66
  go_wp2_with fail
  refine hcl.mono ?_
  rintro x w1 ⟨og, cV, rfl, own1, hb1⟩
  clear hcl
  have hA1 := HH.out.kept hb1
  have c3' : w1.cell? ⟨A, 3, none⟩ = some (.slice TA g.told.length tc) := (hA1.cell.cell 3).trans rfl
  have H1 := Lib.hid (show DoneR w w1 og g.len cV from ⟨hb1, own1⟩)
  clear c1 c3 c4 own1 hb1 hA1
  go_wp2_with fail
  go_loopg [33] g.told.length (fun k x wr => ∃ i : Nat, x = .int .i64 (i : Int) ∧ i + k = g.told.length ∧ DoneR w wr og g.len cV)
  case atStart => exact ⟨0, rfl, by omega, H1.out⟩
  case round =>
    obtain ⟨i, rfl, hi, hb, own⟩ := hrel
    have hA := HH.out.kept hb
    by_cases hlt : i < g.told.length
    · have hltI : (i : Int) < (g.told.length : Int) := by omega
      obtain ⟨t, ht⟩ : ∃ t, g.told[i]? = some t := ⟨_, List.getElem?_eq_getElem hlt⟩
      obtain ⟨tg, tcap, e, _⟩ := hA.told.form (by omega)
      injection e with e1 _ e3
      subst e1 e3
      obtain ⟨v0, v1, v2⟩ := toldV_at ht
      have r0 : wr.cell? ⟨tg, i * 3, none⟩ = some (.string ⟨t.1.toArray⟩) := (hA.told.cellAt _ (by omega)).trans v0
      have r1 : wr.cell? ⟨tg, i * 3 + 1, none⟩ = some (.int .i64 t.2.1) := (hA.told.cellAt _ (by omega)).trans v1
      have r2 : wr.cell? ⟨tg, i * 3 + 2, none⟩ = some (.bool t.2.2) := (hA.told.cellAt _ (by omega)).trans v2
      go_upto_region 9 with fail
      have hbT := (Below.refl wr.heap.size wr).alloc (Nat.le_refl _) (.cells #[.string ⟨t.1.toArray⟩, .int .i64 t.2.1, .bool t.2.2] 194)
      have hT := Blk.new wr 194 #[.string ⟨t.1.toArray⟩, .int .i64 t.2.1, .bool t.2.2]
      have hA2 := hA.kept hbT
      have own2 := own.keep (Below.heap_alloc wr (.cells #[.string ⟨t.1.toArray⟩, .int .i64 t.2.1, .bool t.2.2] 194) og own.lt)
      have hlt1 := own.lt
      have hb2 : Below w.heap.size w (wr.alloc (.cells #[.string ⟨t.1.toArray⟩, .int .i64 t.2.1, .bool t.2.2] 194)) := hb.alloc (by exact hb.size) _
      have hok : toldOk g t = true := List.all_eq_true.1 hd t (List.mem_of_getElem? ht)
      generalize wr.alloc (.cells #[.string ⟨t.1.toArray⟩, .int .i64 t.2.1, .bool t.2.2] 194) = W at *
      generalize wr.heap.size = nt at *
      have t0 : W.cell? ⟨nt, 0, none⟩ = some (.string ⟨t.1.toArray⟩) := (hT.cell 0).trans rfl
      have t1 : W.cell? ⟨nt, 1, none⟩ = some (.int .i64 t.2.1) := (hT.cell 1).trans rfl
      have t2 : W.cell? ⟨nt, 2, none⟩ = some (.bool t.2.2) := (hT.cell 2).trans rfl
      have d2 : W.cell? ⟨A, 2, none⟩ = some (.map (some mb)) := (hA2.cell.cell 2).trans rfl
      have d0 : W.cell? ⟨A, 0, none⟩ = some (.int .i64 0) := (hA2.cell.cell 0).trans rfl
      unfold toldOk at hok
      cases hq : lookM g.marks t.1 with
      | none => rw [hq] at hok; cases hok
      | some q =>
        rw [hq] at hok
        simp only [Bool.and_eq_true, decide_eq_true_eq] at hok
        obtain ⟨⟨⟨hl1, q0⟩, q1⟩, hok⟩ := hok
        have hlk := fun n => (hA2.drewN n).mks.look (s := ⟨t.1.toArray⟩) (by show t.1.toArray.size ≤ maxLen; simp; unfold maxLen; omega)
        rw [show (⟨t.1.toArray⟩ : ByteArray).data.toList = t.1 by simp, hq] at hlk
        have hlk : ∀ n, (Instr.lookup 184 (.map (some mb)) (.string ⟨t.1.toArray⟩) true).run Tryz.prog (W.drewN n) = .ok (.tuple #[.int .i64 q, .bool true]) (W.drewN n) := hlk
        clear r0 r1 r2 hA own hb hbT hT
        go_quiet (fail)
        have own3 : Row8 w (W.drewN nq) og g.len cV := own2.keep rfl
        have hb3 : Below w.heap.size w (W.drewN nq) := ⟨hb2.os, hb2.tape, hb2.output, hb2.size, hb2.block⟩
        have hne1 : og ≠ nt := by omega
        have hne2 : nt ≠ og := fun e => hne1 e.symm
        cases hnr : t.2.2 with
        | false =>
          rw [hnr] at hok t2
          have hat : t.2.1 + 1 < g.len := by simpa using hok
          obtain ⟨x0, hx0, x00, x01⟩ : ∃ x, IntKind.u8.wrap q = x ∧ 0 ≤ x ∧ x ≤ 255 := ⟨_, rfl, by simp [IntKind.wrap, IntKind.bits, IntKind.signed]; omega, by simp [IntKind.wrap, IntKind.bits, IntKind.signed]; omega⟩
          obtain ⟨x1, hx1, x10, x11⟩ : ∃ x, IntKind.u8.wrap (q / 2 ^ 8) = x ∧ 0 ≤ x ∧ x ≤ 255 := ⟨_, rfl, by simp [IntKind.wrap, IntKind.bits, IntKind.signed]; omega, by simp [IntKind.wrap, IntKind.bits, IntKind.signed]; omega⟩
          obtain ⟨z0, m0⟩ := own2.cell (j := t.2.1) (by omega)
          obtain ⟨z1, m1⟩ := own2.cell (j := t.2.1 + 1) (by omega)
          have n0 : W.frozen? ⟨og, t.2.1, none⟩ = false := own2.fz
          have n1 : W.frozen? ⟨og, t.2.1 + 1, none⟩ = false := own2.fz
          have hI0 : (t.2.1 : Int) < (g.len : Int) := by omega
          have hI1 : (t.2.1 : Int) + 1 < (g.len : Int) := by omega
          have hI2 : (0 : Int) ≤ (t.2.1 : Int) := Int.natCast_nonneg _
          have hI3 : (0 : Int) ≤ (t.2.1 : Int) + 1 := by omega
          have hle := hA2.le
          have hwa : IntKind.i64.wrap ((t.2.1 : Int) + 1) = (t.2.1 : Int) + 1 := by rw [IntKind.wrap_i64]; omega
          clear hok hq hlk v0 v1 v2 own2 hb2
          go_upto_region 13 with fail
          go_region
          have HX := Lib.hid (show DoneR w (((W.drewN (nq + 1)).setCell ⟨og, t.2.1, none⟩ (.int .u8 x0)).setCell ⟨og, t.2.1 + 1, none⟩ (.int .u8 (q / 256 % 256))) og g.len cV from by
            exact ⟨(Below.setCell (show Below w.heap.size w (W.drewN (nq + 1)) from ⟨hb3.os, hb3.tape, hb3.output, hb3.size, hb3.block⟩) (by exact own3.lo) _).setCell (by exact own3.lo) _, ((own3.keep (wr' := W.drewN (nq + 1)) rfl).set t.2.1 x00 x01).set (t.2.1 + 1) (by omega) (by omega)⟩)
          clear own3 hb3 m0 m1 n0 n1 t0 t1 t2 d2 d0 hA2 hI0 hI1 hI2 hI3 hwa hx0 hx1
          generalize (((W.drewN (nq + 1)).setCell ⟨og, t.2.1, none⟩ (.int .u8 x0)).setCell ⟨og, t.2.1 + 1, none⟩ (.int .u8 (q / 256 % 256))) = W5 at *
          have hwi : IntKind.i64.wrap ((i : Int) + 1) = ((i + 1 : Nat) : Int) := by have := HH.out.tl; rw [IntKind.wrap_i64]; omega
          go_wp2_with fail
          go_roundg (g.told.length - (i + 1))
          case measure => omega
          case rel => exact ⟨i + 1, rfl, by omega, HX.out⟩
        | true =>
          rw [hnr] at hok t2
          obtain ⟨hat, hd1, hd2⟩ : t.2.1 < g.len ∧ -128 ≤ q - ((t.2.1 : Int) + 1) ∧ q - ((t.2.1 : Int) + 1) ≤ 127 := by simp only [if_true, Bool.and_eq_true, decide_eq_true_eq] at hok; exact ⟨hok.1.1, hok.1.2, hok.2⟩
          have hle := hA2.le
          obtain ⟨x0, hx0, x00, x01⟩ : ∃ x, IntKind.u8.wrap (q - ((t.2.1 : Int) + 1)) = x ∧ 0 ≤ x ∧ x ≤ 255 := ⟨_, rfl, by simp [IntKind.wrap, IntKind.bits, IntKind.signed]; omega, by simp [IntKind.wrap, IntKind.bits, IntKind.signed]; omega⟩
          obtain ⟨z0, m0⟩ := own2.cell (j := t.2.1) (by omega)
          have n0 : W.frozen? ⟨og, t.2.1, none⟩ = false := own2.fz
          have hI0 : (t.2.1 : Int) < (g.len : Int) := by omega
          have hI2 : (0 : Int) ≤ (t.2.1 : Int) := Int.natCast_nonneg _
          have hw0 : IntKind.i64.wrap (0 + (t.2.1 : Int)) = (t.2.1 : Int) := by rw [IntKind.wrap_i64]; omega
          have hwa : IntKind.i64.wrap ((t.2.1 : Int) + 1) = (t.2.1 : Int) + 1 := by rw [IntKind.wrap_i64]; omega
          have hwd : IntKind.i64.wrap (q - ((t.2.1 : Int) + 1)) = q - ((t.2.1 : Int) + 1) := by rw [IntKind.wrap_i64]; omega
          have hd3 : ¬ (q - ((t.2.1 : Int) + 1) < -128) := by omega
          have hd4 : ¬ (127 < q - ((t.2.1 : Int) + 1)) := by omega
          clear hok hq hlk v0 v1 v2 own2 hb2 hd1 hd2
          go_upto_region 14 with fail
          have e0 : (W.drewN nq).cell? ⟨A, 0, none⟩ = some (.int .i64 0) := d0
          have e1 : (W.drewN nq).cell? ⟨nt, 1, none⟩ = some (.int .i64 t.2.1) := t1
          have e2 : (W.drewN nq).cell? ⟨og, t.2.1, none⟩ = some (.int .u8 z0) := m0
          have e3 : (W.drewN nq).frozen? ⟨og, t.2.1, none⟩ = false := n0
          clear d0 d2 t0 t1 t2 m0 n0 hA2
          generalize W.drewN nq = W9 at *
          clear nq
          go_quiet (fail)
          go_upto_region 18 with fail
          have HX := Lib.hid (show DoneR w ((W9.drewN nq).setCell ⟨og, t.2.1, none⟩ (.int .u8 x0)) og g.len cV from by
            exact ⟨(Below.setCell (show Below w.heap.size w (W9.drewN nq) from ⟨hb3.os, hb3.tape, hb3.output, hb3.size, hb3.block⟩) (by exact own3.lo) _), (own3.keep (wr' := W9.drewN nq) rfl).set t.2.1 x00 x01⟩)
          clear own3 hb3 e0 e1 e2 e3 hI0 hI2 hw0 hwa hx0 hwd hd3 hd4
          generalize ((W9.drewN nq).setCell ⟨og, t.2.1, none⟩ (.int .u8 x0)) = W5 at *
          have hwi : IntKind.i64.wrap ((i : Int) + 1) = ((i + 1 : Nat) : Int) := by have := HH.out.tl; rw [IntKind.wrap_i64]; omega
          go_wp2_with fail
          go_roundg (g.told.length - (i + 1))
          case measure => omega
          case rel => exact ⟨i + 1, rfl, by omega, HX.out⟩
    · have hle : ¬ ((i : Int) < (g.told.length : Int)) := by omega
      have HX := Lib.hid (show DoneR w wr og g.len cV from ⟨hb, own⟩)
      clear own hb hA
      go_wp2
      go_ret2
      exact ⟨og, cV, rfl, HX.out⟩
end Rm
end Go.Proofs.YtnlaedfnifimkaaGreat
namespace Go.Proofs.YtnlaedfnifimkaaGreat
open Go.RowKit Ck
namespace Rm
theorem timInfo : (Tryz.prog.info? 95).map (·.size) = some 5 := by kernel_rfl
theorem asmNew_any (w : World) : Calls Tryz.prog 57 #[.int .u16 0] w fun x w' => ∃ A mb, x = .returned (.pointer (some ⟨A, 0, none⟩)) ∧ AsmAt w' w.heap.size A ⟨0, [], []⟩ (.slice none 0 0) (.slice none 0 0) mb [] ∧ Below w.heap.size w w' := by
  have hmk := MkAt.new w
  have hmm := @run_makeMap Tryz.prog
  have hb := (Below.refl w.heap.size w).alloc (Nat.le_refl _) (.map #[] 0)
  have hlt : w.heap.size < (w.alloc (.map #[] 0)).heap.size := by simp
  go_enter Tryz.func57, Tryz.ntmps57
  go_wp2
  go_ret
  refine ⟨w.heap.size + 1, w.heap.size, rfl, ?_, ?_⟩
  · refine ⟨?_, World.ownsRow_nil _ _ _ _, fun z hz => (by cases hz), ?_, World.ownsRow_nil _ _ _ _, ⟨by omega, Nat.le_refl _⟩, by decide, by decide, by decide⟩
    · have := Blk.new (w.alloc (.map #[] 0)) 187 #[.int .i64 0, .slice none 0 0, .map (some w.heap.size), .slice none 0 0, .int .i64 0]
      rw [show (w.alloc (.map #[] 0)).heap.size = w.heap.size + 1 by simp] at this
      exact this
    · exact hmk.kept (Below.heap_alloc _ _ _ hlt)
  · exact hb.alloc (by omega) _
theorem standard_any (w : World) : Calls Tryz.prog 33 #[] w fun x w' => x = .returned (.agg #[.int .i64 2168, .int .i64 667, .int .i64 735, .int .i64 855, .int .i64 1710]) ∧ Below w.heap.size w w' := by
  go_enter Tryz.func33, Tryz.ntmps33
  go_wp2
  refine bodyPost_ret (results_cell_row rfl _ _ w.heap.size 95 #[.int .i64 2168, .int .i64 667, .int .i64 735, .int .i64 855, .int .i64 1710] (0, 0) _ rfl (heap_alloc_new w _) Tryz.underlying95 rfl timInfo) rfl ?_
  exact ⟨rfl, (Below.refl _ _).alloc (Nat.le_refl _) _⟩
noncomputable def mkR (K : List KI) (A base : Nat) : Env :=
  { K := K, op := fun n v => match n with
      | 0 => v = .int .u64 0
      | 1 => v = .int .u64 0
      | 2 => v = .pointer (some ⟨A, 0, none⟩)
      | _ => False
    L := 0, G := 1000, J := 1000, watch := [], mine := fun b => base ≤ b }
def GPa (base A : Nat) (g : AG) (S : St) (w : World) : Prop :=
  base ≤ w.heap.size ∧ ∃ OV TV mb zs, AsmAt w base A g OV TV mb zs ∧ ∀ k, AsmBlk A OV TV mb k → S k = none
theorem gpa_ok (K : List KI) (A base : Nat) : GPs (mkR K A base) (GPa base A) := ⟨fun g S S' w w' tc h ⟨hb, OV, TV, mb, zs, h1, h2⟩ =>
  ⟨Nat.le_trans hb h.size, OV, TV, mb, zs, h1.keep fun k hk => h.out k (h1.lt hk).2 (h2 k hk) (fun e => e), fun k hk => (h.old k (h1.lt hk).2).trans (h2 k hk)⟩⟩
theorem asmO_post {K : List KI} {A base j : Nat} {S : St} {g g' : AG} {w w' : World} {OV TV : Value} {mb : Nat} {zs : List Int} (hI : Inv (mkR K A base) S j w) (hb : base ≤ w.heap.size) (h : AsmAt w base A g OV TV mb zs) (hS : ∀ k, AsmBlk A OV TV mb k → S k = none) (hO : AsmO w w' base A g' OV TV mb) :
    Inv (mkR K A base) S j w' ∧ Stp (mkR K A base) S S w w' [] ∧ GPa base A g' S w' := by
  obtain ⟨OV', TV', zs', h1, h2, h3, h4⟩ := hO
  have hk : ∀ b x, S b = some x → w'.heap[b]? = w.heap[b]? := fun b x hx => h2.block b (hI.lt hx) (fun e => by rw [hS b e] at hx; cases hx)
  refine ⟨fun b k n hx => ?_, ⟨h2.os, h2.tape, h2.output, h2.size, fun _ _ h => h, fun _ _ => rfl, fun b hb' hn hm => h2.block b hb' (fun e => hm (h.lt e).1), fun b k n o _ hw _ => by cases hw⟩, Nat.le_trans hb h2.size, OV', TV', mb, zs', h1, fun k hk' => ?_⟩
  · obtain ⟨q1, q2, cs, q3, q4⟩ := hI b k n hx
    exact ⟨q1, q2, cs, (hk b _ hx).trans q3, q4⟩
  · have nn : ∀ {V V' : Value}, NewBlk w V V' → (∀ k, V.ownBlock = some k → S k = none) → ∀ k, V'.ownBlock = some k → S k = none := fun a hV k e => by
      rcases a with a | ⟨q, a, c⟩
      · exact hV k (a.symm.trans e)
      · rw [a] at e; injection e with e; subst e; exact hI.none c
    rcases hk' with e | e | e | e
    · exact hS k (.inl e)
    · exact hS k (.inr (.inl e))
    · exact nn h3 (fun k e => hS k (.inr (.inr (.inl e)))) k e
    · exact nn h4 (fun k e => hS k (.inr (.inr (.inr e)))) k e
end Rm
end Go.Proofs.YtnlaedfnifimkaaGreat
namespace Go.Proofs.YtnlaedfnifimkaaGreat
open Go.RowKit Ck
namespace Rm
def zr : Option Value → List Value
  | some v => v.cells.toList
  | none => []
noncomputable def ti3 : TI := ⟨Tryz.t3.desc, 1, 8, zr Tryz.t3.zero⟩
theorem ti3_ok : TIok Tryz.prog 3 ti3 := ⟨Tryz.t3, by kernel_rfl, by kernel_rfl, by kernel_rfl, by kernel_rfl, fun _ => ⟨_, rfl, rfl⟩⟩
noncomputable def ti4 : TI := ⟨Tryz.t4.desc, 1, 1, zr Tryz.t4.zero⟩
theorem ti4_ok : TIok Tryz.prog 4 ti4 := ⟨Tryz.t4, by kernel_rfl, by kernel_rfl, by kernel_rfl, by kernel_rfl, fun _ => ⟨_, rfl, rfl⟩⟩
noncomputable def ti5 : TI := ⟨Tryz.t5.desc, 1, 1, zr Tryz.t5.zero⟩
theorem ti5_ok : TIok Tryz.prog 5 ti5 := ⟨Tryz.t5, by kernel_rfl, by kernel_rfl, by kernel_rfl, by kernel_rfl, fun _ => ⟨_, rfl, rfl⟩⟩
noncomputable def ti9 : TI := ⟨Tryz.t9.desc, 1, 16, zr Tryz.t9.zero⟩
theorem ti9_ok : TIok Tryz.prog 9 ti9 := ⟨Tryz.t9, by kernel_rfl, by kernel_rfl, by kernel_rfl, by kernel_rfl, fun _ => ⟨_, rfl, rfl⟩⟩
noncomputable def ti24 : TI := ⟨Tryz.t24.desc, 1, 24, zr Tryz.t24.zero⟩
theorem ti24_ok : TIok Tryz.prog 24 ti24 := ⟨Tryz.t24, by kernel_rfl, by kernel_rfl, by kernel_rfl, by kernel_rfl, fun _ => ⟨_, rfl, rfl⟩⟩
noncomputable def ti25 : TI := ⟨Tryz.t25.desc, 1, 2, zr Tryz.t25.zero⟩
theorem ti25_ok : TIok Tryz.prog 25 ti25 := ⟨Tryz.t25, by kernel_rfl, by kernel_rfl, by kernel_rfl, by kernel_rfl, fun _ => ⟨_, rfl, rfl⟩⟩
noncomputable def ti38 : TI := ⟨Tryz.t3.desc, 1, 8, zr Tryz.t38.zero⟩
theorem ti38_ok : TIok Tryz.prog 38 ti38 := ⟨Tryz.t38, by kernel_rfl, by kernel_rfl, by kernel_rfl, by kernel_rfl, fun _ => ⟨_, rfl, rfl⟩⟩
noncomputable def ti95 : TI := ⟨Tryz.t22.desc, 5, 40, zr Tryz.t95.zero⟩
theorem ti95_ok : TIok Tryz.prog 95 ti95 := ⟨Tryz.t95, by kernel_rfl, by kernel_rfl, by kernel_rfl, by kernel_rfl, fun _ => ⟨_, rfl, rfl⟩⟩
noncomputable def ti141 : TI := ⟨Tryz.t141.desc, 1, 8, zr Tryz.t141.zero⟩
theorem ti141_ok : TIok Tryz.prog 141 ti141 := ⟨Tryz.t141, by kernel_rfl, by kernel_rfl, by kernel_rfl, by kernel_rfl, fun _ => ⟨_, rfl, rfl⟩⟩
noncomputable def ti144 : TI := ⟨Tryz.t143.desc, 1, 8, zr Tryz.t144.zero⟩
theorem ti144_ok : TIok Tryz.prog 144 ti144 := ⟨Tryz.t144, by kernel_rfl, by kernel_rfl, by kernel_rfl, by kernel_rfl, fun _ => ⟨_, rfl, rfl⟩⟩
noncomputable def ti184 : TI := ⟨Tryz.t184.desc, 1, 8, zr Tryz.t184.zero⟩
theorem ti184_ok : TIok Tryz.prog 184 ti184 := ⟨Tryz.t184, by kernel_rfl, by kernel_rfl, by kernel_rfl, by kernel_rfl, fun _ => ⟨_, rfl, rfl⟩⟩
noncomputable def ti185 : TI := ⟨Tryz.t185.desc, 1, 24, zr Tryz.t185.zero⟩
theorem ti185_ok : TIok Tryz.prog 185 ti185 := ⟨Tryz.t185, by kernel_rfl, by kernel_rfl, by kernel_rfl, by kernel_rfl, fun _ => ⟨_, rfl, rfl⟩⟩
noncomputable def ti187 : TI := ⟨Tryz.t186.desc, 5, 72, zr Tryz.t187.zero⟩
theorem ti187_ok : TIok Tryz.prog 187 ti187 := ⟨Tryz.t187, by kernel_rfl, by kernel_rfl, by kernel_rfl, by kernel_rfl, fun _ => ⟨_, rfl, rfl⟩⟩
noncomputable def ti194 : TI := ⟨Tryz.t193.desc, 3, 32, zr Tryz.t194.zero⟩
theorem ti194_ok : TIok Tryz.prog 194 ti194 := ⟨Tryz.t194, by kernel_rfl, by kernel_rfl, by kernel_rfl, by kernel_rfl, fun _ => ⟨_, rfl, rfl⟩⟩
noncomputable def tiL : List (TypeId × TI) := [(3, ti3), (4, ti4), (5, ti5), (9, ti9), (24, ti24), (25, ti25), (38, ti38), (95, ti95), (141, ti141), (144, ti144), (184, ti184), (185, ti185), (187, ti187), (194, ti194)]
noncomputable def cfg : Cfg := { K := [⟨5, 1, [(1, .int .u8 0 255)]⟩, ⟨144, 1, [(1, .opq 2)]⟩, ⟨95, 5, [(1, .int .i64 2168 2168), (1, .int .i64 667 667), (1, .int .i64 735 735), (1, .int .i64 855 855), (1, .int .i64 1710 1710)]⟩], ti := tiL, kinds := [(5, 0), (144, 1), (95, 2)], watch := [], g0 := 1000, meths := [] }
theorem tiL_ok : ∀ p ∈ tiL, TIok Tryz.prog p.1 p.2 := by
  unfold tiL
  simp only [List.forall_mem_cons]
  exact ⟨ti3_ok, ti4_ok, ti5_ok, ti9_ok, ti24_ok, ti25_ok, ti38_ok, ti95_ok, ti141_ok, ti144_ok, ti184_ok, ti185_ok, ti187_ok, ti194_ok, fun _ h => by cases h⟩
noncomputable abbrev env (A base : Nat) : Env := mkR cfg.K A base
theorem cfg_ok (A base : Nat) : CfgOk Tryz.prog (env A base) cfg := by
  refine ⟨rfl, rfl, Nat.le_refl _, by show 1000 + 1000 ≤ 1000000000; omega, fun t i h => tiL_ok (t, i) (assoc_mem h), fun t k h => ?_, fun n v h => ?_, fun v h => h, rfl, fun t m f h => by cases h⟩
  · have hm := assoc_mem h
    have : ∀ p ∈ cfg.kinds, (env A base).elem p.2 = p.1 ∧ 0 < (env A base).per p.2 ∧ ∃ i, assoc cfg.ti p.1 = some i ∧ i.size = (env A base).per p.2 := by
      simp only [cfg, List.forall_mem_cons]
      exact ⟨⟨rfl, (by show 0 < 1; decide), _, rfl, rfl⟩, ⟨rfl, (by show 0 < 1; decide), _, rfl, rfl⟩, ⟨rfl, (by show 0 < 5; decide), _, rfl, rfl⟩, fun _ h => by cases h⟩
    exact this (t, k) hm
  · match n, h with
    | 0, h => rw [show v = .int .u64 0 from h]; rfl
    | 1, h => rw [show v = .int .u64 0 from h]; rfl
    | 2, h => rw [show v = .pointer (some ⟨A, 0, none⟩) from h]; rfl
theorem prog_mixed : Tryz.prog.follows .mixedOrders = true := by kernel_rfl
def TA : Ty := .one (.opq 2)
def sliceN : Ty → Option Nat
  | .one (.slice 0 (some n) (some m)) => if n = m then some n else none
  | _ => none
def strN : Ty → Option (List UInt8)
  | .one (.str (some l)) => some l
  | _ => none
def boolN : Ty → Option Bool
  | .one (.bool (some b)) => some b
  | _ => none
def prims : Hd AG := fun g f tys =>
  if f = 93 then (match tys with
    | [t] => if t = TA then some ⟨.one (.bool (some false)), 0, g, true, []⟩ else none
    | _ => none)
  else if f = 94 then (match tys with
    | [t] => if t = TA then some ⟨.one (.int .i64 g.len g.len), 0, g, true, []⟩ else none
    | _ => none)
  else if f = 96 then (match tys with
    | [t] => if t = TA ∧ g.len ≤ 65535 then some ⟨.one (.int .u16 g.len g.len), 0, g, true, []⟩ else none
    | _ => none)
  else if f = 58 then (match tys with
    | [t, l] => match sliceN l with
      | some n => if t = TA ∧ g.len + n ≤ 65536 then some ⟨.tup [], 0, { g with len := g.len + n }, false, []⟩ else none
      | none => none
    | _ => none)
  else if f = 61 then (match tys with
    | [t, l] => match strN l with
      | some s => if t = TA ∧ s.length ≤ 1000 ∧ lookM g.marks s = none ∧ g.marks.length + 1 ≤ 900 then some ⟨.tup [], 0, { g with marks := (s, (g.len : Int)) :: g.marks }, false, []⟩ else none
      | none => none
    | _ => none)
  else if f = 95 then (match tys with
    | [t, l, b, c] => match strN l, boolN b, sliceN c with
      | some s, some near, some n => if t = TA ∧ g.len + (n + (if near then 1 else 2)) ≤ 65536 ∧ g.told.length + 1 ≤ 900 then some ⟨.tup [], 0, ⟨g.len + (n + (if near then 1 else 2)), g.marks, g.told ++ [(s, g.len + n, near)]⟩, false, []⟩ else none
      | _, _, _ => none
    | _ => none)
  else if f = 66 then (match tys with
    | [t] => if t = TA ∧ doneOk g = true ∧ 0 < g.len then some ⟨.tup [.one (.slice 0 (some g.len) (some g.len)), .one (.int .i64 0 0)], 0, g, true, []⟩ else none
    | _ => none)
  else if f = 33 then (match tys with
    | [] => some ⟨.agg [.int .i64 2168 2168, .int .i64 667 667, .int .i64 735 735, .int .i64 855 855, .int .i64 1710 1710], 0, g, true, []⟩
    | _ => none)
  else none
noncomputable def stack : List (FuncId × Func) → Hd AG → Hd AG
  | [], H => H
  | (f, fn) :: r, H => stack r fun g f' tys => if f' = f then funT cfg H 2000 fn g tys else H g f' tys
noncomputable def romL : List (FuncId × Func) := [(180, Tryz.f180), (181, Tryz.f181), (182, Tryz.f182), (156, Tryz.f156), (155, Tryz.f155), (59, Tryz.f59), (125, Tryz.f125), (126, Tryz.f126), (127, Tryz.f127), (98, Tryz.f98), (97, Tryz.f97), (63, Tryz.f63), (62, Tryz.f62), (99, Tryz.f99), (100, Tryz.f100), (64, Tryz.f64), (65, Tryz.f65), (60, Tryz.f60)]
theorem stack_ok {A base : Nat} : ∀ {l : List (FuncId × Func)} {H : Hd AG}, HOk Tryz.prog (env A base) (GPa base A) H → (∀ p ∈ l, Tryz.prog.funcs[p.1]? = some p.2 ∧ (p.2.name == "runtime.NumGoroutine") = false) → HOk Tryz.prog (env A base) (GPa base A) (stack l H)
  | [], H, h, _ => h
  | (f, fn) :: r, H, h, hl => by
    refine stack_ok (l := r) ?_ (fun p hp => hl p (List.mem_cons_of_mem _ hp))
    intro g f' tys res hres
    dsimp only at hres
    split at hres
    · rename_i e
      subst e
      obtain ⟨h1, h2⟩ := hl (f', fn) List.mem_cons_self
      exact funT_ok prog_mixed (cfg_ok A base) (gpa_ok _ A base) h h1 h2 hres
    · exact h g f' tys res hres
theorem romL_fns : ∀ p ∈ romL, Tryz.prog.funcs[p.1]? = some p.2 ∧ (p.2.name == "runtime.NumGoroutine") = false := by
  unfold romL
  simp only [List.forall_mem_cons]
  exact ⟨⟨Tryz.func180, by kernel_rfl⟩, ⟨Tryz.func181, by kernel_rfl⟩, ⟨Tryz.func182, by kernel_rfl⟩, ⟨Tryz.func156, by kernel_rfl⟩, ⟨Tryz.func155, by kernel_rfl⟩, ⟨Tryz.func59, by kernel_rfl⟩, ⟨Tryz.func125, by kernel_rfl⟩, ⟨Tryz.func126, by kernel_rfl⟩, ⟨Tryz.func127, by kernel_rfl⟩, ⟨Tryz.func98, by kernel_rfl⟩, ⟨Tryz.func97, by kernel_rfl⟩, ⟨Tryz.func63, by kernel_rfl⟩, ⟨Tryz.func62, by kernel_rfl⟩, ⟨Tryz.func99, by kernel_rfl⟩, ⟨Tryz.func100, by kernel_rfl⟩, ⟨Tryz.func64, by kernel_rfl⟩, ⟨Tryz.func65, by kernel_rfl⟩, ⟨Tryz.func60, by kernel_rfl⟩, fun _ h => by cases h⟩
end Rm
end Go.Proofs.YtnlaedfnifimkaaGreat
namespace Go.Proofs.YtnlaedfnifimkaaGreat
open Go.RowKit Ck
namespace Rm
section
variable {A base j : Nat} {S : St} {w : World} {ρ : Array Value} {g : AG}
theorem ta_is {v : Value} (h : VT (env A base) S j ρ TA v) : v = .pointer (some ⟨A, 0, none⟩) := h
theorem slice_rd {t : Ty} {n : Nat} {v : Value} (hI : Inv (env A base) S j w) (ht : sliceN t = some n) (h : VT (env A base) S j ρ t v) : ∃ BA cap us, v = .slice BA n cap ∧ Reads w w.heap.size 1 BA n (us.map (Value.int .u8)) ∧ isU8 us := by
  unfold sliceN at ht
  split at ht
  case h_2 => cases ht
  rename_i a b
  split at ht
  case isFalse => cases ht
  rename_i e
  subst e
  cases ht
  obtain ⟨BA, len, cap, rfl, h1, h2, h3, h4, h5, h6⟩ := h
  have hl : len = n := Nat.le_antisymm (h4 n rfl) h3
  subst hl
  rcases h6 with ⟨rfl, rfl⟩ | ⟨b, o, m, rfl, k1, k2, k3⟩
  · obtain rfl : len = 0 := by omega
    exact ⟨none, 0, [], rfl, Reads.none_, fun z hz => by cases hz⟩
  · have k3 : o + cap * 1 ≤ m := k3
    have hz : ∀ i, i < len → ∃ z, w.cell? ⟨b, o + i, none⟩ = some (.int .u8 z) ∧ 0 ≤ z ∧ z ≤ 255 := fun i hi => by
      obtain ⟨t, v, r1, r2, r3, r4⟩ := hI.cell k1 (o := o + i) (by omega)
      have r2' := cellT_of (cfg_ok A base) r2
      have e : (o + i) % (env A base).per 0 = 0 := by show (o + i) % 1 = 0; omega
      rw [e] at r2'
      have e2 : segAt (cfg.segs 0) 0 = some (.int .u8 0 255) := by rfl
      rw [e2] at r2'
      cases r2'
      obtain ⟨x, rfl, x0, x1⟩ := r4
      exact ⟨x, r1, x0, x1⟩
    let f : Nat → Int := fun i => if h : i < len then (hz i h).choose else 0
    have hf : ∀ i, i < len → w.cell? ⟨b, o + i, none⟩ = some (.int .u8 (f i)) ∧ 0 ≤ f i ∧ f i ≤ 255 := fun i hi => by
      show w.cell? ⟨b, o + i, none⟩ = some (.int .u8 (if h : i < len then (hz i h).choose else 0)) ∧ 0 ≤ (if h : i < len then (hz i h).choose else 0) ∧ (if h : i < len then (hz i h).choose else 0) ≤ 255
      rw [dif_pos hi]
      exact (hz i hi).choose_spec
    refine ⟨some ⟨b, o, none⟩, cap, (List.range len).map f, rfl, ⟨by simp, fun _ => ⟨⟨b, o, none⟩, rfl, hI.lt k1, fun i u hu => ?_⟩⟩, fun z hz' => ?_⟩
    · rw [List.map_map, List.getElem?_map] at hu
      rcases hr : (List.range len)[i]? with _ | x
      · rw [hr] at hu; cases hu
      · rw [hr] at hu
        obtain ⟨hlt, hx⟩ := List.getElem?_eq_some_iff.1 hr
        rw [List.getElem_range] at hx
        subst hx
        cases hu
        have := (hf i (by simpa using hlt)).1
        rw [show (⟨b, o, none⟩ : Addr).add i = ⟨b, o + i, none⟩ by unfold Addr.add; split <;> simp_all]
        exact this
    · obtain ⟨i, hi, rfl⟩ := List.mem_map.1 hz'
      exact (hf i (List.mem_range.1 hi)).2
theorem str_is {t : Ty} {l : List UInt8} {v : Value} (ht : strN t = some l) (h : VT (env A base) S j ρ t v) : ∃ s, v = .string s ∧ s.data.toList = l := by
  unfold strN at ht
  split at ht
  case h_2 => cases ht
  cases ht
  obtain ⟨s, rfl, hs⟩ := h
  exact ⟨s, rfl, hs _ rfl⟩
theorem bool_is {t : Ty} {b : Bool} {v : Value} (ht : boolN t = some b) (h : VT (env A base) S j ρ t v) : v = .bool b := by
  unfold boolN at ht
  split at ht
  case h_2 => cases ht
  cases ht
  obtain ⟨x, rfl, hx⟩ := h
  rw [hx _ rfl]
theorem len1 {vs : List Value} (h : vs.length = 1) : ∃ v, vs = [v] := by
  match vs, h with
  | [v], _ => exact ⟨v, rfl⟩
theorem len2 {vs : List Value} (h : vs.length = 2) : ∃ v u, vs = [v, u] := by
  match vs, h with
  | [v, u], _ => exact ⟨v, u, rfl⟩
theorem len4 {vs : List Value} (h : vs.length = 4) : ∃ v u x y, vs = [v, u, x, y] := by
  match vs, h with
  | [v, u, x, y], _ => exact ⟨v, u, x, y, rfl⟩
theorem vt_unit {S' : St} {j' : Nat} : VT (env A base) S' j' #[] (.tup []) (.tuple #[]) := ⟨#[], rfl, rfl, fun i b v hb => by simp at hb⟩
theorem below_stp {w' : World} (hI : Inv (env A base) S j w) (h : Below w.heap.size w w') : Inv (env A base) S j w' ∧ Stp (env A base) S S w w' [] := by
  refine ⟨fun b k n hb => ?_, h.os, h.tape, h.output, h.size, fun _ _ h => h, fun _ _ => rfl, fun b hb _ _ => h.block b hb, fun b k n o hb _ _ => ?_⟩
  · obtain ⟨h1, h2, cs, h3, h4⟩ := hI b k n hb
    exact ⟨h1, h2, cs, (h.block b (hI.lt hb)).trans h3, h4⟩
  · exact h.cell (p := ⟨b, o, none⟩) (hI.lt hb)
theorem gpa_drewN {n : Nat} (h : GPa base A g S w) : GPa base A g S (w.drewN n) := by
  obtain ⟨h0, OV, TV, mb, zs, h1, h2⟩ := h
  exact ⟨h0, OV, TV, mb, zs, h1.drewN n, h2⟩
end
set_option maxHeartbeats 2000000 in
theorem prims_ok {A base : Nat} : HOk Tryz.prog (env A base) (GPa base A) prims := by
  intro g f tys r h
  unfold prims at h
  split at h
  · rename_i hf
    subst hf
    split at h
    case h_2 => cases h
    split at h
    case isFalse => cases h
    rename_i ht
    subst ht
    cases h
    refine ⟨⟨Tryz.f93, _, Tryz.func93, by kernel_rfl, rfl⟩, rfl, fun _ => rfl, fun S j w args hI hg _ ha => ?_⟩
    obtain ⟨v, rfl⟩ := len1 ha.1
    have := ta_is (ha.2 0 _ v rfl rfl)
    subst this
    obtain ⟨h0, OV, TV, mb, zs, h1, h2⟩ := hg
    refine (bad_any h1).mono ?_
    rintro e w' ⟨rfl, rfl⟩
    exact ⟨_, rfl, S, j, Stp.refl _ _ _ _, Nat.le_refl _, Nat.le_refl _, hI, ⟨h0, OV, TV, mb, zs, h1, h2⟩, false, rfl, fun c hc => by cases hc; rfl⟩
  split at h
  · rename_i hf
    subst hf
    split at h
    case h_2 => cases h
    split at h
    case isFalse => cases h
    rename_i ht
    subst ht
    cases h
    refine ⟨⟨Tryz.f94, _, Tryz.func94, by kernel_rfl, rfl⟩, rfl, fun _ => rfl, fun S j w args hI hg _ ha => ?_⟩
    obtain ⟨v, rfl⟩ := len1 ha.1
    have := ta_is (ha.2 0 _ v rfl rfl)
    subst this
    have hg' := hg
    obtain ⟨h0, OV, TV, mb, zs, h1, h2⟩ := hg
    refine (here_any h1).mono ?_
    rintro e w' ⟨rfl, n, rfl⟩
    exact ⟨_, rfl, S, j, (Stp.refl _ _ _ _).drew _, Nat.le_refl _, Nat.le_refl _, hI.drew _, gpa_drewN hg', _, rfl, Int.le_refl _, Int.le_refl _⟩
  split at h
  · rename_i hf
    subst hf
    split at h
    case h_2 => cases h
    split at h
    case isFalse => cases h
    rename_i ht
    obtain ⟨rfl, hl⟩ := ht
    cases h
    refine ⟨⟨Tryz.f96, _, Tryz.func96, by kernel_rfl, rfl⟩, rfl, fun _ => rfl, fun S j w args hI hg _ ha => ?_⟩
    obtain ⟨v, rfl⟩ := len1 ha.1
    have := ta_is (ha.2 0 _ v rfl rfl)
    subst this
    have hg' := hg
    obtain ⟨h0, OV, TV, mb, zs, h1, h2⟩ := hg
    refine (hereU_any h1 hl).mono ?_
    rintro e w' ⟨rfl, n, rfl⟩
    exact ⟨_, rfl, S, j, (Stp.refl _ _ _ _).drew _, Nat.le_refl _, Nat.le_refl _, hI.drew _, gpa_drewN hg', _, rfl, Int.le_refl _, Int.le_refl _⟩
  split at h
  · rename_i hf
    subst hf
    split at h
    case h_2 => cases h
    split at h
    case h_2 => cases h
    rename_i n hn
    split at h
    case isFalse => cases h
    rename_i ht
    obtain ⟨rfl, hl⟩ := ht
    cases h
    refine ⟨⟨Tryz.f58, _, Tryz.func58, by kernel_rfl, rfl⟩, rfl, fun e => (by cases e), fun S j w args hI hg _ ha => ?_⟩
    obtain ⟨v, u, rfl⟩ := len2 ha.1
    have := ta_is (ha.2 0 _ v rfl rfl)
    subst this
    obtain ⟨BA, cap, us, rfl, hr, hu⟩ := slice_rd hI hn (ha.2 1 _ u rfl rfl)
    obtain ⟨h0, OV, TV, mb, zs, h1, h2⟩ := hg
    refine (bytes_any h1 h0 BA n cap us hr hu hl).mono ?_
    rintro e w' ⟨rfl, hO⟩
    obtain ⟨q1, q2, q3⟩ := asmO_post hI h0 h1 h2 hO
    exact ⟨_, rfl, S, j, q2, Nat.le_refl _, Nat.le_refl _, q1, q3, vt_unit⟩
  split at h
  · rename_i hf
    subst hf
    split at h
    case h_2 => cases h
    split at h
    case h_2 => cases h
    rename_i s hs
    split at h
    case isFalse => cases h
    rename_i ht
    obtain ⟨rfl, hl1, hl2, hl3⟩ := ht
    cases h
    refine ⟨⟨Tryz.f61, _, Tryz.func61, by kernel_rfl, rfl⟩, rfl, fun e => (by cases e), fun S j w args hI hg _ ha => ?_⟩
    obtain ⟨v, u, rfl⟩ := len2 ha.1
    have := ta_is (ha.2 0 _ v rfl rfl)
    subst this
    obtain ⟨sb, rfl, rfl⟩ := str_is hs (ha.2 1 _ u rfl rfl)
    obtain ⟨h0, OV, TV, mb, zs, h1, h2⟩ := hg
    refine (mark_any h1 sb (by have : sb.data.size ≤ 1000 := (by simpa using hl1); show sb.data.size ≤ maxLen; unfold maxLen; omega) hl2 hl3).mono ?_
    rintro e w' ⟨rfl, hO⟩
    obtain ⟨q1, q2, q3⟩ := asmO_post hI h0 h1 h2 hO
    exact ⟨_, rfl, S, j, q2, Nat.le_refl _, Nat.le_refl _, q1, q3, vt_unit⟩
  split at h
  · rename_i hf
    subst hf
    split at h
    case h_2 => cases h
    rename_i t l b c
    split at h
    case h_2 => cases h
    rename_i s near n hs hb hn
    by_cases hc : t = TA ∧ g.len + (n + (if near then 1 else 2)) ≤ 65536 ∧ g.told.length + 1 ≤ 900
    case neg => rw [if_neg hc] at h; cases h
    rw [if_pos hc] at h
    obtain ⟨rfl, hl1, hl2⟩ := hc
    cases h
    refine ⟨⟨Tryz.f95, _, Tryz.func95, by kernel_rfl, rfl⟩, rfl, fun e => (by cases e), fun S j w args hI hg _ ha => ?_⟩
    obtain ⟨v, u, x, y, rfl⟩ := len4 ha.1
    have := ta_is (ha.2 0 _ v rfl rfl)
    subst this
    obtain ⟨sb, rfl, rfl⟩ := str_is hs (ha.2 1 _ u rfl rfl)
    have := bool_is hb (ha.2 2 _ x rfl rfl)
    subst this
    obtain ⟨BA, cap, us, rfl, hr, hu⟩ := slice_rd hI hn (ha.2 3 _ y rfl rfl)
    obtain ⟨h0, OV, TV, mb, zs, h1, h2⟩ := hg
    refine (fill_any h1 h0 sb near BA n cap us hr hu hl1 hl2).mono ?_
    rintro e w' ⟨rfl, hO⟩
    obtain ⟨q1, q2, q3⟩ := asmO_post hI h0 h1 h2 hO
    exact ⟨_, rfl, S, j, q2, Nat.le_refl _, Nat.le_refl _, q1, q3, vt_unit⟩
  split at h
  · rename_i hf
    subst hf
    split at h
    case h_2 => cases h
    split at h
    case isFalse => cases h
    rename_i ht
    obtain ⟨rfl, hd, hpos⟩ := ht
    cases h
    refine ⟨⟨Tryz.f66, _, Tryz.func66, by kernel_rfl, rfl⟩, rfl, fun _ => rfl, fun S j w args hI hg _ ha => ?_⟩
    obtain ⟨v, rfl⟩ := len1 ha.1
    have := ta_is (ha.2 0 _ v rfl rfl)
    subst this
    obtain ⟨h0, OV, TV, mb, zs, h1, h2⟩ := hg
    refine (done_any h1 hd hpos).mono ?_
    rintro e w' ⟨og, cV, rfl, hb, hrow⟩
    obtain ⟨cs, c1, c2, c3⟩ := hrow.ex
    have hw0 : w.heap.size ≤ og := hrow.lo
    obtain ⟨p1, p2⟩ := below_stp hI hb
    have hS0 : S og = none := hI.none hw0
    have hext := St.put_ext (x := (0, cs.size)) hS0
    refine ⟨_, rfl, S.put og (0, cs.size), j, ⟨p2.os, p2.tape, p2.output, p2.size, hext, fun b hb' => if_neg (by omega), p2.out, p2.keep⟩, Nat.le_refl _, Nat.le_refl _, fun b k n hx => ?_, ⟨Nat.le_trans h0 hb.size, OV, TV, mb, zs, h1.kept hb, fun k hk => ?_⟩, _, rfl, rfl, fun i b v e1 e2 => ?_⟩
    · by_cases e : b = og
      · subst e
        have hx' : S.put b (0, cs.size) b = some (0, cs.size) := if_pos rfl
        rw [hx'] at hx
        cases hx
        refine ⟨by show 0 < 1; omega, by show cs.size % 1 = 0; omega, cs, c1, rfl, fun i v hv => ?_⟩
        obtain ⟨z, rfl, z0, z1⟩ := c3 i v hv
        refine ⟨.int .u8 0 255, ?_, rfl, z, rfl, z0, z1⟩
        have e : i % (env A base).per 0 = 0 := by show i % 1 = 0; omega
        rw [e]; rfl
      · have hx' : S.put og (0, cs.size) b = S b := if_neg e
        rw [hx'] at hx
        obtain ⟨q1, q2, cs', q3, q4, q5⟩ := p1 b k n hx
        exact ⟨q1, q2, cs', q3, q4, fun i v hv => by
          obtain ⟨t, r1, r2, r3⟩ := q5 i v hv
          exact ⟨t, r1, r2, r3.mono hext (Nat.le_refl _)⟩⟩
    · have : k < w.heap.size := (h1.lt hk).2
      have hx' : S.put og (0, cs.size) k = S k := if_neg (by omega)
      rw [hx']; exact h2 k hk
    · match i with
      | 0 =>
        simp at e1 e2
        subst e1 e2
        exact ⟨_, g.len, cV, rfl, hrow.le, hrow.mx, Nat.le_refl _, fun m e => (by injection e with e; omega), fun e => (by cases e), .inr ⟨og, 0, cs.size, rfl, if_pos rfl, by show 0 % 1 = 0; rfl, by show 0 + cV * 1 ≤ cs.size; omega⟩⟩
      | 1 =>
        simp at e1 e2
        subst e1 e2
        exact ⟨0, rfl, Int.le_refl _, Int.le_refl _⟩
      | i + 2 => simp at e1
  split at h
  · rename_i hf
    subst hf
    split at h
    case h_2 => cases h
    cases h
    refine ⟨⟨Tryz.f33, _, Tryz.func33, by kernel_rfl, rfl⟩, rfl, fun _ => rfl, fun S j w args hI hg _ ha => ?_⟩
    obtain rfl : args = [] := List.eq_nil_of_length_eq_zero ha.1
    obtain ⟨h0, OV, TV, mb, zs, h1, h2⟩ := hg
    refine (standard_any w).mono ?_
    rintro e w' ⟨rfl, hb⟩
    obtain ⟨p1, p2⟩ := below_stp hI hb
    refine ⟨_, rfl, S, j, p2, Nat.le_refl _, Nat.le_refl _, p1, ⟨Nat.le_trans h0 hb.size, OV, TV, mb, zs, h1.kept hb, h2⟩, _, rfl, rfl, fun i b v e1 e2 => ?_⟩
    match i with
    | 0 => simp at e1 e2; subst e1 e2; exact ⟨_, rfl, Int.le_refl _, Int.le_refl _⟩
    | 1 => simp at e1 e2; subst e1 e2; exact ⟨_, rfl, Int.le_refl _, Int.le_refl _⟩
    | 2 => simp at e1 e2; subst e1 e2; exact ⟨_, rfl, Int.le_refl _, Int.le_refl _⟩
    | 3 => simp at e1 e2; subst e1 e2; exact ⟨_, rfl, Int.le_refl _, Int.le_refl _⟩
    | 4 => simp at e1 e2; subst e1 e2; exact ⟨_, rfl, Int.le_refl _, Int.le_refl _⟩
    | i + 5 => simp at e1
  · cases h
end Rm
end Go.Proofs.YtnlaedfnifimkaaGreat
namespace Go.Proofs.YtnlaedfnifimkaaGreat
open Go.RowKit Ck
namespace Rm
set_option maxRecDepth 100000 in
set_option maxHeartbeats 4000000 in
theorem may_std (w : World) : Calls Tryz.prog 56 #[.agg #[.int .i64 2168, .int .i64 667, .int .i64 735, .int .i64 855, .int .i64 1710], .int .i64 600] w fun x w' => x = .returned (.bool true) ∧ Below w.heap.size w w' := by
  have hb := Lib.hid ((Below.refl w.heap.size w).alloc (Nat.le_refl _) (.cells #[.int .i64 2168, .int .i64 667, .int .i64 735, .int .i64 855, .int .i64 1710] 95))
  go_enter Tryz.func56, Tryz.ntmps56
  go_upto_region 2 with fail
  generalize w.alloc (.cells #[.int .i64 2168, .int .i64 667, .int .i64 735, .int .i64 855, .int .i64 1710] 95) = W at *
  go_loopg [25] 6 (fun k x wr => ∃ i : Nat, x = .int .i64 (i : Int) ∧ i + k = 6 ∧ Below w.heap.size w wr)
  case atStart => exact ⟨0, rfl, rfl, hb.out⟩
  case round =>
    obtain ⟨i, rfl, hi, hbr⟩ := hrel
    have HR := Lib.hid hbr
    clear hbr hb
    have HF := Lib.hid (show ∀ (a b : Int), Below w.heap.size w (wr.alloc (.cells #[.int .i64 a, .int .i64 b] 182)) from fun a b => HR.out.alloc (by exact HR.out.size) _)
    obtain e | e | e | e | e | e | e : i = 6 ∨ i = 0 ∨ i = 1 ∨ i = 2 ∨ i = 3 ∨ i = 4 ∨ i = 5 := by omega
    · have hge : ¬ ((i : Int) < 6) := by omega
      clear e hi
      go_wp2
      go_ret
      exact ⟨rfl, HR.out⟩
    · have hidx : ∀ u : World, (Instr.index 183 (.agg #[.int .i64 600, .int .i64 1, .int .i64 2168, .int .i64 86, .int .i64 667, .int .i64 86, .int .i64 735, .int .i64 32, .int .i64 855, .int .i64 192, .int .i64 1710, .int .i64 192]) (.int .i64 (i : Int))).run Tryz.prog u = .ok (.agg #[.int .i64 600, .int .i64 1]) u := fun u => by subst e; kernel_rfl
      have hlt : (i : Int) < 6 := by omega
      have hwi : IntKind.i64.wrap ((i : Int) + 1) = ((i + 1 : Nat) : Int) := by rw [IntKind.wrap_i64]; omega
      have HE := Lib.hid (And.intro e hi)
      clear e hi
      go_wp2_with fail
      go_roundg 5
      case measure => have := HE.out; omega
      case rel => exact ⟨i + 1, rfl, by have := HE.out; omega, HF.out _ _⟩
    · have hidx : ∀ u : World, (Instr.index 183 (.agg #[.int .i64 600, .int .i64 1, .int .i64 2168, .int .i64 86, .int .i64 667, .int .i64 86, .int .i64 735, .int .i64 32, .int .i64 855, .int .i64 192, .int .i64 1710, .int .i64 192]) (.int .i64 (i : Int))).run Tryz.prog u = .ok (.agg #[.int .i64 2168, .int .i64 86]) u := fun u => by subst e; kernel_rfl
      have hlt : (i : Int) < 6 := by omega
      have hwi : IntKind.i64.wrap ((i : Int) + 1) = ((i + 1 : Nat) : Int) := by rw [IntKind.wrap_i64]; omega
      have HE := Lib.hid (And.intro e hi)
      clear e hi
      go_wp2_with fail
      go_roundg 4
      case measure => have := HE.out; omega
      case rel => exact ⟨i + 1, rfl, by have := HE.out; omega, HF.out _ _⟩
    · have hidx : ∀ u : World, (Instr.index 183 (.agg #[.int .i64 600, .int .i64 1, .int .i64 2168, .int .i64 86, .int .i64 667, .int .i64 86, .int .i64 735, .int .i64 32, .int .i64 855, .int .i64 192, .int .i64 1710, .int .i64 192]) (.int .i64 (i : Int))).run Tryz.prog u = .ok (.agg #[.int .i64 667, .int .i64 86]) u := fun u => by subst e; kernel_rfl
      have hlt : (i : Int) < 6 := by omega
      have hwi : IntKind.i64.wrap ((i : Int) + 1) = ((i + 1 : Nat) : Int) := by rw [IntKind.wrap_i64]; omega
      have HE := Lib.hid (And.intro e hi)
      clear e hi
      go_wp2_with fail
      go_roundg 3
      case measure => have := HE.out; omega
      case rel => exact ⟨i + 1, rfl, by have := HE.out; omega, HF.out _ _⟩
    · have hidx : ∀ u : World, (Instr.index 183 (.agg #[.int .i64 600, .int .i64 1, .int .i64 2168, .int .i64 86, .int .i64 667, .int .i64 86, .int .i64 735, .int .i64 32, .int .i64 855, .int .i64 192, .int .i64 1710, .int .i64 192]) (.int .i64 (i : Int))).run Tryz.prog u = .ok (.agg #[.int .i64 735, .int .i64 32]) u := fun u => by subst e; kernel_rfl
      have hlt : (i : Int) < 6 := by omega
      have hwi : IntKind.i64.wrap ((i : Int) + 1) = ((i + 1 : Nat) : Int) := by rw [IntKind.wrap_i64]; omega
      have HE := Lib.hid (And.intro e hi)
      clear e hi
      go_wp2_with fail
      go_roundg 2
      case measure => have := HE.out; omega
      case rel => exact ⟨i + 1, rfl, by have := HE.out; omega, HF.out _ _⟩
    · have hidx : ∀ u : World, (Instr.index 183 (.agg #[.int .i64 600, .int .i64 1, .int .i64 2168, .int .i64 86, .int .i64 667, .int .i64 86, .int .i64 735, .int .i64 32, .int .i64 855, .int .i64 192, .int .i64 1710, .int .i64 192]) (.int .i64 (i : Int))).run Tryz.prog u = .ok (.agg #[.int .i64 855, .int .i64 192]) u := fun u => by subst e; kernel_rfl
      have hlt : (i : Int) < 6 := by omega
      have hwi : IntKind.i64.wrap ((i : Int) + 1) = ((i + 1 : Nat) : Int) := by rw [IntKind.wrap_i64]; omega
      have HE := Lib.hid (And.intro e hi)
      clear e hi
      go_wp2_with fail
      go_roundg 1
      case measure => have := HE.out; omega
      case rel => exact ⟨i + 1, rfl, by have := HE.out; omega, HF.out _ _⟩
    · have hidx : ∀ u : World, (Instr.index 183 (.agg #[.int .i64 600, .int .i64 1, .int .i64 2168, .int .i64 86, .int .i64 667, .int .i64 86, .int .i64 735, .int .i64 32, .int .i64 855, .int .i64 192, .int .i64 1710, .int .i64 192]) (.int .i64 (i : Int))).run Tryz.prog u = .ok (.agg #[.int .i64 1710, .int .i64 192]) u := fun u => by subst e; kernel_rfl
      have hlt : (i : Int) < 6 := by omega
      have hwi : IntKind.i64.wrap ((i : Int) + 1) = ((i + 1 : Nat) : Int) := by rw [IntKind.wrap_i64]; omega
      have HE := Lib.hid (And.intro e hi)
      clear e hi
      go_wp2_with fail
      go_roundg 0
      case measure => have := HE.out; omega
      case rel => exact ⟨i + 1, rfl, by have := HE.out; omega, HF.out _ _⟩
end Rm
end Go.Proofs.YtnlaedfnifimkaaGreat
namespace Go.Proofs.YtnlaedfnifimkaaGreat
open Go.RowKit Ck
namespace Rm
def suf : Nat → Code → Code
  | 0, c => c
  | n + 1, .seq _ b => suf n b
  | _ + 1, _ => .skip
def finOk (o : Option (Out AG)) : Bool := match o with
  | some o => match o.norm, o.exits, o.ret with
    | none, [], some r => decide (r.tmps = [.one (.slice 0 (some 16384) (some 16384)), .one (.int .i64 0 0)]) && decide (o.hi ≤ 1000)
    | _, _, _ => false
  | none => false
noncomputable def bodyB : Code := match Tryz.f32.body with
  | some c => c
  | none => .skip
noncomputable def stB : AS AG := ⟨(((List.replicate 72 Ty.any).set 6 (.one (.ptr 1 0 0 false))).set 2 (.one (.ptr 2 0 0 false))).set 1 (.one (.int .i64 600 600)), 0, ⟨0, [], []⟩, []⟩
set_option maxRecDepth 1000000 in
theorem tail_ok : finOk (chk cfg (stack romL prims) [.tmp 4, .tmp 5] 2000 (suf 3 bodyB) stB) = true := by kernel_rfl
end Rm
end Go.Proofs.YtnlaedfnifimkaaGreat
namespace Go.Proofs.YtnlaedfnifimkaaGreat
open Go.RowKit Ck
namespace Rm
theorem build_tail {A base : Nat} {S0 : St} {w : World} {a : Act} (hs : Sat (env A base) (GPa base A) S0 0 w stB a w) :
    (suf 3 bodyB).wp Tryz.prog (fun e a' w' => e = .ret ∧ ∃ s, s.tmps = [.one (.slice 0 (some 16384) (some 16384)), .one (.int .i64 0 0)] ∧ RSat Tryz.prog (env A base) (GPa base A) [.tmp 4, .tmp 5] S0 0 w s a' w') a w := by
  have h := tail_ok
  unfold finOk at h
  split at h
  case h_2 => cases h
  rename_i o ho
  split at h
  case h_2 => cases h
  rename_i r hn hx hr
  simp only [Bool.and_eq_true, decide_eq_true_eq] at h
  obtain ⟨h1, h2⟩ := h
  refine wp_mono (chk_ok prog_mixed (cfg_ok A base) (gpa_ok _ A base) (stack_ok prims_ok romL_fns) (suf 3 bodyB) stB o ho (by show 0 + o.hi ≤ 1000; omega) a w hs) fun e a' w' hq => ?_
  cases e with
  | normal => obtain ⟨s, hs, _⟩ := hq; rw [hn] at hs; cases hs
  | ret =>
    obtain ⟨s, hs, hsat⟩ := hq
    rw [hr] at hs
    cases hs
    exact ⟨rfl, r, h1, hsat⟩
  | exit id => obtain ⟨s, hs, _⟩ := hq; rw [hx] at hs; cases hs
  | goto l => exact hq.elim
  | panic ch => exact hq.elim
  | outgrown => exact hq.elim
end Rm
end Go.Proofs.YtnlaedfnifimkaaGreat
