/- Layer 19 for 24: contracts of the program's far, Sound. -/
import Derived.Test.YtnmapncgnceldaaWk3
import Derived.Deep.CutRange
namespace Go.Proofs.Ytnmapncgnceldaa
open Go.RowKit

def farL (d : WB) : List Int := if d.id = 40 then d.ns else if d.id = 35 ∨ d.id = 38 then d.ts else []
def farB (d : WB) (i n : Nat) : Bool := (farL d).any fun x => decide (x < -(i : Int) ∨ (n : Int) - (i : Int) ≤ x)
theorem far_yes {d : WB} {i n k m : Nat} {l : List Int} (hl : farL d = l) (hm : l.length = m) (hk : k < m) (h : l.getD k 0 < -(i : Int) ∨ (n : Int) - (i : Int) ≤ l.getD k 0) : farB d i n = true := by
  unfold farB
  rw [hl, List.any_eq_true]
  exact ⟨l.getD k 0, getD_mem (by omega), by simpa using h⟩
theorem far_no {d : WB} {i n k : Nat} {l : List Int} (hl : farL d = l) (hm : l.length = k) (h : ∀ q, q < k → ¬ (l.getD q 0 < -(i : Int) ∨ (n : Int) - (i : Int) ≤ l.getD q 0)) : farB d i n = false := by
  unfold farB
  rw [hl, List.any_eq_false]
  intro x hx
  obtain ⟨q, hq, rfl⟩ := List.getElem_of_mem hx
  have := h q (by omega)
  rw [List.getD_eq_getElem?_getD, List.getElem?_eq_getElem hq] at this
  simpa using this
theorem itemInfo : (Try.prog.info? 73).map (·.size) = some 2 := by kernel_rfl
theorem intInfo3 : (Try.prog.info? 3).map (fun i => (i.zero, i.size, i.bytes)) = some (some (.int .i64 0), 1, 8) := by kernel_rfl

set_option maxRecDepth 100000 in
set_option maxHeartbeats 8000000 in
theorem far_any (w : World) (i0 n : Nat) (d : WB) (v2 v3 v4 v5 v6 v7 v9 v10 v11 v12 : Value) (TA : Option Addr) (tn tc : Nat) (IA : Option Addr) (ic : Nat) (v15 v16 v17 : Value)
    (hT : RdP w (· < w.heap.size) 1 TA tn (d.ts.map (Value.int .i64))) (hI : ItsP w (· < w.heap.size) IA d.ns) (h1n : d.ns.length ≤ 60) (h1t : tn ≤ 60) (hi0 : i0 < n) (hn : n ≤ 60) :
    Calls Try.prog 26 #[.agg #[.int .i64 d.id, .int .i64 d.pz, v2, v3, v4, v5, v6, v7, .int .i64 d.ct, v9, v10, v11, v12, .slice TA tn tc, .slice IA d.ns.length ic, v15, v16, v17], .int .i64 i0, .int .i64 n] w fun e w' => e = .returned (.bool (farB d i0 n)) ∧ Below w.heap.size w w' := by
  generalize hI : d.id = I
  have HID := Lib.hid hI
  clear hI
  obtain ⟨q0, hq, hz0, hz1, hz2⟩ := info_parts intInfo3
  have hBx : Blk (w.alloc (.cells #[.int .i64 I, .int .i64 d.pz, v2, v3, v4, v5, v6, v7, .int .i64 d.ct, v9, v10, v11, v12, .slice TA tn tc, .slice IA d.ns.length ic, v15, v16, v17] 45)) w.heap.size 45 #[.int .i64 I, .int .i64 d.pz, v2, v3, v4, v5, v6, v7, .int .i64 d.ct, v9, v10, v11, v12, .slice TA tn tc, .slice IA d.ns.length ic, v15, v16, v17] := Blk.new w _ _
  have hb0 : Below w.heap.size w (w.alloc (.cells #[.int .i64 I, .int .i64 d.pz, v2, v3, v4, v5, v6, v7, .int .i64 d.ct, v9, v10, v11, v12, .slice TA tn tc, .slice IA d.ns.length ic, v15, v16, v17] 45)) := (Below.refl _ _).alloc (Nat.le_refl _) _
  have hwn : IntKind.i64.wrap (-(i0 : Int)) = -(i0 : Int) := by rw [IntKind.wrap_i64]; omega
  have hws : IntKind.i64.wrap ((n : Int) - (i0 : Int)) = (n : Int) - (i0 : Int) := by rw [IntKind.wrap_i64]; omega
  have HR := Lib.hid (And.intro ((hT.reads (B := w.heap.size) (fun b h => h)).below hb0) (And.intro (hI.keep (w' := w.alloc (.cells #[.int .i64 I, .int .i64 d.pz, v2, v3, v4, v5, v6, v7, .int .i64 d.ct, v9, v10, v11, v12, .slice TA tn tc, .slice IA d.ns.length ic, v15, v16, v17] 45)) (ψ := (· < w.heap.size)) (fun b h => hb0.block b h) (fun b h => h)) (And.intro hb0 (reads_len (hT.reads (B := w.heap.size) (fun b h => h))))))
  clear hT hI hb0
  go_enter Try.func26, Try.ntmps26
  go_upto_region 1 with fail
  generalize (w.alloc (.cells #[.int .i64 I, .int .i64 d.pz, v2, v3, v4, v5, v6, v7, .int .i64 d.ct, v9, v10, v11, v12, .slice TA tn tc, .slice IA d.ns.length ic, v15, v16, v17] 45)) = w0 at *
  have c0 : w0.cell? ⟨w.heap.size, 0, none⟩ = some (.int .i64 I) := (hBx.cell 0).trans rfl
  have c13 : w0.cell? ⟨w.heap.size, 13, none⟩ = some (.slice TA tn tc) := (hBx.cell 13).trans rfl
  have c14 : w0.cell? ⟨w.heap.size, 14, none⟩ = some (.slice IA d.ns.length ic) := (hBx.cell 14).trans rfl
  clear hBx
  have hsw := HR.out.2.2.1.size
  by_cases h40 : I = 40
  · subst h40
    go_wp2_with fail
    obtain ⟨mn, hmn⟩ : ∃ mn : Nat, mn = d.ns.length := ⟨_, rfl⟩
    rw [← hmn] at h1n ⊢
    have HMN := Lib.hid hmn
    clear hmn c14
    go_loopw [7, 21] (fun v x wr => ∃ k : Nat, k ≤ mn ∧ x = .int .i64 k ∧ wr.ownsRow w0.heap.size 3 1 v k ((d.ns.take k).map (Value.int .i64)) ∧ Below w0.heap.size w0 wr) (fun _ x _ => mn - (intOf x).toNat)
    case atStart => exact ⟨0, by omega, rfl, World.ownsRow_nil _ _ _ _, Below.refl _ _⟩
    case round =>
      obtain ⟨k, hkn, rfl, hown, hbl⟩ := hrel
      have hk0 : (0 : Int) ≤ (k : Int) := Int.natCast_nonneg _
      have hsz := hbl.size
      by_cases hlt : k < mn
      · have hkI : (k : Int) < (mn : Int) := by omega
        have hwk : IntKind.i64.wrap ((k : Int) + 1) = (k : Int) + 1 := by rw [IntKind.wrap_i64]; omega
        obtain ⟨ad, rfl, hab, hit⟩ := HR.out.2.1 (by rw [← HMN.out]; omega)
        obtain ⟨v, hv1, hc1, hc2⟩ := hit k (by rw [← HMN.out]; exact hlt)
        have hsn := take_snocI d.ns k (by rw [← HMN.out]; exact hlt)
        generalize d.ns.getD k 0 = z at *
        have X0 := Lib.hid (show ∀ jj vv, ([.int .i64 z, v] : List Value)[jj]? = some vv → wr.cell? ((ad.add (k * 2)).add jj) = some vv from by
          intro jj vv h
          have hk9 : ∀ i, wr.cell? (ad.add i) = w0.cell? (ad.add i) := fun i => hbl.cell (p := ad.add i) (by rw [block_of_add]; omega)
          match jj, h with
          | 0, h => injection h with h; subst h; rw [add_of_add, Nat.add_zero, hk9]; exact hc1
          | 1, h => injection h with h; subst h; rw [add_of_add, hk9]; exact hc2
          | jj + 2, h => simp at h)
        have X1 := Lib.hid (show (#[.int .i64 z, v] : Array Value).all (·.oneCell') = true from all_one (l := [.int .i64 z, v]) (by intro u hu; simp at hu; rcases hu with rfl | rfl; rfl; exact hv1))
        have HSN := Lib.hid hsn
        have HX := Lib.hid (And.intro hown hbl)
        clear hown hbl hsn hit hc1 hc2 hv1
        go_wp2_with (first
          | (refine wpList_load_at rfl 73 _ rfl (ad.add (k * 2)) rfl [.int .i64 z, v] X0.out _ Try.underlying73 rfl itemInfo ?_)
          | (refine wpList_store_box rfl 73 _ _ rfl (wr.heap.size) #[.int .i64 z, v] rfl rfl 73 #[.int .i64 0, .slice none 0 0] (Blk.new wr _ _) itemInfo rfl X1.out ?_)
          | fail)
        intro w3 hB3 hg3
        have hb3 : Below w0.heap.size w0 w3 := (HX.out.2.alloc hsz _).grown hg3 (by simp; omega) (fun b hb => by injection hb with hb; omega)
        have hown3 := (HX.out.1.alloc (.cells #[.int .i64 0, .slice none 0 0] 73)).kept hg3 (.inr (fun e => by have := (HX.out.1.lt _ e).2; omega))
        have cz : w3.cell? ⟨wr.heap.size, 0, none⟩ = some (.int .i64 z) := (hB3.cell 0).trans rfl
        have hown9 := hown3.alloc (.cells #[.int .i64 z] 3)
        have hs3 : w0.heap.size ≤ w3.heap.size := hb3.size
        have HC := Lib.hid (And.intro (lit_cells w3 [.int .i64 z] 3) (And.intro (show ∀ u ∈ [Value.int .i64 z], u.oneCell' = true by intro u hu; simp at hu; rcases hu with rfl; rfl) (And.intro (show k + 1 ≤ maxLen by unfold maxLen; omega) (And.intro (show (k + 1) * 8 ≤ 140737488355328 by omega) (show w0.heap.size ≤ (w3.alloc (.cells #[.int .i64 z] 3)).heap.size by simp; omega)))))
        have H3 := Lib.hid (And.intro hb3 hown3)
        clear hB3 hg3 hb3 hown3
        go_wp2_with (first
          | (at_builtin; refine wpList_append_own _ rfl _ _ 31 rfl w0.heap.size 3 q0 (.int .i64 0) 1 8 Try.underlying31 hq hz0 hz1 hz2 rfl (by decide) _ _ _ rfl hown9 ⟨w3.heap.size, 0, none⟩ 1 1 [.int .i64 z] rfl rfl HC.out.1 HC.out.2.1 HC.out.2.2.1 HC.out.2.2.2.1 HC.out.2.2.2.2 ?_)
          | go_in)
        intro v' w4 own4 hg4 _
        have H4 := Lib.hid (show w4.ownsRow w0.heap.size 3 1 v' (k + 1) ((d.ns.take (k + 1)).map (Value.int .i64)) ∧ Below w0.heap.size w0 w4 from ⟨by rw [HSN.out, List.map_append]; simpa using own4, (H3.out.1.alloc hs3 _).grown hg4 (by simp; omega) (fun b hb => (H3.out.2.lt b hb).1)⟩)
        clear own4 hg4 hown9 cz
        go_wp2
        go_roundw
        case rel => exact ⟨k + 1, by omega, by go_num, H4.out.1, H4.out.2⟩
        case measure => simp [intOf]; omega
      · obtain rfl : k = mn := by omega
        have hkI : ¬ (k : Int) < (k : Int) := by omega
        rw [show d.ns.take k = d.ns by rw [HMN.out, List.take_length]] at hown
        obtain ⟨LA, lc, rfl⟩ := own_slice hown
        have HLL := Lib.hid (And.intro (Reads.of_own hown) (And.intro HMN.out.symm (show farL d = d.ns by unfold farL; rw [if_pos HID.out])))
        have HBW := Lib.hid (HR.out.2.2.1.trans (hbl.mono hsw))
        clear hown hbl
        go_wp2_with fail
        obtain ⟨w1, rfl⟩ : ∃ w1 : World, w1 = wr := ⟨_, rfl⟩
        obtain ⟨k9, rfl⟩ : ∃ k9 : Nat, k9 = k := ⟨_, rfl⟩
        go_loopw [36] (fun x wr => ∃ k : Nat, k ≤ k9 ∧ x = .int .i64 k ∧ (∀ i, i < k → ¬ (d.ns.getD i 0 < -(i0 : Int) ∨ (n : Int) - (i0 : Int) ≤ d.ns.getD i 0)) ∧ Below w1.heap.size w1 wr) (fun x _ => k9 - (intOf x).toNat)
        case atStart => exact ⟨0, by omega, rfl, fun i hi => absurd hi (by omega), Below.refl _ _⟩
        case round =>
          obtain ⟨k, hkn, rfl, hno, hbl⟩ := hrel
          have hk0 : (0 : Int) ≤ (k : Int) := Int.natCast_nonneg _
          by_cases hlt : k < k9
          · have hkI : (k : Int) < (k9 : Int) := by omega
            have hwk : IntKind.i64.wrap ((k : Int) + 1) = (k : Int) + 1 := by rw [IntKind.wrap_i64]; omega
            obtain ⟨ad, rfl, _, hc0⟩ := i32_at (HLL.out.1.below hbl) hlt
            obtain ⟨x, hx⟩ : ∃ x : Int, x = d.ns.getD k 0 := ⟨_, rfl⟩
            rw [← hx] at hc0
            have HX := Lib.hid (And.intro hx (And.intro hno hbl))
            clear hx hno hbl
            by_cases h1 : x < -(i0 : Int)
            · have HY := Lib.hid (far_yes (d := d) (i := i0) (n := n) (k := k) HLL.out.2.2 HLL.out.2.1 hlt (.inl (by rw [← HX.out.1]; exact h1)))
              go_wp2
              go_ret
              rw [HY.out]
              exact ⟨rfl, HBW.out.trans (HX.out.2.2.mono HBW.out.size)⟩
            · by_cases h2 : (n : Int) - (i0 : Int) ≤ x
              · have HY := Lib.hid (far_yes (d := d) (i := i0) (n := n) (k := k) HLL.out.2.2 HLL.out.2.1 hlt (.inr (by rw [← HX.out.1]; exact h2)))
                go_wp2
                go_ret
                rw [HY.out]
                exact ⟨rfl, HBW.out.trans (HX.out.2.2.mono HBW.out.size)⟩
              · go_wp2
                go_roundw
                case rel => exact ⟨k + 1, by omega, by go_num, fun i hi => by
                  rcases Nat.lt_or_ge i k with h | h
                  · exact HX.out.2.1 i h
                  · obtain rfl : i = k := by omega
                    rw [← HX.out.1]; omega, HX.out.2.2⟩
                case measure => simp [intOf]; omega
          · obtain rfl : k = k9 := by omega
            have hkI : ¬ (k : Int) < (k : Int) := by omega
            have HY := Lib.hid (far_no (d := d) (i := i0) (n := n) (k := k) HLL.out.2.2 HLL.out.2.1 hno)
            have HX := Lib.hid hbl
            clear hno hbl
            go_wp2
            go_ret
            rw [HY.out]
            exact ⟨rfl, HBW.out.trans (HX.out.mono HBW.out.size)⟩

  · have h40b : (I == 40) = false := by simpa using h40
    by_cases hjc : I = 35 ∨ I = 38
    · have HLL := Lib.hid (And.intro (HR.out.1.more hsw) (And.intro HR.out.2.2.2 (show farL d = d.ts by unfold farL; rw [HID.out, if_neg h40, if_pos hjc])))
      have HBW := Lib.hid HR.out.2.2.1
      clear c14
      by_cases h35 : I = 35
      · subst h35
        clear hjc
        go_wp2_with fail
        go_loopw [36] (fun x wr => ∃ k : Nat, k ≤ tn ∧ x = .int .i64 k ∧ (∀ i, i < k → ¬ (d.ts.getD i 0 < -(i0 : Int) ∨ (n : Int) - (i0 : Int) ≤ d.ts.getD i 0)) ∧ Below w0.heap.size w0 wr) (fun x _ => tn - (intOf x).toNat)
        case atStart => exact ⟨0, by omega, rfl, fun i hi => absurd hi (by omega), Below.refl _ _⟩
        case round =>
          obtain ⟨k, hkn, rfl, hno, hbl⟩ := hrel
          have hk0 : (0 : Int) ≤ (k : Int) := Int.natCast_nonneg _
          by_cases hlt : k < tn
          · have hkI : (k : Int) < (tn : Int) := by omega
            have hwk : IntKind.i64.wrap ((k : Int) + 1) = (k : Int) + 1 := by rw [IntKind.wrap_i64]; omega
            obtain ⟨ad, rfl, _, hc0⟩ := i32_at (HLL.out.1.below hbl) hlt
            obtain ⟨x, hx⟩ : ∃ x : Int, x = d.ts.getD k 0 := ⟨_, rfl⟩
            rw [← hx] at hc0
            have HX := Lib.hid (And.intro hx (And.intro hno hbl))
            clear hx hno hbl
            by_cases h1 : x < -(i0 : Int)
            · have HY := Lib.hid (far_yes (d := d) (i := i0) (n := n) (k := k) HLL.out.2.2 HLL.out.2.1 hlt (.inl (by rw [← HX.out.1]; exact h1)))
              go_wp2
              go_ret
              rw [HY.out]
              exact ⟨rfl, HBW.out.trans (HX.out.2.2.mono HBW.out.size)⟩
            · by_cases h2 : (n : Int) - (i0 : Int) ≤ x
              · have HY := Lib.hid (far_yes (d := d) (i := i0) (n := n) (k := k) HLL.out.2.2 HLL.out.2.1 hlt (.inr (by rw [← HX.out.1]; exact h2)))
                go_wp2
                go_ret
                rw [HY.out]
                exact ⟨rfl, HBW.out.trans (HX.out.2.2.mono HBW.out.size)⟩
              · go_wp2
                go_roundw
                case rel => exact ⟨k + 1, by omega, by go_num, fun i hi => by
                  rcases Nat.lt_or_ge i k with h | h
                  · exact HX.out.2.1 i h
                  · obtain rfl : i = k := by omega
                    rw [← HX.out.1]; omega, HX.out.2.2⟩
                case measure => simp [intOf]; omega
          · obtain rfl : k = tn := by omega
            have hkI : ¬ (k : Int) < (k : Int) := by omega
            have HY := Lib.hid (far_no (d := d) (i := i0) (n := n) (k := k) HLL.out.2.2 HLL.out.2.1 hno)
            have HX := Lib.hid hbl
            clear hno hbl
            go_wp2
            go_ret
            rw [HY.out]
            exact ⟨rfl, HBW.out.trans (HX.out.mono HBW.out.size)⟩

      · obtain rfl : I = 38 := by omega
        clear hjc
        go_wp2_with fail
        go_loopw [36] (fun x wr => ∃ k : Nat, k ≤ tn ∧ x = .int .i64 k ∧ (∀ i, i < k → ¬ (d.ts.getD i 0 < -(i0 : Int) ∨ (n : Int) - (i0 : Int) ≤ d.ts.getD i 0)) ∧ Below w0.heap.size w0 wr) (fun x _ => tn - (intOf x).toNat)
        case atStart => exact ⟨0, by omega, rfl, fun i hi => absurd hi (by omega), Below.refl _ _⟩
        case round =>
          obtain ⟨k, hkn, rfl, hno, hbl⟩ := hrel
          have hk0 : (0 : Int) ≤ (k : Int) := Int.natCast_nonneg _
          by_cases hlt : k < tn
          · have hkI : (k : Int) < (tn : Int) := by omega
            have hwk : IntKind.i64.wrap ((k : Int) + 1) = (k : Int) + 1 := by rw [IntKind.wrap_i64]; omega
            obtain ⟨ad, rfl, _, hc0⟩ := i32_at (HLL.out.1.below hbl) hlt
            obtain ⟨x, hx⟩ : ∃ x : Int, x = d.ts.getD k 0 := ⟨_, rfl⟩
            rw [← hx] at hc0
            have HX := Lib.hid (And.intro hx (And.intro hno hbl))
            clear hx hno hbl
            by_cases h1 : x < -(i0 : Int)
            · have HY := Lib.hid (far_yes (d := d) (i := i0) (n := n) (k := k) HLL.out.2.2 HLL.out.2.1 hlt (.inl (by rw [← HX.out.1]; exact h1)))
              go_wp2
              go_ret
              rw [HY.out]
              exact ⟨rfl, HBW.out.trans (HX.out.2.2.mono HBW.out.size)⟩
            · by_cases h2 : (n : Int) - (i0 : Int) ≤ x
              · have HY := Lib.hid (far_yes (d := d) (i := i0) (n := n) (k := k) HLL.out.2.2 HLL.out.2.1 hlt (.inr (by rw [← HX.out.1]; exact h2)))
                go_wp2
                go_ret
                rw [HY.out]
                exact ⟨rfl, HBW.out.trans (HX.out.2.2.mono HBW.out.size)⟩
              · go_wp2
                go_roundw
                case rel => exact ⟨k + 1, by omega, by go_num, fun i hi => by
                  rcases Nat.lt_or_ge i k with h | h
                  · exact HX.out.2.1 i h
                  · obtain rfl : i = k := by omega
                    rw [← HX.out.1]; omega, HX.out.2.2⟩
                case measure => simp [intOf]; omega
          · obtain rfl : k = tn := by omega
            have hkI : ¬ (k : Int) < (k : Int) := by omega
            have HY := Lib.hid (far_no (d := d) (i := i0) (n := n) (k := k) HLL.out.2.2 HLL.out.2.1 hno)
            have HX := Lib.hid hbl
            clear hno hbl
            go_wp2
            go_ret
            rw [HY.out]
            exact ⟨rfl, HBW.out.trans (HX.out.mono HBW.out.size)⟩

    · have h35b : (I == 35) = false := by simpa using fun h => hjc (.inl h)
      have h38b : (I == 38) = false := by simpa using fun h => hjc (.inr h)
      have HY := Lib.hid (show farB d i0 n = false by unfold farB farL; rw [HID.out, if_neg h40, if_neg hjc]; rfl)
      clear hjc h40
      go_wp2
      go_ret
      rw [HY.out]
      exact ⟨rfl, HR.out.2.2.1⟩
end Go.Proofs.Ytnmapncgnceldaa
