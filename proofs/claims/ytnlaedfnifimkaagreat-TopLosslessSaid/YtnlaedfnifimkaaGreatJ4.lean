/- Part 4 of the proof: lemmas on what the program computes; no condition. -/
import Derived.BigQuiet
import Derived.Lib.SmallJoins
import Derived.Lib.EndianBits
import Derived.ArgAppend
import Derived.Lib.SlBytesConst
import Derived.Deep.CutRange
import Derived.Deep.RegionHeld
import Derived.Test.YtnlaedfnifimkaaGreatJ3
import Derived.Test.YtnlaedfnifimkaaGreatJ1
set_option linter.unusedVariables false
set_option linter.unusedSimpArgs false
set_option linter.unusedSectionVars false
namespace Go.Proofs.YtnlaedfnifimkaaGreat
open Go.RowKit
namespace Tl
set_option maxRecDepth 100000 in
set_option maxHeartbeats 8000000 in
theorem sound43_any (w : World) (u : Int) (u0 : 0 ≤ u) (u1 : u ≤ 1) :
    Calls Tryz.prog 83 #[.agg (bk 43 u (.slice none 0 0))] w fun x w' => x = .returned (.tuple #[.bool true, .agg (bk 43 0 (.slice none 0 0))]) ∧ Below w.heap.size w w' := by
  go_enter Tryz.func83, Tryz.ntmps83
  go_upto_region 1 with fail
  have hB1 : Blk ((w.alloc (.cells (bk 43 u (.slice none 0 0)) 34)).alloc (.cells (bk 0 0 (.slice none 0 0)) 34)) w.heap.size 34 (bk 43 u (.slice none 0 0)) := (Blk.new w _ _).alloc _
  have hB2 : Blk ((w.alloc (.cells (bk 43 u (.slice none 0 0)) 34)).alloc (.cells (bk 0 0 (.slice none 0 0)) 34)) (w.heap.size + 1) 34 (bk 0 0 (.slice none 0 0)) := by
    have := Blk.new (w.alloc (.cells (bk 43 u (.slice none 0 0)) 34)) 34 (bk 0 0 (.slice none 0 0))
    simpa using this
  have hb0 : Below w.heap.size w ((w.alloc (.cells (bk 43 u (.slice none 0 0)) 34)).alloc (.cells (bk 0 0 (.slice none 0 0)) 34)) := ((Below.refl _ _).alloc (Nat.le_refl _) _).alloc (by simp) _
  have hs : ((w.alloc (.cells (bk 43 u (.slice none 0 0)) 34)).alloc (.cells (bk 0 0 (.slice none 0 0)) 34)).heap.size = w.heap.size + 2 := by simp
  change Code.wp _ _ _ _ ((w.alloc (.cells (bk 43 u (.slice none 0 0)) 34)).alloc (.cells (bk 0 0 (.slice none 0 0)) 34))
  generalize ((w.alloc (.cells (bk 43 u (.slice none 0 0)) 34)).alloc (.cells (bk 0 0 (.slice none 0 0)) 34)) = W at *
  have HS := Lib.hid hs
  clear hs
  go_upto_region 2 with (first
    | (refine wpList_load_box rfl 34 _ rfl w.heap.size rfl 34 (bk 43 u (.slice none 0 0)) hB1 _ Tryz.underlying34 rfl blkInfo' ?_)
    | fail)
  refine fun (_ : Hid _) => ?_
  go_upto_region 2 with (first
    | (refine wpList_store_box rfl 34 _ _ rfl W.heap.size (bk 43 u (.slice none 0 0)) rfl rfl 34 (bk 0 0 (.slice none 0 0)) (Blk.new W _ _) blkInfo' rfl (bk_one _ _ _ _ _) ?_)
    | fail)
  intro w3 hB3 hg3
  have hb3 : Below W.heap.size W w3 := ((Below.refl _ _).alloc (Nat.le_refl _) _).grown hg3 (by simp) (fun b hb => by injection hb with hb; omega)
  have hR1 : Blk w3 w.heap.size 34 (bk 43 u (.slice none 0 0)) := hB1.below hb3 hB1.lt
  have hR2 : Blk w3 (w.heap.size + 1) 34 (bk 0 0 (.slice none 0 0)) := hB2.below hb3 hB2.lt
  have c0 : w3.cell? ⟨w.heap.size, 0, none⟩ = some (.int .i64 43) := (hR1.cell 0).trans rfl
  have hbw : Below w.heap.size w w3 := bthen hb0 hb3
  have H3 := Lib.hid (And.intro hR2 hbw)
  clear hB1 hB2 hb0 hB3 hg3 hb3 hR2 hbw
  go_wp2_with (first
    | (refine wpList_load_box rfl 34 _ rfl w.heap.size rfl 34 (bk 43 u (.slice none 0 0)) hR1 _ Tryz.underlying34 rfl blkInfo' ?_)
    | fail)
  try (refine fun (_ : Hid _) => ?_)
  clear c0 hR1
  try go_wp2_with fail
  refine (other43_any w3 u u0 u1).mono ?_
  rintro e w4 ⟨rfl, hb4⟩
  have hR4 : Blk w4 (w.heap.size + 1) 34 (bk 0 0 (.slice none 0 0)) := H3.out.1.below hb4 H3.out.1.lt
  have H4 := Lib.hid (bthen H3.out.2 hb4)
  clear hb4
  go_wp2_with (first
    | (refine wpList_store_box rfl 34 _ _ rfl (w.heap.size + 1) (bk 43 0 (.slice none 0 0)) rfl rfl 34 (bk 0 0 (.slice none 0 0)) hR4 blkInfo' rfl (bk_one _ _ _ _ _) ?_)
    | fail)
  intro w7 hB7 hg7
  have H7 := Lib.hid (H4.out.grown hg7 H4.out.size (fun b hb => by injection hb with hb; omega))
  clear hg7
  go_wp2
  exact bodyPost_ret (results_tmp_cell rfl _ w7 (w.heap.size + 1) 34 _ (0, 0) _ rfl hB7 Tryz.underlying34 rfl blkInfo') rfl ⟨rfl, H7.out⟩
def MayK (I u : Int) (TA : Option Addr) (tn tc : Nat) (B : Nat) (w : World) : Prop := (I = 43 ∧ 0 ≤ u ∧ u ≤ 1 ∧ TA = none ∧ tn = 0 ∧ tc = 0) ∨ (I = 19 ∧ u = 0 ∧ tn ≤ 255 ∧ ∃ ts : List Int, Reads w B 1 TA tn (ts.map (Value.int .i64)) ∧ ∀ z ∈ ts, 0 ≤ z ∧ z ≤ 65535)
theorem sound_ours (w : World) (I u : Int) (TA : Option Addr) (tn tc B : Nat) (h : MayK I u TA tn tc B w) (hB : B ≤ w.heap.size) :
    Calls Tryz.prog 83 #[.agg (bk I u (.slice TA tn tc))] w fun x w' => x = .returned (.tuple #[.bool true, .agg (bk I 0 (.slice none 0 0))]) ∧ Below w.heap.size w w' := by
  rcases h with ⟨rfl, u0, u1, rfl, rfl, rfl⟩ | ⟨rfl, rfl, hn, ts, hr, hz⟩
  · exact sound43_any w u u0 u1
  · exact sound19_any w B TA tn tc ts hr hB hz hn
theorem MayK.below {I u : Int} {TA : Option Addr} {tn tc B : Nat} {w w' : World} (h : MayK I u TA tn tc B w) (hb : Below B w w') : MayK I u TA tn tc B w' := by
  rcases h with h | ⟨h1, h2, h3, ts, hr, hz⟩
  · exact .inl h
  · exact .inr ⟨h1, h2, h3, ts, hr.below hb, hz⟩
set_option maxRecDepth 100000 in
set_option maxHeartbeats 8000000 in
theorem may_any (w : World) (I u : Int) (TA : Option Addr) (tn tc B : Nat) (h : MayK I u TA tn tc B w) (hB : B ≤ w.heap.size) :
    Calls Tryz.prog 48 #[.agg (bk I u (.slice TA tn tc))] w fun x w' => x = .returned (.bool true) ∧ Below w.heap.size w w' := by
  have hI : 0 ≤ I ∧ I ≤ 255 := by rcases h with ⟨rfl, _⟩ | ⟨rfl, _⟩ <;> omega
  have HH := Lib.hid h
  clear h
  go_enter Tryz.func48, Tryz.ntmps48
  go_upto_region 1 with fail
  have hB1 : Blk (w.alloc (.cells (bk I u (.slice TA tn tc)) 34)) w.heap.size 34 (bk I u (.slice TA tn tc)) := Blk.new w _ _
  have hb0 : Below w.heap.size w (w.alloc (.cells (bk I u (.slice TA tn tc)) 34)) := (Below.refl _ _).alloc (Nat.le_refl _) _
  generalize (w.alloc (.cells (bk I u (.slice TA tn tc)) 34)) = W at *
  have c0 : W.cell? ⟨w.heap.size, 0, none⟩ = some (.int .i64 I) := (hB1.cell 0).trans rfl
  have H1 := Lib.hid (And.intro hB1 hb0)
  clear hB1 hb0
  go_wp2_with fail
  refine (fit_lit W _ [I] _ 1 1 255 rfl rfl (by intro z hz; simp at hz; omega) (by omega)).mono ?_
  rintro e w4 ⟨rfl, rfl⟩
  have hb4 : Below W.heap.size W (W.alloc (.cells ([I].map (Value.int .i64)).toArray 3)) := (Below.refl _ _).alloc (Nat.le_refl _) _
  generalize (W.alloc (.cells ([I].map (Value.int .i64)).toArray 3)) = w4 at *
  have hR4 := H1.out.1.below hb4 H1.out.1.lt
  have H4 := Lib.hid (bthen H1.out.2 hb4)
  clear hb4 c0
  go_wp2_with (first
    | (refine wpList_load_box rfl 34 _ rfl w.heap.size rfl 34 (bk I u (.slice TA tn tc)) hR4 _ Tryz.underlying34 rfl blkInfo' ?_)
    | fail)
  refine fun (_ : Hid _) => ?_
  go_wp2_with fail
  refine (sound_ours w4 I u TA tn tc B (HH.out.below (H4.out.mono hB)) (Nat.le_trans hB H4.out.size)).mono ?_
  rintro e w5 ⟨rfl, hb5⟩
  have H5 := Lib.hid (bthen H4.out hb5)
  clear hb5 hR4
  go_wp2_with (first
    | (refine wpList_store_box rfl 34 _ _ rfl w5.heap.size (bk I 0 (.slice none 0 0)) rfl rfl 34 (bk 0 0 (.slice none 0 0)) (Blk.new w5 _ _) blkInfo' rfl (bk_one _ _ _ _ _) ?_)
    | fail)
  intro w6 hB6 hg6
  have hb6 : Below w5.heap.size w5 w6 := ((Below.refl _ _).alloc (Nat.le_refl _) _).grown hg6 (by simp) (fun b hb => by injection hb with hb; omega)
  have H6 := Lib.hid (bthen H5.out hb6)
  clear hb6 hg6
  go_wp2_with (first
    | (refine wpList_load_box rfl 34 _ rfl w5.heap.size rfl 34 (bk I 0 (.slice none 0 0)) hB6 _ Tryz.underlying34 rfl blkInfo' ?_)
    | fail)
  try (refine fun (_ : Hid _) => ?_)
  clear hB6
  try go_wp2_with fail
  refine (empty_any w6 I).mono ?_
  rintro e w7 ⟨rfl, hb7⟩
  have H7 := Lib.hid (bthen H6.out hb7)
  clear hb7
  go_wp2
  go_ret
  exact ⟨rfl, H7.out⟩
end Tl
end Go.Proofs.YtnlaedfnifimkaaGreat
namespace Go.Proofs.YtnlaedfnifimkaaGreat
open Go.RowKit
def rdA (A : Option Addr) (n c : Nat) (p : Int) (bad : Option Addr) : Array Value := #[.slice A n c, .int .i64 p, .pointer bad]
def Rd (w : World) (g : Nat) (A : Option Addr) (n c : Nat) (p : Int) (bad : Option Addr) : Prop := Blk w g 237 (rdA A n c p bad)
def Ft (w : World) (h : Nat) (e p : Int) : Prop := Blk w h 105 #[.int .i64 e, .int .i64 p]
section
variable {w w' : World} {g n c : Nat} {A bad : Option Addr} {p : Int}
theorem Rd.c0 (h : Rd w g A n c p bad) : w.cell? ⟨g, 0, none⟩ = some (.slice A n c) := (Blk.cell h 0).trans rfl
theorem Rd.c1 (h : Rd w g A n c p bad) : w.cell? ⟨g, 1, none⟩ = some (.int .i64 p) := (Blk.cell h 1).trans rfl
theorem Rd.c2 (h : Rd w g A n c p bad) : w.cell? ⟨g, 2, none⟩ = some (.pointer bad) := (Blk.cell h 2).trans rfl
theorem Rd.f1 (h : Rd w g A n c p bad) : w.frozen? ⟨g, 1, none⟩ = false := Blk.frozen h 1
theorem Rd.f2 (h : Rd w g A n c p bad) : w.frozen? ⟨g, 2, none⟩ = false := Blk.frozen h 2
theorem Rd.lt (h : Rd w g A n c p bad) : g < w.heap.size := Blk.lt h
theorem Rd.below (h : Rd w g A n c p bad) (k : Below w.heap.size w w') : Rd w' g A n c p bad := Blk.below h k h.lt
theorem Rd.drewN (h : Rd w g A n c p bad) (q : Nat) : Rd (w.drewN q) g A n c p bad := Blk.drewN h q
theorem Rd.set1 (h : Rd w g A n c p bad) (p' : Int) : Rd (w.setCell ⟨g, 1, none⟩ (.int .i64 p')) g A n c p' bad := Blk.set_ h 1 _
theorem Rd.set2 (h : Rd w g A n c p bad) (b' : Option Addr) : Rd (w.setCell ⟨g, 2, none⟩ (.pointer b')) g A n c p b' := Blk.set_ h 2 _
end
theorem grown_drewN {w : World} (q : Nat) (r : Option Nat) : w.grownBy (w.drewN q) r := ⟨rfl, rfl, rfl, Nat.le_refl _, fun _ _ _ => rfl⟩
theorem grown_set {w : World} {g i : Nat} (v : Value) : w.grownBy (w.setCell ⟨g, i, none⟩ v) (some g) :=
  ⟨rfl, rfl, rfl, by simp [World.setCell], fun j _ hne => Below.heap_setCell w ⟨g, i, none⟩ v j (fun e => hne (by rw [e]))⟩
theorem grown_trans {w w1 w2 : World} {r : Option Nat} (h : w.grownBy w1 r) (h' : w1.grownBy w2 r) : w.grownBy w2 r :=
  ⟨h'.os.trans h.os, h'.tape.trans h.tape, h'.output.trans h.output, Nat.le_trans h.size h'.size, fun j hj hne => (h'.block j (Nat.lt_of_lt_of_le hj h.size) hne).trans (h.block j hj hne)⟩
theorem read_new (w : World) (A : Option Addr) (n c : Nat) :
    Calls Tryz.prog 110 #[.slice A n c] w fun e w' => e = .returned (.pointer (some ⟨w.heap.size, 0, none⟩)) ∧ Rd w' w.heap.size A n c 0 none ∧ Below w.heap.size w w' := by
  go_enter Tryz.func110, Tryz.ntmps110
  go_wp2
  go_ret
  exact ⟨rfl, Blk.new w _ _, (Below.refl _ _).alloc (Nat.le_refl _) _⟩
theorem fail_new {w : World} {g n c : Nat} {A : Option Addr} {p : Int} (h : Rd w g A n c p none) (e q : Int) (he : (e == 0) = false) :
    Calls Tryz.prog 114 #[.pointer (some ⟨g, 0, none⟩), .int .i64 e, .int .i64 q] w fun x w' => x = .returned (.tuple #[]) ∧ Rd w' g A n c p (some ⟨w.heap.size, 0, none⟩) ∧ Ft w' w.heap.size e q ∧ w.grownBy w' (some g) := by
  have c2 := h.c2
  have f2 := h.f2
  have hl := h.lt
  have hR : Rd ((w.setCell ⟨g, 2, none⟩ (.pointer (some ⟨w.heap.size, 0, none⟩))).alloc (.cells #[.int .i64 e, .int .i64 q] 105)) g A n c p (some ⟨w.heap.size, 0, none⟩) := Blk.alloc (h.set2 _) _
  have hsz : (w.setCell ⟨g, 2, none⟩ (.pointer (some ⟨w.heap.size, 0, none⟩))).heap.size = w.heap.size := by simp [World.setCell]
  have hF : Ft ((w.setCell ⟨g, 2, none⟩ (.pointer (some ⟨w.heap.size, 0, none⟩))).alloc (.cells #[.int .i64 e, .int .i64 q] 105)) w.heap.size e q := by
    have := Blk.new (w.setCell ⟨g, 2, none⟩ (.pointer (some ⟨w.heap.size, 0, none⟩))) 105 #[.int .i64 e, .int .i64 q]
    rw [hsz] at this
    exact this
  have hG : w.grownBy ((w.setCell ⟨g, 2, none⟩ (.pointer (some ⟨w.heap.size, 0, none⟩))).alloc (.cells #[.int .i64 e, .int .i64 q] 105)) (some g) := grown_trans (grown_set _) (World.grownBy_alloc _ _ _)
  go_enter Tryz.func114, Tryz.ntmps114
  go_wp2
  first | go_end0 | refine bodyPost_ret (results_none rfl _ _ _) rfl ?_
  exact ⟨rfl, hR, hF, hG⟩
theorem at_any {w : World} {g n c : Nat} {A bad : Option Addr} {p : Int} (h : Rd w g A n c p bad) :
    Calls Tryz.prog 115 #[.pointer (some ⟨g, 0, none⟩)] w fun x w' => x = .returned (.int .i64 p) ∧ w = w' := by
  have c1 := h.c1
  go_enter Tryz.func115, Tryz.ntmps115
  go_wp2
  go_ret
  exact ⟨rfl, rfl⟩
theorem left_ok {w : World} {g n c p : Nat} {A : Option Addr} (h : Rd w g A n c p none) (hp : p ≤ n) (hn : n ≤ 9223372036854775807) :
    Calls Tryz.prog 113 #[.pointer (some ⟨g, 0, none⟩)] w fun x w' => x = .returned (.int .i64 ((n : Int) - p)) ∧ ∃ q, w' = w.drewN q := by
  have c0 := h.c0
  have c1 := h.c1
  have c2 := h.c2
  go_enter Tryz.func113, Tryz.ntmps113
  go_wp2
  go_quiet (fail)
  go_wp2
  go_ret
  exact ⟨rfl, _, rfl⟩
theorem reads_win {w : World} {B n c p k : Nat} {A : Option Addr} {zs : List Int} (h : Reads w B 1 A n (zs.map (Value.int .u8))) (hk : p + k ≤ n) (hc : n ≤ c) :
    Reads w B 1 (if c = p then A else A.map (·.add p)) k (((zs.drop p).take k).map (Value.int .u8)) := by
  have hl := reads_len h
  refine ⟨by simp; omega, fun hn => ?_⟩
  obtain ⟨ad, rfl, hb, hcell⟩ := h.2 (by omega)
  rw [if_neg (by omega)]
  refine ⟨ad.add p, rfl, by rw [block_of_add]; exact hb, fun j u hu => ?_⟩
  rw [add_of_add]
  rw [List.getElem?_map, List.getElem?_take] at hu
  split at hu
  · rw [List.getElem?_drop, ← List.getElem?_map] at hu
    exact hcell _ u hu
  · cases hu
theorem next_short {w : World} {g n c p : Nat} {A : Option Addr} {k : Int} (h : Rd w g A n c p none) (hp : p ≤ n) (hn : n ≤ 9223372036854775807) (hk : (n : Int) - p < k) :
    Calls Tryz.prog 137 #[.pointer (some ⟨g, 0, none⟩), .int .i64 k] w fun x w' => x = .returned (.slice none 0 0) ∧ Rd w' g A n c p (some ⟨w.heap.size, 0, none⟩) ∧ Ft w' w.heap.size 2 p ∧ w.grownBy w' (some g) := by
  have c1 := h.c1
  have c2 := h.c2
  go_enter Tryz.func137, Tryz.ntmps137
  go_wp2_with fail
  refine (left_ok h hp hn).mono ?_
  rintro e w1 ⟨rfl, q, rfl⟩
  have h1 := h.drewN q
  have hg1 := grown_drewN (w := w) q (some g)
  have hs : (w.drewN q).heap.size = w.heap.size := rfl
  generalize w.drewN q = W at *
  have d1 := h1.c1
  go_wp2_with fail
  refine (fail_new h1 2 p (by decide)).mono ?_
  rintro e w2 ⟨rfl, hR, hF, hg⟩
  rw [hs] at hR hF
  go_wp2
  go_ret
  exact ⟨rfl, hR, hF, grown_trans hg1 hg⟩
set_option maxHeartbeats 1000000 in
theorem next_ok {w : World} {g n c p k : Nat} {A : Option Addr} (h : Rd w g A n c p none) (hk : p + k ≤ n) (hc : n ≤ c) (hn : c ≤ 9223372036854775807) (hA : A = none → c = 0) :
    Calls Tryz.prog 137 #[.pointer (some ⟨g, 0, none⟩), .int .i64 k] w fun x w' => x = .returned (.slice (if c = p then A else A.map (·.add p)) k (c - p)) ∧ Rd w' g A n c ((p + k : Nat) : Int) none ∧ w.grownBy w' (some g) := by
  have c0 := h.c0
  have c1 := h.c1
  have c2 := h.c2
  go_enter Tryz.func137, Tryz.ntmps137
  go_wp2_with fail
  refine (left_ok h (by omega) (by omega)).mono ?_
  rintro e w1 ⟨rfl, q, rfl⟩
  have hwr : IntKind.i64.wrap ((p : Int) + (k : Int)) = (p : Int) + (k : Int) := by rw [IntKind.wrap_i64]; omega
  have hI : ¬ (n : Int) - (p : Int) < (k : Int) := by omega
  have h1 := h.drewN q
  have hg1 := grown_drewN (w := w) q (some g)
  generalize w.drewN q = W at *
  have d0 := h1.c0
  have d1 := h1.c1
  have df := h1.f1
  have i1 : (0 : Int) ≤ (p : Int) := by omega
  have i2 : (p : Int) ≤ (p : Int) + (k : Int) := by omega
  have i3 : (p : Int) + (k : Int) ≤ (c : Int) := by omega
  rcases A with _ | ad
  · obtain rfl := hA rfl
    obtain rfl : n = 0 := by omega
    obtain rfl : p = 0 := by omega
    obtain rfl : k = 0 := by omega
    go_wp2
    go_quiet (fail)
    have h2 := (h1.drewN nq).set1 0
    have hg2 := grown_trans (grown_trans hg1 (grown_drewN nq (some g))) (grown_set (w := W.drewN nq) (g := g) (i := 1) (.int .i64 0))
    go_wp2
    go_ret
    exact ⟨rfl, h2, hg2⟩
  · have h2 : ∀ nq, Rd ((W.drewN nq).setCell ⟨g, 1, none⟩ (.int .i64 ((p : Int) + (k : Int)))) g (some ad) n c ((p + k : Nat) : Int) none := fun nq => by
      have := (h1.drewN nq).set1 ((p : Int) + (k : Int))
      rwa [← Int.natCast_add] at this ⊢
    have hg2 : ∀ nq, w.grownBy ((W.drewN nq).setCell ⟨g, 1, none⟩ (.int .i64 ((p : Int) + (k : Int)))) (some g) := fun nq => grown_trans (grown_trans hg1 (grown_drewN nq (some g))) (grown_set _)
    have hpk : p + k - p = k := by omega
    by_cases hcp : c = p
    · go_wp2
      go_quiet (fail)
      go_wp2
      go_ret
      exact ⟨rfl, by have := h2 nq; rw [hcp] at this; simpa using this, hg2 nq⟩
    · go_wp2
      go_quiet (fail)
      go_wp2
      go_ret
      exact ⟨rfl, by first | exact h2 nq | simpa using h2 nq, hg2 nq⟩
def valL : List Int → Int
  | [] => 0
  | z :: t => z + 256 * valL t
theorem valL_app (l : List Int) (z : Int) : valL (l ++ [z]) = valL l + z * 256 ^ l.length := by
  induction l with
  | nil => simp [valL]
  | cons a t ih =>
    rw [List.cons_append, valL, ih, valL, List.length_cons, Int.pow_succ, Int.mul_add]
    have : 256 * (z * 256 ^ t.length) = z * (256 ^ t.length * 256) := by rw [Int.mul_comm (256 ^ t.length) 256, ← Int.mul_assoc, Int.mul_comm 256 z, Int.mul_assoc]
    omega
theorem valL_in : ∀ {l : List Int}, isU8 l → 0 ≤ valL l ∧ valL l < 256 ^ l.length
  | [], _ => by simp [valL]
  | a :: t, h => by
    have ih := valL_in (l := t) fun z hz => h z (by simp [hz])
    have ha := h a (by simp)
    rw [valL, List.length_cons, Int.pow_succ]
    omega
theorem wraps_i64' (n : Int) (h0 : 0 ≤ n) (h1 : n < 2 ^ 62) : IntKind.i64.wrap n = n := by rw [IntKind.wrap_i64]; omega
section
variable {V z : Int}
theorem or_0 (v0 : 0 ≤ V) (v1 : V < 1) (z0 : 0 ≤ z) (z1 : z ≤ 255) : bits .or .i64 V z = V + z := by
  rw [bits_join_low .i64 62 (by decide) wraps_i64' 0 V z v0 (by omega) (by omega) z0 (by omega) (by omega)]
theorem or_1 (v0 : 0 ≤ V) (v1 : V < 256) (z0 : 0 ≤ z) (z1 : z ≤ 255) : bits .or .i64 V (z * 256) = V + z * 256 := by
  rw [bits_join_low .i64 62 (by decide) wraps_i64' 8 V (z * 256) v0 (by omega) (by omega) (by omega) (by omega) (by omega)]
theorem or_2 (v0 : 0 ≤ V) (v1 : V < 65536) (z0 : 0 ≤ z) (z1 : z ≤ 255) : bits .or .i64 V (z * 65536) = V + z * 65536 := by
  rw [bits_join_low .i64 62 (by decide) wraps_i64' 16 V (z * 65536) v0 (by omega) (by omega) (by omega) (by omega) (by omega)]
theorem or_3 (v0 : 0 ≤ V) (v1 : V < 16777216) (z0 : 0 ≤ z) (z1 : z ≤ 255) : bits .or .i64 V (z * 16777216) = V + z * 16777216 := by
  rw [bits_join_low .i64 62 (by decide) wraps_i64' 24 V (z * 16777216) v0 (by omega) (by omega) (by omega) (by omega) (by omega)]
end
set_option maxRecDepth 100000 in
set_option maxHeartbeats 2000000 in
theorem number_any (w : World) (B k c : Nat) (A : Option Addr) (zs : List Int) (hr : Reads w B 1 A k (zs.map (Value.int .u8))) (hz : isU8 zs) (hk : k ≤ 4) :
    Calls Tryz.prog 138 #[.slice A k c] w fun e w' => e = .returned (.int .i64 (valL zs)) ∧ w = w' := by
  have HL := Lib.hid (reads_len hr)
  go_enter Tryz.func138, Tryz.ntmps138
  go_wp2
  go_loop [3, 8] (fun v x => ∃ i : Nat, i ≤ k ∧ x = .int .i64 i ∧ v = .int .i64 (valL (zs.take i))) (fun _ x => k - (intOf x).toNat)
  case atStart => exact ⟨0, by omega, rfl, rfl⟩
  case round =>
    obtain ⟨i, hi, rfl, rfl⟩ := hrel
    by_cases hlt : i < k
    · obtain ⟨ad, rfl, hab, hcl⟩ := u8_at hr hlt
      have ht := take_snocI zs i (by rw [HL.out]; exact hlt)
      have hv := valL_app (zs.take i) (zs.getD i 0)
      rw [← ht, List.length_take, HL.out, show min i k = i by omega] at hv
      have hin := valL_in (l := zs.take i) (fun z h => hz z (List.mem_of_mem_take h))
      rw [List.length_take, HL.out, show min i k = i by omega] at hin
      obtain ⟨z0, z1⟩ := isU8_at hz (k := i) (by rw [HL.out]; exact hlt)
      clear ht
      generalize valL (zs.take i) = V at *
      generalize zs.getD i 0 = z at *
      obtain ⟨v0, v1⟩ := hin
      rcases (show i = 0 ∨ i = 1 ∨ i = 2 ∨ i = 3 by omega) with rfl | rfl | rfl | rfl
      · simp only [show ((256 : Int) ^ 0) = 1 from rfl] at v1 hv
        rw [Int.mul_one] at hv
        have HV := Lib.hid hv
        clear hv
        have hor := or_0 v0 v1 z0 z1
        rw [add_zero_] at hcl
        go_wp2
        go_round
        case rel => exact ⟨0 + 1, by omega, rfl, by rw [HV.out]⟩
        case measure => first | (simp [intOf]; done) | (simp [intOf]; omega)
      · simp only [show ((256 : Int) ^ 1) = 256 from rfl] at v1 hv
        have HV := Lib.hid hv
        clear hv
        have hor := or_1 v0 v1 z0 z1
        rw [add_lit ad 1 (by decide)] at hcl
        go_wp2
        go_round
        case rel => exact ⟨1 + 1, by omega, rfl, by rw [HV.out]⟩
        case measure => first | (simp [intOf]; done) | (simp [intOf]; omega)
      · simp only [show ((256 : Int) ^ 2) = 65536 from rfl] at v1 hv
        have HV := Lib.hid hv
        clear hv
        have hor := or_2 v0 v1 z0 z1
        rw [add_lit ad 2 (by decide)] at hcl
        go_wp2
        go_round
        case rel => exact ⟨2 + 1, by omega, rfl, by rw [HV.out]⟩
        case measure => first | (simp [intOf]; done) | (simp [intOf]; omega)
      · simp only [show ((256 : Int) ^ 3) = 16777216 from rfl] at v1 hv
        have HV := Lib.hid hv
        clear hv
        have hor := or_3 v0 v1 z0 z1
        rw [add_lit ad 3 (by decide)] at hcl
        go_wp2
        go_round
        case rel => exact ⟨3 + 1, by omega, rfl, by rw [HV.out]⟩
        case measure => first | (simp [intOf]; done) | (simp [intOf]; omega)
    · have hk2 : zs.take i = zs := by have := HL.out; rw [List.take_of_length_le (by omega)]
      have HK := Lib.hid hk2
      clear hk2
      go_wp2
      go_ret
      exact ⟨by rw [HK.out]; rfl, rfl⟩
end Go.Proofs.YtnlaedfnifimkaaGreat
namespace Go.Proofs.YtnlaedfnifimkaaGreat
open Go.RowKit
theorem isU8_win {zs : List Int} (h : isU8 zs) (p k : Nat) : isU8 ((zs.drop p).take k) := fun z hz => h z (List.mem_of_mem_drop (List.mem_of_mem_take hz))
theorem number_ok {w : World} {g n c p m B : Nat} {A : Option Addr} {zs : List Int} (h : Rd w g A n c p none) (hr : Reads w B 1 A n (zs.map (Value.int .u8))) (hz : isU8 zs) (hg : B ≤ g) (hm : 1 ≤ m) (hm4 : m ≤ 4) (hk : p + m ≤ n) (hc : n ≤ c) (hn : c ≤ 9223372036854775807) :
    Calls Tryz.prog 112 #[.pointer (some ⟨g, 0, none⟩), .int .i64 m] w fun x w' => x = .returned (.int .i64 (valL ((zs.drop p).take m))) ∧ Rd w' g A n c ((p + m : Nat) : Int) none ∧ w.grownBy w' (some g) := by
  have hA : A = none → c = 0 := by
    intro e
    obtain ⟨ad, e', _⟩ := hr.2 (by omega)
    rw [e] at e'; cases e'
  have hb : ∀ w' : World, w.grownBy w' (some g) → Reads w' B 1 A n (zs.map (Value.int .u8)) := fun w' hg' => hr.keep fun q hq => by
    by_cases hlt : q.block < w.heap.size
    · exact World.cell?_of_block (hg'.block q.block hlt (fun e => by injection e with e; omega))
    · exact absurd (Nat.lt_of_lt_of_le hq (Nat.le_trans hg (Nat.le_of_lt h.lt))) hlt
  have i1 : (1 : Int) ≤ (m : Int) := by omega
  have i2 : (m : Int) ≤ 4 := by omega
  go_enter Tryz.func112, Tryz.ntmps112
  go_wp2_with fail
  refine (next_ok h hk hc hn hA).mono ?_
  rintro e w1 ⟨rfl, h1, hg1⟩
  have hw := reads_win (p := p) (k := m) (hb w1 hg1) hk hc
  generalize (if c = p then A else A.map (·.add p)) = A' at *
  go_wp2_with fail
  refine (number_any w1 B m (c - p) A' _ hw (isU8_win hz p m) hm4).mono ?_
  rintro e w2 ⟨rfl, rfl⟩
  go_wp2
  go_ret
  exact ⟨rfl, h1, hg1⟩
theorem end_ok {w : World} {g n c : Nat} {A : Option Addr} (h : Rd w g A n c n none) :
    Calls Tryz.prog 117 #[.pointer (some ⟨g, 0, none⟩)] w fun x w' => x = .returned .nilIface ∧ ∃ q, w' = w.drewN q := by
  have c0 := h.c0
  have c1 := h.c1
  have c2 := h.c2
  go_enter Tryz.func117, Tryz.ntmps117
  go_wp2
  go_quiet (fail)
  go_wp2
  go_ret
  exact ⟨rfl, _, rfl⟩
end Go.Proofs.YtnlaedfnifimkaaGreat
namespace Go.Proofs.YtnlaedfnifimkaaGreat
open Go.RowKit
def bytesL : Nat → Int → List Int
  | 0, _ => []
  | k + 1, v => v % 256 :: bytesL k (v / 256)
theorem bytesL_len : ∀ k v, (bytesL k v).length = k
  | 0, _ => rfl
  | k + 1, v => by rw [bytesL, List.length_cons, bytesL_len k]
theorem bytesL_in : ∀ k v, isU8 (bytesL k v)
  | 0, _ => fun z hz => by simp [bytesL] at hz
  | k + 1, v => fun z hz => by
    rw [bytesL] at hz
    rcases List.mem_cons.1 hz with rfl | h
    · omega
    · exact bytesL_in k _ z h
def shrI (v : Int) : Nat → Int
  | 0 => v
  | k + 1 => shrI v k / 256
theorem bytesL_snoc : ∀ k v, bytesL (k + 1) v = bytesL k v ++ [shrI v k % 256]
  | 0, v => rfl
  | k + 1, v => by
    have h : ∀ (j : Nat) (u : Int), shrI (u / 256) j = shrI u (j + 1) := by
      intro j
      induction j with
      | zero => intro u; rfl
      | succ j ih => intro u; rw [shrI, ih]; rfl
    rw [bytesL, bytesL_snoc k (v / 256), h]
    rfl
theorem shrI_in {v : Int} (h0 : -9223372036854775808 ≤ v) (h1 : v ≤ 9223372036854775807) : ∀ k, -9223372036854775808 ≤ shrI v k ∧ shrI v k ≤ 9223372036854775807
  | 0 => ⟨h0, h1⟩
  | k + 1 => by have := shrI_in h0 h1 k; rw [shrI]; omega
theorem valL_bytes : ∀ k v, 0 ≤ v → v < 256 ^ k → valL (bytesL k v) = v
  | 0, v, h0, h1 => by simp at h1; simp [bytesL, valL]; omega
  | k + 1, v, h0, h1 => by
    rw [Int.pow_succ] at h1
    rw [bytesL, valL, valL_bytes k (v / 256) (by omega) (by omega)]
    omega
def Moved (w : World) (V V' : Value) : Prop := V'.ownBlock = V.ownBlock ∨ ∃ g, w.heap.size ≤ g ∧ V'.ownBlock = some g
theorem grown_moved {w w1 w2 w3 : World} {V V1 : Value} (h : w.grownBy w1 V.ownBlock) (ha : w1.grownBy w2 none) (h2 : w2.grownBy w3 V1.ownBlock) (hm : Moved w V V1) : w.grownBy w3 V.ownBlock := by
  refine ⟨h2.os.trans (ha.os.trans h.os), h2.tape.trans (ha.tape.trans h.tape), h2.output.trans (ha.output.trans h.output), Nat.le_trans h.size (Nat.le_trans ha.size h2.size), fun j hj hne => ?_⟩
  have h1s := h.size
  have has := ha.size
  refine (h2.block j (by omega) ?_).trans ((ha.block j (by omega) (by simp)).trans (h.block j hj hne))
  rcases hm with e | ⟨g, hg, e⟩
  · rw [e]; exact hne
  · rw [e]; intro e2; injection e2 with e2; omega
theorem moved_next {w : World} {V V1 V2 : Value} {s : Nat} (hm : Moved w V V1) (hs : w.heap.size ≤ s) (h : V2.ownBlock = V1.ownBlock ∨ V2.ownBlock = some s) : Moved w V V2 := by
  rcases h with h | h
  · rcases hm with e | ⟨g, hg, e⟩
    · exact .inl (h.trans e)
    · exact .inr ⟨g, hg, h.trans e⟩
  · exact .inr ⟨_, hs, h⟩
set_option maxRecDepth 100000 in
set_option maxHeartbeats 2000000 in
theorem put_any (w : World) (base m n : Nat) (V : Value) (v : Int) (xs : List Int) (v0 : -9223372036854775808 ≤ v) (v1 : v ≤ 9223372036854775807) (hown : w.ownsRow base 5 1 V m (xs.map (Value.int .u8))) (hm : m ≤ 5000000) (hn : n ≤ 4) (hb : base ≤ w.heap.size) (h1 : 1 ≤ n) :
    Calls Tryz.prog 87 #[V, .int .i64 n, .int .i64 v] w fun e w' => ∃ V', e = .returned V' ∧ w'.ownsRow base 5 1 V' (m + n) ((xs ++ bytesL n v).map (Value.int .u8)) ∧ w.grownBy w' V.ownBlock ∧ Moved w V V' := by
  obtain ⟨i0, hi, hz0, hz1, hz2⟩ := info_parts u8Info
  have i1 : (1 : Int) ≤ (n : Int) := by omega
  have i2 : (n : Int) ≤ 4 := by omega
  go_enter Tryz.func87, Tryz.ntmps87
  go_wp2
  go_loopw [0, 2, 15] (fun b x i wr => ∃ k : Nat, k ≤ n ∧ i = .int .i64 k ∧ x = .int .i64 (shrI v k) ∧ wr.ownsRow base 5 1 b (m + k) ((xs ++ bytesL k v).map (Value.int .u8)) ∧ w.grownBy wr V.ownBlock ∧ Moved w V b) (fun _ _ i _ => n - (intOf i).toNat)
  case atStart => exact ⟨0, by omega, rfl, rfl, by simpa [bytesL] using hown, World.grownBy.refl w _, .inl rfl⟩
  case round =>
    clear hown
    obtain ⟨k, hk, rfl, rfl, hown, hgr, hmv⟩ := hrel
    have hsz := hgr.size
    by_cases hlt : k < n
    · obtain ⟨s0, s1⟩ := shrI_in v0 v1 k
      have HB := Lib.hid (bytesL_snoc k v)
      have HS := Lib.hid (show shrI v (k + 1) = shrI v k / 256 from rfl)
      generalize shrI v k = S at *
      go_wp2_with (first
        | (at_builtin; refine wpList_append_any _ rfl _ _ 24 rfl base 5 i0 (.int .u8 0) 1 1 Tryz.underlying24 hi hz0 hz1 hz2 rfl (by decide) _ (m + k) _ rfl (hown.alloc _) _ (some ⟨wr.heap.size, 0, none⟩) 1 1 [.int .u8 (S % 256)] rfl (reads_new wr _ #[.int .u8 (S % 256)] [.int .u8 (S % 256)] rfl) (by simp [Value.oneCell']) (by unfold maxLen; omega) (by omega) (by simp; omega) ?_)
        | go_in)
      intro v' w3 hown' hgrow hor
      have hg3 : w.grownBy w3 V.ownBlock := grown_moved hgr (World.grownBy_alloc wr _ none) hgrow hmv
      have hm3 : Moved w V v' := moved_next hmv (by omega) hor
      clear hgrow hor hown
      go_wp2
      go_roundw
      case rel => exact ⟨k + 1, by omega, by go_num, by first | rw [HS.out] | (rw [HS.out]; rfl), by rw [HB.out]; simpa [Nat.add_assoc] using hown', hg3, hm3⟩
      case measure => simp [intOf]; omega
    · obtain rfl : k = n := by omega
      go_wp2
      go_ret
      exact ⟨_, rfl, hown, hgr, hmv⟩
end Go.Proofs.YtnlaedfnifimkaaGreat
namespace Go.Proofs.YtnlaedfnifimkaaGreat
open Go.RowKit
namespace Tl
def flatL (K : Nat) (zs : List Int) : List Int := zs.flatMap (bytesL K)
theorem flatL_len (K : Nat) : ∀ zs, (flatL K zs).length = K * zs.length
  | [] => rfl
  | z :: zs => by
    have h := flatL_len K zs
    unfold flatL at h ⊢
    rw [List.flatMap_cons, List.length_append, bytesL_len, h, List.length_cons, Nat.mul_succ, Nat.add_comm]
theorem flatL_in (K : Nat) (zs : List Int) : isU8 (flatL K zs) := fun z hz => by
  obtain ⟨v, _, hv⟩ := List.mem_flatMap.1 hz
  exact bytesL_in K v z hv
theorem flatL_snoc (K : Nat) (zs : List Int) (z : Int) : flatL K (zs ++ [z]) = flatL K zs ++ bytesL K z := by simp [flatL, List.flatMap_append]
structure OutAt (w : World) (o B0 : Nat) (V : Value) (bs : List Int) : Prop where
  box : Blk w o 127 #[V]
  row : w.ownsRow B0 5 1 V bs.length (bs.map (Value.int .u8))
  up : B0 ≤ o
structure OMv (w w' : World) (o : Nat) (V V' : Value) : Prop where
  os : w'.os = w.os
  tape : w'.tape = w.tape
  output : w'.output = w.output
  size : w.heap.size ≤ w'.heap.size
  block : ∀ b, b < w.heap.size → b ≠ o → V.ownBlock ≠ some b → w'.heap[b]? = w.heap[b]?
  mv : V'.ownBlock = V.ownBlock ∨ ∃ g, w.heap.size ≤ g ∧ V'.ownBlock = some g
theorem OMv.refl (w : World) (o : Nat) (V : Value) : OMv w w o V V := ⟨rfl, rfl, rfl, Nat.le_refl _, fun _ _ _ _ => rfl, .inl rfl⟩
theorem OMv.trans {w w1 w2 : World} {o : Nat} {V V1 V2 : Value} (h : OMv w w1 o V V1) (k : OMv w1 w2 o V1 V2) : OMv w w2 o V V2 := by
  have hs := h.size
  refine ⟨k.os.trans h.os, k.tape.trans h.tape, k.output.trans h.output, Nat.le_trans h.size k.size, fun b hb h1 h2 => (k.block b (by omega) h1 ?_).trans (h.block b hb h1 h2), ?_⟩
  · intro e
    rcases h.mv with hm | ⟨g, hg, hm⟩
    · exact h2 (hm ▸ e)
    · rw [hm] at e; injection e with e; omega
  · rcases k.mv with km | ⟨g, hg, km⟩
    · rcases h.mv with hm | ⟨g, hg, hm⟩
      · exact .inl (km.trans hm)
      · exact .inr ⟨g, hg, km.trans hm⟩
    · exact .inr ⟨g, by omega, km⟩
theorem OMv.of_below {w w' : World} (o : Nat) (V : Value) (h : Below w.heap.size w w') : OMv w w' o V V := ⟨h.os, h.tape, h.output, h.size, fun b hb _ _ => h.block b hb, .inl rfl⟩
theorem OMv.below {w w' : World} {o B0 : Nat} {V V' : Value} {bs : List Int} (h : OMv w w' o V V') (hO : OutAt w o B0 V bs) (hB : B0 ≤ w.heap.size) : Below B0 w w' :=
  ⟨h.os, h.tape, h.output, h.size, fun b hb => h.block b (by omega) (by have := hO.up; omega) (fun e => by have := (hO.row.lt b e).1; omega)⟩
theorem OutAt.below {w w' : World} {o B0 : Nat} {V : Value} {bs : List Int} (h : OutAt w o B0 V bs) (hb : Below w.heap.size w w') : OutAt w' o B0 V bs :=
  ⟨h.box.below hb h.box.lt, own_kept h.row hb, h.up⟩
theorem OMv.blk {w w' : World} {o B0 g t : Nat} {V V' : Value} {bs : List Int} {cs : Array Value} (h : OMv w w' o V V') (hO : OutAt w o B0 V bs) (hB : Blk w g t cs) (h1 : t ≠ 127) (h2 : t ≠ 5) : Blk w' g t cs :=
  (h.block g hB.lt (hB.ne_ hO.box h1) (own_blk_ne hO.row hB (fun e => h2 e.symm))).trans hB
def OutP (w : World) (o : Nat) (V : Value) : Nat → Prop := fun b => b < w.heap.size ∧ b ≠ o ∧ V.ownBlock ≠ some b
theorem rdp_at {w : World} {φ : Nat → Prop} {n : Nat} {A : Option Addr} {kd : IntKind} {zs : List Int} (h : RdP w φ 1 A n (zs.map (Value.int kd))) {k : Nat} (hk : k < n) :
    ∃ ad, A = some ad ∧ φ ad.block ∧ w.cell? (ad.add k) = some (.int kd (zs.getD k 0)) := by
  obtain ⟨ad, e, hb, hc⟩ := h.2 (by omega)
  have hl := h.1
  rw [List.length_map] at hl
  exact ⟨ad, e, hb, hc k _ (by rw [List.getElem?_map, List.getElem?_eq_getElem (by omega), List.getD_eq_getElem?_getD, List.getElem?_eq_getElem (by omega)]; rfl)⟩
theorem out_store {w w2 : World} {o B0 K : Nat} {V V' : Value} {bs xs : List Int} (hO : OutAt w o B0 V bs) (hB : B0 ≤ w.heap.size) (own : w2.ownsRow B0 5 1 V' (bs.length + K) ((bs ++ xs).map (Value.int .u8))) (hx : xs.length = K) (hg : w.grownBy w2 V.ownBlock) (hm : Moved w V V') :
    OutAt (w2.setCell ⟨o, 0, none⟩ V') o B0 V' (bs ++ xs) ∧ OMv w (w2.setCell ⟨o, 0, none⟩ V') o V V' ∧ Blk w2 o 127 #[V] := by
  have hne := own_blk_ne hO.row hO.box (show 5 ≠ 127 by decide)
  have hB2 : Blk w2 o 127 #[V] := hO.box.grown hg (fun e => hne e.symm)
  have hne2 := own_blk_ne own hB2 (show 5 ≠ 127 by decide)
  have hs := hg.size
  refine ⟨⟨hB2.set_ 0 V', ?_, hO.up⟩, ⟨hg.os, hg.tape, hg.output, by simpa [World.setCell] using hs, fun b hb h1 h2 => (Below.heap_setCell _ _ _ _ h1).trans (hg.block b hb (fun e => h2 e.symm)), ?_⟩, hB2⟩
  · have := ownsRow_setCell_other own (a := ⟨o, 0, none⟩) hne2 V'
    rw [List.length_append, hx]
    exact this
  · rcases hm with h | ⟨g, h1, h2⟩
    · exact .inl h
    · exact .inr ⟨g, h1, h2⟩
def NumO (w w' : World) (o B0 : Nat) (V : Value) (bs xs : List Int) (x : Ending) : Prop := (∃ u, x = .returned u) ∧ ∃ V', OutAt w' o B0 V' (bs ++ xs) ∧ OMv w w' o V V'
set_option maxRecDepth 100000 in
set_option maxHeartbeats 4000000 in
theorem num_any (w : World) (o B0 n c K : Nat) (A : Option Addr) (V : Value) (bs zs : List Int) (hO : OutAt w o B0 V bs) (hB : B0 ≤ w.heap.size) (hr : RdP w (OutP w o V) 1 A n (zs.map (Value.int .i64))) (hz : ∀ z ∈ zs, -9223372036854775808 ≤ z ∧ z ≤ 9223372036854775807) (h1 : 1 ≤ K) (h4 : K ≤ 4) (hn : bs.length + 4 * n ≤ 4000000) :
    Calls Tryz.prog 50 #[.pointer (some ⟨o, 0, none⟩), .int .i64 K, .slice A n c] w fun x w' => NumO w w' o B0 V bs (flatL K zs) x := by
  have hl := hr.1
  rw [List.length_map, Nat.mul_one] at hl
  have HL := Lib.hid hl
  clear hl
  go_enter Tryz.func50, Tryz.ntmps50
  go_wp2
  go_loopw [10] (fun i wr => ∃ (k : Nat) (Vk : Value), k ≤ n ∧ i = .int .i64 k ∧ OutAt wr o B0 Vk (bs ++ flatL K (zs.take k)) ∧ OMv w wr o V Vk) (fun i _ => n - (intOf i).toNat)
  case atStart => exact ⟨0, V, by omega, rfl, by simpa [flatL] using hO, OMv.refl _ _ _⟩
  case round =>
    obtain ⟨k, Vk, hk, rfl, hOk, hmv⟩ := hrel
    by_cases hlt : k < n
    · have hzk := hz (zs.getD k 0) (mem_getD (by rw [HL.out]; exact hlt))
      have hsn := Lib.hid (take_snocI zs k (by rw [HL.out]; exact hlt))
      obtain ⟨ad, rfl, hab, hc0⟩ := rdp_at hr hlt
      have hc : wr.cell? (ad.add k) = some (.int .i64 (zs.getD k 0)) := (World.cell?_of_block (by rw [block_of_add]; exact hmv.block _ hab.1 hab.2.1 hab.2.2)).trans hc0
      have hlen : (bs ++ flatL K (zs.take k)).length = bs.length + K * k := by rw [List.length_append, flatL_len, List.length_take, HL.out, Nat.min_eq_left hk]
      have hKk : K * k ≤ 4 * n := Nat.mul_le_mul h4 (by omega)
      have hBr : B0 ≤ wr.heap.size := Nat.le_trans hB hmv.size
      have cO : wr.cell? ⟨o, 0, none⟩ = some Vk := (hOk.box.cell 0).trans rfl
      have hput := put_any wr B0 (bs ++ flatL K (zs.take k)).length K Vk (zs.getD k 0) _ hzk.1 hzk.2 hOk.row (by omega) h4 hBr h1
      have H0 := Lib.hid (And.intro hOk (And.intro hmv hput))
      clear hOk hmv hput hc0 hlen hKk
      generalize zs.getD k 0 = z at *
      go_wp2_with fail
      refine H0.out.2.2.mono ?_
      rintro e w2 ⟨V', rfl, own2, hg2, hm2⟩
      obtain ⟨Av, cv, rfl⟩ := own_slice own2
      obtain ⟨q1, q2, q3⟩ := out_store H0.out.1 hBr own2 (bytesL_len K z) hg2 hm2
      have f2 : w2.frozen? ⟨o, 0, none⟩ = false := q3.frozen 0
      have c2 : w2.cell? ⟨o, 0, none⟩ = some Vk := (q3.cell 0).trans rfl
      have H1 := Lib.hid (And.intro q1 (H0.out.2.1.trans q2))
      clear q1 q2 q3 own2 hg2 hm2 H0 cO hc
      generalize (bs ++ flatL K (zs.take k)).length + K = M at *
      go_wp2_with fail
      go_roundw
      case rel => exact ⟨k + 1, _, by omega, by go_num, by rw [hsn.out, flatL_snoc, ← List.append_assoc]; exact H1.out.1, H1.out.2⟩
      case measure => simp [intOf]; omega
    · obtain rfl : k = n := by omega
      rw [List.take_of_length_le (by rw [HL.out]; omega)] at hOk
      have H0 := Lib.hid (And.intro hOk hmv)
      clear hOk hmv
      go_wp2
      first | go_end0 | ((try simp only [Exit.inBlock, Exit.then]); refine bodyPost_ret (v := .tuple #[]) (results_none rfl _ _ _) rfl ?_)
      exact ⟨⟨_, rfl⟩, Vk, H0.out.1, H0.out.2⟩
end Tl
end Go.Proofs.YtnlaedfnifimkaaGreat
namespace Go.Proofs.YtnlaedfnifimkaaGreat
open Go.RowKit
namespace Tl
theorem RdP.omv {w w' : World} {o size n : Nat} {V V' : Value} {A : Option Addr} {xs : List Value} (h : RdP w (OutP w o V) size A n xs) (hm : OMv w w' o V V') : RdP w' (OutP w' o V') size A n xs :=
  h.keep (fun b hb => hm.block b hb.1 hb.2.1 hb.2.2) fun b hb => ⟨Nat.lt_of_lt_of_le hb.1 hm.size, hb.2.1, fun e => by
    rcases hm.mv with h1 | ⟨g, h1, h2⟩
    · exact hb.2.2 (h1 ▸ e)
    · rw [h2] at e; injection e with e; have := hb.1; omega⟩
theorem num_lit (w : World) (o B0 n c K : Nat) (V : Value) (bs zs : List Int) (cs : Array Value) (hO : OutAt w o B0 V bs) (hB : B0 ≤ w.heap.size) (hc : cs = (zs.map (Value.int .i64)).toArray) (hl : n = zs.length) (hz : ∀ z ∈ zs, -9223372036854775808 ≤ z ∧ z ≤ 9223372036854775807) (h1 : 1 ≤ K) (h4 : K ≤ 4) (hn : bs.length + 4 * n ≤ 4000000) :
    Calls Tryz.prog 50 #[.pointer (some ⟨o, 0, none⟩), .int .i64 K, .slice (some ⟨w.heap.size, 0, none⟩) n c] (w.alloc (.cells cs 3)) fun x w' => NumO w w' o B0 V bs (flatL K zs) x := by
  subst hl
  have hb : Below w.heap.size w (w.alloc (.cells cs 3)) := (Below.refl _ _).alloc (Nat.le_refl _) _
  have hrd := lit_ints w 3 zs cs hc
  refine (num_any _ o B0 _ c K _ V bs zs (hO.below hb) (by simp; omega) ⟨hrd.1, fun hn => ?_⟩ hz h1 h4 hn).mono ?_
  · obtain ⟨ad, e, _, hc⟩ := hrd.2 hn
    refine ⟨ad, e, ?_, hc⟩
    injection e with e
    subst e
    exact ⟨by simp, by have := hO.box.lt; show w.heap.size ≠ o; omega, fun e => by have := (hO.row.lt _ e).2; exact absurd this (Nat.lt_irrefl _)⟩
  · rintro x w' ⟨hu, V', h1, h2⟩
    exact ⟨hu, V', h1, (OMv.of_below o V hb).trans h2⟩
def SndO (w w' : World) (o B0 : Nat) (V : Value) (bs xs : List Int) (b : Bool) (x : Ending) : Prop := x = .returned (.bool b) ∧ ∃ V', OutAt w' o B0 V' (bs ++ xs) ∧ OMv w w' o V V'
set_option maxRecDepth 100000 in
set_option maxHeartbeats 8000000 in
theorem sounds19_any (w : World) (o B0 tn tc : Nat) (TA : Option Addr) (V : Value) (bs ts : List Int) (hO : OutAt w o B0 V bs) (hB : B0 ≤ w.heap.size) (hr : RdP w (OutP w o V) 1 TA tn (ts.map (Value.int .i64))) (hz : ∀ z ∈ ts, 0 ≤ z ∧ z ≤ 65535) (hn : tn ≤ 255) (hl : bs.length ≤ 2000000) :
    Calls Tryz.prog 51 #[.pointer (some ⟨o, 0, none⟩), .agg (bk 19 0 (.slice TA tn tc))] w fun x w' => SndO w w' o B0 V bs (flatL 1 [(tn : Int)] ++ flatL 2 ts) true x := by
  go_enter Tryz.func51, Tryz.ntmps51
  go_upto_region 1 with fail
  have hB1 : Blk (w.alloc (.cells (bk 19 0 (.slice TA tn tc)) 34)) w.heap.size 34 (bk 19 0 (.slice TA tn tc)) := Blk.new w _ _
  have hb0 : Below w.heap.size w (w.alloc (.cells (bk 19 0 (.slice TA tn tc)) 34)) := (Below.refl _ _).alloc (Nat.le_refl _) _
  generalize (w.alloc (.cells (bk 19 0 (.slice TA tn tc)) 34)) = W at *
  have c0 : W.cell? ⟨w.heap.size, 0, none⟩ = some (.int .i64 19) := (hB1.cell 0).trans rfl
  have c13 : W.cell? ⟨w.heap.size, 13, none⟩ = some (.slice TA tn tc) := (hB1.cell 13).trans rfl
  have hO1 := hO.below hb0
  have hM1 := OMv.of_below o V hb0
  have hr1 := RdP.omv hr hM1
  have H1 := Lib.hid (And.intro hB1 (And.intro hO1 (And.intro hM1 hr1)))
  have hBW : B0 ≤ W.heap.size := Nat.le_trans hB hb0.size
  clear hB1 hb0 hO1 hM1 hr1 hO hr
  go_wp2_with fail
  refine (num_lit W o B0 1 1 1 V bs [(tn : Int)] _ H1.out.2.1 hBW rfl rfl (by intro z hz; simp at hz; omega) (by omega) (by omega) (by omega)).mono ?_
  rintro e w2 ⟨⟨u, rfl⟩, V2, hO2, hM2⟩
  have hB2 := hM2.blk H1.out.2.1 H1.out.1 (by decide) (by decide)
  have d13 : w2.cell? ⟨w.heap.size, 13, none⟩ = some (.slice TA tn tc) := (hB2.cell 13).trans rfl
  have H2 := Lib.hid (And.intro hO2 (And.intro (H1.out.2.2.1.trans hM2) (And.intro (RdP.omv H1.out.2.2.2 hM2) hM2.size)))
  clear hB2 hO2 hM2 H1 c0 c13
  go_wp2_with fail
  refine (num_any w2 o B0 tn tc 2 TA V2 _ ts H2.out.1 (Nat.le_trans hBW H2.out.2.2.2) H2.out.2.2.1 (fun z h => by have := hz z h; omega) (by omega) (by omega) (by rw [List.length_append, flatL_len]; simp; omega)).mono ?_
  rintro e w3 ⟨⟨u3, rfl⟩, V3, hO3, hM3⟩
  have H3 := Lib.hid (And.intro (List.append_assoc bs (flatL 1 [(tn : Int)]) (flatL 2 ts) ▸ hO3) (H2.out.2.1.trans hM3))
  clear hO3 hM3 d13
  go_wp2
  go_ret
  exact ⟨rfl, V3, H3.out.1, H3.out.2⟩
set_option maxRecDepth 100000 in
set_option maxHeartbeats 8000000 in
theorem sounds43_any (w : World) (o B0 : Nat) (u : Int) (V : Value) (bs : List Int) (hO : OutAt w o B0 V bs) :
    Calls Tryz.prog 51 #[.pointer (some ⟨o, 0, none⟩), .agg (bk 43 u (.slice none 0 0))] w fun x w' => SndO w w' o B0 V bs [] false x := by
  go_enter Tryz.func51, Tryz.ntmps51
  go_upto_region 1 with fail
  have hB1 : Blk (w.alloc (.cells (bk 43 u (.slice none 0 0)) 34)) w.heap.size 34 (bk 43 u (.slice none 0 0)) := Blk.new w _ _
  have hb0 : Below w.heap.size w (w.alloc (.cells (bk 43 u (.slice none 0 0)) 34)) := (Below.refl _ _).alloc (Nat.le_refl _) _
  generalize (w.alloc (.cells (bk 43 u (.slice none 0 0)) 34)) = W at *
  have c0 : W.cell? ⟨w.heap.size, 0, none⟩ = some (.int .i64 43) := (hB1.cell 0).trans rfl
  have H1 := Lib.hid (And.intro (hO.below hb0) (OMv.of_below o V hb0))
  clear hB1 hb0 hO
  go_wp2
  go_ret
  exact ⟨rfl, V, by rw [List.append_nil]; exact H1.out.1, H1.out.2⟩
set_option maxRecDepth 100000 in
set_option maxHeartbeats 8000000 in
theorem tells43_any (w : World) (o B0 : Nat) (u : Int) (V : Value) (bs : List Int) (hO : OutAt w o B0 V bs) (hB : B0 ≤ w.heap.size) (u0 : 0 ≤ u) (u1 : u ≤ 1) (hl : bs.length ≤ 2000000) :
    Calls Tryz.prog 52 #[.pointer (some ⟨o, 0, none⟩), .agg (bk 43 u (.slice none 0 0))] w fun x w' => NumO w w' o B0 V bs (flatL 4 [1] ++ flatL 1 [u]) x := by
  go_enter Tryz.func52, Tryz.ntmps52
  go_upto_region 1 with fail
  have hB1 : Blk (w.alloc (.cells (bk 43 u (.slice none 0 0)) 34)) w.heap.size 34 (bk 43 u (.slice none 0 0)) := Blk.new w _ _
  have hb0 : Below w.heap.size w (w.alloc (.cells (bk 43 u (.slice none 0 0)) 34)) := (Below.refl _ _).alloc (Nat.le_refl _) _
  generalize (w.alloc (.cells (bk 43 u (.slice none 0 0)) 34)) = W at *
  have c0 : W.cell? ⟨w.heap.size, 0, none⟩ = some (.int .i64 43) := (hB1.cell 0).trans rfl
  have hO1 := hO.below hb0
  have hM1 := OMv.of_below o V hb0
  have H1 := Lib.hid (And.intro hB1 (And.intro hO1 hM1))
  have hBW : B0 ≤ W.heap.size := Nat.le_trans hB hb0.size
  clear hB1 hb0 hO1 hM1 hO
  go_wp2_with fail
  refine (num_lit W o B0 1 1 4 V bs [1] _ H1.out.2.1 hBW rfl rfl (by intro z hz; simp at hz; omega) (by omega) (by omega) (by omega)).mono ?_
  rintro e w2 ⟨⟨q, rfl⟩, V2, hO2, hM2⟩
  have hB2 := hM2.blk H1.out.2.1 H1.out.1 (by decide) (by decide)
  have d9 : w2.cell? ⟨w.heap.size, 9, none⟩ = some (.int .i64 u) := (hB2.cell 9).trans rfl
  have H2 := Lib.hid (And.intro hO2 (And.intro (H1.out.2.2.trans hM2) hM2.size))
  clear hB2 hO2 hM2 H1 c0
  go_wp2_with fail
  refine (num_lit w2 o B0 1 1 1 V2 _ [u] _ H2.out.1 (Nat.le_trans hBW H2.out.2.2) rfl rfl (by intro z hz; simp at hz; omega) (by omega) (by omega) (by rw [List.length_append, flatL_len]; simp; omega)).mono ?_
  rintro e w3 ⟨⟨u3, rfl⟩, V3, hO3, hM3⟩
  have H3 := Lib.hid (And.intro (List.append_assoc bs (flatL 4 [1]) (flatL 1 [u]) ▸ hO3) (H2.out.2.1.trans hM3))
  clear hO3 hM3 d9
  go_wp2
  first | go_end0 | ((try simp only [Exit.inBlock, Exit.then]); refine bodyPost_ret (v := .tuple #[]) (results_none rfl _ _ _) rfl ?_)
  exact ⟨⟨_, rfl⟩, V3, H3.out.1, H3.out.2⟩
end Tl
end Go.Proofs.YtnlaedfnifimkaaGreat
namespace Go.Proofs.YtnlaedfnifimkaaGreat
open Go.RowKit
namespace Tl
def OurB (d : BD) : Prop := (d.i0 = 43 ∧ 0 ≤ d.i9 ∧ d.i9 ≤ 1 ∧ d.ts = []) ∨ (d.i0 = 19 ∧ d.i9 = 0 ∧ (1 ≤ d.ts.length ∧ d.ts.length ≤ 255) ∧ ∀ z ∈ d.ts, 0 ≤ z ∧ z ≤ 65535)
def blkB (d : BD) : List Int := flatL 1 [d.i0] ++ (if d.i0 = 19 then flatL 1 [(d.ts.length : Int)] ++ flatL 2 d.ts else flatL 4 [1] ++ flatL 1 [d.i9])
def blksB (l : List BD) : List Int := l.flatMap blkB
theorem blkB_len {d : BD} (h : OurB d) : (blkB d).length ≤ 512 := by
  unfold blkB
  rcases h with ⟨h, _⟩ | ⟨h, _, hn, _⟩
  · rw [if_neg (by omega)]
    simp only [List.length_append, flatL_len, List.length_singleton]
    omega
  · rw [if_pos h]
    simp only [List.length_append, flatL_len, List.length_singleton]
    omega
theorem blksB_len {l : List BD} (h : ∀ d ∈ l, OurB d) : (blksB l).length ≤ 512 * l.length := by
  induction l with
  | nil => simp [blksB]
  | cons d l ih =>
    have h1 := blkB_len (h d (by simp))
    have h2 := ih fun x hx => h x (by simp [hx])
    unfold blksB at h2 ⊢
    rw [List.flatMap_cons, List.length_append, List.length_cons]
    omega
theorem blksB_snoc (l : List BD) (d : BD) : blksB (l ++ [d]) = blksB l ++ blkB d := by simp [blksB, List.flatMap_append]
def wbOf (d : BD) : WB := ⟨d.i0, 0, 0, d.ts, []⟩
theorem wb_at {w : World} {φ : Nat → Prop} {d : BD} {cs : List Value} (h : BlkAt w φ d cs) : WBAt w φ (wbOf d) cs := by
  have h1 := h.one
  obtain ⟨ta, tn, tc, rfl, h2, _, _⟩ := h
  exact ⟨.int .i64 0, .int .i64 0, .int .i64 0, .int .i64 0, .int .i64 0, .int .i64 0, .int .i64 d.i9, .int .i64 0, .int .i64 0, .slice none 0 0, ta, tn, tc, none, 0, .slice none 0 0, .slice none 0 0, .slice none 0 0, rfl, h1, h2, fun hn => absurd hn (by simp [wbOf])⟩
theorem wbs_at {w : World} {φ : Nat → Prop} : ∀ {l : List BD} {xs : List Value}, BlksAt w φ l xs → WBsAt w φ (l.map wbOf) xs
  | [], _, h => h
  | d :: l, _, ⟨cs, ys, e, h1, h2⟩ => ⟨cs, ys, e, wb_at h1, wbs_at h2⟩
theorem blks_r {w : World} {φ : Nat → Prop} {A : Option Addr} {n : Nat} {xs : List Value} {l : List BD} (h : RdP w φ 18 A n xs) (hb : BlksAt w φ l xs) : BlksR w φ A n (l.map wbOf) := ⟨xs, h, wbs_at hb⟩
theorem blks_len {w : World} {φ : Nat → Prop} {A : Option Addr} {n : Nat} {xs : List Value} {l : List BD} (h : RdP w φ 18 A n xs) (hb : BlksAt w φ l xs) : l.length = n := by
  have := h.1
  rw [hb.len] at this
  omega
theorem wbs_getD (l : List BD) (i : Nat) (h : i < l.length) : (l.map wbOf).getD i default = wbOf (l.getD i default) := by
  simp [List.getD_eq_getElem?_getD, h]
theorem ours_at {l : List BD} (h : ∀ d ∈ l, OurB d) {i : Nat} (hi : i < l.length) : OurB (l.getD i default) := by
  rw [List.getD_eq_getElem?_getD, List.getElem?_eq_getElem hi]
  exact h _ (List.getElem_mem hi)
theorem id_ours {l : List BD} (h : ∀ d ∈ l, OurB d) (i : Nat) : ((l.map wbOf).getD i default).id = 43 ∨ ((l.map wbOf).getD i default).id = 19 ∨ ((l.map wbOf).getD i default).id = 0 := by
  by_cases hi : i < l.length
  · rw [wbs_getD l i hi]
    rcases ours_at h hi with ⟨h, _⟩ | ⟨h, _⟩
    · exact .inl h
    · exact .inr (.inl h)
  · refine .inr (.inr ?_)
    rw [List.getD_eq_getElem?_getD, List.getElem?_eq_none (by simp; omega)]
    rfl
theorem lite_ours {l : List BD} (h : ∀ d ∈ l, OurB d) (hn : l.length ≤ 300) : Lite (l.map wbOf) := by
  refine ⟨by simpa using hn, fun i hi => ?_⟩
  rw [List.length_map] at hi
  rw [wbs_getD l i hi]
  refine ⟨?_, by simp [wbOf]⟩
  rcases ours_at h hi with ⟨_, _, _, e⟩ | ⟨_, _, e, _⟩
  · show (l.getD i default).ts.length ≤ 300
    rw [e]; simp
  · show (l.getD i default).ts.length ≤ 300
    omega
theorem wrong_ours {l : List BD} (h : ∀ d ∈ l, OurB d) (i : Nat) : wrongB (l.map wbOf) i = 0 := by
  have hid := id_ours h i
  unfold wrongB
  have h1 : pairB (l.map wbOf) 36 37 i = false := by unfold pairB; rw [if_neg (by omega), if_neg (by omega)]
  have h2 : pairB (l.map wbOf) 33 34 i = false := by unfold pairB; rw [if_neg (by omega), if_neg (by omega)]
  have h3 : farB ((l.map wbOf).getD i default) i (l.map wbOf).length = false := by unfold farB farL; rw [if_neg (by omega), if_neg (by omega)]; rfl
  rw [h1, h2, h3]
  rfl
theorem soundG_ours {l : List BD} (h : ∀ d ∈ l, OurB d) : ∀ f i, soundG (l.map wbOf) f i = (0, 0)
  | 0, _ => rfl
  | f + 1, i => by
    unfold soundG
    rw [if_pos (wrong_ours h i)]
    exact soundG_ours h f (i + 1)
theorem fine_ours {l : List BD} (h : ∀ d ∈ l, OurB d) (hn : l.length ≤ 300) : Fine (l.map wbOf) := by
  obtain ⟨h1, h2⟩ := lite_ours h hn
  refine ⟨h1, fun i hi => ⟨(h2 i hi).1, fun e => ?_, fun e => ?_, ?_⟩⟩
  · have := id_ours h i; omega
  · have := id_ours h i; omega
  · rw [List.length_map] at hi
    rw [wbs_getD l i hi]
    show (0 : Int) ≤ _
    omega
theorem sound_tape (w : World) (A : Option Addr) (n c : Nat) (xs : List Value) (l : List BD) (hr : RdP w (· < w.heap.size) 18 A n xs) (hb : BlksAt w (· < w.heap.size) l xs) (ho : ∀ d ∈ l, OurB d) (hn : l.length ≤ 300) :
    Calls Tryz.prog 49 #[.slice A n c] w fun x w' => x = .returned (.tuple #[.int .i64 0, .int .i64 0]) ∧ Below w.heap.size w w' := by
  have := sound_any w A n c (l.map wbOf) (blks_r hr hb) (lite_ours ho hn)
  rw [soundG_ours ho] at this
  exact this
end Tl
end Go.Proofs.YtnlaedfnifimkaaGreat
namespace Go.Proofs.YtnlaedfnifimkaaGreat
open Go.RowKit
namespace Tl
set_option maxRecDepth 100000 in
set_option maxHeartbeats 4000000 in
theorem put_first (w : World) (ad : Addr) (n : Nat) (v : Int) (olds : List Int) (v0 : -9223372036854775808 ≤ v) (v1 : v ≤ 9223372036854775807) (hl : olds.length = n) (hn : n ≤ 1000) (hc : ∀ j u, (olds.map (Value.int .u8))[j]? = some u → w.cell? (ad.add j) = some u) :
    Calls Tryz.prog 87 #[.slice (some ad) n n, .int .i64 1, .int .i64 v] w fun e w' => ∃ V', e = .returned V' ∧ w'.ownsRow w.heap.size 5 1 V' (n + 1) ((olds ++ bytesL 1 v).map (Value.int .u8)) ∧ w.grownBy w' none := by
  obtain ⟨i0, hi, hz0, hz1, hz2⟩ := info_parts u8Info
  have HB := Lib.hid (show bytesL 1 v = [v % 256] from rfl)
  have HC := Lib.hid (And.intro hl hc)
  clear hl hc
  go_enter Tryz.func87, Tryz.ntmps87
  go_wp2
  go_loopw [0, 2, 15] (fun b x i wr => (i = .int .i64 0 ∧ x = .int .i64 v ∧ b = .slice (some ad) n n ∧ wr = w) ∨ (i = .int .i64 1 ∧ wr.ownsRow w.heap.size 5 1 b (n + 1) ((olds ++ bytesL 1 v).map (Value.int .u8)) ∧ w.grownBy wr none)) (fun _ _ i _ => 1 - (intOf i).toNat)
  case atStart => exact .inl ⟨rfl, rfl, rfl, rfl⟩
  case round =>
    rcases hrel with ⟨rfl, rfl, rfl, rfl⟩ | ⟨rfl, hown, hgr⟩
    · have hlit : ∀ j u, ([Value.int .u8 (v % 256)] : List Value)[j]? = some u → (wr.alloc (.cells #[.int .u8 (v % 256)] 5)).cell? ((⟨wr.heap.size, 0, none⟩ : Addr).add j) = some u := lit_cells wr [.int .u8 (v % 256)] 5
      have hold : ∀ b, some ad = some b → ∀ j u, (olds.map (Value.int .u8))[j]? = some u → (wr.alloc (.cells #[.int .u8 (v % 256)] 5)).cell? (b.add j) = some u := fun b e j u hu => by
        injection e with e
        subst e
        have := HC.out.2 j u hu
        rw [World.cell?_alloc_some _ _ _ (by simp [this])]
        exact this
      have H1 := Lib.hid (And.intro hlit hold)
      clear hlit hold
      go_wp2_with (first
        | (at_builtin; refine wpList_append_grows _ rfl _ _ 24 rfl 5 i0 (.int .u8 0) 1 1 Tryz.underlying24 hi hz0 hz1 hz2 rfl (by decide) (some ad) n n (olds.map (Value.int .u8)) rfl (by simp) (by rw [List.length_map, HC.out.1, Nat.mul_one]) H1.out.2 ⟨wr.heap.size, 0, none⟩ 1 1 [.int .u8 (v % 256)] rfl rfl H1.out.1 (by simp [Value.oneCell']) (by omega) (by unfold maxLen; omega) (by omega) ?_)
        | go_in)
      intro v' w3 hown' hgrow
      have H3 := Lib.hid (And.intro hown' (grown_trans (World.grownBy_alloc wr _ none) hgrow))
      clear hown' hgrow
      go_wp2
      go_roundw
      case rel =>
        refine .inr ⟨rfl, ?_, H3.out.2⟩
        rw [HB.out, List.map_append]
        exact own_low H3.out.1 (by simp)
      case measure => simp [intOf]
    · have H1 := Lib.hid (And.intro hown hgr)
      clear hown hgr
      go_wp2
      go_ret
      exact ⟨_, rfl, H1.out.1, H1.out.2⟩
def FstO (w w' : World) (o B0 : Nat) (bs : List Int) (x : Ending) : Prop := (∃ u, x = .returned u) ∧ ∃ V', OutAt w' o B0 V' bs ∧ OMv w w' o (.slice none 0 0) V'
set_option maxRecDepth 100000 in
set_option maxHeartbeats 4000000 in
theorem num_first (w : World) (o B0 n c m : Nat) (A : Option Addr) (ad : Addr) (olds zs : List Int) (hO : Blk w o 127 #[.slice (some ad) m m]) (hup : B0 ≤ o) (hB : B0 ≤ w.heap.size) (hl : olds.length = m) (hm : m ≤ 1000) (hab : ad.block < w.heap.size) (hao : ad.block ≠ o)
    (hc : ∀ j u, (olds.map (Value.int .u8))[j]? = some u → w.cell? (ad.add j) = some u) (hr : RdP w (fun b => b < w.heap.size ∧ b ≠ o) 1 A n (zs.map (Value.int .i64))) (hz : ∀ z ∈ zs, -9223372036854775808 ≤ z ∧ z ≤ 9223372036854775807) (hn : 1 ≤ n) (hn9 : n ≤ 1000) :
    Calls Tryz.prog 50 #[.pointer (some ⟨o, 0, none⟩), .int .i64 1, .slice A n c] w fun x w' => FstO w w' o B0 (olds ++ flatL 1 zs) x := by
  have hzl := hr.1
  rw [List.length_map, Nat.mul_one] at hzl
  have HL := Lib.hid hzl
  have HO := Lib.hid (And.intro hO (And.intro hl hc))
  clear hzl hO hl hc
  go_enter Tryz.func50, Tryz.ntmps50
  go_wp2
  go_loopw [10] (fun i wr => (i = .int .i64 0 ∧ wr = w) ∨ ∃ (k : Nat) (Vk : Value), 1 ≤ k ∧ k ≤ n ∧ i = .int .i64 k ∧ OutAt wr o B0 Vk (olds ++ flatL 1 (zs.take k)) ∧ OMv w wr o (.slice none 0 0) Vk) (fun i _ => n - (intOf i).toNat)
  case atStart => exact .inl ⟨rfl, rfl⟩
  case round =>
    rcases hrel with ⟨rfl, rfl⟩ | ⟨k, Vk, hk1, hk, rfl, hOk, hmv⟩
    · have hzk := hz (zs.getD 0 0) (mem_getD (by rw [HL.out]; omega))
      have hsn := Lib.hid (take_snocI zs 0 (by rw [HL.out]; omega))
      obtain ⟨az, rfl, haz, hcz⟩ := rdp_at hr (k := 0) hn
      rw [show az.add 0 = az from rfl] at hcz
      have cO : wr.cell? ⟨o, 0, none⟩ = some (.slice (some ad) m m) := (HO.out.1.cell 0).trans rfl
      have hput := put_first wr ad m (zs.getD 0 0) olds hzk.1 hzk.2 HO.out.2.1 hm HO.out.2.2
      have hnI : (0 : Int) < (n : Int) := by omega
      generalize zs.getD 0 0 = z at *
      go_wp2_with fail
      refine hput.mono ?_
      rintro e w2 ⟨V', rfl, own2, hg2⟩
      obtain ⟨Av, cv, rfl⟩ := own_slice own2
      have hO2 : Blk w2 o 127 #[.slice (some ad) m m] := HO.out.1.grown hg2 (by simp)
      have f2 : w2.frozen? ⟨o, 0, none⟩ = false := hO2.frozen 0
      have c2 : w2.cell? ⟨o, 0, none⟩ = some (.slice (some ad) m m) := (hO2.cell 0).trans rfl
      have hs2 := hg2.size
      have hlen : (olds ++ bytesL 1 z).length = m + 1 := by rw [List.length_append, HO.out.2.1]; rfl
      have hOut : OutAt (w2.setCell ⟨o, 0, none⟩ (.slice Av (m + 1) cv)) o B0 (.slice Av (m + 1) cv) (olds ++ bytesL 1 z) := by
        refine ⟨hO2.set_ 0 _, ?_, hup⟩
        have hne := own_blk_ne own2 hO2 (show 5 ≠ 127 by decide)
        have := ownsRow_setCell_other own2 (a := ⟨o, 0, none⟩) hne (.slice Av (m + 1) cv)
        rw [hlen]
        exact own_low this hB
      have hMv : OMv wr (w2.setCell ⟨o, 0, none⟩ (.slice Av (m + 1) cv)) o (.slice none 0 0) (.slice Av (m + 1) cv) := by
        refine ⟨hg2.os, hg2.tape, hg2.output, by simpa [World.setCell] using hs2, fun b hb h1 _ => (Below.heap_setCell _ _ _ _ h1).trans (hg2.block b hb (by simp)), ?_⟩
        cases hq : (Value.slice Av (m + 1) cv).ownBlock with
        | none => exact .inl rfl
        | some g => exact .inr ⟨g, (own2.lt g hq).1, rfl⟩
      have H1 := Lib.hid (And.intro hOut hMv)
      clear hOut hMv hg2 hs2 own2 hput cO hcz hO2 hlen
      generalize m + 1 = M at *
      go_wp2_with fail
      go_roundw
      case rel => exact .inr ⟨1, _, by omega, by omega, by go_num, by rw [hsn.out]; simpa [flatL] using H1.out.1, H1.out.2⟩
      case measure => simp [intOf]; omega
    · by_cases hlt : k < n
      · have hzk := hz (zs.getD k 0) (mem_getD (by rw [HL.out]; exact hlt))
        have hsn := Lib.hid (take_snocI zs k (by rw [HL.out]; exact hlt))
        obtain ⟨az, rfl, haz, hc0⟩ := rdp_at hr hlt
        have hc : wr.cell? (az.add k) = some (.int .i64 (zs.getD k 0)) := (World.cell?_of_block (by rw [block_of_add]; exact hmv.block _ haz.1 haz.2 (by simp [Value.ownBlock]))).trans hc0
        have hlen : (olds ++ flatL 1 (zs.take k)).length = m + k := by rw [List.length_append, flatL_len, List.length_take, HL.out, Nat.min_eq_left hk, HO.out.2.1]; omega
        have hBr : B0 ≤ wr.heap.size := Nat.le_trans hB hmv.size
        have cO : wr.cell? ⟨o, 0, none⟩ = some Vk := (hOk.box.cell 0).trans rfl
        have hput := put_any wr B0 (olds ++ flatL 1 (zs.take k)).length 1 Vk (zs.getD k 0) _ hzk.1 hzk.2 hOk.row (by omega) (by omega) hBr (by omega)
        have H0 := Lib.hid (And.intro hOk (And.intro hmv hput))
        clear hOk hmv hput hc0 hlen
        generalize zs.getD k 0 = z at *
        go_wp2_with fail
        refine H0.out.2.2.mono ?_
        rintro e w2 ⟨V', rfl, own2, hg2, hm2⟩
        obtain ⟨Av, cv, rfl⟩ := own_slice own2
        obtain ⟨q1, q2, q3⟩ := out_store H0.out.1 hBr own2 (bytesL_len 1 z) hg2 hm2
        have f2 : w2.frozen? ⟨o, 0, none⟩ = false := q3.frozen 0
        have c2 : w2.cell? ⟨o, 0, none⟩ = some Vk := (q3.cell 0).trans rfl
        have H1 := Lib.hid (And.intro q1 (H0.out.2.1.trans q2))
        clear q1 q2 q3 own2 hg2 hm2 H0 cO hc
        generalize (olds ++ flatL 1 (zs.take k)).length + 1 = M at *
        go_wp2_with fail
        go_roundw
        case rel => exact .inr ⟨k + 1, _, by omega, by omega, by go_num, by rw [hsn.out, flatL_snoc, ← List.append_assoc]; exact H1.out.1, H1.out.2⟩
        case measure => simp [intOf]; omega
      · obtain rfl : k = n := by omega
        rw [List.take_of_length_le (by rw [HL.out]; omega)] at hOk
        have H0 := Lib.hid (And.intro hOk hmv)
        clear hOk hmv
        go_wp2
        first | go_end0 | ((try simp only [Exit.inBlock, Exit.then]); refine bodyPost_ret (v := .tuple #[]) (results_none rfl _ _ _) rfl ?_)
        exact ⟨⟨_, rfl⟩, Vk, H0.out.1, H0.out.2⟩
end Tl
end Go.Proofs.YtnlaedfnifimkaaGreat
namespace Go.Proofs.YtnlaedfnifimkaaGreat
open Go.RowKit
namespace Tl
theorem wpList_load_bk {ops : Array Oper} {rest : List Oper} {o : Oper} {a : Act} {w : World} {Q : Exit → Act → World → Prop} (hgd : o.guard = none) (x : Operand) (ho : o.op = .load 34 x) (ad : Addr) (hx : a.eval x = .pointer (some ad)) (i0 i9 : Int) (T : Value)
    (hc : ∀ j v, (bk i0 i9 T).toList[j]? = some v → w.cell? (ad.add j) = some v) (h : wpList Tryz.prog ops Q rest (a.put o.dst (.agg (bk i0 i9 T))) w) : wpList Tryz.prog ops Q (o :: rest) a w := by
  refine wpList_load_at hgd 34 x ho ad hx (bk i0 i9 T).toList hc _ Tryz.underlying34 rfl (by rw [blkInfo']; rfl) ?_
  rw [Array.toArray_toList]
  exact h
theorem getD_some {l : List BD} {k : Nat} (h : k < l.length) : l[k]? = some (l.getD k default) := by
  rw [List.getD_eq_getElem?_getD, List.getElem?_eq_getElem h]; rfl
theorem blk_load {w : World} {φ : Nat → Prop} {A : Option Addr} {n k : Nat} {xs : List Value} {l : List BD} (h : RdP w φ 18 A n xs) (hb : BlksAt w φ l xs) (hk : k < n) :
    ∃ ad ta tn tc, A = some ad ∧ φ ad.block ∧ (∀ j v, (bk (l.getD k default).i0 (l.getD k default).i9 (.slice ta tn tc)).toList[j]? = some v → w.cell? ((ad.add (k * 18)).add j) = some v) ∧
      RdP w φ 1 ta tn ((l.getD k default).ts.map (Value.int .i64)) ∧ tn ≤ tc ∧ (tn = 0 → ta = none ∧ tc = 0) := by
  have hl := blks_len h hb
  obtain ⟨ad, e, hp, hc⟩ := h.2 (by omega)
  obtain ⟨cs, h1, h2⟩ := hb.at_ (getD_some (l := l) (k := k) (by omega))
  obtain ⟨ta, tn, tc, rfl, h3, h4, h5⟩ := h1
  exact ⟨ad, ta, tn, tc, e, hp, fun j v hv => by rw [add_of_add]; exact hc _ _ (h2 j v hv), h3, h4, h5⟩
theorem ours_may {w : World} {B : Nat} {φ : Nat → Prop} {d : BD} {ta : Option Addr} {tn tc : Nat} (h : OurB d) (hr : RdP w φ 1 ta tn (d.ts.map (Value.int .i64))) (hn : tn = 0 → ta = none ∧ tc = 0) (hφ : ∀ b, φ b → b < B) : MayK d.i0 d.i9 ta tn tc B w := by
  have hl := hr.1
  rw [List.length_map, Nat.mul_one] at hl
  rcases h with ⟨h1, h2, h3, h4⟩ | ⟨h1, h2, h3, h4⟩
  · have h0 : tn = 0 := by rw [← hl, h4]; rfl
    exact .inl ⟨h1, h2, h3, (hn h0).1, h0, (hn h0).2⟩
  · exact .inr ⟨h1, h2, by omega, d.ts, hr.reads hφ, h4⟩
theorem tapeInfo' : (Tryz.prog.info? 66).map (·.size) = some 3 := by kernel_rfl
def signB : List Int := [90, 88, 84, 97, 112, 101, 33, 26]
def headB : List Int := signB ++ flatL 1 [1, 20]
theorem headB_len : headB.length = 10 := rfl
theorem take_snocB (l : List BD) (k : Nat) (h : k < l.length) : l.take (k + 1) = l.take k ++ [l.getD k default] := by
  rw [List.take_succ_eq_append_getElem h, List.getD_eq_getElem?_getD, List.getElem?_eq_getElem h]; rfl
theorem OMv.below1 {w w' : World} {o B : Nat} {V V' : Value} (h : OMv w w' o V V') (hV : V.ownBlock = none) (ho : B ≤ o) (hB : B ≤ w.heap.size) : Below B w w' :=
  ⟨h.os, h.tape, h.output, h.size, fun b hb => h.block b (by omega) (by omega) (by rw [hV]; simp)⟩
theorem box_new (w : World) (C : Array Value) (e t : TypeId) (fr : Nat × Nat) (cs : Array Value) : Blk ((w.alloc (.cells C e fr)).alloc (.cells cs t)) (w.heap.size + 1) t cs := by
  have := Blk.new (w.alloc (.cells C e fr)) t cs
  simpa using this
theorem lit_mark (w : World) (l : List Value) (e t : TypeId) (fr : Nat × Nat) (cs : Array Value) (j : Nat) (u : Value) (h : l[j]? = some u) : ((w.alloc (.cells l.toArray e fr)).alloc (.cells cs t)).cell? ((⟨w.heap.size, 0, none⟩ : Addr).add j) = some u := by
  rw [add0, World.cell?_alloc_lt _ _ _ (by simp)]
  have e9 := heap_alloc_new w (.cells l.toArray e fr)
  show (match (w.alloc (.cells l.toArray e fr)).heap[w.heap.size]? with | some (.cells c _ _) => c[j]? | _ => none) = some u
  rw [e9]
  simpa using h
def WriteO (w w' : World) (x : Ending) (dl : List BD) : Prop := Below w.heap.size w w' ∧ ∃ V cV, x = .returned (.tuple #[.slice V (headB ++ blksB dl).length cV, .int .i64 0, .int .i64 0]) ∧ w'.ownsRow w.heap.size 5 1 (.slice V (headB ++ blksB dl).length cV) (headB ++ blksB dl).length ((headB ++ blksB dl).map (Value.int .u8))
set_option maxRecDepth 100000 in
set_option maxHeartbeats 8000000 in
theorem write_any (w : World) (A : Option Addr) (m c : Nat) (xs : List Value) (dl : List BD) (hr : RdP w (· < w.heap.size) 18 A m xs) (hb : BlksAt w (· < w.heap.size) dl xs) (ho : ∀ d ∈ dl, OurB d) (hn : dl.length ≤ 300) :
    Calls Tryz.prog 22 #[.agg #[.int .i64 1, .int .i64 20, .slice A m c]] w fun x w' => WriteO w w' x dl := by
  have hl := blks_len hr hb
  have HL := Lib.hid hl
  have hm : m ≤ 300 := by omega
  have HD := Lib.hid (And.intro hr (And.intro hb ho))
  clear hr hb ho hl hn
  have kc := fun (w : World) (C : Array Value) (n c : Nat) => Lib.run_convert_bytes_const (P := Tryz.prog) w 24 5 C n c Tryz.underlying24 Tryz.underlying5
  go_enter Tryz.func22, Tryz.ntmps22
  go_upto_region 1 with fail
  have hB0 : Blk (w.alloc (.cells #[.int .i64 1, .int .i64 20, .slice A m c] 66)) w.heap.size 66 #[.int .i64 1, .int .i64 20, .slice A m c] := Blk.new w _ _
  have hb0 : Below w.heap.size w (w.alloc (.cells #[.int .i64 1, .int .i64 20, .slice A m c] 66)) := (Below.refl _ _).alloc (Nat.le_refl _) _
  generalize (w.alloc (.cells #[.int .i64 1, .int .i64 20, .slice A m c] 66)) = W at *
  have c0 : W.cell? ⟨w.heap.size, 0, none⟩ = some (.int .i64 1) := (hB0.cell 0).trans rfl
  have c1 : W.cell? ⟨w.heap.size, 1, none⟩ = some (.int .i64 20) := (hB0.cell 1).trans rfl
  have H0 := Lib.hid (And.intro hB0 hb0)
  clear hB0 hb0
  go_wp2_with fail
  refine (fit_lit W _ [1, 20] _ 2 2 255 rfl rfl (by intro z hz; simp at hz; omega) (by omega)).mono ?_
  rintro e w1 ⟨rfl, rfl⟩
  have hb1 : Below W.heap.size W (W.alloc (.cells (([1, 20] : List Int).map (Value.int .i64)).toArray 3)) := (Below.refl _ _).alloc (Nat.le_refl _) _
  generalize (W.alloc (.cells (([1, 20] : List Int).map (Value.int .i64)).toArray 3)) = w1 at *
  have hB1 := H0.out.1.below hb1 H0.out.1.lt
  have d2 : w1.cell? ⟨w.heap.size, 2, none⟩ = some (.slice A m c) := (hB1.cell 2).trans rfl
  have H1 := Lib.hid (And.intro hB1 (bthen H0.out.2 hb1))
  clear hB1 hb1 H0 c0 c1
  go_wp2_with fail
  clear d2
  go_loopw [28] (fun i wr => ∃ k : Nat, k ≤ m ∧ i = .int .i64 k ∧ Below w1.heap.size w1 wr) (fun i _ => m - (intOf i).toNat)
  case atStart => exact ⟨0, by omega, rfl, Below.refl _ _⟩
  case round =>
    obtain ⟨k, hk, rfl, hbr⟩ := hrel
    have hbw : Below w.heap.size w wr := bthen H1.out.2 hbr
    by_cases hlt : k < m
    · obtain ⟨ad, ta, tn, tc, rfl, hab, hc, hrd, hnc, hn0⟩ := blk_load HD.out.1 HD.out.2.1 hlt
      have hmay := ours_may (B := w.heap.size) (ours_at HD.out.2.2 (i := k) (by rw [HL.out]; exact hlt)) hrd hn0 (fun _ h => h)
      generalize dl.getD k default = d at *
      have hcr : ∀ j v, (bk d.i0 d.i9 (.slice ta tn tc)).toList[j]? = some v → wr.cell? ((ad.add (k * 18)).add j) = some v := fun j v hv => (hbw.cell (by rw [block_of_add, block_of_add]; exact hab)).trans (hc j v hv)
      have H2 := Lib.hid (And.intro hmay (And.intro hbr hbw))
      clear hmay hbr hbw hc hrd hn0
      have HC := Lib.hid hcr
      clear hcr
      go_wp2_with (first
        | (refine wpList_load_bk rfl _ rfl (ad.add (k * 18)) rfl d.i0 d.i9 (.slice ta tn tc) HC.out ?_)
        | (refine wpList_store_box rfl 34 _ _ rfl wr.heap.size (bk d.i0 d.i9 (.slice ta tn tc)) rfl rfl 34 (bk 0 0 (.slice none 0 0)) (Blk.new wr _ _) blkInfo' rfl (bk_one _ _ _ _ _) ?_)
        | fail)
      intro w6 hB6 hg6
      have hb6 : Below wr.heap.size wr w6 := ((Below.refl _ _).alloc (Nat.le_refl _) _).grown hg6 (by simp) (fun b hb => by injection hb with hb; omega)
      have H6 := Lib.hid (And.intro (bthen H2.out.2.1 hb6) (And.intro (bthen H2.out.2.2 hb6) (H2.out.1.below (H2.out.2.2.trans (hb6.mono H2.out.2.2.size)))))
      clear hg6 hb6 HC
      go_wp2_with (first
        | (refine wpList_load_box rfl 34 _ rfl wr.heap.size rfl 34 (bk d.i0 d.i9 (.slice ta tn tc)) hB6 _ Tryz.underlying34 rfl blkInfo' ?_)
        | fail)
      try (refine fun (_ : Hid _) => ?_)
      try go_wp2_with fail
      refine (may_any w6 d.i0 d.i9 ta tn tc w.heap.size H6.out.2.2 H6.out.2.1.size).mono ?_
      rintro e w7 ⟨rfl, hb7⟩
      have H7 := Lib.hid (bthen H6.out.1 hb7)
      clear hb7 hB6
      go_wp2
      go_roundw
      case rel => exact ⟨k + 1, by omega, by go_num, H7.out⟩
      case measure => simp [intOf]; omega
    · obtain rfl : k = m := by omega
      have hBr := H1.out.1.below hbr H1.out.1.lt
      have r0 : wr.cell? ⟨w.heap.size, 0, none⟩ = some (.int .i64 1) := (hBr.cell 0).trans rfl
      have r1 : wr.cell? ⟨w.heap.size, 1, none⟩ = some (.int .i64 20) := (hBr.cell 1).trans rfl
      have r2 : wr.cell? ⟨w.heap.size, 2, none⟩ = some (.slice A k c) := (hBr.cell 2).trans rfl
      have hsnd := sound_tape wr A k c xs dl (HD.out.1.keep (fun b h => hbw.block b h) (fun b h => Nat.lt_of_lt_of_le h hbw.size)) (BlksAt.keep (fun b h => hbw.block b h) (fun b h => Nat.lt_of_lt_of_le h hbw.size) HD.out.2.1) HD.out.2.2 (by rw [HL.out]; exact hm)
      have H2 := Lib.hid (And.intro hBr hbw)
      clear hBr hbw hbr
      go_wp2_with fail
      refine hsnd.mono ?_
      rintro e w3 ⟨rfl, hb3⟩
      have hB3 := H2.out.1.below hb3 H2.out.1.lt
      have s0 : w3.cell? ⟨w.heap.size, 0, none⟩ = some (.int .i64 1) := (hB3.cell 0).trans rfl
      have s1 : w3.cell? ⟨w.heap.size, 1, none⟩ = some (.int .i64 20) := (hB3.cell 1).trans rfl
      have s2 : w3.cell? ⟨w.heap.size, 2, none⟩ = some (.slice A k c) := (hB3.cell 2).trans rfl
      have H3 := Lib.hid (And.intro hB3 (bthen H2.out.2 hb3))
      clear hB3 hb3 H2 hsnd r0 r1 r2
      go_upto_region 15 with fail
      clear kc
      change Code.wp _ _ _ _ ((w3.alloc (.cells (signB.map (Value.int .u8)).toArray 5 (8, 9))).alloc (.cells #[.slice (some ⟨w3.heap.size, 0, none⟩) 8 8] 127))
      have hb5 : Below w3.heap.size w3 ((w3.alloc (.cells (signB.map (Value.int .u8)).toArray 5 (8, 9))).alloc (.cells #[.slice (some ⟨w3.heap.size, 0, none⟩) 8 8] 127)) := ((Below.refl _ _).alloc (Nat.le_refl _) _).alloc (by simp) _
      have hO5 : Blk ((w3.alloc (.cells (signB.map (Value.int .u8)).toArray 5 (8, 9))).alloc (.cells #[.slice (some ⟨w3.heap.size, 0, none⟩) 8 8] 127)) (w3.heap.size + 1) 127 #[.slice (some ⟨w3.heap.size, 0, none⟩) 8 8] := box_new w3 _ _ _ _ _
      have hl5 : ∀ j u, (signB.map (Value.int .u8))[j]? = some u → ((w3.alloc (.cells (signB.map (Value.int .u8)).toArray 5 (8, 9))).alloc (.cells #[.slice (some ⟨w3.heap.size, 0, none⟩) 8 8] 127)).cell? ((⟨w3.heap.size, 0, none⟩ : Addr).add j) = some u := lit_mark w3 _ _ _ _ _
      have hs5 : ((w3.alloc (.cells (signB.map (Value.int .u8)).toArray 5 (8, 9))).alloc (.cells #[.slice (some ⟨w3.heap.size, 0, none⟩) 8 8] 127)).heap.size = w3.heap.size + 2 := by simp
      generalize ((w3.alloc (.cells (signB.map (Value.int .u8)).toArray 5 (8, 9))).alloc (.cells #[.slice (some ⟨w3.heap.size, 0, none⟩) 8 8] 127)) = w5 at *
      have hB5 := H3.out.1.below hb5 H3.out.1.lt
      have t0 : w5.cell? ⟨w.heap.size, 0, none⟩ = some (.int .i64 1) := (hB5.cell 0).trans rfl
      have t1 : w5.cell? ⟨w.heap.size, 1, none⟩ = some (.int .i64 20) := (hB5.cell 1).trans rfl
      have hnum : Calls Tryz.prog 50 #[.pointer (some ⟨w3.heap.size + 1, 0, none⟩), .int .i64 1, .slice (some ⟨w5.heap.size, 0, none⟩) 2 2] (w5.alloc (.cells #[.int .i64 1, .int .i64 20] 3)) fun x w' => FstO w5 w' (w3.heap.size + 1) w3.heap.size headB x := by
        have hb6 : Below w5.heap.size w5 (w5.alloc (.cells #[.int .i64 1, .int .i64 20] 3)) := (Below.refl _ _).alloc (Nat.le_refl _) _
        have hrd := lit_ints w5 3 [1, 20] #[.int .i64 1, .int .i64 20] rfl
        refine (num_first _ (w3.heap.size + 1) w3.heap.size 2 2 8 _ ⟨w3.heap.size, 0, none⟩ signB [1, 20] (hO5.below hb6 hO5.lt) (by omega) (by simp; omega) rfl (by omega) (by simp; omega) (by show w3.heap.size ≠ w3.heap.size + 1; omega)
          (fun j u hu => (hb6.cell (by rw [block_of_add]; show w3.heap.size < w5.heap.size; omega)).trans (hl5 j u hu)) ⟨hrd.1, fun _ => ?_⟩ (by intro z hz; simp at hz; omega) (by omega) (by omega)).mono ?_
        · obtain ⟨ad, e, _, hc⟩ := hrd.2 (by simp)
          injection e with e
          subst e
          exact ⟨_, rfl, ⟨by simp, by show w5.heap.size ≠ w3.heap.size + 1; omega⟩, hc⟩
        · rintro x w' ⟨hu, V', h1, h2⟩
          exact ⟨hu, V', h1, (OMv.of_below _ _ hb6).trans h2⟩
      have H5 := Lib.hid (And.intro hB5 (And.intro (bthen H3.out.2 hb5) (And.intro hb5 hs5)))
      clear hB5 hb5 hO5 hl5 hs5 s0 s1 s2
      go_wp2_with fail
      refine hnum.mono ?_
      rintro e w6 ⟨⟨q, rfl⟩, V6, hO6, hM6⟩
      have hb6 : Below w3.heap.size w5 w6 := hM6.below1 rfl (by omega) (by have := H5.out.2.2.2; omega)
      have hB6 := H5.out.1.below hb6 H3.out.1.lt
      have v2 : w6.cell? ⟨w.heap.size, 2, none⟩ = some (.slice A k c) := (hB6.cell 2).trans rfl
      have H6 := Lib.hid (And.intro hO6 (H5.out.2.2.1.trans hb6))
      clear hB6 hO6 hM6 hb6 t0 t1 hnum
      go_wp2_with fail
      clear v2
      go_loopw [62] (fun i wq => ∃ (q : Nat) (Vq : Value), q ≤ k ∧ i = .int .i64 q ∧ OutAt wq (w3.heap.size + 1) w3.heap.size Vq (headB ++ blksB (dl.take q)) ∧ Below w3.heap.size w3 wq) (fun i _ => k - (intOf i).toNat)
      case atStart => exact ⟨0, V6, by omega, rfl, by simpa [blksB] using H6.out.1, H6.out.2⟩
      case round =>
        rename World => wq
        obtain ⟨q, Vq, hq, rfl, hOq, hbq⟩ := hrel
        have hbw : Below w.heap.size w wq := bthen H3.out.2 hbq
        by_cases hlt : q < k
        · obtain ⟨ad, ta, tn, tc, rfl, hab, hc, hrd, hnc, hn0⟩ := blk_load HD.out.1 HD.out.2.1 hlt
          have hour := ours_at HD.out.2.2 (i := q) (by rw [HL.out]; exact hlt)
          have hsn := take_snocB dl q (by rw [HL.out]; exact hlt)
          have hlenB := blksB_len (l := dl.take q) (fun d hd => HD.out.2.2 d (List.mem_of_mem_take hd))
          rw [List.length_take, HL.out, Nat.min_eq_left hq] at hlenB
          generalize dl.getD q default = d at *
          have hmay := ours_may (B := w.heap.size) hour hrd hn0 (fun _ h => h)
          have hcr : ∀ j v, (bk d.i0 d.i9 (.slice ta tn tc)).toList[j]? = some v → wq.cell? ((ad.add (q * 18)).add j) = some v := fun j v hv => (hbw.cell (by rw [block_of_add, block_of_add]; exact hab)).trans (hc j v hv)
          have hBq : w3.heap.size ≤ wq.heap.size := hbq.size
          have hidR : -9223372036854775808 ≤ d.i0 ∧ d.i0 ≤ 9223372036854775807 := by rcases hour with ⟨h, _⟩ | ⟨h, _⟩ <;> omega
          have hrdq : RdP wq (fun b => b < w.heap.size) 1 ta tn (d.ts.map (Value.int .i64)) := hrd.keep (fun b h => hbw.block b h) (fun _ h => h)
          have hlq : (headB ++ blksB (dl.take q)).length ≤ 200000 := by rw [List.length_append, headB_len]; omega
          have H2 := Lib.hid (And.intro hOq (And.intro hbq (And.intro hrdq (And.intro hsn (And.intro hour (And.intro hn0 hlq))))))
          have HC := Lib.hid hcr
          clear hOq hbq hbw hc hrd hsn hour hmay hcr hrdq hn0 hlenB
          go_wp2_with (first
            | (refine wpList_load_bk rfl _ rfl (ad.add (q * 18)) rfl d.i0 d.i9 (.slice ta tn tc) HC.out ?_)
            | (refine wpList_store_box rfl 34 _ _ rfl wq.heap.size (bk d.i0 d.i9 (.slice ta tn tc)) rfl rfl 34 (bk 0 0 (.slice none 0 0)) (Blk.new wq _ _) blkInfo' rfl (bk_one _ _ _ _ _) ?_)
            | fail)
          intro wa hBa hga
          have hba : Below wq.heap.size wq wa := ((Below.refl _ _).alloc (Nat.le_refl _) _).grown hga (by simp) (fun b hb => by injection hb with hb; omega)
          have a0 : wa.cell? ⟨wq.heap.size, 0, none⟩ = some (.int .i64 d.i0) := (hBa.cell 0).trans rfl
          have HA := Lib.hid (And.intro hBa (And.intro hba (And.intro (H2.out.1.below hba) (RdP.keep (ψ := OutP wa (w3.heap.size + 1) Vq) H2.out.2.2.1 (fun b h => hba.block b (by have := H3.out.2.size; omega)) (fun b h => ⟨by have := H3.out.2.size; have := hba.size; omega, by have := H3.out.2.size; omega, fun e => by have := (H2.out.1.row.lt b e).1; have := H3.out.2.size; omega⟩)))))
          clear hBa hga hba HC
          go_wp2_with fail
          refine (num_lit wa (w3.heap.size + 1) w3.heap.size 1 1 1 Vq _ [d.i0] _ HA.out.2.2.1 (Nat.le_trans hBq HA.out.2.1.size) rfl rfl (by intro z hz; simp at hz; omega) (by omega) (by omega) (by have := H2.out.2.2.2.2.2.2; omega)).mono ?_
          rintro e wb ⟨⟨p1, rfl⟩, Vb, hOb, hMb⟩
          have hBb := hMb.blk HA.out.2.2.1 HA.out.1 (by decide) (by decide)
          have hrb := RdP.omv HA.out.2.2.2 hMb
          have hsb : wa.heap.size ≤ wb.heap.size := hMb.size
          have HBx := Lib.hid (And.intro hBb (And.intro hOb (And.intro hrb hMb)))
          clear hOb hrb hMb a0
          go_wp2_with (first
            | (refine wpList_load_box rfl 34 _ rfl wq.heap.size rfl 34 (bk d.i0 d.i9 (.slice ta tn tc)) hBb _ Tryz.underlying34 rfl blkInfo' ?_)
            | fail)
          try (refine fun (_ : Hid _) => ?_)
          try go_wp2_with fail
          rcases H2.out.2.2.2.2.1 with ⟨e1, e2, e3, e4⟩ | ⟨e1, e2, e3, e4⟩
          · have h0 : tn = 0 := by have := H2.out.2.2.1.1; rw [List.length_map, e4] at this; simpa using this.symm
            obtain ⟨rfl, rfl⟩ := H2.out.2.2.2.2.2.1 h0
            subst h0
            have hEQ := Lib.hid (show blkB d = flatL 1 [d.i0] ++ (flatL 4 [1] ++ flatL 1 [d.i9]) by unfold blkB; rw [if_neg (by omega)])
            have HE := Lib.hid e1
            rw [e1]
            clear e1 e4
            refine (sounds43_any wb (w3.heap.size + 1) w3.heap.size d.i9 Vb _ HBx.out.2.1).mono ?_
            rintro e wc ⟨rfl, Vc, hOc, hMc⟩
            rw [List.append_nil] at hOc
            have hBc := hMc.blk HBx.out.2.1 HBx.out.1 (by decide) (by decide)
            rw [HE.out] at hBc
            have hsc := hMc.size
            have HCx := Lib.hid (And.intro hOc hMc)
            clear hOc hMc hBb
            go_wp2_with (first
              | (refine wpList_load_box rfl 34 _ rfl wq.heap.size rfl 34 (bk 43 d.i9 (.slice none 0 0)) hBc _ Tryz.underlying34 rfl blkInfo' ?_)
              | fail)
            try (refine fun (_ : Hid _) => ?_)
            try go_wp2_with fail
            refine (tells43_any wc (w3.heap.size + 1) w3.heap.size d.i9 Vc _ HCx.out.1 (by have := HA.out.2.1.size; omega) e2 e3 (by rw [List.length_append, flatL_len]; simp only [List.length_singleton]; have := H2.out.2.2.2.2.2.2; omega)).mono ?_
            rintro e wz ⟨⟨p2, rfl⟩, Vz, hOz9, hMz9⟩
            have HDx := Lib.hid (And.intro hOz9 hMz9)
            clear hOz9 hMz9 hBc
            have hOz : OutAt wz (w3.heap.size + 1) w3.heap.size Vz (headB ++ blksB (dl.take (q + 1))) := by
              rw [H2.out.2.2.2.1, blksB_snoc, ← List.append_assoc]
              rw [hEQ.out]
              simpa only [List.append_assoc] using HDx.out.1
            have hbz : Below w3.heap.size w3 wz := (H2.out.2.1.trans (HA.out.2.1.mono hBq)).trans ((HBx.out.2.2.2.trans (HCx.out.2.trans HDx.out.2)).below HA.out.2.2.1 (Nat.le_trans hBq HA.out.2.1.size))
            have hlz : (headB ++ blksB (dl.take (q + 1))).length ≤ 300000 := by
              have hz1 := blkB_len H2.out.2.2.2.2.1
              rw [H2.out.2.2.2.1, blksB_snoc, ← List.append_assoc, List.length_append]
              omega
            obtain ⟨Az, cz, rfl⟩ := own_slice hOz.row
            have cz0 : wz.cell? ⟨w3.heap.size + 1, 0, none⟩ = some (.slice Az (headB ++ blksB (dl.take (q + 1))).length cz) := (hOz.box.cell 0).trans rfl
            have HZ := Lib.hid (And.intro hOz hbz)
            clear hOz hbz
            generalize hN : (headB ++ blksB (dl.take (q + 1))).length = N at *
            have HN := Lib.hid hN
            clear hN
            go_wp2_with fail
            go_roundw
            case rel => exact ⟨q + 1, _, by omega, by go_num, HZ.out.1, HZ.out.2⟩
            case measure => simp [intOf]; omega
          · have hEQ := Lib.hid (show blkB d = flatL 1 [d.i0] ++ (flatL 1 [(d.ts.length : Int)] ++ flatL 2 d.ts) by unfold blkB; rw [if_pos e1])
            have htn : d.ts.length = tn := by have := H2.out.2.2.1.1; rw [List.length_map] at this; simpa using this
            have HTN := Lib.hid htn
            have ht255 : tn ≤ 255 := by omega
            rw [e1, e2]
            clear e1 e2 htn
            refine (sounds19_any wb (w3.heap.size + 1) w3.heap.size tn tc ta Vb _ d.ts HBx.out.2.1 (by have := HA.out.2.1.size; omega) HBx.out.2.2.1 e4 ht255 (by rw [List.length_append, flatL_len]; simp only [List.length_singleton]; have := H2.out.2.2.2.2.2.2; omega)).mono ?_
            rintro e wz ⟨rfl, Vz, hOz9, hMz9⟩
            rw [← HTN.out] at hOz9
            have HDx := Lib.hid (And.intro hOz9 hMz9)
            clear hOz9 hMz9 hBb
            have hOz : OutAt wz (w3.heap.size + 1) w3.heap.size Vz (headB ++ blksB (dl.take (q + 1))) := by
              rw [H2.out.2.2.2.1, blksB_snoc, ← List.append_assoc]
              rw [hEQ.out]
              simpa only [List.append_assoc] using HDx.out.1
            have hbz : Below w3.heap.size w3 wz := (H2.out.2.1.trans (HA.out.2.1.mono hBq)).trans ((HBx.out.2.2.2.trans HDx.out.2).below HA.out.2.2.1 (Nat.le_trans hBq HA.out.2.1.size))
            have hlz : (headB ++ blksB (dl.take (q + 1))).length ≤ 300000 := by
              have hz1 := blkB_len H2.out.2.2.2.2.1
              rw [H2.out.2.2.2.1, blksB_snoc, ← List.append_assoc, List.length_append]
              omega
            obtain ⟨Az, cz, rfl⟩ := own_slice hOz.row
            have cz0 : wz.cell? ⟨w3.heap.size + 1, 0, none⟩ = some (.slice Az (headB ++ blksB (dl.take (q + 1))).length cz) := (hOz.box.cell 0).trans rfl
            have HZ := Lib.hid (And.intro hOz hbz)
            clear hOz hbz
            generalize hN : (headB ++ blksB (dl.take (q + 1))).length = N at *
            have HN := Lib.hid hN
            clear hN
            go_wp2_with fail
            go_roundw
            case rel => exact ⟨q + 1, _, by omega, by go_num, HZ.out.1, HZ.out.2⟩
            case measure => simp [intOf]; omega
        · obtain rfl : q = k := by omega
          rw [List.take_of_length_le (by rw [HL.out]; omega)] at hOq
          obtain ⟨Av, cv, rfl⟩ := own_slice hOq.row
          have cO : wq.cell? ⟨w3.heap.size + 1, 0, none⟩ = some (.slice Av (headB ++ blksB dl).length cv) := (hOq.box.cell 0).trans rfl
          have H7 := Lib.hid (And.intro hbw (own_low hOq.row (show w.heap.size ≤ w3.heap.size from H3.out.2.size)))
          clear hOq hbq hbw
          generalize hN : (headB ++ blksB dl).length = N at *
          have HN := Lib.hid hN
          clear hN
          go_wp2_with fail
          go_ret3
          have e := HN.out
          subst e
          exact ⟨H7.out.1, Av, cv, rfl, H7.out.2⟩
end Tl
end Go.Proofs.YtnlaedfnifimkaaGreat
namespace Go.Proofs.YtnlaedfnifimkaaGreat
open Go.RowKit Go.Joins
namespace Tl
theorem own_own_ne {w : World} {B B' : Nat} {e e' : TypeId} {s s' n n' : Nat} {v v' : Value} {xs xs' : List Value} (h : w.ownsRow B e s v n xs) (h' : w.ownsRow B' e' s' v' n' xs') (hne : e ≠ e') : v.ownBlock = none ∨ v.ownBlock ≠ v'.ownBlock := by
  rcases h.2 with ⟨rfl, _⟩ | ⟨g, cap, cur, rfl, _, hh, _⟩
  · exact .inl (by simp [Value.ownBlock])
  · refine .inr ?_
    rcases h'.2 with ⟨rfl, _⟩ | ⟨g', cap', cur', rfl, _, hh', _⟩
    · simp [Value.ownBlock]
    · intro e0
      have : g = g' := by simpa [Value.ownBlock] using e0
      subst this
      exact Blk.ne_ (t := e) (t' := e') hh hh' hne rfl
theorem grown_own0 {w w1 w2 : World} {g : Nat} {r : Option Nat} (h : w.grownBy w1 (some g)) (h2 : w1.grownBy w2 r) (hV : ∀ b, r = some b → w.heap.size ≤ b) : w.grownBy w2 (some g) :=
  ⟨h2.os.trans h.os, h2.tape.trans h.tape, h2.output.trans h.output, Nat.le_trans h.size h2.size, fun j hj hne =>
    (h2.block j (Nat.lt_of_lt_of_le hj h.size) (fun e => by have := hV j e.symm; omega)).trans (h.block j hj hne)⟩
set_option maxRecDepth 100000 in
set_option maxHeartbeats 4000000 in
theorem take_ok {w : World} {g n c p k B : Nat} {A : Option Addr} {zs : List Int} (h : Rd w g A n c p none) (hr : Reads w B 1 A n (zs.map (Value.int .u8))) (hg : B ≤ g) (hk : p + k ≤ n) (hc : n ≤ c) (hn : n ≤ 2000000) (hcn : c ≤ 9223372036854775807) (hA : A = none → c = 0) :
    Calls Tryz.prog 111 #[.pointer (some ⟨g, 0, none⟩), .int .i64 k] w fun x w' => ∃ v, x = .returned v ∧ w'.ownsRow w.heap.size 5 1 v k (((zs.drop p).take k).map (Value.int .u8)) ∧ Rd w' g A n c ((p + k : Nat) : Int) none ∧ w.grownBy w' (some g) := by
  obtain ⟨i0, hi, hz0, hz1, hz2⟩ := info_parts u8Info
  have i1 : (0 : Int) ≤ (k : Int) := by omega
  have hglt := h.lt
  have hR0 : Rd (w.alloc (.cells #[] 5)) g A n c p none := Blk.alloc h _
  have hG0 : w.grownBy (w.alloc (.cells #[] 5)) (some g) := World.grownBy_alloc w _ _
  have hlit : (w.alloc (.cells #[] 5)).ownsRow w.heap.size 5 1 (.slice (some ⟨w.heap.size, 0, none⟩) 0 0) 0 [] := World.ownsRow_lit w #[] 0 (Nat.le_refl _) (by decide) rfl
  have hrB : ∀ w' : World, w.grownBy w' (some g) → Reads w' B 1 A n (zs.map (Value.int .u8)) := fun w' hg' => hr.grown hg' (by omega) (fun j hj => by injection hj with hj; omega)
  have HRB := Lib.hid hrB
  clear hrB
  have hs0 : (w.alloc (.cells #[] 5)).heap.size = w.heap.size + 1 := by simp
  go_enter Tryz.func111, Tryz.ntmps111
  go_wp2_with fail
  generalize w.alloc (.cells #[] 5) = W at *
  refine (next_ok hR0 hk hc hcn hA).mono ?_
  rintro e w1 ⟨rfl, hR1, hg1⟩
  have hG1 := grown_trans hG0 hg1
  have hs1 := hg1.size
  have hw := reads_win (p := p) (k := k) (HRB.out w1 hG1) hk hc
  have hlit1 := hlit.kept hg1 (.inr (by simp [Value.ownBlock]; omega))
  have hone : ∀ u ∈ ((zs.drop p).take k).map (Value.int .u8), u.oneCell' = true := fun u hu => by
    simp only [List.mem_map] at hu
    obtain ⟨z, _, rfl⟩ := hu
    rfl
  generalize (if c = p then A else A.map (·.add p)) = A' at *
  generalize hnw : ((zs.drop p).take k).map (Value.int .u8) = news at *
  have HNW := Lib.hid hnw
  clear hlit hR0 hG0 hg1 hnw
  go_wp2_with (first
    | (at_builtin; refine wpList_append_any _ rfl _ _ 24 rfl w.heap.size 5 i0 (.int .u8 0) 1 1 Tryz.underlying24 hi hz0 hz1 hz2 rfl (by decide) _ 0 [] rfl hlit1 _ A' k (c - p) news rfl hw hone (by unfold maxLen; omega) (by omega) (by omega) ?_)
    | go_in)
  intro v2 w2 own2 hg2 _
  have hR2 : Rd w2 g A n c ((p + k : Nat) : Int) none := Blk.grown hR1 hg2 (by simp [Value.ownBlock]; omega)
  have hG2 : w.grownBy w2 (some g) := grown_own0 hG1 hg2 (fun b hb => by simp [Value.ownBlock] at hb; omega)
  go_wp2
  go_ret
  rw [HNW.out]
  exact ⟨_, rfl, by simpa using own2, hR2, hG2⟩
theorem flatL_win (K : Nat) : ∀ (zs : List Int) (i : Nat), i < zs.length → ((flatL K zs).drop (K * i)).take K = bytesL K (zs.getD i 0)
  | [], i, h => by simp at h
  | z :: t, 0, _ => by
    simp [flatL, List.flatMap_cons, List.take_append_of_le_length, bytesL_len]
    try rw [List.take_of_length_le (by rw [bytesL_len]; omega)]
  | z :: t, i + 1, h => by
    have ih := flatL_win K t i (by simpa using h)
    have e : flatL K (z :: t) = bytesL K z ++ flatL K t := by simp [flatL]
    rw [e, show K * (i + 1) = (bytesL K z).length + K * i by rw [bytesL_len, Nat.mul_add]; omega, List.drop_append]
    simp only [show (bytesL K z).length + K * i - (bytesL K z).length = K * i by omega]
    rw [List.drop_of_length_le (by omega), List.nil_append, ih]
    simp
def inK (K : Nat) (zs : List Int) : Prop := ∀ z ∈ zs, 0 ≤ z ∧ z < 256 ^ K
theorem inK_at {K : Nat} {zs : List Int} (h : inK K zs) {i : Nat} (hi : i < zs.length) : 0 ≤ zs.getD i 0 ∧ zs.getD i 0 < 256 ^ K := by
  have : zs.getD i 0 ∈ zs := by rw [List.getD_eq_getElem?_getD, List.getElem?_eq_getElem hi]; exact List.getElem_mem hi
  exact h _ this
theorem reads_far {w w' : World} {B size n g : Nat} {A : Option Addr} {xs : List Value} (h : Reads w B size A n xs) (hg : w.grownBy w' (some g)) (hB : B ≤ g) (hs : B ≤ w.heap.size) : Reads w' B size A n xs :=
  h.grown hg hs (fun j hj => by injection hj with hj; omega)
theorem grown_own {w w1 w2 w3 : World} {g : Nat} {V : Value} (h : w.grownBy w1 (some g)) (ha : w1.grownBy w2 none) (h2 : w2.grownBy w3 V.ownBlock) (hV : ∀ b, V.ownBlock = some b → w.heap.size ≤ b) : w.grownBy w3 (some g) :=
  ⟨h2.os.trans (ha.os.trans h.os), h2.tape.trans (ha.tape.trans h.tape), h2.output.trans (ha.output.trans h.output), Nat.le_trans h.size (Nat.le_trans ha.size h2.size), fun j hj hne =>
    (h2.block j (Nat.lt_of_lt_of_le hj (Nat.le_trans h.size ha.size)) (fun e => by have := hV j e.symm; omega)).trans ((ha.block j (Nat.lt_of_lt_of_le hj h.size) (by simp)).trans (h.block j hj hne))⟩
theorem win_is {file pre mid post : List Int} {q m : Nat} (hf : file = pre ++ (mid ++ post)) (hq : pre.length = q) (hm : mid.length = m) : (file.drop q).take m = mid ∧ q + m ≤ file.length := by
  subst hf hq hm
  simp
theorem number_is {w : World} {g N c q m B : Nat} {A : Option Addr} {file : List Int} (pre post : List Int) (v : Int) (h : Rd w g A N c q none) (hr : Reads w B 1 A N (file.map (Value.int .u8))) (hz : isU8 file) (hg : B ≤ g) (hm : 1 ≤ m) (hm4 : m ≤ 4) (hf : file = pre ++ (bytesL m v ++ post)) (hq : pre.length = q) (v0 : 0 ≤ v) (v1 : v < 256 ^ m) (hc : N ≤ c) (hn : c ≤ 9223372036854775807) :
    Calls Tryz.prog 112 #[.pointer (some ⟨g, 0, none⟩), .int .i64 m] w fun x w' => x = .returned (.int .i64 v) ∧ Rd w' g A N c ((q + m : Nat) : Int) none ∧ w.grownBy w' (some g) := by
  obtain ⟨h1, h2⟩ := win_is hf hq (bytesL_len m v)
  have hl := rd_len hr
  have := number_ok (p := q) (m := m) h hr hz hg hm hm4 (by omega) hc hn
  rw [h1, valL_bytes m v v0 v1] at this
  exact this
set_option maxRecDepth 100000 in
set_option maxHeartbeats 4000000 in
theorem numbers2_at {w : World} {g N c q m B : Nat} {A : Option Addr} {file zs : List Int} (pre post : List Int) (h : Rd w g A N c q none) (hr : Reads w B 1 A N (file.map (Value.int .u8))) (hz8 : isU8 file) (hf : file = pre ++ (flatL 2 zs ++ post)) (hq : pre.length = q) (hl : zs.length = m) (hin : inK 2 zs) (hg : B ≤ g) (hm : m ≤ 300) (hc : N ≤ c) (hcm : c ≤ 9223372036854775807) :
    Calls Tryz.prog 165 #[.pointer (some ⟨g, 0, none⟩), .int .i64 m, .int .i64 2] w fun e w' => ∃ A' c', e = .returned (.slice A' m c') ∧ w'.ownsRow w.heap.size 3 1 (.slice A' m c') m (zs.map (Value.int .i64)) ∧ Rd w' g A N c ((q + 2 * m : Nat) : Int) none ∧ w.grownBy w' (some g) := by
  obtain ⟨i0, hi, hz0, hz1, hz2⟩ := info_parts intInfo4
  have hgl := h.lt
  have hlf := rd_len hr
  have hwin : ∀ i, i < m → ((file.drop (q + 2 * i)).take 2) = bytesL 2 (zs.getD i 0) := fun i hi => by
    have h1 := flatL_win 2 zs i (by omega)
    rw [hf, ← hq, ← List.drop_drop, List.drop_left, List.drop_append_of_le_length (by rw [flatL_len]; omega), List.take_append_of_le_length (by rw [List.length_drop, flatL_len]; omega)]
    exact h1
  have hend : q + 2 * m ≤ N := by
    have := congrArg List.length hf
    rw [List.length_append, List.length_append, flatL_len] at this
    omega
  have HL := Lib.hid (And.intro hl (And.intro hwin hin))
  clear hl hwin hf hq hin hlf
  go_enter Tryz.func165, Tryz.ntmps165
  go_wp2_with fail
  refine (left_ok (p := q) h (by omega) (by omega)).mono ?_
  rintro e w1 ⟨rfl, q1, rfl⟩
  have h1 := h.drewN q1
  have hr1 := hr.drewN q1
  have hg1 := grown_drewN (w := w) q1 (some g)
  have hs1 : (w.drewN q1).heap.size = w.heap.size := rfl
  generalize w.drewN q1 = W at *
  have hBw : B ≤ w.heap.size := by omega
  have hX : 2 * (m : Int) ≤ (N : Int) - (q : Int) := by omega
  have hX0 : 0 ≤ (N : Int) - (q : Int) := by omega
  have hX1 : (N : Int) - (q : Int) ≤ 9223372036854775807 := by omega
  generalize (N : Int) - (q : Int) = X at *
  have hdm : ¬ X / 2 < (m : Int) := by omega
  go_wp2
  clear hX hX0 hX1 hdm
  go_loopw [7, 33] (fun v i wr => ∃ j : Nat, j ≤ m ∧ i = .int .i64 j ∧ Rd wr g A N c ((q + 2 * j : Nat) : Int) none ∧ wr.ownsRow w.heap.size 3 1 v j ((zs.take j).map (Value.int .i64)) ∧ w.grownBy wr (some g)) (fun _ i _ => m - (intOf i).toNat)
  case atStart => exact ⟨0, by omega, rfl, h1, World.ownsRow_nil _ _ _ _, hg1⟩
  case round =>
    clear h1 hr1 hg1 hs1 h
    obtain ⟨j, hj, rfl, hR, hown, hgr⟩ := hrel
    by_cases hlt : j < m
    · have hr2 := reads_far hr hgr hg hBw
      have ht := take_snocI zs j (by rw [HL.out.1]; exact hlt)
      have hv := inK_at HL.out.2.2 (i := j) (by rw [HL.out.1]; exact hlt)
      have hnum := number_ok (p := q + 2 * j) (m := 2) hR hr2 hz8 hg (by omega) (by omega) (by omega) hc hcm
      rw [HL.out.2.1 j hlt, valL_bytes 2 _ hv.1 hv.2] at hnum
      have hne : ∀ b, u7.ownBlock = some b → w.heap.size ≤ b := fun b hb => (hown.lt b hb).1
      have hne2 : some g ≠ u7.ownBlock := fun e => by have := hne g e.symm; omega
      have HT := Lib.hid ht
      have HNUM := Lib.hid hnum
      clear hv ht hnum hr2 hR
      generalize zs.getD j 0 = z at *
      go_wp2_with fail
      refine HNUM.out.mono ?_
      rintro e w2 ⟨rfl, hR2, hg2⟩
      have hown2 := hown.kept hg2 (.inr (fun e => hne2 e.symm))
      have hgr2 := grown_trans hgr hg2
      have hs2 := hgr2.size
      clear hown hg2
      go_wp2_with (first
        | (at_builtin; refine wpList_append_own _ rfl _ _ 29 rfl w.heap.size 3 i0 (.int .i64 0) 1 8 Tryz.underlying29 hi hz0 hz1 hz2 rfl (by decide) _ j _ rfl (hown2.alloc _) ⟨w2.heap.size, 0, none⟩ 1 1 [.int .i64 z] rfl rfl (World.news_of_block (cs := #[.int .i64 z]) (t := 3) (fr := (0, 0)) (heap_alloc_new w2 _)) (by simp [Value.oneCell']) (by unfold maxLen; omega) (by omega) (by simp; omega) ?_)
        | go_in)
      intro v' w3 hown' hgrow _
      have hR3 : Rd w3 g A N c ((q + 2 * (j + 1) : Nat) : Int) none := by
        have := Blk.grown (Blk.alloc hR2 (.cells #[.int .i64 z] 3)) hgrow hne2
        rw [show q + 2 * (j + 1) = q + 2 * j + 2 by omega]
        exact this
      have hgr3 : w.grownBy w3 (some g) := grown_own hgr2 (World.grownBy_alloc w2 _ none) hgrow hne
      have H3 := Lib.hid (And.intro hR3 (And.intro hown' hgr3))
      clear hgrow hown2 hR2 hgr2 hR3 hgr3 hown'
      go_wp2
      go_roundw
      case rel => exact ⟨j + 1, by omega, by go_num, H3.out.1, by rw [HT.out]; simpa using H3.out.2.1, H3.out.2.2⟩
      case measure => simp [intOf]; omega
    · obtain rfl : j = m := by omega
      have ht : zs.take j = zs := by rw [List.take_of_length_le (by rw [HL.out.1]; exact Nat.le_refl _)]
      rw [ht] at hown
      obtain ⟨A', c', rfl⟩ := own_slice hown
      have H3 := Lib.hid (And.intro hown (And.intro hR hgr))
      clear hown hR hgr
      go_wp2
      go_ret
      exact ⟨A', c', rfl, H3.out⟩
end Tl
end Go.Proofs.YtnlaedfnifimkaaGreat
namespace Go.Proofs.YtnlaedfnifimkaaGreat
open Go.RowKit Go.Joins
namespace Tl
structure FileAt (w : World) (B : Nat) (A : Option Addr) (N c : Nat) (file : List Int) : Prop where
  rd : Reads w B 1 A N (file.map (Value.int .u8))
  u8 : isU8 file
  cap : N ≤ c
  capm : c ≤ 9223372036854775807
theorem FileAt.keep {w w' : World} {B N c : Nat} {A : Option Addr} {file : List Int} (h : FileAt w B A N c file) (hb : Below B w w') : FileAt w' B A N c file := ⟨h.rd.below hb, h.u8, h.cap, h.capm⟩
theorem grown_below {w w' : World} {g B : Nat} (h : w.grownBy w' (some g)) (hB : B ≤ w.heap.size) (hg : B ≤ g) : Below B w w' := ⟨h.os, h.tape, h.output, h.size, fun k hk => h.block k (by omega) (fun e => by injection e with e; omega)⟩
theorem FileAt.num {w : World} {B N c g q m : Nat} {A : Option Addr} {file : List Int} (h : FileAt w B A N c file) (pre post : List Int) (v : Int) (hR : Rd w g A N c q none) (hg : B ≤ g) (hm : 1 ≤ m) (hm4 : m ≤ 4) (hf : file = pre ++ (bytesL m v ++ post)) (hq : pre.length = q) (v0 : 0 ≤ v) (v1 : v < 256 ^ m) :
    Calls Tryz.prog 112 #[.pointer (some ⟨g, 0, none⟩), .int .i64 m] w fun x w' => x = .returned (.int .i64 v) ∧ Rd w' g A N c ((q + m : Nat) : Int) none ∧ w.grownBy w' (some g) :=
  number_is pre post v hR h.rd h.u8 hg hm hm4 hf hq v0 v1 h.cap h.capm
def PBox (w : World) (p g : Nat) (VB VS : Value) : Prop := Blk w p 204 #[.pointer (some ⟨g, 0, none⟩), VB, VS]
theorem PBox.grown {w w' : World} {p g N c : Nat} {A bad : Option Addr} {q : Int} {VB VS : Value} (h : PBox w p g VB VS) (hR : Rd w g A N c q bad) (hg : w.grownBy w' (some g)) : PBox w' p g VB VS :=
  Blk.grown h hg (fun e => by injection e with e; exact Blk.ne_ h hR (by decide) e)
theorem PBox.c0 {w : World} {p g : Nat} {VB VS : Value} (h : PBox w p g VB VS) : w.cell? ⟨p, 0, none⟩ = some (.pointer (some ⟨g, 0, none⟩)) := (Blk.cell h 0).trans rfl
set_option maxRecDepth 100000 in
set_option maxHeartbeats 4000000 in
theorem fixed1_any {w : World} {p g q N c B : Nat} {A : Option Addr} {VB VS : Value} {file : List Int} (pre post : List Int) (hP : PBox w p g VB VS) (hR : Rd w g A N c q none) (hF : FileAt w B A N c file) (hg : B ≤ g) (hf : file = pre ++ (bytesL 4 1 ++ post)) (hq : pre.length = q) :
    Calls Tryz.prog 172 #[.pointer (some ⟨p, 0, none⟩), .int .i64 1] w fun x w' => (∃ u, x = .returned u) ∧ Rd w' g A N c ((q + 4 : Nat) : Int) none ∧ w.grownBy w' (some g) := by
  have c0 := hP.c0
  have hnum := hF.num pre post 1 hR hg (by omega) (by omega) hf hq (by omega) (by decide)
  have hat := at_any hR
  clear hP hR hF hf
  go_enter Tryz.func172, Tryz.ntmps172
  go_wp2_with fail
  refine hat.mono ?_
  rintro e w1 ⟨rfl, rfl⟩
  go_wp2_with fail
  refine hnum.mono ?_
  rintro e w2 ⟨rfl, hR2, hg2⟩
  have H := Lib.hid (And.intro hR2 hg2)
  clear hR2 hg2 hnum hat c0
  go_wp2
  first | go_end0 | ((try simp only [Exit.inBlock, Exit.then]); refine bodyPost_ret (v := .tuple #[]) (results_none rfl _ _ _) rfl ?_)
  exact ⟨⟨_, rfl⟩, H.out⟩
theorem mv_grown {w w' : World} {g b : Nat} (h : w.grownBy w' (some g)) : Mv w w' g b := Mv.of_grown h (.inl rfl)
set_option maxRecDepth 100000 in
set_option maxHeartbeats 4000000 in
theorem level_any {w : World} {p g b q N c B : Nat} {u : Int} {A : Option Addr} {VB VS : Value} {file : List Int} (pre post : List Int) (hP : PBox w p g VB VS) (hR : Rd w g A N c q none) (hF : FileAt w B A N c file) (hb : Blk w b 34 (bk 43 0 (.slice none 0 0))) (hg : B ≤ g) (hB : B ≤ w.heap.size) (u0 : 0 ≤ u) (u1 : u ≤ 1) (hf : file = pre ++ (bytesL 4 1 ++ (bytesL 1 u ++ post))) (hq : pre.length = q) :
    Calls Tryz.prog 173 #[.pointer (some ⟨p, 0, none⟩), .pointer (some ⟨b, 0, none⟩)] w fun x w' => (∃ u, x = .returned u) ∧ Rd w' g A N c ((q + 5 : Nat) : Int) none ∧ Blk w' b 34 (bk 43 u (.slice none 0 0)) ∧ Mv w w' g b := by
  have hfx := fixed1_any pre (bytesL 1 u ++ post) hP hR hF hg hf hq
  have hbg : b ≠ g := hb.ne_ hR (by decide)
  have H0 := Lib.hid (And.intro hP (And.intro hR (And.intro hF (And.intro hb (And.intro hf hq)))))
  clear hP hR hF hb hf hq
  go_enter Tryz.func173, Tryz.ntmps173
  go_wp2_with fail
  refine hfx.mono ?_
  rintro e w1 ⟨⟨q1, rfl⟩, hR1, hg1⟩
  obtain ⟨hP, hR, hF, hb, hf, hq⟩ := H0.out
  have c0 := (hP.grown hR hg1).c0
  have hb1 : Blk w1 b 34 (bk 43 0 (.slice none 0 0)) := hb.grown hg1 (fun e => hbg (by injection e))
  have hnum := (hF.keep (grown_below hg1 hB hg)).num (m := 1) (q := q + 4) (pre ++ bytesL 4 1) post u hR1 hg (by omega) (by omega) (by rw [hf]; simp) (by simp [hq, bytesL_len]) u0 (by omega)
  have hat := at_any hR1
  have H1 := Lib.hid (And.intro hb1 (mv_grown (b := b) hg1))
  clear hP hR hF hb hf hq hR1 hg1 hb1 hfx
  go_wp2_with fail
  refine hat.mono ?_
  rintro e w2 ⟨rfl, rfl⟩
  clear hat
  go_wp2_with fail
  refine hnum.mono ?_
  rintro e w2 ⟨rfl, hR2, hg2⟩
  have hb2 : Blk w2 b 34 (bk 43 0 (.slice none 0 0)) := H1.out.1.grown hg2 (fun e => hbg (by injection e))
  have f9 : w2.frozen? ⟨b, 9, none⟩ = false := hb2.frozen 9
  have c9 : w2.cell? ⟨b, 9, none⟩ = some (.int .i64 0) := (hb2.cell 9).trans rfl
  have H2 := Lib.hid (And.intro (show Rd (w2.setCell ⟨b, 9, none⟩ (.int .i64 u)) g A N c ((q + 5 : Nat) : Int) none from Blk.far hR2 (p := ⟨b, 9, none⟩) (fun e => hbg e.symm) _) (And.intro (show Blk (w2.setCell ⟨b, 9, none⟩ (.int .i64 u)) b 34 (bk 43 u (.slice none 0 0)) from hb2.set_ 9 _) (show Mv w (w2.setCell ⟨b, 9, none⟩ (.int .i64 u)) g b from by
    have hm := H1.out.2.trans (mv_grown (b := b) hg2)
    exact ⟨hm.os, hm.tape, hm.output, by simpa [World.setCell] using hm.size, fun k hk h1 h2 => (Below.heap_setCell _ _ _ _ h2).trans (hm.block k hk h1 h2)⟩)))
  have c9' : (w2.setCell ⟨b, 9, none⟩ (.int .i64 u)).cell? ⟨b, 9, none⟩ = some (.int .i64 u) := (H2.out.2.1.cell 9).trans rfl
  clear hb2 hR2 hg2 hnum c0
  go_wp2
  first | go_end0 | ((try simp only [Exit.inBlock, Exit.then]); refine bodyPost_ret (v := .tuple #[]) (results_none rfl _ _ _) rfl ?_)
  exact ⟨⟨_, rfl⟩, H2.out⟩
set_option maxRecDepth 100000 in
set_option maxHeartbeats 4000000 in
theorem sound43p_any {w : World} {p g b : Nat} {at_ : Int} {VB VS T : Value} {u : Int} (hP : PBox w p g VB VS) (hb : Blk w b 34 (bk 43 u T)) :
    Calls Tryz.prog 139 #[.pointer (some ⟨p, 0, none⟩), .pointer (some ⟨b, 0, none⟩), .int .i64 at_] w fun x w' => x = .returned (.bool false) ∧ w = w' := by
  have c0 := hP.c0
  have b0 : w.cell? ⟨b, 0, none⟩ = some (.int .i64 43) := (hb.cell 0).trans rfl
  clear hP hb
  go_enter Tryz.func139, Tryz.ntmps139
  go_wp2
  go_ret
  exact ⟨rfl, rfl⟩
set_option maxRecDepth 100000 in
set_option maxHeartbeats 4000000 in
theorem sound19p_any {w : World} {p g b q N c B m : Nat} {at_ : Int} {A : Option Addr} {VB VS : Value} {file ts : List Int} (pre post : List Int) (hP : PBox w p g VB VS) (hR : Rd w g A N c q none) (hF : FileAt w B A N c file) (hb : Blk w b 34 (bk 19 0 (.slice none 0 0))) (hg : B ≤ g) (hB : B ≤ w.heap.size) (hm : ts.length = m) (hm9 : m ≤ 255) (hz : ∀ z ∈ ts, 0 ≤ z ∧ z ≤ 65535) (hf : file = pre ++ (bytesL 1 (m : Int) ++ (flatL 2 ts ++ post))) (hq : pre.length = q) :
    Calls Tryz.prog 139 #[.pointer (some ⟨p, 0, none⟩), .pointer (some ⟨b, 0, none⟩), .int .i64 at_] w fun x w' => x = .returned (.bool true) ∧ Rd w' g A N c ((q + 1 + 2 * m : Nat) : Int) none ∧ Mv w w' g b ∧ ∃ TA tc, Blk w' b 34 (bk 19 0 (.slice TA m tc)) ∧ w'.ownsRow w.heap.size 3 1 (.slice TA m tc) m (ts.map (Value.int .i64)) := by
  have c0 := hP.c0
  have b0 : w.cell? ⟨b, 0, none⟩ = some (.int .i64 19) := (hb.cell 0).trans rfl
  have hbg : b ≠ g := hb.ne_ hR (by decide)
  have hbl := hb.lt
  have hnum := hF.num (m := 1) pre (flatL 2 ts ++ post) (m : Int) hR hg (by omega) (by omega) hf hq (by omega) (by omega)
  have H0 := Lib.hid (And.intro hP (And.intro hR (And.intro hF (And.intro hb (And.intro hf hq)))))
  have HZ := Lib.hid (show inK 2 ts from fun z h => by have := hz z h; omega)
  have HM := Lib.hid hm
  clear hP hR hF hb hf hq hz hm
  go_enter Tryz.func139, Tryz.ntmps139
  go_wp2_with fail
  refine hnum.mono ?_
  rintro e w1 ⟨rfl, hR1, hg1⟩
  obtain ⟨hP, hR, hF, hb, hf, hq⟩ := H0.out
  have hs1 := hg1.size
  have hF1 := hF.keep (grown_below hg1 hB hg)
  have hb1 : Blk w1 b 34 (bk 19 0 (.slice none 0 0)) := hb.grown hg1 (fun e => hbg (by injection e))
  have hns := numbers2_at (q := q + 1) (m := m) (zs := ts) (pre ++ bytesL 1 (m : Int)) post hR1 hF1.rd hF1.u8 (by rw [hf]; simp) (by simp [hq, bytesL_len]) HM.out HZ.out hg (by omega) hF1.cap hF1.capm
  have H1 := Lib.hid (And.intro hb1 (mv_grown (b := b) hg1))
  clear hP hR hF hb hf hq hR1 hg1 hb1 hF1 hnum c0 b0
  go_wp2_with fail
  refine hns.mono ?_
  rintro e w2 ⟨TA, tc, rfl, own2, hR2, hg2⟩
  have hb2 : Blk w2 b 34 (bk 19 0 (.slice none 0 0)) := H1.out.1.grown hg2 (fun e => hbg (by injection e))
  have f13 : w2.frozen? ⟨b, 13, none⟩ = false := hb2.frozen 13
  have c13 : w2.cell? ⟨b, 13, none⟩ = some (.slice none 0 0) := (hb2.cell 13).trans rfl
  have H2 := Lib.hid (And.intro (show Rd (w2.setCell ⟨b, 13, none⟩ (.slice TA m tc)) g A N c ((q + 1 + 2 * m : Nat) : Int) none from Blk.far hR2 (p := ⟨b, 13, none⟩) (fun e => hbg e.symm) _) (And.intro (show Mv w (w2.setCell ⟨b, 13, none⟩ (.slice TA m tc)) g b from by
    have hm := H1.out.2.trans (mv_grown (b := b) hg2)
    exact ⟨hm.os, hm.tape, hm.output, by simpa [World.setCell] using hm.size, fun k hk h1 h2 => (Below.heap_setCell _ _ _ _ h2).trans (hm.block k hk h1 h2)⟩) (And.intro (show Blk (w2.setCell ⟨b, 13, none⟩ (.slice TA m tc)) b 34 (bk 19 0 (.slice TA m tc)) from hb2.set_ 13 _) (own_low (ownsRow_setCell_other own2 (a := ⟨b, 13, none⟩) (own_blk_ne own2 hb2 (by decide)) (.slice TA m tc)) hs1))))
  clear hb2 hR2 hg2 hns own2 H1
  go_wp2
  go_ret
  exact ⟨rfl, H2.out.1, H2.out.2.1, TA, tc, H2.out.2.2⟩
set_option maxRecDepth 100000 in
set_option maxHeartbeats 4000000 in
theorem leads43_any {w : World} {p g b q N c B : Nat} {u at_ : Int} {A : Option Addr} {VB VS : Value} {file : List Int} (pre post : List Int) (hP : PBox w p g VB VS) (hR : Rd w g A N c q none) (hF : FileAt w B A N c file) (hb : Blk w b 34 (bk 43 0 (.slice none 0 0))) (hg : B ≤ g) (hB : B ≤ w.heap.size) (u0 : 0 ≤ u) (u1 : u ≤ 1) (hf : file = pre ++ (bytesL 4 1 ++ (bytesL 1 u ++ post))) (hq : pre.length = q) :
    Calls Tryz.prog 140 #[.pointer (some ⟨p, 0, none⟩), .pointer (some ⟨b, 0, none⟩), .int .i64 at_] w fun x w' => x = .returned (.bool true) ∧ Rd w' g A N c ((q + 5 : Nat) : Int) none ∧ Blk w' b 34 (bk 43 u (.slice none 0 0)) ∧ Mv w w' g b := by
  have c0 := hP.c0
  have hpl := Blk.lt hP
  have hbl := hb.lt
  have b0 : w.cell? ⟨b, 0, none⟩ = some (.int .i64 43) := (hb.cell 0).trans rfl
  have H0 := Lib.hid (And.intro hP (And.intro hR (And.intro hF (And.intro hb (And.intro hf hq)))))
  clear hP hR hF hb hf hq
  go_enter Tryz.func140, Tryz.ntmps140
  go_upto_region 2 with fail
  have hb1 : Below w.heap.size w (w.alloc (.cells #[.pointer (some ⟨g, 0, none⟩)] 201)) := (Below.refl _ _).alloc (Nat.le_refl _) _
  generalize (w.alloc (.cells #[.pointer (some ⟨g, 0, none⟩)] 201)) = w1 at *
  obtain ⟨hP, hR, hF, hb, hf, hq⟩ := H0.out
  have hb9 : Blk w1 b 34 (bk 43 0 (.slice none 0 0)) := hb.below hb1 hbl
  have hlv := level_any pre post (Blk.below hP hb1 hpl) (hR.below hb1) (hF.keep (hb1.mono hB)) hb9 hg (Nat.le_trans hB hb1.size) u0 u1 hf hq
  have d0 : w1.cell? ⟨b, 0, none⟩ = some (.int .i64 43) := (hb9.cell 0).trans rfl
  have H1 := Lib.hid (Mv.of_below (g := g) (mb := b) hb1)
  clear hP hR hF hb hf hq hb1 hb9 c0 b0
  go_wp2_with fail
  refine hlv.mono ?_
  rintro e w2 ⟨⟨q1, rfl⟩, hR2, hB2, hM2⟩
  have H2 := Lib.hid (And.intro hR2 (And.intro hB2 (H1.out.trans hM2)))
  clear hR2 hB2 hM2 hlv d0
  go_wp2
  go_ret
  exact ⟨rfl, H2.out⟩
end Tl
end Go.Proofs.YtnlaedfnifimkaaGreat
namespace Go.Proofs.YtnlaedfnifimkaaGreat
open Go.RowKit
section
variable {P : Program} {ops : Array Oper} {Q : Exit → Act → World → Prop} {md : Region.Mode} {S : World → Prop} {late : List Nat}
def clearB (late : List Nat) (l : Array Bool) : Bool := late.all fun j => !(l.getD j false)
theorem clear_more {l : Array Bool} {i : Nat} (hi : late.contains i = false) (h : clearB late l = true) : clearB late (l.setIfInBounds i true) = true := by
  unfold clearB at *
  rw [List.all_eq_true] at *
  intro j hj
  have hne : i ≠ j := fun e => by subst e; rw [List.contains_iff_mem.2 hj] at hi; cases hi
  rw [getD_set_ne false hne]
  exact h j hj
def Early (P : Program) (md : Region.Mode) (ops : Array Oper) (Q : Exit → Act → World → Prop) (S : World → Prop) (late : List Nat) : Nat → Array Bool → Act → World → Prop
  | 0, l, a, w => Region.ready md ops l = [] ∧ Q .normal a w
  | n + 1, l, a, w => (Region.ready md ops l = [] → Q .normal a w) ∧
      ∀ i ∈ Region.ready md ops l, wpOp P ops Q i (fun a' w' => (clearB late (l.setIfInBounds i true) = true → S w') ∧ Early P md ops Q S late n (l.setIfInBounds i true) a' w') a w
theorem Early.any : ∀ (n : Nat) (l : Array Bool) (a : Act) (w : World), Early P md ops Q S late n l a w → wpAny P md ops Q n l a w
  | 0, _, _, _, h => h
  | n + 1, _, _, _, h => ⟨h.1, fun i hi => wpOp_mono (fun a' w' k => Early.any n _ a' w' k.2) (h.2 i hi)⟩
def needs (md : Region.Mode) (ops : Array Oper) : Nat → Nat → Nat → Bool
  | 0, _, _ => false
  | f + 1, j, i => match ops[j]? with
    | some o => o.after.toList.any fun e => Region.binds md e && (e.on == i || needs md ops f e.on i)
    | none => false
def Closed (md : Region.Mode) (ops : Array Oper) (l : Array Bool) : Prop := ∀ (j : Nat) (o : Oper), ops[j]? = some o → l.getD j false = true → ∀ e ∈ o.after, Region.binds md e = true → l.getD e.on false = true
def closedB (md : Region.Mode) (ops : Array Oper) (l : Array Bool) : Bool := (List.range ops.size).all fun j => match ops[j]? with
  | some o => !(l.getD j false) || o.after.toList.all fun e => !(Region.binds md e) || l.getD e.on false
  | none => true
theorem closed_of {l : Array Bool} (h : closedB md ops l = true) : Closed md ops l := fun j o ho hl e he hb => by
  unfold closedB at h
  rw [List.all_eq_true] at h
  have hj := h j (List.mem_range.2 (Array.getElem?_eq_some_iff.1 ho).1)
  rw [ho] at hj
  simp only [hl, Bool.not_true, Bool.false_or, List.all_eq_true] at hj
  have := hj e (by simpa using he)
  rw [hb] at this
  simpa using this
theorem needs_up {l : Array Bool} (hc : Closed md ops l) : ∀ (f j i : Nat), needs md ops f j i = true → (∃ o, ops[j]? = some o ∧ ∀ e ∈ o.after, Region.binds md e = true → l.getD e.on false = true) → l.getD i false = true
  | 0, _, _, h, _ => by cases h
  | f + 1, j, i, h, ⟨o, ho, hall⟩ => by
    unfold needs at h
    rw [ho] at h
    obtain ⟨e, he, hb⟩ := List.any_eq_true.1 h
    simp only [Bool.and_eq_true, Bool.or_eq_true, beq_iff_eq] at hb
    have hon := hall e (by simpa using he) hb.1
    rcases hb.2 with h2 | h2
    · rw [← h2]; exact hon
    · cases f with
      | zero => cases h2
      | succ f =>
        have h3 := h2
        unfold needs at h3
        split at h3
        · rename_i o' ho'
          exact needs_up hc (f + 1) e.on i h2 ⟨o', ho', fun x hx hbx => hc e.on o' ho' hon x hx hbx⟩
        · cases h3
theorem closed_set {l : Array Bool} {j : Nat} (hc : Closed md ops l) (hj : j ∈ Region.ready md ops l) : Closed md ops (l.setIfInBounds j true) := fun k o ho hl e he hb => by
  obtain ⟨_, oj, hoj, hall⟩ := mem_ready.1 hj
  by_cases e2 : j = k
  · subst e2
    rw [hoj] at ho
    cases ho
    exact getD_set_true (hall e he hb)
  · rw [getD_set_ne false e2] at hl
    exact getD_set_true (hc k o ho hl e he hb)
def lateWaits (md : Region.Mode) (ops : Array Oper) (late : List Nat) (i : Nat) : Bool := late.all fun j => needs md ops ops.size j i
theorem Early.first {T : World → Prop} {i : Nat} {oi : Oper} {v : Value} (hi : ops[i]? = some oi) (hs : Region.noSelect ops = true) (hST : ∀ w, S w → T w) (hTS : (∀ w, T w) ∨ lateWaits md ops late i = true) (hil : late.contains i = false) (hQ : ∀ c a w, Q (.panic c) (a.put oi.dst v) w → Q (.panic c) a w) :
    ∀ (n : Nat) (l : Array Bool) (a : Act) (w : World),
      Closed md ops l → (∀ j oj, ops[j]? = some oj → j ≠ i → l.getD j true = false → (∀ e ∈ oj.after, Region.binds md e = true → e.on ≠ i) → oi.apart ops oj = true) →
      i ∈ Region.ready md ops l → YieldsIf P ops T oi v a → T w → (clearB late (l.setIfInBounds i true) = true → S w) → Early P md ops Q S late n (l.setIfInBounds i true) (a.put oi.dst v) w → Early P md ops Q S late (n + 1) l a w := by
  intro n
  induction n with
  | zero =>
    intro l a w _ _ hr hy hT hS H
    refine ⟨fun h0 => (by rw [h0] at hr; cases hr), fun j hj => ?_⟩
    by_cases e : j = i
    · subst e; exact hy.wpOp hi hT ⟨hS, H⟩
    · have h2 := ready_mono hj e
      rw [H.1] at h2
      cases h2
  | succ n ih =>
    intro l a w hcl hfree hr hy hT hS H
    refine ⟨fun h0 => (by rw [h0] at hr; cases hr), fun j hj => ?_⟩
    by_cases e : j = i
    · subst e; exact hy.wpOp hi hT ⟨hS, H⟩
    obtain ⟨hju, oj, hoj, hall⟩ := mem_ready.1 hj
    have hiu := (mem_ready.1 hr).1
    have hno : ∀ x ∈ oj.after, Region.binds md x = true → x.on ≠ i := fun x hx hb heq => by
      have h1 := hall x hx hb
      rw [heq] at h1
      rw [Array.getD_eq_getD_getElem?] at h1 hiu
      cases hl : l[i]? with
      | none => rw [hl] at h1; cases h1
      | some y => rw [hl] at h1 hiu; rw [show y = true from h1] at hiu; cases hiu
    have hjl : (∀ w, T w) ∨ clearB late (l.setIfInBounds j true) = true := by
      rcases hTS with hTS | hw
      · exact .inl hTS
      refine .inr ?_
      unfold clearB
      rw [List.all_eq_true]
      intro k hk
      simp only [Bool.not_eq_true']
      cases hc : (l.setIfInBounds j true).getD k false with
      | false => rfl
      | true =>
        unfold lateWaits at hw
        rw [List.all_eq_true] at hw
        have hcl2 := closed_set hcl hj
        have hkn := hw k hk
        have hne : (l.setIfInBounds j true).getD i true = false := by rw [getD_set_ne true e]; exact hiu
        have h1 : (l.setIfInBounds j true).getD i false = true := by
          have hkn2 := hkn
          cases hsz : ops.size with
          | zero => rw [hsz] at hkn2; cases hkn2
          | succ f =>
            rw [hsz] at hkn2
            unfold needs at hkn2
            split at hkn2
            · rename_i o ho
              exact needs_up hcl2 _ k i hkn ⟨o, ho, fun x hx hbx => hcl2 k o ho hc x hx hbx⟩
            · cases hkn2
        rw [Array.getD_eq_getD_getElem?] at h1 hne
        cases hl : (l.setIfInBounds j true)[i]? with
        | none => rw [hl] at h1; cases h1
        | some y => rw [hl] at h1 hne; rw [show y = true from h1] at hne; cases hne
    have hput := wpOp_putIf hoj (hfree j oj hoj e hju hno) (fun cs b => Region.noSelect_spec hs i oi cs b hi) (fun cs b => Region.noSelect_spec hs j oj cs b hoj) hQ hy (H.2 j (ready_mono hj e))
    refine wpOp_mono (fun a' w' h3 => ⟨fun hcc => h3.2.1 (by rw [Array.setIfInBounds_comm _ _ (Ne.symm e)]; exact clear_more hil hcc), ih (l.setIfInBounds j true) a' w' (closed_set hcl hj) (fun k ok hk hki hun hn => hfree k ok hk hki ?_ hn) (ready_mono hr (Ne.symm e)) h3.1 ?_ ?_ ?_⟩) hput
    · by_cases ejk : j = k
      · subst ejk; exact hju
      · rw [getD_set_ne true ejk] at hun; exact hun
    · rcases hjl with h | h
      · exact h w'
      · exact hST w' (h3.2.1 (by rw [Array.setIfInBounds_comm _ _ (Ne.symm e)]; exact clear_more hil h))
    · intro hcc
      exact h3.2.1 (by rw [Array.setIfInBounds_comm _ _ (Ne.symm e)]; exact hcc)
    · rw [Array.setIfInBounds_comm _ _ e]
      exact h3.2.2
theorem Early.take {i : Nat} {oi : Oper} {v : Value} {n : Nat} {l : Array Bool} {a : Act} {w : World} (hi : ops[i]? = some oi) (hs : Region.noSelect ops = true) (hw : lateWaits md ops late i = true) (hil : late.contains i = false) (hcl : closedB md ops l = true) (hf : Region.free md ops l i = true) (hr : (Region.ready md ops l).contains i = true)
    (hQ : ∀ c a w, Q (.panic c) (a.put oi.dst v) w → Q (.panic c) a w) (hy : YieldsIf P ops S oi v a) (hS : S w) (h : Early P md ops Q S late n (l.setIfInBounds i true) (a.put oi.dst v) w) : Early P md ops Q S late (n + 1) l a w :=
  Early.first (T := S) hi hs (fun _ h => h) (.inr hw) hil hQ n l a w (closed_of hcl) (Region.free_spec hi hf) (by simpa using hr) hy hS (fun _ => hS) h
theorem Early.takeW {i : Nat} {oi : Oper} {v : Value} {n : Nat} {l : Array Bool} {a : Act} {w : World} (hi : ops[i]? = some oi) (hs : Region.noSelect ops = true) (hil : late.contains i = false) (hcl : closedB md ops l = true) (hf : Region.free md ops l i = true) (hr : (Region.ready md ops l).contains i = true)
    (hQ : ∀ c a w, Q (.panic c) (a.put oi.dst v) w → Q (.panic c) a w) (hy : YieldsIf P ops (fun _ => True) oi v a) (hS : clearB late (l.setIfInBounds i true) = true → S w) (h : Early P md ops Q S late n (l.setIfInBounds i true) (a.put oi.dst v) w) : Early P md ops Q S late (n + 1) l a w :=
  Early.first (T := fun _ => True) hi hs (fun _ _ => trivial) (.inl fun _ => trivial) hil hQ n l a w (closed_of hcl) (Region.free_spec hi hf) (by simpa using hr) hy trivial hS h
def Early.rest (P : Program) (md : Region.Mode) (ops : Array Oper) (Q : Exit → Act → World → Prop) (S : World → Prop) (late : List Nat) (n : Nat) (l : Array Bool) (a : Act) (w : World) (rs : List Nat) : Prop :=
  ∀ i ∈ rs, wpOp P ops Q i (fun a' w' => (clearB late (l.setIfInBounds i true) = true → S w') ∧ Early P md ops Q S late n (l.setIfInBounds i true) a' w') a w
theorem Early.rest.nil {n : Nat} {l : Array Bool} {a : Act} {w : World} : Early.rest P md ops Q S late n l a w [] := fun _ h => by cases h
theorem Early.rest.cons {n : Nat} {l : Array Bool} {a : Act} {w : World} {i : Nat} {o : Oper} {rs : List Nat} (ho : ops[i]? = some o)
    (h : ∀ K' : Act → World → Prop, Shut (∀ a w, (clearB late (l.setIfInBounds i true) = true → S w) → Early P md ops Q S late n (l.setIfInBounds i true) a w → K' a w) → if Region.wanted o (yielded ops a.tmps) = true then Oper.wp P o a w K' Q else K' (a.put o.dst undef) w)
    (hs : Early.rest P md ops Q S late n l a w rs) : Early.rest P md ops Q S late n l a w (i :: rs) := fun j hj => by
  rcases List.mem_cons.1 hj with rfl | hj
  · exact wpOp_step ho (fun K' hK => h K' (fun a w hS hW => hK a w ⟨hS, hW⟩))
  · exact hs j hj
theorem Early.ready {rs : List Nat} {n : Nat} {l : Array Bool} {a : Act} {w : World} (hr : Region.ready md ops l = rs) (hne : rs ≠ []) (h : Early.rest P md ops Q S late n l a w rs) : Early P md ops Q S late (n + 1) l a w :=
  ⟨fun h0 => absurd (hr ▸ h0) hne, fun i hi => h i (hr ▸ hi)⟩
theorem Early.done {l : Array Bool} {a : Act} {w : World} (hr : Region.ready md ops l = []) (h : Q .normal a w) : ∀ n, Early P md ops Q S late n l a w
  | 0 => ⟨hr, h⟩
  | _ + 1 => ⟨fun _ => h, by rw [hr]; simp⟩
theorem Early.begin {id : Nat} {a : Act} {w : World} (hm : P.follows .mixedOrders = true) (h : Early P .any ops Q S late ops.size (Array.replicate ops.size false) a w.drew) : (Code.region id ops true).wp P Q a w :=
  wp_region_any hm (Early.any _ _ _ _ h)
end
end Go.Proofs.YtnlaedfnifimkaaGreat
