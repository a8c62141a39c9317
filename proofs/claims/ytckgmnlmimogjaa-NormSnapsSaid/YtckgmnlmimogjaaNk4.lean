/- Layer 26 for 27: contract of a recording's tape. -/
import Derived.Test.YtckgmnlmimogjaaNk3b
import Derived.Deep.CutRange
import Derived.Deep.AppendLies
import Derived.Deep.RegionHeld3
namespace Go.Proofs.Ytckgmnlmimogjaa
open Go.RowKit

def pulD (l : List Int) : BD := ⟨19, 0, 0, 0, 0, 0, 0, 0, 0, 0, 0, 0, [], l, [], []⟩
def lvlD (u : Int) : BD := ⟨43, 0, 0, 0, 0, 0, 0, 0, 0, u, 0, 0, [], [], [], []⟩
def chD (a : Int) (l : List Int) : BD := if shN (a :: l) = 0 then longD a.toNat else pulD ((a :: l).take (shN (a :: l)))
def chK (a : Int) (l : List Int) : Nat := if shN (a :: l) = 0 then 1 else shN (a :: l)
def chF : Nat → List Int → List BD
  | 0, _ => []
  | _ + 1, [] => []
  | f + 1, a :: l => chD a l :: chF f ((a :: l).drop (chK a l))
theorem chF_nil (f : Nat) : chF f [] = [] := by cases f <;> rfl
def exG (gs : List Int) : List Int := if gs = [] then [] else gs ++ [3500]
def useI (high : Bool) : Int := if high then 0 else 1
def exL (high : Bool) (gs : List Int) : List BD := if (0 : Int) ∈ gs then [] else lvlD (useI high) :: chF (exG gs).length (exG gs)
def exV (gs : List Int) : Int × Int × Int := if (0 : Int) ∈ gs then (0, 0, 5) else (1, 20, 0)
theorem exG_len (gs : List Int) : (exG gs).length ≤ gs.length + 1 := by unfold exG; split <;> simp
theorem exG_in {gs : List Int} (hz : isU32 gs) : ∀ z ∈ exG gs, 0 ≤ z ∧ z ≤ 4294967295 := by
  unfold exG
  split
  · intro z hm; simp at hm
  · intro z hm
    rcases List.mem_append.1 hm with hm | hm
    · exact hz z hm
    · rcases List.mem_singleton.1 hm with rfl; omega
theorem chK_in (a : Int) (l : List Int) : 1 ≤ chK a l ∧ chK a l ≤ (a :: l).length := by
  have := (shN_le (a :: l)).1
  unfold chK
  split <;> simp at * <;> omega
theorem tape3Info : (Try.prog.info? 45).map (·.size) = some 3 := by kernel_rfl
theorem intInfo4 : (Try.prog.info? 3).map (fun i => (i.zero, i.size, i.bytes)) = some (some (.int .i64 0), 1, 8) := by kernel_rfl
theorem blkInfo4 : (Try.prog.info? 33).map (fun i => (i.zero, i.size, i.bytes)) = some (some (.agg #[.int .i64 0, .int .i64 0, .int .i64 0, .int .i64 0, .int .i64 0, .int .i64 0, .int .i64 0, .int .i64 0, .int .i64 0, .int .i64 0, .int .i64 0, .int .i64 0, .slice none 0 0, .slice none 0 0, .slice none 0 0, .slice none 0 0, .slice none 0 0, .slice none 0 0]), 18, 240) := by kernel_rfl
set_option maxRecDepth 100000 in
theorem make_i64 (w : World) (n : Nat) (hn : n ≤ 2000000) : (Instr.makeSlice 28 (.int .i64 0) (.int .i64 ((n : Int) + 1))).run Try.prog w = .ok (.slice (some ⟨w.heap.size, 0, none⟩) 0 (n + 1)) (w.alloc (.cells (Array.replicate (n + 1) (Value.int .i64 0)) 3)) := by
  obtain ⟨i0, hi, hz0, hz1, hz2⟩ := info_parts intInfo4
  have h := run_makeSlice (P := Try.prog) w 28 3 i0 (.int .i64 0) Try.underlying28 hi hz0 .i64 .i64 0 ((n : Int) + 1) (by omega) (by omega) (by rw [hz1]; omega) (by rw [hz2]; omega) (by omega)
  rw [hz1, show ((n : Int) + 1).toNat = n + 1 by omega, Nat.mul_one] at h
  rw [h]
  congr 3
  apply Array.ext'
  rw [show (Value.int .i64 0).cells = #[Value.int .i64 0] from rfl, toList_madeCells_one]
  simp
theorem results_cell_tmp9 {P : Program} {fn : Func} {p u : Tmp} {ty : TypeId} (h : fn.results = #[.cell p ty, .tmp u]) (tmps : Array Value) (w : World) (g : Nat) (t : TypeId) (cs : Array Value) (fr : Nat × Nat) (d : TypeDesc)
    (hp : tmps.getD p undef = .pointer (some ⟨g, 0, none⟩)) (hg : w.heap[g]? = some (.cells cs t fr))
    (hu : P.underlying ty = some d) (hd : (match d with | .struct _ | .array _ _ => true | _ => false) = true) (hi : (P.info? ty).map (·.size) = some cs.size) :
    (results fn tmps).run P w = .ok (.tuple #[.agg cs, tmps.getD u undef]) w := by
  rw [results_cell_tmp h, hp]
  simp [asAddr, Result.andThen, run_loadVar_row w g t ty cs fr d hg hu hd hi]
theorem mem_of_getD {gs : List Int} {j : Nat} {z : Int} (hj : j < gs.length) (h : gs.getD j 0 = z) : z ∈ gs := by
  rw [List.getD_eq_getElem?_getD, List.getElem?_eq_getElem hj] at h
  exact h ▸ List.getElem_mem hj
theorem nz_of_all {gs : List Int} (h : ∀ k, k < gs.length → gs.getD k 0 ≠ 0) : (0 : Int) ∉ gs := by
  intro hm
  obtain ⟨k, hk, e⟩ := List.getElem_of_mem hm
  exact h k hk (by rw [List.getD_eq_getElem?_getD, List.getElem?_eq_getElem hk]; simpa using e)
theorem ex_new (w : World) : Blk ((w.alloc (.cells #[.int .i64 43, .int .i64 0, .int .i64 0, .int .i64 0, .int .i64 0, .int .i64 0, .int .i64 0, .int .i64 0, .int .i64 0, .int .i64 1, .int .i64 0, .int .i64 0, .slice none 0 0, .slice none 0 0, .slice none 0 0, .slice none 0 0, .slice none 0 0, .slice none 0 0] 33)).alloc (.cells #[.int .i64 0, .int .i64 0, .slice none 0 0] 45)) (w.heap.size + 1) 45 #[.int .i64 0, .int .i64 0, .slice none 0 0] := by
  have := Blk.new (w.alloc (.cells #[.int .i64 43, .int .i64 0, .int .i64 0, .int .i64 0, .int .i64 0, .int .i64 0, .int .i64 0, .int .i64 0, .int .i64 0, .int .i64 1, .int .i64 0, .int .i64 0, .slice none 0 0, .slice none 0 0, .slice none 0 0, .slice none 0 0, .slice none 0 0, .slice none 0 0] 33)) 45 #[.int .i64 0, .int .i64 0, .slice none 0 0]
  simpa using this
/-- a tape that is being made: its box, its blocks -/
def PhiT (w : World) (base tb : Nat) (V : Value) : Nat → Prop := fun b => base ≤ b ∧ b < w.heap.size ∧ b ≠ tb ∧ V.ownBlock ≠ some b
def TB (w : World) (base tb : Nat) (V : Value) (dl : List BD) : Prop :=
  Blk w tb 45 #[.int .i64 1, .int .i64 20, V] ∧ ∃ xs, w.ownsRow base 33 18 V dl.length xs ∧ BlksAt w (PhiT w base tb V) dl xs

def XS (w : World) (base tb : Nat) (V : Value) (dl : List BD) (Al : Option Addr) (rs : List Int) : Prop := TB w base tb V dl ∧ RdP w (PhiT w base tb V) 1 Al rs.length (rs.map (Value.int .i64))
theorem XS.below {w w' : World} {base tb : Nat} {V : Value} {dl : List BD} {Al : Option Addr} {rs : List Int} (h : XS w base tb V dl Al rs) (hb : Below w.heap.size w w') : XS w' base tb V dl Al rs := by
  obtain ⟨⟨hB, xs, ho, hk⟩, hl⟩ := h
  have hs := hb.size
  have h1 : ∀ b, PhiT w base tb V b → w'.heap[b]? = w.heap[b]? := fun b hp => hb.block b hp.2.1
  have h2 : ∀ b, PhiT w base tb V b → PhiT w' base tb V b := fun b hp => ⟨hp.1, by have := hp.2.1; omega, hp.2.2⟩
  refine ⟨⟨hB.below hb hB.lt, xs, ?_, hk.keep h1 h2⟩, hl.keep h1 h2⟩
  refine ⟨ho.1, ?_⟩
  rcases ho.2 with hn | ⟨g, cap, cur, rfl, hg, hh, hr⟩
  · exact .inl hn
  · exact .inr ⟨g, cap, cur, rfl, hg, (hb.block g (Blk.lt hh)).trans hh, hr⟩
theorem lvl_at (w : World) (φ : Nat → Prop) (u : Int) : BlkAt w φ (lvlD u) [.int .i64 43, .int .i64 0, .int .i64 0, .int .i64 0, .int .i64 0, .int .i64 0, .int .i64 0, .int .i64 0, .int .i64 0, .int .i64 u, .int .i64 0, .int .i64 0, .slice none 0 0, .slice none 0 0, .slice none 0 0, .slice none 0 0, .slice none 0 0, .slice none 0 0] :=
  ⟨none, 0, 0, none, 0, 0, none, 0, 0, none, 0, 0, [], rfl, RdP.none_, RdP.none_, RdP.none_, fun q hq => absurd hq (by simp), rfl, RdP.none_, by omega, by omega, by omega⟩
theorem xs_start {wc wx : World} {s0 r cl : Nat} {u : Int} {Al : Option Addr} {rs : List Int} (hT : Blk wc (s0 + 1) 45 #[.int .i64 1, .int .i64 20, .slice (some ⟨s0, 0, none⟩) 1 1]) (hR : Blk wc s0 33 #[.int .i64 43, .int .i64 0, .int .i64 0, .int .i64 0, .int .i64 0, .int .i64 0, .int .i64 0, .int .i64 0, .int .i64 0, .int .i64 u, .int .i64 0, .int .i64 0, .slice none 0 0, .slice none 0 0, .slice none 0 0, .slice none 0 0, .slice none 0 0, .slice none 0 0])
    (ho : wx.ownsRow wc.heap.size 3 1 (.slice Al r cl) r (rs.map (Value.int .i64))) (hb : Below wc.heap.size wc wx) (hr : r = rs.length) :
    XS wx s0 (s0 + 1) (.slice (some ⟨s0, 0, none⟩) 1 1) [lvlD u] Al rs := by
  subst hr
  have hl := hT.lt
  refine ⟨⟨hT.below hb hl, [.int .i64 43, .int .i64 0, .int .i64 0, .int .i64 0, .int .i64 0, .int .i64 0, .int .i64 0, .int .i64 0, .int .i64 0, .int .i64 u, .int .i64 0, .int .i64 0, .slice none 0 0, .slice none 0 0, .slice none 0 0, .slice none 0 0, .slice none 0 0, .slice none 0 0], ⟨rfl, .inr ⟨s0, 1, #[.int .i64 43, .int .i64 0, .int .i64 0, .int .i64 0, .int .i64 0, .int .i64 0, .int .i64 0, .int .i64 0, .int .i64 0, .int .i64 u, .int .i64 0, .int .i64 0, .slice none 0 0, .slice none 0 0, .slice none 0 0, .slice none 0 0, .slice none 0 0, .slice none 0 0], rfl, Nat.le_refl _, hR.below hb (by omega), Nat.le_refl _, by decide, rfl, rfl⟩⟩, BlksAt.single (lvl_at _ _ u)⟩, ?_⟩
  exact (RdP.of_own ho).keep (fun b _ => rfl) (fun b hp => ⟨by omega, hp.2, by omega, by simp [Value.ownBlock]; omega⟩)
theorem RdP.take_ {w : World} {φ : Nat → Prop} {n k : Nat} {A : Option Addr} {zs : List Int} (h : RdP w φ 1 A n (zs.map (Value.int .i64))) (hk : k ≤ n) : RdP w φ 1 A k ((zs.take k).map (Value.int .i64)) := by
  have hl := h.1
  rw [List.length_map] at hl
  refine ⟨by rw [List.length_map, List.length_take]; omega, fun h0 => ?_⟩
  obtain ⟨ad, e, hp, hc⟩ := h.2 (by omega)
  refine ⟨ad, e, hp, fun j u hu => hc j u ?_⟩
  rw [List.getElem?_map, List.getElem?_take] at hu
  rw [List.getElem?_map]
  split at hu
  · exact hu
  · simp at hu
theorem RdP.drop_ {w : World} {φ : Nat → Prop} {n k : Nat} {ad : Addr} {zs : List Int} (h : RdP w φ 1 (some ad) n (zs.map (Value.int .i64))) (hk : k ≤ n) : RdP w φ 1 (some (ad.add k)) (n - k) ((zs.drop k).map (Value.int .i64)) := by
  have hl := h.1
  rw [List.length_map] at hl
  refine ⟨by rw [List.length_map, List.length_drop]; omega, fun h0 => ?_⟩
  obtain ⟨ad', e, hp, hc⟩ := h.2 (by omega)
  injection e with e
  subst e
  refine ⟨_, rfl, by rw [block_of_add]; exact hp, fun j u hu => ?_⟩
  rw [add_of_add]
  refine hc _ _ ?_
  rw [List.getElem?_map, List.getElem?_drop] at hu
  rw [List.getElem?_map]
  exact hu
theorem RdP.cut_ {w : World} {φ : Nat → Prop} {n k cl : Nat} {ad : Addr} {zs : List Int} (h : RdP w φ 1 (some ad) n (zs.map (Value.int .i64))) (hk : k ≤ n) (hc : n ≤ cl) : RdP w φ 1 (if cl = k then some ad else some (ad.add k)) (zs.drop k).length ((zs.drop k).map (Value.int .i64)) := by
  have hl := h.1
  rw [List.length_map] at hl
  have hd := h.drop_ hk
  have e : n - k = (zs.drop k).length := by rw [List.length_drop]; omega
  rw [e] at hd
  split
  · have h0 : (zs.drop k).length = 0 := by rw [List.length_drop]; omega
    have hz : zs.drop k = [] := List.eq_nil_of_length_eq_zero h0
    rw [hz]
    exact RdP.none_
  · exact hd
theorem xs_step {w w2 : World} {base tb : Nat} {V v' : Value} {dl : List BD} {Al : Option Addr} {rs : List Int} {d : BD} {cs xs : List Value} (hB : Blk w tb 45 #[.int .i64 1, .int .i64 20, V]) (hbk : BlksAt w (PhiT w base tb V) dl xs) (hl : RdP w (PhiT w base tb V) 1 Al rs.length (rs.map (Value.int .i64))) (hc : BlkAt w (PhiT w base tb V) d cs)
    (ho : w2.ownsRow base 33 18 v' (dl.length + 1) (xs ++ cs)) (hg : (w.alloc (.cells cs.toArray 33)).grownBy w2 V.ownBlock) (hv : v'.ownBlock = V.ownBlock ∨ v'.ownBlock = some (w.alloc (.cells cs.toArray 33)).heap.size) (hne : V.ownBlock ≠ some tb) :
    XS (w2.setCell ⟨tb, 2, none⟩ v') base tb v' (dl ++ [d]) Al rs := by
  have hs1 : (w.alloc (.cells cs.toArray 33)).heap.size = w.heap.size + 1 := by simp
  have hs2 := hg.size
  have htb := hB.lt
  have hs3 : (w2.setCell ⟨tb, 2, none⟩ v').heap.size = w2.heap.size := by simp [World.setCell]
  have hB2 : Blk w2 tb 45 #[.int .i64 1, .int .i64 20, V] := (hB.alloc _).grown hg (fun e => hne e.symm)
  have h1 : ∀ b, PhiT w base tb V b → (w2.setCell ⟨tb, 2, none⟩ v').heap[b]? = w.heap[b]? := fun b hp =>
    (Below.heap_setCell _ _ _ _ (by have := hp.2.2.1; show b ≠ tb; exact this)).trans ((hg.block b (by have := hp.2.1; omega) (fun e => hp.2.2.2 e.symm)).trans (Below.heap_alloc _ _ _ hp.2.1))
  have h2 : ∀ b, PhiT w base tb V b → PhiT (w2.setCell ⟨tb, 2, none⟩ v') base tb v' b := fun b hp => ⟨hp.1, by have := hp.2.1; omega, hp.2.2.1, by
    rcases hv with e | e
    · rw [e]; exact hp.2.2.2
    · rw [e, hs1]; intro e2; injection e2 with e2; have := hp.2.1; omega⟩
  refine ⟨⟨hB2.set_ 2 v', xs ++ cs, ?_, (hbk.keep h1 h2).app (BlksAt.single (hc.keep h1 h2))⟩, hl.keep h1 h2⟩
  have := ownsRow_setCell_other ho (a := ⟨tb, 2, none⟩) (own_blk_ne ho hB2 (by decide)) v'
  rw [List.length_append]
  exact this
def LoopE (w0 : World) (u : Int) (gs : List Int) (l : Value) (wr : World) : Prop := ∃ (Al : Option Addr) (cl f : Nat) (rs : List Int) (dl : List BD) (V : Value), l = .slice Al rs.length cl ∧ rs.length ≤ cl ∧ XS wr w0.heap.size (w0.heap.size + 1) V dl Al rs ∧ dl ++ chF f rs = lvlD u :: chF (exG gs).length (exG gs) ∧ rs.length ≤ f ∧ dl.length + rs.length ≤ 4003 ∧ (∀ z ∈ rs, 0 ≤ z ∧ z ≤ 4294967295) ∧ Below w0.heap.size w0 wr
def lenV : Value → Nat
  | .slice _ n _ => n
  | _ => 0

set_option maxRecDepth 100000 in
set_option maxHeartbeats 8000000 in
theorem exact_any (w : World) (high : Bool) (A : Option Addr) (n c : Nat) (gs : List Int) (hr : Reads w w.heap.size 1 A n (gs.map (Value.int .u32))) (hz : isU32 gs) (hn : n ≤ 4000) :
    Calls Try.prog 18 #[.bool high, .slice A n c] w fun e w' => ∃ A' m c' xs, e = .returned (.tuple #[.agg #[.int .i64 (exV gs).1, .int .i64 (exV gs).2.1, .slice A' m c'], .int .i64 (exV gs).2.2]) ∧ RdP w' (fun b => w.heap.size ≤ b ∧ b < w'.heap.size) 18 A' m xs ∧ BlksAt w' (fun b => w.heap.size ≤ b ∧ b < w'.heap.size) (exL high gs) xs ∧ Below w.heap.size w w' := by
  obtain ⟨i0, hi, hz0, hz1, hz2⟩ := info_parts intInfo4
  obtain ⟨i1, hj, hy0, hy1, hy2⟩ := info_parts blkInfo4
  have hl := reads_len hr
  have HG := Lib.hid (And.intro hr (And.intro hz hl))
  clear hr hz hl
  go_enter Try.func18, Try.ntmps18
  go_upto_region 1 with fail
  have hs0 : (w.alloc (.cells #[.int .i64 0, .int .i64 0, .slice none 0 0] 45)).heap.size = w.heap.size + 1 := by simp
  have hR0 : Blk (w.alloc (.cells #[.int .i64 0, .int .i64 0, .slice none 0 0] 45)) w.heap.size 45 #[.int .i64 0, .int .i64 0, .slice none 0 0] := Blk.new w _ _
  have hb0 : Below w.heap.size w (w.alloc (.cells #[.int .i64 0, .int .i64 0, .slice none 0 0] 45)) := (Below.refl _ _).alloc (Nat.le_refl _) _
  generalize (w.alloc (.cells #[.int .i64 0, .int .i64 0, .slice none 0 0] 45)) = w0 at *
  have HM := Lib.hid (And.intro hs0 (And.intro hR0 hb0))
  clear hs0 hR0 hb0
  go_upto_region 2 with (first
    | (refine wpList_store_box rfl 45 _ _ rfl (w0.heap.size + 1) #[.int .i64 1, .int .i64 20, .slice (some ⟨w0.heap.size, 0, none⟩) 1 1] rfl rfl 45 #[.int .i64 0, .int .i64 0, .slice none 0 0] (ex_new w0) tape3Info rfl (by simp [Value.oneCell']) ?_)
    | fail)
  intro w6 hB6 hg6
  have hR6 : Blk w6 w0.heap.size 33 #[.int .i64 43, .int .i64 0, .int .i64 0, .int .i64 0, .int .i64 0, .int .i64 0, .int .i64 0, .int .i64 0, .int .i64 0, .int .i64 1, .int .i64 0, .int .i64 0, .slice none 0 0, .slice none 0 0, .slice none 0 0, .slice none 0 0, .slice none 0 0, .slice none 0 0] := (Blk.alloc (Blk.new w0 _ _) _).grown hg6 (fun e => by injection e with e; omega)
  have hb6 : Below w0.heap.size w0 w6 := (((Below.refl _ _).alloc (Nat.le_refl _) _).alloc (by simp) _).grown hg6 (by simp; omega) (fun b hb => by injection hb with hb; omega)
  have H6 := Lib.hid (And.intro hB6 (And.intro hR6 hb6))
  clear hB6 hR6 hb6 hg6
  go_upto_region 2 with fail
  obtain ⟨u, hu⟩ : ∃ u : Int, u = useI high := ⟨_, rfl⟩
  have HU := Lib.hid hu
  clear hu
  go_upto_if 15 with fail
  go_cut [] from 16 to 19 (fun wx => Blk wx (w0.heap.size + 1) 45 #[.int .i64 1, .int .i64 20, .slice (some ⟨w0.heap.size, 0, none⟩) 1 1] ∧ Blk wx w0.heap.size 33 #[.int .i64 43, .int .i64 0, .int .i64 0, .int .i64 0, .int .i64 0, .int .i64 0, .int .i64 0, .int .i64 0, .int .i64 0, .int .i64 u, .int .i64 0, .int .i64 0, .slice none 0 0, .slice none 0 0, .slice none 0 0, .slice none 0 0, .slice none 0 0, .slice none 0 0] ∧ Below w0.heap.size w0 wx)
  case first =>
    cases high with
    | true =>
      have c2 : w6.cell? ⟨w0.heap.size + 1, 2, none⟩ = some (.slice (some ⟨w0.heap.size, 0, none⟩) 1 1) := (H6.out.1.cell 2).trans rfl
      have f9 : w6.frozen? ⟨w0.heap.size, 9, none⟩ = false := H6.out.2.1.frozen 9
      have c9 : w6.cell? ⟨w0.heap.size, 9, none⟩ = some (.int .i64 1) := (H6.out.2.1.cell 9).trans rfl
      go_wp2_with fail
      go_meet
      have hu0 : u = 0 := HU.out
      subst hu0
      exact ⟨H6.out.1.far (p := ⟨w0.heap.size, 9, none⟩) (by show w0.heap.size + 1 ≠ w0.heap.size; omega) _, H6.out.2.1.set_ 9 _, H6.out.2.2.setCell (Nat.le_refl _) _⟩
    | false =>
      go_wp2_with fail
      go_meet
      have hu0 : u = 1 := HU.out
      subst hu0
      exact H6.out
  case rest =>
  rename World => wd
  obtain ⟨hT, hR, hb⟩ := hcut
  have HT := Lib.hid (And.intro hT (And.intro hR hb))
  have hmk := make_i64 wd n (by omega)
  have hwn : IntKind.i64.wrap ((n : Int) + 1) = (n : Int) + 1 := by rw [IntKind.wrap_i64]; omega
  have hV : (wd.alloc (.cells (Array.replicate (n + 1) (Value.int .i64 0)) 3)).ownsRow wd.heap.size 3 1 (.slice (some ⟨wd.heap.size, 0, none⟩) 0 (n + 1)) 0 [] := World.ownsRow_made wd _ (n + 1) (Nat.le_refl _) (by unfold maxLen; omega) (by simp)
  have hVb : Below wd.heap.size wd (wd.alloc (.cells (Array.replicate (n + 1) (Value.int .i64 0)) 3)) := (Below.refl _ _).alloc (Nat.le_refl _) _
  have HV := Lib.hid (And.intro hV hVb)
  clear hT hR hb hV hVb
  go_upto_region 5 with fail
  generalize (wd.alloc (.cells (Array.replicate (n + 1) (Value.int .i64 0)) 3)) = w7 at *
  clear hmk hwn
  go_wp2_with fail
  go_loopw [7, 26] (fun v i wr => ∃ j : Nat, j ≤ n ∧ i = .int .i64 j ∧ wr.ownsRow wd.heap.size 3 1 v j ((gs.take j).map (Value.int .i64)) ∧ (∀ k, k < j → gs.getD k 0 ≠ 0) ∧ Below wd.heap.size wd wr) (fun _ i _ => n - (intOf i).toNat)
  case atStart => exact ⟨0, by omega, rfl, by simpa using HV.out.1, fun k hk => absurd hk (by omega), HV.out.2⟩
  case round =>
    obtain ⟨j, hjn, rfl, hown, hne, hbl⟩ := hrel
    have hj0 : (0 : Int) ≤ (j : Int) := Int.natCast_nonneg _
    have hsz := hbl.size
    by_cases hlt : j < n
    · have hwj : IntKind.i64.wrap ((j : Int) + 1) = (j : Int) + 1 := by rw [IntKind.wrap_i64]; omega
      have hjI : (j : Int) < (n : Int) := by omega
      have hbw : Below w.heap.size w wr := (HM.out.2.2.trans (HT.out.2.2.mono (by rw [HM.out.1]; omega))).trans (hbl.mono (by have := HT.out.2.2.size; have := HM.out.1; omega))
      obtain ⟨ad, rfl, _, hc⟩ := i32_at (HG.out.1.below hbw) hlt
      obtain ⟨z0, z1⟩ := isU32_at HG.out.2.1 (k := j) (by rw [HG.out.2.2]; exact hlt)
      have hsn := take_snocI gs j (by rw [HG.out.2.2]; exact hlt)
      have HSN := Lib.hid hsn
      clear hsn
      have HNE := Lib.hid hne
      clear hne
      by_cases hg0 : gs.getD j 0 = 0
      · rw [hg0] at hc
        have HMEM := Lib.hid (mem_of_getD (by rw [HG.out.2.2]; exact hlt) hg0)
        have hRx : Blk wr w.heap.size 45 #[.int .i64 0, .int .i64 0, .slice none 0 0] := (HM.out.2.1.below HT.out.2.2 (by rw [HM.out.1]; omega)).below hbl (by have := HT.out.2.2.size; have := HM.out.1; omega)
        have HBW := Lib.hid hbw
        clear hbw hbl hown hg0 z0 z1 HNE HSN
        go_wp2_with (first
          | (refine wpList_store_box rfl 45 _ _ rfl (w.heap.size) #[.int .i64 0, .int .i64 0, .slice none 0 0] rfl rfl 45 #[.int .i64 0, .int .i64 0, .slice none 0 0] hRx tape3Info rfl (by simp [Value.oneCell']) ?_)
          | fail)
        intro w9 hB9 hg9
        have HZ := Lib.hid (HBW.out.grown hg9 HBW.out.size (fun b hb => by injection hb with hb; omega))
        clear hRx hg9
        go_wp2_with fail
        refine bodyPost_ret (results_cell_tmp9 rfl _ _ w.heap.size 45 _ (0, 0) _ rfl hB9 Try.underlying45 rfl tape3Info) rfl ?_
        have hm := HMEM.out
        rw [show exV gs = (0, 0, 5) from if_pos hm, show exL high gs = [] from if_pos hm]
        exact ⟨none, 0, 0, [], rfl, RdP.none_, rfl, HZ.out⟩
      · have HG0 := Lib.hid hg0
        generalize hzd : gs.getD j 0 = z at *
        have HZD := Lib.hid hzd
        clear hzd
        have hwz : IntKind.i64.wrap z = z := by rw [IntKind.wrap_i64]; omega
        have hz9 : (z == 0) = false := by simpa using hg0
        have HC := Lib.hid (And.intro (lit_cells wr [.int .i64 z] 3) (And.intro (show ∀ u ∈ [Value.int .i64 z], u.oneCell' = true by intro u hu; simp at hu; rcases hu with rfl; rfl) (And.intro (show j + 1 ≤ maxLen by unfold maxLen; omega) (And.intro (show (j + 1) * 8 ≤ 140737488355328 by omega) (show wd.heap.size ≤ (wr.alloc (.cells #[.int .i64 z] 3)).heap.size by simp; omega)))))
        have HX := Lib.hid (And.intro hown hbl)
        have hown9 := hown.alloc (.cells #[.int .i64 z] 3)
        clear hbw hbl hown
        go_wp2_with (first
          | (at_builtin; refine wpList_append_own _ rfl _ _ 28 rfl wd.heap.size 3 i0 (.int .i64 0) 1 8 Try.underlying28 hi hz0 hz1 hz2 rfl (by decide) _ _ _ rfl hown9 ⟨wr.heap.size, 0, none⟩ 1 1 [.int .i64 z] rfl rfl HC.out.1 HC.out.2.1 HC.out.2.2.1 HC.out.2.2.2.1 HC.out.2.2.2.2 ?_)
          | go_in)
        intro v' w1 hown' hgrow _
        obtain ⟨hown, hbl⟩ := HX.out
        have hb1 : Below wd.heap.size wd w1 := (hbl.alloc hsz (.cells #[.int .i64 z] 3)).grown hgrow (by simp; omega) (fun i hi => (hown.lt i hi).1)
        have hsn := HSN.out
        have HR := Lib.hid (show w1.ownsRow wd.heap.size 3 1 v' (j + 1) ((gs.take (j + 1)).map (Value.int .i64)) by rw [hsn, List.map_append]; simpa using hown')
        have HR2 := Lib.hid hb1
        clear hown hbl hown' hgrow hb1 hsn hown9
        go_wp2
        go_roundw
        case rel => exact ⟨j + 1, by omega, by go_num, HR.out, fun k hk => by
            rcases Nat.lt_or_ge k j with h | h
            · exact HNE.out k h
            · obtain rfl : k = j := by omega
              rw [HZD.out]; exact HG0.out, HR2.out⟩
        case measure => simp [intOf]; omega
    · obtain rfl : j = n := by omega
      rw [show gs.take j = gs by rw [← HG.out.2.2, List.take_length]] at hown
      have hnz := nz_of_all (gs := gs) (fun k hk => hne k (by rw [← HG.out.2.2]; exact hk))
      have HNZ := Lib.hid hnz
      have HX := Lib.hid (And.intro hown hbl)
      clear hne hnz
      obtain ⟨A1, c1, rfl⟩ := own_slice hown
      clear hown hbl
      go_upto_if 41 with fail
      go_cut [7, 41] from 42 to 44 (fun v _ wx => ∃ (r : Nat), r = (exG gs).length ∧ wx.ownsRow wd.heap.size 3 1 v r ((exG gs).map (Value.int .i64)) ∧ Below wd.heap.size wd wx)
      case first =>
        obtain ⟨hown, hbl⟩ := HX.out
        by_cases hjp : 0 < j
        · have hjI : (0 : Int) < (j : Int) := by omega
          have hgx : exG gs = gs ++ [3500] := by unfold exG; rw [if_neg (by intro e; have := HG.out.2.2; rw [e] at this; simp at this; omega)]
          have HGX := Lib.hid hgx
          have HC := Lib.hid (And.intro (lit_cells wr [.int .i64 3500] 3) (And.intro (show ∀ u ∈ [Value.int .i64 3500], u.oneCell' = true by intro u hu; simp at hu; rcases hu with rfl; rfl) (And.intro (show j + 1 ≤ maxLen by unfold maxLen; omega) (And.intro (show (j + 1) * 8 ≤ 140737488355328 by omega) (show wd.heap.size ≤ (wr.alloc (.cells #[.int .i64 3500] 3)).heap.size by simp; omega)))))
          have hown9 := hown.alloc (.cells #[.int .i64 3500] 3)
          clear hown hbl hgx
          go_wp2_with (first
            | (at_builtin; refine wpList_append_own _ rfl _ _ 28 rfl wd.heap.size 3 i0 (.int .i64 0) 1 8 Try.underlying28 hi hz0 hz1 hz2 rfl (by decide) _ _ _ rfl hown9 ⟨wr.heap.size, 0, none⟩ 1 1 [.int .i64 3500] rfl rfl HC.out.1 HC.out.2.1 HC.out.2.2.1 HC.out.2.2.2.1 HC.out.2.2.2.2 ?_)
            | go_in)
          intro v' w1 hown' hgrow _
          obtain ⟨hown, hbl⟩ := HX.out
          have hb1 : Below wd.heap.size wd w1 := (hbl.alloc hsz (.cells #[.int .i64 3500] 3)).grown hgrow (by simp; omega) (fun i hi => (hown.lt i hi).1)
          have HR := Lib.hid (And.intro hown' hb1)
          clear hown hbl hown' hgrow hb1 hown9
          go_wp2_with fail
          go_meet
          refine ⟨j + 1, by rw [HGX.out, List.length_append, HG.out.2.2]; rfl, ?_, HR.out.2⟩
          rw [HGX.out, List.map_append]
          exact HR.out.1
        · obtain rfl : j = 0 := by omega
          have hgx : gs = [] := List.eq_nil_of_length_eq_zero HG.out.2.2
          have HGX := Lib.hid hgx
          clear hown hbl hgx
          go_wp2_with fail
          go_meet
          refine ⟨0, by rw [HGX.out]; rfl, ?_, HX.out.2⟩
          have := HX.out.1
          rw [HGX.out] at this ⊢
          exact this
      case rest =>
      obtain ⟨r, hr, hown, hbl⟩ := hcut
      obtain ⟨A2, c2, rfl⟩ := own_slice hown
      have hrc : r ≤ c2 := by
        obtain ⟨A3, c3, e, h⟩ := own_sliceC hown
        injection e with _ _ e
        omega
      have hst := xs_start (u := u) HT.out.1 HT.out.2.1 hown hbl hr
      have hbw : Below w0.heap.size w0 wc := HT.out.2.2.trans (hbl.mono (by have := HT.out.2.2.size; omega))
      have HS := Lib.hid (And.intro hst (And.intro hbw (And.intro hrc hr)))
      clear hown hbl hst hbw
      go_wp2_with fail
      clear hrc hr
      go_loopw [7] (fun l wr => LoopE w0 u gs l wr) (fun l _ => lenV l)
      case atStart =>
        obtain ⟨h1, h2, h3, h4⟩ := HS.out
        subst h4
        exact ⟨A2, c2, (exG gs).length, exG gs, [lvlD u], _, rfl, h3, h1, rfl, Nat.le_refl _, by have := exG_len gs; have := HG.out.2.2; simp; omega, exG_in HG.out.2.1, h2⟩
      case round =>
        obtain ⟨Al, cl, f, rs, dl, V, rfl, hcl, hXS, hch, hf, hdl, hin, hbl⟩ := hrel
        have hXS9 := hXS
        obtain ⟨⟨hB, xs, hown, hbk⟩, hl⟩ := hXS9
        obtain ⟨Av, cv, rfl⟩ := own_slice hown
        cases rs with
        | nil =>
          have hnil : dl = lvlD u :: chF (exG gs).length (exG gs) := by rw [chF_nil, List.append_nil] at hch; exact hch
          have hRx : Blk wr w.heap.size 45 #[.int .i64 0, .int .i64 0, .slice none 0 0] := HM.out.2.1.below hbl (by rw [HM.out.1]; omega)
          have hbw : Below w.heap.size w wr := HM.out.2.2.trans (hbl.mono (by rw [HM.out.1]; omega))
          have HX := Lib.hid (And.intro hown (And.intro hbk (And.intro hnil hbw)))
          clear hXS hown hbk hl hch hf hdl hin hbl hnil hbw
          go_wp2_with (first
            | (refine wpList_load_box rfl 45 _ rfl (w0.heap.size + 1) rfl 45 #[.int .i64 1, .int .i64 20, .slice Av dl.length cv] hB _ Try.underlying45 rfl tape3Info ?_)
            | (refine wpList_store_box rfl 45 _ _ rfl (w.heap.size) #[.int .i64 1, .int .i64 20, .slice Av dl.length cv] rfl rfl 45 #[.int .i64 0, .int .i64 0, .slice none 0 0] hRx tape3Info rfl (by simp [Value.oneCell']) ?_)
            | fail)
          try (refine fun (_ : Hid _) => ?_)
          refine wpList_store_box rfl 45 _ _ rfl (w.heap.size) #[.int .i64 1, .int .i64 20, .slice Av dl.length cv] rfl rfl 45 #[.int .i64 0, .int .i64 0, .slice none 0 0] hRx tape3Info rfl (by simp [Value.oneCell']) ?_
          intro w9 hB9 hg9
          have H9 := Lib.hid hg9
          clear hRx hB hg9
          go_wp2_with fail
          refine bodyPost_ret (results_cell_tmp9 rfl _ _ w.heap.size 45 _ (0, 0) _ rfl hB9 Try.underlying45 rfl tape3Info) rfl ?_
          obtain ⟨hown, hbk, hnil, hbw⟩ := HX.out
          have hs0 := HM.out.1
          have hg9 := H9.out
          have hs9 := hg9.size
          have hnz : ¬ (0 : Int) ∈ gs := HNZ.out
          rw [show exV gs = (1, 20, 0) from if_neg hnz]
          refine ⟨Av, _, cv, xs, rfl, ?_, ?_, hbw.grown hg9 hbw.size (fun b hb => by injection hb with hb; omega)⟩
          · exact (RdP.of_own (hown.kept hg9 (.inr (fun e => by have := (hown.lt _ e).1; omega)))).keep (fun b _ => rfl) (fun b hp => ⟨by omega, hp.2⟩)
          · rw [show exL high gs = lvlD (useI high) :: chF (exG gs).length (exG gs) from if_neg hnz, ← HU.out, ← hnil]
            exact hbk.keep (fun b hp => hg9.block b hp.2.1 (by intro e; injection e with e; have := hp.1; omega)) (fun b hp => ⟨by have := hp.1; omega, by have := hp.2.1; omega⟩)
        | cons a rs =>
          obtain ⟨f, rfl⟩ : ∃ g, f = g + 1 := ⟨f - 1, by simp at hf; omega⟩
          obtain ⟨k1, k2⟩ := chK_in a rs
          have ha := hin a (by simp)
          obtain ⟨m, rfl⟩ : ∃ m : Nat, a = (m : Int) := ⟨a.toNat, by omega⟩
          have hlen : ((m : Int) :: rs).length = rs.length + 1 := List.length_cons
          have hLR : Reads wr wr.heap.size 1 Al ((m : Int) :: rs).length (((m : Int) :: rs).map (Value.int .i64)) := hl.reads (fun b hp => hp.2.1)
          obtain ⟨ad, rfl, _, hc0⟩ := i32_at hLR (k := 0) (by simp)
          rw [show ad.add 0 = ad from rfl, show ((m : Int) :: rs).getD 0 0 = (m : Int) from rfl] at hc0
          have hsh := shorts_any wr wr.heap.size _ cl _ ((m : Int) :: rs) hLR (by omega)
          obtain ⟨hK1, hK2⟩ := shN_le ((m : Int) :: rs)
          have HK := Lib.hid (show chF (f + 1) ((m : Int) :: rs) = chD m rs :: chF f (((m : Int) :: rs).drop (chK m rs)) from rfl)
          obtain ⟨R, hR⟩ : ∃ R : Nat, R = ((m : Int) :: rs).length := ⟨_, rfl⟩
          rw [← hR] at hK1 hcl hsh hLR ⊢
          have c2 : wr.cell? ⟨w0.heap.size + 1, 2, none⟩ = some (.slice Av dl.length cv) := (hB.cell 2).trans rfl
          have hd1 : ¬ (dl.length : Int) = 4096 := by rw [hR, hlen] at *; omega
          have hR0 : (0 : Int) < (R : Int) := by rw [hR, hlen]; omega
          have HX := Lib.hid (And.intro hXS (And.intro hch (And.intro hf (And.intro hdl (And.intro hin hbl)))))
          have HXR := Lib.hid (And.intro hR (And.intro hLR (And.intro hown (And.intro hbk (And.intro hl hB)))))
          have HPO := Lib.hid (And.intro k1 (And.intro k2 (And.intro ha hlen)))
          clear hXS hch hf hdl hin hbl hR hLR hown hbk hl hB k1 k2 ha hlen
          go_wp2_with fail
          refine hsh.mono ?_
          rintro e w1 ⟨rfl, rfl⟩
          clear hsh
          have HKD := Lib.hid (show chD m rs = if shN ((m : Int) :: rs) = 0 then longD ((m : Int).toNat) else pulD (((m : Int) :: rs).take (shN ((m : Int) :: rs))) from rfl)
          have HKK := Lib.hid (show chK m rs = if shN ((m : Int) :: rs) = 0 then 1 else shN ((m : Int) :: rs) from rfl)
          have HEND := Lib.hid (show shN ((m : Int) :: rs) = 0 → 65535 < (m : Int) from fun h0 => by
            have := shN_end (ls := (m : Int) :: rs) (by rw [h0]; simp) (by omega)
            rw [h0] at this
            exact this)
          generalize shN ((m : Int) :: rs) = K at *
          have hKc : (K : Int) ≤ (cl : Int) := by omega
          have hK0 : (0 : Int) ≤ (K : Int) := Int.natCast_nonneg _
          have hKcN : K ≤ cl := by omega
          go_upto_region 19 with (first
            | (refine wpList_store_box rfl 33 _ _ rfl (wr.heap.size) #[.int .i64 19, .int .i64 0, .int .i64 0, .int .i64 0, .int .i64 0, .int .i64 0, .int .i64 0, .int .i64 0, .int .i64 0, .int .i64 0, .int .i64 0, .int .i64 0, .slice none 0 0, .slice (some ad) K K, .slice none 0 0, .slice none 0 0, .slice none 0 0, .slice none 0 0] rfl rfl 33 #[.int .i64 0, .int .i64 0, .int .i64 0, .int .i64 0, .int .i64 0, .int .i64 0, .int .i64 0, .int .i64 0, .int .i64 0, .int .i64 0, .int .i64 0, .int .i64 0, .slice none 0 0, .slice none 0 0, .slice none 0 0, .slice none 0 0, .slice none 0 0, .slice none 0 0] (Blk.new wr _ _) blkInfo rfl (by simp [Value.oneCell']) ?_)
            | fail)
          intro w5 hB5 hg5
          have hb5 : Below wr.heap.size wr w5 := ((Below.refl _ _).alloc (Nat.le_refl _) _).grown hg5 (by simp) (fun b hb => by injection hb with hb; omega)
          have H5 := Lib.hid (And.intro hB5 hb5)
          clear hB5 hg5 hb5
          go_upto_if 61 with fail
          go_cut [10, 61] from 62 to 65 (fun k _ wx => ∃ (K' : Nat) (cs : List Value), k = .int .i64 K' ∧ K' = chK m rs ∧ Blk wx wr.heap.size 33 cs.toArray ∧ BlkAt wx (PhiT wx w0.heap.size (w0.heap.size + 1) (.slice Av dl.length cv)) (chD m rs) cs ∧ Below wr.heap.size wr wx)
          case first =>
            have hb5 := H5.out.2
            have hs5 := hb5.size
            by_cases hKz : K = 0
            · subst hKz
              have hB5 := H5.out.1
              have hmb := HEND.out rfl
              have hc5 : w5.cell? ad = some (.int .i64 m) := (hb5.cell (by assumption)).trans hc0
              have hlg := long_any w5 m (by omega) (by have := HPO.out.2.2.1; omega)
              have hR0N : 0 < R := by omega
              go_wp2_with fail
              refine hlg.mono ?_
              rintro e w8 ⟨cs, rfl, hcs, hb8⟩
              clear hlg hc5
              have hln := hcs.len
              have hB8 : Blk w8 wr.heap.size 33 #[.int .i64 19, .int .i64 0, .int .i64 0, .int .i64 0, .int .i64 0, .int .i64 0, .int .i64 0, .int .i64 0, .int .i64 0, .int .i64 0, .int .i64 0, .int .i64 0, .slice none 0 0, .slice (some ad) 0 0, .slice none 0 0, .slice none 0 0, .slice none 0 0, .slice none 0 0] := hB5.below hb8 hB5.lt
              have HCS := Lib.hid (And.intro hcs (And.intro hb8 hln))
              have hci : (Try.prog.info? 33).map (·.size) = some cs.toArray.size := by rw [blkInfo]; simp [hln]
              have hca : cs.toArray.all (·.oneCell') = true := by rw [List.all_toArray, List.all_eq_true]; exact hcs.one
              have hcz : (18 : Nat) = cs.toArray.size := by simp [hln]
              have HC8 := Lib.hid (And.intro hci (And.intro hca hcz))
              clear hcs hb8 hln hci hca hcz hB5
              go_wp2_with (first
                | (refine wpList_store_box rfl 33 _ _ rfl (wr.heap.size) cs.toArray rfl rfl 33 #[.int .i64 19, .int .i64 0, .int .i64 0, .int .i64 0, .int .i64 0, .int .i64 0, .int .i64 0, .int .i64 0, .int .i64 0, .int .i64 0, .int .i64 0, .int .i64 0, .slice none 0 0, .slice (some ad) 0 0, .slice none 0 0, .slice none 0 0, .slice none 0 0, .slice none 0 0] hB8 HC8.out.1 HC8.out.2.2 HC8.out.2.1 ?_)
                | fail)
              intro w9 hB9 hg9
              have H9 := Lib.hid (And.intro hB9 hg9)
              clear hB9 hg9 hB8
              go_wp2_with fail
              go_meet
              have hs8 := HCS.out.2.1.size
              have hs9 := H9.out.2.size
              have hbs := HXR.out.2.2.2.2.2.lt
              have hs0 := HX.out.2.2.2.2.2.size
              have hsB := H5.out.1.lt
              refine ⟨1, cs, rfl, by rw [HKK.out, if_pos trivial], H9.out.1, ?_, ((hb5.trans (HCS.out.2.1.mono (by omega))).grown H9.out.2 (by omega) (fun b hb => by injection hb with hb; omega))⟩
              rw [HKD.out, if_pos trivial, show ((m : Int).toNat) = m from rfl]
              exact HCS.out.1.keep (fun b hb => H9.out.2.block b hb.2 (by intro e; injection e with e; omega)) (fun b hb => ⟨by omega, by omega, by omega, by
                intro e
                have := (HXR.out.2.2.1.lt b e).2
                omega⟩)
            · have hKI : ¬ (K : Int) = 0 := by omega
              have hKB : ((K : Int) == 0) = false := by simpa using hKI
              go_wp2_with fail
              go_meet
              refine ⟨K, [.int .i64 19, .int .i64 0, .int .i64 0, .int .i64 0, .int .i64 0, .int .i64 0, .int .i64 0, .int .i64 0, .int .i64 0, .int .i64 0, .int .i64 0, .int .i64 0, .slice none 0 0, .slice (some ad) K K, .slice none 0 0, .slice none 0 0, .slice none 0 0, .slice none 0 0], rfl, by rw [HKK.out, if_neg hKz], H5.out.1, ?_, hb5⟩
              rw [HKD.out, if_neg hKz]
              have hl := (HXR.out.2.2.2.2.1.take_ (k := K) (by rw [← HXR.out.1]; omega)).keep (w' := w5) (ψ := PhiT w5 w0.heap.size (w0.heap.size + 1) (.slice Av dl.length cv)) (fun b hp => hb5.block b hp.2.1) (fun b hp => ⟨hp.1, by have := hp.2.1; omega, hp.2.2⟩)
              exact ⟨none, 0, 0, some ad, K, K, none, 0, 0, none, 0, 0, [], rfl, RdP.none_, hl, RdP.none_, fun q hq => absurd hq (by simp), rfl, RdP.none_, by omega, by omega, by omega⟩
          case rest =>
          obtain ⟨K', cs, rfl, hKe, hBc, hcs, hbc⟩ := hcut
          have hXW := HX.out.1.below hbc
          obtain ⟨⟨hB, ys, hown, hbk⟩, hl⟩ := hXW
          have hKR : K' ≤ R := by rw [hKe, HXR.out.1]; exact HPO.out.2.1
          have hKn : (K' : Int) ≤ (R : Int) := by omega
          have hKp : (0 : Int) ≤ (K' : Int) := Int.natCast_nonneg _
          have hKc2 : (K' : Int) ≤ (cl : Int) := by omega
          have HKE := Lib.hid hKe
          have hdl9 : dl.length ≤ 4003 := by have := HX.out.2.2.2.1; omega
          have hbs : w0.heap.size ≤ wc.heap.size := by have := HX.out.2.2.2.2.2.size; have := hbc.size; omega
          generalize hdd : chD m rs = d at *
          have HDD := Lib.hid hdd
          have HCS := Lib.hid hcs
          obtain ⟨DA, dn, dc, ta, tn, tc, PA, pn, pc, RA, rn, rc, pl, rfl, _⟩ := hcs
          have HB := Lib.hid (And.intro hB (And.intro hbk (And.intro hl hbc)))
          have HOW := Lib.hid (And.intro hown hBc)
          have HOL := Lib.hid hown.lt
          clear hB hbk hl hbc hKe hdd hown hBc c2 hc0
          go_upto_region 21 with fail
          refine wp_region_held_drew (S := fun w' => True) (by kernel_rfl) ?_ (fun hHeld => ?_)
          · trivial
          obtain ⟨hB, hbk, hl, hbc⟩ := HB.out
          obtain ⟨hown, hBc⟩ := HOW.out
          have HF := Lib.hid (And.intro (show Blk wc.drew (w0.heap.size + 1) 45 #[.int .i64 1, .int .i64 20, .slice Av dl.length cv] from hB) (And.intro (show BlksAt wc.drew (PhiT wc.drew w0.heap.size (w0.heap.size + 1) (.slice Av dl.length cv)) dl ys from BlksAt.keep (w := wc) (w' := wc.drew) (φ := PhiT wc w0.heap.size (w0.heap.size + 1) (.slice Av dl.length cv)) (fun _ _ => rfl) (fun _ h => h) hbk) (And.intro (show RdP wc.drew (PhiT wc.drew w0.heap.size (w0.heap.size + 1) (.slice Av dl.length cv)) 1 (some ad) ((m : Int) :: rs).length (((m : Int) :: rs).map (Value.int .i64)) from hl) (And.intro (show BlkAt wc.drew (PhiT wc.drew w0.heap.size (w0.heap.size + 1) (.slice Av dl.length cv)) d [.int .i64 d.i0, .int .i64 d.i1, .int .i64 d.i2, .int .i64 d.i3, .int .i64 d.i4, .int .i64 d.i5, .int .i64 d.i6, .int .i64 d.i7, .int .i64 d.i8, .int .i64 d.i9, .int .i64 d.i10, .int .i64 d.i11, .slice DA dn dc, .slice ta tn tc, .slice none 0 0, .slice PA pn pc, .slice none 0 0, .slice RA rn rc] from BlkAt.keep (w := wc) (w' := wc.drew) (φ := PhiT wc w0.heap.size (w0.heap.size + 1) (.slice Av dl.length cv)) HCS.out (fun _ _ => rfl) (fun _ h => h)) (hbc.drew)))))
          have hown : wc.drew.ownsRow w0.heap.size 33 18 (.slice Av dl.length cv) dl.length ys := hown
          have hBc : Blk wc.drew wr.heap.size 33 #[.int .i64 d.i0, .int .i64 d.i1, .int .i64 d.i2, .int .i64 d.i3, .int .i64 d.i4, .int .i64 d.i5, .int .i64 d.i6, .int .i64 d.i7, .int .i64 d.i8, .int .i64 d.i9, .int .i64 d.i10, .int .i64 d.i11, .slice DA dn dc, .slice ta tn tc, .slice none 0 0, .slice PA pn pc, .slice none 0 0, .slice RA rn rc] := hBc
          have hbs : w0.heap.size ≤ wc.drew.heap.size := hbs
          clear hB hbk hl hbc HB HOW HCS
          generalize wc.drew = W at *
          have HC := Lib.hid (And.intro (lit_cells W [.int .i64 d.i0, .int .i64 d.i1, .int .i64 d.i2, .int .i64 d.i3, .int .i64 d.i4, .int .i64 d.i5, .int .i64 d.i6, .int .i64 d.i7, .int .i64 d.i8, .int .i64 d.i9, .int .i64 d.i10, .int .i64 d.i11, .slice DA dn dc, .slice ta tn tc, .slice none 0 0, .slice PA pn pc, .slice none 0 0, .slice RA rn rc] 33) (And.intro HF.out.2.2.2.1.one (And.intro (show dl.length + 1 ≤ maxLen by unfold maxLen; omega) (And.intro (show (dl.length + 1) * 240 ≤ 140737488355328 by omega) (show w0.heap.size ≤ (W.alloc (.cells #[.int .i64 d.i0, .int .i64 d.i1, .int .i64 d.i2, .int .i64 d.i3, .int .i64 d.i4, .int .i64 d.i5, .int .i64 d.i6, .int .i64 d.i7, .int .i64 d.i8, .int .i64 d.i9, .int .i64 d.i10, .int .i64 d.i11, .slice DA dn dc, .slice ta tn tc, .slice none 0 0, .slice PA pn pc, .slice none 0 0, .slice RA rn rc] 33)).heap.size by simp; omega)))))
          have hown9 := hown.alloc (.cells #[.int .i64 d.i0, .int .i64 d.i1, .int .i64 d.i2, .int .i64 d.i3, .int .i64 d.i4, .int .i64 d.i5, .int .i64 d.i6, .int .i64 d.i7, .int .i64 d.i8, .int .i64 d.i9, .int .i64 d.i10, .int .i64 d.i11, .slice DA dn dc, .slice ta tn tc, .slice none 0 0, .slice PA pn pc, .slice none 0 0, .slice RA rn rc] 33)
          have hrd : Reads (W.alloc (.cells #[.int .i64 d.i0, .int .i64 d.i1, .int .i64 d.i2, .int .i64 d.i3, .int .i64 d.i4, .int .i64 d.i5, .int .i64 d.i6, .int .i64 d.i7, .int .i64 d.i8, .int .i64 d.i9, .int .i64 d.i10, .int .i64 d.i11, .slice DA dn dc, .slice ta tn tc, .slice none 0 0, .slice PA pn pc, .slice none 0 0, .slice RA rn rc] 33)) (W.heap.size + 1) 18 (some ⟨W.heap.size, 0, none⟩) 1 [.int .i64 d.i0, .int .i64 d.i1, .int .i64 d.i2, .int .i64 d.i3, .int .i64 d.i4, .int .i64 d.i5, .int .i64 d.i6, .int .i64 d.i7, .int .i64 d.i8, .int .i64 d.i9, .int .i64 d.i10, .int .i64 d.i11, .slice DA dn dc, .slice ta tn tc, .slice none 0 0, .slice PA pn pc, .slice none 0 0, .slice RA rn rc] := ⟨rfl, fun _ => ⟨_, rfl, by show W.heap.size < W.heap.size + 1; omega, HC.out.1⟩⟩
          have HRD := Lib.hid hrd
          clear hrd
          have c2W : W.cell? ⟨w0.heap.size + 1, 2, none⟩ = some (.slice Av dl.length cv) := (HF.out.1.cell 2).trans rfl
          have c2A : (W.alloc (.cells #[.int .i64 d.i0, .int .i64 d.i1, .int .i64 d.i2, .int .i64 d.i3, .int .i64 d.i4, .int .i64 d.i5, .int .i64 d.i6, .int .i64 d.i7, .int .i64 d.i8, .int .i64 d.i9, .int .i64 d.i10, .int .i64 d.i11, .slice DA dn dc, .slice ta tn tc, .slice none 0 0, .slice PA pn pc, .slice none 0 0, .slice RA rn rc] 33)).cell? ⟨w0.heap.size + 1, 2, none⟩ = some (.slice Av dl.length cv) := ((HF.out.1.alloc _).cell 2).trans rfl
          refine wpAnyH_take (i := 0) (oi := _) (v := ?_) (by simp only [List.getElem?_toArray, List.getElem?_cons_succ, List.getElem?_cons_zero]; rfl) (by kernel_rfl) (by kernel_rfl) (by kernel_rfl) (by intro _ _ _ h; exact h) (Or.inl ⟨by rfl, ?_⟩) trivial ?_
          rotate_left
          · intro w hSw
            try dsimp only at hSw
            go_simp
            try with_reducible rfl
          try simp only [Act.put, List.setIfInBounds_toArray, List.set_cons_zero, List.set_cons_succ]
          refine wpAnyH_take (i := 5) (oi := _) (v := ?_) (by simp only [List.getElem?_toArray, List.getElem?_cons_succ, List.getElem?_cons_zero]; rfl) (by kernel_rfl) (by kernel_rfl) (by kernel_rfl) (by intro _ _ _ h; exact h) (Or.inl ⟨by rfl, ?_⟩) trivial ?_
          rotate_left
          · intro w hSw
            try dsimp only at hSw
            go_simp
            try with_reducible rfl
          try simp only [Act.put, List.setIfInBounds_toArray, List.set_cons_zero, List.set_cons_succ]
          refine wpAnyH_take (i := 6) (oi := _) (v := ?_) (by simp only [List.getElem?_toArray, List.getElem?_cons_succ, List.getElem?_cons_zero]; rfl) (by kernel_rfl) (by kernel_rfl) (by kernel_rfl) (by intro _ _ _ h; exact h) (Or.inl ⟨by rfl, ?_⟩) trivial ?_
          rotate_left
          · intro w hSw
            try dsimp only at hSw
            go_simp
            try with_reducible rfl
          try simp only [Act.put, List.setIfInBounds_toArray, List.set_cons_zero, List.set_cons_succ]
          refine wpAnyH_take (i := 7) (oi := _) (v := ?_) (by simp only [List.getElem?_toArray, List.getElem?_cons_succ, List.getElem?_cons_zero]; rfl) (by kernel_rfl) (by kernel_rfl) (by kernel_rfl) (by intro _ _ _ h; exact h) (Or.inl ⟨by rfl, ?_⟩) trivial ?_
          rotate_left
          · intro w hSw
            try dsimp only at hSw
            go_simp
            try with_reducible rfl
          try simp only [Act.put, List.setIfInBounds_toArray, List.set_cons_zero, List.set_cons_succ]
          refine wpAnyH_ready (rs := [1, 2]) (by kernel_rfl) (by simp) ?_
          refine AllReadyH.cons (o := _) (by simp only [List.getElem?_toArray, List.getElem?_cons_succ, List.getElem?_cons_zero]; rfl) (fun K hK => ?_) (AllReadyH.cons (o := _) (by simp only [List.getElem?_toArray, List.getElem?_cons_succ, List.getElem?_cons_zero]; rfl) (fun K hK => ?_) AllReadyH.nil)
          · go_simp
            refine hK.out _ _ ?_ (fun hHeld => ?_)
            · trivial
            clear hK K
            try simp only [Act.put, List.setIfInBounds_toArray, List.set_cons_zero, List.set_cons_succ]
            refine wpAnyH_ready (rs := [2]) (by kernel_rfl) (by simp) ?_
            refine AllReadyH.cons (o := _) (by simp only [List.getElem?_toArray, List.getElem?_cons_succ, List.getElem?_cons_zero]; rfl) (fun K hK => ?_) AllReadyH.nil
            refine step_load_box rfl 33 _ (by rfl) wr.heap.size (by rfl) 33 #[.int .i64 d.i0, .int .i64 d.i1, .int .i64 d.i2, .int .i64 d.i3, .int .i64 d.i4, .int .i64 d.i5, .int .i64 d.i6, .int .i64 d.i7, .int .i64 d.i8, .int .i64 d.i9, .int .i64 d.i10, .int .i64 d.i11, .slice DA dn dc, .slice ta tn tc, .slice none 0 0, .slice PA pn pc, .slice none 0 0, .slice RA rn rc] hBc _ Try.underlying33 rfl blkInfo ?_
            refine hK.out _ _ ?_ (fun hHeld => ?_)
            · trivial
            clear hK K
            try simp only [Act.put, List.setIfInBounds_toArray, List.set_cons_zero, List.set_cons_succ]
            refine wpAnyH_ready (rs := [3]) (by kernel_rfl) (by simp) ?_
            refine AllReadyH.cons (o := _) (by simp only [List.getElem?_toArray, List.getElem?_cons_succ, List.getElem?_cons_zero]; rfl) (fun K hK => ?_) AllReadyH.nil
            go_simp
            refine hK.out _ _ ?_ (fun hHeld => ?_)
            · trivial
            clear hK K
            try simp only [Act.put, List.setIfInBounds_toArray, List.set_cons_zero, List.set_cons_succ]
            refine wpAnyH_ready (rs := [4]) (by kernel_rfl) (by simp) ?_
            refine AllReadyH.cons (o := _) (by simp only [List.getElem?_toArray, List.getElem?_cons_succ, List.getElem?_cons_zero]; rfl) (fun K hK => ?_) AllReadyH.nil
            refine step_append_any _ (by rfl) _ _ _ (by rfl) w0.heap.size 33 i1 (.agg #[.int .i64 0, .int .i64 0, .int .i64 0, .int .i64 0, .int .i64 0, .int .i64 0, .int .i64 0, .int .i64 0, .int .i64 0, .int .i64 0, .int .i64 0, .int .i64 0, .slice none 0 0, .slice none 0 0, .slice none 0 0, .slice none 0 0, .slice none 0 0, .slice none 0 0]) 18 240 Try.underlying43 hj hy0 hy1 hy2 rfl (by decide) (.slice Av dl.length cv) dl.length ys (by rfl) hown9 (W.heap.size + 1) (some ⟨W.heap.size, 0, none⟩) 1 1 [.int .i64 d.i0, .int .i64 d.i1, .int .i64 d.i2, .int .i64 d.i3, .int .i64 d.i4, .int .i64 d.i5, .int .i64 d.i6, .int .i64 d.i7, .int .i64 d.i8, .int .i64 d.i9, .int .i64 d.i10, .int .i64 d.i11, .slice DA dn dc, .slice ta tn tc, .slice none 0 0, .slice PA pn pc, .slice none 0 0, .slice RA rn rc] (by rfl) HRD.out HC.out.2.1 HC.out.2.2.1 HC.out.2.2.2.1 HC.out.2.2.2.2 ?_
            intro v3 w3 own3 hg3 hv3
            obtain ⟨A3, c3, rfl⟩ := own_slice own3
            have hBw3 : Blk w3 (w0.heap.size + 1) 45 #[.int .i64 1, .int .i64 20, .slice Av dl.length cv] := (HF.out.1.alloc _).grown hg3 (fun e => own_blk_ne hown HF.out.1 (by decide) e.symm)
            refine hK.out _ _ ?_ (fun hHeld => ?_)
            · trivial
            clear hK K
            try simp only [Act.put, List.setIfInBounds_toArray, List.set_cons_zero, List.set_cons_succ]
            have c3w : w3.cell? ⟨w0.heap.size + 1, 2, none⟩ = some (.slice Av dl.length cv) := (hBw3.cell 2).trans rfl
            have f3w : w3.frozen? ⟨w0.heap.size + 1, 2, none⟩ = false := hBw3.frozen 2
            have HEN := Lib.hid (And.intro own3 (And.intro hg3 (And.intro hv3 (And.intro hBw3 (own_blk_ne hown HF.out.1 (by decide))))))
            clear own3 hg3 hv3 hBw3 hown9 hown hBc c2W c2A
            refine wpAnyH_take (i := 8) (oi := _) (v := ?_) (by simp only [List.getElem?_toArray, List.getElem?_cons_succ, List.getElem?_cons_zero]; rfl) (by kernel_rfl) (by kernel_rfl) (by kernel_rfl) (by intro _ _ _ h; exact h) (Or.inl ⟨by rfl, ?_⟩) trivial ?_
            rotate_left
            · intro w hSw
              try dsimp only at hSw
              go_simp
              try with_reducible rfl
            try simp only [Act.put, List.setIfInBounds_toArray, List.set_cons_zero, List.set_cons_succ]
            refine wpAnyH_ready (rs := [9]) (by kernel_rfl) (by simp) ?_
            refine AllReadyH.cons (o := _) (by simp only [List.getElem?_toArray, List.getElem?_cons_succ, List.getElem?_cons_zero]; rfl) (fun K hK => ?_) AllReadyH.nil
            go_simp
            refine hK.out _ _ ?_ (fun hHeld => ?_)
            · trivial
            clear hK K
            try simp only [Act.put, List.setIfInBounds_toArray, List.set_cons_zero, List.set_cons_succ]
            refine wpAnyH_ready (rs := [10]) (by kernel_rfl) (by simp) ?_
            refine AllReadyH.cons (o := _) (by simp only [List.getElem?_toArray, List.getElem?_cons_succ, List.getElem?_cons_zero]; rfl) (fun K hK => ?_) AllReadyH.nil
            go_simp
            refine hK.out _ _ ?_ (fun hHeld => ?_)
            · trivial
            clear hK K
            try simp only [Act.put, List.setIfInBounds_toArray, List.set_cons_zero, List.set_cons_succ]
            refine wpAnyH_done (by kernel_rfl) ?_ _
            have hcut9 := HF.out.2.2.1.cut_ (k := K') (cl := cl) (by rw [← HXR.out.1]; exact hKR) (by rw [← HXR.out.1]; exact hcl)
            generalize (if cl = K' then some ad else some (ad.add K')) = Al9 at *
            have HCUT := Lib.hid hcut9
            clear hcut9
            go_wp2
            go_roundw
            case rel =>
              obtain ⟨hB, hbk, hl, hc, hbc⟩ := HF.out
              obtain ⟨own3, hg3, hv3, hBw3, hne⟩ := HEN.out
              obtain ⟨hXS, hch, hf, hdl, hin, hbl⟩ := HX.out
              obtain ⟨k1, k2, _, hlen⟩ := HPO.out
              have hKe := HKE.out
              have hR := HXR.out.1
              have hst := xs_step hB hbk HCUT.out hc own3 hg3 hv3 hne
              have hb9 : Below w0.heap.size w0 (w3.setCell ⟨w0.heap.size + 1, 2, none⟩ (.slice A3 (dl.length + 1) c3)) := (((hbl.trans (hbc.mono hbl.size)).alloc hbs _).grown hg3 (by simp; omega) (fun b hb => by have := (HOL.out b hb).1; exact this)).setCell (by show w0.heap.size ≤ w0.heap.size + 1; omega) _
              have hld : (((m : Int) :: rs).drop K').length = R - K' := by rw [List.length_drop, hR]
              refine ⟨_, cl - K', f, ((m : Int) :: rs).drop K', dl ++ [d], .slice A3 (dl.length + 1) c3, by rw [hld], by rw [hld]; omega, hst, ?_, ?_, ?_, fun z hz => hin z (List.mem_of_mem_drop hz), hb9⟩
              · rw [List.append_assoc, ← hch, HK.out, hKe]; rfl
              · rw [hld, hR]; omega
              · rw [hld, List.length_append, hR]; simp at hdl ⊢; omega
            case measure => simp [lenV]; have := HPO.out.1; have := HKE.out; omega
          · refine step_load_box rfl 33 _ (by rfl) wr.heap.size (by rfl) 33 #[.int .i64 d.i0, .int .i64 d.i1, .int .i64 d.i2, .int .i64 d.i3, .int .i64 d.i4, .int .i64 d.i5, .int .i64 d.i6, .int .i64 d.i7, .int .i64 d.i8, .int .i64 d.i9, .int .i64 d.i10, .int .i64 d.i11, .slice DA dn dc, .slice ta tn tc, .slice none 0 0, .slice PA pn pc, .slice none 0 0, .slice RA rn rc] hBc _ Try.underlying33 rfl blkInfo ?_
            refine hK.out _ _ ?_ (fun hHeld => ?_)
            · trivial
            clear hK K
            try simp only [Act.put, List.setIfInBounds_toArray, List.set_cons_zero, List.set_cons_succ]
            refine wpAnyH_ready (rs := [1, 3]) (by kernel_rfl) (by simp) ?_
            refine AllReadyH.cons (o := _) (by simp only [List.getElem?_toArray, List.getElem?_cons_succ, List.getElem?_cons_zero]; rfl) (fun K hK => ?_) (AllReadyH.cons (o := _) (by simp only [List.getElem?_toArray, List.getElem?_cons_succ, List.getElem?_cons_zero]; rfl) (fun K hK => ?_) AllReadyH.nil)
            · go_simp
              refine hK.out _ _ ?_ (fun hHeld => ?_)
              · trivial
              clear hK K
              try simp only [Act.put, List.setIfInBounds_toArray, List.set_cons_zero, List.set_cons_succ]
              refine wpAnyH_ready (rs := [3]) (by kernel_rfl) (by simp) ?_
              refine AllReadyH.cons (o := _) (by simp only [List.getElem?_toArray, List.getElem?_cons_succ, List.getElem?_cons_zero]; rfl) (fun K hK => ?_) AllReadyH.nil
              go_simp
              refine hK.out _ _ ?_ (fun hHeld => ?_)
              · trivial
              clear hK K
              try simp only [Act.put, List.setIfInBounds_toArray, List.set_cons_zero, List.set_cons_succ]
              refine wpAnyH_ready (rs := [4]) (by kernel_rfl) (by simp) ?_
              refine AllReadyH.cons (o := _) (by simp only [List.getElem?_toArray, List.getElem?_cons_succ, List.getElem?_cons_zero]; rfl) (fun K hK => ?_) AllReadyH.nil
              refine step_append_any _ (by rfl) _ _ _ (by rfl) w0.heap.size 33 i1 (.agg #[.int .i64 0, .int .i64 0, .int .i64 0, .int .i64 0, .int .i64 0, .int .i64 0, .int .i64 0, .int .i64 0, .int .i64 0, .int .i64 0, .int .i64 0, .int .i64 0, .slice none 0 0, .slice none 0 0, .slice none 0 0, .slice none 0 0, .slice none 0 0, .slice none 0 0]) 18 240 Try.underlying43 hj hy0 hy1 hy2 rfl (by decide) (.slice Av dl.length cv) dl.length ys (by rfl) hown9 (W.heap.size + 1) (some ⟨W.heap.size, 0, none⟩) 1 1 [.int .i64 d.i0, .int .i64 d.i1, .int .i64 d.i2, .int .i64 d.i3, .int .i64 d.i4, .int .i64 d.i5, .int .i64 d.i6, .int .i64 d.i7, .int .i64 d.i8, .int .i64 d.i9, .int .i64 d.i10, .int .i64 d.i11, .slice DA dn dc, .slice ta tn tc, .slice none 0 0, .slice PA pn pc, .slice none 0 0, .slice RA rn rc] (by rfl) HRD.out HC.out.2.1 HC.out.2.2.1 HC.out.2.2.2.1 HC.out.2.2.2.2 ?_
              intro v3 w3 own3 hg3 hv3
              obtain ⟨A3, c3, rfl⟩ := own_slice own3
              have hBw3 : Blk w3 (w0.heap.size + 1) 45 #[.int .i64 1, .int .i64 20, .slice Av dl.length cv] := (HF.out.1.alloc _).grown hg3 (fun e => own_blk_ne hown HF.out.1 (by decide) e.symm)
              refine hK.out _ _ ?_ (fun hHeld => ?_)
              · trivial
              clear hK K
              try simp only [Act.put, List.setIfInBounds_toArray, List.set_cons_zero, List.set_cons_succ]
              have c3w : w3.cell? ⟨w0.heap.size + 1, 2, none⟩ = some (.slice Av dl.length cv) := (hBw3.cell 2).trans rfl
              have f3w : w3.frozen? ⟨w0.heap.size + 1, 2, none⟩ = false := hBw3.frozen 2
              have HEN := Lib.hid (And.intro own3 (And.intro hg3 (And.intro hv3 (And.intro hBw3 (own_blk_ne hown HF.out.1 (by decide))))))
              clear own3 hg3 hv3 hBw3 hown9 hown hBc c2W c2A
              refine wpAnyH_take (i := 8) (oi := _) (v := ?_) (by simp only [List.getElem?_toArray, List.getElem?_cons_succ, List.getElem?_cons_zero]; rfl) (by kernel_rfl) (by kernel_rfl) (by kernel_rfl) (by intro _ _ _ h; exact h) (Or.inl ⟨by rfl, ?_⟩) trivial ?_
              rotate_left
              · intro w hSw
                try dsimp only at hSw
                go_simp
                try with_reducible rfl
              try simp only [Act.put, List.setIfInBounds_toArray, List.set_cons_zero, List.set_cons_succ]
              refine wpAnyH_ready (rs := [9]) (by kernel_rfl) (by simp) ?_
              refine AllReadyH.cons (o := _) (by simp only [List.getElem?_toArray, List.getElem?_cons_succ, List.getElem?_cons_zero]; rfl) (fun K hK => ?_) AllReadyH.nil
              go_simp
              refine hK.out _ _ ?_ (fun hHeld => ?_)
              · trivial
              clear hK K
              try simp only [Act.put, List.setIfInBounds_toArray, List.set_cons_zero, List.set_cons_succ]
              refine wpAnyH_ready (rs := [10]) (by kernel_rfl) (by simp) ?_
              refine AllReadyH.cons (o := _) (by simp only [List.getElem?_toArray, List.getElem?_cons_succ, List.getElem?_cons_zero]; rfl) (fun K hK => ?_) AllReadyH.nil
              go_simp
              refine hK.out _ _ ?_ (fun hHeld => ?_)
              · trivial
              clear hK K
              try simp only [Act.put, List.setIfInBounds_toArray, List.set_cons_zero, List.set_cons_succ]
              refine wpAnyH_done (by kernel_rfl) ?_ _
              have hcut9 := HF.out.2.2.1.cut_ (k := K') (cl := cl) (by rw [← HXR.out.1]; exact hKR) (by rw [← HXR.out.1]; exact hcl)
              generalize (if cl = K' then some ad else some (ad.add K')) = Al9 at *
              have HCUT := Lib.hid hcut9
              clear hcut9
              go_wp2
              go_roundw
              case rel =>
                obtain ⟨hB, hbk, hl, hc, hbc⟩ := HF.out
                obtain ⟨own3, hg3, hv3, hBw3, hne⟩ := HEN.out
                obtain ⟨hXS, hch, hf, hdl, hin, hbl⟩ := HX.out
                obtain ⟨k1, k2, _, hlen⟩ := HPO.out
                have hKe := HKE.out
                have hR := HXR.out.1
                have hst := xs_step hB hbk HCUT.out hc own3 hg3 hv3 hne
                have hb9 : Below w0.heap.size w0 (w3.setCell ⟨w0.heap.size + 1, 2, none⟩ (.slice A3 (dl.length + 1) c3)) := (((hbl.trans (hbc.mono hbl.size)).alloc hbs _).grown hg3 (by simp; omega) (fun b hb => by have := (HOL.out b hb).1; exact this)).setCell (by show w0.heap.size ≤ w0.heap.size + 1; omega) _
                have hld : (((m : Int) :: rs).drop K').length = R - K' := by rw [List.length_drop, hR]
                refine ⟨_, cl - K', f, ((m : Int) :: rs).drop K', dl ++ [d], .slice A3 (dl.length + 1) c3, by rw [hld], by rw [hld]; omega, hst, ?_, ?_, ?_, fun z hz => hin z (List.mem_of_mem_drop hz), hb9⟩
                · rw [List.append_assoc, ← hch, HK.out, hKe]; rfl
                · rw [hld, hR]; omega
                · rw [hld, List.length_append, hR]; simp at hdl ⊢; omega
              case measure => simp [lenV]; have := HPO.out.1; have := HKE.out; omega
            · go_simp
              refine hK.out _ _ ?_ (fun hHeld => ?_)
              · trivial
              clear hK K
              try simp only [Act.put, List.setIfInBounds_toArray, List.set_cons_zero, List.set_cons_succ]
              refine wpAnyH_ready (rs := [1]) (by kernel_rfl) (by simp) ?_
              refine AllReadyH.cons (o := _) (by simp only [List.getElem?_toArray, List.getElem?_cons_succ, List.getElem?_cons_zero]; rfl) (fun K hK => ?_) AllReadyH.nil
              go_simp
              refine hK.out _ _ ?_ (fun hHeld => ?_)
              · trivial
              clear hK K
              try simp only [Act.put, List.setIfInBounds_toArray, List.set_cons_zero, List.set_cons_succ]
              refine wpAnyH_ready (rs := [4]) (by kernel_rfl) (by simp) ?_
              refine AllReadyH.cons (o := _) (by simp only [List.getElem?_toArray, List.getElem?_cons_succ, List.getElem?_cons_zero]; rfl) (fun K hK => ?_) AllReadyH.nil
              refine step_append_any _ (by rfl) _ _ _ (by rfl) w0.heap.size 33 i1 (.agg #[.int .i64 0, .int .i64 0, .int .i64 0, .int .i64 0, .int .i64 0, .int .i64 0, .int .i64 0, .int .i64 0, .int .i64 0, .int .i64 0, .int .i64 0, .int .i64 0, .slice none 0 0, .slice none 0 0, .slice none 0 0, .slice none 0 0, .slice none 0 0, .slice none 0 0]) 18 240 Try.underlying43 hj hy0 hy1 hy2 rfl (by decide) (.slice Av dl.length cv) dl.length ys (by rfl) hown9 (W.heap.size + 1) (some ⟨W.heap.size, 0, none⟩) 1 1 [.int .i64 d.i0, .int .i64 d.i1, .int .i64 d.i2, .int .i64 d.i3, .int .i64 d.i4, .int .i64 d.i5, .int .i64 d.i6, .int .i64 d.i7, .int .i64 d.i8, .int .i64 d.i9, .int .i64 d.i10, .int .i64 d.i11, .slice DA dn dc, .slice ta tn tc, .slice none 0 0, .slice PA pn pc, .slice none 0 0, .slice RA rn rc] (by rfl) HRD.out HC.out.2.1 HC.out.2.2.1 HC.out.2.2.2.1 HC.out.2.2.2.2 ?_
              intro v3 w3 own3 hg3 hv3
              obtain ⟨A3, c3, rfl⟩ := own_slice own3
              have hBw3 : Blk w3 (w0.heap.size + 1) 45 #[.int .i64 1, .int .i64 20, .slice Av dl.length cv] := (HF.out.1.alloc _).grown hg3 (fun e => own_blk_ne hown HF.out.1 (by decide) e.symm)
              refine hK.out _ _ ?_ (fun hHeld => ?_)
              · trivial
              clear hK K
              try simp only [Act.put, List.setIfInBounds_toArray, List.set_cons_zero, List.set_cons_succ]
              have c3w : w3.cell? ⟨w0.heap.size + 1, 2, none⟩ = some (.slice Av dl.length cv) := (hBw3.cell 2).trans rfl
              have f3w : w3.frozen? ⟨w0.heap.size + 1, 2, none⟩ = false := hBw3.frozen 2
              have HEN := Lib.hid (And.intro own3 (And.intro hg3 (And.intro hv3 (And.intro hBw3 (own_blk_ne hown HF.out.1 (by decide))))))
              clear own3 hg3 hv3 hBw3 hown9 hown hBc c2W c2A
              refine wpAnyH_take (i := 8) (oi := _) (v := ?_) (by simp only [List.getElem?_toArray, List.getElem?_cons_succ, List.getElem?_cons_zero]; rfl) (by kernel_rfl) (by kernel_rfl) (by kernel_rfl) (by intro _ _ _ h; exact h) (Or.inl ⟨by rfl, ?_⟩) trivial ?_
              rotate_left
              · intro w hSw
                try dsimp only at hSw
                go_simp
                try with_reducible rfl
              try simp only [Act.put, List.setIfInBounds_toArray, List.set_cons_zero, List.set_cons_succ]
              refine wpAnyH_ready (rs := [9]) (by kernel_rfl) (by simp) ?_
              refine AllReadyH.cons (o := _) (by simp only [List.getElem?_toArray, List.getElem?_cons_succ, List.getElem?_cons_zero]; rfl) (fun K hK => ?_) AllReadyH.nil
              go_simp
              refine hK.out _ _ ?_ (fun hHeld => ?_)
              · trivial
              clear hK K
              try simp only [Act.put, List.setIfInBounds_toArray, List.set_cons_zero, List.set_cons_succ]
              refine wpAnyH_ready (rs := [10]) (by kernel_rfl) (by simp) ?_
              refine AllReadyH.cons (o := _) (by simp only [List.getElem?_toArray, List.getElem?_cons_succ, List.getElem?_cons_zero]; rfl) (fun K hK => ?_) AllReadyH.nil
              go_simp
              refine hK.out _ _ ?_ (fun hHeld => ?_)
              · trivial
              clear hK K
              try simp only [Act.put, List.setIfInBounds_toArray, List.set_cons_zero, List.set_cons_succ]
              refine wpAnyH_done (by kernel_rfl) ?_ _
              have hcut9 := HF.out.2.2.1.cut_ (k := K') (cl := cl) (by rw [← HXR.out.1]; exact hKR) (by rw [← HXR.out.1]; exact hcl)
              generalize (if cl = K' then some ad else some (ad.add K')) = Al9 at *
              have HCUT := Lib.hid hcut9
              clear hcut9
              go_wp2
              go_roundw
              case rel =>
                obtain ⟨hB, hbk, hl, hc, hbc⟩ := HF.out
                obtain ⟨own3, hg3, hv3, hBw3, hne⟩ := HEN.out
                obtain ⟨hXS, hch, hf, hdl, hin, hbl⟩ := HX.out
                obtain ⟨k1, k2, _, hlen⟩ := HPO.out
                have hKe := HKE.out
                have hR := HXR.out.1
                have hst := xs_step hB hbk HCUT.out hc own3 hg3 hv3 hne
                have hb9 : Below w0.heap.size w0 (w3.setCell ⟨w0.heap.size + 1, 2, none⟩ (.slice A3 (dl.length + 1) c3)) := (((hbl.trans (hbc.mono hbl.size)).alloc hbs _).grown hg3 (by simp; omega) (fun b hb => by have := (HOL.out b hb).1; exact this)).setCell (by show w0.heap.size ≤ w0.heap.size + 1; omega) _
                have hld : (((m : Int) :: rs).drop K').length = R - K' := by rw [List.length_drop, hR]
                refine ⟨_, cl - K', f, ((m : Int) :: rs).drop K', dl ++ [d], .slice A3 (dl.length + 1) c3, by rw [hld], by rw [hld]; omega, hst, ?_, ?_, ?_, fun z hz => hin z (List.mem_of_mem_drop hz), hb9⟩
                · rw [List.append_assoc, ← hch, HK.out, hKe]; rfl
                · rw [hld, hR]; omega
                · rw [hld, List.length_append, hR]; simp at hdl ⊢; omega
              case measure => simp [lenV]; have := HPO.out.1; have := HKE.out; omega
end Go.Proofs.Ytckgmnlmimogjaa
