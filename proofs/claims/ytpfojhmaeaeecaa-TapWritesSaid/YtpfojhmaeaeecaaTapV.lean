/- Contracts of layer 18: blocks as a tape. -/
import Derived.Test.YtpfojhmaeaeecaaTapU
import Derived.Deep.RegionHeld3
import Derived.Deep.AppendLies
namespace Go.Proofs.Ytpfojhmaeaeecaa
open Go.RowKit

def blkZ : Value := .agg #[.int .i64 0, .int .i64 0, .int .i64 0, .int .i64 0, .int .i64 0, .int .i64 0, .int .i64 0, .int .i64 0, .int .i64 0, .int .i64 0, .int .i64 0, .int .i64 0, .slice none 0 0, .slice none 0 0, .slice none 0 0, .slice none 0 0, .slice none 0 0, .slice none 0 0]
theorem blockInfo : (Try.prog.info? 73).map (fun i => (i.zero, i.size, i.bytes)) = some (some blkZ, 18, 240) := by kernel_rfl
theorem tapeInfo : (Try.prog.info? 64).map (·.size) = some 3 := by kernel_rfl
/-- the cells of a block of bytes -/
def tblk (q : Pc) : List Value := [.int .i64 16, .int .i64 1000, .int .i64 0, .int .i64 0, .int .i64 0, .int .i64 0, .int .i64 0, .int .i64 0, .int .i64 0, .int .i64 0, .int .i64 0, .int .i64 0, q.v, .slice none 0 0, .slice none 0 0, .slice none 0 0, .slice none 0 0, .slice none 0 0]
theorem tblk_one {w : World} {B n : Nat} {xs : List Value} (q : Pc) (h : w.ownsRow B 5 1 q.v n xs) : ∀ u ∈ tblk q, u.oneCell' = true := by
  obtain ⟨A, c, hv⟩ := own_slice h
  intro u hu
  simp only [tblk, List.mem_cons, List.not_mem_nil, or_false] at hu
  rcases hu with rfl | rfl | rfl | rfl | rfl | rfl | rfl | rfl | rfl | rfl | rfl | rfl | rfl | rfl | rfl | rfl | rfl | rfl <;> first | rfl | (rw [hv]; rfl)

/-- memory of bytes stays -/
def KeepU (w w' : World) : Prop := ∀ (g : Nat) (cs : Array Value) (fr : Nat × Nat), w.heap[g]? = some (.cells cs 5 fr) → w'.heap[g]? = some (.cells cs 5 fr)
theorem KeepU.trans {a b c : World} (h : KeepU a b) (k : KeepU b c) : KeepU a c := fun g cs fr e => k g cs fr (h g cs fr e)
theorem KeepU.below {w w' : World} (h : Below w.heap.size w w') : KeepU w w' := fun g cs fr e => (h.block g (by
  rcases Nat.lt_or_ge g w.heap.size with h' | h'
  · exact h'
  · rw [Array.getElem?_eq_none h'] at e; cases e)).trans e
theorem KeepU.grown {w w' : World} {B s n : Nat} {t : TypeId} {v : Value} {xs : List Value} (h : w.grownBy w' v.ownBlock) (ho : w.ownsRow B t s v n xs) (hne : t ≠ 5) : KeepU w w' := fun g cs fr e => by
  have hg : g < w.heap.size := by
    rcases Nat.lt_or_ge g w.heap.size with h' | h'
    · exact h'
    · rw [Array.getElem?_eq_none h'] at e; cases e
  refine (h.block g hg (fun e0 => ?_)).trans e
  rcases ho.2 with ⟨rfl, _⟩ | ⟨g', cap, cur, rfl, _, hh, _⟩
  · simp [Value.ownBlock] at e0
  · obtain rfl : g = g' := by simpa [Value.ownBlock] using e0
    rw [e] at hh
    injection hh with hh
    injection hh with _ hh
    exact hne hh.symm
theorem KeepU.set {w : World} {g k : Nat} {t : TypeId} {cs : Array Value} (h : Blk w g t cs) (hne : t ≠ 5) (u : Value) : KeepU w (w.setCell ⟨g, k, none⟩ u) := fun g' cs' fr e => by
  refine (Below.heap_setCell w ⟨g, k, none⟩ u g' (fun e0 => ?_)).trans e
  obtain rfl : g' = g := e0
  rw [h] at e
  injection e with e
  injection e with _ e
  exact hne e
theorem Pc.ok.keep {w w' : World} {B : Nat} {q : Pc} (h : q.ok w B) (k : KeepU w w') : q.ok w' B := by
  refine ⟨h.1, ?_⟩
  rcases h.2 with h1 | ⟨g, cap, cur, h1, h2, h3, h4⟩
  · exact .inl h1
  · exact .inr ⟨g, cap, cur, h1, h2, k g _ _ h3, h4⟩

/-- a round: the copied bytes' block is put behind, and the row stored -/
theorem tape_round {w wr w1 W3 : World} {B i gg cap3 : Nat} {o : Array Value} {V U : Value} {qs : List Pc} {qz : List Int} (hRx : Blk w1 B 64 #[.int .i64 0, .int .i64 0, .slice none 0 0]) (hBx : Blk w1 (B + 1) 64 #[.int .i64 1, .int .i64 20, V])
    (own1 : w1.ownsRow (B + 2) 73 18 V i (qs.flatMap tblk)) (HQ : Hid (∀ q ∈ qs, q.ok w1 B)) (hownU : w1.ownsRow wr.heap.size 5 1 U qz.length (qz.map (Value.int .u8)))
    (hb1 : Below wr.heap.size wr w1) (hbl2 : B + 2 ≤ wr.heap.size) (hbl : Below B w wr)
    (own3 : W3.ownsRow (B + 2) 73 18 (.slice (some ⟨gg, 0, none⟩) (i + 1) cap3) (i + 1) (qs.flatMap tblk ++ tblk ⟨U, qz⟩)) (hg3 : (w1.alloc (.cells o 73)).grownBy W3 V.ownBlock) :
    W3.cell? ⟨B + 1, 2, none⟩ = some V ∧ W3.frozen? ⟨B + 1, 2, none⟩ = false ∧ Hid (
      Blk (W3.setCell ⟨B + 1, 2, none⟩ (.slice (some ⟨gg, 0, none⟩) (i + 1) cap3)) (B + 1) 64 #[.int .i64 1, .int .i64 20, .slice (some ⟨gg, 0, none⟩) (i + 1) cap3] ∧
      (W3.setCell ⟨B + 1, 2, none⟩ (.slice (some ⟨gg, 0, none⟩) (i + 1) cap3)).ownsRow (B + 2) 73 18 (.slice (some ⟨gg, 0, none⟩) (i + 1) cap3) (i + 1) (qs.flatMap tblk ++ tblk ⟨U, qz⟩) ∧
      Hid (∀ q ∈ qs ++ [⟨U, qz⟩], q.ok (W3.setCell ⟨B + 1, 2, none⟩ (.slice (some ⟨gg, 0, none⟩) (i + 1) cap3)) B) ∧ Below B w (W3.setCell ⟨B + 1, 2, none⟩ (.slice (some ⟨gg, 0, none⟩) (i + 1) cap3)) ∧ Blk (W3.setCell ⟨B + 1, 2, none⟩ (.slice (some ⟨gg, 0, none⟩) (i + 1) cap3)) B 64 #[.int .i64 0, .int .i64 0, .slice none 0 0]) := by
  have hs1 := hb1.size
  have hBa : Blk (w1.alloc (.cells o 73)) (B + 1) 64 #[.int .i64 1, .int .i64 20, V] := hBx.alloc _
  have owna := own1.alloc (.cells o 73)
  have hB3 : Blk W3 (B + 1) 64 #[.int .i64 1, .int .i64 20, V] := hBa.grown hg3 (fun e => own_blk_ne owna hBa (by decide) e.symm)
  have hset := hB3.set_ 2 (.slice (some ⟨gg, 0, none⟩) (i + 1) cap3)
  have hb2 : Below B w w1 := hbl.trans (hb1.mono (by omega))
  have hb3 : Below B w (w1.alloc (.cells o 73)) := hb2.alloc (by omega) _
  have hb4 : Below B w W3 := hb3.grown hg3 (by simp; omega) (fun j hj => by have := (owna.lt j hj).1; omega)
  have hk : KeepU w1 (W3.setCell ⟨B + 1, 2, none⟩ (.slice (some ⟨gg, 0, none⟩) (i + 1) cap3)) :=
    ((KeepU.below ((Below.refl _ _).alloc (Nat.le_refl _) _)).trans (KeepU.grown hg3 owna (by decide))).trans (KeepU.set hB3 (by decide) _)
  refine ⟨(hB3.cell 2).trans rfl, hB3.frozen 2, Lib.hid ⟨hset, ?_, Lib.hid ?_, hb4.setCell (p := ⟨B + 1, 2, none⟩) (by show B ≤ B + 1; omega) _, ?_⟩⟩
  · exact own3.kept (grown_set _) (.inr (own_blk_ne own3 hB3 (by decide)))
  · intro q hq
    rcases List.mem_append.1 hq with h | h
    · exact (HQ.out q h).keep hk
    · obtain rfl : q = ⟨U, qz⟩ := by simpa using h
      have h1 : (⟨U, qz⟩ : Pc).ok w1 B := Pc.ok.le (B := wr.heap.size) hownU (by omega)
      exact h1.keep hk
  · have h1 : Blk W3 B 64 #[.int .i64 0, .int .i64 0, .slice none 0 0] := (hRx.alloc (.cells o 73)).grown hg3 (fun e => own_blk_ne owna (hRx.alloc (.cells o 73)) (by decide) e.symm)
    exact h1.far (p := ⟨B + 1, 2, none⟩) (by show B ≠ B + 1; omega) _
theorem tape_end {w wr : World} {B n : Nat} {V : Value} {qs : List Pc} (hR : Blk wr B 64 #[.int .i64 0, .int .i64 0, .slice none 0 0]) (own : wr.ownsRow (B + 2) 73 18 V n (qs.flatMap tblk)) (HQ : ∀ q ∈ qs, q.ok wr B) (hbl : Below B w wr) :
    wr.frozen? ⟨B, 0, none⟩ = false ∧ wr.frozen? ⟨B, 1, none⟩ = false ∧ wr.frozen? ⟨B, 2, none⟩ = false ∧ wr.cell? ⟨B, 0, none⟩ = some (.int .i64 0) ∧ wr.cell? ⟨B, 1, none⟩ = some (.int .i64 0) ∧ wr.cell? ⟨B, 2, none⟩ = some (.slice none 0 0) ∧ Hid (
    Blk (((wr.setCell ⟨B, 0, none⟩ (.int .i64 1)).setCell ⟨B, 1, none⟩ (.int .i64 20)).setCell ⟨B, 2, none⟩ V) B 64 #[.int .i64 1, .int .i64 20, V] ∧
    (((wr.setCell ⟨B, 0, none⟩ (.int .i64 1)).setCell ⟨B, 1, none⟩ (.int .i64 20)).setCell ⟨B, 2, none⟩ V).ownsRow B 73 18 V n (qs.flatMap tblk) ∧
    (∀ q ∈ qs, q.ok (((wr.setCell ⟨B, 0, none⟩ (.int .i64 1)).setCell ⟨B, 1, none⟩ (.int .i64 20)).setCell ⟨B, 2, none⟩ V) B) ∧
    Below B w (((wr.setCell ⟨B, 0, none⟩ (.int .i64 1)).setCell ⟨B, 1, none⟩ (.int .i64 20)).setCell ⟨B, 2, none⟩ V)) := by
  have h1 := hR.set_ 0 (.int .i64 1)
  have h2 := h1.set_ 1 (.int .i64 20)
  have h3 := h2.set_ 2 V
  have o1 := own.kept (grown_set (g := B) (i := 0) (.int .i64 1)) (.inr (own_blk_ne own hR (by decide)))
  have o2 := o1.kept (grown_set (g := B) (i := 1) (.int .i64 20)) (.inr (own_blk_ne o1 h1 (by decide)))
  have o3 := o2.kept (grown_set (g := B) (i := 2) V) (.inr (own_blk_ne o2 h2 (by decide)))
  have hk := ((KeepU.set hR (by decide) (k := 0) (.int .i64 1)).trans (KeepU.set h1 (by decide) (k := 1) (.int .i64 20))).trans (KeepU.set h2 (by decide) (k := 2) V)
  refine ⟨hR.frozen 0, hR.frozen 1, hR.frozen 2, (hR.cell 0).trans rfl, (hR.cell 1).trans rfl, (hR.cell 2).trans rfl, Lib.hid ⟨h3, Joins.ownsRow_le o3 (by omega), fun q hq => (HQ q hq).keep hk, ?_⟩⟩
  exact ((hbl.setCell (p := ⟨B, 0, none⟩) (Nat.le_refl _) _).setCell (p := ⟨B, 1, none⟩) (Nat.le_refl _) _).setCell (p := ⟨B, 2, none⟩) (Nat.le_refl _) _

set_option maxRecDepth 100000 in
set_option maxHeartbeats 4000000 in
theorem tape_any (w : World) (n c : Nat) (A : Option Addr) (ps : List Piece) (hr : Reads w w.heap.size 1 A n (ps.map Piece.val)) (hps : ∀ q ∈ ps, q.ok w w.heap.size) (hn : (n : Int) ≤ 4096) (hfit : fitK 0 (ps.map Piece.n) = true) :
    Calls Try.prog 37 #[.slice A n c] w fun e w' => ∃ (V : Value) (qs : List Pc), e = .returned (.tuple #[.agg #[.int .i64 1, .int .i64 20, V], .int .i64 0]) ∧ w'.ownsRow w.heap.size 73 18 V n (qs.flatMap tblk) ∧ qs.map Pc.zs = ps.map Piece.zs ∧ (∀ q ∈ qs, q.ok w' w.heap.size) ∧ Below w.heap.size w w' := by
  obtain ⟨i0, hi, hz0, hz1, hz2⟩ := info_parts blockInfo
  have hf := fun (w' : World) (h : Below w.heap.size w w') => fits_any w' w.heap.size n c A ps (hr.below h) hn
  simp only [hfit] at hf
  have HF := Lib.hid hf
  have HL := Lib.hid (rows_len hr)
  have hfl := fitK_len (ps.map Piece.zs) 0 (by omega) (by rw [← ns_zs hps]; exact hfit)
  have HFL := Lib.hid hfl
  have HP := Lib.hid hps
  have hb0 : Below w.heap.size w (w.alloc (.cells #[.int .i64 0, .int .i64 0, .slice none 0 0] 64)) := (Below.refl _ _).alloc (Nat.le_refl _) _
  have hR0 : Blk (w.alloc (.cells #[.int .i64 0, .int .i64 0, .slice none 0 0] 64)) w.heap.size 64 #[.int .i64 0, .int .i64 0, .slice none 0 0] := Blk.new w _ _
  clear hfit hfl hps hf
  go_enter Try.func37, Try.ntmps37
  go_wp2_with fail
  refine (HF.out _ hb0).mono ?_
  rintro e w1 ⟨rfl, rfl⟩
  go_wp2
  have hB1 : Blk ((w.alloc (.cells #[.int .i64 0, .int .i64 0, .slice none 0 0] 64)).alloc (.cells #[.int .i64 1, .int .i64 20, .slice none 0 0] 64)) (w.heap.size + 1) 64 #[.int .i64 1, .int .i64 20, .slice none 0 0] := by
    have := Blk.new (w.alloc (.cells #[.int .i64 0, .int .i64 0, .slice none 0 0] 64)) 64 #[.int .i64 1, .int .i64 20, .slice none 0 0]
    simpa using this
  have hb1 : Below w.heap.size w ((w.alloc (.cells #[.int .i64 0, .int .i64 0, .slice none 0 0] 64)).alloc (.cells #[.int .i64 1, .int .i64 20, .slice none 0 0] 64)) := hb0.alloc (by simp) _
  go_loopw [14] (fun j wr => ∃ (i : Nat) (V : Value) (qs : List Pc), i ≤ n ∧ j = .int .i64 i ∧ Blk wr (w.heap.size + 1) 64 #[.int .i64 1, .int .i64 20, V] ∧ wr.ownsRow (w.heap.size + 2) 73 18 V i (qs.flatMap tblk) ∧ Hid (qs.map Pc.zs = (ps.map Piece.zs).take i) ∧ Hid (∀ q ∈ qs, q.ok wr w.heap.size) ∧ Below w.heap.size w wr ∧ Blk wr w.heap.size 64 #[.int .i64 0, .int .i64 0, .slice none 0 0]) (fun j _ => n - (intOf j).toNat)
  case atStart => exact ⟨0, _, [], by omega, rfl, hB1, World.ownsRow_nil _ _ _ _, Lib.hid rfl, Lib.hid (fun q hq => by cases hq), hb1, by exact hR0.alloc _⟩
  case round =>
    obtain ⟨i, V, qs, hi', rfl, hBx, hown, HZ, HQ, hbl, hRx⟩ := hrel
    have hbl2 := hBx.lt
    by_cases hlt : i < n
    · obtain ⟨ad, q, rfl, hab, hq, hcl⟩ := piece_at (hr.below hbl) hlt
      have hok := HP.out q (List.mem_of_getElem? hq)
      have h64 := HFL.out.1 q.zs (List.mem_of_getElem? (zs_at hq))
      have HN := Lib.hid (show ∀ U : Value, Hid ((qs ++ [(⟨U, q.zs⟩ : Pc)]).map Pc.zs = (ps.map Piece.zs).take (i + 1)) from fun U => Lib.hid (by rw [List.map_append, HZ.out, List.take_add_one, zs_at hq]; rfl))
      obtain ⟨qa, k, qc, qz⟩ := q
      have hkl := hok.len
      obtain ⟨hrq, hkc, hcm, huq⟩ := hok
      simp only at *
      subst hkl
      have hiI : (i : Int) < (n : Int) := by omega
      have hi0 : (0 : Int) ≤ (i : Int) := Int.natCast_nonneg _
      have hbls : w.heap.size + 2 ≤ wr.heap.size := by omega
      have HBL := Lib.hid hbl
      have HC := Lib.hid (show ∀ wx : World, Below wr.heap.size wr wx → wx.heap.size = wr.heap.size → Calls Try.prog 51 #[.slice qa qz.length qc] wx fun e w' => ∃ U, e = .returned U ∧ w'.ownsRow wr.heap.size 5 1 U qz.length (qz.map (Value.int .u8)) ∧ Below wr.heap.size wr w' from fun wx hbx hsz => by
        have hbw : Below w.heap.size w wx := hbl.trans (hbx.mono hbl.size)
        refine (clone_any wx qz.length qc qa qz ((hrq.below hbw).more hbw.size) (by omega)).mono ?_
        rintro e w' ⟨U, rfl, h1, h2⟩
        rw [hsz] at h1 h2
        exact ⟨U, rfl, h1, hbx.trans h2⟩)
      have HB1 := Lib.hid (show ∀ w1 : World, Below wr.heap.size wr w1 → w1.cell? ⟨w.heap.size + 1, 2, none⟩ = some V ∧ w1.frozen? ⟨w.heap.size + 1, 2, none⟩ = false ∧ Blk w1 (w.heap.size + 1) 64 #[.int .i64 1, .int .i64 20, V] ∧ w1.ownsRow (w.heap.size + 2) 73 18 V i (qs.flatMap tblk) ∧ Hid (∀ q ∈ qs, q.ok w1 w.heap.size) ∧ Blk w1 w.heap.size 64 #[.int .i64 0, .int .i64 0, .slice none 0 0] from fun w1 hb1 => by
        have h := hBx.below hb1 hbl2
        exact ⟨(h.cell 2).trans rfl, h.frozen 2, h, own_kept hown hb1, Lib.hid (fun q hq => (HQ.out q hq).below hb1), hRx.below hb1 (by omega)⟩)
      have c2 : wr.cell? ⟨w.heap.size + 1, 2, none⟩ = some V := (hBx.cell 2).trans rfl
      have c2d : wr.drew.cell? ⟨w.heap.size + 1, 2, none⟩ = some V := c2
      clear hq hown hrq huq hbl hBx hRx hr hbl2 HF HQ HZ HP HFL hB1 hb1 hb0 hR0
      have hbl2 := hbls
      clear hbls
      go_wp2_with fail
      refine wp_region_held_drew (S := fun _ => True) (by kernel_rfl) ?_ (fun hHeld => ?_)
      · trivial
      refine wpAnyH_take (i := 0) (oi := _) (v := ?_) (by simp only [List.getElem?_toArray, List.getElem?_cons_succ, List.getElem?_cons_zero]; rfl) (by kernel_rfl) (by kernel_rfl) (by kernel_rfl) (by intro _ _ _ h; exact h) (Or.inl ⟨by rfl, ?_⟩) (by assumption) ?_
      rotate_left
      · intro w hSw
        try dsimp only at hSw
        go_simp
        try with_reducible rfl
      try simp only [Act.put, List.setIfInBounds_toArray, List.set_cons_zero, List.set_cons_succ]
      refine wpAnyH_take (i := 2) (oi := _) (v := ?_) (by simp only [List.getElem?_toArray, List.getElem?_cons_succ, List.getElem?_cons_zero]; rfl) (by kernel_rfl) (by kernel_rfl) (by kernel_rfl) (by intro _ _ _ h; exact h) (Or.inl ⟨by rfl, ?_⟩) (by assumption) ?_
      rotate_left
      · intro w hSw
        try dsimp only at hSw
        go_simp
        try with_reducible rfl
      try simp only [Act.put, List.setIfInBounds_toArray, List.set_cons_zero, List.set_cons_succ]
      refine wpAnyH_ready (rs := [1, 3]) (by kernel_rfl) (by simp) ?_
      refine AllReadyH.cons (o := _) (by simp only [List.getElem?_toArray, List.getElem?_cons_succ, List.getElem?_cons_zero]; rfl) (fun K hK => ?_) (AllReadyH.cons (o := _) (by simp only [List.getElem?_toArray, List.getElem?_cons_succ, List.getElem?_cons_zero]; rfl) (fun K hK => ?_) AllReadyH.nil)
      · go_simp
        refine hK.out _ _ ?_ (fun hHeld => ?_)
        · trivial
        clear hK K
        try simp only [Act.put, List.setIfInBounds_toArray, List.set_cons_zero, List.set_cons_succ]
        refine wpAnyH_ready (rs := [3]) (by kernel_rfl) (by simp) ?_
        refine AllReadyH.cons (o := _) (by simp only [List.getElem?_toArray, List.getElem?_cons_succ, List.getElem?_cons_zero]; rfl) (fun K hK => ?_) AllReadyH.nil
        go_simp
        go_wp2_with fail
        refine (HC.out _ (Below.refl _ _).drew (by rfl)).mono ?_
        rintro e w1 ⟨U, rfl, hownU, hb1⟩
        obtain ⟨c2', f2', hBx', own1, HQ1, hRx'⟩ := HB1.out w1 hb1
        have q2 : ∀ o, (w1.alloc o).cell? ⟨w.heap.size + 1, 2, none⟩ = some V := fun o => (World.cell?_alloc_lt _ _ _ hBx'.lt).trans c2'
        obtain ⟨UA, uc, rfl⟩ := own_slice hownU
        refine hK.out _ _ ?_ (fun hHeld => ?_)
        · trivial
        clear hK K
        try simp only [Act.put, List.setIfInBounds_toArray, List.set_cons_zero, List.set_cons_succ]
        refine wpAnyH_take (i := 4) (oi := _) (v := ?_) (by simp only [List.getElem?_toArray, List.getElem?_cons_succ, List.getElem?_cons_zero]; rfl) (by kernel_rfl) (by kernel_rfl) (by kernel_rfl) (by intro _ _ _ h; exact h) (Or.inl ⟨by rfl, ?_⟩) (by assumption) ?_
        rotate_left
        · intro w hSw
          try dsimp only at hSw
          go_simp
          try with_reducible rfl
        try simp only [Act.put, List.setIfInBounds_toArray, List.set_cons_zero, List.set_cons_succ]
        refine wpAnyH_ready (rs := [5]) (by kernel_rfl) (by simp) ?_
        refine AllReadyH.cons (o := _) (by simp only [List.getElem?_toArray, List.getElem?_cons_succ, List.getElem?_cons_zero]; rfl) (fun K hK => ?_) AllReadyH.nil
        go_simp
        refine hK.out _ _ ?_ (fun hHeld => ?_)
        · trivial
        clear hK K
        try simp only [Act.put, List.setIfInBounds_toArray, List.set_cons_zero, List.set_cons_succ]
        refine wpAnyH_ready (rs := [6]) (by kernel_rfl) (by simp) ?_
        refine AllReadyH.cons (o := _) (by simp only [List.getElem?_toArray, List.getElem?_cons_succ, List.getElem?_cons_zero]; rfl) (fun K hK => ?_) AllReadyH.nil
        refine step_append_lies _ (by rfl) _ _ _ (by rfl) (w.heap.size + 2) 73 i0 blkZ 18 240 Try.underlying62 hi hz0 hz1 hz2 rfl (by decide) V i _ (by rfl) (own1.alloc _) ⟨w1.heap.size, 0, none⟩ 1 1 (tblk ⟨.slice UA qz.length uc, qz⟩) (by rfl) (by rfl) (World.news_of_block (cs := (tblk ⟨.slice UA qz.length uc, qz⟩).toArray) (t := 73) (fr := (0, 0)) (heap_alloc_new w1 _)) (tblk_one ⟨.slice UA qz.length uc, qz⟩ hownU) (by omega) (by unfold maxLen; omega) (by omega) (by have h1 := hb1.size; have h2 := hbl2; simp; omega) (w1.heap.size + 1) (by simp) ?_
        intro gg cap3 W3 own3 hg3 hat hgl
        obtain ⟨c3, f3, H3⟩ := tape_round hRx' hBx' own1 HQ1 hownU hb1 hbl2 HBL.out own3 hg3
        refine hK.out _ _ ?_ (fun hHeld => ?_)
        · trivial
        clear hK K
        try simp only [Act.put, List.setIfInBounds_toArray, List.set_cons_zero, List.set_cons_succ]
        refine wpAnyH_take (i := 7) (oi := _) (v := ?_) (by simp only [List.getElem?_toArray, List.getElem?_cons_succ, List.getElem?_cons_zero]; rfl) (by kernel_rfl) (by kernel_rfl) (by kernel_rfl) (by intro _ _ _ h; exact h) (Or.inl ⟨by rfl, ?_⟩) (by assumption) ?_
        rotate_left
        · intro w hSw
          try dsimp only at hSw
          go_simp
          try with_reducible rfl
        try simp only [Act.put, List.setIfInBounds_toArray, List.set_cons_zero, List.set_cons_succ]
        refine wpAnyH_ready (rs := [8]) (by kernel_rfl) (by simp) ?_
        refine AllReadyH.cons (o := _) (by simp only [List.getElem?_toArray, List.getElem?_cons_succ, List.getElem?_cons_zero]; rfl) (fun K hK => ?_) AllReadyH.nil
        go_simp
        refine hK.out _ _ ?_ (fun hHeld => ?_)
        · trivial
        clear hK K
        try simp only [Act.put, List.setIfInBounds_toArray, List.set_cons_zero, List.set_cons_succ]
        refine wpAnyH_done (by kernel_rfl) ?_ _
        go_wp2
        go_roundw
        case rel => exact ⟨i + 1, _, qs ++ [⟨.slice UA qz.length uc, qz⟩], by omega, by go_num, H3.out.1, by simpa using H3.out.2.1, HN.out _, H3.out.2.2.1, H3.out.2.2.2.1, H3.out.2.2.2.2⟩
        case measure => simp [intOf]; omega
      · go_simp
        go_wp2_with fail
        refine (HC.out _ (Below.refl _ _).drew (by rfl)).mono ?_
        rintro e w1 ⟨U, rfl, hownU, hb1⟩
        obtain ⟨c2', f2', hBx', own1, HQ1, hRx'⟩ := HB1.out w1 hb1
        have q2 : ∀ o, (w1.alloc o).cell? ⟨w.heap.size + 1, 2, none⟩ = some V := fun o => (World.cell?_alloc_lt _ _ _ hBx'.lt).trans c2'
        obtain ⟨UA, uc, rfl⟩ := own_slice hownU
        refine hK.out _ _ ?_ (fun hHeld => ?_)
        · trivial
        clear hK K
        try simp only [Act.put, List.setIfInBounds_toArray, List.set_cons_zero, List.set_cons_succ]
        refine wpAnyH_take (i := 4) (oi := _) (v := ?_) (by simp only [List.getElem?_toArray, List.getElem?_cons_succ, List.getElem?_cons_zero]; rfl) (by kernel_rfl) (by kernel_rfl) (by kernel_rfl) (by intro _ _ _ h; exact h) (Or.inl ⟨by rfl, ?_⟩) (by assumption) ?_
        rotate_left
        · intro w hSw
          try dsimp only at hSw
          go_simp
          try with_reducible rfl
        try simp only [Act.put, List.setIfInBounds_toArray, List.set_cons_zero, List.set_cons_succ]
        refine wpAnyH_ready (rs := [1, 5]) (by kernel_rfl) (by simp) ?_
        refine AllReadyH.cons (o := _) (by simp only [List.getElem?_toArray, List.getElem?_cons_succ, List.getElem?_cons_zero]; rfl) (fun K hK => ?_) (AllReadyH.cons (o := _) (by simp only [List.getElem?_toArray, List.getElem?_cons_succ, List.getElem?_cons_zero]; rfl) (fun K hK => ?_) AllReadyH.nil)
        · go_simp
          refine hK.out _ _ ?_ (fun hHeld => ?_)
          · trivial
          clear hK K
          try simp only [Act.put, List.setIfInBounds_toArray, List.set_cons_zero, List.set_cons_succ]
          refine wpAnyH_ready (rs := [5]) (by kernel_rfl) (by simp) ?_
          refine AllReadyH.cons (o := _) (by simp only [List.getElem?_toArray, List.getElem?_cons_succ, List.getElem?_cons_zero]; rfl) (fun K hK => ?_) AllReadyH.nil
          go_simp
          refine hK.out _ _ ?_ (fun hHeld => ?_)
          · trivial
          clear hK K
          try simp only [Act.put, List.setIfInBounds_toArray, List.set_cons_zero, List.set_cons_succ]
          refine wpAnyH_ready (rs := [6]) (by kernel_rfl) (by simp) ?_
          refine AllReadyH.cons (o := _) (by simp only [List.getElem?_toArray, List.getElem?_cons_succ, List.getElem?_cons_zero]; rfl) (fun K hK => ?_) AllReadyH.nil
          refine step_append_lies _ (by rfl) _ _ _ (by rfl) (w.heap.size + 2) 73 i0 blkZ 18 240 Try.underlying62 hi hz0 hz1 hz2 rfl (by decide) V i _ (by rfl) (own1.alloc _) ⟨w1.heap.size, 0, none⟩ 1 1 (tblk ⟨.slice UA qz.length uc, qz⟩) (by rfl) (by rfl) (World.news_of_block (cs := (tblk ⟨.slice UA qz.length uc, qz⟩).toArray) (t := 73) (fr := (0, 0)) (heap_alloc_new w1 _)) (tblk_one ⟨.slice UA qz.length uc, qz⟩ hownU) (by omega) (by unfold maxLen; omega) (by omega) (by have h1 := hb1.size; have h2 := hbl2; simp; omega) (w1.heap.size + 1) (by simp) ?_
          intro gg cap3 W3 own3 hg3 hat hgl
          obtain ⟨c3, f3, H3⟩ := tape_round hRx' hBx' own1 HQ1 hownU hb1 hbl2 HBL.out own3 hg3
          refine hK.out _ _ ?_ (fun hHeld => ?_)
          · trivial
          clear hK K
          try simp only [Act.put, List.setIfInBounds_toArray, List.set_cons_zero, List.set_cons_succ]
          refine wpAnyH_take (i := 7) (oi := _) (v := ?_) (by simp only [List.getElem?_toArray, List.getElem?_cons_succ, List.getElem?_cons_zero]; rfl) (by kernel_rfl) (by kernel_rfl) (by kernel_rfl) (by intro _ _ _ h; exact h) (Or.inl ⟨by rfl, ?_⟩) (by assumption) ?_
          rotate_left
          · intro w hSw
            try dsimp only at hSw
            go_simp
            try with_reducible rfl
          try simp only [Act.put, List.setIfInBounds_toArray, List.set_cons_zero, List.set_cons_succ]
          refine wpAnyH_ready (rs := [8]) (by kernel_rfl) (by simp) ?_
          refine AllReadyH.cons (o := _) (by simp only [List.getElem?_toArray, List.getElem?_cons_succ, List.getElem?_cons_zero]; rfl) (fun K hK => ?_) AllReadyH.nil
          go_simp
          refine hK.out _ _ ?_ (fun hHeld => ?_)
          · trivial
          clear hK K
          try simp only [Act.put, List.setIfInBounds_toArray, List.set_cons_zero, List.set_cons_succ]
          refine wpAnyH_done (by kernel_rfl) ?_ _
          go_wp2
          go_roundw
          case rel => exact ⟨i + 1, _, qs ++ [⟨.slice UA qz.length uc, qz⟩], by omega, by go_num, H3.out.1, by simpa using H3.out.2.1, HN.out _, H3.out.2.2.1, H3.out.2.2.2.1, H3.out.2.2.2.2⟩
          case measure => simp [intOf]; omega
        · go_simp
          refine hK.out _ _ ?_ (fun hHeld => ?_)
          · trivial
          clear hK K
          try simp only [Act.put, List.setIfInBounds_toArray, List.set_cons_zero, List.set_cons_succ]
          refine wpAnyH_ready (rs := [1]) (by kernel_rfl) (by simp) ?_
          refine AllReadyH.cons (o := _) (by simp only [List.getElem?_toArray, List.getElem?_cons_succ, List.getElem?_cons_zero]; rfl) (fun K hK => ?_) AllReadyH.nil
          go_simp
          refine hK.out _ _ ?_ (fun hHeld => ?_)
          · trivial
          clear hK K
          try simp only [Act.put, List.setIfInBounds_toArray, List.set_cons_zero, List.set_cons_succ]
          refine wpAnyH_ready (rs := [6]) (by kernel_rfl) (by simp) ?_
          refine AllReadyH.cons (o := _) (by simp only [List.getElem?_toArray, List.getElem?_cons_succ, List.getElem?_cons_zero]; rfl) (fun K hK => ?_) AllReadyH.nil
          refine step_append_lies _ (by rfl) _ _ _ (by rfl) (w.heap.size + 2) 73 i0 blkZ 18 240 Try.underlying62 hi hz0 hz1 hz2 rfl (by decide) V i _ (by rfl) (own1.alloc _) ⟨w1.heap.size, 0, none⟩ 1 1 (tblk ⟨.slice UA qz.length uc, qz⟩) (by rfl) (by rfl) (World.news_of_block (cs := (tblk ⟨.slice UA qz.length uc, qz⟩).toArray) (t := 73) (fr := (0, 0)) (heap_alloc_new w1 _)) (tblk_one ⟨.slice UA qz.length uc, qz⟩ hownU) (by omega) (by unfold maxLen; omega) (by omega) (by have h1 := hb1.size; have h2 := hbl2; simp; omega) (w1.heap.size + 1) (by simp) ?_
          intro gg cap3 W3 own3 hg3 hat hgl
          obtain ⟨c3, f3, H3⟩ := tape_round hRx' hBx' own1 HQ1 hownU hb1 hbl2 HBL.out own3 hg3
          refine hK.out _ _ ?_ (fun hHeld => ?_)
          · trivial
          clear hK K
          try simp only [Act.put, List.setIfInBounds_toArray, List.set_cons_zero, List.set_cons_succ]
          refine wpAnyH_take (i := 7) (oi := _) (v := ?_) (by simp only [List.getElem?_toArray, List.getElem?_cons_succ, List.getElem?_cons_zero]; rfl) (by kernel_rfl) (by kernel_rfl) (by kernel_rfl) (by intro _ _ _ h; exact h) (Or.inl ⟨by rfl, ?_⟩) (by assumption) ?_
          rotate_left
          · intro w hSw
            try dsimp only at hSw
            go_simp
            try with_reducible rfl
          try simp only [Act.put, List.setIfInBounds_toArray, List.set_cons_zero, List.set_cons_succ]
          refine wpAnyH_ready (rs := [8]) (by kernel_rfl) (by simp) ?_
          refine AllReadyH.cons (o := _) (by simp only [List.getElem?_toArray, List.getElem?_cons_succ, List.getElem?_cons_zero]; rfl) (fun K hK => ?_) AllReadyH.nil
          go_simp
          refine hK.out _ _ ?_ (fun hHeld => ?_)
          · trivial
          clear hK K
          try simp only [Act.put, List.setIfInBounds_toArray, List.set_cons_zero, List.set_cons_succ]
          refine wpAnyH_done (by kernel_rfl) ?_ _
          go_wp2
          go_roundw
          case rel => exact ⟨i + 1, _, qs ++ [⟨.slice UA qz.length uc, qz⟩], by omega, by go_num, H3.out.1, by simpa using H3.out.2.1, HN.out _, H3.out.2.2.1, H3.out.2.2.2.1, H3.out.2.2.2.2⟩
          case measure => simp [intOf]; omega
    · have hiI : ¬ (i : Int) < (n : Int) := by omega
      have hk2 : (ps.map Piece.zs).take i = ps.map Piece.zs := by rw [List.take_of_length_le (by rw [List.length_map, HL.out]; omega)]
      rw [hk2] at HZ
      obtain rfl : i = n := by omega
      have c0 : wr.cell? ⟨w.heap.size + 1, 0, none⟩ = some (.int .i64 1) := (hBx.cell 0).trans rfl
      have c1 : wr.cell? ⟨w.heap.size + 1, 1, none⟩ = some (.int .i64 20) := (hBx.cell 1).trans rfl
      have c2 : wr.cell? ⟨w.heap.size + 1, 2, none⟩ = some V := (hBx.cell 2).trans rfl
      obtain ⟨VA, vc, rfl⟩ := own_slice hown
      obtain ⟨g0, g1, g2, e0, e1, e2, HE⟩ := tape_end hRx hown HQ.out hbl
      clear hown hbl hBx hRx hr hb0 hR0 hB1 hb1 HF HFL HP HQ hk2
      go_wp2
      refine bodyPost_ret (results_cell_tmp' rfl _ _ w.heap.size 64 #[.int .i64 1, .int .i64 20, .slice VA i vc] (0, 0) _ rfl HE.out.1 Try.underlying64 rfl tapeInfo) rfl ⟨.slice VA i vc, rfl, qs, HE.out.2.1, HZ.out, HE.out.2.2.1, HE.out.2.2.2⟩

theorem tape_bad (w : World) (n c : Nat) (A : Option Addr) (hf : ∀ w' : World, Below w.heap.size w w' → Calls Try.prog 50 #[.slice A n c] w' fun e w'' => e = .returned (.bool false) ∧ w' = w'') :
    Calls Try.prog 37 #[.slice A n c] w fun e w' => e = .returned (.tuple #[.agg #[.int .i64 0, .int .i64 0, .slice none 0 0], .int .i64 8]) ∧ Below w.heap.size w w' := by
  have HF := Lib.hid hf
  clear hf
  have hb0 : Below w.heap.size w (w.alloc (.cells #[.int .i64 0, .int .i64 0, .slice none 0 0] 64)) := (Below.refl _ _).alloc (Nat.le_refl _) _
  have hR0 : Blk (w.alloc (.cells #[.int .i64 0, .int .i64 0, .slice none 0 0] 64)) w.heap.size 64 #[.int .i64 0, .int .i64 0, .slice none 0 0] := Blk.new w _ _
  go_enter Try.func37, Try.ntmps37
  go_wp2_with fail
  refine (HF.out _ hb0).mono ?_
  rintro e w1 ⟨rfl, rfl⟩
  go_wp2
  refine bodyPost_ret (results_cell_tmp' rfl _ _ w.heap.size 64 #[.int .i64 0, .int .i64 0, .slice none 0 0] (0, 0) _ rfl hR0 Try.underlying64 rfl tapeInfo) rfl ⟨rfl, hb0⟩

end Go.Proofs.Ytpfojhmaeaeecaa
