/- Layer 27: contract of what is made tidy: rest. -/
import Derived.Test.YtckgmnlmimogjaaNk5
namespace Go.Proofs.Ytckgmnlmimogjaa
open Go.RowKit

/-- what is made tidy: its box, its blocks -/
def TS (w : World) (base xb : Nat) (lv : Bool) (G : Value) (dl : List BD) : Prop :=
  ∃ V xs, Blk w xb 82 #[.int .i64 1, .int .i64 20, V, .bool lv, G] ∧ w.ownsRow base 33 18 V dl.length xs ∧ BlksAt w (PhiT w base xb V) dl xs
/-- the same, and where its blocks stand -/
def TSK (w : World) (base xb : Nat) (lv : Bool) (G : Value) (dl : List BD) (P : Nat → Prop) : Prop :=
  ∃ V xs, Blk w xb 82 #[.int .i64 1, .int .i64 20, V, .bool lv, G] ∧ w.ownsRow base 33 18 V dl.length xs ∧ BlksAt w (PhiT w base xb V) dl xs ∧ ∀ g, V.ownBlock = some g → P g
theorem own_below {w w' : World} {base : Nat} {e : TypeId} {size n : Nat} {v : Value} {xs : List Value} (h : w.ownsRow base e size v n xs) (hb : Below w.heap.size w w') : w'.ownsRow base e size v n xs := by
  refine ⟨h.1, ?_⟩
  rcases h.2 with hn | ⟨g, cap, cur, rfl, hg, hh, hr⟩
  · exact .inl hn
  · exact .inr ⟨g, cap, cur, rfl, hg, (hb.block g (Blk.lt hh)).trans hh, hr⟩
theorem TS.below {w w' : World} {base xb : Nat} {lv : Bool} {G : Value} {dl : List BD} (h : TS w base xb lv G dl) (hb : Below w.heap.size w w') : TS w' base xb lv G dl := by
  obtain ⟨V, xs, hB, ho, hk⟩ := h
  have hs := hb.size
  exact ⟨V, xs, hB.below hb hB.lt, own_below ho hb, BlksAt.keep (fun b hp => hb.block b hp.2.1) (fun b hp => ⟨hp.1, by have := hp.2.1; omega, hp.2.2⟩) hk⟩
theorem TSK.ts {w : World} {base xb : Nat} {lv : Bool} {G : Value} {dl : List BD} {P : Nat → Prop} (h : TSK w base xb lv G dl P) : TS w base xb lv G dl := by
  obtain ⟨V, xs, hB, ho, hk, _⟩ := h
  exact ⟨V, xs, hB, ho, hk⟩
theorem TSK.mono {w : World} {base xb : Nat} {lv : Bool} {G : Value} {dl : List BD} {P Q : Nat → Prop} (h : TSK w base xb lv G dl P) (hq : ∀ g, P g → Q g) : TSK w base xb lv G dl Q := by
  obtain ⟨V, xs, hB, ho, hk, hp⟩ := h
  exact ⟨V, xs, hB, ho, hk, fun g hg => hq g (hp g hg)⟩
theorem TS.tsk {w w' : World} {base xb : Nat} {lv : Bool} {G : Value} {dl : List BD} (h : TS w base xb lv G dl) (hb : Below w.heap.size w w') : TSK w' base xb lv G dl (· < w.heap.size) := by
  obtain ⟨V, xs, hB, ho, hk⟩ := h
  have hs := hb.size
  exact ⟨V, xs, hB.below hb hB.lt, own_below ho hb, BlksAt.keep (fun b hp => hb.block b hp.2.1) (fun b hp => ⟨hp.1, by have := hp.2.1; omega, hp.2.2⟩) hk, fun g hg => (ho.lt g hg).2⟩
theorem TS.lt {w : World} {base xb : Nat} {lv : Bool} {G : Value} {dl : List BD} (h : TS w base xb lv G dl) : xb < w.heap.size := by
  obtain ⟨V, xs, hB, _⟩ := h
  exact hB.lt
/-- a put behind what stands -/
theorem ts_put {w w' : World} {base xb n : Nat} {lv : Bool} {G V : Value} {dl l : List BD} {xs ys : List Value} {e : Ending} (hB : Blk w xb 82 #[.int .i64 1, .int .i64 20, V, .bool lv, G]) (hV : w.ownsRow base 33 18 V dl.length xs) (hk : BlksAt w (PhiT w base xb V) dl xs) (hy : BlksAt w (PhiT w base xb V) l ys) (hn : n = l.length) (hx : base ≤ xb) (hbs : base ≤ w.heap.size) (h : PutO w w' e base xb V dl.length n xs ys) :
    e = .returned (.int .i64 (if 4096 < dl.length + l.length then 8 else 0)) ∧ TSK w' base xb lv G (if 4096 < dl.length + l.length then dl else dl ++ l) (fun g => V.ownBlock = some g ∨ w.heap.size ≤ g) ∧ Below base w w' ∧ ∀ b, b < w.heap.size → b ≠ xb → V.ownBlock ≠ some b → w'.heap[b]? = w.heap[b]? := by
  subst hn
  rcases h with ⟨h1, rfl, rfl⟩ | ⟨h1, rfl, A', c', w1, ho, hg, hv, rfl⟩
  · rw [if_pos h1, if_pos h1]
    exact ⟨rfl, ⟨V, xs, hB, hV, hk, fun g hg => .inl hg⟩, Below.refl _ _, fun b _ _ _ => rfl⟩
  · rw [if_neg (by omega), if_neg (by omega)]
    have hs := hg.size
    have hxl := hB.lt
    have hne : V.ownBlock ≠ some xb := own_blk_ne hV hB (by decide)
    have hB1 := hB.grown hg (fun e => hne e.symm)
    have hs3 : (w1.setCell ⟨xb, 2, none⟩ (.slice A' (dl.length + l.length) c')).heap.size = w1.heap.size := by simp [World.setCell]
    have k1 : ∀ b, PhiT w base xb V b → (w1.setCell ⟨xb, 2, none⟩ (.slice A' (dl.length + l.length) c')).heap[b]? = w.heap[b]? := fun b hp =>
      (Below.heap_setCell _ _ _ _ (by have := hp.2.2.1; show b ≠ xb; exact this)).trans (hg.block b hp.2.1 (fun e => hp.2.2.2 e.symm))
    have k2 : ∀ b, PhiT w base xb V b → PhiT (w1.setCell ⟨xb, 2, none⟩ (.slice A' (dl.length + l.length) c')) base xb (.slice A' (dl.length + l.length) c') b := fun b hp => ⟨hp.1, by have := hp.2.1; omega, hp.2.2.1, by
      rcases hv with e | e
      · rw [e]; exact hp.2.2.2
      · rw [e]; intro e2; injection e2 with e2; have := hp.2.1; omega⟩
    refine ⟨rfl, ⟨_, xs ++ ys, hB1.set_ 2 _, ?_, (BlksAt.keep k1 k2 hk).app (BlksAt.keep k1 k2 hy), fun g hg => ?_⟩, ((Below.refl _ _).grown hg hbs (fun b hb => (hV.lt b hb).1)).setCell (by show base ≤ xb; exact hx) _, fun b hb hbx hbv => (Below.heap_setCell _ _ _ _ (by show b ≠ xb; exact hbx)).trans (hg.block b hb (fun e => hbv e.symm))⟩
    rotate_left
    · rcases hv with e | e
      · rw [e] at hg; exact .inl hg
      · rw [e] at hg; injection hg with hg; exact .inr (by omega)
    rw [List.length_append]
    exact ownsRow_setCell_other ho (a := ⟨xb, 2, none⟩) (own_blk_ne ho hB1 (by decide)) _
def cutI (zs : List Int) (a b : Nat) : List Int := (zs.drop a).take (b - a)
theorem Reads.sub_ {w : World} {B n a b : Nat} {ad : Addr} {k : IntKind} {zs : List Int} (h : Reads w B 1 (some ad) n (zs.map (Value.int k))) (hb : b ≤ n) : Reads w B 1 (some (ad.add a)) (b - a) ((cutI zs a b).map (Value.int k)) := by
  have hl := h.1
  rw [List.length_map] at hl
  refine ⟨by rw [List.length_map]; unfold cutI; rw [List.length_take, List.length_drop]; omega, fun h0 => ?_⟩
  obtain ⟨ad', e, hp, hc⟩ := h.2 (by omega)
  injection e with e
  subst e
  refine ⟨_, rfl, by rw [block_of_add]; exact hp, fun j u hu => ?_⟩
  rw [add_of_add]
  refine hc _ _ ?_
  unfold cutI at hu
  rw [List.getElem?_map, List.getElem?_take] at hu
  rw [List.getElem?_map]
  split at hu
  · rw [List.getElem?_drop] at hu; exact hu
  · simp at hu
theorem cutI_in {zs : List Int} (hz : isU32 zs) (a b : Nat) : isU32 (cutI zs a b) := fun z hm => hz z (List.mem_of_mem_drop (List.mem_of_mem_take hm))
def restL (lv : Bool) (zs : List Int) (a b : Nat) : List BD := exL (lv != decide (a % 2 = 1)) (cutI zs a b)
def restE (zs : List Int) (lv : Bool) (a b : Nat) (dl : List BD) : Int := if a = b then 0 else if (0 : Int) ∈ cutI zs a b then 5 else if 4096 < dl.length + (restL lv zs a b).length then 8 else 0
def restD (zs : List Int) (lv : Bool) (a b : Nat) (dl : List BD) : List BD := if a = b then dl else if (0 : Int) ∈ cutI zs a b then dl else if 4096 < dl.length + (restL lv zs a b).length then dl else dl ++ restL lv zs a b
theorem restE_0 {zs : List Int} {lv : Bool} {a b : Nat} {dl : List BD} (h : a = b) : restE zs lv a b dl = 0 ∧ restD zs lv a b dl = dl := ⟨if_pos h, if_pos h⟩
theorem restE_5 {zs : List Int} {lv : Bool} {a b : Nat} {dl : List BD} (h : a ≠ b) (h2 : (0 : Int) ∈ cutI zs a b) : restE zs lv a b dl = 5 ∧ restD zs lv a b dl = dl := ⟨(if_neg h).trans (if_pos h2), (if_neg h).trans (if_pos h2)⟩
theorem restE_8 {zs : List Int} {lv : Bool} {a b : Nat} {dl : List BD} (h : a ≠ b) (h2 : ¬ (0 : Int) ∈ cutI zs a b) : restE zs lv a b dl = (if 4096 < dl.length + (restL lv zs a b).length then 8 else 0) ∧ restD zs lv a b dl = (if 4096 < dl.length + (restL lv zs a b).length then dl else dl ++ restL lv zs a b) := ⟨(if_neg h).trans (if_neg h2), (if_neg h).trans (if_neg h2)⟩

theorem chF_len : ∀ (f : Nat) (rs : List Int), (chF f rs).length ≤ rs.length
  | 0, _ => by simp [chF]
  | _ + 1, [] => by simp [chF]
  | f + 1, a :: l => by
    have h := chF_len f ((a :: l).drop (chK a l))
    have hk := chK_in a l
    rw [List.length_drop] at h
    show (chD a l :: chF f ((a :: l).drop (chK a l))).length ≤ _
    rw [List.length_cons]
    omega
theorem exL_len (hi : Bool) (gs : List Int) : (exL hi gs).length ≤ gs.length + 2 := by
  unfold exL
  split
  · simp
  · have := chF_len (exG gs).length (exG gs)
    have := exG_len gs
    rw [List.length_cons]
    omega
theorem odd_eq (lv : Bool) (a : Nat) : (!(lv == ((a : Int).tmod 2 == 1))) = (lv != decide (a % 2 = 1)) := by
  have : ((a : Int).tmod 2 == 1) = decide (a % 2 = 1) := by
    rw [Int.tmod_eq_emod_of_nonneg (by omega)]
    by_cases h : a % 2 = 1
    · have : (a : Int) % 2 = 1 := by omega
      simp [h, this]
    · have : ¬ (a : Int) % 2 = 1 := by omega
      simp [h, this]
  rw [this]
  rfl
set_option maxRecDepth 100000 in
set_option maxHeartbeats 8000000 in
theorem rest_any (w : World) (base xb a b N c B0 : Nat) (lv : Bool) (A : Option Addr) (zs : List Int) (dl : List BD) (hT : TSK w base xb lv (.slice A N c) dl (· < B0)) (hxB : xb < B0) (hBw : B0 ≤ w.heap.size) (hx : base ≤ xb) (hbs : base ≤ w.heap.size) (hr : Reads w base 1 A N (zs.map (Value.int .u32))) (hz : isU32 zs) (hab : a ≤ b) (hb : b ≤ N) (hN : N ≤ 4000) (hc : N ≤ c) (hd : dl.length ≤ 4096) :
    Calls Try.prog 30 #[.pointer (some ⟨xb, 0, none⟩), .int .i64 a, .int .i64 b] w fun e w' => e = .returned (.int .i64 (restE zs lv a b dl)) ∧ TSK w' base xb lv (.slice A N c) (restD zs lv a b dl) (fun g => g < B0 ∨ w.heap.size ≤ g) ∧ Below base w w' ∧ ∀ b, B0 ≤ b → b < w.heap.size → w'.heap[b]? = w.heap[b]? := by
  by_cases hE : a = b
  · obtain ⟨h1, h2⟩ := restE_0 (zs := zs) (lv := lv) (dl := dl) hE
    rw [h1, h2]
    subst hE
    have HH := Lib.hid hT
    clear hT hr h1 h2
    go_enter Try.func30, Try.ntmps30
    go_wp2
    go_ret
    exact ⟨rfl, HH.out.mono (fun g hg => .inl hg), Below.refl _ _, fun b _ _ => rfl⟩
  · have haN : a < N := by omega
    obtain ⟨ad, rfl, _, _⟩ := i32_at hr haN
    have hsub := Reads.sub_ (a := a) (b := b) hr hb
    have hlen : (cutI zs a b).length = b - a := reads_len hsub
    have hII : ¬ (a : Int) = (b : Int) := by omega
    have h1 : (a : Int) ≤ (b : Int) := by omega
    have h2 : (b : Int) ≤ (c : Int) := by omega
    have h3 : (0 : Int) ≤ (a : Int) := Int.natCast_nonneg _
    have h4 : ¬ c = a := by omega
    have h5 : a ≤ b := hab
    have h6 : b ≤ c := by omega
    obtain ⟨V, xs, hB, hV, hk, hVB⟩ := hT
    have HB0 := Lib.hid (And.intro hVB (And.intro hxB hBw))
    clear hVB hxB hBw
    have k3 : w.cell? ⟨xb, 3, none⟩ = some (.bool lv) := (hB.cell 3).trans rfl
    have k4 : w.cell? ⟨xb, 4, none⟩ = some (.slice (some ad) N c) := (hB.cell 4).trans rfl
    have HH := Lib.hid (And.intro hB (And.intro hV hk))
    have HM := Lib.hid (And.intro hx (And.intro hbs (And.intro hd hE)))
    have HL := Lib.hid hlen
    clear hB hV hk hr
    have HSB := Lib.hid (And.intro hsub (cutI_in hz a b))
    have hba : b - a ≤ 4000 := by omega
    clear hsub hz hN hx hbs hd hE hb hab hlen haN hc
    by_cases hmem : (0 : Int) ∈ cutI zs a b
    · have hev : exV (cutI zs a b) = (0, 0, 5) := if_pos hmem
      have HEX := Lib.hid (show ∀ (W : World) (high : Bool), Below base w W → Calls Try.prog 18 #[.bool high, .slice (some (ad.add a)) (b - a) (c - a)] W fun e w' => ∃ A' m c' xs, e = .returned (.tuple #[.agg #[.int .i64 0, .int .i64 0, .slice A' m c'], .int .i64 5]) ∧ RdP w' (fun b => W.heap.size ≤ b ∧ b < w'.heap.size) 18 A' m xs ∧ BlksAt w' (fun b => W.heap.size ≤ b ∧ b < w'.heap.size) (exL high (cutI zs a b)) xs ∧ Below W.heap.size W w' from fun W high hb' => by
        have h := exact_any W high (some (ad.add a)) (b - a) (c - a) (cutI zs a b) ((HSB.out.1.below hb').more (by have := hb'.size; have := HM.out.2.1; omega)) HSB.out.2 hba
        rw [hev] at h
        exact h)
      have HMEM := Lib.hid hmem
      clear hev hmem
      go_enter Try.func30, Try.ntmps30
      go_upto_region 3 with fail
      refine wp_region_held_drew (S := fun w' => w'.cell? ⟨xb, 3, none⟩ = some (.bool lv) ∧ w'.cell? ⟨xb, 4, none⟩ = some (.slice (some ad) N c)) (by kernel_rfl) ?_ (fun hHeld => ?_)
      · exact ⟨k3, k4⟩
      have HW := Lib.hid (And.intro (show Blk w.drew xb 82 #[.int .i64 1, .int .i64 20, V, .bool lv, .slice (some ad) N c] from HH.out.1) (And.intro (show w.drew.ownsRow base 33 18 V dl.length xs from HH.out.2.1) (And.intro (show BlksAt w.drew (PhiT w.drew base xb V) dl xs from BlksAt.keep (w := w) (w' := w.drew) (φ := PhiT w base xb V) (fun _ _ => rfl) (fun _ h => h) HH.out.2.2) (And.intro (show Below base w w.drew from (Below.refl _ _).drew) (show base ≤ w.drew.heap.size from HM.out.2.1)))))
      have HQW := Lib.hid (show ∀ b, b < w.heap.size → ∀ {w3 : World}, Below w.drew.heap.size w.drew w3 → w3.heap[b]? = w.heap[b]? from fun b hb w3 h => h.block b hb)
      have HSW := Lib.hid (show w.drew.heap.size = w.heap.size from rfl)
      clear k3 k4
      generalize w.drew = W at *
      refine wpAnyH_take (i := 0) (oi := _) (v := ?_) (by simp only [List.getElem?_toArray, List.getElem?_cons_succ, List.getElem?_cons_zero]; rfl) (by kernel_rfl) (by kernel_rfl) (by kernel_rfl) (by intro _ _ _ h; exact h) (Or.inl ⟨by rfl, ?_⟩) (by assumption) ?_
      rotate_left
      · intro w hSw
        try dsimp only at hSw
        obtain ⟨hs3, hs4⟩ := hSw
        go_simp
        try with_reducible rfl
      try simp only [Act.put, List.setIfInBounds_toArray, List.set_cons_zero, List.set_cons_succ]
      refine wpAnyH_take (i := 1) (oi := _) (v := ?_) (by simp only [List.getElem?_toArray, List.getElem?_cons_succ, List.getElem?_cons_zero]; rfl) (by kernel_rfl) (by kernel_rfl) (by kernel_rfl) (by intro _ _ _ h; exact h) (Or.inl ⟨by rfl, ?_⟩) (by assumption) ?_
      rotate_left
      · intro w hSw
        try dsimp only at hSw
        obtain ⟨hs3, hs4⟩ := hSw
        go_simp
        try with_reducible rfl
      try simp only [Act.put, List.setIfInBounds_toArray, List.set_cons_zero, List.set_cons_succ]
      refine wpAnyH_take (i := 2) (oi := _) (v := ?_) (by simp only [List.getElem?_toArray, List.getElem?_cons_succ, List.getElem?_cons_zero]; rfl) (by kernel_rfl) (by kernel_rfl) (by kernel_rfl) (by intro _ _ _ h; exact h) (Or.inl ⟨by rfl, ?_⟩) (by assumption) ?_
      rotate_left
      · intro w hSw
        try dsimp only at hSw
        obtain ⟨hs3, hs4⟩ := hSw
        go_simp
        try with_reducible rfl
      try simp only [Act.put, List.setIfInBounds_toArray, List.set_cons_zero, List.set_cons_succ]
      refine wpAnyH_take (i := 3) (oi := _) (v := ?_) (by simp only [List.getElem?_toArray, List.getElem?_cons_succ, List.getElem?_cons_zero]; rfl) (by kernel_rfl) (by kernel_rfl) (by kernel_rfl) (by intro _ _ _ h; exact h) (Or.inl ⟨by rfl, ?_⟩) (by assumption) ?_
      rotate_left
      · intro w hSw
        try dsimp only at hSw
        obtain ⟨hs3, hs4⟩ := hSw
        go_simp
        try with_reducible rfl
      try simp only [Act.put, List.setIfInBounds_toArray, List.set_cons_zero, List.set_cons_succ]
      refine wpAnyH_take (i := 4) (oi := _) (v := ?_) (by simp only [List.getElem?_toArray, List.getElem?_cons_succ, List.getElem?_cons_zero]; rfl) (by kernel_rfl) (by kernel_rfl) (by kernel_rfl) (by intro _ _ _ h; exact h) (Or.inl ⟨by rfl, ?_⟩) (by assumption) ?_
      rotate_left
      · intro w hSw
        try dsimp only at hSw
        obtain ⟨hs3, hs4⟩ := hSw
        go_simp
        try with_reducible rfl
      try simp only [Act.put, List.setIfInBounds_toArray, List.set_cons_zero, List.set_cons_succ]
      refine wpAnyH_take (i := 5) (oi := _) (v := ?_) (by simp only [List.getElem?_toArray, List.getElem?_cons_succ, List.getElem?_cons_zero]; rfl) (by kernel_rfl) (by kernel_rfl) (by kernel_rfl) (by intro _ _ _ h; exact h) (Or.inl ⟨by rfl, ?_⟩) (by assumption) ?_
      rotate_left
      · intro w hSw
        try dsimp only at hSw
        obtain ⟨hs3, hs4⟩ := hSw
        go_simp
        try with_reducible rfl
      try simp only [Act.put, List.setIfInBounds_toArray, List.set_cons_zero, List.set_cons_succ]
      refine wpAnyH_take (i := 6) (oi := _) (v := ?_) (by simp only [List.getElem?_toArray, List.getElem?_cons_succ, List.getElem?_cons_zero]; rfl) (by kernel_rfl) (by kernel_rfl) (by kernel_rfl) (by intro _ _ _ h; exact h) (Or.inl ⟨by rfl, ?_⟩) (by assumption) ?_
      rotate_left
      · intro w hSw
        try dsimp only at hSw
        obtain ⟨hs3, hs4⟩ := hSw
        go_simp
        try with_reducible rfl
      try simp only [Act.put, List.setIfInBounds_toArray, List.set_cons_zero, List.set_cons_succ]
      refine wpAnyH_take (i := 7) (oi := _) (v := ?_) (by simp only [List.getElem?_toArray, List.getElem?_cons_succ, List.getElem?_cons_zero]; rfl) (by kernel_rfl) (by kernel_rfl) (by kernel_rfl) (by intro _ _ _ h; exact h) (Or.inl ⟨by rfl, ?_⟩) (by assumption) ?_
      rotate_left
      · intro w hSw
        try dsimp only at hSw
        obtain ⟨hs3, hs4⟩ := hSw
        go_simp
        try with_reducible rfl
      try simp only [Act.put, List.setIfInBounds_toArray, List.set_cons_zero, List.set_cons_succ]
      refine wpAnyH_take (i := 8) (oi := _) (v := ?_) (by simp only [List.getElem?_toArray, List.getElem?_cons_succ, List.getElem?_cons_zero]; rfl) (by kernel_rfl) (by kernel_rfl) (by kernel_rfl) (by intro _ _ _ h; exact h) (Or.inl ⟨by rfl, ?_⟩) (by assumption) ?_
      rotate_left
      · intro w hSw
        try dsimp only at hSw
        obtain ⟨hs3, hs4⟩ := hSw
        go_simp
        try with_reducible rfl
      try simp only [Act.put, List.setIfInBounds_toArray, List.set_cons_zero, List.set_cons_succ]
      refine wpAnyH_take (i := 9) (oi := _) (v := ?_) (by simp only [List.getElem?_toArray, List.getElem?_cons_succ, List.getElem?_cons_zero]; rfl) (by kernel_rfl) (by kernel_rfl) (by kernel_rfl) (by intro _ _ _ h; exact h) (Or.inl ⟨by rfl, ?_⟩) (by assumption) ?_
      rotate_left
      · intro w hSw
        try dsimp only at hSw
        obtain ⟨hs3, hs4⟩ := hSw
        go_simp
        try with_reducible rfl
      try simp only [Act.put, List.setIfInBounds_toArray, List.set_cons_zero, List.set_cons_succ]
      refine wpAnyH_take (i := 10) (oi := _) (v := ?_) (by simp only [List.getElem?_toArray, List.getElem?_cons_succ, List.getElem?_cons_zero]; rfl) (by kernel_rfl) (by kernel_rfl) (by kernel_rfl) (by intro _ _ _ h; exact h) (Or.inl ⟨by rfl, ?_⟩) (by assumption) ?_
      rotate_left
      · intro w hSw
        try dsimp only at hSw
        obtain ⟨hs3, hs4⟩ := hSw
        go_simp
        try with_reducible rfl
      try simp only [Act.put, List.setIfInBounds_toArray, List.set_cons_zero, List.set_cons_succ]
      refine wpAnyH_take (i := 11) (oi := _) (v := ?_) (by simp only [List.getElem?_toArray, List.getElem?_cons_succ, List.getElem?_cons_zero]; rfl) (by kernel_rfl) (by kernel_rfl) (by kernel_rfl) (by intro _ _ _ h; exact h) (Or.inl ⟨by rfl, ?_⟩) (by assumption) ?_
      rotate_left
      · intro w hSw
        try dsimp only at hSw
        obtain ⟨hs3, hs4⟩ := hSw
        go_simp
        try with_reducible rfl
      try simp only [Act.put, List.setIfInBounds_toArray, List.set_cons_zero, List.set_cons_succ]
      refine wpAnyH_take (i := 12) (oi := _) (v := ?_) (by simp only [List.getElem?_toArray, List.getElem?_cons_succ, List.getElem?_cons_zero]; rfl) (by kernel_rfl) (by kernel_rfl) (by kernel_rfl) (by intro _ _ _ h; exact h) (Or.inl ⟨by rfl, ?_⟩) (by assumption) ?_
      rotate_left
      · intro w hSw
        try dsimp only at hSw
        obtain ⟨hs3, hs4⟩ := hSw
        go_simp
        try with_reducible rfl
      try simp only [Act.put, List.setIfInBounds_toArray, List.set_cons_zero, List.set_cons_succ]
      refine wpAnyH_take (i := 13) (oi := _) (v := ?_) (by simp only [List.getElem?_toArray, List.getElem?_cons_succ, List.getElem?_cons_zero]; rfl) (by kernel_rfl) (by kernel_rfl) (by kernel_rfl) (by intro _ _ _ h; exact h) (Or.inl ⟨by rfl, ?_⟩) (by assumption) ?_
      rotate_left
      · intro w hSw
        try dsimp only at hSw
        obtain ⟨hs3, hs4⟩ := hSw
        go_simp
        try with_reducible rfl
      try simp only [Act.put, List.setIfInBounds_toArray, List.set_cons_zero, List.set_cons_succ]
      refine wpAnyH_take (i := 14) (oi := _) (v := ?_) (by simp only [List.getElem?_toArray, List.getElem?_cons_succ, List.getElem?_cons_zero]; rfl) (by kernel_rfl) (by kernel_rfl) (by kernel_rfl) (by intro _ _ _ h; exact h) (Or.inl ⟨by rfl, ?_⟩) (by assumption) ?_
      rotate_left
      · intro w hSw
        try dsimp only at hSw
        obtain ⟨hs3, hs4⟩ := hSw
        go_simp
        try with_reducible rfl
      try simp only [Act.put, List.setIfInBounds_toArray, List.set_cons_zero, List.set_cons_succ]
      obtain ⟨hi, hhi⟩ : ∃ hi : Bool, hi = (!(lv == ((a : Int).tmod 2 == 1))) := ⟨_, rfl⟩
      have HHI := Lib.hid hhi
      rw [← hhi]
      clear hhi
      refine wpAnyH_ready (rs := [15, 19]) (by kernel_rfl) (by simp) ?_
      refine AllReadyH.cons (o := _) (by simp only [List.getElem?_toArray, List.getElem?_cons_succ, List.getElem?_cons_zero]; rfl) (fun K hK => ?_) (AllReadyH.cons (o := _) (by simp only [List.getElem?_toArray, List.getElem?_cons_succ, List.getElem?_cons_zero]; rfl) (fun K hK => ?_) AllReadyH.nil)
      · go_simp
        go_wp2_with fail
        refine (HEX.out _ _ HW.out.2.2.2.1).mono ?_
        rintro e w2 ⟨A', m, c', ys, rfl, hRy, hBy, hb2⟩
        have hb2W : Below W.heap.size W w2 := hb2
        have HXB := Lib.hid (HW.out.1.below hb2W HW.out.1.lt)
        refine hK.out _ _ ?_ (fun hHeld => ?_)
        · exact ⟨(HXB.out.cell 3).trans rfl, (HXB.out.cell 4).trans rfl⟩
        clear hK K
        try simp only [Act.put, List.setIfInBounds_toArray, List.set_cons_zero, List.set_cons_succ]
        have HY := Lib.hid (And.intro hRy (And.intro hBy (And.intro hb2 hb2W)))
        clear hRy hBy hb2 hb2W
        refine wpAnyH_take (i := 16) (oi := _) (v := ?_) (by simp only [List.getElem?_toArray, List.getElem?_cons_succ, List.getElem?_cons_zero]; rfl) (by kernel_rfl) (by kernel_rfl) (by kernel_rfl) (by intro _ _ _ h; exact h) (Or.inl ⟨by rfl, ?_⟩) (by assumption) ?_
        rotate_left
        · intro w hSw
          try dsimp only at hSw
          go_simp
          try with_reducible rfl
        try simp only [Act.put, List.setIfInBounds_toArray, List.set_cons_zero, List.set_cons_succ]
        refine wpAnyH_take (i := 17) (oi := _) (v := ?_) (by simp only [List.getElem?_toArray, List.getElem?_cons_succ, List.getElem?_cons_zero]; rfl) (by kernel_rfl) (by kernel_rfl) (by kernel_rfl) (by intro _ _ _ h; exact h) (Or.inl ⟨by rfl, ?_⟩) (by assumption) ?_
        rotate_left
        · intro w hSw
          try dsimp only at hSw
          go_simp
          try with_reducible rfl
        try simp only [Act.put, List.setIfInBounds_toArray, List.set_cons_zero, List.set_cons_succ]
        refine wpAnyH_take (i := 18) (oi := _) (v := ?_) (by simp only [List.getElem?_toArray, List.getElem?_cons_succ, List.getElem?_cons_zero]; rfl) (by kernel_rfl) (by kernel_rfl) (by kernel_rfl) (by intro _ _ _ h; exact h) (Or.inl ⟨by rfl, ?_⟩) (by assumption) ?_
        rotate_left
        · intro w hSw
          try dsimp only at hSw
          go_simp
          try with_reducible rfl
        try simp only [Act.put, List.setIfInBounds_toArray, List.set_cons_zero, List.set_cons_succ]
        refine wpAnyH_ready (rs := [19]) (by kernel_rfl) (by simp) ?_
        refine AllReadyH.cons (o := _) (by simp only [List.getElem?_toArray, List.getElem?_cons_succ, List.getElem?_cons_zero]; rfl) (fun K hK => ?_) AllReadyH.nil
        go_simp
        refine hK.out _ _ ?_ (fun hHeld => ?_)
        · exact ⟨((HXB.out.alloc _).cell 3).trans rfl, ((HXB.out.alloc _).cell 4).trans rfl⟩
        clear hK K
        try simp only [Act.put, List.setIfInBounds_toArray, List.set_cons_zero, List.set_cons_succ]
        refine wpAnyH_ready (rs := [20]) (by kernel_rfl) (by simp) ?_
        refine AllReadyH.cons (o := _) (by simp only [List.getElem?_toArray, List.getElem?_cons_succ, List.getElem?_cons_zero]; rfl) (fun K hK => ?_) AllReadyH.nil
        refine step_store_box rfl 45 _ _ (by rfl) (w2.heap.size) #[.int .i64 0, .int .i64 0, .slice A' m c'] (by rfl) (by rfl) 45 #[.int .i64 0, .int .i64 0, .slice none 0 0] (Blk.new w2 _ _) tape3Info rfl (by simp [Value.oneCell']) ?_
        intro w3 hB3 hg3
        have HX3 := Lib.hid ((HXB.out.alloc _).grown hg3 (fun e => by injection e with e; have := HXB.out.lt; omega))
        refine hK.out _ _ ?_ (fun hHeld => ?_)
        · exact ⟨(HX3.out.cell 3).trans rfl, (HX3.out.cell 4).trans rfl⟩
        clear hK K
        try simp only [Act.put, List.setIfInBounds_toArray, List.set_cons_zero, List.set_cons_succ]
        refine wpAnyH_take (i := 21) (oi := _) (v := ?_) (by simp only [List.getElem?_toArray, List.getElem?_cons_succ, List.getElem?_cons_zero]; rfl) (by kernel_rfl) (by kernel_rfl) (by kernel_rfl) (by intro _ _ _ h; exact h) (Or.inl ⟨by rfl, ?_⟩) (by assumption) ?_
        rotate_left
        · intro w hSw
          try dsimp only at hSw
          go_simp
          try with_reducible rfl
        try simp only [Act.put, List.setIfInBounds_toArray, List.set_cons_zero, List.set_cons_succ]
        refine wpAnyH_done (by kernel_rfl) ?_ _
        have hb3 : Below W.heap.size W w3 := (HY.out.2.2.2.alloc HY.out.2.2.2.size _).grown hg3 (by have := HY.out.2.2.2.size; simp; omega) (fun b hb => by injection hb with hb; have := HY.out.2.2.2.size; omega)
        have hsz3 := hg3.size
        have hk3 : ∀ b, (W.heap.size ≤ b ∧ b < w2.heap.size) → w3.heap[b]? = w2.heap[b]? := fun b hb => (hg3.block b (by simp; omega) (by intro e; injection e with e; omega)).trans (Below.heap_alloc _ _ _ hb.2)
        have hl3 : ∀ b, (W.heap.size ≤ b ∧ b < w2.heap.size) → (W.heap.size ≤ b ∧ b < w3.heap.size) := fun b hb => ⟨hb.1, by simp at hsz3; omega⟩
        have hRy := HY.out.1.keep hk3 hl3
        have hBy := BlksAt.keep hk3 hl3 HY.out.2.1
        have HZ := Lib.hid (And.intro hRy (And.intro hBy hb3))
        clear hRy hBy hb3 hk3 hl3 hsz3 hg3
        clear hB3
        go_wp2
        go_ret
        obtain ⟨q1, q2⟩ := restE_5 (zs := zs) (lv := lv) (dl := dl) HM.out.2.2.2 HMEM.out
        rw [q1, q2]
        have hT3 := TS.tsk ⟨V, xs, HW.out.1, HW.out.2.1, HW.out.2.2.1⟩ HZ.out.2.2
        obtain ⟨V3, xs3, g1, g2, g3, _⟩ := hT3
        exact ⟨rfl, ⟨V, xs, HW.out.1.below HZ.out.2.2 HW.out.1.lt, own_below HW.out.2.1 HZ.out.2.2, BlksAt.keep (fun b hp => HZ.out.2.2.block b hp.2.1) (fun b hp => ⟨hp.1, by have := hp.2.1; have := HZ.out.2.2.size; omega, hp.2.2⟩) HW.out.2.2.1, fun g hg => .inl (HB0.out.1 g hg)⟩, HW.out.2.2.2.1.trans (HZ.out.2.2.mono HW.out.2.2.2.2), fun b _ hb => HQW.out b hb HZ.out.2.2⟩
      · go_simp
        refine hK.out _ _ ?_ (fun hHeld => ?_)
        · exact ⟨((HW.out.1.alloc _).cell 3).trans rfl, ((HW.out.1.alloc _).cell 4).trans rfl⟩
        clear hK K
        try simp only [Act.put, List.setIfInBounds_toArray, List.set_cons_zero, List.set_cons_succ]
        refine wpAnyH_ready (rs := [15]) (by kernel_rfl) (by simp) ?_
        refine AllReadyH.cons (o := _) (by simp only [List.getElem?_toArray, List.getElem?_cons_succ, List.getElem?_cons_zero]; rfl) (fun K hK => ?_) AllReadyH.nil
        go_simp
        go_wp2_with fail
        refine (HEX.out _ _ (HW.out.2.2.2.1.alloc HW.out.2.2.2.2 _)).mono ?_
        rintro e w2 ⟨A', m, c', ys, rfl, hRy, hBy, hb2⟩
        have hb2W : Below W.heap.size W w2 := ((Below.refl _ _).alloc (Nat.le_refl _) _).trans (hb2.mono (by simp))
        have HXB := Lib.hid (HW.out.1.below hb2W HW.out.1.lt)
        refine hK.out _ _ ?_ (fun hHeld => ?_)
        · exact ⟨(HXB.out.cell 3).trans rfl, (HXB.out.cell 4).trans rfl⟩
        clear hK K
        try simp only [Act.put, List.setIfInBounds_toArray, List.set_cons_zero, List.set_cons_succ]
        have HY := Lib.hid (And.intro hRy (And.intro hBy (And.intro hb2 hb2W)))
        clear hRy hBy hb2 hb2W
        refine wpAnyH_take (i := 16) (oi := _) (v := ?_) (by simp only [List.getElem?_toArray, List.getElem?_cons_succ, List.getElem?_cons_zero]; rfl) (by kernel_rfl) (by kernel_rfl) (by kernel_rfl) (by intro _ _ _ h; exact h) (Or.inl ⟨by rfl, ?_⟩) (by assumption) ?_
        rotate_left
        · intro w hSw
          try dsimp only at hSw
          go_simp
          try with_reducible rfl
        try simp only [Act.put, List.setIfInBounds_toArray, List.set_cons_zero, List.set_cons_succ]
        refine wpAnyH_take (i := 17) (oi := _) (v := ?_) (by simp only [List.getElem?_toArray, List.getElem?_cons_succ, List.getElem?_cons_zero]; rfl) (by kernel_rfl) (by kernel_rfl) (by kernel_rfl) (by intro _ _ _ h; exact h) (Or.inl ⟨by rfl, ?_⟩) (by assumption) ?_
        rotate_left
        · intro w hSw
          try dsimp only at hSw
          go_simp
          try with_reducible rfl
        try simp only [Act.put, List.setIfInBounds_toArray, List.set_cons_zero, List.set_cons_succ]
        refine wpAnyH_take (i := 18) (oi := _) (v := ?_) (by simp only [List.getElem?_toArray, List.getElem?_cons_succ, List.getElem?_cons_zero]; rfl) (by kernel_rfl) (by kernel_rfl) (by kernel_rfl) (by intro _ _ _ h; exact h) (Or.inl ⟨by rfl, ?_⟩) (by assumption) ?_
        rotate_left
        · intro w hSw
          try dsimp only at hSw
          go_simp
          try with_reducible rfl
        try simp only [Act.put, List.setIfInBounds_toArray, List.set_cons_zero, List.set_cons_succ]
        refine wpAnyH_ready (rs := [20]) (by kernel_rfl) (by simp) ?_
        refine AllReadyH.cons (o := _) (by simp only [List.getElem?_toArray, List.getElem?_cons_succ, List.getElem?_cons_zero]; rfl) (fun K hK => ?_) AllReadyH.nil
        refine step_store_box rfl 45 _ _ (by rfl) (W.heap.size) #[.int .i64 0, .int .i64 0, .slice A' m c'] (by rfl) (by rfl) 45 #[.int .i64 0, .int .i64 0, .slice none 0 0] ((Blk.new W _ _).below HY.out.2.2.1 (by simp)) tape3Info rfl (by simp [Value.oneCell']) ?_
        intro w3 hB3 hg3
        have HX3 := Lib.hid (HXB.out.grown hg3 (fun e => by injection e with e; have := HW.out.1.lt; omega))
        refine hK.out _ _ ?_ (fun hHeld => ?_)
        · exact ⟨(HX3.out.cell 3).trans rfl, (HX3.out.cell 4).trans rfl⟩
        clear hK K
        try simp only [Act.put, List.setIfInBounds_toArray, List.set_cons_zero, List.set_cons_succ]
        refine wpAnyH_take (i := 21) (oi := _) (v := ?_) (by simp only [List.getElem?_toArray, List.getElem?_cons_succ, List.getElem?_cons_zero]; rfl) (by kernel_rfl) (by kernel_rfl) (by kernel_rfl) (by intro _ _ _ h; exact h) (Or.inl ⟨by rfl, ?_⟩) (by assumption) ?_
        rotate_left
        · intro w hSw
          try dsimp only at hSw
          go_simp
          try with_reducible rfl
        try simp only [Act.put, List.setIfInBounds_toArray, List.set_cons_zero, List.set_cons_succ]
        refine wpAnyH_done (by kernel_rfl) ?_ _
        have hb3 : Below W.heap.size W w3 := HY.out.2.2.2.grown hg3 HY.out.2.2.2.size (fun b hb => by injection hb with hb; omega)
        have hsz3 := hg3.size
        have hsA : (W.alloc (.cells #[.int .i64 0, .int .i64 0, .slice none 0 0] 45)).heap.size = W.heap.size + 1 := by simp
        have hk3 : ∀ b, ((W.alloc (.cells #[.int .i64 0, .int .i64 0, .slice none 0 0] 45)).heap.size ≤ b ∧ b < w2.heap.size) → w3.heap[b]? = w2.heap[b]? := fun b hb => hg3.block b hb.2 (by intro e; injection e with e; omega)
        have hl3 : ∀ b, ((W.alloc (.cells #[.int .i64 0, .int .i64 0, .slice none 0 0] 45)).heap.size ≤ b ∧ b < w2.heap.size) → (W.heap.size ≤ b ∧ b < w3.heap.size) := fun b hb => ⟨by omega, by omega⟩
        have hRy := HY.out.1.keep hk3 hl3
        have hBy := BlksAt.keep hk3 hl3 HY.out.2.1
        have HZ := Lib.hid (And.intro hRy (And.intro hBy hb3))
        clear hRy hBy hb3 hk3 hl3 hsz3 hg3
        clear hB3
        go_wp2
        go_ret
        obtain ⟨q1, q2⟩ := restE_5 (zs := zs) (lv := lv) (dl := dl) HM.out.2.2.2 HMEM.out
        rw [q1, q2]
        have hT3 := TS.tsk ⟨V, xs, HW.out.1, HW.out.2.1, HW.out.2.2.1⟩ HZ.out.2.2
        obtain ⟨V3, xs3, g1, g2, g3, _⟩ := hT3
        exact ⟨rfl, ⟨V, xs, HW.out.1.below HZ.out.2.2 HW.out.1.lt, own_below HW.out.2.1 HZ.out.2.2, BlksAt.keep (fun b hp => HZ.out.2.2.block b hp.2.1) (fun b hp => ⟨hp.1, by have := hp.2.1; have := HZ.out.2.2.size; omega, hp.2.2⟩) HW.out.2.2.1, fun g hg => .inl (HB0.out.1 g hg)⟩, HW.out.2.2.2.1.trans (HZ.out.2.2.mono HW.out.2.2.2.2), fun b _ hb => HQW.out b hb HZ.out.2.2⟩
    · have hev : exV (cutI zs a b) = (1, 20, 0) := if_neg hmem
      have HEX := Lib.hid (show ∀ (W : World) (high : Bool), Below base w W → Calls Try.prog 18 #[.bool high, .slice (some (ad.add a)) (b - a) (c - a)] W fun e w' => ∃ A' m c' xs, e = .returned (.tuple #[.agg #[.int .i64 1, .int .i64 20, .slice A' m c'], .int .i64 0]) ∧ RdP w' (fun b => W.heap.size ≤ b ∧ b < w'.heap.size) 18 A' m xs ∧ BlksAt w' (fun b => W.heap.size ≤ b ∧ b < w'.heap.size) (exL high (cutI zs a b)) xs ∧ Below W.heap.size W w' from fun W high hb' => by
        have h := exact_any W high (some (ad.add a)) (b - a) (c - a) (cutI zs a b) ((HSB.out.1.below hb').more (by have := hb'.size; have := HM.out.2.1; omega)) HSB.out.2 hba
        rw [hev] at h
        exact h)
      have HMEM := Lib.hid hmem
      clear hev hmem
      go_enter Try.func30, Try.ntmps30
      go_upto_region 3 with fail
      refine wp_region_held_drew (S := fun w' => w'.cell? ⟨xb, 3, none⟩ = some (.bool lv) ∧ w'.cell? ⟨xb, 4, none⟩ = some (.slice (some ad) N c)) (by kernel_rfl) ?_ (fun hHeld => ?_)
      · exact ⟨k3, k4⟩
      have HW := Lib.hid (And.intro (show Blk w.drew xb 82 #[.int .i64 1, .int .i64 20, V, .bool lv, .slice (some ad) N c] from HH.out.1) (And.intro (show w.drew.ownsRow base 33 18 V dl.length xs from HH.out.2.1) (And.intro (show BlksAt w.drew (PhiT w.drew base xb V) dl xs from BlksAt.keep (w := w) (w' := w.drew) (φ := PhiT w base xb V) (fun _ _ => rfl) (fun _ h => h) HH.out.2.2) (And.intro (show Below base w w.drew from (Below.refl _ _).drew) (show base ≤ w.drew.heap.size from HM.out.2.1)))))
      have HQW := Lib.hid (show ∀ b, b < w.heap.size → ∀ {w3 : World}, Below w.drew.heap.size w.drew w3 → w3.heap[b]? = w.heap[b]? from fun b hb w3 h => h.block b hb)
      have HSW := Lib.hid (show w.drew.heap.size = w.heap.size from rfl)
      clear k3 k4
      generalize w.drew = W at *
      refine wpAnyH_take (i := 0) (oi := _) (v := ?_) (by simp only [List.getElem?_toArray, List.getElem?_cons_succ, List.getElem?_cons_zero]; rfl) (by kernel_rfl) (by kernel_rfl) (by kernel_rfl) (by intro _ _ _ h; exact h) (Or.inl ⟨by rfl, ?_⟩) (by assumption) ?_
      rotate_left
      · intro w hSw
        try dsimp only at hSw
        obtain ⟨hs3, hs4⟩ := hSw
        go_simp
        try with_reducible rfl
      try simp only [Act.put, List.setIfInBounds_toArray, List.set_cons_zero, List.set_cons_succ]
      refine wpAnyH_take (i := 1) (oi := _) (v := ?_) (by simp only [List.getElem?_toArray, List.getElem?_cons_succ, List.getElem?_cons_zero]; rfl) (by kernel_rfl) (by kernel_rfl) (by kernel_rfl) (by intro _ _ _ h; exact h) (Or.inl ⟨by rfl, ?_⟩) (by assumption) ?_
      rotate_left
      · intro w hSw
        try dsimp only at hSw
        obtain ⟨hs3, hs4⟩ := hSw
        go_simp
        try with_reducible rfl
      try simp only [Act.put, List.setIfInBounds_toArray, List.set_cons_zero, List.set_cons_succ]
      refine wpAnyH_take (i := 2) (oi := _) (v := ?_) (by simp only [List.getElem?_toArray, List.getElem?_cons_succ, List.getElem?_cons_zero]; rfl) (by kernel_rfl) (by kernel_rfl) (by kernel_rfl) (by intro _ _ _ h; exact h) (Or.inl ⟨by rfl, ?_⟩) (by assumption) ?_
      rotate_left
      · intro w hSw
        try dsimp only at hSw
        obtain ⟨hs3, hs4⟩ := hSw
        go_simp
        try with_reducible rfl
      try simp only [Act.put, List.setIfInBounds_toArray, List.set_cons_zero, List.set_cons_succ]
      refine wpAnyH_take (i := 3) (oi := _) (v := ?_) (by simp only [List.getElem?_toArray, List.getElem?_cons_succ, List.getElem?_cons_zero]; rfl) (by kernel_rfl) (by kernel_rfl) (by kernel_rfl) (by intro _ _ _ h; exact h) (Or.inl ⟨by rfl, ?_⟩) (by assumption) ?_
      rotate_left
      · intro w hSw
        try dsimp only at hSw
        obtain ⟨hs3, hs4⟩ := hSw
        go_simp
        try with_reducible rfl
      try simp only [Act.put, List.setIfInBounds_toArray, List.set_cons_zero, List.set_cons_succ]
      refine wpAnyH_take (i := 4) (oi := _) (v := ?_) (by simp only [List.getElem?_toArray, List.getElem?_cons_succ, List.getElem?_cons_zero]; rfl) (by kernel_rfl) (by kernel_rfl) (by kernel_rfl) (by intro _ _ _ h; exact h) (Or.inl ⟨by rfl, ?_⟩) (by assumption) ?_
      rotate_left
      · intro w hSw
        try dsimp only at hSw
        obtain ⟨hs3, hs4⟩ := hSw
        go_simp
        try with_reducible rfl
      try simp only [Act.put, List.setIfInBounds_toArray, List.set_cons_zero, List.set_cons_succ]
      refine wpAnyH_take (i := 5) (oi := _) (v := ?_) (by simp only [List.getElem?_toArray, List.getElem?_cons_succ, List.getElem?_cons_zero]; rfl) (by kernel_rfl) (by kernel_rfl) (by kernel_rfl) (by intro _ _ _ h; exact h) (Or.inl ⟨by rfl, ?_⟩) (by assumption) ?_
      rotate_left
      · intro w hSw
        try dsimp only at hSw
        obtain ⟨hs3, hs4⟩ := hSw
        go_simp
        try with_reducible rfl
      try simp only [Act.put, List.setIfInBounds_toArray, List.set_cons_zero, List.set_cons_succ]
      refine wpAnyH_take (i := 6) (oi := _) (v := ?_) (by simp only [List.getElem?_toArray, List.getElem?_cons_succ, List.getElem?_cons_zero]; rfl) (by kernel_rfl) (by kernel_rfl) (by kernel_rfl) (by intro _ _ _ h; exact h) (Or.inl ⟨by rfl, ?_⟩) (by assumption) ?_
      rotate_left
      · intro w hSw
        try dsimp only at hSw
        obtain ⟨hs3, hs4⟩ := hSw
        go_simp
        try with_reducible rfl
      try simp only [Act.put, List.setIfInBounds_toArray, List.set_cons_zero, List.set_cons_succ]
      refine wpAnyH_take (i := 7) (oi := _) (v := ?_) (by simp only [List.getElem?_toArray, List.getElem?_cons_succ, List.getElem?_cons_zero]; rfl) (by kernel_rfl) (by kernel_rfl) (by kernel_rfl) (by intro _ _ _ h; exact h) (Or.inl ⟨by rfl, ?_⟩) (by assumption) ?_
      rotate_left
      · intro w hSw
        try dsimp only at hSw
        obtain ⟨hs3, hs4⟩ := hSw
        go_simp
        try with_reducible rfl
      try simp only [Act.put, List.setIfInBounds_toArray, List.set_cons_zero, List.set_cons_succ]
      refine wpAnyH_take (i := 8) (oi := _) (v := ?_) (by simp only [List.getElem?_toArray, List.getElem?_cons_succ, List.getElem?_cons_zero]; rfl) (by kernel_rfl) (by kernel_rfl) (by kernel_rfl) (by intro _ _ _ h; exact h) (Or.inl ⟨by rfl, ?_⟩) (by assumption) ?_
      rotate_left
      · intro w hSw
        try dsimp only at hSw
        obtain ⟨hs3, hs4⟩ := hSw
        go_simp
        try with_reducible rfl
      try simp only [Act.put, List.setIfInBounds_toArray, List.set_cons_zero, List.set_cons_succ]
      refine wpAnyH_take (i := 9) (oi := _) (v := ?_) (by simp only [List.getElem?_toArray, List.getElem?_cons_succ, List.getElem?_cons_zero]; rfl) (by kernel_rfl) (by kernel_rfl) (by kernel_rfl) (by intro _ _ _ h; exact h) (Or.inl ⟨by rfl, ?_⟩) (by assumption) ?_
      rotate_left
      · intro w hSw
        try dsimp only at hSw
        obtain ⟨hs3, hs4⟩ := hSw
        go_simp
        try with_reducible rfl
      try simp only [Act.put, List.setIfInBounds_toArray, List.set_cons_zero, List.set_cons_succ]
      refine wpAnyH_take (i := 10) (oi := _) (v := ?_) (by simp only [List.getElem?_toArray, List.getElem?_cons_succ, List.getElem?_cons_zero]; rfl) (by kernel_rfl) (by kernel_rfl) (by kernel_rfl) (by intro _ _ _ h; exact h) (Or.inl ⟨by rfl, ?_⟩) (by assumption) ?_
      rotate_left
      · intro w hSw
        try dsimp only at hSw
        obtain ⟨hs3, hs4⟩ := hSw
        go_simp
        try with_reducible rfl
      try simp only [Act.put, List.setIfInBounds_toArray, List.set_cons_zero, List.set_cons_succ]
      refine wpAnyH_take (i := 11) (oi := _) (v := ?_) (by simp only [List.getElem?_toArray, List.getElem?_cons_succ, List.getElem?_cons_zero]; rfl) (by kernel_rfl) (by kernel_rfl) (by kernel_rfl) (by intro _ _ _ h; exact h) (Or.inl ⟨by rfl, ?_⟩) (by assumption) ?_
      rotate_left
      · intro w hSw
        try dsimp only at hSw
        obtain ⟨hs3, hs4⟩ := hSw
        go_simp
        try with_reducible rfl
      try simp only [Act.put, List.setIfInBounds_toArray, List.set_cons_zero, List.set_cons_succ]
      refine wpAnyH_take (i := 12) (oi := _) (v := ?_) (by simp only [List.getElem?_toArray, List.getElem?_cons_succ, List.getElem?_cons_zero]; rfl) (by kernel_rfl) (by kernel_rfl) (by kernel_rfl) (by intro _ _ _ h; exact h) (Or.inl ⟨by rfl, ?_⟩) (by assumption) ?_
      rotate_left
      · intro w hSw
        try dsimp only at hSw
        obtain ⟨hs3, hs4⟩ := hSw
        go_simp
        try with_reducible rfl
      try simp only [Act.put, List.setIfInBounds_toArray, List.set_cons_zero, List.set_cons_succ]
      refine wpAnyH_take (i := 13) (oi := _) (v := ?_) (by simp only [List.getElem?_toArray, List.getElem?_cons_succ, List.getElem?_cons_zero]; rfl) (by kernel_rfl) (by kernel_rfl) (by kernel_rfl) (by intro _ _ _ h; exact h) (Or.inl ⟨by rfl, ?_⟩) (by assumption) ?_
      rotate_left
      · intro w hSw
        try dsimp only at hSw
        obtain ⟨hs3, hs4⟩ := hSw
        go_simp
        try with_reducible rfl
      try simp only [Act.put, List.setIfInBounds_toArray, List.set_cons_zero, List.set_cons_succ]
      refine wpAnyH_take (i := 14) (oi := _) (v := ?_) (by simp only [List.getElem?_toArray, List.getElem?_cons_succ, List.getElem?_cons_zero]; rfl) (by kernel_rfl) (by kernel_rfl) (by kernel_rfl) (by intro _ _ _ h; exact h) (Or.inl ⟨by rfl, ?_⟩) (by assumption) ?_
      rotate_left
      · intro w hSw
        try dsimp only at hSw
        obtain ⟨hs3, hs4⟩ := hSw
        go_simp
        try with_reducible rfl
      try simp only [Act.put, List.setIfInBounds_toArray, List.set_cons_zero, List.set_cons_succ]
      obtain ⟨hi, hhi⟩ : ∃ hi : Bool, hi = (!(lv == ((a : Int).tmod 2 == 1))) := ⟨_, rfl⟩
      have HHI := Lib.hid hhi
      rw [← hhi]
      clear hhi
      refine wpAnyH_ready (rs := [15, 19]) (by kernel_rfl) (by simp) ?_
      refine AllReadyH.cons (o := _) (by simp only [List.getElem?_toArray, List.getElem?_cons_succ, List.getElem?_cons_zero]; rfl) (fun K hK => ?_) (AllReadyH.cons (o := _) (by simp only [List.getElem?_toArray, List.getElem?_cons_succ, List.getElem?_cons_zero]; rfl) (fun K hK => ?_) AllReadyH.nil)
      · go_simp
        go_wp2_with fail
        refine (HEX.out _ _ HW.out.2.2.2.1).mono ?_
        rintro e w2 ⟨A', m, c', ys, rfl, hRy, hBy, hb2⟩
        have hb2W : Below W.heap.size W w2 := hb2
        have HXB := Lib.hid (HW.out.1.below hb2W HW.out.1.lt)
        refine hK.out _ _ ?_ (fun hHeld => ?_)
        · exact ⟨(HXB.out.cell 3).trans rfl, (HXB.out.cell 4).trans rfl⟩
        clear hK K
        try simp only [Act.put, List.setIfInBounds_toArray, List.set_cons_zero, List.set_cons_succ]
        have HY := Lib.hid (And.intro hRy (And.intro hBy (And.intro hb2 hb2W)))
        clear hRy hBy hb2 hb2W
        refine wpAnyH_take (i := 16) (oi := _) (v := ?_) (by simp only [List.getElem?_toArray, List.getElem?_cons_succ, List.getElem?_cons_zero]; rfl) (by kernel_rfl) (by kernel_rfl) (by kernel_rfl) (by intro _ _ _ h; exact h) (Or.inl ⟨by rfl, ?_⟩) (by assumption) ?_
        rotate_left
        · intro w hSw
          try dsimp only at hSw
          go_simp
          try with_reducible rfl
        try simp only [Act.put, List.setIfInBounds_toArray, List.set_cons_zero, List.set_cons_succ]
        refine wpAnyH_take (i := 17) (oi := _) (v := ?_) (by simp only [List.getElem?_toArray, List.getElem?_cons_succ, List.getElem?_cons_zero]; rfl) (by kernel_rfl) (by kernel_rfl) (by kernel_rfl) (by intro _ _ _ h; exact h) (Or.inl ⟨by rfl, ?_⟩) (by assumption) ?_
        rotate_left
        · intro w hSw
          try dsimp only at hSw
          go_simp
          try with_reducible rfl
        try simp only [Act.put, List.setIfInBounds_toArray, List.set_cons_zero, List.set_cons_succ]
        refine wpAnyH_take (i := 18) (oi := _) (v := ?_) (by simp only [List.getElem?_toArray, List.getElem?_cons_succ, List.getElem?_cons_zero]; rfl) (by kernel_rfl) (by kernel_rfl) (by kernel_rfl) (by intro _ _ _ h; exact h) (Or.inl ⟨by rfl, ?_⟩) (by assumption) ?_
        rotate_left
        · intro w hSw
          try dsimp only at hSw
          go_simp
          try with_reducible rfl
        try simp only [Act.put, List.setIfInBounds_toArray, List.set_cons_zero, List.set_cons_succ]
        refine wpAnyH_ready (rs := [19]) (by kernel_rfl) (by simp) ?_
        refine AllReadyH.cons (o := _) (by simp only [List.getElem?_toArray, List.getElem?_cons_succ, List.getElem?_cons_zero]; rfl) (fun K hK => ?_) AllReadyH.nil
        go_simp
        refine hK.out _ _ ?_ (fun hHeld => ?_)
        · exact ⟨((HXB.out.alloc _).cell 3).trans rfl, ((HXB.out.alloc _).cell 4).trans rfl⟩
        clear hK K
        try simp only [Act.put, List.setIfInBounds_toArray, List.set_cons_zero, List.set_cons_succ]
        refine wpAnyH_ready (rs := [20]) (by kernel_rfl) (by simp) ?_
        refine AllReadyH.cons (o := _) (by simp only [List.getElem?_toArray, List.getElem?_cons_succ, List.getElem?_cons_zero]; rfl) (fun K hK => ?_) AllReadyH.nil
        refine step_store_box rfl 45 _ _ (by rfl) (w2.heap.size) #[.int .i64 1, .int .i64 20, .slice A' m c'] (by rfl) (by rfl) 45 #[.int .i64 0, .int .i64 0, .slice none 0 0] (Blk.new w2 _ _) tape3Info rfl (by simp [Value.oneCell']) ?_
        intro w3 hB3 hg3
        have HX3 := Lib.hid ((HXB.out.alloc _).grown hg3 (fun e => by injection e with e; have := HXB.out.lt; omega))
        refine hK.out _ _ ?_ (fun hHeld => ?_)
        · exact ⟨(HX3.out.cell 3).trans rfl, (HX3.out.cell 4).trans rfl⟩
        clear hK K
        try simp only [Act.put, List.setIfInBounds_toArray, List.set_cons_zero, List.set_cons_succ]
        refine wpAnyH_take (i := 21) (oi := _) (v := ?_) (by simp only [List.getElem?_toArray, List.getElem?_cons_succ, List.getElem?_cons_zero]; rfl) (by kernel_rfl) (by kernel_rfl) (by kernel_rfl) (by intro _ _ _ h; exact h) (Or.inl ⟨by rfl, ?_⟩) (by assumption) ?_
        rotate_left
        · intro w hSw
          try dsimp only at hSw
          go_simp
          try with_reducible rfl
        try simp only [Act.put, List.setIfInBounds_toArray, List.set_cons_zero, List.set_cons_succ]
        refine wpAnyH_done (by kernel_rfl) ?_ _
        have hb3 : Below W.heap.size W w3 := (HY.out.2.2.2.alloc HY.out.2.2.2.size _).grown hg3 (by have := HY.out.2.2.2.size; simp; omega) (fun b hb => by injection hb with hb; have := HY.out.2.2.2.size; omega)
        have hsz3 := hg3.size
        have hk3 : ∀ b, (W.heap.size ≤ b ∧ b < w2.heap.size) → w3.heap[b]? = w2.heap[b]? := fun b hb => (hg3.block b (by simp; omega) (by intro e; injection e with e; omega)).trans (Below.heap_alloc _ _ _ hb.2)
        have hl3 : ∀ b, (W.heap.size ≤ b ∧ b < w2.heap.size) → (W.heap.size ≤ b ∧ b < w3.heap.size) := fun b hb => ⟨hb.1, by simp at hsz3; omega⟩
        have hRy := HY.out.1.keep hk3 hl3
        have hBy := BlksAt.keep hk3 hl3 HY.out.2.1
        have HZ := Lib.hid (And.intro hRy (And.intro hBy hb3))
        clear hRy hBy hb3 hk3 hl3 hsz3 hg3
        have hs3 := HZ.out.2.2.size
        have hWs := HW.out.2.2.2.2
        have hxl := HW.out.1.lt
        have hcb : w3.cell? ⟨w2.heap.size, 2, none⟩ = some (.slice A' m c') := (hB3.cell 2).trans rfl
        have hV3 := own_below HW.out.2.1 HZ.out.2.2
        have hk3 : BlksAt w3 (PhiT w3 base xb V) dl xs := BlksAt.keep (fun b hp => HZ.out.2.2.block b hp.2.1) (fun b hp => ⟨hp.1, by have := hp.2.1; omega, hp.2.2⟩) HW.out.2.2.1
        have hy3 : BlksAt w3 (PhiT w3 base xb V) (exL hi (cutI zs a b)) ys := BlksAt.keep (fun b _ => rfl) (fun b hp => ⟨by omega, hp.2, by omega, fun e => by have := (HW.out.2.1.lt b e).2; omega⟩) HZ.out.2.1
        have hml : m = (exL hi (cutI zs a b)).length := by have x := HZ.out.1.1; have y := hy3.len; omega
        have hmb : m ≤ 10000 := by have := exL_len hi (cutI zs a b); have := HL.out; omega
        have hp := put_any w3 base xb lv (.slice (some ad) N c) V dl.length m c' A' xs ys HX3.out hV3 (HZ.out.1.reads (fun b hp => hp.2)) HZ.out.2.1.one HM.out.2.2.1 hmb (by omega)
        have HK3 := Lib.hid (And.intro hV3 (And.intro hk3 (And.intro hy3 hml)))
        clear hB3 hV3 hk3 hy3 hml hs3 hWs hxl
        go_wp2_with fail
        refine hp.mono ?_
        rintro e w4 hO
        obtain ⟨he, hTS, hbl, hkp⟩ := ts_put HX3.out HK3.out.1 HK3.out.2.1 HK3.out.2.2.1 HK3.out.2.2.2 HM.out.1 (by have := HZ.out.2.2.size; have := HW.out.2.2.2.2; omega) hO
        obtain ⟨ev, hev⟩ : ∃ ev : Int, ev = if 4096 < dl.length + (exL hi (cutI zs a b)).length then 8 else 0 := ⟨_, rfl⟩
        rw [← hev] at he
        subst he
        have HQ := Lib.hid (And.intro hTS (And.intro hbl hev))
        have HKP := Lib.hid hkp
        clear hTS hbl hev hO hp hcb hkp
        go_wp2
        go_ret
        obtain ⟨q1, q2⟩ := restE_8 (zs := zs) (lv := lv) (dl := dl) HM.out.2.2.2 HMEM.out
        have hr : restL lv zs a b = exL hi (cutI zs a b) := by unfold restL; rw [HHI.out, odd_eq]
        rw [q1, q2, hr, ← HQ.out.2.2]
        have hs3 := HZ.out.2.2.size
        have hB0 := HB0.out
        have hsw := HSW.out
        exact ⟨rfl, HQ.out.1.mono (fun g hg => by rcases hg with hg | hg; exact .inl (hB0.1 g hg); exact .inr (by omega)), (HW.out.2.2.2.1.trans (HZ.out.2.2.mono HW.out.2.2.2.2)).trans HQ.out.2.1, fun b hb1 hb2 => (HKP.out b (by omega) (by omega) (fun e => by have := hB0.1 b e; omega)).trans (HQW.out b hb2 HZ.out.2.2)⟩
      · go_simp
        refine hK.out _ _ ?_ (fun hHeld => ?_)
        · exact ⟨((HW.out.1.alloc _).cell 3).trans rfl, ((HW.out.1.alloc _).cell 4).trans rfl⟩
        clear hK K
        try simp only [Act.put, List.setIfInBounds_toArray, List.set_cons_zero, List.set_cons_succ]
        refine wpAnyH_ready (rs := [15]) (by kernel_rfl) (by simp) ?_
        refine AllReadyH.cons (o := _) (by simp only [List.getElem?_toArray, List.getElem?_cons_succ, List.getElem?_cons_zero]; rfl) (fun K hK => ?_) AllReadyH.nil
        go_simp
        go_wp2_with fail
        refine (HEX.out _ _ (HW.out.2.2.2.1.alloc HW.out.2.2.2.2 _)).mono ?_
        rintro e w2 ⟨A', m, c', ys, rfl, hRy, hBy, hb2⟩
        have hb2W : Below W.heap.size W w2 := ((Below.refl _ _).alloc (Nat.le_refl _) _).trans (hb2.mono (by simp))
        have HXB := Lib.hid (HW.out.1.below hb2W HW.out.1.lt)
        refine hK.out _ _ ?_ (fun hHeld => ?_)
        · exact ⟨(HXB.out.cell 3).trans rfl, (HXB.out.cell 4).trans rfl⟩
        clear hK K
        try simp only [Act.put, List.setIfInBounds_toArray, List.set_cons_zero, List.set_cons_succ]
        have HY := Lib.hid (And.intro hRy (And.intro hBy (And.intro hb2 hb2W)))
        clear hRy hBy hb2 hb2W
        refine wpAnyH_take (i := 16) (oi := _) (v := ?_) (by simp only [List.getElem?_toArray, List.getElem?_cons_succ, List.getElem?_cons_zero]; rfl) (by kernel_rfl) (by kernel_rfl) (by kernel_rfl) (by intro _ _ _ h; exact h) (Or.inl ⟨by rfl, ?_⟩) (by assumption) ?_
        rotate_left
        · intro w hSw
          try dsimp only at hSw
          go_simp
          try with_reducible rfl
        try simp only [Act.put, List.setIfInBounds_toArray, List.set_cons_zero, List.set_cons_succ]
        refine wpAnyH_take (i := 17) (oi := _) (v := ?_) (by simp only [List.getElem?_toArray, List.getElem?_cons_succ, List.getElem?_cons_zero]; rfl) (by kernel_rfl) (by kernel_rfl) (by kernel_rfl) (by intro _ _ _ h; exact h) (Or.inl ⟨by rfl, ?_⟩) (by assumption) ?_
        rotate_left
        · intro w hSw
          try dsimp only at hSw
          go_simp
          try with_reducible rfl
        try simp only [Act.put, List.setIfInBounds_toArray, List.set_cons_zero, List.set_cons_succ]
        refine wpAnyH_take (i := 18) (oi := _) (v := ?_) (by simp only [List.getElem?_toArray, List.getElem?_cons_succ, List.getElem?_cons_zero]; rfl) (by kernel_rfl) (by kernel_rfl) (by kernel_rfl) (by intro _ _ _ h; exact h) (Or.inl ⟨by rfl, ?_⟩) (by assumption) ?_
        rotate_left
        · intro w hSw
          try dsimp only at hSw
          go_simp
          try with_reducible rfl
        try simp only [Act.put, List.setIfInBounds_toArray, List.set_cons_zero, List.set_cons_succ]
        refine wpAnyH_ready (rs := [20]) (by kernel_rfl) (by simp) ?_
        refine AllReadyH.cons (o := _) (by simp only [List.getElem?_toArray, List.getElem?_cons_succ, List.getElem?_cons_zero]; rfl) (fun K hK => ?_) AllReadyH.nil
        refine step_store_box rfl 45 _ _ (by rfl) (W.heap.size) #[.int .i64 1, .int .i64 20, .slice A' m c'] (by rfl) (by rfl) 45 #[.int .i64 0, .int .i64 0, .slice none 0 0] ((Blk.new W _ _).below HY.out.2.2.1 (by simp)) tape3Info rfl (by simp [Value.oneCell']) ?_
        intro w3 hB3 hg3
        have HX3 := Lib.hid (HXB.out.grown hg3 (fun e => by injection e with e; have := HW.out.1.lt; omega))
        refine hK.out _ _ ?_ (fun hHeld => ?_)
        · exact ⟨(HX3.out.cell 3).trans rfl, (HX3.out.cell 4).trans rfl⟩
        clear hK K
        try simp only [Act.put, List.setIfInBounds_toArray, List.set_cons_zero, List.set_cons_succ]
        refine wpAnyH_take (i := 21) (oi := _) (v := ?_) (by simp only [List.getElem?_toArray, List.getElem?_cons_succ, List.getElem?_cons_zero]; rfl) (by kernel_rfl) (by kernel_rfl) (by kernel_rfl) (by intro _ _ _ h; exact h) (Or.inl ⟨by rfl, ?_⟩) (by assumption) ?_
        rotate_left
        · intro w hSw
          try dsimp only at hSw
          go_simp
          try with_reducible rfl
        try simp only [Act.put, List.setIfInBounds_toArray, List.set_cons_zero, List.set_cons_succ]
        refine wpAnyH_done (by kernel_rfl) ?_ _
        have hb3 : Below W.heap.size W w3 := HY.out.2.2.2.grown hg3 HY.out.2.2.2.size (fun b hb => by injection hb with hb; omega)
        have hsz3 := hg3.size
        have hsA : (W.alloc (.cells #[.int .i64 0, .int .i64 0, .slice none 0 0] 45)).heap.size = W.heap.size + 1 := by simp
        have hk3 : ∀ b, ((W.alloc (.cells #[.int .i64 0, .int .i64 0, .slice none 0 0] 45)).heap.size ≤ b ∧ b < w2.heap.size) → w3.heap[b]? = w2.heap[b]? := fun b hb => hg3.block b hb.2 (by intro e; injection e with e; omega)
        have hl3 : ∀ b, ((W.alloc (.cells #[.int .i64 0, .int .i64 0, .slice none 0 0] 45)).heap.size ≤ b ∧ b < w2.heap.size) → (W.heap.size ≤ b ∧ b < w3.heap.size) := fun b hb => ⟨by omega, by omega⟩
        have hRy := HY.out.1.keep hk3 hl3
        have hBy := BlksAt.keep hk3 hl3 HY.out.2.1
        have HZ := Lib.hid (And.intro hRy (And.intro hBy hb3))
        clear hRy hBy hb3 hk3 hl3 hsz3 hg3
        have hs3 := HZ.out.2.2.size
        have hWs := HW.out.2.2.2.2
        have hxl := HW.out.1.lt
        have hcb : w3.cell? ⟨W.heap.size, 2, none⟩ = some (.slice A' m c') := (hB3.cell 2).trans rfl
        have hV3 := own_below HW.out.2.1 HZ.out.2.2
        have hk3 : BlksAt w3 (PhiT w3 base xb V) dl xs := BlksAt.keep (fun b hp => HZ.out.2.2.block b hp.2.1) (fun b hp => ⟨hp.1, by have := hp.2.1; omega, hp.2.2⟩) HW.out.2.2.1
        have hy3 : BlksAt w3 (PhiT w3 base xb V) (exL hi (cutI zs a b)) ys := BlksAt.keep (fun b _ => rfl) (fun b hp => ⟨by omega, hp.2, by omega, fun e => by have := (HW.out.2.1.lt b e).2; omega⟩) HZ.out.2.1
        have hml : m = (exL hi (cutI zs a b)).length := by have x := HZ.out.1.1; have y := hy3.len; omega
        have hmb : m ≤ 10000 := by have := exL_len hi (cutI zs a b); have := HL.out; omega
        have hp := put_any w3 base xb lv (.slice (some ad) N c) V dl.length m c' A' xs ys HX3.out hV3 (HZ.out.1.reads (fun b hp => hp.2)) HZ.out.2.1.one HM.out.2.2.1 hmb (by omega)
        have HK3 := Lib.hid (And.intro hV3 (And.intro hk3 (And.intro hy3 hml)))
        clear hB3 hV3 hk3 hy3 hml hs3 hWs hxl
        go_wp2_with fail
        refine hp.mono ?_
        rintro e w4 hO
        obtain ⟨he, hTS, hbl, hkp⟩ := ts_put HX3.out HK3.out.1 HK3.out.2.1 HK3.out.2.2.1 HK3.out.2.2.2 HM.out.1 (by have := HZ.out.2.2.size; have := HW.out.2.2.2.2; omega) hO
        obtain ⟨ev, hev⟩ : ∃ ev : Int, ev = if 4096 < dl.length + (exL hi (cutI zs a b)).length then 8 else 0 := ⟨_, rfl⟩
        rw [← hev] at he
        subst he
        have HQ := Lib.hid (And.intro hTS (And.intro hbl hev))
        have HKP := Lib.hid hkp
        clear hTS hbl hev hO hp hcb hkp
        go_wp2
        go_ret
        obtain ⟨q1, q2⟩ := restE_8 (zs := zs) (lv := lv) (dl := dl) HM.out.2.2.2 HMEM.out
        have hr : restL lv zs a b = exL hi (cutI zs a b) := by unfold restL; rw [HHI.out, odd_eq]
        rw [q1, q2, hr, ← HQ.out.2.2]
        have hs3 := HZ.out.2.2.size
        have hB0 := HB0.out
        have hsw := HSW.out
        exact ⟨rfl, HQ.out.1.mono (fun g hg => by rcases hg with hg | hg; exact .inl (hB0.1 g hg); exact .inr (by omega)), (HW.out.2.2.2.1.trans (HZ.out.2.2.mono HW.out.2.2.2.2)).trans HQ.out.2.1, fun b hb1 hb2 => (HKP.out b (by omega) (by omega) (fun e => by have := hB0.1 b e; omega)).trans (HQW.out b hb2 HZ.out.2.2)⟩
end Go.Proofs.Ytckgmnlmimogjaa
