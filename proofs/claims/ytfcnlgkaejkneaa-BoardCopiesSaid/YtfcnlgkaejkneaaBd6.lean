/- Layer 11: contracts of what the ports do, of Next. -/
import Derived.Test.YtfcnlgkaejkneaaBd5
import Derived.Test.YtfcnlgkaejkneaaBk5
namespace Go.Proofs.Ytfcnlgkaejkneaa
open Go.RowKit

/-- what the ports did -/
structure ActD where
  t : Int
  out : Bool
  port : Int
  v : Int
def actV (l : List ActD) : List Value := l.flatMap fun a => [.int .u64 a.t, .bool a.out, .int .u16 a.port, .int .u8 a.v]
theorem actV_snoc (l : List ActD) (a : ActD) : actV (l ++ [a]) = actV l ++ [.int .u64 a.t, .bool a.out, .int .u16 a.port, .int .u8 a.v] := by simp [actV]
theorem actV_len (l : List ActD) : (actV l).length = l.length * 4 := by
  induction l with
  | nil => rfl
  | cons a l ih => simp only [actV, List.flatMap_cons, List.length_append, List.length_cons, List.length_nil] at ih ⊢; omega
/-- what changed: some blocks, nothing else of what was there -/
structure Ch (w w' : World) (φ : Nat → Prop) : Prop where
  os : w'.os = w.os
  tape : w'.tape = w.tape
  output : w'.output = w.output
  size : w.heap.size ≤ w'.heap.size
  block : ∀ k, k < w.heap.size → ¬ φ k → w'.heap[k]? = w.heap[k]?
theorem Ch.refl (w : World) (φ : Nat → Prop) : Ch w w φ := ⟨rfl, rfl, rfl, Nat.le_refl _, fun _ _ _ => rfl⟩
theorem Ch.trans {a b c : World} {φ ψ χ : Nat → Prop} (h : Ch a b φ) (k : Ch b c ψ) (h1 : ∀ q, φ q → χ q) (h2 : ∀ q, q < a.heap.size → ψ q → χ q) : Ch a c χ :=
  ⟨k.os.trans h.os, k.tape.trans h.tape, k.output.trans h.output, Nat.le_trans h.size k.size, fun q hq hn => (k.block q (Nat.lt_of_lt_of_le hq h.size) (fun e => hn (h2 q hq e))).trans (h.block q hq (fun e => hn (h1 q e)))⟩
theorem Ch.of_grown {w w' : World} {r : Option Nat} {φ : Nat → Prop} (h : w.grownBy w' r) (hr : ∀ g, r = some g → φ g) : Ch w w' φ := ⟨h.os, h.tape, h.output, h.size, fun k hk hn => h.block k hk (fun e => hn (hr k e.symm))⟩
theorem Ch.of_below {w w' : World} {φ : Nat → Prop} (h : Below w.heap.size w w') : Ch w w' φ := ⟨h.os, h.tape, h.output, h.size, fun k hk _ => h.block k hk⟩
theorem Ch.below {w w' : World} {φ : Nat → Prop} {B : Nat} (h : Ch w w' φ) (hB : B ≤ w.heap.size) (hφ : ∀ k, φ k → B ≤ k) : Below B w w' := ⟨h.os, h.tape, h.output, h.size, fun k hk => h.block k (by omega) (fun e => by have := hφ k e; omega)⟩
/-- a board, its rows -/
structure BdAt (w : World) (base g : Nat) (b : Bd) (al : List ActD) (es : List Int) (A E : Value) : Prop where
  bd : BdIs w g b A E
  acts : w.ownsRow base 72 4 A al.length (actV al)
  edges : w.ownsRow base 32 1 E es.length (es.map (Value.int .u64))
theorem own_types_ne {w : World} {base base' : Nat} {e e' : TypeId} {size size' n n' : Nat} {v v' : Value} {xs xs' : List Value} (h : w.ownsRow base e size v n xs) (h' : w.ownsRow base' e' size' v' n' xs') (hne : e ≠ e') : ∀ k, v.ownBlock = some k → v'.ownBlock ≠ some k := by
  intro k hk hk'
  rcases h.2 with ⟨rfl, _⟩ | ⟨g, cap, cur, rfl, _, hh, _⟩
  · simp [Value.ownBlock] at hk
  · rcases h'.2 with ⟨rfl, _⟩ | ⟨g', cap', cur', rfl, _, hh', _⟩
    · simp [Value.ownBlock] at hk'
    · simp [Value.ownBlock] at hk hk'
      subst hk
      subst hk'
      rw [hh] at hh'
      injection hh' with hh'
      injection hh' with _ h2
      exact hne h2
theorem actInfo : (Try.prog.info? 72).map (fun i => (i.zero, i.size, i.bytes)) = some (some (.agg #[.int .u64 0, .bool false, .int .u16 0, .int .u8 0]), 4, 16) := by kernel_rfl
theorem u64Info : (Try.prog.info? 32).map (fun i => (i.zero, i.size, i.bytes)) = some (some (.int .u64 0), 1, 8) := by kernel_rfl
/-- which blocks a board's change may touch -/
def BdBlk (g : Nat) (A E : Value) (k : Nat) : Prop := k = g ∨ A.ownBlock = some k ∨ E.ownBlock = some k
def NewBlk (w : World) (V V' : Value) : Prop := V'.ownBlock = V.ownBlock ∨ ∃ k, V'.ownBlock = some k ∧ w.heap.size ≤ k

set_option maxRecDepth 100000 in
set_option maxHeartbeats 4000000 in
theorem add0 (g i : Nat) : (⟨g, 0, none⟩ : Addr).add i = ⟨g, i, none⟩ := by
  unfold Addr.add
  split
  · next h0 => subst h0; rfl
  · simp
theorem lit_cells (w : World) (l : List Value) (e : TypeId) (j : Nat) (u : Value) (h : l[j]? = some u) : (w.alloc (.cells l.toArray e)).cell? ((⟨w.heap.size, 0, none⟩ : Addr).add j) = some u := by
  have hB := Blk.new w e l.toArray
  rw [add0, hB.cell j]
  simpa using h
theorem alloc_of {w : World} {a : Addr} {o : Obj} {v : Value} (h : w.cell? a = some v) : (w.alloc o).cell? a = some v := by rw [World.cell?_alloc_some _ _ _ (by simp [h])]; exact h
set_option maxRecDepth 100000 in
set_option maxHeartbeats 4000000 in
theorem act_off (w : World) (g : Nat) (b : Bd) (A E : Value) (out : Bool) (port v : Int) (h : BdIs w g b A E) (hl : b.log = false) :
    Calls Try.prog 49 #[.pointer (some ⟨g, 0, none⟩), .bool out, .int .u16 port, .int .u8 v] w fun x w' => (∃ u, x = .returned u) ∧ w = w' := by
  have c := h.at_ (i := 65546) (by decide) bd_log
  rw [hl] at c
  clear h hl
  go_enter Try.func49, Try.ntmps49
  go_wp2
  go_end0
  exact ⟨⟨_, rfl⟩, rfl⟩
set_option maxRecDepth 100000 in
set_option maxHeartbeats 4000000 in
theorem act_on (w : World) (base g : Nat) (b : Bd) (al : List ActD) (es : List Int) (A E : Value) (out : Bool) (port v : Int) (h : BdAt w base g b al es A E) (hl : b.log = true) (hn : al.length < 1000000) (hb : base ≤ w.heap.size) :
    Calls Try.prog 49 #[.pointer (some ⟨g, 0, none⟩), .bool out, .int .u16 port, .int .u8 v] w fun x w' => ∃ u A', x = .returned u ∧ BdAt w' base g b (al ++ [⟨b.t, out, port, v⟩]) es A' E ∧ Ch w w' (fun k => k = g ∨ A.ownBlock = some k) ∧ NewBlk w A A' := by
  obtain ⟨i1, hj, hy0, hy1, hy2⟩ := info_parts actInfo
  have c := h.bd.at_ (i := 65546) (by decide) bd_log
  rw [hl] at c
  have cA := h.bd.at_ (i := 65552) (by decide) bd_A
  have ct := h.bd.at_ (i := 65547) (by decide) bd_t
  obtain ⟨AA, an, ac, hAs⟩ : ∃ x n c, A = .slice x n c := by
    rcases h.acts.2 with ⟨e, _⟩ | ⟨g', cap, cur, e, _⟩
    · exact ⟨none, 0, 0, e⟩
    · exact ⟨_, _, cap, e⟩
  subst hAs
  have hgl := Blk.lt h.bd
  have hag := own_blk_ne h.acts h.bd (by decide)
  have hae := own_types_ne h.acts h.edges (by decide)
  have HH := Lib.hid (And.intro h (And.intro hag hae))
  have HL := Lib.hid hl
  clear h hag hae hl
  go_enter Try.func49, Try.ntmps49
  go_upto_region 1 with fail
  refine wp_region_held_drew (S := fun w' => w'.cell? ⟨g, 65547, none⟩ = some (.int .u64 b.t)) (by kernel_rfl) ?_ (fun hHeld => ?_)
  · exact ct
  have HW := Lib.hid (show BdIs w.drew g b (.slice AA an ac) E ∧ w.drew.ownsRow base 72 4 (.slice AA an ac) al.length (actV al) ∧ w.drew.ownsRow base 32 1 E es.length (es.map (Value.int .u64)) ∧ Ch w w.drew (fun k => k = g ∨ (Value.slice AA an ac).ownBlock = some k) ∧ base ≤ w.drew.heap.size ∧ w.drew.heap.size = w.heap.size from ⟨HH.out.1.bd, HH.out.1.acts, HH.out.1.edges, ⟨rfl, rfl, rfl, Nat.le_refl _, fun _ _ _ => rfl⟩, hb, rfl⟩)
  have cAW : w.drew.cell? ⟨g, 65552, none⟩ = some (.slice AA an ac) := cA
  have ctW : w.drew.cell? ⟨g, 65547, none⟩ = some (.int .u64 b.t) := ct
  clear c cA ct
  generalize w.drew = W at *
  refine wpAnyH_take (i := 0) (oi := _) (v := ?_) (by simp only [List.getElem?_toArray, List.getElem?_cons_succ, List.getElem?_cons_zero]; rfl) (by kernel_rfl) (by kernel_rfl) (by kernel_rfl) (by intro _ _ _ h; exact h) (Or.inl ⟨by rfl, ?_⟩) (by assumption) ?_
  rotate_left
  · intro w hSw
    try dsimp only at hSw
    go_simp
    try with_reducible rfl
  try simp only [Act.put, List.setIfInBounds_toArray, List.set_cons_zero, List.set_cons_succ]
  refine wpAnyH_take (i := 1) (oi := _) (v := ?_) (by simp only [List.getElem?_toArray, List.getElem?_cons_succ, List.getElem?_cons_zero]; rfl) (by kernel_rfl) (by kernel_rfl) (by kernel_rfl) (by intro _ _ _ h; exact h) (Or.inl ⟨by rfl, ?_⟩) (by assumption) ?_
  rotate_left
  · intro w hSw
    try dsimp only at hSw
    go_simp
    try with_reducible rfl
  try simp only [Act.put, List.setIfInBounds_toArray, List.set_cons_zero, List.set_cons_succ]
  refine wpAnyH_take (i := 2) (oi := _) (v := ?_) (by simp only [List.getElem?_toArray, List.getElem?_cons_succ, List.getElem?_cons_zero]; rfl) (by kernel_rfl) (by kernel_rfl) (by kernel_rfl) (by intro _ _ _ h; exact h) (Or.inl ⟨by rfl, ?_⟩) (by assumption) ?_
  rotate_left
  · intro w hSw
    try dsimp only at hSw
    go_simp
    try with_reducible rfl
  try simp only [Act.put, List.setIfInBounds_toArray, List.set_cons_zero, List.set_cons_succ]
  refine wpAnyH_take (i := 3) (oi := _) (v := ?_) (by simp only [List.getElem?_toArray, List.getElem?_cons_succ, List.getElem?_cons_zero]; rfl) (by kernel_rfl) (by kernel_rfl) (by kernel_rfl) (by intro _ _ _ h; exact h) (Or.inl ⟨by rfl, ?_⟩) (by assumption) ?_
  rotate_left
  · intro w hSw
    try dsimp only at hSw
    go_simp
    try with_reducible rfl
  try simp only [Act.put, List.setIfInBounds_toArray, List.set_cons_zero, List.set_cons_succ]
  refine wpAnyH_take (i := 5) (oi := _) (v := ?_) (by simp only [List.getElem?_toArray, List.getElem?_cons_succ, List.getElem?_cons_zero]; rfl) (by kernel_rfl) (by kernel_rfl) (by kernel_rfl) (by intro _ _ _ h; exact h) (Or.inl ⟨by rfl, ?_⟩) (by assumption) ?_
  rotate_left
  · intro w hSw
    try dsimp only at hSw
    go_simp
    try with_reducible rfl
  try simp only [Act.put, List.setIfInBounds_toArray, List.set_cons_zero, List.set_cons_succ]
  refine wpAnyH_take (i := 6) (oi := _) (v := ?_) (by simp only [List.getElem?_toArray, List.getElem?_cons_succ, List.getElem?_cons_zero]; rfl) (by kernel_rfl) (by kernel_rfl) (by kernel_rfl) (by intro _ _ _ h; exact h) (Or.inl ⟨by rfl, ?_⟩) (by assumption) ?_
  rotate_left
  · intro w hSw
    try dsimp only at hSw
    go_simp
    try with_reducible rfl
  try simp only [Act.put, List.setIfInBounds_toArray, List.set_cons_zero, List.set_cons_succ]
  refine wpAnyH_take (i := 7) (oi := _) (v := ?_) (by simp only [List.getElem?_toArray, List.getElem?_cons_succ, List.getElem?_cons_zero]; rfl) (by kernel_rfl) (by kernel_rfl) (by kernel_rfl) (by intro _ _ _ h; exact h) (Or.inl ⟨by rfl, ?_⟩) (by assumption) ?_
  rotate_left
  · intro w hSw
    try dsimp only at hSw
    go_simp
    try with_reducible rfl
  try simp only [Act.put, List.setIfInBounds_toArray, List.set_cons_zero, List.set_cons_succ]
  refine wpAnyH_take (i := 8) (oi := _) (v := ?_) (by simp only [List.getElem?_toArray, List.getElem?_cons_succ, List.getElem?_cons_zero]; rfl) (by kernel_rfl) (by kernel_rfl) (by kernel_rfl) (by intro _ _ _ h; exact h) (Or.inl ⟨by rfl, ?_⟩) (by assumption) ?_
  rotate_left
  · intro w hSw
    try dsimp only at hSw
    go_simp
    try with_reducible rfl
  try simp only [Act.put, List.setIfInBounds_toArray, List.set_cons_zero, List.set_cons_succ]
  refine wpAnyH_take (i := 9) (oi := _) (v := ?_) (by simp only [List.getElem?_toArray, List.getElem?_cons_succ, List.getElem?_cons_zero]; rfl) (by kernel_rfl) (by kernel_rfl) (by kernel_rfl) (by intro _ _ _ h; exact h) (Or.inl ⟨by rfl, ?_⟩) (by assumption) ?_
  rotate_left
  · intro w hSw
    try dsimp only at hSw
    go_simp
    try with_reducible rfl
  try simp only [Act.put, List.setIfInBounds_toArray, List.set_cons_zero, List.set_cons_succ]
  refine wpAnyH_take (i := 10) (oi := _) (v := ?_) (by simp only [List.getElem?_toArray, List.getElem?_cons_succ, List.getElem?_cons_zero]; rfl) (by kernel_rfl) (by kernel_rfl) (by kernel_rfl) (by intro _ _ _ h; exact h) (Or.inl ⟨by rfl, ?_⟩) (by assumption) ?_
  rotate_left
  · intro w hSw
    try dsimp only at hSw
    go_simp
    try with_reducible rfl
  try simp only [Act.put, List.setIfInBounds_toArray, List.set_cons_zero, List.set_cons_succ]
  refine wpAnyH_take (i := 11) (oi := _) (v := ?_) (by simp only [List.getElem?_toArray, List.getElem?_cons_succ, List.getElem?_cons_zero]; rfl) (by kernel_rfl) (by kernel_rfl) (by kernel_rfl) (by intro _ _ _ h; exact h) (Or.inl ⟨by rfl, ?_⟩) (by assumption) ?_
  rotate_left
  · intro w hSw
    try dsimp only at hSw
    go_simp
    try with_reducible rfl
  try simp only [Act.put, List.setIfInBounds_toArray, List.set_cons_zero, List.set_cons_succ]
  refine wpAnyH_take (i := 12) (oi := _) (v := ?_) (by simp only [List.getElem?_toArray, List.getElem?_cons_succ, List.getElem?_cons_zero]; rfl) (by kernel_rfl) (by kernel_rfl) (by kernel_rfl) (by intro _ _ _ h; exact h) (Or.inl ⟨by rfl, ?_⟩) (by assumption) ?_
  rotate_left
  · intro w hSw
    try dsimp only at hSw
    go_simp
    try with_reducible rfl
  try simp only [Act.put, List.setIfInBounds_toArray, List.set_cons_zero, List.set_cons_succ]
  refine wpAnyH_ready (rs := [4, 13]) (by kernel_rfl) (by simp) ?_
  refine AllReadyH.cons (o := _) (by simp only [List.getElem?_toArray, List.getElem?_cons_succ, List.getElem?_cons_zero]; rfl) (fun K hK => ?_) (AllReadyH.cons (o := _) (by simp only [List.getElem?_toArray, List.getElem?_cons_succ, List.getElem?_cons_zero]; rfl) (fun K hK => ?_) AllReadyH.nil)
  · go_simp
    refine hK.out _ _ ?_ (fun hHeld => ?_)
    · exact ctW
    clear hK K
    try simp only [Act.put, List.setIfInBounds_toArray, List.set_cons_zero, List.set_cons_succ]
    refine wpAnyH_ready (rs := [13]) (by kernel_rfl) (by simp) ?_
    refine AllReadyH.cons (o := _) (by simp only [List.getElem?_toArray, List.getElem?_cons_succ, List.getElem?_cons_zero]; rfl) (fun K hK => ?_) AllReadyH.nil
    have ctA : (W.alloc (.cells #[.int .u64 b.t, .bool out, .int .u16 port, .int .u8 v] 72)).cell? ⟨g, 65547, none⟩ = some (.int .u64 b.t) := alloc_of ctW
    have cAA : (W.alloc (.cells #[.int .u64 b.t, .bool out, .int .u16 port, .int .u8 v] 72)).cell? ⟨g, 65552, none⟩ = some (.slice AA an ac) := alloc_of cAW
    go_simp
    refine hK.out _ _ ?_ (fun hHeld => ?_)
    · exact ctA
    clear hK K
    try simp only [Act.put, List.setIfInBounds_toArray, List.set_cons_zero, List.set_cons_succ]
    refine wpAnyH_ready (rs := [14]) (by kernel_rfl) (by simp) ?_
    refine AllReadyH.cons (o := _) (by simp only [List.getElem?_toArray, List.getElem?_cons_succ, List.getElem?_cons_zero]; rfl) (fun K hK => ?_) AllReadyH.nil
    have HC := Lib.hid (show Reads (W.alloc (.cells #[.int .u64 b.t, .bool out, .int .u16 port, .int .u8 v] 72)) (W.alloc (.cells #[.int .u64 b.t, .bool out, .int .u16 port, .int .u8 v] 72)).heap.size 4 (some ⟨W.heap.size, 0, none⟩) 1 [.int .u64 b.t, .bool out, .int .u16 port, .int .u8 v] ∧ al.length + 1 ≤ maxLen ∧ (al.length + 1) * 16 ≤ 140737488355328 ∧ base ≤ (W.alloc (.cells #[.int .u64 b.t, .bool out, .int .u16 port, .int .u8 v] 72)).heap.size from ⟨⟨rfl, fun _ => ⟨_, rfl, by simp, lit_cells W [.int .u64 b.t, .bool out, .int .u16 port, .int .u8 v] 72⟩⟩, by unfold maxLen; omega, by omega, by have := HW.out.2.2.2.2.1; simp; omega⟩)
    have hown9 := HW.out.2.1.alloc (.cells #[.int .u64 b.t, .bool out, .int .u16 port, .int .u8 v] 72)
    refine step_append_any _ (by rfl) _ _ _ (by rfl) base 72 i1 (.agg #[.int .u64 0, .bool false, .int .u16 0, .int .u8 0]) 4 16 Try.underlying33 hj hy0 hy1 hy2 rfl (by decide) (.slice AA an ac) al.length _ (by rfl) hown9 _ (some ⟨W.heap.size, 0, none⟩) 1 1 [.int .u64 b.t, .bool out, .int .u16 port, .int .u8 v] (by rfl) HC.out.1 (by simp [Value.oneCell']) HC.out.2.1 HC.out.2.2.1 HC.out.2.2.2 ?_
    intro v3 w3 own3 hg3 hv3
    have hv9 := hv3
    obtain ⟨A3, c3, rfl⟩ := own_slice own3
    have hne3 : (some g : Option Nat) ≠ (Value.slice AA an ac).ownBlock := fun e => HH.out.2.1 e.symm
    have hglW := Blk.lt HW.out.1
    have hB3 : BdIs w3 g b (.slice AA an ac) E := Blk.grown (Blk.alloc HW.out.1 _) hg3 hne3
    have hE3 := (HW.out.2.2.1.alloc (.cells #[.int .u64 b.t, .bool out, .int .u16 port, .int .u8 v] 72)).kept hg3 (by rcases he : E.ownBlock with _ | k; exact .inl rfl; exact .inr (fun e => HH.out.2.2 k e.symm he))
    have hch3 : Ch w w3 (fun k => k = g ∨ (Value.slice AA an ac).ownBlock = some k) := (HW.out.2.2.2.1.trans (Ch.of_below (φ := fun _ => False) (w := W) ((Below.refl _ _).alloc (Nat.le_refl _) _)) (χ := fun k => k = g ∨ (Value.slice AA an ac).ownBlock = some k) (fun _ h => h) (fun _ _ h => h.elim)).trans (Ch.of_grown (φ := fun k => (Value.slice AA an ac).ownBlock = some k) hg3 (fun k e => e)) (fun _ h => h) (fun _ _ h => .inr h)
    have ct3 : w3.cell? ⟨g, 65547, none⟩ = some (.int .u64 b.t) := hB3.at_ (by decide) bd_t
    refine hK.out _ _ ?_ (fun hHeld => ?_)
    · exact ct3
    clear hK K
    try simp only [Act.put, List.setIfInBounds_toArray, List.set_cons_zero, List.set_cons_succ]
    have H3 := Lib.hid (show BdIs w3 g b (.slice AA an ac) E ∧ w3.ownsRow base 72 4 (.slice A3 (al.length + 1) c3) (al.length + 1) (actV al ++ [.int .u64 b.t, .bool out, .int .u16 port, .int .u8 v]) ∧ w3.ownsRow base 32 1 E es.length (es.map (Value.int .u64)) ∧ Ch w w3 (fun k => k = g ∨ (Value.slice AA an ac).ownBlock = some k) ∧ NewBlk w (.slice AA an ac) (.slice A3 (al.length + 1) c3) from ⟨hB3, own3, hE3, hch3, by
      rcases hv9 with h | h
      · exact .inl h
      · exact .inr ⟨_, h, by have := HW.out.2.2.2.2.2; simp; omega⟩⟩)
    clear own3 hg3 hv3 hv9 hB3 hE3 hch3 hown9 hne3
    have dA : w3.cell? ⟨g, 65552, none⟩ = some (.slice AA an ac) := H3.out.1.at_ (by decide) bd_A
    have eA : w3.frozen? ⟨g, 65552, none⟩ = false := H3.out.1.fz _
    refine wpAnyH_take (i := 15) (oi := _) (v := ?_) (by simp only [List.getElem?_toArray, List.getElem?_cons_succ, List.getElem?_cons_zero]; rfl) (by kernel_rfl) (by kernel_rfl) (by kernel_rfl) (by intro _ _ _ h; exact h) (Or.inl ⟨by rfl, ?_⟩) (by assumption) ?_
    rotate_left
    · intro w hSw
      try dsimp only at hSw
      go_simp
      try with_reducible rfl
    try simp only [Act.put, List.setIfInBounds_toArray, List.set_cons_zero, List.set_cons_succ]
    refine wpAnyH_take (i := 16) (oi := _) (v := ?_) (by simp only [List.getElem?_toArray, List.getElem?_cons_succ, List.getElem?_cons_zero]; rfl) (by kernel_rfl) (by kernel_rfl) (by kernel_rfl) (by intro _ _ _ h; exact h) (Or.inl ⟨by rfl, ?_⟩) (by assumption) ?_
    rotate_left
    · intro w hSw
      try dsimp only at hSw
      go_simp
      try with_reducible rfl
    try simp only [Act.put, List.setIfInBounds_toArray, List.set_cons_zero, List.set_cons_succ]
    refine wpAnyH_ready (rs := [17]) (by kernel_rfl) (by simp) ?_
    refine AllReadyH.cons (o := _) (by simp only [List.getElem?_toArray, List.getElem?_cons_succ, List.getElem?_cons_zero]; rfl) (fun K hK => ?_) AllReadyH.nil
    go_simp
    refine hK.out _ _ ?_ (fun hHeld => ?_)
    · exact (World.cell?_setCell_other _ _ _ _ (by intro e; injection e with _ e; exact absurd e (by decide))).trans ct3
    clear hK K
    try simp only [Act.put, List.setIfInBounds_toArray, List.set_cons_zero, List.set_cons_succ]
    refine wpAnyH_done (by kernel_rfl) ?_ _
    clear dA eA ct3
    have hal := own_blk_ne H3.out.2.1 H3.out.1 (by decide)
    have hel := own_blk_ne H3.out.2.2.1 H3.out.1 (by decide)
    have hG := grown_cell w3 g 65552 (.slice A3 (al.length + 1) c3)
    have HX := Lib.hid (show BdAt (w3.setCell ⟨g, 65552, none⟩ (.slice A3 (al.length + 1) c3)) base g b (al ++ [⟨b.t, out, port, v⟩]) es (.slice A3 (al.length + 1) c3) E ∧ Ch w (w3.setCell ⟨g, 65552, none⟩ (.slice A3 (al.length + 1) c3)) (fun k => k = g ∨ (Value.slice AA an ac).ownBlock = some k) from ⟨⟨H3.out.1.put (set_A _), by rw [actV_snoc, List.length_append]; exact H3.out.2.1.kept hG (.inr hal), H3.out.2.2.1.kept hG (.inr hel)⟩, H3.out.2.2.2.1.trans (Ch.of_grown (φ := fun k => k = g) hG (fun k e => by injection e with e; exact e.symm)) (fun _ h => h) (fun _ _ h => .inl h)⟩)
    clear hG hal hel
    go_wp2
    go_end0
    exact ⟨_, _, rfl, HX.out.1, HX.out.2, H3.out.2.2.2.2⟩
  · have ctA : (W.alloc (.cells #[.int .u64 b.t, .bool out, .int .u16 port, .int .u8 v] 72)).cell? ⟨g, 65547, none⟩ = some (.int .u64 b.t) := alloc_of ctW
    have cAA : (W.alloc (.cells #[.int .u64 b.t, .bool out, .int .u16 port, .int .u8 v] 72)).cell? ⟨g, 65552, none⟩ = some (.slice AA an ac) := alloc_of cAW
    go_simp
    refine hK.out _ _ ?_ (fun hHeld => ?_)
    · exact ctA
    clear hK K
    try simp only [Act.put, List.setIfInBounds_toArray, List.set_cons_zero, List.set_cons_succ]
    refine wpAnyH_ready (rs := [4]) (by kernel_rfl) (by simp) ?_
    refine AllReadyH.cons (o := _) (by simp only [List.getElem?_toArray, List.getElem?_cons_succ, List.getElem?_cons_zero]; rfl) (fun K hK => ?_) AllReadyH.nil
    go_simp
    refine hK.out _ _ ?_ (fun hHeld => ?_)
    · exact ctA
    clear hK K
    try simp only [Act.put, List.setIfInBounds_toArray, List.set_cons_zero, List.set_cons_succ]
    refine wpAnyH_ready (rs := [14]) (by kernel_rfl) (by simp) ?_
    refine AllReadyH.cons (o := _) (by simp only [List.getElem?_toArray, List.getElem?_cons_succ, List.getElem?_cons_zero]; rfl) (fun K hK => ?_) AllReadyH.nil
    have HC := Lib.hid (show Reads (W.alloc (.cells #[.int .u64 b.t, .bool out, .int .u16 port, .int .u8 v] 72)) (W.alloc (.cells #[.int .u64 b.t, .bool out, .int .u16 port, .int .u8 v] 72)).heap.size 4 (some ⟨W.heap.size, 0, none⟩) 1 [.int .u64 b.t, .bool out, .int .u16 port, .int .u8 v] ∧ al.length + 1 ≤ maxLen ∧ (al.length + 1) * 16 ≤ 140737488355328 ∧ base ≤ (W.alloc (.cells #[.int .u64 b.t, .bool out, .int .u16 port, .int .u8 v] 72)).heap.size from ⟨⟨rfl, fun _ => ⟨_, rfl, by simp, lit_cells W [.int .u64 b.t, .bool out, .int .u16 port, .int .u8 v] 72⟩⟩, by unfold maxLen; omega, by omega, by have := HW.out.2.2.2.2.1; simp; omega⟩)
    have hown9 := HW.out.2.1.alloc (.cells #[.int .u64 b.t, .bool out, .int .u16 port, .int .u8 v] 72)
    refine step_append_any _ (by rfl) _ _ _ (by rfl) base 72 i1 (.agg #[.int .u64 0, .bool false, .int .u16 0, .int .u8 0]) 4 16 Try.underlying33 hj hy0 hy1 hy2 rfl (by decide) (.slice AA an ac) al.length _ (by rfl) hown9 _ (some ⟨W.heap.size, 0, none⟩) 1 1 [.int .u64 b.t, .bool out, .int .u16 port, .int .u8 v] (by rfl) HC.out.1 (by simp [Value.oneCell']) HC.out.2.1 HC.out.2.2.1 HC.out.2.2.2 ?_
    intro v3 w3 own3 hg3 hv3
    have hv9 := hv3
    obtain ⟨A3, c3, rfl⟩ := own_slice own3
    have hne3 : (some g : Option Nat) ≠ (Value.slice AA an ac).ownBlock := fun e => HH.out.2.1 e.symm
    have hglW := Blk.lt HW.out.1
    have hB3 : BdIs w3 g b (.slice AA an ac) E := Blk.grown (Blk.alloc HW.out.1 _) hg3 hne3
    have hE3 := (HW.out.2.2.1.alloc (.cells #[.int .u64 b.t, .bool out, .int .u16 port, .int .u8 v] 72)).kept hg3 (by rcases he : E.ownBlock with _ | k; exact .inl rfl; exact .inr (fun e => HH.out.2.2 k e.symm he))
    have hch3 : Ch w w3 (fun k => k = g ∨ (Value.slice AA an ac).ownBlock = some k) := (HW.out.2.2.2.1.trans (Ch.of_below (φ := fun _ => False) (w := W) ((Below.refl _ _).alloc (Nat.le_refl _) _)) (χ := fun k => k = g ∨ (Value.slice AA an ac).ownBlock = some k) (fun _ h => h) (fun _ _ h => h.elim)).trans (Ch.of_grown (φ := fun k => (Value.slice AA an ac).ownBlock = some k) hg3 (fun k e => e)) (fun _ h => h) (fun _ _ h => .inr h)
    have ct3 : w3.cell? ⟨g, 65547, none⟩ = some (.int .u64 b.t) := hB3.at_ (by decide) bd_t
    refine hK.out _ _ ?_ (fun hHeld => ?_)
    · exact ct3
    clear hK K
    try simp only [Act.put, List.setIfInBounds_toArray, List.set_cons_zero, List.set_cons_succ]
    have H3 := Lib.hid (show BdIs w3 g b (.slice AA an ac) E ∧ w3.ownsRow base 72 4 (.slice A3 (al.length + 1) c3) (al.length + 1) (actV al ++ [.int .u64 b.t, .bool out, .int .u16 port, .int .u8 v]) ∧ w3.ownsRow base 32 1 E es.length (es.map (Value.int .u64)) ∧ Ch w w3 (fun k => k = g ∨ (Value.slice AA an ac).ownBlock = some k) ∧ NewBlk w (.slice AA an ac) (.slice A3 (al.length + 1) c3) from ⟨hB3, own3, hE3, hch3, by
      rcases hv9 with h | h
      · exact .inl h
      · exact .inr ⟨_, h, by have := HW.out.2.2.2.2.2; simp; omega⟩⟩)
    clear own3 hg3 hv3 hv9 hB3 hE3 hch3 hown9 hne3
    have dA : w3.cell? ⟨g, 65552, none⟩ = some (.slice AA an ac) := H3.out.1.at_ (by decide) bd_A
    have eA : w3.frozen? ⟨g, 65552, none⟩ = false := H3.out.1.fz _
    refine wpAnyH_take (i := 15) (oi := _) (v := ?_) (by simp only [List.getElem?_toArray, List.getElem?_cons_succ, List.getElem?_cons_zero]; rfl) (by kernel_rfl) (by kernel_rfl) (by kernel_rfl) (by intro _ _ _ h; exact h) (Or.inl ⟨by rfl, ?_⟩) (by assumption) ?_
    rotate_left
    · intro w hSw
      try dsimp only at hSw
      go_simp
      try with_reducible rfl
    try simp only [Act.put, List.setIfInBounds_toArray, List.set_cons_zero, List.set_cons_succ]
    refine wpAnyH_take (i := 16) (oi := _) (v := ?_) (by simp only [List.getElem?_toArray, List.getElem?_cons_succ, List.getElem?_cons_zero]; rfl) (by kernel_rfl) (by kernel_rfl) (by kernel_rfl) (by intro _ _ _ h; exact h) (Or.inl ⟨by rfl, ?_⟩) (by assumption) ?_
    rotate_left
    · intro w hSw
      try dsimp only at hSw
      go_simp
      try with_reducible rfl
    try simp only [Act.put, List.setIfInBounds_toArray, List.set_cons_zero, List.set_cons_succ]
    refine wpAnyH_ready (rs := [17]) (by kernel_rfl) (by simp) ?_
    refine AllReadyH.cons (o := _) (by simp only [List.getElem?_toArray, List.getElem?_cons_succ, List.getElem?_cons_zero]; rfl) (fun K hK => ?_) AllReadyH.nil
    go_simp
    refine hK.out _ _ ?_ (fun hHeld => ?_)
    · exact (World.cell?_setCell_other _ _ _ _ (by intro e; injection e with _ e; exact absurd e (by decide))).trans ct3
    clear hK K
    try simp only [Act.put, List.setIfInBounds_toArray, List.set_cons_zero, List.set_cons_succ]
    refine wpAnyH_done (by kernel_rfl) ?_ _
    clear dA eA ct3
    have hal := own_blk_ne H3.out.2.1 H3.out.1 (by decide)
    have hel := own_blk_ne H3.out.2.2.1 H3.out.1 (by decide)
    have hG := grown_cell w3 g 65552 (.slice A3 (al.length + 1) c3)
    have HX := Lib.hid (show BdAt (w3.setCell ⟨g, 65552, none⟩ (.slice A3 (al.length + 1) c3)) base g b (al ++ [⟨b.t, out, port, v⟩]) es (.slice A3 (al.length + 1) c3) E ∧ Ch w (w3.setCell ⟨g, 65552, none⟩ (.slice A3 (al.length + 1) c3)) (fun k => k = g ∨ (Value.slice AA an ac).ownBlock = some k) from ⟨⟨H3.out.1.put (set_A _), by rw [actV_snoc, List.length_append]; exact H3.out.2.1.kept hG (.inr hal), H3.out.2.2.1.kept hG (.inr hel)⟩, H3.out.2.2.2.1.trans (Ch.of_grown (φ := fun k => k = g) hG (fun k e => by injection e with e; exact e.symm)) (fun _ h => h) (fun _ _ h => .inl h)⟩)
    clear hG hal hel
    go_wp2
    go_end0
    exact ⟨_, _, rfl, HX.out.1, HX.out.2, H3.out.2.2.2.2⟩
end Go.Proofs.Ytfcnlgkaejkneaa
