/- Layer 22: edges as pairs; contracts of a row's put, of the number of bits, and of a symbol of the byte 85. -/
import Derived.Test.YthmmoogfngohaaaR22
import Derived.Test.YthmmoogfngohaaaBox
import Derived.Lib.EndianBits
namespace Go.Proofs.Ythmmoogfngohaaa
open Go.RowKit

theorem own_slice {w : World} {B e size n : Nat} {v : Value} {xs : List Value} (h : w.ownsRow B e size v n xs) : ∃ A c, v = .slice A n c := by
  rcases h.2 with ⟨rfl, rfl⟩ | ⟨g, cap, cur, rfl, _⟩
  · exact ⟨_, _, rfl⟩
  · exact ⟨_, _, rfl⟩
theorem own_kept {w w' : World} {B e size n : Nat} {v : Value} {xs : List Value} (h : w.ownsRow B e size v n xs) (k : Below w.heap.size w w') : w'.ownsRow B e size v n xs :=
  h.kept (row := none) ⟨k.os, k.tape, k.output, k.size, fun j hj _ => k.block j hj⟩ (by cases hv : v.ownBlock <;> simp)
/-- edges as cells -/
def fl (l : List (Int × Int)) : List Value := l.flatMap fun p => [.int .i64 p.1, .int .i64 p.2]
theorem fl_app (a b : List (Int × Int)) : fl (a ++ b) = fl a ++ fl b := by simp [fl]
theorem fl_len : ∀ l : List (Int × Int), (fl l).length = l.length * 2
  | [] => rfl
  | p :: l => by
    have := fl_len l
    simp only [fl, List.flatMap_cons, List.length_append, List.length_cons, List.length_nil] at this ⊢
    omega
theorem fl_at : ∀ {l : List (Int × Int)} {i : Nat} {p : Int × Int}, l[i]? = some p → (fl l)[i * 2]? = some (.int .i64 p.1) ∧ (fl l)[i * 2 + 1]? = some (.int .i64 p.2)
  | [], i, p, h => by cases h
  | q :: l, 0, p, h => by
    obtain rfl : q = p := by simpa using h
    exact ⟨rfl, rfl⟩
  | q :: l, i + 1, p, h => by
    have := fl_at (l := l) (i := i) (p := p) (by simpa using h)
    rw [show (i + 1) * 2 = i * 2 + 1 + 1 by omega]
    exact this
theorem fl_one (l : List (Int × Int)) : ∀ u ∈ fl l, u.oneCell' = true := by
  intro u hu
  obtain ⟨p, _, hp⟩ := List.mem_flatMap.1 hu
  simp at hp
  rcases hp with rfl | rfl <;> rfl
def es (h : Int) (zs : List Int) : List (Int × Int) := (List.range (cutK zs)).map fun i => (if i = 0 then h else 0, zs.getD i 0)
theorem es_len (h : Int) (zs : List Int) : (es h zs).length = cutK zs := by simp [es]
theorem es_fl (h : Int) (zs : List Int) : fl (es h zs) = edgeL h zs (cutK zs) := by
  simp only [fl, es, edgeL, List.flatMap_map]
  rfl

/-- a row of edges, and its fault -/
def Rw (w : World) (g : Nat) (V : Value) : Prop := Blk w g 49 #[V, .int .i64 0]
/-- what a put leaves -/
def Chg (w w' : World) (g : Nat) (r : Option Nat) : Prop := w'.os = w.os ∧ w'.tape = w.tape ∧ w'.output = w.output ∧ w.heap.size ≤ w'.heap.size ∧ ∀ j, j < w.heap.size → j ≠ g → some j ≠ r → w'.heap[j]? = w.heap[j]?
theorem Chg.blk {w w' : World} {g b : Nat} {r : Option Nat} {t : TypeId} {cs : Array Value} (h : Chg w w' g r) (hb : Blk w b t cs) (h1 : b ≠ g) (h2 : some b ≠ r) : Blk w' b t cs := (h.2.2.2.2 b hb.lt h1 h2).trans hb
theorem Chg.own {w w' : World} {g B e size n : Nat} {r : Option Nat} {v : Value} {xs : List Value} (h : Chg w w' g r) (ho : w.ownsRow B e size v n xs) (h1 : v.ownBlock ≠ some g) (h2 : v.ownBlock = none ∨ v.ownBlock ≠ r) : w'.ownsRow B e size v n xs := by
  refine ⟨ho.1, ?_⟩
  rcases ho.2 with h0 | ⟨b, cap, cur, rfl, hB, hh, h4⟩
  · exact .inl h0
  · have hb : b < w.heap.size := by
      rcases Nat.lt_or_ge b w.heap.size with h' | h'
      · exact h'
      · rw [Array.getElem?_eq_none h'] at hh; cases hh
    refine .inr ⟨b, cap, cur, rfl, hB, (h.2.2.2.2 b hb (fun e => h1 (by simp [Value.ownBlock, e])) (fun e => ?_)).trans hh, h4⟩
    rcases h2 with h2 | h2
    · simp [Value.ownBlock] at h2
    · exact h2 (by simpa [Value.ownBlock] using e)
theorem Chg.reads {w w' : World} {g B n size : Nat} {r : Option Nat} {A : Option Addr} {xs : List Value} (h : Chg w w' g r) (hr : Reads w B size A n xs) (hB : B ≤ g) (hBw : B ≤ w.heap.size) (h2 : ∀ b, r = some b → B ≤ b) : Reads w' B size A n xs :=
  hr.keep fun p hp => World.cell?_of_block (h.2.2.2.2 p.block (by omega) (by omega) (fun e => by have := h2 _ e.symm; omega))
theorem Chg.below {w0 w w' : World} {g B : Nat} {r : Option Nat} (h : Chg w w' g r) (hb : Below B w0 w) (hB : B ≤ g) (hBw : B ≤ w.heap.size) (h2 : ∀ b, r = some b → B ≤ b) : Below B w0 w' :=
  ⟨h.1.trans hb.os, h.2.1.trans hb.tape, h.2.2.1.trans hb.output, Nat.le_trans hb.size h.2.2.2.1, fun k hk => (h.2.2.2.2 k (by omega) (by omega) (fun e => by have := h2 _ e.symm; omega)).trans (hb.block k hk)⟩

set_option maxHeartbeats 2000000 in
theorem put_any {w : World} {g base n m c B : Nat} {V : Value} {A : Option Addr} {xs : List Value} {ys : List (Int × Int)} (hR : Rw w g V) (hown : w.ownsRow base 45 2 V n xs) (hr : Reads w B 2 A m (fl ys)) (hb : base ≤ w.heap.size) (hnm : n + m ≤ 1048576) :
    Calls Try.prog 16 #[.pointer (some ⟨g, 0, none⟩), .slice A m c] w fun e w' => e = .returned (.tuple #[]) ∧ ∃ V', Rw w' g V' ∧ w'.ownsRow base 45 2 V' (n + m) (xs ++ fl ys) ∧ Chg w w' g V.ownBlock ∧ (V'.ownBlock = V.ownBlock ∨ ∃ b, V'.ownBlock = some b ∧ w.heap.size ≤ b) := by
  obtain ⟨i0, hi, hz0, hz1, hz2⟩ := info_parts edgeInfo
  obtain ⟨VA, vc, rfl⟩ := own_slice hown
  have c0 : w.cell? ⟨g, 0, none⟩ = some (.slice VA n vc) := (hR.cell 0).trans rfl
  have c1 : w.cell? ⟨g, 1, none⟩ = some (.int .i64 0) := (hR.cell 1).trans rfl
  have hw : IntKind.i64.wrap (1048576 - (n : Int)) = 1048576 - (n : Int) := by rw [IntKind.wrap_i64]; omega
  have hle : ¬ 1048576 - (n : Int) < (m : Int) := by omega
  have hRH := Lib.hid hR
  go_enter Try.func16, Try.ntmps16
  clear hR
  go_wp2_with (first
    | (at_builtin; refine wpList_append_any _ rfl _ _ 31 rfl base 45 i0 (.agg #[.int .i64 0, .int .i64 0]) 2 16 Try.underlying31 hi hz0 hz1 hz2 rfl (by decide) _ n xs rfl hown B A m c (fl ys) rfl hr (fl_one ys) (by unfold maxLen; omega) (by omega) hb ?_)
    | fail)
  intro v' w1 own1 hg1 hm1
  have hR1 : Rw w1 g (.slice VA n vc) := Blk.grown hRH.out hg1 (fun e => own_blk_ne hown hRH.out (by decide) e.symm)
  obtain ⟨VA1, vc1, rfl⟩ := own_slice own1
  have d0 : w1.cell? ⟨g, 0, none⟩ = some (.slice VA n vc) := (Blk.cell hR1 0).trans rfl
  have f0 : w1.frozen? ⟨g, 0, none⟩ = false := Blk.frozen hR1 0
  have hR2 : Rw (w1.setCell ⟨g, 0, none⟩ (.slice VA1 (n + m) vc1)) g (.slice VA1 (n + m) vc1) := Blk.set_ hR1 0 _
  have own2 := ownsRow_setCell_other own1 (a := ⟨g, 0, none⟩) (own_blk_ne own1 hR1 (by decide)) (.slice VA1 (n + m) vc1)
  have HE := Lib.hid (show Rw (w1.setCell ⟨g, 0, none⟩ (.slice VA1 (n + m) vc1)) g (.slice VA1 (n + m) vc1) ∧ (w1.setCell ⟨g, 0, none⟩ (.slice VA1 (n + m) vc1)).ownsRow base 45 2 (.slice VA1 (n + m) vc1) (n + m) (xs ++ fl ys) ∧ Chg w (w1.setCell ⟨g, 0, none⟩ (.slice VA1 (n + m) vc1)) g (Value.slice VA n vc).ownBlock ∧ ((Value.slice VA1 (n + m) vc1).ownBlock = (Value.slice VA n vc).ownBlock ∨ ∃ b, (Value.slice VA1 (n + m) vc1).ownBlock = some b ∧ w.heap.size ≤ b) from
    ⟨hR2, own2, ⟨hg1.os, hg1.tape, hg1.output, by have := hg1.size; simpa [World.setCell] using this, fun j hj hjg hjr => (Below.heap_setCell w1 ⟨g, 0, none⟩ _ j hjg).trans (hg1.block j hj hjr)⟩, by
      rcases hm1 with h | h
      · exact .inl h
      · exact .inr ⟨_, h, Nat.le_refl _⟩⟩)
  clear hR1 hR2 own2 own1 hg1 hm1 hr hown
  go_wp2
  first | go_end0 | refine bodyPost_ret (results_none rfl _ _ _) rfl ?_
  exact ⟨rfl, _, HE.out⟩

theorem bits_two (w : World) : Calls Try.prog 17 #[.int .i64 2] w fun e w' => e = .returned (.int .i64 1) ∧ w = w' := by
  go_enter Try.func17, Try.ntmps17
  go_wp2
  go_loop [3] (fun x => x = .int .i64 0 ∨ x = .int .i64 1) (fun x => 2 - (intOf x).toNat)
  case atStart => exact .inl rfl
  case round =>
    rcases hrel with rfl | rfl
    · go_wp2
      go_round
      case rel => exact .inr rfl
      case measure => simp [intOf]
    · go_wp2
      go_ret
      exact ⟨rfl, rfl⟩

set_option maxHeartbeats 2000000 in
theorem symbol_any (w : World) (g i : Nat) (hc : w.cell? ⟨g, 0, none⟩ = some (.int .u8 85)) (hi : i < 8) : Calls Try.prog 18 #[.slice (some ⟨g, 0, none⟩) 1 1, .int .i64 1, .int .i64 i] w fun e w' => e = .returned (.tuple #[.int .i64 ((i % 2 : Nat) : Int), .bool true]) ∧ w = w' := by
  rcases (show i = 0 ∨ i = 1 ∨ i = 2 ∨ i = 3 ∨ i = 4 ∨ i = 5 ∨ i = 6 ∨ i = 7 by omega) with rfl | rfl | rfl | rfl | rfl | rfl | rfl | rfl
  · go_enter Try.func18, Try.ntmps18
    go_wp2
    go_loop [8, 9] (fun x y => (x = .int .i64 0 ∧ y = .int .i64 0) ∨ (x = .int .i64 0 ∧ y = .int .i64 1)) (fun _ y => 2 - (intOf y).toNat)
    case atStart => exact .inl ⟨rfl, rfl⟩
    case round =>
      rcases hrel with ⟨rfl, rfl⟩ | ⟨rfl, rfl⟩
      · go_wp2
        go_round
        case rel => exact .inr ⟨by congr 1; decide +kernel, by first | rfl | go_num⟩
        case measure => simp [intOf]
      · go_wp2
        go_ret2
        exact ⟨rfl, rfl⟩
  · go_enter Try.func18, Try.ntmps18
    go_wp2
    go_loop [8, 9] (fun x y => (x = .int .i64 0 ∧ y = .int .i64 1) ∨ (x = .int .i64 1 ∧ y = .int .i64 2)) (fun _ y => 3 - (intOf y).toNat)
    case atStart => exact .inl ⟨rfl, rfl⟩
    case round =>
      rcases hrel with ⟨rfl, rfl⟩ | ⟨rfl, rfl⟩
      · go_wp2
        go_round
        case rel => exact .inr ⟨by congr 1; decide +kernel, by first | rfl | go_num⟩
        case measure => simp [intOf]
      · go_wp2
        go_ret2
        exact ⟨rfl, rfl⟩
  · go_enter Try.func18, Try.ntmps18
    go_wp2
    go_loop [8, 9] (fun x y => (x = .int .i64 0 ∧ y = .int .i64 2) ∨ (x = .int .i64 0 ∧ y = .int .i64 3)) (fun _ y => 4 - (intOf y).toNat)
    case atStart => exact .inl ⟨rfl, rfl⟩
    case round =>
      rcases hrel with ⟨rfl, rfl⟩ | ⟨rfl, rfl⟩
      · go_wp2
        go_round
        case rel => exact .inr ⟨by congr 1; decide +kernel, by first | rfl | go_num⟩
        case measure => simp [intOf]
      · go_wp2
        go_ret2
        exact ⟨rfl, rfl⟩
  · go_enter Try.func18, Try.ntmps18
    go_wp2
    go_loop [8, 9] (fun x y => (x = .int .i64 0 ∧ y = .int .i64 3) ∨ (x = .int .i64 1 ∧ y = .int .i64 4)) (fun _ y => 5 - (intOf y).toNat)
    case atStart => exact .inl ⟨rfl, rfl⟩
    case round =>
      rcases hrel with ⟨rfl, rfl⟩ | ⟨rfl, rfl⟩
      · go_wp2
        go_round
        case rel => exact .inr ⟨by congr 1; decide +kernel, by first | rfl | go_num⟩
        case measure => simp [intOf]
      · go_wp2
        go_ret2
        exact ⟨rfl, rfl⟩
  · go_enter Try.func18, Try.ntmps18
    go_wp2
    go_loop [8, 9] (fun x y => (x = .int .i64 0 ∧ y = .int .i64 4) ∨ (x = .int .i64 0 ∧ y = .int .i64 5)) (fun _ y => 6 - (intOf y).toNat)
    case atStart => exact .inl ⟨rfl, rfl⟩
    case round =>
      rcases hrel with ⟨rfl, rfl⟩ | ⟨rfl, rfl⟩
      · go_wp2
        go_round
        case rel => exact .inr ⟨by congr 1; decide +kernel, by first | rfl | go_num⟩
        case measure => simp [intOf]
      · go_wp2
        go_ret2
        exact ⟨rfl, rfl⟩
  · go_enter Try.func18, Try.ntmps18
    go_wp2
    go_loop [8, 9] (fun x y => (x = .int .i64 0 ∧ y = .int .i64 5) ∨ (x = .int .i64 1 ∧ y = .int .i64 6)) (fun _ y => 7 - (intOf y).toNat)
    case atStart => exact .inl ⟨rfl, rfl⟩
    case round =>
      rcases hrel with ⟨rfl, rfl⟩ | ⟨rfl, rfl⟩
      · go_wp2
        go_round
        case rel => exact .inr ⟨by congr 1; decide +kernel, by first | rfl | go_num⟩
        case measure => simp [intOf]
      · go_wp2
        go_ret2
        exact ⟨rfl, rfl⟩
  · go_enter Try.func18, Try.ntmps18
    go_wp2
    go_loop [8, 9] (fun x y => (x = .int .i64 0 ∧ y = .int .i64 6) ∨ (x = .int .i64 0 ∧ y = .int .i64 7)) (fun _ y => 8 - (intOf y).toNat)
    case atStart => exact .inl ⟨rfl, rfl⟩
    case round =>
      rcases hrel with ⟨rfl, rfl⟩ | ⟨rfl, rfl⟩
      · go_wp2
        go_round
        case rel => exact .inr ⟨by congr 1; decide +kernel, by first | rfl | go_num⟩
        case measure => simp [intOf]
      · go_wp2
        go_ret2
        exact ⟨rfl, rfl⟩
  · go_enter Try.func18, Try.ntmps18
    go_wp2
    go_loop [8, 9] (fun x y => (x = .int .i64 0 ∧ y = .int .i64 7) ∨ (x = .int .i64 1 ∧ y = .int .i64 8)) (fun _ y => 9 - (intOf y).toNat)
    case atStart => exact .inl ⟨rfl, rfl⟩
    case round =>
      rcases hrel with ⟨rfl, rfl⟩ | ⟨rfl, rfl⟩
      · go_wp2
        go_round
        case rel => exact .inr ⟨by congr 1; decide +kernel, by first | rfl | go_num⟩
        case measure => simp [intOf]
      · go_wp2
        go_ret2
        exact ⟨rfl, rfl⟩

end Go.Proofs.Ythmmoogfngohaaa
