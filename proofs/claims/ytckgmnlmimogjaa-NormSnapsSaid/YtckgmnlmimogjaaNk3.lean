/- Layer 26 for 27: contracts of a recording's blocks: how many gaps are short; the block of a long gap. -/
import Derived.Test.YtckgmnlmimogjaaNk2
namespace Go.Proofs.Ytckgmnlmimogjaa
open Go.RowKit

def shN (ls : List Int) : Nat := ((ls.take 255).takeWhile fun z => decide (z ≤ 65535)).length
theorem take_while_lt {α : Type} {p : α → Bool} {d : α} : ∀ {l : List α} {k : Nat}, k < (l.takeWhile p).length → k < l.length ∧ p (l.getD k d) = true
  | [], k, h => by simp at h
  | a :: l, k, h => by
    by_cases ha : p a = true
    · rw [List.takeWhile_cons_of_pos ha, List.length_cons] at h
      match k with
      | 0 => exact ⟨by simp, by simpa using ha⟩
      | k + 1 =>
        obtain ⟨h1, h2⟩ := take_while_lt (p := p) (l := l) (k := k) (d := d) (by omega)
        exact ⟨by simp; omega, by simpa using h2⟩
    · rw [List.takeWhile_cons_of_neg ha] at h; simp at h
theorem take_while_end {α : Type} {p : α → Bool} {d : α} : ∀ {l : List α}, (l.takeWhile p).length < l.length → p (l.getD (l.takeWhile p).length d) = false
  | [], h => by simp at h
  | a :: l, h => by
    by_cases ha : p a = true
    · rw [List.takeWhile_cons_of_pos ha] at h ⊢
      have := take_while_end (p := p) (l := l) (d := d) (by simpa using h)
      simpa using this
    · rw [List.takeWhile_cons_of_neg ha]; simpa using ha
theorem shN_in {ls : List Int} {k : Nat} (h : k < shN ls) : k < ls.length ∧ k < 255 ∧ ls.getD k 0 ≤ 65535 := by
  obtain ⟨h1, h2⟩ := take_while_lt (d := 0) h
  simp only [List.length_take] at h1
  have e : (ls.take 255).getD k 0 = ls.getD k 0 := by
    rw [List.getD_eq_getElem?_getD, List.getElem?_take, if_pos (by omega), ← List.getD_eq_getElem?_getD]
  rw [e] at h2
  exact ⟨by omega, by omega, by simpa using h2⟩
theorem shN_le (ls : List Int) : shN ls ≤ ls.length ∧ shN ls ≤ 255 := by
  have := (List.takeWhile_sublist (l := ls.take 255) (fun z => decide (z ≤ 65535))).length_le
  simp only [List.length_take] at this
  unfold shN
  omega
theorem shN_end {ls : List Int} (h1 : shN ls < ls.length) (h2 : shN ls < 255) : 65535 < ls.getD (shN ls) 0 := by
  have := take_while_end (d := 0) (l := ls.take 255) (p := fun z => decide (z ≤ 65535)) (by
    have e : (ls.take 255).length = min 255 ls.length := List.length_take
    unfold shN at h1 h2
    omega)
  have e : (ls.take 255).getD (shN ls) 0 = ls.getD (shN ls) 0 := by
    rw [List.getD_eq_getElem?_getD, List.getElem?_take, if_pos h2, ← List.getD_eq_getElem?_getD]
  have e2 : decide ((ls.take 255).getD (shN ls) 0 ≤ 65535) = false := this
  rw [e] at e2
  have := of_decide_eq_false e2
  omega

set_option maxRecDepth 100000 in
set_option maxHeartbeats 4000000 in
theorem shorts_any (w : World) (B n c : Nat) (A : Option Addr) (ls : List Int) (hr : Reads w B 1 A n (ls.map (Value.int .i64))) (hn : n ≤ 1000000) :
    Calls Try.prog 40 #[.slice A n c] w fun e w' => e = .returned (.int .i64 (shN ls)) ∧ w = w' := by
  have hl := reads_len hr
  have HIN := Lib.hid (fun k (h : k < shN ls) => shN_in h)
  have HEND := Lib.hid (fun (h1 : shN ls < ls.length) (h2 : shN ls < 255) => shN_end h1 h2)
  have HLE := shN_le ls
  have HR := Lib.hid (And.intro hr hl)
  clear hr
  generalize shN ls = K at *
  have HLL := HLE
  rw [hl] at HLL
  clear HLE hl
  go_enter Try.func40, Try.ntmps40
  go_wp2
  go_loop [3] (fun x => ∃ j : Nat, j ≤ K ∧ x = .int .i64 j) (fun x => K + 1 - (intOf x).toNat)
  case atStart => exact ⟨0, by omega, rfl⟩
  case round =>
    obtain ⟨j, hj, rfl⟩ := hrel
    have hj0 : (0 : Int) ≤ (j : Int) := Int.natCast_nonneg _
    have hwj : IntKind.i64.wrap ((j : Int) + 1) = (j : Int) + 1 := by rw [IntKind.wrap_i64]; omega
    by_cases hlt : j < K
    · obtain ⟨h1, h2, h3⟩ := HIN.out j hlt
      rw [HR.out.2] at h1
      obtain ⟨ad, rfl, _, hc⟩ := i32_at HR.out.1 h1
      generalize ls.getD j 0 = z at *
      have i1 : (j : Int) < (n : Int) := by omega
      have i2 : (j : Int) < 255 := by omega
      have i3 : z ≤ 65535 := h3
      have HJ := Lib.hid hlt
      clear hlt h1 h2 h3 hj HLL
      go_wp2
      go_round
      case rel => exact ⟨j + 1, HJ.out, by go_num⟩
      case measure => have := HJ.out; simp [intOf]; omega
    · obtain rfl : j = K := by omega
      by_cases h1 : j < n
      · have i1 : (j : Int) < (n : Int) := by omega
        by_cases h2 : j < 255
        · have h3 := HEND.out (by rw [HR.out.2]; exact h1) h2
          obtain ⟨ad, rfl, _, hc⟩ := i32_at HR.out.1 h1
          generalize ls.getD j 0 = z at *
          have i2 : (j : Int) < 255 := by omega
          have i3 : ¬ z ≤ 65535 := by omega
          clear hlt h1 h2 h3 hj HLL
          go_wp2
          go_ret
          exact ⟨rfl, rfl⟩
        · have i2 : ¬ (j : Int) < 255 := by omega
          clear hlt h1 h2 hj HLL
          go_wp2
          go_ret
          exact ⟨rfl, rfl⟩
      · have i1 : ¬ (j : Int) < (n : Int) := by omega
        clear hlt h1 hj HLL
        go_wp2
        go_ret
        exact ⟨rfl, rfl⟩

/-- a long gap's block, as data -/
def repsI (k : Int) : List (Int × Int) := if k ≤ 0 then [] else if k ≤ 65535 then [(1, k)] else [(1, 65535), (1, k - 65535)]
def longR (n : Nat) : List (Int × Int) := (0, 1) :: (repsI ((n / 65535 : Nat) - 1) ++ (if 0 < n % 65535 then [(2, 1)] else []))
def longP (n : Nat) : List (Int × List Int) := [(0, [65535]), (1, [65535])] ++ (if 0 < n % 65535 then [(1, [((n % 65535 : Nat) : Int)])] else [])
def longD (n : Nat) : BD := ⟨25, 0, 1, (longP n).length, 0, 0, 0, 0, 0, 0, 0, 0, [], [], longP n, longR n⟩

def SymD.own (w : World) (base : Nat) (q : SymD) : Prop := w.ownsRow base 3 1 (.slice q.a q.n q.c) q.n (q.zs.map (Value.int .i64)) ∧ q.n ≤ 1000000
theorem own_own_ne {w : World} {B B' : Nat} {e e' : TypeId} {s s' n n' : Nat} {v v' : Value} {xs xs' : List Value} (h : w.ownsRow B e s v n xs) (h' : w.ownsRow B' e' s' v' n' xs') (hne : e ≠ e') : v.ownBlock = none ∨ v.ownBlock ≠ v'.ownBlock := by
  rcases h.2 with ⟨rfl, _⟩ | ⟨g, cap, cur, rfl, _, hh, _⟩
  · exact .inl (by simp [Value.ownBlock])
  · refine .inr ?_
    rcases h'.2 with ⟨rfl, _⟩ | ⟨g', cap', cur', rfl, _, hh', _⟩
    · simp [Value.ownBlock]
    · intro e0
      have : g = g' := by simpa [Value.ownBlock] using e0
      subst this
      exact Blk.ne_ (t := e) (t' := e') hh hh' hne rfl
/-- a block of pulses of symbols that is being made -/
def LS (w : World) (base b3 : Nat) (i3 : Int) (pv rv : Value) (pl : List SymD) (rl : List (Int × Int)) : Prop :=
  Blk w b3 33 #[.int .i64 25, .int .i64 0, .int .i64 1, .int .i64 i3, .int .i64 0, .int .i64 0, .int .i64 0, .int .i64 0, .int .i64 0, .int .i64 0, .int .i64 0, .int .i64 0, .slice none 0 0, .slice none 0 0, .slice none 0 0, pv, .slice none 0 0, rv] ∧ w.ownsRow base 104 2 pv pl.length (symV pl) ∧ w.ownsRow base 76 2 rv rl.length (fl rl) ∧ ∀ q ∈ pl, q.own w base
theorem LS.alloc {w : World} {base b3 : Nat} {i3 : Int} {pv rv : Value} {pl : List SymD} {rl : List (Int × Int)} (h : LS w base b3 i3 pv rv pl rl) (o : Obj) : LS (w.alloc o) base b3 i3 pv rv pl rl :=
  ⟨h.1.alloc o, h.2.1.alloc o, h.2.2.1.alloc o, fun q hq => ⟨(h.2.2.2 q hq).1.alloc o, (h.2.2.2 q hq).2⟩⟩
theorem LS.setR {w w' : World} {base b3 : Nat} {i3 : Int} {pv rv rv' : Value} {pl : List SymD} {rl rl' : List (Int × Int)} (h : LS w base b3 i3 pv rv pl rl) (g : w.grownBy w' rv.ownBlock) (o : w'.ownsRow base 76 2 rv' rl'.length (fl rl')) :
    LS (w'.setCell ⟨b3, 17, none⟩ rv') base b3 i3 pv rv' pl rl' := by
  obtain ⟨hB, hP, hR, hq⟩ := h
  have hB1 := hB.grown g (fun e => own_blk_ne hR hB (by decide) e.symm)
  have hP1 := hP.kept g (own_own_ne hP hR (by decide))
  refine ⟨hB1.set_ 17 _, ownsRow_setCell_other hP1 (a := ⟨b3, 17, none⟩) (own_blk_ne hP1 hB1 (by decide)) _, ownsRow_setCell_other o (a := ⟨b3, 17, none⟩) (own_blk_ne o hB1 (by decide)) _, fun q hm => ?_⟩
  have hq1 := (hq q hm).1.kept g (own_own_ne (hq q hm).1 hR (by decide))
  exact ⟨ownsRow_setCell_other hq1 (a := ⟨b3, 17, none⟩) (own_blk_ne hq1 hB1 (by decide)) _, (hq q hm).2⟩
theorem LS.setP {w w' : World} {base b3 : Nat} {i3 : Int} {pv rv pv' : Value} {pl pl' : List SymD} {rl : List (Int × Int)} (h : LS w base b3 i3 pv rv pl rl) (g : w.grownBy w' pv.ownBlock) (o : w'.ownsRow base 104 2 pv' pl'.length (symV pl')) (hn : ∀ q ∈ pl', q.own w base) :
    LS (w'.setCell ⟨b3, 15, none⟩ pv') base b3 i3 pv' rv pl' rl := by
  obtain ⟨hB, hP, hR, hq⟩ := h
  have hB1 := hB.grown g (fun e => own_blk_ne hP hB (by decide) e.symm)
  have hR1 := hR.kept g (own_own_ne hR hP (by decide))
  refine ⟨hB1.set_ 15 _, ownsRow_setCell_other o (a := ⟨b3, 15, none⟩) (own_blk_ne o hB1 (by decide)) _, ownsRow_setCell_other hR1 (a := ⟨b3, 15, none⟩) (own_blk_ne hR1 hB1 (by decide)) _, fun q hm => ?_⟩
  have hq1 := (hn q hm).1.kept g (own_own_ne (hn q hm).1 hP (by decide))
  exact ⟨ownsRow_setCell_other hq1 (a := ⟨b3, 15, none⟩) (own_blk_ne hq1 hB1 (by decide)) _, (hn q hm).2⟩
theorem LS.set3 {w : World} {base b3 : Nat} {i3 j3 : Int} {pv rv : Value} {pl : List SymD} {rl : List (Int × Int)} (h : LS w base b3 i3 pv rv pl rl) : LS (w.setCell ⟨b3, 3, none⟩ (.int .i64 j3)) base b3 j3 pv rv pl rl := by
  obtain ⟨hB, hP, hR, hq⟩ := h
  exact ⟨hB.set_ 3 _, ownsRow_setCell_other hP (a := ⟨b3, 3, none⟩) (own_blk_ne hP hB (by decide)) _, ownsRow_setCell_other hR (a := ⟨b3, 3, none⟩) (own_blk_ne hR hB (by decide)) _, fun q hm => ⟨ownsRow_setCell_other (hq q hm).1 (a := ⟨b3, 3, none⟩) (own_blk_ne (hq q hm).1 hB (by decide)) _, (hq q hm).2⟩⟩
theorem symInfo' : (Try.prog.info? 104).map (fun i => (i.zero, i.size, i.bytes)) = some (some (.agg #[.int .i64 0, .slice none 0 0]), 2, 32) := by kernel_rfl
theorem repInfo' : (Try.prog.info? 76).map (fun i => (i.zero, i.size, i.bytes)) = some (some (.agg #[.int .i64 0, .int .i64 0]), 2, 16) := by kernel_rfl
end Go.Proofs.Ytckgmnlmimogjaa
