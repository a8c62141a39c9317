/- Layer 24: a way through blocks, as plain functions: a step, the way to the next step that is told, how many rounds it may take; nothing of the program is in it. -/
import Derived.Test.YtnmapncgnceldaaBytes
namespace Go.Proofs.Ytnmapncgnceldaa
open Go.RowKit

/-- what a way asks of a block: its kind, its pause, its count, its numbers, its choices' numbers -/
structure WB where
  id : Int
  pz : Int
  ct : Int
  ts : List Int
  ns : List Int
instance : Inhabited WB := ⟨⟨0, 0, 0, [], []⟩⟩
/-- how a way stands -/
structure WS where
  at_ : Int
  on : Bool
  heard : Bool
  frm : Int
  times : Int
  con : Bool
  cfrom : Int
  cnext : Int
  tk : List Int
  lk : Int
  lb : Int
  le : Int
  ov : Bool
def ws0 : WS := ⟨0, false, false, 0, 0, false, 0, 0, [], 0, 0, 0, false⟩
def soundsB (i : Int) : Bool := decide (16 ≤ i ∧ i ≤ 21 ∨ i = 24 ∨ i = 25 ∨ i = 32)
def stayS (s : WS) (k b e : Int) : WS := { s with lk := k, lb := b, le := e, ov := true }
def atB (bs : List WB) (i : Int) : WB := bs.getD i.toNat default
/-- where a block leads that isn't told: a fault, or how the way goes on -/
def leadE (bs : List WB) (s : WS) : Int :=
  if (atB bs s.at_).id = 35 then (if s.at_ ∈ s.tk then 11 else 0)
  else if (atB bs s.at_).id = 37 then (if s.on = false then 6 else 0)
  else if (atB bs s.at_).id = 38 then (if s.con = true then 6 else 0)
  else if (atB bs s.at_).id = 39 then (if s.con = false then 9 else 0)
  else 0
def leadS (bs : List WB) (s : WS) : WS :=
  if (atB bs s.at_).id = 35 then { s with tk := s.at_ :: s.tk, at_ := s.at_ + (atB bs s.at_).ts.getD 0 0 }
  else if (atB bs s.at_).id = 36 then { s with on := true, heard := false, frm := s.at_ + 1, times := (if (atB bs s.at_).ct < 1 then 1 else (atB bs s.at_).ct) - 1, at_ := s.at_ + 1 }
  else if (atB bs s.at_).id = 37 then (if 0 < s.times ∧ s.heard = true then { s with times := s.times - 1, heard := false, at_ := s.frm } else { s with on := false, heard := false, frm := 0, times := 0, at_ := s.at_ + 1 })
  else if (atB bs s.at_).id = 38 then (if 0 < (atB bs s.at_).ts.length then { s with con := true, cfrom := s.at_, cnext := 1, at_ := s.at_ + (atB bs s.at_).ts.getD 0 0 } else { s with at_ := s.at_ + 1 })
  else if (atB bs s.at_).id = 39 then (if s.cnext < (atB bs s.cfrom).ts.length then { s with cnext := s.cnext + 1, at_ := s.cfrom + (atB bs s.cfrom).ts.getD s.cnext.toNat 0 } else { s with con := false, cfrom := 0, cnext := 0, at_ := s.cfrom + 1 })
  else { s with at_ := s.at_ + 1 }
/-- what a block is that is told: 1 a stop, 2 a level, 0 a sound; 3: it isn't told -/
def toldK (b : WB) : Int := if b.id = 32 ∧ b.pz = 0 ∨ b.id = 42 then 1 else if b.id = 43 then 2 else if soundsB b.id = true then 0 else 3
structure Tell where
  k : Int
  b : Int
  e : Int
/-- the way to the next step that is told -/
def nextW (bs : List WB) : Nat → WS → Tell × WS
  | 0, s => (⟨0, 0, 0⟩, s)
  | f + 1, s =>
    if s.at_ < bs.length then
      if toldK (atB bs s.at_) = 3 then
        if leadE bs s = 0 then nextW bs f (leadS bs s) else (⟨4, s.at_, leadE bs s⟩, stayS s 4 s.at_ (leadE bs s))
      else (⟨toldK (atB bs s.at_), s.at_, 0⟩, { s with at_ := s.at_ + 1 })
    else (⟨3, bs.length, 0⟩, stayS s 3 bs.length 0)
/-- no block leads to where none is -/
def Fine (bs : List WB) : Prop := bs.length ≤ 60 ∧ ∀ i : Nat, i < bs.length → (bs.getD i default).ts.length ≤ 60 ∧ ((bs.getD i default).id = 35 → (bs.getD i default).ts ≠ []) ∧ ((bs.getD i default).id = 35 ∨ (bs.getD i default).id = 38 → ∀ d ∈ (bs.getD i default).ts, 0 ≤ (i : Int) + d ∧ (i : Int) + d < bs.length) ∧ (bs.getD i default).ct ≤ 9223372036854775807
/-- jumps that were not taken yet -/
def leftN (bs : List WB) (tk : List Int) : Nat := ((List.range bs.length).filter fun i : Nat => decide ((i : Int) ∉ tk)).length
/-- how a way may stand -/
def WS.ok (bs : List WB) (s : WS) : Prop := 0 ≤ s.at_ ∧ s.at_ ≤ bs.length ∧ (s.on = true → 0 ≤ s.frm ∧ s.frm ≤ bs.length) ∧ (s.con = true → 0 ≤ s.cfrom ∧ s.cfrom < bs.length ∧ 1 ≤ s.cnext ∧ s.cnext ≤ (atB bs s.cfrom).ts.length ∧ (atB bs s.cfrom).id = 38) ∧ 0 ≤ s.times ∧ s.times ≤ 9223372036854775806 ∧ s.tk.length + leftN bs s.tk ≤ bs.length
def hN (b : Bool) : Nat := if b then 1 else 0
def innerN (bs : List WB) (s : WS) : Nat := if s.con then ((atB bs s.cfrom).ts.length - s.cnext.toNat) * 61 + (bs.length - s.at_.toNat) else 3800
def baseN (s : WS) : Nat := if s.con then s.cfrom.toNat else s.at_.toNat
/-- so many rounds at most are to come -/
def roundsN (bs : List WB) (s : WS) : Nat := (leftN bs s.tk + hN s.heard) * 300000 + (bs.length - baseN s) * 4000 + innerN bs s

theorem atB_in {bs : List WB} {i : Int} (h0 : 0 ≤ i) (_h1 : i < bs.length) : atB bs i = bs.getD i.toNat default := rfl
theorem left_cons {bs : List WB} {tk : List Int} {i : Int} (h0 : 0 ≤ i) (h1 : i < bs.length) (h : i ∉ tk) : leftN bs (i :: tk) + 1 ≤ leftN bs tk := by
  unfold leftN
  obtain ⟨n, rfl⟩ : ∃ n : Nat, i = (n : Int) := ⟨i.toNat, by omega⟩
  have hn : n < bs.length := by omega
  generalize bs.length = m at *
  clear h0 h1
  induction m with
  | zero => omega
  | succ m ih =>
    rw [List.range_succ, List.filter_append, List.filter_append, List.length_append, List.length_append]
    by_cases hm : n < m
    · have := ih hm
      have h2 : ([m].filter fun i : Nat => decide ((i : Int) ∉ (n : Int) :: tk)).length ≤ ([m].filter fun i : Nat => decide ((i : Int) ∉ tk)).length := by
        by_cases hk : (m : Int) ∈ tk
        · simp [hk]
        · rw [List.filter_cons]
          split
          · simp [hk]
          · simp
      omega
    · obtain rfl : n = m := by omega
      have e1 : ([n].filter fun i : Nat => decide ((i : Int) ∉ (n : Int) :: tk)).length = 0 := by simp
      have e2 : ([n].filter fun i : Nat => decide ((i : Int) ∉ tk)).length = 1 := by simp [h]
      have e3 : ((List.range n).filter fun i : Nat => decide ((i : Int) ∉ (n : Int) :: tk)).length ≤ ((List.range n).filter fun i : Nat => decide ((i : Int) ∉ tk)).length := by
        generalize List.range n = l
        induction l with
        | nil => simp
        | cons a l ih2 =>
          rw [List.filter_cons, List.filter_cons]
          by_cases ha : (a : Int) ∈ tk
          · rw [if_neg (by simp [ha]), if_neg (by simp [ha])]; exact ih2
          · rw [if_pos (c := decide ((a : Int) ∉ tk) = true) (by simp [ha])]
            split
            · simp only [List.length_cons]; omega
            · simp only [List.length_cons]; omega
      omega
theorem left_le (bs : List WB) (tk : List Int) : leftN bs tk ≤ bs.length := by
  unfold leftN
  have := List.length_filter_le (fun i : Nat => decide ((i : Int) ∉ tk)) (List.range bs.length)
  simpa using this
theorem getD_mem {l : List Int} {k : Nat} (h : k < l.length) : l.getD k 0 ∈ l := by
  rw [List.getD_eq_getElem?_getD, List.getElem?_eq_getElem h]
  exact List.getElem_mem h
/-- a round keeps the way as it may stand, and fewer rounds are to come -/
theorem lead_ok {bs : List WB} {s : WS} (hf : Fine bs) (hs : s.ok bs) (hlt : s.at_ < bs.length) (he : leadE bs s = 0) : (leadS bs s).ok bs ∧ roundsN bs (leadS bs s) < roundsN bs s := by
  obtain ⟨a0, a1, hon, hcon, ht, htu, htk⟩ := hs
  obtain ⟨n, hn⟩ : ∃ n : Nat, s.at_ = (n : Int) := ⟨s.at_.toNat, by omega⟩
  have hnl : n < bs.length := by omega
  obtain ⟨t1, t2, t3, t4⟩ := hf.2 n hnl
  have hl60 := hf.1
  have hb : atB bs s.at_ = bs.getD n default := by rw [hn]; rfl
  have hll := left_le bs s.tk
  have hin : innerN bs s ≤ 3800 ∧ (s.con = true → innerN bs s < 3800) := by
    unfold innerN
    split
    · rename_i hc
      obtain ⟨c0, c1, c2, c3, _⟩ := hcon hc
      have := (hf.2 s.cfrom.toNat (by omega)).1
      have h9 : (atB bs s.cfrom).ts.length ≤ 60 := this
      omega
    · rename_i hc
      exact ⟨by omega, fun h => absurd h hc⟩
  have hbase : baseN s < bs.length := by
    unfold baseN
    split
    · rename_i hc
      have := (hcon hc).2.1
      have := (hcon hc).1
      omega
    · omega
  have hh : hN s.heard ≤ 1 := by unfold hN; split <;> omega
  unfold leadE at he
  unfold leadS
  rw [hb] at he ⊢
  by_cases h35 : (bs.getD n default).id = 35
  · rw [if_pos h35] at he ⊢
    have hnt : s.at_ ∉ s.tk := by
      intro h
      rw [if_pos h] at he
      exact absurd he (by decide)
    have hlc := left_cons a0 (by omega) hnt
    have hne := t2 h35
    have hd := t3 (.inl h35) ((bs.getD n default).ts.getD 0 0) (getD_mem (by cases h : (bs.getD n default).ts with | nil => exact absurd h hne | cons a l => simp))
    refine ⟨⟨by show 0 ≤ s.at_ + _; omega, by show s.at_ + _ ≤ _; omega, hon, hcon, ht, htu, by show (s.at_ :: s.tk).length + leftN bs (s.at_ :: s.tk) ≤ _; rw [List.length_cons]; omega⟩, ?_⟩
    have hin2 : innerN bs { s with tk := s.at_ :: s.tk, at_ := s.at_ + (bs.getD n default).ts.getD 0 0 } ≤ 3800 := by
      unfold innerN
      split
      · rename_i hc
        obtain ⟨c0, c1, c2, c3, _⟩ := hcon hc
        have h9 : (atB bs s.cfrom).ts.length ≤ 60 := (hf.2 s.cfrom.toNat (by omega)).1
        simp only at *
        omega
      · omega
    unfold roundsN
    simp only at *
    omega
  · rw [if_neg h35] at he ⊢
    -- one block on
    have fwd : ∀ (on' heard' : Bool) (frm' times' : Int), (on' = true → 0 ≤ frm' ∧ frm' ≤ bs.length) → 0 ≤ times' ∧ times' ≤ 9223372036854775806 → (heard' = true → s.heard = true) →
        WS.ok bs { s with on := on', heard := heard', frm := frm', times := times', at_ := s.at_ + 1 } ∧ roundsN bs { s with on := on', heard := heard', frm := frm', times := times', at_ := s.at_ + 1 } < roundsN bs s := by
      intro on' heard' frm' times' h1 h2 h3
      refine ⟨⟨by show 0 ≤ s.at_ + 1; omega, by show s.at_ + 1 ≤ _; omega, h1, hcon, h2.1, h2.2, htk⟩, ?_⟩
      have hh2 : hN heard' ≤ hN s.heard := by
        unfold hN
        cases heard' with
        | false => simp
        | true => rw [h3 rfl]; simp
      unfold roundsN innerN baseN
      simp only
      cases hc : s.con with
      | false => simp only [Bool.false_eq_true, if_false]; omega
      | true => simp only [if_true]; omega
    by_cases h36 : (bs.getD n default).id = 36
    · rw [if_pos h36]
      have h37 : ¬ (bs.getD n default).id = 37 := by omega
      refine fwd true false (s.at_ + 1) _ (fun _ => ⟨by omega, by omega⟩) ?_ (by simp)
      split <;> constructor <;> omega
    · rw [if_neg h36]
      by_cases h37 : (bs.getD n default).id = 37
      · rw [if_pos h37] at he ⊢
        have hon1 : s.on = true := by
          cases ho : s.on with
          | true => rfl
          | false => rw [ho, if_pos rfl] at he; exact absurd he (by decide)
        obtain ⟨f0, f1⟩ := hon hon1
        split
        · rename_i hth
          refine ⟨⟨f0, f1, hon, hcon, by show 0 ≤ s.times - 1; omega, by show s.times - 1 ≤ _; omega, htk⟩, ?_⟩
          have hin2 : innerN bs { s with times := s.times - 1, heard := false, at_ := s.frm } ≤ 3800 := by
            unfold innerN
            split
            · rename_i hc
              obtain ⟨c0, c1, c2, c3, _⟩ := hcon hc
              have h9 : (atB bs s.cfrom).ts.length ≤ 60 := (hf.2 s.cfrom.toNat (by omega)).1
              simp only at *
              omega
            · omega
          have hh3 : hN s.heard = 1 := by rw [hth.2]; rfl
          have hh4 : hN false = 0 := rfl
          unfold roundsN
          simp only at *
          omega
        · exact fwd false false 0 0 (by simp) ⟨by omega, by omega⟩ (by simp)
      · rw [if_neg h37] at he ⊢
        by_cases h38 : (bs.getD n default).id = 38
        · rw [if_pos h38] at he ⊢
          have hc1 : s.con = false := by
            cases hc : s.con with
            | false => rfl
            | true => rw [hc, if_pos rfl] at he; exact absurd he (by decide)
          split
          · rename_i hts
            have hd := t3 (.inr h38) ((bs.getD n default).ts.getD 0 0) (getD_mem hts)
            have hbn : (atB bs s.at_).ts = (bs.getD n default).ts := by rw [hb]
            refine ⟨⟨by show 0 ≤ s.at_ + _; omega, by show s.at_ + _ ≤ _; omega, hon, fun _ => ⟨a0, by show s.at_ < _; omega, by show (1 : Int) ≤ 1; omega, by show (1 : Int) ≤ (atB bs s.at_).ts.length; rw [hbn]; omega, by show (atB bs s.at_).id = 38; rw [hb]; exact h38⟩, ht, htu, htk⟩, ?_⟩
            unfold roundsN innerN baseN
            simp only [hc1, if_true, Bool.false_eq_true, if_false, hbn]
            omega
          · exact fwd s.on s.heard s.frm s.times hon ⟨ht, htu⟩ (fun h => h)
        · rw [if_neg h38] at he ⊢
          by_cases h39 : (bs.getD n default).id = 39
          · rw [if_pos h39] at he ⊢
            have hc1 : s.con = true := by
              cases hc : s.con with
              | true => rfl
              | false => rw [hc, if_pos rfl] at he; exact absurd he (by decide)
            obtain ⟨c0, c1, c2, c3, hid⟩ := hcon hc1
            obtain ⟨g, hg⟩ : ∃ g : Nat, s.cfrom = (g : Int) := ⟨s.cfrom.toNat, by omega⟩
            obtain ⟨u1, u2, u3, u4⟩ := hf.2 g (by omega)
            have hbg : atB bs s.cfrom = bs.getD g default := by rw [hg]; rfl
            split
            · rename_i hlt2
              rw [hbg] at hlt2 hid
              have hd := u3 (.inr hid) ((bs.getD g default).ts.getD s.cnext.toNat 0) (getD_mem (by omega))
              refine ⟨⟨by show 0 ≤ s.cfrom + _; rw [hbg]; omega, by show s.cfrom + _ ≤ _; rw [hbg]; omega, hon, fun _ => ⟨c0, c1, by show 1 ≤ s.cnext + 1; omega, by show s.cnext + 1 ≤ (atB bs s.cfrom).ts.length; rw [hbg]; omega, by show (atB bs s.cfrom).id = 38; rw [hbg]; exact hid⟩, ht, htu, htk⟩, ?_⟩
              unfold roundsN innerN baseN
              simp only [hc1, if_true, hbg]
              omega
            · refine ⟨⟨by show 0 ≤ s.cfrom + 1; omega, by show s.cfrom + 1 ≤ _; omega, hon, fun h => absurd h (by simp), ht, htu, htk⟩, ?_⟩
              unfold roundsN innerN baseN
              simp only [hc1, if_true, Bool.false_eq_true, if_false]
              omega
          · rw [if_neg h39]
            exact fwd s.on s.heard s.frm s.times hon ⟨ht, htu⟩ (fun h => h)
end Go.Proofs.Ytnmapncgnceldaa
