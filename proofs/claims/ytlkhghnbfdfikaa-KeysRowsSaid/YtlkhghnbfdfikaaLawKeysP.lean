/- The laws of layer 10, walked: KeysPlays: it returns true and writes nothing that was there. -/
import Derived.Test.YtlkhghnbfdfikaaKeys9
import Derived.BigQuiet
import Derived.Deep.SlicePairs
namespace Go.Proofs.Ytlkhghnbfdfikaa
open Go.RowKit

theorem downL_at {d : Nat → Int} {i : Nat} (h : onD d i = true) : ∀ m, i < m → (downL d m)[(downL d i).length]? = some i
  | 0, hm => by omega
  | m + 1, hm => by
    by_cases e : i = m
    · subst e
      rw [downL_yes h, List.getElem?_append_right (Nat.le_refl _)]
      simp
    · have ih := downL_at h m (by omega)
      have hlt : (downL d i).length < (downL d m).length := by
        rcases Nat.lt_or_ge (downL d i).length (downL d m).length with h1 | h1
        · exact h1
        · rw [List.getElem?_eq_none h1] at ih; cases ih
      cases hm' : onD d m with
      | true => rw [downL_yes hm', List.getElem?_append_left hlt]; exact ih
      | false => rw [downL_no hm']; exact ih
theorem downV_at {d : Nat → Int} {i : Nat} (h : onD d i = true) (hi : i < 40) : (downV d 40)[(downL d i).length]? = some (.string (keyB i)) ∧ (downL d i).length < (downL d 40).length := by
  have h1 := downL_at h 40 hi
  refine ⟨by unfold downV; rw [List.getElem?_map, h1]; rfl, ?_⟩
  rcases Nat.lt_or_ge (downL d i).length (downL d 40).length with h2 | h2
  · exact h2
  · rw [List.getElem?_eq_none h2] at h1; cases h1
theorem blk_reads {w : World} {g : Nat} {d : Nat → Int} (hB : Blk w g 68 (keysA d)) : ∀ j, j < 8 → w.cell? ⟨g, j, none⟩ = some (.int .u8 (d j)) := fun j hj => (hB.cell j).trans (keysA_at d hj)

set_option maxRecDepth 100000 in
set_option maxHeartbeats 4000000 in
theorem keysPlays_walk (A : Option Addr) (m c : Nat) (l : List (ByteArray × Bool)) (h : Int) (w : World) (hr : Reads w w.heap.size 2 A m (opsV l)) (w1 : (Lit.int .u8 h).wf = true) :
    Calls Try.prog 8 #[.slice A m c, .int .u8 h] w fun e w' => e = .returned (.bool true) ∧ Below w.heap.size w w' := by
  obtain ⟨h0, h1⟩ := bounds_u8 w1
  clear w1
  by_cases hm : (m : Int) ≤ 200
  · go_enter Try.func8, Try.ntmps8
    go_wp2_with fail
    refine (play_any A m c l w hr (by omega)).mono ?_
    rintro e w1 ⟨v, d, zs, rfl, hB, hown, hS, hlz, hb1⟩
    obtain ⟨VA, vc, rfl⟩ := own_sliceK hown
    have hrd := hS.read h0 h1
    have hR5 := hS.1
    have HS2 := Lib.hid hS.2
    clear hS
    have KR := Lib.hid (fun w' => read_any w.heap.size d h w' h0 h1)
    have KRR := Lib.hid (fun w' B k => readR_any VA zs.length vc zs h B w' k (by omega) h0 h1)
    have KD := Lib.hid (fun w' hg => down_any w.heap.size d w' hg (fun j => ⟨(hR5 j).1, by have := (hR5 j).2; omega⟩))
    rw [hrd] at KRR
    clear hrd hr hR5
    generalize readS d h 8 = S at *
    go_wp2_with fail
    refine (KR.out w1 (blk_reads hB)).mono ?_
    rintro e w2 ⟨rfl, rfl⟩
    go_wp2_with fail
    refine (KRR.out w1 _ (Reads.of_own hown)).mono ?_
    rintro e w2 ⟨rfl, rfl⟩
    go_wp2_with fail
    refine (namesR_any w1).mono ?_
    rintro e w2 ⟨rfl, hN, hb2⟩
    have hB2 := hB.below hb2 hB.lt
    have hbl2 : Below w.heap.size w w2 := bthen hb1 hb2
    have hown2 := own_kept10 hown hb2
    clear hB hown hb1 hb2
    go_wp2_with fail
    refine (KD.out w2 hB2.lt (blk_reads hB2)).mono ?_
    rintro e w3 ⟨v3, rfl, hD, hb3⟩
    obtain ⟨DA, dc, rfl⟩ := own_sliceK hD
    have hN3 := hN.below hb3 hN.lt
    have hown3 := Reads.of_own (own_kept10 hown2 hb3)
    have hbl3 : Below w.heap.size w w3 := bthen hbl2 hb3
    clear hB2 hN hown2 hbl2 hb3 KR KRR KD
    generalize w1.heap.size = gN at *
    have hLL := downL_le d 40
    go_wp2
    go_loopw [9, 11] (fun a x wr => ∃ i q : Nat, (i : Int) ≤ 40 ∧ x = .int .i64 i ∧ a = .int .i64 ((downL d i).length : Nat) ∧ wr = w3.drewN q) (fun _ x _ => 40 - (intOf x).toNat)
    case atStart => exact ⟨0, 0, by omega, rfl, rfl, rfl⟩
    case round =>
      obtain ⟨i, q, hi, rfl, rfl, rfl⟩ := hrel
      by_cases hlt : (i : Int) < 40
      · have hin := in_any (i : Int) VA zs.length vc zs _ (w3.drewN q) (hown3.drewN q) (by omega)
        have hmem := HS2.out i (by omega)
        have hnc : w3.cell? ⟨gN, i, none⟩ = some (.string (keyB i)) := (hN3.cell i).trans (mat_cell (by omega))
        have hle := downL_le d i
        cases ho : onD d i
        · have hd : decide ((i : Int) ∈ zs) = false := decide_eq_false (fun hm => by rw [hmem.2 hm] at ho; cases ho)
          rw [hd] at hin
          have HL := Lib.hid (downL_no ho)
          clear hmem hd
          go_wp2_with fail
          refine hin.mono ?_
          rintro e w4 ⟨rfl, rfl⟩
          go_wp2
          go_roundw
          case rel => exact ⟨i + 1, q, by omega, by go_num, by rw [HL.out], rfl⟩
          case measure => simp [intOf]; omega
        · have hd : decide ((i : Int) ∈ zs) = true := decide_eq_true (hmem.1 ho)
          rw [hd] at hin
          have HL := Lib.hid (downL_yes ho)
          obtain ⟨hdv, hdl⟩ := downV_at ho (by omega)
          obtain ⟨gD, cD, e1, _, _⟩ := hD.form (by omega)
          injection e1 with e1 _ e2
          subst e1 e2
          have hdc : w3.cell? ⟨gD, (downL d i).length, none⟩ = some (.string (keyB i)) := (hD.cellAt _ (by omega)).trans hdv
          generalize keyB i = T at *
          generalize hN9 : (downL d i).length = N at *
          have HN9 := Lib.hid hN9
          clear hN9
          generalize (downL d 40).length = M at *
          have hdec : decide (M ≤ N) = false := decide_eq_false (by omega)
          have hdecI : decide ((M : Int) ≤ (N : Int)) = false := decide_eq_false (by omega)
          clear hmem hd hdv
          go_wp2_with fail
          refine hin.mono ?_
          rintro e w4 ⟨rfl, rfl⟩
          go_wp2
          go_quiet (fail)
          go_wp2
          go_roundw
          case rel => exact ⟨i + 1, q + nq, by omega, by go_num, by rw [HL.out, List.length_append, HN9.out]; simp, by first | rfl | rw [World.drewN_drewN]⟩
          case measure => simp [intOf]; omega
      · obtain rfl : i = 40 := by omega
        generalize (downL d 40).length = M at *
        go_wp2_with fail
        refine (lives10 _).mono ?_
        rintro e w5 ⟨rfl, hb5⟩
        go_wp2
        go_ret
        exact ⟨rfl, bthen (below_drewN hbl3 q) hb5⟩
  · have hm' : (200 : Int) < (m : Int) := by omega
    go_enter Try.func8, Try.ntmps8
    go_wp2_with fail
    refine (lives10 _).mono ?_
    rintro e w5 ⟨rfl, hb5⟩
    go_wp2
    go_ret
    exact ⟨rfl, hb5⟩

theorem pairs_of {W : World} {x : Addr} {n : Nat} (hlt : 0 < n → x.block < W.heap.size) (V0 V1 : Nat → Value) (hc : ∀ i, i < n → W.cell? (x.add (i * 2)) = some (V0 i) ∧ W.cell? (x.add (i * 2 + 1)) = some (V1 i))
    (h0 : ∀ i, i < n → ∃ s, V0 i = .string s) (h1 : ∀ i, i < n → ∃ b, V1 i = .bool b) : ∃ l, Reads W W.heap.size 2 (some x) n (opsV l) := by
  obtain ⟨S, hS⟩ := Go.Deep.choose_lt h0
  obtain ⟨b, hB⟩ := Go.Deep.choose_lt h1
  have hl : ((List.range n).map fun i => (S i, b i)).length = n := by simp
  refine ⟨(List.range n).map fun i => (S i, b i), by rw [opsV_len, hl], fun hn => ⟨x, rfl, hlt hn, fun j u hu => ?_⟩⟩
  have hj : j < n * 2 := by
    rcases Nat.lt_or_ge j (n * 2) with h | h
    · exact h
    · rw [List.getElem?_eq_none (by rw [opsV_len, hl]; exact h)] at hu; cases hu
  have hi : j / 2 < n := by omega
  obtain ⟨e0, e1⟩ := opsV_at (l := (List.range n).map fun i => (S i, b i)) (k := j / 2) (by rw [hl]; exact hi)
  have hg : ((List.range n).map fun i => (S i, b i)).getD (j / 2) (⟨#[]⟩, false) = (S (j / 2), b (j / 2)) := by simp [List.getD_eq_getElem?_getD, hi]
  rw [hg] at e0 e1
  obtain ⟨c0, c1⟩ := hc _ hi
  rw [hS _ hi] at c0
  rw [hB _ hi] at c1
  rcases Nat.mod_two_eq_zero_or_one j with h | h
  · rw [show j / 2 * 2 = j by omega] at e0 c0
    rw [hu] at e0
    rw [c0, ← e0]
  · rw [show j / 2 * 2 + 1 = j by omega] at e1 c1
    rw [hu] at e1
    rw [c1, ← e1]

end Go.Proofs.Ytlkhghnbfdfikaa
