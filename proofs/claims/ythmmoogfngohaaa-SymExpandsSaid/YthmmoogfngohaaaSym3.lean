/- Layer 22: contracts of a row's pilots: two symbols, the first one as often as is said, the second one once. -/
import Derived.Test.YthmmoogfngohaaaSym2
import Derived.Deep.CutRange
namespace Go.Proofs.Ythmmoogfngohaaa
open Go.RowKit

theorem Chg.trans {w a b : World} {g : Nat} {r : Option Nat} (h : Chg w a g none) (k : Chg a b g r) (hr : ∀ x, r = some x → w.heap.size ≤ x) : Chg w b g none :=
  ⟨k.1.trans h.1, k.2.1.trans h.2.1, k.2.2.1.trans h.2.2.1, Nat.le_trans h.2.2.2.1 k.2.2.2.1, fun j hj hg _ => (k.2.2.2.2 j (Nat.lt_of_lt_of_le hj h.2.2.2.1) hg (fun e => by have := hr j e.symm; omega)).trans (h.2.2.2.2 j hj hg (by simp))⟩
theorem Chg.refl (w : World) (g : Nat) (r : Option Nat) : Chg w w g r := ⟨rfl, rfl, rfl, Nat.le_refl _, fun _ _ _ _ => rfl⟩
theorem chg_below {w w' : World} {g : Nat} (h : Below w.heap.size w w') : Chg w w' g none := ⟨h.os, h.tape, h.output, h.size, fun j hj _ _ => h.block j hj⟩
theorem chg_alloc (w : World) (o : Obj) (g : Nat) : Chg w (w.alloc o) g none := chg_below ((Below.refl _ _).alloc (Nat.le_refl _) _)
theorem own_ne_of {w : World} {B e size n : Nat} {v v' : Value} {xs : List Value} (h : w.ownsRow B e size v n xs) {r : Option Nat} (h1 : v'.ownBlock = r ∨ ∃ b, v'.ownBlock = some b ∧ w.heap.size ≤ b) (h2 : v.ownBlock = none ∨ v.ownBlock ≠ r) : v.ownBlock = none ∨ v.ownBlock ≠ v'.ownBlock := by
  rcases h2 with h2 | h2
  · exact .inl h2
  · rcases h1 with h1 | ⟨b, h1, hb⟩
    · exact .inr (by rw [h1]; exact h2)
    · cases hv : v.ownBlock with
      | none => exact .inl rfl
      | some x =>
        refine .inr (fun e => ?_)
        rw [h1] at e
        injection e with e
        have := (h.lt x hv).2
        omega
theorem reps_len (m : Nat) (l : List (Int × Int)) : (List.replicate m l).flatten.length = m * l.length := by simp
theorem reps_succ (m : Nat) (l : List (Int × Int)) : (List.replicate (m + 1) l).flatten = (List.replicate m l).flatten ++ l := by
  rw [List.replicate_succ', List.flatten_append]; simp

def ladL (M : Nat) (a b : List (Int × Int)) : Nat → List (Int × Int)
  | 0 => []
  | 1 => (List.replicate M a).flatten
  | _ => (List.replicate M a).flatten ++ b
theorem reads_lenI {w : World} {B n : Nat} {A : Option Addr} {zs : List Int} (h : Reads w B 1 A n (zs.map (Value.int .i64))) : zs.length = n := by have := h.1; simpa using this

set_option maxRecDepth 100000 in
set_option maxHeartbeats 8000000 in
theorem pilots_any (w : World) (g pb rb sb : Nat) (DA : Option Addr) (dn dc : Nat) (n ks kt : Int) (SA TA : Option Addr) (ns cs nt ct : Nat) (zs zt : List Int)
    (hR : Rw w g (.slice none 0 0)) (hP : Blk w pb 40 #[.int .i64 ks, .slice SA ns cs, .int .i64 kt, .slice TA nt ct]) (hrp : Blk w rb 43 #[.int .i64 0, .int .i64 n, .int .i64 1, .int .i64 1])
    (hpg : pb ≠ g) (hrg : rb ≠ g) (hs : Reads w g 1 SA ns (zs.map (Value.int .i64))) (ht : Reads w g 1 TA nt (zt.map (Value.int .i64))) (hns : ns ≤ 100) (hnt : nt ≤ 100)
    (s0 : -9223372036854775808 ≤ ks) (s1 : ks ≤ 9223372036854775807) (t0 : -9223372036854775808 ≤ kt) (t1 : kt ≤ 9223372036854775807) (n1 : n ≤ 1000) :
    Calls Try.prog 11 #[.pointer (some ⟨g, 0, none⟩), .agg #[.int .i64 25, .int .i64 0, .int .i64 0, .int .i64 0, .int .i64 0, .int .i64 0, .int .i64 0, .int .i64 0, .int .i64 8, .int .i64 0, .int .i64 0, .int .i64 0, .slice DA dn dc, .slice none 0 0, .slice none 0 0, .slice (some ⟨pb, 0, none⟩) 2 2, .slice (some ⟨sb, 0, none⟩) 2 2, .slice (some ⟨rb, 0, none⟩) 2 2]] w fun e w' => e = .returned (.tuple #[]) ∧ ∃ (V' : Value) (L : List (Int × Int)), L = (List.replicate n.toNat (es (ks % 4) zs)).flatten ++ es (kt % 4) zt ∧ Rw w' g V' ∧ w'.ownsRow w.heap.size 45 2 V' L.length (fl L) ∧ Chg w w' g none := by
  have hg := hR.lt
  have hlS := reads_lenI hs
  have hlT := reads_lenI ht
  have hKs : (es (ks % 4) zs).length ≤ 100 := by rw [es_len]; have := cutK_le zs; omega
  have hKt : (es (kt % 4) zt).length ≤ 100 := by rw [es_len]; have := cutK_le zt; omega
  obtain ⟨M, hM⟩ : ∃ M, M = n.toNat := ⟨_, rfl⟩
  rw [← hM]
  have hMI : ∀ i : Nat, i ≤ M → ((i : Int) < n ↔ i < M) := fun i hi => by omega
  have hM1 : M ≤ 1000 := by omega
  have HMI := Lib.hid hMI
  have HREP := Lib.hid (reps_len M (es (ks % 4) zs))
  clear hMI hM
  have hC0 := chg_alloc w (.cells #[.int .i64 25, .int .i64 0, .int .i64 0, .int .i64 0, .int .i64 0, .int .i64 0, .int .i64 0, .int .i64 0, .int .i64 8, .int .i64 0, .int .i64 0, .int .i64 0, .slice DA dn dc, .slice none 0 0, .slice none 0 0, .slice (some ⟨pb, 0, none⟩) 2 2, .slice (some ⟨sb, 0, none⟩) 2 2, .slice (some ⟨rb, 0, none⟩) 2 2] 28) g
  have hB0 : Blk (w.alloc (.cells #[.int .i64 25, .int .i64 0, .int .i64 0, .int .i64 0, .int .i64 0, .int .i64 0, .int .i64 0, .int .i64 0, .int .i64 8, .int .i64 0, .int .i64 0, .int .i64 0, .slice DA dn dc, .slice none 0 0, .slice none 0 0, .slice (some ⟨pb, 0, none⟩) 2 2, .slice (some ⟨sb, 0, none⟩) 2 2, .slice (some ⟨rb, 0, none⟩) 2 2] 28)) w.heap.size 28 #[.int .i64 25, .int .i64 0, .int .i64 0, .int .i64 0, .int .i64 0, .int .i64 0, .int .i64 0, .int .i64 0, .int .i64 8, .int .i64 0, .int .i64 0, .int .i64 0, .slice DA dn dc, .slice none 0 0, .slice none 0 0, .slice (some ⟨pb, 0, none⟩) 2 2, .slice (some ⟨sb, 0, none⟩) 2 2, .slice (some ⟨rb, 0, none⟩) 2 2] := Blk.new w _ _
  have hR0 : Rw (w.alloc (.cells #[.int .i64 25, .int .i64 0, .int .i64 0, .int .i64 0, .int .i64 0, .int .i64 0, .int .i64 0, .int .i64 0, .int .i64 8, .int .i64 0, .int .i64 0, .int .i64 0, .slice DA dn dc, .slice none 0 0, .slice none 0 0, .slice (some ⟨pb, 0, none⟩) 2 2, .slice (some ⟨sb, 0, none⟩) 2 2, .slice (some ⟨rb, 0, none⟩) 2 2] 28)) g (.slice none 0 0) := Blk.alloc hR _
  have hsz0 : w.heap.size < (w.alloc (.cells #[.int .i64 25, .int .i64 0, .int .i64 0, .int .i64 0, .int .i64 0, .int .i64 0, .int .i64 0, .int .i64 0, .int .i64 8, .int .i64 0, .int .i64 0, .int .i64 0, .slice DA dn dc, .slice none 0 0, .slice none 0 0, .slice (some ⟨pb, 0, none⟩) 2 2, .slice (some ⟨sb, 0, none⟩) 2 2, .slice (some ⟨rb, 0, none⟩) 2 2] 28)).heap.size := by simp
  have k17 : (w.alloc (.cells #[.int .i64 25, .int .i64 0, .int .i64 0, .int .i64 0, .int .i64 0, .int .i64 0, .int .i64 0, .int .i64 0, .int .i64 8, .int .i64 0, .int .i64 0, .int .i64 0, .slice DA dn dc, .slice none 0 0, .slice none 0 0, .slice (some ⟨pb, 0, none⟩) 2 2, .slice (some ⟨sb, 0, none⟩) 2 2, .slice (some ⟨rb, 0, none⟩) 2 2] 28)).cell? ⟨w.heap.size, 17, none⟩ = some (.slice (some ⟨rb, 0, none⟩) 2 2) := (hB0.cell 17).trans rfl
  have HM := Lib.hid (And.intro hP (And.intro hrp (And.intro hs ht)))
  have hpl := hP.lt
  have hrl := hrp.lt
  clear hR hP hrp hs ht
  go_enter Try.func11, Try.ntmps11
  go_upto_region 1 with fail
  generalize w.alloc (.cells #[.int .i64 25, .int .i64 0, .int .i64 0, .int .i64 0, .int .i64 0, .int .i64 0, .int .i64 0, .int .i64 0, .int .i64 8, .int .i64 0, .int .i64 0, .int .i64 0, .slice DA dn dc, .slice none 0 0, .slice none 0 0, .slice (some ⟨pb, 0, none⟩) 2 2, .slice (some ⟨sb, 0, none⟩) 2 2, .slice (some ⟨rb, 0, none⟩) 2 2] 28) = W at *
  go_wp2_with fail
  go_loopw [11] (fun x wr => ∃ (j : Nat) (V : Value) (L : List (Int × Int)), j ≤ 2 ∧ x = .int .i64 j ∧ Hid (L = ladL M (es (ks % 4) zs) (es (kt % 4) zt) j) ∧ Rw wr g V ∧ wr.ownsRow w.heap.size 45 2 V L.length (fl L) ∧ Blk wr w.heap.size 28 #[.int .i64 25, .int .i64 0, .int .i64 0, .int .i64 0, .int .i64 0, .int .i64 0, .int .i64 0, .int .i64 0, .int .i64 8, .int .i64 0, .int .i64 0, .int .i64 0, .slice DA dn dc, .slice none 0 0, .slice none 0 0, .slice (some ⟨pb, 0, none⟩) 2 2, .slice (some ⟨sb, 0, none⟩) 2 2, .slice (some ⟨rb, 0, none⟩) 2 2] ∧ Chg w wr g none) (fun x _ => 3 - (intOf x).toNat)
  case atStart => exact ⟨0, .slice none 0 0, [], by omega, rfl, Lib.hid rfl, hR0, World.ownsRow_nil _ _ _ _, hB0, hC0⟩
  case round =>
    obtain ⟨j, V, L, hj, rfl, HL, hR, hown, hB, hC⟩ := hrel
    clear k17 hB0 hC0 hR0 hsz0
    have hsz := hB.lt
    have hP := hC.blk HM.out.1 hpg (by simp)
    have hrp := hC.blk HM.out.2.1 hrg (by simp)
    have hs := hC.reads HM.out.2.2.1 (Nat.le_refl _) (by omega) (fun b hb => by cases hb)
    have ht := hC.reads HM.out.2.2.2 (Nat.le_refl _) (by omega) (fun b hb => by cases hb)
    rcases (show j = 0 ∨ j = 1 ∨ j = 2 by omega) with rfl | rfl | rfl
    · have q0 : wr.cell? ⟨rb, 0, none⟩ = some (.int .i64 0) := (hrp.cell 0).trans rfl
      have q1 : wr.cell? ⟨rb, 1, none⟩ = some (.int .i64 n) := (hrp.cell 1).trans rfl
      have hBa : Blk (wr.alloc (.cells #[.int .i64 0, .int .i64 n] 43)) w.heap.size 28 #[.int .i64 25, .int .i64 0, .int .i64 0, .int .i64 0, .int .i64 0, .int .i64 0, .int .i64 0, .int .i64 0, .int .i64 8, .int .i64 0, .int .i64 0, .int .i64 0, .slice DA dn dc, .slice none 0 0, .slice none 0 0, .slice (some ⟨pb, 0, none⟩) 2 2, .slice (some ⟨sb, 0, none⟩) 2 2, .slice (some ⟨rb, 0, none⟩) 2 2] := hB.alloc _
      have hXa : Blk (wr.alloc (.cells #[.int .i64 0, .int .i64 n] 43)) wr.heap.size 43 #[.int .i64 0, .int .i64 n] := Blk.new wr _ _
      have hRa : Rw (wr.alloc (.cells #[.int .i64 0, .int .i64 n] 43)) g V := Blk.alloc hR _
      have hPa : Blk (wr.alloc (.cells #[.int .i64 0, .int .i64 n] 43)) pb 40 #[.int .i64 ks, .slice SA ns cs, .int .i64 kt, .slice TA nt ct] := hP.alloc _
      have owna := hown.alloc (.cells #[.int .i64 0, .int .i64 n] 43)
      have hCa := hC.trans (chg_alloc wr (.cells #[.int .i64 0, .int .i64 n] 43) g) (fun b hb => by cases hb)
      have hsa := hs.alloc (B := g) (by omega) (.cells #[.int .i64 0, .int .i64 n] 43)
      have r1 : (wr.alloc (.cells #[.int .i64 0, .int .i64 n] 43)).cell? ⟨g, 1, none⟩ = some (.int .i64 0) := (Blk.cell hRa 1).trans rfl
      have b15 : (wr.alloc (.cells #[.int .i64 0, .int .i64 n] 43)).cell? ⟨w.heap.size, 15, none⟩ = some (.slice (some ⟨pb, 0, none⟩) 2 2) := (hBa.cell 15).trans rfl
      have x0 : (wr.alloc (.cells #[.int .i64 0, .int .i64 n] 43)).cell? ⟨wr.heap.size, 0, none⟩ = some (.int .i64 0) := (hXa.cell 0).trans rfl
      have p0 : (wr.alloc (.cells #[.int .i64 0, .int .i64 n] 43)).cell? ⟨pb, 0, none⟩ = some (.int .i64 ks) := (hPa.cell 0).trans rfl
      have p1 : (wr.alloc (.cells #[.int .i64 0, .int .i64 n] 43)).cell? ⟨pb, 1, none⟩ = some (.slice SA ns cs) := (hPa.cell 1).trans rfl
      have hszA : wr.heap.size < (wr.alloc (.cells #[.int .i64 0, .int .i64 n] 43)).heap.size := by simp
      clear hB hR hP hrp hs ht hown hC
      go_upto_region 4 with fail
      generalize hWA : (wr.alloc (.cells #[.int .i64 0, .int .i64 n] 43)) = WA at *
      clear q0 q1 hWA
      generalize wr.heap.size = xb at *
      go_wp2_with fail
      refine (symOf_any ks SA ns cs zs WA s0 s1 (hsa.more (by omega)) (by omega)).mono ?_
      rintro e w1 ⟨O, rfl, ownO', hb1⟩
      rw [← es_fl, ← es_len (ks % 4)] at ownO'
      have hC1 := hCa.trans (chg_below (g := g) hb1) (fun b hb => by cases hb)
      have hB1 := hBa.below hb1 (by omega)
      have hX1 := hXa.below hb1 hszA
      have hR1 : Rw w1 g V := Blk.below hRa hb1 (Blk.lt hRa)
      have own1 := own_kept owna hb1
      have hneO : O.ownBlock = none ∨ O.ownBlock ≠ V.ownBlock := by
        cases ho : O.ownBlock with
        | none => exact .inl rfl
        | some x =>
          refine .inr (fun e => ?_)
          have h1 := (ownO'.lt x ho).1
          have h2 := (owna.lt x e.symm).2
          omega
      have ownO : w1.ownsRow 0 45 2 O (es (ks % 4) zs).length (fl (es (ks % 4) zs)) := Joins.ownsRow_le ownO' (by omega)
      obtain ⟨OA, oc, rfl⟩ := own_slice ownO
      clear hCa hBa hXa hRa hPa owna hsa r1 b15 x0 p0 p1 ownO'
      have HEQ := Lib.hid (show ∀ i, (List.replicate (i + 1) (es (ks % 4) zs)).flatten = (List.replicate i (es (ks % 4) zs)).flatten ++ es (ks % 4) zs from fun i => reps_succ i _)
      have HRL := Lib.hid (show ∀ i, (List.replicate i (es (ks % 4) zs)).flatten.length = i * (es (ks % 4) zs).length from fun i => reps_len i _)
      have hLl : L.length ≤ 100000 := by rw [HL.out]; simp [ladL]
      have HNX := Lib.hid (show L ++ (List.replicate M (es (ks % 4) zs)).flatten = ladL M (es (ks % 4) zs) (es (kt % 4) zt) 1 by rw [HL.out]; simp [ladL])
      have hKE : (es (ks % 4) zs).length ≤ 100 := hKs
      generalize hEE : es (ks % 4) zs = EE at *
      have HEE := Lib.hid hEE
      clear hEE
      go_wp2_with fail
      go_loopw [7] (fun y wv => ∃ (i : Nat) (V' : Value), i ≤ M ∧ y = .int .i64 i ∧ Rw wv g V' ∧ wv.ownsRow w.heap.size 45 2 V' (L.length + i * EE.length) (fl (L ++ (List.replicate i EE).flatten)) ∧ wv.ownsRow 0 45 2 (.slice OA EE.length oc) EE.length (fl EE) ∧ ((Value.slice OA EE.length oc).ownBlock = none ∨ (Value.slice OA EE.length oc).ownBlock ≠ V'.ownBlock) ∧ Blk wv w.heap.size 28 #[.int .i64 25, .int .i64 0, .int .i64 0, .int .i64 0, .int .i64 0, .int .i64 0, .int .i64 0, .int .i64 0, .int .i64 8, .int .i64 0, .int .i64 0, .int .i64 0, .slice DA dn dc, .slice none 0 0, .slice none 0 0, .slice (some ⟨pb, 0, none⟩) 2 2, .slice (some ⟨sb, 0, none⟩) 2 2, .slice (some ⟨rb, 0, none⟩) 2 2] ∧ Blk wv xb 43 #[.int .i64 0, .int .i64 n] ∧ Chg w wv g none ∧ w.heap.size < wv.heap.size) (fun y _ => M + 1 - (intOf y).toNat)
      case atStart => exact ⟨0, V, by omega, rfl, hR1, by simpa using own1, ownO, hneO, hB1, hX1, hC1, hB1.lt⟩
      case round =>
        obtain ⟨i, V', hi, rfl, hR2, own2, ownO2, hne2, hB2, hX2, hC2, hsz2⟩ := hrel
        clear hR1 own1 ownO hneO hB1 hX1 hC1
        have x1 : wr.cell? ⟨xb, 1, none⟩ = some (.int .i64 n) := (hX2.cell 1).trans rfl
        have r1 : wr.cell? ⟨g, 1, none⟩ = some (.int .i64 0) := (Blk.cell hR2 1).trans rfl
        by_cases hlt : i < M
        · have hiI : (i : Int) < n := (HMI.out i hi).2 hlt
          by_cases hE0 : EE.length = 0
          · have hEI : ¬ (0 : Int) < (EE.length : Int) := by omega
            have HE0 := Lib.hid (List.eq_nil_of_length_eq_zero hE0)
            have b17 : wr.cell? ⟨w.heap.size, 17, none⟩ = some (.slice (some ⟨rb, 0, none⟩) 2 2) := (hB2.cell 17).trans rfl
            have HF := Lib.hid (And.intro hR2 (And.intro own2 (And.intro hB2 hC2)))
            clear hR2 own2 ownO2 hB2 hC2 hX2
            go_wp2
            go_roundw
            case rel =>
              obtain ⟨hR2, own2, hB2, hC2⟩ := HF.out
              have h1 : L ++ (List.replicate i EE).flatten = L := by rw [HE0.out]; simp
              have h2 : (List.replicate M EE).flatten = [] := by rw [HE0.out]; simp
              refine ⟨1, V', L, by omega, by go_num, Lib.hid ?_, hR2, ?_, hB2, hC2⟩
              · rw [HEE.out, ← HNX.out, h2, List.append_nil]
              · rw [h1, hE0, Nat.mul_zero, Nat.add_zero] at own2
                exact own2
            case measure => simp [intOf]
          · have hEI : (0 : Int) < (EE.length : Int) := by omega
            have hmul : i * EE.length ≤ 1000 * 100 := Nat.mul_le_mul (by omega) hKE
            have hput := put_any hR2 own2 (Reads.of_own ownO2) (c := oc) (by omega) (by omega)
            have HF := Lib.hid (And.intro hR2 (And.intro own2 (And.intro ownO2 (And.intro hB2 (And.intro hX2 hC2)))))
            clear hR2 own2 ownO2 hB2 hX2 hC2
            go_wp2_with fail
            refine hput.mono ?_
            rintro e w2 ⟨rfl, V3, hR3, own3, hch, hmv⟩
            clear hput r1 x1
            obtain ⟨hR2, own2, ownO2, hB2, hX2, hC2⟩ := HF.out
            have ownO3 := hch.own ownO2 (own_blk_ne ownO2 hR2 (by decide)) hne2
            have hne3 := own_ne_of ownO2 hmv hne2
            have hB3 := hch.blk hB2 (by omega) (fun e => own_blk_ne own2 hB2 (by decide) e.symm)
            have hX3 := hch.blk hX2 (fun e => Blk.ne_ hX2 hR2 (by decide) e) (fun e => own_blk_ne own2 hX2 (by decide) e.symm)
            have hC3 := hC2.trans hch (fun x hx => (own2.lt x hx).1)
            have hsz3 : w.heap.size < w2.heap.size := Nat.lt_of_lt_of_le hsz2 hch.2.2.2.1
            have own3' : w2.ownsRow w.heap.size 45 2 V3 (L.length + (i + 1) * EE.length) (fl (L ++ (List.replicate (i + 1) EE).flatten)) := by
              rw [HEQ.out, ← List.append_assoc, fl_app, Nat.succ_mul, ← Nat.add_assoc]
              exact own3
            have HG := Lib.hid (And.intro hR3 (And.intro own3' (And.intro ownO3 (And.intro hne3 (And.intro hB3 (And.intro hX3 (And.intro hC3 hsz3)))))))
            clear hR3 own3 own3' ownO3 hne3 hB3 hX3 hC3 hsz3 hR2 own2 ownO2 hB2 hX2 hC2 hch hmv hne2
            go_wp2
            go_roundw
            case rel => exact ⟨i + 1, V3, by omega, by go_num, HG.out⟩
            case measure => simp [intOf]; omega
        · obtain rfl : i = M := by omega
          have hiI : ¬ ((i : Int) : Int) < n := fun e => hlt ((HMI.out i hi).1 e)
          have HF := Lib.hid (And.intro hR2 (And.intro own2 (And.intro hB2 hC2)))
          clear hR2 own2 ownO2 hB2 hX2 hC2
          go_wp2
          go_roundw
          case rel =>
            obtain ⟨hR2, own2, hB2, hC2⟩ := HF.out
            refine ⟨1, V', L ++ (List.replicate i EE).flatten, by omega, by go_num, Lib.hid (by rw [HEE.out]; exact HNX.out), hR2, ?_, hB2, hC2⟩
            rw [List.length_append, HRL.out]
            exact own2
          case measure => simp [intOf]
    · have q0 : wr.cell? ⟨rb, 2, none⟩ = some (.int .i64 1) := (hrp.cell 2).trans rfl
      have q1 : wr.cell? ⟨rb, 3, none⟩ = some (.int .i64 1) := (hrp.cell 3).trans rfl
      have hBa : Blk (wr.alloc (.cells #[.int .i64 1, .int .i64 1] 43)) w.heap.size 28 #[.int .i64 25, .int .i64 0, .int .i64 0, .int .i64 0, .int .i64 0, .int .i64 0, .int .i64 0, .int .i64 0, .int .i64 8, .int .i64 0, .int .i64 0, .int .i64 0, .slice DA dn dc, .slice none 0 0, .slice none 0 0, .slice (some ⟨pb, 0, none⟩) 2 2, .slice (some ⟨sb, 0, none⟩) 2 2, .slice (some ⟨rb, 0, none⟩) 2 2] := hB.alloc _
      have hXa : Blk (wr.alloc (.cells #[.int .i64 1, .int .i64 1] 43)) wr.heap.size 43 #[.int .i64 1, .int .i64 1] := Blk.new wr _ _
      have hRa : Rw (wr.alloc (.cells #[.int .i64 1, .int .i64 1] 43)) g V := Blk.alloc hR _
      have hPa : Blk (wr.alloc (.cells #[.int .i64 1, .int .i64 1] 43)) pb 40 #[.int .i64 ks, .slice SA ns cs, .int .i64 kt, .slice TA nt ct] := hP.alloc _
      have owna := hown.alloc (.cells #[.int .i64 1, .int .i64 1] 43)
      have hCa := hC.trans (chg_alloc wr (.cells #[.int .i64 1, .int .i64 1] 43) g) (fun b hb => by cases hb)
      have hsa := ht.alloc (B := g) (by omega) (.cells #[.int .i64 1, .int .i64 1] 43)
      have r1 : (wr.alloc (.cells #[.int .i64 1, .int .i64 1] 43)).cell? ⟨g, 1, none⟩ = some (.int .i64 0) := (Blk.cell hRa 1).trans rfl
      have b15 : (wr.alloc (.cells #[.int .i64 1, .int .i64 1] 43)).cell? ⟨w.heap.size, 15, none⟩ = some (.slice (some ⟨pb, 0, none⟩) 2 2) := (hBa.cell 15).trans rfl
      have x0 : (wr.alloc (.cells #[.int .i64 1, .int .i64 1] 43)).cell? ⟨wr.heap.size, 0, none⟩ = some (.int .i64 1) := (hXa.cell 0).trans rfl
      have p0 : (wr.alloc (.cells #[.int .i64 1, .int .i64 1] 43)).cell? ⟨pb, 2, none⟩ = some (.int .i64 kt) := (hPa.cell 2).trans rfl
      have p1 : (wr.alloc (.cells #[.int .i64 1, .int .i64 1] 43)).cell? ⟨pb, 3, none⟩ = some (.slice TA nt ct) := (hPa.cell 3).trans rfl
      have hszA : wr.heap.size < (wr.alloc (.cells #[.int .i64 1, .int .i64 1] 43)).heap.size := by simp
      clear hB hR hP hrp hs ht hown hC
      go_upto_region 4 with fail
      generalize hWA : (wr.alloc (.cells #[.int .i64 1, .int .i64 1] 43)) = WA at *
      clear q0 q1 hWA
      generalize wr.heap.size = xb at *
      go_wp2_with fail
      refine (symOf_any kt TA nt ct zt WA t0 t1 (hsa.more (by omega)) (by omega)).mono ?_
      rintro e w1 ⟨O, rfl, ownO', hb1⟩
      rw [← es_fl, ← es_len (kt % 4)] at ownO'
      have hC1 := hCa.trans (chg_below (g := g) hb1) (fun b hb => by cases hb)
      have hB1 := hBa.below hb1 (by omega)
      have hX1 := hXa.below hb1 hszA
      have hR1 : Rw w1 g V := Blk.below hRa hb1 (Blk.lt hRa)
      have own1 := own_kept owna hb1
      have hneO : O.ownBlock = none ∨ O.ownBlock ≠ V.ownBlock := by
        cases ho : O.ownBlock with
        | none => exact .inl rfl
        | some x =>
          refine .inr (fun e => ?_)
          have h1 := (ownO'.lt x ho).1
          have h2 := (owna.lt x e.symm).2
          omega
      have ownO : w1.ownsRow 0 45 2 O (es (kt % 4) zt).length (fl (es (kt % 4) zt)) := Joins.ownsRow_le ownO' (by omega)
      obtain ⟨OA, oc, rfl⟩ := own_slice ownO
      clear hCa hBa hXa hRa hPa owna hsa r1 b15 x0 p0 p1 ownO'
      have HEQ := Lib.hid (show ∀ i, (List.replicate (i + 1) (es (kt % 4) zt)).flatten = (List.replicate i (es (kt % 4) zt)).flatten ++ es (kt % 4) zt from fun i => reps_succ i _)
      have HRL := Lib.hid (show ∀ i, (List.replicate i (es (kt % 4) zt)).flatten.length = i * (es (kt % 4) zt).length from fun i => reps_len i _)
      have hLl : L.length ≤ 100000 := by rw [HL.out]; show ((List.replicate M (es (ks % 4) zs)).flatten).length ≤ 100000; rw [HREP.out]; exact Nat.le_trans (Nat.mul_le_mul hM1 hKs) (by omega)
      have HNX := Lib.hid (show L ++ (List.replicate 1 (es (kt % 4) zt)).flatten = ladL M (es (ks % 4) zs) (es (kt % 4) zt) 2 by rw [HL.out]; simp [ladL])
      have hKE : (es (kt % 4) zt).length ≤ 100 := hKt
      generalize hEE : es (kt % 4) zt = EE at *
      have HEE := Lib.hid hEE
      clear hEE
      go_wp2_with fail
      go_loopw [7] (fun y wv => ∃ (i : Nat) (V' : Value), i ≤ 1 ∧ y = .int .i64 i ∧ Rw wv g V' ∧ wv.ownsRow w.heap.size 45 2 V' (L.length + i * EE.length) (fl (L ++ (List.replicate i EE).flatten)) ∧ wv.ownsRow 0 45 2 (.slice OA EE.length oc) EE.length (fl EE) ∧ ((Value.slice OA EE.length oc).ownBlock = none ∨ (Value.slice OA EE.length oc).ownBlock ≠ V'.ownBlock) ∧ Blk wv w.heap.size 28 #[.int .i64 25, .int .i64 0, .int .i64 0, .int .i64 0, .int .i64 0, .int .i64 0, .int .i64 0, .int .i64 0, .int .i64 8, .int .i64 0, .int .i64 0, .int .i64 0, .slice DA dn dc, .slice none 0 0, .slice none 0 0, .slice (some ⟨pb, 0, none⟩) 2 2, .slice (some ⟨sb, 0, none⟩) 2 2, .slice (some ⟨rb, 0, none⟩) 2 2] ∧ Blk wv xb 43 #[.int .i64 1, .int .i64 1] ∧ Chg w wv g none ∧ w.heap.size < wv.heap.size) (fun y _ => 1 + 1 - (intOf y).toNat)
      case atStart => exact ⟨0, V, by omega, rfl, hR1, by simpa using own1, ownO, hneO, hB1, hX1, hC1, hB1.lt⟩
      case round =>
        obtain ⟨i, V', hi, rfl, hR2, own2, ownO2, hne2, hB2, hX2, hC2, hsz2⟩ := hrel
        clear hR1 own1 ownO hneO hB1 hX1 hC1
        have x1 : wr.cell? ⟨xb, 1, none⟩ = some (.int .i64 1) := (hX2.cell 1).trans rfl
        have r1 : wr.cell? ⟨g, 1, none⟩ = some (.int .i64 0) := (Blk.cell hR2 1).trans rfl
        by_cases hlt : i < 1
        · have hiI : (i : Int) < 1 := by omega
          by_cases hE0 : EE.length = 0
          · have hEI : ¬ (0 : Int) < (EE.length : Int) := by omega
            have HE0 := Lib.hid (List.eq_nil_of_length_eq_zero hE0)
            have b17 : wr.cell? ⟨w.heap.size, 17, none⟩ = some (.slice (some ⟨rb, 0, none⟩) 2 2) := (hB2.cell 17).trans rfl
            have HF := Lib.hid (And.intro hR2 (And.intro own2 (And.intro hB2 hC2)))
            clear hR2 own2 ownO2 hB2 hC2 hX2
            go_wp2
            go_roundw
            case rel =>
              obtain ⟨hR2, own2, hB2, hC2⟩ := HF.out
              have h1 : L ++ (List.replicate i EE).flatten = L := by rw [HE0.out]; simp
              have h2 : (List.replicate 1 EE).flatten = [] := by rw [HE0.out]; simp
              refine ⟨2, V', L, by omega, by go_num, Lib.hid ?_, hR2, ?_, hB2, hC2⟩
              · rw [HEE.out, ← HNX.out, h2, List.append_nil]
              · rw [h1, hE0, Nat.mul_zero, Nat.add_zero] at own2
                exact own2
            case measure => simp [intOf]
          · have hEI : (0 : Int) < (EE.length : Int) := by omega
            have hmul : i * EE.length ≤ 1000 * 100 := Nat.mul_le_mul (by omega) hKE
            have hput := put_any hR2 own2 (Reads.of_own ownO2) (c := oc) (by omega) (by omega)
            have HF := Lib.hid (And.intro hR2 (And.intro own2 (And.intro ownO2 (And.intro hB2 (And.intro hX2 hC2)))))
            clear hR2 own2 ownO2 hB2 hX2 hC2
            go_wp2_with fail
            refine hput.mono ?_
            rintro e w2 ⟨rfl, V3, hR3, own3, hch, hmv⟩
            clear hput r1 x1
            obtain ⟨hR2, own2, ownO2, hB2, hX2, hC2⟩ := HF.out
            have ownO3 := hch.own ownO2 (own_blk_ne ownO2 hR2 (by decide)) hne2
            have hne3 := own_ne_of ownO2 hmv hne2
            have hB3 := hch.blk hB2 (by omega) (fun e => own_blk_ne own2 hB2 (by decide) e.symm)
            have hX3 := hch.blk hX2 (fun e => Blk.ne_ hX2 hR2 (by decide) e) (fun e => own_blk_ne own2 hX2 (by decide) e.symm)
            have hC3 := hC2.trans hch (fun x hx => (own2.lt x hx).1)
            have hsz3 : w.heap.size < w2.heap.size := Nat.lt_of_lt_of_le hsz2 hch.2.2.2.1
            have own3' : w2.ownsRow w.heap.size 45 2 V3 (L.length + (i + 1) * EE.length) (fl (L ++ (List.replicate (i + 1) EE).flatten)) := by
              rw [HEQ.out, ← List.append_assoc, fl_app, Nat.succ_mul, ← Nat.add_assoc]
              exact own3
            have HG := Lib.hid (And.intro hR3 (And.intro own3' (And.intro ownO3 (And.intro hne3 (And.intro hB3 (And.intro hX3 (And.intro hC3 hsz3)))))))
            clear hR3 own3 own3' ownO3 hne3 hB3 hX3 hC3 hsz3 hR2 own2 ownO2 hB2 hX2 hC2 hch hmv hne2
            go_wp2
            go_roundw
            case rel => exact ⟨i + 1, V3, by omega, by go_num, HG.out⟩
            case measure => simp [intOf]; omega
        · obtain rfl : i = 1 := by omega
          have hiI : ¬ (((1 : Nat) : Int) : Int) < 1 := by omega
          have HF := Lib.hid (And.intro hR2 (And.intro own2 (And.intro hB2 hC2)))
          clear hR2 own2 ownO2 hB2 hX2 hC2
          go_wp2
          go_roundw
          case rel =>
            obtain ⟨hR2, own2, hB2, hC2⟩ := HF.out
            refine ⟨2, V', L ++ (List.replicate 1 EE).flatten, by omega, by go_num, Lib.hid (by rw [HEE.out]; exact HNX.out), hR2, ?_, hB2, hC2⟩
            rw [List.length_append, HRL.out]
            exact own2
          case measure => simp [intOf]
    · go_wp2
      first | go_end0 | refine bodyPost_ret (results_none rfl _ _ _) rfl ?_
      exact ⟨rfl, V, L, HL.out, hR, hown, hC⟩

end Go.Proofs.Ythmmoogfngohaaa
