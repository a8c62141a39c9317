/- Layer 22: contracts of a row's data: two symbols that come in turn, eight of them. -/
import Derived.Test.YthmmoogfngohaaaSym3
import Derived.Deep.CutRange
namespace Go.Proofs.Ythmmoogfngohaaa
open Go.RowKit

def altE (a b : List (Int × Int)) : Nat → List (Int × Int)
  | 0 => []
  | i + 1 => altE a b i ++ (if i % 2 = 0 then a else b)
theorem altE_len (a b : List (Int × Int)) (ha : a.length ≤ 100) (hb : b.length ≤ 100) : ∀ i, (altE a b i).length ≤ i * 100
  | 0 => by simp [altE]
  | i + 1 => by
    have := altE_len a b ha hb i
    rw [altE, List.length_append]
    split <;> omega
theorem Chg.trans2 {w a b : World} {g : Nat} {r r2 : Option Nat} (h : Chg w a g r) (k : Chg a b g r2) (hr : ∀ x, r2 = some x → some x = r ∨ w.heap.size ≤ x) : Chg w b g r :=
  ⟨k.1.trans h.1, k.2.1.trans h.2.1, k.2.2.1.trans h.2.2.1, Nat.le_trans h.2.2.2.1 k.2.2.2.1, fun j hj hg hjr => (k.2.2.2.2 j (Nat.lt_of_lt_of_le hj h.2.2.2.1) hg (fun e => by
    rcases hr j e.symm with h1 | h1
    · exact hjr h1
    · omega)).trans (h.2.2.2.2 j hj hg hjr)⟩
theorem rowInfoE : (Try.prog.info? 31).map (fun i => (i.zero, i.size, i.bytes)) = some (some (.slice none 0 0), 1, 24) := by kernel_rfl
theorem make_two (w : World) : (Instr.makeSlice 57 (.int .i64 2) (.int .i64 2)).run Try.prog w = .ok (.slice (some ⟨w.heap.size, 0, none⟩) 2 2) (w.alloc (.cells #[.slice none 0 0, .slice none 0 0] 31)) := by
  obtain ⟨i0, hi, hz0, hz1, hz2⟩ := info_parts rowInfoE
  have h := run_makeSlice (P := Try.prog) w 57 31 i0 (.slice none 0 0) Try.underlying57 hi hz0 .i64 .i64 2 2 (by omega) (by omega) (by rw [hz1]; decide) (by rw [hz2]; decide) (by omega)
  rw [hz1] at h
  rw [h]
  congr 3
  apply Array.ext'
  rw [show (Value.slice none 0 0).cells = #[Value.slice none 0 0] from rfl, show Int.toNat 2 * 1 = 2 from rfl, toList_madeCells_one]
  rfl
theorem alt_mv {w : World} {V V' V2 : Value} {r : Nat} (h : V'.ownBlock = V.ownBlock ∨ ∃ b, V'.ownBlock = some b ∧ w.heap.size ≤ b) (hr : w.heap.size ≤ r) (k : V2.ownBlock = V'.ownBlock ∨ ∃ b, V2.ownBlock = some b ∧ r ≤ b) : V2.ownBlock = V.ownBlock ∨ ∃ b, V2.ownBlock = some b ∧ w.heap.size ≤ b := by
  rcases k with k | ⟨b, k, kb⟩
  · rw [k]; exact h
  · exact .inr ⟨b, k, by omega⟩

set_option maxRecDepth 100000 in
set_option maxHeartbeats 8000000 in
theorem data_any (w : World) (g pb rb sb db base : Nat) (ks kt : Int) (SA TA : Option Addr) (ns cs nt ct : Nat) (zs zt : List Int) (V : Value) (L : List (Int × Int))
    (hR : Rw w g V) (hown : w.ownsRow base 45 2 V L.length (fl L)) (hbase : base ≤ w.heap.size) (hS : Blk w sb 40 #[.int .i64 kt, .slice TA nt ct, .int .i64 ks, .slice SA ns cs]) (hD : Blk w db 5 #[.int .u8 85])
    (hs : Reads w w.heap.size 1 SA ns (zs.map (Value.int .i64))) (ht : Reads w w.heap.size 1 TA nt (zt.map (Value.int .i64))) (hns : ns ≤ 100) (hnt : nt ≤ 100) (hL : L.length ≤ 200000)
    (s0 : -9223372036854775808 ≤ ks) (s1 : ks ≤ 9223372036854775807) (t0 : -9223372036854775808 ≤ kt) (t1 : kt ≤ 9223372036854775807) :
    Calls Try.prog 12 #[.pointer (some ⟨g, 0, none⟩), .agg #[.int .i64 25, .int .i64 0, .int .i64 0, .int .i64 0, .int .i64 0, .int .i64 0, .int .i64 0, .int .i64 0, .int .i64 8, .int .i64 0, .int .i64 0, .int .i64 0, .slice (some ⟨db, 0, none⟩) 1 1, .slice none 0 0, .slice none 0 0, .slice (some ⟨pb, 0, none⟩) 2 2, .slice (some ⟨sb, 0, none⟩) 2 2, .slice (some ⟨rb, 0, none⟩) 2 2]] w fun e w' => e = .returned (.tuple #[]) ∧ ∃ (V' : Value) (L' : List (Int × Int)), L' = L ++ altE (es (kt % 4) zt) (es (ks % 4) zs) 8 ∧ Rw w' g V' ∧ w'.ownsRow base 45 2 V' L'.length (fl L') ∧ Chg w w' g V.ownBlock := by
  have hg := hR.lt
  have hlS := reads_lenI hs
  have hlT := reads_lenI ht
  have hKs : (es (ks % 4) zs).length ≤ 100 := by rw [es_len]; have := cutK_le zs; omega
  have hKt : (es (kt % 4) zt).length ≤ 100 := by rw [es_len]; have := cutK_le zt; omega
  have hC0 : Chg w (w.alloc (.cells #[.int .i64 25, .int .i64 0, .int .i64 0, .int .i64 0, .int .i64 0, .int .i64 0, .int .i64 0, .int .i64 0, .int .i64 8, .int .i64 0, .int .i64 0, .int .i64 0, .slice (some ⟨db, 0, none⟩) 1 1, .slice none 0 0, .slice none 0 0, .slice (some ⟨pb, 0, none⟩) 2 2, .slice (some ⟨sb, 0, none⟩) 2 2, .slice (some ⟨rb, 0, none⟩) 2 2] 28)) g V.ownBlock := (Chg.refl w g _).trans2 (chg_alloc w _ g) (fun x hx => by cases hx)
  have hB0 : Blk (w.alloc (.cells #[.int .i64 25, .int .i64 0, .int .i64 0, .int .i64 0, .int .i64 0, .int .i64 0, .int .i64 0, .int .i64 0, .int .i64 8, .int .i64 0, .int .i64 0, .int .i64 0, .slice (some ⟨db, 0, none⟩) 1 1, .slice none 0 0, .slice none 0 0, .slice (some ⟨pb, 0, none⟩) 2 2, .slice (some ⟨sb, 0, none⟩) 2 2, .slice (some ⟨rb, 0, none⟩) 2 2] 28)) w.heap.size 28 #[.int .i64 25, .int .i64 0, .int .i64 0, .int .i64 0, .int .i64 0, .int .i64 0, .int .i64 0, .int .i64 0, .int .i64 8, .int .i64 0, .int .i64 0, .int .i64 0, .slice (some ⟨db, 0, none⟩) 1 1, .slice none 0 0, .slice none 0 0, .slice (some ⟨pb, 0, none⟩) 2 2, .slice (some ⟨sb, 0, none⟩) 2 2, .slice (some ⟨rb, 0, none⟩) 2 2] := Blk.new w _ _
  have hR0 : Rw (w.alloc (.cells #[.int .i64 25, .int .i64 0, .int .i64 0, .int .i64 0, .int .i64 0, .int .i64 0, .int .i64 0, .int .i64 0, .int .i64 8, .int .i64 0, .int .i64 0, .int .i64 0, .slice (some ⟨db, 0, none⟩) 1 1, .slice none 0 0, .slice none 0 0, .slice (some ⟨pb, 0, none⟩) 2 2, .slice (some ⟨sb, 0, none⟩) 2 2, .slice (some ⟨rb, 0, none⟩) 2 2] 28)) g V := Blk.alloc hR _
  have hb0 : Below w.heap.size w (w.alloc (.cells #[.int .i64 25, .int .i64 0, .int .i64 0, .int .i64 0, .int .i64 0, .int .i64 0, .int .i64 0, .int .i64 0, .int .i64 8, .int .i64 0, .int .i64 0, .int .i64 0, .slice (some ⟨db, 0, none⟩) 1 1, .slice none 0 0, .slice none 0 0, .slice (some ⟨pb, 0, none⟩) 2 2, .slice (some ⟨sb, 0, none⟩) 2 2, .slice (some ⟨rb, 0, none⟩) 2 2] 28)) := (Below.refl _ _).alloc (Nat.le_refl _) _
  have own0 := hown.alloc (.cells #[.int .i64 25, .int .i64 0, .int .i64 0, .int .i64 0, .int .i64 0, .int .i64 0, .int .i64 0, .int .i64 0, .int .i64 8, .int .i64 0, .int .i64 0, .int .i64 0, .slice (some ⟨db, 0, none⟩) 1 1, .slice none 0 0, .slice none 0 0, .slice (some ⟨pb, 0, none⟩) 2 2, .slice (some ⟨sb, 0, none⟩) 2 2, .slice (some ⟨rb, 0, none⟩) 2 2] 28)
  have hS0 := hS.alloc (.cells #[.int .i64 25, .int .i64 0, .int .i64 0, .int .i64 0, .int .i64 0, .int .i64 0, .int .i64 0, .int .i64 0, .int .i64 8, .int .i64 0, .int .i64 0, .int .i64 0, .slice (some ⟨db, 0, none⟩) 1 1, .slice none 0 0, .slice none 0 0, .slice (some ⟨pb, 0, none⟩) 2 2, .slice (some ⟨sb, 0, none⟩) 2 2, .slice (some ⟨rb, 0, none⟩) 2 2] 28)
  have hD0 := hD.alloc (.cells #[.int .i64 25, .int .i64 0, .int .i64 0, .int .i64 0, .int .i64 0, .int .i64 0, .int .i64 0, .int .i64 0, .int .i64 8, .int .i64 0, .int .i64 0, .int .i64 0, .slice (some ⟨db, 0, none⟩) 1 1, .slice none 0 0, .slice none 0 0, .slice (some ⟨pb, 0, none⟩) 2 2, .slice (some ⟨sb, 0, none⟩) 2 2, .slice (some ⟨rb, 0, none⟩) 2 2] 28)
  have hs0 := hs.below hb0
  have ht0 := ht.below hb0
  have hsz0 : (w.alloc (.cells #[.int .i64 25, .int .i64 0, .int .i64 0, .int .i64 0, .int .i64 0, .int .i64 0, .int .i64 0, .int .i64 0, .int .i64 8, .int .i64 0, .int .i64 0, .int .i64 0, .slice (some ⟨db, 0, none⟩) 1 1, .slice none 0 0, .slice none 0 0, .slice (some ⟨pb, 0, none⟩) 2 2, .slice (some ⟨sb, 0, none⟩) 2 2, .slice (some ⟨rb, 0, none⟩) 2 2] 28)).heap.size = w.heap.size + 1 := by simp
  have k8 : (w.alloc (.cells #[.int .i64 25, .int .i64 0, .int .i64 0, .int .i64 0, .int .i64 0, .int .i64 0, .int .i64 0, .int .i64 0, .int .i64 8, .int .i64 0, .int .i64 0, .int .i64 0, .slice (some ⟨db, 0, none⟩) 1 1, .slice none 0 0, .slice none 0 0, .slice (some ⟨pb, 0, none⟩) 2 2, .slice (some ⟨sb, 0, none⟩) 2 2, .slice (some ⟨rb, 0, none⟩) 2 2] 28)).cell? ⟨w.heap.size, 8, none⟩ = some (.int .i64 8) := (hB0.cell 8).trans rfl
  have k16 : (w.alloc (.cells #[.int .i64 25, .int .i64 0, .int .i64 0, .int .i64 0, .int .i64 0, .int .i64 0, .int .i64 0, .int .i64 0, .int .i64 8, .int .i64 0, .int .i64 0, .int .i64 0, .slice (some ⟨db, 0, none⟩) 1 1, .slice none 0 0, .slice none 0 0, .slice (some ⟨pb, 0, none⟩) 2 2, .slice (some ⟨sb, 0, none⟩) 2 2, .slice (some ⟨rb, 0, none⟩) 2 2] 28)).cell? ⟨w.heap.size, 16, none⟩ = some (.slice (some ⟨sb, 0, none⟩) 2 2) := (hB0.cell 16).trans rfl
  have r1 : (w.alloc (.cells #[.int .i64 25, .int .i64 0, .int .i64 0, .int .i64 0, .int .i64 0, .int .i64 0, .int .i64 0, .int .i64 0, .int .i64 8, .int .i64 0, .int .i64 0, .int .i64 0, .slice (some ⟨db, 0, none⟩) 1 1, .slice none 0 0, .slice none 0 0, .slice (some ⟨pb, 0, none⟩) 2 2, .slice (some ⟨sb, 0, none⟩) 2 2, .slice (some ⟨rb, 0, none⟩) 2 2] 28)).cell? ⟨g, 1, none⟩ = some (.int .i64 0) := (Blk.cell hR0 1).trans rfl
  have hdl := hD.lt
  have hsl := hS.lt
  clear hR hown hS hD hs ht hb0
  go_enter Try.func12, Try.ntmps12
  go_upto_region 1 with fail
  generalize w.alloc (.cells #[.int .i64 25, .int .i64 0, .int .i64 0, .int .i64 0, .int .i64 0, .int .i64 0, .int .i64 0, .int .i64 0, .int .i64 8, .int .i64 0, .int .i64 0, .int .i64 0, .slice (some ⟨db, 0, none⟩) 1 1, .slice none 0 0, .slice none 0 0, .slice (some ⟨pb, 0, none⟩) 2 2, .slice (some ⟨sb, 0, none⟩) 2 2, .slice (some ⟨rb, 0, none⟩) 2 2] 28) = W at *
  go_wp2_with fail
  refine (bits_two _).mono ?_
  rintro e w1 ⟨rfl, rfl⟩
  have hmk := make_two W
  have HW := Lib.hid (And.intro hC0 (And.intro hB0 (And.intro hR0 (And.intro own0 (And.intro hS0 (And.intro hD0 (And.intro hs0 ht0)))))))
  clear hC0 hB0 hR0 own0 hS0 hD0 hs0 ht0
  have k16a : (W.alloc (.cells #[.slice none 0 0, .slice none 0 0] 31)).cell? ⟨w.heap.size, 16, none⟩ = some (.slice (some ⟨sb, 0, none⟩) 2 2) := (World.cell?_alloc_lt _ _ _ (by show w.heap.size < _; omega)).trans k16
  go_wp2_with fail
  obtain ⟨hC0, hB0, hR0, own0, hS0, hD0, hs0, ht0⟩ := HW.out
  have hA1 : Blk (W.alloc (.cells #[.slice none 0 0, .slice none 0 0] 31)) W.heap.size 31 #[.slice none 0 0, .slice none 0 0] := Blk.new W _ _
  have hC1 := hC0.trans2 (chg_alloc W (.cells #[.slice none 0 0, .slice none 0 0] 31) g) (fun x hx => by cases hx)
  have hB1 := hB0.alloc (.cells #[.slice none 0 0, .slice none 0 0] 31)
  have hR1 : Rw (W.alloc (.cells #[.slice none 0 0, .slice none 0 0] 31)) g V := Blk.alloc hR0 _
  have own1 := own0.alloc (.cells #[.slice none 0 0, .slice none 0 0] 31)
  have hS1 := hS0.alloc (.cells #[.slice none 0 0, .slice none 0 0] 31)
  have hD1 := hD0.alloc (.cells #[.slice none 0 0, .slice none 0 0] 31)
  have hs1 := hs0.alloc (by omega) (.cells #[.slice none 0 0, .slice none 0 0] 31)
  have ht1 := ht0.alloc (by omega) (.cells #[.slice none 0 0, .slice none 0 0] 31)
  have hszA : W.heap.size < (W.alloc (.cells #[.slice none 0 0, .slice none 0 0] 31)).heap.size := by simp
  clear hC0 hB0 hR0 own0 hS0 hD0 hs0 ht0 HW hmk k8 k16 k16a r1
  generalize W.alloc (.cells #[.slice none 0 0, .slice none 0 0] 31) = W1 at *
  rw [hsz0] at hA1 hszA
  clear hsz0
  generalize hab : w.heap.size + 1 = ab at *
  go_loopw [35] (fun x wr => ∃ (j : Nat) (O0 O1 : Value), j ≤ 2 ∧ x = .int .i64 j ∧ Blk wr ab 31 #[O0, O1] ∧
    (0 < j → wr.ownsRow w.heap.size 45 2 O0 (es (kt % 4) zt).length (fl (es (kt % 4) zt))) ∧ (1 < j → wr.ownsRow w.heap.size 45 2 O1 (es (ks % 4) zs).length (fl (es (ks % 4) zs))) ∧ (O0.ownBlock = none ∨ O0.ownBlock ≠ V.ownBlock) ∧ (O1.ownBlock = none ∨ O1.ownBlock ≠ V.ownBlock) ∧
    (j < 2 → O1 = .slice none 0 0) ∧ (j < 1 → O0 = .slice none 0 0) ∧
    Rw wr g V ∧ wr.ownsRow base 45 2 V L.length (fl L) ∧ Blk wr w.heap.size 28 #[.int .i64 25, .int .i64 0, .int .i64 0, .int .i64 0, .int .i64 0, .int .i64 0, .int .i64 0, .int .i64 0, .int .i64 8, .int .i64 0, .int .i64 0, .int .i64 0, .slice (some ⟨db, 0, none⟩) 1 1, .slice none 0 0, .slice none 0 0, .slice (some ⟨pb, 0, none⟩) 2 2, .slice (some ⟨sb, 0, none⟩) 2 2, .slice (some ⟨rb, 0, none⟩) 2 2] ∧ Blk wr sb 40 #[.int .i64 kt, .slice TA nt ct, .int .i64 ks, .slice SA ns cs] ∧ Blk wr db 5 #[.int .u8 85] ∧ Reads wr w.heap.size 1 SA ns (zs.map (Value.int .i64)) ∧ Reads wr w.heap.size 1 TA nt (zt.map (Value.int .i64)) ∧ Chg w wr g V.ownBlock ∧ w.heap.size < wr.heap.size) (fun x _ => 3 - (intOf x).toNat)
  case atStart => exact ⟨0, _, _, by omega, rfl, hA1, fun h => by omega, fun h => by omega, .inl rfl, .inl rfl, fun _ => rfl, fun _ => rfl, hR1, own1, hB1, hS1, hD1, hs1, ht1, hC1, hB1.lt⟩
  case round =>
    obtain ⟨j, O0, O1, hj, rfl, hA, hO0, hO1, hv0, hv1, hN1, hN0, hR, hown, hB, hS, hD, hs, ht, hC, hsz⟩ := hrel
    clear hA1 hR1 own1 hB1 hS1 hD1 hs1 ht1 hC1
    rcases (show j = 0 ∨ j = 1 ∨ j = 2 by omega) with rfl | rfl | rfl
    · obtain rfl := hN1 (by omega)
      obtain rfl := hN0 (by omega)
      have q0 : wr.cell? ⟨sb, 0, none⟩ = some (.int .i64 kt) := (hS.cell 0).trans rfl
      have q1 : wr.cell? ⟨sb, 1, none⟩ = some (.slice TA nt ct) := (hS.cell 1).trans rfl
      have hAa := hA.alloc (.cells #[.int .i64 kt, .slice TA nt ct] 40)
      have hRa : Rw (wr.alloc (.cells #[.int .i64 kt, .slice TA nt ct] 40)) g V := Blk.alloc hR _
      have owna := hown.alloc (.cells #[.int .i64 kt, .slice TA nt ct] 40)
      have hBa := hB.alloc (.cells #[.int .i64 kt, .slice TA nt ct] 40)
      have hSa := hS.alloc (.cells #[.int .i64 kt, .slice TA nt ct] 40)
      have hDa := hD.alloc (.cells #[.int .i64 kt, .slice TA nt ct] 40)
      have hsa := hs.alloc (by omega) (.cells #[.int .i64 kt, .slice TA nt ct] 40)
      have hta := ht.alloc (by omega) (.cells #[.int .i64 kt, .slice TA nt ct] 40)
      have hCa := hC.trans2 (chg_alloc wr (.cells #[.int .i64 kt, .slice TA nt ct] 40) g) (fun x hx => by cases hx)
      have hXa : Blk (wr.alloc (.cells #[.int .i64 kt, .slice TA nt ct] 40)) wr.heap.size 40 #[.int .i64 kt, .slice TA nt ct] := Blk.new wr _ _
      have x0 : (wr.alloc (.cells #[.int .i64 kt, .slice TA nt ct] 40)).cell? ⟨wr.heap.size, 0, none⟩ = some (.int .i64 kt) := (hXa.cell 0).trans rfl
      have x1 : (wr.alloc (.cells #[.int .i64 kt, .slice TA nt ct] 40)).cell? ⟨wr.heap.size, 1, none⟩ = some (.slice TA nt ct) := (hXa.cell 1).trans rfl
      have hszW : wr.heap.size < (wr.alloc (.cells #[.int .i64 kt, .slice TA nt ct] 40)).heap.size := by simp
      clear hA hR hown hB hS hD hs ht hC hO0 hO1 hN1 hN0 hXa
      go_upto_region 8 with fail
      generalize hWA : (wr.alloc (.cells #[.int .i64 kt, .slice TA nt ct] 40)) = WA at *
      clear q0 q1 hWA
      generalize wr.heap.size = xb at *
      go_wp2_with fail
      refine (symOf_any kt TA nt ct zt WA t0 t1 (hta.more (by omega)) (by omega)).mono ?_
      rintro e w1 ⟨O, rfl, ownO', hb1⟩
      rw [← es_fl, ← es_len (kt % 4)] at ownO'
      have hsw1 := hb1.size
      have hA1 := hAa.below hb1 hAa.lt
      have hR1 : Rw w1 g V := Blk.below hRa hb1 (Blk.lt hRa)
      have own1 := own_kept owna hb1
      have hB1 := hBa.below hb1 hBa.lt
      have hS1 := hSa.below hb1 hSa.lt
      have hD1 := hDa.below hb1 hDa.lt
      have hs1 := hsa.below (hb1.mono (by omega))
      have ht1 := hta.below (hb1.mono (by omega))
      have hC1 := hCa.trans2 (chg_below (g := g) hb1) (fun x hx => by cases hx)
      have hneV : O.ownBlock = none ∨ O.ownBlock ≠ V.ownBlock := by
        cases hv : O.ownBlock with
        | none => exact .inl rfl
        | some x =>
          refine .inr (fun e => ?_)
          have h1 := (ownO'.lt x hv).1
          have h2 := (owna.lt x e.symm).2
          omega
      have ownO : w1.ownsRow w.heap.size 45 2 O (es (kt % 4) zt).length (fl (es (kt % 4) zt)) := Joins.ownsRow_le ownO' (by omega)
      obtain ⟨PA, pc, rfl⟩ := own_slice ownO
      clear hAa hRa owna hBa hSa hDa hsa hta hCa x0 x1 ownO'
      have a0 : w1.cell? ⟨ab, 0, none⟩ = some (.slice none 0 0) := (hA1.cell 0).trans rfl
      have af := hA1.frozen 0
      have hg1 : w1.grownBy (w1.setCell ⟨ab, 0, none⟩ (.slice PA (es (kt % 4) zt).length pc)) (some ab) := ⟨rfl, rfl, rfl, by simp [World.setCell], fun i _ hne => Below.heap_setCell w1 ⟨ab, 0, none⟩ _ i (fun e => hne (by rw [e]))⟩
      have hgA : ab ≠ g := fun e => Blk.ne_ hA1 hR1 (by decide) e
      have HF := Lib.hid (And.intro (hA1.set_ 0 (.slice PA (es (kt % 4) zt).length pc)) (And.intro (ownO.kept hg1 (.inr (own_blk_ne ownO hA1 (by decide)))) (And.intro (Blk.grown hR1 hg1 (fun e => by injection e with e; omega)) (And.intro (own1.kept hg1 (.inr (own_blk_ne own1 hA1 (by decide)))) (And.intro (hB1.grown hg1 (fun e => Blk.ne_ hB1 hA1 (by decide) (by injection e))) (And.intro (hS1.grown hg1 (fun e => Blk.ne_ hS1 hA1 (by decide) (by injection e))) (And.intro (hD1.grown hg1 (fun e => Blk.ne_ hD1 hA1 (by decide) (by injection e))) (And.intro (hs1.grown hg1 (by omega) (fun b hb => by injection hb with hb; omega)) (And.intro (ht1.grown hg1 (by omega) (fun b hb => by injection hb with hb; omega)) (And.intro (hC1.trans2 (g := g) (⟨hg1.os, hg1.tape, hg1.output, hg1.size, fun i hi _ hne => hg1.block i hi hne⟩ : Chg _ _ g (some ab)) (fun x hx => by injection hx with hx; exact .inr (by omega))) trivial))))))))))
      have hszw1 : w.heap.size < (w1.setCell ⟨ab, 0, none⟩ (.slice PA (es (kt % 4) zt).length pc)).heap.size := by have := hB1.lt; simpa [World.setCell] using this
      clear hA1 hR1 own1 hB1 hS1 hD1 hs1 ht1 hC1 ownO hg1
      have hEL : True := trivial
      go_wp2
      go_roundw
      case rel =>
        obtain ⟨u1, u2, u3, u4, u5', u6', u7', u8', u9', u10', u11'⟩ := HF.out
        exact ⟨1, _, _, by omega, by go_num, u1, fun _ => u2, fun h => by omega, hneV, .inl rfl, fun _ => rfl, fun h => by omega, u3, u4, u5', u6', u7', u8', u9', u10', hszw1⟩
      case measure => simp [intOf]
    · obtain rfl := hN1 (by omega)
      have ownO0 := hO0 (by omega)
      obtain ⟨OA, oc, rfl⟩ := own_slice ownO0
      have q0 : wr.cell? ⟨sb, 2, none⟩ = some (.int .i64 ks) := (hS.cell 2).trans rfl
      have q1 : wr.cell? ⟨sb, 3, none⟩ = some (.slice SA ns cs) := (hS.cell 3).trans rfl
      have hAa := hA.alloc (.cells #[.int .i64 ks, .slice SA ns cs] 40)
      have hRa : Rw (wr.alloc (.cells #[.int .i64 ks, .slice SA ns cs] 40)) g V := Blk.alloc hR _
      have owna := hown.alloc (.cells #[.int .i64 ks, .slice SA ns cs] 40)
      have hBa := hB.alloc (.cells #[.int .i64 ks, .slice SA ns cs] 40)
      have hSa := hS.alloc (.cells #[.int .i64 ks, .slice SA ns cs] 40)
      have hDa := hD.alloc (.cells #[.int .i64 ks, .slice SA ns cs] 40)
      have hsa := hs.alloc (by omega) (.cells #[.int .i64 ks, .slice SA ns cs] 40)
      have hta := ht.alloc (by omega) (.cells #[.int .i64 ks, .slice SA ns cs] 40)
      have hCa := hC.trans2 (chg_alloc wr (.cells #[.int .i64 ks, .slice SA ns cs] 40) g) (fun x hx => by cases hx)
      have hXa : Blk (wr.alloc (.cells #[.int .i64 ks, .slice SA ns cs] 40)) wr.heap.size 40 #[.int .i64 ks, .slice SA ns cs] := Blk.new wr _ _
      have x0 : (wr.alloc (.cells #[.int .i64 ks, .slice SA ns cs] 40)).cell? ⟨wr.heap.size, 0, none⟩ = some (.int .i64 ks) := (hXa.cell 0).trans rfl
      have x1 : (wr.alloc (.cells #[.int .i64 ks, .slice SA ns cs] 40)).cell? ⟨wr.heap.size, 1, none⟩ = some (.slice SA ns cs) := (hXa.cell 1).trans rfl
      have hszW : wr.heap.size < (wr.alloc (.cells #[.int .i64 ks, .slice SA ns cs] 40)).heap.size := by simp
      have ownOa := ownO0.alloc (.cells #[.int .i64 ks, .slice SA ns cs] 40)
      clear hA hR hown hB hS hD hs ht hC hO0 hO1 hN1 hN0 hXa ownO0
      go_upto_region 8 with fail
      generalize hWA : (wr.alloc (.cells #[.int .i64 ks, .slice SA ns cs] 40)) = WA at *
      clear q0 q1 hWA
      generalize wr.heap.size = xb at *
      go_wp2_with fail
      refine (symOf_any ks SA ns cs zs WA s0 s1 (hsa.more (by omega)) (by omega)).mono ?_
      rintro e w1 ⟨O, rfl, ownO', hb1⟩
      rw [← es_fl, ← es_len (ks % 4)] at ownO'
      have hsw1 := hb1.size
      have hA1 := hAa.below hb1 hAa.lt
      have hR1 : Rw w1 g V := Blk.below hRa hb1 (Blk.lt hRa)
      have own1 := own_kept owna hb1
      have hB1 := hBa.below hb1 hBa.lt
      have hS1 := hSa.below hb1 hSa.lt
      have hD1 := hDa.below hb1 hDa.lt
      have hs1 := hsa.below (hb1.mono (by omega))
      have ht1 := hta.below (hb1.mono (by omega))
      have hC1 := hCa.trans2 (chg_below (g := g) hb1) (fun x hx => by cases hx)
      have hneV : O.ownBlock = none ∨ O.ownBlock ≠ V.ownBlock := by
        cases hv : O.ownBlock with
        | none => exact .inl rfl
        | some x =>
          refine .inr (fun e => ?_)
          have h1 := (ownO'.lt x hv).1
          have h2 := (owna.lt x e.symm).2
          omega
      have ownO : w1.ownsRow w.heap.size 45 2 O (es (ks % 4) zs).length (fl (es (ks % 4) zs)) := Joins.ownsRow_le ownO' (by omega)
      have ownP := own_kept ownOa hb1
      obtain ⟨PA, pc, rfl⟩ := own_slice ownO
      clear hAa hRa owna hBa hSa hDa hsa hta hCa x0 x1 ownO' ownOa
      have a0 : w1.cell? ⟨ab, 1, none⟩ = some (.slice none 0 0) := (hA1.cell 1).trans rfl
      have af := hA1.frozen 1
      have hg1 : w1.grownBy (w1.setCell ⟨ab, 1, none⟩ (.slice PA (es (ks % 4) zs).length pc)) (some ab) := ⟨rfl, rfl, rfl, by simp [World.setCell], fun i _ hne => Below.heap_setCell w1 ⟨ab, 1, none⟩ _ i (fun e => hne (by rw [e]))⟩
      have hgA : ab ≠ g := fun e => Blk.ne_ hA1 hR1 (by decide) e
      have HF := Lib.hid (And.intro (hA1.set_ 1 (.slice PA (es (ks % 4) zs).length pc)) (And.intro (ownO.kept hg1 (.inr (own_blk_ne ownO hA1 (by decide)))) (And.intro (Blk.grown hR1 hg1 (fun e => by injection e with e; omega)) (And.intro (own1.kept hg1 (.inr (own_blk_ne own1 hA1 (by decide)))) (And.intro (hB1.grown hg1 (fun e => Blk.ne_ hB1 hA1 (by decide) (by injection e))) (And.intro (hS1.grown hg1 (fun e => Blk.ne_ hS1 hA1 (by decide) (by injection e))) (And.intro (hD1.grown hg1 (fun e => Blk.ne_ hD1 hA1 (by decide) (by injection e))) (And.intro (hs1.grown hg1 (by omega) (fun b hb => by injection hb with hb; omega)) (And.intro (ht1.grown hg1 (by omega) (fun b hb => by injection hb with hb; omega)) (And.intro (hC1.trans2 (g := g) (⟨hg1.os, hg1.tape, hg1.output, hg1.size, fun i hi _ hne => hg1.block i hi hne⟩ : Chg _ _ g (some ab)) (fun x hx => by injection hx with hx; exact .inr (by omega))) (ownP.kept hg1 (.inr (own_blk_ne ownP hA1 (by decide))))))))))))))
      have hszw1 : w.heap.size < (w1.setCell ⟨ab, 1, none⟩ (.slice PA (es (ks % 4) zs).length pc)).heap.size := by have := hB1.lt; simpa [World.setCell] using this
      clear hA1 hR1 own1 hB1 hS1 hD1 hs1 ht1 hC1 ownO hg1 ownP
      have hEL : True := trivial
      go_wp2
      go_roundw
      case rel =>
        obtain ⟨u1, u2, u3, u4, u5', u6', u7', u8', u9', u10', u11'⟩ := HF.out
        exact ⟨2, _, _, by omega, by go_num, u1, fun _ => u11', fun _ => u2, hv0, hneV, fun h => by omega, fun h => by omega, u3, u4, u5', u6', u7', u8', u9', u10', hszw1⟩
      case measure => simp [intOf]
    · rw [show ((2 : Nat) : Int) = 2 from rfl]
      have ownO0 := hO0 (by omega)
      have ownO1 := hO1 (by omega)
      have HV0 := Lib.hid hv0
      have HV1 := Lib.hid hv1
      clear hv0 hv1
      clear hO0 hO1 hN1 hN0 hS hs ht
      obtain ⟨P0, c0, rfl⟩ := own_slice ownO0
      obtain ⟨P1, c1, rfl⟩ := own_slice ownO1
      have HAL := Lib.hid (altE_len _ _ hKt hKs)
      have HAS := Lib.hid (show ∀ i, altE (es (kt % 4) zt) (es (ks % 4) zs) (i + 1) = altE (es (kt % 4) zt) (es (ks % 4) zs) i ++ (if i % 2 = 0 then es (kt % 4) zt else es (ks % 4) zs) from fun i => rfl)
      have HAZ := Lib.hid (show altE (es (kt % 4) zt) (es (ks % 4) zs) 0 = [] from rfl)
      go_wp2_with fail
      go_loopw [8] (fun x wv => ∃ (i : Nat) (V' : Value), i ≤ 8 ∧ x = .int .i64 i ∧ Rw wv g V' ∧ wv.ownsRow base 45 2 V' (L ++ altE (es (kt % 4) zt) (es (ks % 4) zs) i).length (fl (L ++ altE (es (kt % 4) zt) (es (ks % 4) zs) i)) ∧ Blk wv ab 31 #[.slice P0 (es (kt % 4) zt).length c0, .slice P1 (es (ks % 4) zs).length c1] ∧ wv.ownsRow w.heap.size 45 2 (.slice P0 (es (kt % 4) zt).length c0) (es (kt % 4) zt).length (fl (es (kt % 4) zt)) ∧ wv.ownsRow w.heap.size 45 2 (.slice P1 (es (ks % 4) zs).length c1) (es (ks % 4) zs).length (fl (es (ks % 4) zs)) ∧ ((Value.slice P0 (es (kt % 4) zt).length c0).ownBlock = none ∨ (Value.slice P0 (es (kt % 4) zt).length c0).ownBlock ≠ V'.ownBlock) ∧ ((Value.slice P1 (es (ks % 4) zs).length c1).ownBlock = none ∨ (Value.slice P1 (es (ks % 4) zs).length c1).ownBlock ≠ V'.ownBlock) ∧ Blk wv w.heap.size 28 #[.int .i64 25, .int .i64 0, .int .i64 0, .int .i64 0, .int .i64 0, .int .i64 0, .int .i64 0, .int .i64 0, .int .i64 8, .int .i64 0, .int .i64 0, .int .i64 0, .slice (some ⟨db, 0, none⟩) 1 1, .slice none 0 0, .slice none 0 0, .slice (some ⟨pb, 0, none⟩) 2 2, .slice (some ⟨sb, 0, none⟩) 2 2, .slice (some ⟨rb, 0, none⟩) 2 2] ∧ Blk wv db 5 #[.int .u8 85] ∧ Chg w wv g V.ownBlock ∧ (V'.ownBlock = V.ownBlock ∨ ∃ b, V'.ownBlock = some b ∧ w.heap.size ≤ b) ∧ w.heap.size < wv.heap.size) (fun x _ => 9 - (intOf x).toNat)
      case atStart =>
        refine ⟨0, V, by omega, rfl, hR, ?_, hA, ownO0, ownO1, ?_, ?_, hB, hD, hC, .inl rfl, hsz⟩
        · rw [HAZ.out, List.append_nil]
          exact hown
        · exact HV0.out
        · exact HV1.out
      case round =>
        obtain ⟨i, V', hi, rfl, hR2, own2, hA2, o0, o1, n0, n1, hB2, hD2, hC2, hmv, hsz2⟩ := hrel
        clear hR hown hA ownO0 ownO1 hB hD hC
        have k8 : wr.cell? ⟨w.heap.size, 8, none⟩ = some (.int .i64 8) := (hB2.cell 8).trans rfl
        have k12 : wr.cell? ⟨w.heap.size, 12, none⟩ = some (.slice (some ⟨db, 0, none⟩) 1 1) := (hB2.cell 12).trans rfl
        have r1 : wr.cell? ⟨g, 1, none⟩ = some (.int .i64 0) := (Blk.cell hR2 1).trans rfl
        have d0 : wr.cell? ⟨db, 0, none⟩ = some (.int .u8 85) := (hD2.cell 0).trans rfl
        by_cases hlt : i < 8
        · have hiI : (i : Int) < 8 := by omega
          have hsym := symbol_any wr db i d0 hlt
          have hal := HAL.out i
          have HNX := Lib.hid (HAS.out i)
          rcases Nat.mod_two_eq_zero_or_one i with hm | hm
          · rw [hm] at hsym
            rw [hm, if_pos rfl] at HNX
            have aa : wr.cell? ⟨ab, 0, none⟩ = some (.slice P0 (es (kt % 4) zt).length c0) := (hA2.cell 0).trans rfl
            have hput := put_any hR2 own2 (Reads.of_own o0) (c := c0) (by omega) (by rw [List.length_append]; omega)
            have HF := Lib.hid (And.intro hR2 (And.intro own2 (And.intro hA2 (And.intro o0 (And.intro o1 (And.intro n0 (And.intro n1 (And.intro hB2 (And.intro hD2 (And.intro hC2 hmv))))))))))
            clear hR2 own2 hA2 o0 o1 n0 n1 hB2 hD2 hC2 hmv
            go_wp2_with fail
            refine hsym.mono ?_
            rintro e w' ⟨rfl, rfl⟩
            clear hsym d0
            go_wp2_with fail
            refine hput.mono ?_
            rintro e w2 ⟨rfl, V3, hR3, own3, hch, hmv3⟩
            clear hput aa k8 k12 r1
            obtain ⟨hR2, own2, hA2, o0, o1, n0, n1, hB2, hD2, hC2, hmv⟩ := HF.out
            have o03 := hch.own o0 (own_blk_ne o0 hR2 (by decide)) n0
            have o13 := hch.own o1 (own_blk_ne o1 hR2 (by decide)) n1
            have n03 := own_ne_of o0 hmv3 n0
            have n13 := own_ne_of o1 hmv3 n1
            have hA3 := hch.blk hA2 (fun e => Blk.ne_ hA2 hR2 (by decide) e) (fun e => own_blk_ne own2 hA2 (by decide) e.symm)
            have hB3 := hch.blk hB2 (fun e => Blk.ne_ hB2 hR2 (by decide) e) (fun e => own_blk_ne own2 hB2 (by decide) e.symm)
            have hD3 := hch.blk hD2 (fun e => Blk.ne_ hD2 hR2 (by decide) e) (fun e => own_blk_ne own2 hD2 (by decide) e.symm)
            have hC3 := hC2.trans2 hch (fun x hx => by
              rcases hmv with h | ⟨b, h, hb⟩
              · exact .inl (by rw [← h, hx])
              · rw [hx] at h; injection h with h; exact .inr (by omega))
            have hmv4 := alt_mv hmv (Nat.le_of_lt hsz2) hmv3
            have hsz3 : w.heap.size < w2.heap.size := Nat.lt_of_lt_of_le hsz2 hch.2.2.2.1
            have own3' : w2.ownsRow base 45 2 V3 (L ++ altE (es (kt % 4) zt) (es (ks % 4) zs) (i + 1)).length (fl (L ++ altE (es (kt % 4) zt) (es (ks % 4) zs) (i + 1))) := by
              rw [HNX.out, ← List.append_assoc, fl_app, List.length_append]
              exact own3
            have HG := Lib.hid (And.intro hR3 (And.intro own3' (And.intro hA3 (And.intro o03 (And.intro o13 (And.intro n03 (And.intro n13 (And.intro hB3 (And.intro hD3 (And.intro hC3 (And.intro hmv4 hsz3)))))))))))
            clear hR3 own3 own3' hA3 o03 o13 n03 n13 hB3 hD3 hC3 hmv4 hsz3 hR2 own2 hA2 o0 o1 n0 n1 hB2 hD2 hC2 hmv hch hmv3
            go_wp2
            go_roundw
            case rel => exact ⟨i + 1, V3, by omega, by go_num, HG.out⟩
            case measure => simp [intOf]; omega
          · rw [hm] at hsym
            rw [hm, if_neg (by omega)] at HNX
            have aa : wr.cell? ⟨ab, 1, none⟩ = some (.slice P1 (es (ks % 4) zs).length c1) := (hA2.cell 1).trans rfl
            have hput := put_any hR2 own2 (Reads.of_own o1) (c := c1) (by omega) (by rw [List.length_append]; omega)
            have HF := Lib.hid (And.intro hR2 (And.intro own2 (And.intro hA2 (And.intro o0 (And.intro o1 (And.intro n0 (And.intro n1 (And.intro hB2 (And.intro hD2 (And.intro hC2 hmv))))))))))
            clear hR2 own2 hA2 o0 o1 n0 n1 hB2 hD2 hC2 hmv
            go_wp2_with fail
            refine hsym.mono ?_
            rintro e w' ⟨rfl, rfl⟩
            clear hsym d0
            go_wp2_with fail
            refine hput.mono ?_
            rintro e w2 ⟨rfl, V3, hR3, own3, hch, hmv3⟩
            clear hput aa k8 k12 r1
            obtain ⟨hR2, own2, hA2, o0, o1, n0, n1, hB2, hD2, hC2, hmv⟩ := HF.out
            have o03 := hch.own o0 (own_blk_ne o0 hR2 (by decide)) n0
            have o13 := hch.own o1 (own_blk_ne o1 hR2 (by decide)) n1
            have n03 := own_ne_of o0 hmv3 n0
            have n13 := own_ne_of o1 hmv3 n1
            have hA3 := hch.blk hA2 (fun e => Blk.ne_ hA2 hR2 (by decide) e) (fun e => own_blk_ne own2 hA2 (by decide) e.symm)
            have hB3 := hch.blk hB2 (fun e => Blk.ne_ hB2 hR2 (by decide) e) (fun e => own_blk_ne own2 hB2 (by decide) e.symm)
            have hD3 := hch.blk hD2 (fun e => Blk.ne_ hD2 hR2 (by decide) e) (fun e => own_blk_ne own2 hD2 (by decide) e.symm)
            have hC3 := hC2.trans2 hch (fun x hx => by
              rcases hmv with h | ⟨b, h, hb⟩
              · exact .inl (by rw [← h, hx])
              · rw [hx] at h; injection h with h; exact .inr (by omega))
            have hmv4 := alt_mv hmv (Nat.le_of_lt hsz2) hmv3
            have hsz3 : w.heap.size < w2.heap.size := Nat.lt_of_lt_of_le hsz2 hch.2.2.2.1
            have own3' : w2.ownsRow base 45 2 V3 (L ++ altE (es (kt % 4) zt) (es (ks % 4) zs) (i + 1)).length (fl (L ++ altE (es (kt % 4) zt) (es (ks % 4) zs) (i + 1))) := by
              rw [HNX.out, ← List.append_assoc, fl_app, List.length_append]
              exact own3
            have HG := Lib.hid (And.intro hR3 (And.intro own3' (And.intro hA3 (And.intro o03 (And.intro o13 (And.intro n03 (And.intro n13 (And.intro hB3 (And.intro hD3 (And.intro hC3 (And.intro hmv4 hsz3)))))))))))
            clear hR3 own3 own3' hA3 o03 o13 n03 n13 hB3 hD3 hC3 hmv4 hsz3 hR2 own2 hA2 o0 o1 n0 n1 hB2 hD2 hC2 hmv hch hmv3
            go_wp2
            go_roundw
            case rel => exact ⟨i + 1, V3, by omega, by go_num, HG.out⟩
            case measure => simp [intOf]; omega
        · obtain rfl : i = 8 := by omega
          have hiI : ¬ (8 : Int) < 8 := by omega
          clear k12 d0
          have HF := Lib.hid (And.intro hR2 (And.intro own2 hC2))
          clear hR2 own2 hC2 hA2 o0 o1 n0 n1 hB2 hD2
          go_wp2
          first | go_end0 | refine bodyPost_ret (results_none rfl _ _ _) rfl ?_
          exact ⟨rfl, V', HF.out.1, by simpa using HF.out.2.1, HF.out.2.2⟩

end Go.Proofs.Ythmmoogfngohaaa
