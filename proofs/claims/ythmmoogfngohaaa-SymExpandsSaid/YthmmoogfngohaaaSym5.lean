/- Layer 22: the contract of Expand at two symbols that are repeated and then come in turn; the chapter's example; two edges compared. -/
import Derived.Test.YthmmoogfngohaaaSym4
import Derived.OpenShut
import Derived.Laws.StructEq
namespace Go.Proofs.Ythmmoogfngohaaa
open Go.RowKit

theorem blkInfo : (Try.prog.info? 28).map (·.size) = some 18 := by kernel_rfl
theorem row_i64 {w : World} {a : Option Addr} {len cap : Nat} {zs : List Int} (h : IsRow .i64 w a len cap zs) :
    Reads w w.heap.size 1 a len ((zs.take len).map (Value.int .i64)) := by
  rcases h with ⟨rfl, rfl, rfl, rfl⟩ | ⟨x, rfl, hb, hl, hc, hz, hcell, hw⟩
  · exact Reads.none_
  · refine ⟨by simp; omega, fun hn => ⟨x, rfl, by rcases hb with h0 | h0; omega; exact h0, fun j u hu => ?_⟩⟩
    simp only [List.getElem?_map, List.getElem?_take, Option.map_eq_some_iff] at hu
    obtain ⟨v, hv, rfl⟩ := hu
    split at hv
    · have hj : j < zs.length := by
        rcases Nat.lt_or_ge j zs.length with h | h
        · exact h
        · rw [List.getElem?_eq_none h] at hv; cases hv
      rw [hcell j hj, List.getD_eq_getElem?_getD, hv]
      rfl
    · cases hv

theorem lives22_num : cutK [5, 0, 7] = 1 ∧ edgeL (1 % 4) [5, 0, 7] 1 = [.int .i64 1, .int .i64 5] := ⟨by decide, rfl⟩
theorem lives22 (w : World) :
    Calls Try.prog 6 #[] w fun e w' => e = .returned (.bool true) ∧ Below w.heap.size w w' := by
  have hr : Reads (w.alloc (.cells #[.int .i64 5, .int .i64 0, .int .i64 7] 3)) (w.alloc (.cells #[.int .i64 5, .int .i64 0, .int .i64 7] 3)).heap.size 1 (some ⟨w.heap.size, 0, none⟩) 3 (([5, 0, 7] : List Int).map (Value.int .i64)) := by
    refine ⟨rfl, fun _ => ⟨_, rfl, by simp, fun j v hv => ?_⟩⟩
    rw [show (Addr.add ⟨w.heap.size, 0, none⟩ j) = ⟨w.heap.size, j, none⟩ by unfold Addr.add; split <;> simp_all, World.cell?_alloc_at _ _ _ _ rfl]
    simpa using hv
  go_enter Try.func6, Try.ntmps6
  go_wp2_with fail
  refine (symOf_any 1 _ 3 3 [5, 0, 7] _ (by omega) (by omega) hr (by omega)).mono ?_
  rintro e w1 ⟨v, rfl, hown, hb⟩
  rw [lives22_num.1, lives22_num.2] at hown
  obtain ⟨g, cap, rfl, _, _⟩ := hown.form (by omega)
  have a0 := hown.cellAt 0 (by omega)
  have a1 := hown.cellAt 1 (by omega)
  simp only [List.getElem?_cons_zero, List.getElem?_cons_succ] at a0 a1
  go_wp2
  go_ret
  exact ⟨rfl, ((Below.refl _ _).alloc (Nat.le_refl _) _).trans (hb.mono (by simp))⟩

theorem eqE (w : World) (a b : Int) : (Op.equalIn 10000 45 (.agg #[.int .i64 a, .int .i64 b]) (.agg #[.int .i64 a, .int .i64 b])).run Try.prog w = .ok true w := by
  have hf : (Try.prog.fieldsOf 45).toList = [{ name := "How", type := 3, offset := 0, embedded := false, tag := "", pkgPath := "", byteOffset := 0 }, { name := "Len", type := 3, offset := 1, embedded := false, tag := "", pkgPath := "", byteOffset := 8 }] := by kernel_rfl
  rw [show (10000 : Nat) = 9999 + 1 from rfl, run_equalIn_struct w 9999 _ _ _ (by kernel_rfl) (by kernel_rfl), hf]
  obtain ⟨i0, hi, hz0, hz1, hz2⟩ := info_parts (show (Try.prog.info? 3).map (fun i => (i.zero, i.size, i.bytes)) = some (some (.int .i64 0), 1, 8) by kernel_rfl)
  have h1 := fun x y => run_equalIn_int w 9998 3 .i64 .i64 x y Try.underlying3
  have hc : Try.prog.cellsOf 3 = 1 := by kernel_rfl
  simp [Op.eqFields, part, h1]

set_option maxRecDepth 100000 in
set_option maxHeartbeats 8000000 in
theorem expand_any (w : World) (pb rb sb db : Nat) (n ks kt : Int) (SA TA : Option Addr) (ns cs nt ct : Nat) (zs zt : List Int)
    (hP : Blk w pb 40 #[.int .i64 ks, .slice SA ns cs, .int .i64 kt, .slice TA nt ct]) (hrp : Blk w rb 43 #[.int .i64 0, .int .i64 n, .int .i64 1, .int .i64 1])
    (hS : Blk w sb 40 #[.int .i64 kt, .slice TA nt ct, .int .i64 ks, .slice SA ns cs]) (hD : Blk w db 5 #[.int .u8 85])
    (hs : Reads w w.heap.size 1 SA ns (zs.map (Value.int .i64))) (ht : Reads w w.heap.size 1 TA nt (zt.map (Value.int .i64))) (hns : ns ≤ 100) (hnt : nt ≤ 100)
    (s0 : -9223372036854775808 ≤ ks) (s1 : ks ≤ 9223372036854775807) (t0 : -9223372036854775808 ≤ kt) (t1 : kt ≤ 9223372036854775807) (n1 : n ≤ 1000) :
    Calls Try.prog 7 #[.agg #[.int .i64 25, .int .i64 0, .int .i64 0, .int .i64 0, .int .i64 0, .int .i64 0, .int .i64 0, .int .i64 0, .int .i64 8, .int .i64 0, .int .i64 0, .int .i64 0, .slice (some ⟨db, 0, none⟩) 1 1, .slice none 0 0, .slice none 0 0, .slice (some ⟨pb, 0, none⟩) 2 2, .slice (some ⟨sb, 0, none⟩) 2 2, .slice (some ⟨rb, 0, none⟩) 2 2]] w fun e w' => ∃ (V' : Value) (L : List (Int × Int)), e = .returned (.tuple #[V', .int .i64 0]) ∧ L = (List.replicate n.toNat (es (ks % 4) zs)).flatten ++ es (kt % 4) zt ++ altE (es (kt % 4) zt) (es (ks % 4) zs) 8 ∧ w'.ownsRow w.heap.size 45 2 V' L.length (fl L) ∧ Below w.heap.size w w' := by
  have hpl := hP.lt
  have hrl := hrp.lt
  have hsl := hS.lt
  have hdl := hD.lt
  have hb : Below w.heap.size w ((w.alloc (.cells #[.int .i64 25, .int .i64 0, .int .i64 0, .int .i64 0, .int .i64 0, .int .i64 0, .int .i64 0, .int .i64 0, .int .i64 8, .int .i64 0, .int .i64 0, .int .i64 0, .slice (some ⟨db, 0, none⟩) 1 1, .slice none 0 0, .slice none 0 0, .slice (some ⟨pb, 0, none⟩) 2 2, .slice (some ⟨sb, 0, none⟩) 2 2, .slice (some ⟨rb, 0, none⟩) 2 2] 28)).alloc (.cells #[.slice none 0 0, .int .i64 0] 49)) := ((Below.refl _ _).alloc (Nat.le_refl _) _).alloc (by simp) _
  have hB : Blk ((w.alloc (.cells #[.int .i64 25, .int .i64 0, .int .i64 0, .int .i64 0, .int .i64 0, .int .i64 0, .int .i64 0, .int .i64 0, .int .i64 8, .int .i64 0, .int .i64 0, .int .i64 0, .slice (some ⟨db, 0, none⟩) 1 1, .slice none 0 0, .slice none 0 0, .slice (some ⟨pb, 0, none⟩) 2 2, .slice (some ⟨sb, 0, none⟩) 2 2, .slice (some ⟨rb, 0, none⟩) 2 2] 28)).alloc (.cells #[.slice none 0 0, .int .i64 0] 49)) w.heap.size 28 #[.int .i64 25, .int .i64 0, .int .i64 0, .int .i64 0, .int .i64 0, .int .i64 0, .int .i64 0, .int .i64 0, .int .i64 8, .int .i64 0, .int .i64 0, .int .i64 0, .slice (some ⟨db, 0, none⟩) 1 1, .slice none 0 0, .slice none 0 0, .slice (some ⟨pb, 0, none⟩) 2 2, .slice (some ⟨sb, 0, none⟩) 2 2, .slice (some ⟨rb, 0, none⟩) 2 2] := Blk.alloc (Blk.new w _ _) _
  have hR : Rw ((w.alloc (.cells #[.int .i64 25, .int .i64 0, .int .i64 0, .int .i64 0, .int .i64 0, .int .i64 0, .int .i64 0, .int .i64 0, .int .i64 8, .int .i64 0, .int .i64 0, .int .i64 0, .slice (some ⟨db, 0, none⟩) 1 1, .slice none 0 0, .slice none 0 0, .slice (some ⟨pb, 0, none⟩) 2 2, .slice (some ⟨sb, 0, none⟩) 2 2, .slice (some ⟨rb, 0, none⟩) 2 2] 28)).alloc (.cells #[.slice none 0 0, .int .i64 0] 49)) (w.heap.size + 1) (.slice none 0 0) := by
    have := Blk.new (w.alloc (.cells #[.int .i64 25, .int .i64 0, .int .i64 0, .int .i64 0, .int .i64 0, .int .i64 0, .int .i64 0, .int .i64 0, .int .i64 8, .int .i64 0, .int .i64 0, .int .i64 0, .slice (some ⟨db, 0, none⟩) 1 1, .slice none 0 0, .slice none 0 0, .slice (some ⟨pb, 0, none⟩) 2 2, .slice (some ⟨sb, 0, none⟩) 2 2, .slice (some ⟨rb, 0, none⟩) 2 2] 28)) 49 #[.slice none 0 0, .int .i64 0]
    simpa [Rw] using this
  have hB1 : Blk (w.alloc (.cells #[.int .i64 25, .int .i64 0, .int .i64 0, .int .i64 0, .int .i64 0, .int .i64 0, .int .i64 0, .int .i64 0, .int .i64 8, .int .i64 0, .int .i64 0, .int .i64 0, .slice (some ⟨db, 0, none⟩) 1 1, .slice none 0 0, .slice none 0 0, .slice (some ⟨pb, 0, none⟩) 2 2, .slice (some ⟨sb, 0, none⟩) 2 2, .slice (some ⟨rb, 0, none⟩) 2 2] 28)) w.heap.size 28 #[.int .i64 25, .int .i64 0, .int .i64 0, .int .i64 0, .int .i64 0, .int .i64 0, .int .i64 0, .int .i64 0, .int .i64 8, .int .i64 0, .int .i64 0, .int .i64 0, .slice (some ⟨db, 0, none⟩) 1 1, .slice none 0 0, .slice none 0 0, .slice (some ⟨pb, 0, none⟩) 2 2, .slice (some ⟨sb, 0, none⟩) 2 2, .slice (some ⟨rb, 0, none⟩) 2 2] := Blk.new w _ _
  have k0 : (w.alloc (.cells #[.int .i64 25, .int .i64 0, .int .i64 0, .int .i64 0, .int .i64 0, .int .i64 0, .int .i64 0, .int .i64 0, .int .i64 8, .int .i64 0, .int .i64 0, .int .i64 0, .slice (some ⟨db, 0, none⟩) 1 1, .slice none 0 0, .slice none 0 0, .slice (some ⟨pb, 0, none⟩) 2 2, .slice (some ⟨sb, 0, none⟩) 2 2, .slice (some ⟨rb, 0, none⟩) 2 2] 28)).cell? ⟨w.heap.size, 0, none⟩ = some (.int .i64 25) := (hB1.cell 0).trans rfl
  have hP2 := hP.below hb hpl
  have hrp2 := hrp.below hb hrl
  have hS2 := hS.below hb hsl
  have hD2 := hD.below hb hdl
  have hs2 := hs.below hb
  have ht2 := ht.below hb
  clear hP hrp hS hD hs ht
  have HH := Lib.hid (And.intro hb (And.intro hP2 (And.intro hrp2 (And.intro hS2 (And.intro hD2 (And.intro hs2 ht2))))))
  have HRH := Lib.hid hR
  clear hb hP2 hrp2 hS2 hD2 hs2 ht2 hB1 hR
  go_enter Try.func7, Try.ntmps7
  go_wp2_with (first
    | (refine wpList_load_box rfl 28 _ rfl w.heap.size rfl 28 #[.int .i64 25, .int .i64 0, .int .i64 0, .int .i64 0, .int .i64 0, .int .i64 0, .int .i64 0, .int .i64 0, .int .i64 8, .int .i64 0, .int .i64 0, .int .i64 0, .slice (some ⟨db, 0, none⟩) 1 1, .slice none 0 0, .slice none 0 0, .slice (some ⟨pb, 0, none⟩) 2 2, .slice (some ⟨sb, 0, none⟩) 2 2, .slice (some ⟨rb, 0, none⟩) 2 2] hB _ Try.underlying28 rfl blkInfo ?_)
    | fail)
  try (refine fun (_ : Hid _) => ?_)
  obtain ⟨hb, hP2, hrp2, hS2, hD2, hs2, ht2⟩ := HH.out
  have hR := HRH.out
  clear HH HRH k0
  generalize (w.alloc (.cells #[.int .i64 25, .int .i64 0, .int .i64 0, .int .i64 0, .int .i64 0, .int .i64 0, .int .i64 0, .int .i64 0, .int .i64 8, .int .i64 0, .int .i64 0, .int .i64 0, .slice (some ⟨db, 0, none⟩) 1 1, .slice none 0 0, .slice none 0 0, .slice (some ⟨pb, 0, none⟩) 2 2, .slice (some ⟨sb, 0, none⟩) 2 2, .slice (some ⟨rb, 0, none⟩) 2 2] 28)).alloc (.cells #[.slice none 0 0, .int .i64 0] 49) = W at *
  have hRl := Blk.lt hR
  have hp := pilots_any W (w.heap.size + 1) pb rb sb (some ⟨db, 0, none⟩) 1 1 n ks kt SA TA ns cs nt ct zs zt hR hP2 hrp2 (by omega) (by omega) (hs2.more (by omega)) (ht2.more (by omega)) hns hnt s0 s1 t0 t1 n1
  have HW := Lib.hid (And.intro hb (And.intro hB (And.intro hS2 (And.intro hD2 (And.intro hs2 ht2)))))
  clear hb hB hP2 hrp2 hS2 hD2 hs2 ht2 hR
  first
    | (refine hp.mono ?_)
    | (go_wp2_with fail; refine hp.mono ?_)
  rintro e w3 ⟨rfl, V, L, hL, hR3, own3, hC3⟩
  clear hp
  obtain ⟨hb, hB, hS2, hD2, hs2, ht2⟩ := HW.out
  have hB3 := hC3.blk hB (by omega) (by simp)
  have hS3 := hC3.blk hS2 (by omega) (by simp)
  have hD3 := hC3.blk hD2 (by omega) (by simp)
  have hb3 := hC3.below hb (by omega) hb.size (fun b hb => by cases hb)
  have hs3 := hC3.reads hs2 (by omega) hb.size (fun b hb => by cases hb)
  have ht3 := hC3.reads ht2 (by omega) hb.size (fun b hb => by cases hb)
  have hsz3 : W.heap.size ≤ w3.heap.size := hC3.2.2.2.1
  have hLl : L.length ≤ 200000 := by
    have h1 : (es (ks % 4) zs).length ≤ 100 := by rw [es_len]; have := cutK_le zs; have := reads_lenI hs2; omega
    have h2 : (es (kt % 4) zt).length ≤ 100 := by rw [es_len]; have := cutK_le zt; have := reads_lenI ht2; omega
    rw [hL, List.length_append, reps_len]
    have := Nat.mul_le_mul (show n.toNat ≤ 1000 by omega) h1
    omega
  have hd := data_any w3 (w.heap.size + 1) pb rb sb db W.heap.size ks kt SA TA ns cs nt ct zs zt V L hR3 own3 hsz3 hS3 hD3 (hs3.more hb3.size) (ht3.more hb3.size) hns hnt hLl s0 s1 t0 t1
  have HX := Lib.hid (And.intro hL (And.intro own3 (And.intro hb3 hb.size)))
  clear hb hB hS2 hD2 hs2 ht2 hS3 hD3 hs3 ht3 hC3 hL own3 hb3 hR3 HW
  go_wp2_with (first
    | (refine wpList_load_box rfl 28 _ rfl w.heap.size rfl 28 #[.int .i64 25, .int .i64 0, .int .i64 0, .int .i64 0, .int .i64 0, .int .i64 0, .int .i64 0, .int .i64 0, .int .i64 8, .int .i64 0, .int .i64 0, .int .i64 0, .slice (some ⟨db, 0, none⟩) 1 1, .slice none 0 0, .slice none 0 0, .slice (some ⟨pb, 0, none⟩) 2 2, .slice (some ⟨sb, 0, none⟩) 2 2, .slice (some ⟨rb, 0, none⟩) 2 2] hB3 _ Try.underlying28 rfl blkInfo ?_)
    | fail)
  try (refine fun (_ : Hid _) => ?_)
  clear hB3
  first
    | (refine hd.mono ?_)
    | (go_wp2_with fail; refine hd.mono ?_)
  rintro e w4 ⟨rfl, V4, L4, hL4, hR4, own4, hC4⟩
  clear hd
  obtain ⟨hL, own3, hb3, hbs⟩ := HX.out
  have r0 : w4.cell? ⟨w.heap.size + 1, 0, none⟩ = some V4 := (Blk.cell hR4 0).trans rfl
  have r1 : w4.cell? ⟨w.heap.size + 1, 1, none⟩ = some (.int .i64 0) := (Blk.cell hR4 1).trans rfl
  have hb4 := hC4.below hb3 (by omega) hb3.size (fun b hb => by have := (own3.lt b hb).1; omega)
  rw [hL] at hL4
  have HE := Lib.hid (And.intro hL4 (And.intro (Joins.ownsRow_le own4 hbs) hb4))
  clear hL own3 hb3 hC4 own4 hR4 hL4 hb4
  go_wp2
  go_ret2
  exact ⟨V4, L4, rfl, HE.out⟩

end Go.Proofs.Ythmmoogfngohaaa
