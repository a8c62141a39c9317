/- Layer 24: contract of a new way. -/
import Derived.Test.YtnmapncgnceldaaWk13
namespace Go.Proofs.Ytnmapncgnceldaa
open Go.RowKit

theorem blkInfo4 : (Try.prog.info? 45).map (fun i => (i.zero, i.size, i.bytes)) = some (some (.agg #[.int .i64 0, .int .i64 0, .int .i64 0, .int .i64 0, .int .i64 0, .int .i64 0, .int .i64 0, .int .i64 0, .int .i64 0, .int .i64 0, .int .i64 0, .int .i64 0, .slice none 0 0, .slice none 0 0, .slice none 0 0, .slice none 0 0, .slice none 0 0, .slice none 0 0]), 18, 240) := by kernel_rfl
theorem RdP.of_own {w : World} {base : Nat} {e : TypeId} {size n c : Nat} {A : Option Addr} {xs : List Value} (h : w.ownsRow base e size (.slice A n c) n xs) : RdP w (fun b => base ≤ b ∧ b < w.heap.size) size A n xs := by
  have hr := Reads.of_own h
  refine ⟨hr.1, fun hn => ?_⟩
  obtain ⟨ad, e, hb, hc⟩ := hr.2 hn
  subst e
  exact ⟨ad, rfl, ⟨(h.lt ad.block rfl).1, hb⟩, hc⟩
def emptyJ (bs : List WB) : Prop := ∃ i : Nat, i < bs.length ∧ (bs.getD i default).id = 35 ∧ (bs.getD i default).ts = []
def NewO (w w' : World) (x : Ending) (n : Nat) (bs : List WB) : Prop :=
  Below w.heap.size w w' ∧ (((soundG bs bs.length 0).2 ≠ 0 ∧ x = .returned (.tuple #[.pointer none, .int .i64 (soundG bs bs.length 0).2])) ∨
    ((soundG bs bs.length 0).2 = 0 ∧ emptyJ bs ∧ x = .returned (.tuple #[.pointer none, .int .i64 1])) ∨
    ((soundG bs bs.length 0).2 = 0 ∧ ¬ emptyJ bs ∧ ∃ (g mb : Nat) (LA : Option Addr) (lc : Nat), x = .returned (.tuple #[.pointer (some ⟨g, 0, none⟩), .int .i64 0]) ∧ w.heap.size ≤ g ∧ w.heap.size ≤ mb ∧ WalkAt w' g mb LA n lc bs ws0))

set_option maxRecDepth 100000 in
set_option maxHeartbeats 8000000 in
theorem new_any (w : World) (A : Option Addr) (n c : Nat) (bs : List WB) (hB : BlksR w (· < w.heap.size) A n bs) (hL : Lite bs) :
    Calls Try.prog 9 #[.slice A n c] w fun x w' => NewO w w' x n bs := by
  obtain ⟨i1, hj, hy0, hy1, hy2⟩ := info_parts blkInfo4
  have hl := hB.len
  have hn : n ≤ 60 := by have := hL.1; omega
  have hs := sound_any w A n c bs hB hL
  have HB := Lib.hid (And.intro hB (And.intro hl hL))
  clear hB hl hL
  obtain ⟨q, hq⟩ : ∃ q, q = (soundG bs bs.length 0).1 := ⟨_, rfl⟩
  obtain ⟨e, he⟩ : ∃ e, e = (soundG bs bs.length 0).2 := ⟨_, rfl⟩
  rw [← hq, ← he] at hs
  have HE := Lib.hid he
  clear he hq
  go_enter Try.func9, Try.ntmps9
  go_wp2_with fail
  refine hs.mono ?_
  rintro x w1 ⟨rfl, hb1⟩
  clear hs
  have H1 := Lib.hid hb1
  have hs1 := hb1.size
  clear hb1
  by_cases hne : e = 0
  · subst hne
    go_wp2_with fail
    go_loopw [18] (fun x wr => ∃ k : Nat, k ≤ n ∧ x = .int .i64 k ∧ (∀ i, i < k → ¬ ((bs.getD i default).id = 35 ∧ (bs.getD i default).ts = [])) ∧ Below w1.heap.size w1 wr) (fun x _ => n - (intOf x).toNat)
    case atStart => exact ⟨0, by omega, rfl, fun i hi => absurd hi (by omega), Below.refl _ _⟩
    case round =>
      obtain ⟨k, hkn, rfl, hno, hbl⟩ := hrel
      have hk0 : (0 : Int) ≤ (k : Int) := Int.natCast_nonneg _
      have hsz := hbl.size
      have hbw : Below w.heap.size w wr := H1.out.trans (hbl.mono hs1)
      by_cases hlt : k < n
      · have hkI : (k : Int) < (n : Int) := by omega
        have hwk : IntKind.i64.wrap ((k : Int) + 1) = (k : Int) + 1 := by rw [IntKind.wrap_i64]; omega
        have hBr := HB.out.1.keep (w' := wr) (ψ := (· < w.heap.size)) (fun b hb => hbw.block b hb) (fun b hb => hb)
        obtain ⟨ad, rfl, hab, cs, hWB, hc18⟩ := hBr.at_ (i := k) hlt
        obtain ⟨d, hd⟩ : ∃ d, d = bs.getD k default := ⟨_, rfl⟩
        rw [← hd] at hWB
        obtain ⟨v2, v3, v4, v5, v6, v7, v9, v10, v11, v12, TA, tn, tc, IA, ic, v15, v16, v17, rfl, h1c, hTs, hIs⟩ := hWB
        have X0 := Lib.hid (show ∀ jj vv, ([.int .i64 d.id, .int .i64 d.pz, v2, v3, v4, v5, v6, v7, .int .i64 d.ct, v9, v10, v11, v12, .slice TA tn tc, .slice IA d.ns.length ic, v15, v16, v17] : List Value)[jj]? = some vv → wr.cell? ((ad.add (k * 18)).add jj) = some vv from hc18)
        have X1 := Lib.hid (show (#[.int .i64 d.id, .int .i64 d.pz, v2, v3, v4, v5, v6, v7, .int .i64 d.ct, v9, v10, v11, v12, .slice TA tn tc, .slice IA d.ns.length ic, v15, v16, v17] : Array Value).all (·.oneCell') = true from all_one h1c)
        have HD := Lib.hid (And.intro hd (And.intro hTs hIs))
        clear hc18 h1c hd hTs hIs
        have HS := Lib.hid (And.intro hno (And.intro hbl hbw))
        have htl : d.ts.length = tn := reads_len (HD.out.2.1.reads (B := w.heap.size) (fun b h => h))
        have HTL := Lib.hid htl
        clear hBr hbl hbw hno htl
        go_wp2_with (first
          | (refine wpList_load_at rfl 45 _ rfl (ad.add (k * 18)) rfl [.int .i64 d.id, .int .i64 d.pz, v2, v3, v4, v5, v6, v7, .int .i64 d.ct, v9, v10, v11, v12, .slice TA tn tc, .slice IA d.ns.length ic, v15, v16, v17] X0.out _ Try.underlying45 rfl blkInfo ?_)
          | (refine wpList_store_box rfl 45 _ _ rfl (wr.heap.size) #[.int .i64 d.id, .int .i64 d.pz, v2, v3, v4, v5, v6, v7, .int .i64 d.ct, v9, v10, v11, v12, .slice TA tn tc, .slice IA d.ns.length ic, v15, v16, v17] rfl rfl 45 #[.int .i64 0, .int .i64 0, .int .i64 0, .int .i64 0, .int .i64 0, .int .i64 0, .int .i64 0, .int .i64 0, .int .i64 0, .int .i64 0, .int .i64 0, .int .i64 0, .slice none 0 0, .slice none 0 0, .slice none 0 0, .slice none 0 0, .slice none 0 0, .slice none 0 0] (Blk.new wr _ _) blkInfo rfl X1.out ?_)
          | fail)
        intro w3 hB3 hg3
        have hb3 : Below w1.heap.size w1 w3 := (HS.out.2.1.alloc hsz _).grown hg3 (by simp; omega) (fun b hb => by injection hb with hb; omega)
        have p0 : w3.cell? ⟨wr.heap.size, 0, none⟩ = some (.int .i64 d.id) := (hB3.cell 0).trans rfl
        have p13 : w3.cell? ⟨wr.heap.size, 13, none⟩ = some (.slice TA tn tc) := (hB3.cell 13).trans rfl
        have H3 := Lib.hid hb3
        clear hg3 hb3 hB3
        by_cases h35 : d.id = 35
        · rw [h35] at p0
          have HI := Lib.hid h35
          clear h35
          by_cases ht0 : tn = 0
          · rw [ht0] at p13
            have HT0 := Lib.hid ht0
            clear ht0
            have HX := Lib.hid (show emptyJ bs from ⟨k, by rw [HB.out.2.1]; exact hlt, by rw [← HD.out.1]; exact HI.out, by rw [← HD.out.1]; exact List.length_eq_zero_iff.1 (HTL.out.trans HT0.out)⟩)
            go_wp2
            go_ret2
            exact ⟨H1.out.trans (H3.out.mono hs1), .inr (.inl ⟨HE.out.symm, HX.out, rfl⟩)⟩
          · have htf : ((tn : Int) == 0) = false := by simpa using ht0
            have HX := Lib.hid (show ¬ ((bs.getD k default).id = 35 ∧ (bs.getD k default).ts = []) by rintro ⟨_, h9⟩; rw [← HD.out.1] at h9; rw [h9] at HTL; exact ht0 HTL.out.symm)
            clear ht0
            go_wp2
            go_roundw
            case rel => exact ⟨k + 1, by omega, by go_num, fun i hi => (by rcases Nat.lt_succ_iff_lt_or_eq.1 hi with h | rfl; exact HS.out.1 i h; exact HX.out), H3.out⟩
            case measure => simp [intOf]; omega
        · have hif : (d.id == 35) = false := by simpa using h35
          have HX := Lib.hid (show ¬ ((bs.getD k default).id = 35 ∧ (bs.getD k default).ts = []) by rintro ⟨h9, _⟩; rw [← HD.out.1] at h9; exact h35 h9)
          clear h35
          go_wp2
          go_roundw
          case rel => exact ⟨k + 1, by omega, by go_num, fun i hi => (by rcases Nat.lt_succ_iff_lt_or_eq.1 hi with h | rfl; exact HS.out.1 i h; exact HX.out), H3.out⟩
          case measure => simp [intOf]; omega
      · obtain rfl : k = n := by omega
        have hkI : ¬ (k : Int) < (k : Int) := by omega
        have hBr := HB.out.1.keep (w' := wr) (ψ := (· < w.heap.size)) (fun b hb => hbw.block b hb) (fun b hb => hb)
        obtain ⟨xs, hR, hW⟩ := hBr
        have HX := Lib.hid (And.intro hbw (And.intro hno (And.intro hR hW)))
        have hwsz := hbw.size
        clear hno hbl hbw hR hW
        have hown0 : (wr.alloc (.cells #[] 45)).ownsRow wr.heap.size 45 18 (.slice (some ⟨wr.heap.size, 0, none⟩) 0 0) 0 [] := World.ownsRow_made wr #[] 0 (Nat.le_refl _) (by unfold maxLen; omega) rfl
        have HC := Lib.hid (show Reads (wr.alloc (.cells #[] 45)) w.heap.size 18 A k xs ∧ 0 + k ≤ maxLen ∧ (0 + k) * 240 ≤ 140737488355328 from ⟨(HX.out.2.2.1.keep (w' := wr.alloc (.cells #[] 45)) (ψ := (· < w.heap.size)) (fun b hb => Below.heap_alloc _ _ _ (Nat.lt_of_lt_of_le hb hwsz)) (fun b hb => hb)).reads (fun b hb => hb), by unfold maxLen; omega, by omega⟩)
        go_upto_region 10 with fail
        go_wp2_with (first
          | (at_builtin; refine wpList_append_any _ rfl _ _ 22 rfl wr.heap.size 45 i1 (.agg #[.int .i64 0, .int .i64 0, .int .i64 0, .int .i64 0, .int .i64 0, .int .i64 0, .int .i64 0, .int .i64 0, .int .i64 0, .int .i64 0, .int .i64 0, .int .i64 0, .slice none 0 0, .slice none 0 0, .slice none 0 0, .slice none 0 0, .slice none 0 0, .slice none 0 0]) 18 240 Try.underlying22 hj hy0 hy1 hy2 rfl (by decide) (.slice (some ⟨wr.heap.size, 0, none⟩) 0 0) 0 [] rfl hown0 w.heap.size A k c xs rfl HC.out.1 (WBsAt.one HX.out.2.2.2) HC.out.2.1 HC.out.2.2 (by simp) ?_)
          | go_in)
        intro v' w5 hown hg hv
        obtain ⟨A', c', rfl⟩ := own_slice hown
        have HO := Lib.hid (And.intro hown (And.intro hg hv))
        clear hown hg hv hown0
        have hmm := @run_makeMap Try.prog
        go_wp2
        go_ret2
        have hrd : RdP w5 (fun b => wr.heap.size ≤ b ∧ b < w5.heap.size) 18 A' k xs := RdP.of_own (by simpa using HO.out.1)
        have hs5 := HO.out.2.1.size
        simp at hs5
        have hq1 : ∀ b, b < w5.heap.size → ((w5.alloc (Obj.map #[] 0)).alloc (.cells (wkC A' k c' w5.heap.size ws0) 58)).heap[b]? = w5.heap[b]? := fun b hb => (Below.heap_alloc _ _ _ (by simp; omega)).trans (Below.heap_alloc _ _ _ hb)
        have hq2 : ∀ b, b < w.heap.size → w5.heap[b]? = wr.heap[b]? := fun b hb => (HO.out.2.1.block b (by simp; omega) (fun e => by simp only [Value.ownBlock] at e; injection e with e; omega)).trans (Below.heap_alloc _ _ _ (by omega))
        have hb7 : Below w.heap.size w ((w5.alloc (Obj.map #[] 0)).alloc (.cells (wkC A' k c' w5.heap.size ws0) 58)) := (((HX.out.1.alloc hwsz (.cells #[] 45)).grown HO.out.2.1 (by simp; omega) (fun b e => by simp only [Value.ownBlock] at e; injection e with e; omega)).alloc (by omega) _).alloc (by simp; omega) _
        have hg7 : Blk ((w5.alloc (Obj.map #[] 0)).alloc (.cells (wkC A' k c' w5.heap.size ws0) 58)) (w5.heap.size + 1) 58 (wkC A' k c' w5.heap.size ws0) := by
          have := Blk.new (w5.alloc (Obj.map #[] 0)) 58 (wkC A' k c' w5.heap.size ws0)
          simpa using this
        refine ⟨hb7, .inr (.inr ⟨HE.out.symm, ?_, w5.heap.size + 1, w5.heap.size, A', c', rfl, by omega, by omega, hg7, (TkAt.new w5).kept (Below.heap_alloc _ _ _ (by simp)), xs, ?_, ?_⟩)⟩
        · rintro ⟨i, hi, h9⟩
          exact HX.out.2.1 i (by have := HB.out.2.1; omega) h9
        · exact hrd.keep (fun b hb => hq1 b hb.2) (fun b hb => ⟨by omega, by omega, by have := hb.2; simp; omega⟩)
        · exact WBsAt.keep (fun b hb => (hq1 b (by have : b < w.heap.size := hb; omega)).trans (hq2 b hb)) (fun b hb => ⟨by have : b < w.heap.size := hb; omega, by have : b < w.heap.size := hb; omega, by have : b < w.heap.size := hb; simp; omega⟩) HX.out.2.2.2
  · have hef : (e == 0) = false := by simpa using hne
    have HNE := Lib.hid hne
    clear hne
    go_wp2
    go_ret2
    exact ⟨H1.out, .inl ⟨HE.out ▸ HNE.out, by rw [HE.out] <;> rfl⟩⟩
end Go.Proofs.Ytnmapncgnceldaa
