/- Layer 11: the walk of BoardNews. -/
import Derived.Test.YtfcnlgkaejkneaaBd9
namespace Go.Proofs.Ytfcnlgkaejkneaa
open Go.RowKit

theorem fill_zero (v : Int) (n : Nat) : fillC 0 0 n = fillC v 0 n := by unfold fillC; exact cellsF_congr fun k _ => by simp
theorem fill_at {w : World} {g i n j : Nat} {v : Int} (h : Blk w g 5 (fillC v i n)) (hj : j < n) : w.cell? ⟨g, j, none⟩ = some (.int .u8 (if j < i then v else 0)) := by rw [h.cell j, fillC, cellsF_at _ hj]
theorem lay_at {size more : Nat} {v v1 : Int} (hs : size = 16384) (i : Nat) : layM (layM (fun _ => 0) 0 (List.replicate size v)) 16384 (List.replicate more v1) i = if i < 16384 then v else if i < 16384 + more then v1 else 0 := by
  subst hs
  unfold layM
  by_cases h1 : i < 16384
  · rw [if_neg (by omega), if_pos (by rw [List.length_replicate]; omega), if_pos h1, List.getD_eq_getElem?_getD, List.getElem?_replicate, if_pos (by omega)]
    rfl
  · rw [if_neg h1]
    by_cases h2 : i < 16384 + more
    · rw [if_pos (by rw [List.length_replicate]; omega), if_pos h2, List.getD_eq_getElem?_getD, List.getElem?_replicate, if_pos (by omega)]
      rfl
    · rw [if_neg (by rw [List.length_replicate]; omega), if_neg (by rw [List.length_replicate]; omega), if_neg h2]
theorem BdIs.below {w w' : World} {g : Nat} {b : Bd} {A E : Value} (h : BdIs w g b A E) (hb : Below w.heap.size w w') : BdIs w' g b A E := Blk.below h hb (Blk.lt h)

set_option maxRecDepth 100000 in
set_option maxHeartbeats 8000000 in
theorem boardNews_walk (n m v : Int) (w : World) : Calls Try.prog 3 #[.int .i64 n, .int .i64 m, .int .u8 v] w fun x w' => x = .returned (.bool true) ∧ Below w.heap.size w w' := by
  obtain ⟨v1, hv1⟩ : ∃ v1, IntKind.u8.wrap (v + 1) = v1 := ⟨_, rfl⟩
  go_enter Try.func3, Try.ntmps3
  go_upto_region 1 with fail
  go_cut [7, 8] from 17 to 22 (fun a b wx => ∃ (p q : Nat), a = .int .i64 (p : Int) ∧ b = .int .i64 (q : Int) ∧ p ≤ 17000 ∧ q ≤ 50000 ∧ w = wx)
  case first =>
    obtain ⟨p, hp⟩ : ∃ p : Nat, (p : Int) = max 0 (min n 17000) := ⟨(max 0 (min n 17000)).toNat, by omega⟩
    obtain ⟨q, hq⟩ : ∃ q : Nat, (q : Int) = max 0 (min m 50000) := ⟨(max 0 (min m 50000)).toNat, by omega⟩
    by_cases c1 : 17000 < n <;> by_cases c2 : 0 < n <;> by_cases c3 : 50000 < m <;> by_cases c4 : 0 < m
    all_goals first | (exfalso; omega) | skip
    all_goals have HK := Lib.hid (And.intro hp hq)
    all_goals clear hp hq
    all_goals go_wp2_with fail
    all_goals go_meet
    all_goals exact ⟨p, q, congrArg (Value.int .i64) (by have := HK.out.1; omega), congrArg (Value.int .i64) (by have := HK.out.2; omega), by have := HK.out.1; omega, by have := HK.out.2; omega, rfl⟩
  case rest =>
    obtain ⟨p, q, rfl, rfl, hp, hq, rfl⟩ := hcut
    have hp0 : (0 : Int) ≤ (p : Int) := Int.natCast_nonneg _
    have hq0 : (0 : Int) ≤ (q : Int) := Int.natCast_nonneg _
    go_upto_region 2 with fail
    go_cut [9, 10] from 23 to 26 (fun a b wx => ∃ ga gc : Nat, a = .slice (some ⟨ga, 0, none⟩) p p ∧ b = .slice (some ⟨gc, 0, none⟩) q q ∧ Blk wx ga 5 (fillC 0 0 p) ∧ Blk wx gc 5 (fillC 0 0 q) ∧ ga ≠ gc ∧ w.heap.size ≤ ga ∧ w.heap.size ≤ gc ∧ Below w.heap.size w wx)
    case first =>
      refine wp_region_held_drew (S := fun w' => True) (by kernel_rfl) ?_ (fun hHeld => ?_)
      · trivial
      have HB := Lib.hid (show Below w.heap.size w w.drew from (Below.refl _ _).drew)
      have hzw : w.drew.heap.size = w.heap.size := rfl
      have HZW := Lib.hid hzw
      clear hzw
      generalize w.drew = W at *
      refine wpAnyH_take (i := 0) (oi := _) (v := ?_) (by simp only [List.getElem?_toArray, List.getElem?_cons_succ, List.getElem?_cons_zero]; rfl) (by kernel_rfl) (by kernel_rfl) (by kernel_rfl) (by intro _ _ _ h; exact h) (Or.inl ⟨by rfl, ?_⟩) (by assumption) ?_
      rotate_left
      · intro w hSw
        try dsimp only at hSw
        go_simp
        try with_reducible rfl
      try simp only [Act.put, List.setIfInBounds_toArray, List.set_cons_zero, List.set_cons_succ]
      refine wpAnyH_take (i := 2) (oi := _) (v := ?_) (by simp only [List.getElem?_toArray, List.getElem?_cons_succ, List.getElem?_cons_zero]; rfl) (by kernel_rfl) (by kernel_rfl) (by kernel_rfl) (by intro _ _ _ h; exact h) (Or.inl ⟨by rfl, ?_⟩) (by assumption) ?_
      rotate_left
      · intro w hSw
        try dsimp only at hSw
        go_simp
        try with_reducible rfl
      try simp only [Act.put, List.setIfInBounds_toArray, List.set_cons_zero, List.set_cons_succ]
      refine wpAnyH_ready (rs := [1, 3]) (by kernel_rfl) (by simp) ?_
      refine AllReadyH.cons (o := _) (by simp only [List.getElem?_toArray, List.getElem?_cons_succ, List.getElem?_cons_zero]; rfl) (fun K hK => ?_) (AllReadyH.cons (o := _) (by simp only [List.getElem?_toArray, List.getElem?_cons_succ, List.getElem?_cons_zero]; rfl) (fun K hK => ?_) AllReadyH.nil)
      · have hm := make_row W p (by omega)
        go_simp
        refine hK.out _ _ ?_ (fun hHeld => ?_)
        · trivial
        clear hK K
        try simp only [Act.put, List.setIfInBounds_toArray, List.set_cons_zero, List.set_cons_succ]
        clear hm
        refine wpAnyH_take (i := 4) (oi := _) (v := ?_) (by simp only [List.getElem?_toArray, List.getElem?_cons_succ, List.getElem?_cons_zero]; rfl) (by kernel_rfl) (by kernel_rfl) (by kernel_rfl) (by intro _ _ _ h; exact h) (Or.inl ⟨by rfl, ?_⟩) (by assumption) ?_
        rotate_left
        · intro w hSw
          try dsimp only at hSw
          go_simp
          try with_reducible rfl
        try simp only [Act.put, List.setIfInBounds_toArray, List.set_cons_zero, List.set_cons_succ]
        refine wpAnyH_ready (rs := [3]) (by kernel_rfl) (by simp) ?_
        refine AllReadyH.cons (o := _) (by simp only [List.getElem?_toArray, List.getElem?_cons_succ, List.getElem?_cons_zero]; rfl) (fun K hK => ?_) AllReadyH.nil
        have hm := make_row (W.alloc (.cells (fillC 0 0 p) 5)) q (by omega)
        go_simp
        refine hK.out _ _ ?_ (fun hHeld => ?_)
        · trivial
        clear hK K
        try simp only [Act.put, List.setIfInBounds_toArray, List.set_cons_zero, List.set_cons_succ]
        clear hm
        refine wpAnyH_take (i := 5) (oi := _) (v := ?_) (by simp only [List.getElem?_toArray, List.getElem?_cons_succ, List.getElem?_cons_zero]; rfl) (by kernel_rfl) (by kernel_rfl) (by kernel_rfl) (by intro _ _ _ h; exact h) (Or.inl ⟨by rfl, ?_⟩) (by assumption) ?_
        rotate_left
        · intro w hSw
          try dsimp only at hSw
          go_simp
          try with_reducible rfl
        try simp only [Act.put, List.setIfInBounds_toArray, List.set_cons_zero, List.set_cons_succ]
        refine wpAnyH_done (by kernel_rfl) ?_ _
        have HX := Lib.hid (show Blk ((W.alloc (.cells (fillC 0 0 p) 5)).alloc (.cells (fillC 0 0 q) 5)) W.heap.size 5 (fillC 0 0 p) ∧ Blk ((W.alloc (.cells (fillC 0 0 p) 5)).alloc (.cells (fillC 0 0 q) 5)) (W.heap.size + 1) 5 (fillC 0 0 q) ∧ Below w.heap.size w ((W.alloc (.cells (fillC 0 0 p) 5)).alloc (.cells (fillC 0 0 q) 5)) from ⟨(Blk.new W _ _).alloc _, by have := Blk.new (W.alloc (.cells (fillC 0 0 p) 5)) 5 (fillC 0 0 q); simpa using this, (HB.out.alloc (by have := HZW.out; omega) _).alloc (by have := HZW.out; simp; omega) _⟩)
        go_wp2_with fail
        go_meet
        exact ⟨W.heap.size, (W.heap.size + 1), rfl, rfl, HX.out.1, HX.out.2.1, by omega, by have := HZW.out; omega, by have := HZW.out; omega, HX.out.2.2⟩
      · have hm := make_row W q (by omega)
        go_simp
        refine hK.out _ _ ?_ (fun hHeld => ?_)
        · trivial
        clear hK K
        try simp only [Act.put, List.setIfInBounds_toArray, List.set_cons_zero, List.set_cons_succ]
        clear hm
        refine wpAnyH_ready (rs := [1]) (by kernel_rfl) (by simp) ?_
        refine AllReadyH.cons (o := _) (by simp only [List.getElem?_toArray, List.getElem?_cons_succ, List.getElem?_cons_zero]; rfl) (fun K hK => ?_) AllReadyH.nil
        have hm := make_row (W.alloc (.cells (fillC 0 0 q) 5)) p (by omega)
        go_simp
        refine hK.out _ _ ?_ (fun hHeld => ?_)
        · trivial
        clear hK K
        try simp only [Act.put, List.setIfInBounds_toArray, List.set_cons_zero, List.set_cons_succ]
        clear hm
        refine wpAnyH_take (i := 4) (oi := _) (v := ?_) (by simp only [List.getElem?_toArray, List.getElem?_cons_succ, List.getElem?_cons_zero]; rfl) (by kernel_rfl) (by kernel_rfl) (by kernel_rfl) (by intro _ _ _ h; exact h) (Or.inl ⟨by rfl, ?_⟩) (by assumption) ?_
        rotate_left
        · intro w hSw
          try dsimp only at hSw
          go_simp
          try with_reducible rfl
        try simp only [Act.put, List.setIfInBounds_toArray, List.set_cons_zero, List.set_cons_succ]
        refine wpAnyH_take (i := 5) (oi := _) (v := ?_) (by simp only [List.getElem?_toArray, List.getElem?_cons_succ, List.getElem?_cons_zero]; rfl) (by kernel_rfl) (by kernel_rfl) (by kernel_rfl) (by intro _ _ _ h; exact h) (Or.inl ⟨by rfl, ?_⟩) (by assumption) ?_
        rotate_left
        · intro w hSw
          try dsimp only at hSw
          go_simp
          try with_reducible rfl
        try simp only [Act.put, List.setIfInBounds_toArray, List.set_cons_zero, List.set_cons_succ]
        refine wpAnyH_done (by kernel_rfl) ?_ _
        have HX := Lib.hid (show Blk ((W.alloc (.cells (fillC 0 0 q) 5)).alloc (.cells (fillC 0 0 p) 5)) (W.heap.size + 1) 5 (fillC 0 0 p) ∧ Blk ((W.alloc (.cells (fillC 0 0 q) 5)).alloc (.cells (fillC 0 0 p) 5)) W.heap.size 5 (fillC 0 0 q) ∧ Below w.heap.size w ((W.alloc (.cells (fillC 0 0 q) 5)).alloc (.cells (fillC 0 0 p) 5)) from ⟨by have := Blk.new (W.alloc (.cells (fillC 0 0 q) 5)) 5 (fillC 0 0 p); simpa using this, (Blk.new W _ _).alloc _, (HB.out.alloc (by have := HZW.out; omega) _).alloc (by have := HZW.out; simp; omega) _⟩)
        go_wp2_with fail
        go_meet
        exact ⟨(W.heap.size + 1), W.heap.size, rfl, rfl, HX.out.1, HX.out.2.1, by omega, by have := HZW.out; omega, by have := HZW.out; omega, HX.out.2.2⟩
    case rest =>
      obtain ⟨ga, gc, rfl, rfl, hA, hC, hne, hga, hgc, hb⟩ := hcut
      skip
      have HN := Lib.hid (And.intro hne.symm (And.intro hne (And.intro hga hgc)))
      have HS := Lib.hid (show Blk _ ga 5 (fillC v 0 p) ∧ Blk _ gc 5 (fillC 0 0 q) ∧ Below w.heap.size w _ from ⟨by rw [← fill_zero]; exact hA, hC, hb⟩)
      clear hA hC hb hne hga hgc
      go_upto_region 4 with fail
      go_loopw [11] (fun x wr => ∃ i : Nat, x = .int .i64 (i : Int) ∧ i ≤ p ∧ Blk wr ga 5 (fillC v i p) ∧ Blk wr gc 5 (fillC 0 0 q) ∧ Below w.heap.size w wr) (fun x _ => p - (intOf x).toNat)
      case atStart => exact ⟨0, rfl, by omega, HS.out.1, HS.out.2.1, HS.out.2.2⟩
      case round =>
        obtain ⟨i, rfl, hi, hA, hK, hbl⟩ := hrel
        have hi0 : (0 : Int) ≤ (i : Int) := Int.natCast_nonneg _
        by_cases hlt : i < p
        · have hiI : (i : Int) < (p : Int) := by omega
          have hwi : IntKind.i64.wrap ((i : Int) + 1) = (i : Int) + 1 := by rw [IntKind.wrap_i64]; omega
          have c : wr.cell? ⟨ga, i, none⟩ = some (.int .u8 0) := by have := fill_at hA hlt; rw [if_neg (by omega)] at this; exact this
          have f := hA.frozen i
          have HX := Lib.hid (show Blk (wr.setCell ⟨ga, i, none⟩ (.int .u8 v)) ga 5 (fillC v (i + 1) p) ∧ Blk (wr.setCell ⟨ga, i, none⟩ (.int .u8 v)) gc 5 (fillC 0 0 q) ∧ Below w.heap.size w (wr.setCell ⟨ga, i, none⟩ (.int .u8 v)) from ⟨by rw [← fill_set]; exact hA.set_ i _, hK.far (by show gc ≠ ga; exact HN.out.1) _, hbl.setCell (by show w.heap.size ≤ ga; exact HN.out.2.2.1) _⟩)
          clear hA hK hbl
          go_wp2
          go_roundw
          case rel => exact ⟨i + 1, by go_num, by omega, HX.out.1, HX.out.2.1, HX.out.2.2⟩
          case measure => simp [intOf]; omega
        · obtain rfl : i = p := by omega
          have hiI : ¬ (i : Int) < (i : Int) := by omega
          have HS := Lib.hid (show Blk wr gc 5 (fillC v1 0 q) ∧ Blk wr ga 5 (fillC v i i) ∧ Below w.heap.size w wr from ⟨by rw [← fill_zero]; exact hK, hA, hbl⟩)
          clear hA hK hbl
          obtain ⟨size, hsize⟩ : ∃ size : Nat, size = i := ⟨_, rfl⟩
          subst hsize
          go_upto_region 8 with fail
          go_loopw [12] (fun x wr => ∃ i : Nat, x = .int .i64 (i : Int) ∧ i ≤ q ∧ Blk wr gc 5 (fillC v1 i q) ∧ Blk wr ga 5 (fillC v size size) ∧ Below w.heap.size w wr) (fun x _ => q - (intOf x).toNat)
          case atStart => exact ⟨0, rfl, by omega, HS.out.1, HS.out.2.1, HS.out.2.2⟩
          case round =>
            obtain ⟨i, rfl, hi, hA, hK, hbl⟩ := hrel
            have hi0 : (0 : Int) ≤ (i : Int) := Int.natCast_nonneg _
            by_cases hlt : i < q
            · have hiI : (i : Int) < (q : Int) := by omega
              have hwi : IntKind.i64.wrap ((i : Int) + 1) = (i : Int) + 1 := by rw [IntKind.wrap_i64]; omega
              have c : wr.cell? ⟨gc, i, none⟩ = some (.int .u8 0) := by have := fill_at hA hlt; rw [if_neg (by omega)] at this; exact this
              have f := hA.frozen i
              have HX := Lib.hid (show Blk (wr.setCell ⟨gc, i, none⟩ (.int .u8 v1)) gc 5 (fillC v1 (i + 1) q) ∧ Blk (wr.setCell ⟨gc, i, none⟩ (.int .u8 v1)) ga 5 (fillC v size size) ∧ Below w.heap.size w (wr.setCell ⟨gc, i, none⟩ (.int .u8 v1)) from ⟨by rw [← fill_set]; exact hA.set_ i _, hK.far (by show ga ≠ gc; exact HN.out.2.1) _, hbl.setCell (by show w.heap.size ≤ gc; exact HN.out.2.2.2) _⟩)
              clear hA hK hbl
              go_wp2
              go_roundw
              case rel => exact ⟨i + 1, by go_num, by omega, HX.out.1, HX.out.2.1, HX.out.2.2⟩
              case measure => simp [intOf]; omega
            · obtain rfl : i = q := by omega
              have hiI : ¬ (i : Int) < (i : Int) := by omega
              obtain ⟨more, hmore⟩ : ∃ more : Nat, more = i := ⟨_, rfl⟩
              subst hmore
              have HF := Lib.hid (show Reads wr wr.heap.size 1 (some ⟨ga, 0, none⟩) size ((List.replicate size v).map (Value.int .u8)) ∧ Reads wr wr.heap.size 1 (some ⟨gc, 0, none⟩) more ((List.replicate more v1).map (Value.int .u8)) ∧ Below w.heap.size w wr from ⟨fill_reads hK, fill_reads hA, hbl⟩)
              clear hA hK hbl
              have hws := HF.out.2.2.size
              by_cases hsz : size = 16384
              · subst hsz
                by_cases hm9 : 49152 < more
                · have hmI : (49152 : Int) < (more : Int) := by omega
                  have hnw := bNew_long wr (some ⟨ga, 0, none⟩) (some ⟨gc, 0, none⟩) 16384 more more 0 hm9
                  rw [show ((16384 : Nat) : Int) = 16384 from rfl]
                  go_wp2_with fail
                  refine hnw.mono ?_
                  rintro x w' ⟨rfl, rfl⟩
                  clear hnw
                  have hlv := lives_any wr
                  go_wp2_with fail
                  refine hlv.mono ?_
                  rintro x w9 ⟨rfl, hb9⟩
                  have H9 := Lib.hid (bthen HF.out.2.2 hb9)
                  clear hlv hb9
                  go_wp2
                  go_ret
                  exact ⟨rfl, H9.out⟩
                · have hmI : ¬ (49152 : Int) < (more : Int) := by omega
                  have hnw := bNew_any wr (some ⟨ga, 0, none⟩) (some ⟨gc, 0, none⟩) 16384 more more 0 (by decide) (by decide) (List.replicate 16384 v) (List.replicate more v1) HF.out.1 HF.out.2.1 (by omega)
                  rw [show ((16384 : Nat) : Int) = 16384 from rfl]
                  go_wp2_with fail
                  refine hnw.mono ?_
                  rintro x w3 ⟨g, rfl, hg, hB, hb3⟩
                  clear hnw
                  have hs3 := hb3.size
                  have HB := Lib.hid (And.intro hB (HF.out.2.2.trans (hb3.mono hws)))
                  clear hB hb3
                  have HLY := Lib.hid (show ∀ i, (newB (frameS 0) (List.replicate 16384 v) (List.replicate more v1)).M i = if i < 16384 then v else if i < 16384 + more then v1 else 0 from fun i => lay_at (size := 16384) rfl i)
                  go_upto_region 19 with fail
                  go_loop [15] (fun x => ∃ i : Nat, x = .int .i64 (i : Int) ∧ i ≤ 65542) (fun x => 65550 - (intOf x).toNat)
                  case atStart => exact ⟨0, rfl, by omega⟩
                  case round =>
                    obtain ⟨i, rfl, hi⟩ := hrel
                    have hi0 : (0 : Int) ≤ (i : Int) := Int.natCast_nonneg _
                    by_cases hlt : i < 65536
                    · have hiI : (i : Int) < 65536 := by omega
                      have hwi : IntKind.i64.wrap ((i : Int) + 7) = (i : Int) + 7 := by rw [IntKind.wrap_i64]; omega
                      have hwm : IntKind.i64.wrap (16384 + (more : Int)) = 16384 + (more : Int) := by rw [IntKind.wrap_i64]; omega
                      have c := HB.out.1.at_ (i := i) (by omega) (bd_M hlt)
                      rw [HLY.out i] at c
                      by_cases h1 : i < 16384
                      · have h1I : (i : Int) < 16384 := by omega
                        rw [if_pos h1] at c
                        clear h1
                        go_wp2
                        go_round
                        case rel => exact ⟨i + 7, by go_num, by omega⟩
                        case measure => simp [intOf]; omega
                      · have h1I : ¬ (i : Int) < 16384 := by omega
                        rw [if_neg h1] at c
                        by_cases h2 : i < 16384 + more
                        · have h2I : (i : Int) < 16384 + (more : Int) := by omega
                          rw [if_pos h2] at c
                          clear h1 h2
                          go_wp2
                          go_round
                          case rel => exact ⟨i + 7, by go_num, by omega⟩
                          case measure => simp [intOf]; omega
                        · have h2I : ¬ (i : Int) < 16384 + (more : Int) := by omega
                          rw [if_neg h2] at c
                          clear h1 h2
                          go_wp2
                          go_round
                          case rel => exact ⟨i + 7, by go_num, by omega⟩
                          case measure => simp [intOf]; omega
                    · have hiI : ¬ (i : Int) < 65536 := by omega
                      have hT := bT_any w3 g _ _ _ HB.out.1
                      rw [show (newB (frameS 0) (List.replicate 16384 v) (List.replicate more v1)).t = 0 from rfl] at hT
                      have hat : BdAt w3 w3.heap.size g (newB (frameS 0) (List.replicate 16384 v) (List.replicate more v1)) [] [] (.slice none 0 0) (.slice none 0 0) := ⟨HB.out.1, World.ownsRow_nil _ _ _ _, World.ownsRow_nil _ _ _ _⟩
                      have hac := bActs_any w3 _ g _ _ _ _ _ hat (by decide)
                      clear hat
                      go_wp2_with fail
                      refine hT.mono ?_
                      rintro x w' ⟨rfl, rfl⟩
                      clear hT
                      go_wp2_with fail
                      refine hac.mono ?_
                      rintro x w4 ⟨V, cV, rfl, _, hb4⟩
                      clear hac
                      have hs4 := hb4.size
                      have HB4 := Lib.hid (show BdIs w4 g (newB (frameS 0) (List.replicate 16384 v) (List.replicate more v1)) (.slice none 0 0) (.slice none 0 0) ∧ Below w.heap.size w w4 from ⟨HB.out.1.below hb4, HB.out.2.trans (hb4.mono HB.out.2.size)⟩)
                      clear hb4
                      have hat : BdAt w4 w4.heap.size g (newB (frameS 0) (List.replicate 16384 v) (List.replicate more v1)) [] [] (.slice none 0 0) (.slice none 0 0) := ⟨HB4.out.1, World.ownsRow_nil _ _ _ _, World.ownsRow_nil _ _ _ _⟩
                      have hed := bEdges_any w4 _ g _ _ _ _ _ hat (by decide)
                      clear hat
                      go_wp2_with fail
                      refine hed.mono ?_
                      rintro x w5 ⟨V2, cV2, rfl, _, hb5⟩
                      clear hed
                      have HB5 := Lib.hid (show BdIs w5 g (newB (frameS 0) (List.replicate 16384 v) (List.replicate more v1)) (.slice none 0 0) (.slice none 0 0) ∧ Below w.heap.size w w5 from ⟨HB4.out.1.below hb5, HB4.out.2.trans (hb5.mono HB4.out.2.size)⟩)
                      clear hb5
                      have hmi := bMic_any w5 g _ _ _ HB5.out.1
                      rw [show (newB (frameS 0) (List.replicate 16384 v) (List.replicate more v1)).mic = false from rfl] at hmi
                      have hsp := bSpk_any w5 g _ _ _ HB5.out.1
                      rw [show (newB (frameS 0) (List.replicate 16384 v) (List.replicate more v1)).spk = false from rfl] at hsp
                      have hbo := bBorder_any w5 g _ _ _ HB5.out.1
                      rw [show (newB (frameS 0) (List.replicate 16384 v) (List.replicate more v1)).bo = 0 from rfl] at hbo
                      have q1 : w5.cell? ⟨g, 65544, none⟩ = some (.bool false) := HB5.out.1.at_ (by decide) bd_slow
                      have q2 : w5.cell? ⟨g, 65545, none⟩ = some (.bool false) := HB5.out.1.at_ (by decide) bd_ear
                      have q3 : w5.cell? ⟨g, 65546, none⟩ = some (.bool false) := HB5.out.1.at_ (by decide) bd_log
                      go_wp2_with fail
                      refine hmi.mono ?_
                      rintro x w' ⟨rfl, rfl⟩
                      clear hmi
                      go_wp2_with fail
                      refine hsp.mono ?_
                      rintro x w' ⟨rfl, rfl⟩
                      clear hsp
                      go_wp2_with fail
                      refine hbo.mono ?_
                      rintro x w' ⟨rfl, rfl⟩
                      clear hbo
                      have hlv := lives_any w5
                      go_wp2_with fail
                      refine hlv.mono ?_
                      rintro x w9 ⟨rfl, hb9⟩
                      have H9 := Lib.hid (bthen HB5.out.2 hb9)
                      clear hlv hb9
                      go_wp2
                      go_ret
                      exact ⟨rfl, H9.out⟩
              · have hnw := bNew_arg wr (some ⟨ga, 0, none⟩) (some ⟨gc, 0, none⟩) size size more more 0 hsz
                have hsI : ((size : Int) == 16384) = false := by simpa using (show ¬ (size : Int) = 16384 by omega)
                clear hsz
                go_wp2_with fail
                refine hnw.mono ?_
                rintro x w' ⟨rfl, rfl⟩
                clear hnw
                have hlv := lives_any wr
                go_wp2_with fail
                refine hlv.mono ?_
                rintro x w9 ⟨rfl, hb9⟩
                have H9 := Lib.hid (bthen HF.out.2.2 hb9)
                clear hlv hb9
                go_wp2
                go_ret
                exact ⟨rfl, H9.out⟩
end Go.Proofs.Ytfcnlgkaejkneaa
