/- Layer 11: the law's step: a key is pressed. -/
import Derived.Test.YtfcnlgkaejkneaaBd27
namespace Go.Proofs.Ytfcnlgkaejkneaa
open Go.RowKit

theorem ownsRow_le11 {w : World} {B B' e size n : Nat} {v : Value} {xs : List Value} (h : w.ownsRow B e size v n xs) (hB : B' ≤ B) : w.ownsRow B' e size v n xs := by
  refine ⟨h.1, ?_⟩
  rcases h.2 with h0 | ⟨g, cap, cur, h1, h2, h3⟩
  · exact .inl h0
  · exact .inr ⟨g, cap, cur, h1, by omega, h3⟩
set_option maxRecDepth 100000 in
set_option maxHeartbeats 8000000 in
theorem step5 (w : World) (base g q P : Nat) (s : PS) (n : Nat) (same : Bool) (A E D A' E' : Value) (h : PAt w base g q P s A E D A' E') (ok : s.Ok n same) (hn : n ≤ 100) (hb : base ≤ w.heap.size) (N a v : Int) (str : ByteArray) :
    Calls Try.prog 22 #[.pointer (some ⟨P, 0, none⟩), .agg #[.int .i64 5, .int .i64 N, .int .u16 a, .int .u8 v, .string str]] w fun x w' => StepO w w' x base g q P n same s.ph := by
  obtain ⟨DA, dc, rfl⟩ := own_slice h.X.down
  have hx0 : Blk (w.alloc (.cells #[.int .i64 5, .int .i64 N, .int .u16 a, .int .u8 v, .string str] 62)) w.heap.size 62 #[.int .i64 5, .int .i64 N, .int .u16 a, .int .u8 v, .string str] := Blk.new w _ _
  have hb0 : Below w.heap.size w (w.alloc (.cells #[.int .i64 5, .int .i64 N, .int .u16 a, .int .u8 v, .string str] 62)) := (Below.refl _ _).alloc (Nat.le_refl _) _
  have h0 := h.kept hb0
  have hsz := hb0.size
  go_enter Try.func22, Try.ntmps22
  go_upto_region 1 with fail
  generalize w.alloc (.cells #[.int .i64 5, .int .i64 N, .int .u16 a, .int .u8 v, .string str] 62) = W at *
  have H1 := Lib.hid (And.intro h0 (And.intro hx0 (hb0.mono hb)))
  have q0 : W.cell? ⟨P, 0, none⟩ = some (.pointer (some ⟨g, 0, none⟩)) := (h0.P.cell 0).trans rfl
  have q1 : W.cell? ⟨P, 1, none⟩ = some (.pointer (some ⟨q, 0, none⟩)) := (h0.P.cell 1).trans rfl
  have c0 : W.cell? ⟨w.heap.size, 0, none⟩ = some (.int .i64 5) := (hx0.cell 0).trans rfl
  have c1 : W.cell? ⟨w.heap.size, 1, none⟩ = some (.int .i64 N) := (hx0.cell 1).trans rfl
  have c2 : W.cell? ⟨w.heap.size, 2, none⟩ = some (.int .u16 a) := (hx0.cell 2).trans rfl
  have c3 : W.cell? ⟨w.heap.size, 3, none⟩ = some (.int .u8 v) := (hx0.cell 3).trans rfl
  have c4 : W.cell? ⟨w.heap.size, 4, none⟩ = some (.string str) := (hx0.cell 4).trans rfl
  clear h h0 hx0 hb0
  have HOK := Lib.hid ok
  clear ok
  go_upto_region 21 with fail
  go_wp2_with fail
  refine (findR_any str W).mono ?_
  rintro x w1 ⟨hres, hb1⟩
  have k2 := H1.out.1.kept hb1
  have x2 := H1.out.2.1.below hb1 H1.out.2.1.lt
  have b2 := H1.out.2.2.trans (hb1.mono (by have := H1.out.2.2.size; omega))
  clear q0 q1 c0 c1 c2 c3 c4 hb1
  have q0 : w1.cell? ⟨P, 0, none⟩ = some (.pointer (some ⟨g, 0, none⟩)) := (k2.P.cell 0).trans rfl
  have q1 : w1.cell? ⟨P, 1, none⟩ = some (.pointer (some ⟨q, 0, none⟩)) := (k2.P.cell 1).trans rfl
  have c0 : w1.cell? ⟨w.heap.size, 0, none⟩ = some (.int .i64 5) := (x2.cell 0).trans rfl
  have c1 : w1.cell? ⟨w.heap.size, 1, none⟩ = some (.int .i64 N) := (x2.cell 1).trans rfl
  have c2 : w1.cell? ⟨w.heap.size, 2, none⟩ = some (.int .u16 a) := (x2.cell 2).trans rfl
  have c3 : w1.cell? ⟨w.heap.size, 3, none⟩ = some (.int .u8 v) := (x2.cell 3).trans rfl
  have c4 : w1.cell? ⟨w.heap.size, 4, none⟩ = some (.string str) := (x2.cell 4).trans rfl
  have H2 := Lib.hid (And.intro k2 (And.intro x2 b2))
  clear k2 x2 b2
  rcases hres with hres | hres
  · obtain ⟨j, hj, hs, hF, rfl⟩ := hres
    have hj0 : (0 : Int) ≤ (j : Int) := Int.natCast_nonneg _
    have hkey : keyB (5 * (j / 5) + j % 5) = str := by rw [show 5 * (j / 5) + j % 5 = j by omega]; exact hs
    have hFk : Fst str (5 * (j / 5) + j % 5) := by rw [show 5 * (j / 5) + j % 5 = j by omega]; exact hF
    have HJ := Lib.hid (And.intro hj (And.intro hkey hFk))
    clear hj hkey hFk hs hF
    go_upto_region 22 with fail
    go_still_tail 8, (by kernel_rfl)
    go_wp2_with fail
    refine (press_keyB str g (j / 5) (j % 5) s.b1 A E _ (by have := HJ.out.1; omega) (by omega) HJ.out.2.1 HJ.out.2.2 (H2.out.1.kept (Below.refl _ _).drew).B.bd).mono ?_
    rintro x w2 ⟨rfl, hB1, hg1⟩
    have k0 := H2.out.1.kept (Below.refl _ _).drew
    have kP := k0.grownB hB1 hg1
    have kc := ch_grown (A := A) (E := E) hg1
    have kx := kc.blk H2.out.2.1.drew (k0.B.not H2.out.2.1.drew (by decide) (by decide) (by decide))
    have kb := H2.out.2.2.drew.trans (k0.belowB kc (show base ≤ w1.heap.size by have := H2.out.2.2.size; omega))
    clear k0 kc q0 q1 c0 c1 c2 c3 c4 hB1 hg1
    have q0 : w2.cell? ⟨P, 0, none⟩ = some (.pointer (some ⟨g, 0, none⟩)) := (kP.P.cell 0).trans rfl
    have q1 : w2.cell? ⟨P, 1, none⟩ = some (.pointer (some ⟨q, 0, none⟩)) := (kP.P.cell 1).trans rfl
    have c0 : w2.cell? ⟨w.heap.size, 0, none⟩ = some (.int .i64 5) := (kx.cell 0).trans rfl
    have c1 : w2.cell? ⟨w.heap.size, 1, none⟩ = some (.int .i64 N) := (kx.cell 1).trans rfl
    have c2 : w2.cell? ⟨w.heap.size, 2, none⟩ = some (.int .u16 a) := (kx.cell 2).trans rfl
    have c3 : w2.cell? ⟨w.heap.size, 3, none⟩ = some (.int .u8 v) := (kx.cell 3).trans rfl
    have c4 : w2.cell? ⟨w.heap.size, 4, none⟩ = some (.string str) := (kx.cell 4).trans rfl
    have H3 := Lib.hid (And.intro kP (And.intro kx kb))
    clear kP kx kb
    have cD : w2.cell? ⟨q, 65543, none⟩ = some (.slice DA s.zs.length dc) := H3.out.1.X.bd.at_ (i := 65543) (by decide) dc_D
    go_upto_region 24 with fail
    refine wp_region_held_drew (S := fun w' => w'.cell? ⟨P, 1, none⟩ = some (.pointer (some ⟨q, 0, none⟩))) (by kernel_rfl) ?_ (fun hHeld => ?_)
    · exact q1
    have K0 := Lib.hid (And.intro (H3.out.1.kept (Below.refl _ _).drew) (And.intro H3.out.2.1.drew H3.out.2.2.drew))
    have cD9 : w2.drew.cell? ⟨q, 65543, none⟩ = some (.slice DA s.zs.length dc) := K0.out.1.X.bd.at_ (i := 65543) (by decide) dc_D
    clear cD q0 q1 c0 c1 c2 c3 c4 H3
    generalize w2.drew = V at *
    refine wpAnyH_take (i := 0) (oi := _) (v := ?_) (by simp only [List.getElem?_toArray, List.getElem?_cons_succ, List.getElem?_cons_zero]; rfl) (by kernel_rfl) (by kernel_rfl) (by kernel_rfl) (by intro _ _ _ h; exact h) (Or.inl ⟨by rfl, ?_⟩) (by assumption) ?_
    rotate_left
    · intro w hSw
      try dsimp only at hSw
      go_simp
      try with_reducible rfl
    try simp only [Act.put, List.setIfInBounds_toArray, List.set_cons_zero, List.set_cons_succ]
    refine wpAnyH_take (i := 1) (oi := _) (v := ?_) (by simp only [List.getElem?_toArray, List.getElem?_cons_succ, List.getElem?_cons_zero]; rfl) (by kernel_rfl) (by kernel_rfl) (by kernel_rfl) (by intro _ _ _ h; exact h) (Or.inl ⟨by rfl, ?_⟩) (by assumption) ?_
    rotate_left
    · intro w hSw
      try dsimp only at hSw
      go_simp
      try with_reducible rfl
    try simp only [Act.put, List.setIfInBounds_toArray, List.set_cons_zero, List.set_cons_succ]
    refine wpAnyH_take (i := 2) (oi := _) (v := ?_) (by simp only [List.getElem?_toArray, List.getElem?_cons_succ, List.getElem?_cons_zero]; rfl) (by kernel_rfl) (by kernel_rfl) (by kernel_rfl) (by intro _ _ _ h; exact h) (Or.inl ⟨by rfl, ?_⟩) (by assumption) ?_
    rotate_left
    · intro w hSw
      try dsimp only at hSw
      go_simp
      try with_reducible rfl
    try simp only [Act.put, List.setIfInBounds_toArray, List.set_cons_zero, List.set_cons_succ]
    refine wpAnyH_take (i := 3) (oi := _) (v := ?_) (by simp only [List.getElem?_toArray, List.getElem?_cons_succ, List.getElem?_cons_zero]; rfl) (by kernel_rfl) (by kernel_rfl) (by kernel_rfl) (by intro _ _ _ h; exact h) (Or.inl ⟨by rfl, ?_⟩) (by assumption) ?_
    rotate_left
    · intro w hSw
      try dsimp only at hSw
      go_simp
      try with_reducible rfl
    try simp only [Act.put, List.setIfInBounds_toArray, List.set_cons_zero, List.set_cons_succ]
    refine wpAnyH_take (i := 4) (oi := _) (v := ?_) (by simp only [List.getElem?_toArray, List.getElem?_cons_succ, List.getElem?_cons_zero]; rfl) (by kernel_rfl) (by kernel_rfl) (by kernel_rfl) (by intro _ _ _ h; exact h) (Or.inl ⟨by rfl, ?_⟩) (by assumption) ?_
    rotate_left
    · intro w hSw
      try dsimp only at hSw
      go_simp
      try with_reducible rfl
    try simp only [Act.put, List.setIfInBounds_toArray, List.set_cons_zero, List.set_cons_succ]
    refine wpAnyH_take (i := 5) (oi := _) (v := ?_) (by simp only [List.getElem?_toArray, List.getElem?_cons_succ, List.getElem?_cons_zero]; rfl) (by kernel_rfl) (by kernel_rfl) (by kernel_rfl) (by intro _ _ _ h; exact h) (Or.inl ⟨by rfl, ?_⟩) (by assumption) ?_
    rotate_left
    · intro w hSw
      try dsimp only at hSw
      go_simp
      try with_reducible rfl
    try simp only [Act.put, List.setIfInBounds_toArray, List.set_cons_zero, List.set_cons_succ]
    refine wpAnyH_take (i := 6) (oi := _) (v := ?_) (by simp only [List.getElem?_toArray, List.getElem?_cons_succ, List.getElem?_cons_zero]; rfl) (by kernel_rfl) (by kernel_rfl) (by kernel_rfl) (by intro _ _ _ h; exact h) (Or.inl ⟨by rfl, ?_⟩) (by assumption) ?_
    rotate_left
    · intro w hSw
      try dsimp only at hSw
      go_simp
      try with_reducible rfl
    try simp only [Act.put, List.setIfInBounds_toArray, List.set_cons_zero, List.set_cons_succ]
    refine wpAnyH_take (i := 7) (oi := _) (v := ?_) (by simp only [List.getElem?_toArray, List.getElem?_cons_succ, List.getElem?_cons_zero]; rfl) (by kernel_rfl) (by kernel_rfl) (by kernel_rfl) (by intro _ _ _ h; exact h) (Or.inl ⟨by rfl, ?_⟩) (by assumption) ?_
    rotate_left
    · intro w hSw
      try dsimp only at hSw
      go_simp
      try with_reducible rfl
    try simp only [Act.put, List.setIfInBounds_toArray, List.set_cons_zero, List.set_cons_succ]
    refine wpAnyH_take (i := 8) (oi := _) (v := ?_) (by simp only [List.getElem?_toArray, List.getElem?_cons_succ, List.getElem?_cons_zero]; rfl) (by kernel_rfl) (by kernel_rfl) (by kernel_rfl) (by intro _ _ _ h; exact h) (Or.inl ⟨by rfl, ?_⟩) (by assumption) ?_
    rotate_left
    · intro w hSw
      try dsimp only at hSw
      go_simp
      try with_reducible rfl
    try simp only [Act.put, List.setIfInBounds_toArray, List.set_cons_zero, List.set_cons_succ]
    refine wpAnyH_take (i := 9) (oi := _) (v := ?_) (by simp only [List.getElem?_toArray, List.getElem?_cons_succ, List.getElem?_cons_zero]; rfl) (by kernel_rfl) (by kernel_rfl) (by kernel_rfl) (by intro _ _ _ h; exact h) (Or.inl ⟨by rfl, ?_⟩) (by assumption) ?_
    rotate_left
    · intro w hSw
      try dsimp only at hSw
      go_simp
      try with_reducible rfl
    try simp only [Act.put, List.setIfInBounds_toArray, List.set_cons_zero, List.set_cons_succ]
    refine wpAnyH_take (i := 11) (oi := _) (v := ?_) (by simp only [List.getElem?_toArray, List.getElem?_cons_succ, List.getElem?_cons_zero]; rfl) (by kernel_rfl) (by kernel_rfl) (by kernel_rfl) (by intro _ _ _ h; exact h) (Or.inl ⟨by rfl, ?_⟩) (by assumption) ?_
    rotate_left
    · intro w hSw
      try dsimp only at hSw
      go_simp
      try with_reducible rfl
    try simp only [Act.put, List.setIfInBounds_toArray, List.set_cons_zero, List.set_cons_succ]
    refine wpAnyH_ready (rs := [10]) (by kernel_rfl) (by simp) ?_
    refine AllReadyH.cons (o := _) (by simp only [List.getElem?_toArray, List.getElem?_cons_succ, List.getElem?_cons_zero]; rfl) (fun K hK => ?_) AllReadyH.nil
    go_simp
    refine hK.out _ _ ?_ (fun hHeld => ?_)
    · exact (K0.out.1.P.cell 1).trans rfl
    clear hK K
    try simp only [Act.put, List.setIfInBounds_toArray, List.set_cons_zero, List.set_cons_succ]
    refine wpAnyH_ready (rs := [12]) (by kernel_rfl) (by simp) ?_
    refine AllReadyH.cons (o := _) (by simp only [List.getElem?_toArray, List.getElem?_cons_succ, List.getElem?_cons_zero]; rfl) (fun K hK => ?_) AllReadyH.nil
    go_simp
    go_wp2_with fail
    refine (putR_any (j : Int) true DA s.zs.length dc s.zs V (Reads.of_own K0.out.1.X.down) (by have := HOK.out.z2; omega)).mono ?_
    rintro x w3 ⟨v2, hv2, own2, hb3⟩
    rw [if_pos rfl] at own2
    subst hv2
    obtain ⟨z2, hz2⟩ : ∃ z2, lessN (j : Int) s.zs ++ [(j : Int)] = z2 := ⟨_, rfl⟩
    rw [hz2] at own2
    have HZ2 := Lib.hid hz2
    clear hz2
    obtain ⟨VA, vc, rfl⟩ := own_slice own2
    have k4 := K0.out.1.kept hb3
    have b4 := K0.out.2.2.trans (hb3.mono (by have := K0.out.2.2.size; omega))
    have own3 := ownsRow_le11 own2 (show base ≤ V.heap.size by have := K0.out.2.2.size; omega)
    have K4 := Lib.hid (And.intro k4 (And.intro b4 own3))
    clear k4 b4 own3 own2 hb3 cD9
    refine hK.out _ _ ?_ (fun hHeld => ?_)
    · exact (K4.out.1.P.cell 1).trans rfl
    clear hK K
    try simp only [Act.put, List.setIfInBounds_toArray, List.set_cons_zero, List.set_cons_succ]
    have cD3 : w3.cell? ⟨q, 65543, none⟩ = some (.slice DA s.zs.length dc) := K4.out.1.X.bd.at_ (i := 65543) (by decide) dc_D
    have fD3 : w3.frozen? ⟨q, 65543, none⟩ = false := K4.out.1.X.bd.fz 65543
    have H5 := Lib.hid (And.intro (K4.out.1.newD (updD s.b2.K (j / 5) (j % 5) true) K4.out.2.2) (K4.out.2.1.trans (K4.out.1.belowX (ch_grown (grown_cell w3 q 65543 (.slice VA z2.length vc))) (by have := K4.out.2.1.size; omega))))
    refine wpAnyH_take (i := 13) (oi := _) (v := ?_) (by simp only [List.getElem?_toArray, List.getElem?_cons_succ, List.getElem?_cons_zero]; rfl) (by kernel_rfl) (by kernel_rfl) (by kernel_rfl) (by intro _ _ _ h; exact h) (Or.inl ⟨by rfl, ?_⟩) (by assumption) ?_
    rotate_left
    · intro w hSw
      try dsimp only at hSw
      go_simp
      try with_reducible rfl
    try simp only [Act.put, List.setIfInBounds_toArray, List.set_cons_zero, List.set_cons_succ]
    refine wpAnyH_take (i := 14) (oi := _) (v := ?_) (by simp only [List.getElem?_toArray, List.getElem?_cons_succ, List.getElem?_cons_zero]; rfl) (by kernel_rfl) (by kernel_rfl) (by kernel_rfl) (by intro _ _ _ h; exact h) (Or.inl ⟨by rfl, ?_⟩) (by assumption) ?_
    rotate_left
    · intro w hSw
      try dsimp only at hSw
      go_simp
      try with_reducible rfl
    try simp only [Act.put, List.setIfInBounds_toArray, List.set_cons_zero, List.set_cons_succ]
    refine wpAnyH_ready (rs := [15]) (by kernel_rfl) (by simp) ?_
    refine AllReadyH.cons (o := _) (by simp only [List.getElem?_toArray, List.getElem?_cons_succ, List.getElem?_cons_zero]; rfl) (fun K hK => ?_) AllReadyH.nil
    go_simp
    refine hK.out _ _ ?_ (fun hHeld => ?_)
    · exact (H5.out.1.P.cell 1).trans rfl
    clear hK K
    try simp only [Act.put, List.setIfInBounds_toArray, List.set_cons_zero, List.set_cons_succ]
    refine wpAnyH_done (by kernel_rfl) ?_ _
    go_wp2
    go_ret
    exact ⟨true, _, _, _, _, _, _, rfl, by rfl, ok_key HOK.out HJ.out.1 HZ2.out, H5.out.1, fun _ => rfl, H5.out.2⟩
  · obtain ⟨hF, rfl⟩ := hres
    have HF := Lib.hid hF
    clear hF
    go_upto_region 22 with fail
    go_still_tail 8, (by kernel_rfl)
    go_wp2_with fail
    refine (press_noneB str g _ HF.out).mono ?_
    rintro x w2 ⟨rfl, hb2⟩
    have H3 := Lib.hid (And.intro ((H2.out.1.kept (Below.refl _ _).drew).kept hb2) (H2.out.2.2.drew.trans (hb2.mono (show base ≤ w1.heap.size by have := H2.out.2.2.size; omega))))
    clear q0 q1 c0 c1 c2 c3 c4 hb2
    go_wp2
    go_ret
    exact ⟨true, _, _, _, _, _, _, rfl, by rfl, ok_next HOK.out, H3.out.1, fun _ => rfl, H3.out.2⟩
end Go.Proofs.Ytfcnlgkaejkneaa
