/- The law AdlerPieces walked: it returns true and writes nothing that was there. -/
import Derived.Test.YtkhbkfecnpnchaaLawAdler
namespace Go.Proofs.Ytkhbkfecnpnchaa
open Go.RowKit

theorem u8Info2 : (Try.prog.info? 5).map (fun i => (i.zero, i.size, i.bytes)) = some (some (.int .u8 0), 1, 1) := by kernel_rfl
theorem in10 : adIn (1, 0) := by unfold adIn; omega

/-- what holds of the world while pieces are added: the sum's own block, and the bytes that were put together -/
structure AdAt (w : World) (g : Nat) (W : World) (l : List Int) (v : Value) (n : Nat) (xs : List Int) : Prop where
  bel : Below w.heap.size w W
  low : w.heap.size ≤ g
  blk : Blk W g 47 #[.int .u32 (adA (adF (1, 0) l)), .int .u32 (adF (1, 0) l).2]
  own : W.ownsRow (g + 1) 5 1 v n (xs.map (Value.int .u8))
  u8 : isU8 xs

section
variable {w W W' : World} {g n : Nat} {l xs : List Int} {v : Value}
theorem AdAt.below (h : AdAt w g W l v n xs) (k : Below W.heap.size W W') : AdAt w g W' l v n xs :=
  ⟨h.bel.trans (k.mono h.bel.size), h.low, h.blk.below k h.blk.lt, h.own.kept (row := none) ⟨k.os, k.tape, k.output, k.size, fun j hj _ => k.block j hj⟩ (by cases hv : v.ownBlock <;> simp), h.u8⟩
theorem AdAt.alloc (h : AdAt w g W l v n xs) (o : Obj) : AdAt w g (W.alloc o) l v n xs := h.below ((Below.refl _ _).alloc (Nat.le_refl _) _)
theorem AdAt.drewN (h : AdAt w g W l v n xs) (k : Nat) : AdAt w g (W.drewN k) l v n xs := h.below (below_drewN (Below.refl _ _) k)
theorem AdAt.added (h : AdAt w g W l v n xs) (l' : List Int) :
    AdAt w g ((W.setCell ⟨g, 0, none⟩ (.int .u32 (adA (adF (1, 0) l')))).setCell ⟨g, 1, none⟩ (.int .u32 (adF (1, 0) l').2)) l' v n xs := by
  refine ⟨(h.bel.setCell h.low _).setCell h.low _, h.low, (h.blk.set_ 0 _).set_ 1 _, ?_, h.u8⟩
  exact ownsRow_setCell_below (ownsRow_setCell_below h.own (by simp) _) (by simp) _
theorem AdAt.c0 (h : AdAt w g W l v n xs) : W.cell? ⟨g, 0, none⟩ = some (.int .u32 (adA (adF (1, 0) l))) := (h.blk.cell 0).trans rfl
theorem AdAt.c1 (h : AdAt w g W l v n xs) : W.cell? ⟨g, 1, none⟩ = some (.int .u32 (adF (1, 0) l).2) := (h.blk.cell 1).trans rfl
theorem AdAt.grown (h : AdAt w g W l v n xs) {v' : Value} {n' : Nat} {xs' : List Int} (hg : W.grownBy W' v.ownBlock) (ho : W'.ownsRow (g + 1) 5 1 v' n' (xs'.map (Value.int .u8))) (hu : isU8 xs') : AdAt w g W' l v' n' xs' := by
  have hne : ∀ k, v.ownBlock = some k → g + 1 ≤ k := fun k hk => (h.own.lt k hk).1
  exact ⟨h.bel.grown hg h.bel.size (fun k hk => by have := hne k hk; have := h.low; omega), h.low, h.blk.grown hg (fun e => by have := hne g e.symm; omega), ho, hu⟩
end

theorem own_piece {W : World} {B n : Nat} {v : Value} {xs : List Int} (h : W.ownsRow B 5 1 v n (xs.map (Value.int .u8))) (hu : isU8 xs) :
    ∃ A c, v = .slice A n c ∧ (⟨A, n, c, xs⟩ : Piece).ok W W.heap.size := by
  rcases h.2 with ⟨rfl, rfl⟩ | ⟨g, cap, cur, rfl, h1, h2, h3, h4, h5⟩
  · have : xs = [] := by have := h.1; simp at this; exact List.eq_nil_of_length_eq_zero (by simpa using this)
    subst this
    exact ⟨none, 0, rfl, Reads.none_, Nat.le_refl _, by simp [maxLen], hu⟩
  · exact ⟨_, _, rfl, Reads.of_own h, h3, h4, hu⟩

theorem bytesOf_take {ps : List Piece} {j : Nat} {q : Piece} (h : ps[j]? = some q) : bytesOf (ps.take (j + 1)) = bytesOf (ps.take j) ++ q.zs := by
  rw [List.take_add_one, h]
  simp [bytesOf]

theorem Piece.ok.to {W W' : World} {B : Nat} {q : Piece} (h : q.ok W B) (k : Below B W W') {B' : Nat} (hB : B ≤ B') : q.ok W' B' := ⟨(h.1.below k).more hB, h.2⟩
theorem of13_one (W : World) (q : Piece) (t : TypeId) (hq : q.ok W W.heap.size) :
    Calls Try.prog 28 #[.slice (some ⟨W.heap.size, 0, none⟩) 1 1] (W.alloc (.cells #[.slice q.a q.n q.c] t)) fun e w' => e = .returned (.int .u32 (adV (adF (1, 0) q.zs))) ∧ Below W.heap.size W w' := by
  refine (of13_any _ _ 1 1 [q] (reads_one W t _) (by unfold maxLen; omega) (fun p hp => ?_)).mono ?_
  · obtain rfl : p = q := by simpa using hp
    exact hq.to ((Below.refl _ _).alloc (Nat.le_refl _) _) (by simp)
  · rintro e w' ⟨rfl, hb⟩
    exact ⟨by simp [bytesOf], ((Below.refl _ _).alloc (Nat.le_refl _) _).trans (hb.mono (by simp))⟩
theorem bytesOf_one (q : Piece) : bytesOf [q] = q.zs := by simp [bytesOf]
theorem ad_none : adV (adF (1, 0) (bytesOf [])) = 1 := by decide

def IsRows (w : World) (A : Option Addr) (m c : Nat) (ps : List Piece) : Prop := Reads w w.heap.size 1 A m (ps.map Piece.val) ∧ m ≤ c ∧ c ≤ maxLen ∧ ∀ q ∈ ps, q.ok w w.heap.size

theorem rows_none (W : World) : IsRows W none 0 0 [] := ⟨Reads.none_, Nat.le_refl _, by simp [maxLen], fun q hq => by cases hq⟩
theorem rows_of {W : World} {x : Addr} {l c : Nat} {A : Nat → Option Addr} {L C : Nat → Nat} {Z : Nat → List Int} (hl : l ≤ c) (hm : c ≤ maxLen) (hx : 0 < c → x.block < W.heap.size)
    (hrow : ∀ r, r < c → W.cell? (x.add r) = some (.slice (A r) (L r) (C r)) ∧ L r ≤ C r ∧ C r ≤ maxLen ∧ (Z r).length = C r ∧ (∀ n ∈ Z r, (Lit.int .u8 n).wf = true) ∧ (A r = none → C r = 0) ∧
        ∀ a', A r = some a' → 0 ≤ a'.block ∧ ∀ k, k < C r → W.cell? (a'.add k) = some (.int .u8 ((Z r).getD k 0)))
    (hb : ∀ r, r < c → ∀ a', A r = some a' → 0 < (Z r).length → a'.block < W.heap.size) :
    IsRows W (some x) l c ((List.range l).map fun r => ⟨A r, L r, C r, (Z r).take (L r)⟩) := by
  refine ⟨⟨by simp, fun h0 => ⟨x, rfl, hx (by omega), fun j u hu => ?_⟩⟩, hl, hm, fun q hq => ?_⟩
  · simp only [List.getElem?_map, Option.map_eq_some_iff] at hu
    obtain ⟨q, ⟨r, hr, rfl⟩, rfl⟩ := hu
    have hj : j < l := by
      rcases Nat.lt_or_ge j l with h | h
      · exact h
      · rw [List.getElem?_eq_none (by simpa using h)] at hr; cases hr
    rw [List.getElem?_range hj] at hr
    injection hr with hr
    subst hr
    exact (hrow j (by omega)).1
  · simp only [List.mem_map, List.mem_range] at hq
    obtain ⟨r, hr, rfl⟩ := hq
    obtain ⟨_, h2, h3, h4, h5, h6, h7⟩ := hrow r (by omega)
    have hu : IsRow .u8 W (A r) (L r) (C r) (Z r) := by
      cases ha : A r with
      | none =>
        have e := h6 ha
        exact .inl ⟨rfl, by omega, e, List.eq_nil_of_length_eq_zero (by omega)⟩
      | some a' =>
        refine .inr ⟨a', rfl, ?_, h2, h3, h4, fun i hi => (h7 a' ha).2 i (by omega), h5⟩
        by_cases h0 : C r = 0
        · exact .inl h0
        · exact .inr (hb r (by omega) a' ha (by omega))
    obtain ⟨k1, k2, k3, k4⟩ := row_u8 hu
    exact ⟨k1, k3, k4, k2⟩

set_option maxHeartbeats 8000000 in
theorem adlerPieces_walk (A : Option Addr) (m c : Nat) (ps : List Piece) (w : World) (w0 : IsRows w A m c ps) :
    Calls Try.prog 7 #[.slice A m c] w fun e w' => e = .returned (.bool true) ∧ Below w.heap.size w w' := by
  obtain ⟨hr, hmc, hc, hps⟩ := w0
  have hL : ps.length = m := by have := hr.1; simpa using this
  obtain ⟨i0, hi, hz0, hz1, hz2⟩ := info_parts u8Info2
  unfold maxLen at hc
  go_enter Try.func7, Try.ntmps7
  go_wp2_with (first
    | (go_at_call 27; refine (lives13 _).mono ?_; rintro e w3 ⟨rfl, hb3⟩) | fail)
  · go_ret
    exact ⟨rfl, hb3⟩
  · have hH : AdAt w w.heap.size (w.alloc (.cells #[.int .u32 0, .int .u32 0] 47)) [] (.slice none 0 0) 0 [] :=
      ⟨(Below.refl _ _).alloc (Nat.le_refl _) _, Nat.le_refl _, Blk.new _ _ _, World.ownsRow_nil _ _ _ _, by intro z hz; simp at hz⟩
    have hHs : w.heap.size < (w.alloc (.cells #[.int .u32 0, .int .u32 0] 47)).heap.size := by simp
    go_loopw [5, 6] (fun v i wr => ∃ (j n : Nat) (xs : List Int), j ≤ m ∧ i = .int .i64 j ∧ n ≤ 63000 ∧ bytesOf (ps.take j) = xs ∧ AdAt w w.heap.size wr xs v n xs) (fun _ i _ => m - (intOf i).toNat)
    case atStart => exact ⟨0, 0, [], by omega, rfl, by omega, rfl, hH⟩
    case round =>
      obtain ⟨j, n, xs, hj, rfl, hn, hxs, hA⟩ := hrel
      clear hH hHs
      obtain ⟨va, vc, rfl, hpc⟩ := own_piece hA.own hA.u8
      by_cases hlt : j < m
      · have hq : ∃ q, ps[j]? = some q ∧ q ∈ ps := ⟨ps[j]'(by omega), by simp [hL, hlt], List.getElem_mem _⟩
        obtain ⟨q, hq, hqm⟩ := hq
        have hqk := hps q hqm
        obtain ⟨ad, u, rfl, hab, hu, hcl⟩ := hr.at_ hlt
        obtain rfl : u = q.val := by rw [List.getElem?_map, hq] at hu; simpa using hu.symm
        have hbt := bytesOf_take hq
        obtain ⟨qa, qn, qc, zs⟩ := q
        simp only [Piece.val] at hcl
        have hc0 : wr.cell? (ad.add j) = some (.slice qa qn qc) := (hA.bel.cell (by rw [block_of_add]; exact hab)).trans hcl
        have hqk' := Lib.hid hqk
        clear hqk
        by_cases hbig : 3000 < (qn : Int) ∨ 60000 < (n : Int)
        · go_wp2_with (first
            | (go_at_call 27; refine (lives13 _).mono ?_; rintro e w3 ⟨rfl, hb3⟩) | fail)
          all_goals
            go_ret
            exact ⟨rfl, hA.bel.trans (hb3.mono hA.bel.size)⟩
        · have hq63 : qn ≤ 3000 := by omega
          have hn60 : n ≤ 60000 := by omega
          have h1 : ∀ u ∈ zs.map (Value.int .u8), u.oneCell' = true := fun u hu => by
            simp only [List.mem_map] at hu
            obtain ⟨z, _, rfl⟩ := hu
            rfl
          go_wp2_with fail
          have hA1 := hA.alloc (.cells #[.slice qa qn qc] 40)
          refine (add_any _ w.heap.size (adF (1, 0) xs) (adF_in _ in10) hA1.c0 hA1.c1 (hA1.blk.frozen 0) (hA1.blk.frozen 1) _ 1 1 [⟨qa, qn, qc, zs⟩] _ (reads_one wr _ _) (by unfold maxLen; omega) (fun p hp => ?_)).mono ?_
          · obtain rfl : p = _ := by simpa using hp
            exact hqk'.out.to hA1.bel (Nat.le_of_lt hA1.blk.lt)
          rintro e w1 ⟨rfl, n1, rfl⟩
          rw [bytesOf_one, ← adF_app]
          have hA2 := (hA1.added (xs ++ zs)).drewN n1
          simp only [] at hA2 ⊢
          generalize (((wr.alloc (.cells #[.slice qa qn qc] 40)).setCell ⟨w.heap.size, 0, none⟩ (.int .u32 (adA (adF (1, 0) (xs ++ zs))))).setCell ⟨w.heap.size, 1, none⟩ (.int .u32 (adF (1, 0) (xs ++ zs)).2)).drewN n1 = W2 at *
          clear hA1 hA hc0
          have hc0 : W2.cell? (ad.add j) = some (.slice qa qn qc) := (hA2.bel.cell (by rw [block_of_add]; exact hab)).trans hcl
          go_wp2_with fail
          refine (add_none _ _).mono ?_
          rintro e w' ⟨rfl, rfl⟩
          have hA3 := hA2.alloc (.cells #[.slice qa qn qc] 40)
          generalize W2.alloc (.cells #[.slice qa qn qc] 40) = W3 at *
          clear hA2 hc0
          have hc0 : W3.cell? (ad.add j) = some (.slice qa qn qc) := (hA3.bel.cell (by rw [block_of_add]; exact hab)).trans hcl
          go_wp2_with (first
            | (at_builtin; refine wpList_append_any _ rfl _ _ 40 rfl (w.heap.size + 1) 5 i0 (.int .u8 0) 1 1 Try.underlying40 hi hz0 hz1 hz2 rfl (by decide) _ n (xs.map (Value.int .u8)) rfl hA3.own w.heap.size qa qn qc (zs.map (Value.int .u8)) rfl (hqk'.out.1.below hA3.bel) h1 ?c1 ?c2 ?c3 ?_)
            | fail)
          case c1 => unfold maxLen; omega
          case c2 => omega
          case c3 => exact hA3.blk.lt
          intro v' W4 hown hgrow _
          rw [← List.map_append] at hown
          have hA4 := hA3.grown hgrow hown (fun z hz => by
            rcases List.mem_append.1 hz with h | h
            · exact hA3.u8 z h
            · exact hqk'.out.2.2.2 z h)
          clear hown hgrow hA3 hc0 h1
          obtain ⟨va2, vc2, rfl, hpc2⟩ := own_piece hA4.own hA4.u8
          go_wp2_with fail
          refine (value_any _ w.heap.size (adF (1, 0) (xs ++ zs)) (adF_in _ in10) hA4.c0 hA4.c1).mono ?_
          rintro e w' ⟨rfl, n2, rfl⟩
          have hA5 := hA4.drewN n2
          have hpc3 := hpc2.to (below_drewN (Below.refl _ _) n2) (below_drewN (Below.refl W4.heap.size W4) n2).size
          generalize W4.drewN n2 = W5 at *
          clear hA4 hpc2
          go_wp2_with fail
          refine (of13_one W5 ⟨va2, n + qn, vc2, xs ++ zs⟩ _ hpc3).mono ?_
          rintro e W6 ⟨rfl, hb6⟩
          have hA6 := hA5.below hb6
          go_wp2
          go_roundw
          case rel => exact ⟨j + 1, n + qn, xs ++ zs, by omega, by go_num, by omega, by rw [hbt, hxs], hA6⟩
          case measure => simp [intOf]; omega
      · obtain rfl : j = m := by omega
        have hall : ps.take j = ps := by rw [List.take_of_length_le (by omega)]
        rw [hall] at hxs
        have hp1 : ∀ q ∈ ps, q.ok wr wr.heap.size := fun q hq => (hps q hq).to hA.bel hA.bel.size
        have hr1 := (hr.below hA.bel).more hA.bel.size
        go_wp2_with fail
        refine (of13_any wr A j c ps hr1 (by unfold maxLen; omega) hp1).mono ?_
        rintro e w1 ⟨rfl, hb1⟩
        rw [hxs]
        have hpc1 := hpc.to hb1 hb1.size
        go_wp2_with fail
        refine (of13_one w1 ⟨va, n, vc, xs⟩ _ hpc1).mono ?_
        rintro e w2 ⟨rfl, hb2⟩
        go_wp2_with fail
        refine (value_none _).mono ?_
        rintro e w' ⟨rfl, rfl⟩
        go_wp2_with fail
        refine (of13_any w2 none 0 0 [] Reads.none_ (by unfold maxLen; omega) (fun q hq => by cases hq)).mono ?_
        rintro e w3 ⟨rfl, hb3⟩
        rw [ad_none]
        go_wp2_with fail
        refine (lives13 _).mono ?_
        rintro e w4 ⟨rfl, hb4⟩
        go_wp2
        go_ret
        exact ⟨rfl, bthen (bthen (bthen (bthen hA.bel hb1) hb2) hb3) hb4⟩

end Go.Proofs.Ytkhbkfecnpnchaa
