/- The law WirePuts of layer 17, walked: it returns true and writes nothing that was there. -/
import Derived.Test.YtpfojhmaeaeecaaLawWireL
import Derived.Deep.CutRange
import Derived.Deep.RegionHeld3
namespace Go.Proofs.Ytpfojhmaeaeecaa
open Go.RowKit

/-- what a number put behind bytes comes to -/
def putL (ys : List Int) (n v : Int) : List Int := if 1 ≤ n ∧ n ≤ 4 then ys ++ bytesL n.toNat v else ys
def Putted (P : World → Value → Int → Int → Prop) : Prop := ∀ (w : World) (V : Value) (n v : Int), P w V n v
theorem put_gen (w : World) (base : Nat) (V : Value) (n v : Int) (ys : List Int) (v0 : -1000000000000 ≤ v) (v1 : v ≤ 1000000000000) (hown : w.ownsRow base 5 1 V ys.length (ys.map (Value.int .u8))) (hm : ys.length ≤ 1000000) (hb : base ≤ w.heap.size) :
    Calls Try.prog 11 #[V, .int .i64 n, .int .i64 v] w fun e w' => ∃ V', e = .returned V' ∧ w'.ownsRow base 5 1 V' (putL ys n v).length ((putL ys n v).map (Value.int .u8)) ∧ w.grownBy w' V.ownBlock ∧ Moved w V V' := by
  unfold putL
  by_cases hn : 1 ≤ n ∧ n ≤ 4
  · obtain ⟨N, rfl⟩ : ∃ N : Nat, n = N := ⟨n.toNat, by omega⟩
    rw [if_pos hn, List.length_append, Int.toNat_natCast, bytesL_len]
    exact put_any w base ys.length N V v ys (by omega) (by omega) hown hm (by omega) hb (by omega)
  · rw [if_neg hn]
    have hcs : n < 1 ∨ (1 ≤ n ∧ 4 < n) := by omega
    go_enter Try.func11, Try.ntmps11
    rcases hcs with h | ⟨h, h'⟩
    · go_wp2
      go_ret
      exact ⟨_, rfl, hown, World.grownBy.refl w _, .inl rfl⟩
    · go_wp2
      go_ret
      exact ⟨_, rfl, hown, World.grownBy.refl w _, .inl rfl⟩
theorem put17R_gen (w : World) (base : Nat) (V : Value) (n v : Int) (ys : List Int) (v0 : -1000000000000 ≤ v) (v1 : v ≤ 1000000000000) (hown : w.ownsRow base 5 1 V ys.length (ys.map (Value.int .u8))) (hm : ys.length ≤ 1000000) (hb : base ≤ w.heap.size) :
    Calls Try.prog 12 #[V, .int .i64 n, .int .i64 v] w fun e w' => ∃ V', e = .returned V' ∧ w'.ownsRow base 5 1 V' (putL ys n v).length ((putL ys n v).map (Value.int .u8)) ∧ w.grownBy w' V.ownBlock ∧ Moved w V V' := by
  unfold putL
  by_cases hn : 1 ≤ n ∧ n ≤ 4
  · obtain ⟨N, rfl⟩ : ∃ N : Nat, n = N := ⟨n.toNat, by omega⟩
    rw [if_pos hn, List.length_append, Int.toNat_natCast, bytesL_len]
    exact put17R_any w base ys.length N V v ys v0 v1 hown hm (by omega) hb (by omega)
  · rw [if_neg hn]
    have hcs : n < 1 ∨ (1 ≤ n ∧ 4 < n) := by omega
    go_enter Try.func12, Try.ntmps12
    rcases hcs with h | ⟨h, h'⟩
    · go_wp2
      go_ret
      exact ⟨_, rfl, hown, World.grownBy.refl w _, .inl rfl⟩
    · go_wp2
      go_ret
      exact ⟨_, rfl, hown, World.grownBy.refl w _, .inl rfl⟩

/-- both puts, one behind the other, whichever is the first -/
theorem puts_two {w W : World} {F G : FuncId} {n v : Int} {L M : Value} {ys : List Int} {base : Nat} (hbl : Below w.heap.size w W) (hbase : w.heap.size ≤ base)
    (hF : ∀ (w' : World) (V : Value), w'.ownsRow base 5 1 V ys.length (ys.map (Value.int .u8)) → base ≤ w'.heap.size → Calls Try.prog F #[V, .int .i64 n, .int .i64 v] w' fun e w1 => ∃ V', e = .returned V' ∧ w1.ownsRow base 5 1 V' (putL ys n v).length ((putL ys n v).map (Value.int .u8)) ∧ w'.grownBy w1 V.ownBlock ∧ Moved w' V V')
    (hG : ∀ (w' : World) (V : Value), w'.ownsRow base 5 1 V ys.length (ys.map (Value.int .u8)) → base ≤ w'.heap.size → Calls Try.prog G #[V, .int .i64 n, .int .i64 v] w' fun e w1 => ∃ V', e = .returned V' ∧ w1.ownsRow base 5 1 V' (putL ys n v).length ((putL ys n v).map (Value.int .u8)) ∧ w'.grownBy w1 V.ownBlock ∧ Moved w' V V')
    (hL : W.ownsRow base 5 1 L ys.length (ys.map (Value.int .u8))) (hM : W.ownsRow base 5 1 M ys.length (ys.map (Value.int .u8))) (hb : base ≤ W.heap.size) (hne : ∀ g, L.ownBlock = some g → M.ownBlock ≠ some g) :
    Calls Try.prog F #[L, .int .i64 n, .int .i64 v] W fun e w1 => ∃ A1 c1, e = .returned (.slice A1 (putL ys n v).length c1) ∧ (convert 22 9 (.slice A1 (putL ys n v).length c1)).run Try.prog w1 = .ok (.string (strOfNums (putL ys n v))) w1 ∧
      Calls Try.prog G #[M, .int .i64 n, .int .i64 v] w1 fun e2 w2 => ∃ A2 c2, e2 = .returned (.slice A2 (putL ys n v).length c2) ∧ (convert 22 9 (.slice A1 (putL ys n v).length c1)).run Try.prog w2 = .ok (.string (strOfNums (putL ys n v))) w2 ∧ (convert 22 9 (.slice A2 (putL ys n v).length c2)).run Try.prog w2 = .ok (.string (strOfNums (putL ys n v))) w2 ∧ Below w.heap.size w w2 := by
  refine (hF W L hL hb).mono ?_
  rintro e w1 ⟨V1, rfl, own1, g1, mv1⟩
  obtain ⟨A1, c1, rfl⟩ := own_slice own1
  have hM1 : w1.ownsRow base 5 1 M ys.length (ys.map (Value.int .u8)) := hM.kept g1 (by
    cases hm : M.ownBlock with
    | none => exact .inl rfl
    | some g => exact .inr (fun e => hne g e.symm hm))
  have hbl1 : Below w.heap.size w w1 := hbl.grown g1 hbl.size (fun i hi => Nat.le_trans hbase (hL.lt i hi).1)
  refine ⟨A1, c1, rfl, conv17 c1 (Reads.of_own own1), ?_⟩
  refine (hG w1 M hM1 (Nat.le_trans hb g1.size)).mono ?_
  rintro e2 w2 ⟨V2, rfl, own2, g2, mv2⟩
  obtain ⟨A2, c2, rfl⟩ := own_slice own2
  have own1b := own1.kept g2 (by
    cases hm : M.ownBlock with
    | none => cases hv : (Value.slice A1 (putL ys n v).length c1).ownBlock <;> simp
    | some g =>
      refine .inr (fun e => ?_)
      rcases mv1 with h | ⟨g', hg', h⟩
      · exact hne g (by rw [← h, e]) hm
      · rw [h] at e
        injection e with e
        have := (hM.lt g hm).2
        omega)
  exact ⟨A2, c2, rfl, conv17 c1 (Reads.of_own own1b), conv17 c2 (Reads.of_own own2), hbl1.grown g2 hbl1.size (fun i hi => Nat.le_trans hbase (hM.lt i hi).1)⟩

set_option maxHeartbeats 4000000 in
theorem wirePuts_walk (A : Option Addr) (m c : Nat) (zs : List Int) (n v : Int) (w : World) (w0 : IsRow .u8 w A m c zs) (w1 : (Lit.int .i64 n).wf = true) (w2 : (Lit.int .i64 v).wf = true) :
    Calls Try.prog 3 #[.slice A m c, .int .i64 n, .int .i64 v] w fun e w' => e = .returned (.bool true) ∧ Below w.heap.size w w' := by
  obtain ⟨n0, n1⟩ := bounds_i64 w1
  obtain ⟨v0, v1⟩ := bounds_i64 w2
  obtain ⟨hr, hz, hmc, hc⟩ := row_u8 w0
  clear w0 w1 w2
  generalize zs.take m = ys at *
  obtain ⟨i0, hi, hz0, hz1, hz2⟩ := info_parts u8Info
  by_cases hbig : (m : Int) ≤ 1000 ∧ -1000000000000 ≤ v ∧ v ≤ 1000000000000
  · obtain ⟨hm, hv0, hv1⟩ := hbig
    have hl := reads_len hr
    have hone : ∀ u ∈ ys.map (Value.int .u8), u.oneCell' = true := fun u hu => by
      simp only [List.mem_map] at hu
      obtain ⟨z, _, rfl⟩ := hu
      rfl
    go_enter Try.func3, Try.ntmps3
    go_wp2_with (first
      | (at_builtin; refine wpList_append_any _ rfl _ _ 22 rfl w.heap.size 5 i0 (.int .u8 0) 1 1 Try.underlying22 hi hz0 hz1 hz2 rfl (by decide) (.slice none 0 0) 0 [] rfl (World.ownsRow_nil _ _ _ _) _ A m c (ys.map (Value.int .u8)) rfl hr hone (by unfold maxLen; omega) (by omega) (Nat.le_refl _) ?_)
      | go_in)
    intro L W1 ownL gL orL
    have hb1 : Below w.heap.size w W1 := (Below.refl _ _).grown gL (Nat.le_refl _) (fun i hi => by simp [Value.ownBlock] at hi)
    have hr1 := hr.below hb1
    try simp only [Nat.zero_add, List.nil_append] at ownL
    go_wp2_with (first
      | (at_builtin; refine wpList_append_any _ rfl _ _ 22 rfl w.heap.size 5 i0 (.int .u8 0) 1 1 Try.underlying22 hi hz0 hz1 hz2 rfl (by decide) (.slice none 0 0) 0 [] rfl (World.ownsRow_nil _ _ _ _) _ A m c (ys.map (Value.int .u8)) rfl hr1 hone (by unfold maxLen; omega) (by omega) hb1.size ?_)
      | go_in)
    intro M W2 ownM gM orM
    try simp only [Nat.zero_add, List.nil_append] at ownM
    have hb2 : Below w.heap.size w W2 := hb1.grown gM hb1.size (fun i hi => by simp [Value.ownBlock] at hi)
    have ownL2 := ownL.kept gM (by cases hv : L.ownBlock <;> simp [Value.ownBlock])
    have hneLM : ∀ g, L.ownBlock = some g → M.ownBlock ≠ some g := fun g hg hg2 => by
      have h1 := (ownL.lt g hg).2
      rcases orM with h | h
      · rw [h] at hg2; simp [Value.ownBlock] at hg2
      · rw [h] at hg2; injection hg2 with hg2; omega
    rw [← hl] at ownL2 ownM
    have hbd : Below w.heap.size w W2.drew := hb2.drew
    have hLm : ys.length ≤ 1000000 := by omega
    have HA := Lib.hid (puts_two (F := 11) (G := 12) (n := n) (v := v) (base := w.heap.size) (W := W2.drew) hbd (Nat.le_refl _) (fun w' V h hb => put_gen w' w.heap.size V n v ys hv0 hv1 h hLm hb) (fun w' V h hb => put17R_gen w' w.heap.size V n v ys hv0 hv1 h hLm hb) (show W2.drew.ownsRow w.heap.size 5 1 L ys.length _ from ownL2) (show W2.drew.ownsRow w.heap.size 5 1 M ys.length _ from ownM) hbd.size hneLM)
    generalize strOfNums (putL ys n v) = SP at *
    generalize (putL ys n v).length = PL at *
    clear ownL ownL2 ownM gL gM orL orM hb1 hb2 hr hr1 hneLM hone hz hl
    go_upto_region 6 with fail
    refine wp_region_held_drew (S := fun _ => True) (by kernel_rfl) ?_ (fun hHeld => ?_)
    · trivial
    refine wpAnyH_take (i := 0) (oi := _) (v := ?_) (by simp only [List.getElem?_toArray, List.getElem?_cons_succ, List.getElem?_cons_zero]; rfl) (by kernel_rfl) (by kernel_rfl) (by kernel_rfl) (by intro _ _ _ h; exact h) (Or.inl ⟨by rfl, ?_⟩) (by assumption) ?_
    rotate_left
    · intro w hSw
      try dsimp only at hSw
      go_simp
      try with_reducible rfl
    try simp only [Act.put, List.setIfInBounds_toArray, List.set_cons_zero, List.set_cons_succ]
    refine wpAnyH_take (i := 1) (oi := _) (v := ?_) (by simp only [List.getElem?_toArray, List.getElem?_cons_succ, List.getElem?_cons_zero]; rfl) (by kernel_rfl) (by kernel_rfl) (by kernel_rfl) (by intro _ _ _ h; exact h) (Or.inl ⟨by rfl, ?_⟩) (by assumption) ?_
    rotate_left
    · intro w hSw
      try dsimp only at hSw
      go_simp
      try with_reducible rfl
    try simp only [Act.put, List.setIfInBounds_toArray, List.set_cons_zero, List.set_cons_succ]
    refine wpAnyH_take (i := 2) (oi := _) (v := ?_) (by simp only [List.getElem?_toArray, List.getElem?_cons_succ, List.getElem?_cons_zero]; rfl) (by kernel_rfl) (by kernel_rfl) (by kernel_rfl) (by intro _ _ _ h; exact h) (Or.inl ⟨by rfl, ?_⟩) (by assumption) ?_
    rotate_left
    · intro w hSw
      try dsimp only at hSw
      go_simp
      try with_reducible rfl
    try simp only [Act.put, List.setIfInBounds_toArray, List.set_cons_zero, List.set_cons_succ]
    refine wpAnyH_take (i := 5) (oi := _) (v := ?_) (by simp only [List.getElem?_toArray, List.getElem?_cons_succ, List.getElem?_cons_zero]; rfl) (by kernel_rfl) (by kernel_rfl) (by kernel_rfl) (by intro _ _ _ h; exact h) (Or.inl ⟨by rfl, ?_⟩) (by assumption) ?_
    rotate_left
    · intro w hSw
      try dsimp only at hSw
      go_simp
      try with_reducible rfl
    try simp only [Act.put, List.setIfInBounds_toArray, List.set_cons_zero, List.set_cons_succ]
    refine wpAnyH_take (i := 6) (oi := _) (v := ?_) (by simp only [List.getElem?_toArray, List.getElem?_cons_succ, List.getElem?_cons_zero]; rfl) (by kernel_rfl) (by kernel_rfl) (by kernel_rfl) (by intro _ _ _ h; exact h) (Or.inl ⟨by rfl, ?_⟩) (by assumption) ?_
    rotate_left
    · intro w hSw
      try dsimp only at hSw
      go_simp
      try with_reducible rfl
    try simp only [Act.put, List.setIfInBounds_toArray, List.set_cons_zero, List.set_cons_succ]
    refine wpAnyH_take (i := 7) (oi := _) (v := ?_) (by simp only [List.getElem?_toArray, List.getElem?_cons_succ, List.getElem?_cons_zero]; rfl) (by kernel_rfl) (by kernel_rfl) (by kernel_rfl) (by intro _ _ _ h; exact h) (Or.inl ⟨by rfl, ?_⟩) (by assumption) ?_
    rotate_left
    · intro w hSw
      try dsimp only at hSw
      go_simp
      try with_reducible rfl
    try simp only [Act.put, List.setIfInBounds_toArray, List.set_cons_zero, List.set_cons_succ]
    refine wpAnyH_ready (rs := [3]) (by kernel_rfl) (by simp) ?_
    refine AllReadyH.cons (o := _) (by simp only [List.getElem?_toArray, List.getElem?_cons_succ, List.getElem?_cons_zero]; rfl) (fun K hK => ?_) AllReadyH.nil
    go_simp
    refine HA.out.mono ?_
    rintro e wa ⟨A1, c1, rfl, hc1, HA2⟩
    go_wp2_with fail
    refine hK.out _ _ ?_ (fun hHeld => ?_)
    · trivial
    clear hK K
    try simp only [Act.put, List.setIfInBounds_toArray, List.set_cons_zero, List.set_cons_succ]
    refine wpAnyH_ready (rs := [4, 8]) (by kernel_rfl) (by simp) ?_
    refine AllReadyH.cons (o := _) (by simp only [List.getElem?_toArray, List.getElem?_cons_succ, List.getElem?_cons_zero]; rfl) (fun K hK => ?_) (AllReadyH.cons (o := _) (by simp only [List.getElem?_toArray, List.getElem?_cons_succ, List.getElem?_cons_zero]; rfl) (fun K hK => ?_) AllReadyH.nil)
    · go_simp
      refine hK.out _ _ ?_ (fun hHeld => ?_)
      · trivial
      clear hK K
      try simp only [Act.put, List.setIfInBounds_toArray, List.set_cons_zero, List.set_cons_succ]
      refine wpAnyH_ready (rs := [8]) (by kernel_rfl) (by simp) ?_
      refine AllReadyH.cons (o := _) (by simp only [List.getElem?_toArray, List.getElem?_cons_succ, List.getElem?_cons_zero]; rfl) (fun K hK => ?_) AllReadyH.nil
      go_simp
      refine HA2.mono ?_
      rintro e2 wb ⟨A2, c2, rfl, hd1, hd2, hblb⟩
      go_wp2_with fail
      refine hK.out _ _ ?_ (fun hHeld => ?_)
      · trivial
      clear hK K
      try simp only [Act.put, List.setIfInBounds_toArray, List.set_cons_zero, List.set_cons_succ]
      refine wpAnyH_ready (rs := [9]) (by kernel_rfl) (by simp) ?_
      refine AllReadyH.cons (o := _) (by simp only [List.getElem?_toArray, List.getElem?_cons_succ, List.getElem?_cons_zero]; rfl) (fun K hK => ?_) AllReadyH.nil
      go_simp
      refine hK.out _ _ ?_ (fun hHeld => ?_)
      · trivial
      clear hK K
      try simp only [Act.put, List.setIfInBounds_toArray, List.set_cons_zero, List.set_cons_succ]
      refine wpAnyH_take (i := 10) (oi := _) (v := ?_) (by simp only [List.getElem?_toArray, List.getElem?_cons_succ, List.getElem?_cons_zero]; rfl) (by kernel_rfl) (by kernel_rfl) (by kernel_rfl) (by intro _ _ _ h; exact h) (Or.inl ⟨by rfl, ?_⟩) (by assumption) ?_
      rotate_left
      · intro w hSw
        try dsimp only at hSw
        go_simp
        try with_reducible rfl
      try simp only [Act.put, List.setIfInBounds_toArray, List.set_cons_zero, List.set_cons_succ]
      refine wpAnyH_take (i := 11) (oi := _) (v := ?_) (by simp only [List.getElem?_toArray, List.getElem?_cons_succ, List.getElem?_cons_zero]; rfl) (by kernel_rfl) (by kernel_rfl) (by kernel_rfl) (by intro _ _ _ h; exact h) (Or.inl ⟨by rfl, ?_⟩) (by assumption) ?_
      rotate_left
      · intro w hSw
        try dsimp only at hSw
        go_simp
        try with_reducible rfl
      try simp only [Act.put, List.setIfInBounds_toArray, List.set_cons_zero, List.set_cons_succ]
      refine wpAnyH_ready (rs := [12]) (by kernel_rfl) (by simp) ?_
      refine AllReadyH.cons (o := _) (by simp only [List.getElem?_toArray, List.getElem?_cons_succ, List.getElem?_cons_zero]; rfl) (fun K hK => ?_) AllReadyH.nil
      go_simp
      refine (lives17 _).mono ?_
      rintro e3 wl ⟨rfl, hbl3⟩
      go_wp2_with fail
      refine hK.out _ _ ?_ (fun hHeld => ?_)
      · trivial
      clear hK K
      try simp only [Act.put, List.setIfInBounds_toArray, List.set_cons_zero, List.set_cons_succ]
      refine wpAnyH_take (i := 13) (oi := _) (v := ?_) (by simp only [List.getElem?_toArray, List.getElem?_cons_succ, List.getElem?_cons_zero]; rfl) (by kernel_rfl) (by kernel_rfl) (by kernel_rfl) (by intro _ _ _ h; exact h) (Or.inl ⟨by rfl, ?_⟩) (by assumption) ?_
      rotate_left
      · intro w hSw
        try dsimp only at hSw
        go_simp
        try with_reducible rfl
      try simp only [Act.put, List.setIfInBounds_toArray, List.set_cons_zero, List.set_cons_succ]
      refine wpAnyH_take (i := 14) (oi := _) (v := ?_) (by simp only [List.getElem?_toArray, List.getElem?_cons_succ, List.getElem?_cons_zero]; rfl) (by kernel_rfl) (by kernel_rfl) (by kernel_rfl) (by intro _ _ _ h; exact h) (Or.inl ⟨by rfl, ?_⟩) (by assumption) ?_
      rotate_left
      · intro w hSw
        try dsimp only at hSw
        go_simp
        try with_reducible rfl
      try simp only [Act.put, List.setIfInBounds_toArray, List.set_cons_zero, List.set_cons_succ]
      refine wpAnyH_done (by kernel_rfl) ?_ _
      go_wp2
      go_ret
      exact ⟨rfl, bthen hblb hbl3⟩
    · go_simp
      refine HA2.mono ?_
      rintro e2 wb ⟨A2, c2, rfl, hd1, hd2, hblb⟩
      go_wp2_with fail
      refine hK.out _ _ ?_ (fun hHeld => ?_)
      · trivial
      clear hK K
      try simp only [Act.put, List.setIfInBounds_toArray, List.set_cons_zero, List.set_cons_succ]
      refine wpAnyH_ready (rs := [4, 9]) (by kernel_rfl) (by simp) ?_
      refine AllReadyH.cons (o := _) (by simp only [List.getElem?_toArray, List.getElem?_cons_succ, List.getElem?_cons_zero]; rfl) (fun K hK => ?_) (AllReadyH.cons (o := _) (by simp only [List.getElem?_toArray, List.getElem?_cons_succ, List.getElem?_cons_zero]; rfl) (fun K hK => ?_) AllReadyH.nil)
      · go_simp
        refine hK.out _ _ ?_ (fun hHeld => ?_)
        · trivial
        clear hK K
        try simp only [Act.put, List.setIfInBounds_toArray, List.set_cons_zero, List.set_cons_succ]
        refine wpAnyH_ready (rs := [9]) (by kernel_rfl) (by simp) ?_
        refine AllReadyH.cons (o := _) (by simp only [List.getElem?_toArray, List.getElem?_cons_succ, List.getElem?_cons_zero]; rfl) (fun K hK => ?_) AllReadyH.nil
        go_simp
        refine hK.out _ _ ?_ (fun hHeld => ?_)
        · trivial
        clear hK K
        try simp only [Act.put, List.setIfInBounds_toArray, List.set_cons_zero, List.set_cons_succ]
        refine wpAnyH_take (i := 10) (oi := _) (v := ?_) (by simp only [List.getElem?_toArray, List.getElem?_cons_succ, List.getElem?_cons_zero]; rfl) (by kernel_rfl) (by kernel_rfl) (by kernel_rfl) (by intro _ _ _ h; exact h) (Or.inl ⟨by rfl, ?_⟩) (by assumption) ?_
        rotate_left
        · intro w hSw
          try dsimp only at hSw
          go_simp
          try with_reducible rfl
        try simp only [Act.put, List.setIfInBounds_toArray, List.set_cons_zero, List.set_cons_succ]
        refine wpAnyH_take (i := 11) (oi := _) (v := ?_) (by simp only [List.getElem?_toArray, List.getElem?_cons_succ, List.getElem?_cons_zero]; rfl) (by kernel_rfl) (by kernel_rfl) (by kernel_rfl) (by intro _ _ _ h; exact h) (Or.inl ⟨by rfl, ?_⟩) (by assumption) ?_
        rotate_left
        · intro w hSw
          try dsimp only at hSw
          go_simp
          try with_reducible rfl
        try simp only [Act.put, List.setIfInBounds_toArray, List.set_cons_zero, List.set_cons_succ]
        refine wpAnyH_ready (rs := [12]) (by kernel_rfl) (by simp) ?_
        refine AllReadyH.cons (o := _) (by simp only [List.getElem?_toArray, List.getElem?_cons_succ, List.getElem?_cons_zero]; rfl) (fun K hK => ?_) AllReadyH.nil
        go_simp
        refine (lives17 _).mono ?_
        rintro e3 wl ⟨rfl, hbl3⟩
        go_wp2_with fail
        refine hK.out _ _ ?_ (fun hHeld => ?_)
        · trivial
        clear hK K
        try simp only [Act.put, List.setIfInBounds_toArray, List.set_cons_zero, List.set_cons_succ]
        refine wpAnyH_take (i := 13) (oi := _) (v := ?_) (by simp only [List.getElem?_toArray, List.getElem?_cons_succ, List.getElem?_cons_zero]; rfl) (by kernel_rfl) (by kernel_rfl) (by kernel_rfl) (by intro _ _ _ h; exact h) (Or.inl ⟨by rfl, ?_⟩) (by assumption) ?_
        rotate_left
        · intro w hSw
          try dsimp only at hSw
          go_simp
          try with_reducible rfl
        try simp only [Act.put, List.setIfInBounds_toArray, List.set_cons_zero, List.set_cons_succ]
        refine wpAnyH_take (i := 14) (oi := _) (v := ?_) (by simp only [List.getElem?_toArray, List.getElem?_cons_succ, List.getElem?_cons_zero]; rfl) (by kernel_rfl) (by kernel_rfl) (by kernel_rfl) (by intro _ _ _ h; exact h) (Or.inl ⟨by rfl, ?_⟩) (by assumption) ?_
        rotate_left
        · intro w hSw
          try dsimp only at hSw
          go_simp
          try with_reducible rfl
        try simp only [Act.put, List.setIfInBounds_toArray, List.set_cons_zero, List.set_cons_succ]
        refine wpAnyH_done (by kernel_rfl) ?_ _
        go_wp2
        go_ret
        exact ⟨rfl, bthen hblb hbl3⟩
      · go_simp
        refine hK.out _ _ ?_ (fun hHeld => ?_)
        · trivial
        clear hK K
        try simp only [Act.put, List.setIfInBounds_toArray, List.set_cons_zero, List.set_cons_succ]
        refine wpAnyH_ready (rs := [4]) (by kernel_rfl) (by simp) ?_
        refine AllReadyH.cons (o := _) (by simp only [List.getElem?_toArray, List.getElem?_cons_succ, List.getElem?_cons_zero]; rfl) (fun K hK => ?_) AllReadyH.nil
        go_simp
        refine hK.out _ _ ?_ (fun hHeld => ?_)
        · trivial
        clear hK K
        try simp only [Act.put, List.setIfInBounds_toArray, List.set_cons_zero, List.set_cons_succ]
        refine wpAnyH_take (i := 10) (oi := _) (v := ?_) (by simp only [List.getElem?_toArray, List.getElem?_cons_succ, List.getElem?_cons_zero]; rfl) (by kernel_rfl) (by kernel_rfl) (by kernel_rfl) (by intro _ _ _ h; exact h) (Or.inl ⟨by rfl, ?_⟩) (by assumption) ?_
        rotate_left
        · intro w hSw
          try dsimp only at hSw
          go_simp
          try with_reducible rfl
        try simp only [Act.put, List.setIfInBounds_toArray, List.set_cons_zero, List.set_cons_succ]
        refine wpAnyH_take (i := 11) (oi := _) (v := ?_) (by simp only [List.getElem?_toArray, List.getElem?_cons_succ, List.getElem?_cons_zero]; rfl) (by kernel_rfl) (by kernel_rfl) (by kernel_rfl) (by intro _ _ _ h; exact h) (Or.inl ⟨by rfl, ?_⟩) (by assumption) ?_
        rotate_left
        · intro w hSw
          try dsimp only at hSw
          go_simp
          try with_reducible rfl
        try simp only [Act.put, List.setIfInBounds_toArray, List.set_cons_zero, List.set_cons_succ]
        refine wpAnyH_ready (rs := [12]) (by kernel_rfl) (by simp) ?_
        refine AllReadyH.cons (o := _) (by simp only [List.getElem?_toArray, List.getElem?_cons_succ, List.getElem?_cons_zero]; rfl) (fun K hK => ?_) AllReadyH.nil
        go_simp
        refine (lives17 _).mono ?_
        rintro e3 wl ⟨rfl, hbl3⟩
        go_wp2_with fail
        refine hK.out _ _ ?_ (fun hHeld => ?_)
        · trivial
        clear hK K
        try simp only [Act.put, List.setIfInBounds_toArray, List.set_cons_zero, List.set_cons_succ]
        refine wpAnyH_take (i := 13) (oi := _) (v := ?_) (by simp only [List.getElem?_toArray, List.getElem?_cons_succ, List.getElem?_cons_zero]; rfl) (by kernel_rfl) (by kernel_rfl) (by kernel_rfl) (by intro _ _ _ h; exact h) (Or.inl ⟨by rfl, ?_⟩) (by assumption) ?_
        rotate_left
        · intro w hSw
          try dsimp only at hSw
          go_simp
          try with_reducible rfl
        try simp only [Act.put, List.setIfInBounds_toArray, List.set_cons_zero, List.set_cons_succ]
        refine wpAnyH_take (i := 14) (oi := _) (v := ?_) (by simp only [List.getElem?_toArray, List.getElem?_cons_succ, List.getElem?_cons_zero]; rfl) (by kernel_rfl) (by kernel_rfl) (by kernel_rfl) (by intro _ _ _ h; exact h) (Or.inl ⟨by rfl, ?_⟩) (by assumption) ?_
        rotate_left
        · intro w hSw
          try dsimp only at hSw
          go_simp
          try with_reducible rfl
        try simp only [Act.put, List.setIfInBounds_toArray, List.set_cons_zero, List.set_cons_succ]
        refine wpAnyH_done (by kernel_rfl) ?_ _
        go_wp2
        go_ret
        exact ⟨rfl, bthen hblb hbl3⟩
  · have hcs : (1000 < (m : Int)) ∨ ((m : Int) ≤ 1000 ∧ v < -1000000000000) ∨ ((m : Int) ≤ 1000 ∧ -1000000000000 ≤ v ∧ 1000000000000 < v) := by omega
    go_enter Try.func3, Try.ntmps3
    rcases hcs with h | ⟨h, h2⟩ | ⟨h, h2, h3⟩
    all_goals
      go_wp2_with fail
      refine (lives17 _).mono ?_
      rintro e w3 ⟨rfl, hb3⟩
      go_wp2
      go_ret
      exact ⟨rfl, hb3⟩

end Go.Proofs.Ytpfojhmaeaeecaa
