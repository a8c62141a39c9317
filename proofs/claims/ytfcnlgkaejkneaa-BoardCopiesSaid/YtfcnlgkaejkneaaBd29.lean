/- Layer 11: the law's same, of two boards that stand alike. -/
import Derived.Test.YtfcnlgkaejkneaaBd28
import Derived.Deep.MidRow
namespace Go.Proofs.Ytfcnlgkaejkneaa
open Go.RowKit

/-- memory as one value -/
def memL (b : Bd) : List Value := (List.range 65536).map fun i => .int .u8 (b.M i)
def memC (b : Bd) : Array Value := (memL b).toArray
theorem memL_at (b : Bd) {j : Nat} {v : Value} (h : (memL b)[j]? = some v) : j < 65536 ∧ v = .int .u8 (b.M j) := by
  unfold memL at h
  simp only [List.getElem?_map, Option.map_eq_some_iff] at h
  obtain ⟨i, hi, rfl⟩ := h
  have hj : j < 65536 := by
    rcases Nat.lt_or_ge j 65536 with h9 | h9
    · exact h9
    · rw [List.getElem?_eq_none (by simpa using h9)] at hi; cases hi
  rw [List.getElem?_range hj] at hi
  injection hi with hi
  subst hi
  exact ⟨hj, rfl⟩
theorem memB_load {w : World} {g : Nat} {b : Bd} {A E : Value} (h : BdIs w g b A E) : (Instr.loadAt 28 (.pointer (some ⟨g, 0, none⟩))).run Try.prog w = .ok (.agg (memC b)) w :=
  run_loadAt_mid w g 0 28 (memL b) _ (fun j v hv => by
    obtain ⟨hj, rfl⟩ := memL_at b hv
    rw [Nat.zero_add]
    exact h.at_ (by omega) (bd_M hj)) Try.underlying28 rfl (by rw [show (memL b).length = 65536 by simp [memL]]; kernel_rfl)
theorem memX_load {w : World} {g : Nat} {b : Bd} {ph : Int} {D A E : Value} (h : DcIs w g b ph D A E) : (Instr.loadAt 28 (.pointer (some ⟨g, 1, none⟩))).run Try.prog w = .ok (.agg (memC b)) w :=
  run_loadAt_mid w g 1 28 (memL b) _ (fun j v hv => by
    obtain ⟨hj, rfl⟩ := memL_at b hv
    rw [Nat.add_comm]
    exact h.at_ (by omega) (dc_M hj)) Try.underlying28 rfl (by rw [show (memL b).length = 65536 by simp [memL]]; kernel_rfl)
theorem eqItems_mem (w : World) (b : Bd) : ∀ l : List Nat, (∀ i ∈ l, i < 65536) → (Op.eqItems 9999 5 1 (memC b) (memC b) l).run Try.prog w = .ok true w
  | [], _ => rfl
  | i :: l, h => by
    have hi := h i (by simp)
    have hc : (memC b)[i]? = some (.int .u8 (b.M i)) := by simp [memC, memL, hi]
    have hag : (isAgg 5).run Try.prog w = .ok false w := by
      unfold isAgg
      rw [Sem.run_bind, run_underlying Try.underlying5 w]
      rfl
    have hp : (part 5 (memC b) (i * 1)).run Try.prog w = .ok (.int .u8 (b.M i)) w := by
      unfold part
      rw [Sem.run_bind, hag, Nat.mul_one]
      simp [Result.andThen_ok, hc]
    have he : (Op.equalIn 9999 5 (.int .u8 (b.M i)) (.int .u8 (b.M i))).run Try.prog w = .ok true w := by
      rw [show (9999 : Nat) = 9998 + 1 from rfl, run_equalIn_int w 9998 5 .u8 .u8 _ _ Try.underlying5]
      simp
    have ih := eqItems_mem w b l fun j hj => h j (by simp [hj])
    simp only [Op.eqItems, Sem.run_bind, hp, he, Result.andThen_ok, Bool.not_true, Bool.false_eq_true, if_false]
    exact ih
theorem eqMem (w : World) (b : Bd) : (Op.equalIn 10000 28 (.agg (memC b)) (.agg (memC b))).run Try.prog w = .ok true w := by
  obtain ⟨i, hi⟩ : ∃ i, Try.prog.info? 5 = some i := Option.isSome_iff_exists.1 (by kernel_rfl)
  have hc : Try.prog.cellsOf 5 = 1 := by kernel_rfl
  rw [show (10000 : Nat) = 9999 + 1 from rfl, run_equalIn_array (P := Try.prog) (w := w) 9999 (memC b) (memC b) Try.underlying28 hi, hc]
  exact eqItems_mem w b _ fun j hj => List.mem_range.1 hj
theorem same_S {w' : World} {base g q P : Nat} {b : Bd} {al : List ActD} {es : List Int} {ph : Int} {zs : List Int} {A E D : Value} {XA XE : Option Addr} {xc xe : Nat} {mc : Array Value} (hmc : memC b = mc) (h : PAt w' base g q P ⟨b, al, es, b, ph, zs, al, es⟩ A E D (.slice XA al.length xc) (.slice XE es.length xe)) :
    w'.cell? ⟨P, 0, none⟩ = some (.pointer (some ⟨g, 0, none⟩)) ∧ w'.cell? ⟨P, 1, none⟩ = some (.pointer (some ⟨q, 0, none⟩)) ∧ w'.cell? ⟨q, 65537, none⟩ = some (.int .u64 b.t) ∧ w'.cell? ⟨q, 65547, none⟩ = some (.int .u8 b.bo) ∧ w'.cell? ⟨q, 65548, none⟩ = some (.bool b.mic) ∧ w'.cell? ⟨q, 65549, none⟩ = some (.bool b.spk) ∧ w'.cell? ⟨q, 65550, none⟩ = some (.slice XA al.length xc) ∧ w'.cell? ⟨q, 65551, none⟩ = some (.slice XE es.length xe) ∧ (Instr.loadAt 28 (.pointer (some ⟨g, 0, none⟩))).run Try.prog w' = .ok (.agg mc) w' ∧ (Instr.loadAt 28 (.pointer (some ⟨q, 1, none⟩))).run Try.prog w' = .ok (.agg mc) w' := by
  subst hmc
  exact ⟨(h.P.cell 0).trans rfl, (h.P.cell 1).trans rfl, h.X.bd.at_ (i := 65537) (by decide) dc_t, h.X.bd.at_ (i := 65547) (by decide) dc_bo, h.X.bd.at_ (i := 65548) (by decide) dc_mic, h.X.bd.at_ (i := 65549) (by decide) dc_spk, h.X.bd.at_ (i := 65550) (by decide) dc_A, h.X.bd.at_ (i := 65551) (by decide) dc_E, memB_load h.B.bd, memX_load h.X.bd⟩
theorem run_load_fact {o : Oper} {a : Act} {w : World} (ty : TypeId) (x : Operand) (ho : o.op = .load ty x) (pv : Value) (hx : a.eval x = pv) (v : Value) (h : (Instr.loadAt ty pv).run Try.prog w = .ok v w) : (execOp a.eval o).run Try.prog w = .ok (.value v) w := by
  unfold execOp
  simp only [ho, hx, Sem.run_bind, Sem.run_pure, Result.andThen_ok, h]

set_option maxRecDepth 100000 in
set_option maxHeartbeats 8000000 in
theorem same_ok (w : World) (base g q P : Nat) (s : PS) (A E D A' E' : Value) (h : PAt w base g q P s A E D A' E') (e : s.b1 = s.b2 ∧ s.al1 = s.al2 ∧ s.es1 = s.es2) (hal : s.al1.length ≤ 1000000) (hes : s.es1.length ≤ 1000000) :
    Calls Try.prog 23 #[.pointer (some ⟨P, 0, none⟩)] w fun x w' => x = .returned (.bool true) ∧ Below w.heap.size w w' := by
  obtain ⟨b, al, es, b2, ph, zs, al2, es2⟩ := s
  obtain ⟨e1, e2, e3⟩ := e
  simp only at e1 e2 e3 hal hes
  subst e1 e2 e3
  obtain ⟨XA, xc, rfl⟩ := own_slice h.X.acts
  obtain ⟨XE, xe, rfl⟩ := own_slice h.X.edges
  have heq := fun w' => eqMem w' b
  obtain ⟨mc, hmc⟩ : ∃ mc, memC b = mc := ⟨_, rfl⟩
  rw [hmc] at heq
  have HMC := Lib.hid hmc
  clear hmc
  have H0 := Lib.hid (h.kept (Below.refl _ _).drew)
  clear h
  have HB0 := Lib.hid (show Below w.heap.size w w.drew from (Below.refl _ _).drew)
  go_enter Try.func23, Try.ntmps23
  go_upto_region 1 with fail
  refine wp_region_held_drew (S := fun w' => w'.cell? ⟨P, 0, none⟩ = some (.pointer (some ⟨g, 0, none⟩)) ∧ w'.cell? ⟨P, 1, none⟩ = some (.pointer (some ⟨q, 0, none⟩)) ∧ w'.cell? ⟨q, 65537, none⟩ = some (.int .u64 b.t) ∧ w'.cell? ⟨q, 65547, none⟩ = some (.int .u8 b.bo) ∧ w'.cell? ⟨q, 65548, none⟩ = some (.bool b.mic) ∧ w'.cell? ⟨q, 65549, none⟩ = some (.bool b.spk) ∧ w'.cell? ⟨q, 65550, none⟩ = some (.slice XA al.length xc) ∧ w'.cell? ⟨q, 65551, none⟩ = some (.slice XE es.length xe) ∧ (Instr.loadAt 28 (.pointer (some ⟨g, 0, none⟩))).run Try.prog w' = .ok (.agg mc) w' ∧ (Instr.loadAt 28 (.pointer (some ⟨q, 1, none⟩))).run Try.prog w' = .ok (.agg mc) w') (by kernel_rfl) ?_ (fun hHeld => ?_)
  · exact same_S HMC.out H0.out
  generalize w.drew = V at *
  refine wpAnyH_take (i := 0) (oi := _) (v := ?_) (by simp only [List.getElem?_toArray]; rfl) (by decide +kernel) (by decide +kernel) (by decide +kernel) (by intro _ _ _ h; exact h) (Or.inl ⟨by rfl, ?_⟩) (by assumption) ?_
  rotate_left
  · intro w hSw
    try dsimp only at hSw
    obtain ⟨q0, q1, xT, xB, xM, xS, xA, xE, l1, l2⟩ := hSw
    go_simp
    try with_reducible rfl
  try simp only [Act.put, List.setIfInBounds_toArray, List.set_cons_zero, List.set_cons_succ]
  refine wpAnyH_take (i := 1) (oi := _) (v := ?_) (by simp only [List.getElem?_toArray]; rfl) (by decide +kernel) (by decide +kernel) (by decide +kernel) (by intro _ _ _ h; exact h) (Or.inl ⟨by rfl, ?_⟩) (by assumption) ?_
  rotate_left
  · intro w hSw
    try dsimp only at hSw
    obtain ⟨q0, q1, xT, xB, xM, xS, xA, xE, l1, l2⟩ := hSw
    go_simp
    try with_reducible rfl
  try simp only [Act.put, List.setIfInBounds_toArray, List.set_cons_zero, List.set_cons_succ]
  refine wpAnyH_take (i := 2) (oi := _) (v := ?_) (by simp only [List.getElem?_toArray]; rfl) (by decide +kernel) (by decide +kernel) (by decide +kernel) (by intro _ _ _ h; exact h) (Or.inl ⟨by rfl, ?_⟩) (by assumption) ?_
  rotate_left
  · intro w hSw
    try dsimp only at hSw
    obtain ⟨q0, q1, xT, xB, xM, xS, xA, xE, l1, l2⟩ := hSw
    go_simp
    try with_reducible rfl
  try simp only [Act.put, List.setIfInBounds_toArray, List.set_cons_zero, List.set_cons_succ]
  refine wpAnyH_take (i := 3) (oi := _) (v := ?_) (by simp only [List.getElem?_toArray]; rfl) (by decide +kernel) (by decide +kernel) (by decide +kernel) (by intro _ _ _ h; exact h) (Or.inl ⟨by rfl, ?_⟩) (by assumption) ?_
  rotate_left
  · intro w hSw
    try dsimp only at hSw
    obtain ⟨q0, q1, xT, xB, xM, xS, xA, xE, l1, l2⟩ := hSw
    go_simp
    try with_reducible rfl
  try simp only [Act.put, List.setIfInBounds_toArray, List.set_cons_zero, List.set_cons_succ]
  refine wpAnyH_take (i := 5) (oi := _) (v := ?_) (by simp only [List.getElem?_toArray]; rfl) (by decide +kernel) (by decide +kernel) (by decide +kernel) (by intro _ _ _ h; exact h) (Or.inl ⟨by rfl, ?_⟩) (by assumption) ?_
  rotate_left
  · intro w hSw
    try dsimp only at hSw
    obtain ⟨q0, q1, xT, xB, xM, xS, xA, xE, l1, l2⟩ := hSw
    go_simp
    try with_reducible rfl
  try simp only [Act.put, List.setIfInBounds_toArray, List.set_cons_zero, List.set_cons_succ]
  refine wpAnyH_take (i := 6) (oi := _) (v := ?_) (by simp only [List.getElem?_toArray]; rfl) (by decide +kernel) (by decide +kernel) (by decide +kernel) (by intro _ _ _ h; exact h) (Or.inl ⟨by rfl, ?_⟩) (by assumption) ?_
  rotate_left
  · intro w hSw
    try dsimp only at hSw
    obtain ⟨q0, q1, xT, xB, xM, xS, xA, xE, l1, l2⟩ := hSw
    go_simp
    try with_reducible rfl
  try simp only [Act.put, List.setIfInBounds_toArray, List.set_cons_zero, List.set_cons_succ]
  refine wpAnyH_take (i := 7) (oi := _) (v := ?_) (by simp only [List.getElem?_toArray]; rfl) (by decide +kernel) (by decide +kernel) (by decide +kernel) (by intro _ _ _ h; exact h) (Or.inl ⟨by rfl, ?_⟩) (by assumption) ?_
  rotate_left
  · intro w hSw
    try dsimp only at hSw
    obtain ⟨q0, q1, xT, xB, xM, xS, xA, xE, l1, l2⟩ := hSw
    go_simp
    try with_reducible rfl
  try simp only [Act.put, List.setIfInBounds_toArray, List.set_cons_zero, List.set_cons_succ]
  refine wpAnyH_take (i := 8) (oi := _) (v := ?_) (by simp only [List.getElem?_toArray]; rfl) (by decide +kernel) (by decide +kernel) (by decide +kernel) (by intro _ _ _ h; exact h) (Or.inl ⟨by rfl, ?_⟩) (by assumption) ?_
  rotate_left
  · intro w hSw
    try dsimp only at hSw
    obtain ⟨q0, q1, xT, xB, xM, xS, xA, xE, l1, l2⟩ := hSw
    go_simp
    try with_reducible rfl
  try simp only [Act.put, List.setIfInBounds_toArray, List.set_cons_zero, List.set_cons_succ]
  refine wpAnyH_take (i := 9) (oi := _) (v := ?_) (by simp only [List.getElem?_toArray]; rfl) (by decide +kernel) (by decide +kernel) (by decide +kernel) (by intro _ _ _ h; exact h) (Or.inl ⟨by rfl, ?_⟩) (by assumption) ?_
  rotate_left
  · intro w hSw
    try dsimp only at hSw
    obtain ⟨q0, q1, xT, xB, xM, xS, xA, xE, l1, l2⟩ := hSw
    go_simp
    try with_reducible rfl
  try simp only [Act.put, List.setIfInBounds_toArray, List.set_cons_zero, List.set_cons_succ]
  refine wpAnyH_take (i := 10) (oi := _) (v := ?_) (by simp only [List.getElem?_toArray]; rfl) (by decide +kernel) (by decide +kernel) (by decide +kernel) (by intro _ _ _ h; exact h) (Or.inl ⟨by rfl, ?_⟩) (by assumption) ?_
  rotate_left
  · intro w hSw
    try dsimp only at hSw
    obtain ⟨q0, q1, xT, xB, xM, xS, xA, xE, l1, l2⟩ := hSw
    go_simp
    try with_reducible rfl
  try simp only [Act.put, List.setIfInBounds_toArray, List.set_cons_zero, List.set_cons_succ]
  refine wpAnyH_take (i := 11) (oi := _) (v := ?_) (by simp only [List.getElem?_toArray]; rfl) (by decide +kernel) (by decide +kernel) (by decide +kernel) (by intro _ _ _ h; exact h) (Or.inl ⟨by rfl, ?_⟩) (by assumption) ?_
  rotate_left
  · intro w hSw
    try dsimp only at hSw
    obtain ⟨q0, q1, xT, xB, xM, xS, xA, xE, l1, l2⟩ := hSw
    go_simp
    try with_reducible rfl
  try simp only [Act.put, List.setIfInBounds_toArray, List.set_cons_zero, List.set_cons_succ]
  refine wpAnyH_ready (rs := [4]) (by decide +kernel) (by simp) ?_
  refine AllReadyH.cons (o := _) (by simp only [List.getElem?_toArray]; rfl) (fun K hK => ?_) AllReadyH.nil
  go_simp
  go_wp2_with fail
  refine (bT_any V g b A E H0.out.B.bd).mono ?_
  rintro x w' ⟨rfl, rfl⟩
  refine hK.out _ _ ?_ (fun hHeld => ?_)
  · exact same_S HMC.out H0.out
  clear hK K
  try simp only [Act.put, List.setIfInBounds_toArray, List.set_cons_zero, List.set_cons_succ]
  refine wpAnyH_take (i := 12) (oi := _) (v := ?_) (by simp only [List.getElem?_toArray]; rfl) (by decide +kernel) (by decide +kernel) (by decide +kernel) (by intro _ _ _ h; exact h) (Or.inl ⟨by rfl, ?_⟩) (by assumption) ?_
  rotate_left
  · intro w hSw
    try dsimp only at hSw
    obtain ⟨q0, q1, xT, xB, xM, xS, xA, xE, l1, l2⟩ := hSw
    go_simp
    try with_reducible rfl
  try simp only [Act.put, List.setIfInBounds_toArray, List.set_cons_zero, List.set_cons_succ]
  refine wpAnyH_take (i := 13) (oi := _) (v := ?_) (by simp only [List.getElem?_toArray]; rfl) (by decide +kernel) (by decide +kernel) (by decide +kernel) (by intro _ _ _ h; exact h) (Or.inl ⟨by rfl, ?_⟩) (by assumption) ?_
  rotate_left
  · intro w hSw
    try dsimp only at hSw
    obtain ⟨q0, q1, xT, xB, xM, xS, xA, xE, l1, l2⟩ := hSw
    go_simp
    try with_reducible rfl
  try simp only [Act.put, List.setIfInBounds_toArray, List.set_cons_zero, List.set_cons_succ]
  refine wpAnyH_take (i := 14) (oi := _) (v := ?_) (by simp only [List.getElem?_toArray]; rfl) (by decide +kernel) (by decide +kernel) (by decide +kernel) (by intro _ _ _ h; exact h) (Or.inl ⟨by rfl, ?_⟩) (by assumption) ?_
  rotate_left
  · intro w hSw
    try dsimp only at hSw
    obtain ⟨q0, q1, xT, xB, xM, xS, xA, xE, l1, l2⟩ := hSw
    go_simp
    try with_reducible rfl
  try simp only [Act.put, List.setIfInBounds_toArray, List.set_cons_zero, List.set_cons_succ]
  refine wpAnyH_take (i := 15) (oi := _) (v := ?_) (by simp only [List.getElem?_toArray]; rfl) (by decide +kernel) (by decide +kernel) (by decide +kernel) (by intro _ _ _ h; exact h) (Or.inl ⟨by rfl, ?_⟩) (by assumption) ?_
  rotate_left
  · intro w hSw
    try dsimp only at hSw
    obtain ⟨q0, q1, xT, xB, xM, xS, xA, xE, l1, l2⟩ := hSw
    go_simp
    try with_reducible rfl
  try simp only [Act.put, List.setIfInBounds_toArray, List.set_cons_zero, List.set_cons_succ]
  refine wpAnyH_take (i := 16) (oi := _) (v := ?_) (by simp only [List.getElem?_toArray]; rfl) (by decide +kernel) (by decide +kernel) (by decide +kernel) (by intro _ _ _ h; exact h) (Or.inl ⟨by rfl, ?_⟩) (by assumption) ?_
  rotate_left
  · intro w hSw
    try dsimp only at hSw
    obtain ⟨q0, q1, xT, xB, xM, xS, xA, xE, l1, l2⟩ := hSw
    go_simp
    try with_reducible rfl
  try simp only [Act.put, List.setIfInBounds_toArray, List.set_cons_zero, List.set_cons_succ]
  refine wpAnyH_take (i := 17) (oi := _) (v := ?_) (by simp only [List.getElem?_toArray]; rfl) (by decide +kernel) (by decide +kernel) (by decide +kernel) (by intro _ _ _ h; exact h) (Or.inl ⟨by rfl, ?_⟩) (by assumption) ?_
  rotate_left
  · intro w hSw
    try dsimp only at hSw
    obtain ⟨q0, q1, xT, xB, xM, xS, xA, xE, l1, l2⟩ := hSw
    go_simp
    try with_reducible rfl
  try simp only [Act.put, List.setIfInBounds_toArray, List.set_cons_zero, List.set_cons_succ]
  refine wpAnyH_take (i := 19) (oi := _) (v := ?_) (by simp only [List.getElem?_toArray]; rfl) (by decide +kernel) (by decide +kernel) (by decide +kernel) (by intro _ _ _ h; exact h) (Or.inl ⟨by rfl, ?_⟩) (by assumption) ?_
  rotate_left
  · intro w hSw
    try dsimp only at hSw
    obtain ⟨q0, q1, xT, xB, xM, xS, xA, xE, l1, l2⟩ := hSw
    go_simp
    try with_reducible rfl
  try simp only [Act.put, List.setIfInBounds_toArray, List.set_cons_zero, List.set_cons_succ]
  refine wpAnyH_take (i := 20) (oi := _) (v := ?_) (by simp only [List.getElem?_toArray]; rfl) (by decide +kernel) (by decide +kernel) (by decide +kernel) (by intro _ _ _ h; exact h) (Or.inl ⟨by rfl, ?_⟩) (by assumption) ?_
  rotate_left
  · intro w hSw
    try dsimp only at hSw
    obtain ⟨q0, q1, xT, xB, xM, xS, xA, xE, l1, l2⟩ := hSw
    go_simp
    try with_reducible rfl
  try simp only [Act.put, List.setIfInBounds_toArray, List.set_cons_zero, List.set_cons_succ]
  refine wpAnyH_take (i := 21) (oi := _) (v := ?_) (by simp only [List.getElem?_toArray]; rfl) (by decide +kernel) (by decide +kernel) (by decide +kernel) (by intro _ _ _ h; exact h) (Or.inl ⟨by rfl, ?_⟩) (by assumption) ?_
  rotate_left
  · intro w hSw
    try dsimp only at hSw
    obtain ⟨q0, q1, xT, xB, xM, xS, xA, xE, l1, l2⟩ := hSw
    go_simp
    try with_reducible rfl
  try simp only [Act.put, List.setIfInBounds_toArray, List.set_cons_zero, List.set_cons_succ]
  refine wpAnyH_take (i := 22) (oi := _) (v := ?_) (by simp only [List.getElem?_toArray]; rfl) (by decide +kernel) (by decide +kernel) (by decide +kernel) (by intro _ _ _ h; exact h) (Or.inl ⟨by rfl, ?_⟩) (by assumption) ?_
  rotate_left
  · intro w hSw
    try dsimp only at hSw
    obtain ⟨q0, q1, xT, xB, xM, xS, xA, xE, l1, l2⟩ := hSw
    go_simp
    try with_reducible rfl
  try simp only [Act.put, List.setIfInBounds_toArray, List.set_cons_zero, List.set_cons_succ]
  refine wpAnyH_take (i := 23) (oi := _) (v := ?_) (by simp only [List.getElem?_toArray]; rfl) (by decide +kernel) (by decide +kernel) (by decide +kernel) (by intro _ _ _ h; exact h) (Or.inl ⟨by rfl, ?_⟩) (by assumption) ?_
  rotate_left
  · intro w hSw
    try dsimp only at hSw
    obtain ⟨q0, q1, xT, xB, xM, xS, xA, xE, l1, l2⟩ := hSw
    go_simp
    try with_reducible rfl
  try simp only [Act.put, List.setIfInBounds_toArray, List.set_cons_zero, List.set_cons_succ]
  refine wpAnyH_take (i := 24) (oi := _) (v := ?_) (by simp only [List.getElem?_toArray]; rfl) (by decide +kernel) (by decide +kernel) (by decide +kernel) (by intro _ _ _ h; exact h) (Or.inl ⟨by rfl, ?_⟩) (by assumption) ?_
  rotate_left
  · intro w hSw
    try dsimp only at hSw
    obtain ⟨q0, q1, xT, xB, xM, xS, xA, xE, l1, l2⟩ := hSw
    go_simp
    try with_reducible rfl
  try simp only [Act.put, List.setIfInBounds_toArray, List.set_cons_zero, List.set_cons_succ]
  refine wpAnyH_take (i := 25) (oi := _) (v := ?_) (by simp only [List.getElem?_toArray]; rfl) (by decide +kernel) (by decide +kernel) (by decide +kernel) (by intro _ _ _ h; exact h) (Or.inl ⟨by rfl, ?_⟩) (by assumption) ?_
  rotate_left
  · intro w hSw
    try dsimp only at hSw
    obtain ⟨q0, q1, xT, xB, xM, xS, xA, xE, l1, l2⟩ := hSw
    go_simp
    try with_reducible rfl
  try simp only [Act.put, List.setIfInBounds_toArray, List.set_cons_zero, List.set_cons_succ]
  refine wpAnyH_ready (rs := [18]) (by decide +kernel) (by simp) ?_
  refine AllReadyH.cons (o := _) (by simp only [List.getElem?_toArray]; rfl) (fun K hK => ?_) AllReadyH.nil
  go_simp
  go_wp2_with fail
  refine (bBorder_any V g b A E H0.out.B.bd).mono ?_
  rintro x w' ⟨rfl, rfl⟩
  refine hK.out _ _ ?_ (fun hHeld => ?_)
  · exact same_S HMC.out H0.out
  clear hK K
  try simp only [Act.put, List.setIfInBounds_toArray, List.set_cons_zero, List.set_cons_succ]
  refine wpAnyH_take (i := 26) (oi := _) (v := ?_) (by simp only [List.getElem?_toArray]; rfl) (by decide +kernel) (by decide +kernel) (by decide +kernel) (by intro _ _ _ h; exact h) (Or.inl ⟨by rfl, ?_⟩) (by assumption) ?_
  rotate_left
  · intro w hSw
    try dsimp only at hSw
    obtain ⟨q0, q1, xT, xB, xM, xS, xA, xE, l1, l2⟩ := hSw
    go_simp
    try with_reducible rfl
  try simp only [Act.put, List.setIfInBounds_toArray, List.set_cons_zero, List.set_cons_succ]
  refine wpAnyH_take (i := 27) (oi := _) (v := ?_) (by simp only [List.getElem?_toArray]; rfl) (by decide +kernel) (by decide +kernel) (by decide +kernel) (by intro _ _ _ h; exact h) (Or.inl ⟨by rfl, ?_⟩) (by assumption) ?_
  rotate_left
  · intro w hSw
    try dsimp only at hSw
    obtain ⟨q0, q1, xT, xB, xM, xS, xA, xE, l1, l2⟩ := hSw
    go_simp
    try with_reducible rfl
  try simp only [Act.put, List.setIfInBounds_toArray, List.set_cons_zero, List.set_cons_succ]
  refine wpAnyH_take (i := 28) (oi := _) (v := ?_) (by simp only [List.getElem?_toArray]; rfl) (by decide +kernel) (by decide +kernel) (by decide +kernel) (by intro _ _ _ h; exact h) (Or.inl ⟨by rfl, ?_⟩) (by assumption) ?_
  rotate_left
  · intro w hSw
    try dsimp only at hSw
    obtain ⟨q0, q1, xT, xB, xM, xS, xA, xE, l1, l2⟩ := hSw
    go_simp
    try with_reducible rfl
  try simp only [Act.put, List.setIfInBounds_toArray, List.set_cons_zero, List.set_cons_succ]
  refine wpAnyH_take (i := 29) (oi := _) (v := ?_) (by simp only [List.getElem?_toArray]; rfl) (by decide +kernel) (by decide +kernel) (by decide +kernel) (by intro _ _ _ h; exact h) (Or.inl ⟨by rfl, ?_⟩) (by assumption) ?_
  rotate_left
  · intro w hSw
    try dsimp only at hSw
    obtain ⟨q0, q1, xT, xB, xM, xS, xA, xE, l1, l2⟩ := hSw
    go_simp
    try with_reducible rfl
  try simp only [Act.put, List.setIfInBounds_toArray, List.set_cons_zero, List.set_cons_succ]
  refine wpAnyH_take (i := 30) (oi := _) (v := ?_) (by simp only [List.getElem?_toArray]; rfl) (by decide +kernel) (by decide +kernel) (by decide +kernel) (by intro _ _ _ h; exact h) (Or.inl ⟨by rfl, ?_⟩) (by assumption) ?_
  rotate_left
  · intro w hSw
    try dsimp only at hSw
    obtain ⟨q0, q1, xT, xB, xM, xS, xA, xE, l1, l2⟩ := hSw
    go_simp
    try with_reducible rfl
  try simp only [Act.put, List.setIfInBounds_toArray, List.set_cons_zero, List.set_cons_succ]
  refine wpAnyH_take (i := 31) (oi := _) (v := ?_) (by simp only [List.getElem?_toArray]; rfl) (by decide +kernel) (by decide +kernel) (by decide +kernel) (by intro _ _ _ h; exact h) (Or.inl ⟨by rfl, ?_⟩) (by assumption) ?_
  rotate_left
  · intro w hSw
    try dsimp only at hSw
    obtain ⟨q0, q1, xT, xB, xM, xS, xA, xE, l1, l2⟩ := hSw
    go_simp
    try with_reducible rfl
  try simp only [Act.put, List.setIfInBounds_toArray, List.set_cons_zero, List.set_cons_succ]
  refine wpAnyH_take (i := 32) (oi := _) (v := ?_) (by simp only [List.getElem?_toArray]; rfl) (by decide +kernel) (by decide +kernel) (by decide +kernel) (by intro _ _ _ h; exact h) (Or.inl ⟨by rfl, ?_⟩) (by assumption) ?_
  rotate_left
  · intro w hSw
    try dsimp only at hSw
    obtain ⟨q0, q1, xT, xB, xM, xS, xA, xE, l1, l2⟩ := hSw
    go_simp
    try with_reducible rfl
  try simp only [Act.put, List.setIfInBounds_toArray, List.set_cons_zero, List.set_cons_succ]
  refine wpAnyH_take (i := 34) (oi := _) (v := ?_) (by simp only [List.getElem?_toArray]; rfl) (by decide +kernel) (by decide +kernel) (by decide +kernel) (by intro _ _ _ h; exact h) (Or.inl ⟨by rfl, ?_⟩) (by assumption) ?_
  rotate_left
  · intro w hSw
    try dsimp only at hSw
    obtain ⟨q0, q1, xT, xB, xM, xS, xA, xE, l1, l2⟩ := hSw
    go_simp
    try with_reducible rfl
  try simp only [Act.put, List.setIfInBounds_toArray, List.set_cons_zero, List.set_cons_succ]
  refine wpAnyH_take (i := 35) (oi := _) (v := ?_) (by simp only [List.getElem?_toArray]; rfl) (by decide +kernel) (by decide +kernel) (by decide +kernel) (by intro _ _ _ h; exact h) (Or.inl ⟨by rfl, ?_⟩) (by assumption) ?_
  rotate_left
  · intro w hSw
    try dsimp only at hSw
    obtain ⟨q0, q1, xT, xB, xM, xS, xA, xE, l1, l2⟩ := hSw
    go_simp
    try with_reducible rfl
  try simp only [Act.put, List.setIfInBounds_toArray, List.set_cons_zero, List.set_cons_succ]
  refine wpAnyH_take (i := 36) (oi := _) (v := ?_) (by simp only [List.getElem?_toArray]; rfl) (by decide +kernel) (by decide +kernel) (by decide +kernel) (by intro _ _ _ h; exact h) (Or.inl ⟨by rfl, ?_⟩) (by assumption) ?_
  rotate_left
  · intro w hSw
    try dsimp only at hSw
    obtain ⟨q0, q1, xT, xB, xM, xS, xA, xE, l1, l2⟩ := hSw
    go_simp
    try with_reducible rfl
  try simp only [Act.put, List.setIfInBounds_toArray, List.set_cons_zero, List.set_cons_succ]
  refine wpAnyH_take (i := 37) (oi := _) (v := ?_) (by simp only [List.getElem?_toArray]; rfl) (by decide +kernel) (by decide +kernel) (by decide +kernel) (by intro _ _ _ h; exact h) (Or.inl ⟨by rfl, ?_⟩) (by assumption) ?_
  rotate_left
  · intro w hSw
    try dsimp only at hSw
    obtain ⟨q0, q1, xT, xB, xM, xS, xA, xE, l1, l2⟩ := hSw
    go_simp
    try with_reducible rfl
  try simp only [Act.put, List.setIfInBounds_toArray, List.set_cons_zero, List.set_cons_succ]
  refine wpAnyH_take (i := 38) (oi := _) (v := ?_) (by simp only [List.getElem?_toArray]; rfl) (by decide +kernel) (by decide +kernel) (by decide +kernel) (by intro _ _ _ h; exact h) (Or.inl ⟨by rfl, ?_⟩) (by assumption) ?_
  rotate_left
  · intro w hSw
    try dsimp only at hSw
    obtain ⟨q0, q1, xT, xB, xM, xS, xA, xE, l1, l2⟩ := hSw
    go_simp
    try with_reducible rfl
  try simp only [Act.put, List.setIfInBounds_toArray, List.set_cons_zero, List.set_cons_succ]
  refine wpAnyH_take (i := 39) (oi := _) (v := ?_) (by simp only [List.getElem?_toArray]; rfl) (by decide +kernel) (by decide +kernel) (by decide +kernel) (by intro _ _ _ h; exact h) (Or.inl ⟨by rfl, ?_⟩) (by assumption) ?_
  rotate_left
  · intro w hSw
    try dsimp only at hSw
    obtain ⟨q0, q1, xT, xB, xM, xS, xA, xE, l1, l2⟩ := hSw
    go_simp
    try with_reducible rfl
  try simp only [Act.put, List.setIfInBounds_toArray, List.set_cons_zero, List.set_cons_succ]
  refine wpAnyH_take (i := 40) (oi := _) (v := ?_) (by simp only [List.getElem?_toArray]; rfl) (by decide +kernel) (by decide +kernel) (by decide +kernel) (by intro _ _ _ h; exact h) (Or.inl ⟨by rfl, ?_⟩) (by assumption) ?_
  rotate_left
  · intro w hSw
    try dsimp only at hSw
    obtain ⟨q0, q1, xT, xB, xM, xS, xA, xE, l1, l2⟩ := hSw
    go_simp
    try with_reducible rfl
  try simp only [Act.put, List.setIfInBounds_toArray, List.set_cons_zero, List.set_cons_succ]
  refine wpAnyH_ready (rs := [33]) (by decide +kernel) (by simp) ?_
  refine AllReadyH.cons (o := _) (by simp only [List.getElem?_toArray]; rfl) (fun K hK => ?_) AllReadyH.nil
  go_simp
  go_wp2_with fail
  refine (bMic_any V g b A E H0.out.B.bd).mono ?_
  rintro x w' ⟨rfl, rfl⟩
  refine hK.out _ _ ?_ (fun hHeld => ?_)
  · exact same_S HMC.out H0.out
  clear hK K
  try simp only [Act.put, List.setIfInBounds_toArray, List.set_cons_zero, List.set_cons_succ]
  refine wpAnyH_take (i := 41) (oi := _) (v := ?_) (by simp only [List.getElem?_toArray]; rfl) (by decide +kernel) (by decide +kernel) (by decide +kernel) (by intro _ _ _ h; exact h) (Or.inl ⟨by rfl, ?_⟩) (by assumption) ?_
  rotate_left
  · intro w hSw
    try dsimp only at hSw
    obtain ⟨q0, q1, xT, xB, xM, xS, xA, xE, l1, l2⟩ := hSw
    go_simp
    try with_reducible rfl
  try simp only [Act.put, List.setIfInBounds_toArray, List.set_cons_zero, List.set_cons_succ]
  refine wpAnyH_take (i := 42) (oi := _) (v := ?_) (by simp only [List.getElem?_toArray]; rfl) (by decide +kernel) (by decide +kernel) (by decide +kernel) (by intro _ _ _ h; exact h) (Or.inl ⟨by rfl, ?_⟩) (by assumption) ?_
  rotate_left
  · intro w hSw
    try dsimp only at hSw
    obtain ⟨q0, q1, xT, xB, xM, xS, xA, xE, l1, l2⟩ := hSw
    go_simp
    try with_reducible rfl
  try simp only [Act.put, List.setIfInBounds_toArray, List.set_cons_zero, List.set_cons_succ]
  refine wpAnyH_take (i := 43) (oi := _) (v := ?_) (by simp only [List.getElem?_toArray]; rfl) (by decide +kernel) (by decide +kernel) (by decide +kernel) (by intro _ _ _ h; exact h) (Or.inl ⟨by rfl, ?_⟩) (by assumption) ?_
  rotate_left
  · intro w hSw
    try dsimp only at hSw
    obtain ⟨q0, q1, xT, xB, xM, xS, xA, xE, l1, l2⟩ := hSw
    go_simp
    try with_reducible rfl
  try simp only [Act.put, List.setIfInBounds_toArray, List.set_cons_zero, List.set_cons_succ]
  refine wpAnyH_take (i := 44) (oi := _) (v := ?_) (by simp only [List.getElem?_toArray]; rfl) (by decide +kernel) (by decide +kernel) (by decide +kernel) (by intro _ _ _ h; exact h) (Or.inl ⟨by rfl, ?_⟩) (by assumption) ?_
  rotate_left
  · intro w hSw
    try dsimp only at hSw
    obtain ⟨q0, q1, xT, xB, xM, xS, xA, xE, l1, l2⟩ := hSw
    go_simp
    try with_reducible rfl
  try simp only [Act.put, List.setIfInBounds_toArray, List.set_cons_zero, List.set_cons_succ]
  refine wpAnyH_take (i := 45) (oi := _) (v := ?_) (by simp only [List.getElem?_toArray]; rfl) (by decide +kernel) (by decide +kernel) (by decide +kernel) (by intro _ _ _ h; exact h) (Or.inl ⟨by rfl, ?_⟩) (by assumption) ?_
  rotate_left
  · intro w hSw
    try dsimp only at hSw
    obtain ⟨q0, q1, xT, xB, xM, xS, xA, xE, l1, l2⟩ := hSw
    go_simp
    try with_reducible rfl
  try simp only [Act.put, List.setIfInBounds_toArray, List.set_cons_zero, List.set_cons_succ]
  refine wpAnyH_take (i := 46) (oi := _) (v := ?_) (by simp only [List.getElem?_toArray]; rfl) (by decide +kernel) (by decide +kernel) (by decide +kernel) (by intro _ _ _ h; exact h) (Or.inl ⟨by rfl, ?_⟩) (by assumption) ?_
  rotate_left
  · intro w hSw
    try dsimp only at hSw
    obtain ⟨q0, q1, xT, xB, xM, xS, xA, xE, l1, l2⟩ := hSw
    go_simp
    try with_reducible rfl
  try simp only [Act.put, List.setIfInBounds_toArray, List.set_cons_zero, List.set_cons_succ]
  refine wpAnyH_take (i := 47) (oi := _) (v := ?_) (by simp only [List.getElem?_toArray]; rfl) (by decide +kernel) (by decide +kernel) (by decide +kernel) (by intro _ _ _ h; exact h) (Or.inl ⟨by rfl, ?_⟩) (by assumption) ?_
  rotate_left
  · intro w hSw
    try dsimp only at hSw
    obtain ⟨q0, q1, xT, xB, xM, xS, xA, xE, l1, l2⟩ := hSw
    go_simp
    try with_reducible rfl
  try simp only [Act.put, List.setIfInBounds_toArray, List.set_cons_zero, List.set_cons_succ]
  refine wpAnyH_take (i := 49) (oi := _) (v := ?_) (by simp only [List.getElem?_toArray]; rfl) (by decide +kernel) (by decide +kernel) (by decide +kernel) (by intro _ _ _ h; exact h) (Or.inl ⟨by rfl, ?_⟩) (by assumption) ?_
  rotate_left
  · intro w hSw
    try dsimp only at hSw
    obtain ⟨q0, q1, xT, xB, xM, xS, xA, xE, l1, l2⟩ := hSw
    go_simp
    try with_reducible rfl
  try simp only [Act.put, List.setIfInBounds_toArray, List.set_cons_zero, List.set_cons_succ]
  refine wpAnyH_take (i := 50) (oi := _) (v := ?_) (by simp only [List.getElem?_toArray]; rfl) (by decide +kernel) (by decide +kernel) (by decide +kernel) (by intro _ _ _ h; exact h) (Or.inl ⟨by rfl, ?_⟩) (by assumption) ?_
  rotate_left
  · intro w hSw
    try dsimp only at hSw
    obtain ⟨q0, q1, xT, xB, xM, xS, xA, xE, l1, l2⟩ := hSw
    go_simp
    try with_reducible rfl
  try simp only [Act.put, List.setIfInBounds_toArray, List.set_cons_zero, List.set_cons_succ]
  refine wpAnyH_take (i := 51) (oi := _) (v := ?_) (by simp only [List.getElem?_toArray]; rfl) (by decide +kernel) (by decide +kernel) (by decide +kernel) (by intro _ _ _ h; exact h) (Or.inl ⟨by rfl, ?_⟩) (by assumption) ?_
  rotate_left
  · intro w hSw
    try dsimp only at hSw
    obtain ⟨q0, q1, xT, xB, xM, xS, xA, xE, l1, l2⟩ := hSw
    go_simp
    try with_reducible rfl
  try simp only [Act.put, List.setIfInBounds_toArray, List.set_cons_zero, List.set_cons_succ]
  refine wpAnyH_take (i := 52) (oi := _) (v := ?_) (by simp only [List.getElem?_toArray]; rfl) (by decide +kernel) (by decide +kernel) (by decide +kernel) (by intro _ _ _ h; exact h) (Or.inl ⟨by rfl, ?_⟩) (by assumption) ?_
  rotate_left
  · intro w hSw
    try dsimp only at hSw
    obtain ⟨q0, q1, xT, xB, xM, xS, xA, xE, l1, l2⟩ := hSw
    go_simp
    try with_reducible rfl
  try simp only [Act.put, List.setIfInBounds_toArray, List.set_cons_zero, List.set_cons_succ]
  refine wpAnyH_take (i := 53) (oi := _) (v := ?_) (by simp only [List.getElem?_toArray]; rfl) (by decide +kernel) (by decide +kernel) (by decide +kernel) (by intro _ _ _ h; exact h) (Or.inl ⟨by rfl, ?_⟩) (by assumption) ?_
  rotate_left
  · intro w hSw
    try dsimp only at hSw
    obtain ⟨q0, q1, xT, xB, xM, xS, xA, xE, l1, l2⟩ := hSw
    go_simp
    try with_reducible rfl
  try simp only [Act.put, List.setIfInBounds_toArray, List.set_cons_zero, List.set_cons_succ]
  refine wpAnyH_take (i := 54) (oi := _) (v := ?_) (by simp only [List.getElem?_toArray]; rfl) (by decide +kernel) (by decide +kernel) (by decide +kernel) (by intro _ _ _ h; exact h) (Or.inl ⟨by rfl, ?_⟩) (by assumption) ?_
  rotate_left
  · intro w hSw
    try dsimp only at hSw
    obtain ⟨q0, q1, xT, xB, xM, xS, xA, xE, l1, l2⟩ := hSw
    go_simp
    try with_reducible rfl
  try simp only [Act.put, List.setIfInBounds_toArray, List.set_cons_zero, List.set_cons_succ]
  refine wpAnyH_take (i := 55) (oi := _) (v := ?_) (by simp only [List.getElem?_toArray]; rfl) (by decide +kernel) (by decide +kernel) (by decide +kernel) (by intro _ _ _ h; exact h) (Or.inl ⟨by rfl, ?_⟩) (by assumption) ?_
  rotate_left
  · intro w hSw
    try dsimp only at hSw
    obtain ⟨q0, q1, xT, xB, xM, xS, xA, xE, l1, l2⟩ := hSw
    go_simp
    try with_reducible rfl
  try simp only [Act.put, List.setIfInBounds_toArray, List.set_cons_zero, List.set_cons_succ]
  refine wpAnyH_ready (rs := [48]) (by decide +kernel) (by simp) ?_
  refine AllReadyH.cons (o := _) (by simp only [List.getElem?_toArray]; rfl) (fun K hK => ?_) AllReadyH.nil
  go_simp
  go_wp2_with fail
  refine (bSpk_any V g b A E H0.out.B.bd).mono ?_
  rintro x w' ⟨rfl, rfl⟩
  refine hK.out _ _ ?_ (fun hHeld => ?_)
  · exact same_S HMC.out H0.out
  clear hK K
  try simp only [Act.put, List.setIfInBounds_toArray, List.set_cons_zero, List.set_cons_succ]
  refine wpAnyH_take (i := 56) (oi := _) (v := ?_) (by simp only [List.getElem?_toArray]; rfl) (by decide +kernel) (by decide +kernel) (by decide +kernel) (by intro _ _ _ h; exact h) (Or.inl ⟨by rfl, ?_⟩) (by assumption) ?_
  rotate_left
  · intro w hSw
    try dsimp only at hSw
    obtain ⟨q0, q1, xT, xB, xM, xS, xA, xE, l1, l2⟩ := hSw
    go_simp
    try with_reducible rfl
  try simp only [Act.put, List.setIfInBounds_toArray, List.set_cons_zero, List.set_cons_succ]
  refine wpAnyH_take (i := 57) (oi := _) (v := ?_) (by simp only [List.getElem?_toArray]; rfl) (by decide +kernel) (by decide +kernel) (by decide +kernel) (by intro _ _ _ h; exact h) (Or.inl ⟨by rfl, ?_⟩) (by assumption) ?_
  rotate_left
  · intro w hSw
    try dsimp only at hSw
    obtain ⟨q0, q1, xT, xB, xM, xS, xA, xE, l1, l2⟩ := hSw
    go_simp
    try with_reducible rfl
  try simp only [Act.put, List.setIfInBounds_toArray, List.set_cons_zero, List.set_cons_succ]
  refine wpAnyH_take (i := 58) (oi := _) (v := ?_) (by simp only [List.getElem?_toArray]; rfl) (by decide +kernel) (by decide +kernel) (by decide +kernel) (by intro _ _ _ h; exact h) (Or.inl ⟨by rfl, ?_⟩) (by assumption) ?_
  rotate_left
  · intro w hSw
    try dsimp only at hSw
    obtain ⟨q0, q1, xT, xB, xM, xS, xA, xE, l1, l2⟩ := hSw
    go_simp
    try with_reducible rfl
  try simp only [Act.put, List.setIfInBounds_toArray, List.set_cons_zero, List.set_cons_succ]
  refine wpAnyH_take (i := 59) (oi := _) (v := ?_) (by simp only [List.getElem?_toArray]; rfl) (by decide +kernel) (by decide +kernel) (by decide +kernel) (by intro _ _ _ h; exact h) (Or.inl ⟨by rfl, ?_⟩) (by assumption) ?_
  rotate_left
  · intro w hSw
    try dsimp only at hSw
    obtain ⟨q0, q1, xT, xB, xM, xS, xA, xE, l1, l2⟩ := hSw
    go_simp
    try with_reducible rfl
  try simp only [Act.put, List.setIfInBounds_toArray, List.set_cons_zero, List.set_cons_succ]
  refine wpAnyH_take (i := 60) (oi := _) (v := ?_) (by simp only [List.getElem?_toArray]; rfl) (by decide +kernel) (by decide +kernel) (by decide +kernel) (by intro _ _ _ h; exact h) (Or.inl ⟨by rfl, ?_⟩) (by assumption) ?_
  rotate_left
  · intro w hSw
    try dsimp only at hSw
    obtain ⟨q0, q1, xT, xB, xM, xS, xA, xE, l1, l2⟩ := hSw
    go_simp
    try with_reducible rfl
  try simp only [Act.put, List.setIfInBounds_toArray, List.set_cons_zero, List.set_cons_succ]
  refine wpAnyH_take (i := 61) (oi := _) (v := ?_) (by simp only [List.getElem?_toArray]; rfl) (by decide +kernel) (by decide +kernel) (by decide +kernel) (by intro _ _ _ h; exact h) (Or.inl ⟨by rfl, ?_⟩) (by assumption) ?_
  rotate_left
  · intro w hSw
    try dsimp only at hSw
    obtain ⟨q0, q1, xT, xB, xM, xS, xA, xE, l1, l2⟩ := hSw
    go_simp
    try with_reducible rfl
  try simp only [Act.put, List.setIfInBounds_toArray, List.set_cons_zero, List.set_cons_succ]
  refine wpAnyH_take (i := 62) (oi := _) (v := ?_) (by simp only [List.getElem?_toArray]; rfl) (by decide +kernel) (by decide +kernel) (by decide +kernel) (by intro _ _ _ h; exact h) (Or.inl ⟨by rfl, ?_⟩) (by assumption) ?_
  rotate_left
  · intro w hSw
    try dsimp only at hSw
    obtain ⟨q0, q1, xT, xB, xM, xS, xA, xE, l1, l2⟩ := hSw
    go_simp
    try with_reducible rfl
  try simp only [Act.put, List.setIfInBounds_toArray, List.set_cons_zero, List.set_cons_succ]
  refine wpAnyH_take (i := 64) (oi := _) (v := ?_) (by simp only [List.getElem?_toArray]; rfl) (by decide +kernel) (by decide +kernel) (by decide +kernel) (by intro _ _ _ h; exact h) (Or.inl ⟨by rfl, ?_⟩) (by assumption) ?_
  rotate_left
  · intro w hSw
    try dsimp only at hSw
    obtain ⟨q0, q1, xT, xB, xM, xS, xA, xE, l1, l2⟩ := hSw
    go_simp
    try with_reducible rfl
  try simp only [Act.put, List.setIfInBounds_toArray, List.set_cons_zero, List.set_cons_succ]
  refine wpAnyH_take (i := 65) (oi := _) (v := ?_) (by simp only [List.getElem?_toArray]; rfl) (by decide +kernel) (by decide +kernel) (by decide +kernel) (by intro _ _ _ h; exact h) (Or.inl ⟨by rfl, ?_⟩) (by assumption) ?_
  rotate_left
  · intro w hSw
    try dsimp only at hSw
    obtain ⟨q0, q1, xT, xB, xM, xS, xA, xE, l1, l2⟩ := hSw
    go_simp
    try with_reducible rfl
  try simp only [Act.put, List.setIfInBounds_toArray, List.set_cons_zero, List.set_cons_succ]
  refine wpAnyH_take (i := 66) (oi := _) (v := ?_) (by simp only [List.getElem?_toArray]; rfl) (by decide +kernel) (by decide +kernel) (by decide +kernel) (by intro _ _ _ h; exact h) (Or.inl ⟨by rfl, ?_⟩) (by assumption) ?_
  rotate_left
  · intro w hSw
    try dsimp only at hSw
    obtain ⟨q0, q1, xT, xB, xM, xS, xA, xE, l1, l2⟩ := hSw
    go_simp
    try with_reducible rfl
  try simp only [Act.put, List.setIfInBounds_toArray, List.set_cons_zero, List.set_cons_succ]
  refine wpAnyH_take (i := 67) (oi := _) (v := ?_) (by simp only [List.getElem?_toArray]; rfl) (by decide +kernel) (by decide +kernel) (by decide +kernel) (by intro _ _ _ h; exact h) (Or.inl ⟨by rfl, ?_⟩) (by assumption) ?_
  rotate_left
  · intro w hSw
    try dsimp only at hSw
    obtain ⟨q0, q1, xT, xB, xM, xS, xA, xE, l1, l2⟩ := hSw
    go_simp
    try with_reducible rfl
  try simp only [Act.put, List.setIfInBounds_toArray, List.set_cons_zero, List.set_cons_succ]
  refine wpAnyH_take (i := 68) (oi := _) (v := ?_) (by simp only [List.getElem?_toArray]; rfl) (by decide +kernel) (by decide +kernel) (by decide +kernel) (by intro _ _ _ h; exact h) (Or.inl ⟨by rfl, ?_⟩) (by assumption) ?_
  rotate_left
  · intro w hSw
    try dsimp only at hSw
    obtain ⟨q0, q1, xT, xB, xM, xS, xA, xE, l1, l2⟩ := hSw
    go_simp
    try with_reducible rfl
  try simp only [Act.put, List.setIfInBounds_toArray, List.set_cons_zero, List.set_cons_succ]
  refine wpAnyH_take (i := 69) (oi := _) (v := ?_) (by simp only [List.getElem?_toArray]; rfl) (by decide +kernel) (by decide +kernel) (by decide +kernel) (by intro _ _ _ h; exact h) (Or.inl ⟨by rfl, ?_⟩) (by assumption) ?_
  rotate_left
  · intro w hSw
    try dsimp only at hSw
    obtain ⟨q0, q1, xT, xB, xM, xS, xA, xE, l1, l2⟩ := hSw
    go_simp
    try with_reducible rfl
  try simp only [Act.put, List.setIfInBounds_toArray, List.set_cons_zero, List.set_cons_succ]
  refine wpAnyH_take (i := 70) (oi := _) (v := ?_) (by simp only [List.getElem?_toArray]; rfl) (by decide +kernel) (by decide +kernel) (by decide +kernel) (by intro _ _ _ h; exact h) (Or.inl ⟨by rfl, ?_⟩) (by assumption) ?_
  rotate_left
  · intro w hSw
    try dsimp only at hSw
    obtain ⟨q0, q1, xT, xB, xM, xS, xA, xE, l1, l2⟩ := hSw
    go_simp
    try with_reducible rfl
  try simp only [Act.put, List.setIfInBounds_toArray, List.set_cons_zero, List.set_cons_succ]
  refine wpAnyH_ready (rs := [63]) (by decide +kernel) (by simp) ?_
  refine AllReadyH.cons (o := _) (by simp only [List.getElem?_toArray]; rfl) (fun K hK => ?_) AllReadyH.nil
  go_simp
  go_wp2_with fail
  refine (bActs_any V base g b al es A E H0.out.B hal).mono ?_
  rintro x w1 ⟨VA, cV, rfl, own1, hb1⟩
  have h1 := H0.out.kept hb1
  have HS := Lib.hid (sameA_any w1 VA XA al.length cV xc al (Reads.of_own own1) (Reads.of_own h1.X.acts) hal)
  have H1 := Lib.hid (And.intro h1 (HB0.out.trans (hb1.mono HB0.out.size)))
  clear h1 own1 hb1 H0 HB0
  refine hK.out _ _ ?_ (fun hHeld => ?_)
  · exact same_S HMC.out H1.out.1
  clear hK K
  try simp only [Act.put, List.setIfInBounds_toArray, List.set_cons_zero, List.set_cons_succ]
  refine wpAnyH_ready (rs := [71]) (by decide +kernel) (by simp) ?_
  refine AllReadyH.cons (o := _) (by simp only [List.getElem?_toArray]; rfl) (fun K hK => ?_) AllReadyH.nil
  go_simp
  go_wp2_with fail
  refine HS.out.mono ?_
  rintro x w2 ⟨rfl, hb2⟩
  have H2 := Lib.hid (And.intro (H1.out.1.kept hb2) (H1.out.2.trans (hb2.mono H1.out.2.size)))
  clear hb2 H1 HS
  refine hK.out _ _ ?_ (fun hHeld => ?_)
  · exact same_S HMC.out H2.out.1
  clear hK K
  try simp only [Act.put, List.setIfInBounds_toArray, List.set_cons_zero, List.set_cons_succ]
  refine wpAnyH_take (i := 72) (oi := _) (v := ?_) (by simp only [List.getElem?_toArray]; rfl) (by decide +kernel) (by decide +kernel) (by decide +kernel) (by intro _ _ _ h; exact h) (Or.inl ⟨by rfl, ?_⟩) (by assumption) ?_
  rotate_left
  · intro w hSw
    try dsimp only at hSw
    obtain ⟨q0, q1, xT, xB, xM, xS, xA, xE, l1, l2⟩ := hSw
    go_simp
    try with_reducible rfl
  try simp only [Act.put, List.setIfInBounds_toArray, List.set_cons_zero, List.set_cons_succ]
  refine wpAnyH_take (i := 73) (oi := _) (v := ?_) (by simp only [List.getElem?_toArray]; rfl) (by decide +kernel) (by decide +kernel) (by decide +kernel) (by intro _ _ _ h; exact h) (Or.inl ⟨by rfl, ?_⟩) (by assumption) ?_
  rotate_left
  · intro w hSw
    try dsimp only at hSw
    obtain ⟨q0, q1, xT, xB, xM, xS, xA, xE, l1, l2⟩ := hSw
    go_simp
    try with_reducible rfl
  try simp only [Act.put, List.setIfInBounds_toArray, List.set_cons_zero, List.set_cons_succ]
  refine wpAnyH_take (i := 74) (oi := _) (v := ?_) (by simp only [List.getElem?_toArray]; rfl) (by decide +kernel) (by decide +kernel) (by decide +kernel) (by intro _ _ _ h; exact h) (Or.inl ⟨by rfl, ?_⟩) (by assumption) ?_
  rotate_left
  · intro w hSw
    try dsimp only at hSw
    obtain ⟨q0, q1, xT, xB, xM, xS, xA, xE, l1, l2⟩ := hSw
    go_simp
    try with_reducible rfl
  try simp only [Act.put, List.setIfInBounds_toArray, List.set_cons_zero, List.set_cons_succ]
  refine wpAnyH_take (i := 75) (oi := _) (v := ?_) (by simp only [List.getElem?_toArray]; rfl) (by decide +kernel) (by decide +kernel) (by decide +kernel) (by intro _ _ _ h; exact h) (Or.inl ⟨by rfl, ?_⟩) (by assumption) ?_
  rotate_left
  · intro w hSw
    try dsimp only at hSw
    obtain ⟨q0, q1, xT, xB, xM, xS, xA, xE, l1, l2⟩ := hSw
    go_simp
    try with_reducible rfl
  try simp only [Act.put, List.setIfInBounds_toArray, List.set_cons_zero, List.set_cons_succ]
  refine wpAnyH_take (i := 76) (oi := _) (v := ?_) (by simp only [List.getElem?_toArray]; rfl) (by decide +kernel) (by decide +kernel) (by decide +kernel) (by intro _ _ _ h; exact h) (Or.inl ⟨by rfl, ?_⟩) (by assumption) ?_
  rotate_left
  · intro w hSw
    try dsimp only at hSw
    obtain ⟨q0, q1, xT, xB, xM, xS, xA, xE, l1, l2⟩ := hSw
    go_simp
    try with_reducible rfl
  try simp only [Act.put, List.setIfInBounds_toArray, List.set_cons_zero, List.set_cons_succ]
  refine wpAnyH_take (i := 77) (oi := _) (v := ?_) (by simp only [List.getElem?_toArray]; rfl) (by decide +kernel) (by decide +kernel) (by decide +kernel) (by intro _ _ _ h; exact h) (Or.inl ⟨by rfl, ?_⟩) (by assumption) ?_
  rotate_left
  · intro w hSw
    try dsimp only at hSw
    obtain ⟨q0, q1, xT, xB, xM, xS, xA, xE, l1, l2⟩ := hSw
    go_simp
    try with_reducible rfl
  try simp only [Act.put, List.setIfInBounds_toArray, List.set_cons_zero, List.set_cons_succ]
  refine wpAnyH_take (i := 78) (oi := _) (v := ?_) (by simp only [List.getElem?_toArray]; rfl) (by decide +kernel) (by decide +kernel) (by decide +kernel) (by intro _ _ _ h; exact h) (Or.inl ⟨by rfl, ?_⟩) (by assumption) ?_
  rotate_left
  · intro w hSw
    try dsimp only at hSw
    obtain ⟨q0, q1, xT, xB, xM, xS, xA, xE, l1, l2⟩ := hSw
    go_simp
    try with_reducible rfl
  try simp only [Act.put, List.setIfInBounds_toArray, List.set_cons_zero, List.set_cons_succ]
  refine wpAnyH_take (i := 80) (oi := _) (v := ?_) (by simp only [List.getElem?_toArray]; rfl) (by decide +kernel) (by decide +kernel) (by decide +kernel) (by intro _ _ _ h; exact h) (Or.inl ⟨by rfl, ?_⟩) (by assumption) ?_
  rotate_left
  · intro w hSw
    try dsimp only at hSw
    obtain ⟨q0, q1, xT, xB, xM, xS, xA, xE, l1, l2⟩ := hSw
    go_simp
    try with_reducible rfl
  try simp only [Act.put, List.setIfInBounds_toArray, List.set_cons_zero, List.set_cons_succ]
  refine wpAnyH_take (i := 81) (oi := _) (v := ?_) (by simp only [List.getElem?_toArray]; rfl) (by decide +kernel) (by decide +kernel) (by decide +kernel) (by intro _ _ _ h; exact h) (Or.inl ⟨by rfl, ?_⟩) (by assumption) ?_
  rotate_left
  · intro w hSw
    try dsimp only at hSw
    obtain ⟨q0, q1, xT, xB, xM, xS, xA, xE, l1, l2⟩ := hSw
    go_simp
    try with_reducible rfl
  try simp only [Act.put, List.setIfInBounds_toArray, List.set_cons_zero, List.set_cons_succ]
  refine wpAnyH_take (i := 82) (oi := _) (v := ?_) (by simp only [List.getElem?_toArray]; rfl) (by decide +kernel) (by decide +kernel) (by decide +kernel) (by intro _ _ _ h; exact h) (Or.inl ⟨by rfl, ?_⟩) (by assumption) ?_
  rotate_left
  · intro w hSw
    try dsimp only at hSw
    obtain ⟨q0, q1, xT, xB, xM, xS, xA, xE, l1, l2⟩ := hSw
    go_simp
    try with_reducible rfl
  try simp only [Act.put, List.setIfInBounds_toArray, List.set_cons_zero, List.set_cons_succ]
  refine wpAnyH_take (i := 83) (oi := _) (v := ?_) (by simp only [List.getElem?_toArray]; rfl) (by decide +kernel) (by decide +kernel) (by decide +kernel) (by intro _ _ _ h; exact h) (Or.inl ⟨by rfl, ?_⟩) (by assumption) ?_
  rotate_left
  · intro w hSw
    try dsimp only at hSw
    obtain ⟨q0, q1, xT, xB, xM, xS, xA, xE, l1, l2⟩ := hSw
    go_simp
    try with_reducible rfl
  try simp only [Act.put, List.setIfInBounds_toArray, List.set_cons_zero, List.set_cons_succ]
  refine wpAnyH_take (i := 84) (oi := _) (v := ?_) (by simp only [List.getElem?_toArray]; rfl) (by decide +kernel) (by decide +kernel) (by decide +kernel) (by intro _ _ _ h; exact h) (Or.inl ⟨by rfl, ?_⟩) (by assumption) ?_
  rotate_left
  · intro w hSw
    try dsimp only at hSw
    obtain ⟨q0, q1, xT, xB, xM, xS, xA, xE, l1, l2⟩ := hSw
    go_simp
    try with_reducible rfl
  try simp only [Act.put, List.setIfInBounds_toArray, List.set_cons_zero, List.set_cons_succ]
  refine wpAnyH_take (i := 85) (oi := _) (v := ?_) (by simp only [List.getElem?_toArray]; rfl) (by decide +kernel) (by decide +kernel) (by decide +kernel) (by intro _ _ _ h; exact h) (Or.inl ⟨by rfl, ?_⟩) (by assumption) ?_
  rotate_left
  · intro w hSw
    try dsimp only at hSw
    obtain ⟨q0, q1, xT, xB, xM, xS, xA, xE, l1, l2⟩ := hSw
    go_simp
    try with_reducible rfl
  try simp only [Act.put, List.setIfInBounds_toArray, List.set_cons_zero, List.set_cons_succ]
  refine wpAnyH_take (i := 86) (oi := _) (v := ?_) (by simp only [List.getElem?_toArray]; rfl) (by decide +kernel) (by decide +kernel) (by decide +kernel) (by intro _ _ _ h; exact h) (Or.inl ⟨by rfl, ?_⟩) (by assumption) ?_
  rotate_left
  · intro w hSw
    try dsimp only at hSw
    obtain ⟨q0, q1, xT, xB, xM, xS, xA, xE, l1, l2⟩ := hSw
    go_simp
    try with_reducible rfl
  try simp only [Act.put, List.setIfInBounds_toArray, List.set_cons_zero, List.set_cons_succ]
  refine wpAnyH_ready (rs := [79]) (by decide +kernel) (by simp) ?_
  refine AllReadyH.cons (o := _) (by simp only [List.getElem?_toArray]; rfl) (fun K hK => ?_) AllReadyH.nil
  go_simp
  go_wp2_with fail
  refine (bEdges_any w2 base g b al es A E H2.out.1.B hes).mono ?_
  rintro x w3 ⟨V3, c3, rfl, own3, hb3⟩
  have h3 := H2.out.1.kept hb3
  have HS := Lib.hid (sameT_any w3 V3 XE es.length c3 xe es (Reads.of_own own3) (Reads.of_own h3.X.edges) hes)
  have H3 := Lib.hid (And.intro h3 (H2.out.2.trans (hb3.mono H2.out.2.size)))
  clear h3 own3 hb3 H2
  refine hK.out _ _ ?_ (fun hHeld => ?_)
  · exact same_S HMC.out H3.out.1
  clear hK K
  try simp only [Act.put, List.setIfInBounds_toArray, List.set_cons_zero, List.set_cons_succ]
  refine wpAnyH_ready (rs := [87]) (by decide +kernel) (by simp) ?_
  refine AllReadyH.cons (o := _) (by simp only [List.getElem?_toArray]; rfl) (fun K hK => ?_) AllReadyH.nil
  go_simp
  go_wp2_with fail
  refine HS.out.mono ?_
  rintro x w4 ⟨rfl, hb4⟩
  have H4 := Lib.hid (And.intro (H3.out.1.kept hb4) (H3.out.2.trans (hb4.mono H3.out.2.size)))
  clear hb4 H3 HS
  refine hK.out _ _ ?_ (fun hHeld => ?_)
  · exact same_S HMC.out H4.out.1
  clear hK K
  try simp only [Act.put, List.setIfInBounds_toArray, List.set_cons_zero, List.set_cons_succ]
  refine wpAnyH_take (i := 88) (oi := _) (v := ?_) (by simp only [List.getElem?_toArray]; rfl) (by decide +kernel) (by decide +kernel) (by decide +kernel) (by intro _ _ _ h; exact h) (Or.inl ⟨by rfl, ?_⟩) (by assumption) ?_
  rotate_left
  · intro w hSw
    try dsimp only at hSw
    obtain ⟨q0, q1, xT, xB, xM, xS, xA, xE, l1, l2⟩ := hSw
    go_simp
    try with_reducible rfl
  try simp only [Act.put, List.setIfInBounds_toArray, List.set_cons_zero, List.set_cons_succ]
  refine wpAnyH_take (i := 89) (oi := _) (v := ?_) (by simp only [List.getElem?_toArray]; rfl) (by decide +kernel) (by decide +kernel) (by decide +kernel) (by intro _ _ _ h; exact h) (Or.inl ⟨by rfl, ?_⟩) (by assumption) ?_
  rotate_left
  · intro w hSw
    try dsimp only at hSw
    obtain ⟨q0, q1, xT, xB, xM, xS, xA, xE, l1, l2⟩ := hSw
    go_simp
    try with_reducible rfl
  try simp only [Act.put, List.setIfInBounds_toArray, List.set_cons_zero, List.set_cons_succ]
  refine wpAnyH_take (i := 90) (oi := _) (v := ?_) (by simp only [List.getElem?_toArray]; rfl) (by decide +kernel) (by decide +kernel) (by decide +kernel) (by intro _ _ _ h; exact h) (Or.inl ⟨by rfl, ?_⟩) (by assumption) ?_
  rotate_left
  · intro w hSw
    try dsimp only at hSw
    obtain ⟨q0, q1, xT, xB, xM, xS, xA, xE, l1, l2⟩ := hSw
    go_simp
    try with_reducible rfl
  try simp only [Act.put, List.setIfInBounds_toArray, List.set_cons_zero, List.set_cons_succ]
  refine wpAnyH_take (i := 91) (oi := _) (v := ?_) (by simp only [List.getElem?_toArray]; rfl) (by decide +kernel) (by decide +kernel) (by decide +kernel) (by intro _ _ _ h; exact h) (Or.inl ⟨by rfl, ?_⟩) (by assumption) ?_
  rotate_left
  · intro w hSw
    try dsimp only at hSw
    obtain ⟨q0, q1, xT, xB, xM, xS, xA, xE, l1, l2⟩ := hSw
    go_simp
    try with_reducible rfl
  try simp only [Act.put, List.setIfInBounds_toArray, List.set_cons_zero, List.set_cons_succ]
  refine wpAnyH_take (i := 92) (oi := _) (v := ?_) (by simp only [List.getElem?_toArray]; rfl) (by decide +kernel) (by decide +kernel) (by decide +kernel) (by intro _ _ _ h; exact h) (Or.inl ⟨by rfl, ?_⟩) (by assumption) ?_
  rotate_left
  · intro w hSw
    try dsimp only at hSw
    obtain ⟨q0, q1, xT, xB, xM, xS, xA, xE, l1, l2⟩ := hSw
    go_simp
    try with_reducible rfl
  try simp only [Act.put, List.setIfInBounds_toArray, List.set_cons_zero, List.set_cons_succ]
  refine wpAnyH_take (i := 93) (oi := _) (v := ?_) (by simp only [List.getElem?_toArray]; rfl) (by decide +kernel) (by decide +kernel) (by decide +kernel) (by intro _ _ _ h; exact h) (Or.inl ⟨by rfl, ?_⟩) (by assumption) ?_
  rotate_left
  · intro w hSw
    try dsimp only at hSw
    obtain ⟨q0, q1, xT, xB, xM, xS, xA, xE, l1, l2⟩ := hSw
    go_simp
    try with_reducible rfl
  try simp only [Act.put, List.setIfInBounds_toArray, List.set_cons_zero, List.set_cons_succ]
  refine wpAnyH_take (i := 94) (oi := _) (v := ?_) (by simp only [List.getElem?_toArray]; rfl) (by decide +kernel) (by decide +kernel) (by decide +kernel) (by intro _ _ _ h; exact h) (Or.inl ⟨by rfl, ?_⟩) (by assumption) ?_
  rotate_left
  · intro w hSw
    try dsimp only at hSw
    obtain ⟨q0, q1, xT, xB, xM, xS, xA, xE, l1, l2⟩ := hSw
    go_simp
    try with_reducible rfl
  try simp only [Act.put, List.setIfInBounds_toArray, List.set_cons_zero, List.set_cons_succ]
  refine wpAnyH_take (i := 95) (oi := _) (v := ?_) (by simp only [List.getElem?_toArray]; rfl) (by decide +kernel) (by decide +kernel) (by decide +kernel) (by intro _ _ _ h; exact h) (Or.inl ⟨by rfl, ?_⟩) (by assumption) ?_
  rotate_left
  · intro w hSw
    try dsimp only at hSw
    obtain ⟨q0, q1, xT, xB, xM, xS, xA, xE, l1, l2⟩ := hSw
    go_simp
    try with_reducible rfl
  try simp only [Act.put, List.setIfInBounds_toArray, List.set_cons_zero, List.set_cons_succ]
  refine wpAnyH_take (i := 96) (oi := _) (v := ?_) (by simp only [List.getElem?_toArray]; rfl) (by decide +kernel) (by decide +kernel) (by decide +kernel) (by intro _ _ _ h; exact h) (Or.inl ⟨by rfl, ?_⟩) (by assumption) ?_
  rotate_left
  · intro w hSw
    try dsimp only at hSw
    obtain ⟨q0, q1, xT, xB, xM, xS, xA, xE, l1, l2⟩ := hSw
    go_simp
    try with_reducible rfl
  try simp only [Act.put, List.setIfInBounds_toArray, List.set_cons_zero, List.set_cons_succ]
  refine wpAnyH_take (i := 97) (oi := _) (v := .agg mc) (by simp only [List.getElem?_toArray]; rfl) (by decide +kernel) (by decide +kernel) (by decide +kernel) (by intro _ _ _ h; exact h) (Or.inl ⟨by rfl, ?_⟩) (by assumption) ?_
  skip
  · intro w hSw
    try dsimp only at hSw
    obtain ⟨q0, q1, xT, xB, xM, xS, xA, xE, l1, l2⟩ := hSw
    refine run_load_fact 28 (.tmp 101) ?_ _ ?_ _ l1 <;> rfl
  try simp only [Act.put, List.setIfInBounds_toArray, List.set_cons_zero, List.set_cons_succ]
  refine wpAnyH_take (i := 98) (oi := _) (v := ?_) (by simp only [List.getElem?_toArray]; rfl) (by decide +kernel) (by decide +kernel) (by decide +kernel) (by intro _ _ _ h; exact h) (Or.inl ⟨by rfl, ?_⟩) (by assumption) ?_
  rotate_left
  · intro w hSw
    try dsimp only at hSw
    obtain ⟨q0, q1, xT, xB, xM, xS, xA, xE, l1, l2⟩ := hSw
    go_simp
    try with_reducible rfl
  try simp only [Act.put, List.setIfInBounds_toArray, List.set_cons_zero, List.set_cons_succ]
  refine wpAnyH_take (i := 99) (oi := _) (v := ?_) (by simp only [List.getElem?_toArray]; rfl) (by decide +kernel) (by decide +kernel) (by decide +kernel) (by intro _ _ _ h; exact h) (Or.inl ⟨by rfl, ?_⟩) (by assumption) ?_
  rotate_left
  · intro w hSw
    try dsimp only at hSw
    obtain ⟨q0, q1, xT, xB, xM, xS, xA, xE, l1, l2⟩ := hSw
    go_simp
    try with_reducible rfl
  try simp only [Act.put, List.setIfInBounds_toArray, List.set_cons_zero, List.set_cons_succ]
  refine wpAnyH_take (i := 100) (oi := _) (v := ?_) (by simp only [List.getElem?_toArray]; rfl) (by decide +kernel) (by decide +kernel) (by decide +kernel) (by intro _ _ _ h; exact h) (Or.inl ⟨by rfl, ?_⟩) (by assumption) ?_
  rotate_left
  · intro w hSw
    try dsimp only at hSw
    obtain ⟨q0, q1, xT, xB, xM, xS, xA, xE, l1, l2⟩ := hSw
    go_simp
    try with_reducible rfl
  try simp only [Act.put, List.setIfInBounds_toArray, List.set_cons_zero, List.set_cons_succ]
  refine wpAnyH_take (i := 101) (oi := _) (v := ?_) (by simp only [List.getElem?_toArray]; rfl) (by decide +kernel) (by decide +kernel) (by decide +kernel) (by intro _ _ _ h; exact h) (Or.inl ⟨by rfl, ?_⟩) (by assumption) ?_
  rotate_left
  · intro w hSw
    try dsimp only at hSw
    obtain ⟨q0, q1, xT, xB, xM, xS, xA, xE, l1, l2⟩ := hSw
    go_simp
    try with_reducible rfl
  try simp only [Act.put, List.setIfInBounds_toArray, List.set_cons_zero, List.set_cons_succ]
  refine wpAnyH_take (i := 102) (oi := _) (v := ?_) (by simp only [List.getElem?_toArray]; rfl) (by decide +kernel) (by decide +kernel) (by decide +kernel) (by intro _ _ _ h; exact h) (Or.inl ⟨by rfl, ?_⟩) (by assumption) ?_
  rotate_left
  · intro w hSw
    try dsimp only at hSw
    obtain ⟨q0, q1, xT, xB, xM, xS, xA, xE, l1, l2⟩ := hSw
    go_simp
    try with_reducible rfl
  try simp only [Act.put, List.setIfInBounds_toArray, List.set_cons_zero, List.set_cons_succ]
  refine wpAnyH_take (i := 103) (oi := _) (v := ?_) (by simp only [List.getElem?_toArray]; rfl) (by decide +kernel) (by decide +kernel) (by decide +kernel) (by intro _ _ _ h; exact h) (Or.inl ⟨by rfl, ?_⟩) (by assumption) ?_
  rotate_left
  · intro w hSw
    try dsimp only at hSw
    obtain ⟨q0, q1, xT, xB, xM, xS, xA, xE, l1, l2⟩ := hSw
    go_simp
    try with_reducible rfl
  try simp only [Act.put, List.setIfInBounds_toArray, List.set_cons_zero, List.set_cons_succ]
  refine wpAnyH_take (i := 104) (oi := _) (v := .agg mc) (by simp only [List.getElem?_toArray]; rfl) (by decide +kernel) (by decide +kernel) (by decide +kernel) (by intro _ _ _ h; exact h) (Or.inl ⟨by rfl, ?_⟩) (by assumption) ?_
  skip
  · intro w hSw
    try dsimp only at hSw
    obtain ⟨q0, q1, xT, xB, xM, xS, xA, xE, l1, l2⟩ := hSw
    refine run_load_fact 28 (.tmp 108) ?_ _ ?_ _ l2 <;> rfl
  try simp only [Act.put, List.setIfInBounds_toArray, List.set_cons_zero, List.set_cons_succ]
  refine wpAnyH_take (i := 105) (oi := _) (v := ?_) (by simp only [List.getElem?_toArray]; rfl) (by decide +kernel) (by decide +kernel) (by decide +kernel) (by intro _ _ _ h; exact h) (Or.inl ⟨by rfl, ?_⟩) (by assumption) ?_
  rotate_left
  · intro w hSw
    try dsimp only at hSw
    obtain ⟨q0, q1, xT, xB, xM, xS, xA, xE, l1, l2⟩ := hSw
    go_simp
    try with_reducible rfl
  try simp only [Act.put, List.setIfInBounds_toArray, List.set_cons_zero, List.set_cons_succ]
  refine wpAnyH_take (i := 106) (oi := _) (v := ?_) (by simp only [List.getElem?_toArray]; rfl) (by decide +kernel) (by decide +kernel) (by decide +kernel) (by intro _ _ _ h; exact h) (Or.inl ⟨by rfl, ?_⟩) (by assumption) ?_
  rotate_left
  · intro w hSw
    try dsimp only at hSw
    obtain ⟨q0, q1, xT, xB, xM, xS, xA, xE, l1, l2⟩ := hSw
    go_simp
    try with_reducible rfl
  try simp only [Act.put, List.setIfInBounds_toArray, List.set_cons_zero, List.set_cons_succ]
  refine wpAnyH_done (by kernel_rfl) ?_ _
  have HP := Lib.hid (bPic_any w4 g b A E H4.out.1.B.bd)
  have q0 : w4.cell? ⟨P, 0, none⟩ = some (.pointer (some ⟨g, 0, none⟩)) := (H4.out.1.P.cell 0).trans rfl
  go_wp2_with fail
  refine HP.out.mono ?_
  rintro x w5 ⟨rfl, hK, hb5⟩
  have h5 := H4.out.1.kept hb5
  clear q0 heq
  have H5 := Lib.hid (And.intro h5 (And.intro hK (bthen H4.out.2 hb5)))
  clear h5 hK hb5 H4 HP
  generalize w4.heap.size = G at *
  go_upto_region 7 with fail
  go_loopw [4] (fun x wr => ∃ (i k : Nat), x = .int .i64 (i : Int) ∧ i ≤ 12288 ∧ wr = w5.drewN k) (fun x _ => 12288 - (intOf x).toNat)
  case atStart => exact ⟨0, 0, rfl, by omega, rfl⟩
  case round =>
    obtain ⟨i, k, rfl, hi, rfl⟩ := hrel
    have hi0 : (0 : Int) ≤ (i : Int) := Int.natCast_nonneg _
    by_cases hlt : i < 12288
    · have hiI : (i : Int) < 12288 := by omega
      have hwi : IntKind.i64.wrap ((i : Int) + 1) = (i : Int) + 1 := by rw [IntKind.wrap_i64]; omega
      have p0 : w5.cell? ⟨P, 0, none⟩ = some (.pointer (some ⟨g, 0, none⟩)) := (H5.out.1.P.cell 0).trans rfl
      have p1 : w5.cell? ⟨P, 1, none⟩ = some (.pointer (some ⟨q, 0, none⟩)) := (H5.out.1.P.cell 1).trans rfl
      have s1 : w5.cell? ⟨G, i, none⟩ = some (.int .u8 (b.seen i)) := (H5.out.2.1.cell i).trans (cellsF_at _ hlt)
      have s2 : w5.cell? ⟨q, 65552 + i, none⟩ = some (.int .u8 (b.seen i)) := H5.out.1.X.bd.at_ (i := 65552 + i) (by omega) (dc_S hlt)
      generalize b.seen i = z at *
      go_wp2
      go_quiet (fail)
      go_wp2
      go_roundw
      case rel => exact ⟨i + 1, k + nq, by go_num, by omega, by first | rfl | rw [World.drewN_drewN]⟩
      case measure => simp [intOf]; omega
    · obtain rfl : i = 12288 := by omega
      go_wp2
      go_ret
      exact ⟨rfl, below_drewN H5.out.2.2 k⟩
end Go.Proofs.Ytfcnlgkaejkneaa
