/- Layer 11: the law's step: a port is asked. -/
import Derived.Test.YtfcnlgkaejkneaaBd25
namespace Go.Proofs.Ytfcnlgkaejkneaa
open Go.RowKit

def inL (b : Bd) (al : List ActD) (port : Int) : List ActD := if port % 2 = 1 then al else logS b al false port (inV b port)
theorem inU (w : World) (base g : Nat) (b : Bd) (al : List ActD) (es : List Int) (A E : Value) (port : Int) (p0 : 0 ≤ port) (p1 : port ≤ 65535) (h : BdAt w base g b al es A E) (hn : al.length < 1000000) (hb : base ≤ w.heap.size) (hK : Rows5 b.K) (f0 : 0 ≤ b.fr) (f1 : b.fr ≤ 69887) :
    Calls Try.prog 25 #[.pointer (some ⟨g, 0, none⟩), .int .u16 port] w fun x w' => ∃ A', x = .returned (.int .u8 (inV b port)) ∧ BdAt w' base g b (inL b al port) es A' E ∧ Ch w w' (BdBlk g A E) ∧ NewBlk w A A' := by
  by_cases ho : port % 2 = 1
  · refine (in_odd w g b A E port p0 p1 ho h.bd f0 f1).mono ?_
    rintro x w' ⟨rfl, rfl⟩
    unfold inL
    rw [if_pos ho]
    exact ⟨A, rfl, h, Ch.refl _ _, .inl rfl⟩
  · refine (in_even w base g b al es A E port p0 p1 (by omega) h hn hb hK).mono ?_
    rintro x w' ⟨A', rfl, h1, h2, h3⟩
    unfold inL
    rw [if_neg ho]
    exact ⟨A', rfl, h1, ⟨h2.os, h2.tape, h2.output, h2.size, fun k hk hn => h2.block k hk (fun e => hn (e.elim .inl (fun e => .inr (.inl e))))⟩, h3⟩
theorem dInU (w : World) (base g : Nat) (b : Bd) (ph : Int) (zs : List Int) (al : List ActD) (es : List Int) (D A E : Value) (port : Int) (q0 : 0 ≤ port) (q1 : port ≤ 65535) (h : DcAt w base g b ph zs al es D A E) (hS : Same10 b.K zs) (hz : zs.length ≤ 100000) (hn : al.length < 1000000) (hb : base ≤ w.heap.size) (hfr : b.fr = frD b ph) (t0 : 0 ≤ b.t) (t1 : b.t ≤ 1000000000) (p0 : 0 ≤ ph) (p1 : ph ≤ 69887) :
    Calls Try.prog 38 #[.pointer (some ⟨g, 0, none⟩), .int .u16 port] w fun x w' => ∃ A', x = .returned (.int .u8 (inV b port)) ∧ DcAt w' base g b ph zs (inL b al port) es D A' E ∧ Ch w w' (BdBlk g A E) ∧ NewBlk w A A' := by
  by_cases ho : port % 2 = 1
  · refine (dIn_odd w g b ph D A E port q0 q1 ho h.bd hfr t0 t1 p0 p1).mono ?_
    rintro x w' ⟨rfl, hb⟩
    unfold inL
    rw [if_pos ho]
    exact ⟨A, rfl, h.kept hb, Ch.of_below hb, .inl rfl⟩
  · refine (dIn_even w base g b ph zs al es D A E port q0 q1 (by omega) h hS hz hn hb).mono ?_
    rintro x w' ⟨A', rfl, h1, h2, h3⟩
    unfold inL
    rw [if_neg ho]
    exact ⟨A', rfl, h1, ⟨h2.os, h2.tape, h2.output, h2.size, fun k hk hn => h2.block k hk (fun e => hn (e.elim .inl (fun e => .inr (.inl e))))⟩, h3⟩
theorem inL_len (b : Bd) (al : List ActD) (port : Int) : (inL b al port).length ≤ al.length + 1 := by
  unfold inL
  split
  · omega
  · exact log_len b al false port _
theorem ok_in {s : PS} {n : Nat} {same : Bool} (ok : s.Ok n same) (port : Int) : PS.Ok { s with al1 := inL s.b1 s.al1 port, al2 := inL s.b2 s.al2 port } (n + 1) same :=
  ⟨ok.f0, ok.f1, ok.t0, by have := ok.t1; simp only; omega, ok.K1, by have := ok.a1; have := inL_len s.b1 s.al1 port; simp only; omega, Nat.le_succ_of_le ok.e1, ok.fd, ok.u0, by have := ok.u1; simp only; omega, ok.p0, ok.p1, ok.K2, Nat.le_succ_of_le ok.z2, by have := ok.a2; have := inL_len s.b2 s.al2 port; simp only; omega, Nat.le_succ_of_le ok.e2, fun e => by
    obtain ⟨e1, e2, e3⟩ := ok.eq e
    exact ⟨e1, by simp only [e1, e2], e3⟩⟩
set_option maxRecDepth 100000 in
set_option maxHeartbeats 8000000 in
theorem step2 (w : World) (base g q P : Nat) (s : PS) (n : Nat) (same : Bool) (A E D A' E' : Value) (h : PAt w base g q P s A E D A' E') (ok : s.Ok n same) (hn : n ≤ 100) (hb : base ≤ w.heap.size) (N port v : Int) (str : ByteArray) (p0 : 0 ≤ port) (p1 : port ≤ 65535) :
    Calls Try.prog 22 #[.pointer (some ⟨P, 0, none⟩), .agg #[.int .i64 2, .int .i64 N, .int .u16 port, .int .u8 v, .string str]] w fun x w' => StepO w w' x base g q P n same s.ph := by
  have hx0 : Blk (w.alloc (.cells #[.int .i64 2, .int .i64 N, .int .u16 port, .int .u8 v, .string str] 62)) w.heap.size 62 #[.int .i64 2, .int .i64 N, .int .u16 port, .int .u8 v, .string str] := Blk.new w _ _
  have hb0 : Below w.heap.size w (w.alloc (.cells #[.int .i64 2, .int .i64 N, .int .u16 port, .int .u8 v, .string str] 62)) := (Below.refl _ _).alloc (Nat.le_refl _) _
  have h0 := h.kept hb0
  have hsz := hb0.size
  go_enter Try.func22, Try.ntmps22
  go_upto_region 1 with fail
  generalize w.alloc (.cells #[.int .i64 2, .int .i64 N, .int .u16 port, .int .u8 v, .string str] 62) = W at *
  have H1 := Lib.hid (And.intro h0 (And.intro hx0 (hb0.mono hb)))
  have q0 : W.cell? ⟨P, 0, none⟩ = some (.pointer (some ⟨g, 0, none⟩)) := (h0.P.cell 0).trans rfl
  have q1 : W.cell? ⟨P, 1, none⟩ = some (.pointer (some ⟨q, 0, none⟩)) := (h0.P.cell 1).trans rfl
  have c0 : W.cell? ⟨w.heap.size, 0, none⟩ = some (.int .i64 2) := (hx0.cell 0).trans rfl
  have c1 : W.cell? ⟨w.heap.size, 1, none⟩ = some (.int .i64 N) := (hx0.cell 1).trans rfl
  have c2 : W.cell? ⟨w.heap.size, 2, none⟩ = some (.int .u16 port) := (hx0.cell 2).trans rfl
  have c3 : W.cell? ⟨w.heap.size, 3, none⟩ = some (.int .u8 v) := (hx0.cell 3).trans rfl
  have c4 : W.cell? ⟨w.heap.size, 4, none⟩ = some (.string str) := (hx0.cell 4).trans rfl
  clear h h0 hx0 hb0
  obtain ⟨m1, hm1⟩ : ∃ m1, inV s.b1 port = m1 := ⟨_, rfl⟩
  obtain ⟨m2, hm2⟩ : ∃ m2, inV s.b2 port = m2 := ⟨_, rfl⟩
  have HEQ := Lib.hid (show same = true → (m1 == m2) = true from fun e => by rw [← hm1, ← hm2, (ok.eq e).1]; simp)
  have HM1 := Lib.hid hm1
  have HM2 := Lib.hid hm2
  have HOK := Lib.hid ok
  clear ok hm1 hm2
  go_upto_region 8 with fail
  refine wp_region_held_drew (S := fun w' => w'.cell? ⟨P, 0, none⟩ = some (.pointer (some ⟨g, 0, none⟩)) ∧ w'.cell? ⟨P, 1, none⟩ = some (.pointer (some ⟨q, 0, none⟩)) ∧ w'.cell? ⟨w.heap.size, 2, none⟩ = some (.int .u16 port)) (by kernel_rfl) ?_ (fun hHeld => ?_)
  · exact ⟨q0, q1, c2⟩
  clear q0 q1 c0 c1 c2 c3 c4
  have K0 := Lib.hid (And.intro (H1.out.1.kept (Below.refl _ _).drew) (And.intro H1.out.2.1.drew H1.out.2.2.drew))
  clear H1
  generalize W.drew = V at *
  refine wpAnyH_take (i := 0) (oi := _) (v := ?_) (by simp only [List.getElem?_toArray, List.getElem?_cons_succ, List.getElem?_cons_zero]; rfl) (by kernel_rfl) (by kernel_rfl) (by kernel_rfl) (by intro _ _ _ h; exact h) (Or.inl ⟨by rfl, ?_⟩) (by assumption) ?_
  rotate_left
  · intro w hSw
    try dsimp only at hSw
    obtain ⟨sa, sb, sc⟩ := hSw
    go_simp
    try with_reducible rfl
  try simp only [Act.put, List.setIfInBounds_toArray, List.set_cons_zero, List.set_cons_succ]
  refine wpAnyH_take (i := 1) (oi := _) (v := ?_) (by simp only [List.getElem?_toArray, List.getElem?_cons_succ, List.getElem?_cons_zero]; rfl) (by kernel_rfl) (by kernel_rfl) (by kernel_rfl) (by intro _ _ _ h; exact h) (Or.inl ⟨by rfl, ?_⟩) (by assumption) ?_
  rotate_left
  · intro w hSw
    try dsimp only at hSw
    obtain ⟨sa, sb, sc⟩ := hSw
    go_simp
    try with_reducible rfl
  try simp only [Act.put, List.setIfInBounds_toArray, List.set_cons_zero, List.set_cons_succ]
  refine wpAnyH_take (i := 2) (oi := _) (v := ?_) (by simp only [List.getElem?_toArray, List.getElem?_cons_succ, List.getElem?_cons_zero]; rfl) (by kernel_rfl) (by kernel_rfl) (by kernel_rfl) (by intro _ _ _ h; exact h) (Or.inl ⟨by rfl, ?_⟩) (by assumption) ?_
  rotate_left
  · intro w hSw
    try dsimp only at hSw
    obtain ⟨sa, sb, sc⟩ := hSw
    go_simp
    try with_reducible rfl
  try simp only [Act.put, List.setIfInBounds_toArray, List.set_cons_zero, List.set_cons_succ]
  refine wpAnyH_take (i := 3) (oi := _) (v := ?_) (by simp only [List.getElem?_toArray, List.getElem?_cons_succ, List.getElem?_cons_zero]; rfl) (by kernel_rfl) (by kernel_rfl) (by kernel_rfl) (by intro _ _ _ h; exact h) (Or.inl ⟨by rfl, ?_⟩) (by assumption) ?_
  rotate_left
  · intro w hSw
    try dsimp only at hSw
    obtain ⟨sa, sb, sc⟩ := hSw
    go_simp
    try with_reducible rfl
  try simp only [Act.put, List.setIfInBounds_toArray, List.set_cons_zero, List.set_cons_succ]
  refine wpAnyH_take (i := 4) (oi := _) (v := ?_) (by simp only [List.getElem?_toArray, List.getElem?_cons_succ, List.getElem?_cons_zero]; rfl) (by kernel_rfl) (by kernel_rfl) (by kernel_rfl) (by intro _ _ _ h; exact h) (Or.inl ⟨by rfl, ?_⟩) (by assumption) ?_
  rotate_left
  · intro w hSw
    try dsimp only at hSw
    obtain ⟨sa, sb, sc⟩ := hSw
    go_simp
    try with_reducible rfl
  try simp only [Act.put, List.setIfInBounds_toArray, List.set_cons_zero, List.set_cons_succ]
  refine wpAnyH_take (i := 5) (oi := _) (v := ?_) (by simp only [List.getElem?_toArray, List.getElem?_cons_succ, List.getElem?_cons_zero]; rfl) (by kernel_rfl) (by kernel_rfl) (by kernel_rfl) (by intro _ _ _ h; exact h) (Or.inl ⟨by rfl, ?_⟩) (by assumption) ?_
  rotate_left
  · intro w hSw
    try dsimp only at hSw
    obtain ⟨sa, sb, sc⟩ := hSw
    go_simp
    try with_reducible rfl
  try simp only [Act.put, List.setIfInBounds_toArray, List.set_cons_zero, List.set_cons_succ]
  refine wpAnyH_take (i := 7) (oi := _) (v := ?_) (by simp only [List.getElem?_toArray, List.getElem?_cons_succ, List.getElem?_cons_zero]; rfl) (by kernel_rfl) (by kernel_rfl) (by kernel_rfl) (by intro _ _ _ h; exact h) (Or.inl ⟨by rfl, ?_⟩) (by assumption) ?_
  rotate_left
  · intro w hSw
    try dsimp only at hSw
    obtain ⟨sa, sb, sc⟩ := hSw
    go_simp
    try with_reducible rfl
  try simp only [Act.put, List.setIfInBounds_toArray, List.set_cons_zero, List.set_cons_succ]
  refine wpAnyH_take (i := 8) (oi := _) (v := ?_) (by simp only [List.getElem?_toArray, List.getElem?_cons_succ, List.getElem?_cons_zero]; rfl) (by kernel_rfl) (by kernel_rfl) (by kernel_rfl) (by intro _ _ _ h; exact h) (Or.inl ⟨by rfl, ?_⟩) (by assumption) ?_
  rotate_left
  · intro w hSw
    try dsimp only at hSw
    obtain ⟨sa, sb, sc⟩ := hSw
    go_simp
    try with_reducible rfl
  try simp only [Act.put, List.setIfInBounds_toArray, List.set_cons_zero, List.set_cons_succ]
  refine wpAnyH_take (i := 9) (oi := _) (v := ?_) (by simp only [List.getElem?_toArray, List.getElem?_cons_succ, List.getElem?_cons_zero]; rfl) (by kernel_rfl) (by kernel_rfl) (by kernel_rfl) (by intro _ _ _ h; exact h) (Or.inl ⟨by rfl, ?_⟩) (by assumption) ?_
  rotate_left
  · intro w hSw
    try dsimp only at hSw
    obtain ⟨sa, sb, sc⟩ := hSw
    go_simp
    try with_reducible rfl
  try simp only [Act.put, List.setIfInBounds_toArray, List.set_cons_zero, List.set_cons_succ]
  refine wpAnyH_take (i := 10) (oi := _) (v := ?_) (by simp only [List.getElem?_toArray, List.getElem?_cons_succ, List.getElem?_cons_zero]; rfl) (by kernel_rfl) (by kernel_rfl) (by kernel_rfl) (by intro _ _ _ h; exact h) (Or.inl ⟨by rfl, ?_⟩) (by assumption) ?_
  rotate_left
  · intro w hSw
    try dsimp only at hSw
    obtain ⟨sa, sb, sc⟩ := hSw
    go_simp
    try with_reducible rfl
  try simp only [Act.put, List.setIfInBounds_toArray, List.set_cons_zero, List.set_cons_succ]
  refine wpAnyH_take (i := 11) (oi := _) (v := ?_) (by simp only [List.getElem?_toArray, List.getElem?_cons_succ, List.getElem?_cons_zero]; rfl) (by kernel_rfl) (by kernel_rfl) (by kernel_rfl) (by intro _ _ _ h; exact h) (Or.inl ⟨by rfl, ?_⟩) (by assumption) ?_
  rotate_left
  · intro w hSw
    try dsimp only at hSw
    obtain ⟨sa, sb, sc⟩ := hSw
    go_simp
    try with_reducible rfl
  try simp only [Act.put, List.setIfInBounds_toArray, List.set_cons_zero, List.set_cons_succ]
  refine wpAnyH_take (i := 12) (oi := _) (v := ?_) (by simp only [List.getElem?_toArray, List.getElem?_cons_succ, List.getElem?_cons_zero]; rfl) (by kernel_rfl) (by kernel_rfl) (by kernel_rfl) (by intro _ _ _ h; exact h) (Or.inl ⟨by rfl, ?_⟩) (by assumption) ?_
  rotate_left
  · intro w hSw
    try dsimp only at hSw
    obtain ⟨sa, sb, sc⟩ := hSw
    go_simp
    try with_reducible rfl
  try simp only [Act.put, List.setIfInBounds_toArray, List.set_cons_zero, List.set_cons_succ]
  refine wpAnyH_ready (rs := [6]) (by kernel_rfl) (by simp) ?_
  refine AllReadyH.cons (o := _) (by simp only [List.getElem?_toArray, List.getElem?_cons_succ, List.getElem?_cons_zero]; rfl) (fun K hK => ?_) AllReadyH.nil
  go_simp
  go_wp2_with fail
  refine (inU V base g s.b1 s.al1 s.es1 A E port p0 p1 K0.out.1.B (by have := HOK.out.a1; omega) (by have := K0.out.2.2.size; omega) HOK.out.K1 HOK.out.f0 HOK.out.f1).mono ?_
  rintro x w1 ⟨A1, hx, hB, hc, nA⟩
  rw [HM1.out] at hx
  subst hx
  have kP := K0.out.1.stepB hB hc nA (.inl rfl)
  have kx := hc.blk K0.out.2.1 (K0.out.1.B.not K0.out.2.1 (by decide) (by decide) (by decide))
  have kb := K0.out.2.2.trans (K0.out.1.belowB hc (by have := K0.out.2.2.size; omega))
  have K1 := Lib.hid (And.intro kP (And.intro kx kb))
  clear kP kx kb hB hc nA
  refine hK.out _ _ ?_ (fun hHeld => ?_)
  · exact ⟨(K1.out.1.P.cell 0).trans rfl, (K1.out.1.P.cell 1).trans rfl, (K1.out.2.1.cell 2).trans rfl⟩
  clear hK K
  try simp only [Act.put, List.setIfInBounds_toArray, List.set_cons_zero, List.set_cons_succ]
  refine wpAnyH_ready (rs := [13]) (by kernel_rfl) (by simp) ?_
  refine AllReadyH.cons (o := _) (by simp only [List.getElem?_toArray, List.getElem?_cons_succ, List.getElem?_cons_zero]; rfl) (fun K hK => ?_) AllReadyH.nil
  go_simp
  go_wp2_with fail
  refine (dInU w1 base q s.b2 s.ph s.zs s.al2 s.es2 D A' E' port p0 p1 K1.out.1.X HOK.out.K2 (by have := HOK.out.z2; omega) (by have := HOK.out.a2; omega) (by have := K1.out.2.2.size; omega) HOK.out.fd HOK.out.u0 (by have := HOK.out.u1; omega) HOK.out.p0 HOK.out.p1).mono ?_
  rintro x w2 ⟨A2, hx, hB, hc, nA⟩
  rw [HM2.out] at hx
  subst hx
  have kP := K1.out.1.stepX hB hc nA (.inl rfl)
  have kx := hc.blk K1.out.2.1 (K1.out.1.X.not K1.out.2.1 (by decide) (by decide) (by decide))
  have kb := K1.out.2.2.trans (K1.out.1.belowX hc (by have := K1.out.2.2.size; omega))
  have K2 := Lib.hid (And.intro kP (And.intro kx kb))
  clear kP kx kb hB hc nA
  refine hK.out _ _ ?_ (fun hHeld => ?_)
  · exact ⟨(K2.out.1.P.cell 0).trans rfl, (K2.out.1.P.cell 1).trans rfl, (K2.out.2.1.cell 2).trans rfl⟩
  clear hK K
  try simp only [Act.put, List.setIfInBounds_toArray, List.set_cons_zero, List.set_cons_succ]
  refine wpAnyH_take (i := 14) (oi := _) (v := ?_) (by simp only [List.getElem?_toArray, List.getElem?_cons_succ, List.getElem?_cons_zero]; rfl) (by kernel_rfl) (by kernel_rfl) (by kernel_rfl) (by intro _ _ _ h; exact h) (Or.inl ⟨by rfl, ?_⟩) (by assumption) ?_
  rotate_left
  · intro w hSw
    try dsimp only at hSw
    obtain ⟨sa, sb, sc⟩ := hSw
    go_simp
    try with_reducible rfl
  try simp only [Act.put, List.setIfInBounds_toArray, List.set_cons_zero, List.set_cons_succ]
  refine wpAnyH_take (i := 15) (oi := _) (v := ?_) (by simp only [List.getElem?_toArray, List.getElem?_cons_succ, List.getElem?_cons_zero]; rfl) (by kernel_rfl) (by kernel_rfl) (by kernel_rfl) (by intro _ _ _ h; exact h) (Or.inl ⟨by rfl, ?_⟩) (by assumption) ?_
  rotate_left
  · intro w hSw
    try dsimp only at hSw
    obtain ⟨sa, sb, sc⟩ := hSw
    go_simp
    try with_reducible rfl
  try simp only [Act.put, List.setIfInBounds_toArray, List.set_cons_zero, List.set_cons_succ]
  refine wpAnyH_done (by kernel_rfl) ?_ _
  go_wp2
  go_ret
  exact ⟨_, _, _, _, _, _, _, rfl, by rfl, ok_in HOK.out port, K2.out.1, HEQ.out, K2.out.2.2⟩
end Go.Proofs.Ytfcnlgkaejkneaa
