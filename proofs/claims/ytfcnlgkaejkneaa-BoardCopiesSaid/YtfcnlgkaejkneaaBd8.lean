/- Layer 11: contracts of what comes in of a port, of Next, Hold, Int, Paint. -/
import Derived.Test.YtfcnlgkaejkneaaBd7
import Derived.Test.YtfcnlgkaejkneaaP10
namespace Go.Proofs.Ytfcnlgkaejkneaa
open Go.RowKit

theorem place_bd {t : Int} (h : hitS t = true) : 0 ≤ placeS t ∧ placeS t < 12288 ∧ 16384 ≤ fetchS t ∧ fetchS t < 65536 := by
  obtain ⟨⟨l0, l1⟩, ⟨c0, c1⟩, hh⟩ := cell_bd (hit_is h)
  unfold placeS fetchS
  rw [if_pos h, if_pos h]
  unfold placeN fetchN
  have p := pixN_bd l0 l1 c0 c1
  have c := colN_bd l0 l1 c0 c1
  generalize lineN (frameS t - 14338) = l at *
  generalize cellN (frameS t - 14338) = k at *
  generalize pixN l k = P at *
  generalize colN l k = Q at *
  rcases hh with hh | hh
  · rw [if_pos hh, hh]; omega
  · rw [if_neg (by rw [hh]; decide), hh]; omega
/-- what comes in of a port -/
def inV (b : Bd) (port : Int) : Int := if port % 2 = 1 then (if hitS b.fr = true then b.M (fetchS b.fr).toNat else 255) else readS b.K (port / 256) 8 + 160 + (if b.ear = true then 64 else 0)
theorem or_all : ∀ r : Fin 32, bits .or .u8 r.val 160 = (r.val : Int) + 160 ∧ bits .or .u8 ((r.val : Int) + 160) 64 = (r.val : Int) + 160 + 64 := by decide +kernel
theorem or_in {r : Int} (h0 : 0 ≤ r) (h1 : r ≤ 31) : bits .or .u8 r 160 = r + 160 ∧ bits .or .u8 (r + 160) 64 = r + 160 + 64 := by
  obtain ⟨n, rfl⟩ : ∃ n : Nat, r = (n : Int) := ⟨r.toNat, by omega⟩
  exact or_all ⟨n, by omega⟩
set_option maxRecDepth 100000 in
set_option maxHeartbeats 4000000 in
theorem in_odd (w : World) (g : Nat) (b : Bd) (A E : Value) (port : Int) (p0 : 0 ≤ port) (p1 : port ≤ 65535) (ho : port % 2 = 1) (h : BdIs w g b A E) (f0 : 0 ≤ b.fr) (f1 : b.fr ≤ 69887) : Calls Try.prog 25 #[.pointer (some ⟨g, 0, none⟩), .int .u16 port] w fun x w' => x = .returned (.int .u8 (inV b port)) ∧ w = w' := by
  have hb := and1_u16 p0 p1
  rw [ho] at hb
  have cf := h.at_ (i := 65548) (by decide) bd_fr
  have hft := fetched_any b.fr w (by omega) (by omega)
  have HO := Lib.hid ho
  clear ho
  cases hh : hitS b.fr with
  | true =>
    obtain ⟨_, _, q0, q1⟩ := place_bd hh
    obtain ⟨F, hF⟩ : ∃ F : Nat, fetchS b.fr = (F : Int) := ⟨(fetchS b.fr).toNat, by omega⟩
    rw [hh, hF] at hft
    have cM := h.at_ (i := F) (by omega) (bd_M (by omega))
    have hF0 : (0 : Int) ≤ (F : Int) := Int.natCast_nonneg _
    have hF1 : (F : Int) < 65536 := by omega
    have HV := Lib.hid (show inV b port = b.M F from by unfold inV; rw [if_pos HO.out, if_pos hh, hF, Int.toNat_natCast])
    clear h hh hF q0 q1
    go_enter Try.func25, Try.ntmps25
    go_wp2_with fail
    refine hft.mono ?_
    rintro x w' ⟨rfl, rfl⟩
    clear hft
    go_wp2
    go_ret
    exact ⟨ret_int HV.out.symm, rfl⟩
  | false =>
    rw [hh] at hft
    have HV := Lib.hid (show inV b port = 255 from by unfold inV; rw [if_pos HO.out, if_neg (by rw [hh]; decide)])
    clear h hh
    go_enter Try.func25, Try.ntmps25
    go_wp2_with fail
    refine hft.mono ?_
    rintro x w' ⟨rfl, rfl⟩
    clear hft
    go_wp2
    go_ret
    exact ⟨ret_int HV.out.symm, rfl⟩
theorem in_nil (w : World) (port : Int) : Calls Try.prog 25 #[.pointer none, .int .u16 port] w fun x w' => x = .returned (.int .u8 255) ∧ w = w' := by
  go_enter Try.func25, Try.ntmps25
  go_wp2
  go_ret
  exact ⟨rfl, rfl⟩
set_option maxRecDepth 100000 in
set_option maxHeartbeats 4000000 in
theorem in_even (w : World) (base g : Nat) (b : Bd) (al : List ActD) (es : List Int) (A E : Value) (port : Int) (p0 : 0 ≤ port) (p1 : port ≤ 65535) (he : port % 2 = 0) (h : BdAt w base g b al es A E) (hn : al.length < 1000000) (hb : base ≤ w.heap.size) (hK : Rows5 b.K) :
    Calls Try.prog 25 #[.pointer (some ⟨g, 0, none⟩), .int .u16 port] w fun x w' => ∃ A', x = .returned (.int .u8 (inV b port)) ∧ BdAt w' base g b (logS b al false port (inV b port)) es A' E ∧ Ch w w' (fun k => k = g ∨ A.ownBlock = some k) ∧ NewBlk w A A' := by
  have hbp := and1_u16 p0 p1
  rw [he] at hbp
  have hq0 : 0 ≤ port / 256 := by omega
  have hq1 : port / 256 ≤ 255 := by omega
  have hsh : port / 2 ^ 8 = port / 256 := rfl
  have hrd := readK_any g b.K (port / 256) w hq0 hq1 (fun j hj => h.bd.at_ (by omega) (bd_K hj))
  obtain ⟨r0, r1⟩ := readS_in hK (port / 256) 8
  obtain ⟨o1, o2⟩ := or_in r0 r1
  have ce := h.bd.at_ (i := 65545) (by decide) bd_ear
  have HV := Lib.hid (show inV b port = readS b.K (port / 256) 8 + 160 + (if b.ear = true then 64 else 0) from by unfold inV; rw [if_neg (by omega)])
  generalize readS b.K (port / 256) 8 = R at *
  have HH := Lib.hid h
  clear h he hsh hK
  cases hear : b.ear with
  | true =>
    rw [hear] at ce HV
    rw [show inV b port = R + 160 + 64 from HV.out]
    have hac := act_any w base g b al es A E false port (R + 160 + 64) HH.out hn hb
    clear hear
    go_enter Try.func25, Try.ntmps25
    go_wp2_with fail
    refine hrd.mono ?_
    rintro x w' ⟨rfl, rfl⟩
    clear hrd
    go_wp2_with fail
    refine hac.mono ?_
    rintro x w' ⟨u, A', rfl, h1, h2, h3⟩
    clear hac
    have HX := Lib.hid (And.intro h1 (And.intro h2 h3))
    clear h1 h2 h3
    go_wp2
    go_ret
    exact ⟨A', rfl, HX.out.1, HX.out.2.1, HX.out.2.2⟩
  | false =>
    rw [hear] at ce HV
    rw [show inV b port = R + 160 from HV.out.trans (by simp)]
    have hac := act_any w base g b al es A E false port (R + 160) HH.out hn hb
    clear hear
    go_enter Try.func25, Try.ntmps25
    go_wp2_with fail
    refine hrd.mono ?_
    rintro x w' ⟨rfl, rfl⟩
    clear hrd
    go_wp2_with fail
    refine hac.mono ?_
    rintro x w' ⟨u, A', rfl, h1, h2, h3⟩
    clear hac
    have HX := Lib.hid (And.intro h1 (And.intro h2 h3))
    clear h1 h2 h3
    go_wp2
    go_ret
    exact ⟨A', rfl, HX.out.1, HX.out.2.1, HX.out.2.2⟩
/-- a T-state more -/
def seenB (b : Bd) : Bd := if hitS b.fr = true then { b with seen := fun k => if k = (placeS b.fr).toNat then b.M (fetchS b.fr).toNat else b.seen k } else b
def nextB (b : Bd) : Bd := { seenB b with t := b.t + 1, fr := if b.fr + 1 = 69888 then 0 else b.fr + 1 }
theorem next_nilB (w : World) : Calls Try.prog 18 #[.pointer none] w fun x w' => (∃ u, x = .returned u) ∧ w = w' := by
  go_enter Try.func18, Try.ntmps18
  go_wp2
  refine bodyPost_ret (v := .tuple #[]) (results_none rfl _ _ _) rfl ?_
  exact ⟨⟨_, rfl⟩, rfl⟩
set_option maxRecDepth 100000 in
set_option maxHeartbeats 4000000 in
theorem next_anyB (w : World) (g : Nat) (b : Bd) (A E : Value) (h : BdIs w g b A E) (f0 : 0 ≤ b.fr) (f1 : b.fr ≤ 69887) (t0 : 0 ≤ b.t) (t1 : b.t ≤ 1000000000) :
    Calls Try.prog 18 #[.pointer (some ⟨g, 0, none⟩)] w fun x w' => (∃ u, x = .returned u) ∧ BdIs w' g (nextB b) A E ∧ w.grownBy w' (some g) := by
  have cf := h.at_ (i := 65548) (by decide) bd_fr
  have hft := fetched_any b.fr w (by omega) (by omega)
  have hpl := place_any b.fr w (by omega) (by omega)
  have hwt : IntKind.u64.wrap (b.t + 1) = b.t + 1 := by simp [IntKind.wrap, IntKind.bits, IntKind.signed]; omega
  have HS := Lib.hid (show (seenB b).t = b.t ∧ (seenB b).fr = b.fr from by unfold seenB; split <;> exact ⟨rfl, rfl⟩)
  cases hh : hitS b.fr with
  | true =>
    obtain ⟨p0, p1, q0, q1⟩ := place_bd hh
    obtain ⟨F, hF⟩ : ∃ F : Nat, fetchS b.fr = (F : Int) := ⟨(fetchS b.fr).toNat, by omega⟩
    obtain ⟨Q, hQ⟩ : ∃ Q : Nat, placeS b.fr = (Q : Int) := ⟨(placeS b.fr).toNat, by omega⟩
    rw [hh, hF] at hft
    rw [hh, hQ] at hpl
    have cM := h.at_ (i := F) (by omega) (bd_M (by omega))
    have cS := h.at_ (i := 65554 + Q) (by omega) bd_S
    have fS := h.fz (65554 + Q)
    have hF0 : (0 : Int) ≤ (F : Int) := Int.natCast_nonneg _
    have hF1 : (F : Int) < 65536 := by omega
    have hQ0 : (0 : Int) ≤ (Q : Int) := Int.natCast_nonneg _
    have hQ1 : (Q : Int) < 12288 := by omega
    have hse : seenB b = { b with seen := fun k => if k = Q then b.M F else b.seen k } := by unfold seenB; rw [if_pos hh, hF, hQ, Int.toNat_natCast, Int.toNat_natCast]
    have HZ0 := Lib.hid (show BdIs (w.setCell ⟨g, 65554 + Q, none⟩ (.int .u8 (b.M F))) g (seenB b) A E ∧ w.grownBy (w.setCell ⟨g, 65554 + Q, none⟩ (.int .u8 (b.M F))) (some g) from ⟨by rw [hse]; exact h.put (set_S Q (by omega) _), grown_cell _ _ _ _⟩)
    clear h hh hF hQ hse p0 p1 q0 q1
    go_enter Try.func18, Try.ntmps18
    go_wp2_with fail
    refine hpl.mono ?_
    rintro x w' ⟨rfl, rfl⟩
    clear hpl
    go_wp2_with fail
    refine hft.mono ?_
    rintro x w' ⟨rfl, rfl⟩
    clear hft
    go_upto_region 4 with fail
    go_region
    go_upto_region 5 with fail
    have HZ := Lib.hid (show BdIs (w.setCell ⟨g, 65554 + Q, none⟩ (.int .u8 (b.M F))).drew g (seenB b) A E ∧ w.grownBy (w.setCell ⟨g, 65554 + Q, none⟩ (.int .u8 (b.M F))).drew (some g) from ⟨HZ0.out.1, grown_drew HZ0.out.2⟩)
    clear HZ0 cM cS fS cf
    generalize (w.setCell ⟨g, 65554 + Q, none⟩ (.int .u8 (b.M F))).drew = W at *
    have c47 := HZ.out.1.at_ (i := 65547) (by decide) bd_t
    have f47 := HZ.out.1.fz 65547
    have c48 := HZ.out.1.at_ (i := 65548) (by decide) bd_fr
    have f48 := HZ.out.1.fz 65548
    rw [show (seenB b).t = b.t from HS.out.1] at c47
    rw [show (seenB b).fr = b.fr from HS.out.2] at c48
    by_cases hl : b.fr + 1 = 69888
    · have HX := Lib.hid (show BdIs (((W.setCell ⟨g, 65547, none⟩ (.int .u64 (b.t + 1))).setCell ⟨g, 65548, none⟩ (.int .i64 (b.fr + 1))).setCell ⟨g, 65548, none⟩ (.int .i64 0)) g (nextB b) A E ∧ w.grownBy (((W.setCell ⟨g, 65547, none⟩ (.int .u64 (b.t + 1))).setCell ⟨g, 65548, none⟩ (.int .i64 (b.fr + 1))).setCell ⟨g, 65548, none⟩ (.int .i64 0)) (some g) from ⟨by unfold nextB; rw [if_pos hl]; exact ((HZ.out.1.put (set_t _)).put (set_fr _)).put (set_fr _), grown_trans (grown_trans (grown_trans HZ.out.2 (grown_cell _ _ _ _)) (grown_cell _ _ _ _)) (grown_cell _ _ _ _)⟩)
      rw [hl] at HX
      have hwf : IntKind.i64.wrap (b.fr + 1) = 69888 := by rw [IntKind.wrap_i64]; omega
      have hl2 : (b.fr + 1 == 69888) = true := by simp [hl]
      clear hl
      go_wp2
      go_end0
      exact ⟨⟨_, rfl⟩, HX.out.1, HX.out.2⟩
    · have HX := Lib.hid (show BdIs ((W.setCell ⟨g, 65547, none⟩ (.int .u64 (b.t + 1))).setCell ⟨g, 65548, none⟩ (.int .i64 (b.fr + 1))) g (nextB b) A E ∧ w.grownBy ((W.setCell ⟨g, 65547, none⟩ (.int .u64 (b.t + 1))).setCell ⟨g, 65548, none⟩ (.int .i64 (b.fr + 1))) (some g) from ⟨by unfold nextB; rw [if_neg hl]; exact (HZ.out.1.put (set_t _)).put (set_fr _), grown_trans (grown_trans HZ.out.2 (grown_cell _ _ _ _)) (grown_cell _ _ _ _)⟩)
      have hwf : IntKind.i64.wrap (b.fr + 1) = b.fr + 1 := by rw [IntKind.wrap_i64]; omega
      have hl2 : (b.fr + 1 == 69888) = false := by simpa using hl
      clear hl
      go_wp2
      go_end0
      exact ⟨⟨_, rfl⟩, HX.out.1, HX.out.2⟩
  | false =>
    rw [hh] at hft hpl
    have HZ := Lib.hid (show BdIs w g (seenB b) A E ∧ w.grownBy w (some g) from ⟨by unfold seenB; rw [if_neg (by rw [hh]; decide)]; exact h, World.grownBy.refl w _⟩)
    clear h hh hft
    go_enter Try.func18, Try.ntmps18
    go_wp2_with fail
    refine hpl.mono ?_
    rintro x w' ⟨rfl, rfl⟩
    clear hpl
    go_upto_region 5 with fail
    clear cf
    have c47 := HZ.out.1.at_ (i := 65547) (by decide) bd_t
    have f47 := HZ.out.1.fz 65547
    have c48 := HZ.out.1.at_ (i := 65548) (by decide) bd_fr
    have f48 := HZ.out.1.fz 65548
    rw [show (seenB b).t = b.t from HS.out.1] at c47
    rw [show (seenB b).fr = b.fr from HS.out.2] at c48
    by_cases hl : b.fr + 1 = 69888
    · have HX := Lib.hid (show BdIs (((w.setCell ⟨g, 65547, none⟩ (.int .u64 (b.t + 1))).setCell ⟨g, 65548, none⟩ (.int .i64 (b.fr + 1))).setCell ⟨g, 65548, none⟩ (.int .i64 0)) g (nextB b) A E ∧ w.grownBy (((w.setCell ⟨g, 65547, none⟩ (.int .u64 (b.t + 1))).setCell ⟨g, 65548, none⟩ (.int .i64 (b.fr + 1))).setCell ⟨g, 65548, none⟩ (.int .i64 0)) (some g) from ⟨by unfold nextB; rw [if_pos hl]; exact ((HZ.out.1.put (set_t _)).put (set_fr _)).put (set_fr _), grown_trans (grown_trans (grown_trans HZ.out.2 (grown_cell _ _ _ _)) (grown_cell _ _ _ _)) (grown_cell _ _ _ _)⟩)
      rw [hl] at HX
      have hwf : IntKind.i64.wrap (b.fr + 1) = 69888 := by rw [IntKind.wrap_i64]; omega
      have hl2 : (b.fr + 1 == 69888) = true := by simp [hl]
      clear hl
      go_wp2
      go_end0
      exact ⟨⟨_, rfl⟩, HX.out.1, HX.out.2⟩
    · have HX := Lib.hid (show BdIs ((w.setCell ⟨g, 65547, none⟩ (.int .u64 (b.t + 1))).setCell ⟨g, 65548, none⟩ (.int .i64 (b.fr + 1))) g (nextB b) A E ∧ w.grownBy ((w.setCell ⟨g, 65547, none⟩ (.int .u64 (b.t + 1))).setCell ⟨g, 65548, none⟩ (.int .i64 (b.fr + 1))) (some g) from ⟨by unfold nextB; rw [if_neg hl]; exact (HZ.out.1.put (set_t _)).put (set_fr _), grown_trans (grown_trans HZ.out.2 (grown_cell _ _ _ _)) (grown_cell _ _ _ _)⟩)
      have hwf : IntKind.i64.wrap (b.fr + 1) = b.fr + 1 := by rw [IntKind.wrap_i64]; omega
      have hl2 : (b.fr + 1 == 69888) = false := by simpa using hl
      clear hl
      go_wp2
      go_end0
      exact ⟨⟨_, rfl⟩, HX.out.1, HX.out.2⟩
set_option maxRecDepth 100000 in
theorem hold_anyB (w : World) (g : Nat) (b : Bd) (A E : Value) (kind a k : Int) (h : BdIs w g b A E) (q0 : -9223372036854775808 ≤ kind) (q1 : kind ≤ 9223372036854775807) (a0 : 0 ≤ a) (a1 : a ≤ 65535) (k0 : -9223372036854775808 ≤ k) (k1 : k ≤ 9223372036854775807) (f0 : 0 ≤ b.fr) (f1 : b.fr ≤ 69887) :
    Calls Try.prog 26 #[.pointer (some ⟨g, 0, none⟩), .int .i64 kind, .int .u16 a, .int .i64 k] w fun x w' => x = .returned (.int .i64 (if b.slow = true then holdS kind a k b.fr else 0)) ∧ w = w' := by
  have cs := h.at_ (i := 65544) (by decide) bd_slow
  have cf := h.at_ (i := 65548) (by decide) bd_fr
  have hho := hold_any kind a k b.fr w q0 q1 a0 a1 k0 k1 (by omega) (by omega)
  clear h
  cases hs : b.slow with
  | true =>
    rw [hs] at cs
    clear hs
    go_enter Try.func26, Try.ntmps26
    go_wp2_with fail
    refine hho.mono ?_
    rintro x w' ⟨rfl, rfl⟩
    clear hho
    go_wp2
    go_ret
    exact ⟨rfl, rfl⟩
  | false =>
    rw [hs] at cs
    clear hs hho
    go_enter Try.func26, Try.ntmps26
    go_wp2
    go_ret
    exact ⟨rfl, rfl⟩
theorem hold_nilB (w : World) (kind a k : Int) : Calls Try.prog 26 #[.pointer none, .int .i64 kind, .int .u16 a, .int .i64 k] w fun x w' => x = .returned (.int .i64 0) ∧ w = w' := by
  go_enter Try.func26, Try.ntmps26
  go_wp2
  go_ret
  exact ⟨rfl, rfl⟩
set_option maxRecDepth 100000 in
theorem int_anyB (w : World) (g : Nat) (b : Bd) (A E : Value) (h : BdIs w g b A E) (f0 : 0 ≤ b.fr) (f1 : b.fr ≤ 69887) :
    Calls Try.prog 27 #[.pointer (some ⟨g, 0, none⟩)] w fun x w' => x = .returned (.bool (decide (b.fr < 32))) ∧ w = w' := by
  have cf := h.at_ (i := 65548) (by decide) bd_fr
  have hak := asks_any b.fr w (by omega) (by omega)
  rw [show frameS b.fr = b.fr from by unfold frameS; omega] at hak
  clear h
  go_enter Try.func27, Try.ntmps27
  go_wp2_with fail
  refine hak.mono ?_
  rintro x w' ⟨rfl, rfl⟩
  clear hak
  go_wp2
  go_ret
  exact ⟨rfl, rfl⟩
theorem int_nilB (w : World) : Calls Try.prog 27 #[.pointer none] w fun x w' => x = .returned (.bool false) ∧ w = w' := by
  go_enter Try.func27, Try.ntmps27
  go_wp2
  go_ret
  exact ⟨rfl, rfl⟩
set_option maxRecDepth 100000 in
theorem paint_anyB (w : World) (g : Nat) (b : Bd) (A E : Value) (v : Int) (h : BdIs w g b A E) (v0 : 0 ≤ v) (v1 : v ≤ 255) :
    Calls Try.prog 30 #[.pointer (some ⟨g, 0, none⟩), .int .u8 v] w fun x w' => (∃ u, x = .returned u) ∧ BdIs w' g { b with bo := v % 8 } A E ∧ w.grownBy w' (some g) := by
  obtain ⟨b7, _, _⟩ := out_bits v0 v1
  have c := h.at_ (i := 65549) (by decide) bd_bo
  have f := h.fz 65549
  have HX := Lib.hid (show BdIs (w.setCell ⟨g, 65549, none⟩ (.int .u8 (v % 8))) g { b with bo := v % 8 } A E from h.put (set_bo _))
  clear h
  go_enter Try.func30, Try.ntmps30
  go_wp2
  go_end0
  exact ⟨⟨_, rfl⟩, HX.out, grown_cell _ _ _ _⟩
theorem paint_nilB (w : World) (v : Int) : Calls Try.prog 30 #[.pointer none, .int .u8 v] w fun x w' => (∃ u, x = .returned u) ∧ w = w' := by
  go_enter Try.func30, Try.ntmps30
  go_wp2
  go_end0
  exact ⟨⟨_, rfl⟩, rfl⟩
end Go.Proofs.Ytfcnlgkaejkneaa
