/- Contracts of layer 13: the document's sum, and the program's sum of pieces. -/
import Derived.Test.YtkhbkfecnpnchaaProg
import Derived.Test.YtkhbkfecnpnchaaBase
import Derived.Test.YtkhbkfecnpnchaaP13
import Derived.BigRegion
import Derived.Lib.EndianBits
namespace Go.Proofs.Ytkhbkfecnpnchaa
open Go.RowKit

/-- the bytes of a slice -/
def isU8 (zs : List Int) : Prop := ∀ z ∈ zs, 0 ≤ z ∧ z ≤ 255
theorem isU8_at {zs : List Int} (h : isU8 zs) {k : Nat} (hk : k < zs.length) : 0 ≤ zs.getD k 0 ∧ zs.getD k 0 ≤ 255 := by
  have : zs.getD k 0 ∈ zs := by rw [List.getD_eq_getElem?_getD, List.getElem?_eq_getElem hk]; exact List.getElem_mem hk
  exact h _ this
theorem u8_at {w : World} {B n : Nat} {A : Option Addr} {zs : List Int} (h : Reads w B 1 A n (zs.map (Value.int .u8))) {k : Nat} (hk : k < n) :
    ∃ ad, A = some ad ∧ ad.block < B ∧ w.cell? (ad.add k) = some (.int .u8 (zs.getD k 0)) := by
  obtain ⟨ad, u, e, hb, hx, hc⟩ := h.at_ hk
  refine ⟨ad, e, hb, hc.trans ?_⟩
  rw [← hx]
  have hl : k < zs.length := by have := h.1; simp at this; omega
  simp [List.getD_eq_getElem?_getD, hl]

theorem ref13_any (w : World) (B n c : Nat) (A : Option Addr) (zs : List Int) (hr : Reads w B 1 A n (zs.map (Value.int .u8))) (hz : isU8 zs) (hn : n ≤ maxLen) :
    Calls Try.prog 29 #[.slice A n c] w fun e w' => e = .returned (.int .u32 (adV (adF (1, 0) zs))) ∧ w = w' := by
  unfold maxLen at hn
  have hl : zs.length = n := by have := hr.1; simpa using this
  go_enter Try.func29, Try.ntmps29
  go_wp2
  go_loop [3, 4, 5] (fun x y i => ∃ k : Nat, k ≤ n ∧ i = .int .i64 k ∧ x = .int .i64 (adF (1, 0) (zs.take k)).1 ∧ y = .int .i64 (adF (1, 0) (zs.take k)).2) (fun _ _ i => n - (intOf i).toNat)
  case atStart => exact ⟨0, Nat.zero_le _, rfl, rfl, rfl⟩
  case round =>
    obtain ⟨k, hk, rfl, rfl, rfl⟩ := hrel
    obtain ⟨b1, b2, b3, b4⟩ := adF_in (p := (1, 0)) (zs.take k) (by unfold adIn; omega)
    by_cases hlt : k < n
    · obtain ⟨ad, rfl, hb, hc⟩ := u8_at hr hlt
      have hS := Lib.hid (adF_take (1, 0) zs k (by omega))
      obtain ⟨c0, c1⟩ := isU8_at hz (k := k) (by omega)
      generalize zs.getD k 0 = z at *
      go_wp2
      go_round
      case rel => exact ⟨k + 1, by omega, by go_num, by rw [hS.out]; rfl, by rw [hS.out]; rfl⟩
      case measure => simp [intOf]; omega
    · have hk' : k = n := by omega
      have hS := Lib.hid (show zs.take k = zs by rw [hk', ← hl, List.take_length])
      clear hk'
      go_wp2
      go_ret
      refine ⟨ret_int ?_, rfl⟩
      rw [hS.out] at b1 b2 b3 b4 ⊢
      unfold adV
      first | rfl | omega

theorem value_none (w : World) :
    Calls Try.prog 31 #[.pointer none] w fun e w' => e = .returned (.int .u32 1) ∧ w = w' := by
  go_enter Try.func31, Try.ntmps31
  go_wp2
  go_ret
  exact ⟨rfl, rfl⟩

theorem shl16 {b x : Int} (b0 : 0 ≤ b) (b1 : b ≤ 65520) (x0 : 0 ≤ x) (x1 : x ≤ 65520) : bits .or .u32 (b * 65536) x = 65536 * b + x := by
  rw [bits_join .u32 32 (by decide) wraps_u32 16 (b * 65536) x (by omega) (by omega) (by omega) x0 (by omega) (by omega)]
  omega
theorem value_any (w : World) (g : Nat) (p : Int × Int) (hp : adIn p) (c0 : w.cell? ⟨g, 0, none⟩ = some (.int .u32 (adA p))) (c1 : w.cell? ⟨g, 1, none⟩ = some (.int .u32 p.2)) :
    Calls Try.prog 31 #[.pointer (some ⟨g, 0, none⟩)] w fun e w' => e = .returned (.int .u32 (adV p)) ∧ ∃ n, w' = w.drewN n := by
  have hv := Lib.hid (adA_val hp)
  obtain ⟨a0, a1⟩ := adA_bd (p := p)
  obtain ⟨h1, h2, h3, h4⟩ := hp
  generalize adA p = a at *
  go_enter Try.func31, Try.ntmps31
  go_wp2
  go_quiet (fail)
  all_goals
    go_wp2
    go_ret
    refine ⟨ret_int ?_, _, rfl⟩
    rw [shl16 h3 h4 (by omega) (by omega), hv.out]
    rfl

theorem add_none (w : World) (v : Value) :
    Calls Try.prog 30 #[.pointer none, v] w fun e w' => e = .returned (.tuple #[]) ∧ w = w' := by
  go_enter Try.func30, Try.ntmps30
  go_wp2
  refine bodyPost_ret (results_none rfl _ _ _) rfl ?_
  exact ⟨rfl, rfl⟩

/-- the bytes of pieces: each cell of the outer slice is a slice whose bytes are known -/
structure Piece where
  a : Option Addr
  n : Nat
  c : Nat
  zs : List Int
def Piece.val (p : Piece) : Value := .slice p.a p.n p.c
def Piece.ok (w : World) (B : Nat) (p : Piece) : Prop := Reads w B 1 p.a p.n (p.zs.map (Value.int .u8)) ∧ p.n ≤ p.c ∧ p.c ≤ maxLen ∧ isU8 p.zs
def bytesOf (ps : List Piece) : List Int := ps.flatMap (·.zs)

def lenOf (v : Value) : Nat := match v with | .slice _ n _ => n | _ => 0

set_option maxRecDepth 100000 in
set_option maxHeartbeats 1000000 in
theorem add_any (w : World) (g : Nat) (p : Int × Int) (hp : adIn p) (c0 : w.cell? ⟨g, 0, none⟩ = some (.int .u32 (adA p))) (c1 : w.cell? ⟨g, 1, none⟩ = some (.int .u32 p.2))
    (f0 : w.frozen? ⟨g, 0, none⟩ = false) (f1 : w.frozen? ⟨g, 1, none⟩ = false)
    (A : Option Addr) (m c : Nat) (ps : List Piece) (B : Nat) (hr : Reads w B 1 A m (ps.map Piece.val)) (hm : m ≤ maxLen) (hps : ∀ q ∈ ps, q.ok w B) :
    Calls Try.prog 30 #[.pointer (some ⟨g, 0, none⟩), .slice A m c] w fun e w' => e = .returned (.tuple #[]) ∧
      ∃ n, w' = (((w.setCell ⟨g, 0, none⟩ (.int .u32 (adA (adF p (bytesOf ps))))).setCell ⟨g, 1, none⟩ (.int .u32 (adF p (bytesOf ps)).2)).drewN n) := by
  have hO := Lib.hid (adA_open hp)
  obtain ⟨a0, a1⟩ := adA_bd (p := p)
  obtain ⟨h1, h2, h3, h4⟩ := hp
  unfold maxLen at hm
  have hl : ps.length = m := by have := hr.1; simpa using this
  have hL := Lib.hid hl
  clear hl
  generalize hG : adA p = a at *
  have hG' := Lib.hid hG
  clear hG
  go_enter Try.func30, Try.ntmps30
  go_wp2
  go_quiet (fail)
  go_wp2
  go_loopw [4, 5, 24] (fun x y i wr => ∃ (j n : Nat) (av bv : Int), j ≤ m ∧ i = .int .i64 j ∧ x = .int .u32 av ∧ y = .int .u32 bv ∧ adTight (adF p (bytesOf (ps.take j))) av bv ∧ wr = w.drewN n) (fun _ _ i _ => m - (intOf i).toNat)
  case atStart => exact ⟨0, nq, _, _, Nat.zero_le _, rfl, rfl, rfl, hO.out, rfl⟩
  case round =>
    obtain ⟨j, n, av, bv, hj, rfl, rfl, rfl, hT, rfl⟩ := hrel
    have hT' := Lib.hid hT
    obtain ⟨⟨t1, t2, t3, t4⟩, t5, t6, t7, t8⟩ := hT
    clear t7 t8
    have b0 : 0 ≤ bv := by have := hT'.out; unfold adTight adIn at this; omega
    have b1 : bv ≤ 65520 := by have := hT'.out; unfold adTight adIn at this; omega
    by_cases hlt : j < m
    · obtain ⟨ad, v, rfl, hb, hx, hc⟩ := hr.at_ hlt
      obtain ⟨q, hq, rfl⟩ : ∃ q, ps[j]? = some q ∧ v = q.val := by
        rw [List.getElem?_map] at hx
        cases h : ps[j]? with
        | none => rw [h] at hx; cases hx
        | some q => rw [h] at hx; injection hx with hx; exact ⟨q, rfl, hx.symm⟩
      have hqo := hps q (List.mem_of_getElem? hq)
      have hq' := Lib.hid (show ps.take (j + 1) = ps.take j ++ [q] by rw [List.take_add_one, hq]; rfl)
      clear hq hx
      obtain ⟨qa, qn, qc, zs⟩ := q
      obtain ⟨qr, q1, q2, q3⟩ := hqo
      unfold maxLen at q2
      simp only [Piece.val] at hc qr q1 q2 q3
      generalize hs : adF p (bytesOf (ps.take j)) = s at *
      have hs' := Lib.hid hs
      clear hs
      have ql : zs.length = qn := by have := qr.1; simpa using this
      have ql' := Lib.hid ql
      clear ql
      go_wp2
      go_loopw [4, 5, 7] (fun x y l wr => ∃ (zd zr : List Int) (r lc n : Nat) (la : Option Addr) (av bv : Int), Hid (zs = zd ++ zr) ∧ l = .slice la r lc ∧ Reads w B 1 la r (zr.map (Value.int .u8)) ∧ r ≤ lc ∧ lc ≤ 2 ^ 63 - 1 ∧ x = .int .u32 av ∧ y = .int .u32 bv ∧ adTight (adF s zd) av bv ∧ wr = w.drewN n) (fun _ _ l _ => lenOf l)
      case atStart => exact ⟨[], zs, qn, qc, n, qa, av, bv, rfl, rfl, qr, q1, q2, rfl, rfl, hT'.out, rfl⟩
      case round =>
        clear hT' hc hb t1 t2 t3 t4 t5 t6 b0 b1
        obtain ⟨zd, zr, r, lc, n, la, av, bv, hz, rfl, lr, l1, l2, rfl, rfl, hT, rfl⟩ := hrel
        by_cases hr0 : 0 < r
        · by_cases h5 : (r : Int) ≤ 5552
          · have rl : zr.length = r := by have := lr.1; simpa using this
            have rl' := Lib.hid rl
            clear rl
            generalize hs2 : adF s zd = s2 at *
            have hs2' := Lib.hid hs2
            clear hs2
            go_wp2
            go_loop [4, 5, 38] (fun x y i => ∃ (k : Nat) (av bv : Int), k ≤ r ∧ i = .int .i64 k ∧ x = .int .u32 av ∧ y = .int .u32 bv ∧ adLoose (adF s2 (zr.take k)) k av bv) (fun _ _ i => r - (intOf i).toNat)
            case atStart => exact ⟨0, av, bv, by omega, rfl, rfl, rfl, adTight_loose hT⟩
            case round =>
              have h2 := hT.1
              have h2' := Lib.hid h2
              clear hT h2
              obtain ⟨k, av, bv, hk, rfl, rfl, rfl, hLo⟩ := hrel
              have hLo' := Lib.hid hLo
              obtain ⟨a0, a1, b0, b1⟩ := adLoose_bd hLo (by omega)
              clear hLo
              by_cases hkr : k < r
              · obtain ⟨az, rfl, bz, cz⟩ := u8_at lr (k := k) (by omega)
                have hzk : k < zr.length := by rw [rl'.out]; omega
                have zb : 0 ≤ zr.getD k 0 ∧ zr.getD k 0 ≤ 255 := isU8_at (by rw [hz.out] at q3; exact fun z hm => q3 z (by simp [hm])) hzk
                obtain ⟨st, e1, e2⟩ := adLoose_step hLo'.out (by omega) zb.1 zb.2
                rw [← adF_take s2 zr k hzk] at st
                have st' := Lib.hid st
                clear st hzk
                obtain ⟨z0, z1⟩ := zb
                generalize zr.getD k 0 = z at *
                go_wp2
                go_round
                case rel => exact ⟨k + 1, av + z, bv + (av + z), by omega, by go_num, rfl, rfl, st'.out⟩
                case measure => simp [intOf]; omega
              · have hk2 : k = r := by omega
                subst hk2
                go_wp2
                go_quiet (fail)
                go_wp2
                go_roundw
                case rel =>
                  have hcut := lr.cut (k := k) (cap := lc) (by omega) l1
                  simp only [Nat.mul_one, ← List.map_drop] at hcut
                  have ht := adLoose_tight hLo'.out (adF_in _ h2'.out)
                  rw [← hs2'.out, ← adF_app] at ht
                  exact ⟨zd ++ zr.take k, zr.drop k, _, lc - k, n + nq, _, _, _, Lib.hid (by rw [hz.out, List.append_assoc, List.take_append_drop]), rfl, by first | exact hcut | simpa using hcut, by omega, by omega, rfl, rfl, ht, by rw [World.drewN_drewN]⟩
                case measure => simp [lenOf]; omega
          · have rl : zr.length = r := by have := lr.1; simpa using this
            have rl' := Lib.hid rl
            clear rl
            generalize hs2 : adF s zd = s2 at *
            have hs2' := Lib.hid hs2
            clear hs2
            go_wp2
            go_loop [4, 5, 38] (fun x y i => ∃ (k : Nat) (av bv : Int), (k : Int) ≤ 5552 ∧ i = .int .i64 k ∧ x = .int .u32 av ∧ y = .int .u32 bv ∧ adLoose (adF s2 (zr.take k)) k av bv) (fun _ _ i => 5552 - (intOf i).toNat)
            case atStart => exact ⟨0, av, bv, by omega, rfl, rfl, rfl, adTight_loose hT⟩
            case round =>
              have h2 := hT.1
              have h2' := Lib.hid h2
              clear hT h2
              obtain ⟨k, av, bv, hk, rfl, rfl, rfl, hLo⟩ := hrel
              have hLo' := Lib.hid hLo
              obtain ⟨a0, a1, b0, b1⟩ := adLoose_bd hLo (by omega)
              clear hLo
              by_cases hkr : (k : Int) < 5552
              · obtain ⟨az, rfl, bz, cz⟩ := u8_at lr (k := k) (by omega)
                have hzk : k < zr.length := by rw [rl'.out]; omega
                have zb : 0 ≤ zr.getD k 0 ∧ zr.getD k 0 ≤ 255 := isU8_at (by rw [hz.out] at q3; exact fun z hm => q3 z (by simp [hm])) hzk
                obtain ⟨st, e1, e2⟩ := adLoose_step hLo'.out (by omega) zb.1 zb.2
                rw [← adF_take s2 zr k hzk] at st
                have st' := Lib.hid st
                clear st hzk
                obtain ⟨z0, z1⟩ := zb
                generalize zr.getD k 0 = z at *
                go_wp2
                go_round
                case rel => exact ⟨k + 1, av + z, bv + (av + z), by omega, by go_num, rfl, rfl, st'.out⟩
                case measure => simp [intOf]; omega
              · have hk2 := Lib.hid (show k = 5552 by omega)
                go_wp2
                go_quiet (fail)
                go_wp2
                go_roundw
                case rel =>
                  rw [← hk2.out]
                  have hcut := lr.cut (k := k) (cap := lc) (by omega) l1
                  simp only [Nat.mul_one, ← List.map_drop] at hcut
                  rw [if_neg (by have := hk2.out; omega), show (fun x : Addr => x.add k) = (fun x => { block := x.block, off := x.off + k }) by funext x; unfold Addr.add; rw [if_neg (by have := hk2.out; omega)]] at hcut
                  have ht := adLoose_tight hLo'.out (adF_in _ h2'.out)
                  rw [← hs2'.out, ← adF_app] at ht
                  exact ⟨zd ++ zr.take k, zr.drop k, _, lc - k, n + nq, _, _, _, Lib.hid (by rw [hz.out, List.append_assoc, List.take_append_drop]), rfl, by first | exact hcut | simpa using hcut, by omega, by omega, rfl, rfl, ht, by rw [World.drewN_drewN]⟩
                case measure => simp [lenOf]; omega
        · go_wp2
          go_roundw
          case rel =>
            have hr' : r = 0 := by omega
            have hz0 : zr = [] := by have := lr.1; simp at this; exact List.eq_nil_of_length_eq_zero (by omega)
            have hzd : zs = zd := by rw [hz.out, hz0, List.append_nil]
            refine ⟨j + 1, n, av, bv, by omega, by go_num, rfl, rfl, ?_, rfl⟩
            rw [hq'.out, bytesOf, List.flatMap_append, ← bytesOf, adF_app, hs'.out]
            simpa [hzd] using hT
          case measure => simp [intOf]; omega
    · go_wp2
      first | go_end0 | refine bodyPost_ret (results_none rfl _ _ _) rfl ?_
      have hs := adA_shut hT'.out
      have hk : ps.take j = ps := by have := hL.out; rw [List.take_of_length_le (by omega)]
      rw [hk] at hs
      obtain ⟨hs1, hs2⟩ := hs
      refine ⟨rfl, n, ?_⟩
      rw [← hs1, ← hs2]
      first | rfl | omega

theorem Piece.ok.keep {w w' : World} {B : Nat} {q : Piece} (h : q.ok w B) (hk : ∀ p : Addr, p.block < B → w'.cell? p = w.cell? p) : q.ok w' B := ⟨h.1.keep hk, h.2⟩

theorem of13_any (w : World) (A : Option Addr) (m c : Nat) (ps : List Piece) (hr : Reads w w.heap.size 1 A m (ps.map Piece.val)) (hm : m ≤ maxLen) (hps : ∀ q ∈ ps, q.ok w w.heap.size) :
    Calls Try.prog 28 #[.slice A m c] w fun e w' => e = .returned (.int .u32 (adV (adF (1, 0) (bytesOf ps)))) ∧ Below w.heap.size w w' := by
  have hr1 : Reads (w.alloc (.cells #[.int .u32 0, .int .u32 0] 47)) w.heap.size 1 A m (ps.map Piece.val) := hr.alloc (Nat.le_refl _) _
  have hps1 : ∀ q ∈ ps, q.ok (w.alloc (.cells #[.int .u32 0, .int .u32 0] 47)) w.heap.size := fun q hq => (hps q hq).keep fun p hp => World.cell?_alloc_lt w _ p hp
  clear hr hps
  go_enter Try.func28, Try.ntmps28
  go_wp2_with (first
    | (go_at_call 30
       refine (add_any (w.alloc (.cells #[.int .u32 0, .int .u32 0] 47)) w.heap.size (1, 0) (by unfold adIn; omega) (by rw [World.cell?_alloc_at _ _ _ _ rfl]; rfl) (by rw [World.cell?_alloc_at _ _ _ _ rfl]; rfl) (by simp) (by simp) A m c ps _ hr1 hm hps1).mono ?_
       rintro e w1 ⟨rfl, n1, rfl⟩)
    | (go_at_call 31
       refine (value_any _ w.heap.size (adF (1, 0) (bytesOf ps)) (adF_in _ (by unfold adIn; omega)) (by simp) (by simp)).mono ?_
       rintro e w2 ⟨rfl, n2, rfl⟩))
  go_ret
  exact ⟨rfl, below_drewN ((Below.refl _ _).alloc (Nat.le_refl _) _) _⟩

end Go.Proofs.Ytkhbkfecnpnchaa
