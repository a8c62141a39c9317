/- Contracts of layer 27: the finder: bytes, pause; what may be; the usual timing. -/
import Derived.Test.YtckgmnlmimogjaaNorm2
import Derived.Laws.ResultCell
namespace Go.Proofs.Ytckgmnlmimogjaa
open Go.RowKit

theorem grown_own0 {w w1 w2 : World} {g : Nat} {r : Option Nat} (h : w.grownBy w1 (some g)) (h2 : w1.grownBy w2 r) (hV : ∀ b, r = some b → w.heap.size ≤ b) : w.grownBy w2 (some g) :=
  ⟨h2.os.trans h.os, h2.tape.trans h.tape, h2.output.trans h.output, Nat.le_trans h.size h2.size, fun j hj hne =>
    (h2.block j (Nat.lt_of_lt_of_le hj h.size) (fun e => by have := hV j e.symm; omega)).trans (h.block j hj hne)⟩
theorem ownsRow_le' {w : World} {base base' size n : Nat} {e : TypeId} {v : Value} {xs : List Value} (h : w.ownsRow base e size v n xs) (hb : base' ≤ base) : w.ownsRow base' e size v n xs := by
  refine ⟨h.1, ?_⟩
  rcases h.2 with h1 | ⟨g, cap, cur, h1, h2, h3⟩
  · exact .inl h1
  · exact .inr ⟨g, cap, cur, h1, by omega, h3⟩
theorem u8Info' : (Try.prog.info? 5).map (fun i => (i.zero, i.size, i.bytes)) = some (some (.int .u8 0), 1, 1) := by kernel_rfl
theorem drop_cons {bs t : List Int} {q : Nat} {v : Int} (h : bs.drop q = v :: t) : bs.getD q 0 = v ∧ q < bs.length ∧ bs.drop (q + 1) = t := by
  have hq : q < bs.length := by
    rcases Nat.lt_or_ge q bs.length with h' | h'
    · exact h'
    · rw [List.drop_eq_nil_of_le h'] at h; cases h
  rw [List.drop_eq_getElem_cons hq] at h
  injection h with h1 h2
  exact ⟨by rw [List.getD_eq_getElem?_getD, List.getElem?_eq_getElem hq]; exact h1, hq, h2⟩
theorem drop_nil {bs : List Int} {q : Nat} (h : bs.drop q = []) : bs.length ≤ q := by
  have := congrArg List.length h
  simp at this
  omega
theorem bit_none {zs : List Int} {k : Nat} {z o tol : Int} (h : bitV zs k z o tol = 2) : bitsN zs k z o tol = [] := by
  unfold bitV at h
  rw [bitsN_step]
  split at h
  · cases h
  · rename_i h1
    rw [if_neg h1]
    split at h
    · cases h
    · rename_i h2
      rw [if_neg h2]
theorem bit_some {zs : List Int} {k : Nat} {z o tol : Int} (h : bitV zs k z o tol ≠ 2) : bitsN zs k z o tol = bitV zs k z o tol :: bitsN zs (k + 2) z o tol ∧ (bitV zs k z o tol = 0 ∨ bitV zs k z o tol = 1) ∧ k + 2 ≤ zs.length := by
  unfold bitV at h ⊢
  rw [bitsN_step]
  split at h
  · rename_i h1
    rw [if_pos h1, if_pos h1]
    exact ⟨rfl, .inl rfl, two_in h1⟩
  · rename_i h1
    rw [if_neg h1, if_neg h1]
    split at h
    · rename_i h2
      rw [if_pos h2, if_pos h2]
      exact ⟨rfl, .inr rfl, two_in h2⟩
    · exact absurd rfl h

set_option maxRecDepth 100000 in
set_option maxHeartbeats 4000000 in
theorem bytes_any {w : World} {g N c a B : Nat} {A : Option Addr} {zs : List Int} {tol p s1 s2 z o : Int} (h : Fd w g A N c a tol) (hr : Reads w B 1 A N (zs.map (Value.int .u32))) (hB : B ≤ g) (hz : isU32 zs) (hN : N ≤ 5000) (ha : a ≤ N) (t0 : 0 ≤ tol) (t1 : tol ≤ 65535) (n0 : 0 ≤ z) (n1 : z ≤ 65535) (n2 : 0 ≤ o) (n3 : o ≤ 65535) :
    Calls Try.prog 23 #[.pointer (some ⟨g, 0, none⟩), .agg #[.int .i64 p, .int .i64 s1, .int .i64 s2, .int .i64 z, .int .i64 o]] w fun e w' =>
      ∃ V, e = .returned V ∧ w'.ownsRow w.heap.size 5 1 V ((bitsN zs a z o tol).length / 8) ((bytesB (bitsN zs a z o tol) ((bitsN zs a z o tol).length / 8)).map (Value.int .u8)) ∧ Fd w' g A N c ((a + 16 * ((bitsN zs a z o tol).length / 8) : Nat) : Int) tol ∧ w.grownBy w' (some g) := by
  obtain ⟨i0, hi, hz0, hz1, hz2⟩ := info_parts u8Info'
  have hg := h.lt
  have hl := reads_len hr
  have h0 : Fd (w.alloc (.cells #[.int .i64 p, .int .i64 s1, .int .i64 s2, .int .i64 z, .int .i64 o] 36)) g A N c a tol := Blk.alloc h _
  have hg0 : w.grownBy (w.alloc (.cells #[.int .i64 p, .int .i64 s1, .int .i64 s2, .int .i64 z, .int .i64 o] 36)) (some g) := World.grownBy_alloc w _ _
  have hT0 : Blk (w.alloc (.cells #[.int .i64 p, .int .i64 s1, .int .i64 s2, .int .i64 z, .int .i64 o] 36)) w.heap.size 36 #[.int .i64 p, .int .i64 s1, .int .i64 s2, .int .i64 z, .int .i64 o] := Blk.new w _ _
  have hbit := fun (w' : World) (k : Nat) (hF : Fd w' g A N c k tol) (hgr : w.grownBy w' (some g)) (hk : k ≤ N) => bit_any (p := p) (s1 := s1) (s2 := s2) hF (grown_reads hr hgr hB hg) hB hz hN hk t0 t1 n0 n1 n2 n3
  have HBIT := Lib.hid hbit
  have hbs : isBits (bitsN zs a z o tol) := bitsK_two _ _ _ _ _ _
  have hlen : a + 2 * (bitsN zs a z o tol).length ≤ N := by rw [← hl]; exact bitsK_len _ _ _ _ _ _ (by omega)
  obtain ⟨bs, hbe⟩ : ∃ bs, bs = bitsN zs a z o tol := ⟨_, rfl⟩
  rw [← hbe] at hbs hlen ⊢
  have HBS := Lib.hid hbs
  have HBE := Lib.hid hbe
  clear h hr hz hbit hbs hbe
  go_enter Try.func23, Try.ntmps23
  go_wp2_with fail
  go_loopw [5] (fun x wr => ∃ m q : Nat, 8 * m ≤ bs.length ∧ Hid (q = a + 16 * m) ∧ Hid (bs.drop (8 * m) = bitsN zs q z o tol) ∧ wr.ownsRow (w.heap.size + 1) 5 1 x m ((bytesB bs m).map (Value.int .u8)) ∧ Fd wr g A N c q tol ∧ w.grownBy wr (some g) ∧ Blk wr w.heap.size 36 #[.int .i64 p, .int .i64 s1, .int .i64 s2, .int .i64 z, .int .i64 o]) (fun x _ => bs.length + 1 - (match x with | .slice _ n _ => 8 * n | _ => 0))
  case atStart => exact ⟨0, a, by omega, Lib.hid (by omega), Lib.hid (by rw [← HBE.out]; rfl), World.ownsRow_nil _ _ _ _, h0, hg0, hT0⟩
  case round =>
    obtain ⟨m, q, hm, HQ, HD, hown, hF, hgr, hT⟩ := hrel
    obtain ⟨VA, vc, rfl⟩ := own_slice hown
    have c1 : wr.cell? ⟨g, 1, none⟩ = some (.int .i64 q) := (hF.cell 1).trans rfl
    have HF := Lib.hid (And.intro hown (And.intro hF (And.intro hgr hT)))
    clear hown hF hgr hT h0 hg0 hT0
    go_wp2_with fail
    go_region
    obtain ⟨hown, hF, hgr, hT⟩ := HF.out
    have W0 : wr.drew.ownsRow (w.heap.size + 1) 5 1 (.slice VA m vc) m ((bytesB bs m).map (Value.int .u8)) := hown
    have W1 : Fd wr.drew g A N c q tol := hF
    have W2 : w.grownBy wr.drew (some g) := grown_trans hgr grown_drew
    have W3 : Blk wr.drew w.heap.size 36 #[.int .i64 p, .int .i64 s1, .int .i64 s2, .int .i64 z, .int .i64 o] := hT
    clear hown hF hgr hT HF c1
    generalize wr.drew = W at *
    go_wp2_with fail
    go_loopw [6, 14] (fun x y wv => ∃ j r : Nat, j ≤ 8 ∧ 8 * m + j ≤ bs.length ∧ y = .int .i64 j ∧ x = .int .i64 (valB bs (8 * m) j) ∧ Hid (r = q + 2 * j) ∧ Hid (bs.drop (8 * m + j) = bitsN zs r z o tol) ∧ wv.ownsRow (w.heap.size + 1) 5 1 (.slice VA m vc) m ((bytesB bs m).map (Value.int .u8)) ∧ Fd wv g A N c r tol ∧ w.grownBy wv (some g) ∧ Blk wv w.heap.size 36 #[.int .i64 p, .int .i64 s1, .int .i64 s2, .int .i64 z, .int .i64 o]) (fun _ y _ => 9 - (intOf y).toNat)
    case atStart => exact ⟨0, q, by omega, by omega, rfl, rfl, Lib.hid (by omega), HD, W0, W1, W2, W3⟩
    case round =>
      obtain ⟨j, r, hj, hjl, rfl, rfl, HR, HE, hown, hF, hgr, hT⟩ := hrel
      clear W0 W1 W2 W3
      by_cases hj8 : j < 8
      · have hjI : (j : Int) < 8 := by omega
        have hbit := HBIT.out wr r hF hgr (by have := HR.out; have := HQ.out; omega)
        have k0 : wr.cell? ⟨w.heap.size, 0, none⟩ = some (.int .i64 p) := (hT.cell 0).trans rfl
        have k1 : wr.cell? ⟨w.heap.size, 1, none⟩ = some (.int .i64 s1) := (hT.cell 1).trans rfl
        have k2 : wr.cell? ⟨w.heap.size, 2, none⟩ = some (.int .i64 s2) := (hT.cell 2).trans rfl
        have k3 : wr.cell? ⟨w.heap.size, 3, none⟩ = some (.int .i64 z) := (hT.cell 3).trans rfl
        have k4 : wr.cell? ⟨w.heap.size, 4, none⟩ = some (.int .i64 o) := (hT.cell 4).trans rfl
        have HK := Lib.hid (show ∀ w1 : World, wr.grownBy w1 (some g) → w1.ownsRow (w.heap.size + 1) 5 1 (.slice VA m vc) m ((bytesB bs m).map (Value.int .u8)) ∧ w.grownBy w1 (some g) ∧ Blk w1 w.heap.size 36 #[.int .i64 p, .int .i64 s1, .int .i64 s2, .int .i64 z, .int .i64 o] from fun w1 hg1 =>
          ⟨hown.kept hg1 (.inr (own_blk_ne hown hF (by decide))), grown_trans hgr hg1, hT.grown hg1 (fun e => by injection e with e; omega)⟩)
        obtain ⟨V, hV⟩ : ∃ V, V = bitV zs r z o tol := ⟨_, rfl⟩
        rw [← hV] at hbit
        have HV := Lib.hid hV
        clear hV hown hF hgr hT
        go_wp2_with fail
        refine hbit.mono ?_
        rintro e w1 ⟨rfl, hF1, hg1⟩
        clear hbit k0 k1 k2 k3 k4
        obtain ⟨own1, hgr1, hT1⟩ := HK.out w1 hg1
        clear hg1
        by_cases hv2 : V = 2
        · subst hv2
          have hE := HE.out
          rw [bit_none HV.out.symm] at hE
          have hE2 := drop_nil hE
          have HM := Lib.hid (show bs.length / 8 = m by omega)
          have f1 := hF1.frozen 1
          have c1 : w1.cell? ⟨g, 1, none⟩ = some (.int .i64 r) := (hF1.cell 1).trans rfl
          have HF2 := Lib.hid (hF1.set_ 1 (.int .i64 (q : Int)))
          have HO := Lib.hid (own1.kept (grown_set (g := g) (i := 1) (.int .i64 (q : Int))) (.inr (own_blk_ne own1 hF1 (by decide))))
          clear hE hE2 hF1 own1
          go_wp2
          go_ret
          refine ⟨_, rfl, ?_, ?_, grown_trans hgr1 (grown_set _)⟩
          · rw [HM.out]
            exact ownsRow_le' HO.out (by omega)
          · rw [HM.out, ← HQ.out]
            exact HF2.out
        · obtain ⟨b1, b2, b3⟩ := bit_some (zs := zs) (k := r) (z := z) (o := o) (tol := tol) (by rw [← HV.out]; exact hv2)
          rw [← HV.out] at b1 b2
          have hE := HE.out
          rw [b1] at hE
          obtain ⟨e1, e2, e3⟩ := drop_cons hE
          have hvb := valB_in HBS.out (8 * m) j
          have hpow : (2 : Int) ^ j ≤ 128 := by
            have : (2 : Int) ^ j ≤ 2 ^ 7 := by
              have h := Nat.pow_le_pow_right (n := 2) (by omega) (show j ≤ 7 by omega)
              exact_mod_cast h
            omega
          have HVS := Lib.hid (show valB bs (8 * m) (j + 1) = 2 * valB bs (8 * m) j + V by rw [← e1]; rfl)
          have HT := Lib.hid (show bs.drop (8 * m + (j + 1)) = bitsN zs (r + 2) z o tol from e3)
          generalize valB bs (8 * m) j = Cc at *
          have hw1 : IntKind.i64.wrap (Cc * 2) = Cc * 2 := by rw [IntKind.wrap_i64]; omega
          have hor : bits .or .i64 (Cc * 2) V = Cc * 2 + V := bits_join .i64 62 (by decide) (fun n h0 h1 => by rw [IntKind.wrap_i64]; omega) 1 _ _ (by omega) (by omega) (by omega) (by omega) (by omega) (by omega)
          obtain ⟨r', hr'⟩ : ∃ r', r' = r + 2 := ⟨_, rfl⟩
          rw [if_neg hv2, ← hr'] at hF1
          have HR' := Lib.hid hr'
          rw [if_neg hv2]
          have hvt : (V != 2) = true := by simpa using hv2
          clear b1 hE e1 e3 hr' b3
          go_wp2
          go_roundw
          case rel => exact ⟨j + 1, r', by omega, by omega, by go_num, by rw [HVS.out]; congr 1; omega, Lib.hid (by rw [HR'.out, HR.out]; omega), Lib.hid (by rw [HR'.out]; exact HT.out), own1, hF1, hgr1, hT1⟩
          case measure => simp [intOf]; omega
      · obtain rfl : j = 8 := by omega
        have hvb := valB_in HBS.out (8 * m) 8
        have HVS := Lib.hid (bytesB_succ bs m)
        generalize valB bs (8 * m) 8 = Cc at *
        have hw1 : IntKind.u8.wrap Cc = Cc := by rw [IntKind.wrap_u8]; omega
        have hmN : m ≤ 5000 := by omega
        have HO := Lib.hid (And.intro hF (And.intro hgr hT))
        go_wp2_with (first
          | (at_builtin; refine wpList_append_own _ rfl _ _ 27 rfl (w.heap.size + 1) 5 i0 (.int .u8 0) 1 1 Try.underlying27 hi hz0 hz1 hz2 rfl (by decide) _ _ _ rfl (hown.alloc _) ⟨wr.heap.size, 0, none⟩ 1 1 [.int .u8 Cc] rfl rfl ?c1 ?c2 ?c3 ?c4 ?c5 ?_)
          | go_in)
        case c1 =>
          intro i u hi
          match i, hi with
          | 0, hi => simp at hi; subst hi; simp [Addr.add]
        case c2 => intro u hu; simp at hu; subst hu; rfl
        case c3 => unfold maxLen; omega
        case c4 => omega
        case c5 => have := hT.lt; simp; omega
        intro v' w1 own1 hgrow _
        obtain ⟨hF', hgr', hT'⟩ := HO.out
        have hFa : Fd (wr.alloc (.cells #[.int .u8 Cc] 5)) g A N c r tol := Blk.alloc hF' _
        have hTa := hT'.alloc (.cells #[.int .u8 Cc] 5)
        have owna := hown.alloc (.cells #[.int .u8 Cc] 5)
        have hF1 : Fd w1 g A N c r tol := hFa.grown hgrow (fun e => own_blk_ne owna hFa (by decide) e.symm)
        have hT1 := hTa.grown hgrow (fun e => own_blk_ne owna hTa (by decide) e.symm)
        have hgr1 : w.grownBy w1 (some g) := grown_own0 (grown_trans hgr' (World.grownBy_alloc wr _ _)) hgrow (fun b hb => by have := (owna.lt b hb).1; omega)
        obtain ⟨VA1, vc1, rfl⟩ := own_slice own1
        have HL := Lib.hid (And.intro own1 (And.intro hF1 (And.intro hgr1 hT1)))
        clear own1 hF1 hgr1 hT1 hTa hFa owna hF' hgr' hT' hF hgr hT hown hgrow HO
        go_wp2
        go_roundw
        case rel =>
          obtain ⟨own1, hF1, hgr1, hT1⟩ := HL.out
          refine ⟨m + 1, r, by omega, Lib.hid (by rw [HR.out, HQ.out]; omega), Lib.hid (by rw [← HE.out]; congr 1), ?_, hF1, hgr1, hT1⟩
          rw [HVS.out, List.map_append]
          exact own1
        case measure => simp; omega

end Go.Proofs.Ytckgmnlmimogjaa
