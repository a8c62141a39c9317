/- Layer 27: the document's rest of a tidy tape. -/
import Derived.Test.YtckgmnlmimogjaaNt2
import Derived.Test.YtckgmnlmimogjaaNk9
namespace Go.Proofs.Ytckgmnlmimogjaa
open Go.RowKit

/-- what a rest leaves: its slice, why there is none -/
def RestO (w w' : World) (e : Ending) (base tb : Nat) (V : Value) (E : Int) (D : List BD) : Prop :=
  ∃ V' xs', e = .returned (.tuple #[V', .int .i64 E]) ∧ (E = 0 → w'.ownsRow base 33 18 V' D.length xs' ∧ BlksAt w' (PhiT w' base tb V') D xs' ∧ V'.ownBlock ≠ some tb) ∧ w.grownBy w' V.ownBlock
theorem grown_of_below {w w' : World} {r : Option Nat} (h : Below w.heap.size w w') : w.grownBy w' r := ⟨h.os, h.tape, h.output, h.size, fun k hk _ => h.block k hk⟩
theorem grown_chain {w w1 w2 : World} {r : Option Nat} (h : w.grownBy w1 r) (h' : w1.grownBy w2 r) : w.grownBy w2 r :=
  ⟨h'.os.trans h.os, h'.tape.trans h.tape, h'.output.trans h.output, Nat.le_trans h.size h'.size, fun k hk hr => (h'.block k (Nat.lt_of_lt_of_le hk h.size) hr).trans (h.block k hk hr)⟩
theorem PhiT_grown {w w' : World} {base tb : Nat} {V V' : Value} (hg : w.grownBy w' V.ownBlock) (hv : V'.ownBlock = V.ownBlock ∨ V'.ownBlock = some w.heap.size) : (∀ b, PhiT w base tb V b → w'.heap[b]? = w.heap[b]?) ∧ (∀ b, PhiT w base tb V b → PhiT w' base tb V' b) :=
  ⟨fun b hp => hg.block b hp.2.1 (fun e => hp.2.2.2 e.symm), fun b hp => ⟨hp.1, by have := hp.2.1; have := hg.size; omega, hp.2.2.1, by
    rcases hv with e | e
    · rw [e]; exact hp.2.2.2
    · rw [e]; intro e2; injection e2 with e2; have := hp.2.1; omega⟩⟩
theorem sl_neg (lv : Bool) (a : Nat) (h : a % 2 = 1) : (lv != decide (a % 2 = 1)) = !lv := by rw [h]; cases lv <;> rfl
theorem sl_pos (lv : Bool) (a : Nat) (h : ¬ a % 2 = 1) : (lv != decide (a % 2 = 1)) = lv := by rw [decide_eq_false h]; cases lv <;> rfl

set_option maxRecDepth 100000 in
set_option maxHeartbeats 4000000 in
theorem restR_any (w : World) (base tb a b N c : Nat) (lv : Bool) (V : Value) (A : Option Addr) (zs : List Int) (dl : List BD) (xs : List Value)
    (hV : w.ownsRow base 33 18 V dl.length xs) (hk : BlksAt w (PhiT w base tb V) dl xs) (hne : V.ownBlock ≠ some tb) (hbs : base ≤ w.heap.size) (htb : tb < w.heap.size) (hr : Reads w base 1 A N (zs.map (Value.int .u32))) (hz : isU32 zs) (hab : a ≤ b) (hb : b ≤ N) (hN : N ≤ 4000) (hc : N ≤ c) (hd : dl.length ≤ 4096) :
    Calls Try.prog 32 #[V, .bool lv, .slice A N c, .int .i64 a, .int .i64 b] w fun e w' => RestO w w' e base tb V (restE zs lv a b dl) (restD zs lv a b dl) := by
  obtain ⟨i1, hj, hy0, hy1, hy2⟩ := info_parts blkInfo4
  obtain ⟨Av, cv, rfl⟩ := own_slice hV
  by_cases hE : a = b
  · obtain ⟨h1, h2⟩ := restE_0 (zs := zs) (lv := lv) (dl := dl) hE
    rw [h1, h2]
    subst hE
    have HH := Lib.hid (And.intro hV (And.intro hk hne))
    clear hV hk hne hr h1 h2
    go_enter Try.func32, Try.ntmps32
    go_wp2
    go_ret2
    exact ⟨_, xs, rfl, fun _ => HH.out, World.grownBy.refl _ _⟩
  · have haN : a < N := by omega
    obtain ⟨ad, rfl, _, _⟩ := i32_at hr haN
    have hsub := Reads.sub_ (a := a) (b := b) hr hb
    have hlen : (cutI zs a b).length = b - a := reads_len hsub
    have hII : ¬ (a : Int) = (b : Int) := by omega
    have h1 : (a : Int) ≤ (b : Int) := by omega
    have h2 : (b : Int) ≤ (c : Int) := by omega
    have h3 : (0 : Int) ≤ (a : Int) := Int.natCast_nonneg _
    have h4 : ¬ c = a := by omega
    have h5 : a ≤ b := hab
    have h6 : b ≤ c := by omega
    have hba : b - a ≤ 4000 := by omega
    have HH := Lib.hid (And.intro hV (And.intro hk (And.intro hne (And.intro hbs htb))))
    have HEX := Lib.hid (show ∀ high, Calls Try.prog 44 #[.bool high, .slice (some (ad.add a)) (b - a) (c - a)] w fun e w' => ∃ A' m c' xs, e = .returned (.tuple #[.agg #[.int .i64 (exV (cutI zs a b)).1, .int .i64 (exV (cutI zs a b)).2.1, .slice A' m c'], .int .i64 (exV (cutI zs a b)).2.2]) ∧ RdP w' (fun b => w.heap.size ≤ b ∧ b < w'.heap.size) 18 A' m xs ∧ BlksAt w' (fun b => w.heap.size ≤ b ∧ b < w'.heap.size) (exL high (cutI zs a b)) xs ∧ Below w.heap.size w w' from
      fun high => exactr_any w high (some (ad.add a)) (b - a) (c - a) (cutI zs a b) (hsub.more hbs) (cutI_in hz a b) hba)
    have hrl : (restL lv zs a b).length ≤ b - a + 2 := by have := exL_len (lv != decide (a % 2 = 1)) (cutI zs a b); rw [hlen] at this; exact this
    have HD := Lib.hid (And.intro hd (And.intro hrl hE))
    clear hV hk hne hbs htb hr hsub hz hlen hN hb hab haN hc hd hrl hE
    go_enter Try.func32, Try.ntmps32
    go_upto_if 20 with fail
    go_cut [1, 20] from 21 to 22 (fun x _ wx => x = .bool (lv != decide (a % 2 = 1)) ∧ w = wx)
    case first =>
      by_cases hp : a % 2 = 1
      · have hm1 : (a : Int) % 2 = 1 := by omega
        have hm2 : (a : Int).tmod 2 = 1 := by rw [Int.tmod_eq_emod_of_nonneg (by omega)]; exact hm1
        have HP := Lib.hid (sl_neg lv a hp)
        clear hp
        go_wp2_with fail
        go_meet
        exact ⟨by rw [HP.out], rfl⟩
      · have hm1 : ¬ (a : Int) % 2 = 1 := by omega
        have hm2 : ¬ (a : Int).tmod 2 = 1 := by rw [Int.tmod_eq_emod_of_nonneg (by omega)]; exact hm1
        have HP := Lib.hid (sl_pos lv a hp)
        clear hp
        go_wp2_with fail
        go_meet
        exact ⟨by rw [HP.out], rfl⟩
    case rest =>
    obtain ⟨rfl, rfl⟩ := hcut
    have hex := HEX.out (lv != decide (a % 2 = 1))
    have HRL := Lib.hid (show restL lv zs a b = exL (lv != decide (a % 2 = 1)) (cutI zs a b) from rfl)
    clear HEX
    generalize (lv != decide (a % 2 = 1)) = hi at *
    obtain ⟨L, hL⟩ : ∃ L, L = exL hi (cutI zs a b) := ⟨_, rfl⟩
    rw [← hL] at hex
    by_cases hmem : (0 : Int) ∈ cutI zs a b
    · obtain ⟨r1, r2⟩ := restE_5 (lv := lv) (dl := dl) HD.out.2.2 hmem
      rw [show exV (cutI zs a b) = (0, 0, 5) from if_pos hmem] at hex
      have HRE := Lib.hid (And.intro r1 r2)
      have hL0 : L = [] := hL.trans (if_pos hmem)
      subst hL0
      clear hmem r1 r2 hL
      go_wp2_with fail
      refine hex.mono ?_
      rintro e w3 ⟨A', m, c', ys, rfl, hr3, hk3, hb3⟩
      clear hex
      obtain rfl : m = 0 := blks_len hr3 hk3
      have hy3 : ys = [] := hk3
      subst hy3
      have hown3 := own_below HH.out.1 hb3
      have hown4 := hown3.alloc (.cells #[.int .i64 0, .int .i64 0, .slice A' 0 c'] 45)
      have HB := Lib.hid (And.intro hb3 hown3)
      have HC := Lib.hid (And.intro (show dl.length + 0 ≤ maxLen by have := HD.out.1; unfold maxLen; omega) (And.intro (show (dl.length + 0) * 240 ≤ 140737488355328 by have := HD.out.1; omega) (show base ≤ (w3.alloc (.cells #[.int .i64 0, .int .i64 0, .slice A' 0 c'] 45)).heap.size by have := hb3.size; have := HH.out.2.2.2.1; simp; omega)))
      clear hr3 hk3 hb3 hown3
      go_wp2_with (first
        | (at_builtin; refine wpList_append_any _ rfl _ _ 43 rfl base 33 i1 (.agg #[.int .i64 0, .int .i64 0, .int .i64 0, .int .i64 0, .int .i64 0, .int .i64 0, .int .i64 0, .int .i64 0, .int .i64 0, .int .i64 0, .int .i64 0, .int .i64 0, .slice none 0 0, .slice none 0 0, .slice none 0 0, .slice none 0 0, .slice none 0 0, .slice none 0 0]) 18 240 Try.underlying43 hj hy0 hy1 hy2 rfl (by decide) (.slice Av dl.length cv) dl.length xs rfl hown4 0 A' 0 c' [] rfl Reads.none_ nofun HC.out.1 HC.out.2.1 HC.out.2.2 ?_)
        | fail)
      intro v5 w5 own5 hg5 hv5
      have H5 := Lib.hid (grown_chain (grown_chain (grown_of_below (r := (Value.slice Av dl.length cv).ownBlock) HB.out.1) (World.grownBy_alloc w3 _ _)) hg5)
      clear own5 hg5 hv5 hown4
      go_wp2
      go_ret2
      rw [HRE.out.1, HRE.out.2]
      exact ⟨_, [], rfl, fun e => absurd e (by decide), H5.out⟩
    · obtain ⟨r1, r2⟩ := restE_8 (lv := lv) (dl := dl) HD.out.2.2 hmem
      rw [HRL.out, ← hL] at r1 r2
      have hrl := HD.out.2.1
      rw [HRL.out, ← hL] at hrl
      have hdl := HD.out.1
      rw [show exV (cutI zs a b) = (1, 20, 0) from if_neg hmem] at hex
      clear hmem hL
      go_wp2_with fail
      refine hex.mono ?_
      rintro e w3 ⟨A', m, c', ys, rfl, hr3, hk3, hb3⟩
      clear hex
      obtain rfl : m = L.length := blks_len hr3 hk3
      have hown3 := own_below HH.out.1 hb3
      have hown4 := hown3.alloc (.cells #[.int .i64 1, .int .i64 20, .slice A' L.length c'] 45)
      have hb4 : Below w3.heap.size w3 (w3.alloc (.cells #[.int .i64 1, .int .i64 20, .slice A' L.length c'] 45)) := (Below.refl _ _).alloc (Nat.le_refl _) _
      have hrd := ((hr3.reads (B := w3.heap.size) (fun b hp => hp.2)).below hb4)
      have h1c := hk3.one
      have hs3 := hb3.size
      have HX := Lib.hid (show Below w.heap.size w w3 ∧ BlksAt (w3.alloc (.cells #[.int .i64 1, .int .i64 20, .slice A' L.length c'] 45)) (PhiT (w3.alloc (.cells #[.int .i64 1, .int .i64 20, .slice A' L.length c'] 45)) base tb (.slice Av dl.length cv)) (dl ++ L) (xs ++ ys) from ⟨hb3, by
        obtain ⟨hV, hk, hne, hbs, htb⟩ := HH.out
        refine BlksAt.app (BlksAt.keep (fun b hp => (hb4.block b (by have := hp.2.1; omega)).trans (hb3.block b hp.2.1)) (fun b hp => ⟨hp.1, by have := hp.2.1; simp; omega, hp.2.2⟩) hk) (BlksAt.keep (fun b hp => hb4.block b hp.2) (fun b hp => ⟨by omega, by have := hp.2; simp; omega, by omega, fun e => by have := (hV.lt b e).2; omega⟩) hk3)⟩)
      have HR := Lib.hid (And.intro hrd h1c)
      have HC := Lib.hid (And.intro (show dl.length + L.length ≤ maxLen by unfold maxLen; omega) (And.intro (show (dl.length + L.length) * 240 ≤ 140737488355328 by omega) (show base ≤ (w3.alloc (.cells #[.int .i64 1, .int .i64 20, .slice A' L.length c'] 45)).heap.size by have := HH.out.2.2.2.1; simp; omega)))
      have hwl : IntKind.i64.wrap ((dl.length : Int) + (L.length : Int)) = (dl.length : Int) + (L.length : Int) := by rw [IntKind.wrap_i64]; omega
      clear hr3 hk3 hb3 hown3 hb4 hrd h1c
      have HRE := Lib.hid (And.intro r1 r2)
      clear r1 r2
      by_cases hlim : 4096 < dl.length + L.length
      · have hI : (4096 : Int) < (dl.length : Int) + (L.length : Int) := by omega
        have HLM := Lib.hid hlim
        clear hlim
        go_wp2_with (first
          | (at_builtin; refine wpList_append_any _ rfl _ _ 43 rfl base 33 i1 (.agg #[.int .i64 0, .int .i64 0, .int .i64 0, .int .i64 0, .int .i64 0, .int .i64 0, .int .i64 0, .int .i64 0, .int .i64 0, .int .i64 0, .int .i64 0, .int .i64 0, .slice none 0 0, .slice none 0 0, .slice none 0 0, .slice none 0 0, .slice none 0 0, .slice none 0 0]) 18 240 Try.underlying43 hj hy0 hy1 hy2 rfl (by decide) (.slice Av dl.length cv) dl.length xs rfl hown4 w3.heap.size A' L.length c' ys rfl HR.out.1 HR.out.2 HC.out.1 HC.out.2.1 HC.out.2.2 ?_)
          | fail)
        intro v5 w5 own5 hg5 hv5
        have H5 := Lib.hid (grown_chain (grown_chain (grown_of_below (r := (Value.slice Av dl.length cv).ownBlock) HX.out.1) (World.grownBy_alloc w3 _ _)) hg5)
        clear own5 hg5 hv5 hown4
        go_wp2
        go_ret2
        rw [HRE.out.1, if_pos HLM.out]
        exact ⟨_, [], rfl, fun e => absurd e (by decide), H5.out⟩
      · have hI : ¬ (4096 : Int) < (dl.length : Int) + (L.length : Int) := by omega
        have HLM := Lib.hid hlim
        clear hlim
        go_wp2_with (first
          | (at_builtin; refine wpList_append_any _ rfl _ _ 43 rfl base 33 i1 (.agg #[.int .i64 0, .int .i64 0, .int .i64 0, .int .i64 0, .int .i64 0, .int .i64 0, .int .i64 0, .int .i64 0, .int .i64 0, .int .i64 0, .int .i64 0, .int .i64 0, .slice none 0 0, .slice none 0 0, .slice none 0 0, .slice none 0 0, .slice none 0 0, .slice none 0 0]) 18 240 Try.underlying43 hj hy0 hy1 hy2 rfl (by decide) (.slice Av dl.length cv) dl.length xs rfl hown4 w3.heap.size A' L.length c' ys rfl HR.out.1 HR.out.2 HC.out.1 HC.out.2.1 HC.out.2.2 ?_)
          | fail)
        intro v5 w5 own5 hg5 hv5
        have H5 := Lib.hid (grown_chain (grown_chain (grown_of_below (r := (Value.slice Av dl.length cv).ownBlock) HX.out.1) (World.grownBy_alloc w3 _ _)) hg5)
        have H6 := Lib.hid (And.intro own5 (And.intro hg5 hv5))
        clear own5 hg5 hv5 hown4
        go_wp2
        go_ret2
        rw [HRE.out.1, HRE.out.2, if_neg HLM.out, if_neg HLM.out]
        obtain ⟨own5, hg5, hv5⟩ := H6.out
        have hs9 := HX.out.1.size
        have hv5' : v5.ownBlock = (Value.slice Av dl.length cv).ownBlock ∨ v5.ownBlock = some (w3.alloc (.cells #[.int .i64 1, .int .i64 20, .slice A' L.length c'] 45)).heap.size := by simpa using hv5
        obtain ⟨p1, p2⟩ := PhiT_grown (base := base) (tb := tb) hg5 hv5'
        refine ⟨v5, xs ++ ys, rfl, fun _ => ⟨by rw [List.length_append]; exact own5, HX.out.2.keep p1 p2, ?_⟩, H5.out⟩
        rcases hv5' with e | e
        · rw [e]; exact HH.out.2.2.1
        · rw [e]; intro e2; injection e2 with e2; have := HH.out.2.2.2.2; simp at e2; omega
end Go.Proofs.Ytckgmnlmimogjaa
