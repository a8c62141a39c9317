/- Layer 11: a key pressed on a board's keyboard; the law's step: a key is pressed. -/
import Derived.Test.YtfcnlgkaejkneaaBd26
namespace Go.Proofs.Ytfcnlgkaejkneaa
open Go.RowKit

theorem keyb_on {w w1 : World} {g i k : Nat} {b : Bd} {A E : Value} (h : BdIs w g b A E) (hb : Below w.heap.size w w1) (hi : i < 8) {x y : Int} (hx : x = putB (b.K i) k true) :
    BdIs ((w1.setCell ⟨g, 65536 + i, none⟩ (.int .u8 y)).setCell ⟨g, 65536 + i, none⟩ (.int .u8 x)).drew.drew g { b with K := updD b.K i k true } A E := by
  have h1 : BdIs w1 g b A E := Blk.below h hb (Blk.lt h)
  have h2 := BdIs.put h1 (set_K (b := b) (A := A) (E := E) i hi y)
  have h3 := BdIs.put h2 (set_K (A := A) (E := E) i hi x)
  subst hx
  have e : (fun j => if j = i then putB (b.K i) k true else if j = i then y else b.K j) = updD b.K i k true := by funext j; unfold updD; split <;> simp_all
  simp only [e] at h3
  exact Blk.drew (Blk.drew h3)
theorem put_keyB (s : ByteArray) (g i k : Nat) (b : Bd) (A E : Value) (w : World) (hi : i < 8) (hk : k < 5) (hs : keyB (5 * i + k) = s) (hF : Fst s (5 * i + k)) (hB : BdIs w g b A E) :
    Calls Try.prog 62 #[.pointer (some ⟨g, 65536, none⟩), .string s, .bool true] w fun e w' => e = .returned (.int .i64 0) ∧ BdIs w' g { b with K := updD b.K i k true } A E ∧ w.grownBy w' (some g) := by
  have hc : w.cell? ⟨g, 65536 + i, none⟩ = some (.int .u8 (b.K i)) := hB.at_ (by omega) (bd_K hi)
  have hf := hB.fz (65536 + i)
  have hl := Blk.lt hB
  rcases (show k = 0 ∨ k = 1 ∨ k = 2 ∨ k = 3 ∨ k = 4 by omega) with rfl | rfl | rfl | rfl | rfl
  · refine (putK_0_true s g i (b.K i) w hi hs hF hl hc hf).mono ?_
    rintro e w' ⟨rfl, w1, hb, rfl⟩
    exact ⟨rfl, keyb_on hB hb hi rfl, grown_put2 hb _ _⟩
  · refine (putK_1_true s g i (b.K i) w hi hs hF hl hc hf).mono ?_
    rintro e w' ⟨rfl, w1, hb, rfl⟩
    exact ⟨rfl, keyb_on hB hb hi rfl, grown_put2 hb _ _⟩
  · refine (putK_2_true s g i (b.K i) w hi hs hF hl hc hf).mono ?_
    rintro e w' ⟨rfl, w1, hb, rfl⟩
    exact ⟨rfl, keyb_on hB hb hi rfl, grown_put2 hb _ _⟩
  · refine (putK_3_true s g i (b.K i) w hi hs hF hl hc hf).mono ?_
    rintro e w' ⟨rfl, w1, hb, rfl⟩
    exact ⟨rfl, keyb_on hB hb hi rfl, grown_put2 hb _ _⟩
  · refine (putK_4_true s g i (b.K i) w hi hs hF hl hc hf).mono ?_
    rintro e w' ⟨rfl, w1, hb, rfl⟩
    exact ⟨rfl, keyb_on hB hb hi rfl, grown_put2 hb _ _⟩
theorem put_noneB (s : ByteArray) (g : Nat) (w : World) (hF : Fst s 40) :
    Calls Try.prog 62 #[.pointer (some ⟨g, 65536, none⟩), .string s, .bool true] w fun e w' => e = .returned (.int .i64 10) ∧ Below w.heap.size w w' := by
  have hf : Calls Try.prog 72 #[.string s] w fun e w' => e = .returned (.tuple #[.int .i64 0, .int .i64 0, .bool false]) ∧ Below w.heap.size w w' := by
    refine (find_any s w).mono ?_
    rintro e w' ⟨h, hb⟩
    rcases h with ⟨j, m, hj, hm, he, _, _⟩ | ⟨_, rfl⟩
    · exact absurd he (hF _ (by omega))
    · exact ⟨rfl, hb⟩
  go_enter Try.func62, Try.ntmps62
  go_wp2_with fail
  refine hf.mono ?_
  rintro e w1 ⟨rfl, hb1⟩
  go_wp2
  go_ret
  exact ⟨rfl, hb1⟩
theorem press_keyB (s : ByteArray) (g i k : Nat) (b : Bd) (A E : Value) (w : World) (hi : i < 8) (hk : k < 5) (hs : keyB (5 * i + k) = s) (hF : Fst s (5 * i + k)) (hB : BdIs w g b A E) :
    Calls Try.prog 44 #[.pointer (some ⟨g, 65536, none⟩), .string s] w fun e w' => e = .returned (.int .i64 0) ∧ BdIs w' g { b with K := updD b.K i k true } A E ∧ w.grownBy w' (some g) := by
  go_enter Try.func44, Try.ntmps44
  go_wp2_with fail
  refine (put_keyB s g i k b A E w hi hk hs hF hB).mono ?_
  rintro e w1 ⟨rfl, h1, h2⟩
  have HX := Lib.hid (And.intro h1 h2)
  clear h1 h2 hB
  go_wp2
  go_ret
  exact ⟨rfl, HX.out.1, HX.out.2⟩
theorem press_noneB (s : ByteArray) (g : Nat) (w : World) (hF : Fst s 40) :
    Calls Try.prog 44 #[.pointer (some ⟨g, 65536, none⟩), .string s] w fun e w' => e = .returned (.int .i64 10) ∧ Below w.heap.size w w' := by
  go_enter Try.func44, Try.ntmps44
  go_wp2_with fail
  refine (put_noneB s g w hF).mono ?_
  rintro e w1 ⟨rfl, h1⟩
  go_wp2
  go_ret
  exact ⟨rfl, h1⟩
theorem dc_any_K (b : Bd) (x : Nat → Int) (ph : Int) (D A E : Value) : dcC { b with K := x } ph D A E = dcC b ph D A E := by
  have : dcAt { b with K := x } ph D A E = dcAt b ph D A E := rfl
  unfold dcC
  rw [this]
section
variable {w w1 : World} {base g q P : Nat} {s : PS} {A E D A' E' : Value}
theorem PAt.stepD (h : PAt w base g q P s A E D A' E') {b : Bd} {zs : List Int} {D1 : Value} (hX : DcAt w1 base q b s.ph zs s.al2 s.es2 D1 A' E') (hc : Ch w w1 (BdBlk q A' E')) :
    PAt w1 base g q P { s with b2 := b, zs := zs } A E D1 A' E' := by
  refine ⟨⟨hc.blk h.B.bd (h.X.not h.B.bd (by decide) (by decide) (by decide)), hc.own h.B.acts ?_, hc.own h.B.edges ?_⟩, hX, hc.blk h.P (h.X.not h.P (by decide) (by decide) (by decide)), h.gb, h.qb, h.dA, h.dE⟩
  · rintro k hk (rfl | e | e)
    · exact own_blk_ne h.B.acts h.X.bd (by decide) hk
    · exact h.dA k hk e
    · exact own_types_ne h.X.edges h.B.acts (by decide) k e hk
  · rintro k hk (rfl | e | e)
    · exact own_blk_ne h.B.edges h.X.bd (by decide) hk
    · exact own_types_ne h.X.acts h.B.edges (by decide) k e hk
    · exact h.dE k hk e
theorem PAt.newD (h : PAt w base g q P s A E D A' E') (K2 : Nat → Int) {zs : List Int} {v2 : Value} (own : w.ownsRow base 3 1 v2 zs.length (zs.map (Value.int .i64))) :
    PAt (w.setCell ⟨q, 65543, none⟩ v2) base g q P { s with b2 := { s.b2 with K := K2 }, zs := zs } A E v2 A' E' := by
  have hg := grown_cell w q 65543 v2
  have hX : DcIs (w.setCell ⟨q, 65543, none⟩ v2) q s.b2 s.ph v2 A' E' := DcIs.put h.X.bd (dset_D v2)
  refine h.stepD ⟨?_, own.kept hg (.inr (own_blk_ne own h.X.bd (by decide))), h.X.acts.kept hg (.inr (own_blk_ne h.X.acts h.X.bd (by decide))), h.X.edges.kept hg (.inr (own_blk_ne h.X.edges h.X.bd (by decide)))⟩ (ch_grown hg)
  unfold DcIs at hX ⊢
  rw [dc_any_K]
  exact hX
end
theorem ok_key {s : PS} {n : Nat} {same : Bool} (ok : s.Ok n same) {j : Nat} (hj : j < 40) {z2 : List Int} (hz : lessN (j : Int) s.zs ++ [(j : Int)] = z2) : PS.Ok { s with b1 := { s.b1 with K := updD s.b1.K (j / 5) (j % 5) true }, b2 := { s.b2 with K := updD s.b2.K (j / 5) (j % 5) true }, zs := z2 } (n + 1) same := by
  subst hz
  have hp := ok.K2.put (i := j / 5) (k := j % 5) (by omega) true
  rw [show 5 * (j / 5) + j % 5 = j by omega, if_pos rfl] at hp
  refine ⟨ok.f0, ok.f1, ok.t0, by have := ok.t1; simp only; omega, ok.K1.upd _ (by omega) true, Nat.le_succ_of_le ok.a1, Nat.le_succ_of_le ok.e1, ok.fd, ok.u0, by have := ok.u1; simp only; omega, ok.p0, ok.p1, hp, ?_, Nat.le_succ_of_le ok.a2, Nat.le_succ_of_le ok.e2, fun e => ?_⟩
  · have := lessN_le (j : Int) s.zs
    have := ok.z2
    simp only [List.length_append, List.length_cons, List.length_nil]
    omega
  · obtain ⟨e1, e2, e3⟩ := ok.eq e
    exact ⟨by simp only [e1], e2, e3⟩
end Go.Proofs.Ytfcnlgkaejkneaa
