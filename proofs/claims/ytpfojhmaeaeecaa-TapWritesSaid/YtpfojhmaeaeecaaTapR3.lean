/- The document's blocks of bytes (layer 18). -/
import Derived.Test.YtpfojhmaeaeecaaTapR2
import Derived.Test.YtpfojhmaeaeecaaTapLaw
namespace Go.Proofs.Ytpfojhmaeaeecaa
open Go.RowKit

theorem set4_grown (w : World) (g : Nat) (a b c d : Value) : w.grownBy ((((w.setCell ⟨g, 0, none⟩ a).setCell ⟨g, 1, none⟩ b).setCell ⟨g, 2, none⟩ c).setCell ⟨g, 3, none⟩ d) (some g) :=
  grown_trans (grown_trans (grown_trans (grown_set a) (grown_set b)) (grown_set c)) (grown_set d)
theorem own4_set {w : World} {B g n size : Nat} {e t : TypeId} {v : Value} {xs : List Value} {cs : Array Value} (h : w.ownsRow B e size v n xs) (hP : Blk w g t cs) (hne : e ≠ t) (a b c d : Value) :
    ((((w.setCell ⟨g, 0, none⟩ a).setCell ⟨g, 1, none⟩ b).setCell ⟨g, 2, none⟩ c).setCell ⟨g, 3, none⟩ d).ownsRow B e size v n xs := h.kept (set4_grown w g a b c d) (.inr (own_blk_ne h hP hne))
/-- where reading stands: on its way, or behind a fault -/
def DrAt (w : World) (g : Nat) (A : Option Addr) (n c : Nat) (zs : List Int) (U : Pr) (bs : List (List Int)) : Prop :=
  (∃ p : Nat, p ≤ n ∧ bs.length ≤ 4096 ∧ Blk w g 82 #[.slice A n c, .int .i64 p, .int .i64 0, .int .i64 0] ∧ U = Pr.more bs (prs bs.length p (zs.drop p))) ∨
  (∃ p e q : Int, e ≠ 0 ∧ Blk w g 82 #[.slice A n c, .int .i64 p, .int .i64 e, .int .i64 q] ∧ U = .err e q)
theorem ok_none (w : World) (B : Nat) : (⟨none, 0, 0, []⟩ : Piece).ok w B := ⟨Reads.none_, Nat.le_refl _, by simp [maxLen], fun z hz => by simp at hz⟩

set_option maxRecDepth 100000 in
set_option maxHeartbeats 8000000 in
theorem parseR_any (w : World) (n c : Nat) (A : Option Addr) (zs : List Int) (hr : Reads w w.heap.size 1 A n (zs.map (Value.int .u8))) (hz : isU8 zs) (hnc : n ≤ c) (hc : c ≤ 9223372036854775807) (hn : n ≤ 1048576) :
    Calls Try.prog 24 #[.slice A n c] w fun e w' => Below w.heap.size w w' ∧ (
      (∃ (v : Value) (ps : List Piece), prs 0 0 zs = .ok (ps.map Piece.zs) ∧ e = .returned (.tuple #[v, .int .i64 0, .int .i64 0]) ∧ w'.ownsRow w.heap.size 22 1 v ps.length (ps.map Piece.val) ∧ ∀ q ∈ ps, q.ok w w.heap.size) ∨
      (∃ (x p : Int), x ≠ 0 ∧ prs 0 0 zs = .err x p ∧ e = .returned (.tuple #[.slice none 0 0, .int .i64 x, .int .i64 p]))) := by
  obtain ⟨i0, hi, hz0, hz1, hz2⟩ := info_parts rowInfo18
  have HL := Lib.hid (reads_len hr)
  have HR := Lib.hid hr
  have hnI : (n : Int) ≤ 1048576 := by omega
  obtain ⟨U, hU⟩ : ∃ U, U = prs 0 0 zs := ⟨_, rfl⟩
  rw [← hU]
  have HU := Lib.hid hU
  clear hU hr
  have hP0 : Blk (w.alloc (.cells #[.slice A n c, .int .i64 0, .int .i64 0, .int .i64 0] 82)) w.heap.size 82 #[.slice A n c, .int .i64 0, .int .i64 0, .int .i64 0] := Blk.new w _ _
  have hb0 : Below w.heap.size w (w.alloc (.cells #[.slice A n c, .int .i64 0, .int .i64 0, .int .i64 0] 82)) := (Below.refl _ _).alloc (Nat.le_refl _) _
  go_enter Try.func24, Try.ntmps24
  go_wp2
  go_loopw [6] (fun v wr => ∃ ps : List Piece, ps.length ≤ 4097 ∧ DrAt wr w.heap.size A n c zs U (ps.map Piece.zs) ∧ wr.ownsRow w.heap.size 22 1 v ps.length (ps.map Piece.val) ∧ (∀ q ∈ ps, q.ok w w.heap.size) ∧ Below w.heap.size w wr) (fun v _ => 5000 - lenOf v)
  case atStart => exact ⟨[], by simp, .inl ⟨0, by omega, by simp, hP0, by rw [HU.out]; exact (Pr.more_nil _).symm⟩, World.ownsRow_nil _ _ _ _, by simp, hb0⟩
  case round =>
    clear hP0 hb0
    obtain ⟨ps, hps, hAt, hown, hqs, hbl⟩ := hrel
    obtain ⟨LA, lcap, rfl⟩ := own_slice hown
    have HQ := Lib.hid hqs
    clear hqs
    rcases hAt with ⟨p, hp, hps6, hP, hUp⟩ | ⟨p, e, q, hne, hP, hUe⟩
    · have HUP := Lib.hid hUp
      clear hUp
      have hdl := Lib.hid (show (zs.drop p).length = n - p by rw [List.length_drop, HL.out])
      simp only [List.length_map] at hps6
      have p0 : (wr).cell? ⟨w.heap.size, 0, none⟩ = some (.slice A n c) := (hP.cell 0).trans rfl
      have p1 : (wr).cell? ⟨w.heap.size, 1, none⟩ = some (.int .i64 p) := (hP.cell 1).trans rfl
      have p2 : (wr).cell? ⟨w.heap.size, 2, none⟩ = some (.int .i64 0) := (hP.cell 2).trans rfl
      have p3 : (wr).cell? ⟨w.heap.size, 3, none⟩ = some (.int .i64 0) := (hP.cell 3).trans rfl
      have g0 := hP.frozen 0
      have g1 := hP.frozen 1
      have g2 := hP.frozen 2
      have g3 := hP.frozen 3
      go_wp2_with fail
      refine (leftR_ok wr A n c p 0 hp (by omega)).mono ?_
      rintro x w11 ⟨rfl, hb⟩
      replace hP := hP.below hb hP.lt
      replace hown := own_kept hown hb
      replace hbl := bthen hbl hb
      clear hb
      clear p0 p1 p2 p3 g0 g1 g2 g3
      by_cases hpn : p < n
      · have hpI : (0 : Int) < (n : Int) - (p : Int) := by omega
        by_cases hfull : ps.length = 4096
        · have hfT : ((ps.length : Int) == 4096) = true := by simp; omega
          have HUF := Lib.hid (show U = .err 8 p by rw [HUP.out, prs_full (by rw [hdl.out]; omega) (by simpa using hfull)]; rfl)
          have HFU := Lib.hid hfull
          clear hfull
          have p0 : (w11).cell? ⟨w.heap.size, 0, none⟩ = some (.slice A n c) := (hP.cell 0).trans rfl
          have p1 : (w11).cell? ⟨w.heap.size, 1, none⟩ = some (.int .i64 p) := (hP.cell 1).trans rfl
          have p2 : (w11).cell? ⟨w.heap.size, 2, none⟩ = some (.int .i64 0) := (hP.cell 2).trans rfl
          have p3 : (w11).cell? ⟨w.heap.size, 3, none⟩ = some (.int .i64 0) := (hP.cell 3).trans rfl
          have g0 := hP.frozen 0
          have g1 := hP.frozen 1
          have g2 := hP.frozen 2
          have g3 := hP.frozen 3
          go_wp2_with fail
          clear p0 p1 p2 p3 g0 g1 g2 g3
          refine (failR_new w11 A n c p 0 8 p (by decide)).mono ?_
          rintro x w12 ⟨rfl, hb⟩
          replace hP := hP.below hb hP.lt
          replace hown := own_kept hown hb
          replace hbl := bthen hbl hb
          clear hb
          have p0 : (w12).cell? ⟨w.heap.size, 0, none⟩ = some (.slice A n c) := (hP.cell 0).trans rfl
          have p1 : (w12).cell? ⟨w.heap.size, 1, none⟩ = some (.int .i64 p) := (hP.cell 1).trans rfl
          have p2 : (w12).cell? ⟨w.heap.size, 2, none⟩ = some (.int .i64 0) := (hP.cell 2).trans rfl
          have p3 : (w12).cell? ⟨w.heap.size, 3, none⟩ = some (.int .i64 0) := (hP.cell 3).trans rfl
          have g0 := hP.frozen 0
          have g1 := hP.frozen 1
          have g2 := hP.frozen 2
          have g3 := hP.frozen 3
          have hP' : Blk ((((w12.setCell ⟨w.heap.size, 0, none⟩ (.slice A n c)).setCell ⟨w.heap.size, 1, none⟩ (.int .i64 p)).setCell ⟨w.heap.size, 2, none⟩ (.int .i64 8)).setCell ⟨w.heap.size, 3, none⟩ (.int .i64 p)) w.heap.size 82 #[.slice A n c, .int .i64 p, .int .i64 8, .int .i64 p] := blk4_set hP _ _ _ _
          have hown' := own4_set hown hP (by decide) (.slice A n c) (.int .i64 p) (.int .i64 8) (.int .i64 p)
          have hbl' : Below w.heap.size w ((((w12.setCell ⟨w.heap.size, 0, none⟩ (.slice A n c)).setCell ⟨w.heap.size, 1, none⟩ (.int .i64 p)).setCell ⟨w.heap.size, 2, none⟩ (.int .i64 8)).setCell ⟨w.heap.size, 3, none⟩ (.int .i64 p)) := below4_set hbl (Nat.le_refl _) _ _ _ _
          obtain ⟨w12s, hw12s⟩ : ∃ u, u = (((w12.setCell ⟨w.heap.size, 0, none⟩ (.slice A n c)).setCell ⟨w.heap.size, 1, none⟩ (.int .i64 p)).setCell ⟨w.heap.size, 2, none⟩ (.int .i64 8)).setCell ⟨w.heap.size, 3, none⟩ (.int .i64 p) := ⟨_, rfl⟩
          rw [← hw12s] at hP' hown' hbl'
          replace hP := hP'
          replace hown := hown'
          replace hbl := hbl'
          clear hP' hown' hbl'
          have q0 : (w12s).cell? ⟨w.heap.size, 0, none⟩ = some (.slice A n c) := (hP.cell 0).trans rfl
          have q1 : (w12s).cell? ⟨w.heap.size, 1, none⟩ = some (.int .i64 p) := (hP.cell 1).trans rfl
          have q2 : (w12s).cell? ⟨w.heap.size, 2, none⟩ = some (.int .i64 8) := (hP.cell 2).trans rfl
          have q3 : (w12s).cell? ⟨w.heap.size, 3, none⟩ = some (.int .i64 p) := (hP.cell 3).trans rfl
          have j0 := hP.frozen 0
          have j1 := hP.frozen 1
          have j2 := hP.frozen 2
          have j3 := hP.frozen 3
          rw [hw12s] at q0 q1 q2 q3
          go_wp2_with fail
          rw [← hw12s]
          clear q0 q1 q2 q3 j0 j1 j2 j3 p0 p1 p2 p3 g0 g1 g2 g3
          clear hw12s
          refine (numberR_bad w12s A n c p 8 p (by decide)).mono ?_
          rintro x w13 ⟨rfl, hb⟩
          replace hP := hP.below hb hP.lt
          replace hown := own_kept hown hb
          replace hbl := bthen hbl hb
          clear hb
          have p0 : (w13).cell? ⟨w.heap.size, 0, none⟩ = some (.slice A n c) := (hP.cell 0).trans rfl
          have p1 : (w13).cell? ⟨w.heap.size, 1, none⟩ = some (.int .i64 p) := (hP.cell 1).trans rfl
          have p2 : (w13).cell? ⟨w.heap.size, 2, none⟩ = some (.int .i64 8) := (hP.cell 2).trans rfl
          have p3 : (w13).cell? ⟨w.heap.size, 3, none⟩ = some (.int .i64 p) := (hP.cell 3).trans rfl
          have g0 := hP.frozen 0
          have g1 := hP.frozen 1
          have g2 := hP.frozen 2
          have g3 := hP.frozen 3
          have hP' : Blk ((((w13.setCell ⟨w.heap.size, 0, none⟩ (.slice A n c)).setCell ⟨w.heap.size, 1, none⟩ (.int .i64 p)).setCell ⟨w.heap.size, 2, none⟩ (.int .i64 8)).setCell ⟨w.heap.size, 3, none⟩ (.int .i64 p)) w.heap.size 82 #[.slice A n c, .int .i64 p, .int .i64 8, .int .i64 p] := blk4_set hP _ _ _ _
          have hown' := own4_set hown hP (by decide) (.slice A n c) (.int .i64 p) (.int .i64 8) (.int .i64 p)
          have hbl' : Below w.heap.size w ((((w13.setCell ⟨w.heap.size, 0, none⟩ (.slice A n c)).setCell ⟨w.heap.size, 1, none⟩ (.int .i64 p)).setCell ⟨w.heap.size, 2, none⟩ (.int .i64 8)).setCell ⟨w.heap.size, 3, none⟩ (.int .i64 p)) := below4_set hbl (Nat.le_refl _) _ _ _ _
          obtain ⟨w13s, hw13s⟩ : ∃ u, u = (((w13.setCell ⟨w.heap.size, 0, none⟩ (.slice A n c)).setCell ⟨w.heap.size, 1, none⟩ (.int .i64 p)).setCell ⟨w.heap.size, 2, none⟩ (.int .i64 8)).setCell ⟨w.heap.size, 3, none⟩ (.int .i64 p) := ⟨_, rfl⟩
          rw [← hw13s] at hP' hown' hbl'
          replace hP := hP'
          replace hown := hown'
          replace hbl := hbl'
          clear hP' hown' hbl'
          have q0 : (w13s).cell? ⟨w.heap.size, 0, none⟩ = some (.slice A n c) := (hP.cell 0).trans rfl
          have q1 : (w13s).cell? ⟨w.heap.size, 1, none⟩ = some (.int .i64 p) := (hP.cell 1).trans rfl
          have q2 : (w13s).cell? ⟨w.heap.size, 2, none⟩ = some (.int .i64 8) := (hP.cell 2).trans rfl
          have q3 : (w13s).cell? ⟨w.heap.size, 3, none⟩ = some (.int .i64 p) := (hP.cell 3).trans rfl
          have j0 := hP.frozen 0
          have j1 := hP.frozen 1
          have j2 := hP.frozen 2
          have j3 := hP.frozen 3
          rw [hw13s] at q0 q1 q2 q3
          go_wp2_with fail
          rw [← hw13s]
          clear q0 q1 q2 q3 j0 j1 j2 j3 p0 p1 p2 p3 g0 g1 g2 g3
          clear hw13s
          refine (takeR_bad w13s A n c p 8 p 0 (by decide) (by omega)).mono ?_
          rintro x w14 ⟨rfl, hb⟩
          replace hP := hP.below hb hP.lt
          replace hown := own_kept hown hb
          replace hbl := bthen hbl hb
          clear hb
          have p0 : (w14).cell? ⟨w.heap.size, 0, none⟩ = some (.slice A n c) := (hP.cell 0).trans rfl
          have p1 : (w14).cell? ⟨w.heap.size, 1, none⟩ = some (.int .i64 p) := (hP.cell 1).trans rfl
          have p2 : (w14).cell? ⟨w.heap.size, 2, none⟩ = some (.int .i64 8) := (hP.cell 2).trans rfl
          have p3 : (w14).cell? ⟨w.heap.size, 3, none⟩ = some (.int .i64 p) := (hP.cell 3).trans rfl
          have g0 := hP.frozen 0
          have g1 := hP.frozen 1
          have g2 := hP.frozen 2
          have g3 := hP.frozen 3
          have hP' : Blk ((((w14.setCell ⟨w.heap.size, 0, none⟩ (.slice A n c)).setCell ⟨w.heap.size, 1, none⟩ (.int .i64 p)).setCell ⟨w.heap.size, 2, none⟩ (.int .i64 8)).setCell ⟨w.heap.size, 3, none⟩ (.int .i64 p)) w.heap.size 82 #[.slice A n c, .int .i64 p, .int .i64 8, .int .i64 p] := blk4_set hP _ _ _ _
          have hown' := own4_set hown hP (by decide) (.slice A n c) (.int .i64 p) (.int .i64 8) (.int .i64 p)
          have hbl' : Below w.heap.size w ((((w14.setCell ⟨w.heap.size, 0, none⟩ (.slice A n c)).setCell ⟨w.heap.size, 1, none⟩ (.int .i64 p)).setCell ⟨w.heap.size, 2, none⟩ (.int .i64 8)).setCell ⟨w.heap.size, 3, none⟩ (.int .i64 p)) := below4_set hbl (Nat.le_refl _) _ _ _ _
          obtain ⟨w14s, hw14s⟩ : ∃ u, u = (((w14.setCell ⟨w.heap.size, 0, none⟩ (.slice A n c)).setCell ⟨w.heap.size, 1, none⟩ (.int .i64 p)).setCell ⟨w.heap.size, 2, none⟩ (.int .i64 8)).setCell ⟨w.heap.size, 3, none⟩ (.int .i64 p) := ⟨_, rfl⟩
          rw [← hw14s] at hP' hown' hbl'
          replace hP := hP'
          replace hown := hown'
          replace hbl := hbl'
          clear hP' hown' hbl'
          subst hw14s
          have hsN := hbl.size
          have hsJ : (((((w14.setCell ⟨w.heap.size, 0, none⟩ (.slice A n c)).setCell ⟨w.heap.size, 1, none⟩ (.int .i64 p)).setCell ⟨w.heap.size, 2, none⟩ (.int .i64 8)).setCell ⟨w.heap.size, 3, none⟩ (.int .i64 p))).heap.size = w14.heap.size := by simp [World.setCell]
          have hnew : (World.alloc ((((w14.setCell ⟨w.heap.size, 0, none⟩ (.slice A n c)).setCell ⟨w.heap.size, 1, none⟩ (.int .i64 p)).setCell ⟨w.heap.size, 2, none⟩ (.int .i64 8)).setCell ⟨w.heap.size, 3, none⟩ (.int .i64 p)) (.cells #[.slice none 0 0] 22)).heap[w14.heap.size]? = some (.cells #[.slice none 0 0] 22 (0, 0)) := by rw [← hsJ]; exact heap_alloc_new _ _
          have HSJ := Lib.hid hsJ
          clear hsJ
          have hneP : (Value.slice LA ps.length lcap).ownBlock ≠ some w.heap.size := own_blk_ne hown hP (by decide)
          go_wp2_with (first
            | (at_builtin; refine wpList_append_own _ rfl _ _ 41 rfl w.heap.size 22 i0 (.slice none 0 0) 1 24 Try.underlying41 hi hz0 hz1 hz2 rfl (by decide) _ ps.length _ rfl (hown.alloc _) ⟨w14.heap.size, 0, none⟩ 1 1 [.slice none 0 0] rfl rfl (World.news_of_block (cs := #[.slice none 0 0]) (t := 22) (fr := (0, 0)) hnew) (by simp [Value.oneCell']) (by unfold maxLen; omega) (by omega) (by have := HSJ.out; simp; omega) ?_)
            | go_in)
          intro v4 w4 own4 hg4 _
          have hb4 : Below w.heap.size w w4 := (hbl.alloc hsN (.cells #[.slice none 0 0] 22)).grown hg4 (by have := HSJ.out; simp; omega) (fun i hi => (hown.lt i hi).1)
          have hP4 := Blk.grown (Blk.alloc hP (.cells #[.slice none 0 0] 22)) hg4 (fun e => hneP e.symm)
          obtain ⟨LA4, lcap4, rfl⟩ := own_slice own4
          go_wp2
          go_roundw
          case rel =>
            refine ⟨ps ++ [⟨none, 0, 0, []⟩], by simp; omega, ?_, by simpa [Piece.val] using own4, fun q hm => ?_, hb4⟩
            · exact .inr ⟨_, _, _, by decide, hP4, HUF.out⟩
            · rcases List.mem_append.1 hm with h | h
              · exact HQ.out q h
              · obtain rfl : q = _ := by simpa using h
                exact ok_none _ _
          case measure => simp [lenOf]; omega
        · have hfB : ((ps.length : Int) == 4096) = false := by simp; omega
          by_cases h2 : n - p < 2
          · have HUN := Lib.hid (show U = .err 2 p by rw [HUP.out, prs_two (by rw [hdl.out]; omega) (by simpa using hfull) (by rw [hdl.out]; exact h2)]; rfl)
            have p0 : (w11).cell? ⟨w.heap.size, 0, none⟩ = some (.slice A n c) := (hP.cell 0).trans rfl
            have p1 : (w11).cell? ⟨w.heap.size, 1, none⟩ = some (.int .i64 p) := (hP.cell 1).trans rfl
            have p2 : (w11).cell? ⟨w.heap.size, 2, none⟩ = some (.int .i64 0) := (hP.cell 2).trans rfl
            have p3 : (w11).cell? ⟨w.heap.size, 3, none⟩ = some (.int .i64 0) := (hP.cell 3).trans rfl
            have g0 := hP.frozen 0
            have g1 := hP.frozen 1
            have g2 := hP.frozen 2
            have g3 := hP.frozen 3
            go_wp2_with fail
            clear p0 p1 p2 p3 g0 g1 g2 g3
            refine (numberR_short w11 A n c p 0 hp (by omega) (by omega)).mono ?_
            rintro x w15 ⟨rfl, hb⟩
            replace hP := hP.below hb hP.lt
            replace hown := own_kept hown hb
            replace hbl := bthen hbl hb
            clear hb
            have p0 : (w15).cell? ⟨w.heap.size, 0, none⟩ = some (.slice A n c) := (hP.cell 0).trans rfl
            have p1 : (w15).cell? ⟨w.heap.size, 1, none⟩ = some (.int .i64 p) := (hP.cell 1).trans rfl
            have p2 : (w15).cell? ⟨w.heap.size, 2, none⟩ = some (.int .i64 0) := (hP.cell 2).trans rfl
            have p3 : (w15).cell? ⟨w.heap.size, 3, none⟩ = some (.int .i64 0) := (hP.cell 3).trans rfl
            have g0 := hP.frozen 0
            have g1 := hP.frozen 1
            have g2 := hP.frozen 2
            have g3 := hP.frozen 3
            have hP' : Blk ((((w15.setCell ⟨w.heap.size, 0, none⟩ (.slice A n c)).setCell ⟨w.heap.size, 1, none⟩ (.int .i64 p)).setCell ⟨w.heap.size, 2, none⟩ (.int .i64 2)).setCell ⟨w.heap.size, 3, none⟩ (.int .i64 p)) w.heap.size 82 #[.slice A n c, .int .i64 p, .int .i64 2, .int .i64 p] := blk4_set hP _ _ _ _
            have hown' := own4_set hown hP (by decide) (.slice A n c) (.int .i64 p) (.int .i64 2) (.int .i64 p)
            have hbl' : Below w.heap.size w ((((w15.setCell ⟨w.heap.size, 0, none⟩ (.slice A n c)).setCell ⟨w.heap.size, 1, none⟩ (.int .i64 p)).setCell ⟨w.heap.size, 2, none⟩ (.int .i64 2)).setCell ⟨w.heap.size, 3, none⟩ (.int .i64 p)) := below4_set hbl (Nat.le_refl _) _ _ _ _
            obtain ⟨w15s, hw15s⟩ : ∃ u, u = (((w15.setCell ⟨w.heap.size, 0, none⟩ (.slice A n c)).setCell ⟨w.heap.size, 1, none⟩ (.int .i64 p)).setCell ⟨w.heap.size, 2, none⟩ (.int .i64 2)).setCell ⟨w.heap.size, 3, none⟩ (.int .i64 p) := ⟨_, rfl⟩
            rw [← hw15s] at hP' hown' hbl'
            replace hP := hP'
            replace hown := hown'
            replace hbl := hbl'
            clear hP' hown' hbl'
            have q0 : (w15s).cell? ⟨w.heap.size, 0, none⟩ = some (.slice A n c) := (hP.cell 0).trans rfl
            have q1 : (w15s).cell? ⟨w.heap.size, 1, none⟩ = some (.int .i64 p) := (hP.cell 1).trans rfl
            have q2 : (w15s).cell? ⟨w.heap.size, 2, none⟩ = some (.int .i64 2) := (hP.cell 2).trans rfl
            have q3 : (w15s).cell? ⟨w.heap.size, 3, none⟩ = some (.int .i64 p) := (hP.cell 3).trans rfl
            have j0 := hP.frozen 0
            have j1 := hP.frozen 1
            have j2 := hP.frozen 2
            have j3 := hP.frozen 3
            rw [hw15s] at q0 q1 q2 q3
            go_wp2_with fail
            rw [← hw15s]
            clear q0 q1 q2 q3 j0 j1 j2 j3 p0 p1 p2 p3 g0 g1 g2 g3
            clear hw15s
            refine (takeR_bad w15s A n c p 2 p 0 (by decide) (by omega)).mono ?_
            rintro x w16 ⟨rfl, hb⟩
            replace hP := hP.below hb hP.lt
            replace hown := own_kept hown hb
            replace hbl := bthen hbl hb
            clear hb
            have p0 : (w16).cell? ⟨w.heap.size, 0, none⟩ = some (.slice A n c) := (hP.cell 0).trans rfl
            have p1 : (w16).cell? ⟨w.heap.size, 1, none⟩ = some (.int .i64 p) := (hP.cell 1).trans rfl
            have p2 : (w16).cell? ⟨w.heap.size, 2, none⟩ = some (.int .i64 2) := (hP.cell 2).trans rfl
            have p3 : (w16).cell? ⟨w.heap.size, 3, none⟩ = some (.int .i64 p) := (hP.cell 3).trans rfl
            have g0 := hP.frozen 0
            have g1 := hP.frozen 1
            have g2 := hP.frozen 2
            have g3 := hP.frozen 3
            have hP' : Blk ((((w16.setCell ⟨w.heap.size, 0, none⟩ (.slice A n c)).setCell ⟨w.heap.size, 1, none⟩ (.int .i64 p)).setCell ⟨w.heap.size, 2, none⟩ (.int .i64 2)).setCell ⟨w.heap.size, 3, none⟩ (.int .i64 p)) w.heap.size 82 #[.slice A n c, .int .i64 p, .int .i64 2, .int .i64 p] := blk4_set hP _ _ _ _
            have hown' := own4_set hown hP (by decide) (.slice A n c) (.int .i64 p) (.int .i64 2) (.int .i64 p)
            have hbl' : Below w.heap.size w ((((w16.setCell ⟨w.heap.size, 0, none⟩ (.slice A n c)).setCell ⟨w.heap.size, 1, none⟩ (.int .i64 p)).setCell ⟨w.heap.size, 2, none⟩ (.int .i64 2)).setCell ⟨w.heap.size, 3, none⟩ (.int .i64 p)) := below4_set hbl (Nat.le_refl _) _ _ _ _
            obtain ⟨w16s, hw16s⟩ : ∃ u, u = (((w16.setCell ⟨w.heap.size, 0, none⟩ (.slice A n c)).setCell ⟨w.heap.size, 1, none⟩ (.int .i64 p)).setCell ⟨w.heap.size, 2, none⟩ (.int .i64 2)).setCell ⟨w.heap.size, 3, none⟩ (.int .i64 p) := ⟨_, rfl⟩
            rw [← hw16s] at hP' hown' hbl'
            replace hP := hP'
            replace hown := hown'
            replace hbl := hbl'
            clear hP' hown' hbl'
            subst hw16s
            have hsN := hbl.size
            have hsJ : (((((w16.setCell ⟨w.heap.size, 0, none⟩ (.slice A n c)).setCell ⟨w.heap.size, 1, none⟩ (.int .i64 p)).setCell ⟨w.heap.size, 2, none⟩ (.int .i64 2)).setCell ⟨w.heap.size, 3, none⟩ (.int .i64 p))).heap.size = w16.heap.size := by simp [World.setCell]
            have hnew : (World.alloc ((((w16.setCell ⟨w.heap.size, 0, none⟩ (.slice A n c)).setCell ⟨w.heap.size, 1, none⟩ (.int .i64 p)).setCell ⟨w.heap.size, 2, none⟩ (.int .i64 2)).setCell ⟨w.heap.size, 3, none⟩ (.int .i64 p)) (.cells #[.slice none 0 0] 22)).heap[w16.heap.size]? = some (.cells #[.slice none 0 0] 22 (0, 0)) := by rw [← hsJ]; exact heap_alloc_new _ _
            have HSJ := Lib.hid hsJ
            clear hsJ
            have hneP : (Value.slice LA ps.length lcap).ownBlock ≠ some w.heap.size := own_blk_ne hown hP (by decide)
            go_wp2_with (first
              | (at_builtin; refine wpList_append_own _ rfl _ _ 41 rfl w.heap.size 22 i0 (.slice none 0 0) 1 24 Try.underlying41 hi hz0 hz1 hz2 rfl (by decide) _ ps.length _ rfl (hown.alloc _) ⟨w16.heap.size, 0, none⟩ 1 1 [.slice none 0 0] rfl rfl (World.news_of_block (cs := #[.slice none 0 0]) (t := 22) (fr := (0, 0)) hnew) (by simp [Value.oneCell']) (by unfold maxLen; omega) (by omega) (by have := HSJ.out; simp; omega) ?_)
              | go_in)
            intro v4 w4 own4 hg4 _
            have hb4 : Below w.heap.size w w4 := (hbl.alloc hsN (.cells #[.slice none 0 0] 22)).grown hg4 (by have := HSJ.out; simp; omega) (fun i hi => (hown.lt i hi).1)
            have hP4 := Blk.grown (Blk.alloc hP (.cells #[.slice none 0 0] 22)) hg4 (fun e => hneP e.symm)
            obtain ⟨LA4, lcap4, rfl⟩ := own_slice own4
            go_wp2
            go_roundw
            case rel =>
              refine ⟨ps ++ [⟨none, 0, 0, []⟩], by simp; omega, ?_, by simpa [Piece.val] using own4, fun q hm => ?_, hb4⟩
              · exact .inr ⟨_, _, _, by decide, hP4, HUN.out⟩
              · rcases List.mem_append.1 hm with h | h
                · exact HQ.out q h
                · obtain rfl : q = _ := by simpa using h
                  exact ok_none _ _
            case measure => simp [lenOf]; omega
          · have h2l := Lib.hid (show 2 ≤ (zs.drop p).length by rw [hdl.out]; omega)
            have hlen := lenT_at (isU8_drop' hz p) h2l.out
            have hA : A = none → c = 0 := by
              intro e
              obtain ⟨ad, e', _⟩ := HR.out.2 (by omega)
              rw [e] at e'; cases e'
            have HSH := Lib.hid (fun (h : n < p + 2 + lenT (zs.drop p)) => (show U = .err 2 (p + 2 : Nat) by rw [HUP.out, prs_short (by simpa using hfull) h2l.out (by rw [hdl.out]; omega)]; rfl))
            have HMO := Lib.hid (fun (h : p + 2 + lenT (zs.drop p) ≤ n) => (show U = Pr.more (ps.map Piece.zs ++ [(zs.drop (p + 2)).take (lenT (zs.drop p))]) (prs (ps.length + 1) (p + 2 + lenT (zs.drop p)) (zs.drop (p + 2 + lenT (zs.drop p)))) by
              rw [HUP.out, prs_more (by simpa using hfull) h2l.out (by rw [hdl.out]; omega), Pr.more_more, List.drop_drop, List.drop_drop, List.length_map, show p + (2 + lenT (zs.drop p)) = p + 2 + lenT (zs.drop p) by omega]))
            generalize lenT (zs.drop p) = k at *
            have k0 : (0 : Int) ≤ (k : Int) := by omega
            obtain ⟨PT, hp2⟩ : ∃ PT, PT = p + 2 := ⟨_, rfl⟩
            have HP2 := Lib.hid hp2
            have HNU := Lib.hid (fun (w' : World) (h : Below w.heap.size w w') => numberR_okq w' A n c p PT 0 k zs ((HR.out.below h).more h.size) hz (by omega) (by omega) hnc hc hA hp2 hlen.symm)
            clear hlen hp2
            by_cases hk : PT + k ≤ n
            · have HUN := Lib.hid (HMO.out (by have := HP2.out; omega))
              obtain ⟨PE, hp3⟩ : ∃ PE, PE = PT + k := ⟨_, rfl⟩
              have HP3 := Lib.hid hp3
              have HPN := Lib.hid (show PE ≤ n by omega)
              have HTK := Lib.hid (fun (w' : World) => hp3 ▸ takeR_ok w' A n c PT k 0 hk (by omega) hnc hc hA)
              have HOK := Lib.hid (show (⟨(if c = PT then A else A.map (·.add PT)), k, c - PT, (zs.drop PT).take k⟩ : Piece).ok w w.heap.size from ⟨reads_win (p := PT) (k := k) HR.out hk hnc, by show k ≤ c - PT; omega, by show c - PT ≤ maxLen; unfold maxLen; omega, isU8_win hz PT k⟩)
              generalize (if c = PT then A else A.map (·.add PT)) = A' at *
              clear hp3 HMO HSH hk
              have p0 : (w11).cell? ⟨w.heap.size, 0, none⟩ = some (.slice A n c) := (hP.cell 0).trans rfl
              have p1 : (w11).cell? ⟨w.heap.size, 1, none⟩ = some (.int .i64 p) := (hP.cell 1).trans rfl
              have p2 : (w11).cell? ⟨w.heap.size, 2, none⟩ = some (.int .i64 0) := (hP.cell 2).trans rfl
              have p3 : (w11).cell? ⟨w.heap.size, 3, none⟩ = some (.int .i64 0) := (hP.cell 3).trans rfl
              have g0 := hP.frozen 0
              have g1 := hP.frozen 1
              have g2 := hP.frozen 2
              have g3 := hP.frozen 3
              go_wp2_with fail
              clear p0 p1 p2 p3 g0 g1 g2 g3
              refine (HNU.out w11 hbl).mono ?_
              rintro x w17 ⟨rfl, hb⟩
              replace hP := hP.below hb hP.lt
              replace hown := own_kept hown hb
              replace hbl := bthen hbl hb
              clear hb
              have p0 : (w17).cell? ⟨w.heap.size, 0, none⟩ = some (.slice A n c) := (hP.cell 0).trans rfl
              have p1 : (w17).cell? ⟨w.heap.size, 1, none⟩ = some (.int .i64 p) := (hP.cell 1).trans rfl
              have p2 : (w17).cell? ⟨w.heap.size, 2, none⟩ = some (.int .i64 0) := (hP.cell 2).trans rfl
              have p3 : (w17).cell? ⟨w.heap.size, 3, none⟩ = some (.int .i64 0) := (hP.cell 3).trans rfl
              have g0 := hP.frozen 0
              have g1 := hP.frozen 1
              have g2 := hP.frozen 2
              have g3 := hP.frozen 3
              have hP' : Blk ((((w17.setCell ⟨w.heap.size, 0, none⟩ (.slice A n c)).setCell ⟨w.heap.size, 1, none⟩ (.int .i64 PT)).setCell ⟨w.heap.size, 2, none⟩ (.int .i64 0)).setCell ⟨w.heap.size, 3, none⟩ (.int .i64 0)) w.heap.size 82 #[.slice A n c, .int .i64 PT, .int .i64 0, .int .i64 0] := blk4_set hP _ _ _ _
              have hown' := own4_set hown hP (by decide) (.slice A n c) (.int .i64 PT) (.int .i64 0) (.int .i64 0)
              have hbl' : Below w.heap.size w ((((w17.setCell ⟨w.heap.size, 0, none⟩ (.slice A n c)).setCell ⟨w.heap.size, 1, none⟩ (.int .i64 PT)).setCell ⟨w.heap.size, 2, none⟩ (.int .i64 0)).setCell ⟨w.heap.size, 3, none⟩ (.int .i64 0)) := below4_set hbl (Nat.le_refl _) _ _ _ _
              obtain ⟨w17s, hw17s⟩ : ∃ u, u = (((w17.setCell ⟨w.heap.size, 0, none⟩ (.slice A n c)).setCell ⟨w.heap.size, 1, none⟩ (.int .i64 PT)).setCell ⟨w.heap.size, 2, none⟩ (.int .i64 0)).setCell ⟨w.heap.size, 3, none⟩ (.int .i64 0) := ⟨_, rfl⟩
              rw [← hw17s] at hP' hown' hbl'
              replace hP := hP'
              replace hown := hown'
              replace hbl := hbl'
              clear hP' hown' hbl'
              have q0 : (w17s).cell? ⟨w.heap.size, 0, none⟩ = some (.slice A n c) := (hP.cell 0).trans rfl
              have q1 : (w17s).cell? ⟨w.heap.size, 1, none⟩ = some (.int .i64 PT) := (hP.cell 1).trans rfl
              have q2 : (w17s).cell? ⟨w.heap.size, 2, none⟩ = some (.int .i64 0) := (hP.cell 2).trans rfl
              have q3 : (w17s).cell? ⟨w.heap.size, 3, none⟩ = some (.int .i64 0) := (hP.cell 3).trans rfl
              have j0 := hP.frozen 0
              have j1 := hP.frozen 1
              have j2 := hP.frozen 2
              have j3 := hP.frozen 3
              rw [hw17s] at q0 q1 q2 q3
              go_wp2_with fail
              rw [← hw17s]
              clear q0 q1 q2 q3 j0 j1 j2 j3 p0 p1 p2 p3 g0 g1 g2 g3
              clear hw17s
              refine (HTK.out w17s).mono ?_
              rintro x w18 ⟨rfl, hb⟩
              replace hP := hP.below hb hP.lt
              replace hown := own_kept hown hb
              replace hbl := bthen hbl hb
              clear hb
              have p0 : (w18).cell? ⟨w.heap.size, 0, none⟩ = some (.slice A n c) := (hP.cell 0).trans rfl
              have p1 : (w18).cell? ⟨w.heap.size, 1, none⟩ = some (.int .i64 PT) := (hP.cell 1).trans rfl
              have p2 : (w18).cell? ⟨w.heap.size, 2, none⟩ = some (.int .i64 0) := (hP.cell 2).trans rfl
              have p3 : (w18).cell? ⟨w.heap.size, 3, none⟩ = some (.int .i64 0) := (hP.cell 3).trans rfl
              have g0 := hP.frozen 0
              have g1 := hP.frozen 1
              have g2 := hP.frozen 2
              have g3 := hP.frozen 3
              have hP' : Blk ((((w18.setCell ⟨w.heap.size, 0, none⟩ (.slice A n c)).setCell ⟨w.heap.size, 1, none⟩ (.int .i64 PE)).setCell ⟨w.heap.size, 2, none⟩ (.int .i64 0)).setCell ⟨w.heap.size, 3, none⟩ (.int .i64 0)) w.heap.size 82 #[.slice A n c, .int .i64 PE, .int .i64 0, .int .i64 0] := blk4_set hP _ _ _ _
              have hown' := own4_set hown hP (by decide) (.slice A n c) (.int .i64 PE) (.int .i64 0) (.int .i64 0)
              have hbl' : Below w.heap.size w ((((w18.setCell ⟨w.heap.size, 0, none⟩ (.slice A n c)).setCell ⟨w.heap.size, 1, none⟩ (.int .i64 PE)).setCell ⟨w.heap.size, 2, none⟩ (.int .i64 0)).setCell ⟨w.heap.size, 3, none⟩ (.int .i64 0)) := below4_set hbl (Nat.le_refl _) _ _ _ _
              obtain ⟨w18s, hw18s⟩ : ∃ u, u = (((w18.setCell ⟨w.heap.size, 0, none⟩ (.slice A n c)).setCell ⟨w.heap.size, 1, none⟩ (.int .i64 PE)).setCell ⟨w.heap.size, 2, none⟩ (.int .i64 0)).setCell ⟨w.heap.size, 3, none⟩ (.int .i64 0) := ⟨_, rfl⟩
              rw [← hw18s] at hP' hown' hbl'
              replace hP := hP'
              replace hown := hown'
              replace hbl := hbl'
              clear hP' hown' hbl'
              subst hw18s
              have hsN := hbl.size
              have hsJ : (((((w18.setCell ⟨w.heap.size, 0, none⟩ (.slice A n c)).setCell ⟨w.heap.size, 1, none⟩ (.int .i64 PE)).setCell ⟨w.heap.size, 2, none⟩ (.int .i64 0)).setCell ⟨w.heap.size, 3, none⟩ (.int .i64 0))).heap.size = w18.heap.size := by simp [World.setCell]
              have hnew : (World.alloc ((((w18.setCell ⟨w.heap.size, 0, none⟩ (.slice A n c)).setCell ⟨w.heap.size, 1, none⟩ (.int .i64 PE)).setCell ⟨w.heap.size, 2, none⟩ (.int .i64 0)).setCell ⟨w.heap.size, 3, none⟩ (.int .i64 0)) (.cells #[.slice A' k (c - PT)] 22)).heap[w18.heap.size]? = some (.cells #[.slice A' k (c - PT)] 22 (0, 0)) := by rw [← hsJ]; exact heap_alloc_new _ _
              have HSJ := Lib.hid hsJ
              clear hsJ
              have hneP : (Value.slice LA ps.length lcap).ownBlock ≠ some w.heap.size := own_blk_ne hown hP (by decide)
              go_wp2_with (first
                | (at_builtin; refine wpList_append_own _ rfl _ _ 41 rfl w.heap.size 22 i0 (.slice none 0 0) 1 24 Try.underlying41 hi hz0 hz1 hz2 rfl (by decide) _ ps.length _ rfl (hown.alloc _) ⟨w18.heap.size, 0, none⟩ 1 1 [.slice A' k (c - PT)] rfl rfl (World.news_of_block (cs := #[.slice A' k (c - PT)]) (t := 22) (fr := (0, 0)) hnew) (by simp [Value.oneCell']) (by unfold maxLen; omega) (by omega) (by have := HSJ.out; simp; omega) ?_)
                | go_in)
              intro v4 w4 own4 hg4 _
              have hb4 : Below w.heap.size w w4 := (hbl.alloc hsN (.cells #[.slice A' k (c - PT)] 22)).grown hg4 (by have := HSJ.out; simp; omega) (fun i hi => (hown.lt i hi).1)
              have hP4 := Blk.grown (Blk.alloc hP (.cells #[.slice A' k (c - PT)] 22)) hg4 (fun e => hneP e.symm)
              obtain ⟨LA4, lcap4, rfl⟩ := own_slice own4
              go_wp2
              go_roundw
              case rel =>
                refine ⟨ps ++ [⟨A', k, (c - PT), ((zs.drop PT).take k)⟩], by simp; omega, ?_, by simpa [Piece.val] using own4, fun q hm => ?_, hb4⟩
                · have hun := HUN.out; rw [← HP2.out, ← HP3.out] at hun; exact .inl ⟨PE, HPN.out, by simp; omega, hP4, by rw [List.map_append]; simpa using hun⟩
                · rcases List.mem_append.1 hm with h | h
                  · exact HQ.out q h
                  · obtain rfl : q = _ := by simpa using h
                    exact HOK.out
              case measure => simp [lenOf]; omega
            · have HUN := Lib.hid (HSH.out (by have := HP2.out; omega))
              clear HMO HSH
              have p0 : (w11).cell? ⟨w.heap.size, 0, none⟩ = some (.slice A n c) := (hP.cell 0).trans rfl
              have p1 : (w11).cell? ⟨w.heap.size, 1, none⟩ = some (.int .i64 p) := (hP.cell 1).trans rfl
              have p2 : (w11).cell? ⟨w.heap.size, 2, none⟩ = some (.int .i64 0) := (hP.cell 2).trans rfl
              have p3 : (w11).cell? ⟨w.heap.size, 3, none⟩ = some (.int .i64 0) := (hP.cell 3).trans rfl
              have g0 := hP.frozen 0
              have g1 := hP.frozen 1
              have g2 := hP.frozen 2
              have g3 := hP.frozen 3
              go_wp2_with fail
              clear p0 p1 p2 p3 g0 g1 g2 g3
              refine (HNU.out w11 hbl).mono ?_
              rintro x w19 ⟨rfl, hb⟩
              replace hP := hP.below hb hP.lt
              replace hown := own_kept hown hb
              replace hbl := bthen hbl hb
              clear hb
              have p0 : (w19).cell? ⟨w.heap.size, 0, none⟩ = some (.slice A n c) := (hP.cell 0).trans rfl
              have p1 : (w19).cell? ⟨w.heap.size, 1, none⟩ = some (.int .i64 p) := (hP.cell 1).trans rfl
              have p2 : (w19).cell? ⟨w.heap.size, 2, none⟩ = some (.int .i64 0) := (hP.cell 2).trans rfl
              have p3 : (w19).cell? ⟨w.heap.size, 3, none⟩ = some (.int .i64 0) := (hP.cell 3).trans rfl
              have g0 := hP.frozen 0
              have g1 := hP.frozen 1
              have g2 := hP.frozen 2
              have g3 := hP.frozen 3
              have hP' : Blk ((((w19.setCell ⟨w.heap.size, 0, none⟩ (.slice A n c)).setCell ⟨w.heap.size, 1, none⟩ (.int .i64 PT)).setCell ⟨w.heap.size, 2, none⟩ (.int .i64 0)).setCell ⟨w.heap.size, 3, none⟩ (.int .i64 0)) w.heap.size 82 #[.slice A n c, .int .i64 PT, .int .i64 0, .int .i64 0] := blk4_set hP _ _ _ _
              have hown' := own4_set hown hP (by decide) (.slice A n c) (.int .i64 PT) (.int .i64 0) (.int .i64 0)
              have hbl' : Below w.heap.size w ((((w19.setCell ⟨w.heap.size, 0, none⟩ (.slice A n c)).setCell ⟨w.heap.size, 1, none⟩ (.int .i64 PT)).setCell ⟨w.heap.size, 2, none⟩ (.int .i64 0)).setCell ⟨w.heap.size, 3, none⟩ (.int .i64 0)) := below4_set hbl (Nat.le_refl _) _ _ _ _
              obtain ⟨w19s, hw19s⟩ : ∃ u, u = (((w19.setCell ⟨w.heap.size, 0, none⟩ (.slice A n c)).setCell ⟨w.heap.size, 1, none⟩ (.int .i64 PT)).setCell ⟨w.heap.size, 2, none⟩ (.int .i64 0)).setCell ⟨w.heap.size, 3, none⟩ (.int .i64 0) := ⟨_, rfl⟩
              rw [← hw19s] at hP' hown' hbl'
              replace hP := hP'
              replace hown := hown'
              replace hbl := hbl'
              clear hP' hown' hbl'
              have q0 : (w19s).cell? ⟨w.heap.size, 0, none⟩ = some (.slice A n c) := (hP.cell 0).trans rfl
              have q1 : (w19s).cell? ⟨w.heap.size, 1, none⟩ = some (.int .i64 PT) := (hP.cell 1).trans rfl
              have q2 : (w19s).cell? ⟨w.heap.size, 2, none⟩ = some (.int .i64 0) := (hP.cell 2).trans rfl
              have q3 : (w19s).cell? ⟨w.heap.size, 3, none⟩ = some (.int .i64 0) := (hP.cell 3).trans rfl
              have j0 := hP.frozen 0
              have j1 := hP.frozen 1
              have j2 := hP.frozen 2
              have j3 := hP.frozen 3
              rw [hw19s] at q0 q1 q2 q3
              go_wp2_with fail
              rw [← hw19s]
              clear q0 q1 q2 q3 j0 j1 j2 j3 p0 p1 p2 p3 g0 g1 g2 g3
              clear hw19s
              refine (takeR_short w19s A n c PT 0 k (by have := HP2.out; omega) (by omega) (by omega) k0).mono ?_
              rintro x w20 ⟨rfl, hb⟩
              replace hP := hP.below hb hP.lt
              replace hown := own_kept hown hb
              replace hbl := bthen hbl hb
              clear hb
              have p0 : (w20).cell? ⟨w.heap.size, 0, none⟩ = some (.slice A n c) := (hP.cell 0).trans rfl
              have p1 : (w20).cell? ⟨w.heap.size, 1, none⟩ = some (.int .i64 PT) := (hP.cell 1).trans rfl
              have p2 : (w20).cell? ⟨w.heap.size, 2, none⟩ = some (.int .i64 0) := (hP.cell 2).trans rfl
              have p3 : (w20).cell? ⟨w.heap.size, 3, none⟩ = some (.int .i64 0) := (hP.cell 3).trans rfl
              have g0 := hP.frozen 0
              have g1 := hP.frozen 1
              have g2 := hP.frozen 2
              have g3 := hP.frozen 3
              have hP' : Blk ((((w20.setCell ⟨w.heap.size, 0, none⟩ (.slice A n c)).setCell ⟨w.heap.size, 1, none⟩ (.int .i64 PT)).setCell ⟨w.heap.size, 2, none⟩ (.int .i64 2)).setCell ⟨w.heap.size, 3, none⟩ (.int .i64 PT)) w.heap.size 82 #[.slice A n c, .int .i64 PT, .int .i64 2, .int .i64 PT] := blk4_set hP _ _ _ _
              have hown' := own4_set hown hP (by decide) (.slice A n c) (.int .i64 PT) (.int .i64 2) (.int .i64 PT)
              have hbl' : Below w.heap.size w ((((w20.setCell ⟨w.heap.size, 0, none⟩ (.slice A n c)).setCell ⟨w.heap.size, 1, none⟩ (.int .i64 PT)).setCell ⟨w.heap.size, 2, none⟩ (.int .i64 2)).setCell ⟨w.heap.size, 3, none⟩ (.int .i64 PT)) := below4_set hbl (Nat.le_refl _) _ _ _ _
              obtain ⟨w20s, hw20s⟩ : ∃ u, u = (((w20.setCell ⟨w.heap.size, 0, none⟩ (.slice A n c)).setCell ⟨w.heap.size, 1, none⟩ (.int .i64 PT)).setCell ⟨w.heap.size, 2, none⟩ (.int .i64 2)).setCell ⟨w.heap.size, 3, none⟩ (.int .i64 PT) := ⟨_, rfl⟩
              rw [← hw20s] at hP' hown' hbl'
              replace hP := hP'
              replace hown := hown'
              replace hbl := hbl'
              clear hP' hown' hbl'
              subst hw20s
              have hsN := hbl.size
              have hsJ : (((((w20.setCell ⟨w.heap.size, 0, none⟩ (.slice A n c)).setCell ⟨w.heap.size, 1, none⟩ (.int .i64 PT)).setCell ⟨w.heap.size, 2, none⟩ (.int .i64 2)).setCell ⟨w.heap.size, 3, none⟩ (.int .i64 PT))).heap.size = w20.heap.size := by simp [World.setCell]
              have hnew : (World.alloc ((((w20.setCell ⟨w.heap.size, 0, none⟩ (.slice A n c)).setCell ⟨w.heap.size, 1, none⟩ (.int .i64 PT)).setCell ⟨w.heap.size, 2, none⟩ (.int .i64 2)).setCell ⟨w.heap.size, 3, none⟩ (.int .i64 PT)) (.cells #[.slice none 0 0] 22)).heap[w20.heap.size]? = some (.cells #[.slice none 0 0] 22 (0, 0)) := by rw [← hsJ]; exact heap_alloc_new _ _
              have HSJ := Lib.hid hsJ
              clear hsJ
              have hneP : (Value.slice LA ps.length lcap).ownBlock ≠ some w.heap.size := own_blk_ne hown hP (by decide)
              go_wp2_with (first
                | (at_builtin; refine wpList_append_own _ rfl _ _ 41 rfl w.heap.size 22 i0 (.slice none 0 0) 1 24 Try.underlying41 hi hz0 hz1 hz2 rfl (by decide) _ ps.length _ rfl (hown.alloc _) ⟨w20.heap.size, 0, none⟩ 1 1 [.slice none 0 0] rfl rfl (World.news_of_block (cs := #[.slice none 0 0]) (t := 22) (fr := (0, 0)) hnew) (by simp [Value.oneCell']) (by unfold maxLen; omega) (by omega) (by have := HSJ.out; simp; omega) ?_)
                | go_in)
              intro v4 w4 own4 hg4 _
              have hb4 : Below w.heap.size w w4 := (hbl.alloc hsN (.cells #[.slice none 0 0] 22)).grown hg4 (by have := HSJ.out; simp; omega) (fun i hi => (hown.lt i hi).1)
              have hP4 := Blk.grown (Blk.alloc hP (.cells #[.slice none 0 0] 22)) hg4 (fun e => hneP e.symm)
              obtain ⟨LA4, lcap4, rfl⟩ := own_slice own4
              go_wp2
              go_roundw
              case rel =>
                refine ⟨ps ++ [⟨none, 0, 0, []⟩], by simp; omega, ?_, by simpa [Piece.val] using own4, fun q hm => ?_, hb4⟩
                · exact .inr ⟨_, _, _, by decide, hP4, by rw [HUN.out, HP2.out]⟩
                · rcases List.mem_append.1 hm with h | h
                  · exact HQ.out q h
                  · obtain rfl : q = _ := by simpa using h
                    exact ok_none _ _
              case measure => simp [lenOf]; omega
      · obtain rfl : p = n := by omega
        have HUN := Lib.hid (show U = .ok (ps.map Piece.zs) by rw [HUP.out, prs_end (by rw [hdl.out]; omega)]; simp [Pr.more])
        have p0 : (w11).cell? ⟨w.heap.size, 0, none⟩ = some (.slice A p c) := (hP.cell 0).trans rfl
        have p1 : (w11).cell? ⟨w.heap.size, 1, none⟩ = some (.int .i64 p) := (hP.cell 1).trans rfl
        have p2 : (w11).cell? ⟨w.heap.size, 2, none⟩ = some (.int .i64 0) := (hP.cell 2).trans rfl
        have p3 : (w11).cell? ⟨w.heap.size, 3, none⟩ = some (.int .i64 0) := (hP.cell 3).trans rfl
        have g0 := hP.frozen 0
        have g1 := hP.frozen 1
        have g2 := hP.frozen 2
        have g3 := hP.frozen 3
        go_wp2_with fail
        refine (endR_ok w11 A p c 0).mono ?_
        rintro x w9 ⟨rfl, hb⟩
        go_wp2
        go_ret3
        exact ⟨bthen hbl hb, .inl ⟨_, ps, HUN.out, rfl, own_kept hown hb, HQ.out⟩⟩
    · have HUE := Lib.hid hUe
      clear hUe
      have heB : (e == 0) = false := by simpa using hne
      have p0 : (wr).cell? ⟨w.heap.size, 0, none⟩ = some (.slice A n c) := (hP.cell 0).trans rfl
      have p1 : (wr).cell? ⟨w.heap.size, 1, none⟩ = some (.int .i64 p) := (hP.cell 1).trans rfl
      have p2 : (wr).cell? ⟨w.heap.size, 2, none⟩ = some (.int .i64 e) := (hP.cell 2).trans rfl
      have p3 : (wr).cell? ⟨w.heap.size, 3, none⟩ = some (.int .i64 q) := (hP.cell 3).trans rfl
      have g0 := hP.frozen 0
      have g1 := hP.frozen 1
      have g2 := hP.frozen 2
      have g3 := hP.frozen 3
      go_wp2_with fail
      refine (leftR_bad wr A n c p e q heB).mono ?_
      rintro x w21 ⟨rfl, hb⟩
      replace hP := hP.below hb hP.lt
      replace hown := own_kept hown hb
      replace hbl := bthen hbl hb
      clear hb
      clear p0 p1 p2 p3 g0 g1 g2 g3
      have p0 : (w21).cell? ⟨w.heap.size, 0, none⟩ = some (.slice A n c) := (hP.cell 0).trans rfl
      have p1 : (w21).cell? ⟨w.heap.size, 1, none⟩ = some (.int .i64 p) := (hP.cell 1).trans rfl
      have p2 : (w21).cell? ⟨w.heap.size, 2, none⟩ = some (.int .i64 e) := (hP.cell 2).trans rfl
      have p3 : (w21).cell? ⟨w.heap.size, 3, none⟩ = some (.int .i64 q) := (hP.cell 3).trans rfl
      have g0 := hP.frozen 0
      have g1 := hP.frozen 1
      have g2 := hP.frozen 2
      have g3 := hP.frozen 3
      go_wp2_with fail
      refine (endR_bad w21 A n c p e q heB).mono ?_
      rintro x w9 ⟨rfl, hb⟩
      go_wp2
      go_ret3
      exact ⟨bthen hbl hb, .inr ⟨_, _, hne, HUE.out, rfl⟩⟩

end Go.Proofs.Ytpfojhmaeaeecaa
