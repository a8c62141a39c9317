/- The law TapReads of layer 18, walked: it returns true and writes nothing that was there. -/
import Derived.Test.YtpfojhmaeaeecaaTapS
namespace Go.Proofs.Ytpfojhmaeaeecaa
open Go.RowKit

theorem parse_long (w : World) (n c : Nat) (A : Option Addr) (hn : 1048576 < n) :
    Calls Try.prog 23 #[.slice A n c] w fun e w' => Below w.heap.size w w' ∧ e = .returned (.tuple #[.slice none 0 0, .iface 48 (.pointer (some ⟨w.heap.size, 0, none⟩))]) ∧ Ft w' w.heap.size 8 0 := by
  have hnI : (1048576 : Int) < (n : Int) := by omega
  go_enter Try.func23, Try.ntmps23
  go_wp2
  go_ret2
  exact ⟨(Below.refl _ _).alloc (Nat.le_refl _) _, rfl, Blk.new w _ _⟩
theorem parseR_long (w : World) (n c : Nat) (A : Option Addr) (hn : 1048576 < n) :
    Calls Try.prog 24 #[.slice A n c] w fun e w' => e = .returned (.tuple #[.slice none 0 0, .int .i64 8, .int .i64 0]) ∧ w = w' := by
  have hnI : (1048576 : Int) < (n : Int) := by omega
  go_enter Try.func24, Try.ntmps24
  go_wp2
  go_ret3
  exact ⟨rfl, rfl⟩
/-- own blocks as pieces -/
theorem own_pieces {W : World} {B : Nat} : ∀ (qs : List Pc), (∀ q ∈ qs, Pc.ok W B q) → (∀ q ∈ qs, isU8 q.zs) → ∃ ps : List Piece, ps.map Piece.val = qs.map Pc.v ∧ ps.map Piece.zs = qs.map Pc.zs ∧ ∀ p ∈ ps, p.ok W W.heap.size
  | [], _, _ => ⟨[], rfl, rfl, by simp⟩
  | q :: qs, h, hu => by
    obtain ⟨ps, h1, h2, h3⟩ := own_pieces qs (fun x hx => h x (by simp [hx])) (fun x hx => hu x (by simp [hx]))
    obtain ⟨A, c, hv, hok⟩ := own_piece (h q (by simp)) (hu q (by simp))
    refine ⟨⟨A, q.zs.length, c, q.zs⟩ :: ps, by simp [h1, hv, Piece.val], by simp [h2], fun p hp => ?_⟩
    rcases List.mem_cons.1 hp with rfl | hp
    · exact hok
    · exact h3 p hp
theorem prs_u8 {zs : List Int} {bs : List (List Int)} (hz : isU8 zs) (h : prs 0 0 zs = .ok bs) : ∀ b ∈ bs, isU8 b := fun b hb => ((wr_prs zs.length zs 0 0 bs (Nat.le_refl _) (by omega) hz h).2.1 b hb).1
theorem prs_few {zs : List Int} {bs : List (List Int)} (hz : isU8 zs) (h : prs 0 0 zs = .ok bs) : bs.length ≤ 4096 := by have := (wr_prs zs.length zs 0 0 bs (Nat.le_refl _) (by omega) hz h).2.2; omega

set_option maxHeartbeats 2000000 in
theorem tapReads_walk (A : Option Addr) (n c : Nat) (zs : List Int) (w : World) (w0 : IsRow .u8 w A n c zs) :
    Calls Try.prog 6 #[.slice A n c] w fun e w' => e = .returned (.bool true) ∧ Below w.heap.size w w' := by
  obtain ⟨hr, hz, hnc, hc⟩ := row_u8 w0
  have hc' : c ≤ 9223372036854775807 := by unfold maxLen at hc; omega
  clear w0 hc
  generalize zs.take n = ys at *
  by_cases h2 : (n : Int) ≤ 20000
  · have h1 : ¬ (20000 : Int) < (n : Int) := by omega
    have h3 : ¬ (1100000 : Int) < (n : Int) := by omega
    have hp1 := parse_any w n c A ys hr hz hnc hc' (by omega)
    have hp2 := fun w' (h : Below w.heap.size w w') => parseR_any w' n c A ys ((hr.below h).more h.size) hz hnc hc' (by omega)
    have H2 := Lib.hid hp2
    have HZ := Lib.hid hz
    clear hp2 hr hz
    go_enter Try.func6, Try.ntmps6
    go_wp2_with fail
    refine hp1.mono ?_
    rintro e w1 ⟨hb1, h⟩
    rcases h with ⟨v, qs, hq, rfl, hown, hqs⟩ | ⟨g, x, p, hq, rfl, hF⟩
    · obtain ⟨ps, e1, e2, hok⟩ := own_pieces qs hqs (fun q hm => prs_u8 HZ.out hq q.zs (List.mem_map_of_mem hm))
      have hlen : qs.length ≤ 4096 := by have := prs_few HZ.out hq; simpa using this
      obtain ⟨LA, lc, rfl⟩ := own_slice hown
      have hrow := Reads.of_own hown
      rw [← e1] at hrow
      rw [← e2] at hq
      have HQ := Lib.hid hq
      clear hq hown hqs e1 e2
      go_wp2_with fail
      refine (H2.out w1 hb1).mono ?_
      rintro e w2 ⟨hb2, h⟩
      rw [HQ.out] at h
      rcases h with ⟨v', ps', hq', rfl, hown', hok'⟩ | ⟨x, p, _, hq', _⟩
      · injection hq' with hq'
        obtain ⟨LA', lc', rfl⟩ := own_slice hown'
        have hrow' := Reads.of_own hown'
        have hl : ps'.length = qs.length := by
          have a := congrArg List.length hq'
          have b := rows_len hrow
          simp at a; omega
        rw [hl] at hrow'
        have hs := same_true w2 LA LA' qs.length lc lc' ps ps' ((hrow.below hb2).more hb2.size) hrow' (fun q hm => (hok q hm).to hb2 hb2.size) (fun q hm => (hok' q hm).to hb2 hb2.size) hq' (by omega)
        rw [hl]
        clear hrow hrow' hok hok' hq' hown' hl
        go_wp2_with fail
        refine hs.mono ?_
        rintro e w3 ⟨rfl, hb3⟩
        go_wp2_with fail
        refine (lives18 _).mono ?_
        rintro e w4 ⟨rfl, hb4⟩
        go_wp2
        go_ret
        exact ⟨rfl, bthen (bthen (bthen hb1 hb2) hb3) hb4⟩
      · cases hq'
    · have HQ := Lib.hid hq
      clear hq
      go_wp2_with fail
      refine (H2.out w1 hb1).mono ?_
      rintro e w2 ⟨hb2, h⟩
      rw [HQ.out] at h
      rcases h with ⟨v', ps', hq', rfl, hown', hok'⟩ | ⟨x', p', hx, hq', rfl⟩
      · cases hq'
      · injection hq' with e1 e2
        subst e1 e2
        have hF2 := hF.below hb2
        have hxB : (x == 0) = false := by simpa using hx
        clear hF
        go_wp2_with fail
        refine (why_ft hF2).mono ?_
        rintro e w3 ⟨rfl, q, rfl⟩
        go_wp2_with fail
        refine (lives18 _).mono ?_
        rintro e w4 ⟨rfl, hb4⟩
        go_wp2
        go_ret
        exact ⟨rfl, bthen (below_drewN (bthen hb1 hb2) q) hb4⟩
  · by_cases h3 : (n : Int) ≤ 1048576
    · have h1 : (20000 : Int) < (n : Int) := by omega
      go_enter Try.func6, Try.ntmps6
      go_wp2_with fail
      refine (lives18 _).mono ?_
      rintro e w4 ⟨rfl, hb4⟩
      go_wp2
      go_ret
      exact ⟨rfl, hb4⟩
    · by_cases h4 : (1100000 : Int) < (n : Int)
      · go_enter Try.func6, Try.ntmps6
        go_wp2_with fail
        refine (lives18 _).mono ?_
        rintro e w4 ⟨rfl, hb4⟩
        go_wp2
        go_ret
        exact ⟨rfl, hb4⟩
      · go_enter Try.func6, Try.ntmps6
        go_wp2_with fail
        refine (parse_long w n c A (by omega)).mono ?_
        rintro e w1 ⟨hb1, rfl, hF⟩
        go_wp2_with fail
        refine (parseR_long w1 n c A (by omega)).mono ?_
        rintro e w2 ⟨rfl, rfl⟩
        go_wp2_with fail
        refine (why_ft hF).mono ?_
        rintro e w3 ⟨rfl, q, rfl⟩
        go_wp2_with fail
        refine (lives18 _).mono ?_
        rintro e w4 ⟨rfl, hb4⟩
        go_wp2
        go_ret
        exact ⟨rfl, bthen (below_drewN hb1 q) hb4⟩

end Go.Proofs.Ytpfojhmaeaeecaa
