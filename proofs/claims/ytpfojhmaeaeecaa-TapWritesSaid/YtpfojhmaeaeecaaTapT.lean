/- Contracts of layer 18: the document's measure and file, and copied bytes. -/
import Derived.Test.YtpfojhmaeaeecaaLawTapB
import Derived.Lib.SliceRun
namespace Go.Proofs.Ytpfojhmaeaeecaa
open Go.RowKit

set_option maxHeartbeats 1000000 in
theorem fitsR_any (w : World) (B n c : Nat) (A : Option Addr) (ps : List Piece) (hr : Reads w B 1 A n (ps.map Piece.val)) (hps : ∀ q ∈ ps, q.ok w B) (hn : (n : Int) ≤ 4096) :
    Calls Try.prog 38 #[.slice A n c] w fun e w' => e = .returned (.bool (fitK 0 (ps.map Piece.n))) ∧ w = w' := by
  have HL := Lib.hid (rows_len hr)
  have HP := Lib.hid hps
  clear hps
  go_enter Try.func38, Try.ntmps38
  go_wp2
  go_loop [3, 4] (fun x j => ∃ i a : Nat, i ≤ n ∧ a ≤ 1048576 ∧ j = .int .i64 i ∧ x = .int .i64 a ∧ Hid (fitK 0 (ps.map Piece.n) = fitK a ((ps.map Piece.n).drop i))) (fun _ j => n - (intOf j).toNat)
  case atStart => exact ⟨0, 0, by omega, by omega, rfl, rfl, Lib.hid rfl⟩
  case round =>
    obtain ⟨i, a, hi, ha, rfl, rfl, HK⟩ := hrel
    by_cases hlt : i < n
    · obtain ⟨ad, q, rfl, hab, hq, hcl⟩ := piece_at hr hlt
      have HN := Lib.hid (n_at hq)
      obtain ⟨qa, k, qc, qz⟩ := q
      simp only at hcl HN
      have hiI : (i : Int) < (n : Int) := by omega
      have hi0 : (0 : Int) ≤ (i : Int) := Int.natCast_nonneg _
      have hw1 : IntKind.i64.wrap ((a : Int) + 2) = (a : Int) + 2 := by rw [IntKind.wrap_i64]; omega
      clear hq
      by_cases h1 : (65535 : Int) < (k : Int)
      · have HF := Lib.hid (show fitK 0 (ps.map Piece.n) = false by rw [HK.out, HN.out]; exact fitK_bad (.inl (by omega)))
        go_wp2
        go_ret
        exact ⟨by rw [HF.out]; rfl, rfl⟩
      · have hw2 : IntKind.i64.wrap ((a : Int) + 2 + (k : Int)) = (a : Int) + 2 + (k : Int) := by rw [IntKind.wrap_i64]; omega
        by_cases h2 : (1048576 : Int) < (a : Int) + 2 + (k : Int)
        · have HF := Lib.hid (show fitK 0 (ps.map Piece.n) = false by rw [HK.out, HN.out]; exact fitK_bad (.inr (by omega)))
          go_wp2
          go_ret
          exact ⟨by rw [HF.out]; rfl, rfl⟩
        · have HF := Lib.hid (show fitK 0 (ps.map Piece.n) = fitK (a + 2 + k) ((ps.map Piece.n).drop (i + 1)) by rw [HK.out, HN.out]; exact fitK_good (by omega))
          go_wp2
          go_round
          case rel => exact ⟨i + 1, a + 2 + k, by omega, by omega, by go_num, by first | rfl | (congr 1; omega), HF⟩
          case measure => simp [intOf]; omega
    · have hiI : ¬ (i : Int) < (n : Int) := by omega
      have HF := Lib.hid (show fitK 0 (ps.map Piece.n) = true by rw [HK.out, List.drop_eq_nil_of_le (by rw [List.length_map, HL.out]; omega)]; rfl)
      go_wp2
      go_ret
      exact ⟨by rw [HF.out]; rfl, rfl⟩
theorem fitsR_many (w : World) (n c : Nat) (A : Option Addr) (hn : (4096 : Int) < (n : Int)) :
    Calls Try.prog 38 #[.slice A n c] w fun e w' => e = .returned (.bool false) ∧ w = w' := by
  go_enter Try.func38, Try.ntmps38
  go_wp2
  go_ret
  exact ⟨rfl, rfl⟩
theorem write_bad (w : World) (n c : Nat) (A : Option Addr) (hf : Calls Try.prog 50 #[.slice A n c] w fun e w' => e = .returned (.bool false) ∧ w = w') :
    Calls Try.prog 35 #[.slice A n c] w fun e w' => e = .returned (.tuple #[.slice none 0 0, .int .i64 8]) ∧ w = w' := by
  go_enter Try.func35, Try.ntmps35
  go_wp2_with fail
  refine hf.mono ?_
  rintro e w1 ⟨rfl, rfl⟩
  go_wp2
  go_ret2
  exact ⟨rfl, rfl⟩

set_option maxHeartbeats 1000000 in
theorem clone_any (w : World) (n c : Nat) (A : Option Addr) (zs : List Int) (hr : Reads w w.heap.size 1 A n (zs.map (Value.int .u8))) (hn : n ≤ 2000000) :
    Calls Try.prog 51 #[.slice A n c] w fun e w' => ∃ V, e = .returned V ∧ w'.ownsRow w.heap.size 5 1 V n (zs.map (Value.int .u8)) ∧ Below w.heap.size w w' := by
  obtain ⟨i0, hi, hz0, hz1, hz2⟩ := info_parts u8Info
  rcases A with _ | ad
  · have h0 : n = 0 := by
      rcases Nat.eq_zero_or_pos n with h | h
      · exact h
      · obtain ⟨ad, e, _⟩ := hr.2 h; cases e
    subst h0
    have hz : zs = [] := List.eq_nil_of_length_eq_zero (reads_len hr)
    subst hz
    have hnil := Lib.run_eql_slice_nil (P := Try.prog) w 22 5 none 0 c 0 0 rfl
    go_enter Try.func51, Try.ntmps51
    go_wp2
    go_ret
    exact ⟨_, rfl, World.ownsRow_nil _ _ _ _, Below.refl _ _⟩
  · have hnil := Lib.run_eql_slice_nil (P := Try.prog) w 22 5 (some ad) n c 0 0 rfl
    have hb0 : Below w.heap.size w (w.alloc (.cells #[] 5)) := (Below.refl _ _).alloc (Nat.le_refl _) _
    have hlit : (w.alloc (.cells #[] 5)).ownsRow w.heap.size 5 1 (.slice (some ⟨w.heap.size, 0, none⟩) 0 0) 0 [] := World.ownsRow_lit w #[] 0 (Nat.le_refl _) (by decide) rfl
    have hr0 := hr.below hb0
    have hone : ∀ u ∈ zs.map (Value.int .u8), u.oneCell' = true := fun u hu => by
      simp only [List.mem_map] at hu
      obtain ⟨z, _, rfl⟩ := hu
      rfl
    go_enter Try.func51, Try.ntmps51
    go_wp2_with (first
      | (at_builtin; refine wpList_append_any _ rfl _ _ 22 rfl w.heap.size 5 i0 (.int .u8 0) 1 1 Try.underlying22 hi hz0 hz1 hz2 rfl (by decide) _ 0 [] rfl hlit w.heap.size (some ad) n c (zs.map (Value.int .u8)) rfl hr0 hone (by unfold maxLen; omega) (by omega) (by have := hb0.size; omega) ?_)
      | go_in)
    intro v2 w2 own2 hg2 _
    have hb2 : Below w.heap.size w w2 := hb0.grown hg2 hb0.size (fun i hi => by simp [Value.ownBlock] at hi; omega)
    go_wp2
    go_ret
    exact ⟨_, rfl, by simpa using own2, hb2⟩

end Go.Proofs.Ytpfojhmaeaeecaa
