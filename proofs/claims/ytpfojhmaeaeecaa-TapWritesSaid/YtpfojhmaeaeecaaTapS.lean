/- Contracts of layer 18: whether pieces are the same, whether they fit a file. -/
import Derived.Test.YtpfojhmaeaeecaaTapR3
namespace Go.Proofs.Ytpfojhmaeaeecaa
open Go.RowKit

theorem piece_at {w : World} {B n k : Nat} {A : Option Addr} {ps : List Piece} (h : Reads w B 1 A n (ps.map Piece.val)) (hk : k < n) :
    ∃ ad q, A = some ad ∧ ad.block < B ∧ ps[k]? = some q ∧ w.cell? (ad.add k) = some (.slice q.a q.n q.c) := by
  obtain ⟨ad, u, e, hb, hx, hc⟩ := h.at_ hk
  rw [List.getElem?_map, Option.map_eq_some_iff] at hx
  obtain ⟨q, hq, rfl⟩ := hx
  exact ⟨ad, q, e, hb, hq, hc⟩
theorem rows_len {w : World} {B n : Nat} {A : Option Addr} {ps : List Piece} (h : Reads w B 1 A n (ps.map Piece.val)) : ps.length = n := by have := h.1; simpa using this

set_option maxHeartbeats 1000000 in
theorem same_true (w : World) (A A' : Option Addr) (n c c' : Nat) (ps qs : List Piece) (hr : Reads w w.heap.size 1 A n (ps.map Piece.val)) (hr' : Reads w w.heap.size 1 A' n (qs.map Piece.val))
    (hps : ∀ q ∈ ps, q.ok w w.heap.size) (hqs : ∀ q ∈ qs, q.ok w w.heap.size) (he : ps.map Piece.zs = qs.map Piece.zs) (hn : n ≤ 9223372036854775807) :
    Calls Try.prog 25 #[.slice A n c, .slice A' n c'] w fun e w' => e = .returned (.bool true) ∧ Below w.heap.size w w' := by
  have HE := Lib.hid he
  have HP := Lib.hid hps
  have HQ := Lib.hid hqs
  clear he hps hqs
  go_enter Try.func25, Try.ntmps25
  go_wp2
  go_loopw [5] (fun x wr => ∃ i : Nat, i ≤ n ∧ x = .int .i64 i ∧ Below w.heap.size w wr) (fun x _ => n - (intOf x).toNat)
  case atStart => exact ⟨0, by omega, rfl, Below.refl _ _⟩
  case round =>
    obtain ⟨i, hi, rfl, hbl⟩ := hrel
    by_cases hlt : i < n
    · obtain ⟨ad, q, rfl, hab, hq, hcl⟩ := piece_at (hr.below hbl) hlt
      obtain ⟨ad', q', rfl, hab', hq', hcl'⟩ := piece_at (hr'.below hbl) hlt
      have hz : q.zs = q'.zs := by
        have := congrArg (fun l => l[i]?) HE.out
        simpa [hq, hq'] using this
      have hv := conv18 (w := wr.drew) q.c ((((HP.out q (List.mem_of_getElem? hq)).1).below hbl).drew)
      have hv' := conv18 (w := wr.drew) q'.c ((((HQ.out q' (List.mem_of_getElem? hq')).1).below hbl).drew)
      rw [hz] at hv
      generalize strOfNums q'.zs = S at *
      have hiI : (i : Int) < (n : Int) := by omega
      have hi0 : (0 : Int) ≤ (i : Int) := Int.natCast_nonneg _
      clear hz hr hr' hq hq'
      obtain ⟨qa, qn, qc, qz⟩ := q
      obtain ⟨qa', qn', qc', qz'⟩ := q'
      simp only at hv hv' hcl hcl'
      go_wp2_with fail
      go_region
      go_wp2
      go_roundw
      case rel => exact ⟨i + 1, by omega, by go_num, hbl.drew⟩
      case measure => simp [intOf]; omega
    · have hiI : ¬ (i : Int) < (n : Int) := by omega
      go_wp2
      go_ret
      exact ⟨rfl, hbl⟩

end Go.Proofs.Ytpfojhmaeaeecaa
