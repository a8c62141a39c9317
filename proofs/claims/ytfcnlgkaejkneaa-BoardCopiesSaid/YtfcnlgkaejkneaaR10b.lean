/- Contracts of layer 10: the document's list with one key more, or less. -/
import Derived.Test.YtfcnlgkaejkneaaR10
namespace Go.Proofs.Ytfcnlgkaejkneaa
open Go.RowKit

theorem intInfo : (Try.prog.info? 3).map (fun i => (i.zero, i.size, i.bytes)) = some (some (.int .i64 0), 1, 8) := by kernel_rfl
def lessN (n : Int) (zs : List Int) : List Int := zs.filter (· != n)
theorem lessN_yes {n z : Int} {l : List Int} (h : z ≠ n) : lessN n (l ++ [z]) = lessN n l ++ [z] := by unfold lessN; rw [List.filter_append]; simp [h]
theorem lessN_no {n : Int} {l : List Int} : lessN n (l ++ [n]) = lessN n l := by unfold lessN; rw [List.filter_append]; simp
theorem lessN_le (n : Int) (l : List Int) : (lessN n l).length ≤ l.length := List.length_filter_le _ _

set_option maxRecDepth 100000 in
set_option maxHeartbeats 2000000 in
theorem putR_any (n : Int) (on : Bool) (A : Option Addr) (m c : Nat) (zs : List Int) (w : World) (hr : Reads w w.heap.size 1 A m (zs.map (Value.int .i64))) (hm : m ≤ 100000) :
    Calls Try.prog 45 #[.slice A m c, .int .i64 n, .bool on] w fun e w' => ∃ v, e = .returned v ∧ w'.ownsRow w.heap.size 3 1 v (lessN n zs ++ (if on then [n] else [])).length ((lessN n zs ++ (if on then [n] else [])).map (Value.int .i64)) ∧ Below w.heap.size w w' := by
  obtain ⟨i0, hi, hz0, hz1, hz2⟩ := info_parts intInfo
  have hl : zs.length = m := by have := hr.1; simpa using this
  have HL := Lib.hid hl
  clear hl
  go_enter Try.func45, Try.ntmps45
  go_wp2
  go_loopw [7, 8] (fun v x wr => ∃ k : Nat, k ≤ m ∧ x = .int .i64 k ∧ wr.ownsRow w.heap.size 3 1 v (lessN n (zs.take k)).length ((lessN n (zs.take k)).map (Value.int .i64)) ∧ Below w.heap.size w wr) (fun _ x _ => m - (intOf x).toNat)
  case atStart => exact ⟨0, by omega, rfl, World.ownsRow_nil _ _ _ _, Below.refl _ _⟩
  case round =>
    obtain ⟨k, hk, rfl, hown, hbl⟩ := hrel
    have hsz := hbl.size
    have hle := lessN_le n (zs.take k)
    have hle2 : (zs.take k).length ≤ k := by rw [List.length_take]; omega
    by_cases hlt : k < m
    · obtain ⟨ad, rfl, hab, hcl⟩ := i64_at (hr.below hbl) hlt
      have ht := take_snocI zs k (by have := HL.out; omega)
      generalize zs.getD k 0 = z at *
      by_cases hz : z = n
      · subst hz
        have ht2 : lessN z (zs.take (k + 1)) = lessN z (zs.take k) := by rw [ht, lessN_no]
        have HT := Lib.hid ht2
        clear ht ht2
        go_wp2
        go_roundw
        case rel => exact ⟨k + 1, by omega, by go_num, by rw [HT.out]; exact hown, hbl⟩
        case measure => simp [intOf]; omega
      · have hzn : (z == n) = false := by simp [hz]
        have ht2 : lessN n (zs.take (k + 1)) = lessN n (zs.take k) ++ [z] := by rw [ht, lessN_yes hz]
        have HT := Lib.hid ht2
        clear ht ht2
        go_wp2_with (first
          | (at_builtin; refine wpList_append_own _ rfl _ _ 56 rfl w.heap.size 3 i0 (.int .i64 0) 1 8 Try.underlying56 hi hz0 hz1 hz2 rfl (by decide) _ _ _ rfl (hown.alloc _) ⟨_, 0, none⟩ 1 1 [.int .i64 z] rfl rfl ?c1 ?c2 ?c3 ?c4 ?c5 ?_)
          | go_in)
        case c1 =>
          intro i u hi
          match i, hi with
          | 0, hi => simp at hi; subst hi; simp [Addr.add]
        case c2 => intro u hu; simp at hu; subst hu; rfl
        case c3 => unfold maxLen; omega
        case c4 => omega
        case c5 => simp; omega
        intro v' w3 hown' hgrow _
        have hb3 := (hbl.alloc hsz (.cells #[.int .i64 z] 3)).grown hgrow (by simp; omega) (fun j hj => (hown.lt j hj).1)
        go_wp2
        go_roundw
        case rel => exact ⟨k + 1, by omega, by go_num, by rw [HT.out, List.length_append, List.map_append]; exact hown', hb3⟩
        case measure => simp [intOf]; omega
    · have hk2 : zs.take k = zs := by have := HL.out; rw [List.take_of_length_le (by omega)]
      rw [hk2] at hown hle hle2
      have hlz : (lessN n zs).length ≤ m := by have := HL.out; omega
      clear hk2
      cases on
      · go_wp2
        go_ret
        exact ⟨_, rfl, by simpa using hown, hbl⟩
      · have hown0 := hown
        go_wp2_with (first
          | (at_builtin; refine wpList_append_own _ rfl _ _ 56 rfl w.heap.size 3 i0 (.int .i64 0) 1 8 Try.underlying56 hi hz0 hz1 hz2 rfl (by decide) _ _ _ rfl (hown.alloc _) ⟨_, 0, none⟩ 1 1 [.int .i64 n] rfl rfl ?c1 ?c2 ?c3 ?c4 ?c5 ?_)
          | go_in)
        case c1 =>
          intro i u hi
          match i, hi with
          | 0, hi => simp at hi; subst hi; simp [Addr.add]
        case c2 => intro u hu; simp at hu; subst hu; rfl
        case c3 => unfold maxLen; omega
        case c4 => omega
        case c5 => simp; omega
        intro v' w3 hown' hgrow _
        have hb3 := (hbl.alloc hsz (.cells #[.int .i64 n] 3)).grown hgrow (by simp; omega) (fun j hj => (hown.lt j hj).1)
        go_wp2
        go_ret
        exact ⟨_, rfl, hown', hb3⟩

end Go.Proofs.Ytfcnlgkaejkneaa
