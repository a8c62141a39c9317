/- Layer 24: the walk of WalkCalls, any order. -/
import Derived.Test.YtnmapncgnceldaaWk19
namespace Go.Proofs.Ytnmapncgnceldaa
open Go.RowKit

theorem row_i64 {w : World} {a : Option Addr} {len cap : Nat} {zs : List Int} (h : IsRow .i64 w a len cap zs) :
    Reads w w.heap.size 1 a len ((zs.take len).map (Value.int .i64)) := by
  rcases h with ⟨rfl, rfl, rfl, rfl⟩ | ⟨x, rfl, hb, hl, hc, hz, hcell, hw⟩
  · exact Reads.none_
  · refine ⟨by simp; omega, fun hn => ⟨x, rfl, by rcases hb with h0 | h0; omega; exact h0, fun j u hu => ?_⟩⟩
    simp only [List.getElem?_map, List.getElem?_take, Option.map_eq_some_iff] at hu
    obtain ⟨v, hv, rfl⟩ := hu
    split at hv
    · rename_i hj
      have hjz : j < zs.length := by omega
      rw [hcell j hjz]
      rw [List.getElem?_eq_getElem hjz] at hv
      injection hv with hv
      rw [← hv]
      simp [List.getD_eq_getElem?_getD, hjz]
    · cases hv
set_option maxRecDepth 100000 in
theorem walkCalls_long (w : World) (OA : Option Addr) (on oc : Nat) (hon : ¬ on ≤ 40) : Calls Try.prog 5 #[.slice OA on oc] w fun x w' => x = .returned (.bool true) ∧ Below w.heap.size w w' := by
  have honI : (40 : Int) < (on : Int) := by omega
  have hlv := lives_any w
  clear hon
  go_enter Try.func5, Try.ntmps5
  go_wp2_with fail
  refine hlv.mono ?_
  rintro x w1 ⟨rfl, hb⟩
  have HB := Lib.hid hb
  clear hlv hb
  go_wp2
  go_ret
  exact ⟨rfl, HB.out⟩
theorem walkCalls_walk (OA : Option Addr) (on oc : Nat) (zs : List Int) (w : World) (h : IsRow .i64 w OA on oc zs) : Calls Try.prog 5 #[.slice OA on oc] w fun x w' => x = .returned (.bool true) ∧ Below w.heap.size w w' := by
  by_cases hon : on ≤ 40
  · exact walkCalls_any w OA on oc _ (row_i64 h) hon
  · exact walkCalls_long w OA on oc hon
end Go.Proofs.Ytnmapncgnceldaa
