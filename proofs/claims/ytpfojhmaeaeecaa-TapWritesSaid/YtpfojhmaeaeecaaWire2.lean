/- Contracts of layer 17: numbers that are read, the end, and why; the law's own examples. -/
import Derived.Test.YtpfojhmaeaeecaaWire
namespace Go.Proofs.Ytpfojhmaeaeecaa
open Go.RowKit

theorem isU8_win {zs : List Int} (h : isU8 zs) (p k : Nat) : isU8 ((zs.drop p).take k) := fun z hz => h z (List.mem_of_mem_drop (List.mem_of_mem_take hz))

theorem number_ok {w : World} {g n c p m B : Nat} {A : Option Addr} {zs : List Int} (h : Rd w g A n c p none) (hr : Reads w B 1 A n (zs.map (Value.int .u8))) (hz : isU8 zs) (hg : B ≤ g) (hm : 1 ≤ m) (hm4 : m ≤ 4) (hk : p + m ≤ n) (hc : n ≤ c) (hn : c ≤ 9223372036854775807) :
    Calls Try.prog 18 #[.pointer (some ⟨g, 0, none⟩), .int .i64 m] w fun x w' => x = .returned (.int .i64 (valL ((zs.drop p).take m))) ∧ Rd w' g A n c ((p + m : Nat) : Int) none ∧ w.grownBy w' (some g) := by
  have hA : A = none → c = 0 := by
    intro e
    obtain ⟨ad, e', _⟩ := hr.2 (by omega)
    rw [e] at e'; cases e'
  have hb : ∀ w' : World, w.grownBy w' (some g) → Reads w' B 1 A n (zs.map (Value.int .u8)) := fun w' hg' => hr.keep fun q hq => by
    by_cases hlt : q.block < w.heap.size
    · exact World.cell?_of_block (hg'.block q.block hlt (fun e => by injection e with e; omega))
    · exact absurd (Nat.lt_of_lt_of_le hq (Nat.le_trans hg (Nat.le_of_lt h.lt))) hlt
  have i1 : (1 : Int) ≤ (m : Int) := by omega
  have i2 : (m : Int) ≤ 4 := by omega
  go_enter Try.func18, Try.ntmps18
  go_wp2_with fail
  refine (next_ok h hk hc hn hA).mono ?_
  rintro e w1 ⟨rfl, h1, hg1⟩
  have hw := reads_win (p := p) (k := m) (hb w1 hg1) hk hc
  generalize (if c = p then A else A.map (·.add p)) = A' at *
  go_wp2_with fail
  refine (number_any w1 B m (c - p) A' _ hw (isU8_win hz p m) hm4).mono ?_
  rintro e w2 ⟨rfl, rfl⟩
  go_wp2
  go_ret
  exact ⟨rfl, h1, hg1⟩
theorem number_nil (w : World) :
    Calls Try.prog 42 #[.slice none 0 0] w fun e w' => e = .returned (.int .i64 0) ∧ w = w' :=
  number_any w 0 0 0 none [] Reads.none_ (fun z hz => by simp at hz) (by omega)
theorem number_short {w : World} {g n c p m : Nat} {A : Option Addr} (h : Rd w g A n c p none) (hm : 1 ≤ m) (hm4 : m ≤ 4) (hp : p ≤ n) (hk : n < p + m) (hn : n ≤ 9223372036854775807) :
    Calls Try.prog 18 #[.pointer (some ⟨g, 0, none⟩), .int .i64 m] w fun x w' => x = .returned (.int .i64 0) ∧ Rd w' g A n c p (some ⟨w.heap.size, 0, none⟩) ∧ Ft w' w.heap.size 2 p ∧ w.grownBy w' (some g) := by
  have i1 : (1 : Int) ≤ (m : Int) := by omega
  have i2 : (m : Int) ≤ 4 := by omega
  go_enter Try.func18, Try.ntmps18
  go_wp2_with fail
  refine (next_short (k := (m : Int)) h hp hn (by omega)).mono ?_
  rintro e w1 ⟨rfl, h1, h2, hg1⟩
  go_wp2_with fail
  refine (number_nil w1).mono ?_
  rintro e w2 ⟨rfl, rfl⟩
  go_wp2
  go_ret
  exact ⟨rfl, h1, h2, hg1⟩
theorem number_bad {w : World} {g n c m : Nat} {p : Int} {A : Option Addr} {ad : Addr} (h : Rd w g A n c p (some ad)) (hm : 1 ≤ m) (hm4 : m ≤ 4) :
    Calls Try.prog 18 #[.pointer (some ⟨g, 0, none⟩), .int .i64 m] w fun x w' => x = .returned (.int .i64 0) ∧ w = w' := by
  have i1 : (1 : Int) ≤ (m : Int) := by omega
  have i2 : (m : Int) ≤ 4 := by omega
  go_enter Try.func18, Try.ntmps18
  go_wp2_with fail
  refine (next_bad h m).mono ?_
  rintro e w1 ⟨rfl, rfl⟩
  go_wp2_with fail
  refine (number_nil w).mono ?_
  rintro e w2 ⟨rfl, rfl⟩
  go_wp2
  go_ret
  exact ⟨rfl, rfl⟩

theorem end_bad {w : World} {g n c : Nat} {p : Int} {A : Option Addr} {ad : Addr} (h : Rd w g A n c p (some ad)) :
    Calls Try.prog 19 #[.pointer (some ⟨g, 0, none⟩)] w fun x w' => x = .returned (.iface 48 (.pointer (some ad))) ∧ w = w' := by
  have c2 := h.c2
  go_enter Try.func19, Try.ntmps19
  go_wp2
  go_ret
  exact ⟨rfl, rfl⟩
theorem end_ok {w : World} {g n c : Nat} {A : Option Addr} (h : Rd w g A n c n none) :
    Calls Try.prog 19 #[.pointer (some ⟨g, 0, none⟩)] w fun x w' => x = .returned .nilIface ∧ ∃ q, w' = w.drewN q := by
  have c0 := h.c0
  have c1 := h.c1
  have c2 := h.c2
  go_enter Try.func19, Try.ntmps19
  go_wp2
  go_quiet (fail)
  go_wp2
  go_ret
  exact ⟨rfl, _, rfl⟩
theorem why_nil (w : World) :
    Calls Try.prog 22 #[.nilIface] w fun x w' => x = .returned (.tuple #[.int .i64 0, .int .i64 0]) ∧ w = w' := by
  go_enter Try.func22, Try.ntmps22
  go_wp2
  go_ret2
  exact ⟨rfl, rfl⟩
theorem why_ft {w : World} {h : Nat} {e p : Int} (hF : Ft w h e p) :
    Calls Try.prog 22 #[.iface 48 (.pointer (some ⟨h, 0, none⟩))] w fun x w' => x = .returned (.tuple #[.int .i64 e, .int .i64 p]) ∧ ∃ q, w' = w.drewN q := by
  have c0 : w.cell? ⟨h, 0, none⟩ = some (.int .i64 e) := (Blk.cell hF 0).trans rfl
  have c1 : w.cell? ⟨h, 1, none⟩ = some (.int .i64 p) := (Blk.cell hF 1).trans rfl
  have ta : (Instr.typeAssert (.iface 48 (.pointer (some ⟨h, 0, none⟩))) 33 48 true).run Try.prog w = .ok (.tuple #[.pointer (some ⟨h, 0, none⟩), .bool true]) w := by kernel_rfl
  go_enter Try.func22, Try.ntmps22
  go_wp2
  go_quiet (fail)
  go_wp2
  go_ret2
  exact ⟨rfl, _, rfl⟩

end Go.Proofs.Ytpfojhmaeaeecaa
