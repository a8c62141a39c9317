/- Contracts of the document's reader by value (layer 17), and its blocks (layer 18). -/
import Derived.Test.YtpfojhmaeaeecaaLawTapL
import Derived.Test.YtpfojhmaeaeecaaPieces
import Derived.Laws.Rows
import Derived.Laws.ResultCell
import Derived.BigRegion
import Derived.BigQuiet
namespace Go.Proofs.Ytpfojhmaeaeecaa
open Go.RowKit

theorem results_cell_tmp' {P : Program} {fn : Func} {p u : Tmp} {ty : TypeId} (h : fn.results = #[.cell p ty, .tmp u]) (tmps : Array Value) (w : World) (g : Nat) (t : TypeId) (cs : Array Value) (fr : Nat × Nat) (d : TypeDesc)
    (hp : tmps.getD p undef = .pointer (some ⟨g, 0, none⟩)) (hg : w.heap[g]? = some (.cells cs t fr))
    (hu : P.underlying ty = some d) (hd : (match d with | .struct _ | .array _ _ => true | _ => false) = true) (hi : (P.info? ty).map (·.size) = some cs.size) :
    (results fn tmps).run P w = .ok (.tuple #[.agg cs, tmps.getD u undef]) w := by
  rw [results_cell_tmp h, hp]
  simp [asAddr, Result.andThen, run_loadVar_row w g t ty cs fr d hg hu hd hi]

/-- the document's reader: bytes, a place, a fault's class and its place -/
def drA (A : Option Addr) (n c : Nat) (p e f : Int) : Array Value := #[.slice A n c, .int .i64 p, .int .i64 e, .int .i64 f]
theorem drInfo : (Try.prog.info? 82).map (·.size) = some 4 := by kernel_rfl
theorem blk4_set {w : World} {g : Nat} {t : TypeId} {a b c d : Value} (h : Blk w g t #[a, b, c, d]) (a' b' c' d' : Value) :
    Blk ((((w.setCell ⟨g, 0, none⟩ a').setCell ⟨g, 1, none⟩ b').setCell ⟨g, 2, none⟩ c').setCell ⟨g, 3, none⟩ d') g t #[a', b', c', d'] := (((h.set_ 0 a').set_ 1 b').set_ 2 c').set_ 3 d'
theorem below4_set {w w' : World} {B g : Nat} (h : Below B w w') (hg : B ≤ g) (a' b' c' d' : Value) :
    Below B w ((((w'.setCell ⟨g, 0, none⟩ a').setCell ⟨g, 1, none⟩ b').setCell ⟨g, 2, none⟩ c').setCell ⟨g, 3, none⟩ d') := (((h.setCell (p := ⟨g, 0, none⟩) hg _).setCell (p := ⟨g, 1, none⟩) hg _).setCell (p := ⟨g, 2, none⟩) hg _).setCell (p := ⟨g, 3, none⟩) hg _
section
variable {w : World} {n c : Nat} {A : Option Addr} {p e f : Int}
theorem leftR_ok (w : World) (A : Option Addr) (n c p : Nat) (f : Int) (hp : p ≤ n) (hn : n ≤ 2000000) :
    Calls Try.prog 44 #[.agg #[.slice A n c, .int .i64 p, .int .i64 0, .int .i64 f]] w fun x w' => x = .returned (.int .i64 ((n : Int) - p)) ∧ Below w.heap.size w w' := by
  have hb : Below w.heap.size w (w.alloc (.cells #[.slice A n c, .int .i64 p, .int .i64 0, .int .i64 f] 82)) := (Below.refl _ _).alloc (Nat.le_refl _) _
  go_enter Try.func44, Try.ntmps44
  go_wp2
  go_ret
  exact ⟨rfl, hb⟩
theorem leftR_bad (w : World) (A : Option Addr) (n c : Nat) (p e f : Int) (he : (e == 0) = false) :
    Calls Try.prog 44 #[.agg #[.slice A n c, .int .i64 p, .int .i64 e, .int .i64 f]] w fun x w' => x = .returned (.int .i64 0) ∧ Below w.heap.size w w' := by
  have hb : Below w.heap.size w (w.alloc (.cells #[.slice A n c, .int .i64 p, .int .i64 e, .int .i64 f] 82)) := (Below.refl _ _).alloc (Nat.le_refl _) _
  go_enter Try.func44, Try.ntmps44
  go_wp2
  go_ret
  exact ⟨rfl, hb⟩
theorem failR_new (w : World) (A : Option Addr) (n c : Nat) (p f e q : Int) (he : (e == 0) = false) :
    Calls Try.prog 45 #[.agg #[.slice A n c, .int .i64 p, .int .i64 0, .int .i64 f], .int .i64 e, .int .i64 q] w fun x w' => x = .returned (.agg #[.slice A n c, .int .i64 p, .int .i64 e, .int .i64 q]) ∧ Below w.heap.size w w' := by
  have hb : Below w.heap.size w ((w.alloc (.cells #[.slice A n c, .int .i64 p, .int .i64 e, .int .i64 q] 82)).alloc (.cells #[.slice A n c, .int .i64 p, .int .i64 e, .int .i64 q] 82)) := ((Below.refl _ _).alloc (Nat.le_refl _) _).alloc (by simp) _
  go_enter Try.func45, Try.ntmps45
  go_wp2
  refine bodyPost_ret (results_cell_row rfl _ _ (w.heap.size + 1) 82 #[.slice A n c, .int .i64 p, .int .i64 e, .int .i64 q] (0, 0) _ rfl (by have := heap_alloc_new (w.alloc (.cells #[.slice A n c, .int .i64 p, .int .i64 e, .int .i64 q] 82)) (.cells #[.slice A n c, .int .i64 p, .int .i64 e, .int .i64 q] 82); simpa using this) Try.underlying82 rfl drInfo) rfl ⟨rfl, hb⟩
theorem failR_bad (w : World) (A : Option Addr) (n c : Nat) (p e f e' q : Int) (he : (e == 0) = false) :
    Calls Try.prog 45 #[.agg #[.slice A n c, .int .i64 p, .int .i64 e, .int .i64 f], .int .i64 e', .int .i64 q] w fun x w' => x = .returned (.agg #[.slice A n c, .int .i64 p, .int .i64 e, .int .i64 f]) ∧ Below w.heap.size w w' := by
  have hb : Below w.heap.size w ((w.alloc (.cells #[.slice A n c, .int .i64 p, .int .i64 e, .int .i64 f] 82)).alloc (.cells #[.slice A n c, .int .i64 p, .int .i64 e, .int .i64 f] 82)) := ((Below.refl _ _).alloc (Nat.le_refl _) _).alloc (by simp) _
  go_enter Try.func45, Try.ntmps45
  go_wp2
  refine bodyPost_ret (results_cell_row rfl _ _ (w.heap.size + 1) 82 #[.slice A n c, .int .i64 p, .int .i64 e, .int .i64 f] (0, 0) _ rfl (by have := heap_alloc_new (w.alloc (.cells #[.slice A n c, .int .i64 p, .int .i64 e, .int .i64 f] 82)) (.cells #[.slice A n c, .int .i64 p, .int .i64 e, .int .i64 f] 82); simpa using this) Try.underlying82 rfl drInfo) rfl ⟨rfl, hb⟩
theorem endR_ok (w : World) (A : Option Addr) (n c : Nat) (f : Int) :
    Calls Try.prog 48 #[.agg #[.slice A n c, .int .i64 n, .int .i64 0, .int .i64 f]] w fun x w' => x = .returned (.tuple #[.int .i64 0, .int .i64 f]) ∧ Below w.heap.size w w' := by
  have hb : Below w.heap.size w (w.alloc (.cells #[.slice A n c, .int .i64 n, .int .i64 0, .int .i64 f] 82)) := (Below.refl _ _).alloc (Nat.le_refl _) _
  go_enter Try.func48, Try.ntmps48
  go_wp2
  go_quiet (fail)
  go_wp2
  go_ret2
  exact ⟨rfl, below_drewN hb nq⟩
theorem endR_bad (w : World) (A : Option Addr) (n c : Nat) (p e f : Int) (he : (e == 0) = false) :
    Calls Try.prog 48 #[.agg #[.slice A n c, .int .i64 p, .int .i64 e, .int .i64 f]] w fun x w' => x = .returned (.tuple #[.int .i64 e, .int .i64 f]) ∧ Below w.heap.size w w' := by
  have hb : Below w.heap.size w (w.alloc (.cells #[.slice A n c, .int .i64 p, .int .i64 e, .int .i64 f] 82)) := (Below.refl _ _).alloc (Nat.le_refl _) _
  go_enter Try.func48, Try.ntmps48
  go_wp2
  go_quiet (fail)
  go_wp2
  go_ret2
  exact ⟨rfl, below_drewN hb nq⟩
theorem takeR_bad (w : World) (A : Option Addr) (n c : Nat) (p e f k : Int) (he : (e == 0) = false) (hk : 0 ≤ k) :
    Calls Try.prog 47 #[(.agg #[.slice A n c, .int .i64 p, .int .i64 e, .int .i64 f]), .int .i64 k] w fun x w' => x = .returned (.tuple #[(.agg #[.slice A n c, .int .i64 p, .int .i64 e, .int .i64 f]), .slice none 0 0]) ∧ Below w.heap.size w w' := by
  have hne : e ≠ 0 := by simpa using he
  have hb0 : Below w.heap.size w ((w.alloc (.cells #[.slice A n c, .int .i64 p, .int .i64 e, .int .i64 f] 82)).alloc (.cells #[.slice none 0 0, .int .i64 0, .int .i64 0, .int .i64 0] 82)) := ((Below.refl _ _).alloc (Nat.le_refl _) _).alloc (by simp) _
  have hB0 : Blk ((w.alloc (.cells #[.slice A n c, .int .i64 p, .int .i64 e, .int .i64 f] 82)).alloc (.cells #[.slice none 0 0, .int .i64 0, .int .i64 0, .int .i64 0] 82)) (w.heap.size + 1) 82 #[.slice none 0 0, .int .i64 0, .int .i64 0, .int .i64 0] := by
    have := Blk.new (w.alloc (.cells #[.slice A n c, .int .i64 p, .int .i64 e, .int .i64 f] 82)) 82 #[.slice none 0 0, .int .i64 0, .int .i64 0, .int .i64 0]
    simpa using this
  have hP0 : Blk ((w.alloc (.cells #[.slice A n c, .int .i64 p, .int .i64 e, .int .i64 f] 82)).alloc (.cells #[.slice none 0 0, .int .i64 0, .int .i64 0, .int .i64 0] 82)) w.heap.size 82 #[.slice A n c, .int .i64 p, .int .i64 e, .int .i64 f] := Blk.alloc (Blk.new w _ _) _
  go_enter Try.func47, Try.ntmps47
  go_wp2_with fail
  generalize (w.alloc (.cells #[.slice A n c, .int .i64 p, .int .i64 e, .int .i64 f] 82)).alloc (.cells #[.slice none 0 0, .int .i64 0, .int .i64 0, .int .i64 0] 82) = W at *
  refine (failR_bad W A n c p e f 2 p he).mono ?_
  rintro x w1 ⟨rfl, hb1⟩
  have hB1 := hB0.below hb1 hB0.lt
  have hP1 := hP0.below hb1 hP0.lt
  have hbl := bthen hb0 hb1
  have c0 : w1.cell? ⟨w.heap.size + 1, 0, none⟩ = some (.slice none 0 0) := (hB1.cell 0).trans rfl
  have c1 : w1.cell? ⟨w.heap.size + 1, 1, none⟩ = some (.int .i64 0) := (hB1.cell 1).trans rfl
  have c2 : w1.cell? ⟨w.heap.size + 1, 2, none⟩ = some (.int .i64 0) := (hB1.cell 2).trans rfl
  have c3 : w1.cell? ⟨w.heap.size + 1, 3, none⟩ = some (.int .i64 0) := (hB1.cell 3).trans rfl
  have f0 := hB1.frozen 0
  have f1 := hB1.frozen 1
  have f2 := hB1.frozen 2
  have f3 := hB1.frozen 3
  have p0 : w1.cell? ⟨w.heap.size, 0, none⟩ = some (.slice A n c) := (hP1.cell 0).trans rfl
  have p1 : w1.cell? ⟨w.heap.size, 1, none⟩ = some (.int .i64 p) := (hP1.cell 1).trans rfl
  have p2 : w1.cell? ⟨w.heap.size, 2, none⟩ = some (.int .i64 e) := (hP1.cell 2).trans rfl
  have p3 : w1.cell? ⟨w.heap.size, 3, none⟩ = some (.int .i64 f) := (hP1.cell 3).trans rfl
  clear hB0 hb0 hP0
  go_wp2
  refine bodyPost_ret (results_cell_tmp' rfl _ _ (w.heap.size + 1) 82 #[.slice A n c, .int .i64 p, .int .i64 e, .int .i64 f] (0, 0) _ rfl (blk4_set hB1 _ _ _ _) Try.underlying82 rfl drInfo) rfl ⟨rfl, below4_set hbl (Nat.le_succ _) _ _ _ _⟩
theorem takeR_short (w : World) (A : Option Addr) (n c p : Nat) (f k : Int) (hp : p ≤ n) (hn : n ≤ 2000000) (hk : (n : Int) - p < k) (hk0 : 0 ≤ k) :
    Calls Try.prog 47 #[(.agg #[.slice A n c, .int .i64 p, .int .i64 0, .int .i64 f]), .int .i64 k] w fun x w' => x = .returned (.tuple #[(.agg #[.slice A n c, .int .i64 p, .int .i64 2, .int .i64 p]), .slice none 0 0]) ∧ Below w.heap.size w w' := by
  have hb0 : Below w.heap.size w ((w.alloc (.cells #[.slice A n c, .int .i64 p, .int .i64 0, .int .i64 f] 82)).alloc (.cells #[.slice none 0 0, .int .i64 0, .int .i64 0, .int .i64 0] 82)) := ((Below.refl _ _).alloc (Nat.le_refl _) _).alloc (by simp) _
  have hB0 : Blk ((w.alloc (.cells #[.slice A n c, .int .i64 p, .int .i64 0, .int .i64 f] 82)).alloc (.cells #[.slice none 0 0, .int .i64 0, .int .i64 0, .int .i64 0] 82)) (w.heap.size + 1) 82 #[.slice none 0 0, .int .i64 0, .int .i64 0, .int .i64 0] := by
    have := Blk.new (w.alloc (.cells #[.slice A n c, .int .i64 p, .int .i64 0, .int .i64 f] 82)) 82 #[.slice none 0 0, .int .i64 0, .int .i64 0, .int .i64 0]
    simpa using this
  have hP0 : Blk ((w.alloc (.cells #[.slice A n c, .int .i64 p, .int .i64 0, .int .i64 f] 82)).alloc (.cells #[.slice none 0 0, .int .i64 0, .int .i64 0, .int .i64 0] 82)) w.heap.size 82 #[.slice A n c, .int .i64 p, .int .i64 0, .int .i64 f] := Blk.alloc (Blk.new w _ _) _
  go_enter Try.func47, Try.ntmps47
  go_wp2_with fail
  generalize (w.alloc (.cells #[.slice A n c, .int .i64 p, .int .i64 0, .int .i64 f] 82)).alloc (.cells #[.slice none 0 0, .int .i64 0, .int .i64 0, .int .i64 0] 82) = W at *
  refine (leftR_ok W A n c p f hp hn).mono ?_
  rintro x w1 ⟨rfl, hb1⟩
  have hB1 := hB0.below hb1 hB0.lt
  have hP1 := hP0.below hb1 hP0.lt
  have hbl := bthen hb0 hb1
  clear hB0 hb0 hP0 hb1
  have c0 : w1.cell? ⟨w.heap.size + 1, 0, none⟩ = some (.slice none 0 0) := (hB1.cell 0).trans rfl
  have c1 : w1.cell? ⟨w.heap.size + 1, 1, none⟩ = some (.int .i64 0) := (hB1.cell 1).trans rfl
  have c2 : w1.cell? ⟨w.heap.size + 1, 2, none⟩ = some (.int .i64 0) := (hB1.cell 2).trans rfl
  have c3 : w1.cell? ⟨w.heap.size + 1, 3, none⟩ = some (.int .i64 0) := (hB1.cell 3).trans rfl
  have f0 := hB1.frozen 0
  have f1 := hB1.frozen 1
  have f2 := hB1.frozen 2
  have f3 := hB1.frozen 3
  have p0 : w1.cell? ⟨w.heap.size, 0, none⟩ = some (.slice A n c) := (hP1.cell 0).trans rfl
  have p1 : w1.cell? ⟨w.heap.size, 1, none⟩ = some (.int .i64 p) := (hP1.cell 1).trans rfl
  have p2 : w1.cell? ⟨w.heap.size, 2, none⟩ = some (.int .i64 0) := (hP1.cell 2).trans rfl
  have p3 : w1.cell? ⟨w.heap.size, 3, none⟩ = some (.int .i64 f) := (hP1.cell 3).trans rfl
  go_wp2_with fail
  refine (failR_new w1 A n c p f 2 p (by decide)).mono ?_
  rintro x w2 ⟨rfl, hb1⟩
  have hB2 := hB1.below hb1 hB1.lt
  have hP2 := hP1.below hb1 hP1.lt
  have hbl2 := bthen hbl hb1
  clear c0 c1 c2 c3 f0 f1 f2 f3 p0 p1 p2 p3
  clear hB1 hP1 hbl hb1
  have hB1 := hB2
  have hP1 := hP2
  have c0 : w2.cell? ⟨w.heap.size + 1, 0, none⟩ = some (.slice none 0 0) := (hB1.cell 0).trans rfl
  have c1 : w2.cell? ⟨w.heap.size + 1, 1, none⟩ = some (.int .i64 0) := (hB1.cell 1).trans rfl
  have c2 : w2.cell? ⟨w.heap.size + 1, 2, none⟩ = some (.int .i64 0) := (hB1.cell 2).trans rfl
  have c3 : w2.cell? ⟨w.heap.size + 1, 3, none⟩ = some (.int .i64 0) := (hB1.cell 3).trans rfl
  have f0 := hB1.frozen 0
  have f1 := hB1.frozen 1
  have f2 := hB1.frozen 2
  have f3 := hB1.frozen 3
  have p0 : w2.cell? ⟨w.heap.size, 0, none⟩ = some (.slice A n c) := (hP1.cell 0).trans rfl
  have p1 : w2.cell? ⟨w.heap.size, 1, none⟩ = some (.int .i64 p) := (hP1.cell 1).trans rfl
  have p2 : w2.cell? ⟨w.heap.size, 2, none⟩ = some (.int .i64 0) := (hP1.cell 2).trans rfl
  have p3 : w2.cell? ⟨w.heap.size, 3, none⟩ = some (.int .i64 f) := (hP1.cell 3).trans rfl
  go_wp2
  refine bodyPost_ret (results_cell_tmp' rfl _ _ (w.heap.size + 1) 82 #[.slice A n c, .int .i64 p, .int .i64 2, .int .i64 p] (0, 0) _ rfl (blk4_set hB2 _ _ _ _) Try.underlying82 rfl drInfo) rfl ⟨rfl, below4_set hbl2 (Nat.le_succ _) _ _ _ _⟩
theorem takeR_ok (w : World) (A : Option Addr) (n c p k : Nat) (f : Int) (hk : p + k ≤ n) (hn : n ≤ 2000000) (hc : n ≤ c) (hcn : c ≤ 9223372036854775807) (hA : A = none → c = 0) :
    Calls Try.prog 47 #[(.agg #[.slice A n c, .int .i64 p, .int .i64 0, .int .i64 f]), .int .i64 k] w fun x w' => x = .returned (.tuple #[(.agg #[.slice A n c, .int .i64 ((p + k : Nat) : Int), .int .i64 0, .int .i64 f]), .slice (if c = p then A else A.map (·.add p)) k (c - p)]) ∧ Below w.heap.size w w' := by
  have hwr : IntKind.i64.wrap ((p : Int) + (k : Int)) = (p : Int) + (k : Int) := by rw [IntKind.wrap_i64]; omega
  have hI : ¬ (n : Int) - (p : Int) < (k : Int) := by omega
  have k0 : (0 : Int) ≤ (k : Int) := by omega
  have hb0 : Below w.heap.size w ((w.alloc (.cells #[.slice A n c, .int .i64 p, .int .i64 0, .int .i64 f] 82)).alloc (.cells #[.slice none 0 0, .int .i64 0, .int .i64 0, .int .i64 0] 82)) := ((Below.refl _ _).alloc (Nat.le_refl _) _).alloc (by simp) _
  have hB0 : Blk ((w.alloc (.cells #[.slice A n c, .int .i64 p, .int .i64 0, .int .i64 f] 82)).alloc (.cells #[.slice none 0 0, .int .i64 0, .int .i64 0, .int .i64 0] 82)) (w.heap.size + 1) 82 #[.slice none 0 0, .int .i64 0, .int .i64 0, .int .i64 0] := by
    have := Blk.new (w.alloc (.cells #[.slice A n c, .int .i64 p, .int .i64 0, .int .i64 f] 82)) 82 #[.slice none 0 0, .int .i64 0, .int .i64 0, .int .i64 0]
    simpa using this
  have hP0 : Blk ((w.alloc (.cells #[.slice A n c, .int .i64 p, .int .i64 0, .int .i64 f] 82)).alloc (.cells #[.slice none 0 0, .int .i64 0, .int .i64 0, .int .i64 0] 82)) w.heap.size 82 #[.slice A n c, .int .i64 p, .int .i64 0, .int .i64 f] := Blk.alloc (Blk.new w _ _) _
  go_enter Try.func47, Try.ntmps47
  go_wp2_with fail
  generalize (w.alloc (.cells #[.slice A n c, .int .i64 p, .int .i64 0, .int .i64 f] 82)).alloc (.cells #[.slice none 0 0, .int .i64 0, .int .i64 0, .int .i64 0] 82) = W at *
  refine (leftR_ok W A n c p f (by omega) hn).mono ?_
  rintro x w1 ⟨rfl, hb1⟩
  have hB1 := hB0.below hb1 hB0.lt
  have hP1 := hP0.below hb1 hP0.lt
  have hbl := bthen hb0 hb1
  clear hB0 hb0 hP0 hb1
  have g1 := hP1.frozen 1
  have c0 : w1.cell? ⟨w.heap.size + 1, 0, none⟩ = some (.slice none 0 0) := (hB1.cell 0).trans rfl
  have c1 : w1.cell? ⟨w.heap.size + 1, 1, none⟩ = some (.int .i64 0) := (hB1.cell 1).trans rfl
  have c2 : w1.cell? ⟨w.heap.size + 1, 2, none⟩ = some (.int .i64 0) := (hB1.cell 2).trans rfl
  have c3 : w1.cell? ⟨w.heap.size + 1, 3, none⟩ = some (.int .i64 0) := (hB1.cell 3).trans rfl
  have f0 := hB1.frozen 0
  have f1 := hB1.frozen 1
  have f2 := hB1.frozen 2
  have f3 := hB1.frozen 3
  have p0 : w1.cell? ⟨w.heap.size, 0, none⟩ = some (.slice A n c) := (hP1.cell 0).trans rfl
  have p1 : w1.cell? ⟨w.heap.size, 1, none⟩ = some (.int .i64 p) := (hP1.cell 1).trans rfl
  have p2 : w1.cell? ⟨w.heap.size, 2, none⟩ = some (.int .i64 0) := (hP1.cell 2).trans rfl
  have p3 : w1.cell? ⟨w.heap.size, 3, none⟩ = some (.int .i64 f) := (hP1.cell 3).trans rfl
  have hP2 := hP1.set_ 1 (.int .i64 ((p : Int) + (k : Int)))
  have hB2 : Blk (w1.setCell ⟨w.heap.size, 1, none⟩ (.int .i64 ((p : Int) + (k : Int)))) (w.heap.size + 1) 82 #[.slice none 0 0, .int .i64 0, .int .i64 0, .int .i64 0] := hB1.far (p := ⟨w.heap.size, 1, none⟩) (by simp) _
  have hbl2 : Below w.heap.size w (w1.setCell ⟨w.heap.size, 1, none⟩ (.int .i64 ((p : Int) + (k : Int)))) := hbl.setCell (p := ⟨w.heap.size, 1, none⟩) (Nat.le_refl _) _
  go_wp2
  generalize w1.setCell ⟨w.heap.size, 1, none⟩ (.int .i64 ((p : Int) + (k : Int))) = w2 at *
  clear c0 c1 c2 c3 f0 f1 f2 f3 p0 p1 p2 p3
  clear hB1 hP1 hbl g1
  have hB1 := hB2
  have hP1 : Blk w2 w.heap.size 82 #[.slice A n c, .int .i64 ((p : Int) + (k : Int)), .int .i64 0, .int .i64 f] := hP2
  have c0 : w2.cell? ⟨w.heap.size + 1, 0, none⟩ = some (.slice none 0 0) := (hB1.cell 0).trans rfl
  have c1 : w2.cell? ⟨w.heap.size + 1, 1, none⟩ = some (.int .i64 0) := (hB1.cell 1).trans rfl
  have c2 : w2.cell? ⟨w.heap.size + 1, 2, none⟩ = some (.int .i64 0) := (hB1.cell 2).trans rfl
  have c3 : w2.cell? ⟨w.heap.size + 1, 3, none⟩ = some (.int .i64 0) := (hB1.cell 3).trans rfl
  have f0 := hB1.frozen 0
  have f1 := hB1.frozen 1
  have f2 := hB1.frozen 2
  have f3 := hB1.frozen 3
  have p0 : w2.cell? ⟨w.heap.size, 0, none⟩ = some (.slice A n c) := (hP1.cell 0).trans rfl
  have p1 : w2.cell? ⟨w.heap.size, 1, none⟩ = some (.int .i64 ((p : Int) + (k : Int))) := (hP1.cell 1).trans rfl
  have p2 : w2.cell? ⟨w.heap.size, 2, none⟩ = some (.int .i64 0) := (hP1.cell 2).trans rfl
  have p3 : w2.cell? ⟨w.heap.size, 3, none⟩ = some (.int .i64 f) := (hP1.cell 3).trans rfl
  by_cases hcp : c = p
  · obtain rfl := hcp
    go_region
    go_wp2
    refine bodyPost_ret (results_cell_tmp' rfl _ _ (w.heap.size + 1) 82 _ (0, 0) _ rfl (Blk.drew (blk4_set hB2 _ _ _ _)) Try.underlying82 rfl drInfo) rfl ⟨?_, (below4_set hbl2 (Nat.le_succ _) _ _ _ _).drew⟩
    simp
  · go_region
    go_wp2
    refine bodyPost_ret (results_cell_tmp' rfl _ _ (w.heap.size + 1) 82 _ (0, 0) _ rfl (Blk.drew (blk4_set hB2 _ _ _ _)) Try.underlying82 rfl drInfo) rfl ⟨?_, (below4_set hbl2 (Nat.le_succ _) _ _ _ _).drew⟩
    simp

theorem valueR_any (w : World) (B k c : Nat) (A : Option Addr) (zs : List Int) (hr : Reads w B 1 A k (zs.map (Value.int .u8))) (hz : isU8 zs) (hk : k ≤ 4) :
    Calls Try.prog 52 #[.slice A k c] w fun e w' => e = .returned (.int .i64 (valL zs)) ∧ w = w' := by
  have HL := Lib.hid (reads_len hr)
  go_enter Try.func52, Try.ntmps52
  go_wp2
  go_loop [3, 4, 5] (fun v q x => ∃ i : Nat, i ≤ k ∧ x = .int .i64 i ∧ v = .int .i64 (valL (zs.take i)) ∧ q = .int .i64 (256 ^ i)) (fun _ _ x => k - (intOf x).toNat)
  case atStart => exact ⟨0, by omega, rfl, rfl, rfl⟩
  case round =>
    obtain ⟨i, hi, rfl, rfl, rfl⟩ := hrel
    by_cases hlt : i < k
    · obtain ⟨ad, rfl, hab, hcl⟩ := u8_at hr hlt
      have hv := valL_app (zs.take i) (zs.getD i 0)
      have hzi := isU8_at hz (k := i) (by rw [HL.out]; exact hlt)
      have hin := valL_in (l := zs.take i) (fun z h => hz z (List.mem_of_mem_take h))
      rw [← take_snocI zs i (by rw [HL.out]; exact hlt)] at hv
      have hl : (zs.take i).length = i := by rw [List.length_take, HL.out]; omega
      rw [hl] at hv hin
      generalize valL (zs.take i) = V at *
      generalize zs.getD i 0 = z at *
      have HV := Lib.hid hv
      clear hv
      rcases (show i = 0 ∨ i = 1 ∨ i = 2 ∨ i = 3 by omega) with rfl | rfl | rfl | rfl
      · simp only [show ((256 : Int) ^ 0) = 1 from rfl] at HV hin ⊢
        rw [add_zero_] at hcl
        go_wp2
        go_round
        case rel => exact ⟨0 + 1, by omega, rfl, by rw [HV.out]; congr 1; omega, by first | rfl | (congr 1)⟩
        case measure => first | (simp [intOf]; done) | (simp [intOf]; omega)
      · simp only [show ((256 : Int) ^ 1) = 256 from rfl] at HV hin ⊢
        rw [add_lit ad 1 (by decide)] at hcl
        go_wp2
        go_round
        case rel => exact ⟨1 + 1, by omega, rfl, by rw [HV.out]; congr 1; omega, by first | rfl | (congr 1)⟩
        case measure => first | (simp [intOf]; done) | (simp [intOf]; omega)
      · simp only [show ((256 : Int) ^ 2) = 65536 from rfl] at HV hin ⊢
        rw [add_lit ad 2 (by decide)] at hcl
        go_wp2
        go_round
        case rel => exact ⟨2 + 1, by omega, rfl, by rw [HV.out]; congr 1; omega, by first | rfl | (congr 1)⟩
        case measure => first | (simp [intOf]; done) | (simp [intOf]; omega)
      · simp only [show ((256 : Int) ^ 3) = 16777216 from rfl] at HV hin ⊢
        rw [add_lit ad 3 (by decide)] at hcl
        go_wp2
        go_round
        case rel => exact ⟨3 + 1, by omega, rfl, by rw [HV.out]; congr 1; omega, by first | rfl | (congr 1)⟩
        case measure => first | (simp [intOf]; done) | (simp [intOf]; omega)
    · obtain rfl : i = k := by omega
      have hk2 : zs.take i = zs := by have := HL.out; rw [List.take_of_length_le (by omega)]
      have HK := Lib.hid hk2
      clear hk2
      go_wp2
      go_ret
      exact ⟨by rw [HK.out]; rfl, rfl⟩
end
end Go.Proofs.Ytpfojhmaeaeecaa
