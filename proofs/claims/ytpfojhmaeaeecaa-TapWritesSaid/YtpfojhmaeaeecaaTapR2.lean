/- Contracts of the document's numbers by value (layer 17), and its blocks (layer 18). -/
import Derived.Test.YtpfojhmaeaeecaaTapR
namespace Go.Proofs.Ytpfojhmaeaeecaa
open Go.RowKit

set_option maxHeartbeats 1000000
theorem cell_heap {w w' : World} (h : w'.heap = w.heap) (q : Addr) : w'.cell? q = w.cell? q := by unfold World.cell?; rw [h]
section
theorem numberR_bad (w : World) (A : Option Addr) (n c : Nat) (p e f : Int) (he : (e == 0) = false) :
    Calls Try.prog 46 #[(.agg #[.slice A n c, .int .i64 p, .int .i64 e, .int .i64 f]), .int .i64 2] w fun x w' => x = .returned (.tuple #[(.agg #[.slice A n c, .int .i64 p, .int .i64 e, .int .i64 f]), .int .i64 0]) ∧ Below w.heap.size w w' := by
  have hne : e ≠ 0 := by simpa using he
  have hb0 : Below w.heap.size w ((w.alloc (.cells #[.slice A n c, .int .i64 p, .int .i64 e, .int .i64 f] 82)).alloc (.cells #[.slice none 0 0, .int .i64 0, .int .i64 0, .int .i64 0] 82)) := ((Below.refl _ _).alloc (Nat.le_refl _) _).alloc (by simp) _
  have hB0 : Blk ((w.alloc (.cells #[.slice A n c, .int .i64 p, .int .i64 e, .int .i64 f] 82)).alloc (.cells #[.slice none 0 0, .int .i64 0, .int .i64 0, .int .i64 0] 82)) (w.heap.size + 1) 82 #[.slice none 0 0, .int .i64 0, .int .i64 0, .int .i64 0] := by
    have := Blk.new (w.alloc (.cells #[.slice A n c, .int .i64 p, .int .i64 e, .int .i64 f] 82)) 82 #[.slice none 0 0, .int .i64 0, .int .i64 0, .int .i64 0]
    simpa using this
  have hP0 : Blk ((w.alloc (.cells #[.slice A n c, .int .i64 p, .int .i64 e, .int .i64 f] 82)).alloc (.cells #[.slice none 0 0, .int .i64 0, .int .i64 0, .int .i64 0] 82)) w.heap.size 82 #[.slice A n c, .int .i64 p, .int .i64 e, .int .i64 f] := Blk.alloc (Blk.new w _ _) _
  go_enter Try.func46, Try.ntmps46
  go_wp2_with fail
  generalize (w.alloc (.cells #[.slice A n c, .int .i64 p, .int .i64 e, .int .i64 f] 82)).alloc (.cells #[.slice none 0 0, .int .i64 0, .int .i64 0, .int .i64 0] 82) = W at *
  refine (takeR_bad W A n c p e f 2 he (by omega)).mono ?_
  rintro x w1 ⟨rfl, hb1⟩
  have hB1 := hB0.below hb1 hB0.lt
  have hP1 := hP0.below hb1 hP0.lt
  have hbl := bthen hb0 hb1
  have p0 : w1.cell? ⟨w.heap.size, 0, none⟩ = some (.slice A n c) := (hP1.cell 0).trans rfl
  have p1 : w1.cell? ⟨w.heap.size, 1, none⟩ = some (.int .i64 p) := (hP1.cell 1).trans rfl
  have p2 : w1.cell? ⟨w.heap.size, 2, none⟩ = some (.int .i64 e) := (hP1.cell 2).trans rfl
  have p3 : w1.cell? ⟨w.heap.size, 3, none⟩ = some (.int .i64 f) := (hP1.cell 3).trans rfl
  have g0 := hP1.frozen 0
  have g1 := hP1.frozen 1
  have g2 := hP1.frozen 2
  have g3 := hP1.frozen 3
  clear hB0 hb0 hP0
  have hP2 : Blk ((((w1.setCell ⟨w.heap.size, 0, none⟩ (.slice A n c)).setCell ⟨w.heap.size, 1, none⟩ (.int .i64 p)).setCell ⟨w.heap.size, 2, none⟩ (.int .i64 e)).setCell ⟨w.heap.size, 3, none⟩ (.int .i64 f)) w.heap.size 82 #[.slice A n c, .int .i64 p, .int .i64 e, .int .i64 f] := blk4_set hP1 _ _ _ _
  have hB2 : Blk ((((w1.setCell ⟨w.heap.size, 0, none⟩ (.slice A n c)).setCell ⟨w.heap.size, 1, none⟩ (.int .i64 p)).setCell ⟨w.heap.size, 2, none⟩ (.int .i64 e)).setCell ⟨w.heap.size, 3, none⟩ (.int .i64 f)) (w.heap.size + 1) 82 #[.slice none 0 0, .int .i64 0, .int .i64 0, .int .i64 0] := (((hB1.far (p := ⟨w.heap.size, 0, none⟩) (by simp) _).far (p := ⟨w.heap.size, 1, none⟩) (by simp) _).far (p := ⟨w.heap.size, 2, none⟩) (by simp) _).far (p := ⟨w.heap.size, 3, none⟩) (by simp) _
  have hbl2 : Below w.heap.size w ((((w1.setCell ⟨w.heap.size, 0, none⟩ (.slice A n c)).setCell ⟨w.heap.size, 1, none⟩ (.int .i64 p)).setCell ⟨w.heap.size, 2, none⟩ (.int .i64 e)).setCell ⟨w.heap.size, 3, none⟩ (.int .i64 f)) := below4_set hbl (Nat.le_refl _) _ _ _ _
  go_wp2_with fail
  generalize (((w1.setCell ⟨w.heap.size, 0, none⟩ (.slice A n c)).setCell ⟨w.heap.size, 1, none⟩ (.int .i64 p)).setCell ⟨w.heap.size, 2, none⟩ (.int .i64 e)).setCell ⟨w.heap.size, 3, none⟩ (.int .i64 f) = w2 at *
  clear p0 p1 p2 p3 g0 g1 g2 g3 hB1 hP1 hbl hb1
  have hB1 := hB2
  have hP1 := hP2
  have c0 : w2.cell? ⟨w.heap.size + 1, 0, none⟩ = some (.slice none 0 0) := (hB1.cell 0).trans rfl
  have c1 : w2.cell? ⟨w.heap.size + 1, 1, none⟩ = some (.int .i64 0) := (hB1.cell 1).trans rfl
  have c2 : w2.cell? ⟨w.heap.size + 1, 2, none⟩ = some (.int .i64 0) := (hB1.cell 2).trans rfl
  have c3 : w2.cell? ⟨w.heap.size + 1, 3, none⟩ = some (.int .i64 0) := (hB1.cell 3).trans rfl
  have f0 := hB1.frozen 0
  have f1 := hB1.frozen 1
  have f2 := hB1.frozen 2
  have f3 := hB1.frozen 3
  have p0 : w2.cell? ⟨w.heap.size, 0, none⟩ = some (.slice A n c) := (hP1.cell 0).trans rfl
  have p1 : w2.cell? ⟨w.heap.size, 1, none⟩ = some (.int .i64 p) := (hP1.cell 1).trans rfl
  have p2 : w2.cell? ⟨w.heap.size, 2, none⟩ = some (.int .i64 e) := (hP1.cell 2).trans rfl
  have p3 : w2.cell? ⟨w.heap.size, 3, none⟩ = some (.int .i64 f) := (hP1.cell 3).trans rfl
  have g0 := hP1.frozen 0
  have g1 := hP1.frozen 1
  have g2 := hP1.frozen 2
  have g3 := hP1.frozen 3
  have hval := Lib.hid (fun (wx : World) (_ : wx.heap = w2.heap) => valueR_any wx 0 0 0 none [] Reads.none_ (fun z hz => by simp at hz) (by omega))
  go_region_with (first | (go_at_call 52; refine (hval.out _ (by rfl)).mono ?_; rintro e w' ⟨rfl, rfl⟩) | fail)
  all_goals
    go_wp2
    refine bodyPost_ret (results_cell_tmp' rfl _ _ (w.heap.size + 1) 82 #[.slice A n c, .int .i64 p, .int .i64 e, .int .i64 f] (0, 0) _ rfl (by first | exact Blk.drew (blk4_set hB2 _ _ _ _) | exact blk4_set (Blk.drew hB2) _ _ _ _) Try.underlying82 rfl drInfo) rfl ⟨rfl, (below4_set hbl2 (Nat.le_succ _) _ _ _ _).drew⟩
theorem numberR_short (w : World) (A : Option Addr) (n c p : Nat) (f : Int) (hp : p ≤ n) (hn : n ≤ 2000000) (hk : n < p + 2) :
    Calls Try.prog 46 #[(.agg #[.slice A n c, .int .i64 p, .int .i64 0, .int .i64 f]), .int .i64 2] w fun x w' => x = .returned (.tuple #[(.agg #[.slice A n c, .int .i64 p, .int .i64 2, .int .i64 p]), .int .i64 0]) ∧ Below w.heap.size w w' := by
  have hb0 : Below w.heap.size w ((w.alloc (.cells #[.slice A n c, .int .i64 p, .int .i64 0, .int .i64 f] 82)).alloc (.cells #[.slice none 0 0, .int .i64 0, .int .i64 0, .int .i64 0] 82)) := ((Below.refl _ _).alloc (Nat.le_refl _) _).alloc (by simp) _
  have hB0 : Blk ((w.alloc (.cells #[.slice A n c, .int .i64 p, .int .i64 0, .int .i64 f] 82)).alloc (.cells #[.slice none 0 0, .int .i64 0, .int .i64 0, .int .i64 0] 82)) (w.heap.size + 1) 82 #[.slice none 0 0, .int .i64 0, .int .i64 0, .int .i64 0] := by
    have := Blk.new (w.alloc (.cells #[.slice A n c, .int .i64 p, .int .i64 0, .int .i64 f] 82)) 82 #[.slice none 0 0, .int .i64 0, .int .i64 0, .int .i64 0]
    simpa using this
  have hP0 : Blk ((w.alloc (.cells #[.slice A n c, .int .i64 p, .int .i64 0, .int .i64 f] 82)).alloc (.cells #[.slice none 0 0, .int .i64 0, .int .i64 0, .int .i64 0] 82)) w.heap.size 82 #[.slice A n c, .int .i64 p, .int .i64 0, .int .i64 f] := Blk.alloc (Blk.new w _ _) _
  go_enter Try.func46, Try.ntmps46
  go_wp2_with fail
  generalize (w.alloc (.cells #[.slice A n c, .int .i64 p, .int .i64 0, .int .i64 f] 82)).alloc (.cells #[.slice none 0 0, .int .i64 0, .int .i64 0, .int .i64 0] 82) = W at *
  refine (takeR_short W A n c p f 2 hp hn (by omega) (by omega)).mono ?_
  rintro x w1 ⟨rfl, hb1⟩
  have hB1 := hB0.below hb1 hB0.lt
  have hP1 := hP0.below hb1 hP0.lt
  have hbl := bthen hb0 hb1
  have p0 : w1.cell? ⟨w.heap.size, 0, none⟩ = some (.slice A n c) := (hP1.cell 0).trans rfl
  have p1 : w1.cell? ⟨w.heap.size, 1, none⟩ = some (.int .i64 p) := (hP1.cell 1).trans rfl
  have p2 : w1.cell? ⟨w.heap.size, 2, none⟩ = some (.int .i64 0) := (hP1.cell 2).trans rfl
  have p3 : w1.cell? ⟨w.heap.size, 3, none⟩ = some (.int .i64 f) := (hP1.cell 3).trans rfl
  have g0 := hP1.frozen 0
  have g1 := hP1.frozen 1
  have g2 := hP1.frozen 2
  have g3 := hP1.frozen 3
  clear hB0 hb0 hP0
  have hP2 : Blk ((((w1.setCell ⟨w.heap.size, 0, none⟩ (.slice A n c)).setCell ⟨w.heap.size, 1, none⟩ (.int .i64 p)).setCell ⟨w.heap.size, 2, none⟩ (.int .i64 2)).setCell ⟨w.heap.size, 3, none⟩ (.int .i64 p)) w.heap.size 82 #[.slice A n c, .int .i64 p, .int .i64 2, .int .i64 p] := blk4_set hP1 _ _ _ _
  have hB2 : Blk ((((w1.setCell ⟨w.heap.size, 0, none⟩ (.slice A n c)).setCell ⟨w.heap.size, 1, none⟩ (.int .i64 p)).setCell ⟨w.heap.size, 2, none⟩ (.int .i64 2)).setCell ⟨w.heap.size, 3, none⟩ (.int .i64 p)) (w.heap.size + 1) 82 #[.slice none 0 0, .int .i64 0, .int .i64 0, .int .i64 0] := (((hB1.far (p := ⟨w.heap.size, 0, none⟩) (by simp) _).far (p := ⟨w.heap.size, 1, none⟩) (by simp) _).far (p := ⟨w.heap.size, 2, none⟩) (by simp) _).far (p := ⟨w.heap.size, 3, none⟩) (by simp) _
  have hbl2 : Below w.heap.size w ((((w1.setCell ⟨w.heap.size, 0, none⟩ (.slice A n c)).setCell ⟨w.heap.size, 1, none⟩ (.int .i64 p)).setCell ⟨w.heap.size, 2, none⟩ (.int .i64 2)).setCell ⟨w.heap.size, 3, none⟩ (.int .i64 p)) := below4_set hbl (Nat.le_refl _) _ _ _ _
  go_wp2_with fail
  generalize (((w1.setCell ⟨w.heap.size, 0, none⟩ (.slice A n c)).setCell ⟨w.heap.size, 1, none⟩ (.int .i64 p)).setCell ⟨w.heap.size, 2, none⟩ (.int .i64 2)).setCell ⟨w.heap.size, 3, none⟩ (.int .i64 p) = w2 at *
  clear p0 p1 p2 p3 g0 g1 g2 g3 hB1 hP1 hbl hb1
  have hB1 := hB2
  have hP1 := hP2
  have c0 : w2.cell? ⟨w.heap.size + 1, 0, none⟩ = some (.slice none 0 0) := (hB1.cell 0).trans rfl
  have c1 : w2.cell? ⟨w.heap.size + 1, 1, none⟩ = some (.int .i64 0) := (hB1.cell 1).trans rfl
  have c2 : w2.cell? ⟨w.heap.size + 1, 2, none⟩ = some (.int .i64 0) := (hB1.cell 2).trans rfl
  have c3 : w2.cell? ⟨w.heap.size + 1, 3, none⟩ = some (.int .i64 0) := (hB1.cell 3).trans rfl
  have f0 := hB1.frozen 0
  have f1 := hB1.frozen 1
  have f2 := hB1.frozen 2
  have f3 := hB1.frozen 3
  have p0 : w2.cell? ⟨w.heap.size, 0, none⟩ = some (.slice A n c) := (hP1.cell 0).trans rfl
  have p1 : w2.cell? ⟨w.heap.size, 1, none⟩ = some (.int .i64 p) := (hP1.cell 1).trans rfl
  have p2 : w2.cell? ⟨w.heap.size, 2, none⟩ = some (.int .i64 2) := (hP1.cell 2).trans rfl
  have p3 : w2.cell? ⟨w.heap.size, 3, none⟩ = some (.int .i64 p) := (hP1.cell 3).trans rfl
  have g0 := hP1.frozen 0
  have g1 := hP1.frozen 1
  have g2 := hP1.frozen 2
  have g3 := hP1.frozen 3
  have hval := Lib.hid (fun (wx : World) (_ : wx.heap = w2.heap) => valueR_any wx 0 0 0 none [] Reads.none_ (fun z hz => by simp at hz) (by omega))
  go_region_with (first | (go_at_call 52; refine (hval.out _ (by rfl)).mono ?_; rintro e w' ⟨rfl, rfl⟩) | fail)
  all_goals
    go_wp2
    refine bodyPost_ret (results_cell_tmp' rfl _ _ (w.heap.size + 1) 82 #[.slice A n c, .int .i64 p, .int .i64 2, .int .i64 p] (0, 0) _ rfl (by first | exact Blk.drew (blk4_set hB2 _ _ _ _) | exact blk4_set (Blk.drew hB2) _ _ _ _) Try.underlying82 rfl drInfo) rfl ⟨rfl, (below4_set hbl2 (Nat.le_succ _) _ _ _ _).drew⟩
theorem numberR_okq (w : World) (A : Option Addr) (n c p q : Nat) (f V : Int) (zs : List Int) (hr : Reads w w.heap.size 1 A n (zs.map (Value.int .u8))) (hz : isU8 zs) (hk : p + 2 ≤ n) (hn : n ≤ 2000000) (hc : n ≤ c) (hcn : c ≤ 9223372036854775807) (hA : A = none → c = 0) (hq : q = p + 2) (hV : V = valL ((zs.drop p).take 2)) :
    Calls Try.prog 46 #[(.agg #[.slice A n c, .int .i64 p, .int .i64 0, .int .i64 f]), .int .i64 2] w fun x w' => x = .returned (.tuple #[(.agg #[.slice A n c, .int .i64 q, .int .i64 0, .int .i64 f]), .int .i64 V]) ∧ Below w.heap.size w w' := by
  have hb0 : Below w.heap.size w ((w.alloc (.cells #[.slice A n c, .int .i64 p, .int .i64 0, .int .i64 f] 82)).alloc (.cells #[.slice none 0 0, .int .i64 0, .int .i64 0, .int .i64 0] 82)) := ((Below.refl _ _).alloc (Nat.le_refl _) _).alloc (by simp) _
  have hB0 : Blk ((w.alloc (.cells #[.slice A n c, .int .i64 p, .int .i64 0, .int .i64 f] 82)).alloc (.cells #[.slice none 0 0, .int .i64 0, .int .i64 0, .int .i64 0] 82)) (w.heap.size + 1) 82 #[.slice none 0 0, .int .i64 0, .int .i64 0, .int .i64 0] := by
    have := Blk.new (w.alloc (.cells #[.slice A n c, .int .i64 p, .int .i64 0, .int .i64 f] 82)) 82 #[.slice none 0 0, .int .i64 0, .int .i64 0, .int .i64 0]
    simpa using this
  have hP0 : Blk ((w.alloc (.cells #[.slice A n c, .int .i64 p, .int .i64 0, .int .i64 f] 82)).alloc (.cells #[.slice none 0 0, .int .i64 0, .int .i64 0, .int .i64 0] 82)) w.heap.size 82 #[.slice A n c, .int .i64 p, .int .i64 0, .int .i64 f] := Blk.alloc (Blk.new w _ _) _
  go_enter Try.func46, Try.ntmps46
  go_wp2_with fail
  have hq' := hq.symm
  have HQ := Lib.hid hq
  clear hq
  generalize (w.alloc (.cells #[.slice A n c, .int .i64 p, .int .i64 0, .int .i64 f] 82)).alloc (.cells #[.slice none 0 0, .int .i64 0, .int .i64 0, .int .i64 0] 82) = W at *
  refine (hq' ▸ takeR_ok W A n c p 2 f hk hn hc hcn hA).mono ?_
  clear hq'
  have HV := Lib.hid hV
  clear hV
  have hw := fun (w' : World) (h : Below w.heap.size w w') => reads_win (p := p) (k := 2) (hr.below h) hk hc
  generalize (if c = p then A else A.map (·.add p)) = A' at *
  rintro x w1 ⟨rfl, hb1⟩
  have hB1 := hB0.below hb1 hB0.lt
  have hP1 := hP0.below hb1 hP0.lt
  have hbl := bthen hb0 hb1
  have p0 : w1.cell? ⟨w.heap.size, 0, none⟩ = some (.slice A n c) := (hP1.cell 0).trans rfl
  have p1 : w1.cell? ⟨w.heap.size, 1, none⟩ = some (.int .i64 p) := (hP1.cell 1).trans rfl
  have p2 : w1.cell? ⟨w.heap.size, 2, none⟩ = some (.int .i64 0) := (hP1.cell 2).trans rfl
  have p3 : w1.cell? ⟨w.heap.size, 3, none⟩ = some (.int .i64 f) := (hP1.cell 3).trans rfl
  have g0 := hP1.frozen 0
  have g1 := hP1.frozen 1
  have g2 := hP1.frozen 2
  have g3 := hP1.frozen 3
  clear hB0 hb0 hP0
  have hP2 : Blk ((((w1.setCell ⟨w.heap.size, 0, none⟩ (.slice A n c)).setCell ⟨w.heap.size, 1, none⟩ (.int .i64 q)).setCell ⟨w.heap.size, 2, none⟩ (.int .i64 0)).setCell ⟨w.heap.size, 3, none⟩ (.int .i64 f)) w.heap.size 82 #[.slice A n c, .int .i64 q, .int .i64 0, .int .i64 f] := blk4_set hP1 _ _ _ _
  have hB2 : Blk ((((w1.setCell ⟨w.heap.size, 0, none⟩ (.slice A n c)).setCell ⟨w.heap.size, 1, none⟩ (.int .i64 q)).setCell ⟨w.heap.size, 2, none⟩ (.int .i64 0)).setCell ⟨w.heap.size, 3, none⟩ (.int .i64 f)) (w.heap.size + 1) 82 #[.slice none 0 0, .int .i64 0, .int .i64 0, .int .i64 0] := (((hB1.far (p := ⟨w.heap.size, 0, none⟩) (by simp) _).far (p := ⟨w.heap.size, 1, none⟩) (by simp) _).far (p := ⟨w.heap.size, 2, none⟩) (by simp) _).far (p := ⟨w.heap.size, 3, none⟩) (by simp) _
  have hbl2 : Below w.heap.size w ((((w1.setCell ⟨w.heap.size, 0, none⟩ (.slice A n c)).setCell ⟨w.heap.size, 1, none⟩ (.int .i64 q)).setCell ⟨w.heap.size, 2, none⟩ (.int .i64 0)).setCell ⟨w.heap.size, 3, none⟩ (.int .i64 f)) := below4_set hbl (Nat.le_refl _) _ _ _ _
  go_wp2_with fail
  generalize (((w1.setCell ⟨w.heap.size, 0, none⟩ (.slice A n c)).setCell ⟨w.heap.size, 1, none⟩ (.int .i64 q)).setCell ⟨w.heap.size, 2, none⟩ (.int .i64 0)).setCell ⟨w.heap.size, 3, none⟩ (.int .i64 f) = w2 at *
  clear p0 p1 p2 p3 g0 g1 g2 g3 hB1 hP1 hbl hb1
  have hB1 := hB2
  have hP1 := hP2
  have c0 : w2.cell? ⟨w.heap.size + 1, 0, none⟩ = some (.slice none 0 0) := (hB1.cell 0).trans rfl
  have c1 : w2.cell? ⟨w.heap.size + 1, 1, none⟩ = some (.int .i64 0) := (hB1.cell 1).trans rfl
  have c2 : w2.cell? ⟨w.heap.size + 1, 2, none⟩ = some (.int .i64 0) := (hB1.cell 2).trans rfl
  have c3 : w2.cell? ⟨w.heap.size + 1, 3, none⟩ = some (.int .i64 0) := (hB1.cell 3).trans rfl
  have f0 := hB1.frozen 0
  have f1 := hB1.frozen 1
  have f2 := hB1.frozen 2
  have f3 := hB1.frozen 3
  have p0 : w2.cell? ⟨w.heap.size, 0, none⟩ = some (.slice A n c) := (hP1.cell 0).trans rfl
  have p1 : w2.cell? ⟨w.heap.size, 1, none⟩ = some (.int .i64 q) := (hP1.cell 1).trans rfl
  have p2 : w2.cell? ⟨w.heap.size, 2, none⟩ = some (.int .i64 0) := (hP1.cell 2).trans rfl
  have p3 : w2.cell? ⟨w.heap.size, 3, none⟩ = some (.int .i64 f) := (hP1.cell 3).trans rfl
  have g0 := hP1.frozen 0
  have g1 := hP1.frozen 1
  have g2 := hP1.frozen 2
  have g3 := hP1.frozen 3
  have hval := Lib.hid (fun (wx : World) (h : wx.heap = w2.heap) => HV.out ▸ valueR_any wx w.heap.size 2 (c - p) _ _ ((hw w2 hbl2).keep fun q _ => cell_heap h q) (isU8_win hz p 2) (by omega))
  clear hw
  go_region_with (first | (go_at_call 52; refine (hval.out _ (by rfl)).mono ?_; rintro e w' ⟨rfl, rfl⟩) | fail)
  all_goals
    go_wp2
    refine bodyPost_ret (results_cell_tmp' rfl _ _ (w.heap.size + 1) 82 #[.slice A n c, .int .i64 q, .int .i64 0, .int .i64 f] (0, 0) _ rfl (by first | exact Blk.drew (blk4_set hB2 _ _ _ _) | exact blk4_set (Blk.drew hB2) _ _ _ _) Try.underlying82 rfl drInfo) rfl ⟨rfl, (below4_set hbl2 (Nat.le_succ _) _ _ _ _).drew⟩
theorem numberR_ok (w : World) (A : Option Addr) (n c p : Nat) (f : Int) (zs : List Int) (hr : Reads w w.heap.size 1 A n (zs.map (Value.int .u8))) (hz : isU8 zs) (hk : p + 2 ≤ n) (hn : n ≤ 2000000) (hc : n ≤ c) (hcn : c ≤ 9223372036854775807) (hA : A = none → c = 0) :
    Calls Try.prog 46 #[.agg #[.slice A n c, .int .i64 p, .int .i64 0, .int .i64 f], .int .i64 2] w fun x w' => x = .returned (.tuple #[.agg #[.slice A n c, .int .i64 ((p + 2 : Nat) : Int), .int .i64 0, .int .i64 f], .int .i64 (valL ((zs.drop p).take 2))]) ∧ Below w.heap.size w w' :=
  numberR_okq w A n c p (p + 2) f _ zs hr hz hk hn hc hcn hA rfl rfl
end
end Go.Proofs.Ytpfojhmaeaeecaa
