/- Layer 26 for 27: contracts of a recording's blocks: the block of a long gap. -/
import Derived.Test.YtckgmnlmimogjaaNk3
import Derived.Deep.CutRange
namespace Go.Proofs.Ytckgmnlmimogjaa
open Go.RowKit

theorem RdP.of_own {w : World} {base : Nat} {e : TypeId} {size n c : Nat} {A : Option Addr} {xs : List Value} (h : w.ownsRow base e size (.slice A n c) n xs) : RdP w (fun b => base ≤ b ∧ b < w.heap.size) size A n xs := by
  have hr := Reads.of_own h
  refine ⟨hr.1, fun hn => ?_⟩
  obtain ⟨ad, e, hb, hc⟩ := hr.2 hn
  subst e
  exact ⟨ad, rfl, ⟨(h.lt ad.block rfl).1, hb⟩, hc⟩
theorem LS.blkAt {w w9 : World} {base b3 r pn pc rn rc : Nat} {i3 : Int} {PA RA : Option Addr} {pl : List SymD} {rl : List (Int × Int)} (h : LS w base b3 i3 (.slice PA pn pc) (.slice RA rn rc) pl rl) (g : w.grownBy w9 (some r)) (hr : r < base) (hpn : pn = pl.length) (hrn : rn = rl.length) (h1 : pn ≤ 1000000) (h2 : rn ≤ 1000000) :
    BlkAt w9 (fun b => base ≤ b ∧ b < w9.heap.size) ⟨25, 0, 1, i3, 0, 0, 0, 0, 0, 0, 0, 0, [], [], pl.map SymD.dat, rl⟩ [.int .i64 25, .int .i64 0, .int .i64 1, .int .i64 i3, .int .i64 0, .int .i64 0, .int .i64 0, .int .i64 0, .int .i64 0, .int .i64 0, .int .i64 0, .int .i64 0, .slice none 0 0, .slice none 0 0, .slice none 0 0, .slice PA pn pc, .slice none 0 0, .slice RA rn rc] := by
  obtain ⟨hB, hP, hR, hq⟩ := h
  subst hpn hrn
  have hk : ∀ b, (base ≤ b ∧ b < w.heap.size) → w9.heap[b]? = w.heap[b]? := fun b hb => g.block b hb.2 (by intro e; injection e with e; omega)
  have hs : ∀ b, (base ≤ b ∧ b < w.heap.size) → (base ≤ b ∧ b < w9.heap.size) := fun b hb => ⟨hb.1, Nat.lt_of_lt_of_le hb.2 g.size⟩
  refine ⟨none, 0, 0, none, 0, 0, PA, _, pc, RA, _, rc, pl, rfl, RdP.none_, RdP.none_, (RdP.of_own hP).keep hk hs, fun q hm => ⟨?_, (hq q hm).2⟩, rfl, (RdP.of_own hR).keep hk hs, by omega, h1, h2⟩
  exact (RdP.of_own (hq q hm).1).keep hk hs
theorem lit_cells (w : World) (l : List Value) (e : TypeId) (j : Nat) (u : Value) (h : l[j]? = some u) : (w.alloc (.cells l.toArray e)).cell? ((⟨w.heap.size, 0, none⟩ : Addr).add j) = some u := by
  have hB := Blk.new w e l.toArray
  have : (⟨w.heap.size, 0, none⟩ : Addr).add j = ⟨w.heap.size, j, none⟩ := by
    unfold Addr.add
    split
    · next h0 => subst h0; rfl
    · simp
  rw [this, hB.cell j]
  simpa using h
theorem lit_cells1 (w : World) (o : Obj) (l : List Value) (e : TypeId) (j : Nat) (u : Value) (h : l[j]? = some u) : ((w.alloc o).alloc (.cells l.toArray e)).cell? ((⟨w.heap.size + 1, 0, none⟩ : Addr).add j) = some u := by
  have := lit_cells (w.alloc o) l e j u h
  rwa [show (w.alloc o).heap.size = w.heap.size + 1 by simp] at this
theorem long_new (w : World) : Blk (((((w.alloc (.cells #[.int .i64 65535] 3)).alloc (.cells #[.int .i64 65535] 3)).alloc (.cells #[.int .i64 0, .slice (some ⟨w.heap.size, 0, none⟩) 1 1, .int .i64 1, .slice (some ⟨w.heap.size + 1, 0, none⟩) 1 1] 104)).alloc (.cells #[.int .i64 0, .int .i64 1] 76)).alloc (.cells #[.int .i64 0, .int .i64 0, .int .i64 0, .int .i64 0, .int .i64 0, .int .i64 0, .int .i64 0, .int .i64 0, .int .i64 0, .int .i64 0, .int .i64 0, .int .i64 0, .slice none 0 0, .slice none 0 0, .slice none 0 0, .slice none 0 0, .slice none 0 0, .slice none 0 0] 33)) (w.heap.size + 1 + 1 + 1 + 1) 33 #[.int .i64 0, .int .i64 0, .int .i64 0, .int .i64 0, .int .i64 0, .int .i64 0, .int .i64 0, .int .i64 0, .int .i64 0, .int .i64 0, .int .i64 0, .int .i64 0, .slice none 0 0, .slice none 0 0, .slice none 0 0, .slice none 0 0, .slice none 0 0, .slice none 0 0] := by
  have := Blk.new ((((w.alloc (.cells #[.int .i64 65535] 3)).alloc (.cells #[.int .i64 65535] 3)).alloc (.cells #[.int .i64 0, .slice (some ⟨w.heap.size, 0, none⟩) 1 1, .int .i64 1, .slice (some ⟨w.heap.size + 1, 0, none⟩) 1 1] 104)).alloc (.cells #[.int .i64 0, .int .i64 1] 76)) 33 #[.int .i64 0, .int .i64 0, .int .i64 0, .int .i64 0, .int .i64 0, .int .i64 0, .int .i64 0, .int .i64 0, .int .i64 0, .int .i64 0, .int .i64 0, .int .i64 0, .slice none 0 0, .slice none 0 0, .slice none 0 0, .slice none 0 0, .slice none 0 0, .slice none 0 0]
  simpa using this
theorem long_below (w w6 : World) (h : ((((((w.alloc (.cells #[.int .i64 65535] 3)).alloc (.cells #[.int .i64 65535] 3)).alloc (.cells #[.int .i64 0, .slice (some ⟨w.heap.size, 0, none⟩) 1 1, .int .i64 1, .slice (some ⟨w.heap.size + 1, 0, none⟩) 1 1] 104)).alloc (.cells #[.int .i64 0, .int .i64 1] 76)).alloc (.cells #[.int .i64 0, .int .i64 0, .int .i64 0, .int .i64 0, .int .i64 0, .int .i64 0, .int .i64 0, .int .i64 0, .int .i64 0, .int .i64 0, .int .i64 0, .int .i64 0, .slice none 0 0, .slice none 0 0, .slice none 0 0, .slice none 0 0, .slice none 0 0, .slice none 0 0] 33))).grownBy w6 (some (w.heap.size + 1 + 1 + 1 + 1))) : Below w.heap.size w w6 :=
  (((((((Below.refl _ _).alloc (Nat.le_refl _) _).alloc (by simp) _).alloc (by simp; omega) _).alloc (by simp; omega) _).alloc (by simp; omega) _)).grown h (by simp; omega) (by intro g hg; injection hg with hg; omega)
theorem long_init (w w6 : World) (hB : Blk w6 (w.heap.size + 1 + 1 + 1 + 1) 33 #[.int .i64 25, .int .i64 0, .int .i64 1, .int .i64 0, .int .i64 0, .int .i64 0, .int .i64 0, .int .i64 0, .int .i64 0, .int .i64 0, .int .i64 0, .int .i64 0, .slice none 0 0, .slice none 0 0, .slice none 0 0, (.slice (some ⟨w.heap.size + 1 + 1, 0, none⟩) 2 2), .slice none 0 0, (.slice (some ⟨w.heap.size + 1 + 1 + 1, 0, none⟩) 1 1)]) (h : ((((((w.alloc (.cells #[.int .i64 65535] 3)).alloc (.cells #[.int .i64 65535] 3)).alloc (.cells #[.int .i64 0, .slice (some ⟨w.heap.size, 0, none⟩) 1 1, .int .i64 1, .slice (some ⟨w.heap.size + 1, 0, none⟩) 1 1] 104)).alloc (.cells #[.int .i64 0, .int .i64 1] 76)).alloc (.cells #[.int .i64 0, .int .i64 0, .int .i64 0, .int .i64 0, .int .i64 0, .int .i64 0, .int .i64 0, .int .i64 0, .int .i64 0, .int .i64 0, .int .i64 0, .int .i64 0, .slice none 0 0, .slice none 0 0, .slice none 0 0, .slice none 0 0, .slice none 0 0, .slice none 0 0] 33))).grownBy w6 (some (w.heap.size + 1 + 1 + 1 + 1))) :
    LS w6 w.heap.size (w.heap.size + 1 + 1 + 1 + 1) 0 (.slice (some ⟨w.heap.size + 1 + 1, 0, none⟩) 2 2) (.slice (some ⟨w.heap.size + 1 + 1 + 1, 0, none⟩) 1 1) [⟨0, some ⟨w.heap.size, 0, none⟩, 1, 1, [65535]⟩, ⟨1, some ⟨w.heap.size + 1, 0, none⟩, 1, 1, [65535]⟩] [(0, 1)] := by
  have e1 : ((w.alloc (.cells #[.int .i64 65535] 3))).ownsRow w.heap.size 3 1 (.slice (some ⟨w.heap.size, 0, none⟩) 1 1) 1 ([(65535 : Int)].map (Value.int .i64)) := World.ownsRow_lit w #[.int .i64 65535] 1 (Nat.le_refl _) (by decide) rfl
  have e2 : (((w.alloc (.cells #[.int .i64 65535] 3)).alloc (.cells #[.int .i64 65535] 3))).ownsRow w.heap.size 3 1 (.slice (some ⟨w.heap.size + 1, 0, none⟩) 1 1) 1 ([(65535 : Int)].map (Value.int .i64)) := by
    have := World.ownsRow_lit (base := w.heap.size) (e := 3) (size := 1) (w.alloc (.cells #[.int .i64 65535] 3)) #[.int .i64 65535] 1 (by simp) (by decide) rfl
    simpa using this
  have e3 : ((((w.alloc (.cells #[.int .i64 65535] 3)).alloc (.cells #[.int .i64 65535] 3)).alloc (.cells #[.int .i64 0, .slice (some ⟨w.heap.size, 0, none⟩) 1 1, .int .i64 1, .slice (some ⟨w.heap.size + 1, 0, none⟩) 1 1] 104))).ownsRow w.heap.size 104 2 (.slice (some ⟨w.heap.size + 1 + 1, 0, none⟩) 2 2) 2 (symV [⟨0, some ⟨w.heap.size, 0, none⟩, 1, 1, [65535]⟩, ⟨1, some ⟨w.heap.size + 1, 0, none⟩, 1, 1, [65535]⟩]) := by
    have := World.ownsRow_lit (base := w.heap.size) (e := 104) (size := 2) ((w.alloc (.cells #[.int .i64 65535] 3)).alloc (.cells #[.int .i64 65535] 3)) #[.int .i64 0, .slice (some ⟨w.heap.size, 0, none⟩) 1 1, .int .i64 1, .slice (some ⟨w.heap.size + 1, 0, none⟩) 1 1] 2 (by simp; omega) (by decide) rfl
    simpa [symV] using this
  have e4 : (((((w.alloc (.cells #[.int .i64 65535] 3)).alloc (.cells #[.int .i64 65535] 3)).alloc (.cells #[.int .i64 0, .slice (some ⟨w.heap.size, 0, none⟩) 1 1, .int .i64 1, .slice (some ⟨w.heap.size + 1, 0, none⟩) 1 1] 104)).alloc (.cells #[.int .i64 0, .int .i64 1] 76))).ownsRow w.heap.size 76 2 (.slice (some ⟨w.heap.size + 1 + 1 + 1, 0, none⟩) 1 1) 1 (fl [(0, 1)]) := by
    have := World.ownsRow_lit (base := w.heap.size) (e := 76) (size := 2) (((w.alloc (.cells #[.int .i64 65535] 3)).alloc (.cells #[.int .i64 65535] 3)).alloc (.cells #[.int .i64 0, .slice (some ⟨w.heap.size, 0, none⟩) 1 1, .int .i64 1, .slice (some ⟨w.heap.size + 1, 0, none⟩) 1 1] 104)) #[.int .i64 0, .int .i64 1] 1 (by simp; omega) (by decide) rfl
    simpa [fl] using this
  refine ⟨hB, ((e3.alloc _).alloc _).kept h (.inr ?_), (e4.alloc _).kept h (.inr ?_), ?_⟩
  · simp [Value.ownBlock]
  · simp [Value.ownBlock]
  · intro q hq
    simp only [List.mem_cons, List.not_mem_nil, or_false] at hq
    rcases hq with rfl | rfl
    · exact ⟨((((e1.alloc _).alloc _).alloc _).alloc _).kept h (.inr (by simp [Value.ownBlock]; omega)), by show 1 ≤ 1000000; omega⟩
    · exact ⟨(((e2.alloc _).alloc _).alloc _).kept h (.inr (by simp [Value.ownBlock])), by show 1 ≤ 1000000; omega⟩

set_option maxRecDepth 100000 in
set_option maxHeartbeats 8000000 in
theorem long_any (w : World) (n : Nat) (h0 : 65535 < n) (h1 : n ≤ 4294967295) :
    Calls Try.prog 41 #[.int .i64 n] w fun e w' => ∃ cs, e = .returned (.agg cs.toArray) ∧ BlkAt w' (fun b => w.heap.size ≤ b ∧ b < w'.heap.size) (longD n) cs ∧ Below w.heap.size w w' := by
  obtain ⟨i0, hi, hz0, hz1, hz2⟩ := info_parts repInfo'
  obtain ⟨i1, hj, hy0, hy1, hy2⟩ := info_parts symInfo'
  have HN := Lib.hid (And.intro h0 h1)
  have eq1 : IntKind.i64.wrap (IntKind.i64.wrap ((n : Int) / 65535) - 1) = (n / 65535 : Nat) - 1 := by rw [IntKind.wrap_i64, IntKind.wrap_i64]; omega
  have em : ((n : Int).tmod 65535) = ((n % 65535 : Nat) : Int) := by rw [Int.tmod_eq_emod_of_nonneg (by omega)]; omega
  have hK0 : ((n / 65535 : Nat) : Int) - 1 ≤ 65536 ∧ 0 ≤ ((n / 65535 : Nat) : Int) - 1 := by omega
  clear h0 h1
  go_enter Try.func41, Try.ntmps41
  go_upto_region 1 with fail
  have hs0 : (w.alloc (.cells #[.int .i64 0, .int .i64 0, .int .i64 0, .int .i64 0, .int .i64 0, .int .i64 0, .int .i64 0, .int .i64 0, .int .i64 0, .int .i64 0, .int .i64 0, .int .i64 0, .slice none 0 0, .slice none 0 0, .slice none 0 0, .slice none 0 0, .slice none 0 0, .slice none 0 0] 33)).heap.size = w.heap.size + 1 := by simp
  have hB0 : Blk (w.alloc (.cells #[.int .i64 0, .int .i64 0, .int .i64 0, .int .i64 0, .int .i64 0, .int .i64 0, .int .i64 0, .int .i64 0, .int .i64 0, .int .i64 0, .int .i64 0, .int .i64 0, .slice none 0 0, .slice none 0 0, .slice none 0 0, .slice none 0 0, .slice none 0 0, .slice none 0 0] 33)) w.heap.size 33 #[.int .i64 0, .int .i64 0, .int .i64 0, .int .i64 0, .int .i64 0, .int .i64 0, .int .i64 0, .int .i64 0, .int .i64 0, .int .i64 0, .int .i64 0, .int .i64 0, .slice none 0 0, .slice none 0 0, .slice none 0 0, .slice none 0 0, .slice none 0 0, .slice none 0 0] := Blk.new w _ _
  have hb0 : Below w.heap.size w (w.alloc (.cells #[.int .i64 0, .int .i64 0, .int .i64 0, .int .i64 0, .int .i64 0, .int .i64 0, .int .i64 0, .int .i64 0, .int .i64 0, .int .i64 0, .int .i64 0, .int .i64 0, .slice none 0 0, .slice none 0 0, .slice none 0 0, .slice none 0 0, .slice none 0 0, .slice none 0 0] 33)) := (Below.refl _ _).alloc (Nat.le_refl _) _
  generalize (w.alloc (.cells #[.int .i64 0, .int .i64 0, .int .i64 0, .int .i64 0, .int .i64 0, .int .i64 0, .int .i64 0, .int .i64 0, .int .i64 0, .int .i64 0, .int .i64 0, .int .i64 0, .slice none 0 0, .slice none 0 0, .slice none 0 0, .slice none 0 0, .slice none 0 0, .slice none 0 0] 33)) = w0 at *
  have HM := Lib.hid (And.intro hs0 (And.intro hB0 hb0))
  clear hs0 hB0 hb0
  go_wp2_with (first
    | (refine wpList_store_box rfl 33 _ _ rfl (w0.heap.size + 1 + 1 + 1 + 1) #[.int .i64 25, .int .i64 0, .int .i64 1, .int .i64 0, .int .i64 0, .int .i64 0, .int .i64 0, .int .i64 0, .int .i64 0, .int .i64 0, .int .i64 0, .int .i64 0, .slice none 0 0, .slice none 0 0, .slice none 0 0, (.slice (some ⟨w0.heap.size + 1 + 1, 0, none⟩) 2 2), .slice none 0 0, (.slice (some ⟨w0.heap.size + 1 + 1 + 1, 0, none⟩) 1 1)] rfl rfl 33 #[.int .i64 0, .int .i64 0, .int .i64 0, .int .i64 0, .int .i64 0, .int .i64 0, .int .i64 0, .int .i64 0, .int .i64 0, .int .i64 0, .int .i64 0, .int .i64 0, .slice none 0 0, .slice none 0 0, .slice none 0 0, .slice none 0 0, .slice none 0 0, .slice none 0 0] (long_new w0) blkInfo rfl (by simp [Value.oneCell']) ?_)
    | fail)
  intro w6 hB6 hg6
  have HLS := Lib.hid (long_init w0 w6 hB6 hg6)
  have HBL := Lib.hid (long_below w0 w6 hg6)
  clear hB6 hg6
  clear em
  go_wp2
  have hK1 : (n : Int) / 65535 - 1 ≤ 65536 ∧ 0 ≤ (n : Int) / 65535 - 1 := by omega
  clear hK0
  generalize hKI : (n : Int) / 65535 - 1 = KI at *
  have HKI := Lib.hid hKI
  clear hKI
  go_loopw [4] (fun x wr => ∃ (k : Int) (rv : Value) (rl : List (Int × Int)), -65535 ≤ k ∧ k ≤ 65536 ∧ x = .int .i64 k ∧ LS wr w0.heap.size (w0.heap.size + 1 + 1 + 1 + 1) 0 (.slice (some ⟨w0.heap.size + 1 + 1, 0, none⟩) 2 2) rv [⟨0, some ⟨w0.heap.size, 0, none⟩, 1, 1, [65535]⟩, ⟨1, some ⟨w0.heap.size + 1, 0, none⟩, 1, 1, [65535]⟩] rl ∧ (0, 1) :: repsI KI = rl ++ repsI k ∧ rl.length + (k + 65534).toNat / 65535 ≤ 10 ∧ Below w0.heap.size w0 wr) (fun x _ => (intOf x).toNat)
  case atStart => exact ⟨KI, _, _, by omega, hK1.1, rfl, HLS.out, rfl, by simp; omega, HBL.out⟩
  case round =>
    obtain ⟨k, rv, rl, hk0, hk1, rfl, hLS, hrl, hll, hbl⟩ := hrel
    have c17 : wr.cell? ⟨w0.heap.size + 1 + 1 + 1 + 1, 17, none⟩ = some rv := (hLS.1.cell 17).trans rfl
    have f17 : wr.frozen? ⟨w0.heap.size + 1 + 1 + 1 + 1, 17, none⟩ = false := hLS.1.frozen 17
    have c15 : wr.cell? ⟨w0.heap.size + 1 + 1 + 1 + 1, 15, none⟩ = some (.slice (some ⟨w0.heap.size + 1 + 1, 0, none⟩) 2 2) := (hLS.1.cell 15).trans rfl
    have f15 : wr.frozen? ⟨w0.heap.size + 1 + 1 + 1 + 1, 15, none⟩ = false := hLS.1.frozen 15
    have f3 : wr.frozen? ⟨w0.heap.size + 1 + 1 + 1 + 1, 3, none⟩ = false := hLS.1.frozen 3
    by_cases hkp : 0 < k
    · have hwk : IntKind.i64.wrap (k - 65535) = k - 65535 := by rw [IntKind.wrap_i64]; omega
      obtain ⟨M, hM⟩ : ∃ M : Int, M = if (65535 : Int) < k then (65535 : Int) else k := ⟨_, rfl⟩
      have hk7 : (if (65535 : Int) < k then (65535 : Int) else k) = M := hM.symm
      have HM9 := Lib.hid hM
      clear hM
      have HX := Lib.hid (And.intro hLS (And.intro hrl (And.intro hll hbl)))
      have HW := Lib.hid (And.intro hk0 (And.intro hk1 hkp))
      have hbs : w0.heap.size ≤ wr.heap.size := hbl.size
      have hown := hLS.2.2.1.alloc (.cells #[.int .i64 1, .int .i64 M] 76)
      have HC := Lib.hid (And.intro (lit_cells wr [.int .i64 1, .int .i64 M] 76) (And.intro (show ∀ u ∈ [Value.int .i64 1, Value.int .i64 M], u.oneCell' = true by intro u hu; simp at hu; rcases hu with rfl | rfl <;> rfl) (And.intro (show rl.length + 1 ≤ maxLen by unfold maxLen; omega) (And.intro (show (rl.length + 1) * 16 ≤ 140737488355328 by omega) (show w0.heap.size ≤ (wr.alloc (.cells #[.int .i64 1, .int .i64 M] 76)).heap.size by simp; omega)))))
      clear hLS hrl hbl hk0 hk1 c15 f15 f3
      go_wp2_with (first
        | (at_builtin; refine wpList_append_own _ rfl _ _ 31 rfl w0.heap.size 76 i0 (.agg #[.int .i64 0, .int .i64 0]) 2 16 Try.underlying31 hi hz0 hz1 hz2 rfl (by decide) _ _ _ rfl hown ⟨wr.heap.size, 0, none⟩ 1 1 [.int .i64 1, .int .i64 M] rfl rfl HC.out.1 HC.out.2.1 HC.out.2.2.1 HC.out.2.2.2.1 HC.out.2.2.2.2 ?_)
        | go_in)
      intro v' w1 hown' hgrow _
      obtain ⟨Ag, cg, rfl⟩ := own_slice hown'
      obtain ⟨hLS, hrl, hll, hbl⟩ := HX.out
      have hLS' := (hLS.alloc (.cells #[.int .i64 1, .int .i64 M] 76)).setR (rl' := rl ++ [(1, M)]) (rv' := .slice Ag (rl.length + 1) cg) hgrow (by rw [List.length_append, fl_app]; exact hown')
      have hb1 : Below w0.heap.size w0 w1 := (hbl.alloc hbs (.cells #[.int .i64 1, .int .i64 M] 76)).grown hgrow (by simp; omega) (fun i hi => (hLS.2.2.1.lt i hi).1)
      have hb2 : Below w0.heap.size w0 (w1.setCell ⟨w0.heap.size + 1 + 1 + 1 + 1, 17, none⟩ (.slice Ag (rl.length + 1) cg)) := hb1.setCell (by show w0.heap.size ≤ w0.heap.size + 1 + 1 + 1 + 1; omega) _
      have f17' : w1.frozen? ⟨w0.heap.size + 1 + 1 + 1 + 1, 17, none⟩ = false := ((hLS.1.alloc _).grown hgrow (fun e => own_blk_ne hLS.2.2.1 hLS.1 (by decide) e.symm)).frozen 17
      have c17' : w1.cell? ⟨w0.heap.size + 1 + 1 + 1 + 1, 17, none⟩ = some rv := (((hLS.1.alloc _).grown hgrow (fun e => own_blk_ne hLS.2.2.1 hLS.1 (by decide) e.symm)).cell 17).trans rfl
      have HR2 := Lib.hid (And.intro hLS' hb2)
      have HQ := Lib.hid (show (0, 1) :: repsI KI = (rl ++ [(1, M)]) ++ repsI (k - 65535) from by
        rw [hrl]
        have hk2 := HW.out.2.1
        have hk3 := HW.out.2.2
        have hM := HM9.out
        by_cases hk8 : (65535 : Int) < k
        · rw [if_pos hk8] at hM
          unfold repsI
          rw [if_neg (by omega), if_neg (by omega), if_neg (by omega), if_pos (by omega), hM]
          simp
        · rw [if_neg hk8] at hM
          unfold repsI
          rw [if_neg (by omega), if_pos (by omega), if_pos (by omega), hM]
          simp)
      have HL9 := Lib.hid hll
      clear hLS hrl hll hbl hLS' hb1 hb2 hgrow hown' c17 f17 hown hk7
      go_wp2
      go_roundw
      case rel =>
        have hk0 := HW.out.1
        have hk3 := HW.out.2.2
        have hk4 := HW.out.2.1
        exact ⟨k - 65535, _, _, by omega, by omega, by go_num, HR2.out.1, HQ.out, by rw [List.length_append]; simp; have := HL9.out; omega, HR2.out.2⟩
      case measure => have hk3 := HW.out.2.2; simp [intOf]; omega
    · have hrk : repsI k = [] := by unfold repsI; rw [if_pos (by omega)]
      rw [hrk, List.append_nil] at hrl
      clear hrk
      have hl9 : rl.length ≤ 10 := by omega
      clear hll
      obtain ⟨L, hL⟩ : ∃ L : Nat, L = n % 65535 := ⟨_, rfl⟩
      have hL1 : (n : Int) % 65535 = (L : Int) := by omega
      have hL2 : (n : Int).tmod 65535 = (L : Int) := by rw [Int.tmod_eq_emod_of_nonneg (by omega)]; exact hL1
      have hL3 : L < 65535 := by omega
      have HL := Lib.hid (And.intro hL hL3)
      clear hL
      have hbs : w0.heap.size ≤ wr.heap.size := hbl.size
      by_cases hL0 : 0 < L
      · have hL4 : (0 : Int) < (L : Int) := by omega
        have HX := Lib.hid (And.intro hLS (And.intro hrl (And.intro hl9 hbl)))
        have hown := (hLS.2.1.alloc (.cells #[.int .i64 L] 3)).alloc (.cells #[.int .i64 1, .slice (some ⟨wr.heap.size, 0, none⟩) 1 1] 104)
        have HC := Lib.hid (And.intro (lit_cells1 wr (.cells #[.int .i64 L] 3) [.int .i64 1, .slice (some ⟨wr.heap.size, 0, none⟩) 1 1] 104) (And.intro (show ∀ u ∈ [Value.int .i64 1, Value.slice (some ⟨wr.heap.size, 0, none⟩) 1 1], u.oneCell' = true by intro u hu; simp at hu; rcases hu with rfl | rfl <;> rfl) (And.intro (show 2 + 1 ≤ maxLen by unfold maxLen; omega) (And.intro (show (2 + 1) * 32 ≤ 140737488355328 by omega) (show w0.heap.size ≤ ((wr.alloc (.cells #[.int .i64 L] 3)).alloc (.cells #[.int .i64 1, .slice (some ⟨wr.heap.size, 0, none⟩) 1 1] 104)).heap.size by simp; omega)))))
        clear hLS hrl hbl c17 f17 f3 hk0 hk1
        go_wp2_with (first
          | (at_builtin; refine wpList_append_own _ rfl _ _ 30 rfl w0.heap.size 104 i1 (.agg #[.int .i64 0, .slice none 0 0]) 2 32 Try.underlying30 hj hy0 hy1 hy2 rfl (by decide) _ _ _ rfl hown ⟨wr.heap.size + 1, 0, none⟩ 1 1 [.int .i64 1, .slice (some ⟨wr.heap.size, 0, none⟩) 1 1] rfl rfl HC.out.1 HC.out.2.1 HC.out.2.2.1 HC.out.2.2.2.1 HC.out.2.2.2.2 ?_)
          | go_in)
        intro v' w1 hown' hgrow _
        obtain ⟨Ag, cg, rfl⟩ := own_slice hown'
        obtain ⟨hLS, hrl, hll, hbl⟩ := HX.out
        have hqn : SymD.own ((wr.alloc (.cells #[.int .i64 L] 3)).alloc (.cells #[.int .i64 1, .slice (some ⟨wr.heap.size, 0, none⟩) 1 1] 104)) w0.heap.size ⟨1, some ⟨wr.heap.size, 0, none⟩, 1, 1, [(L : Int)]⟩ :=
          ⟨(World.ownsRow_lit (base := w0.heap.size) (e := 3) (size := 1) wr #[.int .i64 L] 1 hbs (by decide) rfl).alloc _, by show 1 ≤ 1000000; omega⟩
        have hAA := (hLS.alloc (.cells #[.int .i64 L] 3)).alloc (.cells #[.int .i64 1, .slice (some ⟨wr.heap.size, 0, none⟩) 1 1] 104)
        have hLS' := hAA.setP (pl' := [⟨0, some ⟨w0.heap.size, 0, none⟩, 1, 1, [65535]⟩, ⟨1, some ⟨w0.heap.size + 1, 0, none⟩, 1, 1, [65535]⟩] ++ [⟨1, some ⟨wr.heap.size, 0, none⟩, 1, 1, [(L : Int)]⟩]) (pv' := .slice Ag 3 cg) hgrow (by simpa [symV] using hown') (by
          intro q hq
          rcases List.mem_append.1 hq with hq | hq
          · exact hAA.2.2.2 q hq
          · rcases List.mem_singleton.1 hq with rfl
            exact hqn)
        have hb1 : Below w0.heap.size w0 w1 := ((hbl.alloc hbs _).alloc (by simp; omega) _).grown hgrow (by simp; omega) (fun i hi => (hLS.2.1.lt i hi).1)
        have hb2 : Below w0.heap.size w0 (w1.setCell ⟨w0.heap.size + 1 + 1 + 1 + 1, 15, none⟩ (.slice Ag 3 cg)) := hb1.setCell (by show w0.heap.size ≤ w0.heap.size + 1 + 1 + 1 + 1; omega) _
        have hB1 := hAA.1.grown hgrow (fun e => own_blk_ne hLS.2.1 hLS.1 (by decide) e.symm)
        have f15' : w1.frozen? ⟨w0.heap.size + 1 + 1 + 1 + 1, 15, none⟩ = false := hB1.frozen 15
        have c15' : w1.cell? ⟨w0.heap.size + 1 + 1 + 1 + 1, 15, none⟩ = some (.slice (some ⟨w0.heap.size + 1 + 1, 0, none⟩) 2 2) := (hB1.cell 15).trans rfl
        have hll := hll
        have HR2 := Lib.hid (And.intro hLS' hb2)
        clear hLS hbl hLS' hb1 hgrow hown' hown hqn hAA hB1 c15 f15
        go_upto_region 9 with fail
        generalize (w1.setCell ⟨w0.heap.size + 1 + 1 + 1 + 1, 15, none⟩ (.slice Ag 3 cg)) = w2 at *
        obtain ⟨hLS, hbl⟩ := HR2.out
        clear HR2 hb2 c15' f15'
        have hbs2 : w0.heap.size ≤ w2.heap.size := hbl.size
        have hown := hLS.2.2.1.alloc (.cells #[.int .i64 2, .int .i64 1] 76)
        have c17 : w2.cell? ⟨w0.heap.size + 1 + 1 + 1 + 1, 17, none⟩ = some rv := (hLS.1.cell 17).trans rfl
        have HX2 := Lib.hid (And.intro hLS hbl)
        have HC := Lib.hid (And.intro (lit_cells w2 [.int .i64 2, .int .i64 1] 76) (And.intro (show ∀ u ∈ [Value.int .i64 2, Value.int .i64 1], u.oneCell' = true by intro u hu; simp at hu; rcases hu with rfl | rfl <;> rfl) (And.intro (show rl.length + 1 ≤ maxLen by unfold maxLen; omega) (And.intro (show (rl.length + 1) * 16 ≤ 140737488355328 by omega) (show w0.heap.size ≤ (w2.alloc (.cells #[.int .i64 2, .int .i64 1] 76)).heap.size by simp; omega)))))
        clear hLS hbl
        go_wp2_with (first
          | (at_builtin; refine wpList_append_own _ rfl _ _ 31 rfl w0.heap.size 76 i0 (.agg #[.int .i64 0, .int .i64 0]) 2 16 Try.underlying31 hi hz0 hz1 hz2 rfl (by decide) _ _ _ rfl hown ⟨w2.heap.size, 0, none⟩ 1 1 [.int .i64 2, .int .i64 1] rfl rfl HC.out.1 HC.out.2.1 HC.out.2.2.1 HC.out.2.2.2.1 HC.out.2.2.2.2 ?_)
          | go_in)
        intro v' w3 hown' hgrow _
        obtain ⟨Ar, cr, rfl⟩ := own_slice hown'
        obtain ⟨hLS, hbl⟩ := HX2.out
        have hLA := hLS.alloc (.cells #[.int .i64 2, .int .i64 1] 76)
        have hLS' := hLA.setR (rl' := rl ++ [(2, 1)]) (rv' := .slice Ar (rl.length + 1) cr) hgrow (by rw [List.length_append, fl_app]; exact hown')
        have hb1 : Below w0.heap.size w0 w3 := (hbl.alloc hbs2 (.cells #[.int .i64 2, .int .i64 1] 76)).grown hgrow (by simp; omega) (fun i hi => (hLS.2.2.1.lt i hi).1)
        have hb2 : Below w0.heap.size w0 (w3.setCell ⟨w0.heap.size + 1 + 1 + 1 + 1, 17, none⟩ (.slice Ar (rl.length + 1) cr)) := hb1.setCell (by show w0.heap.size ≤ w0.heap.size + 1 + 1 + 1 + 1; omega) _
        have hB1 := hLA.1.grown hgrow (fun e => own_blk_ne hLS.2.2.1 hLS.1 (by decide) e.symm)
        have f17' : w3.frozen? ⟨w0.heap.size + 1 + 1 + 1 + 1, 17, none⟩ = false := hB1.frozen 17
        have c17' : w3.cell? ⟨w0.heap.size + 1 + 1 + 1 + 1, 17, none⟩ = some rv := (hB1.cell 17).trans rfl
        have HR2 := Lib.hid (And.intro hLS' hb2)
        clear hLS hbl hLS' hb1 hb2 hgrow hown' hown hLA hB1 c17
        go_upto_region 10 with fail
        generalize (w3.setCell ⟨w0.heap.size + 1 + 1 + 1 + 1, 17, none⟩ (.slice Ar (rl.length + 1) cr)) = w4 at *
        obtain ⟨hLS, hbl⟩ := HR2.out
        clear HR2 c17' f17'
        have c15 : w4.cell? ⟨w0.heap.size + 1 + 1 + 1 + 1, 15, none⟩ = some (.slice Ag 3 cg) := (hLS.1.cell 15).trans rfl
        have f3 : w4.frozen? ⟨w0.heap.size + 1 + 1 + 1 + 1, 3, none⟩ = false := hLS.1.frozen 3
        have c3 : w4.cell? ⟨w0.heap.size + 1 + 1 + 1 + 1, 3, none⟩ = some (.int .i64 0) := (hLS.1.cell 3).trans rfl
        have hL3 := hLS.set3 (j3 := 3)
        have hb3 : Below w0.heap.size w0 (w4.setCell ⟨w0.heap.size + 1 + 1 + 1 + 1, 3, none⟩ (.int .i64 3)) := hbl.setCell (by show w0.heap.size ≤ w0.heap.size + 1 + 1 + 1 + 1; omega) _
        have HL3 := Lib.hid (And.intro hL3 hb3)
        clear hLS hbl hL3 hb3
        go_upto_region 11 with fail
        generalize w4.setCell ⟨w0.heap.size + 1 + 1 + 1 + 1, 3, none⟩ (.int .i64 3) = w8 at *
        clear c15 f3 c3
        have hBx := HL3.out.1.1
        have hRx : Blk w8 w.heap.size 33 #[.int .i64 0, .int .i64 0, .int .i64 0, .int .i64 0, .int .i64 0, .int .i64 0, .int .i64 0, .int .i64 0, .int .i64 0, .int .i64 0, .int .i64 0, .int .i64 0, .slice none 0 0, .slice none 0 0, .slice none 0 0, .slice none 0 0, .slice none 0 0, .slice none 0 0] := HM.out.2.1.below HL3.out.2 (by rw [HM.out.1]; omega)
        have hb8 : Below w.heap.size w w8 := HM.out.2.2.trans (HL3.out.2.mono (by rw [HM.out.1]; omega))
        have HY := Lib.hid (And.intro hRx hb8)
        clear hb8
        go_wp2_with (first
          | (refine wpList_load_box rfl 33 _ rfl (w0.heap.size + 1 + 1 + 1 + 1) rfl 33 #[.int .i64 25, .int .i64 0, .int .i64 1, .int .i64 3, .int .i64 0, .int .i64 0, .int .i64 0, .int .i64 0, .int .i64 0, .int .i64 0, .int .i64 0, .int .i64 0, .slice none 0 0, .slice none 0 0, .slice none 0 0, .slice Ag 3 cg, .slice none 0 0, .slice Ar (rl.length + 1) cr] hBx _ Try.underlying33 rfl blkInfo ?_)
          | (refine wpList_store_box rfl 33 _ _ rfl (w.heap.size) #[.int .i64 25, .int .i64 0, .int .i64 1, .int .i64 3, .int .i64 0, .int .i64 0, .int .i64 0, .int .i64 0, .int .i64 0, .int .i64 0, .int .i64 0, .int .i64 0, .slice none 0 0, .slice none 0 0, .slice none 0 0, .slice Ag 3 cg, .slice none 0 0, .slice Ar (rl.length + 1) cr] rfl rfl 33 #[.int .i64 0, .int .i64 0, .int .i64 0, .int .i64 0, .int .i64 0, .int .i64 0, .int .i64 0, .int .i64 0, .int .i64 0, .int .i64 0, .int .i64 0, .int .i64 0, .slice none 0 0, .slice none 0 0, .slice none 0 0, .slice none 0 0, .slice none 0 0, .slice none 0 0] hRx blkInfo rfl (by simp [Value.oneCell']) ?_)
          | fail)
        try (refine fun (_ : Hid _) => ?_)
        refine wpList_store_box rfl 33 _ _ rfl (w.heap.size) _ rfl rfl 33 #[.int .i64 0, .int .i64 0, .int .i64 0, .int .i64 0, .int .i64 0, .int .i64 0, .int .i64 0, .int .i64 0, .int .i64 0, .int .i64 0, .int .i64 0, .int .i64 0, .slice none 0 0, .slice none 0 0, .slice none 0 0, .slice none 0 0, .slice none 0 0, .slice none 0 0] hRx blkInfo rfl (by simp [Value.oneCell']) ?_
        intro w9 hB9 hg9
        have HZ := Lib.hid (And.intro hB9 hg9)
        clear hRx hBx hg9
        go_wp2_with fail
        refine bodyPost_ret (results_cell_row rfl _ _ w.heap.size 33 _ (0, 0) _ rfl hB9 Try.underlying33 rfl blkInfo) rfl ?_
        have hsz := HM.out.1
        have hsz9 := HL3.out.2.size
        refine ⟨_, rfl, ?_, HY.out.2.grown HZ.out.2 (by have := HY.out.2.size; omega) (fun b hb => by injection hb with hb; omega)⟩
        have hF := HL3.out.1.blkAt HZ.out.2 (by omega) rfl (by simp) (by omega) (by simp; omega)
        have hE := HKI.out
        have hLe := HL.out.1
        have hF := hF.keep (w' := w9) (ψ := fun b => w.heap.size ≤ b ∧ b < w9.heap.size) (fun b _ => rfl) (fun b hb => ⟨by omega, hb.2⟩)
        refine (show longD n = _ from ?_) ▸ hF
        have hLp : 0 < n % 65535 := by omega
        simp only [longD, longP, longR, if_pos hLp, SymD.dat, List.map_append, List.map_cons, List.map_nil]
        rw [← hrl, ← hLe, show ((n / 65535 : Nat) : Int) - 1 = KI by omega]
        rfl
      · obtain ⟨Ar, cr, rfl⟩ := own_slice hLS.2.2.1
        have hL4 : ¬ (0 : Int) < (L : Int) := by omega
        clear c17 f17 f15 c15 f3 hk0 hk1
        go_upto_region 10 with fail
        have c15 : wr.cell? ⟨w0.heap.size + 1 + 1 + 1 + 1, 15, none⟩ = some (.slice (some ⟨w0.heap.size + 1 + 1, 0, none⟩) 2 2) := (hLS.1.cell 15).trans rfl
        have f3 : wr.frozen? ⟨w0.heap.size + 1 + 1 + 1 + 1, 3, none⟩ = false := hLS.1.frozen 3
        have c3 : wr.cell? ⟨w0.heap.size + 1 + 1 + 1 + 1, 3, none⟩ = some (.int .i64 0) := (hLS.1.cell 3).trans rfl
        have hL3 := hLS.set3 (j3 := 2)
        have hb3 : Below w0.heap.size w0 (wr.setCell ⟨w0.heap.size + 1 + 1 + 1 + 1, 3, none⟩ (.int .i64 2)) := hbl.setCell (by show w0.heap.size ≤ w0.heap.size + 1 + 1 + 1 + 1; omega) _
        have HL3 := Lib.hid (And.intro hL3 hb3)
        clear hLS hbl hL3 hb3
        go_upto_region 11 with fail
        generalize wr.setCell ⟨w0.heap.size + 1 + 1 + 1 + 1, 3, none⟩ (.int .i64 2) = w8 at *
        clear c15 f3 c3
        have hBx := HL3.out.1.1
        have hRx : Blk w8 w.heap.size 33 #[.int .i64 0, .int .i64 0, .int .i64 0, .int .i64 0, .int .i64 0, .int .i64 0, .int .i64 0, .int .i64 0, .int .i64 0, .int .i64 0, .int .i64 0, .int .i64 0, .slice none 0 0, .slice none 0 0, .slice none 0 0, .slice none 0 0, .slice none 0 0, .slice none 0 0] := HM.out.2.1.below HL3.out.2 (by rw [HM.out.1]; omega)
        have hb8 : Below w.heap.size w w8 := HM.out.2.2.trans (HL3.out.2.mono (by rw [HM.out.1]; omega))
        have HY := Lib.hid (And.intro hRx hb8)
        clear hb8
        go_wp2_with (first
          | (refine wpList_load_box rfl 33 _ rfl (w0.heap.size + 1 + 1 + 1 + 1) rfl 33 #[.int .i64 25, .int .i64 0, .int .i64 1, .int .i64 2, .int .i64 0, .int .i64 0, .int .i64 0, .int .i64 0, .int .i64 0, .int .i64 0, .int .i64 0, .int .i64 0, .slice none 0 0, .slice none 0 0, .slice none 0 0, .slice (some ⟨w0.heap.size + 1 + 1, 0, none⟩) 2 2, .slice none 0 0, .slice Ar rl.length cr] hBx _ Try.underlying33 rfl blkInfo ?_)
          | (refine wpList_store_box rfl 33 _ _ rfl (w.heap.size) #[.int .i64 25, .int .i64 0, .int .i64 1, .int .i64 2, .int .i64 0, .int .i64 0, .int .i64 0, .int .i64 0, .int .i64 0, .int .i64 0, .int .i64 0, .int .i64 0, .slice none 0 0, .slice none 0 0, .slice none 0 0, .slice (some ⟨w0.heap.size + 1 + 1, 0, none⟩) 2 2, .slice none 0 0, .slice Ar rl.length cr] rfl rfl 33 #[.int .i64 0, .int .i64 0, .int .i64 0, .int .i64 0, .int .i64 0, .int .i64 0, .int .i64 0, .int .i64 0, .int .i64 0, .int .i64 0, .int .i64 0, .int .i64 0, .slice none 0 0, .slice none 0 0, .slice none 0 0, .slice none 0 0, .slice none 0 0, .slice none 0 0] hRx blkInfo rfl (by simp [Value.oneCell']) ?_)
          | fail)
        try (refine fun (_ : Hid _) => ?_)
        refine wpList_store_box rfl 33 _ _ rfl (w.heap.size) _ rfl rfl 33 #[.int .i64 0, .int .i64 0, .int .i64 0, .int .i64 0, .int .i64 0, .int .i64 0, .int .i64 0, .int .i64 0, .int .i64 0, .int .i64 0, .int .i64 0, .int .i64 0, .slice none 0 0, .slice none 0 0, .slice none 0 0, .slice none 0 0, .slice none 0 0, .slice none 0 0] hRx blkInfo rfl (by simp [Value.oneCell']) ?_
        intro w9 hB9 hg9
        have HZ := Lib.hid (And.intro hB9 hg9)
        clear hRx hBx hg9
        go_wp2_with fail
        refine bodyPost_ret (results_cell_row rfl _ _ w.heap.size 33 _ (0, 0) _ rfl hB9 Try.underlying33 rfl blkInfo) rfl ?_
        have hsz := HM.out.1
        have hsz9 := HL3.out.2.size
        refine ⟨_, rfl, ?_, HY.out.2.grown HZ.out.2 (by have := HY.out.2.size; omega) (fun b hb => by injection hb with hb; omega)⟩
        have hF := HL3.out.1.blkAt HZ.out.2 (by omega) rfl rfl (by omega) (by omega)
        have hE := HKI.out
        have hLe := HL.out.1
        have hF := hF.keep (w' := w9) (ψ := fun b => w.heap.size ≤ b ∧ b < w9.heap.size) (fun b _ => rfl) (fun b hb => ⟨by omega, hb.2⟩)
        refine (show longD n = _ from ?_) ▸ hF
        have hLp : ¬ 0 < n % 65535 := by omega
        simp only [longD, longP, longR, if_neg hLp, SymD.dat, List.map_append, List.map_cons, List.map_nil, List.append_nil]
        rw [← hrl, show ((n / 65535 : Nat) : Int) - 1 = KI by omega]
        rfl
end Go.Proofs.Ytckgmnlmimogjaa
