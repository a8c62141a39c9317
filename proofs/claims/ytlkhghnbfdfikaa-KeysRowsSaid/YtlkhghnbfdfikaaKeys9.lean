/- Contracts of layer 10: a keyboard and the document's list behind some steps. -/
import Derived.Test.YtlkhghnbfdfikaaKeys8
namespace Go.Proofs.Ytlkhghnbfdfikaa
open Go.RowKit

/-- steps as the machine holds them: a name and a Bool each -/
def opsV (l : List (ByteArray × Bool)) : List Value := l.flatMap fun o => [.string o.1, .bool o.2]
theorem opsV_len (l : List (ByteArray × Bool)) : (opsV l).length = l.length * 2 := by
  induction l with
  | nil => rfl
  | cons a t ih => simp [opsV, List.flatMap_cons] at ih ⊢; omega
theorem opsV_at {l : List (ByteArray × Bool)} {k : Nat} (h : k < l.length) : (opsV l)[k * 2]? = some (.string (l.getD k (⟨#[]⟩, false)).1) ∧ (opsV l)[k * 2 + 1]? = some (.bool (l.getD k (⟨#[]⟩, false)).2) := by
  induction l generalizing k with
  | nil => simp at h
  | cons a t ih =>
    match k with
    | 0 => simp [opsV]
    | k + 1 =>
      have := ih (k := k) (by simpa using h)
      rw [show (k + 1) * 2 = k * 2 + 2 by omega, show k * 2 + 2 + 1 = k * 2 + 1 + 2 by omega]
      simpa [opsV] using this
theorem ops_at {w : World} {B m : Nat} {A : Option Addr} {l : List (ByteArray × Bool)} (h : Reads w B 2 A m (opsV l)) {k : Nat} (hk : k < m) :
    ∃ ad, A = some ad ∧ ad.block < B ∧ w.cell? (ad.add (k * 2)) = some (.string (l.getD k (⟨#[]⟩, false)).1) ∧ w.cell? ((ad.add (k * 2)).add 1) = some (.bool (l.getD k (⟨#[]⟩, false)).2) := by
  obtain ⟨ad, e, hb, hc⟩ := h.2 (by omega)
  have hl : k < l.length := by have := h.1; rw [opsV_len] at this; omega
  obtain ⟨h0, h1⟩ := opsV_at hl
  refine ⟨ad, e, hb, hc _ _ h0, ?_⟩
  rw [add_of_add]
  exact hc _ _ h1

theorem release_key (s : ByteArray) (g i k : Nat) (d : Nat → Int) (w : World) (hi : i < 8) (hk : k < 5) (hs : keyB (5 * i + k) = s) (hF : Fst s (5 * i + k)) (hB : Blk w g 68 (keysA d)) :
    Calls Try.prog 38 #[.pointer (some ⟨g, 0, none⟩), .string s] w fun e w' => e = .returned (.int .i64 0) ∧ Blk w' g 68 (keysA (updD d i k false)) ∧ w.grownBy w' (some g) := by
  go_enter Try.func38, Try.ntmps38
  go_wp2_with fail
  refine (put_key s g i k false d w hi hk hs hF hB).mono ?_
  rintro e w1 ⟨rfl, h1, h2⟩
  go_wp2
  go_ret
  exact ⟨rfl, h1, h2⟩
theorem press_key (s : ByteArray) (g i k : Nat) (d : Nat → Int) (w : World) (hi : i < 8) (hk : k < 5) (hs : keyB (5 * i + k) = s) (hF : Fst s (5 * i + k)) (hB : Blk w g 68 (keysA d)) :
    Calls Try.prog 39 #[.pointer (some ⟨g, 0, none⟩), .string s] w fun e w' => e = .returned (.int .i64 0) ∧ Blk w' g 68 (keysA (updD d i k true)) ∧ w.grownBy w' (some g) := by
  go_enter Try.func39, Try.ntmps39
  go_wp2_with fail
  refine (put_key s g i k true d w hi hk hs hF hB).mono ?_
  rintro e w1 ⟨rfl, h1, h2⟩
  go_wp2
  go_ret
  exact ⟨rfl, h1, h2⟩
theorem release_none (s : ByteArray) (g : Nat) (w : World) (hF : Fst s 40) :
    Calls Try.prog 38 #[.pointer (some ⟨g, 0, none⟩), .string s] w fun e w' => e = .returned (.int .i64 10) ∧ Below w.heap.size w w' := by
  go_enter Try.func38, Try.ntmps38
  go_wp2_with fail
  refine (put_none s g false w hF).mono ?_
  rintro e w1 ⟨rfl, h1⟩
  go_wp2
  go_ret
  exact ⟨rfl, h1⟩
theorem press_none (s : ByteArray) (g : Nat) (w : World) (hF : Fst s 40) :
    Calls Try.prog 39 #[.pointer (some ⟨g, 0, none⟩), .string s] w fun e w' => e = .returned (.int .i64 10) ∧ Below w.heap.size w w' := by
  go_enter Try.func39, Try.ntmps39
  go_wp2_with fail
  refine (put_none s g true w hF).mono ?_
  rintro e w1 ⟨rfl, h1⟩
  go_wp2
  go_ret
  exact ⟨rfl, h1⟩

theorem add_lit10 (a : Addr) (n : Nat) (h : n ≠ 0) : a.add n = ⟨a.block, a.off + n, none⟩ := by unfold Addr.add; rw [if_neg h]
theorem own_sliceK {w : World} {B e size n : Nat} {v : Value} {xs : List Value} (h : w.ownsRow B e size v n xs) : ∃ A c, v = .slice A n c := by
  rcases h.2 with ⟨rfl, rfl⟩ | ⟨g, cap, cur, rfl, _⟩
  · exact ⟨_, _, rfl⟩
  · exact ⟨_, _, rfl⟩
theorem own_kept10 {w w' : World} {B e size n : Nat} {v : Value} {xs : List Value} (h : w.ownsRow B e size v n xs) (k : Below w.heap.size w w') : w'.ownsRow B e size v n xs :=
  h.kept (row := none) ⟨k.os, k.tape, k.output, k.size, fun j hj _ => k.block j hj⟩ (by cases hv : v.ownBlock <;> simp)
theorem ownsRow_le10 {w : World} {B B' e size n : Nat} {v : Value} {xs : List Value} (h : w.ownsRow B e size v n xs) (hB : B' ≤ B) : w.ownsRow B' e size v n xs := by
  refine ⟨h.1, ?_⟩
  rcases h.2 with h0 | ⟨g, cap, cur, h1, h2, h3⟩
  · exact .inl h0
  · exact .inr ⟨g, cap, cur, h1, by omega, h3⟩
theorem below_grown {W w1 w2 : World} {g : Nat} (hb : Below W.heap.size W w1) (hg : w1.grownBy w2 (some g)) (h : W.heap.size ≤ g) : Below W.heap.size W w2 :=
  hb.grown hg hb.size (fun i hi => by injection hi with hi; omega)

set_option maxHeartbeats 4000000 in
theorem play_any (A : Option Addr) (m c : Nat) (l : List (ByteArray × Bool)) (w : World) (hr : Reads w w.heap.size 2 A m (opsV l)) (hm : m ≤ 200) :
    Calls Try.prog 32 #[.slice A m c] w fun e w' => ∃ v d zs, e = .returned (.tuple #[.pointer (some ⟨w.heap.size, 0, none⟩), v, .bool true]) ∧ Blk w' w.heap.size 68 (keysA d) ∧ w'.ownsRow (w.heap.size + 1) 3 1 v zs.length (zs.map (Value.int .i64)) ∧ Same10 d zs ∧ zs.length ≤ 200 ∧ Below w.heap.size w w' := by
  have hB0 : Blk (w.alloc (.cells #[.int .u8 0, .int .u8 0, .int .u8 0, .int .u8 0, .int .u8 0, .int .u8 0, .int .u8 0, .int .u8 0] 68)) w.heap.size 68 (keysA fun _ => 0) := Blk.new w _ _
  have hb0 : Below w.heap.size w (w.alloc (.cells #[.int .u8 0, .int .u8 0, .int .u8 0, .int .u8 0, .int .u8 0, .int .u8 0, .int .u8 0, .int .u8 0] 68)) := (Below.refl _ _).alloc (Nat.le_refl _) _
  go_enter Try.func32, Try.ntmps32
  go_upto_region 4 with fail
  generalize w.alloc (.cells #[.int .u8 0, .int .u8 0, .int .u8 0, .int .u8 0, .int .u8 0, .int .u8 0, .int .u8 0, .int .u8 0] 68) = W at *
  go_loopw [6, 7] (fun v x wr => ∃ (j : Nat) (d : Nat → Int) (zs : List Int), j ≤ m ∧ x = .int .i64 j ∧ Blk wr w.heap.size 68 (keysA d) ∧ wr.ownsRow (w.heap.size + 1) 3 1 v zs.length (zs.map (Value.int .i64)) ∧ Same10 d zs ∧ zs.length ≤ j ∧ Below w.heap.size w wr) (fun _ x _ => m - (intOf x).toNat)
  case atStart => exact ⟨0, _, [], by omega, rfl, hB0, World.ownsRow_nil _ _ _ _, Same10.start, by simp, hb0⟩
  case round =>
    clear hB0 hb0
    obtain ⟨j, d, zs, hj, rfl, hB, hown, hS, hlz, hbl⟩ := hrel
    obtain ⟨VA, vc, rfl⟩ := own_sliceK hown
    by_cases hlt : j < m
    · obtain ⟨ad, rfl, hab, hc0, hc1⟩ := ops_at (hr.below hbl) hlt
      rw [add_lit10 (ad.add (j * 2)) 1 (by decide)] at hc1
      generalize (l.getD j (⟨#[]⟩, false)).1 = s at *
      generalize (l.getD j (⟨#[]⟩, false)).2 = on at *
      have hcell : ∀ w' : World, Below wr.heap.size wr w' → w'.cell? (ad.add (j * 2)) = some (.string s) ∧ w'.cell? ⟨(ad.add (j * 2)).block, (ad.add (j * 2)).off + 1, none⟩ = some (.bool on) := fun w' h => by
        have hbk : (ad.add (j * 2)).block < wr.heap.size := by rw [block_of_add]; have := hbl.size; omega
        exact ⟨(h.cell hbk).trans hc0, (h.cell (p := ⟨_, _, none⟩) hbk).trans hc1⟩
      go_wp2_with fail
      refine (findR_any s wr).mono ?_
      rintro e w1 ⟨hres, hb1⟩
      obtain ⟨d0, d1⟩ := hcell w1 hb1
      have hB1 := hB.below hb1 hB.lt
      have own1 := own_kept10 hown hb1
      have hbl1 : Below w.heap.size w w1 := bthen hbl hb1
      have hlt1 := hB1.lt
      rcases hres with ⟨n, hn, hs, hF, rfl⟩ | ⟨hF, rfl⟩
      · have hn0 : (0 : Int) ≤ (n : Int) := by omega
        go_wp2_with fail
        refine (putR_any n on VA zs.length vc zs w1 (Reads.of_own own1) (by omega)).mono ?_
        rintro e w2 ⟨v2, rfl, own2, hb2⟩
        obtain ⟨e0, e1⟩ := hcell w2 (bthen hb1 hb2)
        have hB2 := hB1.below hb2 hB1.lt
        have hbl2 : Below w.heap.size w w2 := bthen hbl1 hb2
        have hS2 := hS.put (i := n / 5) (k := n % 5) (by omega) on
        rw [show 5 * (n / 5) + n % 5 = n by omega] at hS2
        have hlen : (lessN (n : Int) zs ++ if on then [(n : Int)] else []).length ≤ j + 1 := by
          have := lessN_le (n : Int) zs
          rw [List.length_append]
          cases on <;> simp <;> omega
        generalize (lessN (n : Int) zs ++ if on then [(n : Int)] else []) = zs2 at *
        have hkey : keyB (5 * (n / 5) + n % 5) = s := by rw [show 5 * (n / 5) + n % 5 = n by omega]; exact hs
        have hFk : Fst s (5 * (n / 5) + n % 5) := by rw [show 5 * (n / 5) + n % 5 = n by omega]; exact hF
        have hne := own_blk_ne own2 hB2 (by decide)
        have hi8 : n / 5 < 8 := by omega
        have hk5 : n % 5 < 5 := by omega
        have own3 : ∀ w3 : World, w2.grownBy w3 (some w.heap.size) → w3.ownsRow (w.heap.size + 1) 3 1 v2 zs2.length (zs2.map (Value.int .i64)) := fun w3 h => ownsRow_le10 (own2.kept h (.inr hne)) (by omega)
        have bel3 : ∀ w3 : World, w2.grownBy w3 (some w.heap.size) → Below w.heap.size w w3 := fun w3 h => below_grown hbl2 h (Nat.le_refl _)
        have hPR := press_key s w.heap.size (n / 5) (n % 5) d w2 hi8 hk5 hkey hFk hB2
        have hRE := release_key s w.heap.size (n / 5) (n % 5) d w2 hi8 hk5 hkey hFk hB2
        clear hs hF own1 hB1 hown hB hc0 hc1 hcell own2
        cases on
        · generalize updD d (n / 5) (n % 5) false = dF at *
          go_wp2_with fail
          refine hRE.mono ?_
          rintro e w3 ⟨rfl, hB3, hg3⟩
          go_wp2
          go_roundw
          case rel => exact ⟨j + 1, _, _, by omega, by go_num, hB3, own3 w3 hg3, hS2, hlen, bel3 w3 hg3⟩
          case measure => simp [intOf]; omega
        · generalize updD d (n / 5) (n % 5) true = dT at *
          go_wp2_with fail
          refine hPR.mono ?_
          rintro e w3 ⟨rfl, hB3, hg3⟩
          go_wp2
          go_roundw
          case rel => exact ⟨j + 1, _, _, by omega, by go_num, hB3, own3 w3 hg3, hS2, hlen, bel3 w3 hg3⟩
          case measure => simp [intOf]; omega
      · have hPR := press_none s w.heap.size w1 hF
        have hRE := release_none s w.heap.size w1 hF
        have own3 : ∀ w3 : World, Below w1.heap.size w1 w3 → w3.ownsRow (w.heap.size + 1) 3 1 (.slice VA zs.length vc) zs.length (zs.map (Value.int .i64)) := fun w3 h => own_kept10 own1 h
        clear hF hown hB hc0 hc1 hcell own1
        cases on
        · go_wp2_with fail
          refine hRE.mono ?_
          rintro e w3 ⟨rfl, hb3⟩
          go_wp2
          go_roundw
          case rel => exact ⟨j + 1, d, zs, by omega, by go_num, hB1.below hb3 hB1.lt, own3 w3 hb3, hS, by omega, bthen hbl1 hb3⟩
          case measure => simp [intOf]; omega
        · go_wp2_with fail
          refine hPR.mono ?_
          rintro e w3 ⟨rfl, hb3⟩
          go_wp2
          go_roundw
          case rel => exact ⟨j + 1, d, zs, by omega, by go_num, hB1.below hb3 hB1.lt, own3 w3 hb3, hS, by omega, bthen hbl1 hb3⟩
          case measure => simp [intOf]; omega
    · go_wp2
      go_ret3
      exact ⟨_, d, zs, rfl, hB, hown, hS, by omega, hbl⟩

end Go.Proofs.Ytlkhghnbfdfikaa
