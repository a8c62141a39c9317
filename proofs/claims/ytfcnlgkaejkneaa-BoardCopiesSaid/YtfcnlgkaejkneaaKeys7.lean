/- Contracts of layer 10: any name pressed, or released, on a keyboard whose block is known. -/
import Derived.Test.YtfcnlgkaejkneaaKeys6
namespace Go.Proofs.Ytfcnlgkaejkneaa
open Go.RowKit

def keysA (d : Nat → Int) : Array Value := #[.int .u8 (d 0), .int .u8 (d 1), .int .u8 (d 2), .int .u8 (d 3), .int .u8 (d 4), .int .u8 (d 5), .int .u8 (d 6), .int .u8 (d 7)]
theorem keysA_at (d : Nat → Int) {j : Nat} (h : j < 8) : (keysA d)[j]? = some (.int .u8 (d j)) := by
  rcases (show j = 0 ∨ j = 1 ∨ j = 2 ∨ j = 3 ∨ j = 4 ∨ j = 5 ∨ j = 6 ∨ j = 7 by omega) with rfl | rfl | rfl | rfl | rfl | rfl | rfl | rfl <;> rfl
theorem keysA_set (d : Nat → Int) {i : Nat} (h : i < 8) (x : Int) : (keysA d).setIfInBounds i (.int .u8 x) = keysA (fun j => if j = i then x else d j) := by
  rcases (show i = 0 ∨ i = 1 ∨ i = 2 ∨ i = 3 ∨ i = 4 ∨ i = 5 ∨ i = 6 ∨ i = 7 by omega) with rfl | rfl | rfl | rfl | rfl | rfl | rfl | rfl <;> rfl

/-- a name that is none: nothing is written that was there -/
theorem put_none (s : ByteArray) (g : Nat) (on : Bool) (w : World) (hF : Fst s 40) :
    Calls Try.prog 62 #[.pointer (some ⟨g, 0, none⟩), .string s, .bool on] w fun e w' => e = .returned (.int .i64 10) ∧ Below w.heap.size w w' := by
  have hf : Calls Try.prog 72 #[.string s] w fun e w' => e = .returned (.tuple #[.int .i64 0, .int .i64 0, .bool false]) ∧ Below w.heap.size w w' := by
    refine (find_any s w).mono ?_
    rintro e w' ⟨h, hb⟩
    rcases h with ⟨j, m, hj, hm, he, _, _⟩ | ⟨_, rfl⟩
    · exact absurd he (hF _ (by omega))
    · exact ⟨rfl, hb⟩
  go_enter Try.func62, Try.ntmps62
  go_wp2_with fail
  refine hf.mono ?_
  rintro e w1 ⟨rfl, hb1⟩
  go_wp2
  go_ret
  exact ⟨rfl, hb1⟩

/-- a row with one of its five bits put -/
def putB (x : Int) (k : Nat) (on : Bool) : Int := if on then bits .or .u8 (bits .andNot .u8 x (2 ^ k)) (2 ^ k) else bits .andNot .u8 x (2 ^ k)
def updD (d : Nat → Int) (i k : Nat) (on : Bool) : Nat → Int := fun j => if j = i then putB (d i) k on else d j
theorem grown_put {w w1 : World} {g i : Nat} (hb : Below w.heap.size w w1) (v : Value) : w.grownBy (w1.setCell ⟨g, i, none⟩ v).drew (some g) :=
  ⟨hb.os, hb.tape, hb.output, by simpa [World.setCell] using hb.size, fun j hj hne => (Below.heap_setCell w1 ⟨g, i, none⟩ v j (fun e => hne (by rw [e]))).trans (hb.block j hj)⟩
theorem grown_put2 {w w1 : World} {g i : Nat} (hb : Below w.heap.size w w1) (u v : Value) : w.grownBy ((w1.setCell ⟨g, i, none⟩ u).setCell ⟨g, i, none⟩ v).drew.drew (some g) :=
  ⟨hb.os, hb.tape, hb.output, by simpa [World.setCell] using hb.size, fun j hj hne => (Below.heap_setCell _ ⟨g, i, none⟩ v j (fun e => hne (by rw [e]))).trans ((Below.heap_setCell w1 ⟨g, i, none⟩ u j (fun e => hne (by rw [e]))).trans (hb.block j hj))⟩
theorem upd_off {w w1 : World} {g i : Nat} {d : Nat → Int} {k : Nat} (hB : Blk w g 31 (keysA d)) (hb : Below w.heap.size w w1) (hi : i < 8) {x : Int} (hx : x = putB (d i) k false) : Blk (w1.setCell ⟨g, i, none⟩ (.int .u8 x)).drew g 31 (keysA (updD d i k false)) := by
  have h := ((hB.below hb hB.lt).set_ i (.int .u8 x)).drew
  rw [keysA_set d hi] at h
  subst hx
  exact h
theorem upd_on {w w1 : World} {g i : Nat} {d : Nat → Int} {k : Nat} (hB : Blk w g 31 (keysA d)) (hb : Below w.heap.size w w1) (hi : i < 8) {x y : Int} (hx : x = putB (d i) k true) : Blk ((w1.setCell ⟨g, i, none⟩ (.int .u8 y)).setCell ⟨g, i, none⟩ (.int .u8 x)).drew.drew g 31 (keysA (updD d i k true)) := by
  have h := (((hB.below hb hB.lt).set_ i (.int .u8 y)).set_ i (.int .u8 x)).drew.drew
  rw [keysA_set d hi, keysA_set _ hi] at h
  subst hx
  have e : (fun j => if j = i then putB (d i) k true else if j = i then y else d j) = updD d i k true := by funext j; unfold updD; split <;> simp_all
  rw [e] at h
  exact h
theorem put_key (s : ByteArray) (g i k : Nat) (on : Bool) (d : Nat → Int) (w : World) (hi : i < 8) (hk : k < 5) (hs : keyB (5 * i + k) = s) (hF : Fst s (5 * i + k)) (hB : Blk w g 31 (keysA d)) :
    Calls Try.prog 62 #[.pointer (some ⟨g, 0, none⟩), .string s, .bool on] w fun e w' => e = .returned (.int .i64 0) ∧ Blk w' g 31 (keysA (updD d i k on)) ∧ w.grownBy w' (some g) := by
  rcases (show k = 0 ∨ k = 1 ∨ k = 2 ∨ k = 3 ∨ k = 4 by omega) with rfl | rfl | rfl | rfl | rfl
  · cases on
    · refine (put_0_false s g i (d i) w hi hs hF hB.lt ((hB.cell i).trans (keysA_at d hi)) (hB.frozen i)).mono ?_
      rintro e w' ⟨rfl, w1, hb, rfl⟩
      exact ⟨rfl, upd_off hB hb hi rfl, grown_put hb _⟩
    · refine (put_0_true s g i (d i) w hi hs hF hB.lt ((hB.cell i).trans (keysA_at d hi)) (hB.frozen i)).mono ?_
      rintro e w' ⟨rfl, w1, hb, rfl⟩
      exact ⟨rfl, upd_on hB hb hi rfl, grown_put2 hb _ _⟩
  · cases on
    · refine (put_1_false s g i (d i) w hi hs hF hB.lt ((hB.cell i).trans (keysA_at d hi)) (hB.frozen i)).mono ?_
      rintro e w' ⟨rfl, w1, hb, rfl⟩
      exact ⟨rfl, upd_off hB hb hi rfl, grown_put hb _⟩
    · refine (put_1_true s g i (d i) w hi hs hF hB.lt ((hB.cell i).trans (keysA_at d hi)) (hB.frozen i)).mono ?_
      rintro e w' ⟨rfl, w1, hb, rfl⟩
      exact ⟨rfl, upd_on hB hb hi rfl, grown_put2 hb _ _⟩
  · cases on
    · refine (put_2_false s g i (d i) w hi hs hF hB.lt ((hB.cell i).trans (keysA_at d hi)) (hB.frozen i)).mono ?_
      rintro e w' ⟨rfl, w1, hb, rfl⟩
      exact ⟨rfl, upd_off hB hb hi rfl, grown_put hb _⟩
    · refine (put_2_true s g i (d i) w hi hs hF hB.lt ((hB.cell i).trans (keysA_at d hi)) (hB.frozen i)).mono ?_
      rintro e w' ⟨rfl, w1, hb, rfl⟩
      exact ⟨rfl, upd_on hB hb hi rfl, grown_put2 hb _ _⟩
  · cases on
    · refine (put_3_false s g i (d i) w hi hs hF hB.lt ((hB.cell i).trans (keysA_at d hi)) (hB.frozen i)).mono ?_
      rintro e w' ⟨rfl, w1, hb, rfl⟩
      exact ⟨rfl, upd_off hB hb hi rfl, grown_put hb _⟩
    · refine (put_3_true s g i (d i) w hi hs hF hB.lt ((hB.cell i).trans (keysA_at d hi)) (hB.frozen i)).mono ?_
      rintro e w' ⟨rfl, w1, hb, rfl⟩
      exact ⟨rfl, upd_on hB hb hi rfl, grown_put2 hb _ _⟩
  · cases on
    · refine (put_4_false s g i (d i) w hi hs hF hB.lt ((hB.cell i).trans (keysA_at d hi)) (hB.frozen i)).mono ?_
      rintro e w' ⟨rfl, w1, hb, rfl⟩
      exact ⟨rfl, upd_off hB hb hi rfl, grown_put hb _⟩
    · refine (put_4_true s g i (d i) w hi hs hF hB.lt ((hB.cell i).trans (keysA_at d hi)) (hB.frozen i)).mono ?_
      rintro e w' ⟨rfl, w1, hb, rfl⟩
      exact ⟨rfl, upd_on hB hb hi rfl, grown_put2 hb _ _⟩

end Go.Proofs.Ytfcnlgkaejkneaa
