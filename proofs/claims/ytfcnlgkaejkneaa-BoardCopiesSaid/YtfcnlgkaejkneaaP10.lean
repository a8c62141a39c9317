/- The keyboard, plain: rows of bits and the document's list of numbers; nothing of the program's code is in it. -/
import Derived.Test.YtfcnlgkaejkneaaR10b
namespace Go.Proofs.Ytfcnlgkaejkneaa
open Go.RowKit

def bt (x : Int) (k : Nat) : Bool := bits .and .u8 (x / 2 ^ k) 1 == 1
theorem onD_bt (d : Nat → Int) (n : Nat) : onD d n = bt (d (n / 5)) (n % 5) := rfl
theorem onD_at (d : Nat → Int) (i : Nat) {k : Nat} (hk : k < 5) : onD d (5 * i + k) = bt (d i) k := by rw [onD_bt, show (5 * i + k) / 5 = i by omega, show (5 * i + k) % 5 = k by omega]

theorem put_all : ∀ x : Fin 32, ∀ k : Fin 5, ∀ on : Bool, (∀ j : Fin 5, bt (putB x.val k.val on) j.val = if j = k then on else bt x.val j.val) ∧ 0 ≤ putB x.val k.val on ∧ putB x.val k.val on ≤ 31 := by decide +kernel
theorem andNot_all : ∀ v x : Fin 32, (∀ j : Fin 5, bt (bits .andNot .u8 v.val x.val) j.val = (bt v.val j.val && !bt x.val j.val)) ∧ 0 ≤ bits .andNot .u8 v.val x.val ∧ bits .andNot .u8 v.val x.val ≤ 31 := by decide +kernel
theorem and_all : ∀ v x : Fin 32, (∀ j : Fin 5, bt (bits .and .u8 v.val x.val) j.val = (bt v.val j.val && bt x.val j.val)) ∧ 0 ≤ bits .and .u8 v.val x.val ∧ bits .and .u8 v.val x.val ≤ 31 := by decide +kernel
theorem sum_all : ∀ v : Fin 32, ((v.val : Nat) : Int) = (if bt v.val 0 then 1 else 0) + (if bt v.val 1 then 2 else 0) + (if bt v.val 2 then 4 else 0) + (if bt v.val 3 then 8 else 0) + (if bt v.val 4 then 16 else 0) := by decide +kernel
theorem fin32 {x : Int} (h0 : 0 ≤ x) (h1 : x ≤ 31) : ∃ f : Fin 32, x = ((f.val : Nat) : Int) := ⟨⟨x.toNat, by omega⟩, by simp; omega⟩
theorem bt_put {x : Int} (h0 : 0 ≤ x) (h1 : x ≤ 31) {k j : Nat} (hk : k < 5) (hj : j < 5) (on : Bool) : bt (putB x k on) j = if j = k then on else bt x j := by
  obtain ⟨f, rfl⟩ := fin32 h0 h1
  have := (put_all f ⟨k, hk⟩ on).1 ⟨j, hj⟩
  simpa [Fin.ext_iff] using this
theorem put_in {x : Int} (h0 : 0 ≤ x) (h1 : x ≤ 31) {k : Nat} (hk : k < 5) (on : Bool) : 0 ≤ putB x k on ∧ putB x k on ≤ 31 := by
  obtain ⟨f, rfl⟩ := fin32 h0 h1
  exact (put_all f ⟨k, hk⟩ on).2
theorem bt_andNot {v x : Int} (h0 : 0 ≤ v) (h1 : v ≤ 31) (x0 : 0 ≤ x) (x1 : x ≤ 31) {j : Nat} (hj : j < 5) : bt (bits .andNot .u8 v x) j = (bt v j && !bt x j) := by
  obtain ⟨f, rfl⟩ := fin32 h0 h1
  obtain ⟨g, rfl⟩ := fin32 x0 x1
  exact (andNot_all f g).1 ⟨j, hj⟩
theorem andNot_in {v x : Int} (h0 : 0 ≤ v) (h1 : v ≤ 31) (x0 : 0 ≤ x) (x1 : x ≤ 31) : 0 ≤ bits .andNot .u8 v x ∧ bits .andNot .u8 v x ≤ 31 := by
  obtain ⟨f, rfl⟩ := fin32 h0 h1
  obtain ⟨g, rfl⟩ := fin32 x0 x1
  exact (andNot_all f g).2
theorem bt_and {v x : Int} (h0 : 0 ≤ v) (h1 : v ≤ 31) (x0 : 0 ≤ x) (x1 : x ≤ 31) {j : Nat} (hj : j < 5) : bt (bits .and .u8 v x) j = (bt v j && bt x j) := by
  obtain ⟨f, rfl⟩ := fin32 h0 h1
  obtain ⟨g, rfl⟩ := fin32 x0 x1
  exact (and_all f g).1 ⟨j, hj⟩
theorem and_in {v x : Int} (h0 : 0 ≤ v) (h1 : v ≤ 31) (x0 : 0 ≤ x) (x1 : x ≤ 31) : 0 ≤ bits .and .u8 v x ∧ bits .and .u8 v x ≤ 31 := by
  obtain ⟨f, rfl⟩ := fin32 h0 h1
  obtain ⟨g, rfl⟩ := fin32 x0 x1
  exact (and_all f g).2
theorem bt_sum {v : Int} (h0 : 0 ≤ v) (h1 : v ≤ 31) : v = (if bt v 0 then 1 else 0) + (if bt v 1 then 2 else 0) + (if bt v 2 then 4 else 0) + (if bt v 3 then 8 else 0) + (if bt v 4 then 16 else 0) := by
  obtain ⟨f, rfl⟩ := fin32 h0 h1
  exact sum_all f
theorem bt_ext {v x : Int} (h0 : 0 ≤ v) (h1 : v ≤ 31) (x0 : 0 ≤ x) (x1 : x ≤ 31) (h : ∀ j, j < 5 → bt v j = bt x j) : v = x := by
  rw [bt_sum h0 h1, bt_sum x0 x1, h 0 (by omega), h 1 (by omega), h 2 (by omega), h 3 (by omega), h 4 (by omega)]
theorem bt_31 : ∀ j, j < 5 → bt 31 j = true := by decide
theorem bt_0 : ∀ j, j < 5 → bt 0 j = false := by decide

/-- the rows of a keyboard -/
def Rows5 (d : Nat → Int) : Prop := ∀ j, 0 ≤ d j ∧ d j ≤ 31
theorem Rows5.upd {d : Nat → Int} (h : Rows5 d) (i : Nat) {k : Nat} (hk : k < 5) (on : Bool) : Rows5 (updD d i k on) := by
  intro j
  unfold updD
  split
  · exact put_in (h i).1 (h i).2 hk on
  · exact h j
theorem onD_upd {d : Nat → Int} (h : Rows5 d) {i k : Nat} (hk : k < 5) (on : Bool) (n : Nat) : onD (updD d i k on) n = if n = 5 * i + k then on else onD d n := by
  rw [onD_bt, onD_bt]
  unfold updD
  by_cases e : n / 5 = i
  · rw [if_pos e, bt_put (h i).1 (h i).2 hk (by omega) on]
    by_cases e2 : n % 5 = k
    · rw [if_pos e2, if_pos (by omega)]
    · rw [if_neg e2, if_neg (by omega), e]
  · rw [if_neg e, if_neg (by omega)]

/-- what any rows read, bit by bit -/
theorem readS_in {d : Nat → Int} (h : Rows5 d) (a : Int) : ∀ j, 0 ≤ readS d a j ∧ readS d a j ≤ 31
  | 0 => by simp [readS]
  | j + 1 => by
    have ih := readS_in h a j
    rw [readS]
    split
    · exact andNot_in ih.1 ih.2 (h j).1 (h j).2
    · exact ih
theorem readS_bt {d : Nat → Int} (h : Rows5 d) (a : Int) {b : Nat} (hb : b < 5) : ∀ j, bt (readS d a j) b = true ↔ ∀ r, r < j → ¬ (askH a r = true ∧ bt (d r) b = true)
  | 0 => by simp [readS, bt_31 b hb]
  | j + 1 => by
    have ih := readS_bt h a hb j
    have hi := readS_in h a j
    rw [readS]
    have split_ : (∀ r, r < j + 1 → ¬ (askH a r = true ∧ bt (d r) b = true)) ↔ (∀ r, r < j → ¬ (askH a r = true ∧ bt (d r) b = true)) ∧ ¬ (askH a j = true ∧ bt (d j) b = true) := by
      constructor
      · exact fun h => ⟨fun r hr => h r (by omega), h j (by omega)⟩
      · rintro ⟨h1, h2⟩ r hr
        by_cases e : r = j
        · subst e; exact h2
        · exact h1 r (by omega)
    rw [split_, ← ih]
    split
    · rename_i hA
      rw [bt_andNot hi.1 hi.2 (h j).1 (h j).2 hb]
      simp [hA]
    · rename_i hA
      simp [hA]

/-- the document's reading -/
def upR (zs : List Int) (h : Int) (b : Nat) : Nat → Bool
  | 0 => true
  | r + 1 => upR zs h b r && !(decide (h / 2 ^ r % 2 = 0) && decide ((5 * r + b : Int) ∈ zs))
def sumR (zs : List Int) (h : Int) : Nat → Int
  | 0 => 0
  | b + 1 => sumR zs h b + if upR zs h b 8 then 2 ^ b else 0
theorem upR_true (zs : List Int) (h : Int) (b : Nat) : ∀ j, upR zs h b j = true ↔ ∀ r, r < j → ¬ (h / 2 ^ r % 2 = 0 ∧ (5 * r + b : Int) ∈ zs)
  | 0 => by simp [upR]
  | j + 1 => by
    have ih := upR_true zs h b j
    have split_ : (∀ r : Nat, r < j + 1 → ¬ (h / 2 ^ r % 2 = 0 ∧ (5 * r + b : Int) ∈ zs)) ↔ (∀ r : Nat, r < j → ¬ (h / 2 ^ r % 2 = 0 ∧ (5 * r + b : Int) ∈ zs)) ∧ ¬ (h / 2 ^ j % 2 = 0 ∧ (5 * j + b : Int) ∈ zs) := by
      constructor
      · exact fun h => ⟨fun r hr => h r (by omega), h j (by omega)⟩
      · rintro ⟨h1, h2⟩ r hr
        by_cases e : r = j
        · subst e; exact h2
        · exact h1 r (by omega)
    rw [split_, ← ih, upR]
    by_cases h1 : h / 2 ^ j % 2 = 0 <;> by_cases h2 : (5 * j + b : Int) ∈ zs <;> simp [h1, h2]
theorem ask_all : ∀ h : Fin 256, ∀ r : Fin 8, askH h.val r.val = decide (((h.val : Nat) : Int) / 2 ^ r.val % 2 = 0) := by decide +kernel
theorem ask_bit {h : Int} (h0 : 0 ≤ h) (h1 : h ≤ 255) {r : Nat} (hr : r < 8) : askH h r = decide (h / 2 ^ r % 2 = 0) := by
  have := ask_all ⟨h.toNat, by omega⟩ ⟨r, hr⟩
  simp only [Int.toNat_of_nonneg h0] at this
  exact this

/-- a keyboard's rows and the document's list tell the same -/
def Same10 (d : Nat → Int) (zs : List Int) : Prop := Rows5 d ∧ ∀ n : Nat, n < 40 → (onD d n = true ↔ (n : Int) ∈ zs)
theorem Same10.start : Same10 (fun _ => 0) [] := by
  refine ⟨fun j => ⟨Int.le_refl _, by simp⟩, fun n hn => ?_⟩
  rw [onD_bt, bt_0 _ (by omega)]
  simp
theorem mem_put (n z : Int) (zs : List Int) (on : Bool) : z ∈ (lessN n zs ++ if on then [n] else []) ↔ (if z = n then on = true else z ∈ zs) := by
  unfold lessN
  rw [List.mem_append, List.mem_filter]
  by_cases e : z = n
  · subst e
    cases on <;> simp
  · cases on <;> simp [e]
theorem Same10.put {d : Nat → Int} {zs : List Int} (h : Same10 d zs) {i k : Nat} (hk : k < 5) (on : Bool) : Same10 (updD d i k on) (lessN ((5 * i + k : Nat) : Int) zs ++ if on then [((5 * i + k : Nat) : Int)] else []) := by
  refine ⟨h.1.upd i hk on, fun n hn => ?_⟩
  rw [onD_upd h.1 hk, mem_put]
  by_cases e : n = 5 * i + k
  · rw [if_pos e, if_pos (by omega)]
  · rw [if_neg e, if_neg (by omega), h.2 n hn]
theorem Same10.read {d : Nat → Int} {zs : List Int} (h : Same10 d zs) {a : Int} (a0 : 0 ≤ a) (a1 : a ≤ 255) : sumR zs a 5 = readS d a 8 := by
  have each : ∀ b, b < 5 → bt (readS d a 8) b = upR zs a b 8 := by
    intro b hb
    rw [Bool.eq_iff_iff, readS_bt h.1 a hb, upR_true]
    constructor
    · rintro H r hr ⟨e1, e2⟩
      refine H r hr ⟨by rw [ask_bit a0 a1 hr]; exact decide_eq_true e1, ?_⟩
      rw [← onD_at d r hb, h.2 _ (by omega)]
      simpa using e2
    · rintro H r hr ⟨e1, e2⟩
      refine H r hr ⟨by rw [ask_bit a0 a1 hr] at e1; exact of_decide_eq_true e1, ?_⟩
      rw [← onD_at d r hb, h.2 _ (by omega)] at e2
      simpa using e2
  have hr := readS_in h.1 a 8
  rw [bt_sum hr.1 hr.2, each 0 (by omega), each 1 (by omega), each 2 (by omega), each 3 (by omega), each 4 (by omega)]
  simp [sumR]

theorem ask_and {a b : Int} (a0 : 0 ≤ a) (a1 : a ≤ 255) (b0 : 0 ≤ b) (b1 : b ≤ 255) {r : Nat} (hr : r < 8) : askH (bits .and .u8 a b) r = (askH a r || askH b r) := by
  obtain ⟨m, rfl⟩ := Int.eq_ofNat_of_zero_le a0
  obtain ⟨n, rfl⟩ := Int.eq_ofNat_of_zero_le b0
  have e := (bits_nat .u8 8 (by decide) wraps_u8 m n (by omega) (by omega)).1
  have hlt : m &&& n < 2 ^ 8 := Nat.and_lt_two_pow _ (by omega)
  rw [e, ask_bit (by omega) (by omega) hr, ask_bit a0 a1 hr, ask_bit b0 b1 hr]
  have one : ∀ x : Nat, decide (((x : Nat) : Int) / 2 ^ r % 2 = 0) = !x.testBit r := by
    intro x
    rw [Nat.testBit_eq_decide_div_mod_eq]
    have : (((x : Nat) : Int) / 2 ^ r % 2 = 0) ↔ (x / 2 ^ r % 2 = 0) := by
      constructor
      · intro h; exact_mod_cast h
      · intro h; exact_mod_cast h
    rw [Bool.eq_iff_iff]
    simp only [decide_eq_true_eq, Bool.not_eq_true', decide_eq_false_iff_not, this]
    omega
  rw [one, one, one, Nat.testBit_and]
  cases m.testBit r <;> cases n.testBit r <;> rfl
theorem read_and {d : Nat → Int} (h : Rows5 d) {a b : Int} (a0 : 0 ≤ a) (a1 : a ≤ 255) (b0 : 0 ≤ b) (b1 : b ≤ 255) : bits .and .u8 (readS d a 8) (readS d b 8) = readS d (bits .and .u8 a b) 8 := by
  have ha := readS_in h a 8
  have hb := readS_in h b 8
  have hab := readS_in h (bits .and .u8 a b) 8
  have hi := and_in ha.1 ha.2 hb.1 hb.2
  refine bt_ext hi.1 hi.2 hab.1 hab.2 fun j hj => ?_
  rw [bt_and ha.1 ha.2 hb.1 hb.2 hj, Bool.eq_iff_iff, Bool.and_eq_true, readS_bt h a hj, readS_bt h b hj, readS_bt h _ hj]
  constructor
  · rintro ⟨h1, h2⟩ r hr ⟨h3, h4⟩
    rw [ask_and a0 a1 b0 b1 hr, Bool.or_eq_true] at h3
    rcases h3 with h3 | h3
    · exact h1 r hr ⟨h3, h4⟩
    · exact h2 r hr ⟨h3, h4⟩
  · intro H
    exact ⟨fun r hr ⟨h3, h4⟩ => H r hr ⟨by rw [ask_and a0 a1 b0 b1 hr, h3]; rfl, h4⟩, fun r hr ⟨h3, h4⟩ => H r hr ⟨by rw [ask_and a0 a1 b0 b1 hr, h3]; simp, h4⟩⟩
theorem ask_255 : ∀ r, r < 8 → askH 255 r = false := by decide +kernel
theorem ask_one : ∀ i, i < 8 → ∀ r, r < 8 → askH (255 - 2 ^ i) r = decide (r = i) := by decide +kernel
theorem readS_off {d : Nat → Int} (a : Int) : ∀ j, (∀ r, r < j → askH a r = false) → readS d a j = 31
  | 0, _ => rfl
  | j + 1, h => by rw [readS, h j (by omega), if_neg (by simp), readS_off a j fun r hr => h r (by omega)]
/-- a key that is down reads 0 in its row -/
theorem read_down {d : Nat → Int} (h : Rows5 d) {i k : Nat} (hi : i < 8) (hk : k < 5) (ho : onD d (5 * i + k) = true) : bt (readS d (255 - 2 ^ i) 8) k = false := by
  cases hc : bt (readS d (255 - 2 ^ i) 8) k with
  | false => rfl
  | true =>
    rw [readS_bt h _ hk] at hc
    rw [onD_at d i hk] at ho
    exact absurd ⟨by rw [ask_one i hi i hi]; simp, ho⟩ (hc i hi)
theorem rows_none {d : Nat → Int} (h : Rows5 d) (ho : ∀ n, n < 40 → onD d n = false) {j : Nat} (hj : j < 8) : d j = 0 := by
  refine bt_ext (h j).1 (h j).2 (by omega) (by omega) fun k hk => ?_
  rw [bt_0 k hk, ← onD_at d j hk]
  exact ho _ (by omega)
theorem read_none {d : Nat → Int} (h : Rows5 d) (ho : ∀ n, n < 40 → onD d n = false) (a : Int) : readS d a 8 = 31 := by
  have hr := readS_in h a 8
  refine bt_ext hr.1 hr.2 (by omega) (by omega) fun k hk => ?_
  rw [bt_31 k hk, readS_bt h a hk]
  rintro r hr ⟨_, h2⟩
  rw [rows_none h ho hr, bt_0 k hk] at h2
  cases h2

end Go.Proofs.Ytfcnlgkaejkneaa
