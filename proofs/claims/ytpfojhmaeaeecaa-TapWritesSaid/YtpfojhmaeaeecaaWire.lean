/- Contracts of layer 17: a reader of bytes, its place and its fault. -/
import Derived.Test.YtpfojhmaeaeecaaBytes
import Derived.BigQuiet
import Derived.Lib.SmallJoins
import Derived.Lib.EndianBits
namespace Go.Proofs.Ytpfojhmaeaeecaa
open Go.RowKit

/-- a reader's three cells -/
def rdA (A : Option Addr) (n c : Nat) (p : Int) (bad : Option Addr) : Array Value := #[.slice A n c, .int .i64 p, .pointer bad]
def Rd (w : World) (g : Nat) (A : Option Addr) (n c : Nat) (p : Int) (bad : Option Addr) : Prop := Blk w g 79 (rdA A n c p bad)
/-- a fault's two cells -/
def Ft (w : World) (h : Nat) (e p : Int) : Prop := Blk w h 51 #[.int .i64 e, .int .i64 p]
section
variable {w w' : World} {g n c : Nat} {A bad : Option Addr} {p : Int}
theorem Rd.c0 (h : Rd w g A n c p bad) : w.cell? ⟨g, 0, none⟩ = some (.slice A n c) := (Blk.cell h 0).trans rfl
theorem Rd.c1 (h : Rd w g A n c p bad) : w.cell? ⟨g, 1, none⟩ = some (.int .i64 p) := (Blk.cell h 1).trans rfl
theorem Rd.c2 (h : Rd w g A n c p bad) : w.cell? ⟨g, 2, none⟩ = some (.pointer bad) := (Blk.cell h 2).trans rfl
theorem Rd.f1 (h : Rd w g A n c p bad) : w.frozen? ⟨g, 1, none⟩ = false := Blk.frozen h 1
theorem Rd.f2 (h : Rd w g A n c p bad) : w.frozen? ⟨g, 2, none⟩ = false := Blk.frozen h 2
theorem Rd.lt (h : Rd w g A n c p bad) : g < w.heap.size := Blk.lt h
theorem Rd.below (h : Rd w g A n c p bad) (k : Below w.heap.size w w') : Rd w' g A n c p bad := Blk.below h k h.lt
theorem Rd.drewN (h : Rd w g A n c p bad) (q : Nat) : Rd (w.drewN q) g A n c p bad := Blk.drewN h q
theorem Rd.set1 (h : Rd w g A n c p bad) (p' : Int) : Rd (w.setCell ⟨g, 1, none⟩ (.int .i64 p')) g A n c p' bad := Blk.set_ h 1 _
theorem Rd.set2 (h : Rd w g A n c p bad) (b' : Option Addr) : Rd (w.setCell ⟨g, 2, none⟩ (.pointer b')) g A n c p b' := Blk.set_ h 2 _
end
theorem grown_drewN {w : World} (q : Nat) (r : Option Nat) : w.grownBy (w.drewN q) r := ⟨rfl, rfl, rfl, Nat.le_refl _, fun _ _ _ => rfl⟩
theorem grown_set {w : World} {g i : Nat} (v : Value) : w.grownBy (w.setCell ⟨g, i, none⟩ v) (some g) :=
  ⟨rfl, rfl, rfl, by simp [World.setCell], fun j _ hne => Below.heap_setCell w ⟨g, i, none⟩ v j (fun e => hne (by rw [e]))⟩
theorem grown_trans {w w1 w2 : World} {r : Option Nat} (h : w.grownBy w1 r) (h' : w1.grownBy w2 r) : w.grownBy w2 r :=
  ⟨h'.os.trans h.os, h'.tape.trans h.tape, h'.output.trans h.output, Nat.le_trans h.size h'.size, fun j hj hne => (h'.block j (Nat.lt_of_lt_of_le hj h.size) hne).trans (h.block j hj hne)⟩

theorem read_new (w : World) (A : Option Addr) (n c : Nat) :
    Calls Try.prog 17 #[.slice A n c] w fun e w' => e = .returned (.pointer (some ⟨w.heap.size, 0, none⟩)) ∧ Rd w' w.heap.size A n c 0 none ∧ Below w.heap.size w w' := by
  go_enter Try.func17, Try.ntmps17
  go_wp2
  go_ret
  exact ⟨rfl, Blk.new w _ _, (Below.refl _ _).alloc (Nat.le_refl _) _⟩

theorem fail_new {w : World} {g n c : Nat} {A : Option Addr} {p : Int} (h : Rd w g A n c p none) (e q : Int) (he : (e == 0) = false) :
    Calls Try.prog 26 #[.pointer (some ⟨g, 0, none⟩), .int .i64 e, .int .i64 q] w fun x w' => x = .returned (.tuple #[]) ∧ Rd w' g A n c p (some ⟨w.heap.size, 0, none⟩) ∧ Ft w' w.heap.size e q ∧ w.grownBy w' (some g) := by
  have c2 := h.c2
  have f2 := h.f2
  have hl := h.lt
  have hR : Rd ((w.setCell ⟨g, 2, none⟩ (.pointer (some ⟨w.heap.size, 0, none⟩))).alloc (.cells #[.int .i64 e, .int .i64 q] 51)) g A n c p (some ⟨w.heap.size, 0, none⟩) := Blk.alloc (h.set2 _) _
  have hsz : (w.setCell ⟨g, 2, none⟩ (.pointer (some ⟨w.heap.size, 0, none⟩))).heap.size = w.heap.size := by simp [World.setCell]
  have hF : Ft ((w.setCell ⟨g, 2, none⟩ (.pointer (some ⟨w.heap.size, 0, none⟩))).alloc (.cells #[.int .i64 e, .int .i64 q] 51)) w.heap.size e q := by
    have := Blk.new (w.setCell ⟨g, 2, none⟩ (.pointer (some ⟨w.heap.size, 0, none⟩))) 51 #[.int .i64 e, .int .i64 q]
    rw [hsz] at this
    exact this
  have hG : w.grownBy ((w.setCell ⟨g, 2, none⟩ (.pointer (some ⟨w.heap.size, 0, none⟩))).alloc (.cells #[.int .i64 e, .int .i64 q] 51)) (some g) := grown_trans (grown_set _) (World.grownBy_alloc _ _ _)
  go_enter Try.func26, Try.ntmps26
  go_wp2
  first | go_end0 | refine bodyPost_ret (results_none rfl _ _ _) rfl ?_
  exact ⟨rfl, hR, hF, hG⟩
theorem fail_bad {w : World} {g n c : Nat} {A : Option Addr} {ad : Addr} {p : Int} (h : Rd w g A n c p (some ad)) (e q : Int) :
    Calls Try.prog 26 #[.pointer (some ⟨g, 0, none⟩), .int .i64 e, .int .i64 q] w fun x w' => x = .returned (.tuple #[]) ∧ w = w' := by
  have c2 := h.c2
  go_enter Try.func26, Try.ntmps26
  go_wp2
  first | go_end0 | refine bodyPost_ret (results_none rfl _ _ _) rfl ?_
  exact ⟨rfl, rfl⟩
theorem at_any {w : World} {g n c : Nat} {A bad : Option Addr} {p : Int} (h : Rd w g A n c p bad) :
    Calls Try.prog 32 #[.pointer (some ⟨g, 0, none⟩)] w fun x w' => x = .returned (.int .i64 p) ∧ w = w' := by
  have c1 := h.c1
  go_enter Try.func32, Try.ntmps32
  go_wp2
  go_ret
  exact ⟨rfl, rfl⟩
theorem left_ok {w : World} {g n c p : Nat} {A : Option Addr} (h : Rd w g A n c p none) (hp : p ≤ n) (hn : n ≤ 9223372036854775807) :
    Calls Try.prog 33 #[.pointer (some ⟨g, 0, none⟩)] w fun x w' => x = .returned (.int .i64 ((n : Int) - p)) ∧ ∃ q, w' = w.drewN q := by
  have c0 := h.c0
  have c1 := h.c1
  have c2 := h.c2
  go_enter Try.func33, Try.ntmps33
  go_wp2
  go_quiet (fail)
  go_wp2
  go_ret
  exact ⟨rfl, _, rfl⟩
theorem left_bad {w : World} {g n c : Nat} {A : Option Addr} {ad : Addr} {p : Int} (h : Rd w g A n c p (some ad)) :
    Calls Try.prog 33 #[.pointer (some ⟨g, 0, none⟩)] w fun x w' => x = .returned (.int .i64 0) ∧ w = w' := by
  have c2 := h.c2
  go_enter Try.func33, Try.ntmps33
  go_wp2
  go_ret
  exact ⟨rfl, rfl⟩
theorem bad_some {w : World} {g n c : Nat} {A : Option Addr} {ad : Addr} {p : Int} (h : Rd w g A n c p (some ad)) :
    Calls Try.prog 34 #[.pointer (some ⟨g, 0, none⟩)] w fun x w' => x = .returned (.bool true) ∧ w = w' := by
  have c2 := h.c2
  go_enter Try.func34, Try.ntmps34
  go_wp2
  go_ret
  exact ⟨rfl, rfl⟩

theorem reads_win {w : World} {B n c p k : Nat} {A : Option Addr} {zs : List Int} (h : Reads w B 1 A n (zs.map (Value.int .u8))) (hk : p + k ≤ n) (hc : n ≤ c) :
    Reads w B 1 (if c = p then A else A.map (·.add p)) k (((zs.drop p).take k).map (Value.int .u8)) := by
  have hl := reads_len h
  refine ⟨by simp; omega, fun hn => ?_⟩
  obtain ⟨ad, rfl, hb, hcell⟩ := h.2 (by omega)
  rw [if_neg (by omega)]
  refine ⟨ad.add p, rfl, by rw [block_of_add]; exact hb, fun j u hu => ?_⟩
  rw [add_of_add]
  rw [List.getElem?_map, List.getElem?_take] at hu
  split at hu
  · rw [List.getElem?_drop, ← List.getElem?_map] at hu
    exact hcell _ u hu
  · cases hu

theorem next_bad {w : World} {g n c : Nat} {A : Option Addr} {ad : Addr} {p : Int} (h : Rd w g A n c p (some ad)) (k : Int) :
    Calls Try.prog 43 #[.pointer (some ⟨g, 0, none⟩), .int .i64 k] w fun x w' => x = .returned (.slice none 0 0) ∧ w = w' := by
  have c2 := h.c2
  go_enter Try.func43, Try.ntmps43
  go_wp2
  go_ret
  exact ⟨rfl, rfl⟩
theorem next_short {w : World} {g n c p : Nat} {A : Option Addr} {k : Int} (h : Rd w g A n c p none) (hp : p ≤ n) (hn : n ≤ 9223372036854775807) (hk : (n : Int) - p < k) :
    Calls Try.prog 43 #[.pointer (some ⟨g, 0, none⟩), .int .i64 k] w fun x w' => x = .returned (.slice none 0 0) ∧ Rd w' g A n c p (some ⟨w.heap.size, 0, none⟩) ∧ Ft w' w.heap.size 2 p ∧ w.grownBy w' (some g) := by
  have c1 := h.c1
  have c2 := h.c2
  go_enter Try.func43, Try.ntmps43
  go_wp2_with fail
  refine (left_ok h hp hn).mono ?_
  rintro e w1 ⟨rfl, q, rfl⟩
  have h1 := h.drewN q
  have hg1 := grown_drewN (w := w) q (some g)
  have hs : (w.drewN q).heap.size = w.heap.size := rfl
  generalize w.drewN q = W at *
  have d1 := h1.c1
  go_wp2_with fail
  refine (fail_new h1 2 p (by decide)).mono ?_
  rintro e w2 ⟨rfl, hR, hF, hg⟩
  rw [hs] at hR hF
  go_wp2
  go_ret
  exact ⟨rfl, hR, hF, grown_trans hg1 hg⟩
set_option maxHeartbeats 1000000 in
theorem next_ok {w : World} {g n c p k : Nat} {A : Option Addr} (h : Rd w g A n c p none) (hk : p + k ≤ n) (hc : n ≤ c) (hn : c ≤ 9223372036854775807) (hA : A = none → c = 0) :
    Calls Try.prog 43 #[.pointer (some ⟨g, 0, none⟩), .int .i64 k] w fun x w' => x = .returned (.slice (if c = p then A else A.map (·.add p)) k (c - p)) ∧ Rd w' g A n c ((p + k : Nat) : Int) none ∧ w.grownBy w' (some g) := by
  have c0 := h.c0
  have c1 := h.c1
  have c2 := h.c2
  go_enter Try.func43, Try.ntmps43
  go_wp2_with fail
  refine (left_ok h (by omega) (by omega)).mono ?_
  rintro e w1 ⟨rfl, q, rfl⟩
  have hwr : IntKind.i64.wrap ((p : Int) + (k : Int)) = (p : Int) + (k : Int) := by rw [IntKind.wrap_i64]; omega
  have hI : ¬ (n : Int) - (p : Int) < (k : Int) := by omega
  have h1 := h.drewN q
  have hg1 := grown_drewN (w := w) q (some g)
  generalize w.drewN q = W at *
  have d0 := h1.c0
  have d1 := h1.c1
  have df := h1.f1
  have i1 : (0 : Int) ≤ (p : Int) := by omega
  have i2 : (p : Int) ≤ (p : Int) + (k : Int) := by omega
  have i3 : (p : Int) + (k : Int) ≤ (c : Int) := by omega
  rcases A with _ | ad
  · obtain rfl := hA rfl
    obtain rfl : n = 0 := by omega
    obtain rfl : p = 0 := by omega
    obtain rfl : k = 0 := by omega
    go_wp2
    go_quiet (fail)
    have h2 := (h1.drewN nq).set1 0
    have hg2 := grown_trans (grown_trans hg1 (grown_drewN nq (some g))) (grown_set (w := W.drewN nq) (g := g) (i := 1) (.int .i64 0))
    go_wp2
    go_ret
    exact ⟨rfl, h2, hg2⟩
  · have h2 : ∀ nq, Rd ((W.drewN nq).setCell ⟨g, 1, none⟩ (.int .i64 ((p : Int) + (k : Int)))) g (some ad) n c ((p + k : Nat) : Int) none := fun nq => by
      have := (h1.drewN nq).set1 ((p : Int) + (k : Int))
      rwa [← Int.natCast_add] at this ⊢
    have hg2 : ∀ nq, w.grownBy ((W.drewN nq).setCell ⟨g, 1, none⟩ (.int .i64 ((p : Int) + (k : Int)))) (some g) := fun nq => grown_trans (grown_trans hg1 (grown_drewN nq (some g))) (grown_set _)
    have hpk : p + k - p = k := by omega
    by_cases hcp : c = p
    · go_wp2
      go_quiet (fail)
      go_wp2
      go_ret
      exact ⟨rfl, by have := h2 nq; rw [hcp] at this; simpa using this, hg2 nq⟩
    · go_wp2
      go_quiet (fail)
      go_wp2
      go_ret
      exact ⟨rfl, by first | exact h2 nq | simpa using h2 nq, hg2 nq⟩

/-- bytes as a number, the lowest first -/
def valL : List Int → Int
  | [] => 0
  | z :: t => z + 256 * valL t
theorem valL_app (l : List Int) (z : Int) : valL (l ++ [z]) = valL l + z * 256 ^ l.length := by
  induction l with
  | nil => simp [valL]
  | cons a t ih =>
    rw [List.cons_append, valL, ih, valL, List.length_cons, Int.pow_succ, Int.mul_add]
    have : 256 * (z * 256 ^ t.length) = z * (256 ^ t.length * 256) := by rw [Int.mul_comm (256 ^ t.length) 256, ← Int.mul_assoc, Int.mul_comm 256 z, Int.mul_assoc]
    omega
theorem valL_in : ∀ {l : List Int}, isU8 l → 0 ≤ valL l ∧ valL l < 256 ^ l.length
  | [], _ => by simp [valL]
  | a :: t, h => by
    have ih := valL_in (l := t) fun z hz => h z (by simp [hz])
    have ha := h a (by simp)
    rw [valL, List.length_cons, Int.pow_succ]
    omega

theorem wraps_i64' (n : Int) (h0 : 0 ≤ n) (h1 : n < 2 ^ 62) : IntKind.i64.wrap n = n := by rw [IntKind.wrap_i64]; omega
section
variable {V z : Int}
theorem or_0 (v0 : 0 ≤ V) (v1 : V < 1) (z0 : 0 ≤ z) (z1 : z ≤ 255) : bits .or .i64 V z = V + z := by
  rw [bits_join_low .i64 62 (by decide) wraps_i64' 0 V z v0 (by omega) (by omega) z0 (by omega) (by omega)]
theorem or_1 (v0 : 0 ≤ V) (v1 : V < 256) (z0 : 0 ≤ z) (z1 : z ≤ 255) : bits .or .i64 V (z * 256) = V + z * 256 := by
  rw [bits_join_low .i64 62 (by decide) wraps_i64' 8 V (z * 256) v0 (by omega) (by omega) (by omega) (by omega) (by omega)]
theorem or_2 (v0 : 0 ≤ V) (v1 : V < 65536) (z0 : 0 ≤ z) (z1 : z ≤ 255) : bits .or .i64 V (z * 65536) = V + z * 65536 := by
  rw [bits_join_low .i64 62 (by decide) wraps_i64' 16 V (z * 65536) v0 (by omega) (by omega) (by omega) (by omega) (by omega)]
theorem or_3 (v0 : 0 ≤ V) (v1 : V < 16777216) (z0 : 0 ≤ z) (z1 : z ≤ 255) : bits .or .i64 V (z * 16777216) = V + z * 16777216 := by
  rw [bits_join_low .i64 62 (by decide) wraps_i64' 24 V (z * 16777216) v0 (by omega) (by omega) (by omega) (by omega) (by omega)]
end

set_option maxRecDepth 100000 in
set_option maxHeartbeats 2000000 in
theorem number_any (w : World) (B k c : Nat) (A : Option Addr) (zs : List Int) (hr : Reads w B 1 A k (zs.map (Value.int .u8))) (hz : isU8 zs) (hk : k ≤ 4) :
    Calls Try.prog 42 #[.slice A k c] w fun e w' => e = .returned (.int .i64 (valL zs)) ∧ w = w' := by
  have HL := Lib.hid (reads_len hr)
  go_enter Try.func42, Try.ntmps42
  go_wp2
  go_loop [3, 8] (fun v x => ∃ i : Nat, i ≤ k ∧ x = .int .i64 i ∧ v = .int .i64 (valL (zs.take i))) (fun _ x => k - (intOf x).toNat)
  case atStart => exact ⟨0, by omega, rfl, rfl⟩
  case round =>
    obtain ⟨i, hi, rfl, rfl⟩ := hrel
    by_cases hlt : i < k
    · obtain ⟨ad, rfl, hab, hcl⟩ := u8_at hr hlt
      have ht := take_snocI zs i (by rw [HL.out]; exact hlt)
      have hv := valL_app (zs.take i) (zs.getD i 0)
      rw [← ht, List.length_take, HL.out, show min i k = i by omega] at hv
      have hin := valL_in (l := zs.take i) (fun z h => hz z (List.mem_of_mem_take h))
      rw [List.length_take, HL.out, show min i k = i by omega] at hin
      obtain ⟨z0, z1⟩ := isU8_at hz (k := i) (by rw [HL.out]; exact hlt)
      clear ht
      generalize valL (zs.take i) = V at *
      generalize zs.getD i 0 = z at *
      obtain ⟨v0, v1⟩ := hin
      rcases (show i = 0 ∨ i = 1 ∨ i = 2 ∨ i = 3 by omega) with rfl | rfl | rfl | rfl
      · simp only [show ((256 : Int) ^ 0) = 1 from rfl] at v1 hv
        rw [Int.mul_one] at hv
        have HV := Lib.hid hv
        clear hv
        have hor := or_0 v0 v1 z0 z1
        rw [add_zero_] at hcl
        go_wp2
        go_round
        case rel => exact ⟨0 + 1, by omega, rfl, by rw [HV.out]⟩
        case measure => first | (simp [intOf]; done) | (simp [intOf]; omega)
      · simp only [show ((256 : Int) ^ 1) = 256 from rfl] at v1 hv
        have HV := Lib.hid hv
        clear hv
        have hor := or_1 v0 v1 z0 z1
        rw [add_lit ad 1 (by decide)] at hcl
        go_wp2
        go_round
        case rel => exact ⟨1 + 1, by omega, rfl, by rw [HV.out]⟩
        case measure => first | (simp [intOf]; done) | (simp [intOf]; omega)
      · simp only [show ((256 : Int) ^ 2) = 65536 from rfl] at v1 hv
        have HV := Lib.hid hv
        clear hv
        have hor := or_2 v0 v1 z0 z1
        rw [add_lit ad 2 (by decide)] at hcl
        go_wp2
        go_round
        case rel => exact ⟨2 + 1, by omega, rfl, by rw [HV.out]⟩
        case measure => first | (simp [intOf]; done) | (simp [intOf]; omega)
      · simp only [show ((256 : Int) ^ 3) = 16777216 from rfl] at v1 hv
        have HV := Lib.hid hv
        clear hv
        have hor := or_3 v0 v1 z0 z1
        rw [add_lit ad 3 (by decide)] at hcl
        go_wp2
        go_round
        case rel => exact ⟨3 + 1, by omega, rfl, by rw [HV.out]⟩
        case measure => first | (simp [intOf]; done) | (simp [intOf]; omega)
    · have hk2 : zs.take i = zs := by have := HL.out; rw [List.take_of_length_le (by omega)]
      have HK := Lib.hid hk2
      clear hk2
      go_wp2
      go_ret
      exact ⟨by rw [HK.out]; rfl, rfl⟩

end Go.Proofs.Ytpfojhmaeaeecaa
