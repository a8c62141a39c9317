/- Contracts of layer 18: blocks that are read of bytes. -/
import Derived.Test.YtpfojhmaeaeecaaLawWireL
namespace Go.Proofs.Ytpfojhmaeaeecaa
open Go.RowKit Go.Joins

/-- what reading blocks comes to -/
inductive Pr where
  | ok (bs : List (List Int))
  | err (e p : Int)
def Pr.more (d : List (List Int)) : Pr → Pr
  | .ok bs => .ok (d ++ bs)
  | .err e p => .err e p
theorem Pr.more_nil (u : Pr) : Pr.more [] u = u := by cases u <;> simp [Pr.more]
theorem Pr.more_more (d d' : List (List Int)) (u : Pr) : Pr.more d (Pr.more d' u) = Pr.more (d ++ d') u := by cases u <;> simp [Pr.more]
/-- the length in front -/
def lenT (zs : List Int) : Nat := (zs.getD 0 0 + 256 * zs.getD 1 0).toNat
def prs (cnt p : Nat) (zs : List Int) : Pr :=
  if h0 : zs.length = 0 then .ok []
  else if cnt = 4096 then .err 8 p
  else if h2 : zs.length < 2 then .err 2 p
  else if zs.length < 2 + lenT zs then .err 2 (p + 2 : Nat)
  else Pr.more [(zs.drop 2).take (lenT zs)] (prs (cnt + 1) (p + 2 + lenT zs) (zs.drop (2 + lenT zs)))
termination_by zs.length
decreasing_by simp; omega
section
variable {cnt p : Nat} {zs : List Int}
theorem prs_end (h : zs.length = 0) : prs cnt p zs = .ok [] := by rw [prs, dif_pos h]
theorem prs_full (h : zs.length ≠ 0) (hc : cnt = 4096) : prs cnt p zs = .err 8 p := by rw [prs, dif_neg h, if_pos hc]
theorem prs_two (h : zs.length ≠ 0) (hc : cnt ≠ 4096) (h2 : zs.length < 2) : prs cnt p zs = .err 2 p := by rw [prs, dif_neg h, if_neg hc, dif_pos h2]
theorem prs_short (hc : cnt ≠ 4096) (h2 : 2 ≤ zs.length) (h : zs.length < 2 + lenT zs) : prs cnt p zs = .err 2 (p + 2 : Nat) := by rw [prs, dif_neg (by omega), if_neg hc, dif_neg (by omega), if_pos h]
theorem prs_more (hc : cnt ≠ 4096) (h2 : 2 ≤ zs.length) (h : 2 + lenT zs ≤ zs.length) : prs cnt p zs = Pr.more [(zs.drop 2).take (lenT zs)] (prs (cnt + 1) (p + 2 + lenT zs) (zs.drop (2 + lenT zs))) := by rw [prs, dif_neg (by omega), if_neg hc, dif_neg (by omega), if_neg (by omega)]
end
def prsI (zs : List Int) : Pr := if 1048576 < zs.length then .err 8 0 else prs 0 0 zs

theorem own_own_ne {w : World} {B B' : Nat} {e e' : TypeId} {s s' n n' : Nat} {v v' : Value} {xs xs' : List Value} (h : w.ownsRow B e s v n xs) (h' : w.ownsRow B' e' s' v' n' xs') (hne : e ≠ e') : v.ownBlock = none ∨ v.ownBlock ≠ v'.ownBlock := by
  rcases h.2 with ⟨rfl, _⟩ | ⟨g, cap, cur, rfl, _, hh, _⟩
  · exact .inl (by simp [Value.ownBlock])
  · refine .inr ?_
    rcases h'.2 with ⟨rfl, _⟩ | ⟨g', cap', cur', rfl, _, hh', _⟩
    · simp [Value.ownBlock]
    · intro e0
      have : g = g' := by simpa [Value.ownBlock] using e0
      subst this
      exact Blk.ne_ (t := e) (t' := e') hh hh' hne rfl
theorem own_rd_ne {w : World} {B s n g N c : Nat} {e : TypeId} {v : Value} {xs : List Value} {A bad : Option Addr} {p : Int} (h : w.ownsRow B e s v n xs) (hR : Rd w g A N c p bad) (hne : e ≠ 79) : v.ownBlock ≠ some g := own_blk_ne h hR hne

theorem grown_own0 {w w1 w2 : World} {g : Nat} {r : Option Nat} (h : w.grownBy w1 (some g)) (h2 : w1.grownBy w2 r) (hV : ∀ b, r = some b → w.heap.size ≤ b) : w.grownBy w2 (some g) :=
  ⟨h2.os.trans h.os, h2.tape.trans h.tape, h2.output.trans h.output, Nat.le_trans h.size h2.size, fun j hj hne =>
    (h2.block j (Nat.lt_of_lt_of_le hj h.size) (fun e => by have := hV j e.symm; omega)).trans (h.block j hj hne)⟩

/-- the bytes that are taken: own memory -/
theorem take_ok {w : World} {g n c p k B : Nat} {A : Option Addr} {zs : List Int} (h : Rd w g A n c p none) (hr : Reads w B 1 A n (zs.map (Value.int .u8))) (hg : B ≤ g) (hk : p + k ≤ n) (hc : n ≤ c) (hn : n ≤ 2000000) (hcn : c ≤ 9223372036854775807) (hA : A = none → c = 0) :
    Calls Try.prog 31 #[.pointer (some ⟨g, 0, none⟩), .int .i64 k] w fun x w' => ∃ v, x = .returned v ∧ w'.ownsRow w.heap.size 5 1 v k (((zs.drop p).take k).map (Value.int .u8)) ∧ Rd w' g A n c ((p + k : Nat) : Int) none ∧ w.grownBy w' (some g) := by
  obtain ⟨i0, hi, hz0, hz1, hz2⟩ := info_parts u8Info
  have i1 : (0 : Int) ≤ (k : Int) := by omega
  have hglt := h.lt
  have hR0 : Rd (w.alloc (.cells #[] 5)) g A n c p none := Blk.alloc h _
  have hG0 : w.grownBy (w.alloc (.cells #[] 5)) (some g) := World.grownBy_alloc w _ _
  have hlit : (w.alloc (.cells #[] 5)).ownsRow w.heap.size 5 1 (.slice (some ⟨w.heap.size, 0, none⟩) 0 0) 0 [] := World.ownsRow_lit w #[] 0 (Nat.le_refl _) (by decide) rfl
  have hrB : ∀ w' : World, w.grownBy w' (some g) → Reads w' B 1 A n (zs.map (Value.int .u8)) := fun w' hg' => hr.grown hg' (by omega) (fun j hj => by injection hj with hj; omega)
  have HRB := Lib.hid hrB
  clear hrB
  have hs0 : (w.alloc (.cells #[] 5)).heap.size = w.heap.size + 1 := by simp
  go_enter Try.func31, Try.ntmps31
  go_wp2_with fail
  generalize w.alloc (.cells #[] 5) = W at *
  refine (next_ok hR0 hk hc hcn hA).mono ?_
  rintro e w1 ⟨rfl, hR1, hg1⟩
  have hG1 := grown_trans hG0 hg1
  have hs1 := hg1.size
  have hw := reads_win (p := p) (k := k) (HRB.out w1 hG1) hk hc
  have hlit1 := hlit.kept hg1 (.inr (by simp [Value.ownBlock]; omega))
  have hone : ∀ u ∈ ((zs.drop p).take k).map (Value.int .u8), u.oneCell' = true := fun u hu => by
    simp only [List.mem_map] at hu
    obtain ⟨z, _, rfl⟩ := hu
    rfl
  generalize (if c = p then A else A.map (·.add p)) = A' at *
  generalize hnw : ((zs.drop p).take k).map (Value.int .u8) = news at *
  have HNW := Lib.hid hnw
  clear hlit hR0 hG0 hg1 hnw
  go_wp2_with (first
    | (at_builtin; refine wpList_append_any _ rfl _ _ 22 rfl w.heap.size 5 i0 (.int .u8 0) 1 1 Try.underlying22 hi hz0 hz1 hz2 rfl (by decide) _ 0 [] rfl hlit1 _ A' k (c - p) news rfl hw hone (by unfold maxLen; omega) (by omega) (by omega) ?_)
    | go_in)
  intro v2 w2 own2 hg2 _
  have hR2 : Rd w2 g A n c ((p + k : Nat) : Int) none := Blk.grown hR1 hg2 (by simp [Value.ownBlock]; omega)
  have hG2 : w.grownBy w2 (some g) := grown_own0 hG1 hg2 (fun b hb => by simp [Value.ownBlock] at hb; omega)
  go_wp2
  go_ret
  rw [HNW.out]
  exact ⟨_, rfl, by simpa using own2, hR2, hG2⟩

theorem take_short {w : World} {g n c p : Nat} {A : Option Addr} {k : Int} (h : Rd w g A n c p none) (hp : p ≤ n) (hn : n ≤ 2000000) (hk : (n : Int) - p < k) (hk0 : 0 ≤ k) :
    Calls Try.prog 31 #[.pointer (some ⟨g, 0, none⟩), .int .i64 k] w fun x w' => ∃ v h', x = .returned v ∧ w'.ownsRow w.heap.size 5 1 v 0 [] ∧ Rd w' g A n c p (some ⟨h', 0, none⟩) ∧ Ft w' h' 2 p ∧ w.heap.size ≤ h' ∧ w.grownBy w' (some g) := by
  have hglt := h.lt
  have hR0 : Rd (w.alloc (.cells #[] 5)) g A n c p none := Blk.alloc h _
  have hG0 : w.grownBy (w.alloc (.cells #[] 5)) (some g) := World.grownBy_alloc w _ _
  have hlit : (w.alloc (.cells #[] 5)).ownsRow w.heap.size 5 1 (.slice (some ⟨w.heap.size, 0, none⟩) 0 0) 0 [] := World.ownsRow_lit w #[] 0 (Nat.le_refl _) (by decide) rfl
  have hs0 : (w.alloc (.cells #[] 5)).heap.size = w.heap.size + 1 := by simp
  obtain ⟨i0, hi, hz0, hz1, hz2⟩ := info_parts u8Info
  go_enter Try.func31, Try.ntmps31
  go_wp2_with fail
  generalize w.alloc (.cells #[] 5) = W at *
  refine (next_short hR0 hp (by omega) hk).mono ?_
  rintro e w1 ⟨rfl, hR1, hF1, hg1⟩
  have hG1 := grown_trans hG0 hg1
  have hlit1 := hlit.kept hg1 (.inr (by simp [Value.ownBlock]; omega))
  go_wp2_with (first
    | (at_builtin; refine wpList_append_any _ rfl _ _ 22 rfl w.heap.size 5 i0 (.int .u8 0) 1 1 Try.underlying22 hi hz0 hz1 hz2 rfl (by decide) _ 0 [] rfl hlit1 0 none 0 0 [] rfl Reads.none_ (by simp) (by unfold maxLen; omega) (by omega) (by have := hG1.size; omega) ?_)
    | go_in)
  intro v2 w2 own2 hg2 _
  have hR2 : Rd w2 g A n c p (some ⟨W.heap.size, 0, none⟩) := Blk.grown hR1 hg2 (by simp [Value.ownBlock]; omega)
  have hF2 : Ft w2 W.heap.size 2 p := Blk.grown hF1 hg2 (by simp [Value.ownBlock]; omega)
  have hG2 : w.grownBy w2 (some g) := grown_own0 hG1 hg2 (fun b hb => by simp [Value.ownBlock] at hb; omega)
  go_wp2
  go_ret
  exact ⟨_, _, rfl, by simpa using own2, hR2, hF2, by omega, hG2⟩
theorem take_bad {w : World} {g n c : Nat} {p : Int} {A : Option Addr} {ad : Addr} {k : Int} (h : Rd w g A n c p (some ad)) (hk0 : 0 ≤ k) :
    Calls Try.prog 31 #[.pointer (some ⟨g, 0, none⟩), .int .i64 k] w fun x w' => ∃ v, x = .returned v ∧ w'.ownsRow w.heap.size 5 1 v 0 [] ∧ Below w.heap.size w w' := by
  have hR0 : Rd (w.alloc (.cells #[] 5)) g A n c p (some ad) := Blk.alloc h _
  have hb0 : Below w.heap.size w (w.alloc (.cells #[] 5)) := (Below.refl _ _).alloc (Nat.le_refl _) _
  have hlit : (w.alloc (.cells #[] 5)).ownsRow w.heap.size 5 1 (.slice (some ⟨w.heap.size, 0, none⟩) 0 0) 0 [] := World.ownsRow_lit w #[] 0 (Nat.le_refl _) (by decide) rfl
  obtain ⟨i0, hi, hz0, hz1, hz2⟩ := info_parts u8Info
  go_enter Try.func31, Try.ntmps31
  go_wp2_with fail
  generalize w.alloc (.cells #[] 5) = W at *
  refine (next_bad hR0 k).mono ?_
  rintro e w1 ⟨rfl, rfl⟩
  go_wp2_with (first
    | (at_builtin; refine wpList_append_any _ rfl _ _ 22 rfl w.heap.size 5 i0 (.int .u8 0) 1 1 Try.underlying22 hi hz0 hz1 hz2 rfl (by decide) _ 0 [] rfl hlit 0 none 0 0 [] rfl Reads.none_ (by simp) (by unfold maxLen; omega) (by omega) (by have := hb0.size; omega) ?_)
    | go_in)
  intro v2 w2 own2 hg2 _
  have hb2 : Below w.heap.size w w2 := hb0.grown hg2 hb0.size (fun i hi => by simp [Value.ownBlock] at hi; omega)
  go_wp2
  go_ret
  exact ⟨_, rfl, by simpa using own2, hb2⟩

def lenOf (v : Value) : Nat := match v with | .slice _ n _ => n | _ => 0
/-- own pieces of bytes: their values, and their bytes -/
structure Pc where
  v : Value
  zs : List Int
def Pc.ok (w : World) (B : Nat) (q : Pc) : Prop := w.ownsRow B 5 1 q.v q.zs.length (q.zs.map (Value.int .u8))
theorem Pc.ok.le {w : World} {B B' : Nat} {q : Pc} (h : q.ok w B) (hB : B' ≤ B) : q.ok w B' := ownsRow_le h hB
theorem Pc.ok.grown {w w' : World} {B g n c : Nat} {A bad : Option Addr} {p : Int} {q : Pc} (h : q.ok w B) (hR : Rd w g A n c p bad) (hg : w.grownBy w' (some g)) : q.ok w' B := h.kept hg (.inr (own_rd_ne h hR (by decide)))
theorem Pc.ok.below {w w' : World} {B : Nat} {q : Pc} (h : q.ok w B) (hb : Below w.heap.size w w') : q.ok w' B := own_kept h hb
theorem rowInfo18 : (Try.prog.info? 22).map (fun i => (i.zero, i.size, i.bytes)) = some (some (.slice none 0 0), 1, 24) := by kernel_rfl
theorem lenT_at {zs : List Int} (hz : isU8 zs) (h2 : 2 ≤ zs.length) : valL (zs.take 2) = ((lenT zs : Nat) : Int) := by
  match zs, h2 with
  | a :: b :: t, _ =>
    have ha := hz a (by simp)
    have hb := hz b (by simp)
    simp [valL, lenT]
    omega

theorem isU8_drop' {zs : List Int} (h : isU8 zs) (k : Nat) : isU8 (zs.drop k) := fun z hz => h z (List.mem_of_mem_drop hz)
/-- where reading stands: on its way, or behind a fault -/
def PrAt (w : World) (g : Nat) (A : Option Addr) (n c : Nat) (zs : List Int) (U : Pr) (bs : List (List Int)) : Prop :=
  (∃ p : Nat, p ≤ n ∧ Rd w g A n c p none ∧ U = Pr.more bs (prs bs.length p (zs.drop p))) ∨ (∃ (p : Int) (h : Nat) (e q : Int), Rd w g A n c p (some ⟨h, 0, none⟩) ∧ Ft w h e q ∧ U = .err e q)

set_option maxRecDepth 100000 in
set_option maxHeartbeats 8000000 in
theorem parse_any (w : World) (n c : Nat) (A : Option Addr) (zs : List Int) (hr : Reads w w.heap.size 1 A n (zs.map (Value.int .u8))) (hz : isU8 zs) (hnc : n ≤ c) (hc : c ≤ 9223372036854775807) (hn : n ≤ 1048576) :
    Calls Try.prog 23 #[.slice A n c] w fun e w' => Below w.heap.size w w' ∧ (
      (∃ (v : Value) (qs : List Pc), prs 0 0 zs = .ok (qs.map Pc.zs) ∧ e = .returned (.tuple #[v, .nilIface]) ∧ w'.ownsRow w.heap.size 22 1 v qs.length (qs.map Pc.v) ∧ ∀ q ∈ qs, Pc.ok w' w.heap.size q) ∨
      (∃ (h : Nat) (x p : Int), prs 0 0 zs = .err x p ∧ e = .returned (.tuple #[.slice none 0 0, .iface 48 (.pointer (some ⟨h, 0, none⟩))]) ∧ Ft w' h x p)) := by
  obtain ⟨i0, hi, hz0, hz1, hz2⟩ := info_parts rowInfo18
  have HL := Lib.hid (reads_len hr)
  have hnI : (n : Int) ≤ 1048576 := by omega
  obtain ⟨U, hU⟩ : ∃ U, U = prs 0 0 zs := ⟨_, rfl⟩
  rw [← hU]
  have HU := Lib.hid hU
  clear hU
  go_enter Try.func23, Try.ntmps23
  go_wp2_with fail
  refine (read_new w A n c).mono ?_
  rintro e w1 ⟨rfl, hR, hb1⟩
  have hr1 := hr.below hb1
  -- parse loop
  go_wp2
  go_loopw [5] (fun v wr => ∃ qs : List Pc, qs.length ≤ 4096 ∧ PrAt wr w.heap.size A n c zs U (qs.map Pc.zs) ∧ wr.ownsRow w.heap.size 22 1 v qs.length (qs.map Pc.v) ∧ (∀ q ∈ qs, Pc.ok wr w.heap.size q) ∧ Below w.heap.size w wr) (fun v _ => 5000 - lenOf v)
  case atStart => exact ⟨[], by simp, .inl ⟨0, by omega, hR, by rw [HU.out]; exact (Pr.more_nil _).symm⟩, World.ownsRow_nil _ _ _ _, by simp, hb1⟩
  case round =>
    clear hR hb1 hr1
    obtain ⟨qs, hq, hAt, hown, hqs, hbl⟩ := hrel
    obtain ⟨LA, lcap, rfl⟩ := own_slice hown
    have hsz := hbl.size
    rcases hAt with ⟨p, hp, hR, hUp⟩ | ⟨p, hh, e, q, hR, hF, hUe⟩
    · have HUP := Lib.hid hUp
      clear hUp
      go_wp2_with fail
      refine (left_ok hR hp (by omega)).mono ?_
      rintro e w2 ⟨rfl, q0, rfl⟩
      have hR2 := hR.drewN q0
      have hown2 := own_kept hown (below_drewN (Below.refl _ _) q0)
      have hqs2 : ∀ q ∈ qs, Pc.ok (wr.drewN q0) w.heap.size q := fun q hm => (hqs q hm).below (below_drewN (Below.refl _ _) q0)
      have hbl2 := below_drewN hbl q0
      have hdl : (zs.drop p).length = n - p := by rw [List.length_drop, HL.out]
      clear hR hown hqs hbl hsz
      generalize wr.drewN q0 = w2 at *
      by_cases hpn : p < n
      · have hpI : (0 : Int) < (n : Int) - (p : Int) := by omega
        by_cases hfull : qs.length = 4096
        · have hfI : (qs.length : Int) = 4096 := by omega
          have HUF := Lib.hid (show U = .err 8 p by rw [HUP.out, prs_full (by rw [hdl]; omega) (by simpa using hfull)]; rfl)
          go_wp2_with fail
          refine (at_any hR2).mono ?_
          rintro e w3 ⟨rfl, rfl⟩
          go_wp2_with fail
          refine (fail_new hR2 8 p (by decide)).mono ?_
          rintro e w3 ⟨rfl, hR3, hF3, hg3⟩
          have hbl3 : Below w.heap.size w w3 := hbl2.trans (grown_below hg3 (Nat.le_refl _) hbl2.size)
          go_wp2_with fail
          refine (end_bad hR3).mono ?_
          rintro e w4 ⟨rfl, rfl⟩
          go_wp2
          go_ret2
          exact ⟨hbl3, .inr ⟨_, _, _, HUF.out, rfl, hF3⟩⟩
        · have hfB : ((qs.length : Int) == 4096) = false := by simp; omega
          have hfI : (qs.length : Int) < 4096 := by omega
          by_cases h2 : n - p < 2
          · have HUN := Lib.hid (show U = .err 2 p by rw [HUP.out, prs_two (by rw [hdl]; omega) (by simpa using hfull) (by rw [hdl]; exact h2)]; rfl)
            go_wp2_with fail
            refine (number_short (m := 2) hR2 (by omega) (by omega) hp (by omega) (by omega)).mono ?_
            rintro e w2' ⟨rfl, hR2', hF2', hg2'⟩
            have hown2' := hown2.kept hg2' (.inr (own_rd_ne hown2 hR2 (by decide)))
            have hqs2' : ∀ q ∈ qs, Pc.ok w2' w.heap.size q := fun q hm => (hqs2 q hm).grown hR2 hg2'
            have hbl2' : Below w.heap.size w w2' := hbl2.trans (grown_below hg2' (Nat.le_refl _) hbl2.size)
            clear hR2 hown2 hqs2 hg2'
            go_wp2_with fail
            refine (take_bad (k := 0) hR2' (by omega)).mono ?_
            rintro e w3 ⟨V, rfl, hp3', hb3⟩
            have own3 := own_kept hown2' hb3
            have hq3 : ∀ q ∈ qs, Pc.ok w3 w.heap.size q := fun q hm => (hqs2' q hm).below hb3
            have hR3 := hR2'.below hb3
            have hF3 := hF2'.below hb3
            have hp3 := ownsRow_le hp3' hbl2'.size
            have hbl3 : Below w.heap.size w w3 := bthen hbl2' hb3
            generalize w2.heap.size = hh at *
            clear hR2' hF2' hown2' hqs2' hb3 hp3'
            obtain ⟨PA, pc, rfl⟩ := own_slice hp3
            have hne3 : (Value.slice LA qs.length lcap).ownBlock ≠ some w.heap.size := own_rd_ne own3 hR3 (by decide)
            have hnf3 : (Value.slice LA qs.length lcap).ownBlock ≠ some hh := own_blk_ne own3 hF3 (by decide)
            have hs3 := hbl3.size
            go_wp2_with (first
              | (at_builtin; refine wpList_append_own _ rfl _ _ 41 rfl w.heap.size 22 i0 (.slice none 0 0) 1 24 Try.underlying41 hi hz0 hz1 hz2 rfl (by decide) _ qs.length _ rfl (own3.alloc _) ⟨w3.heap.size, 0, none⟩ 1 1 [.slice PA (0) pc] rfl rfl (World.news_of_block (cs := #[.slice PA (0) pc]) (t := 22) (fr := (0, 0)) (heap_alloc_new w3 _)) (by simp [Value.oneCell']) (by unfold maxLen; omega) (by omega) (by simp; omega) ?_)
              | go_in)
            intro v4 w4 own4 hg4 _
            have hb4 : Below w.heap.size w w4 := (hbl3.alloc hs3 (.cells #[.slice PA (0) pc] 22)).grown hg4 (by simp; omega) (fun i hi => (own3.lt i hi).1)
            have hR4 := Blk.grown (Blk.alloc hR3 (.cells #[.slice PA (0) pc] 22)) hg4 (fun e => hne3 e.symm)
            have hF4 := Blk.grown (Blk.alloc hF3 (.cells #[.slice PA (0) pc] 22)) hg4 (fun e => hnf3 e.symm)
            have hq4 : ∀ q ∈ qs, Pc.ok w4 w.heap.size q := fun q hm => (World.ownsRow.alloc (hq3 q hm) (.cells #[.slice PA (0) pc] 22)).kept hg4 (own_own_ne (hq3 q hm) own3 (by decide))
            have hp4 : Pc.ok w4 w.heap.size ⟨.slice PA (0) pc, []⟩ := by
              have := (World.ownsRow.alloc hp3 (.cells #[.slice PA (0) pc] 22)).kept hg4 (own_own_ne hp3 own3 (by decide))
              simpa [Pc.ok] using this
            clear hg4 own3 hq3 hp3 hR3 hne3
            obtain ⟨LA4, lcap4, rfl⟩ := own_slice own4
            go_wp2
            go_roundw
            case rel =>
              refine ⟨qs ++ [⟨.slice PA (0) pc, []⟩], by simp; omega, ?_, by simpa using own4, fun q hm => ?_, hb4⟩
              · exact .inr ⟨_, hh, _, _, hR4, hF4, HUN.out⟩
              · rcases List.mem_append.1 hm with h | h
                · exact hq4 q h
                · obtain rfl : q = _ := by simpa using h
                  exact hp4
            case measure => simp [lenOf]; omega
          · have h2l : 2 ≤ (zs.drop p).length := by rw [hdl]; omega
            have hlen := lenT_at (isU8_drop' hz p) h2l
            have hrr : Reads w2 w.heap.size 1 A n (zs.map (Value.int .u8)) := hr.below hbl2
            have hnum := number_ok (p := p) (m := 2) hR2 hrr hz (Nat.le_refl _) (by omega) (by omega) (by omega) hnc hc
            rw [hlen] at hnum
            have hA : A = none → c = 0 := by
              intro e
              obtain ⟨ad, e', _⟩ := hrr.2 (by omega)
              rw [e] at e'; cases e'
            have HSH := Lib.hid (fun (h : n < p + 2 + lenT (zs.drop p)) => (show U = .err 2 (p + 2 : Nat) by rw [HUP.out, prs_short (by simpa using hfull) h2l (by rw [hdl]; omega)]; rfl))
            have HMO := Lib.hid (fun (h : p + 2 + lenT (zs.drop p) ≤ n) => (show U = Pr.more (qs.map Pc.zs ++ [(zs.drop (p + 2)).take (lenT (zs.drop p))]) (prs (qs.length + 1) (p + 2 + lenT (zs.drop p)) (zs.drop (p + 2 + lenT (zs.drop p)))) by
              rw [HUP.out, prs_more (by simpa using hfull) h2l (by rw [hdl]; omega), Pr.more_more, List.drop_drop, List.drop_drop, List.length_map, show p + (2 + lenT (zs.drop p)) = p + 2 + lenT (zs.drop p) by omega]))
            generalize lenT (zs.drop p) = k at *
            have k0 : (0 : Int) ≤ (k : Int) := by omega
            clear hlen h2l
            go_wp2_with fail
            refine hnum.mono ?_
            rintro e w2' ⟨rfl, hR2', hg2'⟩
            have hown2' := hown2.kept hg2' (.inr (own_rd_ne hown2 hR2 (by decide)))
            have hqs2' : ∀ q ∈ qs, Pc.ok w2' w.heap.size q := fun q hm => (hqs2 q hm).grown hR2 hg2'
            have hbl2' : Below w.heap.size w w2' := hbl2.trans (grown_below hg2' (Nat.le_refl _) hbl2.size)
            have hrr' : Reads w2' w.heap.size 1 A n (zs.map (Value.int .u8)) := hr.below hbl2'
            clear hR2 hown2 hqs2 hg2' hnum hrr
            by_cases hk : p + 2 + k ≤ n
            · have HUN := Lib.hid (HMO.out hk)
              have HPN := Lib.hid (show p + 2 + k ≤ n from hk)
              obtain ⟨PZ, hPZ⟩ : ∃ PZ : List Int, PZ = (zs.drop (p + 2)).take k := ⟨_, rfl⟩
              have htk := take_ok hR2' hrr' (Nat.le_refl _) hk hnc (by omega) hc hA
              rw [← hPZ] at htk HUN
              have HPZ := Lib.hid (show PZ.length = k by rw [hPZ, List.length_take, List.length_drop, HL.out]; omega)
              have HTK := Lib.hid htk
              clear htk hPZ HMO HSH
              go_wp2_with fail
              refine HTK.out.mono ?_
              rintro e w3 ⟨V, rfl, hp3', hR3, hg3⟩
              have own3 := hown2'.kept hg3 (.inr (own_rd_ne hown2' hR2' (by decide)))
              have hq3 : ∀ q ∈ qs, Pc.ok w3 w.heap.size q := fun q hm => (hqs2' q hm).grown hR2' hg3
              have hp3 := ownsRow_le hp3' hbl2'.size
              have hbl3 : Below w.heap.size w w3 := hbl2'.trans (grown_below hg3 (Nat.le_refl _) hbl2'.size)
              clear hR2' hown2' hqs2' hg3 hp3' HTK
              obtain ⟨PA, pc, rfl⟩ := own_slice hp3
              have hne3 : (Value.slice LA qs.length lcap).ownBlock ≠ some w.heap.size := own_rd_ne own3 hR3 (by decide)
              have hs3 := hbl3.size
              go_wp2_with (first
                | (at_builtin; refine wpList_append_own _ rfl _ _ 41 rfl w.heap.size 22 i0 (.slice none 0 0) 1 24 Try.underlying41 hi hz0 hz1 hz2 rfl (by decide) _ qs.length _ rfl (own3.alloc _) ⟨w3.heap.size, 0, none⟩ 1 1 [.slice PA (k) pc] rfl rfl (World.news_of_block (cs := #[.slice PA (k) pc]) (t := 22) (fr := (0, 0)) (heap_alloc_new w3 _)) (by simp [Value.oneCell']) (by unfold maxLen; omega) (by omega) (by simp; omega) ?_)
                | go_in)
              intro v4 w4 own4 hg4 _
              have hb4 : Below w.heap.size w w4 := (hbl3.alloc hs3 (.cells #[.slice PA (k) pc] 22)).grown hg4 (by simp; omega) (fun i hi => (own3.lt i hi).1)
              have hR4 := Blk.grown (Blk.alloc hR3 (.cells #[.slice PA (k) pc] 22)) hg4 (fun e => hne3 e.symm)
              have hq4 : ∀ q ∈ qs, Pc.ok w4 w.heap.size q := fun q hm => (World.ownsRow.alloc (hq3 q hm) (.cells #[.slice PA (k) pc] 22)).kept hg4 (own_own_ne (hq3 q hm) own3 (by decide))
              have hp4 : Pc.ok w4 w.heap.size ⟨.slice PA (k) pc, PZ⟩ := by
                have := (World.ownsRow.alloc hp3 (.cells #[.slice PA (k) pc] 22)).kept hg4 (own_own_ne hp3 own3 (by decide))
                simpa [Pc.ok, HPZ.out] using this
              clear hg4 own3 hq3 hp3 hR3 hne3
              obtain ⟨LA4, lcap4, rfl⟩ := own_slice own4
              go_wp2
              go_roundw
              case rel =>
                refine ⟨qs ++ [⟨.slice PA (k) pc, PZ⟩], by simp; omega, ?_, by simpa using own4, fun q hm => ?_, hb4⟩
                · rw [List.map_append]
                  exact .inl ⟨_, HPN.out, hR4, by simpa using HUN.out⟩
                · rcases List.mem_append.1 hm with h | h
                  · exact hq4 q h
                  · obtain rfl : q = _ := by simpa using h
                    exact hp4
              case measure => simp [lenOf]; omega
            · have HUN := Lib.hid (HSH.out (by omega))
              go_wp2_with fail
              refine (take_short hR2' (by omega) (by omega) (by omega) k0).mono ?_
              rintro e w3 ⟨V, hh, rfl, hp3', hR3, hF3, _, hg3⟩
              have own3 := hown2'.kept hg3 (.inr (own_rd_ne hown2' hR2' (by decide)))
              have hq3 : ∀ q ∈ qs, Pc.ok w3 w.heap.size q := fun q hm => (hqs2' q hm).grown hR2' hg3
              have hp3 := ownsRow_le hp3' hbl2'.size
              have hbl3 : Below w.heap.size w w3 := hbl2'.trans (grown_below hg3 (Nat.le_refl _) hbl2'.size)
              clear hR2' hown2' hqs2' hg3 hp3' HMO HSH
              obtain ⟨PA, pc, rfl⟩ := own_slice hp3
              have hne3 : (Value.slice LA qs.length lcap).ownBlock ≠ some w.heap.size := own_rd_ne own3 hR3 (by decide)
              have hnf3 : (Value.slice LA qs.length lcap).ownBlock ≠ some hh := own_blk_ne own3 hF3 (by decide)
              have hs3 := hbl3.size
              go_wp2_with (first
                | (at_builtin; refine wpList_append_own _ rfl _ _ 41 rfl w.heap.size 22 i0 (.slice none 0 0) 1 24 Try.underlying41 hi hz0 hz1 hz2 rfl (by decide) _ qs.length _ rfl (own3.alloc _) ⟨w3.heap.size, 0, none⟩ 1 1 [.slice PA (0) pc] rfl rfl (World.news_of_block (cs := #[.slice PA (0) pc]) (t := 22) (fr := (0, 0)) (heap_alloc_new w3 _)) (by simp [Value.oneCell']) (by unfold maxLen; omega) (by omega) (by simp; omega) ?_)
                | go_in)
              intro v4 w4 own4 hg4 _
              have hb4 : Below w.heap.size w w4 := (hbl3.alloc hs3 (.cells #[.slice PA (0) pc] 22)).grown hg4 (by simp; omega) (fun i hi => (own3.lt i hi).1)
              have hR4 := Blk.grown (Blk.alloc hR3 (.cells #[.slice PA (0) pc] 22)) hg4 (fun e => hne3 e.symm)
              have hF4 := Blk.grown (Blk.alloc hF3 (.cells #[.slice PA (0) pc] 22)) hg4 (fun e => hnf3 e.symm)
              have hq4 : ∀ q ∈ qs, Pc.ok w4 w.heap.size q := fun q hm => (World.ownsRow.alloc (hq3 q hm) (.cells #[.slice PA (0) pc] 22)).kept hg4 (own_own_ne (hq3 q hm) own3 (by decide))
              have hp4 : Pc.ok w4 w.heap.size ⟨.slice PA (0) pc, []⟩ := by
                have := (World.ownsRow.alloc hp3 (.cells #[.slice PA (0) pc] 22)).kept hg4 (own_own_ne hp3 own3 (by decide))
                simpa [Pc.ok] using this
              clear hg4 own3 hq3 hp3 hR3 hne3
              obtain ⟨LA4, lcap4, rfl⟩ := own_slice own4
              go_wp2
              go_roundw
              case rel =>
                refine ⟨qs ++ [⟨.slice PA (0) pc, []⟩], by simp; omega, ?_, by simpa using own4, fun q hm => ?_, hb4⟩
                · exact .inr ⟨_, hh, _, _, hR4, hF4, HUN.out⟩
                · rcases List.mem_append.1 hm with h | h
                  · exact hq4 q h
                  · obtain rfl : q = _ := by simpa using h
                    exact hp4
              case measure => simp [lenOf]; omega
      · obtain rfl : p = n := by omega
        have HUN := Lib.hid (show U = .ok (qs.map Pc.zs) by rw [HUP.out, prs_end (by rw [hdl]; omega)]; simp [Pr.more])
        go_wp2_with fail
        refine (end_ok hR2).mono ?_
        rintro e w3 ⟨rfl, q1, rfl⟩
        go_wp2
        go_ret2
        exact ⟨below_drewN hbl2 q1, .inl ⟨_, qs, HUN.out, rfl, own_kept hown2 (below_drewN (Below.refl _ _) q1), fun q hm => (hqs2 q hm).below (below_drewN (Below.refl _ _) q1)⟩⟩
    · go_wp2_with fail
      refine (left_bad hR).mono ?_
      rintro e' w2 ⟨rfl, rfl⟩
      go_wp2_with fail
      refine (end_bad hR).mono ?_
      rintro e' w2 ⟨rfl, rfl⟩
      go_wp2
      go_ret2
      exact ⟨hbl, .inr ⟨_, _, _, hUe, rfl, hF⟩⟩

end Go.Proofs.Ytpfojhmaeaeecaa
