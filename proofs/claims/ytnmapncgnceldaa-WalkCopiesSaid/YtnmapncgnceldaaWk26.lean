/- Layer 24: the walk of WalkGoes. -/
import Derived.Test.YtnmapncgnceldaaWk24
import Derived.Test.YtnmapncgnceldaaWk25
import Derived.Test.YtnmapncgnceldaaWk17
namespace Go.Proofs.Ytnmapncgnceldaa
open Go.RowKit

def LightO (bs : List WB) (x : Ending) : Prop := ∃ b : Bool, (b = true ↔ Lite bs) ∧ x = .returned (.bool b)
set_option maxRecDepth 100000 in
set_option maxHeartbeats 4000000 in
theorem light_any (w : World) (LA : Option Addr) (n lc : Nat) (bs : List WB) (hB : BlksR w (· < w.heap.size) LA n bs) :
    Calls Try.prog 7 #[.slice LA n lc] w fun x w' => LightO bs x ∧ w = w' := by
  have hl := hB.len
  have HB := Lib.hid (And.intro hB hl)
  clear hB hl
  by_cases hn : n ≤ 60
  · have hnI : ¬ (60 : Int) < (n : Int) := by omega
    have hnN : ¬ 60 < n := by omega
    go_enter Try.func7, Try.ntmps7
    go_upto_region 4 with fail
    go_loop [3] (fun x => ∃ k : Nat, x = .int .i64 (k : Int) ∧ k ≤ n ∧ ∀ i, i < k → (bs.getD i default).ts.length ≤ 60 ∧ (bs.getD i default).ns.length ≤ 60) (fun x => n - (intOf x).toNat)
    case atStart => exact ⟨0, rfl, by omega, fun i hi => absurd hi (by omega)⟩
    case round =>
      obtain ⟨k, rfl, hkn, hno⟩ := hrel
      have hk0 : (0 : Int) ≤ (k : Int) := Int.natCast_nonneg _
      by_cases hlt : k < n
      · have hkI : (k : Int) < (n : Int) := by omega
        have hwk : IntKind.i64.wrap ((k : Int) + 1) = (k : Int) + 1 := by rw [IntKind.wrap_i64]; omega
        obtain ⟨ad, rfl, hab, cs, hWB, hc18⟩ := HB.out.1.at_ (i := k) hlt
        obtain ⟨d, hd⟩ : ∃ d, d = bs.getD k default := ⟨_, rfl⟩
        rw [← hd] at hWB
        obtain ⟨v2, v3, v4, v5, v6, v7, v9, v10, v11, v12, TA, tn, tc, IA, ic, v15, v16, v17, hcs, h1c, hTs, hIs⟩ := hWB
        subst hcs
        obtain ⟨M, hM⟩ : ∃ M, M = d.ns.length := ⟨_, rfl⟩
        have c13 : w.cell? ⟨(ad.add (k * 18)).block, (ad.add (k * 18)).off + 13, none⟩ = some (.slice TA tn tc) := by
          have := hc18 13 (.slice TA tn tc) rfl
          rw [show (ad.add (k * 18)).add 13 = ⟨(ad.add (k * 18)).block, (ad.add (k * 18)).off + 13, none⟩ from by unfold Addr.add; rw [if_neg (by decide)]] at this
          exact this
        have c14 : w.cell? ⟨(ad.add (k * 18)).block, (ad.add (k * 18)).off + 14, none⟩ = some (.slice IA M ic) := by
          have := hc18 14 (.slice IA d.ns.length ic) rfl
          rw [show (ad.add (k * 18)).add 14 = ⟨(ad.add (k * 18)).block, (ad.add (k * 18)).off + 14, none⟩ from by unfold Addr.add; rw [if_neg (by decide)], ← hM] at this
          exact this
        have htl : d.ts.length = tn := reads_len (hTs.reads (B := w.heap.size) (fun b h => h))
        have HX := Lib.hid (And.intro hno (And.intro hd (And.intro htl hM)))
        clear hno hd htl hM hc18 h1c hTs hIs
        by_cases ht : tn ≤ 60
        · have htI : ¬ (60 : Int) < (tn : Int) := by omega
          have htN : ¬ 60 < tn := by omega
          have htd : decide (60 < tn) = false := by simpa using ht
          by_cases hm : M ≤ 60
          · have hmI : ¬ (60 : Int) < (M : Int) := by omega
            have hmN : ¬ 60 < M := by omega
            go_wp2
            go_round
            case rel => exact ⟨k + 1, by go_num, by omega, fun i hi => by
              rcases Nat.lt_or_ge i k with h | h
              · exact HX.out.1 i h
              · obtain rfl : i = k := by omega
                rw [← HX.out.2.1]
                exact ⟨by rw [HX.out.2.2.1]; exact ht, by rw [← HX.out.2.2.2]; exact hm⟩⟩
            case measure => simp [intOf]; omega
          · have hmI : (60 : Int) < (M : Int) := by omega
            have hmN : 60 < M := by omega
            have HF := Lib.hid (show ¬ Lite bs from fun h => hm (by have := (h.2 k (by rw [HB.out.2]; exact hlt)).2; rw [← HX.out.2.1, ← HX.out.2.2.2] at this; exact this))
            clear hm
            go_wp2
            go_ret
            exact ⟨⟨false, by simp [HF.out], rfl⟩, rfl⟩
        · have htI : (60 : Int) < (tn : Int) := by omega
          have htN : 60 < tn := by omega
          have htd : decide (60 < tn) = true := by simpa using ht
          have HF := Lib.hid (show ¬ Lite bs from fun h => ht (by have := (h.2 k (by rw [HB.out.2]; exact hlt)).1; rw [← HX.out.2.1, HX.out.2.2.1] at this; exact this))
          clear ht
          go_wp2
          go_ret
          exact ⟨⟨false, by simp [HF.out], rfl⟩, rfl⟩
      · obtain rfl : k = n := by omega
        have hkI : ¬ (k : Int) < (k : Int) := by omega
        have HF := Lib.hid (show Lite bs from ⟨by rw [HB.out.2]; exact hn, fun i hi => hno i (by rw [HB.out.2] at hi; exact hi)⟩)
        clear hno
        go_wp2
        go_ret
        exact ⟨⟨true, by simp [HF.out], rfl⟩, rfl⟩
  · have hnI : (60 : Int) < (n : Int) := by omega
    have hnN : 60 < n := by omega
    have HF := Lib.hid (show ¬ Lite bs from fun h => hn (by have := h.1; rw [HB.out.2] at this; exact this))
    clear hn
    go_enter Try.func7, Try.ntmps7
    go_wp2
    go_ret
    exact ⟨⟨false, by simp [HF.out], rfl⟩, rfl⟩

theorem soundG_at {bs : List WB} : ∀ (f j : Nat), (soundG bs f j).2 = 0 → ∀ i, j ≤ i → i < j + f → wrongB bs i = 0
  | 0, j, _, i, h1, h2 => absurd h2 (by omega)
  | f + 1, j, h, i, h1, h2 => by
    unfold soundG at h
    by_cases hw : wrongB bs j = 0
    · rw [if_pos hw] at h
      by_cases hij : i = j
      · rw [hij]; exact hw
      · exact soundG_at f (j + 1) h i (by omega) (by omega)
    · rw [if_neg hw] at h
      exact absurd h hw
/-- sound blocks lead to where blocks are -/
theorem sound_fine {bs : List WB} (hL : Lite bs) (hs : (soundG bs bs.length 0).2 = 0) (he : ¬ emptyJ bs) (hc : ∀ i, i < bs.length → (bs.getD i default).ct ≤ 9223372036854775807) : Fine bs := by
  refine ⟨hL.1, fun i hi => ⟨(hL.2 i hi).1, fun h35 hts => he ⟨i, hi, h35, hts⟩, fun hk d hd => ?_, hc i hi⟩⟩
  have hw := soundG_at _ _ hs i (Nat.zero_le _) (by omega)
  have hf : farB (bs.getD i default) i bs.length = false := by
    unfold wrongB at hw
    split at hw
    · exact absurd hw (by decide)
    · split at hw
      · exact absurd hw (by decide)
      · rename_i h; simpa using h
  unfold farB at hf
  rw [List.any_eq_false] at hf
  have hl : farL (bs.getD i default) = (bs.getD i default).ts := by
    unfold farL
    rw [if_neg (by rcases hk with h | h <;> rw [h] <;> decide), if_pos hk]
  have := hf d (by rw [hl]; exact hd)
  simp only [decide_eq_true_eq] at this
  omega
theorem heard_ok {bs : List WB} {s : WS} (h : s.ok bs) : (heardS s).ok bs := heardS_ok h
theorem DR_heard {s : WS} {d : DW} (h : DR s d) : DR (heardS s) { d with heard := true } := by
  obtain ⟨h1, h2, h3, h4, h5, h6, h7, h8⟩ := h
  exact ⟨h1, h2, h3, rfl, h5, h6, h7, h8⟩
/-- both ways, side by side -/
def GoR (w w6 wr : World) (g mb xb : Nat) (LA : Option Addr) (ln lc : Nat) (A0 : Option Addr) (c0 : Nat) (bs : List WB) : Prop := ∃ (s : WS) (d : DW) (KA : Option Addr) (kn kc : Nat),
  s.ok bs ∧ DR s d ∧ (s.ov = true → d.kind = s.lk ∧ d.block = s.lb ∧ d.e = s.le) ∧ WalkAt wr g mb LA ln lc bs s ∧ Mv w6 wr g mb ∧ Blk wr xb 33 (dwC A0 ln c0 KA kn kc d) ∧ RdP wr (fun b => b ≠ g ∧ b ≠ mb ∧ b ≠ xb ∧ b < wr.heap.size) 1 KA kn (s.tk.reverse.map (Value.int .i64)) ∧ Below w.heap.size w wr
/-- a way as it stands, elsewhere something else was written -/
theorem walk_again {w6 wr wq : World} {g mb : Nat} {LA : Option Addr} {ln lc : Nat} {bs : List WB} {s s6 : WS} (h6 : WalkAt w6 g mb LA ln lc bs s6) (h : WalkAt wr g mb LA ln lc bs s) (hg : wq.heap[g]? = wr.heap[g]?) (hm : wq.heap[mb]? = wr.heap[mb]?) (hM : Mv w6 wq g mb) : WalkAt wq g mb LA ln lc bs s :=
  ⟨hg.trans h.1, h.2.1.kept hm, h6.2.2.keep (fun b hb => hM.block b hb.2.2 hb.1 hb.2.1) (fun b hb => ⟨hb.1, hb.2.1, Nat.lt_of_lt_of_le hb.2.2 hM.size⟩)⟩
theorem bool_at {w : World} {B n : Nat} {A : Option Addr} {hs : List Bool} (h : Reads w B 1 A n (hs.map Value.bool)) {k : Nat} (hk : k < n) :
    ∃ ad, A = some ad ∧ ad.block < B ∧ w.cell? (ad.add k) = some (.bool (hs.getD k false)) := by
  obtain ⟨ad, u, e, hb, hx, hc⟩ := h.at_ hk
  refine ⟨ad, e, hb, hc.trans ?_⟩
  rw [← hx]
  have hl : k < hs.length := by have := h.1; simp at this; omega
  simp [List.getD_eq_getElem?_getD, hl]

set_option maxRecDepth 100000 in
theorem goes_lives (w : World) (LA : Option Addr) (ln lc : Nat) (bs : List WB) (hB : BlksR w (· < w.heap.size) LA ln bs) (BA : Option Addr) (bn bc : Nat) (hq : ¬ (Lite bs ∧ bn ≤ 300)) :
    Calls Try.prog 3 #[.slice LA ln lc, .slice BA bn bc] w fun x w' => x = .returned (.bool true) ∧ Below w.heap.size w w' := by
  have hli := light_any w LA ln lc bs hB
  have hlv := lives_any w
  clear hB
  have HQ := Lib.hid hq
  clear hq
  go_enter Try.func3, Try.ntmps3
  go_wp2_with fail
  refine hli.mono ?_
  rintro x w' ⟨⟨b, hb, rfl⟩, rfl⟩
  clear hli
  have HB := Lib.hid hb
  clear hb
  cases b with
  | false =>
    go_wp2_with fail
    refine hlv.mono ?_
    rintro x w1 ⟨rfl, hb1⟩
    have H1 := Lib.hid hb1
    clear hlv hb1
    go_wp2
    go_ret
    exact ⟨rfl, H1.out⟩
  | true =>
    have hbn : 300 < bn := Nat.lt_of_not_le (fun h => HQ.out ⟨HB.out.1 rfl, h⟩)
    have hbI : (300 : Int) < (bn : Int) := by omega
    go_wp2_with fail
    refine hlv.mono ?_
    rintro x w1 ⟨rfl, hb1⟩
    have H1 := Lib.hid hb1
    clear hlv hb1
    go_wp2
    go_ret
    exact ⟨rfl, H1.out⟩

set_option maxRecDepth 100000 in
set_option maxHeartbeats 8000000 in
theorem goes_any (w : World) (A0 : Option Addr) (ln c0 : Nat) (bs : List WB) (hB : BlksR w (· < w.heap.size) A0 ln bs) (hL : Lite bs) (hct : ∀ i, i < bs.length → (bs.getD i default).ct ≤ 9223372036854775807) (BA : Option Addr) (bn bc : Nat) (hs : List Bool) (hH : Reads w w.heap.size 1 BA bn (hs.map Value.bool)) (hbn : bn ≤ 300) :
    Calls Try.prog 3 #[.slice A0 ln c0, .slice BA bn bc] w fun x w' => x = .returned (.bool true) ∧ Below w.heap.size w w' := by
  have hli := light_any w A0 ln c0 bs hB
  have hnw := new_any w A0 ln c0 bs hB hL
  have HB := Lib.hid (And.intro hB (And.intro hL (And.intro hct hH)))
  clear hB hL hct hH
  have hbI : ¬ (300 : Int) < (bn : Int) := by omega
  go_enter Try.func3, Try.ntmps3
  go_wp2_with fail
  refine hli.mono ?_
  rintro x w' ⟨⟨b, hb, rfl⟩, rfl⟩
  clear hli
  obtain rfl : b = true := hb.2 HB.out.2.1
  clear hb
  go_wp2_with fail
  refine hnw.mono ?_
  clear hnw
  intro x w6 hN
  obtain ⟨hb6, hN⟩ := hN
  have H6 := Lib.hid hb6
  have hz6 := hb6.size
  have hsd := soundD_any w6 A0 ln c0 bs (HB.out.1.keep (fun b hb => hb6.block b hb) (fun b (hb : b < w.heap.size) => by show b < _; omega)) HB.out.2.1
  clear hb6
  rcases hN with ⟨hn0, rfl⟩ | ⟨hn0, hn1, rfl⟩ | ⟨hn0, hn1, g, mb, LA, lc, rfl, hg, hm, hW⟩
  · have hsw := soundW_bad hn0
    obtain ⟨E, hE⟩ : ∃ E, E = (soundG bs bs.length 0).2 := ⟨_, rfl⟩
    rw [hsw, ← hE] at hsd
    rw [← hE] at hn0 ⊢
    have hef : (E == 0) = false := by simpa using hn0
    clear hE hn0 hsw
    go_wp2_with fail
    refine hsd.mono ?_
    rintro x w7 ⟨rfl, hb7⟩
    clear hsd
    have H7 := Lib.hid (H6.out.trans (hb7.mono hz6))
    clear hb7
    have hlv := lives_any w7
    go_wp2_with fail
    refine hlv.mono ?_
    rintro x w8 ⟨rfl, hb8⟩
    have H8 := Lib.hid (bthen H7.out hb8)
    clear hlv hb8
    go_wp2
    go_ret
    exact ⟨rfl, H8.out⟩
  · have hsw := soundW_empty hn0 hn1
    rw [hsw] at hsd
    clear hn0 hn1 hsw
    go_wp2_with fail
    refine hsd.mono ?_
    rintro x w7 ⟨rfl, hb7⟩
    clear hsd
    have H7 := Lib.hid (H6.out.trans (hb7.mono hz6))
    clear hb7
    have hlv := lives_any w7
    go_wp2_with fail
    refine hlv.mono ?_
    rintro x w8 ⟨rfl, hb8⟩
    have H8 := Lib.hid (bthen H7.out hb8)
    clear hlv hb8
    go_wp2
    go_ret
    exact ⟨rfl, H8.out⟩
  · have hsw := soundW_ok hn0 hn1
    rw [hsw] at hsd
    have hf := sound_fine HB.out.2.1 hn0 hn1 HB.out.2.2.1
    have HW6 := Lib.hid (And.intro hf (And.intro hW (And.intro hg hm)))
    clear hsw hn0 hn1 hf hW hg hm
    go_wp2_with fail
    refine hsd.mono ?_
    rintro x w7 ⟨rfl, hb7⟩
    clear hsd
    have hz7 := hb7.size
    have H7 := Lib.hid hb7
    clear hb7
    have hnd := newD_any w7 A0 ln c0
    go_wp2_with fail
    refine hnd.mono ?_
    rintro x w8 ⟨rfl, hb8⟩
    clear hnd
    have hz8 := hb8.size
    have H8 := Lib.hid (show Below w6.heap.size w6 w8 from H7.out.trans (hb8.mono hz7))
    clear hb8
    go_upto_region 11 with (first
      | (refine wpList_store_box rfl 33 _ _ rfl (w8.heap.size) (dwC A0 ln c0 none 0 0 dw0) rfl rfl 33 #[.slice none 0 0, .int .i64 0, .int .i64 0, .int .i64 0, .bool false, .int .i64 0, .int .i64 0, .slice none 0 0, .bool false, .int .i64 0, .int .i64 0, .int .i64 0] (Blk.new w8 _ _) dwInfo rfl dwOne ?_)
      | fail)
    intro w9 hB9 hg9
    have hb9 : Below w6.heap.size w6 w9 := (H8.out.alloc H8.out.size _).grown hg9 (by have := H8.out.size; simp; omega) (fun b e => by injection e with e; have := H8.out.size; omega)
    obtain ⟨xb, hxb⟩ : ∃ xb, xb = w8.heap.size := ⟨_, rfl⟩
    rw [← hxb] at hB9 ⊢
    have hgl := HW6.out.2.1.1.lt
    have hml := HW6.out.2.1.2.1.lt
    have hxl : w6.heap.size ≤ xb := by have := H8.out.size; omega
    have HGM := Lib.hid (And.intro HW6.out.2.2.1 HW6.out.2.2.2)
    have HST := Lib.hid (show GoR w w6 w9 g mb xb LA ln lc A0 c0 bs from ⟨ws0, dw0, none, 0, 0, ws0_ok _, ⟨rfl, rfl, rfl, rfl, rfl, fun h => absurd h (by decide), rfl, fun h => absurd h (by decide)⟩, fun h => absurd h (by decide), walk_again HW6.out.2.1 HW6.out.2.1 (hb9.block g hgl) (hb9.block mb hml) (Mv.of_below hb9), Mv.of_below hb9, hB9, ⟨rfl, fun h => absurd h (by omega)⟩, H6.out.trans (hb9.mono hz6)⟩)
    clear hB9 hg9 hb9 hxb H8 H7 hz7 hz8
    go_upto_region 11 with fail
    go_loopw [9] (fun x wr => ∃ i : Nat, x = .int .i64 (i : Int) ∧ i ≤ bn ∧ GoR w w6 wr g mb xb LA ln lc A0 c0 bs) (fun x _ => bn - (intOf x).toNat)
    case atStart => exact ⟨0, rfl, by omega, HST.out⟩
    case round =>
      obtain ⟨i, rfl, hib, s, d, KA, kn, kc, hok, hR, hov, hW, hM6, hX, hK, hbl⟩ := hrel
      have hi0 : (0 : Int) ≤ (i : Int) := Int.natCast_nonneg _
      by_cases hil : i < bn
      · have hiI : (i : Int) < (bn : Int) := by omega
        have hwi : IntKind.i64.wrap ((i : Int) + 1) = (i : Int) + 1 := by rw [IntKind.wrap_i64]; omega
        have hnx := next_any wr g mb LA ln lc bs s hW hok HW6.out.1
        obtain ⟨s', hs'⟩ : ∃ s', s' = (nextS bs s).2 := ⟨_, rfl⟩
        obtain ⟨tl, htl⟩ : ∃ tl, tl = (nextS bs s).1 := ⟨_, rfl⟩
        have hst := nextS_stays (bs := bs) (s := s)
        have hok' := nextS_ok HW6.out.1 hok
        rw [← hs', ← htl] at hnx hst
        rw [← hs'] at hok'
        obtain ⟨tk, tb, te⟩ := tl
        simp only [stepV] at hnx hst
        have hxl2 := hX.lt
        have HR := Lib.hid (And.intro hok (And.intro hR (And.intro hov (And.intro hM6 (And.intro hX (And.intro hK (And.intro hbl (And.intro hs' (And.intro htl (And.intro hst (And.intro hok' hW)))))))))))
        clear hok hR hov hM6 hX hK hbl hs' htl hst hok' hW
        go_wp2_with fail
        refine hnx.mono ?_
        clear hnx
        rintro x v1 ⟨rfl, hW1, hM1⟩
        have hgr := hW1.1.lt
        have HV := Lib.hid (show WalkAt v1 g mb LA ln lc bs s' ∧ Mv w6 v1 g mb ∧ Blk v1 xb 33 (dwC A0 ln c0 KA kn kc d) ∧ RdP v1 (fun b => b ≠ g ∧ b ≠ mb ∧ b ≠ xb ∧ b < v1.heap.size) 1 KA kn (s.tk.reverse.map (Value.int .i64)) ∧ Below w.heap.size w v1 from ⟨hW1, HR.out.2.2.2.1.trans hM1, (hM1.block xb hxl2 (by omega) (by omega)).trans HR.out.2.2.2.2.1, HR.out.2.2.2.2.2.1.keep (fun b hb => hM1.block b hb.2.2.2 hb.1 hb.2.1) (fun b hb => ⟨hb.1, hb.2.1, hb.2.2.1, Nat.lt_of_lt_of_le hb.2.2.2 hM1.size⟩), HR.out.2.2.2.2.2.2.1.trans (hM1.below HR.out.2.2.2.2.2.2.1.size (by have := HGM.out.1; omega) (by have := HGM.out.2; omega))⟩)
        clear hW1 hM1
        go_upto_region 14 with (first
          | (refine wpList_store_box rfl 36 _ _ rfl (v1.heap.size) #[.int .i64 tk, .int .i64 tb, .int .i64 te] rfl rfl 36 #[.int .i64 0, .int .i64 0, .int .i64 0] (Blk.new v1 _ _) stepInfo rfl (by simp [Value.oneCell']) ?_)
          | fail)
        intro y1 hB1 hg1
        have hb1 : Below v1.heap.size v1 y1 := ((Below.refl _ _).alloc (Nat.le_refl _) _).grown hg1 (by simp) (fun b e => by injection e with e; omega)
        have hz1 := hb1.size
        have hxv := HV.out.2.2.1.lt
        have HY := Lib.hid (show Blk y1 v1.heap.size 36 #[.int .i64 tk, .int .i64 tb, .int .i64 te] ∧ WalkAt y1 g mb LA ln lc bs s' ∧ Mv w6 y1 g mb ∧ Blk y1 xb 33 (dwC A0 ln c0 KA kn kc d) ∧ RdP y1 (fun b => b ≠ g ∧ b ≠ mb ∧ b ≠ xb ∧ b ≠ v1.heap.size ∧ b < y1.heap.size) 1 KA kn (s.tk.reverse.map (Value.int .i64)) ∧ Below w.heap.size w y1 from ⟨hB1, HV.out.1.below hb1, HV.out.2.1.trans (Mv.of_below hb1), HV.out.2.2.1.below hb1 hxv, HV.out.2.2.2.1.keep (fun b hb => hb1.block b hb.2.2.2) (fun b hb => ⟨hb.1, hb.2.1, hb.2.2.1, by have := hb.2.2.2; omega, Nat.lt_of_lt_of_le hb.2.2.2 hz1⟩), HV.out.2.2.2.2.trans (hb1.mono HV.out.2.2.2.2.size)⟩)
        clear hB1 hg1 hb1 HV
        have hzw := HY.out.2.2.2.2.2.size
        have hnd := nextD_any y1 A0 ln c0 KA kn kc bs s d HR.out.2.1 HR.out.1 HW6.out.1 (HB.out.1.keep (fun b hb => HY.out.2.2.2.2.2.block b hb) (fun b (hb : b < w.heap.size) => by show b < _; omega)) (fun b => b ≠ g ∧ b ≠ mb ∧ b ≠ xb ∧ b ≠ v1.heap.size ∧ b < y1.heap.size) (fun b hb => hb.2.2.2.2) HY.out.2.2.2.2.1 HR.out.2.2.1
        have hXl := HY.out.2.2.2.1
        go_upto_region 14 with fail
        go_wp2_with (first
          | (refine wpList_load_box rfl 33 _ rfl xb rfl 33 (dwC A0 ln c0 KA kn kc d) hXl _ Try.underlying33 rfl dwInfo (fun (_ : Hid _) => ?_))
          | fail)
        refine hnd.mono ?_
        rintro x y2 ⟨hb2, KA2, kn2, kc2, d2, rfl, hR2, ⟨ek, eb, ee⟩, hK2⟩
        clear hnd hXl
        have hX2 : Blk y2 xb 33 (dwC A0 ln c0 KA kn kc d) := HY.out.2.2.2.1.below hb2 HY.out.2.2.2.1.lt
        rw [← HR.out.2.2.2.2.2.2.2.1] at hR2 hK2
        rw [← HR.out.2.2.2.2.2.2.2.2.1] at ek eb ee
        simp only at ek eb ee
        have hz2 := hb2.size
        have hvl := HY.out.1.lt
        have hxy := HY.out.2.2.2.1.lt
        have hgy := HY.out.2.1.1.lt
        have hmy := HY.out.2.1.2.1.lt
        have H2 := Lib.hid (And.intro hb2 (And.intro hR2 (And.intro ek (And.intro eb (And.intro ee hK2)))))
        clear hb2 hR2 ek eb ee hK2
        go_wp2_with (first
          | (refine wpList_store_box rfl 33 _ _ rfl xb (dwC A0 ln c0 KA2 kn2 kc2 d2) rfl rfl 33 (dwC A0 ln c0 KA kn kc d) hX2 dwInfo rfl dwOne ?_)
          | fail)
        intro y3 hB3 hg3
        have hz3 := hg3.size
        have hM3 : Mv w6 y3 g mb := ((HY.out.2.2.1.trans (Mv.of_below H2.out.1)).new hg3 hxl)
        have hmk : ∀ b, b ≠ xb → b < y1.heap.size → y3.heap[b]? = y1.heap[b]? := fun b h1 h2 => (hg3.block b (by omega) (fun e => by injection e with e; exact h1 e)).trans (H2.out.1.block b h2)
        have H3 := Lib.hid (show WalkAt y3 g mb LA ln lc bs s' ∧ Mv w6 y3 g mb ∧ Blk y3 xb 33 (dwC A0 ln c0 KA2 kn2 kc2 d2) ∧ RdP y3 (fun b => b ≠ g ∧ b ≠ mb ∧ b ≠ xb ∧ b < y3.heap.size) 1 KA2 kn2 (s'.tk.reverse.map (Value.int .i64)) ∧ Below w.heap.size w y3 from ⟨walk_again HW6.out.2.1 HY.out.2.1 (hmk g (by omega) hgy) (hmk mb (by omega) hmy) hM3, hM3, hB3, H2.out.2.2.2.2.2.keep (fun b hb => hg3.block b (by rcases hb with h | h; have := h.2.2.2.2; omega; exact h.2) (fun e => by injection e with e; rcases hb with h | h; exact h.2.2.1 e; have := h.1; omega)) (fun b hb => by rcases hb with h | h; exact ⟨h.1, h.2.1, h.2.2.1, by have := h.2.2.2.2; omega⟩; exact ⟨by have := h.1; omega, by have := h.1; omega, by have := h.1; omega, Nat.lt_of_lt_of_le h.2 hz3⟩), (HY.out.2.2.2.2.2.trans (H2.out.1.mono hzw)).grown hg3 (by omega) (fun b e => by injection e with e; omega)⟩)
        have hSt : Blk y3 v1.heap.size 36 #[.int .i64 tk, .int .i64 tb, .int .i64 te] := (hmk _ (by omega) hvl).trans HY.out.1
        have q0 : y3.cell? ⟨v1.heap.size, 0, none⟩ = some (.int .i64 tk) := (hSt.cell 0).trans rfl
        have q1 : y3.cell? ⟨v1.heap.size, 1, none⟩ = some (.int .i64 tb) := (hSt.cell 1).trans rfl
        have q2 : y3.cell? ⟨v1.heap.size, 2, none⟩ = some (.int .i64 te) := (hSt.cell 2).trans rfl
        have x9 : y3.cell? ⟨xb, 9, none⟩ = some (.int .i64 tk) := (hB3.cell 9).trans (by show some (Value.int .i64 d2.kind) = some (Value.int .i64 tk); rw [H2.out.2.2.1])
        have x10 : y3.cell? ⟨xb, 10, none⟩ = some (.int .i64 tb) := (hB3.cell 10).trans (by show some (Value.int .i64 d2.block) = some (Value.int .i64 tb); rw [H2.out.2.2.2.1])
        have x11 : y3.cell? ⟨xb, 11, none⟩ = some (.int .i64 te) := (hB3.cell 11).trans (by show some (Value.int .i64 d2.e) = some (Value.int .i64 te); rw [H2.out.2.2.2.2.1])
        obtain ⟨had, rfl, hhb, hh⟩ := bool_at HB.out.2.2.2 hil
        obtain ⟨hv, hvd⟩ : ∃ hv, hv = hs.getD i false := ⟨_, rfl⟩
        rw [← hvd] at hh
        have hh3 : y3.cell? (had.add i) = some (.bool hv) := (H3.out.2.2.2.2.cell (p := had.add i) (by rw [block_of_add]; exact hhb)).trans hh
        have hov2 : s'.ov = true → d2.kind = s'.lk ∧ d2.block = s'.lb ∧ d2.e = s'.le := fun h => by
          obtain ⟨e1, e2, e3⟩ := HR.out.2.2.2.2.2.2.2.2.2.1 h
          exact ⟨H2.out.2.2.1.trans e1.symm, H2.out.2.2.2.1.trans e2.symm, H2.out.2.2.2.2.1.trans e3.symm⟩
        have HO := Lib.hid (And.intro hov2 (And.intro hxl hmk))
        have hX3 := H3.out.2.2.1.lt
        clear hB3 hg3 hM3 hSt hh hX2 hov2 hvd hmk
        cases hv with
        | true =>
          have hhe := heard_any y3 g mb LA ln lc bs s' H3.out.1
          go_wp2_with fail
          refine hhe.mono ?_
          rintro x z1 ⟨⟨v, rfl⟩, hWz, hMz⟩
          clear hhe q0 q1 q2 x9 x10 x11 hh3
          have hXz : Blk z1 xb 33 (dwC A0 ln c0 KA2 kn2 kc2 d2) := (hMz.block xb hX3 (by omega) (by omega)).trans H3.out.2.2.1
          have hhd := heardD_any z1 A0 ln c0 KA2 kn2 kc2 d2
          have HZ := Lib.hid (show WalkAt z1 g mb LA ln lc bs (heardS s') ∧ Mv w6 z1 g mb ∧ Below w.heap.size w z1 from ⟨hWz, H3.out.2.1.trans hMz, H3.out.2.2.2.2.trans (hMz.below H3.out.2.2.2.2.size (by have := HGM.out.1; omega) (by have := HGM.out.2; omega))⟩)
          clear hWz hMz
          go_wp2_with (first
            | (refine wpList_load_box rfl 33 _ rfl xb rfl 33 (dwC A0 ln c0 KA2 kn2 kc2 d2) hXz _ Try.underlying33 rfl dwInfo (fun (_ : Hid _) => ?_))
            | fail)
          refine hhd.mono ?_
          rintro x z2 ⟨rfl, hbz⟩
          clear hhd
          have hXz2 : Blk z2 xb 33 (dwC A0 ln c0 KA2 kn2 kc2 d2) := hXz.below hbz hXz.lt
          have hzz := hbz.size
          have hgz := HZ.out.1.1.lt
          have hmz := HZ.out.1.2.1.lt
          have HZ2 := Lib.hid hbz
          clear hbz hXz
          go_wp2_with (first
            | (refine wpList_store_box rfl 33 _ _ rfl xb (dwC A0 ln c0 none 0 0 { d2 with heard := true }) rfl rfl 33 (dwC A0 ln c0 KA2 kn2 kc2 d2) hXz2 dwInfo rfl dwOne ?_)
            | fail)
          intro z3 hB4 hg4
          have hM4 : Mv w6 z3 g mb := ((HZ.out.2.1.trans (Mv.of_below HZ2.out)).new hg4 hxl)
          have hmk : ∀ b, b ≠ xb → b < z1.heap.size → z3.heap[b]? = z1.heap[b]? := fun b h1 h2 => (hg4.block b (by omega) (fun e => by injection e with e; exact h1 e)).trans (HZ2.out.block b h2)
          have HX := Lib.hid (show GoR w w6 z3 g mb xb LA ln lc A0 c0 bs from ⟨heardS s', { d2 with heard := true }, none, 0, 0, heard_ok HR.out.2.2.2.2.2.2.2.2.2.2.1, DR_heard H2.out.2.1, HO.out.1, walk_again HW6.out.2.1 HZ.out.1 (hmk g (by omega) hgz) (hmk mb (by omega) hmz) hM4, hM4, hB4, ⟨rfl, fun h => absurd h (by omega)⟩, (HZ.out.2.2.trans (HZ2.out.mono HZ.out.2.2.size)).grown hg4 (by have := HZ.out.2.2.size; omega) (fun b e => by injection e with e; omega)⟩)
          clear hB4 hg4 hM4 hmk hXz2
          go_wp2
          go_roundw
          case rel => exact ⟨i + 1, by go_num, by omega, HX.out⟩
          case measure => simp [intOf]; omega
        | false =>
          have HX := Lib.hid (show GoR w w6 y3 g mb xb LA ln lc A0 c0 bs from ⟨s', d2, KA2, kn2, kc2, HR.out.2.2.2.2.2.2.2.2.2.2.1, H2.out.2.1, HO.out.1, H3.out.1, H3.out.2.1, H3.out.2.2.1, H3.out.2.2.2.1, H3.out.2.2.2.2⟩)
          go_wp2
          go_roundw
          case rel => exact ⟨i + 1, by go_num, by omega, HX.out⟩
          case measure => simp [intOf]; omega
      · obtain rfl : i = bn := by omega
        have hiI : ¬ (i : Int) < (i : Int) := by omega
        have HX := Lib.hid hbl
        have hlv := lives_any wr
        clear hok hR hov hM6 hX hK hbl hW
        go_wp2_with fail
        refine hlv.mono ?_
        rintro x w8 ⟨rfl, hb8⟩
        have H8 := Lib.hid (bthen HX.out hb8)
        clear hlv hb8
        go_wp2
        go_ret
        exact ⟨rfl, H8.out⟩
theorem walkGoes_walk (A0 : Option Addr) (ln c0 : Nat) (bs : List WB) (BA : Option Addr) (bn bc : Nat) (hs : List Bool) (w : World) (hB : BlksR w (· < w.heap.size) A0 ln bs) (hct : ∀ i, i < bs.length → (bs.getD i default).ct ≤ 9223372036854775807) (hH : Reads w w.heap.size 1 BA bn (hs.map Value.bool)) :
    Calls Try.prog 3 #[.slice A0 ln c0, .slice BA bn bc] w fun x w' => x = .returned (.bool true) ∧ Below w.heap.size w w' := by
  by_cases hq : Lite bs ∧ bn ≤ 300
  · exact goes_any w A0 ln c0 bs hB hq.1 hct BA bn bc hs hH hq.2
  · exact goes_lives w A0 ln c0 bs hB BA bn bc hq
end Go.Proofs.Ytnmapncgnceldaa
