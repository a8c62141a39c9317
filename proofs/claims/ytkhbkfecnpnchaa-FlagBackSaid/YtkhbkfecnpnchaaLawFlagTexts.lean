/- The laws FlagTexts and FlagBack walked: signs of any F, and back. -/
import Derived.Test.YtkhbkfecnpnchaaLawFlag
import Derived.PlainAid
namespace Go.Proofs.Ytkhbkfecnpnchaa
open Go.RowKit Go.PlainAid

def signI (i : Nat) : Int := ((signAt i).toNat : Int)
/-- is the sign at place i one of the two that may stand there? -/
def okAt (s : ByteArray) (i : Nat) : Prop := bt s i = 45 ∨ bt s i = signI i
def allOk (s : ByteArray) : Prop := ∀ i, i < 8 → okAt s i
def isSet (s : ByteArray) (i : Nat) : Bool := bt s i == signI i
def accN (s : ByteArray) : Nat → Int
  | 0 => 0
  | p + 1 => if isSet s p then bits .or .u8 (accN s p) (kk p) else accN s p
def readS (s : ByteArray) : Int := byteS (isSet s)

theorem kk_bit {p j : Nat} (hp : p < 8) (hj : j < 8) : bitH (kk p) j = decide (j = p) := by
  have : ∀ p : Fin 8, ∀ j : Fin 8, bitH (kk p.val) j.val = decide (j.val = p.val) := by decide +kernel
  exact this ⟨p, hp⟩ ⟨j, hj⟩
theorem bitH_0 {j : Nat} (hj : j < 8) : bitH 0 j = false := by
  have : ∀ j : Fin 8, bitH 0 j.val = false := by decide +kernel
  exact this ⟨j, hj⟩
theorem accN_ok (s : ByteArray) {p : Nat} (hp : p ≤ 8) : (0 ≤ accN s p ∧ accN s p ≤ 255) ∧ ∀ j, j < 8 → bitH (accN s p) j = (decide (j < p) && isSet s j) := by
  induction p with
  | zero => exact ⟨by simp [accN], fun j hj => by simp [accN, bitH_0 hj]⟩
  | succ p ih =>
    obtain ⟨⟨i0, i1⟩, ih⟩ := ih (by omega)
    have hk := kk_step (j := p) (by omega)
    simp only [accN]
    by_cases hs : isSet s p = true
    · rw [if_pos hs]
      refine ⟨bits_bd .or i0 i1 (by omega) (by omega) (by simp), fun j hj => ?_⟩
      rw [bitH_orB i0 i1 (by omega) (by omega) hj, ih j hj, kk_bit (by omega) hj]
      by_cases he : j = p
      · subst he; simp [hs]
      · have e : decide (j < p + 1) = decide (j < p) := decide_eq_decide.2 (by omega)
        rw [e]; simp [he]
    · rw [if_neg hs]
      refine ⟨⟨i0, i1⟩, fun j hj => ?_⟩
      rw [ih j hj]
      by_cases he : j = p
      · subst he; simp [hs]
      · have e : decide (j < p + 1) = decide (j < p) := decide_eq_decide.2 (by omega)
        rw [e]
theorem accN_8 (s : ByteArray) : accN s 8 = readS s := by
  obtain ⟨⟨a, b⟩, h⟩ := accN_ok s (Nat.le_refl 8)
  exact byteS_is a b fun j hj => by rw [h j hj]; simp [hj]

theorem sign_in {p : Nat} (hp : p < 8) : 46 ≤ signI p ∧ signI p < 128 := by
  have : ∀ p : Fin 8, 46 ≤ signI p.val ∧ signI p.val < 128 := by decide +kernel
  exact this ⟨p, hp⟩

theorem below_iter (w : World) (s : ByteArray) (p : Nat) : Below w.heap.size w (w.iter s p) := by
  refine ⟨rfl, rfl, rfl, ?_, fun k hk => ?_⟩
  · show w.heap.size ≤ (w.heap.push _).size
    simp
  · show (w.heap.push _)[k]? = _
    rw [Array.getElem?_push, if_neg (by omega)]

/-- the next sign of the range: what it is, where it stands -/
theorem next_sign {P : Program} (w : World) (s : ByteArray) (p : Nat) (hp : p < s.size) (h8 : p < 8) :
    ∃ c q, (∀ ty, (Instr.next (.pointer (some ⟨w.heap.size, 0, none⟩)) true ty).run P (w.iter s p) = .ok (.tuple #[.bool true, .int .i64 p, .int .i32 c]) (w.iter s q)) ∧
      ((okAt s p ∧ c = bt s p ∧ q = p + 1) ∨ (¬ okAt s p ∧ (c == signI p) = false ∧ (c != 45) = true)) := by
  have hb : bt s p = ((s[p]'hp).toNat : Int) := by unfold bt; rw [dif_pos hp]
  have hsg := sign_in h8
  by_cases ha : (s[p]'hp).toNat < 128
  · refine ⟨_, _, fun ty => run_next_ascii w s p ty hp ha, ?_⟩
    rw [← hb]
    by_cases ho : okAt s p
    · exact .inl ⟨ho, rfl, rfl⟩
    · refine .inr ⟨ho, ?_, ?_⟩
      · simp only [okAt, not_or] at ho
        simpa using ho.2
      · simp only [okAt, not_or] at ho
        simpa using ho.1
  · have hd := (decode_high s p hp (by omega)).1
    refine ⟨_, _, fun ty => run_next_any w s p ty hp, .inr ⟨?_, ?_, ?_⟩⟩
    · unfold okAt; rw [hb]; omega
    · simp; omega
    · simp; omega

theorem sign_lit {p : Nat} (hp : p < 8) : ∀ h, wrap32 (((⟨#[83, 90, 89, 72, 88, 80, 78, 67]⟩ : ByteArray)[p]'h).toNat : Int) = signI p := by
  rcases nat8 hp with rfl | rfl | rfl | rfl | rfl | rfl | rfl | rfl <;> (intro h; exact IntWalk.wrap32_in _ ⟨by omega, Int.le_trans (Int.ofNat_le.2 (Nat.le_of_lt (UInt8.toNat_lt _))) (by decide)⟩)

theorem ok_step {s : ByteArray} {p : Nat} (HA : Hid (∀ i, i < p → okAt s i)) (HO : Hid (okAt s p)) : Hid (∀ i, i < p + 1 → okAt s i) := Lib.hid fun i hi => by
  rcases Nat.lt_or_eq_of_le (Nat.le_of_lt_succ hi) with h | h
  · exact HA.out i h
  · rw [h]; exact HO.out
/-- what Read gives -/
def readRes (s : ByteArray) (v : Value) : Prop := (allOk s ∧ s.size = 8 ∧ v = .tuple #[.int .u8 (readS s), .int .i64 0]) ∨ (¬ (allOk s ∧ s.size = 8) ∧ v = .tuple #[.int .u8 0, .int .i64 4])
def ReadPost (s : ByteArray) (w : World) (e : Ending) (w' : World) : Prop := ∃ v, readRes s v ∧ e = .returned v ∧ Below w.heap.size w w'

set_option maxHeartbeats 4000000 in
theorem read_any (s : ByteArray) (w : World) (hs : s.size ≤ maxLen) :
    Calls Try.prog 34 #[.string s] w (ReadPost s w) := by
  unfold maxLen at hs
  by_cases h8 : s.size = 8
  · have hsz : (s.size : Int) = 8 := by omega
    have H8 := Lib.hid h8
    clear h8
    go_enter Try.func34, Try.ntmps34
    go_wp2
    go_loopw [4] (fun f wr => ∃ p : Nat, p ≤ 8 ∧ wr = w.iter s p ∧ f = .int .u8 (accN s p) ∧ Hid (∀ i, i < p → okAt s i)) (fun _ wr => s.size - wr.iterPos w.heap.size)
    case atStart => exact ⟨0, by omega, rfl, rfl, Lib.hid fun i hi => by omega⟩
    case round =>
      obtain ⟨p, hp, rfl, rfl, HA⟩ := hrel
      by_cases hlt : p < 8
      · have hps : p < s.size := by rw [H8.out]; exact hlt
        have hsl := sign_lit hlt
        obtain ⟨c, q, hnx, hcase⟩ := next_sign (P := Try.prog) w s p hps hlt
        rcases hcase with ⟨hok, rfl, rfl⟩ | ⟨hno, ht1, ht2⟩
        · have HOK := Lib.hid hok
          by_cases he : bt s p = signI p
          · have ht1 : (bt s p == signI p) = true := by simp [he]
            have hacc : accN s (p + 1) = bits .or .u8 (accN s p) (kk p) := by
              have hset : isSet s p = true := by simp [isSet, he]
              simp only [accN]
              rw [if_pos hset]
            have HACC := Lib.hid hacc
            clear hok he hacc
            rcases nat8 hlt with rfl | rfl | rfl | rfl | rfl | rfl | rfl | rfl
            all_goals
              go_wp2
              go_roundw
              case rel => exact ⟨_ + 1, hlt, rfl, by rw [HACC.out]; rfl, ok_step HA HOK⟩
              case measure => simp; omega
          · have h45 : bt s p = 45 := hok.resolve_right he
            have ht1 : ((45 : Int) == signI p) = false := by rw [← h45]; simpa using he
            have hacc : accN s (p + 1) = accN s p := by
              have hset : ¬ isSet s p = true := by simp [isSet, he]
              simp only [accN]
              rw [if_neg hset]
            rw [h45] at hnx
            have HACC := Lib.hid hacc
            clear hok he hacc h45
            go_wp2
            go_roundw
            case rel => exact ⟨p + 1, hlt, rfl, by rw [HACC.out], ok_step HA HOK⟩
            case measure => simp; omega
        · have HNO := Lib.hid hno
          clear hno
          go_wp2
          go_ret2
          exact ⟨_, .inr ⟨fun h => HNO.out (h.1 p hlt), rfl⟩, rfl, below_iter _ _ _⟩
      · obtain rfl : p = 8 := by omega
        have hnx : ∀ ty, (Instr.next (.pointer (some ⟨w.heap.size, 0, none⟩)) true ty).run Try.prog (w.iter s 8) = _ := fun ty => run_next_end w s 8 ty (by rw [H8.out]; omega)
        go_wp2
        go_ret2
        exact ⟨_, .inl ⟨HA.out, H8.out, by rw [← accN_8]; rfl⟩, rfl, below_iter _ _ _⟩
  · have hne : ((s.size : Int) != 8) = true := by simp; omega
    have H8 := Lib.hid h8
    clear h8
    go_enter Try.func34, Try.ntmps34
    go_wp2
    go_ret2
    exact ⟨_, .inr ⟨fun h => H8.out h.2, rfl⟩, rfl, Below.refl _ _⟩

theorem bytes_ne {t a : ByteArray} (h : t ≠ a) : (t.toList == a.toList) = false := by
  rw [ByteArray.toList_eq, ByteArray.toList_eq]
  exact beq_eq_false_iff_ne.2 fun e => h (ByteArray.ext (Array.toList_inj.1 e))
/-! Texts of bytes, and back. -/
def strOf (k : Int) : ByteArray := ⟨(showN k 8).toArray⟩
theorem strOf_size (k : Int) : (strOf k).size = 8 := by
  show (showN k 8).toArray.size = 8
  simp [showN]
theorem strOf_bt (k : Int) {i : Nat} (hi : i < 8) : bt (strOf k) i = if bitH k i then signI i else 45 := by
  have hs := strOf_size k
  unfold bt
  rw [dif_pos (by omega)]
  have e : (strOf k)[i]'(by omega) = if bitH k i then signAt i else 45 := by
    show (showN k 8).toArray[i]'_ = _
    simp [showN, signAt]
  rw [e]
  split <;> rfl
theorem strOf_ok (k : Int) : allOk (strOf k) := fun i hi => by
  unfold okAt
  rw [strOf_bt k hi]
  split <;> simp
theorem strOf_read {k : Int} (h0 : 0 ≤ k) (h1 : k ≤ 255) : readS (strOf k) = k := by
  refine (byteS_is h0 h1 fun j hj => ?_).symm
  unfold isSet
  rw [strOf_bt k hj]
  have := sign_in hj
  by_cases hb : bitH k j = true
  · simp [hb]
  · simp [hb]; omega
theorem readS_bd (s : ByteArray) : 0 ≤ readS s ∧ readS s ≤ 255 := byteS_bd _
theorem read_strOf {s : ByteArray} (h8 : s.size = 8) (hok : allOk s) : s = strOf (readS s) := by
  have hs := strOf_size (readS s)
  apply ByteArray.ext
  apply Array.ext
  · show s.size = (strOf _).size
    rw [h8, hs]
  · intro i hi1 hi2
    have hi : i < 8 := by rw [← h8]; exact hi1
    have e := strOf_bt (readS s) hi
    have hb : bitH (readS s) i = isSet s i := byteS_bit _ hi
    rw [hb] at e
    have e2 : bt s i = bt (strOf (readS s)) i := by
      rw [e]
      have := hok i hi
      unfold okAt at this
      unfold isSet
      have := sign_in hi
      by_cases h : bt s i = signI i
      · simp [h]
      · simp [h]; omega
    unfold bt at e2
    rw [dif_pos (show i < s.size from hi1), dif_pos (show i < (strOf (readS s)).size by omega)] at e2
    have e3 : (s[i]'hi1).toNat = ((strOf (readS s))[i]'hi2).toNat := by omega
    exact UInt8.toNat_inj.1 e3
theorem strOf_eq {s : ByteArray} (h8 : s.size = 8) (hok : allOk s) {k : Int} (h0 : 0 ≤ k) (h1 : k ≤ 255) : strOf k = s ↔ k = readS s := by
  constructor
  · intro h
    rw [← h, strOf_read h0 h1]
  · intro h
    rw [h]
    exact (read_strOf h8 hok).symm
theorem strOf_ne {s : ByteArray} (hno : ¬ (allOk s ∧ s.size = 8)) (k : Int) : strOf k ≠ s := by
  rintro rfl
  exact hno ⟨strOf_ok k, strOf_size k⟩

set_option maxRecDepth 100000 in
set_option maxHeartbeats 2000000 in
theorem flagTexts_walk (a0 : Int) (a1 : ByteArray) (w : World) (w0 : (Lit.int .u8 a0).wf = true) (w1 : a1.size ≤ maxLen) :
    Calls Try.prog 10 #[.int .u8 a0, .string a1] w fun e w' => e = .returned (.bool true) ∧ Below w.heap.size w w' := by
  obtain ⟨f0, f1⟩ := bounds_u8 w0
  have W1 := Lib.hid w1
  unfold maxLen at w1
  clear w0
  by_cases hlen : 100 < a1.size
  · go_enter Try.func10, Try.ntmps10
    go_wp2_with fail
    refine (lives01 _).mono ?_
    rintro e w4 ⟨rfl, hb4⟩
    go_wp2
    go_ret
    exact ⟨rfl, hb4⟩
  · go_enter Try.func10, Try.ntmps10
    go_wp2_with fail
    refine (read_any _ _ W1.out).mono ?_
    rintro e w2 ⟨v, hv, rfl, hb2⟩
    rcases hv with ⟨hok, h8, rfl⟩ | ⟨hno, rfl⟩
    · have HOK := Lib.hid hok
      have H8 := Lib.hid h8
      have hrb := readS_bd a1
      clear hok h8
      go_wp2
      go_loopw [7, 8] (fun t i wr => ∃ k : Nat, k ≤ 256 ∧ i = .int .i64 k ∧ t = .bool (decide (readS a1 < k)) ∧ Below w2.heap.size w2 wr) (fun _ i _ => 256 - (intOf i).toNat)
      case atStart => exact ⟨0, by omega, rfl, by rw [decide_eq_false (by omega)], Below.refl _ _⟩
      case round =>
        obtain ⟨k, hk, rfl, rfl, hbr⟩ := hrel
        by_cases hlt : k < 256
        · go_wp2_with fail
          refine (show_ref _ _ (by omega) (by omega)).mono ?_
          rintro e w3 ⟨rfl, hb3⟩
          have heq := strOf_eq H8.out HOK.out (k := k) (by omega) (by omega)
          have hb4 := hbr.trans (hb3.mono hbr.size)
          obtain ⟨t, ht⟩ : ∃ t, t = strOf k := ⟨_, rfl⟩
          rw [show (⟨(showN k 8).toArray⟩ : ByteArray) = t from ht.symm]
          rw [← ht] at heq
          clear ht
          by_cases hkr : (k : Int) = readS a1
          · have hte : t = a1 := heq.2 hkr
            have hk1 : (readS a1 != (k : Int)) = false := by simp [hkr]
            have HKR := Lib.hid hkr
            subst hte
            clear heq hkr
            go_wp2
            go_roundw
            case rel => exact ⟨k + 1, by omega, by go_num, by rw [decide_eq_true (by have := HKR.out; omega)], hb4⟩
            case measure => simp [intOf]; omega
          · have hte : (t.toList == a1.toList) = false := bytes_ne fun h => hkr (heq.1 h)
            have HKR := Lib.hid hkr
            clear heq hkr
            go_wp2
            go_roundw
            case rel => exact ⟨k + 1, by omega, by go_num, by rw [decide_eq_decide.2 (show readS a1 < (k : Int) ↔ readS a1 < ((k + 1 : Nat) : Int) by have := HKR.out; omega)], hb4⟩
            case measure => simp [intOf]; omega
        · have hr256 : readS a1 < (k : Int) := by omega
          go_wp2_with fail
          refine (show_any _ _ f0 f1).mono ?_
          rintro e w3 ⟨rfl, hb3⟩
          go_wp2_with fail
          refine (show_ref _ _ f0 f1).mono ?_
          rintro e w4 ⟨rfl, hb4⟩
          go_wp2_with fail
          refine (lives01 _).mono ?_
          rintro e w5 ⟨rfl, hb5⟩
          go_wp2
          go_ret
          exact ⟨rfl, bthen (bthen (bthen (bthen hb2 hbr) hb3) hb4) hb5⟩
    · have HNO := Lib.hid hno
      clear hno
      go_wp2
      go_loopw [7, 8] (fun t i wr => ∃ k : Nat, k ≤ 256 ∧ i = .int .i64 k ∧ t = .bool false ∧ Below w2.heap.size w2 wr) (fun _ i _ => 256 - (intOf i).toNat)
      case atStart => exact ⟨0, by omega, rfl, rfl, Below.refl _ _⟩
      case round =>
        obtain ⟨k, hk, rfl, rfl, hbr⟩ := hrel
        by_cases hlt : k < 256
        · go_wp2_with fail
          refine (show_ref _ _ (by omega) (by omega)).mono ?_
          rintro e w3 ⟨rfl, hb3⟩
          have hne := strOf_ne HNO.out k
          have hb4 := hbr.trans (hb3.mono hbr.size)
          obtain ⟨t, ht⟩ : ∃ t, t = strOf k := ⟨_, rfl⟩
          rw [show (⟨(showN k 8).toArray⟩ : ByteArray) = t from ht.symm]
          rw [← ht] at hne
          clear ht
          have hte : (t.toList == a1.toList) = false := bytes_ne hne
          clear hne
          go_wp2
          go_roundw
          case rel => exact ⟨k + 1, by omega, by go_num, rfl, hb4⟩
          case measure => simp [intOf]; omega
        · go_wp2_with fail
          refine (show_any _ _ f0 f1).mono ?_
          rintro e w3 ⟨rfl, hb3⟩
          go_wp2_with fail
          refine (show_ref _ _ f0 f1).mono ?_
          rintro e w4 ⟨rfl, hb4⟩
          go_wp2_with fail
          refine (lives01 _).mono ?_
          rintro e w5 ⟨rfl, hb5⟩
          go_wp2
          go_ret
          exact ⟨rfl, bthen (bthen (bthen (bthen hb2 hbr) hb3) hb4) hb5⟩

set_option maxHeartbeats 1000000 in
theorem flagBack_walk (a0 : Int) (w : World) (w0 : (Lit.int .u8 a0).wf = true) :
    Calls Try.prog 11 #[.int .u8 a0] w fun e w' => e = .returned (.bool true) ∧ Below w.heap.size w w' := by
  obtain ⟨f0, f1⟩ := bounds_u8 w0
  clear w0
  have HB := Lib.hid (strOf_read f0 f1)
  have hsz := strOf_size a0
  have HZ := Lib.hid hsz
  have hsz8 : ((strOf a0).size : Int) = 8 := by omega
  have HOK := Lib.hid (strOf_ok a0)
  clear hsz
  go_enter Try.func11, Try.ntmps11
  go_wp2_with fail
  refine (show_any _ _ f0 f1).mono ?_
  rintro e w1 ⟨rfl, hb1⟩
  obtain ⟨t, ht⟩ : ∃ t, t = strOf a0 := ⟨_, rfl⟩
  rw [show (⟨(showN a0 8).toArray⟩ : ByteArray) = t from ht.symm]
  rw [← ht] at HB HZ HOK hsz8
  have HT := Lib.hid ht
  clear ht
  go_wp2_with fail
  refine (read_any _ _ (by rw [HZ.out]; unfold maxLen; omega)).mono ?_
  rintro e w2 ⟨v, hv, rfl, hb2⟩
  rcases hv with ⟨_, _, rfl⟩ | ⟨hno, rfl⟩
  · rw [HB.out]
    go_wp2_with fail
    refine (show_any _ _ f0 f1).mono ?_
    rintro e w3 ⟨rfl, hb3⟩
    rw [show (⟨(showN a0 8).toArray⟩ : ByteArray) = t from HT.out.symm]
    go_wp2_with fail
    refine (lives01 _).mono ?_
    rintro e w5 ⟨rfl, hb5⟩
    go_wp2
    go_ret
    exact ⟨rfl, bthen (bthen (bthen hb1 hb2) hb3) hb5⟩
  · exact absurd ⟨HOK.out, HZ.out⟩ hno

end Go.Proofs.Ytkhbkfecnpnchaa
