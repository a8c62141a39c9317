/- Contracts of layer 27: two blocks compared, rows of gaps, the chapter's example. -/
import Derived.Test.YtckgmnlmimogjaaNorm5e
import Derived.Test.YtckgmnlmimogjaaNorm6
namespace Go.Proofs.Ytckgmnlmimogjaa
open Go.RowKit

theorem ints_nil (w : World) : Calls Try.prog 27 #[.slice none 0 0, .slice none 0 0] w fun e w' => e = .returned (.bool true) ∧ w = w' := by
  go_enter Try.func27, Try.ntmps27
  go_wp2
  go_loop [5] (fun x => x = .int .i64 0) (fun _ => 0)
  case atStart => rfl
  case round =>
    subst hrel
    go_wp2
    go_ret
    exact ⟨rfl, rfl⟩
theorem syms_nil (w : World) : Calls Try.prog 28 #[.slice none 0 0, .slice none 0 0] w fun e w' => e = .returned (.bool true) ∧ w = w' := by
  go_enter Try.func28, Try.ntmps28
  go_wp2
  go_loop [5] (fun x => x = .int .i64 0) (fun _ => 0)
  case atStart => rfl
  case round =>
    subst hrel
    go_wp2
    go_ret
    exact ⟨rfl, rfl⟩

theorem conv27 {w : World} {B n : Nat} {A : Option Addr} {zs : List Int} (c : Nat) (hr : Reads w B 1 A n (zs.map (Value.int .u8))) : (convert 27 9 (.slice A n c)).run Try.prog w = .ok (.string (strOfNums zs)) w :=
  conv_reads w 27 5 9 Try.underlying27 Try.underlying5 Try.underlying9 c hr

set_option maxRecDepth 100000 in
set_option maxHeartbeats 4000000 in
theorem same_any (w : World) (i0 i1 i2 i3 i4 i5 i6 i7 i8 i9 i10 i11 : Int) (A A' : Option Addr) (n c c' : Nat) (zs : List Int) (hr : Reads w w.heap.size 1 A n (zs.map (Value.int .u8))) (hr' : Reads w w.heap.size 1 A' n (zs.map (Value.int .u8))) :
    Calls Try.prog 11 #[.agg #[.int .i64 i0, .int .i64 i1, .int .i64 i2, .int .i64 i3, .int .i64 i4, .int .i64 i5, .int .i64 i6, .int .i64 i7, .int .i64 i8, .int .i64 i9, .int .i64 i10, .int .i64 i11, .slice A n c, .slice none 0 0, .slice none 0 0, .slice none 0 0, .slice none 0 0, .slice none 0 0], .agg #[.int .i64 i0, .int .i64 i1, .int .i64 i2, .int .i64 i3, .int .i64 i4, .int .i64 i5, .int .i64 i6, .int .i64 i7, .int .i64 i8, .int .i64 i9, .int .i64 i10, .int .i64 i11, .slice A' n c', .slice none 0 0, .slice none 0 0, .slice none 0 0, .slice none 0 0, .slice none 0 0]] w fun e w' => e = .returned (.bool true) ∧ Below w.heap.size w w' := by
  have hb : Below w.heap.size w ((w.alloc (.cells #[.int .i64 i0, .int .i64 i1, .int .i64 i2, .int .i64 i3, .int .i64 i4, .int .i64 i5, .int .i64 i6, .int .i64 i7, .int .i64 i8, .int .i64 i9, .int .i64 i10, .int .i64 i11, .slice A n c, .slice none 0 0, .slice none 0 0, .slice none 0 0, .slice none 0 0, .slice none 0 0] 33)).alloc (.cells #[.int .i64 i0, .int .i64 i1, .int .i64 i2, .int .i64 i3, .int .i64 i4, .int .i64 i5, .int .i64 i6, .int .i64 i7, .int .i64 i8, .int .i64 i9, .int .i64 i10, .int .i64 i11, .slice A' n c', .slice none 0 0, .slice none 0 0, .slice none 0 0, .slice none 0 0, .slice none 0 0] 33)) := ((Below.refl _ _).alloc (Nat.le_refl _) _).alloc (by simp) _
  have hP : Blk ((w.alloc (.cells #[.int .i64 i0, .int .i64 i1, .int .i64 i2, .int .i64 i3, .int .i64 i4, .int .i64 i5, .int .i64 i6, .int .i64 i7, .int .i64 i8, .int .i64 i9, .int .i64 i10, .int .i64 i11, .slice A n c, .slice none 0 0, .slice none 0 0, .slice none 0 0, .slice none 0 0, .slice none 0 0] 33)).alloc (.cells #[.int .i64 i0, .int .i64 i1, .int .i64 i2, .int .i64 i3, .int .i64 i4, .int .i64 i5, .int .i64 i6, .int .i64 i7, .int .i64 i8, .int .i64 i9, .int .i64 i10, .int .i64 i11, .slice A' n c', .slice none 0 0, .slice none 0 0, .slice none 0 0, .slice none 0 0, .slice none 0 0] 33)) w.heap.size 33 #[.int .i64 i0, .int .i64 i1, .int .i64 i2, .int .i64 i3, .int .i64 i4, .int .i64 i5, .int .i64 i6, .int .i64 i7, .int .i64 i8, .int .i64 i9, .int .i64 i10, .int .i64 i11, .slice A n c, .slice none 0 0, .slice none 0 0, .slice none 0 0, .slice none 0 0, .slice none 0 0] := Blk.alloc (Blk.new w _ _) _
  have hQ : Blk ((w.alloc (.cells #[.int .i64 i0, .int .i64 i1, .int .i64 i2, .int .i64 i3, .int .i64 i4, .int .i64 i5, .int .i64 i6, .int .i64 i7, .int .i64 i8, .int .i64 i9, .int .i64 i10, .int .i64 i11, .slice A n c, .slice none 0 0, .slice none 0 0, .slice none 0 0, .slice none 0 0, .slice none 0 0] 33)).alloc (.cells #[.int .i64 i0, .int .i64 i1, .int .i64 i2, .int .i64 i3, .int .i64 i4, .int .i64 i5, .int .i64 i6, .int .i64 i7, .int .i64 i8, .int .i64 i9, .int .i64 i10, .int .i64 i11, .slice A' n c', .slice none 0 0, .slice none 0 0, .slice none 0 0, .slice none 0 0, .slice none 0 0] 33)) (w.heap.size + 1) 33 #[.int .i64 i0, .int .i64 i1, .int .i64 i2, .int .i64 i3, .int .i64 i4, .int .i64 i5, .int .i64 i6, .int .i64 i7, .int .i64 i8, .int .i64 i9, .int .i64 i10, .int .i64 i11, .slice A' n c', .slice none 0 0, .slice none 0 0, .slice none 0 0, .slice none 0 0, .slice none 0 0] := by
    have := Blk.new (w.alloc (.cells #[.int .i64 i0, .int .i64 i1, .int .i64 i2, .int .i64 i3, .int .i64 i4, .int .i64 i5, .int .i64 i6, .int .i64 i7, .int .i64 i8, .int .i64 i9, .int .i64 i10, .int .i64 i11, .slice A n c, .slice none 0 0, .slice none 0 0, .slice none 0 0, .slice none 0 0, .slice none 0 0] 33)) 33 #[.int .i64 i0, .int .i64 i1, .int .i64 i2, .int .i64 i3, .int .i64 i4, .int .i64 i5, .int .i64 i6, .int .i64 i7, .int .i64 i8, .int .i64 i9, .int .i64 i10, .int .i64 i11, .slice A' n c', .slice none 0 0, .slice none 0 0, .slice none 0 0, .slice none 0 0, .slice none 0 0]
    simpa using this
  have hv1 := conv27 c (hr.below hb)
  have hv2 := conv27 c' (hr'.below hb)
  generalize strOfNums zs = S at *
  clear hr hr'
  go_enter Try.func11, Try.ntmps11
  go_upto_region 1 with fail
  generalize ((w.alloc (.cells #[.int .i64 i0, .int .i64 i1, .int .i64 i2, .int .i64 i3, .int .i64 i4, .int .i64 i5, .int .i64 i6, .int .i64 i7, .int .i64 i8, .int .i64 i9, .int .i64 i10, .int .i64 i11, .slice A n c, .slice none 0 0, .slice none 0 0, .slice none 0 0, .slice none 0 0, .slice none 0 0] 33)).alloc (.cells #[.int .i64 i0, .int .i64 i1, .int .i64 i2, .int .i64 i3, .int .i64 i4, .int .i64 i5, .int .i64 i6, .int .i64 i7, .int .i64 i8, .int .i64 i9, .int .i64 i10, .int .i64 i11, .slice A' n c', .slice none 0 0, .slice none 0 0, .slice none 0 0, .slice none 0 0, .slice none 0 0] 33)) = W at *
  have pc0 : W.cell? ⟨w.heap.size, 0, none⟩ = some (.int .i64 i0) := (hP.cell 0).trans rfl
  have pc1 : W.cell? ⟨w.heap.size, 1, none⟩ = some (.int .i64 i1) := (hP.cell 1).trans rfl
  have pc2 : W.cell? ⟨w.heap.size, 2, none⟩ = some (.int .i64 i2) := (hP.cell 2).trans rfl
  have pc3 : W.cell? ⟨w.heap.size, 3, none⟩ = some (.int .i64 i3) := (hP.cell 3).trans rfl
  have pc4 : W.cell? ⟨w.heap.size, 4, none⟩ = some (.int .i64 i4) := (hP.cell 4).trans rfl
  have pc5 : W.cell? ⟨w.heap.size, 5, none⟩ = some (.int .i64 i5) := (hP.cell 5).trans rfl
  have pc6 : W.cell? ⟨w.heap.size, 6, none⟩ = some (.int .i64 i6) := (hP.cell 6).trans rfl
  have pc7 : W.cell? ⟨w.heap.size, 7, none⟩ = some (.int .i64 i7) := (hP.cell 7).trans rfl
  have pc8 : W.cell? ⟨w.heap.size, 8, none⟩ = some (.int .i64 i8) := (hP.cell 8).trans rfl
  have pc9 : W.cell? ⟨w.heap.size, 9, none⟩ = some (.int .i64 i9) := (hP.cell 9).trans rfl
  have pc10 : W.cell? ⟨w.heap.size, 10, none⟩ = some (.int .i64 i10) := (hP.cell 10).trans rfl
  have pc11 : W.cell? ⟨w.heap.size, 11, none⟩ = some (.int .i64 i11) := (hP.cell 11).trans rfl
  have pc12 : W.cell? ⟨w.heap.size, 12, none⟩ = some (.slice A n c) := (hP.cell 12).trans rfl
  have pc13 : W.cell? ⟨w.heap.size, 13, none⟩ = some (.slice none 0 0) := (hP.cell 13).trans rfl
  have pc14 : W.cell? ⟨w.heap.size, 14, none⟩ = some (.slice none 0 0) := (hP.cell 14).trans rfl
  have pc15 : W.cell? ⟨w.heap.size, 15, none⟩ = some (.slice none 0 0) := (hP.cell 15).trans rfl
  have pc16 : W.cell? ⟨w.heap.size, 16, none⟩ = some (.slice none 0 0) := (hP.cell 16).trans rfl
  have pc17 : W.cell? ⟨w.heap.size, 17, none⟩ = some (.slice none 0 0) := (hP.cell 17).trans rfl
  have qc0 : W.cell? ⟨w.heap.size + 1, 0, none⟩ = some (.int .i64 i0) := (hQ.cell 0).trans rfl
  have qc1 : W.cell? ⟨w.heap.size + 1, 1, none⟩ = some (.int .i64 i1) := (hQ.cell 1).trans rfl
  have qc2 : W.cell? ⟨w.heap.size + 1, 2, none⟩ = some (.int .i64 i2) := (hQ.cell 2).trans rfl
  have qc3 : W.cell? ⟨w.heap.size + 1, 3, none⟩ = some (.int .i64 i3) := (hQ.cell 3).trans rfl
  have qc4 : W.cell? ⟨w.heap.size + 1, 4, none⟩ = some (.int .i64 i4) := (hQ.cell 4).trans rfl
  have qc5 : W.cell? ⟨w.heap.size + 1, 5, none⟩ = some (.int .i64 i5) := (hQ.cell 5).trans rfl
  have qc6 : W.cell? ⟨w.heap.size + 1, 6, none⟩ = some (.int .i64 i6) := (hQ.cell 6).trans rfl
  have qc7 : W.cell? ⟨w.heap.size + 1, 7, none⟩ = some (.int .i64 i7) := (hQ.cell 7).trans rfl
  have qc8 : W.cell? ⟨w.heap.size + 1, 8, none⟩ = some (.int .i64 i8) := (hQ.cell 8).trans rfl
  have qc9 : W.cell? ⟨w.heap.size + 1, 9, none⟩ = some (.int .i64 i9) := (hQ.cell 9).trans rfl
  have qc10 : W.cell? ⟨w.heap.size + 1, 10, none⟩ = some (.int .i64 i10) := (hQ.cell 10).trans rfl
  have qc11 : W.cell? ⟨w.heap.size + 1, 11, none⟩ = some (.int .i64 i11) := (hQ.cell 11).trans rfl
  have qc12 : W.cell? ⟨w.heap.size + 1, 12, none⟩ = some (.slice A' n c') := (hQ.cell 12).trans rfl
  have qc13 : W.cell? ⟨w.heap.size + 1, 13, none⟩ = some (.slice none 0 0) := (hQ.cell 13).trans rfl
  have qc14 : W.cell? ⟨w.heap.size + 1, 14, none⟩ = some (.slice none 0 0) := (hQ.cell 14).trans rfl
  have qc15 : W.cell? ⟨w.heap.size + 1, 15, none⟩ = some (.slice none 0 0) := (hQ.cell 15).trans rfl
  have qc16 : W.cell? ⟨w.heap.size + 1, 16, none⟩ = some (.slice none 0 0) := (hQ.cell 16).trans rfl
  have qc17 : W.cell? ⟨w.heap.size + 1, 17, none⟩ = some (.slice none 0 0) := (hQ.cell 17).trans rfl
  clear hP hQ
  go_wp2_with fail
  refine (ints_nil _).mono ?_
  rintro e w1 ⟨rfl, rfl⟩
  go_wp2_with fail
  refine (syms_nil _).mono ?_
  rintro e w1 ⟨rfl, rfl⟩
  go_wp2_with fail
  refine (syms_nil _).mono ?_
  rintro e w1 ⟨rfl, rfl⟩
  go_wp2_with fail
  go_loop [5] (fun x => x = .int .i64 0) (fun _ => 0)
  case atStart => rfl
  case round =>
    subst hrel
    go_wp2_with fail
    go_loop [6] (fun x => x = .int .i64 0) (fun _ => 0)
    case atStart => rfl
    case round =>
      subst hrel
      go_wp2
      go_ret
      exact ⟨rfl, hb⟩

theorem u32Info : (Try.prog.info? 56).map (fun i => (i.zero, i.size, i.bytes)) = some (some (.int .u32 0), 1, 4) := by kernel_rfl
set_option maxHeartbeats 2000000 in
theorem row_any (w : World) (base : Nat) (V : Value) (m many : Nat) (v : Int) (xs : List Int) (hown : w.ownsRow base 56 1 V m (xs.map (Value.int .u32))) (hb : base ≤ w.heap.size) (hm : m ≤ 1000) (hmany : many ≤ 1000) (v0 : 0 ≤ v) (v1 : v ≤ 65535) :
    Calls Try.prog 19 #[V, .int .i64 many, .int .i64 v] w fun e w' => ∃ V', e = .returned V' ∧ w'.ownsRow base 56 1 V' (m + many) ((xs ++ List.replicate many v).map (Value.int .u32)) ∧ Below base w w' := by
  obtain ⟨i0, hi, hz0, hz1, hz2⟩ := info_parts u32Info
  have hw : IntKind.u32.wrap v = v := by rw [IntKind.wrap_u32]; omega
  go_enter Try.func19, Try.ntmps19
  go_wp2_with fail
  go_loopw [0, 7] (fun x y wr => ∃ i : Nat, i ≤ many ∧ y = .int .i64 i ∧ wr.ownsRow base 56 1 x (m + i) ((xs ++ List.replicate i v).map (Value.int .u32)) ∧ Below base w wr) (fun _ y _ => many - (intOf y).toNat)
  case atStart => exact ⟨0, by omega, rfl, by simpa using hown, Below.refl _ _⟩
  case round =>
    obtain ⟨i, hi', rfl, hown2, hbl⟩ := hrel
    by_cases hlt : i < many
    · have hiI : (i : Int) < (many : Int) := by omega
      have hsz := hbl.size
      obtain ⟨VA, vc, rfl⟩ := own_slice hown2
      go_wp2_with (first
        | (at_builtin; refine wpList_append_own _ rfl _ _ 22 rfl base 56 i0 (.int .u32 0) 1 4 Try.underlying22 hi hz0 hz1 hz2 rfl (by decide) _ _ _ rfl (hown2.alloc _) ⟨wr.heap.size, 0, none⟩ 1 1 [.int .u32 v] rfl rfl (news_one wr _ _) ?c2 ?c3 ?c4 ?c5 ?_)
        | go_in)
      case c2 => intro u hu; simp at hu; subst hu; rfl
      case c3 => unfold maxLen; omega
      case c4 => omega
      case c5 => simp; omega
      intro v' w1 own1 hgrow _
      have owna := hown2.alloc (.cells #[.int .u32 v] 56)
      have hb1 := (hbl.alloc (Nat.le_trans hb hsz) (.cells #[.int .u32 v] 56)).grown hgrow (by simp; omega) (fun b hb => (owna.lt b hb).1)
      obtain ⟨VA1, vc1, rfl⟩ := own_slice own1
      have HF := Lib.hid (And.intro own1 hb1)
      clear own1 hb1 owna hown2 hbl hgrow hown
      go_wp2
      go_roundw
      case rel =>
        obtain ⟨own1, hb1⟩ := HF.out
        refine ⟨i + 1, by omega, by go_num, ?_, hb1⟩
        simpa [List.replicate_succ', Nat.add_assoc] using own1
      case measure => simp [intOf]; omega
    · obtain rfl : i = many := by omega
      have hiI : ¬ (i : Int) < (i : Int) := by omega
      go_wp2
      go_ret
      exact ⟨_, rfl, by simpa using hown2, hbl⟩

def gapsL : List Int := ((([] ++ List.replicate 256 2170) ++ List.replicate 1 667) ++ List.replicate 1 735) ++ List.replicate 16 860
theorem gaps_found : fnd gapsL 0 2168 667 735 855 1710 24 = some ([0], 256, 0, 274) := by decide +kernel
theorem gaps_u32 : isU32 gapsL := by
  intro z hz
  simp only [gapsL, List.mem_append, List.mem_replicate, List.not_mem_nil, false_or] at hz
  omega
theorem gaps_len : gapsL.length = 274 := by decide +kernel

set_option maxRecDepth 100000 in
set_option maxHeartbeats 4000000 in
theorem lives27 (w : World) : Calls Try.prog 7 #[] w fun e w' => e = .returned (.bool true) ∧ Below w.heap.size w w' := by
  have h1 := row_any w w.heap.size (.slice none 0 0) 0 256 2170 [] (World.ownsRow_nil _ _ _ _) (Nat.le_refl _) (by omega) (by omega) (by omega) (by omega)
  go_enter Try.func7, Try.ntmps7
  go_wp2_with fail
  refine h1.mono ?_
  rintro e w1 ⟨V1, rfl, own1, hb1⟩
  clear h1
  have h2 := row_any w1 w.heap.size V1 _ 1 667 _ own1 hb1.size (by omega) (by omega) (by omega) (by omega)
  go_wp2_with fail
  refine h2.mono ?_
  rintro e w2 ⟨V2, rfl, own2, hb2⟩
  have hbl2 := hb1.trans hb2
  clear h2 own1 hb1 hb2
  have h3 := row_any w2 w.heap.size V2 _ 1 735 _ own2 hbl2.size (by omega) (by omega) (by omega) (by omega)
  go_wp2_with fail
  refine h3.mono ?_
  rintro e w3 ⟨V3, rfl, own3, hb3⟩
  have hbl3 := hbl2.trans hb3
  clear h3 own2 hbl2 hb3
  have h4 := row_any w3 w.heap.size V3 _ 16 860 _ own3 hbl3.size (by omega) (by omega) (by omega) (by omega)
  go_wp2_with fail
  refine h4.mono ?_
  rintro e w4 ⟨V4, rfl, own4, hb4⟩
  have hbl4 := hbl3.trans hb4
  clear h4 own3 hbl3 hb4
  have own4' : w4.ownsRow w.heap.size 56 1 V4 274 (gapsL.map (Value.int .u32)) := own4
  clear own4
  obtain ⟨A4, c4, rfl⟩ := own_slice own4'
  go_wp2_with fail
  refine (standard_any _).mono ?_
  rintro e w5 ⟨rfl, hb5⟩
  have own5 := own_kept own4' hb5
  have hbl5 := bthen hbl4 hb5
  clear own4' hbl4 hb5
  have hf := find_any w5 A4 274 c4 gapsL 0 2168 667 735 855 1710 24 (Reads.of_own own5) gaps_u32 (by omega)
  go_wp2_with fail
  refine hf.mono ?_
  rintro e w6 ⟨hb6, hfo⟩
  clear hf
  have hbl6 := bthen hbl5 hb6
  rcases hfo with ⟨h, _⟩ | ⟨d, m, pa, k, V, h, rfl, ownV, hu⟩
  · rw [gaps_found] at h; cases h
  rw [gaps_found] at h
  injection h with h
  injection h with h1 h
  injection h with h2 h
  injection h with h3 h4
  subst h1 h2 h3 h4
  rw [show stdB 2168 667 735 855 1710 = true by decide]
  obtain ⟨g, cap, rfl, hg0, hg1⟩ := ownV.form (by decide)
  have c0 := ownV.cellAt 0 (by decide)
  have c0' : w6.cell? ⟨g, 0, none⟩ = some (.int .u8 0) := c0.trans rfl
  simp only [blkV, if_true]
  have hXa : Blk (w6.alloc (.cells #[.int .i64 0, .int .i64 0, .int .i64 0, .int .i64 0, .int .i64 0, .int .i64 0, .int .i64 0, .int .i64 0, .int .i64 0, .int .i64 0, .int .i64 0, .int .i64 0, .slice none 0 0, .slice none 0 0, .slice none 0 0, .slice none 0 0, .slice none 0 0, .slice none 0 0] 33)) w6.heap.size 33 #[.int .i64 0, .int .i64 0, .int .i64 0, .int .i64 0, .int .i64 0, .int .i64 0, .int .i64 0, .int .i64 0, .int .i64 0, .int .i64 0, .int .i64 0, .int .i64 0, .slice none 0 0, .slice none 0 0, .slice none 0 0, .slice none 0 0, .slice none 0 0, .slice none 0 0] := Blk.new w6 _ _
  have H6 := Lib.hid hbl6
  clear c0 ownV hbl6 hb6 own5 hbl5
  go_wp2_with (first
    | (refine wpList_store_box rfl 33 _ _ rfl (w6.heap.size) #[.int .i64 16, .int .i64 0, .int .i64 0, .int .i64 0, .int .i64 0, .int .i64 0, .int .i64 0, .int .i64 0, .int .i64 0, .int .i64 0, .int .i64 0, .int .i64 0, .slice (some ⟨g, 0, none⟩) 1 cap, .slice none 0 0, .slice none 0 0, .slice none 0 0, .slice none 0 0, .slice none 0 0] rfl rfl 33 #[.int .i64 0, .int .i64 0, .int .i64 0, .int .i64 0, .int .i64 0, .int .i64 0, .int .i64 0, .int .i64 0, .int .i64 0, .int .i64 0, .int .i64 0, .int .i64 0, .slice none 0 0, .slice none 0 0, .slice none 0 0, .slice none 0 0, .slice none 0 0, .slice none 0 0] hXa blkInfo rfl (by simp [Value.oneCell']) ?_)
    | go_in)
  intro W7 hX7 hg7
  have hg67 := grown_trans (World.grownBy_alloc w6 (.cells #[.int .i64 0, .int .i64 0, .int .i64 0, .int .i64 0, .int .i64 0, .int .i64 0, .int .i64 0, .int .i64 0, .int .i64 0, .int .i64 0, .int .i64 0, .int .i64 0, .slice none 0 0, .slice none 0 0, .slice none 0 0, .slice none 0 0, .slice none 0 0, .slice none 0 0] 33) (some w6.heap.size)) hg7
  have hb7 := H6.out.grown hg67 H6.out.size (fun j hj => by injection hj with hj; have := H6.out.size; omega)
  have c7 : W7.cell? ⟨g, 0, none⟩ = some (.int .u8 0) := (World.cell?_of_block (hg67.block g hg1 (fun e => by injection e with e; omega))).trans c0'
  have xc0 : W7.cell? ⟨w6.heap.size, 0, none⟩ = some (.int .i64 16) := (hX7.cell 0).trans rfl
  have xc12 : W7.cell? ⟨w6.heap.size, 12, none⟩ = some (.slice (some ⟨g, 0, none⟩) 1 cap) := (hX7.cell 12).trans rfl
  clear hX7 hg7 hg67 hXa c0'
  go_wp2
  go_ret
  exact ⟨rfl, hb7⟩

end Go.Proofs.Ytckgmnlmimogjaa
