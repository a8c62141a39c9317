/- Layer 24: contracts of the document's Wrong, its Sounds. -/
import Derived.Test.YtnmapncgnceldaaWk21
namespace Go.Proofs.Ytnmapncgnceldaa
open Go.RowKit

/-- is a block of a kind behind place i, ahead of place j? -/
def latB (bs : List WB) (e : Int) (i : Nat) : Nat → Bool
  | 0 => false
  | j + 1 => latB bs e i j || (decide (i < j) && decide ((bs.getD j default).id = e))
theorem latB_le (bs : List WB) (e : Int) (i : Nat) : ∀ j, j ≤ i + 1 → latB bs e i j = false
  | 0, _ => rfl
  | j + 1, h => by
    unfold latB
    rw [latB_le bs e i j (by omega), decide_eq_false (by omega)]
    rfl
theorem latB_last (bs : List WB) (e : Int) (i : Nat) (hi : (bs.getD i default).id ≠ e) : ∀ j, (!latB bs e i j) = decide (lastB bs e j < (i : Int))
  | 0 => by
    show (!false) = decide ((-1 : Int) < (i : Int))
    rw [decide_eq_true (by omega)]
    rfl
  | j + 1 => by
    have ih := latB_last bs e i hi j
    unfold latB lastB
    by_cases he : (bs.getD j default).id = e
    · rw [if_pos he]
      have hne : i ≠ j := by rintro rfl; exact hi he
      by_cases hij : i < j
      · rw [decide_eq_true hij, decide_eq_true he, decide_eq_false (by omega)]
        simp
      · rw [decide_eq_false hij, latB_le bs e i j (by omega), decide_eq_true he, decide_eq_true (show (j : Int) < (i : Int) by omega)]
        rfl
    · rw [if_neg he, decide_eq_false he, Bool.and_false, Bool.or_false]
      exact ih
theorem pair_lat (bs : List WB) (b e : Int) (i : Nat) (hbe : b ≠ e) : pairB bs b e i = if (bs.getD i default).id = b then (openB bs b e i || !latB bs e i bs.length) else if (bs.getD i default).id = e then !(openB bs b e i) else false := by
  unfold pairB
  by_cases h : (bs.getD i default).id = b
  · rw [if_pos h, if_pos h, latB_last bs e i (by rw [h]; exact hbe)]
  · rw [if_neg h, if_neg h]
def soundE (bs : List WB) : Int := (soundG bs bs.length 0).2
theorem far_wide {d : WB} {i n : Nat} (hi : i < n) : farB d i n = (farL d).any fun x => decide (x < -(n : Int) ∨ (n : Int) < x ∨ (i : Int) + x < 0 ∨ (n : Int) ≤ (i : Int) + x) := by
  unfold farB
  congr 1
  funext x
  apply decide_eq_decide.2
  omega

set_option maxRecDepth 100000 in
set_option maxHeartbeats 8000000 in
theorem wrong_any (w : World) (LA : Option Addr) (n lc i0 : Nat) (bs : List WB) (hB : BlksR w (· < w.heap.size) LA n bs) (hL : Lite bs) (hi0 : i0 < n) :
    Calls Try.prog 27 #[.slice LA n lc, .int .i64 (i0 : Int)] w fun x w' => x = .returned (.int .i64 (wrongB bs i0)) ∧ Below w.heap.size w w' := by
  have hln := hB.len
  have hn60 : n ≤ 60 := by have := hL.1; omega
  have hbc := hL.2 i0 (by omega)
  have hBk := hB
  have HBk := Lib.hid hB
  have HLN := Lib.hid hln
  clear hB hL hln
  have hi00 : (0 : Int) ≤ (i0 : Int) := Int.natCast_nonneg _
  have hiI : (i0 : Int) < (n : Int) := by omega
  obtain ⟨ad, rfl, hab, cs, hWB, hc18⟩ := hBk.at_ (i := i0) hi0
  obtain ⟨q, hq⟩ : ∃ q, q = bs.getD i0 default := ⟨_, rfl⟩
  rw [← hq] at hWB
  obtain ⟨v2, v3, v4, v5, v6, v7, v9, v10, v11, v12, TA, tn, tc, IA, ic, v15, v16, v17, rfl, h1c, hTs, hIs⟩ := hWB
  have X0 := Lib.hid (show ∀ jj vv, ([.int .i64 q.id, .int .i64 q.pz, v2, v3, v4, v5, v6, v7, .int .i64 q.ct, v9, v10, v11, v12, .slice TA tn tc, .slice IA q.ns.length ic, v15, v16, v17] : List Value)[jj]? = some vv → w.cell? ((ad.add (i0 * 18)).add jj) = some vv from hc18)
  have X1 := Lib.hid (show (#[.int .i64 q.id, .int .i64 q.pz, v2, v3, v4, v5, v6, v7, .int .i64 q.ct, v9, v10, v11, v12, .slice TA tn tc, .slice IA q.ns.length ic, v15, v16, v17] : Array Value).all (·.oneCell') = true from all_one h1c)
  have HD := Lib.hid (And.intro hq (And.intro hTs hIs))
  clear hc18 h1c hq hTs hIs
  rw [← HD.out.1] at hbc
  clear hBk
  go_enter Try.func27, Try.ntmps27
  go_upto_region 3 with (first
    | (refine wpList_load_at rfl 45 _ rfl (ad.add (i0 * 18)) rfl [.int .i64 q.id, .int .i64 q.pz, v2, v3, v4, v5, v6, v7, .int .i64 q.ct, v9, v10, v11, v12, .slice TA tn tc, .slice IA q.ns.length ic, v15, v16, v17] X0.out _ Try.underlying45 rfl blkInfo ?_)
    | (refine wpList_store_box rfl 45 _ _ rfl (w.heap.size) #[.int .i64 q.id, .int .i64 q.pz, v2, v3, v4, v5, v6, v7, .int .i64 q.ct, v9, v10, v11, v12, .slice TA tn tc, .slice IA q.ns.length ic, v15, v16, v17] rfl rfl 45 #[.int .i64 0, .int .i64 0, .int .i64 0, .int .i64 0, .int .i64 0, .int .i64 0, .int .i64 0, .int .i64 0, .int .i64 0, .int .i64 0, .int .i64 0, .int .i64 0, .slice none 0 0, .slice none 0 0, .slice none 0 0, .slice none 0 0, .slice none 0 0, .slice none 0 0] (Blk.new w _ _) blkInfo rfl X1.out ?_)
    | fail)
  intro w1 hB1 hg1
  have hb1 : Below w.heap.size w w1 := ((Below.refl _ _).alloc (Nat.le_refl _) _).grown hg1 (by simp) (fun b e => by injection e with e; omega)
  have hs1 := hb1.size
  have IDS := Lib.hid (show ∀ j, j < n → ∃ x, x = (bs.getD j default).id ∧ w1.cell? (ad.add (j * 18)) = some (.int .i64 x) from fun j hj => by
    obtain ⟨ad2, hae, hab2, cs2, hWB2, hc2⟩ := (HBk.out.keep (w' := w1) (ψ := (· < w.heap.size)) (fun b hb => hb1.block b hb) (fun b hb => hb)).at_ (i := j) hj
    injection hae with hae
    subst hae
    obtain ⟨_, _, _, _, _, _, _, _, _, _, _, _, _, _, _, _, _, _, hcs2, _⟩ := hWB2
    subst hcs2
    exact ⟨_, rfl, hc2 0 _ rfl⟩)
  have c0 : w1.cell? ⟨w.heap.size, 0, none⟩ = some (.int .i64 q.id) := (hB1.cell 0).trans rfl
  have H1 := Lib.hid (And.intro hB1 (And.intro hb1 (And.intro (HD.out.2.1.reads (B := w.heap.size) (fun b h => h)) HD.out.2.2)))
  clear hB1 hg1 hb1 X0 X1
  go_upto_region 3 with fail
  go_loop [6] (fun x => ∃ k : Nat, x = .int .i64 (k : Int) ∧ k ≤ 2 ∧ (0 < k → pairB bs 36 37 i0 = false) ∧ (1 < k → pairB bs 33 34 i0 = false)) (fun x => 2 - (intOf x).toNat)
  case atStart => exact ⟨0, rfl, by omega, fun h => absurd h (by omega), fun h => absurd h (by omega)⟩
  case round =>
    obtain ⟨k, rfl, hk2, hp1, hp2⟩ := hrel
    obtain rfl | rfl | rfl : k = 0 ∨ k = 1 ∨ k = 2 := by omega
    · have HPR := Lib.hid (And.intro hp1 hp2)
      clear hp1 hp2
      go_upto_region 11 with fail
      go_loop [9, 11] (fun x y => ∃ j : Nat, y = .int .i64 (j : Int) ∧ j ≤ i0 ∧ x = .bool (openB bs 36 37 j)) (fun _ y => i0 - (intOf y).toNat)
      case atStart => exact ⟨0, rfl, by omega, rfl⟩
      case round =>
        obtain ⟨j, rfl, hji, rfl⟩ := hrel
        have hj0 : (0 : Int) ≤ (j : Int) := Int.natCast_nonneg _
        by_cases hjl : j < i0
        · have hjI : (j : Int) < (i0 : Int) := by omega
          have hjN : (j : Int) < (n : Int) := by omega
          have hwj : IntKind.i64.wrap ((j : Int) + 1) = (j : Int) + 1 := by rw [IntKind.wrap_i64]; omega
          obtain ⟨x, hx, cj⟩ := IDS.out j (by omega)
          have HXJ := Lib.hid hx
          clear hx
          by_cases hxb : x = 36
          · have HN := Lib.hid (show openB bs 36 37 (j + 1) = true from by rw [openB_succ, ← HXJ.out, if_pos hxb])
            rw [hxb] at cj
            clear hxb
            go_wp2
            go_round
            case rel => exact ⟨j + 1, by go_num, by omega, by rw [HN.out]⟩
            case measure => simp [intOf]; omega
          · by_cases hxe : x = 37
            · have HN := Lib.hid (show openB bs 36 37 (j + 1) = false from by rw [openB_succ, ← HXJ.out, if_neg hxb, if_pos hxe])
              rw [hxe] at cj
              clear hxb hxe
              go_wp2
              go_round
              case rel => exact ⟨j + 1, by go_num, by omega, by rw [HN.out]⟩
              case measure => simp [intOf]; omega
            · have HN := Lib.hid (show openB bs 36 37 (j + 1) = openB bs 36 37 j from by rw [openB_succ, ← HXJ.out, if_neg hxb, if_neg hxe])
              have h1 : (x == 36) = false := by simpa using hxb
              have h2 : (x == 37) = false := by simpa using hxe
              clear hxb hxe
              go_wp2
              go_round
              case rel => exact ⟨j + 1, by go_num, by omega, by rw [HN.out]⟩
              case measure => simp [intOf]; omega
        · obtain rfl : j = i0 := by omega
          have hjI : ¬ (j : Int) < (j : Int) := by omega
          have hwi : IntKind.i64.wrap ((j : Int) + 1) = (j : Int) + 1 := by rw [IntKind.wrap_i64]; omega
          obtain ⟨O, hO⟩ : ∃ O, O = openB bs 36 37 j := ⟨_, rfl⟩
          rw [← hO]
          have HO := Lib.hid hO
          clear hO
          go_upto_region 18 with fail
          go_loop [10, 12] (fun x y => ∃ m : Nat, y = .int .i64 (m : Int) ∧ j + 1 ≤ m ∧ m ≤ n ∧ x = .bool (latB bs 37 j m)) (fun _ y => n - (intOf y).toNat)
          case atStart => exact ⟨j + 1, by go_num, by omega, by omega, by rw [latB_le bs 37 j (j + 1) (Nat.le_refl _)]⟩
          case round =>
            obtain ⟨m, rfl, hm1, hmn, rfl⟩ := hrel
            have hm0 : (0 : Int) ≤ (m : Int) := Int.natCast_nonneg _
            by_cases hml : m < n
            · have hmI : (m : Int) < (n : Int) := by omega
              have hwm : IntKind.i64.wrap ((m : Int) + 1) = (m : Int) + 1 := by rw [IntKind.wrap_i64]; omega
              obtain ⟨x, hx, cj⟩ := IDS.out m hml
              have HN := Lib.hid (show latB bs 37 j (m + 1) = (latB bs 37 j m || decide (x = 37)) from by rw [latB, decide_eq_true (show j < m by omega), ← hx]; rfl)
              clear hx
              cases hla : latB bs 37 j m with
              | true =>
                rw [hla] at HN
                clear hla
                go_wp2
                go_round
                case rel => exact ⟨m + 1, by go_num, by omega, by omega, by rw [HN.out]; rfl⟩
                case measure => simp [intOf]; omega
              | false =>
                rw [hla] at HN
                clear hla
                by_cases hxe : x = 37
                · rw [hxe] at cj HN
                  clear hxe
                  go_wp2
                  go_round
                  case rel => exact ⟨m + 1, by go_num, by omega, by omega, by rw [HN.out]; rfl⟩
                  case measure => simp [intOf]; omega
                · have h2 : (x == 37) = false := by simpa using hxe
                  have HXE := Lib.hid hxe
                  clear hxe
                  go_wp2
                  go_round
                  case rel => exact ⟨m + 1, by go_num, by omega, by omega, by rw [HN.out, decide_eq_false HXE.out]; rfl⟩
                  case measure => simp [intOf]; omega
            · obtain rfl : m = n := by omega
              have hmI : ¬ (m : Int) < (m : Int) := by omega
              obtain ⟨T9, hT9⟩ : ∃ T9, T9 = latB bs 37 j m := ⟨_, rfl⟩
              rw [← hT9]
              have HPL := Lib.hid (show pairB bs 36 37 j = if q.id = 36 then (O || !T9) else if q.id = 37 then !O else false from by rw [pair_lat bs 36 37 j (by decide), ← HD.out.1, ← HO.out, HLN.out, ← hT9])
              clear hT9
              by_cases hqb : q.id = 36
              · rw [hqb] at c0 HPL
                clear hqb
                cases O <;> cases T9
                · go_wp2
                  go_ret
                  exact ⟨ret_int (show (6 : Int) = wrongB bs j from by unfold wrongB; rw [if_pos (by rw [show pairB bs 36 37 j = true from HPL.out.trans rfl]; simp)]), H1.out.2.1⟩
                · go_wp2
                  go_round
                  case rel => exact ⟨1, rfl, by omega, fun _ => HPL.out.trans rfl, fun h => absurd h (by omega)⟩
                  case measure => simp [intOf]
                · go_wp2
                  go_ret
                  exact ⟨ret_int (show (6 : Int) = wrongB bs j from by unfold wrongB; rw [if_pos (by rw [show pairB bs 36 37 j = true from HPL.out.trans rfl]; simp)]), H1.out.2.1⟩
                · go_wp2
                  go_ret
                  exact ⟨ret_int (show (6 : Int) = wrongB bs j from by unfold wrongB; rw [if_pos (by rw [show pairB bs 36 37 j = true from HPL.out.trans rfl]; simp)]), H1.out.2.1⟩
              · by_cases hqe : q.id = 37
                · rw [hqe] at c0 HPL
                  clear hqb hqe
                  cases O <;> cases T9
                  · go_wp2
                    go_ret
                    exact ⟨ret_int (show (6 : Int) = wrongB bs j from by unfold wrongB; rw [if_pos (by rw [show pairB bs 36 37 j = true from HPL.out.trans rfl]; simp)]), H1.out.2.1⟩
                  · go_wp2
                    go_ret
                    exact ⟨ret_int (show (6 : Int) = wrongB bs j from by unfold wrongB; rw [if_pos (by rw [show pairB bs 36 37 j = true from HPL.out.trans rfl]; simp)]), H1.out.2.1⟩
                  · go_wp2
                    go_round
                    case rel => exact ⟨1, rfl, by omega, fun _ => HPL.out.trans rfl, fun h => absurd h (by omega)⟩
                    case measure => simp [intOf]
                  · go_wp2
                    go_round
                    case rel => exact ⟨1, rfl, by omega, fun _ => HPL.out.trans rfl, fun h => absurd h (by omega)⟩
                    case measure => simp [intOf]
                · have g1 : (q.id == 36) = false := by simpa using hqb
                  have g2 : (q.id == 37) = false := by simpa using hqe
                  rw [if_neg hqb, if_neg hqe] at HPL
                  clear hqb hqe
                  cases O <;> cases T9
                  · go_wp2
                    go_round
                    case rel => exact ⟨1, rfl, by omega, fun _ => HPL.out.trans rfl, fun h => absurd h (by omega)⟩
                    case measure => simp [intOf]
                  · go_wp2
                    go_round
                    case rel => exact ⟨1, rfl, by omega, fun _ => HPL.out.trans rfl, fun h => absurd h (by omega)⟩
                    case measure => simp [intOf]
                  · go_wp2
                    go_round
                    case rel => exact ⟨1, rfl, by omega, fun _ => HPL.out.trans rfl, fun h => absurd h (by omega)⟩
                    case measure => simp [intOf]
                  · go_wp2
                    go_round
                    case rel => exact ⟨1, rfl, by omega, fun _ => HPL.out.trans rfl, fun h => absurd h (by omega)⟩
                    case measure => simp [intOf]
    · have HPR := Lib.hid (And.intro hp1 hp2)
      clear hp1 hp2
      go_upto_region 11 with fail
      go_loop [9, 11] (fun x y => ∃ j : Nat, y = .int .i64 (j : Int) ∧ j ≤ i0 ∧ x = .bool (openB bs 33 34 j)) (fun _ y => i0 - (intOf y).toNat)
      case atStart => exact ⟨0, rfl, by omega, rfl⟩
      case round =>
        obtain ⟨j, rfl, hji, rfl⟩ := hrel
        have hj0 : (0 : Int) ≤ (j : Int) := Int.natCast_nonneg _
        by_cases hjl : j < i0
        · have hjI : (j : Int) < (i0 : Int) := by omega
          have hjN : (j : Int) < (n : Int) := by omega
          have hwj : IntKind.i64.wrap ((j : Int) + 1) = (j : Int) + 1 := by rw [IntKind.wrap_i64]; omega
          obtain ⟨x, hx, cj⟩ := IDS.out j (by omega)
          have HXJ := Lib.hid hx
          clear hx
          by_cases hxb : x = 33
          · have HN := Lib.hid (show openB bs 33 34 (j + 1) = true from by rw [openB_succ, ← HXJ.out, if_pos hxb])
            rw [hxb] at cj
            clear hxb
            go_wp2
            go_round
            case rel => exact ⟨j + 1, by go_num, by omega, by rw [HN.out]⟩
            case measure => simp [intOf]; omega
          · by_cases hxe : x = 34
            · have HN := Lib.hid (show openB bs 33 34 (j + 1) = false from by rw [openB_succ, ← HXJ.out, if_neg hxb, if_pos hxe])
              rw [hxe] at cj
              clear hxb hxe
              go_wp2
              go_round
              case rel => exact ⟨j + 1, by go_num, by omega, by rw [HN.out]⟩
              case measure => simp [intOf]; omega
            · have HN := Lib.hid (show openB bs 33 34 (j + 1) = openB bs 33 34 j from by rw [openB_succ, ← HXJ.out, if_neg hxb, if_neg hxe])
              have h1 : (x == 33) = false := by simpa using hxb
              have h2 : (x == 34) = false := by simpa using hxe
              clear hxb hxe
              go_wp2
              go_round
              case rel => exact ⟨j + 1, by go_num, by omega, by rw [HN.out]⟩
              case measure => simp [intOf]; omega
        · obtain rfl : j = i0 := by omega
          have hjI : ¬ (j : Int) < (j : Int) := by omega
          have hwi : IntKind.i64.wrap ((j : Int) + 1) = (j : Int) + 1 := by rw [IntKind.wrap_i64]; omega
          obtain ⟨O, hO⟩ : ∃ O, O = openB bs 33 34 j := ⟨_, rfl⟩
          rw [← hO]
          have HO := Lib.hid hO
          clear hO
          go_upto_region 18 with fail
          go_loop [10, 12] (fun x y => ∃ m : Nat, y = .int .i64 (m : Int) ∧ j + 1 ≤ m ∧ m ≤ n ∧ x = .bool (latB bs 34 j m)) (fun _ y => n - (intOf y).toNat)
          case atStart => exact ⟨j + 1, by go_num, by omega, by omega, by rw [latB_le bs 34 j (j + 1) (Nat.le_refl _)]⟩
          case round =>
            obtain ⟨m, rfl, hm1, hmn, rfl⟩ := hrel
            have hm0 : (0 : Int) ≤ (m : Int) := Int.natCast_nonneg _
            by_cases hml : m < n
            · have hmI : (m : Int) < (n : Int) := by omega
              have hwm : IntKind.i64.wrap ((m : Int) + 1) = (m : Int) + 1 := by rw [IntKind.wrap_i64]; omega
              obtain ⟨x, hx, cj⟩ := IDS.out m hml
              have HN := Lib.hid (show latB bs 34 j (m + 1) = (latB bs 34 j m || decide (x = 34)) from by rw [latB, decide_eq_true (show j < m by omega), ← hx]; rfl)
              clear hx
              cases hla : latB bs 34 j m with
              | true =>
                rw [hla] at HN
                clear hla
                go_wp2
                go_round
                case rel => exact ⟨m + 1, by go_num, by omega, by omega, by rw [HN.out]; rfl⟩
                case measure => simp [intOf]; omega
              | false =>
                rw [hla] at HN
                clear hla
                by_cases hxe : x = 34
                · rw [hxe] at cj HN
                  clear hxe
                  go_wp2
                  go_round
                  case rel => exact ⟨m + 1, by go_num, by omega, by omega, by rw [HN.out]; rfl⟩
                  case measure => simp [intOf]; omega
                · have h2 : (x == 34) = false := by simpa using hxe
                  have HXE := Lib.hid hxe
                  clear hxe
                  go_wp2
                  go_round
                  case rel => exact ⟨m + 1, by go_num, by omega, by omega, by rw [HN.out, decide_eq_false HXE.out]; rfl⟩
                  case measure => simp [intOf]; omega
            · obtain rfl : m = n := by omega
              have hmI : ¬ (m : Int) < (m : Int) := by omega
              obtain ⟨T9, hT9⟩ : ∃ T9, T9 = latB bs 34 j m := ⟨_, rfl⟩
              rw [← hT9]
              have HPL := Lib.hid (show pairB bs 33 34 j = if q.id = 33 then (O || !T9) else if q.id = 34 then !O else false from by rw [pair_lat bs 33 34 j (by decide), ← HD.out.1, ← HO.out, HLN.out, ← hT9])
              clear hT9
              by_cases hqb : q.id = 33
              · rw [hqb] at c0 HPL
                clear hqb
                cases O <;> cases T9
                · go_wp2
                  go_ret
                  exact ⟨ret_int (show (6 : Int) = wrongB bs j from by unfold wrongB; rw [if_pos (by rw [show pairB bs 33 34 j = true from HPL.out.trans rfl]; simp)]), H1.out.2.1⟩
                · go_wp2
                  go_round
                  case rel => exact ⟨2, rfl, by omega, fun _ => HPR.out.1 (by omega), fun _ => HPL.out.trans rfl⟩
                  case measure => simp [intOf]
                · go_wp2
                  go_ret
                  exact ⟨ret_int (show (6 : Int) = wrongB bs j from by unfold wrongB; rw [if_pos (by rw [show pairB bs 33 34 j = true from HPL.out.trans rfl]; simp)]), H1.out.2.1⟩
                · go_wp2
                  go_ret
                  exact ⟨ret_int (show (6 : Int) = wrongB bs j from by unfold wrongB; rw [if_pos (by rw [show pairB bs 33 34 j = true from HPL.out.trans rfl]; simp)]), H1.out.2.1⟩
              · by_cases hqe : q.id = 34
                · rw [hqe] at c0 HPL
                  clear hqb hqe
                  cases O <;> cases T9
                  · go_wp2
                    go_ret
                    exact ⟨ret_int (show (6 : Int) = wrongB bs j from by unfold wrongB; rw [if_pos (by rw [show pairB bs 33 34 j = true from HPL.out.trans rfl]; simp)]), H1.out.2.1⟩
                  · go_wp2
                    go_ret
                    exact ⟨ret_int (show (6 : Int) = wrongB bs j from by unfold wrongB; rw [if_pos (by rw [show pairB bs 33 34 j = true from HPL.out.trans rfl]; simp)]), H1.out.2.1⟩
                  · go_wp2
                    go_round
                    case rel => exact ⟨2, rfl, by omega, fun _ => HPR.out.1 (by omega), fun _ => HPL.out.trans rfl⟩
                    case measure => simp [intOf]
                  · go_wp2
                    go_round
                    case rel => exact ⟨2, rfl, by omega, fun _ => HPR.out.1 (by omega), fun _ => HPL.out.trans rfl⟩
                    case measure => simp [intOf]
                · have g1 : (q.id == 33) = false := by simpa using hqb
                  have g2 : (q.id == 34) = false := by simpa using hqe
                  rw [if_neg hqb, if_neg hqe] at HPL
                  clear hqb hqe
                  cases O <;> cases T9
                  · go_wp2
                    go_round
                    case rel => exact ⟨2, rfl, by omega, fun _ => HPR.out.1 (by omega), fun _ => HPL.out.trans rfl⟩
                    case measure => simp [intOf]
                  · go_wp2
                    go_round
                    case rel => exact ⟨2, rfl, by omega, fun _ => HPR.out.1 (by omega), fun _ => HPL.out.trans rfl⟩
                    case measure => simp [intOf]
                  · go_wp2
                    go_round
                    case rel => exact ⟨2, rfl, by omega, fun _ => HPR.out.1 (by omega), fun _ => HPL.out.trans rfl⟩
                    case measure => simp [intOf]
                  · go_wp2
                    go_round
                    case rel => exact ⟨2, rfl, by omega, fun _ => HPR.out.1 (by omega), fun _ => HPL.out.trans rfl⟩
                    case measure => simp [intOf]
    · have hpa := hp1 (by omega)
      have hpb := hp2 (by omega)
      have HW := Lib.hid (show wrongB bs i0 = if farB q i0 n = true then 5 else 0 from by unfold wrongB; rw [hpa, hpb, if_neg (by decide), ← HD.out.1, HLN.out])
      clear hp1 hp2 hpa hpb
      have hbt := hbc.1
      have hbn := hbc.2
      clear hbc
      have htl : q.ts.length = tn := reads_len H1.out.2.2.1
      have htn60 : tn ≤ 60 := by omega
      have HTL := Lib.hid htl
      clear htl
      obtain ⟨i1, hj, hy0, hy1, hy2⟩ := info_parts intInfo4
      by_cases hq35 : q.id = 35
      · rw [hq35] at c0
        have HFL := Lib.hid (show farL q = q.ts from by unfold farL; rw [hq35]; rfl)
        clear hq35
        have c13 : w1.cell? ⟨w.heap.size, 13, none⟩ = some (.slice TA tn tc) := (H1.out.1.cell 13).trans rfl
        have hrT := H1.out.2.2.1.below H1.out.2.1
        have own0 := World.ownsRow_nil w1 w1.heap.size 3 1
        go_wp2_with (first
          | (at_builtin; refine wpList_append_any _ rfl _ _ 31 rfl w1.heap.size 3 i1 (.int .i64 0) 1 8 Try.underlying31 hj hy0 hy1 hy2 rfl (by decide) (.slice none 0 0) 0 [] rfl own0 w.heap.size TA tn tc (q.ts.map (Value.int .i64)) rfl hrT (by intro u hu; obtain ⟨x, _, rfl⟩ := List.mem_map.1 hu; rfl) (by unfold maxLen; omega) (by omega) (Nat.le_refl _) ?_)
          | go_in)
        intro v3 wq own3 hg3 hv3
        obtain ⟨A3, c3, rfl⟩ := own_slice own3
        have HLL := Lib.hid (show Reads wq wq.heap.size 1 A3 tn (q.ts.map (Value.int .i64)) ∧ q.ts.length = tn ∧ farL q = q.ts from ⟨Reads.of_own own3, HTL.out, HFL.out⟩)
        have HBQ := Lib.hid (show Below w.heap.size w wq from H1.out.2.1.grown hg3 hs1 (fun b e => by simp [Value.ownBlock] at e))
        have c0q : wq.cell? ⟨w.heap.size, 0, none⟩ = some (.int .i64 35) := hg3.cell c0 (fun e => by simp [Value.ownBlock] at e)
        clear own0 own3 hg3 hv3 hrT c0 c13
        go_upto_region 32 with fail
        have hM0 : (0 : Int) ≤ (tn : Int) := Int.natCast_nonneg _
        have hwnn : IntKind.i64.wrap (-(n : Int)) = -(n : Int) := by rw [IntKind.wrap_i64]; omega
        go_loop [15] (fun x => ∃ k : Nat, x = .int .i64 (k : Int) ∧ k ≤ tn ∧ ∀ j, j < k → ¬ ((q.ts).getD j 0 < -(n : Int) ∨ (n : Int) < (q.ts).getD j 0 ∨ (i0 : Int) + (q.ts).getD j 0 < 0 ∨ (n : Int) ≤ (i0 : Int) + (q.ts).getD j 0)) (fun x => tn - (intOf x).toNat)
        case atStart => exact ⟨0, rfl, by omega, fun j hj => absurd hj (by omega)⟩
        case round =>
          obtain ⟨k, rfl, hkM, hno⟩ := hrel
          have hk0 : (0 : Int) ≤ (k : Int) := Int.natCast_nonneg _
          by_cases hkl : k < tn
          · have hkI : (k : Int) < (tn : Int) := by omega
            have hwk : IntKind.i64.wrap ((k : Int) + 1) = (k : Int) + 1 := by rw [IntKind.wrap_i64]; omega
            obtain ⟨tad, hLe, _, hx⟩ := i32_at HLL.out.1 hkl
            obtain rfl := hLe
            obtain ⟨x, hxd⟩ : ∃ x : Int, x = (q.ts).getD k 0 := ⟨_, rfl⟩
            rw [← hxd] at hx
            have HXD := Lib.hid hxd
            have HNO := Lib.hid hno
            clear hxd hno
            have hyes : (x < -(n : Int) ∨ (n : Int) < x ∨ (i0 : Int) + x < 0 ∨ (n : Int) ≤ (i0 : Int) + x) → wrongB bs i0 = 5 := fun h => by
              rw [HW.out, far_wide hi0, if_pos]
              rw [List.any_eq_true]
              exact ⟨x, by rw [HLL.out.2.2, HXD.out]; exact getD_mem (by rw [HLL.out.2.1]; exact hkl), by simpa using h⟩
            have HY := Lib.hid hyes
            clear hyes
            by_cases h1 : x < -(n : Int)
            · go_wp2
              go_ret
              exact ⟨ret_int (HY.out (.inl h1)).symm, HBQ.out⟩
            · by_cases h2 : (n : Int) < x
              · go_wp2
                go_ret
                exact ⟨ret_int (HY.out (.inr (.inl h2))).symm, HBQ.out⟩
              · have hwx : IntKind.i64.wrap ((i0 : Int) + x) = (i0 : Int) + x := by rw [IntKind.wrap_i64]; omega
                by_cases h3 : (i0 : Int) + x < 0
                · go_wp2
                  go_ret
                  exact ⟨ret_int (HY.out (.inr (.inr (.inl h3)))).symm, HBQ.out⟩
                · by_cases h4 : (n : Int) ≤ (i0 : Int) + x
                  · go_wp2
                    go_ret
                    exact ⟨ret_int (HY.out (.inr (.inr (.inr h4)))).symm, HBQ.out⟩
                  · go_wp2
                    go_round
                    case rel => exact ⟨k + 1, by go_num, by omega, fun j hj => by
                      rcases Nat.lt_or_ge j k with h | h
                      · exact HNO.out j h
                      · obtain rfl : j = k := by omega
                        rw [← HXD.out]; rintro (h | h | h | h); exact h1 h; exact h2 h; exact h3 h; exact h4 h⟩
                    case measure => simp [intOf]; omega
          · obtain rfl : k = tn := by omega
            have hkI : ¬ (k : Int) < (k : Int) := by omega
            have HF := Lib.hid (show wrongB bs i0 = 0 from by
              rw [HW.out, far_wide hi0, if_neg]
              rw [Bool.not_eq_true, List.any_eq_false]
              intro x hx
              rw [HLL.out.2.2] at hx
              obtain ⟨j, hj, rfl⟩ := List.getElem_of_mem hx
              have := hno j (by rw [HLL.out.2.1] at hj; exact hj)
              rw [List.getD_eq_getElem?_getD, List.getElem?_eq_getElem hj] at this
              simpa using this)
            clear hno
            go_wp2
            go_ret
            exact ⟨ret_int HF.out.symm, HBQ.out⟩
      by_cases hq38 : q.id = 38
      · clear hq35
        rw [hq38] at c0
        have HFL := Lib.hid (show farL q = q.ts from by unfold farL; rw [hq38]; rfl)
        clear hq38
        have c13 : w1.cell? ⟨w.heap.size, 13, none⟩ = some (.slice TA tn tc) := (H1.out.1.cell 13).trans rfl
        have hrT := H1.out.2.2.1.below H1.out.2.1
        have own0 := World.ownsRow_nil w1 w1.heap.size 3 1
        go_wp2_with (first
          | (at_builtin; refine wpList_append_any _ rfl _ _ 31 rfl w1.heap.size 3 i1 (.int .i64 0) 1 8 Try.underlying31 hj hy0 hy1 hy2 rfl (by decide) (.slice none 0 0) 0 [] rfl own0 w.heap.size TA tn tc (q.ts.map (Value.int .i64)) rfl hrT (by intro u hu; obtain ⟨x, _, rfl⟩ := List.mem_map.1 hu; rfl) (by unfold maxLen; omega) (by omega) (Nat.le_refl _) ?_)
          | go_in)
        intro v3 wq own3 hg3 hv3
        obtain ⟨A3, c3, rfl⟩ := own_slice own3
        have HLL := Lib.hid (show Reads wq wq.heap.size 1 A3 tn (q.ts.map (Value.int .i64)) ∧ q.ts.length = tn ∧ farL q = q.ts from ⟨Reads.of_own own3, HTL.out, HFL.out⟩)
        have HBQ := Lib.hid (show Below w.heap.size w wq from H1.out.2.1.grown hg3 hs1 (fun b e => by simp [Value.ownBlock] at e))
        have c0q : wq.cell? ⟨w.heap.size, 0, none⟩ = some (.int .i64 38) := hg3.cell c0 (fun e => by simp [Value.ownBlock] at e)
        clear own0 own3 hg3 hv3 hrT c0 c13
        go_upto_region 32 with fail
        have hM0 : (0 : Int) ≤ (tn : Int) := Int.natCast_nonneg _
        have hwnn : IntKind.i64.wrap (-(n : Int)) = -(n : Int) := by rw [IntKind.wrap_i64]; omega
        go_loop [15] (fun x => ∃ k : Nat, x = .int .i64 (k : Int) ∧ k ≤ tn ∧ ∀ j, j < k → ¬ ((q.ts).getD j 0 < -(n : Int) ∨ (n : Int) < (q.ts).getD j 0 ∨ (i0 : Int) + (q.ts).getD j 0 < 0 ∨ (n : Int) ≤ (i0 : Int) + (q.ts).getD j 0)) (fun x => tn - (intOf x).toNat)
        case atStart => exact ⟨0, rfl, by omega, fun j hj => absurd hj (by omega)⟩
        case round =>
          obtain ⟨k, rfl, hkM, hno⟩ := hrel
          have hk0 : (0 : Int) ≤ (k : Int) := Int.natCast_nonneg _
          by_cases hkl : k < tn
          · have hkI : (k : Int) < (tn : Int) := by omega
            have hwk : IntKind.i64.wrap ((k : Int) + 1) = (k : Int) + 1 := by rw [IntKind.wrap_i64]; omega
            obtain ⟨tad, hLe, _, hx⟩ := i32_at HLL.out.1 hkl
            obtain rfl := hLe
            obtain ⟨x, hxd⟩ : ∃ x : Int, x = (q.ts).getD k 0 := ⟨_, rfl⟩
            rw [← hxd] at hx
            have HXD := Lib.hid hxd
            have HNO := Lib.hid hno
            clear hxd hno
            have hyes : (x < -(n : Int) ∨ (n : Int) < x ∨ (i0 : Int) + x < 0 ∨ (n : Int) ≤ (i0 : Int) + x) → wrongB bs i0 = 5 := fun h => by
              rw [HW.out, far_wide hi0, if_pos]
              rw [List.any_eq_true]
              exact ⟨x, by rw [HLL.out.2.2, HXD.out]; exact getD_mem (by rw [HLL.out.2.1]; exact hkl), by simpa using h⟩
            have HY := Lib.hid hyes
            clear hyes
            by_cases h1 : x < -(n : Int)
            · go_wp2
              go_ret
              exact ⟨ret_int (HY.out (.inl h1)).symm, HBQ.out⟩
            · by_cases h2 : (n : Int) < x
              · go_wp2
                go_ret
                exact ⟨ret_int (HY.out (.inr (.inl h2))).symm, HBQ.out⟩
              · have hwx : IntKind.i64.wrap ((i0 : Int) + x) = (i0 : Int) + x := by rw [IntKind.wrap_i64]; omega
                by_cases h3 : (i0 : Int) + x < 0
                · go_wp2
                  go_ret
                  exact ⟨ret_int (HY.out (.inr (.inr (.inl h3)))).symm, HBQ.out⟩
                · by_cases h4 : (n : Int) ≤ (i0 : Int) + x
                  · go_wp2
                    go_ret
                    exact ⟨ret_int (HY.out (.inr (.inr (.inr h4)))).symm, HBQ.out⟩
                  · go_wp2
                    go_round
                    case rel => exact ⟨k + 1, by go_num, by omega, fun j hj => by
                      rcases Nat.lt_or_ge j k with h | h
                      · exact HNO.out j h
                      · obtain rfl : j = k := by omega
                        rw [← HXD.out]; rintro (h | h | h | h); exact h1 h; exact h2 h; exact h3 h; exact h4 h⟩
                    case measure => simp [intOf]; omega
          · obtain rfl : k = tn := by omega
            have hkI : ¬ (k : Int) < (k : Int) := by omega
            have HF := Lib.hid (show wrongB bs i0 = 0 from by
              rw [HW.out, far_wide hi0, if_neg]
              rw [Bool.not_eq_true, List.any_eq_false]
              intro x hx
              rw [HLL.out.2.2] at hx
              obtain ⟨j, hj, rfl⟩ := List.getElem_of_mem hx
              have := hno j (by rw [HLL.out.2.1] at hj; exact hj)
              rw [List.getD_eq_getElem?_getD, List.getElem?_eq_getElem hj] at this
              simpa using this)
            clear hno
            go_wp2
            go_ret
            exact ⟨ret_int HF.out.symm, HBQ.out⟩
      by_cases hq40 : q.id = 40
      · clear hq35 hq38
        rw [hq40] at c0
        have HFL := Lib.hid (show farL q = q.ns from by unfold farL; rw [if_pos hq40])
        clear hq40
        obtain ⟨M, hM⟩ : ∃ M : Nat, M = q.ns.length := ⟨_, rfl⟩
        have hM60 : M ≤ 60 := by omega
        have c14 : w1.cell? ⟨w.heap.size, 14, none⟩ = some (.slice IA M ic) := by rw [hM]; exact (H1.out.1.cell 14).trans rfl
        have HMN := Lib.hid hM
        clear hM hbn
        have HI1 := Lib.hid (H1.out.2.2.2.keep (w' := w1) (ψ := (· < w.heap.size)) (fun b hb => H1.out.2.1.block b hb) (fun b hb => hb))
        have HC1 := Lib.hid (And.intro c0 c14)
        clear c14
        go_upto_region 28 with fail
        clear c0
        go_loopw [13, 14] (fun x y wr => ∃ (k : Nat) (A : Option Addr) (c : Nat), y = .int .i64 (k : Int) ∧ k ≤ M ∧ x = .slice A k c ∧ wr.ownsRow w1.heap.size 3 1 (.slice A k c) k ((q.ns.take k).map (Value.int .i64)) ∧ Below w1.heap.size w1 wr) (fun _ y _ => M - (intOf y).toNat)
        case atStart => exact ⟨0, none, 0, rfl, by omega, rfl, by simpa using World.ownsRow_nil _ _ _ _, Below.refl _ _⟩
        case round =>
          obtain ⟨k, A, c, rfl, hkM, rfl, hown, hbl⟩ := hrel
          have hk0 : (0 : Int) ≤ (k : Int) := Int.natCast_nonneg _
          have hsz := hbl.size
          have hwb := H1.out.1.lt
          have c14 : wr.cell? ⟨w.heap.size, 14, none⟩ = some (.slice IA M ic) := (hbl.cell (p := ⟨w.heap.size, 14, none⟩) hwb).trans HC1.out.2
          have c0 : wr.cell? ⟨w.heap.size, 0, none⟩ = some (.int .i64 40) := (hbl.cell (p := ⟨w.heap.size, 0, none⟩) hwb).trans HC1.out.1
          by_cases hlt : k < M
          · have hkI : (k : Int) < (M : Int) := by omega
            have hwk : IntKind.i64.wrap ((k : Int) + 1) = (k : Int) + 1 := by rw [IntKind.wrap_i64]; omega
            obtain ⟨iad, hIA, hib, hit⟩ := HI1.out (by rw [← HMN.out]; omega)
            subst hIA
            obtain ⟨v, _, hc1, _⟩ := hit k (by rw [← HMN.out]; exact hlt)
            have hsn := take_snocI q.ns k (by rw [← HMN.out]; exact hlt)
            generalize q.ns.getD k 0 = z at *
            have hz : wr.cell? (iad.add (k * 2)) = some (.int .i64 z) := (hbl.cell (p := iad.add (k * 2)) (by rw [block_of_add]; omega)).trans hc1
            have hown9 := hown.alloc (.cells #[.int .i64 z] 3)
            have HC := Lib.hid (show Reads (wr.alloc (.cells #[.int .i64 z] 3)) (wr.alloc (.cells #[.int .i64 z] 3)).heap.size 1 (some ⟨wr.heap.size, 0, none⟩) 1 [.int .i64 z] ∧ k + 1 ≤ maxLen ∧ (k + 1) * 8 ≤ 140737488355328 ∧ w1.heap.size ≤ (wr.alloc (.cells #[.int .i64 z] 3)).heap.size from ⟨⟨rfl, fun _ => ⟨_, rfl, by simp, lit_cells wr [.int .i64 z] 3⟩⟩, by unfold maxLen; omega, by omega, by simp; omega⟩)
            have HS := Lib.hid (And.intro hown (And.intro hbl hsn))
            clear hown hbl hsn hit hc1
            go_wp2_with (first
              | (at_builtin; refine wpList_append_any _ rfl _ _ 31 rfl w1.heap.size 3 i1 (.int .i64 0) 1 8 Try.underlying31 hj hy0 hy1 hy2 rfl (by decide) (.slice A k c) k _ rfl hown9 _ (some ⟨wr.heap.size, 0, none⟩) 1 1 [.int .i64 z] rfl HC.out.1 (by simp [Value.oneCell']) HC.out.2.1 HC.out.2.2.1 HC.out.2.2.2 ?_)
              | go_in)
            intro v' w4 own4 hg4 _
            obtain ⟨A4, c4, rfl⟩ := own_slice own4
            have H4 := Lib.hid (show w4.ownsRow w1.heap.size 3 1 (.slice A4 (k + 1) c4) (k + 1) ((q.ns.take (k + 1)).map (Value.int .i64)) ∧ Below w1.heap.size w1 w4 from ⟨by rw [HS.out.2.2, List.map_append]; simpa using own4, (HS.out.2.1.alloc hsz _).grown hg4 (by simp; omega) (fun b e => (HS.out.1.lt b e).1)⟩)
            clear own4 hg4 hown9 hz c14 c0
            go_wp2
            go_roundw
            case rel => exact ⟨k + 1, A4, c4, by go_num, by omega, rfl, H4.out.1, H4.out.2⟩
            case measure => simp [intOf]; omega
          · obtain rfl : k = M := by omega
            have hkI : ¬ (k : Int) < (k : Int) := by omega
            rw [show q.ns.take k = q.ns by rw [HMN.out, List.take_length]] at hown
            have HLL := Lib.hid (show Reads wr wr.heap.size 1 A k (q.ns.map (Value.int .i64)) ∧ q.ns.length = k ∧ farL q = q.ns from ⟨Reads.of_own hown, HMN.out.symm, HFL.out⟩)
            have HBQ := Lib.hid (show Below w.heap.size w wr from H1.out.2.1.trans (hbl.mono hs1))
            clear hown hbl
            obtain ⟨K9, hK9⟩ : ∃ K9 : Nat, K9 = k := ⟨_, rfl⟩
            obtain rfl := hK9
            go_upto_region 32 with fail
            have hM0 : (0 : Int) ≤ (K9 : Int) := Int.natCast_nonneg _
            have hwnn : IntKind.i64.wrap (-(n : Int)) = -(n : Int) := by rw [IntKind.wrap_i64]; omega
            go_loop [15] (fun x => ∃ k : Nat, x = .int .i64 (k : Int) ∧ k ≤ K9 ∧ ∀ j, j < k → ¬ ((q.ns).getD j 0 < -(n : Int) ∨ (n : Int) < (q.ns).getD j 0 ∨ (i0 : Int) + (q.ns).getD j 0 < 0 ∨ (n : Int) ≤ (i0 : Int) + (q.ns).getD j 0)) (fun x => K9 - (intOf x).toNat)
            case atStart => exact ⟨0, rfl, by omega, fun j hj => absurd hj (by omega)⟩
            case round =>
              obtain ⟨k, rfl, hkM, hno⟩ := hrel
              have hk0 : (0 : Int) ≤ (k : Int) := Int.natCast_nonneg _
              by_cases hkl : k < K9
              · have hkI : (k : Int) < (K9 : Int) := by omega
                have hwk : IntKind.i64.wrap ((k : Int) + 1) = (k : Int) + 1 := by rw [IntKind.wrap_i64]; omega
                obtain ⟨tad, hLe, _, hx⟩ := i32_at HLL.out.1 hkl
                subst hLe
                obtain ⟨x, hxd⟩ : ∃ x : Int, x = (q.ns).getD k 0 := ⟨_, rfl⟩
                rw [← hxd] at hx
                have HXD := Lib.hid hxd
                have HNO := Lib.hid hno
                clear hxd hno
                have hyes : (x < -(n : Int) ∨ (n : Int) < x ∨ (i0 : Int) + x < 0 ∨ (n : Int) ≤ (i0 : Int) + x) → wrongB bs i0 = 5 := fun h => by
                  rw [HW.out, far_wide hi0, if_pos]
                  rw [List.any_eq_true]
                  exact ⟨x, by rw [HLL.out.2.2, HXD.out]; exact getD_mem (by rw [HLL.out.2.1]; exact hkl), by simpa using h⟩
                have HY := Lib.hid hyes
                clear hyes
                by_cases h1 : x < -(n : Int)
                · go_wp2
                  go_ret
                  exact ⟨ret_int (HY.out (.inl h1)).symm, HBQ.out⟩
                · by_cases h2 : (n : Int) < x
                  · go_wp2
                    go_ret
                    exact ⟨ret_int (HY.out (.inr (.inl h2))).symm, HBQ.out⟩
                  · have hwx : IntKind.i64.wrap ((i0 : Int) + x) = (i0 : Int) + x := by rw [IntKind.wrap_i64]; omega
                    by_cases h3 : (i0 : Int) + x < 0
                    · go_wp2
                      go_ret
                      exact ⟨ret_int (HY.out (.inr (.inr (.inl h3)))).symm, HBQ.out⟩
                    · by_cases h4 : (n : Int) ≤ (i0 : Int) + x
                      · go_wp2
                        go_ret
                        exact ⟨ret_int (HY.out (.inr (.inr (.inr h4)))).symm, HBQ.out⟩
                      · go_wp2
                        go_round
                        case rel => exact ⟨k + 1, by go_num, by omega, fun j hj => by
                          rcases Nat.lt_or_ge j k with h | h
                          · exact HNO.out j h
                          · obtain rfl : j = k := by omega
                            rw [← HXD.out]; rintro (h | h | h | h); exact h1 h; exact h2 h; exact h3 h; exact h4 h⟩
                        case measure => simp [intOf]; omega
              · obtain rfl : k = K9 := by omega
                have hkI : ¬ (k : Int) < (k : Int) := by omega
                have HF := Lib.hid (show wrongB bs i0 = 0 from by
                  rw [HW.out, far_wide hi0, if_neg]
                  rw [Bool.not_eq_true, List.any_eq_false]
                  intro x hx
                  rw [HLL.out.2.2] at hx
                  obtain ⟨j, hj, rfl⟩ := List.getElem_of_mem hx
                  have := hno j (by rw [HLL.out.2.1] at hj; exact hj)
                  rw [List.getD_eq_getElem?_getD, List.getElem?_eq_getElem hj] at this
                  simpa using this)
                clear hno
                go_wp2
                go_ret
                exact ⟨ret_int HF.out.symm, HBQ.out⟩
      · have HFL := Lib.hid (show farL q = [] from by unfold farL; rw [if_neg hq40, if_neg (by rintro (h | h); exact hq35 h; exact hq38 h)])
        have g35 : (q.id == 35) = false := by simpa using hq35
        have g38 : (q.id == 38) = false := by simpa using hq38
        have g40 : (q.id == 40) = false := by simpa using hq40
        clear hq35 hq38 hq40
        have HF := Lib.hid (show wrongB bs i0 = 0 from by rw [HW.out, far_wide hi0, HFL.out]; rfl)
        go_wp2
        go_loop [15] (fun x => x = .int .i64 0) (fun _ => 0)
        case atStart => rfl
        case round =>
          obtain rfl := hrel
          go_wp2
          go_ret
          exact ⟨ret_int HF.out.symm, H1.out.2.1⟩

set_option maxRecDepth 100000 in
set_option maxHeartbeats 4000000 in
theorem soundR_any (w : World) (LA : Option Addr) (n lc : Nat) (bs : List WB) (hB : BlksR w (· < w.heap.size) LA n bs) (hL : Lite bs) :
    Calls Try.prog 18 #[.slice LA n lc] w fun x w' => x = .returned (.tuple #[.int .i64 (soundG bs bs.length 0).1, .int .i64 (soundG bs bs.length 0).2]) ∧ Below w.heap.size w w' := by
  have hl := hB.len
  have hn : n ≤ 60 := by have := hL.1; omega
  have HB := Lib.hid (And.intro hB (And.intro hl hL))
  clear hB hl hL
  go_enter Try.func18, Try.ntmps18
  go_upto_region 2 with fail
  go_loopw [4] (fun x wr => ∃ k : Nat, x = .int .i64 (k : Int) ∧ k ≤ n ∧ soundG bs bs.length 0 = soundG bs (bs.length - k) k ∧ Below w.heap.size w wr) (fun x _ => n - (intOf x).toNat)
  case atStart => exact ⟨0, rfl, by omega, rfl, Below.refl _ _⟩
  case round =>
    obtain ⟨k, rfl, hkn, hso, hbl⟩ := hrel
    have hk0 : (0 : Int) ≤ (k : Int) := Int.natCast_nonneg _
    by_cases hlt : k < n
    · have hkI : (k : Int) < (n : Int) := by omega
      have hwk : IntKind.i64.wrap ((k : Int) + 1) = (k : Int) + 1 := by rw [IntKind.wrap_i64]; omega
      have hsz := hbl.size
      have hwr := wrong_any wr LA n lc k bs (HB.out.1.keep (fun b hb => hbl.block b hb) (fun b (hb : b < w.heap.size) => by show b < _; omega)) HB.out.2.2 hlt
      obtain ⟨E, hE⟩ : ∃ E, E = wrongB bs k := ⟨_, rfl⟩
      rw [← hE] at hwr
      have hst : soundG bs (bs.length - k) k = if E = 0 then soundG bs (bs.length - (k + 1)) (k + 1) else ((k : Int), E) := by
        rw [show bs.length - k = (bs.length - (k + 1)) + 1 by have := HB.out.2.1; omega, soundG, ← hE]
      have HS := Lib.hid (And.intro (hso.trans hst) hbl)
      clear hE hso hst hbl
      go_wp2_with fail
      refine hwr.mono ?_
      rintro x w2 ⟨rfl, hb2⟩
      clear hwr
      have H2 := Lib.hid (HS.out.2.trans (hb2.mono hsz))
      clear hb2
      by_cases he : E = 0
      · have HX := Lib.hid (show soundG bs bs.length 0 = soundG bs (bs.length - (k + 1)) (k + 1) from by rw [HS.out.1, if_pos he])
        subst he
        go_wp2
        go_roundw
        case rel => exact ⟨k + 1, by go_num, by omega, HX.out, H2.out⟩
        case measure => simp [intOf]; omega
      · have HX := Lib.hid (show soundG bs bs.length 0 = ((k : Int), E) from by rw [HS.out.1, if_neg he])
        have hef : (E == 0) = false := by simpa using he
        clear he
        go_wp2
        go_ret2
        exact ⟨by rw [HX.out] <;> rfl, H2.out⟩
    · obtain rfl : k = n := by omega
      have hkI : ¬ (k : Int) < (k : Int) := by omega
      have HX := Lib.hid (show soundG bs bs.length 0 = (0, 0) from by rw [hso, HB.out.2.1, Nat.sub_self]; rfl)
      have H2 := Lib.hid hbl
      clear hso hbl
      go_wp2
      go_ret2
      exact ⟨by rw [HX.out] <;> rfl, H2.out⟩
/-- why there is no way -/
def soundW (bs : List WB) : Int := if (soundG bs bs.length 0).2 ≠ 0 then (soundG bs bs.length 0).2 else if (List.range bs.length).any (fun i => decide ((bs.getD i default).id = 35 ∧ (bs.getD i default).ts = [])) = true then 1 else 0

set_option maxRecDepth 100000 in
set_option maxHeartbeats 4000000 in
theorem soundD_any (w : World) (LA : Option Addr) (n lc : Nat) (bs : List WB) (hB : BlksR w (· < w.heap.size) LA n bs) (hL : Lite bs) :
    Calls Try.prog 10 #[.slice LA n lc] w fun x w' => x = .returned (.int .i64 (soundW bs)) ∧ Below w.heap.size w w' := by
  have hl := hB.len
  have hn : n ≤ 60 := by have := hL.1; omega
  have hso := soundR_any w LA n lc bs hB hL
  obtain ⟨q, hq⟩ : ∃ q, q = (soundG bs bs.length 0).1 := ⟨_, rfl⟩
  obtain ⟨e, he⟩ : ∃ e, e = (soundG bs bs.length 0).2 := ⟨_, rfl⟩
  have hw : soundW bs = if e ≠ 0 then e else if (List.range bs.length).any (fun i => decide ((bs.getD i default).id = 35 ∧ (bs.getD i default).ts = [])) = true then 1 else 0 := by rw [he]; rfl
  rw [← hq, ← he] at hso
  have HB := Lib.hid (And.intro hB (And.intro hl (And.intro hL hw)))
  clear hB hl hL hq he hw
  go_enter Try.func10, Try.ntmps10
  go_wp2_with fail
  refine hso.mono ?_
  rintro x w1 ⟨rfl, hb1⟩
  clear hso
  have hs1 := hb1.size
  have H1 := Lib.hid hb1
  clear hb1
  by_cases he : e = 0
  · subst he
    have HW := Lib.hid (show soundW bs = if (List.range bs.length).any (fun i => decide ((bs.getD i default).id = 35 ∧ (bs.getD i default).ts = [])) = true then 1 else 0 from by rw [HB.out.2.2.2]; exact if_neg (by simp))
    go_upto_region 5 with fail
    go_loop [5] (fun x => ∃ k : Nat, x = .int .i64 (k : Int) ∧ k ≤ n ∧ ∀ j, j < k → ¬ ((bs.getD j default).id = 35 ∧ (bs.getD j default).ts = [])) (fun x => n - (intOf x).toNat)
    case atStart => exact ⟨0, rfl, by omega, fun j hj => absurd hj (by omega)⟩
    case round =>
      obtain ⟨k, rfl, hkn, hno⟩ := hrel
      have hk0 : (0 : Int) ≤ (k : Int) := Int.natCast_nonneg _
      by_cases hlt : k < n
      · have hkI : (k : Int) < (n : Int) := by omega
        have hwk : IntKind.i64.wrap ((k : Int) + 1) = (k : Int) + 1 := by rw [IntKind.wrap_i64]; omega
        obtain ⟨ad, rfl, hab, cs, hWB, hc18⟩ := (HB.out.1.keep (w' := w1) (ψ := (· < w.heap.size)) (fun b hb => H1.out.block b hb) (fun b hb => hb)).at_ (i := k) hlt
        obtain ⟨d, hd⟩ : ∃ d, d = bs.getD k default := ⟨_, rfl⟩
        rw [← hd] at hWB
        obtain ⟨v2, v3, v4, v5, v6, v7, v9, v10, v11, v12, TA, tn, tc, IA, ic, v15, v16, v17, hcs, h1c, hTs, hIs⟩ := hWB
        subst hcs
        have c0 : w1.cell? (ad.add (k * 18)) = some (.int .i64 d.id) := hc18 0 _ rfl
        have c13 : w1.cell? ⟨(ad.add (k * 18)).block, (ad.add (k * 18)).off + 13, none⟩ = some (.slice TA tn tc) := by
          have := hc18 13 (.slice TA tn tc) rfl
          rw [show (ad.add (k * 18)).add 13 = ⟨(ad.add (k * 18)).block, (ad.add (k * 18)).off + 13, none⟩ from by unfold Addr.add; rw [if_neg (by decide)]] at this
          exact this
        have htl : d.ts.length = tn := reads_len (hTs.reads (B := w.heap.size) (fun b h => h))
        have HX := Lib.hid (And.intro hno (And.intro hd htl))
        clear hno hd htl hc18 h1c hTs hIs
        by_cases h35 : d.id = 35
        · rw [h35] at c0
          have HI := Lib.hid h35
          clear h35
          by_cases ht0 : tn = 0
          · rw [ht0] at c13
            have HY := Lib.hid (show soundW bs = 1 from by
              rw [HW.out, if_pos]
              rw [List.any_eq_true]
              exact ⟨k, List.mem_range.2 (by rw [HB.out.2.1]; exact hlt), by simp only [decide_eq_true_eq]; exact ⟨by rw [← HX.out.2.1]; exact HI.out, by rw [← HX.out.2.1]; exact List.length_eq_zero_iff.1 (HX.out.2.2.trans ht0)⟩⟩)
            clear ht0
            go_wp2
            go_ret
            exact ⟨ret_int HY.out.symm, H1.out⟩
          · have htn : ((tn : Int) == 0) = false := by simpa using ht0
            have htn2 : (tn == 0) = false := by simpa using ht0
            have HT0 := Lib.hid ht0
            clear ht0
            go_wp2
            go_round
            case rel => exact ⟨k + 1, by go_num, by omega, fun j hj => by
              rcases Nat.lt_or_ge j k with h | h
              · exact HX.out.1 j h
              · obtain rfl : j = k := by omega
                rintro ⟨_, h2⟩
                rw [← HX.out.2.1] at h2
                exact HT0.out (by rw [← HX.out.2.2, h2]; rfl)⟩
            case measure => simp [intOf]; omega
        · have h35f : (d.id == 35) = false := by simpa using h35
          have HI := Lib.hid h35
          clear h35
          go_wp2
          go_round
          case rel => exact ⟨k + 1, by go_num, by omega, fun j hj => by
            rcases Nat.lt_or_ge j k with h | h
            · exact HX.out.1 j h
            · obtain rfl : j = k := by omega
              rintro ⟨h2, _⟩
              rw [← HX.out.2.1] at h2
              exact HI.out h2⟩
          case measure => simp [intOf]; omega
      · obtain rfl : k = n := by omega
        have hkI : ¬ (k : Int) < (k : Int) := by omega
        have HY := Lib.hid (show soundW bs = 0 from by
          rw [HW.out, if_neg]
          rw [Bool.not_eq_true, List.any_eq_false]
          intro j hj
          have := hno j (by rw [← HB.out.2.1]; exact List.mem_range.1 hj)
          simpa using this)
        clear hno
        go_wp2
        go_ret
        exact ⟨ret_int HY.out.symm, H1.out⟩
  · have hef : (e == 0) = false := by simpa using he
    have HY := Lib.hid (show soundW bs = e from by rw [HB.out.2.2.2, if_pos he])
    clear he
    go_wp2
    go_ret
    exact ⟨ret_int HY.out.symm, H1.out⟩
theorem soundW_bad {bs : List WB} (h : (soundG bs bs.length 0).2 ≠ 0) : soundW bs = (soundG bs bs.length 0).2 := if_pos h
theorem soundW_empty {bs : List WB} (h : (soundG bs bs.length 0).2 = 0) (he : emptyJ bs) : soundW bs = 1 := by
  unfold soundW
  rw [if_neg (by simpa using h), if_pos]
  rw [List.any_eq_true]
  obtain ⟨i, hi, h1, h2⟩ := he
  exact ⟨i, List.mem_range.2 hi, by simp only [decide_eq_true_eq]; exact ⟨h1, h2⟩⟩
theorem soundW_ok {bs : List WB} (h : (soundG bs bs.length 0).2 = 0) (he : ¬ emptyJ bs) : soundW bs = 0 := by
  unfold soundW
  rw [if_neg (by simpa using h), if_neg]
  rw [Bool.not_eq_true, List.any_eq_false]
  intro i hi h9
  simp only [decide_eq_true_eq] at h9
  exact he ⟨i, List.mem_range.1 hi, h9.1, h9.2⟩
end Go.Proofs.Ytnmapncgnceldaa
