/- Layer 27: gaps that came in; too few gaps for a block. -/
import Derived.Test.YtckgmnlmimogjaaNk8
import Derived.Test.YtckgmnlmimogjaaNorm8
namespace Go.Proofs.Ytckgmnlmimogjaa
open Go.RowKit

theorem row_u32 {w : World} {a : Option Addr} {len cap : Nat} {zs : List Int} (h : IsRow .u32 w a len cap zs) :
    Reads w w.heap.size 1 a len ((zs.take len).map (Value.int .u32)) ∧ isU32 (zs.take len) ∧ len ≤ cap ∧ cap ≤ maxLen := by
  rcases h with ⟨rfl, rfl, rfl, rfl⟩ | ⟨x, rfl, hb, hl, hc, hz, hcell, hw⟩
  · exact ⟨Reads.none_, by intro z hz; simp at hz, Nat.le_refl _, by unfold maxLen; omega⟩
  · refine ⟨⟨by simp; omega, fun hn => ⟨x, rfl, by rcases hb with h0 | h0; omega; exact h0, fun j u hu => ?_⟩⟩, fun z hz' => bounds_u32 (hw z (List.mem_of_mem_take hz')), hl, hc⟩
    simp only [List.getElem?_map, List.getElem?_take, Option.map_eq_some_iff] at hu
    obtain ⟨v, hv, rfl⟩ := hu
    split at hv
    · have hj : j < zs.length := by
        rcases Nat.lt_or_ge j zs.length with h | h
        · exact h
        · rw [List.getElem?_eq_none h] at hv; cases hv
      rw [hcell j hj, List.getD_eq_getElem?_getD, hv]
      rfl
    · cases hv
theorem fnd_short {zs : List Int} {a : Nat} {p s1 s2 z o tol : Int} (h : zs.length ≤ 255) : fnd zs (a : Int) p s1 s2 z o tol = none := by
  unfold fnd
  split
  · rfl
  · have h1 : runN zs a p tol < 256 := by have := runK_le zs p tol zs.length a; unfold runN; omega
    simp only [Int.toNat_natCast]
    rw [if_pos (.inl h1)]
theorem fstL_short {zs : List Int} {a : Nat} {tol : Int} (h : zs.length ≤ 255) : ∀ l : List TmD, fstL zs (a : Int) tol l = none
  | [] => rfl
  | t :: l => by rw [fstL_no (fnd_short h)]; exact fstL_short h l
theorem nrm_none {zs : List Int} {tol : Int} {tms : List TmD} {lv : Bool} (h : ∀ a : Nat, fstL zs (a : Int) tol (stdT :: tms) = none) : ∀ (f fr at_ : Nat) (dl : List BD), zs.length < f + at_ → at_ ≤ zs.length →
    nrmS zs tol tms lv f fr at_ dl = if restE zs lv fr zs.length dl ≠ 0 then (restE zs lv fr zs.length dl, []) else (0, restD zs lv fr zs.length dl)
  | 0, fr, at_, dl, h1, h2 => by omega
  | f + 1, fr, at_, dl, h1, h2 => by
    by_cases hlt : at_ < zs.length
    · rw [nrm_no hlt (h at_)]
      exact nrm_none h f fr (at_ + 1) dl (by omega) (by omega)
    · exact nrm_end hlt
theorem cutI_all (zs : List Int) : cutI zs 0 zs.length = zs := by unfold cutI; simp
theorem keeps_nil {tol : Int} {lv : Bool} : nrmS [] tol [] lv 1 0 0 [] = (0, []) := by
  rw [nrm_end (by simp)]
  have := restE_0 (zs := []) (lv := lv) (a := 0) (b := 0) (dl := []) rfl
  show (if restE [] lv 0 0 [] ≠ 0 then (restE [] lv 0 0 [], []) else (0, restD [] lv 0 0 [])) = _
  rw [this.1, this.2]
  rfl
theorem keeps_some {zs : List Int} {tol : Int} {lv : Bool} (h0 : zs ≠ []) (h : zs.length ≤ 255) : nrmS zs tol [] lv (zs.length + 1) 0 0 [] = ((exV zs).2.2, exL lv zs) := by
  rw [nrm_none (fun a => fstL_short h _) (zs.length + 1) 0 0 [] (by omega) (by omega)]
  have hn : 0 ≠ zs.length := fun e => h0 (List.eq_nil_of_length_eq_zero e.symm)
  have hll := exL_len lv zs
  by_cases hz : (0 : Int) ∈ zs
  · obtain ⟨h1, h2⟩ := restE_5 (lv := lv) (dl := []) hn (by rw [cutI_all]; exact hz)
    rw [h1, if_pos (by decide)]
    unfold exV exL
    rw [if_pos hz, if_pos hz]
  · obtain ⟨h1, h2⟩ := restE_8 (lv := lv) (dl := []) hn (by rw [cutI_all]; exact hz)
    have hL : restL lv zs 0 zs.length = exL lv zs := by
      unfold restL
      rw [cutI_all]
      congr 1
      cases lv <;> rfl
    rw [hL] at h1 h2
    have h9 : ¬ 4096 < ([] : List BD).length + (exL lv zs).length := by simp; omega
    rw [if_neg h9] at h1 h2
    rw [h1, h2, if_neg (by decide)]
    unfold exV
    rw [if_neg hz]
    rfl
theorem exV_if (zs : List Int) : (if (exV zs).2.2 = 0 then 1 else 0) = (exV zs).1 ∧ (if (exV zs).2.2 = 0 then 20 else 0) = (exV zs).2.1 := by
  unfold exV
  split <;> exact ⟨rfl, rfl⟩
theorem wpList_load_boxg {P : Program} {ops : Array Oper} {rest : List Oper} {o : Oper} {a : Act} {w : World} {Q : Exit → Act → World → Prop} (hgd : Region.wanted o (yielded ops a.tmps) = true) (ty : TypeId) (x : Operand) (ho : o.op = .load ty x) (g : Nat) (hx : a.eval x = .pointer (some ⟨g, 0, none⟩)) (t : TypeId) (cs : Array Value) (hg : Blk w g t cs) (d : TypeDesc)
    (hu : P.underlying ty = some d) (hd : (match d with | .struct _ | .array _ _ => true | _ => false) = true) (hi : (P.info? ty).map (·.size) = some cs.size)
    (h : Hid (Blk w g t cs) → wpList P ops Q rest (a.put o.dst (.agg cs)) w) : wpList P ops Q (o :: rest) a w :=
  wpList_step fun K hK => by
    rw [if_pos hgd]
    unfold Oper.wp
    rw [run_load_box ty x ho g hx t cs hg d hu hd hi]
    exact hK _ _ (h (Lib.hid hg))
theorem RdP.below {w w' : World} {B size n : Nat} {φ : Nat → Prop} {A : Option Addr} {xs : List Value} (h : RdP w φ size A n xs) (hb : Below B w w') (hB : ∀ b, φ b → b < B) : RdP w' φ size A n xs := h.keep (fun b hp => hb.block b (hB b hp)) (fun b hp => hp)
theorem BlksAt.below {w w' : World} {B : Nat} {φ : Nat → Prop} {l : List BD} {xs : List Value} (h : BlksAt w φ l xs) (hb : Below B w w') (hB : ∀ b, φ b → b < B) : BlksAt w' φ l xs := BlksAt.keep (fun b hp => hb.block b (hB b hp)) (fun b hp => hp) h
theorem blks_len {w : World} {φ : Nat → Prop} {n : Nat} {A : Option Addr} {l : List BD} {xs : List Value} (h : RdP w φ 18 A n xs) (hb : BlksAt w φ l xs) : n = l.length := by have := h.1; rw [hb.len] at this; omega
end Go.Proofs.Ytckgmnlmimogjaa
