/- Layer 11: the cells of a new board: their zero values, told in short. -/
import Derived.Test.YtfcnlgkaejkneaaProg
import Derived.Test.YtfcnlgkaejkneaaBase
namespace Go.Proofs.Ytfcnlgkaejkneaa
open Go.RowKit

def simpleEq : Value → Value → Bool
  | .int k a, .int k' b => decide (k = k') && decide (a = b)
  | .bool a, .bool b => a == b
  | .slice none 0 0, .slice none 0 0 => true
  | _, _ => false
theorem simpleEq_is {a b : Value} (h : simpleEq a b = true) : a = b := by
  unfold simpleEq at h
  split at h
  · simp at h; rw [h.1, h.2]
  · simp at h; rw [h]
  · rfl
  · cases h
/-- is a list a row of runs? -/
def runs : List Value → Nat → Value → List (Nat × Value) → Bool
  | [], n, _, rest => match n with
    | 0 => match rest with
      | [] => true
      | _ :: _ => false
    | _ + 1 => false
  | a :: l, n, v, rest => match n with
    | k + 1 => match simpleEq a v with
      | true => runs l k v rest
      | false => false
    | 0 => match rest with
      | [] => false
      | (m, u) :: r => match m with
        | 0 => false
        | j + 1 => match simpleEq a u with
          | true => runs l j u r
          | false => false
def flat (l : List (Nat × Value)) : List Value := l.flatMap fun p => List.replicate p.1 p.2
theorem runs_is : ∀ {l : List Value} {n : Nat} {v : Value} {rest : List (Nat × Value)}, runs l n v rest = true → l = List.replicate n v ++ flat rest
  | [], 0, v, [], _ => rfl
  | [], 0, v, _ :: _, h => by simp [runs] at h
  | [], n + 1, v, rest, h => by simp [runs] at h
  | a :: l, n + 1, v, rest, h => by
    rw [runs] at h
    cases hs : simpleEq a v with
    | true =>
      rw [hs] at h
      rw [simpleEq_is hs, runs_is h]
      rfl
    | false => rw [hs] at h; cases h
  | a :: l, 0, v, [], h => by simp [runs] at h
  | a :: l, 0, v, (0, u) :: r, h => by simp [runs] at h
  | a :: l, 0, v, (j + 1, u) :: r, h => by
    rw [runs] at h
    cases hs : simpleEq a u with
    | true =>
      simp only [hs] at h
      rw [simpleEq_is hs, runs_is h]
      rfl
    | false => simp only [hs] at h; cases h
def zeroRuns (i : Option TypeInfo) (size : Nat) (rest : List (Nat × Value)) : Bool :=
  match i with
  | none => false
  | some i => match i.zero with
    | some (.agg z) => match decide (i.size = size) with
      | true => runs z.toList 0 (.bool false) rest
      | false => false
    | _ => false
theorem zeroRuns_is {i : Option TypeInfo} {size : Nat} {rest : List (Nat × Value)} (h : zeroRuns i size rest = true) : i.map (fun i => (i.zero, i.size)) = some (some (.agg (flat rest).toArray), size) := by
  unfold zeroRuns at h
  split at h
  · cases h
  · split at h
    · rename_i j _ z hz
      cases hd : decide (j.size = size) with
      | true =>
        rw [hd] at h
        have := runs_is h
        simp only [List.replicate_zero, List.nil_append] at this
        simp only [decide_eq_true_eq] at hd
        simp only [Option.map_some, hz, hd]
        rw [← this]
      | false => rw [hd] at h; cases h
    · cases h
def bdRuns : List (Nat × Value) := [(65544, .int .u8 0), (3, .bool false), (1, .int .u64 0), (1, .int .i64 0), (1, .int .u8 0), (2, .bool false), (2, .slice none 0 0), (12288, .int .u8 0)]
set_option maxRecDepth 100000 in
theorem bdZero : (Try.prog.info? 37).map (fun i => (i.zero, i.size)) = some (some (.agg (flat bdRuns).toArray), 77842) := zeroRuns_is (by kernel_rfl)
end Go.Proofs.Ytfcnlgkaejkneaa
