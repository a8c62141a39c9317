/- The laws of layer 17: their fixed examples. -/
import Derived.Test.YtpfojhmaeaeecaaWire3
namespace Go.Proofs.Ytpfojhmaeaeecaa
open Go.RowKit

theorem conv17 {w : World} {B n : Nat} {A : Option Addr} {zs : List Int} (c : Nat) (hr : Reads w B 1 A n (zs.map (Value.int .u8))) : (convert 22 9 (.slice A n c)).run Try.prog w = .ok (.string (strOfNums zs)) w :=
  conv_reads w 22 5 9 Try.underlying22 Try.underlying5 Try.underlying9 c hr
theorem grown_below {w w' : World} {g B : Nat} (h : w.grownBy w' (some g)) (hg : B ≤ g) (hB : B ≤ w.heap.size) : Below B w w' :=
  (Below.refl B w).grown h hB (fun i hi => by injection hi with hi; omega)
theorem Ft.grown {w w' : World} {g h : Nat} {e p : Int} (hF : Ft w h e p) (hg : w.grownBy w' (some g)) (hne : h ≠ g) : Ft w' h e p := Blk.grown hF hg (fun e => hne (by injection e))
theorem Ft.below {w w' : World} {h : Nat} {e p : Int} (hF : Ft w h e p) (hb : Below w.heap.size w w') : Ft w' h e p := Blk.below hF hb hF.lt

set_option maxHeartbeats 1000000 in
theorem lives17 (w : World) :
    Calls Try.prog 10 #[] w fun e w' => e = .returned (.bool true) ∧ Below w.heap.size w w' := by
  have hb0 : Below w.heap.size w (w.alloc (.cells #[.int .u8 1] 5)) := (Below.refl _ _).alloc (Nat.le_refl _) _
  go_enter Try.func10, Try.ntmps10
  go_wp2_with fail
  generalize w.alloc (.cells #[.int .u8 1] 5) = W at *
  refine (read_new W _ 1 1).mono ?_
  rintro e w1 ⟨rfl, hR, hb1⟩
  have hbl1 := bthen hb0 hb1
  have hs1 := hb0.size
  generalize W.heap.size = g at *
  go_wp2_with fail
  refine (number_short (p := 0) (m := 2) hR (by omega) (by omega) (by omega) (by omega) (by omega)).mono ?_
  rintro e w2 ⟨rfl, hR2, hF2, hg2⟩
  have hbl2 : Below w.heap.size w w2 := hbl1.trans (grown_below hg2 hs1 hbl1.size)
  generalize w1.heap.size = h at *
  clear hR hg2 hbl1 hb0 hb1
  go_wp2_with fail
  refine (end_bad hR2).mono ?_
  rintro e w3 ⟨rfl, rfl⟩
  go_wp2_with fail
  refine (why_ft hF2).mono ?_
  rintro e w3 ⟨rfl, q, rfl⟩
  have hR3 := hR2.drewN q
  have hbl3 := below_drewN hbl2 q
  clear hR2 hF2 hbl2
  generalize w2.drewN q = w3 at *
  go_wp2_with fail
  refine (put_any w3 w3.heap.size 0 3 (.slice none 0 0) 66051 [] (by omega) (by omega) (World.ownsRow_nil _ _ _ _) (by omega) (by omega) (Nat.le_refl _) (by omega)).mono ?_
  rintro e w4 ⟨V, rfl, hown, hg4, _⟩
  have hb4 : Below w3.heap.size w3 w4 := (Below.refl _ _).grown hg4 (Nat.le_refl _) (fun i hi => by simp [Value.ownBlock] at hi)
  have hR4 := hR3.below hb4
  rw [show ([] : List Int) ++ bytesL 3 66051 = [3, 2, 1] by decide] at hown
  obtain ⟨A4, c4, rfl⟩ := own_slice hown
  have hcv := conv17 c4 (Reads.of_own hown)
  rw [show strOfNums [3, 2, 1] = ⟨#[3, 2, 1]⟩ from rfl] at hcv
  clear hown hg4
  go_wp2_with fail
  refine (bad_some hR4).mono ?_
  rintro e w5 ⟨rfl, rfl⟩
  go_wp2
  go_ret
  exact ⟨rfl, bthen hbl3 hb4⟩

end Go.Proofs.Ytpfojhmaeaeecaa
