/- Slices of bytes as lists of numbers: reading them, turning them into a string, own rows; nothing of the program is in it. -/
import Derived.Test.YtfcnlgkaejkneaaProg
import Derived.Test.YtfcnlgkaejkneaaBase
import Derived.Laws.BytesArg
namespace Go.Proofs.Ytfcnlgkaejkneaa
open Go.RowKit

theorem add_zero_ (ad : Addr) : ad.add 0 = ad := by simp [Addr.add]
theorem add_lit (a : Addr) (n : Nat) (h : n ≠ 0) : a.add n = ⟨a.block, a.off + n, none⟩ := by unfold Addr.add; rw [if_neg h]
theorem getD_drop (zs : List Int) (k i : Nat) : (zs.drop k).getD i 0 = zs.getD (k + i) 0 := by simp [List.getD_eq_getElem?_getD, List.getElem?_drop]
/-- the numbers of a slice are bytes -/
def isU8 (zs : List Int) : Prop := ∀ z ∈ zs, 0 ≤ z ∧ z ≤ 255
theorem isU8_at {zs : List Int} (h : isU8 zs) {k : Nat} (hk : k < zs.length) : 0 ≤ zs.getD k 0 ∧ zs.getD k 0 ≤ 255 := by
  have : zs.getD k 0 ∈ zs := by rw [List.getD_eq_getElem?_getD, List.getElem?_eq_getElem hk]; exact List.getElem_mem hk
  exact h _ this
theorem isU8_drop {zs : List Int} (h : isU8 zs) (k : Nat) : isU8 (zs.drop k) := fun z hz => h z (List.mem_of_mem_drop hz)
theorem isU8_app {xs zs : List Int} (h : isU8 xs) (h' : isU8 zs) : isU8 (xs ++ zs) := fun z hz => (List.mem_append.1 hz).elim (h z) (h' z)
theorem u8_at {w : World} {B n : Nat} {A : Option Addr} {zs : List Int} (h : Reads w B 1 A n (zs.map (Value.int .u8))) {k : Nat} (hk : k < n) :
    ∃ ad, A = some ad ∧ ad.block < B ∧ w.cell? (ad.add k) = some (.int .u8 (zs.getD k 0)) := by
  obtain ⟨ad, u, e, hb, hx, hc⟩ := h.at_ hk
  refine ⟨ad, e, hb, hc.trans ?_⟩
  rw [← hx]
  have hl : k < zs.length := by have := h.1; simp at this; omega
  simp [List.getD_eq_getElem?_getD, hl]
theorem reads_len {w : World} {B n : Nat} {A : Option Addr} {k : IntKind} {zs : List Int} (h : Reads w B 1 A n (zs.map (Value.int k))) : zs.length = n := by have := h.1; simpa using this
theorem take_snocI (zs : List Int) (k : Nat) (h : k < zs.length) : zs.take (k + 1) = zs.take k ++ [zs.getD k 0] := by
  rw [List.take_succ_eq_append_getElem h]; simp [List.getD_eq_getElem?_getD, h]
theorem row_u8 {w : World} {a : Option Addr} {len cap : Nat} {zs : List Int} (h : IsRow .u8 w a len cap zs) :
    Reads w w.heap.size 1 a len ((zs.take len).map (Value.int .u8)) ∧ isU8 (zs.take len) ∧ len ≤ cap ∧ cap ≤ maxLen := by
  rcases h with ⟨rfl, rfl, rfl, rfl⟩ | ⟨x, rfl, hb, hl, hc, hz, hcell, hw⟩
  · exact ⟨Reads.none_, by intro z hz; simp at hz, Nat.le_refl _, by unfold maxLen; omega⟩
  · refine ⟨⟨by simp; omega, fun hn => ⟨x, rfl, by rcases hb with h0 | h0; omega; exact h0, fun j u hu => ?_⟩⟩, fun z hz' => bounds_u8 (hw z (List.mem_of_mem_take hz')), hl, hc⟩
    simp only [List.getElem?_map, List.getElem?_take, Option.map_eq_some_iff] at hu
    obtain ⟨v, hv, rfl⟩ := hu
    split at hv
    · have hj : j < zs.length := by
        rcases Nat.lt_or_ge j zs.length with h | h
        · exact h
        · rw [List.getElem?_eq_none h] at hv; cases hv
      rw [hcell j hj, List.getD_eq_getElem?_getD, hv]
      rfl
    · cases hv
theorem own_slice {w : World} {B e size n : Nat} {v : Value} {xs : List Value} (h : w.ownsRow B e size v n xs) : ∃ A c, v = .slice A n c := by
  rcases h.2 with ⟨rfl, rfl⟩ | ⟨g, cap, cur, rfl, _⟩
  · exact ⟨_, _, rfl⟩
  · exact ⟨_, _, rfl⟩
theorem own_sliceC {w : World} {B e size n : Nat} {v : Value} {xs : List Value} (h : w.ownsRow B e size v n xs) : ∃ A c, v = .slice A n c ∧ n ≤ c := by
  rcases h.2 with ⟨rfl, rfl⟩ | ⟨g, cap, cur, rfl, _, _, hn, _⟩
  · exact ⟨_, _, rfl, Nat.le_refl _⟩
  · exact ⟨_, _, rfl, hn⟩
theorem own_kept {w w' : World} {B e size n : Nat} {v : Value} {xs : List Value} (h : w.ownsRow B e size v n xs) (k : Below w.heap.size w w') : w'.ownsRow B e size v n xs :=
  h.kept (row := none) ⟨k.os, k.tape, k.output, k.size, fun j hj _ => k.block j hj⟩ (by cases hv : v.ownBlock <;> simp)

/-- 'string(b)' of any bytes -/
theorem conv_reads {P : Program} (w : World) (src e dst : TypeId) (hs : P.underlying src = some (.slice e)) (he : P.underlying e = some (.int .u8)) (hd : P.underlying dst = some .string)
    {B n : Nat} {A : Option Addr} {zs : List Int} (c : Nat) (hr : Reads w B 1 A n (zs.map (Value.int .u8))) : (convert src dst (.slice A n c)).run P w = .ok (.string (strOfNums zs)) w := by
  have hl := reads_len hr
  rcases A with _ | ad
  · have hn : n = 0 := by
      rcases Nat.eq_zero_or_pos n with h0 | h0
      · exact h0
      · obtain ⟨ad, h, _⟩ := hr.2 h0
        cases h
    obtain rfl : zs = [] := List.eq_nil_of_length_eq_zero (by omega)
    exact run_convert_bytes_nil w src e hs he n c dst hd
  · have hc : (loadCells ad n).run P w = .ok (zs.map (Value.int .u8)).toArray w := by
      have := run_loadCells_list (P := P) w ad (zs.map (Value.int .u8)) (fun j v hj => by
        have hn : 0 < n := by
          rcases Nat.eq_zero_or_pos n with h0 | h0
          · obtain rfl : zs = [] := List.eq_nil_of_length_eq_zero (by omega)
            simp at hj
          · exact h0
        obtain ⟨ad', e', _, h3⟩ := hr.2 hn
        injection e' with e'
        subst e'
        exact h3 j v hj)
      simpa [hl] using this
    rw [run_convert_bytes_string w src dst e _ n c hs he hd, run_bytesToString w _ n c zs hc, foldl_push_bytes]
    simp [strOfNums, ByteArray.empty, ByteArray.emptyWithCapacity]
    rfl
theorem strOf_inj {xs zs : List Int} (hx : isU8 xs) (hz : isU8 zs) (h : strOfNums xs = strOfNums zs) : xs = zs := by
  have h1 : xs.map (fun n => UInt8.ofNat n.toNat) = zs.map (fun n => UInt8.ofNat n.toNat) := by rw [← strOfNums_data, ← strOfNums_data, h]
  have back : ∀ {l : List Int}, isU8 l → (l.map (fun n => UInt8.ofNat n.toNat)).map (fun u => (u.toNat : Int)) = l := by
    intro l hl
    rw [List.map_map]
    conv => rhs; rw [← List.map_id l]
    apply List.map_congr_left
    intro a ha
    have := hl a ha
    simp [UInt8.toNat_ofNat']
    omega
  rw [← back hx, ← back hz, h1]

theorem reads_new (w : World) (t : TypeId) (cs : Array Value) (l : List Value) (h : cs.toList = l) :
    Reads (w.alloc (.cells cs t)) (w.alloc (.cells cs t)).heap.size 1 (some ⟨w.heap.size, 0, none⟩) l.length l := by
  refine ⟨by simp, fun _ => ⟨_, rfl, by simp, fun j v hv => ?_⟩⟩
  rw [show (Addr.add ⟨w.heap.size, 0, none⟩ j) = ⟨w.heap.size, j, none⟩ by unfold Addr.add; split <;> simp_all, World.cell?_alloc_at _ _ _ _ rfl]
  rw [← Array.getElem?_toList, h]
  exact hv
theorem u8Info : (Try.prog.info? 5).map (fun i => (i.zero, i.size, i.bytes)) = some (some (.int .u8 0), 1, 1) := by kernel_rfl

end Go.Proofs.Ytfcnlgkaejkneaa
