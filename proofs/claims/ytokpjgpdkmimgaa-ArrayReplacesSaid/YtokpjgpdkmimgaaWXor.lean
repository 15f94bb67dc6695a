/-
  array.xor and the document's others: where two texts of one length differ, byte by byte. Conditions: both are of one length, and not empty.
-/
import Derived.Test.YtokpjgpdkmimgaaB
import Derived.Test.YtokpjgpdkmimgaaE2
import Derived.Test.YtokpjgpdkmimgaaR2
import Derived.Test.YtokpjgpdkmimgaaRows
import Derived.Laws.BitsAllLaws
namespace Go.Proofs.Ytokpjgpdkmimgaa
set_option linter.unusedSimpArgs false
set_option linter.unusedVariables false
open Go.RowKit

/-- A row of bytes of the call's own. -/
theorem own_buf {w : World} {base : Nat} {e : TypeId} {A : Option Addr} {n c : Nat} {l : List UInt8} (h : w.ownsRow base e 1 (.slice A n c) n (l.flatMap encByte)) (hn : 0 < n) : ∃ g, A = some ⟨g, 0, none⟩ ∧ base ≤ g ∧ Buf e w g l ∧ n = l.length := by
  have h' := h
  have hlen : n = l.length := by
    have h1 := h.1
    rw [length_flatMap (C := 1) (fun _ => rfl)] at h1
    omega
  rcases h.2 with ⟨hv, h0⟩ | ⟨g, cap, cur, hv, hb, hg, _⟩
  · omega
  · injection hv with a1 a2 a3
    subst a1
    refine ⟨g, rfl, hb, ⟨cur, (0, 0), hg, fun i hi => ?_, fun i hi => by simp⟩, hlen⟩
    have hc := h'.cellAt i (by omega)
    rw [cell_of_row w g i cur e (0, 0) hg] at hc
    rw [hc]
    have := flatMap_at (enc := encByte) (C := 1) (fun _ => rfl) l i 0 hi (by decide)
    rw [Nat.mul_one, Nat.add_zero] at this
    rw [this, List.getD_eq_getElem?_getD, List.getElem?_eq_getElem hi]
    rfl
theorem info_byte : (Try.prog.info? 5).map (fun i => (i.zero, i.size, i.bytes)) = some (some (.int .u8 0), 1, 1) := by kernel_rfl

/-- The first k bytes are those of both, where they differ; then those of the first one. -/
def xorTo (s t : ByteArray) (k : Nat) : List UInt8 := (List.zipWith (fun a b => a ^^^ b) (lst s) (lst t)).take k ++ (lst s).drop k
theorem xorTo_zero (s t : ByteArray) : xorTo s t 0 = lst s := by unfold xorTo; simp
theorem xorTo_len {s t : ByteArray} (h : s.size = t.size) (k : Nat) (hk : k ≤ s.size) : (xorTo s t k).length = s.size := by
  unfold xorTo; rw [List.length_append, List.length_take, List.length_zipWith, List.length_drop, length_lst, length_lst]; omega
theorem xorTo_end {s t : ByteArray} (h : s.size = t.size) : bs (xorTo s t s.size) = xorS s t := by
  unfold xorTo xorS
  rw [List.take_of_length_le (by rw [List.length_zipWith, length_lst, length_lst]; omega), List.drop_of_length_le (by rw [length_lst]; exact Nat.le_refl _), List.append_nil]
theorem xorTo_at {s t : ByteArray} (h : s.size = t.size) (k : Nat) (hk : k < s.size) : (xorTo s t k).getD k 0 = s[k] := by
  unfold xorTo
  have hl : ((List.zipWith (fun a b => a ^^^ b) (lst s) (lst t)).take k).length = k := by rw [List.length_take, List.length_zipWith, length_lst, length_lst]; omega
  rw [List.getD_eq_getElem?_getD, List.getElem?_append_right (by omega), hl, Nat.sub_self, List.getElem?_drop, Nat.add_zero, List.getElem?_eq_getElem (by rw [length_lst]; exact hk)]
  rfl
theorem xorTo_succ {s t : ByteArray} (h : s.size = t.size) (k : Nat) (hk : k < s.size) : (xorTo s t k).set k (s[k] ^^^ t[k]'(by omega)) = xorTo s t (k + 1) := by
  unfold xorTo
  have hl : ((List.zipWith (fun a b => a ^^^ b) (lst s) (lst t)).take k).length = k := by rw [List.length_take, List.length_zipWith, length_lst, length_lst]; omega
  have hz : k < (List.zipWith (fun a b => a ^^^ b) (lst s) (lst t)).length := by rw [List.length_zipWith, length_lst, length_lst]; omega
  rw [List.set_append_right _ _ (by omega), hl, Nat.sub_self, List.drop_eq_getElem_cons (by rw [length_lst]; exact hk), List.set_cons_zero, List.take_succ_eq_append_getElem hz, List.getElem_zipWith, List.append_assoc]
  rfl
theorem xor_byte (a b : UInt8) : bits .xor .u8 (a.toNat : Int) (b.toNat : Int) = ((a ^^^ b).toNat : Int) := by
  rw [u8_xor_nat _ _ (UInt8.toNat_lt _) (UInt8.toNat_lt _)]
  simp
def xorL (s t : ByteArray) : List UInt8 := List.zipWith (fun a b => a ^^^ b) (lst s) (lst t)
theorem xorL_len {s t : ByteArray} (h : s.size = t.size) : (xorL s t).length = s.size := by unfold xorL; rw [List.length_zipWith, length_lst, length_lst]; omega
theorem xorL_succ {s t : ByteArray} (h : s.size = t.size) (k : Nat) (hk : k < s.size) : ((xorL s t).take (k + 1)).flatMap encByte = ((xorL s t).take k).flatMap encByte ++ [.int .u8 ((s[k] ^^^ t[k]'(by omega)).toNat : Int)] := by
  have hz : k < (xorL s t).length := by rw [xorL_len h]; exact hk
  rw [List.take_succ_eq_append_getElem hz, List.flatMap_append]
  congr 1
  have hg : (xorL s t)[k] = s[k] ^^^ t[k]'(by omega) := by
    have := List.getElem_zipWith (f := fun a b : UInt8 => a ^^^ b) (l := lst s) (l' := lst t) (i := k) (h := hz)
    exact this
  rw [hg]
  rfl
end Go.Proofs.Ytokpjgpdkmimgaa
