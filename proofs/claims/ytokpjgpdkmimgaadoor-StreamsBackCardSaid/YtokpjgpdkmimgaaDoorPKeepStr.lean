/-
  Bytes are read from an array as they were written, and what stands around them stays, in plain Lean: the law StreamsBack. Conditions: the numbers are within the array.
-/
import Derived.Test.YtokpjgpdkmimgaaDoorJ12
import Derived.Test.YtokpjgpdkmimgaaDoorWStream
namespace Go.Proofs.YtokpjgpdkmimgaaDoor
set_option linter.unusedSimpArgs false
set_option linter.unusedVariables false
open Go.RowKit

/-- What the sectors tell after a stream was written. -/
def swAll : Nat → Nat → List ByteArray → Nat → ByteArray → List ByteArray
  | 0, _, all, _, _ => all
  | m + 1, i, all, first, s => swAll m (i + 1) (all.set (first + i) (padS (chunk s i))) first s
theorem full_sw {mm : Nat} (h16 : 16 ≤ mm) (h64 : mm ≤ 64) (h2 : mm % 2 = 0) (first : Nat) (s : ByteArray) : ∀ (m i : Nat) (a : List Dev) (all : List ByteArray), Full a mm all → first + i + m ≤ mm → Full (streamWriteLoop m i a first s) mm (swAll m i all first s)
  | 0, _, _, _, h, _ => h
  | m + 1, i, a, all, h, hl => by
    obtain ⟨b, e, hb⟩ := h.write h16 h64 h2 (n := first + i) (by omega) (chunk_size s i)
    rw [swl_succ]
    have e1 : (first : Int) + (i : Int) = ((first + i : Nat) : Int) := by omega
    rw [e1, e]
    exact full_sw h16 h64 h2 first s m (i + 1) b _ hb (by omega)
theorem pl_sw (first : Nat) (s : ByteArray) : ∀ (m i : Nat) (all : List ByteArray) (n : Nat), first + i + m ≤ all.length → pl (swAll m i all first s) n = if first + i ≤ n ∧ n < first + i + m then padS (chunk s (n - first)) else pl all n
  | 0, i, all, n, _ => by rw [if_neg (by omega)]; rfl
  | m + 1, i, all, n, h => by
    show pl (swAll m (i + 1) (all.set (first + i) (padS (chunk s i))) first s) n = _
    rw [pl_sw first s m (i + 1) _ n (by rw [List.length_set]; omega)]
    by_cases h1 : first + (i + 1) ≤ n ∧ n < first + (i + 1) + m
    · rw [if_pos h1, if_pos (by omega)]
    · rw [if_neg h1]
      by_cases h2 : n = first + i
      · subst h2
        rw [if_pos (by omega), pl_set_self (by omega), show first + i - first = i by omega]
      · rw [if_neg (by omega), pl_set_ne _ (fun e => h2 e.symm)]
theorem lst_chunk (s : ByteArray) (j : Nat) : lst (chunk s j) = ((lst s).drop (24 * j)).take 24 := by
  unfold chunk
  rw [lst_extract]
  apply List.ext_getElem?
  intro i
  have hl := length_lst s
  unfold sub_
  simp only [List.getElem?_take, List.getElem?_drop]
  by_cases hi : 24 * j + i < (lst s).length
  · by_cases h24 : i < 24
    · first | (rw [if_pos (by omega), if_pos h24]) | (rw [if_pos h24, if_pos (by omega)])
    · first | (rw [if_neg (by omega), if_neg h24]) | (rw [if_neg h24, if_neg (by omega)])
  · have hn : (lst s)[24 * j + i]? = none := List.getElem?_eq_none (by omega)
    rw [hn]
    simp
theorem pad_chunk (s : ByteArray) (j : Nat) (hj : 24 * j < s.size) : (lst s).take (24 * j) ++ lst (padS (chunk s j)) = (lst s).take (24 * (j + 1)) ++ List.replicate (24 * (j + 1) - s.size) 0 := by
  have hc := lst_chunk s j
  have hl := length_lst s
  have hz : (chunk s j).size = min 24 (s.size - 24 * j) := by rw [← length_lst, hc, List.length_take, List.length_drop, hl]
  unfold padS
  rw [lst_bs, hc, ← List.append_assoc, hz]
  congr 1
  · rw [show 24 * (j + 1) = 24 * j + 24 by omega, List.take_add]
  · congr 1
    omega
theorem srl_back {b : List Dev} {mm : Nat} {all : List ByteArray} (h : Full b mm all) (h16 : 16 ≤ mm) (h64 : mm ≤ 64) (h2 : mm % 2 = 0) (k : Nat) (s : ByteArray) : ∀ (m j : Nat) (acc : ByteArray), (∀ i : Nat, j ≤ i → i < j + m → pl all (k + i) = padS (chunk s i)) → k + j + m ≤ mm → 24 * (j + m) < s.size + 24 →
    lst acc = (lst s).take (24 * j) ++ List.replicate (24 * j - s.size) 0 → ∃ t, streamReadLoop b m ((k + j : Nat) : Int) acc = (t, 0) ∧ lst t = (lst s).take (24 * (j + m)) ++ List.replicate (24 * (j + m) - s.size) 0
  | 0, j, acc, _, _, _, ha => ⟨acc, rfl, ha⟩
  | m + 1, j, acc, hp, hk, hs, ha => by
    have hr := h.read h16 h64 h2 (n := k + j) (by omega)
    rw [loop_next (by rw [hr])]
    rw [hr, hp j (Nat.le_refl _) (by omega)]
    have e1 : ((k + j : Nat) : Int) + 1 = ((k + (j + 1) : Nat) : Int) := by omega
    rw [e1]
    obtain ⟨t, e, ht⟩ := srl_back h h16 h64 h2 k s m (j + 1) (acc ++ padS (chunk s j)) (fun i h1 h2 => hp i (by omega) (by omega)) (by omega) (by omega) (by
      rw [lst_append, ha, show 24 * j - s.size = 0 by omega, List.replicate_zero, List.append_nil]
      exact pad_chunk s j (by omega))
    exact ⟨t, e, by rw [ht, show j + 1 + m = j + (m + 1) by omega]⟩
/-- StreamsBack. -/
theorem keep_stream {a : List Dev} {all : List ByteArray} (h : Full a 40 all) {k : Nat} (hk : k < 40) {s : ByteArray} (hs : s.size ≤ (40 - k) * 24) :
    ∃ b all', streamWriteS a k s = (b, 0) ∧ Full b 40 all' ∧ streamReadS b k s.size = (s, 0) ∧ streamReadS b k (((40 - k) * 24 + 1 : Nat) : Int) = (.empty, 2) ∧ ∀ i : Nat, i < 40 → ¬ (k ≤ i ∧ i < k + (s.size + 23) / 24) → arrReadS b i = (pl all i, 1, 0) := by
  have hmay := h.good.may (by decide) (by decide)
  have hlen : (dv a 0).sec.length = 40 := h.good.l0
  have hf0 : streamFaultS a k s.size = 0 := fault_none hmay ⟨by omega, by omega⟩ (by rw [hlen]; omega)
  have hb := full_sw (by decide) (by decide) (by decide) k s ((s.size + 23) / 24) 0 a all h (by omega)
  have hpl := fun n => pl_sw k s ((s.size + 23) / 24) 0 all n (by rw [h.len]; omega)
  refine ⟨_, _, sw_good hf0, hb, ?_, ?_, fun i hi hn => ?_⟩
  · have hmb := hb.good.may (by decide) (by decide)
    have hlb : (dv (streamWriteLoop ((s.size + 23) / 24) 0 a k s) 0).sec.length = 40 := hb.good.l0
    have hfb : streamFaultS (streamWriteLoop ((s.size + 23) / 24) 0 a k s) k s.size = 0 := fault_none hmb ⟨by omega, by omega⟩ (by rw [hlb]; omega)
    obtain ⟨t, e, ht⟩ := srl_back hb (by decide) (by decide) (by decide) k s ((s.size + 23) / 24) 0 .empty (fun i _ hi => by rw [hpl, if_pos (by omega), show k + i - k = i by omega]) (by omega) (by omega) (by simp [lst_empty])
    rw [sread_good hfb (s := t) (by
      rw [show (((s.size : Int) + 23) / 24).toNat = (s.size + 23) / 24 by omega]
      rw [show ((k + 0 : Nat) : Int) = (k : Int) by omega] at e
      exact e)]
    congr 1
    apply lst_inj
    rw [lst_extract, show ((s.size : Int)).toNat = s.size from rfl]
    unfold sub_
    rw [ht, Nat.zero_add, List.take_of_length_le (show (lst s).length ≤ 24 * ((s.size + 23) / 24) by rw [length_lst]; omega)]
    first | (rw [List.drop_zero, List.take_left' (length_lst s)]) | (rw [List.take_left' (length_lst s), List.drop_zero])
  · have hmb := hb.good.may (by decide) (by decide)
    have hlb : (dv (streamWriteLoop ((s.size + 23) / 24) 0 a k s) 0).sec.length = 40 := hb.good.l0
    have hfb : streamFaultS (streamWriteLoop ((s.size + 23) / 24) 0 a k s) k (((40 - k) * 24 + 1 : Nat) : Int) = 2 := fault_range hmb ⟨by omega, by omega⟩ (by rw [hlb]; omega)
    rw [sread_bad (by rw [hfb]; decide), hfb]
  · rw [hb.read (by decide) (by decide) (by decide) hi, hpl, if_neg (by omega)]
end Go.Proofs.YtokpjgpdkmimgaaDoor
