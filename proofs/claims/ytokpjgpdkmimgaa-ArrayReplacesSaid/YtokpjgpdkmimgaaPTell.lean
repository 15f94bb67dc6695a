/-
  Bytes of which one is another one have another seal; a sector is read as it was written; spoilt it is not. In plain Lean. Conditions: none.
-/
import Derived.Test.YtokpjgpdkmimgaaPArr
namespace Go.Proofs.Ytokpjgpdkmimgaa
set_option linter.unusedSimpArgs false
set_option linter.unusedVariables false
open Go.RowKit

def sumB : List UInt8 → Int
  | [] => 0
  | c :: l => (c.toNat : Int) + sumB l
theorem sealFold_fst (l : List UInt8) (p : Int × Int) : (l.foldl sealStep p).1 % 65521 = (p.1 + sumB l) % 65521 := by
  induction l generalizing p with
  | nil => simp [sumB]
  | cons c l ih =>
    rw [List.foldl_cons, ih]
    simp only [sealStep, sumB]
    omega
theorem sealXY_fst (l : List UInt8) : (sealXY l).1 = (1 + sumB l) % 65521 := by
  have h := sealXY_range l
  have := sealFold_fst l (1, 0)
  unfold sealXY at h ⊢
  unfold InRange at h
  omega
theorem byte_toNat (n : Int) (h0 : 0 ≤ n) (h1 : n < 256) : ((byte n).toNat : Int) = n := by
  unfold byte
  rw [UInt8.toNat_ofNat']
  omega
theorem sumB_set (l : List UInt8) (k : Nat) (hk : k < l.length) (c : UInt8) : sumB (l.set k c) = sumB l - (l[k].toNat : Int) + (c.toNat : Int) := by
  induction l generalizing k with
  | nil => simp at hk
  | cons a l ih =>
    cases k with
    | zero => simp only [List.set_cons_zero, sumB, List.getElem_cons_zero]; omega
    | succ k =>
      have := ih k (by simpa using hk)
      simp only [List.set_cons_succ, sumB, List.getElem_cons_succ, this]; omega
theorem seal_fst {l l' : List UInt8} (h : sealOf l = sealOf l') : (sealXY l).1 = (sealXY l').1 := by
  unfold sealOf sealBytes at h
  simp only [List.cons.injEq, and_true] at h
  obtain ⟨_, _, h1, h2⟩ := h
  have r := sealXY_range l
  have r' := sealXY_range l'
  unfold InRange at r r'
  have e1 := byte_toNat ((sealXY l).1 / 256) (by omega) (by omega)
  have e2 := byte_toNat ((sealXY l').1 / 256) (by omega) (by omega)
  have e3 := byte_toNat ((sealXY l).1 % 256) (by omega) (by omega)
  have e4 := byte_toNat ((sealXY l').1 % 256) (by omega) (by omega)
  rw [h1] at e1
  rw [h2] at e3
  omega
theorem seal_tells (l : List UInt8) (k : Nat) (hk : k < l.length) (c : UInt8) (hc : c ≠ l[k]) : sealOf (l.set k c) ≠ sealOf l := by
  intro h
  have h1 := seal_fst h
  rw [sealXY_fst, sealXY_fst, sumB_set l k hk c] at h1
  have b1 := u8_bd c
  have b2 := u8_bd l[k]
  apply hc
  apply UInt8.toNat_inj.1
  omega

/-- The payload as it is read again. -/
def padS (s : ByteArray) : ByteArray := bs (lst s ++ List.replicate (24 - s.size) 0)
theorem padS_size {s : ByteArray} (h : s.size ≤ 24) : (padS s).size = 24 := by
  unfold padS; rw [size_bs, List.length_append, List.length_replicate, length_lst]; omega
theorem lst_extract (s : ByteArray) (a b : Nat) : lst (s.extract a b) = sub_ s a b := by
  unfold lst sub_
  rw [ByteArray.data_extract, Array.toList_extract]
  simp [List.extract, List.drop_take, lst]
theorem sectorNo_at (s : ByteArray) (h : 2 ≤ s.size) : sectorNo s h = 256 * ((at_ s 0).toNat : Int) + ((at_ s 1).toNat : Int) := by
  unfold sectorNo; rw [at_eq s 0 (by omega), at_eq s 1 (by omega)]
/-- decode, told by lists. -/
theorem decodeS_eq (no : Int) (s : ByteArray) : decodeS no s = if s.size = 30 then (if sealOf ((lst s).take 26) = (lst s).drop 26 then (if 256 * ((at_ s 0).toNat : Int) + ((at_ s 1).toNat : Int) = no then (bs (((lst s).take 26).drop 2), 0) else (.empty, 4)) else (.empty, 10)) else (.empty, 1) := by
  unfold decodeS
  by_cases h : s.size = 30
  · rw [dif_pos h, if_pos h, sectorNo_at]
    have e1 : lst (s.extract 0 26) = (lst s).take 26 := by rw [lst_extract]; rfl
    have e2 : (s.extract 26 s.size).toList = (lst s).drop 26 := by rw [toList_lst, lst_extract]; unfold sub_; rw [take_all]
    have e3 : s.extract 2 26 = bs (((lst s).take 26).drop 2) := lst_inj (by rw [lst_extract, lst_bs]; rfl)
    rw [e1, e2, e3, toList_lst, lst_bs]
    by_cases h2 : sealOf ((lst s).take 26) = (lst s).drop 26
    · rw [if_pos (by simpa using h2), if_pos h2]
    · rw [if_neg (by simpa using h2), if_neg h2]
  · rw [dif_neg h, if_neg h]
theorem lst_enc {no : Int} {s : ByteArray} (h0 : 0 ≤ no) (h1 : no ≤ 65535) (h2 : s.size ≤ 24) : lst (encodeS no s).1 = rawS no s ++ sealOf (rawS no s) := by
  rw [encodeS_ok h0 h1 h2]; exact lst_bs _
theorem at_lst (s : ByteArray) (k : Nat) : at_ s k = (lst s).getD k 0 := by
  unfold at_
  split
  · rename_i h
    rw [List.getD_eq_getElem?_getD, List.getElem?_eq_getElem (by rw [length_lst]; exact h)]
    rfl
  · rename_i h
    rw [List.getD_eq_getElem?_getD, List.getElem?_eq_none (by rw [length_lst]; omega)]
    rfl
theorem decode_encode (no no' : Int) (s : ByteArray) (h0 : 0 ≤ no) (h1 : no ≤ 65535) (h2 : s.size ≤ 24) : decodeS no' (encodeS no s).1 = if no = no' then (padS s, 0) else (.empty, 4) := by
  have hl := lst_enc h0 h1 h2
  have hr := rawS_length (no := no) h2
  rw [decodeS_eq, if_pos (encodeS_size h0 h1 h2), hl, List.take_left' hr, List.drop_left' hr, if_pos rfl, at_lst, at_lst, hl]
  have e1 := byte_toNat (no / 256) (by omega) (by omega)
  have e2 := byte_toNat (no % 256) (by omega) (by omega)
  have e3 : (rawS no s ++ sealOf (rawS no s)).getD 0 0 = byte (no / 256) := rfl
  have e4 : (rawS no s ++ sealOf (rawS no s)).getD 1 0 = byte (no % 256) := rfl
  rw [e3, e4, e1, e2, show 256 * (no / 256) + no % 256 = no from by omega]
  rfl
/-- A byte of a sound sector is another one: the seal tells. -/
theorem decode_spoilt (no no' : Int) (s : ByteArray) (h0 : 0 ≤ no) (h1 : no ≤ 65535) (h2 : s.size ≤ 24) (k : Nat) (hk : k < 30) (c : UInt8) (hc : c ≠ at_ (encodeS no s).1 k) :
    decodeS no' (bs ((lst (encodeS no s).1).set k c)) = (.empty, 10) := by
  have hl := lst_enc h0 h1 h2
  have hr := rawS_length (no := no) h2
  have hsz := encodeS_size h0 h1 h2
  have hz : (bs ((lst (encodeS no s).1).set k c)).size = 30 := by rw [size_bs, List.length_set, length_lst, hsz]
  rw [decodeS_eq, if_pos hz, lst_bs]
  have ha : at_ (encodeS no s).1 k = (rawS no s ++ sealOf (rawS no s)).getD k 0 := by rw [at_lst, hl]
  rw [ha] at hc
  rw [hl]
  by_cases h26 : k < 26
  · have e1 : ((rawS no s ++ sealOf (rawS no s)).set k c) = (rawS no s).set k c ++ sealOf (rawS no s) := by rw [List.set_append_left _ _ (by omega)]
    rw [e1, List.take_left' (by rw [List.length_set, hr]), List.drop_left' (by rw [List.length_set, hr])]
    rw [if_neg]
    refine seal_tells _ k (by omega) c ?_
    rw [List.getD_eq_getElem?_getD, List.getElem?_append_left (by omega), List.getElem?_eq_getElem (by omega)] at hc
    exact hc
  · have e1 : ((rawS no s ++ sealOf (rawS no s)).set k c) = rawS no s ++ (sealOf (rawS no s)).set (k - 26) c := by rw [List.set_append_right _ _ (by omega), hr]
    rw [e1, List.take_left' hr, List.drop_left' hr]
    rw [if_neg]
    intro he
    have hk4 : k - 26 < (sealOf (rawS no s)).length := by rw [length_sealOf]; omega
    have := congrArg (fun l => l[k - 26]?) he
    simp only [List.getElem?_set_self hk4] at this
    rw [List.getD_eq_getElem?_getD, List.getElem?_append_right (by omega), hr, this] at hc
    exact hc rfl
end Go.Proofs.Ytokpjgpdkmimgaa
