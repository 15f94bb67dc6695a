/-
  What is packed comes back, and is never much longer; in plain Lean. Conditions: none.
-/
import Derived.Test.YtokpjgpdkmimgaaPPress
namespace Go.Proofs.Ytokpjgpdkmimgaa
set_option linter.unusedSimpArgs false
set_option linter.unusedVariables false
open Go.RowKit

theorem u8_ofNat (n : Nat) (h : n < 256) : (UInt8.ofNat n).toNat = n := by
  rw [UInt8.toNat_ofNat']; omega
theorem plain_nil : plainF [] = [] := by rw [plainF]; simp
theorem plain_back (l rest out : List UInt8) (h : (out ++ l).length ≤ 600) : unpackF (plainF l ++ rest) out = unpackF rest (out ++ l) := by
  induction hn : l.length using Nat.strongRecOn generalizing l out with
  | ind n ih =>
    by_cases h0 : l = []
    · subst h0; rw [plain_nil]; simp
    · have hp : 0 < l.length := List.length_pos_iff.2 h0
      rw [plainF, dif_neg h0]
      have hc : (UInt8.ofNat (min l.length 128 - 1)).toNat = min l.length 128 - 1 := u8_ofNat _ (by omega)
      have ht : ((l.take 128 ++ plainF (l.drop 128)) ++ rest).take (min l.length 128 - 1 + 1) = l.take 128 := by
        rw [List.append_assoc, List.take_append_of_le_length (by rw [List.length_take]; omega)]
        rw [List.take_take]
        by_cases hl : 128 ≤ l.length
        · congr 1; omega
        · rw [List.take_of_length_le (by omega), List.take_of_length_le (by omega)]
      have hd : ((l.take 128 ++ plainF (l.drop 128)) ++ rest).drop (min l.length 128 - 1 + 1) = plainF (l.drop 128) ++ rest := by
        rw [List.append_assoc]
        have : min l.length 128 - 1 + 1 = (l.take 128).length := by rw [List.length_take]; omega
        rw [this, List.drop_left]
      rw [List.cons_append, unpackF_plain _ _ (by rw [hc]; omega), hc, ht, hd]
      rw [if_neg (by simp only [List.length_append, List.length_take]; omega), if_neg (by
        have h1 : (l.take 128).length ≤ l.length := by rw [List.length_take]; omega
        simp only [List.length_append] at h ⊢; omega)]
      rw [ih (l.drop 128).length (by rw [List.length_drop]; omega) (l.drop 128) (out ++ l.take 128) (by rw [List.append_assoc, List.take_append_drop]; exact h) rfl]
      rw [List.append_assoc, List.take_append_drop]
theorem plain_len (l : List UInt8) : (plainF l).length = l.length + (l.length + 127) / 128 := by
  induction hn : l.length using Nat.strongRecOn generalizing l with
  | ind n ih =>
    by_cases h0 : l = []
    · subst h0; rw [plain_nil]; subst hn; rfl
    · have hp : 0 < l.length := List.length_pos_iff.2 h0
      rw [plainF, dif_neg h0]
      have := ih (l.drop 128).length (by rw [List.length_drop]; omega) (l.drop 128) rfl
      simp only [List.length_cons, List.length_append, this, List.length_take, List.length_drop]
      omega
theorem lst_getD (s : ByteArray) (k : Nat) : (lst s).getD k 0 = at_ s k := by
  unfold at_
  split
  · rename_i h
    rw [List.getD_eq_getElem?_getD, List.getElem?_eq_getElem (by rw [length_lst]; exact h)]
    rfl
  · rename_i h
    rw [List.getD_eq_getElem?_getD, List.getElem?_eq_none (by rw [length_lst]; omega)]
    rfl
theorem take_snoc_at (s : ByteArray) (k : Nat) (h : k < s.size) : (lst s).take (k + 1) = (lst s).take k ++ [at_ s k] := by rw [take_snoc s k h, at_eq s k h]
theorem copy_piece (s : ByteArray) (i d n : Nat) (hd : 1 ≤ d) (hdi : d ≤ i) (hn : i + n ≤ s.size) (ha : ∀ j, j < n → at_ s (i - d + j) = at_ s (i + j)) : copyB d n ((lst s).take i) = (lst s).take (i + n) := by
  induction n generalizing i with
  | zero => rfl
  | succ n ih =>
    unfold copyB
    have hl : ((lst s).take i).length = i := by rw [List.length_take, length_lst]; omega
    have h1 : ((lst s).take i).getD (((lst s).take i).length - d) 0 = at_ s i := by
      rw [hl, List.getD_eq_getElem?_getD, List.getElem?_take, if_pos (by omega), ← List.getD_eq_getElem?_getD, lst_getD]
      exact ha 0 (by omega)
    rw [h1, ← take_snoc_at s i (by omega)]
    have := ih (i + 1) (by omega) (by omega) (fun j hj => by
      have := ha (j + 1) (by omega)
      rw [show i + 1 - d + j = i - d + (j + 1) from by omega, show i + 1 + j = i + (j + 1) from by omega]
      exact this)
    rw [this]
    congr 1; omega
theorem take_sub (s : ByteArray) (a b : Nat) (h : a ≤ b) : (lst s).take a ++ sub_ s a b = (lst s).take b := by
  unfold sub_
  have := List.take_append_drop a ((lst s).take b)
  rw [List.take_take, show min a b = a from by omega] at this
  exact this
theorem piece_back (s : ByteArray) (i : Nat) (hi : i ≤ s.size) (hs : s.size ≤ 600) (h4 : ¬ (pieceF s i 1 0 0).1 < 4) (rest : List UInt8) :
    unpackF (UInt8.ofNat (124 + (pieceF s i 1 0 0).1) :: UInt8.ofNat (pieceF s i 1 0 0).2 :: rest) ((lst s).take i) = unpackF rest ((lst s).take (i + (pieceF s i 1 0 0).1)) := by
  rcases piece_ok s i hi with h | ⟨h1, h2, h3, h5, h6, h7⟩
  · omega
  · generalize pieceF s i 1 0 0 = p at *
    rw [unpackF_piece _ _ (by rw [u8_ofNat (124 + p.1) (by omega)]; omega), u8_ofNat (124 + p.1) (by omega), u8_ofNat p.2 (by omega)]
    have hl : ((lst s).take i).length = i := by rw [List.length_take, length_lst]; omega
    rw [show 124 + p.1 - 124 = p.1 from by omega, copy_piece s i p.2 p.1 h1 h3 h6 h7]
    rw [if_neg (by rw [hl]; omega), if_neg (by rw [List.length_take, length_lst]; omega)]
theorem pack_back (s : ByteArray) (hs : s.size ≤ 600) (out : List UInt8) (from_ i : Nat) (hf : from_ ≤ i) (hi : i ≤ s.size) (ho : ∀ rest, unpackF (out ++ rest) [] = unpackF rest ((lst s).take from_)) :
    unpackF (packF s out from_ i) [] = (s, 0) := by
  induction hn : s.size - i using Nat.strongRecOn generalizing out from_ i with
  | ind n ih =>
    rw [packF]
    split
    · rename_i hlt
      split
      · exact ih (s.size - (i + 1)) (by omega) out from_ (i + 1) (by omega) (by omega) ho rfl
      · rename_i h4
        have hp := piece_le s i hi
        refine ih _ (by omega) _ _ _ (Nat.le_refl _) hp.2 (fun rest => ?_) rfl
        rw [List.append_assoc, List.append_assoc, ho, plain_back _ _ _ (by rw [take_sub s _ _ hf, List.length_take, length_lst]; omega), take_sub s _ _ hf]
        exact piece_back s i hi hs h4 rest
    · rename_i hge
      rw [ho]
      have hb := plain_back (sub_ s from_ s.size) [] ((lst s).take from_) (by rw [take_sub s _ _ (by omega), List.length_take, length_lst]; omega)
      rw [List.append_nil] at hb
      rw [hb, take_sub s _ _ (by omega), take_all, unpackF_nil, bs_lst]
theorem packS_back (s : ByteArray) (hs : s.size ≤ 600) : unpackS (packS s).1 = (s, 0) := by
  unfold packS unpackS
  rw [if_neg (by omega)]
  show unpackF (lst (bs _)) [] = _
  rw [lst_bs]
  exact pack_back s hs [] 0 0 (Nat.le_refl _) (Nat.zero_le _) (fun rest => rfl)
theorem pack_len (s : ByteArray) (out : List UInt8) (from_ i : Nat) (hf : from_ ≤ i) (hi : i ≤ s.size) (ho : out.length ≤ from_ + from_ / 128) :
    (packF s out from_ i).length ≤ s.size + (s.size + 127) / 128 := by
  induction hn : s.size - i using Nat.strongRecOn generalizing out from_ i with
  | ind n ih =>
    rw [packF]
    split
    · rename_i hlt
      split
      · exact ih (s.size - (i + 1)) (by omega) out from_ (i + 1) (by omega) (by omega) ho rfl
      · rename_i h4
        have hp := piece_le s i hi
        refine ih _ (by omega) _ _ _ (Nat.le_refl _) hp.2 ?_ rfl
        simp only [List.length_append, plain_len, length_sub_ s from_ i hi, List.length_cons, List.length_nil]
        omega
    · simp only [List.length_append, plain_len, length_sub_ s from_ s.size (Nat.le_refl _)]
      omega
theorem packS_len (s : ByteArray) (hs : s.size ≤ 600) : (packS s).1.size ≤ s.size + (s.size + 127) / 128 := by
  unfold packS
  rw [if_neg (by omega)]
  show (bs _).size ≤ _
  rw [size_bs]
  exact pack_len s [] 0 0 (Nat.le_refl _) (Nat.zero_le _) (by simp)
theorem packS_code (s : ByteArray) (hs : s.size ≤ 600) : (packS s).2 = 0 := by unfold packS; rw [if_neg (by omega)]
theorem packS_big (s : ByteArray) (hs : 600 < s.size) : packS s = (.empty, 1) := by unfold packS; rw [if_pos hs]

/-! What comes again takes few bytes. -/
theorem pieceF_mono (s : ByteArray) (i d best back : Nat) : best ≤ (pieceF s i d best back).1 := by
  induction hm : 256 - d generalizing d best back with
  | zero => rw [pieceF, if_neg (by omega)]; exact Nat.le_refl _
  | succ m ih =>
    rw [pieceF]
    split
    · split
      · have := ih (d + 1) (alikeF s (i - d) i 0) d (by omega); omega
      · exact ih (d + 1) best back (by omega)
    · exact Nat.le_refl _
theorem pieceF_ge (s : ByteArray) (i d best back d' : Nat) (h1 : d ≤ d') (h2 : d' ≤ 255) (h3 : d' ≤ i) : alikeF s (i - d') i 0 ≤ (pieceF s i d best back).1 := by
  induction hm : 256 - d generalizing d best back with
  | zero => omega
  | succ m ih =>
    rw [pieceF, if_pos (by omega)]
    by_cases he : d = d'
    · subst he
      split
      · exact pieceF_mono s i (d + 1) _ _
      · have := pieceF_mono s i (d + 1) best back; omega
    · split
      · exact ih (d + 1) _ _ (by omega) (by omega)
      · exact ih (d + 1) _ _ (by omega) (by omega)
theorem alikeF_ge (s : ByteArray) (k i n r : Nat) (hr : r ≤ 131) (h1 : i + r ≤ s.size) (hn : n ≤ r) (h : ∀ j, j < r → at_ s (k + j) = at_ s (i + j)) : r ≤ alikeF s k i n := by
  induction hm : 131 - n generalizing n with
  | zero => rw [alikeF, if_neg (by omega)]; omega
  | succ m ih =>
    by_cases hnr : n < r
    · rw [alikeF, if_pos ⟨by omega, by omega, h n hnr⟩]
      exact ih (n + 1) (by omega) (by omega)
    · have := (alikeF_le s k i n (by omega)).1; omega
/-- Near the end nothing is worth a piece. -/
theorem pack_end (s : ByteArray) (out : List UInt8) (from_ i : Nat) (hi : i ≤ s.size) (h : s.size - i < 4) : packF s out from_ i = out ++ plainF (sub_ s from_ s.size) := by
  induction hn : s.size - i using Nat.strongRecOn generalizing i with
  | ind n ih =>
    rw [packF]
    split
    · have := piece_le s i hi
      rw [dif_pos (by omega)]
      exact ih _ (by omega) (i + 1) (by omega) (by omega) rfl
    · rfl
section
variable {A T : ByteArray} {m k : Nat} (hA : A.size = m) (hT : T.size = m + k) (hk : k ≤ m) (hk4 : 4 ≤ k) (hm : m + k ≤ 131)
  (h1 : ∀ j, j < m → at_ T j = at_ A j) (h2 : ∀ j, j < k → at_ T (m + j) = at_ A j)
include hA hT hm h1 in
theorem alike_cut (i p n : Nat) (hp : p < i) (hn : i + n ≤ m) : alikeF A p i n = min (alikeF T p i n) (m - i) := by
  induction hq : 131 - n generalizing n with
  | zero => omega
  | succ q ih =>
    by_cases he : i + n = m
    · have e1 : alikeF A p i n = n := by rw [alikeF, if_neg (by omega)]
      have e2 := (alikeF_le T p i n (by omega)).1
      rw [e1]; omega
    · rw [alikeF.eq_def A, alikeF.eq_def T]
      by_cases hc : at_ A (p + n) = at_ A (i + n)
      · rw [if_pos ⟨by omega, by omega, hc⟩, if_pos ⟨by omega, by omega, by rw [h1 _ (by omega), h1 _ (by omega)]; exact hc⟩]
        exact ih (n + 1) (by omega) (by omega)
      · rw [if_neg (fun h => hc h.2.2), if_neg (fun h => hc (by have := h.2.2; rw [h1 _ (by omega), h1 _ (by omega)] at this; exact this))]
        omega
include hA hT hm h1 in
theorem piece_cut (i d b1 b2 c1 c2 : Nat) (hd : 1 ≤ d) (hi : i ≤ m) (hb : b1 = min b2 (m - i)) : (pieceF A i d b1 c1).1 = min (pieceF T i d b2 c2).1 (m - i) := by
  induction hq : 256 - d generalizing d b1 b2 c1 c2 with
  | zero => rw [pieceF, if_neg (by omega), pieceF, if_neg (by omega)]; exact hb
  | succ q ih =>
    rw [pieceF.eq_def A, pieceF.eq_def T]
    by_cases hc : d ≤ 255 ∧ d ≤ i
    · rw [if_pos hc, if_pos hc]
      have ha := alike_cut hA hT hm h1 i (i - d) 0 (by omega) (by omega)
      split <;> split <;> exact ih (d + 1) _ _ _ _ (by omega) (by omega) (by omega)
    · rw [if_neg hc, if_neg hc]; exact hb
include hT hk hm h1 h2 in
theorem tail_piece (j : Nat) (h : m ≤ j) (h' : j ≤ m + k) : (pieceF T j 1 0 0).1 = m + k - j := by
  have a1 := (piece_le T j (by omega)).2
  have a2 := pieceF_ge T j 1 0 0 m
  by_cases h0 : j = m + k
  · omega
  · have a3 := alikeF_ge T (j - m) j 0 (m + k - j) (by omega) (by omega) (by omega) (fun n hn => by
      rw [show j + n = m + (j - m + n) from by omega, h2 _ (by omega), h1 _ (by omega)])
    have := a2 (by omega) (by omega) (by omega)
    omega
include hT hk hm h1 h2 in
theorem tail_len (out : List UInt8) (j : Nat) (h : m ≤ j) (h' : j ≤ m + k) : (packF T out j j).length ≤ out.length + 4 := by
  by_cases h4 : m + k - j < 4
  · rw [pack_end T out j j (by omega) (by omega), List.length_append, plain_len, length_sub_ T _ _ (by omega)]; omega
  · have hp := tail_piece hT hk hm h1 h2 j h h'
    have he : (sub_ T j j) = [] := List.eq_nil_of_length_eq_zero (by rw [length_sub_ T _ _ (by omega)]; omega)
    rw [packF, dif_pos (by omega), dif_neg (by omega), he, plain_nil, pack_end T _ _ _ (by omega) (by omega), List.length_append, plain_len, length_sub_ T _ _ (by omega)]
    simp only [List.length_append, List.length_nil, List.length_cons]
    omega
include hA hT hk hk4 hm h1 h2 in
theorem pack_more (out1 out2 : List UInt8) (from_ i : Nat) (hl : out1.length = out2.length) (hf : from_ ≤ i) (hi : i ≤ m) :
    (packF T out1 from_ i).length ≤ (packF A out2 from_ i).length + 6 := by
  induction hn : m - i using Nat.strongRecOn generalizing out1 out2 from_ i with
  | ind n ih =>
    by_cases he : i = m
    · have hp := tail_piece hT hk hm h1 h2 i (by omega) (by omega)
      rw [pack_end A out2 from_ i (by omega) (by omega)]
      rw [packF, dif_pos (by omega), dif_neg (by omega), pack_end T _ _ _ (by omega) (by omega)]
      simp only [List.length_append, plain_len, length_sub_ T _ _ (show i ≤ T.size by omega), length_sub_ T _ _ (Nat.le_refl T.size), length_sub_ A _ _ (Nat.le_refl A.size), List.length_cons, List.length_nil]
      omega
    · have hc := piece_cut hA hT hm h1 i 1 0 0 0 0 (by omega) (by omega) (by omega)
      have hb := piece_le T i (by omega)
      by_cases hT4 : (pieceF T i 1 0 0).1 < 4
      · rw [packF, dif_pos (by omega), dif_pos hT4]
        rw [packF.eq_def A, dif_pos (by omega), dif_pos (by omega)]
        exact ih _ (by omega) out1 out2 from_ (i + 1) hl (by omega) (by omega) rfl
      · rw [packF.eq_def T, dif_pos (by omega), dif_neg hT4]
        by_cases hcr : (pieceF T i 1 0 0).1 ≤ m - i
        · have hA4 : ¬ (pieceF A i 1 0 0).1 < 4 := by omega
          have heq : (pieceF A i 1 0 0).1 = (pieceF T i 1 0 0).1 := by omega
          rw [packF.eq_def A, dif_pos (by omega), dif_neg hA4, heq]
          refine ih _ (by omega) _ _ _ _ ?_ (Nat.le_refl _) (by omega) rfl
          simp only [List.length_append, plain_len, length_sub_ T _ _ (show i ≤ T.size by omega), length_sub_ A _ _ (show i ≤ A.size by omega), List.length_cons, List.length_nil]
          omega
        · have ht := tail_len hT hk hm h1 h2 (out1 ++ plainF (sub_ T from_ i) ++ [UInt8.ofNat (124 + (pieceF T i 1 0 0).1), UInt8.ofNat (pieceF T i 1 0 0).2]) (i + (pieceF T i 1 0 0).1) (by omega) (by omega)
          simp only [List.length_append, plain_len, length_sub_ T _ _ (show i ≤ T.size by omega), List.length_cons, List.length_nil] at ht
          by_cases hA4 : (pieceF A i 1 0 0).1 < 4
          · have := pack_end A out2 from_ i (by omega) (by omega)
            rw [this]
            simp only [List.length_append, plain_len, length_sub_ A _ _ (Nat.le_refl A.size)]
            omega
          · rw [packF.eq_def A, dif_pos (by omega), dif_neg hA4, pack_end A _ _ _ (by omega) (by omega)]
            simp only [List.length_append, plain_len, length_sub_ A _ _ (show i ≤ A.size by omega), length_sub_ A _ _ (Nat.le_refl A.size), List.length_cons, List.length_nil]
            omega
end
end Go.Proofs.Ytokpjgpdkmimgaa
