/-
  The document's plainly and PackedOf: bytes as they are, and packed. Conditions: the text is short.
-/
import Derived.Test.YtokpjgpdkmimgaaWPack
import Derived.Test.YtokpjgpdkmimgaaR3
namespace Go.Proofs.Ytokpjgpdkmimgaa
set_option linter.unusedSimpArgs false
set_option linter.unusedVariables false
open Go.RowKit

theorem lst_ext0 (s : ByteArray) (n : Nat) : lst (s.extract 0 n) = (lst s).take n := by
  unfold lst; rw [ByteArray.data_extract, Array.toList_extract]; simp [List.extract]
theorem lst_ext (s : ByteArray) (a b : Nat) : lst (s.extract a b) = sub_ s a b := by
  unfold lst sub_
  rw [ByteArray.data_extract, Array.toList_extract]
  simp [List.extract, List.drop_take, lst]
theorem plain_join (s : ByteArray) (n : Nat) (hn : n = min s.size 128) (h0 : 0 < s.size) : bs [byte ((n : Int) - 1)] ++ s.extract 0 n ++ bs (plainF (lst (s.extract n s.size))) = bs (plainF (lst s)) := by
  apply lst_inj
  rw [lst_append, lst_append, lst_bs, lst_bs, lst_bs, lst_ext0, lst_ext]
  have hne : lst s ≠ [] := by intro h; have := length_lst s; rw [h] at this; simp at this; omega
  have hn1 : 1 ≤ n := by omega
  rw [plainF.eq_def (lst s), dif_neg hne, length_lst, ← hn]
  have hb : byte ((n : Int) - 1) = UInt8.ofNat (n - 1) := by
    unfold byte; congr 1; show ((n : Int) - 1).toNat = n - 1; omega
  have ht : (lst s).take n = (lst s).take 128 := by
    by_cases h : s.size ≤ 128
    · rw [List.take_of_length_le (by rw [length_lst]; omega), List.take_of_length_le (by rw [length_lst]; omega)]
    · rw [show n = 128 by omega]
  have hd : sub_ s n s.size = (lst s).drop 128 := by
    unfold sub_
    rw [List.take_of_length_le (by rw [length_lst]; omega)]
    by_cases h : s.size ≤ 128
    · rw [List.drop_of_length_le (by rw [length_lst]; omega), List.drop_of_length_le (by rw [length_lst]; omega)]
    · rw [show n = 128 by omega]
  rw [hb, ht, hd]
  simp
theorem plain_size (l : List UInt8) : (bs (plainF l)).size = l.length + (l.length + 127) / 128 := by rw [size_bs, plain_len]
end Go.Proofs.Ytokpjgpdkmimgaa
