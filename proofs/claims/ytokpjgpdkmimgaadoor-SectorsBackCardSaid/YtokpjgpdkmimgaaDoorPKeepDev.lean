/-
  What a device tells after it was written, lost, turned, written anew, in plain Lean. Conditions: the numbers are within a device.
-/
import Derived.Test.YtokpjgpdkmimgaaDoorPDev
import Derived.Test.YtokpjgpdkmimgaaDoorPArr3
namespace Go.Proofs.YtokpjgpdkmimgaaDoor
set_option linter.unusedSimpArgs false
set_option linter.unusedVariables false
open Go.RowKit

theorem keep_dev (n k : Nat) (p : ByteArray) (place by_ : Int) (h1 : 1 ≤ n) (h64 : n ≤ 64) (hk : k < n) (hp : p.size ≤ 24) (hpl : 0 ≤ place ∧ place ≤ 29) (hb : 0 ≤ by_ ∧ by_ ≤ 255) :
    ∃ d a b c x : Dev, newDevS n 0 = (d, 0) ∧ writeS d k k p = (a, 0) ∧ readS a k k = (padS p, 0) ∧ loseS a k = b ∧ touchCode a k = 0 ∧ readS b k k = (.empty, 11) ∧ turnS a k place by_ = (c, 0) ∧ (by_ ≠ 0 → (readS c k k).2 = 10) ∧
      writeS b k k p = (x, 0) ∧ readS x k k = (padS p, 0) ∧ ∀ o : Nat, o < n → o ≠ k → readS c o o = (bs (List.replicate 24 0), 0) := by
  have hm := fresh_may n 0 h1 h64 (by omega) (by omega)
  have hln := fresh_len n 0
  have ht : ∀ o : Nat, o < n → touchCode (freshDev n 0) o = 0 := fun o ho => touch_iff.2 ⟨hm, by omega, by rw [hln]; omega⟩
  have hw := write_touch (s := p) (no := (k : Int)) (ht k hk) (by omega) (by omega) hp
  have hta : touchCode (writeS (freshDev n 0) k k p).1 k = 0 := by rw [hw]; exact ht k hk
  have htb : touchCode (loseS (writeS (freshDev n 0) k k p).1 k) k = 0 := by rw [lose_touch hta]; exact hta
  have hwo := writeS_ok (s := p) (no := (k : Int)) (ht k hk) (by omega) (by omega) hp
  refine ⟨freshDev n 0, (writeS (freshDev n 0) k k p).1, loseS (writeS (freshDev n 0) k k p).1 k, (turnS (writeS (freshDev n 0) k k p).1 k place by_).1, (writeS (loseS (writeS (freshDev n 0) k k p).1 k) k k p).1, ?_, ?_, ?_, rfl, hta, ?_, ?_, ?_, ?_, ?_, ?_⟩
  · unfold newDevS; rw [if_pos (by simp [inB]; omega)]; rfl
  · rw [hwo]
  · rw [read_write (ht k hk) (by omega) (by omega) hp]; rw [if_pos rfl]
  · exact read_lose hta k
  · rw [turnS_ok hta hpl hb]
  · intro h0
    have h := read_turn hta hpl ⟨by omega, hb.2⟩ (k : Int) (k : Int) p (by omega) (by omega) hp (by
      rw [hwo]; exact getD_set_self _ _ _ _ (by rw [hln]; exact hk)) (by
      rw [hwo]; exact getD_set_self _ _ _ _ (by rw [(touch_zero (ht k hk)).1 |> fun h => ((devMay_iff.1 h).2.2.1), hln]; exact hk))
    rw [h]
  · rw [writeS_ok htb (by omega) (by omega) hp]
  · rw [read_write htb (by omega) (by omega) hp]; rw [if_pos rfl]
  · intro o ho hne
    rw [read_turn_other hta hpl hb o o (by omega) (by omega), read_write_other (ht k hk) (by omega) (by omega) hp o o (by omega) (by omega), read_eq _ (ht o ho), show ((o : Int)).toNat = o from rfl, fresh_lost, if_neg (by decide), fresh_sec n 0 o ho, Int.zero_add, decode_encode _ _ _ (by omega) (by omega) (by decide), if_pos rfl]
    rfl
end Go.Proofs.YtokpjgpdkmimgaaDoor
