/-
  The law ArrayWrites: the program's writing and the document's answer the same, and the argument stays. Conditions: the argument reads as an array.
-/
import Derived.Test.YtokpjgpdkmimgaaWArrWrite
namespace Go.Proofs.Ytokpjgpdkmimgaa
set_option linter.unusedSimpArgs false
set_option linter.unusedVariables false
open Go.RowKit

theorem RArr.bound {w : World} {cs : List Value} {a : List Dev} (h : RArr w cs a) : a.length * 48 ≤ 140737488355328 := by
  obtain ⟨v, rfl, h1⟩ := h
  exact h1.len
theorem aw_len {a : List Dev} {n : Int} {s : ByteArray} : (arrWriteS a n s).1.length * 48 ≤ 140737488355328 := by
  unfold arrWriteS
  split
  · simp
  · split
    · simp
    · rename_i h _
      have h3 := (arr_parts (arrTouch_zero.1 (by simpa using h)).1).1
      rw [show (arrWrite3 a n s, (0 : Int)).1 = arrWrite3 a n s from rfl, write3_len h3]
      decide

end Go.Proofs.Ytokpjgpdkmimgaa
