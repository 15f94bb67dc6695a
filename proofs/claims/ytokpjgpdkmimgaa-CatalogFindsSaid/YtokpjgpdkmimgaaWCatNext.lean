/-
  catalog.Next and the document's NextOf: the next free sector; the law CatalogNexts. Conditions: the argument reads as a catalog.
-/
import Derived.Test.YtokpjgpdkmimgaaWCatCheck
namespace Go.Proofs.Ytokpjgpdkmimgaa
set_option linter.unusedSimpArgs false
set_option linter.unusedVariables false
open Go.RowKit

theorem next_good {c : Cat} (h : catFault c = 0) : nextS c = (nextAt 8 c.blocks, 0) := by unfold nextS; rw [if_pos h]
theorem next_bad {c : Cat} (h : ¬ catFault c = 0) : nextS c = (0, catFault c) := by unfold nextS; rw [if_neg h]
theorem block_ok {p : Int} {b : Blk} {l : List Blk} (h : blocksF p (b :: l) = 0) : 0 ≤ b.bytes ∧ b.bytes ≤ 1200 ∧ p + secs b.bytes ≤ 64 ∧ blocksF (p + secs b.bytes) l = 0 := by
  cases hb : blockBad p b with
  | true => rw [blocks_stop hb] at h; exact absurd h (by decide)
  | false =>
    rw [blocks_go hb] at h
    unfold blockBad at hb
    simp only [Bool.or_eq_false_iff, Bool.not_eq_false', decide_eq_false_iff_not] at hb
    have := inB_true hb.1.2
    exact ⟨this.1, this.2, by omega, h⟩

end Go.Proofs.Ytokpjgpdkmimgaa
