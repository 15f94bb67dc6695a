/-
  The seal of bytes, in plain Lean: two running numbers, each what 65521 leaves, and their four bytes. Conditions: none.
-/
import Derived.Test.YtokpjgpdkmimgaaK
namespace Go.Proofs.Ytokpjgpdkmimgaa
set_option linter.unusedSimpArgs false
set_option linter.unusedVariables false
open Go.RowKit

def sealStep (p : Int × Int) (c : UInt8) : Int × Int := ((p.1 + c.toNat) % 65521, (p.2 + (p.1 + c.toNat) % 65521) % 65521)
def sealXY (l : List UInt8) : Int × Int := l.foldl sealStep (1, 0)
def sealBytes (p : Int × Int) : List UInt8 := [byte (p.2 / 256), byte (p.2 % 256), byte (p.1 / 256), byte (p.1 % 256)]
def sealOf (l : List UInt8) : List UInt8 := sealBytes (sealXY l)
def InRange (p : Int × Int) : Prop := 0 ≤ p.1 ∧ p.1 < 65521 ∧ 0 ≤ p.2 ∧ p.2 < 65521
theorem sealStep_range (p : Int × Int) (c : UInt8) : InRange (sealStep p c) := by
  unfold InRange sealStep; dsimp only; omega
theorem sealXY_snoc (l : List UInt8) (c : UInt8) : sealXY (l ++ [c]) = sealStep (sealXY l) c := by simp [sealXY]
theorem foldl_range (l : List UInt8) : ∀ p, InRange p → InRange (l.foldl sealStep p) := by
  induction l with
  | nil => exact fun p h => h
  | cons c l ih => exact fun p _ => ih _ (sealStep_range p c)
theorem sealXY_range (l : List UInt8) : InRange (sealXY l) := foldl_range l _ (by unfold InRange; decide)
theorem length_sealOf (l : List UInt8) : (sealOf l).length = 4 := rfl
end Go.Proofs.Ytokpjgpdkmimgaa
