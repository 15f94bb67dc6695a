/-
  strings.Compare in this seat: the library's contract, laid. Conditions: none.
-/
import Derived.Shelf.Small.Strs
import Derived.Test.YtokpjgpdkmimgaaProg
namespace Go.Proofs.Ytokpjgpdkmimgaa
open Go.Shelf
def Try.laysC_ren : Go.Shelf.Ren := ⟨fun | 106 => 42 | 213 => 63 | 265 => 75 | n => n, fun | 3 => 3 | 9 => 9 | n => n, fun | n => n⟩
theorem Try.laysC106 : Go.Proofs.Lays.n106 Try.prog Try.laysC_ren := {
  mixed := by kernel_rfl
  f106 := Try.func42.trans (congrArg some (by kernel_rfl))
  f213 := Try.func63.trans (congrArg some (by kernel_rfl))
  f265 := Try.func75.trans (congrArg some (by kernel_rfl))
  t3 := Try.underlying3
  a3 := Try.isAgg3
  z3 := Try.sizeOf3
  v3 := Try.zeroValue3
  t9 := Try.underlying9
  a9 := Try.isAgg9
  z9 := Try.sizeOf9
  v9 := Try.zeroValue9 }
open Go.RowKit Go.Lib
theorem compare_any (a b : ByteArray) (w : World) :
    Calls Try.prog 42 #[.string a, .string b] w fun e w' => e = .returned (.int .i64 (Lib.compareBytes a.data.toList b.data.toList)) ∧ w' = w := Any.strings_Compare Try.laysC106 a b w
end Go.Proofs.Ytokpjgpdkmimgaa
