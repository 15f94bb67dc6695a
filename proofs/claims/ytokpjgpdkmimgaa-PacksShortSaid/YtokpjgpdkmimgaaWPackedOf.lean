/-
  The document's PackedOf: a text, with what stands there already made short. Conditions: none.
-/
import Derived.Test.YtokpjgpdkmimgaaWPacked
namespace Go.Proofs.Ytokpjgpdkmimgaa
set_option linter.unusedSimpArgs false
set_option linter.unusedVariables false
open Go.RowKit

theorem pack_plain {s : ByteArray} {o : List UInt8} {f i : Nat} (h : i < s.size) (h2 : (pieceF s i 1 0 0).1 < 4) : packF s o f i = packF s o f (i + 1) := by
  rw [packF, dif_pos h, dif_pos h2]
theorem pack_piece {s : ByteArray} {o : List UInt8} {f i n d : Nat} (h : i < s.size) (hp : pieceF s i 1 0 0 = (n, d)) (h2 : ¬ n < 4) : packF s o f i = packF s (o ++ plainF (sub_ s f i) ++ [UInt8.ofNat (124 + n), UInt8.ofNat d]) (i + n) (i + n) := by
  rw [packF, dif_pos h, hp, dif_neg h2]
theorem pack_stop {s : ByteArray} {o : List UInt8} {f i : Nat} (h : ¬ i < s.size) : packF s o f i = o ++ plainF (sub_ s f s.size) := by
  rw [packF, dif_neg h]
theorem bs_app (a b : List UInt8) : bs a ++ bs b = bs (a ++ b) := by apply lst_inj; rw [lst_append, lst_bs, lst_bs, lst_bs]
theorem plain_len2 (l : List UInt8) : (plainF l).length ≤ 2 * l.length := by rw [plain_len]; omega
theorem byte_124 (n : Nat) : byte (124 + (n : Int)) = UInt8.ofNat (124 + n) := by unfold byte; congr 1
theorem byte_cast (n : Nat) : byte (n : Int) = UInt8.ofNat n := by unfold byte; congr 1
end Go.Proofs.Ytokpjgpdkmimgaa
