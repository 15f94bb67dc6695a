/-
  The walks of sum.Of and of the document's seal: both hand back the four bytes of the seal; the world only grows. Conditions: the string is no longer than a string may be.
-/
import Derived.Test.YtokpjgpdkmimgaaRows
import Derived.Test.YtokpjgpdkmimgaaPSeal
namespace Go.Proofs.Ytokpjgpdkmimgaa
set_option linter.unusedSimpArgs false
set_option linter.unusedVariables false
open Go.RowKit

set_option maxRecDepth 100000 in
set_option maxHeartbeats 400000 in
theorem sumOf_any (s : ByteArray) (w : World) (hs : s.size ≤ 140737488355328) :
    Calls Try.prog 11 #[.string s] w fun e w' => e = .returned (.string (bs (sealOf (lst s)))) ∧ Ext w w' := by

  go_enter Try.func11, Try.ntmps11
  go_wp2
  go_loop [3, 4, 8] (fun x y i => ∃ k : Nat, k ≤ s.size ∧ i = .int .i64 k ∧ x = .int .i64 (sealXY ((lst s).take k)).1 ∧ y = .int .i64 (sealXY ((lst s).take k)).2) (fun _ _ i => s.size - (intOf i).toNat)
  case atStart => exact ⟨0, Nat.zero_le _, rfl, rfl, rfl⟩
  case round =>
    obtain ⟨k, hk, rfl, rfl, rfl⟩ := hrel
    obtain ⟨h1, h2, h3, h4⟩ := sealXY_range ((lst s).take k)
    by_cases hlt : k < s.size
    · have hb := u8_hi s[k]
      have hst : sealXY ((lst s).take (k+1)) = sealStep (sealXY ((lst s).take k)) s[k] := by rw [take_snoc s k hlt, sealXY_snoc]
      have HT := Lib.hid hst
      clear hst
      generalize (sealXY ((lst s).take k)) = p at *
      go_wp2
      go_round
      case rel => exact ⟨k + 1, by omega, by go_num, by rw [HT.out]; rfl, by rw [HT.out]; rfl⟩
      case measure => simp [intOf]; omega
    · have hfin : sealXY ((lst s).take k) = sealXY (lst s) := by rw [take_ge s k (by omega)]
      have HF := Lib.hid hfin
      clear hfin
      generalize (sealXY ((lst s).take k)) = p at *
      go_wp2
      go_ret
      exact ⟨ret_str (by unfold sealOf; rw [← HF.out]; rfl), (Ext.refl _).alloc _⟩

set_option maxRecDepth 100000 in
set_option maxHeartbeats 400000 in
theorem sealOf_any (s : ByteArray) (w : World) (hs : s.size ≤ 140737488355328) :
    Calls Try.prog 83 #[.string s] w fun e w' => e = .returned (.string (bs (sealOf (lst s)))) ∧ Ext w w' := by

  go_enter Try.func83, Try.ntmps83
  go_wp2
  go_loop [3, 4, 5] (fun x y i => ∃ k : Nat, k ≤ s.size ∧ i = .int .i64 k ∧ x = .int .i64 (sealXY ((lst s).take k)).1 ∧ y = .int .i64 (sealXY ((lst s).take k)).2) (fun _ _ i => s.size - (intOf i).toNat)
  case atStart => exact ⟨0, Nat.zero_le _, rfl, rfl, rfl⟩
  case round =>
    obtain ⟨k, hk, rfl, rfl, rfl⟩ := hrel
    obtain ⟨h1, h2, h3, h4⟩ := sealXY_range ((lst s).take k)
    by_cases hlt : k < s.size
    · have hb := u8_hi s[k]
      have hst : sealXY ((lst s).take (k+1)) = sealStep (sealXY ((lst s).take k)) s[k] := by rw [take_snoc s k hlt, sealXY_snoc]
      have HT := Lib.hid hst
      clear hst
      generalize (sealXY ((lst s).take k)) = p at *
      go_wp2
      go_round
      case rel => exact ⟨k + 1, by omega, by go_num, by rw [HT.out]; rfl, by rw [HT.out]; unfold sealStep; dsimp only; go_num⟩
      case measure => simp [intOf]; omega
    · have hfin : sealXY ((lst s).take k) = sealXY (lst s) := by rw [take_ge s k (by omega)]
      have HF := Lib.hid hfin
      clear hfin
      generalize (sealXY ((lst s).take k)) = p at *
      go_wp2
      go_ret
      exact ⟨ret_str (by unfold sealOf; rw [← HF.out]; rfl), (Ext.refl _).alloc _⟩

end Go.Proofs.Ytokpjgpdkmimgaa
