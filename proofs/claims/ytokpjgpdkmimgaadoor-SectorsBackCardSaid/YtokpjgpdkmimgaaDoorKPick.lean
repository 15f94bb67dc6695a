/-
  A number from 0 to many - 1, out of any number. Conditions: many is more than 0.
-/
import Derived.Test.YtokpjgpdkmimgaaDoorL
import Derived.Test.YtokpjgpdkmimgaaDoorK
namespace Go.Proofs.YtokpjgpdkmimgaaDoor
set_option linter.unusedSimpArgs false
set_option linter.unusedVariables false
open Go.RowKit

def pick (n many : Int) : Int := (if n < 0 then -(n + 1) else n) % many
theorem pick_range (n many : Int) (h : 0 < many) : 0 ≤ pick n many ∧ pick n many < many := ⟨Int.emod_nonneg _ (by omega), Int.emod_lt_of_pos _ h⟩
set_option maxRecDepth 100000 in
theorem picked_any (n many : Int) (w : World) (hn : I64 n) (h0 : 0 < many) (h1 : many ≤ 140737488355328) :
    Calls Tryd.prog 16 #[.int .i64 n, .int .i64 many] w fun e w' => e = .returned (.int .i64 (pick n many)) ∧ w' = w := by
  have hne : (many == 0) = false := beq_false_of_ne (by omega)
  have hne2 : ¬ many = 0 := by omega
  have hnm : ¬ many = -1 := by omega
  have hr := pick_range n many h0
  unfold I64 at hn
  by_cases h : n < 0
  · have hp : pick n many = (-(n + 1)) % many := by unfold pick; rw [if_pos h]
    have t1 : decide (n < 0) = true := decide_eq_true h
    obtain ⟨m, hm⟩ : ∃ m, m = -(n + 1) := ⟨_, rfl⟩
    have y1 : IntKind.i64.wrap (n + 1) = -m := by rw [IntKind.wrap_i64]; omega
    have y2 : IntKind.i64.wrap (- -m) = m := by rw [IntKind.wrap_i64]; omega
    have y2' : IntKind.i64.wrap m = m := by rw [IntKind.wrap_i64]; omega
    have hm0 : 0 ≤ m := by omega
    have y3 : IntKind.i64.wrap (m % many) = m % many := by rw [IntKind.wrap_i64]; rw [hp, ← hm] at hr; omega
    have y4 : Int.tmod m many = m % many := Int.tmod_eq_emod_of_nonneg hm0
    rw [hp, ← hm]
    rw [hp, ← hm] at hr
    have y5 : n + 1 = -m := by omega
    have hb1 : m ≤ 9223372036854775807 := by omega
    have hb2 : -9223372036854775808 ≤ n + 1 := by omega
    have hb3 : n + 1 ≤ 9223372036854775807 := by omega
    clear hm hp h
    go_enter Tryd.func16, Tryd.ntmps16
    go_wp2_with fail
    go_ret
    exact ⟨by first | rfl | (rw [y4, y3]) | (congr 3; omega), rfl⟩
  · have hp : pick n many = n % many := by unfold pick; rw [if_neg h]
    have t1 : decide (n < 0) = false := decide_eq_false h
    have hn0 : 0 ≤ n := by omega
    have y3 : IntKind.i64.wrap (n % many) = n % many := by rw [IntKind.wrap_i64]; rw [hp] at hr; omega
    have y4 : Int.tmod n many = n % many := Int.tmod_eq_emod_of_nonneg hn0
    rw [hp]
    rw [hp] at hr
    go_enter Tryd.func16, Tryd.ntmps16
    go_wp2_with fail
    go_ret
    exact ⟨by first | rfl | (rw [y4, y3]), rfl⟩
end Go.Proofs.YtokpjgpdkmimgaaDoor
