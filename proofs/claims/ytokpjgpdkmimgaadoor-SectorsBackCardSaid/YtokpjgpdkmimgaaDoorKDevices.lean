/-
  A device keeps what was written, till it is lost or turned: the law DevicesKeep. Conditions: none.
-/
import Derived.Test.YtokpjgpdkmimgaaDoorKPick
import Derived.Test.YtokpjgpdkmimgaaDoorPKeepDev
import Derived.Test.YtokpjgpdkmimgaaDoorWDevNew
import Derived.Test.YtokpjgpdkmimgaaDoorWDevWrite
import Derived.Test.YtokpjgpdkmimgaaDoorWDevTurn
import Derived.Test.YtokpjgpdkmimgaaDoorWEncode
import Derived.Test.YtokpjgpdkmimgaaDoorR2
namespace Go.Proofs.YtokpjgpdkmimgaaDoor
set_option linter.unusedSimpArgs false
set_option linter.unusedVariables false
open Go.RowKit

theorem take_padS {p : ByteArray} (h : p.size ≤ 24) : (padS p).extract 0 p.size = p := by
  have h1 : lst ((padS p).extract 0 p.size) = lst p := by
    rw [lst_extract]
    unfold sub_ padS
    rw [lst_bs, List.drop_zero, List.take_left' (by rw [length_lst])]
  have h2 := congrArg bs h1
  rwa [bs_lst, bs_lst] at h2
set_option maxRecDepth 100000 in
theorem hasPrefix_any (s p : ByteArray) (w : World) (h : s.extract 0 p.size = p) (hl : p.size ≤ s.size) (hs : s.size ≤ 140737488355328) :
    Calls Tryd.prog 19 #[.string s, .string p] w fun e w' => e = .returned (.bool true) ∧ w' = w := by
  have hlI : (p.size : Int) ≤ (s.size : Int) := by omega
  have h0 : (0 : Int) ≤ (p.size : Int) := by omega
  have HH := Lib.hid h
  obtain ⟨q, hq⟩ : ∃ q, q = s.extract 0 p.size := ⟨_, rfl⟩
  have hE : (q.toList == p.toList) = true := by rw [hq, h]; exact beq_self_eq_true _
  go_enter Tryd.func19, Tryd.ntmps19
  go_wp2_with fail
  go_enter Tryd.func52, Tryd.ntmps52
  clear h hq
  have hE2 : ((s.extract 0 p.size).toList == p.toList) = true := by rw [HH.out]; exact beq_self_eq_true _
  go_wp2_with fail
  go_ret
  exact ⟨rfl, rfl⟩
end Go.Proofs.YtokpjgpdkmimgaaDoor
