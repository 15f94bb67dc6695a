/-
  The walk of the law Names: two loops over written-out tables. Conditions: none.
-/
import Derived.Test.YtdogkekeccbpnaaRows
import Derived.Test.YtdogkekeccbpnaaD
import Derived.Deep.QuietTactic
import Derived.BigQuiet
namespace Go.Proofs.Ytdogkekeccbpnaa
open Go.RowKit
def limits : List Int := [24, 30, 64, 16, 512, 8, 8, 200, 600, 10, 10, 200, 3, 0, 1, 2, 1, 2, 3, 1, 2, 3, 4, 5, 6, 7, 8]
def numbers : List Int := [0, 1, 2, 3, 4, 5, 6, 7, 8, 9, 10, 11, 12]
theorem limits_at (k : Nat) (h : k < 27) : (limits.map (Value.int .i64)).toArray[k]? = some (.int .i64 (limits.getD k 0)) := by
  have h2 : k < limits.length := h
  rw [List.getElem?_toArray, List.getElem?_map, List.getElem?_eq_getElem h2, List.getD_eq_getElem?_getD, List.getElem?_eq_getElem h2]
  rfl
theorem numbers_at (k : Nat) (h : k < 13) : (numbers.map (Value.int .i64)).toArray[k]? = some (.int .i64 k) := by
  have : ∀ k : Fin 13, numbers.getD k.1 0 = (k.1 : Int) := by decide
  have h2 := this ⟨k, h⟩
  have h3 : k < numbers.length := h
  rw [← h2, List.getElem?_toArray, List.getElem?_map, List.getElem?_eq_getElem h3, List.getD_eq_getElem?_getD, List.getElem?_eq_getElem h3]
  rfl
def Tabs (w W : World) : Prop := Ext w W ∧ ∀ k, k < 27 → W.cell? ⟨w.heap.size + 1, k, none⟩ = some (.int .i64 (limits.getD k 0)) ∧ W.cell? ⟨w.heap.size + 1 + 1, k, none⟩ = some (.int .i64 (limits.getD k 0))
set_option maxRecDepth 100000 in
set_option maxHeartbeats 400000 in
theorem lawNames_any (w : World) :
    Calls Try.prog 3 #[] w fun e w' => e = .returned (.bool true) ∧ Ext w w' := by
  go_enter Try.func3, Try.ntmps3
  go_wp2
  refine wp_abs (fun W => Ext w W ∧ W.heap.size = w.heap.size + 1 ∧ ∀ k, k < 13 → W.cell? ⟨w.heap.size, k, none⟩ = some (.int .i64 k)) ⟨(Ext.refl _).alloc _, by simp, fun k hk => by rw [World.cell?_alloc_new]; exact numbers_at k hk⟩ ?_
  rintro W ⟨hx, hsz, hc⟩
  have HS := Lib.hid hsz
  have HC := Lib.hid hc
  clear hsz hc
  go_loop [2] (fun i => ∃ k : Nat, i = .int .i64 k ∧ k ≤ 13) (fun i => 13 - (intOf i).toNat)
  case atStart => exact ⟨0, rfl, by omega⟩
  case round =>
    obtain ⟨k, rfl, hk⟩ := hrel
    by_cases hlt : k < 13
    · have hck := HC.out k hlt
      go_wp2
      go_round
      case rel => exact ⟨k + 1, by go_num, by omega⟩
      case measure => simp [intOf]; omega
    · go_wp2
      refine wp_abs (Tabs w) ⟨(hx.alloc _).alloc _, fun k hk => ?_⟩ ?_
      · constructor
        · rw [World.cell?_alloc_lt _ _ _ (by simp [HS.out]), ← HS.out, World.cell?_alloc_new]
          exact limits_at k hk
        · have hn := World.cell?_alloc_new (W.alloc (.cells (limits.map (Value.int .i64)).toArray 3)) ((limits.map (Value.int .i64)).toArray) 3 k
          rw [World.size_alloc, HS.out] at hn
          exact hn.trans (limits_at k hk)
      · intro W1 hW1
        rw [HS.out]
        go_loopw [5] (fun i wr => ∃ k : Nat, i = .int .i64 k ∧ k ≤ 27 ∧ Tabs w wr) (fun i _ => 27 - (intOf i).toNat)
        case atStart => exact ⟨0, rfl, by omega, hW1⟩
        case round =>
          obtain ⟨k, rfl, hk, hT⟩ := hrel
          by_cases hlt : k < 27
          · obtain ⟨c1, c2⟩ := hT.2 k hlt
            have HT := Lib.hid hT
            clear hT
            go_wp2
            go_quiet (fail)
            go_wp2
            go_roundw
            case rel => exact ⟨k + 1, by go_num, by omega, HT.out.1.drewN _, HT.out.2⟩
            case measure => simp [intOf]; omega
          · go_wp2
            go_ret
            exact ⟨rfl, hT.1⟩
end Go.Proofs.Ytdogkekeccbpnaa
