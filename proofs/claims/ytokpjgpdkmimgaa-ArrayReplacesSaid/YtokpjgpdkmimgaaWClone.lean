/-
  slices.Clone at the program's types: a copy in new memory of the call's own. Conditions: the slice reads as a list.
-/
import Derived.Test.YtokpjgpdkmimgaaRows
import Derived.Test.YtokpjgpdkmimgaaM
namespace Go.Proofs.Ytokpjgpdkmimgaa
open Go.RowKit

theorem info_str : (Try.prog.info? 9).map (fun i => (i.zero, i.size, i.bytes)) = some (some (.string .empty), 1, 16) := by kernel_rfl
set_option maxRecDepth 100000 in
set_option maxHeartbeats 400000 in
theorem clone_str (v : Value) (w : World) (l : List ByteArray) (h : SlR 1 16 RStr w v l) :
    Calls Try.prog 70 #[v] w fun e w' => ∃ A' c', e = .returned (.slice A' l.length c') ∧ Ext w w' ∧ w'.ownsRow w.heap.size 9 1 (.slice A' l.length c') l.length (l.flatMap encStr) := by
  obtain ⟨A, cap, rfl, hb, hc, hl⟩ := h.cells encStr_ok (by decide)
  clear h
  obtain ⟨i0, hi, hz0, hz1, hz2⟩ := info_parts info_str
  cases A with
  | none =>
    have hl0 : l = [] := by rcases hl with h | ⟨b, o, h, _⟩; exact h; cases h
    subst hl0
    clear hl hi hz0 hz1 hz2
    go_enter Try.func70, Try.ntmps70
    go_wp2
    go_ret
    exact ⟨none, 0, rfl, Ext.refl _, World.ownsRow_nil _ _ _ _⟩
  | some a =>
    have hcells : ∀ (j : Nat) (u : Value), (l.flatMap encStr)[j]? = some u → w.cell? (a.add j) = some u := by
      rcases hl with h | ⟨b, o, h, hc, _⟩
      · subst h; intro j u hu; simp at hu
      · cases h; exact hc
    have HI := Lib.hid hi
    have H0 := Lib.hid hz0
    have H1 := Lib.hid hz1
    have H2 := Lib.hid hz2
    have HC := Lib.hid hcells
    clear hl hi hz0 hz1 hz2 hcells
    go_enter Try.func70, Try.ntmps70
    go_wp2_with (at_builtin; refine wpList_append_own _ rfl _ _ 51 rfl w.heap.size 9 i0 (.string .empty) 1 16 Try.underlying51 HI.out H0.out H1.out H2.out rfl (by decide) _ _ _ rfl (World.ownsRow_made w #[] 0 (Nat.le_refl _) (by decide) rfl) a l.length cap (l.flatMap encStr) rfl ?c1 ?c2 ?c3 ?c4 ?c5 ?c6 ?_)
    case c1 => exact length_flatMap encStr_ok.len l
    case c2 => exact fun j u hu => (Ext.alloc (Ext.refl w) _).cell (HC.out j u hu)
    case c3 => exact fun u hu => by obtain ⟨x, _, hx⟩ := List.mem_flatMap.1 hu; exact encStr_ok.one x u hx
    case c4 => unfold maxLen; omega
    case c5 => omega
    case c6 => simp
    intro v' w' hown hg _
    have HO := Lib.hid hown
    have HG := Lib.hid hg
    clear hown hg
    go_wp2
    go_ret
    obtain ⟨A', c', hv⟩ := own_slice HO.out
    refine ⟨A', c', ret_eq hv, ((Ext.refl w).alloc _).grown HG.out (fun k hk => ?_), ?_⟩
    · simp [Value.ownBlock] at hk; omega
    · rw [← hv]; exact HO.out

theorem info_bool : (Try.prog.info? 4).map (fun i => (i.zero, i.size, i.bytes)) = some (some (.bool false), 1, 1) := by kernel_rfl
set_option maxRecDepth 100000 in
set_option maxHeartbeats 400000 in
theorem clone_bool (v : Value) (w : World) (l : List Bool) (h : SlR 1 1 RBool w v l) :
    Calls Try.prog 71 #[v] w fun e w' => ∃ A' c', e = .returned (.slice A' l.length c') ∧ Ext w w' ∧ w'.ownsRow w.heap.size 4 1 (.slice A' l.length c') l.length (l.flatMap encBool) := by
  obtain ⟨A, cap, rfl, hb, hc, hl⟩ := h.cells encBool_ok (by decide)
  clear h
  obtain ⟨i0, hi, hz0, hz1, hz2⟩ := info_parts info_bool
  cases A with
  | none =>
    have hl0 : l = [] := by rcases hl with h | ⟨b, o, h, _⟩; exact h; cases h
    subst hl0
    clear hl hi hz0 hz1 hz2
    go_enter Try.func71, Try.ntmps71
    go_wp2
    go_ret
    exact ⟨none, 0, rfl, Ext.refl _, World.ownsRow_nil _ _ _ _⟩
  | some a =>
    have hcells : ∀ (j : Nat) (u : Value), (l.flatMap encBool)[j]? = some u → w.cell? (a.add j) = some u := by
      rcases hl with h | ⟨b, o, h, hc, _⟩
      · subst h; intro j u hu; simp at hu
      · cases h; exact hc
    have HI := Lib.hid hi
    have H0 := Lib.hid hz0
    have H1 := Lib.hid hz1
    have H2 := Lib.hid hz2
    have HC := Lib.hid hcells
    clear hl hi hz0 hz1 hz2 hcells
    go_enter Try.func71, Try.ntmps71
    go_wp2_with (at_builtin; refine wpList_append_own _ rfl _ _ 52 rfl w.heap.size 4 i0 (.bool false) 1 1 Try.underlying52 HI.out H0.out H1.out H2.out rfl (by decide) _ _ _ rfl (World.ownsRow_made w #[] 0 (Nat.le_refl _) (by decide) rfl) a l.length cap (l.flatMap encBool) rfl ?c1 ?c2 ?c3 ?c4 ?c5 ?c6 ?_)
    case c1 => exact length_flatMap encBool_ok.len l
    case c2 => exact fun j u hu => (Ext.alloc (Ext.refl w) _).cell (HC.out j u hu)
    case c3 => exact fun u hu => by obtain ⟨x, _, hx⟩ := List.mem_flatMap.1 hu; exact encBool_ok.one x u hx
    case c4 => unfold maxLen; omega
    case c5 => omega
    case c6 => simp
    intro v' w' hown hg _
    have HO := Lib.hid hown
    have HG := Lib.hid hg
    clear hown hg
    go_wp2
    go_ret
    obtain ⟨A', c', hv⟩ := own_slice HO.out
    refine ⟨A', c', ret_eq hv, ((Ext.refl w).alloc _).grown HG.out (fun k hk => ?_), ?_⟩
    · simp [Value.ownBlock] at hk; omega
    · rw [← hv]; exact HO.out

theorem info_blk : (Try.prog.info? 69).map (fun i => (i.zero, i.size, i.bytes)) = some (some (.agg #[.int .i64 0, .int .i64 0]), 2, 16) := by kernel_rfl
theorem info_ent : (Try.prog.info? 38).map (fun i => (i.zero, i.size, i.bytes)) = some (some (.agg #[.string .empty, .int .i64 0, .int .i64 0, .int .i64 0]), 4, 40) := by kernel_rfl
end Go.Proofs.Ytokpjgpdkmimgaa
