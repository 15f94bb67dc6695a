/-
  The comparisons of the laws answer true where both sides read as the same data. Conditions: both read so.
-/
import Derived.Test.YtokpjgpdkmimgaaRows
import Derived.Test.YtokpjgpdkmimgaaM
namespace Go.Proofs.Ytokpjgpdkmimgaa
set_option linter.unusedSimpArgs false
set_option linter.unusedVariables false
open Go.RowKit
theorem RStr.val {w : World} {u : Value} {s : ByteArray} (h : RStr w [u] s) : u = .string s := by have := h.1; simpa using this
theorem RBool.val {w : World} {u : Value} {s : Bool} (h : RBool w [u] s) : u = .bool s := by have : [u] = _ := h; simpa using this
theorem RInt.val {w : World} {u : Value} {s : Int} (h : RInt w [u] s) : u = .int .i64 s := by have := h.1; simpa using this

set_option maxRecDepth 100000 in
set_option maxHeartbeats 1000000 in
theorem sameDevice_true (cs1 cs2 : List Value) (d : Dev) (w : World) (h1 : RDev w cs1 d) (h2 : RDev w cs2 d) :
    Calls Try.prog 52 #[.agg cs1.toArray, .agg cs2.toArray] w fun e w' => e = .returned (.bool true) ∧ Ext w w' := by
  obtain ⟨v1, v2, rfl, h1, h2'⟩ := h1
  obtain ⟨v3, v4, rfl, h3, h4⟩ := h2
  obtain ⟨A1, c1, rfl, l1, hc1, p1⟩ := h1.row
  obtain ⟨A2, c2, rfl, l2, hc2, s1⟩ := h2'.row
  obtain ⟨A3, c3, rfl, l3, hc3, p2⟩ := h3.row
  obtain ⟨A4, c4, rfl, l4, hc4, s2⟩ := h4.row
  clear h1 h2' h3 h4
  go_enter Try.func52, Try.ntmps52
  go_wp2
  refine wp_abs (fun W => Ext w W ∧ Blk_ W w.heap.size 54 #[.slice A1 d.sec.length c1, .slice A2 d.lost.length c2] ∧ Blk_ W (w.heap.size + 1) 54 #[.slice A3 d.sec.length c3, .slice A4 d.lost.length c4]) ⟨((Ext.refl _).alloc _).alloc _, (Blk_.new _ _ _).alloc _, Blk_.new1 _ _ _ _⟩ ?_
  rintro W ⟨hx, hb1, hb2⟩
  go_loopw [5] (fun i wr => ∃ k : Nat, i = .int .i64 k ∧ k ≤ d.sec.length ∧ Ext w wr ∧ Blk_ wr w.heap.size 54 #[.slice A1 d.sec.length c1, .slice A2 d.lost.length c2] ∧ Blk_ wr (w.heap.size + 1) 54 #[.slice A3 d.sec.length c3, .slice A4 d.lost.length c4]) (fun i _ => d.sec.length - (intOf i).toNat)
  case atStart => exact ⟨0, rfl, Nat.zero_le _, hx, hb1, hb2⟩
  case round =>
    clear hx hb1 hb2
    obtain ⟨k, rfl, hk, hx, hb1, hb2⟩ := hrel
    have f0 := hb1.cell 0
    have f1 := hb1.cell 1
    have f2 := hb2.cell 0
    have f3 := hb2.cell 1
    simp at f0 f1 f2 f3
    by_cases hlt : k < d.sec.length
    · obtain ⟨b1, o1, rfl, g1⟩ := p1 k hlt
      obtain ⟨b2, o2, rfl, g2⟩ := p2 k hlt
      obtain ⟨u1, q1, t1⟩ := g1 k hlt
      obtain ⟨u2, q2, t2⟩ := g2 k hlt
      obtain rfl := t1.val
      obtain rfl := t2.val
      have q1' := hx.cell q1
      have q2' := hx.cell q2
      clear q1 q2 g1 g2 t1 t2
      have HP1 := Lib.hid p1
      have HP2 := Lib.hid p2
      have HS1 := Lib.hid s1
      have HS2 := Lib.hid s2
      clear p1 p2 s1 s2
      go_wp2
      go_quiet (fail)
      go_wp2
      go_roundw
      case rel => exact ⟨k + 1, by go_num, by omega, hx.drewN _, hb1, hb2⟩
      case measure => simp [intOf]; omega
    · go_wp2
      go_loopw [6] (fun i wr => ∃ k : Nat, i = .int .i64 k ∧ k ≤ d.lost.length ∧ Ext w wr ∧ Blk_ wr w.heap.size 54 #[.slice A1 d.sec.length c1, .slice A2 d.lost.length c2] ∧ Blk_ wr (w.heap.size + 1) 54 #[.slice A3 d.sec.length c3, .slice A4 d.lost.length c4]) (fun i _ => d.lost.length - (intOf i).toNat)
      case atStart => exact ⟨0, rfl, Nat.zero_le _, hx, hb1, hb2⟩
      case round =>
        clear hx hb1 hb2 f0 f1 f2 f3
        obtain ⟨k, rfl, hk, hx, hb1, hb2⟩ := hrel
        have f0 := hb1.cell 0
        have f1 := hb1.cell 1
        have f2 := hb2.cell 0
        have f3 := hb2.cell 1
        simp at f0 f1 f2 f3
        by_cases hlt : k < d.lost.length
        · obtain ⟨b1, o1, rfl, g1⟩ := s1 k hlt
          obtain ⟨b2, o2, rfl, g2⟩ := s2 k hlt
          obtain ⟨u1, q1, t1⟩ := g1 k hlt
          obtain ⟨u2, q2, t2⟩ := g2 k hlt
          obtain rfl := t1.val
          obtain rfl := t2.val
          have q1' := hx.cell q1
          have q2' := hx.cell q2
          clear q1 q2 g1 g2 t1 t2
          have HP1 := Lib.hid p1
          have HP2 := Lib.hid p2
          have HS1 := Lib.hid s1
          have HS2 := Lib.hid s2
          clear p1 p2 s1 s2
          go_wp2
          go_quiet (fail)
          go_wp2
          go_roundw
          case rel => exact ⟨k + 1, by go_num, by omega, hx.drewN _, hb1, hb2⟩
          case measure => simp [intOf]; omega
        · go_wp2
          go_ret
          exact ⟨rfl, hx⟩

end Go.Proofs.Ytokpjgpdkmimgaa
