/-
  catalog.Next and the document's NextOf: the next free sector; the law CatalogNexts. Conditions: the argument reads as a catalog.
-/
import Derived.Test.YtdogkekeccbpnaaWCatCheck
namespace Go.Proofs.Ytdogkekeccbpnaa
set_option linter.unusedSimpArgs false
set_option linter.unusedVariables false
open Go.RowKit

theorem next_good {c : Cat} (h : catFault c = 0) : nextS c = (nextAt 8 c.blocks, 0) := by unfold nextS; rw [if_pos h]
theorem next_bad {c : Cat} (h : ¬ catFault c = 0) : nextS c = (0, catFault c) := by unfold nextS; rw [if_neg h]
theorem block_ok {p : Int} {b : Blk} {l : List Blk} (h : blocksF p (b :: l) = 0) : 0 ≤ b.bytes ∧ b.bytes ≤ 1200 ∧ p + secs b.bytes ≤ 64 ∧ blocksF (p + secs b.bytes) l = 0 := by
  cases hb : blockBad p b with
  | true => rw [blocks_stop hb] at h; exact absurd h (by decide)
  | false =>
    rw [blocks_go hb] at h
    unfold blockBad at hb
    simp only [Bool.or_eq_false_iff, Bool.not_eq_false', decide_eq_false_iff_not] at hb
    have := inB_true hb.1.2
    exact ⟨this.1, this.2, by omega, h⟩

set_option maxRecDepth 100000 in
set_option maxHeartbeats 4000000 in
theorem catNext_any (cs : List Value) (d : Cat) (w : World) (h : RCat w cs d) :
    Calls Try.prog 65 #[.agg cs.toArray] w fun e w' => e = .returned (.tuple #[.int .i64 (nextS d).1, .int .i64 (nextS d).2]) ∧ Ext w w' := by
  have h' := h
  obtain ⟨v1, v2, rfl, h1, h2'⟩ := h'
  obtain ⟨A1, c1, rfl, l1, hc1, p1⟩ := h1.rowE encBlk_ok
  have HP := Lib.hid p1
  have HH := Lib.hid h
  clear h1 h2' l1 hc1 p1 h
  go_enter Try.func65, Try.ntmps65
  go_wp2_with fail
  refine calls_abs (fun W => Ext w W ∧ Blk_ W w.heap.size 41 #[.slice A1 d.blocks.length c1, v2]) ⟨(Ext.refl _).alloc _, Blk_.new _ _ _⟩ ?_
  rintro W ⟨hx, hb⟩
  refine (catCheck_any [.slice A1 d.blocks.length c1, v2] d W (HH.out.up hx)).mono ?_
  rintro e w1 ⟨rfl, hx1⟩
  have hb1 := hb.ext hx1
  have hxw := hx.trans hx1
  have f0 := hb1.cell 0
  simp at f0
  clear hb hx hx1
  by_cases hc : catFault d = 0
  · have HF := Lib.hid (next_good hc)
    have hok := catFault_ok hc
    have HN := Lib.hid hok.1
    have HB0 := Lib.hid hok.2.2.1
    rw [hc]
    clear hc hok
    go_wp2_with fail
    go_loopw [5, 16] (fun pv i wr => ∃ (k : Nat) (p : Int), i = .int .i64 k ∧ pv = .int .i64 p ∧ k ≤ d.blocks.length ∧ 8 ≤ p ∧ p ≤ 64 ∧ Ext w wr ∧ Blk_ wr w.heap.size 41 #[.slice A1 d.blocks.length c1, v2] ∧ blocksF p (d.blocks.drop k) = 0 ∧ nextAt p (d.blocks.drop k) = nextAt 8 d.blocks) (fun _ i _ => d.blocks.length - (intOf i).toNat)
    case atStart => exact ⟨0, 8, rfl, rfl, Nat.zero_le _, by omega, by omega, hxw, hb1, HB0.out, rfl⟩
    case round =>
      clear hxw hb1 f0
      obtain ⟨k, p, rfl, rfl, hk, hp8, hp64, hx, hb, hz, heq⟩ := hrel
      have f0 := hb.cell 0
      simp at f0
      have HEQ := Lib.hid heq
      have HZ := Lib.hid hz
      clear heq hz
      by_cases hlt : k < d.blocks.length
      · obtain ⟨b1, o1, rfl, g1⟩ := HP.out k hlt
        have q0 := hx.cell (g1 k hlt 0 _ rfl)
        have q1 := hx.cell (g1 k hlt 1 _ rfl)
        simp only [Nat.add_zero] at q0
        have hz := HZ.out
        have heq := HEQ.out
        rw [drop_at d.blocks k hlt] at hz heq
        obtain ⟨B, hB⟩ : ∃ B, B = d.blocks[k] := ⟨_, rfl⟩
        rw [← hB] at q0 q1 hz heq
        obtain ⟨u1, u2, u3, u4⟩ := block_ok hz
        have u3' : p + (B.bytes + 23) / 24 ≤ 64 := u3
        have HST := Lib.hid (And.intro u4 (show nextAt (p + secs B.bytes) (d.blocks.drop (k + 1)) = nextAt 8 d.blocks from heq))
        clear g1 hB HEQ HZ hz heq u3 u4
        have hki : (k : Int) < (d.blocks.length : Int) := by omega
        have hk10 : (k : Int) < 10 := by have := HN.out; omega
        go_wp2_with (first | (go_at_call 38; refine (sectors_any _ _ u1 (by omega)).mono ?_; rintro e w9 ⟨rfl, rfl⟩))
        go_roundw
        case rel => exact ⟨k + 1, p + (B.bytes + 23) / 24, by go_num, by go_num, by omega, by omega, u3', by first | exact hx | exact hx.alloc _, by first | exact hb | exact hb.alloc _, HST.out.1, HST.out.2⟩
        case measure => simp [intOf]; omega
      · have HFE := Lib.hid (show p = nextAt 8 d.blocks by rw [← HEQ.out, List.drop_of_length_le (by omega)]; rfl)
        clear HEQ HZ
        have hk10 : (k : Int) ≤ 10 := by have := HN.out; omega
        go_wp2_with fail
        go_ret2
        rw [HF.out, ← HFE.out]
        exact ⟨rfl, hx⟩
  · have HF := Lib.hid (next_bad hc)
    have hc' : (catFault d != 0) = true := by simpa using hc
    clear hc hb1
    generalize catFault d = t at *
    go_wp2_with fail
    go_ret2
    rw [HF.out]
    exact ⟨rfl, hxw⟩

set_option maxRecDepth 100000 in
set_option maxHeartbeats 4000000 in
theorem nextOf_any (cs : List Value) (d : Cat) (w : World) (h : RCat w cs d) :
    Calls Try.prog 66 #[.agg cs.toArray] w fun e w' => e = .returned (.tuple #[.int .i64 (nextS d).1, .int .i64 (nextS d).2]) ∧ Ext w w' := by
  have h' := h
  obtain ⟨v1, v2, rfl, h1, h2'⟩ := h'
  obtain ⟨A1, c1, rfl, l1, hc1, p1⟩ := h1.rowE encBlk_ok
  have HP := Lib.hid p1
  have HH := Lib.hid h
  clear h1 h2' l1 hc1 p1 h
  go_enter Try.func66, Try.ntmps66
  go_wp2_with fail
  refine calls_abs (fun W => Ext w W ∧ Blk_ W w.heap.size 41 #[.slice A1 d.blocks.length c1, v2]) ⟨(Ext.refl _).alloc _, Blk_.new _ _ _⟩ ?_
  rintro W ⟨hx, hb⟩
  refine (catFault_any [.slice A1 d.blocks.length c1, v2] d W (HH.out.up hx)).mono ?_
  rintro e w1 ⟨rfl, hx1⟩
  have hb1 := hb.ext hx1
  have hxw := hx.trans hx1
  have f0 := hb1.cell 0
  simp at f0
  clear hb hx hx1
  by_cases hc : catFault d = 0
  · have HF := Lib.hid (next_good hc)
    have hok := catFault_ok hc
    have HN := Lib.hid hok.1
    have HB0 := Lib.hid hok.2.2.1
    rw [hc]
    clear hc hok
    go_wp2_with fail
    go_loopw [5, 6] (fun pv i wr => ∃ (k : Nat) (p : Int), i = .int .i64 k ∧ pv = .int .i64 p ∧ k ≤ d.blocks.length ∧ 8 ≤ p ∧ p ≤ 64 ∧ Ext w wr ∧ Blk_ wr w.heap.size 41 #[.slice A1 d.blocks.length c1, v2] ∧ blocksF p (d.blocks.drop k) = 0 ∧ nextAt p (d.blocks.drop k) = nextAt 8 d.blocks) (fun _ i _ => d.blocks.length - (intOf i).toNat)
    case atStart => exact ⟨0, 8, rfl, rfl, Nat.zero_le _, by omega, by omega, hxw, hb1, HB0.out, rfl⟩
    case round =>
      clear hxw hb1 f0
      obtain ⟨k, p, rfl, rfl, hk, hp8, hp64, hx, hb, hz, heq⟩ := hrel
      have f0 := hb.cell 0
      simp at f0
      have HEQ := Lib.hid heq
      have HZ := Lib.hid hz
      clear heq hz
      by_cases hlt : k < d.blocks.length
      · obtain ⟨b1, o1, rfl, g1⟩ := HP.out k hlt
        have q0 := hx.cell (g1 k hlt 0 _ rfl)
        have q1 := hx.cell (g1 k hlt 1 _ rfl)
        simp only [Nat.add_zero] at q0
        have hz := HZ.out
        have heq := HEQ.out
        rw [drop_at d.blocks k hlt] at hz heq
        obtain ⟨B, hB⟩ : ∃ B, B = d.blocks[k] := ⟨_, rfl⟩
        rw [← hB] at q0 q1 hz heq
        obtain ⟨u1, u2, u3, u4⟩ := block_ok hz
        have u3' : p + (B.bytes + 23) / 24 ≤ 64 := u3
        have HST := Lib.hid (And.intro u4 (show nextAt (p + secs B.bytes) (d.blocks.drop (k + 1)) = nextAt 8 d.blocks from heq))
        clear g1 hB HEQ HZ hz heq u3 u4
        have hki : (k : Int) < (d.blocks.length : Int) := by omega
        have hk10 : (k : Int) < 10 := by have := HN.out; omega
        go_wp2_with (first | (go_at_call 39; refine (sectorsOf_any _ _ u1 (by omega)).mono ?_; rintro e w9 ⟨rfl, rfl⟩))
        go_roundw
        case rel => exact ⟨k + 1, p + (B.bytes + 23) / 24, by go_num, by go_num, by omega, by omega, u3', by first | exact hx | exact hx.alloc _, by first | exact hb | exact hb.alloc _, HST.out.1, HST.out.2⟩
        case measure => simp [intOf]; omega
      · have HFE := Lib.hid (show p = nextAt 8 d.blocks by rw [← HEQ.out, List.drop_of_length_le (by omega)]; rfl)
        clear HEQ HZ
        have hk10 : (k : Int) ≤ 10 := by have := HN.out; omega
        go_wp2_with fail
        go_ret2
        rw [HF.out, ← HFE.out]
        exact ⟨rfl, hx⟩
  · have HF := Lib.hid (next_bad hc)
    have hc' : (catFault d != 0) = true := by simpa using hc
    clear hc hb1
    generalize catFault d = t at *
    go_wp2_with fail
    go_ret2
    rw [HF.out]
    exact ⟨rfl, hxw⟩

set_option maxRecDepth 100000 in
set_option maxHeartbeats 400000 in
theorem lawCatalogNexts_any (cs : List Value) (d : Cat) (w : World) (h : RCat w cs d) :
    Calls Try.prog 17 #[.agg cs.toArray] w fun e w' => e = .returned (.bool true) ∧ Ext w w' := by
  have h' := h
  obtain ⟨v1, v2, rfl, _, _⟩ := h'
  go_enter Try.func17, Try.ntmps17
  go_wp2_with fail
  refine calls_abs (fun W => Ext w W ∧ Blk_ W w.heap.size 41 #[v1, v2]) ⟨(Ext.refl _).alloc _, Blk_.new _ _ _⟩ ?_
  rintro W ⟨hx, hb⟩
  refine (catNext_any [v1, v2] d W (h.up hx)).mono ?_
  rintro e w1 ⟨rfl, hx1⟩
  have hb1 := hb.ext hx1
  have f0 := hb1.cell 0
  have f1 := hb1.cell 1
  simp at f0 f1
  go_wp2_with fail
  refine (nextOf_any [v1, v2] d w1 (h.up (hx.trans hx1))).mono ?_
  rintro e w2 ⟨rfl, hx2⟩
  clear h f0 f1
  go_wp2_with fail
  go_ret
  exact ⟨rfl, (hx.trans hx1).trans hx2⟩
end Go.Proofs.Ytdogkekeccbpnaa
