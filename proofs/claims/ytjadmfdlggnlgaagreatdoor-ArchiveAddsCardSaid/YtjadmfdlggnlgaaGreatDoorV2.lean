/-
  slices.Clone at the program's types: a copy in new memory of the call's own. Conditions: the slice reads as a list.
-/
import Derived.Test.YtjadmfdlggnlgaaGreatDoorV1
import Derived.Maps.AppendAt
import Derived.RegionTactic
import Derived.OwnWalk
import Derived.Orders
import Derived.OrdersHeld
import Derived.Tactics
import Derived.KernelRfl
namespace Go.Proofs.YtjadmfdlggnlgaaGreatDoor
set_option linter.unusedSimpArgs false
set_option linter.unusedVariables false
set_option maxRecDepth 100000
set_option maxHeartbeats 8000000
open Go.RowKit
theorem info_str : (Tryz.prog.info? 9).map (fun i => (i.zero, i.size, i.bytes)) = some (some (.string .empty), 1, 16) := by kernel_rfl
theorem clone_str (v : Value) (w : World) (l : List ByteArray) (h : SlR 1 16 RStr w v l) :
  Calls Tryz.prog 105 #[v] w fun e w' => ∃ A' c', e = .returned (.slice A' l.length c') ∧ Ext w w' ∧ w'.ownsRow w.heap.size 9 1 (.slice A' l.length c') l.length (l.flatMap encStr) := by
 obtain ⟨A, cap, rfl, hb, hc, hl⟩ := h.cells encStr_ok (by decide)
 clear h
 obtain ⟨i0, hi, hz0, hz1, hz2⟩ := info_parts info_str
 cases A with
 | none =>
  have hl0 : l = [] := by rcases hl with h | ⟨b, o, h, _⟩; exact h; cases h
  subst hl0
  clear hl hi hz0 hz1 hz2
  go_enter Tryz.func105, Tryz.ntmps105
  go_wp2
  go_ret
  exact ⟨none, 0, rfl, Ext.refl _, World.ownsRow_nil _ _ _ _⟩
 | some a =>
  have hcells : ∀ (j : Nat) (u : Value), (l.flatMap encStr)[j]? = some u → w.cell? (a.add j) = some u := by
   rcases hl with h | ⟨b, o, h, hc, _⟩
   ·subst h; intro j u hu; simp at hu
   ·cases h; exact hc
  have HI := Lib.hid hi
  have H0 := Lib.hid hz0
  have H1 := Lib.hid hz1
  have H2 := Lib.hid hz2
  have HC := Lib.hid hcells
  clear hl hi hz0 hz1 hz2 hcells
  go_enter Tryz.func105, Tryz.ntmps105
  go_wp2_with (at_builtin; refine wpList_append_own _ rfl _ _ 32 rfl w.heap.size 9 i0 (.string .empty) 1 16 Tryz.underlying32 HI.out H0.out H1.out H2.out rfl (by decide) _ _ _ rfl (World.ownsRow_made w #[] 0 (Nat.le_refl _) (by decide) rfl) a l.length cap (l.flatMap encStr) rfl ?c1 ?c2 ?c3 ?c4 ?c5 ?c6 ?_)
  case c1 => exact length_flatMap encStr_ok.len l
  case c2 => exact fun j u hu => (Ext.alloc (Ext.refl w) _).cell (HC.out j u hu)
  case c3 => exact fun u hu => by obtain ⟨x, _, hx⟩ := List.mem_flatMap.1 hu; exact encStr_ok.one x u hx
  case c4 => unfold maxLen; omega
  case c5 => omega
  case c6 => simp
  intro v' w' hown hg _
  have HO := Lib.hid hown
  have HG := Lib.hid hg
  clear hown hg
  go_wp2
  go_ret
  obtain ⟨A', c', hv⟩ := own_slice HO.out
  refine ⟨A', c', ret_eq hv, ((Ext.refl w).alloc _).grown HG.out (fun k hk => ?_), ?_⟩
  ·simp [Value.ownBlock] at hk; omega
  ·rw [← hv]; exact HO.out
theorem info_bool : (Tryz.prog.info? 4).map (fun i => (i.zero, i.size, i.bytes)) = some (some (.bool false), 1, 1) := by kernel_rfl
theorem clone_bool (v : Value) (w : World) (l : List Bool) (h : SlR 1 1 RBool w v l) :
  Calls Tryz.prog 106 #[v] w fun e w' => ∃ A' c', e = .returned (.slice A' l.length c') ∧ Ext w w' ∧ w'.ownsRow w.heap.size 4 1 (.slice A' l.length c') l.length (l.flatMap encBool) := by
 obtain ⟨A, cap, rfl, hb, hc, hl⟩ := h.cells encBool_ok (by decide)
 clear h
 obtain ⟨i0, hi, hz0, hz1, hz2⟩ := info_parts info_bool
 cases A with
 | none =>
  have hl0 : l = [] := by rcases hl with h | ⟨b, o, h, _⟩; exact h; cases h
  subst hl0
  clear hl hi hz0 hz1 hz2
  go_enter Tryz.func106, Tryz.ntmps106
  go_wp2
  go_ret
  exact ⟨none, 0, rfl, Ext.refl _, World.ownsRow_nil _ _ _ _⟩
 | some a =>
  have hcells : ∀ (j : Nat) (u : Value), (l.flatMap encBool)[j]? = some u → w.cell? (a.add j) = some u := by
   rcases hl with h | ⟨b, o, h, hc, _⟩
   ·subst h; intro j u hu; simp at hu
   ·cases h; exact hc
  have HI := Lib.hid hi
  have H0 := Lib.hid hz0
  have H1 := Lib.hid hz1
  have H2 := Lib.hid hz2
  have HC := Lib.hid hcells
  clear hl hi hz0 hz1 hz2 hcells
  go_enter Tryz.func106, Tryz.ntmps106
  go_wp2_with (at_builtin; refine wpList_append_own _ rfl _ _ 33 rfl w.heap.size 4 i0 (.bool false) 1 1 Tryz.underlying33 HI.out H0.out H1.out H2.out rfl (by decide) _ _ _ rfl (World.ownsRow_made w #[] 0 (Nat.le_refl _) (by decide) rfl) a l.length cap (l.flatMap encBool) rfl ?c1 ?c2 ?c3 ?c4 ?c5 ?c6 ?_)
  case c1 => exact length_flatMap encBool_ok.len l
  case c2 => exact fun j u hu => (Ext.alloc (Ext.refl w) _).cell (HC.out j u hu)
  case c3 => exact fun u hu => by obtain ⟨x, _, hx⟩ := List.mem_flatMap.1 hu; exact encBool_ok.one x u hx
  case c4 => unfold maxLen; omega
  case c5 => omega
  case c6 => simp
  intro v' w' hown hg _
  have HO := Lib.hid hown
  have HG := Lib.hid hg
  clear hown hg
  go_wp2
  go_ret
  obtain ⟨A', c', hv⟩ := own_slice HO.out
  refine ⟨A', c', ret_eq hv, ((Ext.refl w).alloc _).grown HG.out (fun k hk => ?_), ?_⟩
  ·simp [Value.ownBlock] at hk; omega
  ·rw [← hv]; exact HO.out
theorem info_blk : (Tryz.prog.info? 64).map (fun i => (i.zero, i.size, i.bytes)) = some (some (.agg #[.int .i64 0, .int .i64 0]), 2, 16) := by kernel_rfl
theorem clone_blk (v : Value) (w : World) (l : List Blk) (h : SlR 2 16 RBlk w v l) :
  Calls Tryz.prog 17 #[v] w fun e w' => ∃ A' c', e = .returned (.slice A' l.length c') ∧ Ext w w' ∧ w'.ownsRow w.heap.size 64 2 (.slice A' l.length c') l.length (l.flatMap encBlk) := by
 obtain ⟨A, cap, rfl, hb, hc, hl⟩ := h.cells encBlk_ok (by decide)
 clear h
 obtain ⟨i0, hi, hz0, hz1, hz2⟩ := info_parts info_blk
 cases A with
 | none =>
  have hl0 : l = [] := by rcases hl with h | ⟨b, o, h, _⟩; exact h; cases h
  subst hl0
  clear hl hi hz0 hz1 hz2
  go_enter Tryz.func17, Tryz.ntmps17
  go_wp2
  go_ret
  exact ⟨none, 0, rfl, Ext.refl _, World.ownsRow_nil _ _ _ _⟩
 | some a =>
  have hcells : ∀ (j : Nat) (u : Value), (l.flatMap encBlk)[j]? = some u → w.cell? (a.add j) = some u := by
   rcases hl with h | ⟨b, o, h, hc, _⟩
   ·subst h; intro j u hu; simp at hu
   ·cases h; exact hc
  have HI := Lib.hid hi
  have H0 := Lib.hid hz0
  have H1 := Lib.hid hz1
  have H2 := Lib.hid hz2
  have HC := Lib.hid hcells
  clear hl hi hz0 hz1 hz2 hcells
  go_enter Tryz.func17, Tryz.ntmps17
  go_wp2_with (at_builtin; refine wpList_append_own _ rfl _ _ 37 rfl w.heap.size 64 i0 (.agg #[.int .i64 0, .int .i64 0]) 2 16 Tryz.underlying37 HI.out H0.out H1.out H2.out rfl (by decide) _ _ _ rfl (World.ownsRow_made w #[] 0 (Nat.le_refl _) (by decide) rfl) a l.length cap (l.flatMap encBlk) rfl ?c1 ?c2 ?c3 ?c4 ?c5 ?c6 ?_)
  case c1 => exact length_flatMap encBlk_ok.len l
  case c2 => exact fun j u hu => (Ext.alloc (Ext.refl w) _).cell (HC.out j u hu)
  case c3 => exact fun u hu => by obtain ⟨x, _, hx⟩ := List.mem_flatMap.1 hu; exact encBlk_ok.one x u hx
  case c4 => unfold maxLen; omega
  case c5 => omega
  case c6 => simp
  intro v' w' hown hg _
  have HO := Lib.hid hown
  have HG := Lib.hid hg
  clear hown hg
  go_wp2
  go_ret
  obtain ⟨A', c', hv⟩ := own_slice HO.out
  refine ⟨A', c', ret_eq hv, ((Ext.refl w).alloc _).grown HG.out (fun k hk => ?_), ?_⟩
  ·simp [Value.ownBlock] at hk; omega
  ·rw [← hv]; exact HO.out
theorem info_ent : (Tryz.prog.info? 70).map (fun i => (i.zero, i.size, i.bytes)) = some (some (.agg #[.string .empty, .int .i64 0, .int .i64 0, .int .i64 0]), 4, 40) := by kernel_rfl
theorem clone_ent (v : Value) (w : World) (l : List Ent) (h : SlR 4 40 REnt w v l) :
  Calls Tryz.prog 36 #[v] w fun e w' => ∃ A' c', e = .returned (.slice A' l.length c') ∧ Ext w w' ∧ w'.ownsRow w.heap.size 70 4 (.slice A' l.length c') l.length (l.flatMap encEnt) := by
 obtain ⟨A, cap, rfl, hb, hc, hl⟩ := h.cells encEnt_ok (by decide)
 clear h
 obtain ⟨i0, hi, hz0, hz1, hz2⟩ := info_parts info_ent
 cases A with
 | none =>
  have hl0 : l = [] := by rcases hl with h | ⟨b, o, h, _⟩; exact h; cases h
  subst hl0
  clear hl hi hz0 hz1 hz2
  go_enter Tryz.func36, Tryz.ntmps36
  go_wp2
  go_ret
  exact ⟨none, 0, rfl, Ext.refl _, World.ownsRow_nil _ _ _ _⟩
 | some a =>
  have hcells : ∀ (j : Nat) (u : Value), (l.flatMap encEnt)[j]? = some u → w.cell? (a.add j) = some u := by
   rcases hl with h | ⟨b, o, h, hc, _⟩
   ·subst h; intro j u hu; simp at hu
   ·cases h; exact hc
  have HI := Lib.hid hi
  have H0 := Lib.hid hz0
  have H1 := Lib.hid hz1
  have H2 := Lib.hid hz2
  have HC := Lib.hid hcells
  clear hl hi hz0 hz1 hz2 hcells
  go_enter Tryz.func36, Tryz.ntmps36
  go_wp2_with (at_builtin; refine wpList_append_own _ rfl _ _ 38 rfl w.heap.size 70 i0 (.agg #[.string .empty, .int .i64 0, .int .i64 0, .int .i64 0]) 4 40 Tryz.underlying38 HI.out H0.out H1.out H2.out rfl (by decide) _ _ _ rfl (World.ownsRow_made w #[] 0 (Nat.le_refl _) (by decide) rfl) a l.length cap (l.flatMap encEnt) rfl ?c1 ?c2 ?c3 ?c4 ?c5 ?c6 ?_)
  case c1 => exact length_flatMap encEnt_ok.len l
  case c2 => exact fun j u hu => (Ext.alloc (Ext.refl w) _).cell (HC.out j u hu)
  case c3 => exact fun u hu => by obtain ⟨x, _, hx⟩ := List.mem_flatMap.1 hu; exact encEnt_ok.one x u hx
  case c4 => unfold maxLen; omega
  case c5 => omega
  case c6 => simp
  intro v' w' hown hg _
  have HO := Lib.hid hown
  have HG := Lib.hid hg
  clear hown hg
  go_wp2
  go_ret
  obtain ⟨A', c', hv⟩ := own_slice HO.out
  refine ⟨A', c', ret_eq hv, ((Ext.refl w).alloc _).grown HG.out (fun k hk => ?_), ?_⟩
  ·simp [Value.ownBlock] at hk; omega
  ·rw [← hv]; exact HO.out
theorem devCopy_any (cs : List Value) (d : Dev) (w : World) (h : RDev w cs d) :
  Calls Tryz.prog 74 #[.agg cs.toArray] w fun e w' => ∃ A1 c1 A2 c2, e = .returned (.agg #[.slice A1 d.sec.length c1, .slice A2 d.lost.length c2]) ∧ Ext w w' ∧
   w'.ownsRow w.heap.size 9 1 (.slice A1 d.sec.length c1) d.sec.length (d.sec.flatMap encStr) ∧ w'.ownsRow w.heap.size 4 1 (.slice A2 d.lost.length c2) d.lost.length (d.lost.flatMap encBool) := by
 obtain ⟨v1, v2, rfl, h1, h2⟩ := h
 go_enter Tryz.func74, Tryz.ntmps74
 go_wp2
 refine wp_abs (fun W => Ext w W ∧ Blk_ W w.heap.size 35 #[v1, v2] ∧ Blk_ W (w.heap.size + 1) 35 #[.slice none 0 0, .slice none 0 0]) ⟨((Ext.refl _).alloc _).alloc _, (Blk_.new _ _ _).alloc _, Blk_.new1 _ _ _ _⟩ ?_
 rintro W ⟨hx, hb1, hb2⟩
 have c1 := hb1.cell 0
 have c2 := hb1.cell 1
 simp at c1 c2
 go_region_held3 (fun W' => W'.cell? ⟨w.heap.size, 0, none⟩ = some v1 ∧ W'.cell? ⟨w.heap.size, 1, none⟩ = some v2)
  (first | exact ⟨c1, c2⟩ | exact ⟨e1.cell c1, e1.cell c2⟩ | exact ⟨e2.cell c1, e2.cell c2⟩ | go_keep)
  (first | (go_at_call 105; refine (clone_str _ _ d.sec (h1.ext RStr.stays hx.drew)).mono ?_; rintro _ w1 ⟨A1, k1, rfl, f1, o1⟩; have e1 : Ext W w1 := (Ext.drew (Ext.refl W)).trans f1) | (go_at_call 106; refine (clone_bool _ _ d.lost (h2.ext RBool.stays (hx.trans e1))).mono ?_; rintro _ w2 ⟨A2, k2, rfl, f2, o2⟩; have e2 := e1.trans f2; have b0 := (hb2.ext e2).cell 0; have b1 := (hb2.ext e2).cell 1; simp at b0 b1; have z0 := (hb2.ext e2).frozen 0; have z1 := (hb2.ext e2).frozen 1))
 have hW : w.heap.size + 1 < W.heap.size := hb2.lt
 have hb3 := ((hb2.ext e2).set 0 (.slice A1 d.sec.length k1)).set 1 (.slice A2 d.lost.length k2)
 have HB := Lib.hid hb3
 clear hb3
 go_wp2
 refine bodyPost_ret (res_cell rfl rfl HB.out Tryz.underlying35 rfl (by kernel_rfl)) rfl ?_
 refine ⟨A1, k1, A2, k2, rfl, ((hx.trans e2).setCell (by simp) _).setCell (by simp) _, ?_, ?_⟩
 ·exact own_base (ownsRow_setCell_below (ownsRow_setCell_below (own_ext o1 f2) (by simpa using hW) _) (by simpa using hW) _) (by simpa using hx.size)
 ·have := e1.size
  exact own_base (ownsRow_setCell_below (ownsRow_setCell_below o2 (by simp; omega) _) (by simp; omega) _) (by have := hx.size; omega)
theorem RStr.val {w : World} {u : Value} {s : ByteArray} (h : RStr w [u] s) : u = .string s := by have := h.1; simpa using this
theorem RBool.val {w : World} {u : Value} {s : Bool} (h : RBool w [u] s) : u = .bool s := by have : [u] = _ := h; simpa using this
theorem sameDevice_true (cs1 cs2 : List Value) (d : Dev) (w : World) (h1 : RDev w cs1 d) (h2 : RDev w cs2 d) :
  Calls Tryz.prog 30 #[.agg cs1.toArray, .agg cs2.toArray] w fun e w' => e = .returned (.bool true) ∧ Ext w w' := by
 obtain ⟨v1, v2, rfl, h1, h2'⟩ := h1
 obtain ⟨v3, v4, rfl, h3, h4⟩ := h2
 obtain ⟨A1, c1, rfl, l1, hc1, p1⟩ := h1.row
 obtain ⟨A2, c2, rfl, l2, hc2, s1⟩ := h2'.row
 obtain ⟨A3, c3, rfl, l3, hc3, p2⟩ := h3.row
 obtain ⟨A4, c4, rfl, l4, hc4, s2⟩ := h4.row
 clear h1 h2' h3 h4
 go_enter Tryz.func30, Tryz.ntmps30
 go_wp2
 refine wp_abs (fun W => Ext w W ∧ Blk_ W w.heap.size 35 #[.slice A1 d.sec.length c1, .slice A2 d.lost.length c2] ∧ Blk_ W (w.heap.size + 1) 35 #[.slice A3 d.sec.length c3, .slice A4 d.lost.length c4]) ⟨((Ext.refl _).alloc _).alloc _, (Blk_.new _ _ _).alloc _, Blk_.new1 _ _ _ _⟩ ?_
 rintro W ⟨hx, hb1, hb2⟩
 go_loopw [5] (fun i wr => ∃ k : Nat, i = .int .i64 k ∧ k ≤ d.sec.length ∧ Ext w wr ∧ Blk_ wr w.heap.size 35 #[.slice A1 d.sec.length c1, .slice A2 d.lost.length c2] ∧ Blk_ wr (w.heap.size + 1) 35 #[.slice A3 d.sec.length c3, .slice A4 d.lost.length c4]) (fun i _ => d.sec.length - (intOf i).toNat)
 case atStart => exact ⟨0, rfl, Nat.zero_le _, hx, hb1, hb2⟩
 case round =>
  clear hx hb1 hb2
  obtain ⟨k, rfl, hk, hx, hb1, hb2⟩ := hrel
  have f0 := hb1.cell 0
  have f1 := hb1.cell 1
  have f2 := hb2.cell 0
  have f3 := hb2.cell 1
  simp at f0 f1 f2 f3
  by_cases hlt : k < d.sec.length
  ·obtain ⟨b1, o1, rfl, g1⟩ := p1 k hlt
   obtain ⟨b2, o2, rfl, g2⟩ := p2 k hlt
   obtain ⟨u1, q1, t1⟩ := g1 k hlt
   obtain ⟨u2, q2, t2⟩ := g2 k hlt
   obtain rfl := t1.val
   obtain rfl := t2.val
   have q1' := hx.cell q1
   have q2' := hx.cell q2
   clear q1 q2 g1 g2 t1 t2
   have HP1 := Lib.hid p1
   have HP2 := Lib.hid p2
   have HS1 := Lib.hid s1
   have HS2 := Lib.hid s2
   clear p1 p2 s1 s2
   go_wp2
   go_quiet (fail)
   go_wp2
   go_roundw
   case rel => exact ⟨k + 1, by go_num, by omega, hx.drewN _, hb1, hb2⟩
   case measure => simp [intOf]; omega
  ·go_wp2
   go_loopw [6] (fun i wr => ∃ k : Nat, i = .int .i64 k ∧ k ≤ d.lost.length ∧ Ext w wr ∧ Blk_ wr w.heap.size 35 #[.slice A1 d.sec.length c1, .slice A2 d.lost.length c2] ∧ Blk_ wr (w.heap.size + 1) 35 #[.slice A3 d.sec.length c3, .slice A4 d.lost.length c4]) (fun i _ => d.lost.length - (intOf i).toNat)
   case atStart => exact ⟨0, rfl, Nat.zero_le _, hx, hb1, hb2⟩
   case round =>
    clear hx hb1 hb2 f0 f1 f2 f3
    obtain ⟨k, rfl, hk, hx, hb1, hb2⟩ := hrel
    have f0 := hb1.cell 0
    have f1 := hb1.cell 1
    have f2 := hb2.cell 0
    have f3 := hb2.cell 1
    simp at f0 f1 f2 f3
    by_cases hlt : k < d.lost.length
    ·obtain ⟨b1, o1, rfl, g1⟩ := s1 k hlt
     obtain ⟨b2, o2, rfl, g2⟩ := s2 k hlt
     obtain ⟨u1, q1, t1⟩ := g1 k hlt
     obtain ⟨u2, q2, t2⟩ := g2 k hlt
     obtain rfl := t1.val
     obtain rfl := t2.val
     have q1' := hx.cell q1
     have q2' := hx.cell q2
     clear q1 q2 g1 g2 t1 t2
     have HP1 := Lib.hid p1
     have HP2 := Lib.hid p2
     have HS1 := Lib.hid s1
     have HS2 := Lib.hid s2
     clear p1 p2 s1 s2
     go_wp2
     go_quiet (fail)
     go_wp2
     go_roundw
     case rel => exact ⟨k + 1, by go_num, by omega, hx.drewN _, hb1, hb2⟩
     case measure => simp [intOf]; omega
    ·go_wp2
     go_ret
     exact ⟨rfl, hx⟩
def Av (g : Nat) (v : Value) : Prop := ∀ b o s n c, v = .slice (some ⟨b, o, s⟩) n c → n = 0 ∨ b ≠ g
def New (B : Nat) (v : Value) : Prop := ∀ b o s n c, v = .slice (some ⟨b, o, s⟩) n c → n = 0 ∨ B ≤ b
theorem New.av {B g : Nat} {v : Value} (h : New B v) (hg : g < B) : Av g v := fun b o s n c e => by
 rcases h b o s n c e with h | h
 ·exact .inl h
 ·exact .inr (by omega)
theorem New.mono {B B' : Nat} {v : Value} (h : New B v) (hB : B' ≤ B) : New B' v := fun b o s n c e => by
 rcases h b o s n c e with h | h
 ·exact .inl h
 ·exact .inr (by omega)
theorem New.own {w : World} {base : Nat} {e : TypeId} {size : Nat} {v : Value} {n : Nat} {xs : List Value} (h : w.ownsRow base e size v n xs) : New base v := by
 intro b o s n' c ev
 rcases h.2 with ⟨hv, _⟩ | ⟨g, cap, cur, hv, hb, _⟩
 ·rw [hv] at ev; cases ev
 ·rw [hv] at ev; injection ev with h1 h2 h3; injection h1 with h1; injection h1 with h1; subst h1; exact .inr hb
theorem SlR.far {α : Type} {C bytes : Nat} {R : Rd α} {enc : α → List Value} (he : Enc C R enc) {w : World} {v : Value} {l : List α} (h : SlR C bytes R w v l) {p : Addr} (hv : Av p.block v) (u : Value) : SlR C bytes R (w.setCell p u) v l := by
 obtain ⟨A, cap, e, hb, hc, h⟩ := h
 refine ⟨A, cap, e, hb, hc, ?_⟩
 rcases h with h | ⟨b, o, hA, h⟩
 ·exact .inl h
 ·by_cases h0 : l = []
  ·exact .inl h0
  ·right
   subst hA
   have hne : b ≠ p.block := by
    rcases hv b o none _ _ e with h | h
    ·exact absurd (List.eq_nil_of_length_eq_zero h) h0
    ·exact h
   refine ⟨b, o, rfl, fun i hi => ?_⟩
   obtain ⟨cs, hl, hcell, hr⟩ := h i hi
   exact ⟨cs, hl, fun j hj => (World.cell?_setCell_other w p _ u (fun e => hne (by rw [e]))).trans (hcell j hj), he.w _ _ _ _ hr⟩
def RDevG (g : Nat) (w : World) (cs : List Value) (d : Dev) : Prop := ∃ A1 c1 A2 c2, cs = [.slice A1 d.sec.length c1, .slice A2 d.lost.length c2] ∧ RDev w cs d ∧ Av g (.slice A1 d.sec.length c1) ∧ Av g (.slice A2 d.lost.length c2)
theorem RDevG.dev {g : Nat} {w : World} {cs : List Value} {d : Dev} (h : RDevG g w cs d) : RDev w cs d := by
 obtain ⟨_, _, _, _, _, h, _⟩ := h
 exact h
theorem RDevG.ext {g : Nat} {w w' : World} {cs : List Value} {d : Dev} (h : RDevG g w cs d) (k : Ext w w') : RDevG g w' cs d := by
 obtain ⟨A1, c1, A2, c2, e, h, r⟩ := h
 exact ⟨A1, c1, A2, c2, e, h.up k, r⟩
theorem RDevG.far {w : World} {cs : List Value} {d : Dev} {p : Addr} (h : RDevG p.block w cs d) (u : Value) : RDevG p.block (w.setCell p u) cs d := by
 obtain ⟨A1, c1, A2, c2, e, h, r1, r2⟩ := h
 refine ⟨A1, c1, A2, c2, e, ?_, r1, r2⟩
 obtain ⟨v1, v2, e', h1, h2⟩ := h
 rw [e] at e'
 simp only [List.cons.injEq, and_true] at e'
 obtain ⟨rfl, rfl⟩ := e'
 exact ⟨_, _, e, h1.far encStr_ok r1 u, h2.far encBool_ok r2 u⟩
theorem SlR.avoids {α : Type} {C bytes : Nat} {R : Rd α} {w : World} {v : Value} {l : List α} (h : SlR C bytes R w v l) (hC : 0 < C) {g : Nat} (hg : w.heap.size ≤ g) : Av g v := by
 obtain ⟨A, cap, e, hb, hc, h⟩ := h
 intro b o s n c ev
 rw [e] at ev
 injection ev with h1 h2 h3
 rcases h with h | ⟨b', o', hA, h⟩
 ·left; rw [← h2, h]; rfl
 ·rw [hA] at h1
  injection h1 with h1
  injection h1 with h1 h1' h1''
  subst h1
  by_cases h0 : l.length = 0
  ·left; omega
  ·right
   obtain ⟨cs, hl, hcell, _⟩ := h 0 (by omega)
   have h2 := hcell 0 hC
   rw [List.getElem?_eq_getElem (by omega)] at h2
   have := World.block_lt_of_cell? w _ h2
   simp at this
   omega
theorem RDev.old {w : World} {cs : List Value} {d : Dev} (h : RDev w cs d) {g : Nat} (hg : w.heap.size ≤ g) : RDevG g w cs d := by
 obtain ⟨A1, c1, A2, c2, e⟩ := h.form
 have h' := h
 obtain ⟨v1, v2, e', h1, h2⟩ := h'
 rw [e] at e'
 simp only [List.cons.injEq, and_true] at e'
 obtain ⟨rfl, rfl⟩ := e'
 exact ⟨A1, c1, A2, c2, e, h, h1.avoids (by decide) hg, h2.avoids (by decide) hg⟩
theorem RDev.newG {w : World} {A1 A2 : Option Addr} {n1 c1 n2 c2 : Nat} {d : Dev} (h : RDev w [.slice A1 n1 c1, .slice A2 n2 c2] d) {B g : Nat} (k1 : New B (.slice A1 n1 c1)) (k2 : New B (.slice A2 n2 c2)) (hg : g < B) : RDevG g w [.slice A1 n1 c1, .slice A2 n2 c2] d := by
 obtain ⟨A1', c1', A2', c2', e⟩ := h.form
 have e' := e
 simp only [List.cons.injEq, and_true, Value.slice.injEq] at e'
 obtain ⟨⟨rfl, rfl, rfl⟩, rfl, rfl, rfl⟩ := e'
 exact ⟨_, _, _, _, e, h, k1.av hg, k2.av hg⟩
def pair (p : Value × Value) : List Value := [p.1, p.2]
theorem pair_len (p : Value × Value) : (pair p).length = 2 := rfl
def OArr (E : TypeId) (w : World) (base : Nat) (v : Value) (a : List Dev) : Prop :=
 ∃ vs : List (Value × Value), vs.length = a.length ∧ w.ownsRow base E 2 v a.length (vs.flatMap pair) ∧
  (∀ g, v.ownBlock = some g → ∀ (i : Nat) (hi : i < a.length) (p : Value × Value), vs[i]? = some p → RDevG g w (pair p) a[i]) ∧
  ∀ (i : Nat) (p : Value × Value), vs[i]? = some p → New base p.1 ∧ New base p.2
theorem RDevG.away {g : Nat} {w : World} {x1 x2 : Value} {d : Dev} {p : Addr} {B : Nat} (h : RDevG g w [x1, x2] d) (h1 : New B x1) (h2 : New B x2) (hp : p.block < B) (u : Value) : RDevG g (w.setCell p u) [x1, x2] d := by
 obtain ⟨A1, c1, A2, c2, e, h, r1, r2⟩ := h
 refine ⟨A1, c1, A2, c2, e, ?_, r1, r2⟩
 obtain ⟨v1, v2, e', k1, k2⟩ := h
 simp only [List.cons.injEq, and_true] at e'
 obtain ⟨rfl, rfl⟩ := e'
 exact ⟨_, _, rfl, k1.far encStr_ok (h1.av hp) u, k2.far encBool_ok (h2.av hp) u⟩
theorem OArr.far {E : TypeId} {w : World} {base : Nat} {v : Value} {a : List Dev} (h : OArr E w base v a) {p : Addr} (hp : p.block < base) (u : Value) : OArr E (w.setCell p u) base v a := by
 obtain ⟨vs, hl, ho, hr, hn⟩ := h
 exact ⟨vs, hl, ownsRow_setCell_below ho hp u, fun g hg i hi q hq => (hr g hg i hi q hq).away (hn i q hq).1 (hn i q hq).2 hp u, hn⟩
theorem OArr.base {E : TypeId} {w : World} {base base' : Nat} {v : Value} {a : List Dev} (h : OArr E w base v a) (hb : base' ≤ base) : OArr E w base' v a := by
 obtain ⟨vs, hl, ho, hr, hn⟩ := h
 exact ⟨vs, hl, own_base ho hb, hr, fun i p hp => ⟨(hn i p hp).1.mono hb, (hn i p hp).2.mono hb⟩⟩
theorem OArr.ext {E : TypeId} {w w' : World} {base : Nat} {v : Value} {a : List Dev} (h : OArr E w base v a) (k : Ext w w') : OArr E w' base v a := by
 obtain ⟨vs, hl, ho, hr, hn⟩ := h
 exact ⟨vs, hl, own_ext ho k, fun g hg i hi p hp => (hr g hg i hi p hp).ext k, hn⟩
theorem OArr.nil (E : TypeId) (w : World) (base : Nat) : OArr E w base (.slice none 0 0) [] := ⟨[], rfl, World.ownsRow_nil _ _ _ _, (fun g hg => by cases hg), fun i p hp => by simp at hp⟩
theorem OArr.rarr {E : TypeId} {w : World} {base : Nat} {v : Value} {a : List Dev} (h : OArr E w base v a) (hb : a.length * 48 ≤ 140737488355328) : RArr w [v] a := by
 obtain ⟨vs, hl, ho, hr, _⟩ := h
 refine ⟨v, rfl, ?_⟩
 obtain ⟨hlen, h⟩ := ho
 rcases h with ⟨hv, hn⟩ | ⟨g, cap, cur, hv, _, hg, hnc, _, hcs, htake⟩
 ·have : a = [] := List.eq_nil_of_length_eq_zero hn
  subst this
  exact ⟨none, 0, by rw [hv]; rfl, by simp, by simp, .inl rfl⟩
 ·refine ⟨some ⟨g, 0, none⟩, cap, hv, hb, hnc, ?_⟩
  by_cases h0 : a = []
  ·exact .inl h0
  ·refine .inr ⟨g, 0, rfl, fun i hi => ?_⟩
   have hi' : i < vs.length := by omega
   refine ⟨pair vs[i], rfl, fun j hj => ?_, (hr g (by rw [hv]; rfl) i hi _ (List.getElem?_eq_getElem hi')).dev⟩
   rw [← flatMap_at pair_len vs i j hi' hj, Nat.zero_add, cell_of_row w g (i * 2 + j) cur E (0, 0) hg, ← htake, List.getElem?_take, if_pos]
   ·simp
   ·omega
theorem SlR.grown {α : Type} {C bytes : Nat} {R : Rd α} {enc : α → List Value} (he : Enc C R enc) {w w' : World} {v : Value} {l : List α} {row : Option Nat} (h : SlR C bytes R w v l) (hg : w.grownBy w' row) (hv : ∀ g, row = some g → Av g v) : SlR C bytes R w' v l := by
 obtain ⟨A, cap, e, hb, hc, h⟩ := h
 refine ⟨A, cap, e, hb, hc, ?_⟩
 rcases h with h | ⟨b, o, hA, h⟩
 ·exact .inl h
 ·by_cases h0 : l = []
  ·exact .inl h0
  ·right
   subst hA
   refine ⟨b, o, rfl, fun i hi => ?_⟩
   obtain ⟨cs, hl, hcell, hr⟩ := h i hi
   refine ⟨cs, hl, fun j hj => ?_, he.w _ _ _ _ hr⟩
   have hs : cs[j]? = some (cs[j]'(by omega)) := List.getElem?_eq_getElem (by omega)
   rw [hs]
   refine hg.cell ((hcell j hj).trans hs) (fun e' => ?_)
   rcases hv b e'.symm b o none _ _ e with h | h
   ·exact absurd (List.eq_nil_of_length_eq_zero h) h0
   ·exact h rfl
theorem RDev.grown {w w' : World} {cs : List Value} {d : Dev} {row : Option Nat} (h : RDev w cs d) (hg : w.grownBy w' row) (hv : ∀ g, row = some g → RDevG g w cs d) : RDev w' cs d := by
 obtain ⟨v1, v2, e, h1, h2⟩ := h
 refine ⟨v1, v2, e, h1.grown encStr_ok hg (fun g hr => ?_), h2.grown encBool_ok hg (fun g hr => ?_)⟩
 ·obtain ⟨A1, c1, A2, c2, e', _, r1, r2⟩ := hv g hr
  rw [e] at e'
  simp only [List.cons.injEq, and_true] at e'
  rw [e'.1]; exact r1
 ·obtain ⟨A1, c1, A2, c2, e', _, r1, r2⟩ := hv g hr
  rw [e] at e'
  simp only [List.cons.injEq, and_true] at e'
  rw [e'.2]; exact r2
theorem OArr.push {E : TypeId} {w w' : World} {base : Nat} {v v' : Value} {a : List Dev} {x1 x2 : Value} {d : Dev} (h : OArr E w base v a)
  (ho : ∀ xs, w.ownsRow base E 2 v a.length xs → w'.ownsRow base E 2 v' (a.length + 1) (xs ++ [x1, x2])) (hg : w.grownBy w' v.ownBlock) (hb : v'.ownBlock = v.ownBlock ∨ v'.ownBlock = some w.heap.size)
  (hd : RDev w [x1, x2] d) (hd' : ∀ g, v.ownBlock = some g → RDevG g w [x1, x2] d) (n1 : New base x1) (n2 : New base x2) : OArr E w' base v' (a ++ [d]) := by
 obtain ⟨vs, hl, hown, hr, hn⟩ := h
 refine ⟨vs ++ [(x1, x2)], by simp [hl], ?_, ?_, fun i p hp => ?_⟩
 rotate_left 2
 ·by_cases hlt : i < vs.length
  ·rw [List.getElem?_append_left hlt] at hp
   exact hn i p hp
  ·rw [List.getElem?_append_right (by omega)] at hp
   have : i - vs.length = 0 := by
    have := (List.getElem?_eq_some_iff.1 hp).1
    simp at this; omega
   rw [this] at hp
   simp only [List.getElem?_cons_zero, Option.some.injEq] at hp
   subst hp
   exact ⟨n1, n2⟩
 ·have := ho _ hown
  simp only [List.length_append, List.length_cons, List.length_nil, Nat.zero_add, List.flatMap_append, List.flatMap_cons, List.flatMap_nil, List.append_nil, pair]
  exact this
 ·intro g hv i hi p hp
  have key : ∀ cs (d0 : Dev), RDev w cs d0 → (∀ g0, v.ownBlock = some g0 → RDevG g0 w cs d0) → RDevG g w' cs d0 := by
   intro cs d0 h1 h2
   have h3 : RDev w' cs d0 := h1.grown hg h2
   obtain ⟨A1, c1, A2, c2, e⟩ := h3.form
   have hav : RDevG g w cs d0 := by
    rcases hb with hb | hb
    ·exact h2 g (by rw [← hb]; exact hv)
    ·rw [hb] at hv; injection hv with hv; subst hv; exact h1.old (Nat.le_refl _)
   obtain ⟨B1, k1, B2, k2, e', _, r1, r2⟩ := hav
   exact ⟨B1, k1, B2, k2, e', h3, r1, r2⟩
  by_cases hlt : i < a.length
  ·rw [List.getElem?_append_left (by omega)] at hp
   rw [List.getElem_append_left hlt]
   have h1 := fun g0 h0 => hr g0 h0 i hlt p hp
   refine key _ _ ?_ h1
   have hne : ∃ g0, v.ownBlock = some g0 := by
    rcases hown.2 with ⟨_, hn⟩ | ⟨g0, _, _, hv0, _⟩
    ·omega
    ·exact ⟨g0, by rw [hv0]; rfl⟩
   obtain ⟨g0, hg0⟩ := hne
   exact (h1 g0 hg0).dev
  ·have hie : i = a.length := by simp at hi; omega
   subst hie
   rw [List.getElem?_append_right (by omega), hl, Nat.sub_self] at hp
   simp only [List.getElem?_cons_zero, Option.some.injEq] at hp
   subst hp
   rw [List.getElem_append_right (by omega)]
   simp only [Nat.sub_self, List.getElem_cons_zero]
   exact key _ _ hd hd'
theorem OArr.pushes {E : TypeId} {w : World} {base : Nat} {v : Value} {a : List Dev} (h : OArr E w base v a) :
  ∃ xs, w.ownsRow base E 2 v a.length xs ∧ ∀ (w' : World) (v' x1 x2 : Value) (d : Dev), w'.ownsRow base E 2 v' (a.length + 1) (xs ++ [x1, x2]) → w.grownBy w' v.ownBlock → (v'.ownBlock = v.ownBlock ∨ v'.ownBlock = some w.heap.size) →
   RDev w [x1, x2] d → (∀ g, v.ownBlock = some g → RDevG g w [x1, x2] d) → New base x1 → New base x2 → OArr E w' base v' (a ++ [d]) := by
 have h' := h
 obtain ⟨vs, hl, hown, hr, _⟩ := h'
 refine ⟨_, hown, fun w' v' x1 x2 d ho hg hb hd hd' n1 n2 => h.push (fun xs hxs => ?_) hg hb hd hd' n1 n2⟩
 have e : xs = vs.flatMap pair := by
  obtain ⟨l1, h1⟩ := hxs
  obtain ⟨l2, h2⟩ := hown
  rcases h1 with ⟨_, hn⟩ | ⟨g, cap, cur, hv, _, hg, _, _, _, ht⟩
  ·rw [hn] at l1 l2
   have q1 : xs = [] := List.eq_nil_of_length_eq_zero (by rw [l1, Nat.zero_mul])
   have q2 : vs.flatMap pair = [] := List.eq_nil_of_length_eq_zero (by rw [l2, Nat.zero_mul])
   rw [q1, q2]
  ·rcases h2 with ⟨hv2, _⟩ | ⟨g2, cap2, cur2, hv2, _, hg2, _, _, _, ht2⟩
   ·rw [hv] at hv2; cases hv2
   ·rw [hv] at hv2
    injection hv2 with e1 e2 e3
    injection e1 with e1
    injection e1 with e1
    subst e1
    rw [hg] at hg2
    injection hg2 with hg2
    injection hg2 with hg2
    subst hg2
    rw [← ht, ← ht2]
 rw [e]; exact ho
theorem Blk_.grown {w w' : World} {g : Nat} {t : TypeId} {cs : Array Value} {row : Option Nat} (h : Blk_ w g t cs) (hg : w.grownBy w' row) (hr : ∀ k, row = some k → k ≠ g) : Blk_ w' g t cs :=
 (hg.block g h.lt (fun e => hr g e.symm rfl)).trans h
section
variable {P : Program} (w : World)
theorem wp_append_at {o : Oper} {a : Act} {K : Act → World → Prop} {Q : Exit → Act → World → Prop} (s x : Operand) (t : TypeId)
  (ho : o.op = .call { callee := .builtin .append, args := #[s, x], argTypes := #[t, t] })
  (base : Nat) (e : TypeId) (i : TypeInfo) (z : Value) (size bytes : Nat) (ht : P.underlying t = some (.slice e)) (hi : P.info? e = some i) (hz : i.zero = some z)
  (hsize : i.size = size) (hby : i.bytes = bytes) (hzs : z.cells.size = size) (hsz : 0 < size)
  (v : Value) (n : Nat) (xs : List Value) (hs : a.eval s = v) (hown : w.ownsRow base e size v n xs)
  (ad : Addr) (m c : Nat) (news : List Value) (hx : a.eval x = .slice (some ad) m c) (hl : news.length = m * size) (hnews : ∀ (j : Nat) (u : Value), news[j]? = some u → w.cell? (ad.add j) = some u) (h1 : ∀ u ∈ news, u.oneCell' = true)
  (h63 : n + m ≤ maxLen) (hbytes : (n + m) * bytes ≤ 140737488355328) (hbase : base ≤ w.heap.size)
  (h : ∀ A' c' w', w'.ownsRow base e size (.slice A' (n + m) c') (n + m) (xs ++ news) → w.grownBy w' v.ownBlock → ((Value.slice A' (n + m) c').ownBlock = v.ownBlock ∨ (Value.slice A' (n + m) c').ownBlock = some w.heap.size) → K (a.put o.dst (.slice A' (n + m) c')) w') : o.wp P a w K Q := by
 obtain ⟨v', w', hrun, h2, h3, _, h5⟩ := run_append_own_at (P := P) w base t o.type e i z size bytes ht hi hz hsize hby hzs hsz v n xs hown ad m c news hl hnews h1 h63 hbytes hbase
 obtain ⟨A', c', hv⟩ := own_slice h2
 subst hv
 unfold Oper.wp execOp
 simp only [ho, resolve, invoke, builtin, Sem.run_bind, Sem.run_pure, Result.andThen_ok, List.map_toArray, List.map_cons, List.map_nil, hs, hx, hrun]
 exact h A' c' w' h2 h3 h5
theorem wpList_append_at {ops : Array Oper} {rest : List Oper} {o : Oper} {a : Act} {Q : Exit → Act → World → Prop} (hgd : o.guard = none) (s x : Operand) (t : TypeId)
  (ho : o.op = .call { callee := .builtin .append, args := #[s, x], argTypes := #[t, t] })
  (base : Nat) (e : TypeId) (i : TypeInfo) (z : Value) (size bytes : Nat) (ht : P.underlying t = some (.slice e)) (hi : P.info? e = some i) (hz : i.zero = some z)
  (hsize : i.size = size) (hby : i.bytes = bytes) (hzs : z.cells.size = size) (hsz : 0 < size)
  (v : Value) (n : Nat) (xs : List Value) (hs : a.eval s = v) (hown : w.ownsRow base e size v n xs)
  (ad : Addr) (m c : Nat) (news : List Value) (hx : a.eval x = .slice (some ad) m c) (hl : news.length = m * size) (hnews : ∀ (j : Nat) (u : Value), news[j]? = some u → w.cell? (ad.add j) = some u) (h1 : ∀ u ∈ news, u.oneCell' = true)
  (h63 : n + m ≤ maxLen) (hbytes : (n + m) * bytes ≤ 140737488355328) (hbase : base ≤ w.heap.size)
  (h : ∀ A' c' w', w'.ownsRow base e size (.slice A' (n + m) c') (n + m) (xs ++ news) → w.grownBy w' v.ownBlock → ((Value.slice A' (n + m) c').ownBlock = v.ownBlock ∨ (Value.slice A' (n + m) c').ownBlock = some w.heap.size) → wpList P ops Q rest (a.put o.dst (.slice A' (n + m) c')) w') : wpList P ops Q (o :: rest) a w :=
 wpList_plain hgd fun _ hK => wp_append_at w s x t ho base e i z size bytes ht hi hz hsize hby hzs hsz v n xs hs hown ad m c news hx hl hnews h1 h63 hbytes hbase fun A' c' w' h2 h3 h4 => hK _ _ (h A' c' w' h2 h3 h4)
end
theorem OArr.set {E : TypeId} {w : World} {base g : Nat} {n c : Nat} {a : List Dev} (h : OArr E w base (.slice (some ⟨g, 0, none⟩) n c) a) {i : Nat} (hi : i < a.length) {x1 x2 : Value} {d : Dev} (hd : RDevG g w [x1, x2] d) (n1 : New base x1) (n2 : New base x2) :
  OArr E ((w.setCell ⟨g, i * 2, none⟩ x1).setCell ⟨g, i * 2 + 1, none⟩ x2) base (.slice (some ⟨g, 0, none⟩) n c) (a.set i d) := by
 obtain ⟨vs, hl, ⟨hlen, ho⟩, hr, hn⟩ := h
 refine ⟨vs.set i (x1, x2), by simp [hl], ⟨?_, ?_⟩, ?_, fun k p hp => ?_⟩
 rotate_left 3
 ·rw [List.getElem?_set] at hp
  split at hp
  ·split at hp
   ·injection hp with hp; subst hp; exact ⟨n1, n2⟩
   ·cases hp
  ·exact hn k p hp
 ·rw [length_flatMap pair_len]; simp [hl]
 ·rcases ho with ⟨hv, _⟩ | ⟨g', cap, cur, hv, hb, hg, hnc, hm, hcs, htake⟩
  ·cases hv
  ·right
   injection hv with h1 h2 h3
   injection h1 with h1
   injection h1 with h1
   subst h1
   have hB : Blk_ w g E cur := hg
   have hB2 := (hB.set (i * 2) x1).set (i * 2 + 1) x2
   refine ⟨g, cap, (cur.setIfInBounds (i * 2) x1).setIfInBounds (i * 2 + 1) x2, by rw [h2, h3]; simp, hb, hB2, by simpa using hnc, hm, by simp [hcs], ?_⟩
   have hsz : a.length * 2 ≤ cur.size := by rw [hcs]; exact Nat.mul_le_mul_right _ hnc
   apply List.ext_getElem?
   intro j
   rw [List.length_set, List.getElem?_take]
   by_cases hj : j < a.length * 2
   ·rw [if_pos hj]
    have hq : j / 2 < vs.length := by omega
    have hmod : j % 2 < 2 := Nat.mod_lt _ (by decide)
    have hj2 : j / 2 * 2 + j % 2 = j := by omega
    have e1 := flatMap_at pair_len (vs.set i (x1, x2)) (j / 2) (j % 2) (by simpa using hq) hmod
    have e2 := flatMap_at pair_len vs (j / 2) (j % 2) hq hmod
    rw [hj2] at e1 e2
    rw [e1]
    have e3 : cur.toList[j]? = (pair vs[j / 2])[j % 2]? := by
     rw [← e2, ← htake, List.getElem?_take, if_pos hj]
    simp only [Array.toList_setIfInBounds, List.getElem?_set, List.length_set, Array.length_toList]
    rw [List.getElem_set]
    by_cases h1 : i * 2 + 1 = j
    ·rw [if_pos h1, if_pos (by omega), if_pos (by omega), show j % 2 = 1 by omega]; rfl
    ·rw [if_neg h1]
     by_cases h2 : i * 2 = j
     ·rw [if_pos h2, if_pos (by omega), if_pos (by omega), show j % 2 = 0 by omega]; rfl
     ·rw [if_neg h2, if_neg (by omega), e3]
   ·rw [if_neg hj, List.getElem?_eq_none]
    rw [length_flatMap pair_len]; simp; omega
 ·intro g' hg' k hk p hp
  have hgg : g' = g := by simp [Value.ownBlock] at hg'; exact hg'.symm
  subst hgg
  rw [List.getElem?_set] at hp
  have key : ∀ cs d0, RDevG g' w cs d0 → RDevG g' ((w.setCell ⟨g', i * 2, none⟩ x1).setCell ⟨g', i * 2 + 1, none⟩ x2) cs d0 := fun cs d0 h0 => (h0.far (p := ⟨g', i * 2, none⟩) x1).far (p := ⟨g', i * 2 + 1, none⟩) x2
  by_cases hki : i = k
  ·subst hki
   rw [if_pos rfl] at hp
   split at hp
   ·injection hp with hp; subst hp
    rw [List.getElem_set_self]
    exact key _ _ hd
   ·cases hp
  ·rw [if_neg hki] at hp
   rw [List.getElem_set_ne hki]
   exact key _ _ (hr g' (by simp [Value.ownBlock]) k (by simpa using hk) p hp)
end Go.Proofs.YtjadmfdlggnlgaaGreatDoor
namespace Go.Proofs.YtjadmfdlggnlgaaGreatDoor
set_option linter.unusedSimpArgs false
set_option linter.unusedVariables false
set_option maxRecDepth 100000
set_option maxHeartbeats 8000000
def lastForced (l : List Oper) (o : Oper) : Bool :=
 ((List.range l.length).all (fun j => o.after.any fun e => Region.binds .any e && e.on == j) && o.after.all (fun e => !Region.binds .any e || decide (e.on < l.length))) && o.guard.isNone &&
 (List.range l.length).all (fun i => ((l[i]?).map fun x => x.after.all (fun e => !Region.binds .any e || decide (e.on < i)) && (match x.guard with | none => true | some (j, _) => decide (j < l.length))).getD true)
def LastQ (P : Program) (o : Oper) (Q : Exit → Act → World → Prop) : Exit → Act → World → Prop
 | .normal, a, w => o.wp P a w (Q .normal) Q
 | e, a, w => Q e a w
section
variable {P : Program} {Q : Exit → Act → World → Prop} {l : List Oper} {o : Oper}
theorem wp_lastQ {x : Oper} {a : Act} {w : World} {K K' : Act → World → Prop} (h : ∀ a w, K a w → K' a w) (hh : x.wp P a w K (LastQ P o Q)) : x.wp P a w K' Q := by
 unfold Oper.wp at *
 generalize (execOp a.eval x).run P w = r at *
 cases r with
 | ok n w' =>
  cases n <;> simp only [Oper.upon] at hh ⊢ <;>
   first
    | exact h _ _ hh
    | exact Calls.mono hh (fun e w'' he => by cases e <;> first | exact h _ _ he | exact he)
    | exact Rows.mono hh (fun _ _ he => h _ _ he)
 | halt x w' => cases x <;> simp only [Oper.upon] at hh ⊢ <;> exact hh
theorem lets_lastQ (h : LetsOut (LastQ P o Q)) : LetsOut Q := h
theorem ready_mem {md : Region.Mode} {ops : Array Oper} {listed : Array Bool} {i : Nat} :
  i ∈ Region.ready md ops listed ↔ i < ops.size ∧ listed.getD i true = false ∧ ∃ x, ops[i]? = some x ∧ ∀ e ∈ x.after, Region.binds md e = true → listed.getD e.on false = true := by
 unfold Region.ready
 rw [List.mem_filter, List.mem_range]
 constructor
 ·rintro ⟨h1, h2⟩
  rw [Bool.and_eq_true, Bool.not_eq_true'] at h2
  obtain ⟨x, hx⟩ : ∃ x, ops[i]? = some x := ⟨ops[i], Array.getElem?_eq_getElem h1⟩
  refine ⟨h1, h2.1, x, hx, fun e he hb => ?_⟩
  have h3 := h2.2
  rw [hx] at h3
  simp only [Option.map_some, Option.getD_some, Array.all_eq_true_iff_forall_mem] at h3
  have := h3 e he
  simpa [hb] using this
 ·rintro ⟨h1, h2, x, hx, h3⟩
  refine ⟨h1, ?_⟩
  rw [Bool.and_eq_true, Bool.not_eq_true', hx]
  refine ⟨h2, ?_⟩
  simp only [Option.map_some, Option.getD_some, Array.all_eq_true_iff_forall_mem]
  intro e he
  by_cases hb : Region.binds md e = true
  ·simp [h3 e he hb]
  ·simp [hb]
theorem getD_push_lt {b : Array Bool} {i : Nat} (h : i < b.size) (d : Bool) : (b.push false).getD i d = b.getD i d := by
 simp [Array.getD_eq_getD_getElem?, Array.getElem?_push, Nat.ne_of_lt h]
theorem getD_push_eq {b : Array Bool} {n : Nat} (h : b.size = n) (d : Bool) : (b.push false).getD n d = false := by
 subst h
 simp [Array.getD_eq_getD_getElem?, Array.getElem?_push]
theorem set_push {b : Array Bool} {i : Nat} (h : i < b.size) : (b.push false).setIfInBounds i true = (b.setIfInBounds i true).push false := by
 apply Array.ext_getElem?
 intro k
 simp only [Array.getElem?_setIfInBounds, Array.getElem?_push, Array.size_setIfInBounds, Array.size_push]
 by_cases h1 : i = k
 ·subst h1
  simp [h, Nat.ne_of_lt h]
  omega
 ·simp [h1]
theorem wanted_last (hg : ∀ (x : Oper) j b, x.guard = some (j, b) → j < l.length → True) {x : Oper} (h : ∀ j b, x.guard = some (j, b) → j < l.length) (tmps : Array Value) :
  Region.wanted x (yielded (l ++ [o]).toArray tmps) = Region.wanted x (yielded l.toArray tmps) := by
 unfold Region.wanted
 cases hx : x.guard with
 | none => rfl
 | some p =>
  obtain ⟨j, b⟩ := p
  have hj := h j b hx
  have : (l ++ [o]).toArray[j]? = l.toArray[j]? := by simp [List.getElem?_append_left hj]
  simp only [yielded, this]
theorem ready_done {ops : Array Oper} {listed : Array Bool} (h : ∀ i, i < ops.size → listed.getD i true = true) : Region.ready .any ops listed = [] := by
 apply List.eq_nil_iff_forall_not_mem.2
 intro i hi
 obtain ⟨h1, h2, _⟩ := ready_mem.1 hi
 rw [h i h1] at h2
 cases h2
theorem wpAny_last (hf : lastForced l o = true) : ∀ (fuel : Nat) (listed : Array Bool) (a : Act) (w : World), listed.size = l.length →
  wpAny P .any l.toArray (LastQ P o Q) fuel listed a w → wpAny P .any (l ++ [o]).toArray Q (fuel + 1) (listed.push false) a w := by
 unfold lastForced at hf
 rw [Bool.and_eq_true, Bool.and_eq_true, Bool.and_eq_true] at hf
 obtain ⟨⟨⟨hwait, hin⟩, hguard⟩, hback⟩ := hf
 have hwait' : ∀ j, j < l.length → ∃ e ∈ o.after, Region.binds .any e = true ∧ e.on = j := by
  intro j hj
  have := List.all_eq_true.1 hwait j (List.mem_range.2 hj)
  rw [Array.any_eq_true'] at this
  obtain ⟨e, he, h⟩ := this
  rw [Bool.and_eq_true, beq_iff_eq] at h
  exact ⟨e, he, h.1, h.2⟩
 have hin' : ∀ e ∈ o.after, Region.binds .any e = true → e.on < l.length := by
  intro e he hb
  rw [Array.all_eq_true_iff_forall_mem] at hin
  have := hin e he
  simpa [hb] using this
 have hback' : ∀ i x, l[i]? = some x → (∀ e ∈ x.after, Region.binds .any e = true → e.on < i) ∧ (∀ j b, x.guard = some (j, b) → j < l.length) := by
  intro i x hx
  have hi : i < l.length := (List.getElem?_eq_some_iff.1 hx).1
  have := List.all_eq_true.1 hback i (List.mem_range.2 hi)
  rw [hx] at this
  simp only [Option.map_some, Option.getD_some, Bool.and_eq_true, Array.all_eq_true_iff_forall_mem] at this
  refine ⟨fun e he hb => ?_, fun j b hg => ?_⟩
  ·have := this.1 e he
   simpa [hb] using this
  ·have := this.2
   rw [hg] at this
   simpa using this
 have hops : ∀ i, i < l.length → (l ++ [o]).toArray[i]? = l.toArray[i]? := by
  intro i hi
  simp [List.getElem?_append_left hi]
 have hlast : (l ++ [o]).toArray[l.length]? = some o := by simp
 have hgn : o.guard = none := by cases h : o.guard <;> simp_all
 have final : ∀ (fuel : Nat) (listed : Array Bool) (a : Act) (w : World), listed.size = l.length → Region.ready .any l.toArray listed = [] → LastQ P o Q .normal a w →
   wpAny P .any (l ++ [o]).toArray Q (fuel + 1) (listed.push false) a w := by
  intro fuel listed a w hsz hr hq
  have hall : ∀ i, i < l.length → listed.getD i true = true := by
   intro i
   induction i using Nat.strongRecOn with
   | ind i ih =>
    intro hi
    cases hb : listed.getD i true with
    | true => rfl
    | false =>
     have : i ∈ Region.ready .any l.toArray listed := by
      rw [ready_mem]
      refine ⟨by simpa using hi, hb, l[i], by simp [hi], fun e he hbd => ?_⟩
      have hlt := (hback' i _ (List.getElem?_eq_getElem hi)).1 e he hbd
      have := ih e.on hlt (by omega)
      have hin : e.on < listed.size := by omega
      simpa [Array.getD_eq_getD_getElem?, hin] using this
     rw [hr] at this
     cases this
  have hlastready : ∀ i, i ∈ Region.ready .any (l ++ [o]).toArray (listed.push false) → i = l.length := by
   intro i hi
   obtain ⟨h1, h2, _⟩ := ready_mem.1 hi
   simp at h1
   by_cases he : i = l.length
   ·exact he
   ·have hlt : i < l.length := by omega
    rw [getD_push_lt (by omega)] at h2
    rw [hall i hlt] at h2
    cases h2
  have hmem : l.length ∈ Region.ready .any (l ++ [o]).toArray (listed.push false) := by
   rw [ready_mem]
   refine ⟨by simp, getD_push_eq hsz true, o, hlast, fun e he hbd => ?_⟩
   have hlt := hin' e he hbd
   have := hall e.on hlt
   rw [getD_push_lt (by omega)]
   have hin : e.on < listed.size := by omega
   simpa [Array.getD_eq_getD_getElem?, hin] using this
  refine ⟨fun h => (by rw [h] at hmem; cases hmem), fun i hi => ?_⟩
  have hie := hlastready i hi
  subst hie
  unfold wpOp
  rw [hlast]
  simp only
  rw [if_pos (by simp [Region.wanted, hgn])]
  left
  refine Oper.wp_mono (fun a' w' hq' => ?_) hq
  have hdone : Region.ready .any (l ++ [o]).toArray ((listed.push false).setIfInBounds l.length true) = [] := by
   apply ready_done
   intro i hi
   simp at hi
   by_cases he : i = l.length
   ·subst he
    simp [Array.getD_eq_getD_getElem?, hsz]
   ·have hlt : i < l.length := by omega
    have := hall i hlt
    have hin : i < listed.size := by omega
    simp [Array.getD_eq_getD_getElem?, hin] at this
    simp [Array.getD_eq_getD_getElem?, Array.getElem?_setIfInBounds, Ne.symm he, Array.getElem?_push, Nat.ne_of_lt hin, hin, this]
  cases fuel with
  | zero => exact ⟨hdone, hq'⟩
  | succ fuel => exact ⟨fun _ => hq', by rw [hdone]; simp⟩
 intro fuel
 induction fuel with
 | zero => exact fun listed a w hsz h => final 0 listed a w hsz h.1 h.2
 | succ fuel ih =>
  intro listed a w hsz h
  by_cases hr : Region.ready .any l.toArray listed = []
  ·exact final (fuel + 1) listed a w hsz hr (h.1 hr)
  ·have hsub : ∀ i, i ∈ Region.ready .any l.toArray listed → i ∈ Region.ready .any (l ++ [o]).toArray (listed.push false) := by
    intro i hi
    obtain ⟨h1, h2, x, hx, h3⟩ := ready_mem.1 hi
    simp at h1
    rw [ready_mem]
    refine ⟨by simp; omega, by rw [getD_push_lt (by omega)]; exact h2, x, by rw [hops i h1]; exact hx, fun e he hb => ?_⟩
    have hlt := (hback' i x (by simpa using hx)).1 e he hb
    rw [getD_push_lt (by omega)]
    exact h3 e he hb
   have hsup : ∀ i, i ∈ Region.ready .any (l ++ [o]).toArray (listed.push false) → i ∈ Region.ready .any l.toArray listed := by
    intro i hi
    obtain ⟨h1, h2, x, hx, h3⟩ := ready_mem.1 hi
    simp at h1
    have hlt : i < l.length := by
     rcases Nat.lt_or_ge i l.length with h | h
     ·exact h
     ·exfalso
      have hie : i = l.length := by omega
      subst hie
      rw [hlast] at hx
      injection hx with hx
      subst hx
      obtain ⟨j, hj⟩ := List.exists_mem_of_ne_nil _ hr
      obtain ⟨g1, g2, _⟩ := ready_mem.1 hj
      simp at g1
      obtain ⟨e, he, hb, heq⟩ := hwait' j g1
      have := h3 e he hb
      rw [heq, getD_push_lt (by omega)] at this
      have hin : j < listed.size := by omega
      simp [Array.getD_eq_getD_getElem?, hin] at this g2
      rw [this] at g2
      cases g2
    rw [ready_mem]
    refine ⟨by simpa using hlt, by rw [getD_push_lt (by omega)] at h2; exact h2, x, by rw [← hops i hlt]; exact hx, fun e he hb => ?_⟩
    have hlt' := (hback' i x (by rw [hops i hlt] at hx; simpa using hx)).1 e he hb
    have := h3 e he hb
    rwa [getD_push_lt (by omega)] at this
   refine ⟨fun h0 => ?_, fun i hi => ?_⟩
   ·obtain ⟨j, hj⟩ := List.exists_mem_of_ne_nil _ hr
    have := hsub j hj
    rw [h0] at this
    cases this
   ·have hi' := hsup i hi
    have hw := h.2 i hi'
    obtain ⟨h1, h2, x, hx, h3⟩ := ready_mem.1 hi'
    simp at h1
    have hb := hback' i x (by simpa using hx)
    have hset : (listed.push false).setIfInBounds i true = (listed.setIfInBounds i true).push false := by
     exact set_push (by omega)
    have hgo : ∀ a' w', wpAny P .any l.toArray (LastQ P o Q) fuel (listed.setIfInBounds i true) a' w' → wpAny P .any (l ++ [o]).toArray Q (fuel + 1) ((listed.push false).setIfInBounds i true) a' w' := by
     intro a' w' h'
     rw [hset]
     exact ih _ _ _ (by simpa using hsz) h'
    unfold wpOp at hw ⊢
    rw [hx] at hw
    rw [hops i h1, hx]
    simp only at hw ⊢
    rw [wanted_last (fun _ _ _ _ _ => trivial) hb.2]
    split
    ·rename_i hwant
     rw [if_pos hwant] at hw
     rcases hw with hw | ⟨h4, h5⟩
     ·exact .inl (wp_lastQ hgo hw)
     ·exact .inr ⟨h4, lets_lastQ h5⟩
    ·rename_i hwant
     rw [if_neg hwant] at hw
     exact hgo _ _ hw
theorem wpAny_dropLast {L : List Oper} (hL : L.getLast? = some o) (hf : lastForced L.dropLast o = true) {n : Nat} {a : Act} {w : World} (hn : L.length = n + 1)
  (h : wpAny P .any L.dropLast.toArray (LastQ P o Q) n (Array.replicate n false) a w) : wpAny P .any L.toArray Q L.toArray.size (Array.replicate L.toArray.size false) a w := by
 have hne : L ≠ [] := by intro e; rw [e] at hL; cases hL
 have hl : L.dropLast ++ [o] = L := by
  have := List.dropLast_concat_getLast hne
  rw [List.getLast?_eq_some_getLast hne] at hL
  injection hL with hL
  rwa [hL] at this
 have h2 := wpAny_last hf n (Array.replicate n false) a w (by simp [hn]) h
 rw [hl] at h2
 have e1 : L.toArray.size = n + 1 := by simp [hn]
 rw [e1]
 rwa [show (Array.replicate (n + 1) false) = (Array.replicate n false).push false from Array.replicate_succ]
theorem getLast_of_reverse {L r : List Oper} (h : L.reverse = o :: r) : L.getLast? = some o := by
 rw [← List.head?_reverse, h]; rfl
theorem at_of_drop {L tl : List Oper} {i : Nat} {x : Oper} (h : L.drop i = x :: tl) : L.toArray[i]? = some x := by
 have := List.getElem?_drop (xs := L) (i := i) (j := 0)
 rw [h] at this
 simpa using this.symm
theorem wp_region_begin {id : Nat} {L r : List Oper} {S : World → Prop} {n : Nat} {a : Act} {w : World} (hm : P.follows .mixedOrders = true) (hL : L.reverse = o :: r) (hf : lastForced L.dropLast o = true) (hn : L.length = n + 1)
  (h : wpAnyH P .any L.dropLast.toArray (LastQ P o Q) S n (Array.replicate n false) a w.drew) : (Code.region id L.toArray true).wp P Q a w :=
 wp_region_any hm (wpAny_dropLast (getLast_of_reverse hL) hf hn (wpAny_of_held _ _ _ _ h))
theorem wpAnyH_takeL {L tl : List Oper} {S : World → Prop} {i : Nat} {x : Oper} {v : Value} {fuel : Nat} {listed : Array Bool} {a : Act} {w : World} (hi : L.drop i = x :: tl)
  (hs : (Region.noSelect L.toArray && Region.free .any L.toArray listed i && (Region.ready .any L.toArray listed).contains i) = true)
  (hQ : ∀ c a w, Q (.panic c) (a.put x.dst v) w → Q (.panic c) a w) (hw : Region.wanted x (yielded L.toArray a.tmps) = true) (hy : ∀ w', S w' → (execOp a.eval x).run P w' = .ok (.value v) w') (hS : S w)
  (h : wpAnyH P .any L.toArray Q S fuel (listed.setIfInBounds i true) (a.put x.dst v) w) : wpAnyH P .any L.toArray Q S (fuel + 1) listed a w := by
 rw [Bool.and_eq_true, Bool.and_eq_true] at hs
 exact wpAnyH_take (at_of_drop hi) hs.1.1 hs.1.2 hs.2 hQ (.inl ⟨hw, hy⟩) hS h
theorem tkL {L tl : List Oper} {S : World → Prop} (i : Nat) {x : Oper} {v : Value} {fuel : Nat} {listed : Array Bool} {a : Act} {w : World} (hi : L.drop i = x :: tl) (hy : ∀ w', S w' → (execOp a.eval x).run P w' = .ok (.value v) w') (hS : S w)
  (h : wpAnyH P .any L.toArray Q S fuel (listed.setIfInBounds i true) (a.put x.dst v) w) (hw : Region.wanted x (yielded L.toArray a.tmps) = true := by rfl)
  (hs : (Region.noSelect L.toArray && Region.free .any L.toArray listed i && (Region.ready .any L.toArray listed).contains i) = true := by kernel_rfl)
  (hQ : ∀ c a w, Q (.panic c) (a.put x.dst v) w → Q (.panic c) a w := by exact fun _ _ _ h => h) : wpAnyH P .any L.toArray Q S (fuel + 1) listed a w :=
 wpAnyH_takeL hi hs hQ hw hy hS h
theorem wpAnyH_oneL {L tl : List Oper} {S : World → Prop} {i : Nat} {x : Oper} {fuel : Nat} {listed : Array Bool} {a : Act} {w : World} (hi : L.drop i = x :: tl)
  (hr : Region.ready .any L.toArray listed = [i]) (hw : Region.wanted x (yielded L.toArray a.tmps) = true)
  (h : ∀ K : Act → World → Prop, (∀ a' w', S w' → wpAnyH P .any L.toArray Q S fuel (listed.setIfInBounds i true) a' w' → K a' w') → x.wp P a w K Q) : wpAnyH P .any L.toArray Q S (fuel + 1) listed a w := by
 refine wpAnyH_all hr (by simp) (fun j hj => ?_)
 obtain rfl := List.mem_singleton.1 hj
 unfold wpOp
 rw [at_of_drop hi]
 simp only
 rw [if_pos hw]
 exact .inl (h _ fun _ _ h1 h2 => ⟨h1, h2⟩)
theorem wpAnyH_endL {L : List Oper} {S : World → Prop} {fuel : Nat} {listed : Array Bool} {a : Act} {w : World} (hr : Region.ready .any L.toArray listed = [])
  (h : ∀ K : Act → World → Prop, (∀ a' w', Q .normal a' w' → K a' w') → o.wp P a w K Q) : wpAnyH P .any L.toArray (LastQ P o Q) S fuel listed a w :=
 wpAnyH_done hr (h _ fun _ _ h => h) _
end
end Go.Proofs.YtjadmfdlggnlgaaGreatDoor
