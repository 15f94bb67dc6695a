/-
  device.at and the document's touched: may a sector be touched? device.Read and the document's DeviceRead; the law DeviceReads. Conditions: the argument reads as a device.
-/
import Derived.Test.YtjadmfdlggnlgaaGreatDoorV3
import Derived.Laws.OwnMore
import Derived.OneCell
import Derived.Shelf.Strings.Repeat
import Derived.Test.YtjadmfdlggnlgaaGreatDoorProg
namespace Go.Proofs.YtjadmfdlggnlgaaGreatDoor
set_option linter.unusedSimpArgs false
set_option linter.unusedVariables false
set_option maxRecDepth 100000
set_option maxHeartbeats 8000000
open Go.RowKit
theorem RDev.look {w : World} {A1 A2 : Option Addr} {c1 c2 : Nat} {d : Dev} (h : RDev w [.slice A1 d.sec.length c1, .slice A2 d.lost.length c2] d) (k : Nat) (h1 : k < d.sec.length) (h2 : k < d.lost.length) :
  ∃ b1 o1 b2 o2, A1 = some ⟨b1, o1, none⟩ ∧ A2 = some ⟨b2, o2, none⟩ ∧ w.cell? ⟨b1, o1 + k, none⟩ = some (.string (d.sec.getD k .empty)) ∧ w.cell? ⟨b2, o2 + k, none⟩ = some (.bool (d.lost.getD k false)) ∧ (d.sec.getD k .empty).size ≤ 140737488355328 := by
 obtain ⟨v1, v2, e, r1, r2⟩ := h
 obtain ⟨A, cc, rfl, _, _, g1⟩ := r1.row
 obtain ⟨B, cd, rfl, _, _, g2⟩ := r2.row
 obtain ⟨b1, o1, rfl, p1⟩ := g1 k h1
 obtain ⟨b2, o2, rfl, p2⟩ := g2 k h2
 obtain ⟨u1, q1, t1⟩ := p1 k h1
 obtain ⟨u2, q2, t2⟩ := p2 k h2
 simp only [List.cons.injEq, Value.slice.injEq, and_true, true_and] at e
 obtain ⟨⟨rfl, _⟩, rfl, _⟩ := e
 have e1 : d.sec.getD k .empty = d.sec[k] := by simp [h1]
 have e2 : d.lost.getD k false = d.lost[k] := by simp [h2]
 rw [e1, e2]
 have s1 := t1.2
 obtain rfl : u1 = .string d.sec[k] := by have := t1.1; simpa using this
 obtain rfl : u2 = .bool d.lost[k] := by have : [u2] = [Value.bool d.lost[k]] := t2; simpa using this
 exact ⟨b1, o1, b2, o2, rfl, rfl, q1, q2, s1⟩
def touchCode (d : Dev) (n : Int) : Int := if devMay d then (if inB n 0 ((d.sec.length : Int) - 1) then 0 else 6) else 9
theorem devAt_any (cs : List Value) (d : Dev) (n : Int) (w : World) (h : RDev w cs d) (hn : I64 n) :
  Calls Tryz.prog 115 #[.agg cs.toArray, .int .i64 n] w fun e w' => e = .returned (.int .i64 (touchCode d n)) ∧ Ext w w' := by
 obtain ⟨A1, c1, A2, c2, rfl⟩ := h.form
 go_enter Tryz.func115, Tryz.ntmps115
 go_wp2_with fail
 refine calls_abs (fun W => Ext w W ∧ Blk_ W w.heap.size 35 #[.slice A1 d.sec.length c1, .slice A2 d.lost.length c2]) ⟨(Ext.refl _).alloc _, Blk_.new _ _ _⟩ ?_
 rintro W ⟨hx, hb⟩
 refine (devCheck_any [.slice A1 d.sec.length c1, .slice A2 d.lost.length c2] d W (h.up hx)).mono ?_
 rintro e w1 ⟨rfl, hx1⟩
 have hb1 := hb.ext hx1
 have f0 := hb1.cell 0
 have f1 := hb1.cell 1
 simp at f0 f1
 clear h
 cases hm : devMay d with
 | false =>
  have hf : devCode d = 9 := by unfold devCode; rw [hm]; rfl
  have hf2 : touchCode d n = 9 := by unfold touchCode; rw [hm]; rfl
  have HF := Lib.hid hf2
  rw [hf]
  clear hm hf hf2
  go_wp2
  go_ret
  exact ⟨ret_int HF.out.symm, hx.trans hx1⟩
 | true =>
  have hf : devCode d = 0 := by unfold devCode; rw [hm]; rfl
  have hf2 : touchCode d n = if inB n 0 ((d.sec.length : Int) - 1) then 0 else 6 := by unfold touchCode; rw [hm]; rfl
  rw [hf]
  clear hm hf
  by_cases k1 : n < 0
  ·have k1' : decide (n < 0) = true := by simp; omega
   have hr : inB n 0 ((d.sec.length : Int) - 1) = false := by simp [inB]; omega
   rw [hr] at hf2
   have HF := Lib.hid hf2
   clear hr hf2
   go_wp2
   go_ret
   exact ⟨ret_int HF.out.symm, hx.trans hx1⟩
  ·have k1' : decide (n < 0) = false := by simp; omega
   by_cases k2 : (d.sec.length : Int) ≤ n
   ·have k2' : decide ((d.sec.length : Int) ≤ n) = true := by simp; omega
    have hr : inB n 0 ((d.sec.length : Int) - 1) = false := by simp [inB]; omega
    rw [hr] at hf2
    have HF := Lib.hid hf2
    clear hr hf2
    go_wp2
    go_ret
    exact ⟨ret_int HF.out.symm, hx.trans hx1⟩
   ·have k2' : decide ((d.sec.length : Int) ≤ n) = false := by simp; omega
    have hr : inB n 0 ((d.sec.length : Int) - 1) = true := by simp [inB]; omega
    rw [hr] at hf2
    have HF := Lib.hid hf2
    clear hr hf2
    go_wp2
    go_ret
    exact ⟨ret_int HF.out.symm, hx.trans hx1⟩
theorem touched_any (cs : List Value) (d : Dev) (n : Int) (w : World) (h : RDev w cs d) (hn : I64 n) :
  Calls Tryz.prog 113 #[.agg cs.toArray, .int .i64 n] w fun e w' => e = .returned (.int .i64 (touchCode d n)) ∧ Ext w w' := by
 obtain ⟨A1, c1, A2, c2, rfl⟩ := h.form
 go_enter Tryz.func113, Tryz.ntmps113
 go_wp2_with fail
 refine calls_abs (fun W => Ext w W ∧ Blk_ W w.heap.size 35 #[.slice A1 d.sec.length c1, .slice A2 d.lost.length c2]) ⟨(Ext.refl _).alloc _, Blk_.new _ _ _⟩ ?_
 rintro W ⟨hx, hb⟩
 refine (devMay_any [.slice A1 d.sec.length c1, .slice A2 d.lost.length c2] d W (h.up hx)).mono ?_
 rintro e w1 ⟨rfl, hx1⟩
 have hb1 := hb.ext hx1
 have f0 := hb1.cell 0
 have f1 := hb1.cell 1
 simp at f0 f1
 clear h
 cases hm : devMay d with
 | false =>
  have hf2 : touchCode d n = 9 := by unfold touchCode; rw [hm]; rfl
  have HF := Lib.hid hf2
  clear hm hf2
  go_wp2
  go_ret
  exact ⟨ret_int HF.out.symm, hx.trans hx1⟩
 | true =>
  have hf2 : touchCode d n = if inB n 0 ((d.sec.length : Int) - 1) then 0 else 6 := by unfold touchCode; rw [hm]; rfl
  obtain ⟨m1, m2, _, _⟩ := devMay_len hm
  clear hm
  cases hr : inB n 0 ((d.sec.length : Int) - 1) with
  | true =>
   obtain ⟨k2, k3⟩ := inB_true hr
   rw [hr] at hf2
   have HF := Lib.hid hf2
   clear hr hf2
   go_wp2_with (go_at_call 55; refine (in_true _ _ _ _ k2 k3).mono ?_; rintro e w1 ⟨rfl, rfl⟩)
   go_ret
   exact ⟨ret_int HF.out.symm, hx.trans hx1⟩
  | false =>
   have k2 := inB_false hr
   rw [hr] at hf2
   have HF := Lib.hid hf2
   clear hr hf2
   go_wp2_with (go_at_call 55; refine (in_false _ _ _ _ k2).mono ?_; rintro e w1 ⟨rfl, rfl⟩)
   go_ret
   exact ⟨ret_int HF.out.symm, hx.trans hx1⟩
def readS (d : Dev) (n no : Int) : ByteArray × Int :=
 if touchCode d n = 0 then (if d.lost.getD n.toNat false then (.empty, 11) else decodeS no (d.sec.getD n.toNat .empty)) else (.empty, touchCode d n)
theorem touch_zero {d : Dev} {n : Int} (h : touchCode d n = 0) : devMay d = true ∧ 0 ≤ n ∧ n < d.sec.length := by
 unfold touchCode at h
 split at h
 ·rename_i hm
  split at h
  ·rename_i hr
   obtain ⟨a, b⟩ := inB_true hr
   exact ⟨hm, a, by omega⟩
  ·omega
 ·omega
theorem devRead_any (cs : List Value) (d : Dev) (n no : Int) (w : World) (h : RDev w cs d) (hn : I64 n) (ho : I64 no) :
  Calls Tryz.prog 92 #[.agg cs.toArray, .int .i64 n, .int .i64 no] w fun e w' => e = .returned (.tuple #[.string (readS d n no).1, .int .i64 (readS d n no).2]) ∧ Ext w w' := by
 obtain ⟨A1, c1, A2, c2, rfl⟩ := h.form
 go_enter Tryz.func92, Tryz.ntmps92
 go_wp2_with fail
 refine calls_abs (fun W => Ext w W ∧ Blk_ W w.heap.size 35 #[.slice A1 d.sec.length c1, .slice A2 d.lost.length c2]) ⟨(Ext.refl _).alloc _, Blk_.new _ _ _⟩ ?_
 rintro W ⟨hx, hb⟩
 refine (devAt_any [.slice A1 d.sec.length c1, .slice A2 d.lost.length c2] d n W (h.up hx) hn).mono ?_
 rintro e w1 ⟨rfl, hx1⟩
 have hb1 := hb.ext hx1
 have f0 := hb1.cell 0
 have f1 := hb1.cell 1
 simp at f0 f1
 have hr1 := h.up (hx.trans hx1)
 clear h
 by_cases hc : touchCode d n = 0
 ·obtain ⟨hm, n0, n1⟩ := touch_zero hc
  obtain ⟨m1, m2, m3, m4⟩ := devMay_len hm
  obtain ⟨k, rfl⟩ := Int.eq_ofNat_of_zero_le n0
  have hk : k < d.sec.length := by omega
  have hk2 : k < d.lost.length := by omega
  have hk2' : (k : Int) < (d.lost.length : Int) := by omega
  obtain ⟨b1, o1, b2, o2, rfl, rfl, q1, q2, s1⟩ := hr1.look k hk hk2
  have hf : readS d k no = if d.lost.getD k false then (.empty, 11) else decodeS no (d.sec.getD k .empty) := by unfold readS; rw [if_pos hc]; rfl
  rw [hc]
  clear hc m4 m3 hm hr1
  cases hl : d.lost.getD k false with
  | true =>
   rw [hl] at q2 hf
   have HF := Lib.hid hf
   clear hf hl
   go_wp2_with fail
   go_ret2
   exact ⟨by rw [HF.out]; rfl, hx.trans hx1⟩
  | false =>
   rw [hl] at q2 hf
   have HF := Lib.hid hf
   clear hf hl
   generalize d.sec.getD k .empty = s at *
   go_wp2_with fail
   refine (decode_any no s _ s1 ho).mono ?_
   rintro e w2 ⟨rfl, hx2⟩
   go_wp2_with fail
   go_ret2
   exact ⟨by rw [HF.out]; rfl, (hx.trans hx1).trans hx2⟩
 ·have hf : readS d n no = (.empty, touchCode d n) := by unfold readS; rw [if_neg hc]
  have hc' : (touchCode d n != 0) = true := by simpa using hc
  have HF := Lib.hid hf
  clear hf hc hr1
  generalize touchCode d n = t at *
  go_wp2_with fail
  go_ret2
  exact ⟨by rw [HF.out]; rfl, hx.trans hx1⟩
theorem deviceRead_any (cs : List Value) (d : Dev) (n no : Int) (w : World) (h : RDev w cs d) (hn : I64 n) (ho : I64 no) :
  Calls Tryz.prog 111 #[.agg cs.toArray, .int .i64 n, .int .i64 no] w fun e w' => e = .returned (.tuple #[.string (readS d n no).1, .int .i64 (readS d n no).2]) ∧ Ext w w' := by
 obtain ⟨A1, c1, A2, c2, rfl⟩ := h.form
 go_enter Tryz.func111, Tryz.ntmps111
 go_wp2_with fail
 refine calls_abs (fun W => Ext w W ∧ Blk_ W w.heap.size 35 #[.slice A1 d.sec.length c1, .slice A2 d.lost.length c2]) ⟨(Ext.refl _).alloc _, Blk_.new _ _ _⟩ ?_
 rintro W ⟨hx, hb⟩
 refine (touched_any [.slice A1 d.sec.length c1, .slice A2 d.lost.length c2] d n W (h.up hx) hn).mono ?_
 rintro e w1 ⟨rfl, hx1⟩
 have hb1 := hb.ext hx1
 have f0 := hb1.cell 0
 have f1 := hb1.cell 1
 simp at f0 f1
 have hr1 := h.up (hx.trans hx1)
 clear h
 by_cases hc : touchCode d n = 0
 ·obtain ⟨hm, n0, n1⟩ := touch_zero hc
  obtain ⟨m1, m2, m3, m4⟩ := devMay_len hm
  obtain ⟨k, rfl⟩ := Int.eq_ofNat_of_zero_le n0
  have hk : k < d.sec.length := by omega
  have hk2 : k < d.lost.length := by omega
  have hk2' : (k : Int) < (d.lost.length : Int) := by omega
  obtain ⟨b1, o1, b2, o2, rfl, rfl, q1, q2, s1⟩ := hr1.look k hk hk2
  have hf : readS d k no = if d.lost.getD k false then (.empty, 11) else decodeS no (d.sec.getD k .empty) := by unfold readS; rw [if_pos hc]; rfl
  rw [hc]
  clear hc m4 m3 hm hr1
  cases hl : d.lost.getD k false with
  | true =>
   rw [hl] at q2 hf
   have HF := Lib.hid hf
   clear hf hl
   go_wp2_with fail
   go_ret2
   exact ⟨by rw [HF.out]; rfl, hx.trans hx1⟩
  | false =>
   rw [hl] at q2 hf
   have HF := Lib.hid hf
   clear hf hl
   generalize d.sec.getD k .empty = s at *
   go_wp2_with fail
   refine (payloadOf_any no s _ s1 ho).mono ?_
   rintro e w2 ⟨rfl, hx2⟩
   go_wp2_with fail
   go_ret2
   exact ⟨by rw [HF.out]; rfl, (hx.trans hx1).trans hx2⟩
 ·have hf : readS d n no = (.empty, touchCode d n) := by unfold readS; rw [if_neg hc]
  have hc' : (touchCode d n != 0) = true := by simpa using hc
  have hc2 : (touchCode d n == 0) = false := by simpa using hc
  have HF := Lib.hid hf
  clear hf hc hr1
  generalize touchCode d n = t at *
  go_wp2_with fail
  go_ret2
  exact ⟨by rw [HF.out]; rfl, hx.trans hx1⟩
def ODev (S L : TypeId) (w : World) (base : Nat) (v1 v2 : Value) (d : Dev) : Prop :=
 w.ownsRow base S 1 v1 d.sec.length (d.sec.flatMap encStr) ∧ w.ownsRow base L 1 v2 d.lost.length (d.lost.flatMap encBool) ∧ d.sec.length * 16 ≤ 140737488355328 ∧ d.lost.length ≤ 140737488355328 ∧ ∀ s ∈ d.sec, s.size ≤ 140737488355328
theorem ODev.ext {S L : TypeId} {w w' : World} {base : Nat} {v1 v2 : Value} {d : Dev} (h : ODev S L w base v1 v2 d) (k : Ext w w') : ODev S L w' base v1 v2 d := ⟨own_ext h.1 k, own_ext h.2.1 k, h.2.2⟩
theorem ODev.base {S L : TypeId} {w : World} {base base' : Nat} {v1 v2 : Value} {d : Dev} (h : ODev S L w base v1 v2 d) (hb : base' ≤ base) : ODev S L w base' v1 v2 d := ⟨own_base h.1 hb, own_base h.2.1 hb, h.2.2⟩
theorem ODev.far {S L : TypeId} {w : World} {base : Nat} {v1 v2 : Value} {d : Dev} (h : ODev S L w base v1 v2 d) {p : Addr} (hp : p.block < base) (u : Value) : ODev S L (w.setCell p u) base v1 v2 d :=
 ⟨ownsRow_setCell_below h.1 hp u, ownsRow_setCell_below h.2.1 hp u, h.2.2⟩
theorem ODev.new1 {S L : TypeId} {w : World} {base : Nat} {v1 v2 : Value} {d : Dev} (h : ODev S L w base v1 v2 d) : New base v1 := New.own h.1
theorem ODev.new2 {S L : TypeId} {w : World} {base : Nat} {v1 v2 : Value} {d : Dev} (h : ODev S L w base v1 v2 d) : New base v2 := New.own h.2.1
theorem ODev.dev {S L : TypeId} {w : World} {base : Nat} {v1 v2 : Value} {d : Dev} (h : ODev S L w base v1 v2 d) : RDev w [v1, v2] d :=
 ⟨v1, v2, rfl, SlR.of_own encStr_ok h.1 h.2.2.1 (fun a ha => ⟨rfl, h.2.2.2.2 a ha⟩), SlR.of_own encBool_ok h.2.1 (by have := h.2.2.2.1; omega) (fun a ha => rfl)⟩
theorem flat_str_set (l : List ByteArray) (k : Nat) (s : ByteArray) : (l.set k s).flatMap encStr = (l.flatMap encStr).set k (.string s) := by
 induction l generalizing k with
 | nil => rfl
 | cons a l ih =>
  cases k with
  | zero => rfl
  | succ k => simp only [List.set_cons_succ, List.flatMap_cons]; rw [ih]; rfl
theorem flat_bool_set (l : List Bool) (k : Nat) (s : Bool) : (l.set k s).flatMap encBool = (l.flatMap encBool).set k (.bool s) := by
 induction l generalizing k with
 | nil => rfl
 | cons a l ih =>
  cases k with
  | zero => rfl
  | succ k => simp only [List.set_cons_succ, List.flatMap_cons]; rw [ih]; rfl
theorem flat_bool_get (l : List Bool) (k : Nat) (h : k < l.length) : (l.flatMap encBool)[k]? = some (.bool l[k]) := by
 induction l generalizing k with
 | nil => cases h
 | cons a l ih =>
  cases k with
  | zero => rfl
  | succ k => exact ih k (by simpa using h)
theorem flat_str_get (l : List ByteArray) (k : Nat) (h : k < l.length) : (l.flatMap encStr)[k]? = some (.string l[k]) := by
 induction l generalizing k with
 | nil => cases h
 | cons a l ih =>
  cases k with
  | zero => rfl
  | succ k => exact ih k (by simpa using h)
theorem own_other {w : World} {base : Nat} {e e' : TypeId} {v : Value} {n n' c : Nat} {g : Nat} {xs xs' : List Value} (h : w.ownsRow base e 1 v n xs) (h' : w.ownsRow base e' 1 (.slice (some ⟨g, 0, none⟩) n' c) n' xs') (he : e ≠ e') : v.ownBlock ≠ some g := by
 intro hv
 rcases h.2 with ⟨hv', _⟩ | ⟨g1, cap, cur, hv', _, hg, _⟩
 ·rw [hv'] at hv; cases hv
 ·rw [hv'] at hv
  have : g1 = g := by simpa [Value.ownBlock] using hv
  subst this
  rcases h'.2 with ⟨hv2, _⟩ | ⟨g2, cap2, cur2, hv2, _, hg2, _⟩
  ·cases hv2
  ·injection hv2 with a1 a2 a3
   injection a1 with a1
   injection a1 with a1
   subst a1
   rw [hg] at hg2
   injection hg2 with hg2
   injection hg2 with b1 b2 b3
   exact he b2
theorem ODev.setLost {S L : TypeId} {w : World} {base g n c : Nat} {v1 : Value} {d : Dev} (h : ODev S L w base v1 (.slice (some ⟨g, 0, none⟩) n c) d) (hn : n = d.lost.length) (hSL : S ≠ L) (k : Nat) (b : Bool) :
  ODev S L (w.setCell ⟨g, k, none⟩ (.bool b)) base v1 (.slice (some ⟨g, 0, none⟩) n c) ⟨d.sec, d.lost.set k b⟩ := by
 subst hn
 obtain ⟨h1, h2, h3, h4, h5⟩ := h
 refine ⟨ownsRow_setCell_other h1 (own_other h1 h2 hSL) _, ?_, h3, by simpa using h4, h5⟩
 have := (h2.stored k (.bool b)).1
 rw [flat_bool_set]
 simpa using this
theorem ODev.setSec {S L : TypeId} {w : World} {base g n c : Nat} {v2 : Value} {d : Dev} (h : ODev S L w base (.slice (some ⟨g, 0, none⟩) n c) v2 d) (hn : n = d.sec.length) (hSL : S ≠ L) (k : Nat) (s : ByteArray) (hs : s.size ≤ 140737488355328) :
  ODev S L (w.setCell ⟨g, k, none⟩ (.string s)) base (.slice (some ⟨g, 0, none⟩) n c) v2 ⟨d.sec.set k s, d.lost⟩ := by
 subst hn
 obtain ⟨h1, h2, h3, h4, h5⟩ := h
 refine ⟨?_, ownsRow_setCell_other h2 (own_other h2 h1 (Ne.symm hSL)) _, by simpa using h3, h4, fun x hx => ?_⟩
 ·have := (h1.stored k (.string s)).1
  rw [flat_str_set]
  simpa using this
 ·rcases List.mem_or_eq_of_mem_set hx with hx | rfl
  ·exact h5 x hx
  ·exact hs
theorem own_form {w : World} {base : Nat} {e : TypeId} {A : Option Addr} {n c : Nat} {xs : List Value} (h : w.ownsRow base e 1 (.slice A n c) n xs) (hn : 0 < n) : ∃ g, A = some ⟨g, 0, none⟩ ∧ base ≤ g ∧ g < w.heap.size ∧ ∀ k, w.frozen? ⟨g, k, none⟩ = false := by
 have h' := h
 rcases h.2 with ⟨hv, h0⟩ | ⟨g, cap, cur, hv, hb, hg, _⟩
 ·omega
 ·injection hv with a1 a2 a3
  subst a1
  subst a3
  exact ⟨g, rfl, hb, (h'.lt g rfl).2, fun k => h'.frozenAt k⟩
theorem RDev.own {S L : TypeId} {w w' : World} {cs : List Value} {d : Dev} (h : RDev w cs d) {base : Nat} {v1 v2 : Value} (o1 : w'.ownsRow base S 1 v1 d.sec.length (d.sec.flatMap encStr))
  (o2 : w'.ownsRow base L 1 v2 d.lost.length (d.lost.flatMap encBool)) : ODev S L w' base v1 v2 d := by
 obtain ⟨_, _, _, h1, h2⟩ := h
 refine ⟨o1, o2, h1.len, by have := h2.len; omega, fun s hs => (h1.mem encStr_ok w s hs).2⟩
section
variable {P : Program} (w : World)
theorem run_append_nil_none (t ty e : TypeId) (i : TypeInfo) (c : Nat) (ht : P.underlying t = some (.slice e)) (hi : P.info? e = some i) :
  (Builtin.append_ #[t, t] ty #[.slice none 0 0, .slice none 0 c]).run P w = .ok (.slice none 0 0) w := by
 simp [Builtin.append_, run_underlying ht, sizeOf, typeInfo, hi, Builtin.lenOf, Builtin.firstCells]
theorem wp_append_copy {α : Type} {C bytes : Nat} {R : Rd α} {enc : α → List Value} (he : Enc C R enc) (hC : 0 < C) {o : Oper} {a : Act} {K : Act → World → Prop} {Q : Exit → Act → World → Prop} (s x : Operand) (t : TypeId)
  (ho : o.op = .call { callee := .builtin .append, args := #[s, x], argTypes := #[t, t] })
  (e : TypeId) (i : TypeInfo) (z : Value) (ht : P.underlying t = some (.slice e)) (hi : P.info? e = some i) (hz : i.zero = some z)
  (hsize : i.size = C) (hby : i.bytes = bytes) (hzs : z.cells.size = C)
  (hs : a.eval s = .slice none 0 0) (v : Value) (l : List α) (hx : a.eval x = v) (hv : SlR C bytes R w v l) (h63 : l.length ≤ maxLen)
  (h : ∀ A' c' w', w'.ownsRow w.heap.size e C (.slice A' l.length c') l.length (l.flatMap enc) → Ext w w' → K (a.put o.dst (.slice A' l.length c')) w') : o.wp P a w K Q := by
 obtain ⟨A, cap, rfl, hb, hc, hl⟩ := hv.cells he hC
 clear hv
 cases A with
 | none =>
  have hl0 : l = [] := by rcases hl with h | ⟨b, o, h, _⟩; exact h; cases h
  subst hl0
  have hrun := run_append_nil_none (P := P) w t o.type e i cap ht hi
  unfold Oper.wp execOp
  simp only [ho, resolve, invoke, builtin, Sem.run_bind, Sem.run_pure, Result.andThen_ok, List.map_toArray, List.map_cons, List.map_nil, hs, hx, List.length_nil, hrun]
  exact h none 0 w (World.ownsRow_nil _ _ _ _) (Ext.refl _)
 | some ad =>
  have hcells : ∀ (j : Nat) (u : Value), (l.flatMap enc)[j]? = some u → w.cell? (ad.add j) = some u := by
   rcases hl with h | ⟨b, o, h, hc, _⟩
   ·subst h; intro j u hu; simp at hu
   ·cases h; exact hc
  refine wp_append_at w s x t ho w.heap.size e i z C bytes ht hi hz hsize hby hzs hC _ 0 [] hs (World.ownsRow_nil _ _ _ _) ad l.length cap (l.flatMap enc) hx (length_flatMap he.len l) hcells
   (fun u hu => by obtain ⟨y, _, hy⟩ := List.mem_flatMap.1 hu; exact he.one y u hy) (by omega) (by rw [Nat.zero_add]; exact hb) (Nat.le_refl _) ?_
  intro A' c' w' h1 h2 h3
  rw [Nat.zero_add, List.nil_append] at h1
  rw [Nat.zero_add]
  exact h A' c' w' h1 ((Ext.refl w).grown h2 (fun k hk => by cases hk))
end
theorem deviceCopy_any (cs : List Value) (d : Dev) (w : World) (h : RDev w cs d) :
  Calls Tryz.prog 8 #[.agg cs.toArray] w fun e w' => ∃ A1 c1 A2 c2, e = .returned (.agg #[.slice A1 d.sec.length c1, .slice A2 d.lost.length c2]) ∧ Ext w w' ∧
   ODev 9 4 w' w.heap.size (.slice A1 d.sec.length c1) (.slice A2 d.lost.length c2) d := by
 have hdev := h
 obtain ⟨v1, v2, rfl, h1, h2⟩ := h
 have l1 := h1.len
 have l2 := h2.len
 go_enter Tryz.func8, Tryz.ntmps8
 go_wp2
 refine wp_abs (fun W => Ext w W ∧ Blk_ W w.heap.size 35 #[v1, v2] ∧ Blk_ W (w.heap.size + 1) 35 #[.slice none 0 0, .slice none 0 0]) ⟨((Ext.refl _).alloc _).alloc _, (Blk_.new _ _ _).alloc _, Blk_.new1 _ _ _ _⟩ ?_
 rintro W ⟨hx, hb1, hb2⟩
 have c1 := hb1.cell 0
 have c2 := hb1.cell 1
 simp at c1 c2
 refine wp_region_begin (S := fun W' => W'.cell? ⟨w.heap.size, 0, none⟩ = some v1 ∧ W'.cell? ⟨w.heap.size, 1, none⟩ = some v2) (n := 7) (by kernel_rfl) rfl (by kernel_rfl) rfl ?_
 have hS0 : (fun W' => W'.cell? ⟨w.heap.size, 0, none⟩ = some v1 ∧ W'.cell? ⟨w.heap.size, 1, none⟩ = some v2) W.drew := ⟨c1, c2⟩
 refine tkL 0 rfl (fun w' hS => by (try dsimp only at hS); go_simp; rfl) hS0 ?_
 simp only [Act.put, List.setIfInBounds_toArray, List.set_cons_zero, List.set_cons_succ]
 refine tkL 1 rfl (fun w' hS => by (try dsimp only at hS); go_simp; rfl) hS0 ?_
 simp only [Act.put, List.setIfInBounds_toArray, List.set_cons_zero, List.set_cons_succ]
 refine tkL 3 rfl (fun w' hS => by (try dsimp only at hS); go_simp; rfl) hS0 ?_
 simp only [Act.put, List.setIfInBounds_toArray, List.set_cons_zero, List.set_cons_succ]
 refine tkL 4 rfl (fun w' hS => by (try dsimp only at hS); go_simp; rfl) hS0 ?_
 simp only [Act.put, List.setIfInBounds_toArray, List.set_cons_zero, List.set_cons_succ]
 refine wpAnyH_oneL (i := 2) rfl (by kernel_rfl) rfl (fun K hK => ?_)
 obtain ⟨i2, hi2, za2, zb2, zc2⟩ := info_parts info_str
 refine wp_append_copy _ encStr_ok (by decide) (.const (.slice none 0 0)) (.tmp 4) 32 rfl 9 i2 (.string .empty) Tryz.underlying32 hi2 za2 zb2 zc2 rfl rfl v1 d.sec rfl (h1.ext RStr.stays hx.drew) (by unfold maxLen; omega) ?_
 intro B2 k2 w2 o2 f2
 have e2 : Ext W w2 := (Ext.refl W).drew.trans f2
 refine hK _ _ ⟨e2.cell c1, e2.cell c2⟩ ?_
 clear hK K
 try simp only [Act.put, List.setIfInBounds_toArray, List.set_cons_zero, List.set_cons_succ]
 refine wpAnyH_oneL (i := 5) rfl (by kernel_rfl) rfl (fun K hK => ?_)
 obtain ⟨i5, hi5, za5, zb5, zc5⟩ := info_parts info_bool
 refine wp_append_copy _ encBool_ok (by decide) (.const (.slice none 0 0)) (.tmp 7) 33 rfl 4 i5 (.bool false) Tryz.underlying33 hi5 za5 zb5 zc5 rfl rfl v2 d.lost rfl (h2.ext RBool.stays (hx.trans e2)) (by unfold maxLen; omega) ?_
 intro B5 k5 w5 o5 f5
 have e5 : Ext W w5 := e2.trans f5
 refine hK _ _ ⟨e5.cell c1, e5.cell c2⟩ ?_
 clear hK K
 try simp only [Act.put, List.setIfInBounds_toArray, List.set_cons_zero, List.set_cons_succ]
 refine wpAnyH_takeL (i := 6) (v := ?_) rfl (by kernel_rfl) (fun _ _ _ h => h) rfl ?_ ⟨e5.cell c1, e5.cell c2⟩ ?_
 rotate_left
 ·intro w' hS
  try dsimp only at hS
  go_simp
  rfl
 simp only [Act.put, List.setIfInBounds_toArray, List.set_cons_zero, List.set_cons_succ]
 refine wpAnyH_endL (by kernel_rfl) (fun K hK => ?_)
 have hW : w.heap.size + 1 < W.heap.size := hb2.lt
 have hb3 := ((hb2.ext e5).set 0 (.slice B2 d.sec.length k2)).set 1 (.slice B5 d.lost.length k5)
 have b0 := (hb2.ext e5).cell 0
 have b1 := (hb2.ext e5).cell 1
 simp at b0 b1
 have z0 := (hb2.ext e5).frozen 0
 have z1 := (hb2.ext e5).frozen 1
 have HB := Lib.hid hb3
 clear hb3
 go_wp2
 refine bodyPost_ret (res_cell rfl rfl HB.out Tryz.underlying35 rfl (by kernel_rfl)) rfl ?_
 refine ⟨B2, k2, B5, k5, rfl, ((hx.trans e5).setCell (by simp) _).setCell (by simp) _, ?_⟩
 have hod : ODev 9 4 w5 (w.heap.size + 2) (.slice B2 d.sec.length k2) (.slice B5 d.lost.length k5) d := hdev.own (own_base (own_ext o2 f5) (by simp; omega)) (own_base o5 (by have := e2.size; omega))
 exact ((hod.far (by simp) _).far (by simp) _).base (by omega)
def loseS (d : Dev) (n : Int) : Dev := if touchCode d n = 0 then ⟨d.sec, d.lost.set n.toNat true⟩ else ⟨[], []⟩
theorem devLose_any (cs : List Value) (d : Dev) (n : Int) (w : World) (h : RDev w cs d) (hn : I64 n) :
  Calls Tryz.prog 108 #[.agg cs.toArray, .int .i64 n] w fun e w' => ∃ A1 c1 A2 c2, e = .returned (.tuple #[.agg #[.slice A1 (loseS d n).sec.length c1, .slice A2 (loseS d n).lost.length c2], .int .i64 (touchCode d n)]) ∧ Ext w w' ∧
   ODev 9 4 w' w.heap.size (.slice A1 (loseS d n).sec.length c1) (.slice A2 (loseS d n).lost.length c2) (loseS d n) := by
 obtain ⟨A1, c1, A2, c2, rfl⟩ := h.form
 go_enter Tryz.func108, Tryz.ntmps108
 go_wp2_with fail
 refine calls_abs (fun W => Ext w W ∧ Blk_ W w.heap.size 35 #[.slice A1 d.sec.length c1, .slice A2 d.lost.length c2] ∧ Blk_ W (w.heap.size + 1) 35 #[.slice none 0 0, .slice none 0 0]) ⟨((Ext.refl _).alloc _).alloc _, (Blk_.new _ _ _).alloc _, Blk_.new1 _ _ _ _⟩ ?_
 rintro W ⟨hx, hb, hbr⟩
 refine (devAt_any [.slice A1 d.sec.length c1, .slice A2 d.lost.length c2] d n W (h.up hx) hn).mono ?_
 rintro e w1 ⟨rfl, hx1⟩
 have hb1 := hb.ext hx1
 have hbr1 := hbr.ext hx1
 have f0 := hb1.cell 0
 have f1 := hb1.cell 1
 simp at f0 f1
 have hr1 := h.up (hx.trans hx1)
 have hx0 := hx.trans hx1
 clear h hb hbr hx hx1
 by_cases hc : touchCode d n = 0
 ·obtain ⟨hm, n0, n1⟩ := touch_zero hc
  obtain ⟨m1, m2, m3, m4⟩ := devMay_len hm
  obtain ⟨k, rfl⟩ := Int.eq_ofNat_of_zero_le n0
  have hk2' : (k : Int) < (d.lost.length : Int) := by omega
  have hf : loseS d k = ⟨d.sec, d.lost.set k true⟩ := by unfold loseS; rw [if_pos hc]; rfl
  have hlp : 0 < d.lost.length := by omega
  have HC := Lib.hid hc
  have HF := Lib.hid hf
  rw [hc]
  clear hc m4 m3 hm hf
  go_wp2_with fail
  refine (devCopy_any [.slice A1 d.sec.length c1, .slice A2 d.lost.length c2] d _ hr1).mono ?_
  rintro e w2 ⟨B1, k1, B2, k2, rfl, hx2, o1, o2⟩
  have hod := hr1.own o1 o2
  have hb2 := hb1.ext hx2
  have hbr2 := hbr1.ext hx2
  obtain ⟨g, rfl, hg1, hg2, hg3⟩ := own_form o2 hlp
  have g0 := hb2.cell 0
  have g1 := hb2.cell 1
  have z0 := hb2.frozen 0
  have z1 := hb2.frozen 1
  have y0 := hbr2.cell 0
  have y1 := hbr2.cell 1
  have x0 := hbr2.frozen 0
  have x1 := hbr2.frozen 1
  simp at g0 g1 y0 y1
  have zk := hg3 k
  have ck := (o2.cellAt k (by omega)).trans (flat_bool_get d.lost k (by omega))
  have hlt := hbr1.lt
  have ne1 : ¬ (w.heap.size = g) := by omega
  have ne2 : ¬ (g = w.heap.size) := by omega
  have ne3 : ¬ (w.heap.size + 1 = g) := by omega
  have ne4 : ¬ (g = w.heap.size + 1) := by omega
  have hgw : w.heap.size ≤ g := by omega
  have HO := Lib.hid hod
  have HX := Lib.hid ((hx0.trans hx2))
  have HB := Lib.hid ((((((hbr2.far (p := ⟨w.heap.size, 0, none⟩) (by simp) (.slice B1 d.sec.length k1)).far (p := ⟨w.heap.size, 1, none⟩) (by simp) (.slice (some ⟨g, 0, none⟩) d.lost.length k2)).far (p := ⟨g, k, none⟩) ne3 (.bool true)).set 0 (.slice B1 d.sec.length k1)).set 1 (.slice (some ⟨g, 0, none⟩) d.lost.length k2)))
  clear hr1 f0 f1 o1 o2 hg3 hod hx0 hx2 hb1 hbr1 hb2 hg1 hg2 n1 hlp
  go_wp2_with fail
  refine bodyPost_ret (res_cell_tmp rfl rfl HB.out Tryz.underlying35 rfl (by kernel_rfl)) rfl ?_
  rw [HF.out, HC.out]
  refine ⟨B1, k1, some ⟨g, 0, none⟩, k2, ?_, ?_, ?_⟩
  ·rw [List.length_set]; rfl
  ·exact ((((HX.out.setCell (by simp) _).setCell (by simp) _).setCell (by simp; omega) _).setCell (by simp) _).setCell (by simp) _
  ·have := (((((HO.out.far (p := ⟨w.heap.size, 0, none⟩) (by simp; omega) (.slice B1 d.sec.length k1)).far (p := ⟨w.heap.size, 1, none⟩) (by simp; omega) (.slice (some ⟨g, 0, none⟩) d.lost.length k2)).setLost rfl (by decide) k true).far (p := ⟨w.heap.size + 1, 0, none⟩) (by simp; omega) (.slice B1 d.sec.length k1)).far (p := ⟨w.heap.size + 1, 1, none⟩) (by simp; omega) (.slice (some ⟨g, 0, none⟩) d.lost.length k2)).base (base' := w.heap.size) (by omega)
   rw [List.length_set]
   exact this
 ·have hf : loseS d n = ⟨[], []⟩ := by unfold loseS; rw [if_neg hc]
  have hc' : (touchCode d n != 0) = true := by simpa using hc
  have HF := Lib.hid hf
  clear hf hc hr1
  have y0 := hbr1.cell 0
  have y1 := hbr1.cell 1
  have x0 := hbr1.frozen 0
  have x1 := hbr1.frozen 1
  simp at y0 y1
  have HB := Lib.hid ((hbr1.set 0 (.slice none 0 0)).set 1 (.slice none 0 0))
  go_wp2_with fail
  refine bodyPost_ret (res_cell_tmp rfl rfl HB.out Tryz.underlying35 rfl (by kernel_rfl)) rfl ?_
  rw [HF.out]
  refine ⟨none, 0, none, 0, rfl, (hx0.setCell (by simp) _).setCell (by simp) _, ?_⟩
  exact ⟨World.ownsRow_nil _ _ _ _, World.ownsRow_nil _ _ _ _, by simp, by simp, fun s hs => by cases hs⟩
theorem deviceLost_any (cs : List Value) (d : Dev) (n : Int) (w : World) (h : RDev w cs d) (hn : I64 n) :
  Calls Tryz.prog 90 #[.agg cs.toArray, .int .i64 n] w fun e w' => ∃ A1 c1 A2 c2, e = .returned (.tuple #[.agg #[.slice A1 (loseS d n).sec.length c1, .slice A2 (loseS d n).lost.length c2], .int .i64 (touchCode d n)]) ∧ Ext w w' ∧
   ODev 9 4 w' w.heap.size (.slice A1 (loseS d n).sec.length c1) (.slice A2 (loseS d n).lost.length c2) (loseS d n) := by
 obtain ⟨A1, c1, A2, c2, rfl⟩ := h.form
 go_enter Tryz.func90, Tryz.ntmps90
 go_wp2_with fail
 refine calls_abs (fun W => Ext w W ∧ Blk_ W w.heap.size 35 #[.slice A1 d.sec.length c1, .slice A2 d.lost.length c2] ∧ Blk_ W (w.heap.size + 1) 35 #[.slice none 0 0, .slice none 0 0]) ⟨((Ext.refl _).alloc _).alloc _, (Blk_.new _ _ _).alloc _, Blk_.new1 _ _ _ _⟩ ?_
 rintro W ⟨hx, hb, hbr⟩
 refine (touched_any [.slice A1 d.sec.length c1, .slice A2 d.lost.length c2] d n W (h.up hx) hn).mono ?_
 rintro e w1 ⟨rfl, hx1⟩
 have hb1 := hb.ext hx1
 have hbr1 := hbr.ext hx1
 have f0 := hb1.cell 0
 have f1 := hb1.cell 1
 simp at f0 f1
 have hr1 := h.up (hx.trans hx1)
 have hx0 := hx.trans hx1
 clear h hb hbr hx hx1
 by_cases hc : touchCode d n = 0
 ·obtain ⟨hm, n0, n1⟩ := touch_zero hc
  obtain ⟨m1, m2, m3, m4⟩ := devMay_len hm
  obtain ⟨k, rfl⟩ := Int.eq_ofNat_of_zero_le n0
  have hk2' : (k : Int) < (d.lost.length : Int) := by omega
  have hf : loseS d k = ⟨d.sec, d.lost.set k true⟩ := by unfold loseS; rw [if_pos hc]; rfl
  have hlp : 0 < d.lost.length := by omega
  have HC := Lib.hid hc
  have HF := Lib.hid hf
  rw [hc]
  clear hc m4 m3 hm hf
  go_wp2_with fail
  refine (deviceCopy_any [.slice A1 d.sec.length c1, .slice A2 d.lost.length c2] d _ hr1).mono ?_
  rintro e w2 ⟨B1, k1, B2, k2, rfl, hx2, hod⟩
  have o2 := hod.2.1
  have hbr2 := hbr1.ext hx2
  obtain ⟨g, rfl, hg1, hg2, hg3⟩ := own_form o2 hlp
  have y0 := hbr2.cell 0
  have y1 := hbr2.cell 1
  have x0 := hbr2.frozen 0
  have x1 := hbr2.frozen 1
  simp at y0 y1
  have zk := hg3 k
  have ck := (o2.cellAt k (by omega)).trans (flat_bool_get d.lost k (by omega))
  have hlt := hbr1.lt
  have hlt2 := hbr2.lt
  have ne3 : ¬ (w.heap.size + 1 = g) := by omega
  have ne4 : ¬ (g = w.heap.size + 1) := by omega
  have ne5 : ¬ (g = w2.heap.size) := by omega
  have ne6 : ¬ (w2.heap.size = g) := by omega
  have ne7 : ¬ (w.heap.size + 1 = w2.heap.size) := by omega
  have ne8 : ¬ (w2.heap.size = w.heap.size + 1) := by omega
  have hgw : w.heap.size ≤ g := by omega
  have HO := Lib.hid hod
  have HX := Lib.hid ((hx0.trans hx2))
  have HB := fun o => Lib.hid ((((hbr2.far (p := ⟨g, k, none⟩) ne3 (.bool true)).set 0 (.slice B1 d.sec.length k1)).set 1 (.slice (some ⟨g, 0, none⟩) d.lost.length k2)).alloc o)
  clear hr1 f0 f1 o2 hg3 hod hx0 hx2 hb1 hbr1 hg1 n1 hlp
  go_wp2_with fail
  refine bodyPost_ret (res_cell_tmp rfl rfl (HB _).out Tryz.underlying35 rfl (by kernel_rfl)) rfl ?_
  rw [HF.out, HC.out]
  refine ⟨B1, k1, some ⟨g, 0, none⟩, k2, ?_, ?_, ?_⟩
  ·rw [List.length_set]; rfl
  ·exact (((HX.out.setCell (by simp; omega) _).setCell (by simp) _).setCell (by simp) _).alloc _
  ·have := (((HO.out.setLost rfl (by decide) k true).far (p := ⟨w.heap.size + 1, 0, none⟩) (by simp; omega) (.slice B1 d.sec.length k1)).far (p := ⟨w.heap.size + 1, 1, none⟩) (by simp; omega) (.slice (some ⟨g, 0, none⟩) d.lost.length k2)).base (base' := w.heap.size) (by omega)
   rw [List.length_set]
   exact this.ext ((Ext.refl _).alloc _)
 ·have hf : loseS d n = ⟨[], []⟩ := by unfold loseS; rw [if_neg hc]
  have hc' : (touchCode d n != 0) = true := by simpa using hc
  have HF := Lib.hid hf
  clear hf hc hr1
  have y0 := hbr1.cell 0
  have y1 := hbr1.cell 1
  have x0 := hbr1.frozen 0
  have x1 := hbr1.frozen 1
  simp at y0 y1
  have HB := Lib.hid ((hbr1.set 0 (.slice none 0 0)).set 1 (.slice none 0 0))
  go_wp2_with fail
  refine bodyPost_ret (res_cell_tmp rfl rfl HB.out Tryz.underlying35 rfl (by kernel_rfl)) rfl ?_
  rw [HF.out]
  refine ⟨none, 0, none, 0, rfl, (hx0.setCell (by simp) _).setCell (by simp) _, ?_⟩
  exact ⟨World.ownsRow_nil _ _ _ _, World.ownsRow_nil _ _ _ _, by simp, by simp, fun s hs => by cases hs⟩
def at_ (s : ByteArray) (k : Nat) : UInt8 := if h : k < s.size then s[k] else 0
theorem at_eq (s : ByteArray) (k : Nat) (h : k < s.size) : at_ s k = s[k] := dif_pos h
def alikeF (s : ByteArray) (k i n : Nat) : Nat := if n < 131 ∧ i + n < s.size ∧ at_ s (k + n) = at_ s (i + n) then alikeF s k i (n + 1) else n
termination_by 131 - n
def pieceF (s : ByteArray) (i d best back : Nat) : Nat × Nat :=
 if d ≤ 255 ∧ d ≤ i then (if best < alikeF s (i - d) i 0 then pieceF s i (d + 1) (alikeF s (i - d) i 0) d else pieceF s i (d + 1) best back) else (best, back)
termination_by 256 - d
def plainF (l : List UInt8) : List UInt8 := if h : l = [] then [] else UInt8.ofNat (min l.length 128 - 1) :: (l.take 128 ++ plainF (l.drop 128))
termination_by l.length
decreasing_by
 have : 0 < l.length := List.length_pos_iff.2 h
 simp only [List.length_drop]; omega
def sub_ (s : ByteArray) (a b : Nat) : List UInt8 := ((lst s).take b).drop a
theorem length_sub_ (s : ByteArray) (a b : Nat) (h : b ≤ s.size) : (sub_ s a b).length = b - a := by
 unfold sub_; rw [List.length_drop, List.length_take, length_lst]; omega
def packF (s : ByteArray) (out : List UInt8) (from_ i : Nat) : List UInt8 :=
 if h : i < s.size then
  (if h2 : (pieceF s i 1 0 0).1 < 4 then packF s out from_ (i + 1)
   else packF s (out ++ plainF (sub_ s from_ i) ++ [UInt8.ofNat (124 + (pieceF s i 1 0 0).1), UInt8.ofNat (pieceF s i 1 0 0).2]) (i + (pieceF s i 1 0 0).1) (i + (pieceF s i 1 0 0).1))
 else out ++ plainF (sub_ s from_ s.size)
termination_by s.size - i
def packS (s : ByteArray) : ByteArray × Int := if 600 < s.size then (.empty, 1) else (bs (packF s [] 0 0), 0)
theorem alikeF_le (s : ByteArray) (k i n : Nat) (h : n ≤ 131) : n ≤ alikeF s k i n ∧ alikeF s k i n ≤ 131 := by
 induction hm : 131 - n generalizing n with
 | zero => rw [alikeF, if_neg (by omega)]; omega
 | succ m ih =>
  rw [alikeF]
  split
  ·have := ih (n + 1) (by omega) (by omega); omega
  ·omega
theorem alikeF_size (s : ByteArray) (k i n : Nat) (h : i + n ≤ s.size) : i + alikeF s k i n ≤ s.size := by
 induction hm : 131 - n generalizing n with
 | zero => rw [alikeF, if_neg (by omega)]; omega
 | succ m ih =>
  rw [alikeF]
  split
  ·exact ih (n + 1) (by omega) (by omega)
  ·omega
theorem alikeF_at (s : ByteArray) (k i n j : Nat) (h1 : n ≤ j) (h2 : j < alikeF s k i n) : at_ s (k + j) = at_ s (i + j) := by
 induction hm : 131 - n generalizing n with
 | zero => rw [alikeF, if_neg (by omega)] at h2; omega
 | succ m ih =>
  rw [alikeF] at h2
  split at h2
  ·rename_i hc
   by_cases he : j = n
   ·subst he; exact hc.2.2
   ·exact ih (n + 1) (by omega) h2 (by omega)
  ·omega
def PieceOk (s : ByteArray) (i : Nat) (p : Nat × Nat) : Prop := p.1 = 0 ∨ (1 ≤ p.2 ∧ p.2 ≤ 255 ∧ p.2 ≤ i ∧ p.1 ≤ 131 ∧ i + p.1 ≤ s.size ∧ ∀ j, j < p.1 → at_ s (i - p.2 + j) = at_ s (i + j))
theorem pieceF_ok (s : ByteArray) (i d best back : Nat) (hd : 1 ≤ d) (hi : i ≤ s.size) (h : PieceOk s i (best, back)) : PieceOk s i (pieceF s i d best back) := by
 induction hm : 256 - d generalizing d best back with
 | zero => rw [pieceF, if_neg (by omega)]; exact h
 | succ m ih =>
  rw [pieceF]
  split
  ·rename_i hc
   split
   ·refine ih (d + 1) _ _ (by omega) ?_ (by omega)
    right
    have h1 := alikeF_le s (i - d) i 0 (by omega)
    have h2 := alikeF_size s (i - d) i 0 (by omega)
    exact ⟨hd, hc.1, hc.2, h1.2, h2, fun j hj => alikeF_at s (i - d) i 0 j (by omega) hj⟩
   ·exact ih (d + 1) _ _ (by omega) h (by omega)
  ·exact h
theorem piece_ok (s : ByteArray) (i : Nat) (hi : i ≤ s.size) : PieceOk s i (pieceF s i 1 0 0) := pieceF_ok s i 1 0 0 (by omega) hi (.inl rfl)
theorem piece_le (s : ByteArray) (i : Nat) (hi : i ≤ s.size) : (pieceF s i 1 0 0).1 ≤ 131 ∧ i + (pieceF s i 1 0 0).1 ≤ s.size := by
 rcases piece_ok s i hi with h | h
 ·omega
 ·exact ⟨h.2.2.2.1, h.2.2.2.2.1⟩
theorem plain_nil : plainF [] = [] := by rw [plainF]; simp
theorem plain_len (l : List UInt8) : (plainF l).length = l.length + (l.length + 127) / 128 := by
 induction hn : l.length using Nat.strongRecOn generalizing l with
 | ind n ih =>
  by_cases h0 : l = []
  ·subst h0; rw [plain_nil]; subst hn; rfl
  ·have hp : 0 < l.length := List.length_pos_iff.2 h0
   rw [plainF, dif_neg h0]
   have := ih (l.drop 128).length (by rw [List.length_drop]; omega) (l.drop 128) rfl
   simp only [List.length_cons, List.length_append, this, List.length_take, List.length_drop]
   omega
theorem pack_len (s : ByteArray) (out : List UInt8) (from_ i : Nat) (hf : from_ ≤ i) (hi : i ≤ s.size) (ho : out.length ≤ from_ + from_ / 128) :
  (packF s out from_ i).length ≤ s.size + (s.size + 127) / 128 := by
 induction hn : s.size - i using Nat.strongRecOn generalizing out from_ i with
 | ind n ih =>
  rw [packF]
  split
  ·rename_i hlt
   split
   ·exact ih (s.size - (i + 1)) (by omega) out from_ (i + 1) (by omega) (by omega) ho rfl
   ·rename_i h4
    have hp := piece_le s i hi
    refine ih _ (by omega) _ _ _ (Nat.le_refl _) hp.2 ?_ rfl
    simp only [List.length_append, plain_len, length_sub_ s from_ i hi, List.length_cons, List.length_nil]
    omega
  ·simp only [List.length_append, plain_len, length_sub_ s from_ s.size (Nat.le_refl _)]
   omega
theorem packS_len (s : ByteArray) (hs : s.size ≤ 600) : (packS s).1.size ≤ s.size + (s.size + 127) / 128 := by
 unfold packS
 rw [if_neg (by omega)]
 show (bs _).size ≤ _
 rw [size_bs]
 exact pack_len s [] 0 0 (Nat.le_refl _) (Nat.zero_le _) (by simp)
theorem packS_code (s : ByteArray) (hs : s.size ≤ 600) : (packS s).2 = 0 := by unfold packS; rw [if_neg (by omega)]
section
variable {A T : ByteArray} {m k : Nat} (hA : A.size = m) (hT : T.size = m + k) (hk : k ≤ m) (hk4 : 4 ≤ k) (hm : m + k ≤ 131)
 (h1 : ∀ j, j < m → at_ T j = at_ A j) (h2 : ∀ j, j < k → at_ T (m + j) = at_ A j)
include hA hT hm h1 in
include hA hT hm h1 in
include hT hk hm h1 h2 in
include hT hk hm h1 h2 in
include hA hT hk hk4 hm h1 h2 in
end
end Go.Proofs.YtjadmfdlggnlgaaGreatDoor
namespace Go.Proofs.YtjadmfdlggnlgaaGreatDoor
set_option linter.unusedSimpArgs false
set_option linter.unusedVariables false
set_option maxRecDepth 100000
set_option maxHeartbeats 8000000
open Go.Shelf
def Tryz.lays105_ren : Go.Shelf.Ren := ⟨fun | 105 => 20 | 212 => 49 | 99 => 50 | 165 => 51 | 166 => 12 | 170 => 52 | 169 => 14 | 263 => 78 | 264 => 79 | 206 => 80 | 240 => 41 | 241 => 81 | 276 => 72 | 277 => 109 | n => n, fun | 9 => 9 | 3 => 3 | 4 => 4 | 20 => 20 | 0 => 0 | 46 => 90 | 109 => 91 | 5 => 5 | 72 => 49 | 76 => 54 | 51 => 116 | 146 => 117 | 53 => 119 | 148 => 120 | 70 => 46 | 37 => 47 | 75 => 53 | 127 => 87 | 164 => 109 | 80 => 58 | n => n, fun | n => n⟩
theorem Tryz.lays105 : Go.Proofs.Lays.n105 Tryz.prog Tryz.lays105_ren := {
 mixed := by kernel_rfl
 f99 := Tryz.func50.trans (congrArg some (by kernel_rfl))
 f105 := Tryz.func20.trans (congrArg some (by kernel_rfl))
 f165 := Tryz.func51.trans (congrArg some (by kernel_rfl))
 f166 := Tryz.func12.trans (congrArg some (by kernel_rfl))
 f169 := Tryz.func14.trans (congrArg some (by kernel_rfl))
 f170 := Tryz.func52.trans (congrArg some (by kernel_rfl))
 f206 := Tryz.func80.trans (congrArg some (by kernel_rfl))
 f212 := Tryz.func49.trans (congrArg some (by kernel_rfl))
 f240 := Tryz.func41.trans (congrArg some (by kernel_rfl))
 f241 := Tryz.func81.trans (congrArg some (by kernel_rfl))
 f263 := Tryz.func78.trans (congrArg some (by kernel_rfl))
 f264 := Tryz.func79.trans (congrArg some (by kernel_rfl))
 f276 := Tryz.func72.trans (congrArg some (by kernel_rfl))
 f277 := Tryz.func109.trans (congrArg some (by kernel_rfl))
 t0 := Tryz.underlying0
 a0 := Tryz.isAgg0
 z0 := Tryz.sizeOf0
 v0 := Tryz.zeroValue0
 t3 := Tryz.underlying3
 a3 := Tryz.isAgg3
 z3 := Tryz.sizeOf3
 v3 := Tryz.zeroValue3
 t4 := Tryz.underlying4
 a4 := Tryz.isAgg4
 z4 := Tryz.sizeOf4
 v4 := Tryz.zeroValue4
 t5 := Tryz.underlying5
 a5 := Tryz.isAgg5
 z5 := Tryz.sizeOf5
 v5 := Tryz.zeroValue5
 t9 := Tryz.underlying9
 a9 := Tryz.isAgg9
 z9 := Tryz.sizeOf9
 v9 := Tryz.zeroValue9
 t20 := Tryz.underlying20
 a20 := Tryz.isAgg20
 z20 := Tryz.sizeOf20
 v20 := Tryz.zeroValue20
 t37 := Tryz.underlying47
 a37 := Tryz.isAgg47
 z37 := Tryz.sizeOf47
 v37 := Tryz.zeroValue47
 t46 := Tryz.underlying90
 a46 := Tryz.isAgg90
 z46 := Tryz.sizeOf90
 v46 := Tryz.zeroValue90
 t51 := Tryz.underlying116
 a51 := Tryz.isAgg116
 z51 := Tryz.sizeOf116
 v51 := Tryz.zeroValue116
 t53 := Tryz.underlying119
 a53 := Tryz.isAgg119
 z53 := Tryz.sizeOf119
 v53 := Tryz.zeroValue119
 t70 := Tryz.underlying46
 a70 := Tryz.isAgg46
 z70 := Tryz.sizeOf46
 v70 := Tryz.zeroValue46
 t72 := Tryz.underlying49
 a72 := Tryz.isAgg49
 z72 := Tryz.sizeOf49
 v72 := Tryz.zeroValue49
 t75 := Tryz.underlying53
 a75 := Tryz.isAgg53
 z75 := Tryz.sizeOf53
 v75 := Tryz.zeroValue53
 t76 := Tryz.underlying54
 a76 := Tryz.isAgg54
 z76 := Tryz.sizeOf54
 v76 := Tryz.zeroValue54
 t109 := Tryz.underlying91
 a109 := Tryz.isAgg91
 z109 := Tryz.sizeOf91
 v109 := Tryz.zeroValue91
 t127 := Tryz.underlying87
 a127 := Tryz.isAgg87
 z127 := Tryz.sizeOf87
 v127 := Tryz.zeroValue87
 t146 := Tryz.underlying117
 a146 := Tryz.isAgg117
 z146 := Tryz.sizeOf117
 v146 := Tryz.zeroValue117
 t148 := Tryz.underlying120
 a148 := Tryz.isAgg120
 z148 := Tryz.sizeOf120
 v148 := Tryz.zeroValue120
 t164 := Tryz.underlying109
 a164 := Tryz.isAgg109
 z164 := Tryz.sizeOf109
 v164 := Tryz.zeroValue109 }
theorem Tryz.Builder_Extra_105 : Builder.Extra Tryz.prog Tryz.lays105_ren := {
 sizeBuilder := by kernel_rfl
 liesBuilder := by kernel_rfl
 t5 := Tryz.underlying5
 a5 := Tryz.isAgg5
 z5 := Tryz.sizeOf5
 v5 := Tryz.zeroValue5
 infoByte := by kernel_rfl
 cellsByte := by kernel_rfl
 sizeByte := by kernel_rfl
 neB5 := by decide }
open Go.RowKit Go.Lib in
theorem Tryz.strings_Repeat (s : ByteArray) (c : Nat) (w : World) (hc : c ≤ 9223372036854775807) (hlen : s.size * c ≤ 140737488355328) :
  Calls Tryz.prog 20 #[.string s, .int .i64 c] w fun e w' => e = .returned (.string ⟨(Lib.repeatL s.data.toList c).toArray⟩) ∧ Below w.heap.size w w' := Any.strings_Repeat Tryz.lays105 Tryz.Builder_Extra_105 s c w hc hlen
end Go.Proofs.YtjadmfdlggnlgaaGreatDoor
namespace Go.Proofs.YtjadmfdlggnlgaaGreatDoor
set_option linter.unusedSimpArgs false
set_option linter.unusedVariables false
set_option maxRecDepth 100000
set_option maxHeartbeats 8000000
open Go.RowKit
theorem lst_append (a b : ByteArray) : lst (a ++ b) = lst a ++ lst b := by
 unfold lst
 rw [ByteArray.data_append, Array.toList_append]
theorem bs_append (a b : List UInt8) : bs a ++ bs b = bs (a ++ b) := lst_inj (by rw [lst_append, lst_bs, lst_bs, lst_bs])
theorem bs_append_lst (a : ByteArray) (l : List UInt8) : a ++ bs l = bs (lst a ++ l) := lst_inj (by rw [lst_append, lst_bs, lst_bs])
theorem lst_append_bs (l : List UInt8) (a : ByteArray) : bs l ++ a = bs (l ++ lst a) := lst_inj (by rw [lst_append, lst_bs, lst_bs])
theorem lst_empty : lst .empty = [] := rfl
def rawS (no : Int) (s : ByteArray) : List UInt8 := byte (no / 256) :: byte (no % 256) :: (lst s ++ List.replicate (24 - s.size) 0)
def encodeS (no : Int) (s : ByteArray) : ByteArray × Int :=
 if no < 0 ∨ 65535 < no then (.empty, 2) else if 24 < s.size then (.empty, 1) else (bs (rawS no s ++ sealOf (rawS no s)), 0)
theorem encodeS_ok {no : Int} {s : ByteArray} (h0 : 0 ≤ no) (h1 : no ≤ 65535) (h2 : s.size ≤ 24) : encodeS no s = (bs (rawS no s ++ sealOf (rawS no s)), 0) := by
 unfold encodeS; rw [if_neg (by omega), if_neg (by omega)]
theorem rawS_length {no : Int} {s : ByteArray} (h2 : s.size ≤ 24) : (rawS no s).length = 26 := by
 unfold rawS; simp only [List.length_cons, List.length_append, List.length_replicate, length_lst]; omega
theorem encodeS_size {no : Int} {s : ByteArray} (h0 : 0 ≤ no) (h1 : no ≤ 65535) (h2 : s.size ≤ 24) : (encodeS no s).1.size = 30 := by
 rw [encodeS_ok h0 h1 h2]
 show (bs _).size = 30
 rw [size_bs, List.length_append, rawS_length h2, length_sealOf]
theorem encodeS_small (no : Int) (s : ByteArray) : (encodeS no s).1.size ≤ 30 := by
 by_cases h : no < 0 ∨ 65535 < no
 ·unfold encodeS; rw [if_pos h]; decide
 ·by_cases h2 : 24 < s.size
  ·unfold encodeS; rw [if_neg h, if_pos h2]; decide
  ·rw [encodeS_size (by omega) (by omega) (by omega)]; omega
def writeS (d : Dev) (n no : Int) (s : ByteArray) : Dev × Int :=
 if touchCode d n = 0 then (if (encodeS no s).2 = 0 then (⟨d.sec.set n.toNat (encodeS no s).1, d.lost.set n.toNat false⟩, 0) else (⟨[], []⟩, (encodeS no s).2)) else (⟨[], []⟩, touchCode d n)
def dv (a : List Dev) (k : Nat) : Dev := a.getD k ⟨[], []⟩
def arrTouch (a : List Dev) (n : Int) : Int := if arrMay a then (if inB n 0 (((dv a 0).sec.length : Int) - 1) then 0 else 6) else 9
def partner (n : Int) : Int := if n % 2 = 0 then n + 1 else n - 1
def mirrorS (a : List Dev) (n : Int) : ByteArray × Int :=
 if (readS (dv a 0) n n).2 = 0 then ((readS (dv a 0) n n).1, 1) else if (readS (dv a 1) n n).2 = 0 then ((readS (dv a 1) n n).1, 2) else (.empty, 0)
def xorS (s t : ByteArray) : ByteArray := bs (List.zipWith (fun a b => a ^^^ b) (lst s) (lst t))
def parS (a : List Dev) (n : Int) : ByteArray × Int := readS (dv a 2) (n / 2) (512 + n / 2)
def arrReadS (a : List Dev) (n : Int) : ByteArray × Int × Int :=
 if arrTouch a n ≠ 0 then (.empty, 0, arrTouch a n)
 else if (mirrorS a n).2 ≠ 0 then ((mirrorS a n).1, (mirrorS a n).2, 0)
 else if (mirrorS a (partner n)).2 = 0 ∨ (parS a n).2 ≠ 0 then (.empty, 0, 11)
 else (xorS (parS a n).1 (mirrorS a (partner n)).1, 3, 0)
def bothS (a : List Dev) (n : Int) (s : ByteArray) : List Dev := (a.set 0 (writeS (dv a 0) n n s).1).set 1 (writeS (dv a 1) n n s).1
theorem decodeS_size {no : Int} {s : ByteArray} (h : (decodeS no s).2 = 0) : (decodeS no s).1.size = 24 := by
 unfold decodeS at h ⊢
 split at h
 ·rename_i h30
  split at h
  ·split at h
   ·rename_i h1 h2
    rw [dif_pos h30, if_pos h1, if_pos h2]
    simp only [ByteArray.size_extract]; omega
   ·exact absurd h (by decide)
  ·exact absurd h (by decide)
 ·exact absurd h (by decide)
theorem readS_size {d : Dev} {n no : Int} (h : (readS d n no).2 = 0) : (readS d n no).1.size = 24 := by
 unfold readS at h ⊢
 split at h
 ·rename_i h1
  split at h
  ·exact absurd h (by decide)
  ·rename_i h2
   rw [if_pos h1, if_neg h2]
   exact decodeS_size h
 ·rename_i h1
  exact absurd h h1
theorem mirrorS_size {a : List Dev} {n : Int} (h : (mirrorS a n).2 ≠ 0) : (mirrorS a n).1.size = 24 := by
 unfold mirrorS at h ⊢
 split at h
 ·rename_i h1
  rw [if_pos h1]
  exact readS_size h1
 ·rename_i h1
  split at h
  ·rename_i h2
   rw [if_neg h1, if_pos h2]
   exact readS_size h2
  ·exact absurd rfl h
theorem xorS_size {s t : ByteArray} (h : s.size = t.size) : (xorS s t).size = s.size := by
 unfold xorS; rw [size_bs, List.length_zipWith, length_lst, length_lst, h]; omega
theorem arrReadS_size {a : List Dev} {n : Int} (h : (arrReadS a n).2.2 = 0) : (arrReadS a n).1.size = 24 := by
 unfold arrReadS at h ⊢
 split at h
 ·rename_i h1
  exact absurd h h1
 ·rename_i h1
  rw [if_neg h1]
  split at h
  ·rename_i h2
   rw [if_pos h2]
   exact mirrorS_size h2
  ·rename_i h2
   rw [if_neg h2]
   split at h
   ·exact absurd h (by decide)
   ·rename_i h3
    rw [if_neg h3]
    have h4 : (mirrorS a (partner n)).2 ≠ 0 := fun e => h3 (.inl e)
    have h5 : (parS a n).2 = 0 := by
     by_cases h : (parS a n).2 = 0
     ·exact h
     ·exact absurd (.inr h) h3
    have e1 := mirrorS_size h4
    have e2 : (parS a n).1.size = 24 := readS_size h5
    show (xorS _ _).size = 24
    rw [xorS_size (by rw [e1, e2]), e2]
theorem Blk_.drew {w : World} {g : Nat} {t : TypeId} {cs : Array Value} (h : Blk_ w g t cs) : Blk_ w.drew g t cs := h
theorem anyH_abs {P : Program} {md : Region.Mode} {ops : Array Oper} {Q : Exit → Act → World → Prop} {S : World → Prop} {fuel : Nat} {listed : Array Bool} {a : Act} {w : World} (p : World → Prop) (hp : p w)
  (h : ∀ W, p W → wpAnyH P md ops Q S fuel listed a W) : wpAnyH P md ops Q S fuel listed a w := h w hp
section
variable {P : Program} {Q : Exit → Act → World → Prop}
theorem wpAnyH_twoL {L tl tl' : List Oper} {S : World → Prop} {i j : Nat} {x y : Oper} {fuel : Nat} {listed : Array Bool} {a : Act} {w : World} (hi : L.drop i = x :: tl) (hj : L.drop j = y :: tl')
  (hr : Region.ready .any L.toArray listed = [i, j]) (hw : Region.wanted x (yielded L.toArray a.tmps) = true) (hw' : Region.wanted y (yielded L.toArray a.tmps) = true)
  (h : ∀ K : Act → World → Prop, (∀ a' w', S w' → wpAnyH P .any L.toArray Q S fuel (listed.setIfInBounds i true) a' w' → K a' w') → x.wp P a w K Q)
  (h' : ∀ K : Act → World → Prop, (∀ a' w', S w' → wpAnyH P .any L.toArray Q S fuel (listed.setIfInBounds j true) a' w' → K a' w') → y.wp P a w K Q) : wpAnyH P .any L.toArray Q S (fuel + 1) listed a w := by
 refine wpAnyH_all hr (by simp) (fun k hk => ?_)
 rcases List.mem_cons.1 hk with rfl | hk
 ·unfold wpOp
  rw [at_of_drop hi]
  simp only
  rw [if_pos hw]
  exact .inl (h _ fun _ _ h1 h2 => ⟨h1, h2⟩)
 ·obtain rfl := List.mem_singleton.1 hk
  unfold wpOp
  rw [at_of_drop hj]
  simp only
  rw [if_pos hw']
  exact .inl (h' _ fun _ _ h1 h2 => ⟨h1, h2⟩)
theorem wp_conv2 {o : Oper} {a : Act} {w : World} {K : Act → World → Prop} (s : Operand) (src dst e : TypeId) (ho : o.op = .convert src dst s) (hs : P.underlying src = some (.slice e)) (he : P.underlying e = some (.int .u8)) (hd : P.underlying dst = some .string)
  (g : Nat) (x y : Int) (hv : a.eval s = .slice (some ⟨g, 0, none⟩) 2 2) (hb : Blk_ w g e #[.int .u8 x, .int .u8 y]) (h : K (a.put o.dst (.string (bs [byte x, byte y]))) w) : o.wp P a w K Q := by
 have hr := run_conv_lit (P := P) w src dst e hs he hd ⟨g, 0, none⟩ 2 [x, y] (fun j u hu => by rw [Addr.add_lit, Nat.zero_add, hb.cell]; simpa using hu)
 unfold Oper.wp execOp
 simp only [ho, Sem.run_bind, hv]
 simp only [List.length_cons, List.length_nil, List.map_cons, List.map_nil, Nat.zero_add, Nat.reduceAdd] at hr
 simp only [hr, Result.andThen_ok, Sem.run_pure, Oper.upon]
 exact h
theorem wp_conv1 {o : Oper} {a : Act} {w : World} {K : Act → World → Prop} (s : Operand) (src dst e : TypeId) (ho : o.op = .convert src dst s) (hs : P.underlying src = some (.slice e)) (he : P.underlying e = some (.int .u8)) (hd : P.underlying dst = some .string)
  (g : Nat) (x : Int) (hv : a.eval s = .slice (some ⟨g, 0, none⟩) 1 1) (hb : Blk_ w g e #[.int .u8 x]) (h : K (a.put o.dst (.string (bs [byte x]))) w) : o.wp P a w K Q := by
 have hr := run_conv_lit (P := P) w src dst e hs he hd ⟨g, 0, none⟩ 1 [x] (fun j u hu => by rw [Addr.add_lit, Nat.zero_add, hb.cell]; simpa using hu)
 unfold Oper.wp execOp
 simp only [ho, Sem.run_bind, hv]
 simp only [List.length_cons, List.length_nil, List.map_cons, List.map_nil, Nat.zero_add] at hr
 simp only [hr, Result.andThen_ok, Sem.run_pure, Oper.upon]
 exact h
end
end Go.Proofs.YtjadmfdlggnlgaaGreatDoor
