/-
  Lists of numbers of the call's own: is one among them, and the sort. Conditions: the list lies in a row of the call's own.
-/
import Derived.Test.YtgjijcgkmofaaaaGreatDoorU17
import Derived.Sort.OwnSortedInts
import Derived.BigRegion
namespace Go.Proofs.YtgjijcgkmofaaaaGreatDoor
set_option linter.unusedSimpArgs false
set_option linter.unusedVariables false
set_option maxRecDepth 100000
set_option maxHeartbeats 8000000
open Go.RowKit
theorem flat_ints (l : List Int) : l.flatMap encInt = l.map (Value.int .i64) := by
 induction l with
 | nil => rfl
 | cons x l ih => rw [List.flatMap_cons, List.map_cons, ih]; rfl
theorem containsInt_any (A : Option Addr) (c base : Nat) (zs : List Int) (x : Int) (w : World) (h : w.ownsRow base 3 1 (.slice A zs.length c) zs.length (zs.flatMap encInt)) (hl : zs.length ≤ 1000000) :
  Calls Tryz.prog 141 #[.slice A zs.length c, .int .i64 x] w fun e w' => e = .returned (.bool (zs.contains x)) ∧ w' = w := by
 by_cases h0 : zs.length = 0
 ·have hz : zs = [] := List.length_eq_zero_iff.1 h0
  subst hz
  exact Tryz.slices_Contains_int_empty A c x w
 ·have h' := h
  rcases h.2 with ⟨_, hn⟩ | ⟨g, cap, cur, hv, _⟩
  ·exact absurd hn h0
  ·injection hv with a1 a2 a3
   subst a1
   refine (Tryz.slices_Contains_int g 0 zs.length c zs x w (Nat.le_refl _) (by omega) (fun j hj => ?_)).mono ?_
   ·have hc := h'.cellAt j (by omega)
    rw [Nat.zero_add, hc, flat_ints, List.getElem?_map, List.getD_eq_getElem?_getD, List.getElem?_eq_getElem hj]
    rfl
   ·rintro e w' ⟨rfl, hw⟩
    rw [List.take_of_length_le (Nat.le_refl _)]
    exact ⟨rfl, hw⟩
theorem sortInt_any (A : Option Addr) (c base : Nat) (zs : List Int) (w : World) (h : w.ownsRow base 3 1 (.slice A zs.length c) zs.length (zs.flatMap encInt)) (hl : zs.length ≤ 1000000) :
  Calls Tryz.prog 142 #[.slice A zs.length c] w fun e w' => e = .returned (.tuple #[]) ∧ w.grownBy w' (Value.slice A zs.length c).ownBlock ∧
   w'.ownsRow base 3 1 (.slice A (zs.mergeSort (fun x y => decide (x ≤ y))).length c) (zs.mergeSort (fun x y => decide (x ≤ y))).length ((zs.mergeSort (fun x y => decide (x ≤ y))).flatMap encInt) := by
 by_cases h0 : zs.length = 0
 ·have hz : zs = [] := List.length_eq_zero_iff.1 h0
  subst hz
  refine (Tryz.slices_Sort_int_none A c w).mono ?_
  rintro e w' ⟨rfl, hw⟩
  subst hw
  refine ⟨rfl, World.grownBy.refl _ _, ?_⟩
  have e0 : ([] : List Int).mergeSort (fun x y => decide (x ≤ y)) = [] := List.mergeSort_nil
  rw [e0]
  exact h
 ·have h' := h
  rcases h.2 with ⟨_, hn⟩ | ⟨g, cap, cur, hv, hb, hg, h1, h2, h3, h4⟩
  ·exact absurd hn h0
  ·injection hv with a1 a2 a3
   subst a1 a3
   have ht : cur.toList.take zs.length = zs.map (Value.int .i64) := by rw [← flat_ints, ← h4, Nat.mul_one]
   have hgl : g < w.heap.size := (Array.getElem?_eq_some_iff.1 hg).1
   refine (Tryz.slices_Sort_int g 0 c zs w (holds_of_blockI hg ht) hgl (by omega)).mono ?_
   rintro e w' ⟨rfl, n, os, hw⟩
   subst hw
   have hlen : (zs.mergeSort (fun x y => decide (x ≤ y))).length = zs.length := List.length_mergeSort _
   refine ⟨rfl, grownBy_sortedI _, ?_⟩
   rw [flat_ints, hlen]
   exact ownsRow_sortedI hlen hb hg h1 h2 h3
section
variable {P : Program} {fn : Func} {p p' u x y : Tmp} {ty ty' : TypeId} {tmps : Array Value} {w : World} {g g' : Nat} {cs cs' : Array Value} {t t' : TypeId} {d d' : TypeDesc}
theorem res_cell2_tmp3 (h : fn.results = #[.cell p ty, .cell p' ty', .tmp u, .tmp x, .tmp y]) (ha : tmps.getD p undef = .pointer (some ⟨g, 0, none⟩)) (hb : Blk_ w g t cs) (hu : P.underlying ty = some d)
  (hd : (match d with | .struct _ | .array _ _ => true | _ => false) = true) (hi : (P.info? ty).map (·.size) = some cs.size) (ha' : tmps.getD p' undef = .pointer (some ⟨g', 0, none⟩)) (hb' : Blk_ w g' t' cs') (hu' : P.underlying ty' = some d')
  (hd' : (match d' with | .struct _ | .array _ _ => true | _ => false) = true) (hi' : (P.info? ty').map (·.size) = some cs'.size) :
  (results fn tmps).run P w = .ok (.tuple #[.agg cs, .agg cs', tmps.getD u undef, tmps.getD x undef, tmps.getD y undef]) w := by
 have ha1 : tmps[p]?.getD undef = .pointer (some ⟨g, 0, none⟩) := by simpa using ha
 have ha2 : tmps[p']?.getD undef = .pointer (some ⟨g', 0, none⟩) := by simpa using ha'
 simp only [results, h]
 simp [Sem.run_bind, Result.andThen, ha1, ha2, asAddr, run_load_blk hb hu hd hi, run_load_blk hb' hu' hd' hi']
end
theorem healP_count {a : List Dev} {m : Nat} {all : List ByteArray} (h : Part a m all) (h64 : m ≤ 64) {n : Nat} (hn : n < m) : 0 ≤ (healP a all n).2 ∧ (healP a all n).2 ≤ 3 := by
 have hk := (hTo_part h h64 hn 2).2
 rw [healP_to]
 split
 ·have hz : 0 ≤ (mendP (hTo a n (pl all n) 2).1 (n / 2) (pp all (n / 2))).2 ∧ (mendP (hTo a n (pl all n) 2).1 (n / 2) (pp all (n / 2))).2 ≤ 1 := by unfold mendP; split <;> simp
  constructor
  ·show 0 ≤ (hTo a n (pl all n) 2).2 + _; omega
  ·show (hTo a n (pl all n) 2).2 + _ ≤ 3; omega
 ·omega
theorem scrub_bounds {m : Nat} {all : List ByteArray} {s : Sc} (h : Part s.a m all) (h16 : 16 ≤ m) (h64 : m ≤ 64) (h2 : m % 2 = 0) (hs : s.next < m) (k : Nat) :
  Part (scrubN m all k s).a m all ∧ (scrubN m all k s).next < m ∧ (scrubN m all k s).rounds ≤ s.rounds + k ∧ s.count ≤ (scrubN m all k s).count ∧ (scrubN m all k s).count ≤ s.count + 3 * k ∧ (scrubN m all k s).gone.length ≤ s.gone.length + k := by
 induction k with
 | zero => exact ⟨h, hs, Nat.le_refl _, Int.le_refl _, by show s.count ≤ s.count + 3 * ((0 : Nat) : Int); omega, Nat.le_refl _⟩
 | succ k ih =>
  obtain ⟨i1, i2, i3, i4, i5, i6⟩ := ih
  have hf := heal_facts i1 h16 h64 h2 i2
  have hc := healP_count i1 h64 i2
  show Part (scrub1 m all (scrubN m all k s)).a m all ∧ (scrub1 m all (scrubN m all k s)).next < m ∧ (scrub1 m all (scrubN m all k s)).rounds ≤ s.rounds + (k + 1) ∧ s.count ≤ (scrub1 m all (scrubN m all k s)).count ∧ (scrub1 m all (scrubN m all k s)).count ≤ s.count + 3 * ((k + 1 : Nat) : Int) ∧ (scrub1 m all (scrubN m all k s)).gone.length ≤ s.gone.length + (k + 1)
  unfold scrub1
  dsimp only
  refine ⟨by split; exact hf.1; exact i1, by split <;> omega, by split <;> omega, by split <;> omega, by split <;> omega, ?_⟩
  split
  ·omega
  ·split
   ·omega
   ·rw [List.length_append, List.length_singleton]; omega
theorem scrub1_ok {m : Nat} {all : List ByteArray} {s : Sc} (h : (arrReadS s.a s.next).2.2 = 0) : (scrub1 m all s).a = (healP s.a all s.next).1 ∧ (scrub1 m all s).count = s.count + (healP s.a all s.next).2 ∧ (scrub1 m all s).gone = s.gone := by
 unfold scrub1; dsimp only; rw [if_pos h, if_pos h, if_pos h]; exact ⟨rfl, rfl, rfl⟩
theorem scrub1_lost {m : Nat} {all : List ByteArray} {s : Sc} (h : ¬ (arrReadS s.a s.next).2.2 = 0) : (scrub1 m all s).a = s.a ∧ (scrub1 m all s).count = s.count ∧ (scrub1 m all s).gone = if s.next ∈ s.gone then s.gone else s.gone ++ [s.next] := by
 unfold scrub1; dsimp only; rw [if_neg h, if_neg h, if_neg h]; exact ⟨rfl, rfl, rfl⟩
theorem scrub1_next {m : Nat} {all : List ByteArray} {s : Sc} : (scrub1 m all s).next = (if s.next + 1 = m then 0 else s.next + 1) ∧ (scrub1 m all s).rounds = (if s.next + 1 = m then s.rounds + 1 else s.rounds) := ⟨rfl, rfl⟩
def ints (l : List Nat) : List Int := l.map fun (n : Nat) => (n : Int)
theorem ints_contains (l : List Nat) (n : Nat) : (ints l).contains (n : Int) = decide (n ∈ l) := by
 unfold ints
 rw [List.contains_eq_any_beq, Bool.eq_iff_iff]
 simp only [List.any_eq_true, List.mem_map, decide_eq_true_iff, beq_iff_eq]
 constructor
 ·rintro ⟨x, ⟨y, hy, rfl⟩, hx⟩
  have : n = y := by omega
  exact this ▸ hy
 ·intro h
  exact ⟨_, ⟨n, h, rfl⟩, rfl⟩
theorem ints_length (l : List Nat) : (ints l).length = l.length := List.length_map _
theorem ints_snoc (l : List Nat) (n : Nat) : ints (l ++ [n]) = ints l ++ [(n : Int)] := by unfold ints; rw [List.map_append]; rfl
theorem cell_keep {w w' : World} {p : Addr} (h : w'.heap[p.block]? = w.heap[p.block]?) : w'.cell? p = w.cell? p := by simp only [World.cell?, h]
theorem cell_block {w : World} {p : Addr} {v : Value} (h : w.cell? p = some v) : p.block < w.heap.size := by
 by_cases hlt : p.block < w.heap.size
 ·exact hlt
 ·exfalso
  have e : w.heap[p.block]? = none := Array.getElem?_eq_none (by omega)
  unfold World.cell? at h
  rw [e] at h
  cases h
theorem SlR.keep {α : Type} {C bytes : Nat} {R : Rd α} {enc : α → List Value} (he : Enc C R enc) (hC : 0 < C) {w w' : World} {B : Nat} {v : Value} {l : List α} (h : SlR C bytes R w v l) (hv : New B v) (k : ∀ j, B ≤ j → j < w.heap.size → w'.heap[j]? = w.heap[j]?) : SlR C bytes R w' v l := by
 obtain ⟨A, cap, e, hb, hc, h⟩ := h
 refine ⟨A, cap, e, hb, hc, ?_⟩
 rcases h with h | ⟨b, o, hA, h⟩
 ·exact .inl h
 ·by_cases h0 : l = []
  ·exact .inl h0
  ·right
   subst hA
   have hne : B ≤ b := by
    rcases hv b o none _ _ e with h | h
    ·exact absurd (List.eq_nil_of_length_eq_zero h) h0
    ·exact h
   refine ⟨b, o, rfl, fun i hi => ?_⟩
   obtain ⟨cs, hl, hcell, hr⟩ := h i hi
   refine ⟨cs, hl, fun j hj => ?_, he.w _ _ _ _ hr⟩
   have h1 := hcell j hj
   have hlt : b < w.heap.size := by
    rw [List.getElem?_eq_getElem (by omega)] at h1
    exact cell_block h1
   rw [cell_keep (w := w) (w' := w') (k b hne hlt)]
   exact h1
theorem OArr.low {E : TypeId} {w w' : World} {B : Nat} {v : Value} {a : List Dev} (h : OArr E w B v a) (k : ∀ j, B ≤ j → j < w.heap.size → w'.heap[j]? = w.heap[j]?) : OArr E w' B v a := by
 obtain ⟨vs, hl, ho, hr, hn⟩ := h
 refine ⟨vs, hl, ?_, fun g hg i hi p hp => ?_, hn⟩
 ·have ho' := ho
  obtain ⟨h1, h2⟩ := ho
  refine ⟨h1, ?_⟩
  rcases h2 with h2 | ⟨g, cap, cur, hv, hb, hgg, r⟩
  ·exact .inl h2
  ·exact .inr ⟨g, cap, cur, hv, hb, (k g hb (ho'.lt g (by rw [hv]; rfl)).2).trans hgg, r⟩
 ·obtain ⟨A1, c1, A2, c2, e, h, r1, r2⟩ := hr g hg i hi p hp
  obtain ⟨n1, n2⟩ := hn i p hp
  refine ⟨A1, c1, A2, c2, e, ?_, r1, r2⟩
  obtain ⟨v1, v2, e', k1, k2⟩ := h
  have e1 : p.1 = v1 := by have := e'; simp only [pair, List.cons.injEq, and_true] at this; exact this.1
  have e2 : p.2 = v2 := by have := e'; simp only [pair, List.cons.injEq, and_true] at this; exact this.2
  exact ⟨v1, v2, e', k1.keep encStr_ok (by decide) (e1 ▸ n1) k, k2.keep encBool_ok (by decide) (e2 ▸ n2) k⟩
def Lies (W : World) (base g : Nat) (V : Value) (A : Option Addr) (c : Nat) (a : List Dev) : Prop := ∃ (W0 : World) (ba : Nat), OArr 68 W0 ba (.slice A 3 c) a ∧ base ≤ ba ∧ W0.heap.size ≤ W.heap.size ∧ (∀ j, ba ≤ j → j < W0.heap.size → W.heap[j]? = W0.heap[j]?) ∧ (∀ j, V.ownBlock = some j → j < ba ∨ W0.heap.size ≤ j) ∧ (g < ba ∨ W0.heap.size ≤ g)
theorem Lies.oarr {W : World} {base g : Nat} {V : Value} {A : Option Addr} {c : Nat} {a : List Dev} (h : Lies W base g V A c a) : OArr 68 W base (.slice A 3 c) a := by
 obtain ⟨W0, ba, ho, hb, hs, hk, _, _⟩ := h
 exact (ho.low hk).base hb
theorem Lies.up {W W' : World} {base g : Nat} {V : Value} {A : Option Addr} {c : Nat} {a : List Dev} (h : Lies W base g V A c a) (k : Ext W W') : Lies W' base g V A c a := by
 obtain ⟨W0, ba, ho, hb, hs, hk, hv, hg⟩ := h
 exact ⟨W0, ba, ho, hb, Nat.le_trans hs k.size, fun j h1 h2 => (Below.block k j (by omega)).trans (hk j h1 h2), hv, hg⟩
theorem Lies.off {W : World} {base g : Nat} {V : Value} {A : Option Addr} {c : Nat} {a : List Dev} (h : Lies W base g V A c a) {p : Addr} (hp : p.block < base) (u : Value) : Lies (W.setCell p u) base g V A c a := by
 obtain ⟨W0, ba, ho, hb, hs, hk, hv, hg⟩ := h
 exact ⟨W0, ba, ho, hb, by simpa using hs, fun j h1 h2 => (Below.heap_setCell W p u j (by omega)).trans (hk j h1 h2), hv, hg⟩
theorem Lies.row {W W' : World} {base g : Nat} {V V' : Value} {A : Option Addr} {c : Nat} {a : List Dev} (h : Lies W base g V A c a) (hg' : W.grownBy W' V.ownBlock) (hV : V'.ownBlock = V.ownBlock ∨ V'.ownBlock = some W.heap.size) : Lies W' base g V' A c a := by
 obtain ⟨W0, ba, ho, hb, hs, hk, hv, hg⟩ := h
 refine ⟨W0, ba, ho, hb, Nat.le_trans hs hg'.size, fun j h1 h2 => (hg'.block j (by omega) (fun e => ?_)).trans (hk j h1 h2), fun j hj => ?_, hg⟩
 ·rcases hv j e.symm with h | h <;> omega
 ·rcases hV with e | e
  ·exact hv j (by rw [← e]; exact hj)
  ·right
   rw [hj] at e
   injection e with e
   omega
structure StepW (w W : World) (b1 b2 b3 g base : Nat) (A : Option Addr) (c : Nat) (a : List Dev) (n r : Int) (V : Value) (z : List Int) : Prop where
 x : Ext w W
 k : Blk_ W b1 121 #[.int .i64 n, .int .i64 r]
 q : Blk_ W b2 30 #[.slice none 0 0]
 p : Blk_ W b3 121 #[.int .i64 0, .int .i64 0]
 o : Blk_ W g 30 #[.slice A 3 c]
 a : Lies W base g V A c a
 z : W.ownsRow (g + 1) 3 1 V z.length (z.flatMap encInt)
 lo : w.heap.size ≤ b1 ∧ b1 < b2 ∧ b2 < b3 ∧ b3 < base ∧ base ≤ g
theorem StepW.up {w W W' : World} {b1 b2 b3 g base : Nat} {A : Option Addr} {c : Nat} {a : List Dev} {n r : Int} {V : Value} {z : List Int} (h : StepW w W b1 b2 b3 g base A c a n r V z) (k : Ext W W') : StepW w W' b1 b2 b3 g base A c a n r V z :=
 ⟨h.x.trans k, h.k.ext k, h.q.ext k, h.p.ext k, h.o.ext k, h.a.up k, own_ext h.z k, h.lo⟩
theorem StepW.off {w W : World} {b1 b2 b3 g base : Nat} {A : Option Addr} {c : Nat} {a : List Dev} {n r : Int} {V : Value} {z : List Int} (h : StepW w W b1 b2 b3 g base A c a n r V z) (i : Nat) (u : Value) :
  Ext w (W.setCell ⟨b1, i, none⟩ u) ∧ Blk_ (W.setCell ⟨b1, i, none⟩ u) b2 30 #[.slice none 0 0] ∧ Blk_ (W.setCell ⟨b1, i, none⟩ u) b3 121 #[.int .i64 0, .int .i64 0] ∧ Blk_ (W.setCell ⟨b1, i, none⟩ u) g 30 #[.slice A 3 c] ∧
   Lies (W.setCell ⟨b1, i, none⟩ u) base g V A c a ∧ (W.setCell ⟨b1, i, none⟩ u).ownsRow (g + 1) 3 1 V z.length (z.flatMap encInt) := by
 obtain ⟨l1, l2, l3, l4, l5⟩ := h.lo
 refine ⟨h.x.setCell (p := ⟨b1, i, none⟩) l1 u, h.q.far (p := ⟨b1, i, none⟩) (by simp only; omega) u, h.p.far (p := ⟨b1, i, none⟩) (by simp only; omega) u, h.o.far (p := ⟨b1, i, none⟩) (by simp only; omega) u, h.a.off (p := ⟨b1, i, none⟩) (by simp only; omega) u, ?_⟩
 exact own_grown h.z (setRow_by W b1 i u) (fun g' hg' => by have := (h.z.lt g' hg').1; intro e; injection e with e; omega)
theorem StepW.next {w W : World} {b1 b2 b3 g base : Nat} {A : Option Addr} {c : Nat} {a : List Dev} {n r : Int} {V : Value} {z : List Int} (h : StepW w W b1 b2 b3 g base A c a n r V z) (n' : Int) : StepW w (W.setCell ⟨b1, 0, none⟩ (.int .i64 n')) b1 b2 b3 g base A c a n' r V z := by
 obtain ⟨x, q, p, o, a', z'⟩ := h.off 0 (.int .i64 n')
 exact ⟨x, h.k.set 0 (.int .i64 n'), q, p, o, a', z', h.lo⟩
theorem StepW.rounds {w W : World} {b1 b2 b3 g base : Nat} {A : Option Addr} {c : Nat} {a : List Dev} {n r : Int} {V : Value} {z : List Int} (h : StepW w W b1 b2 b3 g base A c a n r V z) (r' : Int) : StepW w (W.setCell ⟨b1, 1, none⟩ (.int .i64 r')) b1 b2 b3 g base A c a n r' V z := by
 obtain ⟨x, q, p, o, a', z'⟩ := h.off 1 (.int .i64 r')
 exact ⟨x, h.k.set 1 (.int .i64 r'), q, p, o, a', z', h.lo⟩
theorem StepW.out {w W : World} {b1 b2 b3 g base : Nat} {A A' : Option Addr} {c c' : Nat} {a a' : List Dev} {n r : Int} {V : Value} {z : List Int} (h : StepW w W b1 b2 b3 g base A c a n r V z) {base' : Nat} (ha : OArr 68 W base' (.slice A' 3 c') a') (hb : g < base') (hv : ∀ j, V.ownBlock = some j → j < base') : StepW w (W.setCell ⟨g, 0, none⟩ (.slice A' 3 c')) b1 b2 b3 g base A' c' a' n r V z := by
 obtain ⟨l1, l2, l3, l4, l5⟩ := h.lo
 refine ⟨h.x.setCell (p := ⟨g, 0, none⟩) (by simp only; omega) _, h.k.far (p := ⟨g, 0, none⟩) (by simp only; omega) _, h.q.far (p := ⟨g, 0, none⟩) (by simp only; omega) _, h.p.far (p := ⟨g, 0, none⟩) (by simp only; omega) _, h.o.set 0 _,
  ⟨W, base', ha, by omega, by simp, fun j h1 _ => Below.heap_setCell W _ _ j (by simp only; omega), fun j hj => .inl (hv j hj), .inl hb⟩, ?_, h.lo⟩
 exact own_grown h.z (setRow_by W g 0 _) (fun g' hg' => by have := (h.z.lt g' hg').1; intro e; injection e with e; omega)
def sortI (l : List Int) : List Int := l.mergeSort (fun x y => decide (x ≤ y))
theorem scrubStep_any (cs : List Value) (a : List Dev) (m next rounds many : Nat) (all : List ByteArray) (w : World) (h : RArr w cs a) (hp : Part a m all) (h16 : 16 ≤ m) (h64 : m ≤ 64) (h2 : m % 2 = 0) (hn : next < m) (hr : rounds ≤ 1000000) (hm : many ≤ 64) :
  Calls Tryz.prog 102 #[.agg cs.toArray, .agg #[.int .i64 next, .int .i64 rounds], .int .i64 many] w fun e w' => ∃ A c A' c' r, r = scrubN m all many ⟨a, next, rounds, 0, []⟩ ∧
   e = .returned (.tuple #[.agg #[.slice A 3 c], .agg #[.int .i64 r.next, .int .i64 r.rounds], .int .i64 r.count, .slice A' (sortI (ints r.gone)).length c', .int .i64 0]) ∧ Ext w w' ∧ OArr 68 w' w.heap.size (.slice A 3 c) r.a ∧ r.a.length = 3 ∧
   w'.ownsRow w.heap.size 3 1 (.slice A' (sortI (ints r.gone)).length c') (sortI (ints r.gone)).length ((sortI (ints r.gone)).flatMap encInt) := by
 obtain ⟨A, c, rfl⟩ := h.form
 obtain ⟨i1, hi1, za1, zb1, zc1⟩ := info_parts info_int8
 have HI1 := Lib.hid (And.intro hi1 (And.intro za1 (And.intro zb1 zc1)))
 have h3 := hp.good.len
 have hmay := hp.good.may h16 h2
 have hl0 : (dv a 0).sec.length = m := hp.good.l0
 have H3 := Lib.hid h3
 have HMAY := Lib.hid hmay
 have HL0 := Lib.hid hl0
 have HBD := Lib.hid (fun k => scrub_bounds (s := ⟨a, next, rounds, 0, []⟩) hp h16 h64 h2 hn k)
 have HP := Lib.hid hp
 have HM := Lib.hid (And.intro h16 (And.intro h64 h2))
 have HR := Lib.hid h
 have HMN := Lib.hid hm
 have m64 : (m : Int) ≤ 64 := by omega
 have nm : (next : Int) < (m : Int) := by omega
 have rb : (rounds : Int) ≤ 1000000 := by omega
 have mn : (many : Int) ≤ 64 := by omega
 clear hi1 za1 zb1 zc1 h3 hmay hl0 hp h16 h64 h2 h hn hr hm
 go_enter Tryz.func102, Tryz.ntmps102
 go_wp2_with fail
 refine calls_abs (fun W => Ext w W ∧ Blk_ W w.heap.size 30 #[.slice A a.length c] ∧ Blk_ W (w.heap.size + 1) 121 #[.int .i64 next, .int .i64 rounds] ∧ Blk_ W (w.heap.size + 2) 30 #[.slice none 0 0] ∧ Blk_ W (w.heap.size + 3) 121 #[.int .i64 0, .int .i64 0])
  ⟨((((Ext.refl _).alloc _).alloc _).alloc _).alloc _, (((Blk_.new _ _ _).alloc _).alloc _).alloc _, ((Blk_.new1 _ _ _ _).alloc _).alloc _, (Blk_.new2 _ _ _ _ _).alloc _, by have := Blk_.new (((w.alloc (.cells #[.slice A a.length c] 30)).alloc (.cells #[.int .i64 next, .int .i64 rounds] 121)).alloc (.cells #[.slice none 0 0] 30)) 121 #[.int .i64 0, .int .i64 0]; simpa [World.size_alloc] using this⟩ ?_
 rintro w1 ⟨hx1, hb1, hk1, hq1, hp1⟩
 obtain ⟨b0, e0⟩ : ∃ b, b = w.heap.size := ⟨_, rfl⟩
 obtain ⟨b1, e1⟩ : ∃ b, b = b0 + 1 := ⟨_, rfl⟩
 obtain ⟨b2, e2⟩ : ∃ b, b = b1 + 1 := ⟨_, rfl⟩
 obtain ⟨b3, e3⟩ : ∃ b, b = b2 + 1 := ⟨_, rfl⟩
 rw [← e0, ← e1, ← e2, ← e3]
 have hk1' : Blk_ w1 b1 121 #[.int .i64 next, .int .i64 rounds] := by rw [e1, e0]; exact hk1
 have hq1' : Blk_ w1 b2 30 #[.slice none 0 0] := by rw [e2, e1, e0]; exact hq1
 have hp1' : Blk_ w1 b3 121 #[.int .i64 0, .int .i64 0] := by rw [e3, e2, e1, e0]; exact hp1
 rw [← e0] at hb1
 have HE := Lib.hid (And.intro e0 (And.intro e1 (And.intro e2 e3)))
 have HX1 := Lib.hid hx1
 have HB1 := Lib.hid hb1
 have HK1 := Lib.hid hk1'
 have HQ1 := Lib.hid hq1'
 have HP1 := Lib.hid hp1'
 have HR1 := Lib.hid (HR.out.up hx1)
 clear e0 e1 e2 e3 hx1 hb1 hk1 hq1 hp1 hk1' hq1' hp1' HR
 obtain ⟨b, o, rfl, hl⟩ := HR1.out.look 0 (by have := H3.out; omega)
 obtain ⟨A1, c1, A2, c2, r0, r1, hd⟩ := hl 0 (by have := H3.out; omega)
 simp at r0 r1
 rw [HL0.out] at r0
 refine (arrCheck_any [.slice (some ⟨b, o, none⟩) a.length c] a w1 HR1.out).mono ?_
 rintro e w2 ⟨rfl, hx2⟩
 rw [arrCode_true HMAY.out]
 have HX2 := Lib.hid hx2
 have q0 := (HB1.out.ext hx2).cell 0
 have k0 := (HK1.out.ext hx2).cell 0
 have k1 := (HK1.out.ext hx2).cell 1
 simp at q0 k0 k1
 have r0' := hx2.cell r0
 have hai : (0 : Int) < (a.length : Int) := by have := H3.out; omega
 have t1 : decide ((next : Int) < 0) = false := by simp
 have t2 : decide ((m : Int) ≤ (next : Int)) = false := by simp; omega
 have t3 : decide ((rounds : Int) < 0) = false := by simp
 have t4 : decide ((1073741824 : Int) < (rounds : Int)) = false := by simp; omega
 have t5 : decide ((many : Int) < 0) = false := by simp
 have t6 : decide ((64 : Int) < (many : Int)) = false := by simp; omega
 clear hx2 r0 r1 hd hl
 go_wp2_with fail
 refine (arrCopy_any [.slice (some ⟨b, o, none⟩) a.length c] a w2 (HR1.out.up HX2.out)).mono ?_
 rintro e w3 ⟨A', c', rfl, hx3, ho⟩
 rw [H3.out] at ho ⊢
 have HX3 := Lib.hid (HX1.out.trans (HX2.out.trans hx3))
 have HS3 := Lib.hid (show ∀ g, g = w3.heap.size → StepW w (w3.alloc (.cells #[.slice A' 3 c'] 30)) b1 b2 b3 g w2.heap.size A' c' a next rounds (.slice none 0 0) [] by
  intro g hg
  subst hg
  have hx13 := (HX2.out.trans hx3).alloc (.cells #[.slice A' 3 c'] 30)
  have h1 := HE.out
  have h2 := HP1.out.lt
  have h3 := HX2.out.size
  have h4 := hx3.size
  exact ⟨HX1.out.trans hx13, HK1.out.ext hx13, HQ1.out.ext hx13, HP1.out.ext hx13, Blk_.new _ _ _, ⟨w3, w2.heap.size, ho, Nat.le_refl _, by simp, fun j _ h => Below.block ((Ext.refl w3).alloc _) j h, fun j hj => (by cases hj), .inr (Nat.le_refl _)⟩, World.ownsRow_nil _ _ _ _, by omega⟩)
 clear hx3 ho q0 k0 k1 r0' t1 t2 t3 t4 t5 t6
 go_wp2_with fail
 obtain ⟨g, hg⟩ : ∃ g, g = w3.heap.size := ⟨_, rfl⟩
 have HS4 := Lib.hid (HS3.out g hg)
 rw [← hg]
 refine wp_abs (fun W => StepW w W b1 b2 b3 g w2.heap.size A' c' a next rounds (.slice none 0 0) []) HS4.out ?_
 rintro w4 hs4
 obtain ⟨base, hbase⟩ : ∃ b, b = w2.heap.size := ⟨_, rfl⟩
 rw [← hbase] at hs4
 have HS := Lib.hid hs4
 clear hg hs4 hbase HS3 HS4 HX3
 go_loopw [14, 15, 64] (fun cv gv iv wr => ∃ (k : Nat) (st : Sc) (A : Option Addr) (c : Nat) (A' : Option Addr) (c' : Nat), st = scrubN m all k ⟨a, next, rounds, 0, []⟩ ∧ cv = .int .i64 st.count ∧ gv = .slice A' (ints st.gone).length c' ∧ iv = .int .i64 k ∧ k ≤ many ∧
   StepW w wr b1 b2 b3 g base A c st.a st.next st.rounds (.slice A' (ints st.gone).length c') (ints st.gone)) (fun _ _ iv _ => many - (intOf iv).toNat)
 case atStart => exact ⟨0, ⟨a, next, rounds, 0, []⟩, A', c', none, 0, rfl, rfl, rfl, rfl, Nat.zero_le _, HS.out⟩
 case round =>
  clear HS
  obtain ⟨k, st, A, c, A', c', hst, rfl, rfl, rfl, hk, hs⟩ := hrel
  obtain ⟨y1, y2, y3, y4, y5, y6⟩ := HBD.out k
  rw [← hst] at y1 y2 y3 y4 y5 y6
  have y6 : st.gone.length ≤ k := by simpa using y6
  have hs1 : scrubN m all (k + 1) ⟨a, next, rounds, 0, []⟩ = scrub1 m all st := by rw [hst]; rfl
  have HST := Lib.hid (And.intro hst hs1)
  have HPA := Lib.hid y1
  have HY := Lib.hid y6
  have s1 : (st.next : Int) < (m : Int) := by omega
  have s2 : (st.rounds : Int) ≤ 2000000 := by omega
  have s3 : 0 ≤ st.count := by omega
  have s4 : st.count ≤ 200 := by omega
  have hlen := ints_length st.gone
  have s5 : ((ints st.gone).length : Int) ≤ 64 := by omega
  have HW := Lib.hid hs
  have HKM := Lib.hid hk
  clear hst hs1 y1 y3 y4 y5 y6 hk hlen
  by_cases hlt : k < many
  ·have hki : (k : Int) < (many : Int) := by omega
   have HLT := Lib.hid hlt
   have HNX := Lib.hid y2
   clear hlt y2
   have q13 := HW.out.o.cell 0
   have k0 := HW.out.k.cell 0
   simp at q13 k0
   go_wp2_with fail
   refine (healSector_any [.slice A 3 c] st.a m st.next all wr (HW.out.a.oarr.rarr (by rw [HPA.out.good.len]; decide)) HPA.out HM.out.1 HM.out.2.1 HM.out.2.2 HNX.out).mono ?_
   have hcnt := healP_count HPA.out HM.out.2.1 HNX.out
   rintro e w6 (⟨hc, A6, c6, rfl, hx6, ho6⟩ | ⟨hc, rfl, hx6⟩)
   ·have hs6 := HW.out.up hx6
    have p13 := hs6.o.cell 0
    have z13 := hs6.o.frozen 0
    have l13 := hs6.o.lt
    have p0 := hs6.k.cell 0
    have p1 := hs6.k.cell 1
    have zk0 := hs6.k.frozen 0
    have zk1 := hs6.k.frozen 1
    have l1 := hs6.k.lt
    simp at p13 p0 p1
    have hne1 : ¬ (b1 = g) := by have := hs6.lo; omega
    have hne2 : ¬ (g = b1) := by have := hs6.lo; omega
    have HS6 := Lib.hid hs6
    have HC := Lib.hid (scrub1_ok (m := m) (all := all) hc)
    obtain ⟨x, hx⟩ : ∃ x, x = healP st.a all st.next := ⟨_, rfl⟩
    rw [← hx] at hcnt ho6 HC ⊢
    have HX := Lib.hid hx
    have HO6 := Lib.hid ho6
    have HG6 := Lib.hid (show g < wr.heap.size from HW.out.o.lt)
    have HV6 := Lib.hid (fun j (hj : (Value.slice A' (ints st.gone).length c').ownBlock = some j) => (HW.out.z.lt j hj).2)
    obtain ⟨x1, x2⟩ := x
    dsimp only at *
    clear hx ho6 hs6 q13 k0 hx6 hc
    by_cases hnx : st.next + 1 = m
    ·have tn : ((st.next : Int) + 1 == (m : Int)) = true := by simp; omega
     have HNN := Lib.hid hnx
     clear hnx
     go_wp2_with fail
     go_roundw
     case rel =>
      obtain ⟨n1, n2⟩ := scrub1_next (m := m) (all := all) (s := st)
      rw [if_pos HNN.out] at n1 n2
      obtain ⟨c1, c2, c3⟩ := HC.out
      have er : ((st.rounds + 1 : Nat) : Int) = (st.rounds : Int) + 1 := by omega
      have en : ((st.next + 1 : Nat) : Int) = (st.next : Int) + 1 := by omega
      refine ⟨k + 1, scrub1 m all st, A6, c6, A', c', HST.out.2.symm, by rw [c2], by rw [c3], by first | rfl | go_num, by have := HLT.out; omega, ?_⟩
      rw [c1, c3, n1, n2]
      try rw [er]
      try rw [en]
      exact (((((HS6.out.out HO6.out HG6.out HV6.out).next _)).next _).rounds _).up ((Ext.refl _).alloc _)
     case measure => have := HLT.out; (simp [intOf]; try omega)
    ·have tn : ((st.next : Int) + 1 == (m : Int)) = false := by simp; omega
     have HNN := Lib.hid hnx
     clear hnx
     go_wp2_with fail
     go_roundw
     case rel =>
      obtain ⟨n1, n2⟩ := scrub1_next (m := m) (all := all) (s := st)
      rw [if_neg HNN.out] at n1 n2
      obtain ⟨c1, c2, c3⟩ := HC.out
      have er : ((st.rounds + 1 : Nat) : Int) = (st.rounds : Int) + 1 := by omega
      have en : ((st.next + 1 : Nat) : Int) = (st.next : Int) + 1 := by omega
      refine ⟨k + 1, scrub1 m all st, A6, c6, A', c', HST.out.2.symm, by rw [c2], by rw [c3], by first | rfl | go_num, by have := HLT.out; omega, ?_⟩
      rw [c1, c3, n1, n2]
      try rw [er]
      try rw [en]
      exact (((HS6.out.out HO6.out HG6.out HV6.out).next _)).up ((Ext.refl _).alloc _)
     case measure => have := HLT.out; (simp [intOf]; try omega)
   ·have hs6 := HW.out.up hx6
    have HS6 := Lib.hid hs6
    have HC := Lib.hid (scrub1_lost (m := m) (all := all) hc)
    have hgone := (own_ext hs6.z ((Ext.refl _).alloc (.cells #[.slice none 0 0] 30)))
    have HGO := Lib.hid hgone
    have p0 := hs6.k.cell 0
    have l1 := hs6.k.lt
    simp at p0
    clear hs6 q13 k0 hx6 hc hgone
    go_wp2_with fail
    refine (containsInt_any A' c' (g + 1) (ints st.gone) st.next _ HGO.out (by have := HY.out; have := HLT.out; have := HMN.out; rw [ints_length]; omega)).mono ?_
    rintro e w7 ⟨rfl, hw7⟩
    subst hw7
    rw [ints_contains]
    have hs7 := HS6.out.up ((Ext.refl _).alloc (.cells #[.slice none 0 0] 30))
    obtain ⟨w7, hw7⟩ : ∃ W, W = w6.alloc (.cells #[.slice none 0 0] 30) := ⟨_, rfl⟩
    rw [← hw7] at hs7 ⊢
    have p0' := hs7.k.cell 0
    have p1' := hs7.k.cell 1
    have zk0 := hs7.k.frozen 0
    have zk1 := hs7.k.frozen 1
    have l1' := hs7.k.lt
    simp at p0' p1'
    have HS7 := Lib.hid hs7
    clear hw7 hs7 p0 l1 HS6 HGO
    by_cases hmem : st.next ∈ st.gone
    ·rw [decide_eq_true hmem]
     have HC2 := Lib.hid (show (scrub1 m all st).a = st.a ∧ (scrub1 m all st).count = st.count ∧ (scrub1 m all st).gone = st.gone by have := HC.out; rwa [if_pos hmem] at this)
     clear hmem HC
     by_cases hnx : st.next + 1 = m
     ·have tn : ((st.next : Int) + 1 == (m : Int)) = true := by simp; omega
      have HNN := Lib.hid hnx
      clear hnx
      go_wp2_with fail
      go_roundw
      case rel =>
       obtain ⟨n1, n2⟩ := scrub1_next (m := m) (all := all) (s := st)
       rw [if_pos HNN.out] at n1 n2
       obtain ⟨c1, c2, c3⟩ := HC2.out
       have er : ((st.rounds + 1 : Nat) : Int) = (st.rounds : Int) + 1 := by omega
       have en : ((st.next + 1 : Nat) : Int) = (st.next : Int) + 1 := by omega
       refine ⟨k + 1, scrub1 m all st, A, c, A', c', HST.out.2.symm, by rw [c2], by rw [c3], by first | rfl | go_num, by have := HLT.out; omega, ?_⟩
       rw [c1, c3, n1, n2]
       try rw [er]
       try rw [en]
       exact ((HS7.out.next _).next _).rounds _
      case measure => have := HLT.out; (simp [intOf]; try omega)
     ·have tn : ((st.next : Int) + 1 == (m : Int)) = false := by simp; omega
      have HNN := Lib.hid hnx
      clear hnx
      go_wp2_with fail
      go_roundw
      case rel =>
       obtain ⟨n1, n2⟩ := scrub1_next (m := m) (all := all) (s := st)
       rw [if_neg HNN.out] at n1 n2
       obtain ⟨c1, c2, c3⟩ := HC2.out
       have er : ((st.rounds + 1 : Nat) : Int) = (st.rounds : Int) + 1 := by omega
       have en : ((st.next + 1 : Nat) : Int) = (st.next : Int) + 1 := by omega
       refine ⟨k + 1, scrub1 m all st, A, c, A', c', HST.out.2.symm, by rw [c2], by rw [c3], by first | rfl | go_num, by have := HLT.out; omega, ?_⟩
       rw [c1, c3, n1, n2]
       try rw [er]
       try rw [en]
       exact HS7.out.next _
      case measure => have := HLT.out; (simp [intOf]; try omega)
    ·rw [decide_eq_false hmem]
     have HC2 := Lib.hid (show (scrub1 m all st).a = st.a ∧ (scrub1 m all st).count = st.count ∧ (scrub1 m all st).gone = st.gone ++ [st.next] by have := HC.out; rwa [if_neg hmem] at this)
     clear hmem HC
     go_wp2_with (at_builtin; refine wpList_push (.tmp 85) (.tmp 88) 44 rfl rfl (g + 1) 3 i1 (.int .i64 0) 8 Tryz.underlying44 HI1.out.1 HI1.out.2.1 HI1.out.2.2.1 HI1.out.2.2.2 rfl _ (ints st.gone).length _ rfl (own_ext HS7.out.z ((Ext.refl _).alloc _)) w7.heap.size 1 (.int .i64 st.next) rfl ?c1 rfl ?c2 ?c3 ?c4 ?_)
     case c1 => exact (Blk_.new _ _ _).cell 0
     case c2 => have := s5; unfold maxLen; omega
     case c3 => have := s5; omega
     case c4 => have := HS7.out.o.lt; simp only [World.size_alloc]; omega
     intro A7 c7 w8 own8 hg8 hap
     have hfm : (ints st.gone).flatMap encInt ++ [Value.int .i64 st.next] = (ints (st.gone ++ [st.next])).flatMap encInt := by rw [ints_snoc, List.flatMap_append]; rfl
     have hln : (ints st.gone).length + 1 = (ints (st.gone ++ [st.next])).length := by rw [ints_snoc, List.length_append]; rfl
     rw [hfm, hln] at own8
     rw [hln] at hap
     have hs7' := HS7.out.up ((Ext.refl _).alloc (.cells #[.int .i64 st.next] 3))
     have hown : ∀ j, (Value.slice A' (ints st.gone).length c').ownBlock = some j → g + 1 ≤ j := fun j hj => (HS7.out.z.lt j hj).1
     have hs8 : StepW w w8 b1 b2 b3 g base A c st.a st.next st.rounds (.slice A7 (ints (st.gone ++ [st.next])).length c7) (ints (st.gone ++ [st.next])) := by
      obtain ⟨l1, l2, l3, l4, l5⟩ := hs7'.lo
      exact ⟨hs7'.x.grown hg8 (fun j hj => by have := hown j hj; omega), hs7'.k.grown hg8 (fun j hj => by have := hown j hj; omega), hs7'.q.grown hg8 (fun j hj => by have := hown j hj; omega), hs7'.p.grown hg8 (fun j hj => by have := hown j hj; omega), hs7'.o.grown hg8 (fun j hj => by have := hown j hj; omega),
       hs7'.a.row hg8 (by rw [World.size_alloc]; exact hap), own8, hs7'.lo⟩
     rw [hln]
     have p0 := hs8.k.cell 0
     have p1 := hs8.k.cell 1
     have zq0 := hs8.k.frozen 0
     have zq1 := hs8.k.frozen 1
     have l8 := hs8.k.lt
     simp at p0 p1
     have HS8 := Lib.hid hs8
     clear own8 hg8 hfm hs7' hown hs8 p0' p1' zk0 zk1 l1' hln
     by_cases hnx : st.next + 1 = m
     ·have tn : ((st.next : Int) + 1 == (m : Int)) = true := by simp; omega
      have HNN := Lib.hid hnx
      clear hnx
      go_wp2_with fail
      go_roundw
      case rel =>
       obtain ⟨n1, n2⟩ := scrub1_next (m := m) (all := all) (s := st)
       rw [if_pos HNN.out] at n1 n2
       obtain ⟨c1, c2, c3⟩ := HC2.out
       have er : ((st.rounds + 1 : Nat) : Int) = (st.rounds : Int) + 1 := by omega
       have en : ((st.next + 1 : Nat) : Int) = (st.next : Int) + 1 := by omega
       refine ⟨k + 1, scrub1 m all st, A, c, A7, c7, HST.out.2.symm, by rw [c2], by rw [c3], by first | rfl | go_num, by have := HLT.out; omega, ?_⟩
       rw [c1, c3, n1, n2]
       try rw [er]
       try rw [en]
       exact ((HS8.out.next _).next _).rounds _
      case measure => have := HLT.out; (simp [intOf]; try omega)
     ·have tn : ((st.next : Int) + 1 == (m : Int)) = false := by simp; omega
      have HNN := Lib.hid hnx
      clear hnx
      go_wp2_with fail
      go_roundw
      case rel =>
       obtain ⟨n1, n2⟩ := scrub1_next (m := m) (all := all) (s := st)
       rw [if_neg HNN.out] at n1 n2
       obtain ⟨c1, c2, c3⟩ := HC2.out
       have er : ((st.rounds + 1 : Nat) : Int) = (st.rounds : Int) + 1 := by omega
       have en : ((st.next + 1 : Nat) : Int) = (st.next : Int) + 1 := by omega
       refine ⟨k + 1, scrub1 m all st, A, c, A7, c7, HST.out.2.symm, by rw [c2], by rw [c3], by first | rfl | go_num, by have := HLT.out; omega, ?_⟩
       rw [c1, c3, n1, n2]
       try rw [er]
       try rw [en]
       exact HS8.out.next _
      case measure => have := HLT.out; (simp [intOf]; try omega)
  ·obtain rfl : k = many := by have := HKM.out; omega
   have hz := HW.out.z
   have HZ := Lib.hid hz
   clear hz hlt
   go_wp2_with fail
   refine (sortInt_any A' c' (g + 1) (ints st.gone) wr HZ.out (by have := HY.out; have := HMN.out; rw [ints_length]; omega)).mono ?_
   rintro e w8 ⟨rfl, hg8, hz8⟩
   have hown : ∀ j, (Value.slice A' (ints st.gone).length c').ownBlock = some j → g + 1 ≤ j := fun j hj => (HZ.out.lt j hj).1
   obtain ⟨l1, l2, l3, l4, l5⟩ := HW.out.lo
   have hx8 := HW.out.x.grown hg8 (fun j hj => by have := hown j hj; omega)
   have hk8 := HW.out.k.grown hg8 (fun j hj => by have := hown j hj; omega)
   have hq8 := HW.out.q.grown hg8 (fun j hj => by have := hown j hj; omega)
   have hp8 := HW.out.p.grown hg8 (fun j hj => by have := hown j hj; omega)
   have ho8 := HW.out.o.grown hg8 (fun j hj => by have := hown j hj; omega)
   have ha8 := (HW.out.a.row (V' := .slice A' (ints st.gone).length c') hg8 (.inl rfl)).oarr
   have q13 := ho8.cell 0
   have k0 := hk8.cell 0
   have k1 := hk8.cell 1
   have y2 := hq8.cell 0
   have z2 := hq8.frozen 0
   have y30 := hp8.cell 0
   have y31 := hp8.cell 1
   have z30 := hp8.frozen 0
   have z31 := hp8.frozen 1
   simp at q13 k0 k1 y2 y30 y31
   have HX8 := Lib.hid hx8
   have HQ8 := Lib.hid hq8
   have HP8 := Lib.hid hp8
   have HA8 := Lib.hid ha8
   have HZ8 := Lib.hid hz8
   clear hg8 hz8 hx8 hk8 hq8 hp8 ho8 ha8 hown
   go_wp2_with fail
   go_region
   have hb23 : b2 ≠ b3 := by omega
   have hc2 := ((HQ8.out.set 0 (.slice A 3 c)).far (p := ⟨b3, 0, none⟩) (by simp only; omega) (.int .i64 st.next)).far (p := ⟨b3, 1, none⟩) (by simp only; omega) (.int .i64 st.rounds)
   have hc3 := (((HP8.out.far (p := ⟨b2, 0, none⟩) (by simp only; omega) (.slice A 3 c)).set 0 (.int .i64 st.next)).set 1 (.int .i64 st.rounds))
   have HC2 := Lib.hid (hc2.ext (Ext.refl _).drew)
   have HC3 := Lib.hid (hc3.ext (Ext.refl _).drew)
   have HA9 := Lib.hid ((((HA8.out.far (p := ⟨b2, 0, none⟩) (by simp only; omega) (.slice A 3 c)).far (p := ⟨b3, 0, none⟩) (by simp only; omega) (.int .i64 st.next)).far (p := ⟨b3, 1, none⟩) (by simp only; omega) (.int .i64 st.rounds)).ext (Ext.refl _).drew)
   have hX9 := (((HX8.out.setCell (p := ⟨b2, 0, none⟩) (by simp only; omega) (.slice A 3 c)).setCell (p := ⟨b3, 0, none⟩) (by simp only; omega) (.int .i64 st.next)).setCell (p := ⟨b3, 1, none⟩) (by simp only; omega) (.int .i64 st.rounds)).drew
   have hne8 : ∀ (i : Nat) (W : World) (u : Value) (q : Nat), q = b2 ∨ q = b3 → W.ownsRow (g + 1) 3 1 (.slice A' ((ints st.gone).mergeSort fun x y => decide (x ≤ y)).length c') ((ints st.gone).mergeSort fun x y => decide (x ≤ y)).length (((ints st.gone).mergeSort fun x y => decide (x ≤ y)).flatMap encInt) →
     (W.setCell ⟨q, i, none⟩ u).ownsRow (g + 1) 3 1 (.slice A' ((ints st.gone).mergeSort fun x y => decide (x ≤ y)).length c') ((ints st.gone).mergeSort fun x y => decide (x ≤ y)).length (((ints st.gone).mergeSort fun x y => decide (x ≤ y)).flatMap encInt) :=
    fun i W u q hq h => own_grown h (setRow_by W q i u) (fun g' hg' => by have := (h.lt g' hg').1; intro e; injection e with e; omega)
   have HZ9 := Lib.hid (own_ext (hne8 1 _ (.int .i64 st.rounds) b3 (.inr rfl) (hne8 0 _ (.int .i64 st.next) b3 (.inr rfl) (hne8 0 _ (.slice A 3 c) b2 (.inl rfl) HZ8.out))) (Ext.refl _).drew)
   have HX9 := Lib.hid hX9
   have hlen8 : ((ints st.gone).mergeSort fun x y => decide (x ≤ y)).length = (ints st.gone).length := List.length_mergeSort _
   have HL8 := Lib.hid hlen8
   clear hc2 hc3 hX9 hne8 hlen8
   go_wp2_with fail
   refine bodyPost_ret (res_cell2_tmp3 rfl rfl HC2.out Tryz.underlying30 rfl (by kernel_rfl) rfl HC3.out Tryz.underlying121 rfl (by kernel_rfl)) rfl ?_
   refine ⟨A, c, A', c', st, HST.out.1, ?_, HX9.out, HA9.out.base (by omega), HPA.out.good.len, ?_⟩
   ·show _ = Ending.returned (.tuple #[.agg #[.slice A 3 c], .agg #[.int .i64 st.next, .int .i64 st.rounds], .int .i64 st.count, .slice A' ((ints st.gone).mergeSort fun x y => decide (x ≤ y)).length c', .int .i64 0])
    rw [HL8.out]
    rfl
   ·exact own_low HZ9.out (by omega)
theorem stepRange_any (cs : List Value) (a : List Dev) (m next rounds : Nat) (many : Int) (all : List ByteArray) (w : World) (h : RArr w cs a) (hp : Part a m all) (h16 : 16 ≤ m) (h64 : m ≤ 64) (h2 : m % 2 = 0) (hn : next < m) (hr : rounds ≤ 1000000) (hm : many < 0) :
  Calls Tryz.prog 102 #[.agg cs.toArray, .agg #[.int .i64 next, .int .i64 rounds], .int .i64 many] w fun e w' => e = .returned (.tuple #[.agg #[.slice none 0 0], .agg #[.int .i64 0, .int .i64 0], .int .i64 0, .slice none 0 0, .int .i64 2]) ∧ Ext w w' := by
 obtain ⟨A, c, rfl⟩ := h.form
 obtain ⟨i1, hi1, za1, zb1, zc1⟩ := info_parts info_int8
 have HI1 := Lib.hid (And.intro hi1 (And.intro za1 (And.intro zb1 zc1)))
 have h3 := hp.good.len
 have hmay := hp.good.may h16 h2
 have hl0 : (dv a 0).sec.length = m := hp.good.l0
 have H3 := Lib.hid h3
 have HMAY := Lib.hid hmay
 have HL0 := Lib.hid hl0
 have HP := Lib.hid hp
 have HM := Lib.hid (And.intro h16 (And.intro h64 h2))
 have HR := Lib.hid h
 have m64 : (m : Int) ≤ 64 := by omega
 have nm : (next : Int) < (m : Int) := by omega
 have rb : (rounds : Int) ≤ 1000000 := by omega
 clear hi1 za1 zb1 zc1 h3 hmay hl0 hp h16 h64 h2 h hn hr
 go_enter Tryz.func102, Tryz.ntmps102
 go_wp2_with fail
 refine calls_abs (fun W => Ext w W ∧ Blk_ W w.heap.size 30 #[.slice A a.length c] ∧ Blk_ W (w.heap.size + 1) 121 #[.int .i64 next, .int .i64 rounds] ∧ Blk_ W (w.heap.size + 2) 30 #[.slice none 0 0] ∧ Blk_ W (w.heap.size + 3) 121 #[.int .i64 0, .int .i64 0])
  ⟨((((Ext.refl _).alloc _).alloc _).alloc _).alloc _, (((Blk_.new _ _ _).alloc _).alloc _).alloc _, ((Blk_.new1 _ _ _ _).alloc _).alloc _, (Blk_.new2 _ _ _ _ _).alloc _, by have := Blk_.new (((w.alloc (.cells #[.slice A a.length c] 30)).alloc (.cells #[.int .i64 next, .int .i64 rounds] 121)).alloc (.cells #[.slice none 0 0] 30)) 121 #[.int .i64 0, .int .i64 0]; simpa [World.size_alloc] using this⟩ ?_
 rintro w1 ⟨hx1, hb1, hk1, hq1, hp1⟩
 obtain ⟨b0, e0⟩ : ∃ b, b = w.heap.size := ⟨_, rfl⟩
 obtain ⟨b1, e1⟩ : ∃ b, b = b0 + 1 := ⟨_, rfl⟩
 obtain ⟨b2, e2⟩ : ∃ b, b = b1 + 1 := ⟨_, rfl⟩
 obtain ⟨b3, e3⟩ : ∃ b, b = b2 + 1 := ⟨_, rfl⟩
 rw [← e0, ← e1, ← e2, ← e3]
 have hk1' : Blk_ w1 b1 121 #[.int .i64 next, .int .i64 rounds] := by rw [e1, e0]; exact hk1
 have hq1' : Blk_ w1 b2 30 #[.slice none 0 0] := by rw [e2, e1, e0]; exact hq1
 have hp1' : Blk_ w1 b3 121 #[.int .i64 0, .int .i64 0] := by rw [e3, e2, e1, e0]; exact hp1
 rw [← e0] at hb1
 have HE := Lib.hid (And.intro e0 (And.intro e1 (And.intro e2 e3)))
 have HX1 := Lib.hid hx1
 have HB1 := Lib.hid hb1
 have HK1 := Lib.hid hk1'
 have HQ1 := Lib.hid hq1'
 have HP1 := Lib.hid hp1'
 have HR1 := Lib.hid (HR.out.up hx1)
 clear e0 e1 e2 e3 hx1 hb1 hk1 hq1 hp1 hk1' hq1' hp1' HR
 obtain ⟨b, o, rfl, hl⟩ := HR1.out.look 0 (by have := H3.out; omega)
 obtain ⟨A1, c1, A2, c2, r0, r1, hd⟩ := hl 0 (by have := H3.out; omega)
 simp at r0 r1
 rw [HL0.out] at r0
 refine (arrCheck_any [.slice (some ⟨b, o, none⟩) a.length c] a w1 HR1.out).mono ?_
 rintro e w2 ⟨rfl, hx2⟩
 rw [arrCode_true HMAY.out]
 have HX2 := Lib.hid hx2
 have q0 := (HB1.out.ext hx2).cell 0
 have k0 := (HK1.out.ext hx2).cell 0
 have k1 := (HK1.out.ext hx2).cell 1
 simp at q0 k0 k1
 have r0' := hx2.cell r0
 have hai : (0 : Int) < (a.length : Int) := by have := H3.out; omega
 have t1 : decide ((next : Int) < 0) = false := by simp
 have t2 : decide ((m : Int) ≤ (next : Int)) = false := by simp; omega
 have t3 : decide ((rounds : Int) < 0) = false := by simp
 have t4 : decide ((1073741824 : Int) < (rounds : Int)) = false := by simp; omega
 have t5 : decide (many < 0) = true := by simp; omega
 have u20 := (HQ1.out.ext hx2).cell 0
 have v20 := (HQ1.out.ext hx2).frozen 0
 have u30 := (HP1.out.ext hx2).cell 0
 have u31 := (HP1.out.ext hx2).cell 1
 have v30 := (HP1.out.ext hx2).frozen 0
 have v31 := (HP1.out.ext hx2).frozen 1
 simp at u20 u30 u31
 have l2 := (HQ1.out.ext hx2).lt
 have l3 := (HP1.out.ext hx2).lt
 have n23 : ¬ (b2 = b3) := by have := HE.out; omega
 have n32 : ¬ (b3 = b2) := by have := HE.out; omega
 clear hx2 r0 r1 hd hl
 go_wp2_with fail
 refine bodyPost_ret (res_cell2_tmp3 rfl rfl (by exact (((HQ1.out.ext HX2.out).set 0 (.slice none 0 0)).far (p := ⟨b3, 0, none⟩) n23 (.int .i64 0)).far (p := ⟨b3, 1, none⟩) n23 (.int .i64 0)) Tryz.underlying30 rfl (by kernel_rfl) rfl (by exact (((HP1.out.ext HX2.out).far (p := ⟨b2, 0, none⟩) n32 (.slice none 0 0)).set 0 (.int .i64 0)).set 1 (.int .i64 0)) Tryz.underlying121 rfl (by kernel_rfl)) rfl ?_
 exact ⟨rfl, (((HX1.out.trans HX2.out).setCell (p := ⟨b2, 0, none⟩) (by have := HE.out; simp only; omega) (.slice none 0 0)).setCell (p := ⟨b3, 0, none⟩) (by have := HE.out; simp only; omega) (.int .i64 0)).setCell (p := ⟨b3, 1, none⟩) (by have := HE.out; simp only; omega) (.int .i64 0)⟩
end Go.Proofs.YtgjijcgkmofaaaaGreatDoor
