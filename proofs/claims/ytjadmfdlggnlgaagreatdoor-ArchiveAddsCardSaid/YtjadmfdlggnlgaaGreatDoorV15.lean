/-
  A catalog out of bytes, read step by step: what each reading leaves. Conditions: none.
-/
import Derived.Test.YtjadmfdlggnlgaaGreatDoorV14
namespace Go.Proofs.YtjadmfdlggnlgaaGreatDoor
set_option linter.unusedSimpArgs false
set_option linter.unusedVariables false
set_option maxRecDepth 100000
set_option maxHeartbeats 8000000
open Go.RowKit
theorem bs_size (l : List UInt8) : (bs l).size = l.length := size_bs l
theorem bs_ext (l : List UInt8) (a b : Nat) : (bs l).extract a b = bs ((l.take b).drop a) := by
 have h : lst ((bs l).extract a b) = (l.take b).drop a := by rw [lst_extract]; unfold sub_; rw [lst_bs]
 rw [← h, bs_lst]
theorem tk_ok {l : List UInt8} {n : Nat} (h : n ≤ l.length) : takeR (bs l) 0 n = (bs (l.take n), bs (l.drop n), 0) := by
 rw [take_ok (by rw [bs_size]; omega), bs_ext, bs_ext, bs_size, List.take_length, List.drop_zero]
theorem tk_no {l : List UInt8} {n : Nat} (h : l.length < n) : takeR (bs l) 0 n = (.empty, bs l, 5) := take_short (by rw [bs_size]; exact h)
theorem tk_err (r : ByteArray) (n : Nat) : takeR r 5 n = (.empty, r, 5) := take_err n (by decide)
theorem nu_err (r : ByteArray) (n : Nat) : numR r 5 n = (0, r, 5) := by unfold numR; rw [tk_err]; rfl
theorem n1_ok (a : UInt8) (t : List UInt8) : numR (bs (a :: t)) 0 1 = ((a.toNat : Int), bs t, 0) := by
 unfold numR
 rw [tk_ok (by simp)]
 simp [foldV]
theorem n1_no : numR (bs []) 0 1 = (0, bs [], 5) := by
 unfold numR
 rw [tk_no (by simp)]
 rfl
theorem n2_ok (a b : UInt8) (t : List UInt8) : numR (bs (a :: b :: t)) 0 2 = (256 * (a.toNat : Int) + (b.toNat : Int), bs t, 0) := by
 unfold numR
 rw [tk_ok (by simp)]
 simp [foldV]
theorem n2_no {l : List UInt8} (h : l.length < 2) : numR (bs l) 0 2 = (0, bs l, 5) := by
 unfold numR
 rw [tk_no h]
 rfl
theorem num_bound (r : ByteArray) (e : Int) (n : Nat) (hn : n ≤ 2) : 0 ≤ (numR r e n).1 ∧ (numR r e n).1 ≤ 65535 ∧ (n ≤ 1 → (numR r e n).1 ≤ 255) ∧ (numR r e n).2.1.size ≤ r.size := by
 have hl := take_len r e n
 unfold numR
 generalize takeR r e n = T at *
 obtain ⟨t, x, e'⟩ := T
 dsimp only at hl ⊢
 have hlen : (lst t).length ≤ n := by rw [length_lst]; exact hl.1
 match h : lst t with
 | [] => exact ⟨by decide, by decide, fun _ => by decide, hl.2⟩
 | [a] =>
  have := u8_bd a
  refine ⟨?_, ?_, fun _ => ?_, hl.2⟩ <;> (simp only [foldV, List.foldl]; omega)
 | [a, b] =>
  have := u8_bd a
  have := u8_bd b
  rw [h] at hlen
  simp only [List.length_cons, List.length_nil] at hlen
  refine ⟨?_, ?_, fun _ => by omega, hl.2⟩ <;> (simp only [foldV, List.foldl]; omega)
 | a :: b :: c :: l =>
  rw [h] at hlen
  simp only [List.length_cons] at hlen
  omega
theorem num_e (r : ByteArray) (e : Int) (n : Nat) (h : e = 0 ∨ e = 5) : (numR r e n).2.2 = 0 ∨ (numR r e n).2.2 = 5 := by
 unfold numR takeR
 dsimp only
 rcases h with rfl | rfl
 ·rw [if_pos rfl]
  split
  ·exact .inr rfl
  ·exact .inl rfl
 ·exact .inr rfl
theorem take_e (r : ByteArray) (e : Int) (n : Nat) (h : e = 0 ∨ e = 5) : (takeR r e n).2.2 = 0 ∨ (takeR r e n).2.2 = 5 := num_e r e n h
theorem blk_step (r : ByteArray) (j : Nat) (p : Int) :
  ((numR r 0 2).2.2 = 0 ∧ decBlocks (j + 1) p (lst r) = (decBlocks j (p + secs (numR r 0 2).1) (lst (numR r 0 2).2.1)).map (fun y => (⟨p, (numR r 0 2).1⟩ :: y.1, y.2))) ∨
  ((numR r 0 2).2.2 = 5 ∧ decBlocks (j + 1) p (lst r) = none) := by
 obtain ⟨l, rfl⟩ : ∃ l, r = bs l := ⟨lst r, (bs_lst r).symm⟩
 rw [lst_bs]
 match l with
 | [] => right; rw [n2_no (by simp)]; exact ⟨rfl, rfl⟩
 | [a] => right; rw [n2_no (by simp)]; exact ⟨rfl, rfl⟩
 | a :: b :: t => left; rw [n2_ok, lst_bs]; exact ⟨rfl, rfl⟩
theorem getD_at (l : List UInt8) (m i : Nat) : l.getD (m + i) 0 = (l.drop m).getD i 0 := by
 rw [List.getD_eq_getElem?_getD, List.getD_eq_getElem?_getD, List.getElem?_drop]
theorem ent_step (r : ByteArray) (j m : Nat) (hm : (numR r 0 1).1 = (m : Int)) (x2 : ByteArray × ByteArray × Int) (h2 : x2 = takeR (numR r 0 1).2.1 (numR r 0 1).2.2 m) (x3 x4 x5 : Int × ByteArray × Int) (h3 : x3 = numR x2.2.1 x2.2.2 1) (h4 : x4 = numR x3.2.1 x3.2.2 2) (h5 : x5 = numR x4.2.1 x4.2.2 1) :
  (x5.2.2 = 0 ∧ decEnts (j + 1) (lst r) = (decEnts j (lst x5.2.1)).map (fun y => (⟨x2.1, x3.1, x4.1, x5.1⟩ :: y.1, y.2))) ∨ (x5.2.2 = 5 ∧ decEnts (j + 1) (lst r) = none) := by
 obtain ⟨l, rfl⟩ : ∃ l, r = bs l := ⟨lst r, (bs_lst r).symm⟩
 rw [lst_bs]
 match l with
 | [] =>
  rw [n1_no] at h2
  dsimp only at h2
  rw [tk_err] at h2; subst h2
  dsimp only at h3
  rw [nu_err] at h3; subst h3
  dsimp only at h4
  rw [nu_err] at h4; subst h4
  dsimp only at h5
  rw [nu_err] at h5; subst h5
  exact .inr ⟨rfl, rfl⟩
 | c :: l =>
  rw [n1_ok] at h2 hm
  dsimp only at h2 hm
  obtain rfl : m = c.toNat := by omega
  by_cases hlm : l.length < c.toNat
  ·rw [tk_no hlm] at h2; subst h2
   dsimp only at h3
   rw [nu_err] at h3; subst h3
   dsimp only at h4
   rw [nu_err] at h4; subst h4
   dsimp only at h5
   rw [nu_err] at h5; subst h5
   refine .inr ⟨rfl, ?_⟩
   rw [decEnts, if_pos (by omega)]
  ·rw [tk_ok (by omega)] at h2; subst h2
   dsimp only at h3 ⊢
   have hd : (l.drop c.toNat).length = l.length - c.toNat := List.length_drop
   have g0 := getD_at l c.toNat 0
   have g1 := getD_at l c.toNat 1
   have g2 := getD_at l c.toNat 2
   have g3 := getD_at l c.toNat 3
   have gd : l.drop (c.toNat + 4) = (l.drop c.toNat).drop 4 := by rw [List.drop_drop]
   have ht : entAt c.toNat l = ⟨bs (l.take c.toNat), (l.getD (c.toNat + 0) 0).toNat, 256 * ((l.getD (c.toNat + 1) 0).toNat : Int) + (l.getD (c.toNat + 2) 0).toNat, (l.getD (c.toNat + 3) 0).toNat⟩ := rfl
   generalize l.drop c.toNat = D at *
   match D with
   | [] =>
    rw [n1_no] at h3; subst h3
    dsimp only at h4
    rw [nu_err] at h4; subst h4
    dsimp only at h5
    rw [nu_err] at h5; subst h5
    refine .inr ⟨rfl, ?_⟩
    rw [decEnts, if_pos (by simp at hd; omega)]
   | [b] =>
    rw [n1_ok] at h3; subst h3
    dsimp only at h4
    rw [n2_no (by simp)] at h4; subst h4
    dsimp only at h5
    rw [nu_err] at h5; subst h5
    refine .inr ⟨rfl, ?_⟩
    rw [decEnts, if_pos (by simp at hd; omega)]
   | [b, a1] =>
    rw [n1_ok] at h3; subst h3
    dsimp only at h4
    rw [n2_no (by simp)] at h4; subst h4
    dsimp only at h5
    rw [nu_err] at h5; subst h5
    refine .inr ⟨rfl, ?_⟩
    rw [decEnts, if_pos (by simp at hd; omega)]
   | [b, a1, a2] =>
    rw [n1_ok] at h3; subst h3
    dsimp only at h4
    rw [n2_ok] at h4; subst h4
    dsimp only at h5
    rw [n1_no] at h5; subst h5
    refine .inr ⟨rfl, ?_⟩
    rw [decEnts, if_pos (by simp at hd; omega)]
   | b :: a1 :: a2 :: y :: t =>
    rw [n1_ok] at h3; subst h3
    dsimp only at h4
    rw [n2_ok] at h4; subst h4
    dsimp only at h5
    rw [n1_ok] at h5; subst h5
    refine .inl ⟨rfl, ?_⟩
    rw [decEnts, if_neg (by simp at hd; omega), gd, ht, g0, g1, g2, g3, lst_bs]
    rfl
def MM (bl : List Blk) (o : Option (List Ent × List UInt8)) : Cat × Int := match o with | none => (noCat, 5) | some (es, r) => endCat bl es r
def KK (o : Option (List Blk × List UInt8)) : Cat × Int := match o with | none => (noCat, 5) | some (_, []) => (noCat, 5) | some (bl, k :: r) => MM bl (decEnts k.toNat r)
theorem cat_start (s : ByteArray) : ((numR s 0 1).2.2 = 0 ∧ decCatS s = KK (decBlocks (numR s 0 1).1.toNat 8 (lst (numR s 0 1).2.1))) ∨ ((numR s 0 1).2.2 = 5 ∧ (numR s 0 1).1 = 0 ∧ decCatS s = (noCat, 5)) := by
 obtain ⟨l, rfl⟩ : ∃ l, s = bs l := ⟨lst s, (bs_lst s).symm⟩
 unfold decCatS
 rw [lst_bs]
 match l with
 | [] => right; rw [n1_no]; exact ⟨rfl, rfl, rfl⟩
 | c :: t =>
  left
  rw [n1_ok, lst_bs]
  refine ⟨rfl, ?_⟩
  dsimp only
  unfold decCatL KK MM
  rw [Int.toNat_natCast]
  rfl
theorem cat_mid (bl : List Blk) (r : ByteArray) : ((numR r 0 1).2.2 = 0 ∧ KK (some (bl, lst r)) = MM bl (decEnts (numR r 0 1).1.toNat (lst (numR r 0 1).2.1))) ∨ ((numR r 0 1).2.2 = 5 ∧ (numR r 0 1).1 = 0 ∧ KK (some (bl, lst r)) = (noCat, 5)) := by
 obtain ⟨l, rfl⟩ : ∃ l, r = bs l := ⟨lst r, (bs_lst r).symm⟩
 rw [lst_bs]
 match l with
 | [] => right; rw [n1_no]; exact ⟨rfl, rfl, rfl⟩
 | c :: t =>
  left
  rw [n1_ok, lst_bs]
  refine ⟨rfl, ?_⟩
  dsimp only
  unfold KK
  rw [Int.toNat_natCast]
def BSt (R : Cat × Int) (j : Nat) (p : Int) (bl : List Blk) (r : ByteArray) (e : Int) : Prop := (e = 0 ∧ R = KK ((decBlocks j p (lst r)).map (fun y => (bl ++ y.1, y.2)))) ∨ (e = 5 ∧ R = (noCat, 5))
def ESt (R : Cat × Int) (j : Nat) (bl : List Blk) (es : List Ent) (r : ByteArray) (e : Int) : Prop := (e = 0 ∧ R = MM bl ((decEnts j (lst r)).map (fun y => (es ++ y.1, y.2)))) ∨ (e = 5 ∧ R = (noCat, 5))
theorem BSt.start (s : ByteArray) : BSt (decCatS s) (numR s 0 1).1.toNat 8 [] (numR s 0 1).2.1 (numR s 0 1).2.2 := by
 rcases cat_start s with ⟨h1, h2⟩ | ⟨h1, _, h2⟩
 ·left
  refine ⟨h1, ?_⟩
  rw [h2]
  congr 1
  cases decBlocks (numR s 0 1).1.toNat 8 (lst (numR s 0 1).2.1) <;> rfl
 ·exact .inr ⟨h1, h2⟩
theorem BSt.step {R : Cat × Int} {j : Nat} {p : Int} {bl : List Blk} {r : ByteArray} (h : BSt R (j + 1) p bl r 0) : BSt R j (p + secs (numR r 0 2).1) (bl ++ [⟨p, (numR r 0 2).1⟩]) (numR r 0 2).2.1 (numR r 0 2).2.2 := by
 rcases h with ⟨_, h⟩ | ⟨h0, _⟩
 ·rcases blk_step r j p with ⟨h1, h2⟩ | ⟨h1, h2⟩
  ·left
   refine ⟨h1, ?_⟩
   rw [h, h2, Option.map_map]
   congr 2
   funext y
   simp
  ·right
   refine ⟨h1, ?_⟩
   rw [h, h2]
   rfl
 ·exact absurd h0 (by decide)
theorem BSt.mid {R : Cat × Int} {p : Int} {bl : List Blk} {r : ByteArray} {e : Int} (h : BSt R 0 p bl r e ∨ (e = 5 ∧ R = (noCat, 5))) : ESt R (numR r e 1).1.toNat bl [] (numR r e 1).2.1 (numR r e 1).2.2 ∧ (e = 5 → (numR r e 1).1 = 0) := by
 have key : (e = 0 ∧ R = KK (some (bl, lst r))) ∨ (e = 5 ∧ R = (noCat, 5)) := by
  rcases h with (⟨h1, h2⟩ | h) | h
  ·left
   refine ⟨h1, ?_⟩
   rw [h2]
   simp [decBlocks]
  ·exact .inr h
  ·exact .inr h
 clear h
 rcases key with ⟨rfl, h⟩ | ⟨rfl, h⟩
 ·refine ⟨?_, fun h => absurd h (by decide)⟩
  rcases cat_mid bl r with ⟨h1, h2⟩ | ⟨h1, _, h2⟩
  ·left
   refine ⟨h1, ?_⟩
   rw [h, h2]
   congr 1
   cases decEnts (numR r 0 1).1.toNat (lst (numR r 0 1).2.1) <;> rfl
  ·exact .inr ⟨h1, h.trans h2⟩
 ·rw [nu_err]
  exact ⟨.inr ⟨rfl, h⟩, fun _ => rfl⟩
theorem ESt.step {R : Cat × Int} {j m : Nat} {bl : List Blk} {es : List Ent} {r : ByteArray} (h : ESt R (j + 1) bl es r 0) (hm : (numR r 0 1).1 = (m : Int)) (x2 : ByteArray × ByteArray × Int) (h2 : x2 = takeR (numR r 0 1).2.1 (numR r 0 1).2.2 m) (x3 x4 x5 : Int × ByteArray × Int) (h3 : x3 = numR x2.2.1 x2.2.2 1) (h4 : x4 = numR x3.2.1 x3.2.2 2) (h5 : x5 = numR x4.2.1 x4.2.2 1) :
  ESt R j bl (es ++ [⟨x2.1, x3.1, x4.1, x5.1⟩]) x5.2.1 x5.2.2 := by
 rcases h with ⟨_, h⟩ | ⟨h0, _⟩
 ·rcases ent_step r j m hm x2 h2 x3 x4 x5 h3 h4 h5 with ⟨k1, k2⟩ | ⟨k1, k2⟩
  ·left
   refine ⟨k1, ?_⟩
   rw [h, k2, Option.map_map]
   congr 2
   funext y
   simp
  ·right
   refine ⟨k1, ?_⟩
   rw [h, k2]
   rfl
 ·exact absurd h0 (by decide)
theorem ESt.fin {R : Cat × Int} {bl : List Blk} {es : List Ent} {r : ByteArray} (h : ESt R 0 bl es r 0) : R = endCat bl es (lst r) := by
 rcases h with ⟨_, h⟩ | ⟨h0, _⟩
 ·rw [h]
  simp [decEnts, MM]
 ·exact absurd h0 (by decide)
theorem ESt.bad {R : Cat × Int} {j : Nat} {bl : List Blk} {es : List Ent} {r : ByteArray} (h : ESt R j bl es r 5) : R = (noCat, 5) := by
 rcases h with ⟨h0, _⟩ | ⟨_, h⟩
 ·exact absurd h0 (by decide)
 ·exact h
theorem own_two {w : World} {b b' : Nat} {e e' : TypeId} {z z' n n' : Nat} {v v' : Value} {xs xs' : List Value} (h : w.ownsRow b e z v n xs) (h' : w.ownsRow b' e' z' v' n' xs') (he : e ≠ e') : ∀ g, v.ownBlock = some g → v'.ownBlock ≠ some g := by
 intro g hg hg'
 rcases h.2 with ⟨hv, _⟩ | ⟨g1, cap, cur, hv, _, hg1, _⟩
 ·rw [hv] at hg; cases hg
 ·rcases h'.2 with ⟨hv2, _⟩ | ⟨g2, cap2, cur2, hv2, _, hg2, _⟩
  ·rw [hv2] at hg'; cases hg'
  ·have e1 : g1 = g := by rw [hv] at hg; simpa [Value.ownBlock] using hg
   have e2 : g2 = g := by rw [hv2] at hg'; simpa [Value.ownBlock] using hg'
   subst e1
   rw [e2, hg1] at hg2
   injection hg2 with hg2
   injection hg2 with b1 b2 b3
   exact he b2
def EntOk (x : Ent) : Prop := x.name.size ≤ 140737488355328 ∧ I64 x.block ∧ I64 x.at_ ∧ I64 x.bytes
structure CX (w W : World) (bc base : Nat) (V1 V2 : Value) (bl : List Blk) (es : List Ent) : Prop where
 ext : Ext w W
 low : w.heap.size ≤ bc
 far : bc < base
 cat : Blk_ W bc 40 #[V1, V2]
 o1 : W.ownsRow base 64 2 V1 bl.length (bl.flatMap encBlk)
 o2 : W.ownsRow base 70 4 V2 es.length (es.flatMap encEnt)
 hb : ∀ b ∈ bl, I64 b.first ∧ I64 b.bytes
 he : ∀ x ∈ es, EntOk x
theorem CX.up {w W W' : World} {bc base : Nat} {V1 V2 : Value} {bl : List Blk} {es : List Ent} (h : CX w W bc base V1 V2 bl es) (k : Ext W W') : CX w W' bc base V1 V2 bl es where
 ext := h.ext.trans k
 low := h.low
 far := h.far
 cat := h.cat.ext k
 o1 := own_ext h.o1 k
 o2 := own_ext h.o2 k
 hb := h.hb
 he := h.he
theorem CX.by_ {w W W' : World} {bc base g : Nat} {V1 V2 : Value} {bl : List Blk} {es : List Ent} (h : CX w W bc base V1 V2 bl es) (hg : W.grownBy W' (some g)) (h0 : w.heap.size ≤ g) (h1 : g ≠ bc) (h2 : g < base) : CX w W' bc base V1 V2 bl es where
 ext := h.ext.grown hg (fun k hk => by injection hk; omega)
 low := h.low
 far := h.far
 cat := h.cat.grown hg (fun k hk => by injection hk with hk; omega)
 o1 := own_grown h.o1 hg (fun k hk e => by have := (h.o1.lt k hk).1; injection e; omega)
 o2 := own_grown h.o2 hg (fun k hk e => by have := (h.o2.lt k hk).1; injection e; omega)
 hb := h.hb
 he := h.he
theorem CX.off {w W W' : World} {bc base g : Nat} {V1 V2 : Value} {bl : List Blk} {es : List Ent} (h : CX w W bc base V1 V2 bl es) (hg : W.grownBy W' (some g)) (h0 : w.heap.size ≤ g) (h1 : g ≠ bc) (h2 : V1.ownBlock ≠ some g) (h3 : V2.ownBlock ≠ some g) : CX w W' bc base V1 V2 bl es where
 ext := h.ext.grown hg (fun k hk => by injection hk; omega)
 low := h.low
 far := h.far
 cat := h.cat.grown hg (fun k hk => by injection hk with hk; omega)
 o1 := own_grown h.o1 hg (fun k hk e => h2 (by injection e with e; rw [hk, e]))
 o2 := own_grown h.o2 hg (fun k hk e => h3 (by injection e with e; rw [hk, e]))
 hb := h.hb
 he := h.he
theorem CX.pushB {w W W' : World} {bc base : Nat} {V1 V2 V1' : Value} {bl : List Blk} {es : List Ent} {b : Blk} (h : CX w W bc base V1 V2 bl es) (hg : W.grownBy W' V1.ownBlock) (ho : W'.ownsRow base 64 2 V1' (bl.length + 1) (bl.flatMap encBlk ++ [.int .i64 b.first, .int .i64 b.bytes]))
  (h1 : I64 b.first) (h2 : I64 b.bytes) : CX w (W'.setCell ⟨bc, 0, none⟩ V1') bc base V1' V2 (bl ++ [b]) es where
 ext := (h.ext.grown hg (fun k hk => by have := (h.o1.lt k hk).1; have := h.low; have := h.far; omega)).setCell h.low _
 low := h.low
 far := h.far
 cat := (h.cat.grown hg (fun k hk => by have := (h.o1.lt k hk).1; have := h.far; omega)).set 0 V1'
 o1 := by
  refine ownsRow_setCell_below ?_ h.far V1'
  rw [List.length_append, List.flatMap_append]
  exact ho
 o2 := ownsRow_setCell_below (own_grown h.o2 hg (fun k hk => own_two h.o2 h.o1 (by decide) k hk)) h.far V1'
 hb := fun x hx => by
  rcases List.mem_append.1 hx with hx | hx
  ·exact h.hb x hx
  ·obtain rfl := List.mem_singleton.1 hx; exact ⟨h1, h2⟩
 he := h.he
theorem CX.pushE {w W W' : World} {bc base : Nat} {V1 V2 V2' : Value} {bl : List Blk} {es : List Ent} {x : Ent} (h : CX w W bc base V1 V2 bl es) (hg : W.grownBy W' V2.ownBlock) (ho : W'.ownsRow base 70 4 V2' (es.length + 1) (es.flatMap encEnt ++ [.string x.name, .int .i64 x.block, .int .i64 x.at_, .int .i64 x.bytes]))
  (hx : EntOk x) : CX w (W'.setCell ⟨bc, 1, none⟩ V2') bc base V1 V2' bl (es ++ [x]) where
 ext := (h.ext.grown hg (fun k hk => by have := (h.o2.lt k hk).1; have := h.low; have := h.far; omega)).setCell h.low _
 low := h.low
 far := h.far
 cat := (h.cat.grown hg (fun k hk => by have := (h.o2.lt k hk).1; have := h.far; omega)).set 1 V2'
 o1 := ownsRow_setCell_below (own_grown h.o1 hg (fun k hk => own_two h.o1 h.o2 (by decide) k hk)) h.far V2'
 o2 := by
  refine ownsRow_setCell_below ?_ h.far V2'
  rw [List.length_append, List.flatMap_append]
  exact ho
 hb := h.hb
 he := fun y hy => by
  rcases List.mem_append.1 hy with hy | hy
  ·exact h.he y hy
  ·obtain rfl := List.mem_singleton.1 hy; exact hx
theorem CX.rcat {w W : World} {bc base : Nat} {V1 V2 : Value} {bl : List Blk} {es : List Ent} (h : CX w W bc base V1 V2 bl es) (h1 : bl.length ≤ 1000) (h2 : es.length ≤ 1000) : RCat W [V1, V2] ⟨bl, es⟩ :=
 ⟨V1, V2, rfl, SlR.of_own encBlk_ok h.o1 (by show bl.length * 16 ≤ _; omega) (fun b hb => ⟨rfl, h.hb b hb⟩), SlR.of_own encEnt_ok h.o2 (by show es.length * 40 ≤ _; omega) (fun x hx => ⟨rfl, h.he x hx⟩)⟩
end Go.Proofs.YtjadmfdlggnlgaaGreatDoor
