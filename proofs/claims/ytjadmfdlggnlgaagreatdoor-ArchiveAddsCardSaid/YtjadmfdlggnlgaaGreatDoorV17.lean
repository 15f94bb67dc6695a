/-
  A catalog out of bytes, read byte by byte, in plain Lean: what each reading leaves. Conditions: none.
-/
import Derived.Test.YtjadmfdlggnlgaaGreatDoorV16
namespace Go.Proofs.YtjadmfdlggnlgaaGreatDoor
set_option linter.unusedSimpArgs false
set_option linter.unusedVariables false
set_option maxRecDepth 100000
set_option maxHeartbeats 8000000
open Go.RowKit
def nextV (s : ByteArray) (i : Nat) : Int := (((lst s).getD i 0).toNat : Int)
def nextI (s : ByteArray) (i : Nat) : Nat := if i < s.size then i + 1 else i
def nextH (s : ByteArray) (i : Nat) (sh : Bool) : Bool := if i < s.size then sh else true
def rr (s : ByteArray) (i : Nat) : ByteArray := bs ((lst s).drop i)
def eO (sh : Bool) : Int := if sh then 5 else 0
theorem nextI_le {s : ByteArray} {i : Nat} (h : i ≤ s.size) : nextI s i ≤ s.size := by unfold nextI; split <;> omega
theorem nextV_range (s : ByteArray) (i : Nat) : 0 ≤ nextV s i ∧ nextV s i ≤ 255 := by unfold nextV; have := u8_bd ((lst s).getD i 0); omega
theorem rr_cons {s : ByteArray} {i : Nat} (h : i < s.size) : lst (rr s i) = (lst s).getD i 0 :: (lst s).drop (i + 1) := by
 unfold rr
 have hi : i < (lst s).length := by rw [length_lst]; exact h
 rw [lst_bs, List.drop_eq_getElem_cons hi, List.getD_eq_getElem?_getD, List.getElem?_eq_getElem hi]
 rfl
theorem rr_eq {s : ByteArray} {i : Nat} (h : i < s.size) : rr s i = bs ((lst s).getD i 0 :: (lst s).drop (i + 1)) := by rw [← rr_cons h, bs_lst]
theorem rr_end {s : ByteArray} {i : Nat} (h : ¬ i < s.size) : rr s i = bs [] := by
 unfold rr
 rw [List.drop_of_length_le (by rw [length_lst]; omega)]
theorem rr_zero (s : ByteArray) : rr s 0 = s := by unfold rr; rw [List.drop_zero, bs_lst]
theorem BSt.any {R : Cat × Int} {j j' : Nat} {p p' : Int} {bl bl' : List Blk} {r r' : ByteArray} (h : BSt R j p bl r 5) : BSt R j' p' bl' r' 5 := by
 rcases h with ⟨h, _⟩ | h
 ·exact absurd h (by decide)
 ·exact .inr h
theorem ESt.any {R : Cat × Int} {j j' : Nat} {bl bl' : List Blk} {es es' : List Ent} {r r' : ByteArray} (h : ESt R j bl es r 5) : ESt R j' bl' es' r' 5 := .inr ⟨rfl, h.bad⟩
theorem BSt.start2 (s : ByteArray) : BSt (decCatS s) (nextV s 0).toNat 8 [] (rr s (nextI s 0)) (eO (nextH s 0 false)) := by
 have h := BSt.start s
 by_cases h0 : 0 < s.size
 ·have e : s = bs ((lst s).getD 0 0 :: (lst s).drop 1) := by rw [← rr_eq h0, rr_zero]
  have e1 : numR s 0 1 = (nextV s 0, rr s 1, 0) := by
   conv => lhs; rw [e]
   rw [n1_ok]; rfl
  rw [e1] at h
  unfold nextI nextH
  rw [if_pos h0, if_pos h0]
  exact h
 ·have e : s = bs [] := by rw [← rr_end h0, rr_zero]
  have e1 : numR s 0 1 = (0, bs [], 5) := by
   conv => lhs; rw [e]
   exact n1_no
  rw [e1] at h
  unfold nextI nextH
  rw [if_neg h0, if_neg h0]
  exact h.any
theorem BSt.two {R : Cat × Int} {j : Nat} {p : Int} {bl : List Blk} {s : ByteArray} {i : Nat} (h : BSt R (j + 1) p bl (rr s i) 0) :
  BSt R j (p + secs (256 * nextV s i + nextV s (nextI s i))) (bl ++ [⟨p, 256 * nextV s i + nextV s (nextI s i)⟩]) (rr s (nextI s (nextI s i))) (eO (nextH s (nextI s i) (nextH s i false))) := by
 have h2 := h.step
 by_cases h0 : i < s.size
 ·by_cases h1 : i + 1 < s.size
  ·have e : numR (rr s i) 0 2 = (256 * nextV s i + nextV s (i + 1), rr s (i + 2), 0) := by
    rw [rr_eq h0, ← lst_bs ((lst s).drop (i + 1)), show bs ((lst s).drop (i + 1)) = rr s (i + 1) from rfl, rr_cons h1, n2_ok]
    rfl
   rw [e] at h2
   have e1 : nextI s i = i + 1 := if_pos h0
   have e2 : nextI s (i + 1) = i + 2 := if_pos h1
   have e3 : nextH s i false = false := if_pos h0
   have e4 : nextH s (i + 1) false = false := if_pos h1
   rw [e1, e2, e3, e4]
   exact h2
  ·have e : numR (rr s i) 0 2 = (0, rr s i, 5) := by
    rw [rr_eq h0]
    exact n2_no (by rw [List.length_cons, List.length_drop, length_lst]; omega)
   rw [e] at h2
   have e1 : nextI s i = i + 1 := if_pos h0
   have e4 : nextH s (i + 1) (nextH s i false) = true := if_neg h1
   rw [e1, e4]
   exact h2.any
 ·have e : numR (rr s i) 0 2 = (0, rr s i, 5) := by
   rw [rr_end h0]
   exact n2_no (by simp)
  rw [e] at h2
  have e1 : nextI s i = i := if_neg h0
  have e4 : nextH s i (nextH s i false) = true := if_neg h0
  rw [e1, e4]
  exact h2.any
theorem BSt.mid2 {R : Cat × Int} {p : Int} {bl : List Blk} {s : ByteArray} {i : Nat} {sh : Bool} (h : BSt R 0 p bl (rr s i) (eO sh) ∨ (sh = true ∧ R = (noCat, 5))) : ESt R (nextV s i).toNat bl [] (rr s (nextI s i)) (eO (nextH s i sh)) := by
 have bad : R = (noCat, 5) → sh = true → ESt R (nextV s i).toNat bl [] (rr s (nextI s i)) (eO (nextH s i sh)) := fun hR hs => by
  have e : nextH s i sh = true := by unfold nextH; split <;> simp [hs]
  rw [e]
  exact .inr ⟨rfl, hR⟩
 cases sh with
 | true =>
  refine bad ?_ rfl
  rcases h with (⟨h, _⟩ | ⟨_, h⟩) | ⟨_, h⟩
  ·exact absurd h (by decide)
  ·exact h
  ·exact h
 | false =>
  have h' : BSt R 0 p bl (rr s i) 0 := by
   rcases h with h | ⟨h, _⟩
   ·exact h
   ·cases h
  have h2 := (BSt.mid (.inl h')).1
  by_cases h0 : i < s.size
  ·have e : numR (rr s i) 0 1 = (nextV s i, rr s (i + 1), 0) := by rw [rr_eq h0, n1_ok]; rfl
   rw [e] at h2
   have e1 : nextI s i = i + 1 := if_pos h0
   have e3 : nextH s i false = false := if_pos h0
   rw [e1, e3]
   exact h2
  ·have e : numR (rr s i) 0 1 = (0, bs [], 5) := by rw [rr_end h0]; exact n1_no
   rw [e] at h2
   have e3 : nextH s i false = true := if_neg h0
   rw [e3]
   exact h2.any
theorem ent_none {s : ByteArray} {i j : Nat} (h : ¬ (i < s.size ∧ i + 1 + ((lst s).getD i 0).toNat + 4 ≤ s.size)) : decEnts (j + 1) (lst (rr s i)) = none := by
 by_cases h0 : i < s.size
 ·rw [rr_cons h0, decEnts, if_pos]
  rw [List.length_drop, length_lst]
  omega
 ·rw [rr_end h0]; rfl
theorem ESt.none_ {R : Cat × Int} {j : Nat} {bl : List Blk} {es : List Ent} {r : ByteArray} (h : ESt R j bl es r 0) (hn : decEnts j (lst r) = none) : R = (noCat, 5) := by
 rcases h with ⟨_, h⟩ | ⟨h, _⟩
 ·rw [h, hn]; rfl
 ·exact absurd h (by decide)
theorem ESt.over {R : Cat × Int} {j m : Nat} {bl : List Blk} {es : List Ent} {s : ByteArray} {i : Nat} (h : ESt R (j + 1) bl es (rr s i) 0) (hi : i ≤ s.size) (hm : nextV s i = (m : Int)) (ho : s.size < nextI s i + m) : R = (noCat, 5) := by
 refine h.none_ (ent_none ?_)
 rintro ⟨h0, h1⟩
 have e1 : nextI s i = i + 1 := if_pos h0
 have : ((lst s).getD i 0).toNat = m := by unfold nextV at hm; omega
 omega
theorem ESt.entry {R : Cat × Int} {j m : Nat} {bl : List Blk} {es : List Ent} {s : ByteArray} {i i1 i2 i3 i4 i5 i6 : Nat} {sh6 : Bool} (h : ESt R (j + 1) bl es (rr s i) 0) (hi : i ≤ s.size) (hm : nextV s i = (m : Int)) (ho : i1 + m ≤ s.size)
  (e1 : i1 = nextI s i) (e2 : i2 = i1 + m) (e3 : i3 = nextI s i2) (e4 : i4 = nextI s i3) (e5 : i5 = nextI s i4) (e6 : i6 = nextI s i5) (e7 : sh6 = nextH s i5 (nextH s i4 (nextH s i3 (nextH s i2 (nextH s i false))))) :
  ESt R j bl (es ++ [⟨s.extract i1 i2, nextV s i2, 256 * nextV s i3 + nextV s i4, nextV s i5⟩]) (rr s i6) (eO sh6) := by
 by_cases hall : i < s.size ∧ i + 1 + ((lst s).getD i 0).toNat + 4 ≤ s.size
 ·obtain ⟨h0, h1⟩ := hall
  have hm' : ((lst s).getD i 0).toNat = m := by unfold nextV at hm; omega
  have q1 : i1 = i + 1 := e1.trans (if_pos h0)
  subst q1
  subst e2
  have q3 : i3 = i + 1 + m + 1 := e3.trans (if_pos (by omega))
  subst q3
  have q4 : i4 = i + 1 + m + 1 + 1 := e4.trans (if_pos (by omega))
  subst q4
  have q5 : i5 = i + 1 + m + 1 + 1 + 1 := e5.trans (if_pos (by omega))
  subst q5
  have q6 : i6 = i + 1 + m + 1 + 1 + 1 + 1 := e6.trans (if_pos (by omega))
  subst q6
  have q7 : sh6 = false := by
   rw [e7]
   unfold nextH
   rw [if_pos (by omega), if_pos (by omega), if_pos (by omega), if_pos (by omega), if_pos h0]
  subst q7
  have n0 : numR (rr s i) 0 1 = (nextV s i, rr s (i + 1), 0) := by rw [rr_eq h0, n1_ok]; rfl
  have n2 : takeR (rr s (i + 1)) 0 m = (s.extract (i + 1) (i + 1 + m), rr s (i + 1 + m), 0) := by
   unfold rr
   rw [tk_ok (by rw [List.length_drop, length_lst]; omega), List.drop_drop]
   congr 1
   have : lst (s.extract (i + 1) (i + 1 + m)) = ((lst s).drop (i + 1)).take m := by
    rw [lst_extract]; unfold sub_; rw [List.take_drop]
   rw [← this, bs_lst]
  have n3 : numR (rr s (i + 1 + m)) 0 1 = (nextV s (i + 1 + m), rr s (i + 1 + m + 1), 0) := by rw [rr_eq (by omega), n1_ok]; rfl
  have n4 : numR (rr s (i + 1 + m + 1)) 0 2 = (256 * nextV s (i + 1 + m + 1) + nextV s (i + 1 + m + 1 + 1), rr s (i + 1 + m + 1 + 1 + 1), 0) := by
   rw [rr_eq (by omega), ← lst_bs ((lst s).drop (i + 1 + m + 1 + 1)), show bs ((lst s).drop (i + 1 + m + 1 + 1)) = rr s (i + 1 + m + 1 + 1) from rfl, rr_cons (by omega), n2_ok]
   rfl
  have n5 : numR (rr s (i + 1 + m + 1 + 1 + 1)) 0 1 = (nextV s (i + 1 + m + 1 + 1 + 1), rr s (i + 1 + m + 1 + 1 + 1 + 1), 0) := by rw [rr_eq (by omega), n1_ok]; rfl
  exact ESt.step h (by rw [n0]; exact hm) (s.extract (i + 1) (i + 1 + m), rr s (i + 1 + m), 0) (by rw [n0]; exact n2.symm) (nextV s (i + 1 + m), rr s (i + 1 + m + 1), 0) (256 * nextV s (i + 1 + m + 1) + nextV s (i + 1 + m + 1 + 1), rr s (i + 1 + m + 1 + 1 + 1), 0) (nextV s (i + 1 + m + 1 + 1 + 1), rr s (i + 1 + m + 1 + 1 + 1 + 1), 0) n3.symm n4.symm n5.symm
 ·have hR := h.none_ (ent_none hall)
  have hsh : sh6 = true := by
   rw [e7]
   by_cases h0 : i < s.size
   ·have hm' : ((lst s).getD i 0).toNat = m := by unfold nextV at hm; omega
    have q1 : i1 = i + 1 := e1.trans (if_pos h0)
    have k3 : nextI s i2 = if i2 < s.size then i2 + 1 else i2 := rfl
    unfold nextH
    by_cases a2 : i2 < s.size
    ·have q3 : i3 = i2 + 1 := e3.trans (if_pos a2)
     by_cases a3 : i3 < s.size
     ·have q4 : i4 = i3 + 1 := e4.trans (if_pos a3)
      by_cases a4 : i4 < s.size
      ·have q5 : i5 = i4 + 1 := e5.trans (if_pos a4)
       rw [if_neg (by omega)]
      ·have q5 : i5 = i4 := e5.trans (if_neg a4)
       rw [if_neg (by omega)]
     ·have q4 : i4 = i3 := e4.trans (if_neg a3)
      have q5 : i5 = i4 := e5.trans (if_neg (by omega))
      rw [if_neg (by omega)]
    ·have q3 : i3 = i2 := e3.trans (if_neg a2)
     have q4 : i4 = i3 := e4.trans (if_neg (by omega))
     have q5 : i5 = i4 := e5.trans (if_neg (by omega))
     rw [if_neg (by omega)]
   ·unfold nextH
    have q1 : i1 = i := e1.trans (if_neg h0)
    have q3 : i3 = i2 := e3.trans (if_neg (by omega))
    have q4 : i4 = i3 := e4.trans (if_neg (by omega))
    have q5 : i5 = i4 := e5.trans (if_neg (by omega))
    rw [if_neg (by omega)]
  rw [hsh]
  exact .inr ⟨rfl, hR⟩
end Go.Proofs.YtjadmfdlggnlgaaGreatDoor
