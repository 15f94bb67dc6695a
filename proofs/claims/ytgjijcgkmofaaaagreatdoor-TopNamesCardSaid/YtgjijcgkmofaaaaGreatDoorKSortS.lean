/-
  slices.Sort of texts that rise already: they stay. Conditions: the list lies in a row of the call's own.
-/
import Derived.Test.YtgjijcgkmofaaaaGreatDoorQ26
import Derived.Sort.OwnSorted
namespace Go.Proofs.YtgjijcgkmofaaaaGreatDoor
set_option linter.unusedSimpArgs false
set_option linter.unusedVariables false
open Go.RowKit
theorem flat_strs (l : List ByteArray) : l.flatMap encStr = (l.map lst).map Go.Proofs.encStr := by
 induction l with
 | nil => rfl
 | cons x l ih =>
  rw [List.flatMap_cons, List.map_cons, List.map_cons, ih]
  show [Value.string x] ++ _ = Value.string ⟨(lst x).toArray⟩ :: _
  rw [show (⟨(lst x).toArray⟩ : ByteArray) = x from bs_lst x]
  rfl
theorem sortStr_any (A : Option Addr) (c base : Nat) (l : List ByteArray) (w : World) (h : w.ownsRow base 9 1 (.slice A l.length c) l.length (l.flatMap encStr)) (hl : l.length ≤ 1000000) (hs : l.Pairwise (fun s t => lst s ≤ lst t)) :
  Calls Tryz.prog 34 #[.slice A l.length c] w fun e w' => e = .returned (.tuple #[]) ∧ w.grownBy w' (Value.slice A l.length c).ownBlock ∧ w'.ownsRow base 9 1 (.slice A l.length c) l.length (l.flatMap encStr) := by
 by_cases h0 : l.length = 0
 ·have hz : l = [] := List.length_eq_zero_iff.1 h0
  subst hz
  refine (Tryz.slices_Sort_string_none A c w).mono ?_
  rintro e w' ⟨rfl, hw⟩
  subst hw
  exact ⟨rfl, World.grownBy.refl _ _, h⟩
 ·rcases h.2 with ⟨_, hn⟩ | ⟨g, cap, cur, hv, hb, hg, h1, h2, h3, h4⟩
  ·exact absurd hn h0
  ·injection hv with a1 a2 a3
   subst a1 a3
   have hlen : (l.map lst).length = l.length := List.length_map _
   have ht : cur.toList.take (l.map lst).length = (l.map lst).map Go.Proofs.encStr := by rw [hlen, ← flat_strs, ← h4, Nat.mul_one]
   have hgl : g < w.heap.size := (Array.getElem?_eq_some_iff.1 hg).1
   have hms : (l.map lst).mergeSort (fun x y => decide (x ≤ y)) = l.map lst := by
    apply List.mergeSort_of_pairwise
    rw [List.pairwise_map]
    exact hs.imp (fun hab => by simpa using hab)
   have hsc := Tryz.slices_Sort_string g 0 c (l.map lst) w (holds_of_block hg ht) hgl (by omega)
   rw [hms, hlen] at hsc
   refine hsc.mono ?_
   rintro e w' ⟨rfl, n, os, hw⟩
   subst hw
   refine ⟨rfl, grownBy_sorted _, ?_⟩
   have := ownsRow_sorted (n := n) (os := os) (ss := l.map lst) (ts := l.map lst) rfl hb hg (by rw [hlen]; exact h1) h2 h3
   rw [hlen] at this
   rw [flat_strs]
   exact this
end Go.Proofs.YtgjijcgkmofaaaaGreatDoor
