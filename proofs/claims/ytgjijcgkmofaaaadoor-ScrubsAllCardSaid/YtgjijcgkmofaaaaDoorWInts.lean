/-
  Lists of numbers of the call's own: is one among them, and the sort. Conditions: the list lies in a row of the call's own.
-/
import Derived.Test.YtgjijcgkmofaaaaDoorSSort
import Derived.Test.YtgjijcgkmofaaaaDoorSCont
import Derived.Test.YtgjijcgkmofaaaaDoorJ16
import Derived.Sort.OwnSortedInts
namespace Go.Proofs.YtgjijcgkmofaaaaDoor
set_option linter.unusedSimpArgs false
set_option linter.unusedVariables false
open Go.RowKit

theorem flat_ints (l : List Int) : l.flatMap encInt = l.map (Value.int .i64) := by
  induction l with
  | nil => rfl
  | cons x l ih => rw [List.flatMap_cons, List.map_cons, ih]; rfl
theorem containsInt_any (A : Option Addr) (c base : Nat) (zs : List Int) (x : Int) (w : World) (h : w.ownsRow base 3 1 (.slice A zs.length c) zs.length (zs.flatMap encInt)) (hl : zs.length ≤ 1000000) :
    Calls Tryd.prog 29 #[.slice A zs.length c, .int .i64 x] w fun e w' => e = .returned (.bool (zs.contains x)) ∧ w' = w := by
  by_cases h0 : zs.length = 0
  · have hz : zs = [] := List.length_eq_zero_iff.1 h0
    subst hz
    exact Tryd.slices_Contains_int_empty A c x w
  · have h' := h
    rcases h.2 with ⟨_, hn⟩ | ⟨g, cap, cur, hv, _⟩
    · exact absurd hn h0
    · injection hv with a1 a2 a3
      subst a1
      refine (Tryd.slices_Contains_int g 0 zs.length c zs x w (Nat.le_refl _) (by omega) (fun j hj => ?_)).mono ?_
      · have hc := h'.cellAt j (by omega)
        rw [Nat.zero_add, hc, flat_ints, List.getElem?_map, List.getD_eq_getElem?_getD, List.getElem?_eq_getElem hj]
        rfl
      · rintro e w' ⟨rfl, hw⟩
        rw [List.take_of_length_le (Nat.le_refl _)]
        exact ⟨rfl, hw⟩
theorem sortInt_any (A : Option Addr) (c base : Nat) (zs : List Int) (w : World) (h : w.ownsRow base 3 1 (.slice A zs.length c) zs.length (zs.flatMap encInt)) (hl : zs.length ≤ 1000000) :
    Calls Tryd.prog 30 #[.slice A zs.length c] w fun e w' => e = .returned (.tuple #[]) ∧ w.grownBy w' (Value.slice A zs.length c).ownBlock ∧
      w'.ownsRow base 3 1 (.slice A (zs.mergeSort (fun x y => decide (x ≤ y))).length c) (zs.mergeSort (fun x y => decide (x ≤ y))).length ((zs.mergeSort (fun x y => decide (x ≤ y))).flatMap encInt) := by
  by_cases h0 : zs.length = 0
  · have hz : zs = [] := List.length_eq_zero_iff.1 h0
    subst hz
    refine (Tryd.slices_Sort_int_none A c w).mono ?_
    rintro e w' ⟨rfl, hw⟩
    subst hw
    refine ⟨rfl, World.grownBy.refl _ _, ?_⟩
    have e0 : ([] : List Int).mergeSort (fun x y => decide (x ≤ y)) = [] := List.mergeSort_nil
    rw [e0]
    exact h
  · have h' := h
    rcases h.2 with ⟨_, hn⟩ | ⟨g, cap, cur, hv, hb, hg, h1, h2, h3, h4⟩
    · exact absurd hn h0
    · injection hv with a1 a2 a3
      subst a1 a3
      have ht : cur.toList.take zs.length = zs.map (Value.int .i64) := by rw [← flat_ints, ← h4, Nat.mul_one]
      have hgl : g < w.heap.size := (Array.getElem?_eq_some_iff.1 hg).1
      refine (Tryd.slices_Sort_int g 0 c zs w (holds_of_blockI hg ht) hgl (by omega)).mono ?_
      rintro e w' ⟨rfl, n, os, hw⟩
      subst hw
      have hlen : (zs.mergeSort (fun x y => decide (x ≤ y))).length = zs.length := List.length_mergeSort _
      refine ⟨rfl, grownBy_sortedI _, ?_⟩
      rw [flat_ints, hlen]
      exact ownsRow_sortedI hlen hb hg h1 h2 h3
end Go.Proofs.YtgjijcgkmofaaaaDoor
