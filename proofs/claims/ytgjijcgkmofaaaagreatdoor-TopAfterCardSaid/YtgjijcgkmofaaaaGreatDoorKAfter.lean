/-
  Rows of acts and of numbers that a call gathers side by side, and of answers picked out of a row. Conditions: as they say.
-/
import Derived.Test.YtgjijcgkmofaaaaGreatDoorKFirst
import Derived.Test.YtgjijcgkmofaaaaGreatDoorPTopF
namespace Go.Proofs.YtgjijcgkmofaaaaGreatDoor
set_option linter.unusedSimpArgs false
set_option linter.unusedVariables false
open Go.RowKit
structure TwoRows (w1 w2 W : World) (va vt : Value) (LA : List ActV) (ps : List Int) : Prop where
 x : Ext w2 W
 a : W.ownsRow w2.heap.size 39 7 va LA.length (LA.flatMap encActV)
 t : W.ownsRow w2.heap.size 3 1 vt ps.length (ps.flatMap encInt)
 ne : ∀ g, va.ownBlock = some g → vt.ownBlock ≠ some g
 f : ∀ y ∈ LA, SlR 2 32 RFil w1 y.f y.a.files ∧ RActV w1 (encActV y) y
theorem TwoRows.up {w1 w2 W W' : World} {va vt : Value} {LA : List ActV} {ps : List Int} (h : TwoRows w1 w2 W va vt LA ps) (k : Ext W W') : TwoRows w1 w2 W' va vt LA ps :=
 ⟨h.x.trans k, own_ext h.a k, own_ext h.t k, h.ne, h.f⟩
theorem TwoRows.pushA {w1 w2 W W' : World} {va va' vt : Value} {LA L : List ActV} {ps : List Int} (h : TwoRows w1 w2 W va vt LA ps) (hg : W.grownBy W' va.ownBlock) (hV : va'.ownBlock = va.ownBlock ∨ va'.ownBlock = some W.heap.size)
  (o : W'.ownsRow w2.heap.size 39 7 va' (LA.length + L.length) (LA.flatMap encActV ++ L.flatMap encActV)) (hL : ∀ y ∈ L, SlR 2 32 RFil w1 y.f y.a.files ∧ RActV w1 (encActV y) y) : TwoRows w1 w2 W' va' vt (LA ++ L) ps := by
 have hne : ∀ g, va'.ownBlock = some g → vt.ownBlock ≠ some g := by
  intro g hg' e
  rcases hV with e1 | e1
  ·exact h.ne g (by rw [← e1]; exact hg') e
  ·rw [e1] at hg'; injection hg' with hg'; have := (h.t.lt g e).2; omega
 refine ⟨h.x.grown hg (fun g hg' => (h.a.lt g hg').1), ?_, own_grown h.t hg (fun g hg' e => h.ne g e hg'), hne, fun y hy => ?_⟩
 ·rw [List.length_append, List.flatMap_append]; exact o
 ·rcases List.mem_append.1 hy with hy | hy
  ·exact h.f y hy
  ·exact hL y hy
theorem TwoRows.pushT {w1 w2 W W' : World} {va vt vt' : Value} {LA : List ActV} {ps L : List Int} (h : TwoRows w1 w2 W va vt LA ps) (hg : W.grownBy W' vt.ownBlock) (hV : vt'.ownBlock = vt.ownBlock ∨ vt'.ownBlock = some W.heap.size)
  (o : W'.ownsRow w2.heap.size 3 1 vt' (ps.length + L.length) (ps.flatMap encInt ++ L.flatMap encInt)) : TwoRows w1 w2 W' va vt' LA (ps ++ L) := by
 have hne : ∀ g, va.ownBlock = some g → vt'.ownBlock ≠ some g := by
  intro g hg' e
  rcases hV with e1 | e1
  ·exact h.ne g hg' (by rw [← e1]; exact e)
  ·rw [e1] at e; injection e with e; have := (h.a.lt g hg').2; omega
 refine ⟨h.x.grown hg (fun g hg' => (h.t.lt g hg').1), own_grown h.a hg (fun g hg' e => h.ne g hg' e), ?_, hne, h.f⟩
 rw [List.length_append, List.flatMap_append]; exact o
def posL (bad : List HA) (Ls : List (List Fil)) : Nat → List Int
 | 0 => []
 | i + 1 => posL bad Ls i ++ [(((weave bad Ls i).length + (bit bad Ls.length i).length : Nat) : Int)]
theorem posL_len (bad : List HA) (Ls : List (List Fil)) : ∀ i, (posL bad Ls i).length = i
 | 0 => rfl
 | i + 1 => by
  show (posL bad Ls i ++ [_]).length = _
  rw [List.length_append, posL_len bad Ls i]; rfl
theorem posL_at (bad : List HA) (Ls : List (List Fil)) : ∀ (n i : Nat) (h : i < n), (posL bad Ls n)[i]? = some (((weave bad Ls i).length + (bit bad Ls.length i).length : Nat) : Int)
 | n + 1, i, h => by
  show (posL bad Ls n ++ [_])[i]? = _
  by_cases hi : i < n
  ·rw [List.getElem?_append_left (by rw [posL_len]; exact hi)]; exact posL_at bad Ls n i hi
  ·obtain rfl : i = n := by omega
   rw [List.getElem?_append_right (by rw [posL_len]; exact Nat.le_refl _), posL_len, Nat.sub_self]; rfl
theorem weave_pre (bad : List HA) (Ls : List (List Fil)) {i : Nat} : ∀ {n : Nat}, i ≤ n → ∃ r, weave bad Ls n = weave bad Ls i ++ r
 | n, h => by
  induction n with
  | zero => obtain rfl : i = 0 := by omega
            exact ⟨[], (List.append_nil _).symm⟩
  | succ n ih =>
   by_cases hi : i = n + 1
   ·subst hi; exact ⟨[], (List.append_nil _).symm⟩
   ·obtain ⟨r, hr⟩ := ih (by omega)
    exact ⟨r ++ ((bit bad Ls.length n).map hurtAct ++ [addAct (Ls.getD n [])]), by show weave bad Ls n ++ _ = _; rw [hr, List.append_assoc]⟩
theorem firsts_at (m : Nat) (bad : List HA) (Ls : List (List Fil)) {n i : Nat} (h : i < n) (z : List ActD) : ∃ a, (runS m (weave bad Ls n ++ z) (sh0 m)).1[(weave bad Ls i).length + (bit bad Ls.length i).length]? = some a ∧ (firsts m bad Ls (i + 1)) = firsts m bad Ls i ++ [a] := by
 obtain ⟨r, hr⟩ := weave_pre bad Ls (show i + 1 ≤ n by omega)
 refine ⟨_, ?_, rfl⟩
 have e : weave bad Ls n ++ z = weave bad Ls i ++ ((bit bad Ls.length i).map hurtAct ++ ([addAct (Ls.getD i [])] ++ (r ++ z))) := by
  rw [hr]
  show (weave bad Ls i ++ ((bit bad Ls.length i).map hurtAct ++ [addAct (Ls.getD i [])])) ++ r ++ z = _
  simp only [List.append_assoc]
 rw [e, runS_append, runS_append]
 rw [List.getElem?_append_right (by rw [runS_length]; omega), runS_length, Nat.add_sub_cancel_left]
 rw [List.getElem?_append_right (by rw [runS_length, List.length_map]; exact Nat.le_refl _), runS_length, List.length_map, Nat.sub_self]
 rfl
theorem bit_len {bad : List HA} {n i : Nat} (h : i < n) : (bit bad n i).length = cutAt (i + 1) bad.length n - cutAt i bad.length n := by
 have h1 := cutAt_le (len := bad.length) (show i + 1 ≤ n by omega) (by omega)
 unfold bit
 rw [List.length_take, List.length_drop]
 omega
theorem weave_len {bad : List HA} {Ls : List (List Fil)} : ∀ i, i ≤ Ls.length → (weave bad Ls i).length = cutAt i bad.length Ls.length + i
 | 0, _ => by show 0 = cutAt 0 _ _ + 0; unfold cutAt; simp
 | i + 1, h => by
  have h1 := cutAt_mono (len := bad.length) (n := Ls.length) (Nat.le_add_right i 1)
  show (weave bad Ls i ++ ((bit bad Ls.length i).map hurtAct ++ [addAct (Ls.getD i [])])).length = _
  rw [List.length_append, List.length_append, List.length_map, weave_len i (by omega), bit_len (by omega)]
  show _ + (_ + 1) = _
  omega
end Go.Proofs.YtgjijcgkmofaaaaGreatDoor
