/-
  Answers with the slices that they hold, read as rows; a slice cut at both ends. Conditions: as they say.
-/
import Derived.Test.YtgjijcgkmofaaaaGreatDoorQ26
namespace Go.Proofs.YtgjijcgkmofaaaaGreatDoor
set_option linter.unusedSimpArgs false
set_option linter.unusedVariables false
open Go.RowKit
structure AnsW where
 a : Ans
 N : Option Addr
 e : Nat
 G : Option Addr
 f : Nat
def encAnsW (x : AnsW) : List Value := [.int .i64 x.a.code, .string x.a.data, .slice x.N x.a.names.length x.e, .int .i64 x.a.count, .slice x.G x.a.gone.length x.f]
def RAnsW : Rd AnsW := fun _ cs x => cs = encAnsW x
theorem encAnsW_ok : Enc 5 RAnsW encAnsW := ⟨fun _ => rfl, fun _ _ _ h => h, fun _ _ _ _ h => h, fun x u h => by
 simp only [encAnsW, List.mem_cons, List.not_mem_nil, or_false] at h
 rcases h with h | h | h | h | h <;> subst h <;> rfl⟩
theorem RAnsW.stays : Stays RAnsW := fun _ _ _ _ h _ => h
def AnsH (w : World) (y : AnsW) : Prop := SlR 1 16 RStr w (.slice y.N y.a.names.length y.e) y.a.names ∧ SlR 1 8 RInt w (.slice y.G y.a.gone.length y.f) y.a.gone
theorem AnsH.ext {w w' : World} {y : AnsW} (h : AnsH w y) (k : Ext w w') : AnsH w' y := ⟨h.1.ext RStr.stays k, h.2.ext RInt.stays k⟩
theorem ansW_of {w : World} {v : Value} {x : List Ans} (h : SlR 5 80 RAns w v x) : ∃ L : List AnsW, L.map (·.a) = x ∧ SlR 5 80 RAnsW w v L ∧ ∀ y ∈ L, AnsH w y := by
 obtain ⟨A, cap, hv, hb, hc, hh⟩ := h
 rcases hh with hh | ⟨b, o, hA, hh⟩
 ·subst hh
  exact ⟨[], rfl, ⟨A, cap, hv, hb, hc, .inl rfl⟩, fun y hy => by cases hy⟩
 ·have key : ∀ k, k ≤ x.length → ∃ L : List AnsW, L.map (·.a) = x.take k ∧ (∀ i (hi : i < L.length), ∀ j, j < 5 → w.cell? ⟨b, o + i * 5 + j, none⟩ = (encAnsW L[i])[j]?) ∧ ∀ y ∈ L, AnsH w y := by
   intro k
   induction k with
   | zero => exact fun _ => ⟨[], rfl, fun i hi => absurd hi (Nat.not_lt_zero _), fun y hy => by cases hy⟩
   | succ k ih =>
    intro hk
    obtain ⟨L, h1, h2, h3⟩ := ih (by omega)
    have hkl : k < x.length := by omega
    obtain ⟨cs, hl, hcell, n, g, he, hn, hg⟩ := hh k hkl
    obtain ⟨N, e, rfl, _⟩ := hn.row
    obtain ⟨G, f, rfl, _⟩ := hg.row
    have hlen : L.length = k := by have := congrArg List.length h1; rw [List.length_map, List.length_take] at this; omega
    refine ⟨L ++ [⟨x[k], N, e, G, f⟩], ?_, fun i hi j hj => ?_, fun y hy => ?_⟩
    ·rw [List.map_append, h1, List.take_succ_eq_append_getElem hkl]; rfl
    ·by_cases hik : i < L.length
     ·rw [List.getElem_append_left hik]; exact h2 i hik j hj
     ·have hi' : i = k := by rw [List.length_append] at hi; simp at hi; omega
      subst hi'
      rw [List.getElem_append_right (by omega)]
      rw [hcell j hj, he]
      simp [hlen, encAnsW]
    ·rcases List.mem_append.1 hy with hy | hy
     ·exact h3 y hy
     ·obtain rfl := List.mem_singleton.1 hy; exact ⟨hn, hg⟩
  obtain ⟨L, h1, h2, h3⟩ := key x.length (Nat.le_refl _)
  rw [List.take_length] at h1
  have hlen : L.length = x.length := by rw [← h1, List.length_map]
  refine ⟨L, h1, ⟨A, cap, by rw [hlen]; exact hv, by rw [hlen]; exact hb, by rw [hlen]; exact hc, .inr ⟨b, o, hA, fun i hi => ⟨encAnsW L[i], rfl, fun j hj => h2 i hi j hj, rfl⟩⟩⟩, h3⟩
theorem ansW_read {w : World} {v : Value} {L : List AnsW} (h : SlR 5 80 RAnsW w v L) (hL : ∀ y ∈ L, AnsH w y) : SlR 5 80 RAns w v (L.map (·.a)) := by
 obtain ⟨A, cap, hv, hb, hc, hh⟩ := h
 refine ⟨A, cap, by rw [List.length_map]; exact hv, by rw [List.length_map]; exact hb, by rw [List.length_map]; exact hc, ?_⟩
 rcases hh with hh | ⟨b, o, hA, hh⟩
 ·exact .inl (by rw [hh]; rfl)
 ·refine .inr ⟨b, o, hA, fun i hi => ?_⟩
  have hi' : i < L.length := by simpa using hi
  obtain ⟨cs, h1, h2, h3⟩ := hh i hi'
  refine ⟨cs, h1, h2, ?_⟩
  rw [List.getElem_map]
  exact ⟨_, _, h3, (hL _ (List.getElem_mem hi')).1, (hL _ (List.getElem_mem hi')).2⟩
section
variable {P : Program} (w : World)
theorem wpList_slice_both {ops : Array Oper} {rest : List Oper} {o : Oper} {a : Act} {Q : Exit → Act → World → Prop} (hgd : o.guard = none) (x y z : Operand) (t : TypeId) (ho : o.op = .slice t x (some y) (some z) none) (C : Nat)
  (e : TypeId) (i : TypeInfo) (ht : P.underlying t = some (.slice e)) (hi : P.info? e = some i) (hC : i.size = C) (A : Option Addr) (n c l h : Nat) (hx : a.eval x = .slice A n c) (hy : a.eval y = .int .i64 (l : Int)) (hz : a.eval z = .int .i64 (h : Int)) (hlh : l ≤ h) (hhc : h ≤ c) (A' : Option Addr) (m' c' : Nat)
  (hA : (if c = l then A else A.map (·.add (l * C))) = A') (hm : h - l = m') (hc : c - l = c')
  (hK : wpList P ops Q rest (a.put o.dst (.slice A' m' c')) w) : wpList P ops Q (o :: rest) a w := by
 refine wpList_plain hgd fun _ hK' => ?_
 unfold Oper.wp execOp
 have he : P.elem t = e := by unfold Program.elem; rw [ht]
 have ht' : P.underlying t = some (.slice (P.elem t)) := by rw [he]; exact ht
 have hz' : (sizeOf (P.elem t)).run P w = .ok C w := by rw [he]; simp [sizeOf, typeInfo, hi, hC]
 have hr := run_slice_lh (P := P) (w := w) t A n c ht' .i64 .i64 (l : Int) (h : Int) (by omega) (by omega) (by omega)
 simp only [ho, Option.map, hx, hy, hz, Sem.run_bind, Sem.run_pure, Result.andThen_ok, run_sliceAt_slice w t _ _ _ _ ht', hr, hz', sliced, Int.toNat_natCast]
 subst hA; subst hm; subst hc
 exact hK' _ _ hK
end
end Go.Proofs.YtgjijcgkmofaaaaGreatDoor
