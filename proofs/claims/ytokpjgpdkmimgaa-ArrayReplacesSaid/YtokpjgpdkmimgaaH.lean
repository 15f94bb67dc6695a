/-
  A row of devices of the call's own, as it stands in memory: its cells, what may be stored, and what stays. Conditions: none.
-/
import Derived.Test.YtokpjgpdkmimgaaA
import Derived.Test.YtokpjgpdkmimgaaWArrRead
import Derived.Test.YtokpjgpdkmimgaaWDevSet
namespace Go.Proofs.Ytokpjgpdkmimgaa
set_option linter.unusedSimpArgs false
set_option linter.unusedVariables false
open Go.RowKit

theorem Ext.by_ {w w' : World} (h : Ext w w') (row : Option Nat) : w.grownBy w' row := ⟨h.below.os, h.below.tape, h.below.output, h.below.size, fun k hk _ => Below.block h.below k hk⟩
theorem setRow_by (w : World) (g i : Nat) (u : Value) : w.grownBy (w.setCell ⟨g, i, none⟩ u) (some g) :=
  ⟨rfl, rfl, rfl, by simp, fun k hk hne => Below.heap_setCell w ⟨g, i, none⟩ u k (fun e => hne (by rw [e]))⟩
/-- Three devices of the call's own: what stands in the row. -/
theorem OArr.at_ {E : TypeId} {w : World} {base : Nat} {A : Option Addr} {n c : Nat} {a : List Dev} (h : OArr E w base (.slice A n c) a) (hl : a.length = 3) :
    ∃ g, A = some ⟨g, 0, none⟩ ∧ base ≤ g ∧ g < w.heap.size ∧ (∀ k, w.frozen? ⟨g, k, none⟩ = false) ∧ ∀ k, k < 3 → ∃ A1 c1 A2 c2,
      w.cell? ⟨g, k * 2, none⟩ = some (.slice A1 (dv a k).sec.length c1) ∧ w.cell? ⟨g, k * 2 + 1, none⟩ = some (.slice A2 (dv a k).lost.length c2) ∧ RDev w [.slice A1 (dv a k).sec.length c1, .slice A2 (dv a k).lost.length c2] (dv a k) := by
  have hn : n = a.length := by
    obtain ⟨vs, _, ho, _⟩ := h
    have := ho.2
    rcases this with ⟨hv, h0⟩ | ⟨g, cap, cur, hv, _⟩
    · omega
    · injection hv
  subst hn
  have hr := h.rarr (by omega)
  obtain ⟨b, o, hA, hlook⟩ := hr.look 0 (by omega)
  obtain ⟨vs, hvl, ho, _⟩ := h
  have ho' := ho
  rcases ho.2 with ⟨hv, h0⟩ | ⟨g, cap, cur, hv, hb, hg, _⟩
  · omega
  · injection hv with a1 a2 a3
    subst a1
    have hbo : b = g ∧ o = 0 := by injection hA with hA; injection hA with x1 x2; exact ⟨x1.symm, x2.symm⟩
    obtain ⟨rfl, rfl⟩ := hbo
    refine ⟨b, rfl, hb, (ho'.lt b rfl).2, fun k => ho'.frozenAt k, fun k hk => ?_⟩
    obtain ⟨A1, c1, A2, c2, q0, q1, hd⟩ := hlook k (by omega)
    rw [Nat.zero_add] at q0 q1
    exact ⟨A1, c1, A2, c2, q0, q1, hd⟩
theorem OArr.atg {E : TypeId} {w : World} {base g n c : Nat} {a : List Dev} (h : OArr E w base (.slice (some ⟨g, 0, none⟩) n c) a) (hl : a.length = 3) :
    base ≤ g ∧ g < w.heap.size ∧ (∀ k, w.frozen? ⟨g, k, none⟩ = false) ∧ ∀ k, k < 3 → ∃ A1 c1 A2 c2,
      w.cell? ⟨g, k * 2, none⟩ = some (.slice A1 (dv a k).sec.length c1) ∧ w.cell? ⟨g, k * 2 + 1, none⟩ = some (.slice A2 (dv a k).lost.length c2) ∧ RDev w [.slice A1 (dv a k).sec.length c1, .slice A2 (dv a k).lost.length c2] (dv a k) := by
  obtain ⟨g', hg, r⟩ := h.at_ hl
  obtain rfl : g = g' := by injection hg with hg; injection hg
  exact r
theorem dv_len3 {a : List Dev} {k : Nat} {d : Dev} (h : a.length = 3) : (a.set k d).length = 3 := by simp [h]
end Go.Proofs.Ytokpjgpdkmimgaa
