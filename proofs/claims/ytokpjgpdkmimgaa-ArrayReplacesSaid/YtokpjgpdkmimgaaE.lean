/-
  A device of the call's own, in memory: both rows new; a sector or a mark may be stored into it. Conditions: none.
-/
import Derived.Test.YtokpjgpdkmimgaaA
import Derived.Laws.OwnMore
import Derived.OneCell
namespace Go.Proofs.Ytokpjgpdkmimgaa
set_option linter.unusedSimpArgs false
set_option linter.unusedVariables false
open Go.RowKit

/-- Both rows of the device lie in blocks of the call's own. -/
def ODev (S L : TypeId) (w : World) (base : Nat) (v1 v2 : Value) (d : Dev) : Prop :=
  w.ownsRow base S 1 v1 d.sec.length (d.sec.flatMap encStr) ∧ w.ownsRow base L 1 v2 d.lost.length (d.lost.flatMap encBool) ∧ d.sec.length * 16 ≤ 140737488355328 ∧ d.lost.length ≤ 140737488355328 ∧ ∀ s ∈ d.sec, s.size ≤ 140737488355328
theorem ODev.ext {S L : TypeId} {w w' : World} {base : Nat} {v1 v2 : Value} {d : Dev} (h : ODev S L w base v1 v2 d) (k : Ext w w') : ODev S L w' base v1 v2 d := ⟨own_ext h.1 k, own_ext h.2.1 k, h.2.2⟩
theorem ODev.base {S L : TypeId} {w : World} {base base' : Nat} {v1 v2 : Value} {d : Dev} (h : ODev S L w base v1 v2 d) (hb : base' ≤ base) : ODev S L w base' v1 v2 d := ⟨own_base h.1 hb, own_base h.2.1 hb, h.2.2⟩
theorem ODev.far {S L : TypeId} {w : World} {base : Nat} {v1 v2 : Value} {d : Dev} (h : ODev S L w base v1 v2 d) {p : Addr} (hp : p.block < base) (u : Value) : ODev S L (w.setCell p u) base v1 v2 d :=
  ⟨ownsRow_setCell_below h.1 hp u, ownsRow_setCell_below h.2.1 hp u, h.2.2⟩
theorem ODev.new1 {S L : TypeId} {w : World} {base : Nat} {v1 v2 : Value} {d : Dev} (h : ODev S L w base v1 v2 d) : New base v1 := New.own h.1
theorem ODev.new2 {S L : TypeId} {w : World} {base : Nat} {v1 v2 : Value} {d : Dev} (h : ODev S L w base v1 v2 d) : New base v2 := New.own h.2.1
theorem ODev.dev {S L : TypeId} {w : World} {base : Nat} {v1 v2 : Value} {d : Dev} (h : ODev S L w base v1 v2 d) : RDev w [v1, v2] d :=
  ⟨v1, v2, rfl, SlR.of_own encStr_ok h.1 h.2.2.1 (fun a ha => ⟨rfl, h.2.2.2.2 a ha⟩), SlR.of_own encBool_ok h.2.1 (by have := h.2.2.2.1; omega) (fun a ha => rfl)⟩
theorem flat_str_set (l : List ByteArray) (k : Nat) (s : ByteArray) : (l.set k s).flatMap encStr = (l.flatMap encStr).set k (.string s) := by
  induction l generalizing k with
  | nil => rfl
  | cons a l ih =>
    cases k with
    | zero => rfl
    | succ k => simp only [List.set_cons_succ, List.flatMap_cons]; rw [ih]; rfl
theorem flat_bool_set (l : List Bool) (k : Nat) (s : Bool) : (l.set k s).flatMap encBool = (l.flatMap encBool).set k (.bool s) := by
  induction l generalizing k with
  | nil => rfl
  | cons a l ih =>
    cases k with
    | zero => rfl
    | succ k => simp only [List.set_cons_succ, List.flatMap_cons]; rw [ih]; rfl
theorem flat_bool_get (l : List Bool) (k : Nat) (h : k < l.length) : (l.flatMap encBool)[k]? = some (.bool l[k]) := by
  induction l generalizing k with
  | nil => cases h
  | cons a l ih =>
    cases k with
    | zero => rfl
    | succ k => exact ih k (by simpa using h)
theorem flat_str_get (l : List ByteArray) (k : Nat) (h : k < l.length) : (l.flatMap encStr)[k]? = some (.string l[k]) := by
  induction l generalizing k with
  | nil => cases h
  | cons a l ih =>
    cases k with
    | zero => rfl
    | succ k => exact ih k (by simpa using h)
theorem own_other {w : World} {base : Nat} {e e' : TypeId} {v : Value} {n n' c : Nat} {g : Nat} {xs xs' : List Value} (h : w.ownsRow base e 1 v n xs) (h' : w.ownsRow base e' 1 (.slice (some ⟨g, 0, none⟩) n' c) n' xs') (he : e ≠ e') : v.ownBlock ≠ some g := by
  intro hv
  rcases h.2 with ⟨hv', _⟩ | ⟨g1, cap, cur, hv', _, hg, _⟩
  · rw [hv'] at hv; cases hv
  · rw [hv'] at hv
    have : g1 = g := by simpa [Value.ownBlock] using hv
    subst this
    rcases h'.2 with ⟨hv2, _⟩ | ⟨g2, cap2, cur2, hv2, _, hg2, _⟩
    · cases hv2
    · injection hv2 with a1 a2 a3
      injection a1 with a1
      injection a1 with a1
      subst a1
      rw [hg] at hg2
      injection hg2 with hg2
      injection hg2 with b1 b2 b3
      exact he b2
theorem ODev.setLost {S L : TypeId} {w : World} {base g n c : Nat} {v1 : Value} {d : Dev} (h : ODev S L w base v1 (.slice (some ⟨g, 0, none⟩) n c) d) (hn : n = d.lost.length) (hSL : S ≠ L) (k : Nat) (b : Bool) :
    ODev S L (w.setCell ⟨g, k, none⟩ (.bool b)) base v1 (.slice (some ⟨g, 0, none⟩) n c) ⟨d.sec, d.lost.set k b⟩ := by
  subst hn
  obtain ⟨h1, h2, h3, h4, h5⟩ := h
  refine ⟨ownsRow_setCell_other h1 (own_other h1 h2 hSL) _, ?_, h3, by simpa using h4, h5⟩
  have := (h2.stored k (.bool b)).1
  rw [flat_bool_set]
  simpa using this
theorem ODev.setSec {S L : TypeId} {w : World} {base g n c : Nat} {v2 : Value} {d : Dev} (h : ODev S L w base (.slice (some ⟨g, 0, none⟩) n c) v2 d) (hn : n = d.sec.length) (hSL : S ≠ L) (k : Nat) (s : ByteArray) (hs : s.size ≤ 140737488355328) :
    ODev S L (w.setCell ⟨g, k, none⟩ (.string s)) base (.slice (some ⟨g, 0, none⟩) n c) v2 ⟨d.sec.set k s, d.lost⟩ := by
  subst hn
  obtain ⟨h1, h2, h3, h4, h5⟩ := h
  refine ⟨?_, ownsRow_setCell_other h2 (own_other h2 h1 (Ne.symm hSL)) _, by simpa using h3, h4, fun x hx => ?_⟩
  · have := (h1.stored k (.string s)).1
    rw [flat_str_set]
    simpa using this
  · rcases List.mem_or_eq_of_mem_set hx with hx | rfl
    · exact h5 x hx
    · exact hs
/-- What it is that owns a row that is not empty. -/
theorem own_form {w : World} {base : Nat} {e : TypeId} {A : Option Addr} {n c : Nat} {xs : List Value} (h : w.ownsRow base e 1 (.slice A n c) n xs) (hn : 0 < n) : ∃ g, A = some ⟨g, 0, none⟩ ∧ base ≤ g ∧ g < w.heap.size ∧ ∀ k, w.frozen? ⟨g, k, none⟩ = false := by
  have h' := h
  rcases h.2 with ⟨hv, h0⟩ | ⟨g, cap, cur, hv, hb, hg, _⟩
  · omega
  · injection hv with a1 a2 a3
    subst a1
    subst a3
    exact ⟨g, rfl, hb, (h'.lt g rfl).2, fun k => h'.frozenAt k⟩
/-- The rows of a copy are a device of the call's own. -/
theorem RDev.own {S L : TypeId} {w w' : World} {cs : List Value} {d : Dev} (h : RDev w cs d) {base : Nat} {v1 v2 : Value} (o1 : w'.ownsRow base S 1 v1 d.sec.length (d.sec.flatMap encStr))
    (o2 : w'.ownsRow base L 1 v2 d.lost.length (d.lost.flatMap encBool)) : ODev S L w' base v1 v2 d := by
  obtain ⟨_, _, _, h1, h2⟩ := h
  refine ⟨o1, o2, h1.len, by have := h2.len; omega, fun s hs => (h1.mem encStr_ok w s hs).2⟩

section
variable {P : Program} (w : World)
theorem run_append_nil_none (t ty e : TypeId) (i : TypeInfo) (c : Nat) (ht : P.underlying t = some (.slice e)) (hi : P.info? e = some i) :
    (Builtin.append_ #[t, t] ty #[.slice none 0 0, .slice none 0 c]).run P w = .ok (.slice none 0 0) w := by
  simp [Builtin.append_, run_underlying ht, sizeOf, typeInfo, hi, Builtin.lenOf, Builtin.firstCells]
/-- append(nil, l..): a copy in new memory. -/
theorem wp_append_copy {α : Type} {C bytes : Nat} {R : Rd α} {enc : α → List Value} (he : Enc C R enc) (hC : 0 < C) {o : Oper} {a : Act} {K : Act → World → Prop} {Q : Exit → Act → World → Prop} (s x : Operand) (t : TypeId)
    (ho : o.op = .call { callee := .builtin .append, args := #[s, x], argTypes := #[t, t] })
    (e : TypeId) (i : TypeInfo) (z : Value) (ht : P.underlying t = some (.slice e)) (hi : P.info? e = some i) (hz : i.zero = some z)
    (hsize : i.size = C) (hby : i.bytes = bytes) (hzs : z.cells.size = C)
    (hs : a.eval s = .slice none 0 0) (v : Value) (l : List α) (hx : a.eval x = v) (hv : SlR C bytes R w v l) (h63 : l.length ≤ maxLen)
    (h : ∀ A' c' w', w'.ownsRow w.heap.size e C (.slice A' l.length c') l.length (l.flatMap enc) → Ext w w' → K (a.put o.dst (.slice A' l.length c')) w') : o.wp P a w K Q := by
  obtain ⟨A, cap, rfl, hb, hc, hl⟩ := hv.cells he hC
  clear hv
  cases A with
  | none =>
    have hl0 : l = [] := by rcases hl with h | ⟨b, o, h, _⟩; exact h; cases h
    subst hl0
    have hrun := run_append_nil_none (P := P) w t o.type e i cap ht hi
    unfold Oper.wp execOp
    simp only [ho, resolve, invoke, builtin, Sem.run_bind, Sem.run_pure, Result.andThen_ok, List.map_toArray, List.map_cons, List.map_nil, hs, hx, List.length_nil, hrun]
    exact h none 0 w (World.ownsRow_nil _ _ _ _) (Ext.refl _)
  | some ad =>
    have hcells : ∀ (j : Nat) (u : Value), (l.flatMap enc)[j]? = some u → w.cell? (ad.add j) = some u := by
      rcases hl with h | ⟨b, o, h, hc, _⟩
      · subst h; intro j u hu; simp at hu
      · cases h; exact hc
    refine wp_append_at w s x t ho w.heap.size e i z C bytes ht hi hz hsize hby hzs hC _ 0 [] hs (World.ownsRow_nil _ _ _ _) ad l.length cap (l.flatMap enc) hx (length_flatMap he.len l) hcells
      (fun u hu => by obtain ⟨y, _, hy⟩ := List.mem_flatMap.1 hu; exact he.one y u hy) (by omega) (by rw [Nat.zero_add]; exact hb) (Nat.le_refl _) ?_
    intro A' c' w' h1 h2 h3
    rw [Nat.zero_add, List.nil_append] at h1
    rw [Nat.zero_add]
    exact h A' c' w' h1 ((Ext.refl w).grown h2 (fun k hk => by cases hk))
end
end Go.Proofs.Ytokpjgpdkmimgaa
