/-
  Rows of the call's own that grow: one more element, a made row, a device whose rows grow. Conditions: none.
-/
import Derived.Test.YtokpjgpdkmimgaaE
import Derived.Laws.MakeOwn
namespace Go.Proofs.Ytokpjgpdkmimgaa
set_option linter.unusedSimpArgs false
set_option linter.unusedVariables false
open Go.RowKit

theorem own_grown {w w' : World} {base : Nat} {e : TypeId} {size : Nat} {v : Value} {n : Nat} {xs : List Value} {row : Option Nat} (h : w.ownsRow base e size v n xs) (hg : w.grownBy w' row) (hne : ∀ g, v.ownBlock = some g → row ≠ some g) : w'.ownsRow base e size v n xs := by
  have h' := h
  obtain ⟨hl, h⟩ := h
  refine ⟨hl, ?_⟩
  rcases h with h | ⟨g, cap, cur, hv, hb, hgg, r⟩
  · exact .inl h
  · have hgb : v.ownBlock = some g := by rw [hv]; rfl
    exact .inr ⟨g, cap, cur, hv, hb, (hg.block g (h'.lt g hgb).2 (Ne.symm (hne g hgb))).trans hgg, r⟩
/-- A store beside the rows. -/
theorem ODev.off {S L : TypeId} {w : World} {base : Nat} {v1 v2 : Value} {d : Dev} (h : ODev S L w base v1 v2 d) {p : Addr} (h1 : v1.ownBlock ≠ some p.block) (h2 : v2.ownBlock ≠ some p.block) (u : Value) : ODev S L (w.setCell p u) base v1 v2 d :=
  ⟨ownsRow_setCell_other h.1 h1 u, ownsRow_setCell_other h.2.1 h2 u, h.2.2⟩
theorem own_apart {w : World} {base : Nat} {e e' : TypeId} {v v' : Value} {n n' : Nat} {xs xs' : List Value} (h : w.ownsRow base e 1 v n xs) (h' : w.ownsRow base e' 1 v' n' xs') (he : e ≠ e') : ∀ g, v.ownBlock = some g → v'.ownBlock ≠ some g := by
  intro g hg hg'
  rcases h.2 with ⟨hv, _⟩ | ⟨g1, cap, cur, hv, _, hg1, _⟩
  · rw [hv] at hg; cases hg
  · rcases h'.2 with ⟨hv2, _⟩ | ⟨g2, cap2, cur2, hv2, _, hg2, _⟩
    · rw [hv2] at hg'; cases hg'
    · have e1 : g1 = g := by rw [hv] at hg; simpa [Value.ownBlock] using hg
      have e2 : g2 = g := by rw [hv2] at hg'; simpa [Value.ownBlock] using hg'
      subst e1
      rw [e2, hg1] at hg2
      injection hg2 with hg2
      injection hg2 with b1 b2 b3
      exact he b2
theorem ODev.pushSec {S L : TypeId} {w w' : World} {base : Nat} {v1 v2 v1' : Value} {d : Dev} {s : ByteArray} (h : ODev S L w base v1 v2 d) (hSL : S ≠ L) (ho : w'.ownsRow base S 1 v1' (d.sec.length + 1) (d.sec.flatMap encStr ++ [.string s])) (hg : w.grownBy w' v1.ownBlock)
    (hn : (d.sec.length + 1) * 16 ≤ 140737488355328) (hs : s.size ≤ 140737488355328) : ODev S L w' base v1' v2 ⟨d.sec ++ [s], d.lost⟩ := by
  refine ⟨?_, own_grown h.2.1 hg (fun g h2 => own_apart h.2.1 h.1 (Ne.symm hSL) g h2), by simpa using hn, h.2.2.2.1, fun x hx => ?_⟩
  · simp only [List.length_append, List.length_cons, List.length_nil, Nat.zero_add, List.flatMap_append, List.flatMap_cons, List.flatMap_nil, List.append_nil]
    exact ho
  · rcases List.mem_append.1 hx with hx | hx
    · exact h.2.2.2.2 x hx
    · obtain rfl := List.mem_singleton.1 hx; exact hs
theorem ODev.pushLost {S L : TypeId} {w w' : World} {base : Nat} {v1 v2 v2' : Value} {d : Dev} {b : Bool} (h : ODev S L w base v1 v2 d) (hSL : S ≠ L) (ho : w'.ownsRow base L 1 v2' (d.lost.length + 1) (d.lost.flatMap encBool ++ [.bool b])) (hg : w.grownBy w' v2.ownBlock)
    (hn : d.lost.length + 1 ≤ 140737488355328) : ODev S L w' base v1 v2' ⟨d.sec, d.lost ++ [b]⟩ := by
  refine ⟨own_grown h.1 hg (fun g h2 => own_apart h.1 h.2.1 hSL g h2), ?_, h.2.2.1, by simpa using hn, h.2.2.2.2⟩
  simp only [List.length_append, List.length_cons, List.length_nil, Nat.zero_add, List.flatMap_append, List.flatMap_cons, List.flatMap_nil, List.append_nil]
  exact ho
section
variable {P : Program} {Q : Exit → Act → World → Prop}
/-- append(s, x): one element more. -/
theorem wpList_push {ops : Array Oper} {rest : List Oper} {o : Oper} {a : Act} {w : World} (s x : Operand) (t : TypeId)
    (ho : o.op = .call { callee := .builtin .append, args := #[s, x], argTypes := #[t, t] }) (hgd : o.guard = none)
    (base : Nat) (e : TypeId) (i : TypeInfo) (z : Value) (bytes : Nat) (ht : P.underlying t = some (.slice e)) (hi : P.info? e = some i) (hz : i.zero = some z)
    (hsize : i.size = 1) (hby : i.bytes = bytes) (hzs : z.cells.size = 1)
    (v : Value) (n : Nat) (xs : List Value) (hs : a.eval s = v) (hown : w.ownsRow base e 1 v n xs)
    (g c : Nat) (u : Value) (hx : a.eval x = .slice (some ⟨g, 0, none⟩) 1 c) (hu : w.cell? ⟨g, 0, none⟩ = some u) (h1 : u.oneCell' = true)
    (h63 : n + 1 ≤ maxLen) (hbytes : (n + 1) * bytes ≤ 140737488355328) (hbase : base ≤ w.heap.size)
    (h : ∀ A' c' w', w'.ownsRow base e 1 (.slice A' (n + 1) c') (n + 1) (xs ++ [u]) → w.grownBy w' v.ownBlock → ((Value.slice A' (n + 1) c').ownBlock = v.ownBlock ∨ (Value.slice A' (n + 1) c').ownBlock = some w.heap.size) → wpList P ops Q rest (a.put o.dst (.slice A' (n + 1) c')) w') : wpList P ops Q (o :: rest) a w :=
  wpList_append_at w hgd s x t ho base e i z 1 bytes ht hi hz hsize hby hzs (by decide) v n xs hs hown ⟨g, 0, none⟩ 1 c [u] hx rfl (fun j u' hj => by
    match j with
    | 0 => simp at hj; subst hj; exact hu
    | j + 1 => simp at hj) (fun u' hu' => by obtain rfl := List.mem_singleton.1 hu'; exact h1) h63 hbytes hbase h
/-- make: a row of zeros. -/
theorem make_row (t e : TypeId) (i : TypeInfo) (z : Value) (ht : P.underlying t = some (.slice e)) (hi : P.info? e = some i) (hz : i.zero = some z) (hsize : i.size = 1) (hzs : z.cells = #[z])
    (n : Nat) (hb : i.bytes * n ≤ 140737488355328) (hn : n ≤ 140737488355328) :
    ∃ cs : Array Value, cs.toList = List.replicate n z ∧ ∀ w : World, (Instr.makeSlice t (.int .i64 n) (.int .i64 n)).run P w = .ok (.slice (some ⟨w.heap.size, 0, none⟩) n n) (w.alloc (.cells cs e)) := by
  have hbb : ((i.bytes : Int) * (n : Int)) = ((i.bytes * n : Nat) : Int) := by simp
  refine ⟨madeCells z.cells (n * i.size), ?_, fun w => ?_⟩
  · rw [hsize, Nat.mul_one, hzs]
    apply List.ext_getElem?
    intro j
    simp only [madeCells, List.getElem?_replicate, Array.getElem?_toList]
    by_cases hj : j < n
    · simp [hj, Array.getElem?_map, Array.getElem?_range, Nat.mod_one]
    · simp [hj]
  · have hr := run_make (P := P) w t e i z ht hi hz .i64 .i64 n n (by omega) (by omega) (by rw [hbb]; omega) (by omega)
    simpa using hr
theorem own_made (w : World) (e : TypeId) (cs : Array Value) (n : Nat) (xs : List Value) (hc : cs.toList = xs) (hn : xs.length = n) (hm : n ≤ 140737488355328) : (w.alloc (.cells cs e)).ownsRow w.heap.size e 1 (.slice (some ⟨w.heap.size, 0, none⟩) n n) n xs := by
  subst hc
  have hs : cs.size = n := by simpa using hn
  refine ⟨by simpa using hn, .inr ⟨w.heap.size, n, cs, rfl, Nat.le_refl _, heap_alloc_new w _, Nat.le_refl _, by unfold maxLen; omega, by omega, ?_⟩⟩
  rw [Nat.mul_one]
  exact List.take_of_length_le (by simp [hs])
end
end Go.Proofs.Ytokpjgpdkmimgaa
