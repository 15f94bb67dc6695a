/-
  What catalog.Decode works on, in memory: the reader's box, the catalog's box, two rows of its own. Conditions: none.
-/
import Derived.Test.YtgjijcgkmofaaaaGreatDoorK13
namespace Go.Proofs.YtgjijcgkmofaaaaGreatDoor
set_option linter.unusedSimpArgs false
set_option linter.unusedVariables false
open Go.RowKit

theorem own_two {w : World} {b b' : Nat} {e e' : TypeId} {z z' n n' : Nat} {v v' : Value} {xs xs' : List Value} (h : w.ownsRow b e z v n xs) (h' : w.ownsRow b' e' z' v' n' xs') (he : e ≠ e') : ∀ g, v.ownBlock = some g → v'.ownBlock ≠ some g := by
  intro g hg hg'
  rcases h.2 with ⟨hv, _⟩ | ⟨g1, cap, cur, hv, _, hg1, _⟩
  · rw [hv] at hg; cases hg
  · rcases h'.2 with ⟨hv2, _⟩ | ⟨g2, cap2, cur2, hv2, _, hg2, _⟩
    · rw [hv2] at hg'; cases hg'
    · have e1 : g1 = g := by rw [hv] at hg; simpa [Value.ownBlock] using hg
      have e2 : g2 = g := by rw [hv2] at hg'; simpa [Value.ownBlock] using hg'
      subst e1
      rw [e2, hg1] at hg2
      injection hg2 with hg2
      injection hg2 with b1 b2 b3
      exact he b2
def EntOk (x : Ent) : Prop := x.name.size ≤ 140737488355328 ∧ I64 x.block ∧ I64 x.at_ ∧ I64 x.bytes
/-- A catalog under way: its box at bc, its rows behind base. -/
structure CX (w W : World) (bc base : Nat) (V1 V2 : Value) (bl : List Blk) (es : List Ent) : Prop where
  ext : Ext w W
  low : w.heap.size ≤ bc
  far : bc < base
  cat : Blk_ W bc 88 #[V1, V2]
  o1 : W.ownsRow base 108 2 V1 bl.length (bl.flatMap encBlk)
  o2 : W.ownsRow base 113 4 V2 es.length (es.flatMap encEnt)
  hb : ∀ b ∈ bl, I64 b.first ∧ I64 b.bytes
  he : ∀ x ∈ es, EntOk x
theorem CX.up {w W W' : World} {bc base : Nat} {V1 V2 : Value} {bl : List Blk} {es : List Ent} (h : CX w W bc base V1 V2 bl es) (k : Ext W W') : CX w W' bc base V1 V2 bl es where
  ext := h.ext.trans k
  low := h.low
  far := h.far
  cat := h.cat.ext k
  o1 := own_ext h.o1 k
  o2 := own_ext h.o2 k
  hb := h.hb
  he := h.he
/-- A store, or a call's stores, into another box of the call's own. -/
theorem CX.by_ {w W W' : World} {bc base g : Nat} {V1 V2 : Value} {bl : List Blk} {es : List Ent} (h : CX w W bc base V1 V2 bl es) (hg : W.grownBy W' (some g)) (h0 : w.heap.size ≤ g) (h1 : g ≠ bc) (h2 : g < base) : CX w W' bc base V1 V2 bl es where
  ext := h.ext.grown hg (fun k hk => by injection hk; omega)
  low := h.low
  far := h.far
  cat := h.cat.grown hg (fun k hk => by injection hk with hk; omega)
  o1 := own_grown h.o1 hg (fun k hk e => by have := (h.o1.lt k hk).1; injection e; omega)
  o2 := own_grown h.o2 hg (fun k hk e => by have := (h.o2.lt k hk).1; injection e; omega)
  hb := h.hb
  he := h.he
/-- The same for a box behind base, of another type than the rows. -/
theorem CX.off {w W W' : World} {bc base g : Nat} {V1 V2 : Value} {bl : List Blk} {es : List Ent} (h : CX w W bc base V1 V2 bl es) (hg : W.grownBy W' (some g)) (h0 : w.heap.size ≤ g) (h1 : g ≠ bc) (h2 : V1.ownBlock ≠ some g) (h3 : V2.ownBlock ≠ some g) : CX w W' bc base V1 V2 bl es where
  ext := h.ext.grown hg (fun k hk => by injection hk; omega)
  low := h.low
  far := h.far
  cat := h.cat.grown hg (fun k hk => by injection hk with hk; omega)
  o1 := own_grown h.o1 hg (fun k hk e => h2 (by injection e with e; rw [hk, e]))
  o2 := own_grown h.o2 hg (fun k hk e => h3 (by injection e with e; rw [hk, e]))
  hb := h.hb
  he := h.he
theorem CX.pushB {w W W' : World} {bc base : Nat} {V1 V2 V1' : Value} {bl : List Blk} {es : List Ent} {b : Blk} (h : CX w W bc base V1 V2 bl es) (hg : W.grownBy W' V1.ownBlock) (ho : W'.ownsRow base 108 2 V1' (bl.length + 1) (bl.flatMap encBlk ++ [.int .i64 b.first, .int .i64 b.bytes]))
    (h1 : I64 b.first) (h2 : I64 b.bytes) : CX w (W'.setCell ⟨bc, 0, none⟩ V1') bc base V1' V2 (bl ++ [b]) es where
  ext := (h.ext.grown hg (fun k hk => by have := (h.o1.lt k hk).1; have := h.low; have := h.far; omega)).setCell h.low _
  low := h.low
  far := h.far
  cat := (h.cat.grown hg (fun k hk => by have := (h.o1.lt k hk).1; have := h.far; omega)).set 0 V1'
  o1 := by
    refine ownsRow_setCell_below ?_ h.far V1'
    rw [List.length_append, List.flatMap_append]
    exact ho
  o2 := ownsRow_setCell_below (own_grown h.o2 hg (fun k hk => own_two h.o2 h.o1 (by decide) k hk)) h.far V1'
  hb := fun x hx => by
    rcases List.mem_append.1 hx with hx | hx
    · exact h.hb x hx
    · obtain rfl := List.mem_singleton.1 hx; exact ⟨h1, h2⟩
  he := h.he
theorem CX.pushE {w W W' : World} {bc base : Nat} {V1 V2 V2' : Value} {bl : List Blk} {es : List Ent} {x : Ent} (h : CX w W bc base V1 V2 bl es) (hg : W.grownBy W' V2.ownBlock) (ho : W'.ownsRow base 113 4 V2' (es.length + 1) (es.flatMap encEnt ++ [.string x.name, .int .i64 x.block, .int .i64 x.at_, .int .i64 x.bytes]))
    (hx : EntOk x) : CX w (W'.setCell ⟨bc, 1, none⟩ V2') bc base V1 V2' bl (es ++ [x]) where
  ext := (h.ext.grown hg (fun k hk => by have := (h.o2.lt k hk).1; have := h.low; have := h.far; omega)).setCell h.low _
  low := h.low
  far := h.far
  cat := (h.cat.grown hg (fun k hk => by have := (h.o2.lt k hk).1; have := h.far; omega)).set 1 V2'
  o1 := ownsRow_setCell_below (own_grown h.o1 hg (fun k hk => own_two h.o1 h.o2 (by decide) k hk)) h.far V2'
  o2 := by
    refine ownsRow_setCell_below ?_ h.far V2'
    rw [List.length_append, List.flatMap_append]
    exact ho
  hb := h.hb
  he := fun y hy => by
    rcases List.mem_append.1 hy with hy | hy
    · exact h.he y hy
    · obtain rfl := List.mem_singleton.1 hy; exact hx
theorem CX.rcat {w W : World} {bc base : Nat} {V1 V2 : Value} {bl : List Blk} {es : List Ent} (h : CX w W bc base V1 V2 bl es) (h1 : bl.length ≤ 1000) (h2 : es.length ≤ 1000) : RCat W [V1, V2] ⟨bl, es⟩ :=
  ⟨V1, V2, rfl, SlR.of_own encBlk_ok h.o1 (by show bl.length * 16 ≤ _; omega) (fun b hb => ⟨rfl, h.hb b hb⟩), SlR.of_own encEnt_ok h.o2 (by show es.length * 40 ≤ _; omega) (fun x hx => ⟨rfl, h.he x hx⟩)⟩
theorem own_box {W : World} {base g : Nat} {e e' : TypeId} {z n : Nat} {v : Value} {xs : List Value} {cs : Array Value} (h : W.ownsRow base e z v n xs) (hb : Blk_ W g e' cs) (hne : e ≠ e') : v.ownBlock ≠ some g := by
  intro hk
  rcases h.2 with ⟨hv, _⟩ | ⟨g', cap, cur, hv, _, hg, _⟩
  · rw [hv] at hk; cases hk
  · rw [hv] at hk
    obtain rfl : g' = g := by simpa [Value.ownBlock] using hk
    unfold Blk_ at hb
    rw [hg] at hb
    injection hb with hb
    injection hb with _ h2 _
    exact hne h2
end Go.Proofs.YtgjijcgkmofaaaaGreatDoor
