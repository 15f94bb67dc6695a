/-
  Bytes in memory of the call's own: made out of a text, changed, and made a text again. Conditions: none.
-/
import Derived.Test.YtokpjgpdkmimgaaE
import Derived.Test.YtokpjgpdkmimgaaPArr
namespace Go.Proofs.Ytokpjgpdkmimgaa
set_option linter.unusedSimpArgs false
set_option linter.unusedVariables false
open Go.RowKit

theorem at_lst_eq (s : ByteArray) (k : Nat) : (lst s).getD k 0 = at_ s k := by
  unfold at_
  split
  · rename_i h
    rw [List.getD_eq_getElem?_getD, List.getElem?_eq_getElem (by rw [length_lst]; exact h)]
    rfl
  · rename_i h
    rw [List.getD_eq_getElem?_getD, List.getElem?_eq_none (by rw [length_lst]; omega)]
    rfl
/-- Block g begins with these bytes, and none of them is frozen. -/
def Buf (e : TypeId) (w : World) (g : Nat) (l : List UInt8) : Prop :=
  ∃ cs fr, w.heap[g]? = some (.cells cs e fr) ∧ (∀ i, i < l.length → cs[i]? = some (.int .u8 ((l.getD i 0).toNat : Int))) ∧ ∀ i, i < l.length → ¬ (fr.1 ≤ i ∧ i < fr.2)
theorem Buf.lt {e : TypeId} {w : World} {g : Nat} {l : List UInt8} (h : Buf e w g l) : g < w.heap.size := by
  obtain ⟨cs, fr, h, _⟩ := h
  exact (Array.getElem?_eq_some_iff.1 h).1
theorem Buf.cell {e : TypeId} {w : World} {g : Nat} {l : List UInt8} (h : Buf e w g l) (i : Nat) (hi : i < l.length) : w.cell? ⟨g, i, none⟩ = some (.int .u8 ((l.getD i 0).toNat : Int)) := by
  obtain ⟨cs, fr, h, hc, _⟩ := h
  rw [← hc i hi]
  simp [World.cell?, h]
theorem Buf.frozen {e : TypeId} {w : World} {g : Nat} {l : List UInt8} (h : Buf e w g l) (i : Nat) (hi : i < l.length) : w.frozen? ⟨g, i, none⟩ = false := by
  obtain ⟨cs, fr, h, _, hf⟩ := h
  have := hf i hi
  simp only [World.frozen?, h]
  by_cases h1 : fr.1 ≤ i
  · have h2 : ¬ i < fr.2 := fun h2 => this ⟨h1, h2⟩
    simp [h2]
  · simp [h1]
theorem Buf.ext {e : TypeId} {w w' : World} {g : Nat} {l : List UInt8} (h : Buf e w g l) (k : Ext w w') : Buf e w' g l := by
  have hl := h.lt
  obtain ⟨cs, fr, h, r⟩ := h
  exact ⟨cs, fr, (Below.block k g hl).trans h, r⟩
theorem Buf.far {e : TypeId} {w : World} {g : Nat} {l : List UInt8} (h : Buf e w g l) {p : Addr} (hp : g ≠ p.block) (u : Value) : Buf e (w.setCell p u) g l := by
  obtain ⟨cs, fr, h, r⟩ := h
  exact ⟨cs, fr, (Below.heap_setCell w p u g hp).trans h, r⟩
theorem byte_u8 (c : UInt8) : byte (c.toNat : Int) = c := by
  unfold byte
  rw [Int.toNat_natCast, UInt8.ofNat_toNat]
theorem byte_nat_ (n : Int) (h0 : 0 ≤ n) (h1 : n < 256) : ((byte n).toNat : Int) = n := by
  unfold byte
  rw [UInt8.toNat_ofNat']
  omega
theorem Buf.set {e : TypeId} {w : World} {g : Nat} {l : List UInt8} (h : Buf e w g l) (i : Nat) (c : Int) (h0 : 0 ≤ c) (h1 : c < 256) : Buf e (w.setCell ⟨g, i, none⟩ (.int .u8 c)) g (l.set i (byte c)) := by
  obtain ⟨cs, fr, h, hc, hf⟩ := h
  refine ⟨cs.setIfInBounds i (.int .u8 c), fr, by simp [World.setCell, Array.getElem?_modify, h], fun j hj => ?_, fun j hj => hf j (by simpa using hj)⟩
  rw [List.length_set] at hj
  have hcj := hc j hj
  have hsz : j < cs.size := (Array.getElem?_eq_some_iff.1 hcj).1
  rw [Array.getElem?_setIfInBounds]
  by_cases he : i = j
  · subst he
    rw [if_pos rfl, if_pos hsz, List.getD_eq_getElem?_getD, List.getElem?_set_self hj]
    simp only [Option.getD_some]
    rw [byte_nat_ c h0 h1]
  · rw [if_neg he, hcj, List.getD_eq_getElem?_getD, List.getD_eq_getElem?_getD, List.getElem?_set_ne he]
theorem Buf.made (e : TypeId) (w : World) (s : ByteArray) (cap : Nat) (hc : s.size ≤ cap) : Buf e (w.drew.alloc (.cells (bytesRow s cap) e ((bytesRow s cap).size, (bytesRow s cap).size + 1))) w.heap.size (lst s) := by
  refine ⟨bytesRow s cap, _, heap_alloc_new w.drew _, fun i hi => ?_, fun i hi => ?_⟩
  · rw [length_lst] at hi
    rw [bytesRow_at s cap i hi, List.getD_eq_getElem?_getD, List.getElem?_eq_getElem (by rw [length_lst]; exact hi)]
    rfl
  · rw [length_lst] at hi
    have : s.size ≤ (bytesRow s cap).size := by
      unfold bytesRow
      rw [Array.size_append, Array.size_map]
      exact Nat.le_add_right _ _
    omega
/-- A store into a block that came later than the rows. -/
theorem ODev.aside {S L : TypeId} {w0 w : World} {base : Nat} {v1 v2 : Value} {d : Dev} (h : ODev S L w base v1 v2 d) (h0 : ODev S L w0 base v1 v2 d) {p : Addr} (hp : w0.heap.size ≤ p.block) (u : Value) : ODev S L (w.setCell p u) base v1 v2 d :=
  ⟨ownsRow_setCell_other h.1 (fun e => by have := (h0.1.lt _ e).2; omega) u, ownsRow_setCell_other h.2.1 (fun e => by have := (h0.2.1.lt _ e).2; omega) u, h.2.2⟩
section
variable {P : Program} {Q : Exit → Act → World → Prop}
theorem Buf.back {e : TypeId} {w : World} {g : Nat} {l : List UInt8} (h : Buf e w g l) (src dst : TypeId) (hs : P.underlying src = some (.slice e)) (he : P.underlying e = some (.int .u8)) (hd : P.underlying dst = some .string) (cap : Nat) :
    (convert src dst (.slice (some ⟨g, 0, none⟩) l.length cap)).run P w = .ok (.string (bs l)) w := by
  have hc := run_conv_lit (P := P) w src dst e hs he hd ⟨g, 0, none⟩ cap (l.map fun c => (c.toNat : Int)) (fun j u hu => by
    rw [Addr.add_lit, Nat.zero_add]
    rw [List.map_map, List.getElem?_map, Option.map_eq_some_iff] at hu
    obtain ⟨c, hc, hu⟩ := hu
    have hj := (List.getElem?_eq_some_iff.1 hc).1
    rw [h.cell j hj, List.getD_eq_getElem?_getD, hc, ← hu]
    rfl)
  rw [List.length_map, List.map_map] at hc
  have : List.map (byte ∘ fun c : UInt8 => (c.toNat : Int)) l = l := by
    have h1 : (byte ∘ fun c : UInt8 => (c.toNat : Int)) = id := funext fun c => byte_u8 c
    rw [h1, List.map_id]
  rw [this] at hc
  exact hc
/-- A text is made bytes. -/
theorem wpList_tobytes {ops : Array Oper} {rest : List Oper} {o : Oper} {a : Act} {w : World} (x : Operand) (src dst e : TypeId) (ho : o.op = .convert src dst x) (hgd : o.guard = none) (hs : P.underlying src = some .string) (hd : P.underlying dst = some (.slice e)) (he : P.underlying e = some (.int .u8))
    (s : ByteArray) (hx : a.eval x = .string s)
    (h : ∀ g cap w', w.heap.size ≤ g → Ext w w' → Buf e w' g (lst s) → s.size ≤ cap → wpList P ops Q rest (a.put o.dst (.slice (some ⟨g, 0, none⟩) s.size cap)) w') : wpList P ops Q (o :: rest) a w := by
  refine wpList_plain hgd fun K hK => ?_
  have hr := run_bytes_of_string (P := P) w src dst e s hs hd he
  unfold Oper.wp execOp
  simp only [ho, Sem.run_bind, hx, hr, Result.andThen_ok, Sem.run_pure, Oper.upon]
  exact hK _ _ (h _ _ _ (Nat.le_refl _) ((Ext.refl w).drew.alloc _) (Buf.made e w s _ (grownCap_ge _ _ _ _)) (grownCap_ge _ _ _ _))
/-- Bytes are made a text. -/
theorem wpList_frombytes {ops : Array Oper} {rest : List Oper} {o : Oper} {a : Act} {w : World} (x : Operand) (src dst e : TypeId) (ho : o.op = .convert src dst x) (hgd : o.guard = none) (hs : P.underlying src = some (.slice e)) (he : P.underlying e = some (.int .u8)) (hd : P.underlying dst = some .string)
    (g n cap : Nat) (l : List UInt8) (hb : Buf e w g l) (hn : n = l.length) (hx : a.eval x = .slice (some ⟨g, 0, none⟩) n cap)
    (h : wpList P ops Q rest (a.put o.dst (.string (bs l))) w) : wpList P ops Q (o :: rest) a w := by
  subst hn
  refine wpList_plain hgd fun K hK => ?_
  have hr := hb.back (P := P) src dst hs he hd cap
  unfold Oper.wp execOp
  simp only [ho, Sem.run_bind, hx, hr, Result.andThen_ok, Sem.run_pure, Oper.upon]
  exact hK _ _ h
end
end Go.Proofs.Ytokpjgpdkmimgaa
