/-
  Small words of memory that all walks of this seat share: a world that has only grown, a row of cells, strings as lists of bytes. Conditions: none.
-/
import Derived.WalkKit
import Derived.WalkSpells
import Derived.WalkLawsBesides
import Derived.Lib.Hide
import Derived.Laws.IdiomStrings
import Derived.Deep.Draws
import Derived.Lib.SliceRun
namespace Go.Proofs.Ytokpjgpdkmimgaa
set_option linter.unusedSimpArgs false
set_option linter.unusedVariables false
open Go.RowKit

/-- The bytes of a string. -/
def bs (l : List UInt8) : ByteArray := ⟨l.toArray⟩
def lst (s : ByteArray) : List UInt8 := s.data.toList
@[simp] theorem lst_bs (l : List UInt8) : lst (bs l) = l := by simp [lst, bs]
@[simp] theorem bs_lst (s : ByteArray) : bs (lst s) = s := by simp [lst, bs]
@[simp] theorem size_bs (l : List UInt8) : (bs l).size = l.length := by simp [bs, ByteArray.size]
theorem length_lst (s : ByteArray) : (lst s).length = s.size := by simp only [lst, Array.length_toList]; rfl
theorem lst_inj {s t : ByteArray} (h : lst s = lst t) : s = t := by rw [← bs_lst s, h, bs_lst]
theorem bs_inj {s t : List UInt8} (h : bs s = bs t) : s = t := by rw [← lst_bs s, h, lst_bs]
theorem toList_lst (s : ByteArray) : s.toList = lst s := ByteArray.toList_eq s
theorem getElem_lst (s : ByteArray) (k : Nat) (h : k < s.size) : (lst s)[k]'(by rw [length_lst]; exact h) = s[k] := rfl
theorem take_snoc (s : ByteArray) (k : Nat) (h : k < s.size) : (lst s).take (k + 1) = (lst s).take k ++ [s[k]] := by
  rw [List.take_succ_eq_append_getElem (by rw [length_lst]; exact h), getElem_lst s k h]
theorem take_all (s : ByteArray) : (lst s).take s.size = lst s := List.take_of_length_le (by rw [length_lst]; exact Nat.le_refl _)
theorem take_ge (s : ByteArray) (k : Nat) (h : s.size ≤ k) : (lst s).take k = lst s := List.take_of_length_le (by rw [length_lst]; exact h)
theorem any_snoc (s : ByteArray) (k : Nat) (h : k < s.size) {p : UInt8 → Bool} (hn : ((lst s).take k).any p = false) : ((lst s).take (k + 1)).any p = p s[k] := by
  rw [take_snoc s k h, List.any_append, hn, Bool.false_or, List.any_cons, List.any_nil, Bool.or_false]
theorem any_mem (s : ByteArray) (k : Nat) (h : k < s.size) {p : UInt8 → Bool} (hp : p s[k] = true) : (lst s).any p = true := by
  have hl : k < (lst s).length := by rw [length_lst]; exact h
  exact List.any_eq_true.2 ⟨(lst s)[k], List.getElem_mem hl, hp⟩
theorem u8_bd (c : UInt8) : (0 : Int) ≤ (c.toNat : Int) ∧ (c.toNat : Int) < 256 := ⟨by omega, by have := c.toNat_lt; omega⟩
theorem u8_hi (c : UInt8) : (c.toNat : Int) < 256 := (u8_bd c).2
theorem u8_lo (c : UInt8) : (0 : Int) ≤ (c.toNat : Int) := by omega

/-- The byte of a number. -/
def byte (n : Int) : UInt8 := UInt8.ofNat n.toNat

/-- w' is w with more blocks. -/
def Ext (w w' : World) : Prop := Below w.heap.size w w'
theorem Ext.refl (w : World) : Ext w w := Below.refl _ _
theorem Ext.below {w w' : World} (h : Ext w w') : Below w.heap.size w w' := h
theorem Ext.size {w w' : World} (h : Ext w w') : w.heap.size ≤ w'.heap.size := Below.size h
theorem Ext.trans {a b c : World} (h : Ext a b) (k : Ext b c) : Ext a c := Below.trans h (Below.mono k h.size)
theorem Ext.alloc {a w : World} (h : Ext a w) (o : Obj) : Ext a (w.alloc o) := Below.alloc h h.size o
theorem Ext.drew {a w : World} (h : Ext a w) : Ext a w.drew := Below.drew h
theorem Ext.setCell {a w : World} (h : Ext a w) {p : Addr} (hp : a.heap.size ≤ p.block) (u : Value) : Ext a (w.setCell p u) := Below.setCell h hp u
theorem Ext.grown {a w w' : World} {row : Option Nat} (h : Ext a w) (hg : w.grownBy w' row) (hr : ∀ k, row = some k → a.heap.size ≤ k) : Ext a w' := Below.grown h hg h.size hr
theorem Ext.cell {w w' : World} (h : Ext w w') {p : Addr} {v : Value} (hp : w.cell? p = some v) : w'.cell? p = some v :=
  (Below.cell h (World.block_lt_of_cell? w p hp)).trans hp
theorem Ext.frozen {w w' : World} (h : Ext w w') {p : Addr} (hp : p.block < w.heap.size) : w'.frozen? p = w.frozen? p := Below.frozen h hp

/-- A block of cells, none of them frozen. -/
def Blk_ (w : World) (g : Nat) (t : TypeId) (cs : Array Value) : Prop := w.heap[g]? = some (.cells cs t (0, 0))
theorem Blk_.lt {w : World} {g : Nat} {t : TypeId} {cs : Array Value} (h : Blk_ w g t cs) : g < w.heap.size := (Array.getElem?_eq_some_iff.1 h).1
theorem Blk_.cell {w : World} {g : Nat} {t : TypeId} {cs : Array Value} (h : Blk_ w g t cs) (i : Nat) : w.cell? ⟨g, i, none⟩ = cs[i]? := cell_of_row w g i cs t (0, 0) h
theorem Blk_.frozen {w : World} {g : Nat} {t : TypeId} {cs : Array Value} (h : Blk_ w g t cs) (i : Nat) : w.frozen? ⟨g, i, none⟩ = false := by
  unfold Blk_ at h
  simp [World.frozen?, h]
theorem Blk_.new (w : World) (t : TypeId) (cs : Array Value) : Blk_ (w.alloc (.cells cs t)) w.heap.size t cs := heap_alloc_new w _
theorem Blk_.new1 (w : World) (o : Obj) (t : TypeId) (cs : Array Value) : Blk_ ((w.alloc o).alloc (.cells cs t)) (w.heap.size + 1) t cs := by
  have := Blk_.new (w.alloc o) t cs
  rwa [World.size_alloc] at this
theorem Blk_.new2 (w : World) (o o' : Obj) (t : TypeId) (cs : Array Value) : Blk_ (((w.alloc o).alloc o').alloc (.cells cs t)) (w.heap.size + 1 + 1) t cs := by
  have := Blk_.new ((w.alloc o).alloc o') t cs
  rwa [World.size_alloc, World.size_alloc] at this
theorem Blk_.alloc {w : World} {g : Nat} {t : TypeId} {cs : Array Value} (h : Blk_ w g t cs) (o : Obj) : Blk_ (w.alloc o) g t cs := (Below.heap_alloc w o g h.lt).trans h
theorem Blk_.ext {w w' : World} {g : Nat} {t : TypeId} {cs : Array Value} (h : Blk_ w g t cs) (k : Ext w w') : Blk_ w' g t cs := (Below.block k g h.lt).trans h
theorem Blk_.set {w : World} {g : Nat} {t : TypeId} {cs : Array Value} (h : Blk_ w g t cs) (i : Nat) (u : Value) : Blk_ (w.setCell ⟨g, i, none⟩ u) g t (cs.setIfInBounds i u) := by
  unfold Blk_ at h ⊢
  simp [World.setCell, Array.getElem?_modify, h]
theorem Blk_.far {w : World} {g : Nat} {t : TypeId} {cs : Array Value} (h : Blk_ w g t cs) {p : Addr} (hp : g ≠ p.block) (u : Value) : Blk_ (w.setCell p u) g t cs := (Below.heap_setCell w p u g hp).trans h
theorem Blk_.ne {w : World} {g g' : Nat} {t t' : TypeId} {cs cs' : Array Value} (h : Blk_ w g t cs) (h' : Blk_ w g' t' cs') (hne : t ≠ t') : g ≠ g' := by
  rintro rfl
  unfold Blk_ at h h'
  rw [h] at h'
  injection h' with h'
  injection h' with _ ht
  exact hne ht

/-- A row of one-cell values. -/
def Row (w : World) (A : Option Addr) (xs : List Value) : Prop :=
  xs = [] ∨ ∃ b o, A = some ⟨b, o, none⟩ ∧ ∀ (j : Nat) (u : Value), xs[j]? = some u → w.cell? ⟨b, o + j, none⟩ = some u
theorem Row.ext {w w' : World} {A : Option Addr} {xs : List Value} (h : Row w A xs) (k : Ext w w') : Row w' A xs := by
  rcases h with h | ⟨b, o, hA, h⟩
  · exact .inl h
  · exact .inr ⟨b, o, hA, fun j u hu => k.cell (h j u hu)⟩
theorem Row.nil (w : World) (A : Option Addr) : Row w A [] := .inl rfl
theorem Row.at_ {w : World} {A : Option Addr} {xs : List Value} (h : Row w A xs) {k : Nat} (hk : k < xs.length) :
    ∃ b o, A = some ⟨b, o, none⟩ ∧ ∀ (j : Nat) (u : Value), xs[j]? = some u → w.cell? ⟨b, o + j, none⟩ = some u := by
  rcases h with h | h
  · subst h; exact absurd hk (by simp)
  · exact h

section
variable {P : Program}
@[go_sem] theorem run_eql_slice_nil_ (w : World) (t e : TypeId) (a : Option Addr) (l c : Nat) (h : P.underlying t = some (.slice e)) : (binOp .eql t (.slice a l c) (.slice none 0 0)).run P w = .ok (.bool a.isNone) w := by
  exact Lib.run_eql_slice_nil w t e a l c 0 0 h
theorem run_conv_lit (w : World) (src dst e : TypeId) (hs : P.underlying src = some (.slice e)) (he : P.underlying e = some (.int .u8)) (hd : P.underlying dst = some .string)
    (a : Addr) (cap : Nat) (ns : List Int) (hc : ∀ (j : Nat) (u : Value), (ns.map (Value.int .u8))[j]? = some u → w.cell? (a.add j) = some u) :
    (convert src dst (.slice (some a) ns.length cap)).run P w = .ok (.string (bs (ns.map byte))) w := by
  rw [run_convert_bytes_string w src dst e (some a) ns.length cap hs he hd]
  have hl := run_loadCells_list (P := P) w a (ns.map (Value.int .u8)) (fun j v hj => hc j v hj)
  simp only [List.length_map] at hl
  rw [run_bytesToString w a ns.length cap ns hl]
  congr 2
  have : ∀ (l : List Int) (r : ByteArray), l.foldl (fun r n => r.push (UInt8.ofNat n.toNat)) r = ⟨r.data ++ (l.map byte).toArray⟩ := by
    intro l
    induction l with
    | nil => intro r; simp
    | cons n l ih => intro r; simp only [List.foldl_cons]; rw [ih]; simp [ByteArray.push, byte]
  rw [this]
  have he0 : ByteArray.empty.data = #[] := rfl
  rw [he0]
  simp [bs]
@[go_sem] theorem run_conv_lit4 (w : World) (src dst e : TypeId) (hs : P.underlying src = some (.slice e)) (he : P.underlying e = some (.int .u8)) (hd : P.underlying dst = some .string) (a b c d : Int) :
    (convert src dst (.slice (some ⟨w.heap.size, 0, none⟩) 4 4)).run P (w.alloc (.cells #[.int .u8 a, .int .u8 b, .int .u8 c, .int .u8 d] e)) =
      .ok (.string (bs [byte a, byte b, byte c, byte d])) (w.alloc (.cells #[.int .u8 a, .int .u8 b, .int .u8 c, .int .u8 d] e)) := by
  refine run_conv_lit _ src dst e hs he hd ⟨w.heap.size, 0, none⟩ 4 [a, b, c, d] (fun j u hu => ?_)
  rw [Addr.add_lit, Nat.zero_add, World.cell?_alloc_new]
  simpa using hu
@[go_sem] theorem run_conv_lit2 (w : World) (src dst e : TypeId) (hs : P.underlying src = some (.slice e)) (he : P.underlying e = some (.int .u8)) (hd : P.underlying dst = some .string) (a b : Int) :
    (convert src dst (.slice (some ⟨w.heap.size, 0, none⟩) 2 2)).run P (w.alloc (.cells #[.int .u8 a, .int .u8 b] e)) =
      .ok (.string (bs [byte a, byte b])) (w.alloc (.cells #[.int .u8 a, .int .u8 b] e)) := by
  refine run_conv_lit _ src dst e hs he hd ⟨w.heap.size, 0, none⟩ 2 [a, b] (fun j u hu => ?_)
  rw [Addr.add_lit, Nat.zero_add, World.cell?_alloc_new]
  simpa using hu
@[go_sem] theorem run_conv_lit1 (w : World) (src dst e : TypeId) (hs : P.underlying src = some (.slice e)) (he : P.underlying e = some (.int .u8)) (hd : P.underlying dst = some .string) (a : Int) :
    (convert src dst (.slice (some ⟨w.heap.size, 0, none⟩) 1 1)).run P (w.alloc (.cells #[.int .u8 a] e)) =
      .ok (.string (bs [byte a])) (w.alloc (.cells #[.int .u8 a] e)) := by
  refine run_conv_lit _ src dst e hs he hd ⟨w.heap.size, 0, none⟩ 1 [a] (fun j u hu => ?_)
  rw [Addr.add_lit, Nat.zero_add, World.cell?_alloc_new]
  simpa using hu
end
/-- The world under a name of its own, of which this alone is known. -/
theorem wp_abs {P : Program} {c : Code} {Q : Exit → Act → World → Prop} {a : Act} {w : World} (p : World → Prop) (hp : p w) (h : ∀ W, p W → c.wp P Q a W) : c.wp P Q a w := h w hp
theorem calls_abs {P : Program} {f : FuncId} {args : Array Value} {w : World} {R : Ending → World → Prop} (p : World → Prop) (hp : p w) (h : ∀ W, p W → Calls P f args W R) : Calls P f args w R := h w hp
theorem Ext.drewN {a w : World} (h : Ext a w) (n : Nat) : Ext a (w.drewN n) := ⟨h.below.os, h.below.tape, h.below.output, h.below.size, h.below.block⟩
theorem ret_eq {a b : Value} (h : a = b) : Ending.returned a = .returned b := by rw [h]
theorem ret_str {a b : ByteArray} (h : a = b) : Ending.returned (.string a) = .returned (.string b) := by rw [h]
theorem ret_int {k : IntKind} {a b : Int} (h : a = b) : Ending.returned (.int k a) = .returned (.int k b) := by rw [h]
theorem ret_bool {a b : Bool} (h : a = b) : Ending.returned (.bool a) = .returned (.bool b) := by rw [h]
end Go.Proofs.Ytokpjgpdkmimgaa
