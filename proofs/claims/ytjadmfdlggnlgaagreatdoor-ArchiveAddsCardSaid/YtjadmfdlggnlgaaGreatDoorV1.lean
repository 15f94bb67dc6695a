/-
  Small words of memory that all walks of this seat share: a world that has only grown, a row of cells, strings as lists of bytes. Conditions: none.
-/
import Derived.WalkKit
import Derived.WalkSpells
import Derived.WalkLawsBesides
import Derived.Lib.Hide
import Derived.Laws.IdiomStrings
import Derived.Deep.Draws
import Derived.Lib.SliceRun
import Derived.Deep.Slices
import Derived.ProofKit
import Derived.SizedLaws
import Derived.Test.YtjadmfdlggnlgaaGreatDoorRows
import Derived.JoinedOf
import Derived.Laws.ResultCell
import Derived.Deep.RegionHeld3
import Derived.Deep.QuietTactic
import Derived.BigQuiet
namespace Go.Proofs.YtjadmfdlggnlgaaGreatDoor
set_option linter.unusedSimpArgs false
set_option linter.unusedVariables false
set_option maxRecDepth 100000
set_option maxHeartbeats 8000000
open Go.RowKit
def bs (l : List UInt8) : ByteArray := ⟨l.toArray⟩
def lst (s : ByteArray) : List UInt8 := s.data.toList
@[simp] theorem lst_bs (l : List UInt8) : lst (bs l) = l := by simp [lst, bs]
@[simp] theorem bs_lst (s : ByteArray) : bs (lst s) = s := by simp [lst, bs]
@[simp] theorem size_bs (l : List UInt8) : (bs l).size = l.length := by simp [bs, ByteArray.size]
theorem length_lst (s : ByteArray) : (lst s).length = s.size := by simp only [lst, Array.length_toList]; rfl
theorem lst_inj {s t : ByteArray} (h : lst s = lst t) : s = t := by rw [← bs_lst s, h, bs_lst]
theorem toList_lst (s : ByteArray) : s.toList = lst s := ByteArray.toList_eq s
theorem getElem_lst (s : ByteArray) (k : Nat) (h : k < s.size) : (lst s)[k]'(by rw [length_lst]; exact h) = s[k] := rfl
theorem take_snoc (s : ByteArray) (k : Nat) (h : k < s.size) : (lst s).take (k + 1) = (lst s).take k ++ [s[k]] := by
 rw [List.take_succ_eq_append_getElem (by rw [length_lst]; exact h), getElem_lst s k h]
theorem take_all (s : ByteArray) : (lst s).take s.size = lst s := List.take_of_length_le (by rw [length_lst]; exact Nat.le_refl _)
theorem take_ge (s : ByteArray) (k : Nat) (h : s.size ≤ k) : (lst s).take k = lst s := List.take_of_length_le (by rw [length_lst]; exact h)
theorem any_snoc (s : ByteArray) (k : Nat) (h : k < s.size) {p : UInt8 → Bool} (hn : ((lst s).take k).any p = false) : ((lst s).take (k + 1)).any p = p s[k] := by
 rw [take_snoc s k h, List.any_append, hn, Bool.false_or, List.any_cons, List.any_nil, Bool.or_false]
theorem any_mem (s : ByteArray) (k : Nat) (h : k < s.size) {p : UInt8 → Bool} (hp : p s[k] = true) : (lst s).any p = true := by
 have hl : k < (lst s).length := by rw [length_lst]; exact h
 exact List.any_eq_true.2 ⟨(lst s)[k], List.getElem_mem hl, hp⟩
theorem u8_bd (c : UInt8) : (0 : Int) ≤ (c.toNat : Int) ∧ (c.toNat : Int) < 256 := ⟨by omega, by have := c.toNat_lt; omega⟩
theorem u8_hi (c : UInt8) : (c.toNat : Int) < 256 := (u8_bd c).2
theorem u8_lo (c : UInt8) : (0 : Int) ≤ (c.toNat : Int) := by omega
def byte (n : Int) : UInt8 := UInt8.ofNat n.toNat
def Ext (w w' : World) : Prop := Below w.heap.size w w'
theorem Ext.refl (w : World) : Ext w w := Below.refl _ _
theorem Ext.below {w w' : World} (h : Ext w w') : Below w.heap.size w w' := h
theorem Ext.size {w w' : World} (h : Ext w w') : w.heap.size ≤ w'.heap.size := Below.size h
theorem Ext.trans {a b c : World} (h : Ext a b) (k : Ext b c) : Ext a c := Below.trans h (Below.mono k h.size)
theorem Ext.alloc {a w : World} (h : Ext a w) (o : Obj) : Ext a (w.alloc o) := Below.alloc h h.size o
theorem Ext.drew {a w : World} (h : Ext a w) : Ext a w.drew := Below.drew h
theorem Ext.setCell {a w : World} (h : Ext a w) {p : Addr} (hp : a.heap.size ≤ p.block) (u : Value) : Ext a (w.setCell p u) := Below.setCell h hp u
theorem Ext.grown {a w w' : World} {row : Option Nat} (h : Ext a w) (hg : w.grownBy w' row) (hr : ∀ k, row = some k → a.heap.size ≤ k) : Ext a w' := Below.grown h hg h.size hr
theorem Ext.cell {w w' : World} (h : Ext w w') {p : Addr} {v : Value} (hp : w.cell? p = some v) : w'.cell? p = some v :=
 (Below.cell h (World.block_lt_of_cell? w p hp)).trans hp
def Blk_ (w : World) (g : Nat) (t : TypeId) (cs : Array Value) : Prop := w.heap[g]? = some (.cells cs t (0, 0))
theorem Blk_.lt {w : World} {g : Nat} {t : TypeId} {cs : Array Value} (h : Blk_ w g t cs) : g < w.heap.size := (Array.getElem?_eq_some_iff.1 h).1
theorem Blk_.cell {w : World} {g : Nat} {t : TypeId} {cs : Array Value} (h : Blk_ w g t cs) (i : Nat) : w.cell? ⟨g, i, none⟩ = cs[i]? := cell_of_row w g i cs t (0, 0) h
theorem Blk_.frozen {w : World} {g : Nat} {t : TypeId} {cs : Array Value} (h : Blk_ w g t cs) (i : Nat) : w.frozen? ⟨g, i, none⟩ = false := by
 unfold Blk_ at h
 simp [World.frozen?, h]
theorem Blk_.new (w : World) (t : TypeId) (cs : Array Value) : Blk_ (w.alloc (.cells cs t)) w.heap.size t cs := heap_alloc_new w _
theorem Blk_.new1 (w : World) (o : Obj) (t : TypeId) (cs : Array Value) : Blk_ ((w.alloc o).alloc (.cells cs t)) (w.heap.size + 1) t cs := by
 have := Blk_.new (w.alloc o) t cs
 rwa [World.size_alloc] at this
theorem Blk_.new2 (w : World) (o o' : Obj) (t : TypeId) (cs : Array Value) : Blk_ (((w.alloc o).alloc o').alloc (.cells cs t)) (w.heap.size + 1 + 1) t cs := by
 have := Blk_.new ((w.alloc o).alloc o') t cs
 rwa [World.size_alloc, World.size_alloc] at this
theorem Blk_.alloc {w : World} {g : Nat} {t : TypeId} {cs : Array Value} (h : Blk_ w g t cs) (o : Obj) : Blk_ (w.alloc o) g t cs := (Below.heap_alloc w o g h.lt).trans h
theorem Blk_.ext {w w' : World} {g : Nat} {t : TypeId} {cs : Array Value} (h : Blk_ w g t cs) (k : Ext w w') : Blk_ w' g t cs := (Below.block k g h.lt).trans h
theorem Blk_.set {w : World} {g : Nat} {t : TypeId} {cs : Array Value} (h : Blk_ w g t cs) (i : Nat) (u : Value) : Blk_ (w.setCell ⟨g, i, none⟩ u) g t (cs.setIfInBounds i u) := by
 unfold Blk_ at h ⊢
 simp [World.setCell, Array.getElem?_modify, h]
theorem Blk_.far {w : World} {g : Nat} {t : TypeId} {cs : Array Value} (h : Blk_ w g t cs) {p : Addr} (hp : g ≠ p.block) (u : Value) : Blk_ (w.setCell p u) g t cs := (Below.heap_setCell w p u g hp).trans h
section
variable {P : Program}
@[go_sem] theorem run_eql_slice_nil_ (w : World) (t e : TypeId) (a : Option Addr) (l c : Nat) (h : P.underlying t = some (.slice e)) : (binOp .eql t (.slice a l c) (.slice none 0 0)).run P w = .ok (.bool a.isNone) w := by
 exact Lib.run_eql_slice_nil w t e a l c 0 0 h
theorem run_conv_lit (w : World) (src dst e : TypeId) (hs : P.underlying src = some (.slice e)) (he : P.underlying e = some (.int .u8)) (hd : P.underlying dst = some .string)
  (a : Addr) (cap : Nat) (ns : List Int) (hc : ∀ (j : Nat) (u : Value), (ns.map (Value.int .u8))[j]? = some u → w.cell? (a.add j) = some u) :
  (convert src dst (.slice (some a) ns.length cap)).run P w = .ok (.string (bs (ns.map byte))) w := by
 rw [run_convert_bytes_string w src dst e (some a) ns.length cap hs he hd]
 have hl := run_loadCells_list (P := P) w a (ns.map (Value.int .u8)) (fun j v hj => hc j v hj)
 simp only [List.length_map] at hl
 rw [run_bytesToString w a ns.length cap ns hl]
 congr 2
 have : ∀ (l : List Int) (r : ByteArray), l.foldl (fun r n => r.push (UInt8.ofNat n.toNat)) r = ⟨r.data ++ (l.map byte).toArray⟩ := by
  intro l
  induction l with
  | nil => intro r; simp
  | cons n l ih => intro r; simp only [List.foldl_cons]; rw [ih]; simp [ByteArray.push, byte]
 rw [this]
 have he0 : ByteArray.empty.data = #[] := rfl
 rw [he0]
 simp [bs]
@[go_sem] theorem run_conv_lit4 (w : World) (src dst e : TypeId) (hs : P.underlying src = some (.slice e)) (he : P.underlying e = some (.int .u8)) (hd : P.underlying dst = some .string) (a b c d : Int) :
  (convert src dst (.slice (some ⟨w.heap.size, 0, none⟩) 4 4)).run P (w.alloc (.cells #[.int .u8 a, .int .u8 b, .int .u8 c, .int .u8 d] e)) =
   .ok (.string (bs [byte a, byte b, byte c, byte d])) (w.alloc (.cells #[.int .u8 a, .int .u8 b, .int .u8 c, .int .u8 d] e)) := by
 refine run_conv_lit _ src dst e hs he hd ⟨w.heap.size, 0, none⟩ 4 [a, b, c, d] (fun j u hu => ?_)
 rw [Addr.add_lit, Nat.zero_add, World.cell?_alloc_new]
 simpa using hu
@[go_sem] theorem run_conv_lit2 (w : World) (src dst e : TypeId) (hs : P.underlying src = some (.slice e)) (he : P.underlying e = some (.int .u8)) (hd : P.underlying dst = some .string) (a b : Int) :
  (convert src dst (.slice (some ⟨w.heap.size, 0, none⟩) 2 2)).run P (w.alloc (.cells #[.int .u8 a, .int .u8 b] e)) =
   .ok (.string (bs [byte a, byte b])) (w.alloc (.cells #[.int .u8 a, .int .u8 b] e)) := by
 refine run_conv_lit _ src dst e hs he hd ⟨w.heap.size, 0, none⟩ 2 [a, b] (fun j u hu => ?_)
 rw [Addr.add_lit, Nat.zero_add, World.cell?_alloc_new]
 simpa using hu
@[go_sem] theorem run_conv_lit1 (w : World) (src dst e : TypeId) (hs : P.underlying src = some (.slice e)) (he : P.underlying e = some (.int .u8)) (hd : P.underlying dst = some .string) (a : Int) :
  (convert src dst (.slice (some ⟨w.heap.size, 0, none⟩) 1 1)).run P (w.alloc (.cells #[.int .u8 a] e)) =
   .ok (.string (bs [byte a])) (w.alloc (.cells #[.int .u8 a] e)) := by
 refine run_conv_lit _ src dst e hs he hd ⟨w.heap.size, 0, none⟩ 1 [a] (fun j u hu => ?_)
 rw [Addr.add_lit, Nat.zero_add, World.cell?_alloc_new]
 simpa using hu
end
theorem wp_abs {P : Program} {c : Code} {Q : Exit → Act → World → Prop} {a : Act} {w : World} (p : World → Prop) (hp : p w) (h : ∀ W, p W → c.wp P Q a W) : c.wp P Q a w := h w hp
theorem calls_abs {P : Program} {f : FuncId} {args : Array Value} {w : World} {R : Ending → World → Prop} (p : World → Prop) (hp : p w) (h : ∀ W, p W → Calls P f args W R) : Calls P f args w R := h w hp
theorem Ext.drewN {a w : World} (h : Ext a w) (n : Nat) : Ext a (w.drewN n) := ⟨h.below.os, h.below.tape, h.below.output, h.below.size, h.below.block⟩
theorem ret_eq {a b : Value} (h : a = b) : Ending.returned a = .returned b := by rw [h]
theorem ret_str {a b : ByteArray} (h : a = b) : Ending.returned (.string a) = .returned (.string b) := by rw [h]
theorem ret_int {k : IntKind} {a b : Int} (h : a = b) : Ending.returned (.int k a) = .returned (.int k b) := by rw [h]
theorem ret_bool {a b : Bool} (h : a = b) : Ending.returned (.bool a) = .returned (.bool b) := by rw [h]
def sealStep (p : Int × Int) (c : UInt8) : Int × Int := ((p.1 + c.toNat) % 65521, (p.2 + (p.1 + c.toNat) % 65521) % 65521)
def sealXY (l : List UInt8) : Int × Int := l.foldl sealStep (1, 0)
def sealBytes (p : Int × Int) : List UInt8 := [byte (p.2 / 256), byte (p.2 % 256), byte (p.1 / 256), byte (p.1 % 256)]
def sealOf (l : List UInt8) : List UInt8 := sealBytes (sealXY l)
def InRange (p : Int × Int) : Prop := 0 ≤ p.1 ∧ p.1 < 65521 ∧ 0 ≤ p.2 ∧ p.2 < 65521
theorem sealStep_range (p : Int × Int) (c : UInt8) : InRange (sealStep p c) := by
 unfold InRange sealStep; dsimp only; omega
theorem sealXY_snoc (l : List UInt8) (c : UInt8) : sealXY (l ++ [c]) = sealStep (sealXY l) c := by simp [sealXY]
theorem foldl_range (l : List UInt8) : ∀ p, InRange p → InRange (l.foldl sealStep p) := by
 induction l with
 | nil => exact fun p h => h
 | cons c l ih => exact fun p _ => ih _ (sealStep_range p c)
theorem sealXY_range (l : List UInt8) : InRange (sealXY l) := foldl_range l _ (by unfold InRange; decide)
theorem length_sealOf (l : List UInt8) : (sealOf l).length = 4 := rfl
end Go.Proofs.YtjadmfdlggnlgaaGreatDoor
namespace Go.Proofs.YtjadmfdlggnlgaaGreatDoor
set_option linter.unusedSimpArgs false
set_option linter.unusedVariables false
set_option maxRecDepth 100000
set_option maxHeartbeats 8000000
open Go.RowKit Go.ChangeShapes Go.WideShapes Go.ChangeAt Go.Deep
structure Dev where
 sec : List ByteArray
 lost : List Bool
structure Blk where
 first : Int
 bytes : Int
structure Ent where
 name : ByteArray
 block : Int
 at_ : Int
 bytes : Int
structure Cat where
 blocks : List Blk
 entries : List Ent
structure Fil where
 name : ByteArray
 data : ByteArray
def I64 (n : Int) : Prop := -9223372036854775808 ≤ n ∧ n ≤ 9223372036854775807
abbrev Rd (α : Type) := World → List Value → α → Prop
def RStr : Rd ByteArray := fun _ cs s => cs = [.string s] ∧ s.size ≤ 140737488355328
def RBool : Rd Bool := fun _ cs b => cs = [.bool b]
def SlR {α : Type} (C bytes : Nat) (R : Rd α) (w : World) (v : Value) (l : List α) : Prop :=
 ∃ A cap, v = .slice A l.length cap ∧ l.length * bytes ≤ 140737488355328 ∧ l.length ≤ cap ∧
  (l = [] ∨ ∃ b o, A = some ⟨b, o, none⟩ ∧ ∀ (i : Nat) (hi : i < l.length), ∃ cs, cs.length = C ∧ (∀ j, j < C → w.cell? ⟨b, o + i * C + j, none⟩ = cs[j]?) ∧ R w cs l[i])
def RDev : Rd Dev := fun w cs d => ∃ v1 v2, cs = [v1, v2] ∧ SlR 1 16 RStr w v1 d.sec ∧ SlR 1 1 RBool w v2 d.lost
def RArr : Rd (List Dev) := fun w cs a => ∃ v, cs = [v] ∧ SlR 2 48 RDev w v a
def RBlk : Rd Blk := fun _ cs x => cs = [.int .i64 x.first, .int .i64 x.bytes] ∧ I64 x.first ∧ I64 x.bytes
def REnt : Rd Ent := fun _ cs x => cs = [.string x.name, .int .i64 x.block, .int .i64 x.at_, .int .i64 x.bytes] ∧ x.name.size ≤ 140737488355328 ∧ I64 x.block ∧ I64 x.at_ ∧ I64 x.bytes
def RCat : Rd Cat := fun w cs c => ∃ v1 v2, cs = [v1, v2] ∧ SlR 2 16 RBlk w v1 c.blocks ∧ SlR 4 40 REnt w v2 c.entries
def RFil : Rd Fil := fun _ cs x => cs = [.string x.name, .string x.data] ∧ x.name.size ≤ 140737488355328 ∧ x.data.size ≤ 140737488355328
def Stays {α : Type} (R : Rd α) : Prop := ∀ (w w' : World) (cs : List Value) (a : α), R w cs a → Ext w w' → R w' cs a
theorem RStr.stays : Stays RStr := fun _ _ _ _ h _ => h
theorem RBool.stays : Stays RBool := fun _ _ _ _ h _ => h
theorem SlR.ext {α : Type} {C bytes : Nat} {R : Rd α} (hR : Stays R) {w w' : World} {v : Value} {l : List α} (h : SlR C bytes R w v l) (k : Ext w w') : SlR C bytes R w' v l := by
 obtain ⟨A, cap, hv, hb, hc, h⟩ := h
 refine ⟨A, cap, hv, hb, hc, ?_⟩
 rcases h with h | ⟨b, o, hA, h⟩
 ·exact .inl h
 ·refine .inr ⟨b, o, hA, fun i hi => ?_⟩
  obtain ⟨cs, hl, hcell, hr⟩ := h i hi
  refine ⟨cs, hl, fun j hj => ?_, hR _ _ _ _ hr k⟩
  have hs : cs[j]? = some cs[j] := List.getElem?_eq_getElem (by omega)
  rw [hs]
  exact k.cell ((hcell j hj).trans hs)
theorem RDev.stays : Stays RDev := fun _ _ _ _ ⟨v1, v2, e, h1, h2⟩ k => ⟨v1, v2, e, h1.ext RStr.stays k, h2.ext RBool.stays k⟩
theorem RArr.stays : Stays RArr := fun _ _ _ _ ⟨v, e, h⟩ k => ⟨v, e, h.ext RDev.stays k⟩
theorem RBlk.stays : Stays RBlk := fun _ _ _ _ h _ => h
theorem REnt.stays : Stays REnt := fun _ _ _ _ h _ => h
theorem RCat.stays : Stays RCat := fun _ _ _ _ ⟨v1, v2, e, h1, h2⟩ k => ⟨v1, v2, e, h1.ext RBlk.stays k, h2.ext REnt.stays k⟩
theorem RFil.stays : Stays RFil := fun _ _ _ _ h _ => h
theorem RDev.up {w w' : World} {cs : List Value} {a : Dev} (h : RDev w cs a) (k : Ext w w') : RDev w' cs a := RDev.stays _ _ _ _ h k
theorem RArr.up {w w' : World} {cs : List Value} {a : List Dev} (h : RArr w cs a) (k : Ext w w') : RArr w' cs a := RArr.stays _ _ _ _ h k
theorem RCat.up {w w' : World} {cs : List Value} {a : Cat} (h : RCat w cs a) (k : Ext w w') : RCat w' cs a := RCat.stays _ _ _ _ h k
theorem SlR.row {α : Type} {bytes : Nat} {R : Rd α} {w : World} {v : Value} {l : List α} (h : SlR 1 bytes R w v l) :
  ∃ A cap, v = .slice A l.length cap ∧ l.length * bytes ≤ 140737488355328 ∧ l.length ≤ cap ∧
   ∀ (k : Nat) (_ : k < l.length), ∃ b o, A = some ⟨b, o, none⟩ ∧ ∀ (i : Nat) (hi : i < l.length), ∃ u, w.cell? ⟨b, o + i, none⟩ = some u ∧ R w [u] l[i] := by
 obtain ⟨A, cap, hv, hb, hc, h⟩ := h
 refine ⟨A, cap, hv, hb, hc, fun k hk => ?_⟩
 rcases h with h | ⟨b, o, hA, h⟩
 ·subst h; exact absurd hk (by simp)
 ·refine ⟨b, o, hA, fun i hi => ?_⟩
  obtain ⟨cs, hl, hcell, hr⟩ := h i hi
  match cs, hl with
  | [u], _ =>
   have := hcell 0 (by omega)
   exact ⟨u, by simpa using this, hr⟩
section
variable {H : Type} {enc : TypeId × Value → H} {P : Program} {w : World} {spare : Nat → Bool}
def Opens (H : Type) (enc : TypeId × Value → H) (P : Program) (w : World) (spare : Nat → Bool) {α : Type} (t : TypeId) (R : Rd α) : Prop :=
 ∀ fuel cs x, DataW.trod enc P w 0 spare true fuel t cs = some x → (∀ n ∈ x.1.weights P t, n ≤ reachBytes) → ∃ a, R w cs a
theorem opens_bool {t : TypeId} (ht : P.underlying t = some .bool) : Opens H enc P w spare t RBool := by
 intro fuel cs x h _
 obtain ⟨n, hc, hx⟩ := DataW.trod_bool ht h
 exact ⟨n, hc⟩
theorem opens_string {t : TypeId} (ht : P.underlying t = some .string) : Opens H enc P w spare t RStr := by
 intro fuel cs x h hz
 obtain ⟨s, hc, hx, hs⟩ := DataW.trod_string ht h
 subst hx
 have := hz s.data.toList.length (by simp [DataW.weights])
 refine ⟨s, hc, ?_⟩
 rw [show s.data.toList.length = s.size from length_lst s] at this
 exact Nat.le_trans this (by decide)
theorem weightsAll_mem {e : TypeId} : ∀ {ds : List (DataW H)} {d : DataW H}, d ∈ ds → ∀ n ∈ d.weights P e, n ∈ DataW.weightsAll P e ds
 | _ :: _, _, .head _, n, hn => by simp only [DataW.weightsAll, List.mem_append]; exact .inl hn
 | _ :: _, _, .tail _ h, n, hn => by simp only [DataW.weightsAll, List.mem_append]; exact .inr (weightsAll_mem h n hn)
theorem list_of {α : Type} : ∀ (n : Nat) {p : Nat → α → Prop}, (∀ i, i < n → ∃ a, p i a) → ∃ l : List α, l.length = n ∧ ∀ (i : Nat) (hi : i < l.length), p i l[i]
 | 0, _, _ => ⟨[], rfl, fun i hi => absurd hi (by simp)⟩
 | n + 1, p, h => by
  obtain ⟨a, ha⟩ := h 0 (by omega)
  obtain ⟨l, hl, hp⟩ := list_of n (p := fun i a => p (i + 1) a) (fun i hi => h (i + 1) (by omega))
  refine ⟨a :: l, by simp [hl], fun i hi => ?_⟩
  cases i with
  | zero => exact ha
  | succ i => exact hp i (by simpa using hi)
theorem opens_slice {α : Type} {R : Rd α} {t e : TypeId} {C bytes : Nat} (ht : P.underlying t = some (.slice e)) (hC : P.cellsOf e = C) (hC0 : 0 < C) (hby : P.bytesOf e = bytes) (he : Opens H enc P w spare e R) :
  Opens H enc P w spare t (fun w cs (l : List α) => ∃ v, cs = [v] ∧ SlR C bytes R w v l) := by
 intro fuel cs x h hz
 rcases open_slice ht h with ⟨rfl, rfl⟩ | ⟨a, len, cap, m, n, D, Pl, hcs, hb, hl, hm, hmm, hx, hi⟩
 ·exact ⟨[], _, rfl, none, 0, rfl, by simp, by simp, .inl rfl⟩
 ·subst hx
  have hmle : len ≤ m := by rw [hmm]; split <;> omega
  have hlen : len * bytes ≤ reachBytes := by
   have h1 := hz (((List.range len).map D).length + ((List.range (m - len)).map fun j => D (len + j)).length |> (· * P.bytesOf e)) (by simp [DataW.weights, ht])
   simp only [List.length_map, List.length_range, hby] at h1
   have h2 : len * bytes ≤ (len + (m - len)) * bytes := Nat.mul_le_mul_right _ (by omega)
   omega
  have hel : ∀ i, i < len → ∃ y : α, ∃ cs, cs.length = C ∧ (∀ j, j < C → w.cell? ((a.add (i * C)).add j) = cs[j]?) ∧ R w cs y := by
   intro i hil
   obtain ⟨cs', hc, ht'⟩ := hi i (by omega)
   rw [hC] at hc
   obtain ⟨_, hcl, hat⟩ := World.cells?_some hc
   obtain ⟨y, hy⟩ := he n cs' (D i, Pl i) ht' (fun k hk => hz k (by
    simp only [DataW.weights, ht, List.mem_cons, List.mem_append]
    exact .inr (.inl (weightsAll_mem (List.mem_map.2 ⟨i, List.mem_range.2 hil, rfl⟩) k hk))))
   exact ⟨y, cs', hcl, hat, hy⟩
  obtain ⟨l, hll, hp⟩ := list_of len hel
  refine ⟨l, _, hcs, some a, cap, by rw [hll], by rw [hll]; exact Nat.le_trans hlen (by decide), by rw [hll]; exact hl, ?_⟩
  by_cases h0 : len = 0
  ·exact .inl (List.eq_nil_of_length_eq_zero (by omega))
  ·right
   obtain ⟨b, o, sp⟩ := a
   have hsp : sp = none := by
    obtain ⟨cs0, hl0, hc0, _⟩ := hp 0 (by omega)
    have := hc0 0 hC0
    rw [List.getElem?_eq_getElem (by omega)] at this
    cases sp with
    | none => rfl
    | some q => simp [World.cell?, Addr.add] at this; split at this <;> simp_all
   subst hsp
   refine ⟨b, o, rfl, fun i hi' => ?_⟩
   obtain ⟨cs', h1, h2, h3⟩ := hp i hi'
   refine ⟨cs', h1, fun j hj => ?_, h3⟩
   rw [← h2 j hj, Addr.add_lit, Addr.add_lit]
theorem opens_fields {t : TypeId} {fs : Array Field} (ht : P.underlying t = some (.struct fs)) {fuel : Nat} {cs : List Value} {x : DataW H × List MemPlace}
  (h : DataW.trod enc P w 0 spare true fuel t cs = some x) (hz : ∀ n ∈ x.1.weights P t, n ≤ reachBytes) :
  cs.length = P.cellsOf t ∧ ∀ (i : Nat) (f : Field), fs[i]? = some f → ∃ n y, DataW.trod enc P w 0 spare true n f.type ((cs.drop f.offset).take (P.cellsOf f.type)) = some y ∧ (∀ k ∈ y.1.weights P f.type, k ≤ reachBytes) := by
 obtain ⟨xs, n, _, hx, hlen, hxl, hf⟩ := DataW.trod_struct ht h
 refine ⟨hlen, fun i f hi => ?_⟩
 have hil : i < fs.size := (Array.getElem?_eq_some_iff.1 hi).1
 have hxi : xs[i]? = some (xs[i]'(by omega)) := List.getElem?_eq_getElem (by omega)
 refine ⟨n, xs[i]'(by omega), by rw [hf i f hi, hxi], fun k hk => hz k ?_⟩
 subst hx
 simp only [DataW.weights, ht]
 refine DataW.weights_mem_each (j := i) (t := f.type) (d := (xs[i]'(by omega)).1) ?_ ?_ k hk
 ·simp only [List.getElem?_map, Array.getElem?_toList, hi]; rfl
 ·simp only [List.getElem?_map, hxi]; rfl
end
end Go.Proofs.YtjadmfdlggnlgaaGreatDoor
namespace Go.Proofs.YtjadmfdlggnlgaaGreatDoor
set_option linter.unusedSimpArgs false
set_option linter.unusedVariables false
set_option maxRecDepth 100000
set_option maxHeartbeats 8000000
def ioChars : List Char := [Char.ofNat 104, Char.ofNat 97, Char.ofNat 114, Char.ofNat 110, Char.ofNat 101, Char.ofNat 115, Char.ofNat 115, Char.ofNat 32, Char.ofNat 55, Char.ofNat 57, Char.ofNat 57, Char.ofNat 99, Char.ofNat 54, Char.ofNat 56, Char.ofNat 101, Char.ofNat 57, Char.ofNat 51, Char.ofNat 55, Char.ofNat 53, Char.ofNat 56, Char.ofNat 56, Char.ofNat 54, Char.ofNat 56, Char.ofNat 48, Char.ofNat 101, Char.ofNat 100, Char.ofNat 57, Char.ofNat 56, Char.ofNat 102, Char.ofNat 54, Char.ofNat 50, Char.ofNat 98, Char.ofNat 57, Char.ofNat 98, Char.ofNat 50, Char.ofNat 54, Char.ofNat 98, Char.ofNat 98, Char.ofNat 51, Char.ofNat 48, Char.ofNat 101, Char.ofNat 53, Char.ofNat 57, Char.ofNat 100, Char.ofNat 100, Char.ofNat 102, Char.ofNat 57, Char.ofNat 101, Char.ofNat 52, Char.ofNat 102, Char.ofNat 101, Char.ofNat 52, Char.ofNat 56, Char.ofNat 53, Char.ofNat 52, Char.ofNat 99, Char.ofNat 99, Char.ofNat 50, Char.ofNat 102, Char.ofNat 57, Char.ofNat 99, Char.ofNat 98, Char.ofNat 56, Char.ofNat 55, Char.ofNat 49, Char.ofNat 53, Char.ofNat 50, Char.ofNat 99, Char.ofNat 51, Char.ofNat 97, Char.ofNat 49, Char.ofNat 97, Char.ofNat 32, Char.ofNat 99, Char.ofNat 117, Char.ofNat 116, Char.ofNat 32, Char.ofNat 97, Char.ofNat 116, Char.ofNat 32, Char.ofNat 97, Char.ofNat 114, Char.ofNat 114, Char.ofNat 97, Char.ofNat 115, Char.ofNat 47, Char.ofNat 97, Char.ofNat 114, Char.ofNat 114, Char.ofNat 97, Char.ofNat 115, Char.ofNat 108, Char.ofNat 97, Char.ofNat 119, Char.ofNat 46, Char.ofNat 65, Char.ofNat 114, Char.ofNat 99, Char.ofNat 104, Char.ofNat 105, Char.ofNat 118, Char.ofNat 101, Char.ofNat 65, Char.ofNat 100, Char.ofNat 100, Char.ofNat 115]
theorem io_eq : Tryz.prog.initOrder = String.ofList ioChars := by kernel_rfl
theorem io_list : Tryz.prog.initOrder.toList = ioChars := by rw [io_eq, String.toList_ofList]
theorem words_ : behindMainWord (wordsSigns ioChars) = [[Char.ofNat 99, Char.ofNat 117, Char.ofNat 116]] ++ (wordsSigns ioChars).drop 3 := by kernel_rfl
theorem words_at : behindMainWord (wordsSigns Tryz.prog.initOrder.toList) = [[Char.ofNat 99, Char.ofNat 117, Char.ofNat 116]] ++ (wordsSigns ioChars).drop 3 := by rw [io_list]; exact words_
theorem later_ : Tryz.prog.laysLater = false := by kernel_rfl
theorem reflect_ : Tryz.prog.bearsReflect = false := by kernel_rfl
theorem fits_ : Tryz.prog.doorFits [] = true := by kernel_rfl
theorem make_gen {P : Program} {rest : List (List Char)} (h : behindMainWord (wordsSigns P.initOrder.toList) = [[Char.ofNat 99, Char.ofNat 117, Char.ofNat 116]] ++ rest) : P.make = some .cut := by
 unfold Program.make
 rw [h]
 simp only [List.singleton_append]
 rw [if_neg (by decide), if_pos (by rw [show (([Char.ofNat 99, Char.ofNat 117, Char.ofNat 116] : List Char) == "cut".toList) = true from by decide]; rfl)]
theorem strip_gen (rest : List (List Char)) : stripLifts liftWords ([Char.ofNat 99, Char.ofNat 117, Char.ofNat 116] :: rest) = ([], [Char.ofNat 99, Char.ofNat 117, Char.ofNat 116] :: rest) := by kernel_rfl
theorem headLifts_gen {P : Program} {rest : List (List Char)} (h : behindMainWord (wordsSigns P.initOrder.toList) = [[Char.ofNat 99, Char.ofNat 117, Char.ofNat 116]] ++ rest) : P.headLifts = [] := by
 unfold Program.headLifts
 rw [h, List.singleton_append, strip_gen]
 dsimp only
 split <;> rfl
theorem liftsFinal_gen {P : Program} {rest : List (List Char)} (h : behindMainWord (wordsSigns P.initOrder.toList) = [[Char.ofNat 99, Char.ofNat 117, Char.ofNat 116]] ++ rest) : P.liftsFinal = false := by
 unfold Program.liftsFinal
 rw [h, headLifts_gen h, List.singleton_append]
 dsimp only
 rw [List.head?_cons, show (some [Char.ofNat 99, Char.ofNat 117, Char.ofNat 116] == some "carried".toList) = false from by decide]
 rfl
theorem mayEnter_gen {P : Program} {rest : List (List Char)} (h : behindMainWord (wordsSigns P.initOrder.toList) = [[Char.ofNat 99, Char.ofNat 117, Char.ofNat 116]] ++ rest)
  (h1 : P.laysLater = false) (h2 : P.bearsReflect = false) (h3 : P.doorFits [] = true) : P.mayEnter = true := by
 unfold Program.mayEnter
 rw [h, List.singleton_append]
 dsimp only
 rw [strip_gen]
 dsimp only
 rw [h1, h2, h3]
 first | kernel_rfl | exact rfl
theorem mayEnter_ : Tryz.prog.mayEnter = true := mayEnter_gen words_at later_ reflect_ fits_
theorem liftsFinal_ : Tryz.prog.liftsFinal = false := liftsFinal_gen words_at
theorem make_ : Tryz.prog.make = some .cut := make_gen words_at
theorem laidOut : laidOutB Tryz.prog = true := by kernel_rfl
theorem mapsRowed_ : mapsRowed Tryz.prog = true := by kernel_rfl
theorem stopsHeard_ : Tryz.prog.stopsHeard = true := by kernel_rfl
theorem plainKeys_ : Tryz.prog.plainKeys = true := by kernel_rfl
theorem stops_ : Tryz.prog.stops = [] := by kernel_rfl
theorem knobs_ : Tryz.prog.stopKnobs = [] := by kernel_rfl
theorem joined_mk {P : Program} {f : FuncId} {fn : Func} {s : ChangeSpec} {c : OpenClaim}
  (l1 : laidOutB P = true) (l2 : mapsRowed P = true) (l3 : P.stopsHeard = true) (l4 : P.plainKeys = true) (l5 : P.stops = []) (l6 : P.stopKnobs = []) (l7 : P.mayEnter = true) (l8 : P.liftsFinal = false) (l9 : P.make = some .cut)
  (r1 : c.inPlace = P.inPlace f) (r2 : c.unfollowed = P.unfollowed f) (r3 : c.recurses = P.recurses f) (r4 : c.named = P.varsNamed f)
  (q1 : (c.wf (OpenSpec.ofChange s) && fn.params.all (P.readableRec ·) && namedTie P c.named s.vars && (c.stops == []) && (c.knobs == []) && (c.plainKeys == true) && (c.lifted == false) && (some .cut == some c.make)) = true)
  (q2 : (c.maps == (fn.params.toList ++ s.plain.varTypes P).any (P.mapsRec ·)) = true) (q3 : (c.ifaces == (fn.params.toList ++ s.plain.varTypes P).any (P.ifacesRec ·)) = true) (q4 : (c.mapsOut == P.mapsAmong fn.resultTypes.toList) = true)
  (q5 : (c.loops == (fn.params.toList ++ s.plain.varTypes P).any (P.loopsFrom ·)) = true) (q6 : (c.wideKeys == (fn.params.toList ++ s.plain.varTypes P ++ fn.resultTypes.toList).any (P.wideKeysFrom ·)) = true)
  (q7 : (s.vars.all (P.varReadable ·) && fn.resultTypes.all (fun t => P.readableRec t && decide (t < P.types.size)) && (c.ifacesOut == fn.resultTypes.toList.any (P.ifacesRec ·)) && (c.loopsOut == fn.resultTypes.toList.any (P.loopsFrom ·)) && c.shortTexts.isNone) = true)
  (q8 : c.domain = []) (q8' : c.kinds = []) (q9 : (c.pinned == c.pinnedBy) = true)
  (q10 : (c.veiled == (fn.params.toList ++ s.plain.varTypes P ++ fn.resultTypes.toList).any (P.veiledRec ·)) = true)
  (q11 : c.veiledFits P fn.params.toList (fn.params.toList ++ s.plain.varTypes P ++ fn.resultTypes.toList) = true) : joinedFacts P f fn s c = true := by
 simp only [Bool.and_eq_true] at q1 q7
 obtain ⟨⟨⟨⟨⟨⟨⟨w1, w2⟩, w3⟩, w4⟩, w5⟩, w6⟩, w7⟩, w8⟩ := q1
 obtain ⟨⟨⟨⟨v1, v2⟩, v3⟩, v4⟩, v5⟩ := q7
 unfold joinedFacts
 rw [l1, l2, l3, l4, l5, l6, l7, l8, l9, w1, w2, w3, w4, w5, w6, w7, w8, q2, q3, q4, q5, q6, v1, v2, v3, v4, v5, q9, q10, q11]
 simp [r1, r2, r3, r4, q8, q8']
end Go.Proofs.YtjadmfdlggnlgaaGreatDoor
namespace Go.Proofs.YtjadmfdlggnlgaaGreatDoor
set_option linter.unusedSimpArgs false
set_option linter.unusedVariables false
set_option maxRecDepth 100000
set_option maxHeartbeats 8000000
open Go.RowKit Go.ChangeShapes Go.WideShapes Go.ChangeAt Go.Deep
theorem own : ownKnob Tryz.prog.godebug = none := by kernel_rfl
section
variable {H : Type} {enc : TypeId × Value → H} {P : Program}
theorem trodAll_stays (hl : laidOutB P = true) {W W' : World} (hb : Below W.heap.size W W') : ∀ {ts : List TypeId} {vs : List Value} {ds : List (DataW H)} {ps : List MemPlace},
  ts.all (fun t => P.readableRec t && decide (t < P.types.size)) = true → DataW.TrodAll enc P W 0 (fun _ => true) true ts vs ds ps → (∀ x ∈ ps, x.block < W.heap.size) →
  DataW.TrodAll enc P W' 0 (fun b => decide (b < W.heap.size)) true ts vs ds ps
 | [], [], [], _, _, h, _ => h
 | t :: ts, v :: vs, d :: ds, _, hr, ⟨p, q, h1, h2, e⟩, hlt => by
  simp only [List.all_cons, Bool.and_eq_true, decide_eq_true_eq] at hr
  subst e
  exact ⟨p, q, Below.trod hl hr.1.1 hr.1.2 h1 hb (fun x hx => hlt x (List.mem_append.2 (.inl hx))), trodAll_stays hl hb (by simpa using hr.2) h2 (fun x hx => hlt x (List.mem_append.2 (.inr hx))), rfl⟩
 | [], [], _ :: _, _, _, h, _ => h.elim
 | [], _ :: _, _, _, _, h, _ => by cases h
 | _ :: _, [], _, _, _, h, _ => by cases h
 | _ :: _, _ :: _, [], _, _, h, _ => by cases h
theorem law_post {f : Func} {s : ChangeSpec} {W W' : World} {args : Array Value} {ds gs : List (DataW H)} {before : List MemPlace} {tb : TypeId}
  (hl : laidOutB P = true) (hvars : s.vars = []) (hr : f.params.toList.all (fun t => P.readableRec t && decide (t < P.types.size)) = true)
  (hres : f.resultTypes = #[tb]) (htb : P.underlying tb = some .bool)
  (hspec : s.fn H (ds ++ gs) = { results := [.lit (.bool true)], args := ds })
  (hW : DataW.Whole enc P f.params.toList s.vars false W args.toList ds gs before) (hx : Ext W W') :
  s.post enc P f false true false false W args (.bool true) W' := by
 have hlt := hW.lt
 have hW' := hW
 obtain ⟨p, q, hA, hV, hpq, hfz, hnd⟩ := hW
 rw [hvars] at hV
 obtain ⟨rfl, rfl⟩ := trodVars_none hV
 rw [List.append_nil] at hpq
 subst hpq
 refine ⟨ds, [], before, [], before, [], hW', ?_, ?_, ?_, ?_, fun h => by cases h⟩
 ·rw [hspec, hres]
  exact trodAll_mk1 (shut_bool htb true)
 ·rw [hspec]
  exact trodAll_stays hl hx.below hr hA hlt
 ·rw [hspec, hvars]
  rfl
 ·exact hx.below.frame _
end
section
variable {H : Type} {enc : TypeId × Value → H} {P : Program} {W : World} {base : Nat} {t : TypeId} {v : Value} {d : DataW H} {ps : List MemPlace}
theorem param_struct {α : Type} {R : Rd α} {fs : Array Field} (ho : Opens H enc P W (fun _ => true) t R) (ht : P.underlying t = some (.struct fs)) (hv : Value.okWide P W .any base t v)
  (h : DataW.Trod enc P W 0 (fun _ => true) true t v d ps) (hz : ∀ n ∈ d.weights P t, n ≤ reachBytes) : ∃ (cs : List Value) (a : α), v = .agg cs.toArray ∧ R W cs a := by
 obtain ⟨cs, rfl, _⟩ := okWide_struct ht hv
 obtain ⟨fuel, h⟩ := h
 obtain ⟨a, ha⟩ := ho fuel _ (d, ps) h hz
 exact ⟨_, a, rfl, ha⟩
theorem param_slice {α : Type} {R : Rd α} {e : TypeId} {C bytes : Nat} (ht : P.underlying t = some (.slice e)) (ho : Opens H enc P W (fun _ => true) t (fun w cs (l : List α) => ∃ v, cs = [v] ∧ SlR C bytes R w v l))
  (hv : Value.okWide P W .any base t v) (h : DataW.Trod enc P W 0 (fun _ => true) true t v d ps) (hz : ∀ n ∈ d.weights P t, n ≤ reachBytes) : ∃ l : List α, SlR C bytes R W v l := by
 obtain ⟨A, len, cap, rfl⟩ := okWide_slice ht hv
 obtain ⟨fuel, h⟩ := h
 obtain ⟨a, v', hv', ha⟩ := ho fuel _ (d, ps) h hz
 simp only [Value.cells, List.cons.injEq, and_true] at hv'
 subst hv'
 exact ⟨a, ha⟩
end
theorem weights_each {H : Type} {P : Program} {ts : List TypeId} {ds : List (DataW H)} (h : (DataW.weightsEach P ts ds).all (· ≤ reachBytes) = true) (j : Nat) {t : TypeId} {d : DataW H} (ht : ts[j]? = some t) (hd : ds[j]? = some d) :
  ∀ n ∈ d.weights P t, n ≤ reachBytes := fun n hn => by
 have := List.all_eq_true.1 h n (DataW.weights_mem_each ht hd n hn)
 simpa using this
theorem len1 {α : Type} {l : List α} (h : l.length = 1) : ∃ a, l = [a] := by
 match l, h with
 | [a], _ => exact ⟨a, rfl⟩
theorem len2 {α : Type} {l : List α} (h : l.length = 2) : ∃ a b, l = [a, b] := by
 match l, h with
 | [a, b], _ => exact ⟨a, b, rfl⟩
section
variable {H : Type} {enc : TypeId × Value → H} {w : World} {spare : Nat → Bool}
theorem opensStrs : Opens H enc Tryz.prog w spare 32 (fun w cs (l : List ByteArray) => ∃ v, cs = [v] ∧ SlR 1 16 RStr w v l) :=
 opens_slice Tryz.underlying32 (by kernel_rfl) (by decide) (by kernel_rfl) (opens_string Tryz.underlying9)
theorem opensBools : Opens H enc Tryz.prog w spare 33 (fun w cs (l : List Bool) => ∃ v, cs = [v] ∧ SlR 1 1 RBool w v l) :=
 opens_slice Tryz.underlying33 (by kernel_rfl) (by decide) (by kernel_rfl) (opens_bool Tryz.underlying4)
theorem opensDev : Opens H enc Tryz.prog w spare 35 RDev := by
 intro fuel cs x h hz
 obtain ⟨hlen, hf⟩ := opens_fields Tryz.underlying35 h hz
 rw [show Tryz.prog.cellsOf 35 = 2 by kernel_rfl] at hlen
 obtain ⟨n0, y0, t0', z0'⟩ := hf 0 _ rfl
 have t0 : DataW.trod enc Tryz.prog w 0 spare true n0 32 ((cs.drop 0).take (Tryz.prog.cellsOf 32)) = some y0 := t0'
 have z0 : ∀ k ∈ y0.1.weights Tryz.prog 32, k ≤ reachBytes := z0'
 clear t0' z0'
 rw [show Tryz.prog.cellsOf 32 = 1 by kernel_rfl] at t0
 obtain ⟨n1, y1, t1', z1'⟩ := hf 1 _ rfl
 have t1 : DataW.trod enc Tryz.prog w 0 spare true n1 33 ((cs.drop 1).take (Tryz.prog.cellsOf 33)) = some y1 := t1'
 have z1 : ∀ k ∈ y1.1.weights Tryz.prog 33, k ≤ reachBytes := z1'
 clear t1' z1'
 rw [show Tryz.prog.cellsOf 33 = 1 by kernel_rfl] at t1
 obtain ⟨u0, u1, rfl⟩ := len2 hlen
 clear hf h hz
 obtain ⟨a0, r0⟩ := opensStrs n0 _ y0 t0 z0
 obtain ⟨a1, r1⟩ := opensBools n1 _ y1 t1 z1
 obtain ⟨w0, e0, r0⟩ := r0
 obtain ⟨w1, e1, r1⟩ := r1
 refine ⟨⟨a0, a1⟩, w0, w1, ?_, r0, r1⟩
 have e0' : u0 = w0 := by simpa using e0
 have e1' : u1 = w1 := by simpa using e1
 rw [e0', e1']
theorem opensDevs : Opens H enc Tryz.prog w spare 22 (fun w cs (l : List Dev) => ∃ v, cs = [v] ∧ SlR 2 48 RDev w v l) :=
 opens_slice Tryz.underlying22 (by kernel_rfl) (by decide) (by kernel_rfl) opensDev
theorem opensArr : Opens H enc Tryz.prog w spare 24 RArr := by
 intro fuel cs x h hz
 obtain ⟨hlen, hf⟩ := opens_fields Tryz.underlying24 h hz
 rw [show Tryz.prog.cellsOf 24 = 1 by kernel_rfl] at hlen
 obtain ⟨n0, y0, t0', z0'⟩ := hf 0 _ rfl
 have t0 : DataW.trod enc Tryz.prog w 0 spare true n0 22 ((cs.drop 0).take (Tryz.prog.cellsOf 22)) = some y0 := t0'
 have z0 : ∀ k ∈ y0.1.weights Tryz.prog 22, k ≤ reachBytes := z0'
 clear t0' z0'
 rw [show Tryz.prog.cellsOf 22 = 1 by kernel_rfl] at t0
 obtain ⟨u0, rfl⟩ := len1 hlen
 clear hf h hz
 obtain ⟨a0, r0⟩ := opensDevs n0 _ y0 t0 z0
 obtain ⟨w0, e0, r0⟩ := r0
 exact ⟨a0, w0, by simpa using e0, r0⟩
theorem opensFil : Opens H enc Tryz.prog w spare 51 RFil := by
 intro fuel cs x h hz
 obtain ⟨hlen, hf⟩ := opens_fields Tryz.underlying51 h hz
 rw [show Tryz.prog.cellsOf 51 = 2 by kernel_rfl] at hlen
 obtain ⟨n0, y0, t0', z0'⟩ := hf 0 _ rfl
 have t0 : DataW.trod enc Tryz.prog w 0 spare true n0 9 ((cs.drop 0).take (Tryz.prog.cellsOf 9)) = some y0 := t0'
 have z0 : ∀ k ∈ y0.1.weights Tryz.prog 9, k ≤ reachBytes := z0'
 clear t0' z0'
 rw [show Tryz.prog.cellsOf 9 = 1 by kernel_rfl] at t0
 obtain ⟨n1, y1, t1', z1'⟩ := hf 1 _ rfl
 have t1 : DataW.trod enc Tryz.prog w 0 spare true n1 9 ((cs.drop 1).take (Tryz.prog.cellsOf 9)) = some y1 := t1'
 have z1 : ∀ k ∈ y1.1.weights Tryz.prog 9, k ≤ reachBytes := z1'
 clear t1' z1'
 rw [show Tryz.prog.cellsOf 9 = 1 by kernel_rfl] at t1
 obtain ⟨u0, u1, rfl⟩ := len2 hlen
 clear hf h hz
 obtain ⟨a0, r0⟩ := (opens_string Tryz.underlying9) n0 _ y0 t0 z0
 obtain ⟨a1, r1⟩ := (opens_string Tryz.underlying9) n1 _ y1 t1 z1
 obtain ⟨e0, r0⟩ := r0
 obtain ⟨e1, r1⟩ := r1
 refine ⟨⟨a0, a1⟩, ?_, r0, r1⟩
 have e0' : u0 = .string a0 := by simpa using e0
 have e1' : u1 = .string a1 := by simpa using e1
 rw [e0', e1']
theorem opensFiles : Opens H enc Tryz.prog w spare 25 (fun w cs (l : List Fil) => ∃ v, cs = [v] ∧ SlR 2 32 RFil w v l) :=
 opens_slice Tryz.underlying25 (by kernel_rfl) (by decide) (by kernel_rfl) opensFil
end
end Go.Proofs.YtjadmfdlggnlgaaGreatDoor
namespace Go.Proofs.YtjadmfdlggnlgaaGreatDoor
set_option linter.unusedSimpArgs false
set_option linter.unusedVariables false
set_option maxRecDepth 100000
set_option maxHeartbeats 8000000
open Go.RowKit
def encStr (s : ByteArray) : List Value := [.string s]
def encBool (b : Bool) : List Value := [.bool b]
def encByte (c : UInt8) : List Value := [.int .u8 c.toNat]
def encBlk (x : Blk) : List Value := [.int .i64 x.first, .int .i64 x.bytes]
def encEnt (x : Ent) : List Value := [.string x.name, .int .i64 x.block, .int .i64 x.at_, .int .i64 x.bytes]
def encFil (x : Fil) : List Value := [.string x.name, .string x.data]
structure Enc {α : Type} (C : Nat) (R : Rd α) (enc : α → List Value) : Prop where
 len : ∀ a, (enc a).length = C
 cs : ∀ w cs a, R w cs a → cs = enc a
 w : ∀ w w' cs a, R w cs a → R w' cs a
 one : ∀ a, ∀ u ∈ enc a, u.oneCell' = true
theorem encStr_ok : Enc 1 RStr encStr := ⟨fun _ => rfl, fun _ _ _ h => h.1, fun _ _ _ _ h => h, fun _ u h => by simp [encStr] at h; subst h; rfl⟩
theorem encBool_ok : Enc 1 RBool encBool := ⟨fun _ => rfl, fun _ _ _ h => h, fun _ _ _ _ h => h, fun _ u h => by simp [encBool] at h; subst h; rfl⟩
theorem encBlk_ok : Enc 2 RBlk encBlk := ⟨fun _ => rfl, fun _ _ _ h => h.1, fun _ _ _ _ h => h, fun _ u h => by simp [encBlk] at h; rcases h with h | h <;> subst h <;> rfl⟩
theorem encEnt_ok : Enc 4 REnt encEnt := ⟨fun _ => rfl, fun _ _ _ h => h.1, fun _ _ _ _ h => h, fun _ u h => by simp [encEnt] at h; rcases h with h | h | h | h <;> subst h <;> rfl⟩
theorem encFil_ok : Enc 2 RFil encFil := ⟨fun _ => rfl, fun _ _ _ h => h.1, fun _ _ _ _ h => h, fun _ u h => by simp [encFil] at h; rcases h with h | h <;> subst h <;> rfl⟩
theorem flatMap_at {α : Type} {C : Nat} {enc : α → List Value} (hl : ∀ a, (enc a).length = C) : ∀ (l : List α) (i j : Nat) (hi : i < l.length), j < C → (l.flatMap enc)[i * C + j]? = (enc l[i])[j]?
 | a :: l, 0, j, _, hj => by
  rw [Nat.zero_mul, Nat.zero_add, List.flatMap_cons, List.getElem?_append_left (by rw [hl]; exact hj)]
  rfl
 | a :: l, i + 1, j, hi, hj => by
  rw [List.flatMap_cons, List.getElem?_append_right (by rw [hl, Nat.add_mul]; omega), hl, show (i + 1) * C + j - C = i * C + j by rw [Nat.add_mul]; omega]
  exact flatMap_at hl l i j (by simpa using hi) hj
theorem length_flatMap {α : Type} {C : Nat} {enc : α → List Value} (hl : ∀ a, (enc a).length = C) (l : List α) : (l.flatMap enc).length = l.length * C := by
 induction l with
 | nil => simp
 | cons a l ih => rw [List.flatMap_cons, List.length_append, hl, ih, List.length_cons, Nat.add_mul]; omega
theorem own_slice {w : World} {base : Nat} {e : TypeId} {size : Nat} {v : Value} {n : Nat} {xs : List Value} (h : w.ownsRow base e size v n xs) : ∃ A c, v = .slice A n c := by
 rcases h.2 with ⟨hv, hn⟩ | ⟨g, cap, cur, hv, _⟩
 ·exact ⟨none, 0, by rw [hv, hn]⟩
 ·exact ⟨_, _, hv⟩
theorem own_len {w : World} {base : Nat} {e : TypeId} {size : Nat} {v : Value} {n n' : Nat} {xs : List Value} (hn : n = n') (h : w.ownsRow base e size v n xs) : w.ownsRow base e size v n' xs := hn ▸ h
theorem own_ext {w w' : World} {base : Nat} {e : TypeId} {size : Nat} {v : Value} {n : Nat} {xs : List Value} (h : w.ownsRow base e size v n xs) (k : Ext w w') : w'.ownsRow base e size v n xs := by
 refine ⟨h.1, ?_⟩
 rcases h.2 with h | ⟨g, cap, cur, hv, hb, hg, r⟩
 ·exact .inl h
 ·exact .inr ⟨g, cap, cur, hv, hb, (k.below.block g (Array.getElem?_eq_some_iff.1 hg).1).trans hg, r⟩
theorem own_base {w : World} {base base' : Nat} {e : TypeId} {size : Nat} {v : Value} {n : Nat} {xs : List Value} (h : w.ownsRow base e size v n xs) (k : base' ≤ base) : w.ownsRow base' e size v n xs := by
 refine ⟨h.1, ?_⟩
 rcases h.2 with h | ⟨g, cap, cur, hv, hb, r⟩
 ·exact .inl h
 ·exact .inr ⟨g, cap, cur, hv, Nat.le_trans k hb, r⟩
theorem SlR.of_own {α : Type} {C bytes : Nat} {R : Rd α} {enc : α → List Value} (he : Enc C R enc) {w : World} {base : Nat} {e : TypeId} {v : Value} {l : List α}
  (h : w.ownsRow base e C v l.length (l.flatMap enc)) (hb : l.length * bytes ≤ 140737488355328) (hR : ∀ a ∈ l, R w (enc a) a) : SlR C bytes R w v l := by
 obtain ⟨hlen, h⟩ := h
 rcases h with ⟨hv, hn⟩ | ⟨g, cap, cur, hv, _, hg, hnc, _, hcs, htake⟩
 ·have : l = [] := List.eq_nil_of_length_eq_zero hn
  subst this
  exact ⟨none, 0, by rw [hv]; rfl, by simp, by simp, .inl rfl⟩
 ·refine ⟨some ⟨g, 0, none⟩, cap, hv, hb, hnc, ?_⟩
  by_cases h0 : l = []
  ·exact .inl h0
  ·refine .inr ⟨g, 0, rfl, fun i hi => ⟨enc l[i], he.len _, fun j hj => ?_, hR _ (List.getElem_mem hi)⟩⟩
   rw [← flatMap_at he.len l i j hi hj, Nat.zero_add, cell_of_row w g (i * C + j) cur e (0, 0) hg, ← htake, List.getElem?_take, if_pos]
   ·simp
   ·have : (i + 1) * C ≤ l.length * C := Nat.mul_le_mul_right _ hi
    rw [Nat.add_mul] at this
    omega
theorem SlR.cells {α : Type} {C bytes : Nat} {R : Rd α} {enc : α → List Value} (he : Enc C R enc) (hC : 0 < C) {w : World} {v : Value} {l : List α} (h : SlR C bytes R w v l) :
  ∃ A cap, v = .slice A l.length cap ∧ l.length * bytes ≤ 140737488355328 ∧ l.length ≤ cap ∧ (l = [] ∨ ∃ b o, A = some ⟨b, o, none⟩ ∧ (∀ (j : Nat) (u : Value), (l.flatMap enc)[j]? = some u → w.cell? ((⟨b, o, none⟩ : Addr).add j) = some u) ∧ ∀ a ∈ l, R w (enc a) a) := by
 obtain ⟨A, cap, hv, hb, hc, h⟩ := h
 refine ⟨A, cap, hv, hb, hc, ?_⟩
 rcases h with h | ⟨b, o, hA, h⟩
 ·exact .inl h
 ·refine .inr ⟨b, o, hA, fun j u hj => ?_, fun a ha => ?_⟩
  ·have hlt : j < l.length * C := by rw [← length_flatMap he.len]; exact (List.getElem?_eq_some_iff.1 hj).1
   have hi : j / C < l.length := Nat.div_lt_of_lt_mul (by rwa [Nat.mul_comm])
   obtain ⟨cs, hl, hcell, hr⟩ := h (j / C) hi
   have hcs := he.cs _ _ _ hr
   have hm : j % C < C := Nat.mod_lt _ hC
   have hd : j / C * C + j % C = j := by rw [Nat.mul_comm]; exact Nat.div_add_mod j C
   have h2 := flatMap_at he.len l (j / C) (j % C) hi hm
   have h3 := hcell (j % C) hm
   rw [hd] at h2
   rw [Addr.add_lit, ← hj, h2, ← hcs, ← h3]
   congr 2
   omega
  ·obtain ⟨i, hi, rfl⟩ := List.mem_iff_getElem.1 ha
   obtain ⟨cs, _, _, hr⟩ := h i hi
   rw [he.cs _ _ _ hr] at hr
   exact hr
theorem SlR.rowE {α : Type} {C bytes : Nat} {R : Rd α} {enc : α → List Value} (he : Enc C R enc) {w : World} {v : Value} {l : List α} (h : SlR C bytes R w v l) :
  ∃ A cap, v = .slice A l.length cap ∧ l.length * bytes ≤ 140737488355328 ∧ l.length ≤ cap ∧
   ∀ (k : Nat) (_ : k < l.length), ∃ b o, A = some ⟨b, o, none⟩ ∧ ∀ (i : Nat) (hi : i < l.length) (j : Nat) (u : Value), (enc l[i])[j]? = some u → w.cell? ⟨b, o + i * C + j, none⟩ = some u := by
 obtain ⟨A, cap, hv, hb, hc, h⟩ := h
 refine ⟨A, cap, hv, hb, hc, fun k hk => ?_⟩
 rcases h with h | ⟨b, o, hA, h⟩
 ·subst h; exact absurd hk (by simp)
 ·refine ⟨b, o, hA, fun i hi j u hu => ?_⟩
  obtain ⟨cs, hl, hcell, hr⟩ := h i hi
  have hcs := he.cs _ _ _ hr
  subst hcs
  have hj : j < C := by have := (List.getElem?_eq_some_iff.1 hu).1; omega
  rw [hcell j hj, hu]
theorem SlR.rowR {α : Type} {C bytes : Nat} {R : Rd α} {w : World} {v : Value} {l : List α} (h : SlR C bytes R w v l) :
  ∃ A cap, v = .slice A l.length cap ∧ l.length * bytes ≤ 140737488355328 ∧ l.length ≤ cap ∧
   ∀ (k : Nat) (_ : k < l.length), ∃ b o, A = some ⟨b, o, none⟩ ∧ ∀ (i : Nat) (hi : i < l.length), ∃ cs, cs.length = C ∧ (∀ (j : Nat) (u : Value), cs[j]? = some u → w.cell? ⟨b, o + i * C + j, none⟩ = some u) ∧ R w cs l[i] := by
 obtain ⟨A, cap, hv, hb, hc, h⟩ := h
 refine ⟨A, cap, hv, hb, hc, fun k hk => ?_⟩
 rcases h with h | ⟨b, o, hA, h⟩
 ·subst h; exact absurd hk (by simp)
 ·refine ⟨b, o, hA, fun i hi => ?_⟩
  obtain ⟨cs, hl, hcell, hr⟩ := h i hi
  exact ⟨cs, hl, fun j u hu => by rw [hcell j (by have := (List.getElem?_eq_some_iff.1 hu).1; omega), hu], hr⟩
theorem SlR.mem {α : Type} {C bytes : Nat} {R : Rd α} {enc : α → List Value} (he : Enc C R enc) {w : World} {v : Value} {l : List α} (h : SlR C bytes R w v l) (w' : World) : ∀ a ∈ l, R w' (enc a) a := by
 obtain ⟨A, cap, hv, hb, hc, h⟩ := h
 intro a ha
 rcases h with h | ⟨b, o, hA, h⟩
 ·subst h; cases ha
 ·obtain ⟨i, hi, rfl⟩ := List.mem_iff_getElem.1 ha
  obtain ⟨cs, _, _, hr⟩ := h i hi
  have := he.cs _ _ _ hr
  rw [this] at hr
  exact he.w _ _ _ _ hr
theorem SlR.len {α : Type} {C bytes : Nat} {R : Rd α} {w : World} {v : Value} {l : List α} (h : SlR C bytes R w v l) : l.length * bytes ≤ 140737488355328 := by
 obtain ⟨A, cap, hv, hb, hc, h⟩ := h
 exact hb
theorem SlR.again {α : Type} {C bytes : Nat} {R : Rd α} {enc : α → List Value} (he : Enc C R enc) {w w' : World} {v v' : Value} {l : List α} {base : Nat} {e : TypeId} (h : SlR C bytes R w v l)
  (o : w'.ownsRow base e C v' l.length (l.flatMap enc)) : SlR C bytes R w' v' l := SlR.of_own he o h.len (h.mem he w')
theorem RDev.again {w w' : World} {cs : List Value} {d : Dev} (h : RDev w cs d) {v1 v2 : Value} {b b' : Nat} {e e' : TypeId} (o1 : w'.ownsRow b e 1 v1 d.sec.length (d.sec.flatMap encStr))
  (o2 : w'.ownsRow b' e' 1 v2 d.lost.length (d.lost.flatMap encBool)) : RDev w' [v1, v2] d := by
 obtain ⟨_, _, _, h1, h2⟩ := h
 exact ⟨_, _, rfl, h1.again encStr_ok o1, h2.again encBool_ok o2⟩
theorem RDev.form {w : World} {cs : List Value} {d : Dev} (h : RDev w cs d) : ∃ A1 c1 A2 c2, cs = [.slice A1 d.sec.length c1, .slice A2 d.lost.length c2] := by
 obtain ⟨v1, v2, rfl, ⟨A1, c1, rfl, _⟩, ⟨A2, c2, rfl, _⟩⟩ := h
 exact ⟨A1, c1, A2, c2, rfl⟩
theorem RDev.split {w : World} {cs : List Value} {d : Dev} (h : RDev w cs d) : ∃ A1 c1 A2 c2, cs = [.slice A1 d.sec.length c1, .slice A2 d.lost.length c2] ∧ SlR 1 16 RStr w (.slice A1 d.sec.length c1) d.sec ∧ SlR 1 1 RBool w (.slice A2 d.lost.length c2) d.lost := by
 obtain ⟨v1, v2, rfl, h1, h2⟩ := h
 have h1' := h1
 have h2' := h2
 obtain ⟨A1, c1, rfl, _⟩ := h1'
 obtain ⟨A2, c2, rfl, _⟩ := h2'
 exact ⟨A1, c1, A2, c2, rfl, h1, h2⟩
section
variable {P : Program} {fn : Func} {p u x y : Tmp} {ty : TypeId} {tmps : Array Value} {w : World} {g : Nat} {cs : Array Value} {t : TypeId} {d : TypeDesc}
theorem run_load_blk (hb : Blk_ w g t cs) (hu : P.underlying ty = some d) (hd : (match d with | .struct _ | .array _ _ => true | _ => false) = true) (hi : (P.info? ty).map (·.size) = some cs.size) :
  (loadVar ty ⟨g, 0, none⟩).run P w = .ok (.agg cs) w := run_loadVar_row w g t ty cs (0, 0) d hb hu hd hi
theorem res_cell (h : fn.results = #[.cell p ty]) (ha : tmps.getD p undef = .pointer (some ⟨g, 0, none⟩)) (hb : Blk_ w g t cs) (hu : P.underlying ty = some d)
  (hd : (match d with | .struct _ | .array _ _ => true | _ => false) = true) (hi : (P.info? ty).map (·.size) = some cs.size) : (results fn tmps).run P w = .ok (.agg cs) w := by
 have ha' : tmps[p]?.getD undef = .pointer (some ⟨g, 0, none⟩) := by simpa using ha
 simp only [results, h]
 simp [Sem.run_bind, Result.andThen, ha', asAddr, run_load_blk hb hu hd hi]
theorem res_cell_tmp (h : fn.results = #[.cell p ty, .tmp u]) (ha : tmps.getD p undef = .pointer (some ⟨g, 0, none⟩)) (hb : Blk_ w g t cs) (hu : P.underlying ty = some d)
  (hd : (match d with | .struct _ | .array _ _ => true | _ => false) = true) (hi : (P.info? ty).map (·.size) = some cs.size) : (results fn tmps).run P w = .ok (.tuple #[.agg cs, tmps.getD u undef]) w := by
 have ha' : tmps[p]?.getD undef = .pointer (some ⟨g, 0, none⟩) := by simpa using ha
 simp only [results, h]
 simp [Sem.run_bind, Result.andThen, ha', asAddr, run_load_blk hb hu hd hi]
end
theorem sumOf_any (s : ByteArray) (w : World) (hs : s.size ≤ 140737488355328) :
  Calls Tryz.prog 127 #[.string s] w fun e w' => e = .returned (.string (bs (sealOf (lst s)))) ∧ Ext w w' := by
 go_enter Tryz.func127, Tryz.ntmps127
 go_wp2
 go_loop [3, 4, 8] (fun x y i => ∃ k : Nat, k ≤ s.size ∧ i = .int .i64 k ∧ x = .int .i64 (sealXY ((lst s).take k)).1 ∧ y = .int .i64 (sealXY ((lst s).take k)).2) (fun _ _ i => s.size - (intOf i).toNat)
 case atStart => exact ⟨0, Nat.zero_le _, rfl, rfl, rfl⟩
 case round =>
  obtain ⟨k, hk, rfl, rfl, rfl⟩ := hrel
  obtain ⟨h1, h2, h3, h4⟩ := sealXY_range ((lst s).take k)
  by_cases hlt : k < s.size
  ·have hb := u8_hi s[k]
   have hst : sealXY ((lst s).take (k+1)) = sealStep (sealXY ((lst s).take k)) s[k] := by rw [take_snoc s k hlt, sealXY_snoc]
   have HT := Lib.hid hst
   clear hst
   generalize (sealXY ((lst s).take k)) = p at *
   go_wp2
   go_round
   case rel => exact ⟨k + 1, by omega, by go_num, by rw [HT.out]; rfl, by rw [HT.out]; rfl⟩
   case measure => simp [intOf]; omega
  ·have hfin : sealXY ((lst s).take k) = sealXY (lst s) := by rw [take_ge s k (by omega)]
   have HF := Lib.hid hfin
   clear hfin
   generalize (sealXY ((lst s).take k)) = p at *
   go_wp2
   go_ret
   exact ⟨ret_str (by unfold sealOf; rw [← HF.out]; rfl), (Ext.refl _).alloc _⟩
theorem sealOf_any (s : ByteArray) (w : World) (hs : s.size ≤ 140737488355328) :
  Calls Tryz.prog 126 #[.string s] w fun e w' => e = .returned (.string (bs (sealOf (lst s)))) ∧ Ext w w' := by
 go_enter Tryz.func126, Tryz.ntmps126
 go_wp2
 go_loop [3, 4, 5] (fun x y i => ∃ k : Nat, k ≤ s.size ∧ i = .int .i64 k ∧ x = .int .i64 (sealXY ((lst s).take k)).1 ∧ y = .int .i64 (sealXY ((lst s).take k)).2) (fun _ _ i => s.size - (intOf i).toNat)
 case atStart => exact ⟨0, Nat.zero_le _, rfl, rfl, rfl⟩
 case round =>
  obtain ⟨k, hk, rfl, rfl, rfl⟩ := hrel
  obtain ⟨h1, h2, h3, h4⟩ := sealXY_range ((lst s).take k)
  by_cases hlt : k < s.size
  ·have hb := u8_hi s[k]
   have hst : sealXY ((lst s).take (k+1)) = sealStep (sealXY ((lst s).take k)) s[k] := by rw [take_snoc s k hlt, sealXY_snoc]
   have HT := Lib.hid hst
   clear hst
   generalize (sealXY ((lst s).take k)) = p at *
   go_wp2
   go_round
   case rel => exact ⟨k + 1, by omega, by go_num, by rw [HT.out]; rfl, by rw [HT.out]; unfold sealStep; dsimp only; go_num⟩
   case measure => simp [intOf]; omega
  ·have hfin : sealXY ((lst s).take k) = sealXY (lst s) := by rw [take_ge s k (by omega)]
   have HF := Lib.hid hfin
   clear hfin
   generalize (sealXY ((lst s).take k)) = p at *
   go_wp2
   go_ret
   exact ⟨ret_str (by unfold sealOf; rw [← HF.out]; rfl), (Ext.refl _).alloc _⟩
theorem in_true (n lo hi : Int) (w : World) (h1 : lo ≤ n) (h2 : n ≤ hi) :
  Calls Tryz.prog 55 #[.int .i64 n, .int .i64 lo, .int .i64 hi] w fun e w' => e = .returned (.bool true) ∧ w = w' := by
 go_enter Tryz.func55, Tryz.ntmps55
 go_wp2
 go_ret
 exact ⟨rfl, rfl⟩
theorem in_false (n lo hi : Int) (w : World) (h : n < lo ∨ hi < n) :
  Calls Tryz.prog 55 #[.int .i64 n, .int .i64 lo, .int .i64 hi] w fun e w' => e = .returned (.bool false) ∧ w = w' := by
 by_cases h1 : n < lo
 ·clear h
  go_enter Tryz.func55, Tryz.ntmps55
  go_wp2
  go_ret
  exact ⟨rfl, rfl⟩
 ·have h2 : hi < n := by omega
  clear h
  go_enter Tryz.func55, Tryz.ntmps55
  go_wp2
  go_ret
  exact ⟨ret_bool (by simp; omega), rfl⟩
def inB (n lo hi : Int) : Bool := decide (lo ≤ n) && decide (n ≤ hi)
theorem inB_true {n lo hi : Int} (h : inB n lo hi = true) : lo ≤ n ∧ n ≤ hi := by simpa [inB] using h
theorem inB_false {n lo hi : Int} (h : inB n lo hi = false) : n < lo ∨ hi < n := by simp [inB] at h; omega
theorem in_any (n lo hi : Int) (w : World) :
  Calls Tryz.prog 55 #[.int .i64 n, .int .i64 lo, .int .i64 hi] w fun e w' => e = .returned (.bool (inB n lo hi)) ∧ w = w' := by
 by_cases h : inB n lo hi = true
 ·rw [h]; exact in_true n lo hi w (inB_true h).1 (inB_true h).2
 ·rw [Bool.not_eq_true] at h; rw [h]; exact in_false n lo hi w (inB_false h)
theorem sectors_any (n : Int) (w : World) (h0 : 0 ≤ n) (h1 : n ≤ 140737488355328) :
  Calls Tryz.prog 16 #[.int .i64 n] w fun e w' => e = .returned (.int .i64 ((n + 23) / 24)) ∧ w = w' := by
 go_enter Tryz.func16, Tryz.ntmps16
 go_wp2
 go_ret
 exact ⟨ret_int (by omega), rfl⟩
theorem sectorsOf_any (n : Int) (w : World) (h0 : 0 ≤ n) (h1 : n ≤ 140737488355328) :
  Calls Tryz.prog 26 #[.int .i64 n] w fun e w' => e = .returned (.int .i64 ((n + 23) / 24)) ∧ w = w' := by
 go_enter Tryz.func26, Tryz.ntmps26
 go_wp2
 go_loop [3] (fun k => ∃ j : Nat, k = .int .i64 j ∧ (j : Int) ≤ (n + 23) / 24) (fun k => ((n + 23) / 24 - intOf k).toNat)
 case atStart => exact ⟨0, rfl, by omega⟩
 case round =>
  obtain ⟨j, rfl, hj⟩ := hrel
  by_cases hlt : (j : Int) * 24 < n
  ·go_wp2
   go_round
   case rel => exact ⟨j + 1, by go_num, by omega⟩
   case measure => simp [intOf]; omega
  ·go_wp2
   go_ret
   exact ⟨ret_int (by omega), rfl⟩
end Go.Proofs.YtjadmfdlggnlgaaGreatDoor
