/-
  The data of the program, in plain Lean, and what it is for values in memory to hold them: devices, arrays, catalogs, files, acts. Conditions: none.
-/
import Derived.Test.YtokpjgpdkmimgaaK
import Derived.Deep.Slices
import Derived.ProofKit
import Derived.SizedLaws
namespace Go.Proofs.Ytokpjgpdkmimgaa
set_option linter.unusedSimpArgs false
set_option linter.unusedVariables false
open Go.RowKit Go.ChangeShapes Go.WideShapes Go.ChangeAt Go.Deep

structure Dev where
  sec : List ByteArray
  lost : List Bool
structure Blk where
  first : Int
  bytes : Int
structure Ent where
  name : ByteArray
  block : Int
  at_ : Int
  bytes : Int
structure Cat where
  blocks : List Blk
  entries : List Ent
structure Fil where
  name : ByteArray
  data : ByteArray
structure Cur where
  next : Int
  rounds : Int
structure ActD where
  kind : Int
  files : List Fil
  name : ByteArray
  d : Int
  n : Int
  at_ : Int
  by_ : Int
structure Raw4 where
  kind : Int
  a : Int
  b : Int
  c : Int

/-- A number of 64 bits. -/
def I64 (n : Int) : Prop := -9223372036854775808 ≤ n ∧ n ≤ 9223372036854775807

abbrev Rd (α : Type) := World → List Value → α → Prop
def RStr : Rd ByteArray := fun _ cs s => cs = [.string s] ∧ s.size ≤ 140737488355328
def RBool : Rd Bool := fun _ cs b => cs = [.bool b]
def RInt : Rd Int := fun _ cs n => cs = [.int .i64 n] ∧ I64 n
/-- A slice of elements of C cells, 'bytes' bytes each. -/
def SlR {α : Type} (C bytes : Nat) (R : Rd α) (w : World) (v : Value) (l : List α) : Prop :=
  ∃ A cap, v = .slice A l.length cap ∧ l.length * bytes ≤ 140737488355328 ∧ l.length ≤ cap ∧
    (l = [] ∨ ∃ b o, A = some ⟨b, o, none⟩ ∧ ∀ (i : Nat) (hi : i < l.length), ∃ cs, cs.length = C ∧ (∀ j, j < C → w.cell? ⟨b, o + i * C + j, none⟩ = cs[j]?) ∧ R w cs l[i])
def RDev : Rd Dev := fun w cs d => ∃ v1 v2, cs = [v1, v2] ∧ SlR 1 16 RStr w v1 d.sec ∧ SlR 1 1 RBool w v2 d.lost
def RArr : Rd (List Dev) := fun w cs a => ∃ v, cs = [v] ∧ SlR 2 48 RDev w v a
def RBlk : Rd Blk := fun _ cs x => cs = [.int .i64 x.first, .int .i64 x.bytes] ∧ I64 x.first ∧ I64 x.bytes
def REnt : Rd Ent := fun _ cs x => cs = [.string x.name, .int .i64 x.block, .int .i64 x.at_, .int .i64 x.bytes] ∧ x.name.size ≤ 140737488355328 ∧ I64 x.block ∧ I64 x.at_ ∧ I64 x.bytes
def RCat : Rd Cat := fun w cs c => ∃ v1 v2, cs = [v1, v2] ∧ SlR 2 16 RBlk w v1 c.blocks ∧ SlR 4 40 REnt w v2 c.entries
def RFil : Rd Fil := fun _ cs x => cs = [.string x.name, .string x.data] ∧ x.name.size ≤ 140737488355328 ∧ x.data.size ≤ 140737488355328
def RCur : Rd Cur := fun _ cs x => cs = [.int .i64 x.next, .int .i64 x.rounds] ∧ I64 x.next ∧ I64 x.rounds
def RAct : Rd ActD := fun w cs x => ∃ v, cs = [.int .i64 x.kind, v, .string x.name, .int .i64 x.d, .int .i64 x.n, .int .i64 x.at_, .int .i64 x.by_] ∧ SlR 2 32 RFil w v x.files ∧
  x.name.size ≤ 140737488355328 ∧ I64 x.kind ∧ I64 x.d ∧ I64 x.n ∧ I64 x.at_ ∧ I64 x.by_
def RRaw : Rd Raw4 := fun _ cs x => cs = [.int .i64 x.kind, .int .i64 x.a, .int .i64 x.b, .int .i64 x.c] ∧ I64 x.kind ∧ I64 x.a ∧ I64 x.b ∧ I64 x.c

/-- What is read stays read while the world grows. -/
def Stays {α : Type} (R : Rd α) : Prop := ∀ (w w' : World) (cs : List Value) (a : α), R w cs a → Ext w w' → R w' cs a
theorem RStr.stays : Stays RStr := fun _ _ _ _ h _ => h
theorem RBool.stays : Stays RBool := fun _ _ _ _ h _ => h
theorem RInt.stays : Stays RInt := fun _ _ _ _ h _ => h
theorem SlR.ext {α : Type} {C bytes : Nat} {R : Rd α} (hR : Stays R) {w w' : World} {v : Value} {l : List α} (h : SlR C bytes R w v l) (k : Ext w w') : SlR C bytes R w' v l := by
  obtain ⟨A, cap, hv, hb, hc, h⟩ := h
  refine ⟨A, cap, hv, hb, hc, ?_⟩
  rcases h with h | ⟨b, o, hA, h⟩
  · exact .inl h
  · refine .inr ⟨b, o, hA, fun i hi => ?_⟩
    obtain ⟨cs, hl, hcell, hr⟩ := h i hi
    refine ⟨cs, hl, fun j hj => ?_, hR _ _ _ _ hr k⟩
    have hs : cs[j]? = some cs[j] := List.getElem?_eq_getElem (by omega)
    rw [hs]
    exact k.cell ((hcell j hj).trans hs)
theorem RDev.stays : Stays RDev := fun _ _ _ _ ⟨v1, v2, e, h1, h2⟩ k => ⟨v1, v2, e, h1.ext RStr.stays k, h2.ext RBool.stays k⟩
theorem RArr.stays : Stays RArr := fun _ _ _ _ ⟨v, e, h⟩ k => ⟨v, e, h.ext RDev.stays k⟩
theorem RBlk.stays : Stays RBlk := fun _ _ _ _ h _ => h
theorem REnt.stays : Stays REnt := fun _ _ _ _ h _ => h
theorem RCat.stays : Stays RCat := fun _ _ _ _ ⟨v1, v2, e, h1, h2⟩ k => ⟨v1, v2, e, h1.ext RBlk.stays k, h2.ext REnt.stays k⟩
theorem RFil.stays : Stays RFil := fun _ _ _ _ h _ => h
theorem RCur.stays : Stays RCur := fun _ _ _ _ h _ => h
theorem RAct.stays : Stays RAct := fun _ _ _ _ ⟨v, e, h, r⟩ k => ⟨v, e, h.ext RFil.stays k, r⟩
theorem RRaw.stays : Stays RRaw := fun _ _ _ _ h _ => h

theorem RDev.up {w w' : World} {cs : List Value} {a : Dev} (h : RDev w cs a) (k : Ext w w') : RDev w' cs a := RDev.stays _ _ _ _ h k
theorem RArr.up {w w' : World} {cs : List Value} {a : List Dev} (h : RArr w cs a) (k : Ext w w') : RArr w' cs a := RArr.stays _ _ _ _ h k
theorem RCat.up {w w' : World} {cs : List Value} {a : Cat} (h : RCat w cs a) (k : Ext w w') : RCat w' cs a := RCat.stays _ _ _ _ h k
theorem RAct.up {w w' : World} {cs : List Value} {a : ActD} (h : RAct w cs a) (k : Ext w w') : RAct w' cs a := RAct.stays _ _ _ _ h k
theorem RFil.up {w w' : World} {cs : List Value} {a : Fil} (h : RFil w cs a) (k : Ext w w') : RFil w' cs a := RFil.stays _ _ _ _ h k

/-- A slice of one-cell elements: the cells at hand. -/
theorem SlR.row {α : Type} {bytes : Nat} {R : Rd α} {w : World} {v : Value} {l : List α} (h : SlR 1 bytes R w v l) :
    ∃ A cap, v = .slice A l.length cap ∧ l.length * bytes ≤ 140737488355328 ∧ l.length ≤ cap ∧
      ∀ (k : Nat) (_ : k < l.length), ∃ b o, A = some ⟨b, o, none⟩ ∧ ∀ (i : Nat) (hi : i < l.length), ∃ u, w.cell? ⟨b, o + i, none⟩ = some u ∧ R w [u] l[i] := by
  obtain ⟨A, cap, hv, hb, hc, h⟩ := h
  refine ⟨A, cap, hv, hb, hc, fun k hk => ?_⟩
  rcases h with h | ⟨b, o, hA, h⟩
  · subst h; exact absurd hk (by simp)
  · refine ⟨b, o, hA, fun i hi => ?_⟩
    obtain ⟨cs, hl, hcell, hr⟩ := h i hi
    match cs, hl with
    | [u], _ =>
      have := hcell 0 (by omega)
      exact ⟨u, by simpa using this, hr⟩
theorem RInt.bd {w : World} {u : Value} {n : Int} (h : RInt w [u] n) : u = .int .i64 n ∧ -9223372036854775808 ≤ n ∧ n ≤ 9223372036854775807 := by
  obtain ⟨h, h1, h2⟩ := h
  exact ⟨by simpa using h, h1, h2⟩

section
variable {H : Type} {enc : TypeId × Value → H} {P : Program} {w : World} {spare : Nat → Bool}
/-- Whatever reads as data of type t is read by R. -/
def Opens (H : Type) (enc : TypeId × Value → H) (P : Program) (w : World) (spare : Nat → Bool) {α : Type} (t : TypeId) (R : Rd α) : Prop :=
  ∀ fuel cs x, DataW.trod enc P w 0 spare true fuel t cs = some x → (∀ n ∈ x.1.weights P t, n ≤ reachBytes) → ∃ a, R w cs a
theorem opens_int {t : TypeId} (ht : P.underlying t = some (.int .i64)) : Opens H enc P w spare t RInt := by
  intro fuel cs x h _
  obtain ⟨n, hc, hx, hw⟩ := DataW.trod_int ht h
  refine ⟨n, hc, ?_⟩
  simpa [Lit.wf, IntKind.min, IntKind.max, IntKind.signed, IntKind.bits, I64] using hw
theorem opens_bool {t : TypeId} (ht : P.underlying t = some .bool) : Opens H enc P w spare t RBool := by
  intro fuel cs x h _
  obtain ⟨n, hc, hx⟩ := DataW.trod_bool ht h
  exact ⟨n, hc⟩
theorem opens_string {t : TypeId} (ht : P.underlying t = some .string) : Opens H enc P w spare t RStr := by
  intro fuel cs x h hz
  obtain ⟨s, hc, hx, hs⟩ := DataW.trod_string ht h
  subst hx
  have := hz s.data.toList.length (by simp [DataW.weights])
  refine ⟨s, hc, ?_⟩
  rw [show s.data.toList.length = s.size from length_lst s] at this
  exact Nat.le_trans this (by decide)
theorem weightsAll_mem {e : TypeId} : ∀ {ds : List (DataW H)} {d : DataW H}, d ∈ ds → ∀ n ∈ d.weights P e, n ∈ DataW.weightsAll P e ds
  | _ :: _, _, .head _, n, hn => by simp only [DataW.weightsAll, List.mem_append]; exact .inl hn
  | _ :: _, _, .tail _ h, n, hn => by simp only [DataW.weightsAll, List.mem_append]; exact .inr (weightsAll_mem h n hn)
theorem list_of {α : Type} : ∀ (n : Nat) {p : Nat → α → Prop}, (∀ i, i < n → ∃ a, p i a) → ∃ l : List α, l.length = n ∧ ∀ (i : Nat) (hi : i < l.length), p i l[i]
  | 0, _, _ => ⟨[], rfl, fun i hi => absurd hi (by simp)⟩
  | n + 1, p, h => by
    obtain ⟨a, ha⟩ := h 0 (by omega)
    obtain ⟨l, hl, hp⟩ := list_of n (p := fun i a => p (i + 1) a) (fun i hi => h (i + 1) (by omega))
    refine ⟨a :: l, by simp [hl], fun i hi => ?_⟩
    cases i with
    | zero => exact ha
    | succ i => exact hp i (by simpa using hi)
theorem opens_slice {α : Type} {R : Rd α} {t e : TypeId} {C bytes : Nat} (ht : P.underlying t = some (.slice e)) (hC : P.cellsOf e = C) (hC0 : 0 < C) (hby : P.bytesOf e = bytes) (he : Opens H enc P w spare e R) :
    Opens H enc P w spare t (fun w cs (l : List α) => ∃ v, cs = [v] ∧ SlR C bytes R w v l) := by
  intro fuel cs x h hz
  rcases open_slice ht h with ⟨rfl, rfl⟩ | ⟨a, len, cap, m, n, D, Pl, hcs, hb, hl, hm, hmm, hx, hi⟩
  · exact ⟨[], _, rfl, none, 0, rfl, by simp, by simp, .inl rfl⟩
  · subst hx
    have hmle : len ≤ m := by rw [hmm]; split <;> omega
    have hlen : len * bytes ≤ reachBytes := by
      have h1 := hz (((List.range len).map D).length + ((List.range (m - len)).map fun j => D (len + j)).length |> (· * P.bytesOf e)) (by simp [DataW.weights, ht])
      simp only [List.length_map, List.length_range, hby] at h1
      have h2 : len * bytes ≤ (len + (m - len)) * bytes := Nat.mul_le_mul_right _ (by omega)
      omega
    have hel : ∀ i, i < len → ∃ y : α, ∃ cs, cs.length = C ∧ (∀ j, j < C → w.cell? ((a.add (i * C)).add j) = cs[j]?) ∧ R w cs y := by
      intro i hil
      obtain ⟨cs', hc, ht'⟩ := hi i (by omega)
      rw [hC] at hc
      obtain ⟨_, hcl, hat⟩ := World.cells?_some hc
      obtain ⟨y, hy⟩ := he n cs' (D i, Pl i) ht' (fun k hk => hz k (by
        simp only [DataW.weights, ht, List.mem_cons, List.mem_append]
        exact .inr (.inl (weightsAll_mem (List.mem_map.2 ⟨i, List.mem_range.2 hil, rfl⟩) k hk))))
      exact ⟨y, cs', hcl, hat, hy⟩
    obtain ⟨l, hll, hp⟩ := list_of len hel
    refine ⟨l, _, hcs, some a, cap, by rw [hll], by rw [hll]; exact Nat.le_trans hlen (by decide), by rw [hll]; exact hl, ?_⟩
    by_cases h0 : len = 0
    · exact .inl (List.eq_nil_of_length_eq_zero (by omega))
    · right
      obtain ⟨b, o, sp⟩ := a
      have hsp : sp = none := by
        obtain ⟨cs0, hl0, hc0, _⟩ := hp 0 (by omega)
        have := hc0 0 hC0
        rw [List.getElem?_eq_getElem (by omega)] at this
        cases sp with
        | none => rfl
        | some q => simp [World.cell?, Addr.add] at this; split at this <;> simp_all
      subst hsp
      refine ⟨b, o, rfl, fun i hi' => ?_⟩
      obtain ⟨cs', h1, h2, h3⟩ := hp i hi'
      refine ⟨cs', h1, fun j hj => ?_, h3⟩
      rw [← h2 j hj, Addr.add_lit, Addr.add_lit]
/-- The fields of a struct, each with its own reading. -/
theorem opens_fields {t : TypeId} {fs : Array Field} (ht : P.underlying t = some (.struct fs)) {fuel : Nat} {cs : List Value} {x : DataW H × List MemPlace}
    (h : DataW.trod enc P w 0 spare true fuel t cs = some x) (hz : ∀ n ∈ x.1.weights P t, n ≤ reachBytes) :
    cs.length = P.cellsOf t ∧ ∀ (i : Nat) (f : Field), fs[i]? = some f → ∃ n y, DataW.trod enc P w 0 spare true n f.type ((cs.drop f.offset).take (P.cellsOf f.type)) = some y ∧ (∀ k ∈ y.1.weights P f.type, k ≤ reachBytes) := by
  obtain ⟨xs, n, _, hx, hlen, hxl, hf⟩ := DataW.trod_struct ht h
  refine ⟨hlen, fun i f hi => ?_⟩
  have hil : i < fs.size := (Array.getElem?_eq_some_iff.1 hi).1
  have hxi : xs[i]? = some (xs[i]'(by omega)) := List.getElem?_eq_getElem (by omega)
  refine ⟨n, xs[i]'(by omega), by rw [hf i f hi, hxi], fun k hk => hz k ?_⟩
  subst hx
  simp only [DataW.weights, ht]
  refine DataW.weights_mem_each (j := i) (t := f.type) (d := (xs[i]'(by omega)).1) ?_ ?_ k hk
  · simp only [List.getElem?_map, Array.getElem?_toList, hi]; rfl
  · simp only [List.getElem?_map, hxi]; rfl
end
end Go.Proofs.Ytokpjgpdkmimgaa
