/-
  Catalogs in plain Lean: whether one may be, the next free sector, what is found, bytes and back. Conditions: none.
-/
import Derived.Test.YtokpjgpdkmimgaaDoorWName
import Derived.Test.YtokpjgpdkmimgaaDoorPTell
namespace Go.Proofs.YtokpjgpdkmimgaaDoor
set_option linter.unusedSimpArgs false
set_option linter.unusedVariables false
open Go.RowKit

theorem bl_total : ∀ x y : List UInt8, (Op.bytesLess y x || y == x) = !(Op.bytesLess x y)
  | [], [] => rfl
  | [], _ :: _ => rfl
  | _ :: _, [] => rfl
  | a :: x, b :: y => by
    have ih := bl_total x y
    have hlt : ∀ c d : UInt8, (decide (c < d)) = decide (c.toNat < d.toNat) := fun c d => by simp [UInt8.lt_iff_toNat_lt]
    have heq : ∀ c d : UInt8, (c == d) = decide (c.toNat = d.toNat) := fun c d => by
      by_cases h : c = d
      · subst h; simp
      · have : c.toNat ≠ d.toNat := fun e => h (UInt8.toNat_inj.1 e)
        simp [h, this]
    simp only [Op.bytesLess, List.cons_beq_cons, hlt, heq]
    rcases Nat.lt_trichotomy a.toNat b.toNat with h | h | h
    · have h1 : ¬ b.toNat < a.toNat := by omega
      have h2 : ¬ b.toNat = a.toNat := by omega
      simp [h, h1, h2]
    · simp [h, ih]
    · have h1 : ¬ a.toNat < b.toNat := by omega
      have h2 : ¬ a.toNat = b.toNat := by omega
      simp [h, h1, h2]
def secs (n : Int) : Int := (n + 23) / 24
def blockBad (p : Int) (b : Blk) : Bool := decide (b.first ≠ p) || !(inB b.bytes 0 1200) || decide (64 < p + secs b.bytes)
def blocksF (p : Int) : List Blk → Int
  | [] => 0
  | b :: l => if blockBad p b then 4 else blocksF (p + secs b.bytes) l
def entBad (nb : Nat) (x : Ent) : Bool := !(nameMay x.name) || !(inB x.block 0 ((nb : Int) - 1)) || !(inB x.at_ 0 600) || !(inB x.bytes 0 200)
/-- The names are in order. -/
def orderBad (p : Option ByteArray) (s : ByteArray) : Bool := match p with | none => false | some q => !(Op.bytesLess q.toList s.toList)
def entsF (nb : Nat) (p : Option ByteArray) : List Ent → Int
  | [] => 0
  | x :: l => if entBad nb x then 4 else if orderBad p x.name then 12 else entsF nb (some x.name) l
def catFault (c : Cat) : Int :=
  if 10 < c.blocks.length ∨ 10 < c.entries.length then 1 else if blocksF 8 c.blocks = 0 then entsF c.blocks.length none c.entries else 4
def nextAt (p : Int) : List Blk → Int
  | [] => p
  | b :: l => nextAt (p + secs b.bytes) l
def nextS (c : Cat) : Int × Int := if catFault c = 0 then (nextAt 8 c.blocks, 0) else (0, catFault c)
def noEnt : Ent := ⟨.empty, 0, 0, 0⟩
def findS (c : Cat) (name : ByteArray) : Ent × Int :=
  if catFault c = 0 then (match c.entries.find? (fun x => decide (lst x.name = lst name)) with | some x => (x, 0) | none => (noEnt, 6)) else (noEnt, catFault c)
def twoB (n : Int) : List UInt8 := [byte (n / 256), byte (n % 256)]
def entBytes (x : Ent) : List UInt8 := byte x.name.size :: (lst x.name ++ [byte x.block, byte (x.at_ / 256), byte (x.at_ % 256), byte x.bytes])
def catBytes (c : Cat) : List UInt8 := byte c.blocks.length :: (c.blocks.flatMap (fun b => twoB b.bytes) ++ byte c.entries.length :: c.entries.flatMap entBytes)
def encCatS (c : Cat) : ByteArray × Int := if catFault c = 0 then (bs (catBytes c), 0) else (.empty, catFault c)
def decBlocks : Nat → Int → List UInt8 → Option (List Blk × List UInt8)
  | 0, _, l => some ([], l)
  | n + 1, p, a :: b :: l => (decBlocks n (p + secs (256 * (a.toNat : Int) + b.toNat)) l).map fun x => (⟨p, 256 * (a.toNat : Int) + b.toNat⟩ :: x.1, x.2)
  | _ + 1, _, _ => none
def entAt (m : Nat) (l : List UInt8) : Ent := ⟨bs (l.take m), (l.getD m 0).toNat, 256 * ((l.getD (m + 1) 0).toNat : Int) + (l.getD (m + 2) 0).toNat, (l.getD (m + 3) 0).toNat⟩
def decEnts : Nat → List UInt8 → Option (List Ent × List UInt8)
  | 0, l => some ([], l)
  | n + 1, m :: l => if l.length < m.toNat + 4 then none else (decEnts n (l.drop (m.toNat + 4))).map fun x => (entAt m.toNat l :: x.1, x.2)
  | _ + 1, [] => none
def noCat : Cat := ⟨[], []⟩
def endCat (bl : List Blk) (es : List Ent) (r : List UInt8) : Cat × Int :=
  if r.all (· == 0) then (if catFault ⟨bl, es⟩ = 0 then (⟨bl, es⟩, 0) else (noCat, catFault ⟨bl, es⟩)) else (noCat, 4)
def decCatL (l : List UInt8) : Cat × Int :=
  match l with
  | [] => (noCat, 5)
  | n :: l => match decBlocks n.toNat 8 l with
    | none => (noCat, 5)
    | some (_, []) => (noCat, 5)
    | some (bl, k :: r) => match decEnts k.toNat r with
      | none => (noCat, 5)
      | some (es, r') => endCat bl es r'
def decCatS (s : ByteArray) : Cat × Int := decCatL (lst s)

/-- The name ahead of the k-th entry. -/
def prevOf (l : List Ent) (k : Nat) : Option ByteArray := match k with | 0 => none | j + 1 => some (l.getD j noEnt).name
theorem drop_at {α : Type} (l : List α) (k : Nat) (h : k < l.length) : l.drop k = l[k] :: l.drop (k + 1) := List.drop_eq_getElem_cons h
theorem blocks_stop {p : Int} {b : Blk} {l : List Blk} (h : blockBad p b = true) : blocksF p (b :: l) = 4 := by unfold blocksF; rw [if_pos h]
theorem blocks_go {p : Int} {b : Blk} {l : List Blk} (h : blockBad p b = false) : blocksF p (b :: l) = blocksF (p + secs b.bytes) l := by rw [blocksF, if_neg (by simp [h])]
theorem ents_stop {nb : Nat} {p : Option ByteArray} {x : Ent} {l : List Ent} (h : entBad nb x = true) : entsF nb p (x :: l) = 4 := by unfold entsF; rw [if_pos h]
theorem ents_order {nb : Nat} {p : Option ByteArray} {x : Ent} {l : List Ent} (h : entBad nb x = false) (h2 : orderBad p x.name = true) : entsF nb p (x :: l) = 12 := by unfold entsF; rw [if_neg (by simp [h]), if_pos h2]
theorem ents_go {nb : Nat} {p : Option ByteArray} {x : Ent} {l : List Ent} (h : entBad nb x = false) (h2 : orderBad p x.name = false) : entsF nb p (x :: l) = entsF nb (some x.name) l := by rw [entsF, if_neg (by simp [h]), if_neg (by simp [h2])]
theorem prev_next (l : List Ent) (k : Nat) (h : k < l.length) : prevOf l (k + 1) = some l[k].name := by
  unfold prevOf; simp only; rw [List.getD_eq_getElem?_getD, List.getElem?_eq_getElem h]; rfl
theorem fault_long {c : Cat} (h : 10 < c.blocks.length ∨ 10 < c.entries.length) : catFault c = 1 := by unfold catFault; rw [if_pos h]
theorem fault_blocks {c : Cat} (h : ¬ (10 < c.blocks.length ∨ 10 < c.entries.length)) (h2 : blocksF 8 c.blocks ≠ 0) : catFault c = 4 := by unfold catFault; rw [if_neg h, if_neg h2]
theorem fault_ents {c : Cat} (h : ¬ (10 < c.blocks.length ∨ 10 < c.entries.length)) (h2 : blocksF 8 c.blocks = 0) : catFault c = entsF c.blocks.length none c.entries := by unfold catFault; rw [if_neg h, if_pos h2]

/-! A catalog that may be. -/
theorem blocksF_range : ∀ (l : List Blk) (p : Int), 0 ≤ p → blocksF p l = 0 → ∀ b ∈ l, 0 ≤ b.bytes ∧ b.bytes ≤ 1200
  | [], _, _, _, b, hb => by cases hb
  | x :: l, p, h0, h, b, hb => by
    unfold blocksF at h
    split at h
    · exact absurd h (by decide)
    · rename_i hx
      unfold blockBad at hx
      simp only [Bool.not_eq_true, Bool.or_eq_false_iff, Bool.not_eq_false', decide_eq_false_iff_not] at hx
      obtain ⟨⟨h1, h2⟩, h3⟩ := hx
      obtain ⟨h4, h5⟩ := inB_true h2
      rcases List.mem_cons.1 hb with rfl | hb
      · exact ⟨h4, h5⟩
      · exact blocksF_range l _ (by unfold secs; omega) h b hb
theorem catFault_ok {c : Cat} (h : catFault c = 0) : c.blocks.length ≤ 10 ∧ c.entries.length ≤ 10 ∧ blocksF 8 c.blocks = 0 ∧ entsF c.blocks.length none c.entries = 0 := by
  unfold catFault at h
  split at h
  · exact absurd h (by decide)
  · split at h
    · rename_i h1 h2; exact ⟨by omega, by omega, h2, h⟩
    · exact absurd h (by decide)
theorem entsF_ok (nb : Nat) : ∀ (l : List Ent) (p : Option ByteArray), entsF nb p l = 0 → ∀ x ∈ l, entBad nb x = false
  | [], _, _, x, hx => by cases hx
  | y :: l, p, h, x, hx => by
    unfold entsF at h
    split at h
    · exact absurd h (by decide)
    · rename_i h1
      split at h
      · exact absurd h (by decide)
      · rcases List.mem_cons.1 hx with rfl | hx
        · simpa using h1
        · exact entsF_ok nb l _ h x hx
theorem entBad_false {nb : Nat} {x : Ent} (h : entBad nb x = false) : nameMay x.name = true ∧ 0 ≤ x.block ∧ x.block < nb ∧ 0 ≤ x.at_ ∧ x.at_ ≤ 600 ∧ 0 ≤ x.bytes ∧ x.bytes ≤ 200 := by
  unfold entBad at h
  simp only [Bool.or_eq_false_iff, Bool.not_eq_false'] at h
  obtain ⟨⟨⟨h1, h2⟩, h3⟩, h4⟩ := h
  have a := inB_true h2
  have b := inB_true h3
  have c := inB_true h4
  exact ⟨h1, a.1, by omega, b.1, b.2, c.1, c.2⟩
theorem nameMay_size {s : ByteArray} (h : nameMay s = true) : 1 ≤ s.size ∧ s.size ≤ 8 := by
  unfold nameMay at h
  simp only [Bool.and_eq_true, decide_eq_true_eq] at h
  exact ⟨h.1.1, h.1.2⟩
end Go.Proofs.YtokpjgpdkmimgaaDoor
