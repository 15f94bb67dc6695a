/-
  Catalogs in plain Lean: whether one may be, the next free sector, what is found, bytes and back. Conditions: none.
-/
import Derived.Test.YtgjijcgkmofaaaaGreatDoorK8
namespace Go.Proofs.YtgjijcgkmofaaaaGreatDoor
set_option linter.unusedSimpArgs false
set_option linter.unusedVariables false
open Go.RowKit

theorem bl_total : ∀ x y : List UInt8, (Op.bytesLess y x || y == x) = !(Op.bytesLess x y)
  | [], [] => rfl
  | [], _ :: _ => rfl
  | _ :: _, [] => rfl
  | a :: x, b :: y => by
    have ih := bl_total x y
    have hlt : ∀ c d : UInt8, (decide (c < d)) = decide (c.toNat < d.toNat) := fun c d => by simp [UInt8.lt_iff_toNat_lt]
    have heq : ∀ c d : UInt8, (c == d) = decide (c.toNat = d.toNat) := fun c d => by
      by_cases h : c = d
      · subst h; simp
      · have : c.toNat ≠ d.toNat := fun e => h (UInt8.toNat_inj.1 e)
        simp [h, this]
    simp only [Op.bytesLess, List.cons_beq_cons, hlt, heq]
    rcases Nat.lt_trichotomy a.toNat b.toNat with h | h | h
    · have h1 : ¬ b.toNat < a.toNat := by omega
      have h2 : ¬ b.toNat = a.toNat := by omega
      simp [h, h1, h2]
    · simp [h, ih]
    · have h1 : ¬ a.toNat < b.toNat := by omega
      have h2 : ¬ a.toNat = b.toNat := by omega
      simp [h, h1, h2]
def secs (n : Int) : Int := (n + 23) / 24
def blockBad (p : Int) (b : Blk) : Bool := decide (b.first ≠ p) || !(inB b.bytes 0 1200) || decide (64 < p + secs b.bytes)
def blocksF (p : Int) : List Blk → Int
  | [] => 0
  | b :: l => if blockBad p b then 4 else blocksF (p + secs b.bytes) l
def entBad (nb : Nat) (x : Ent) : Bool := !(nameMay x.name) || !(inB x.block 0 ((nb : Int) - 1)) || !(inB x.at_ 0 600) || !(inB x.bytes 0 200)
/-- The names are in order. -/
def orderBad (p : Option ByteArray) (s : ByteArray) : Bool := match p with | none => false | some q => !(Op.bytesLess q.toList s.toList)
def entsF (nb : Nat) (p : Option ByteArray) : List Ent → Int
  | [] => 0
  | x :: l => if entBad nb x then 4 else if orderBad p x.name then 12 else entsF nb (some x.name) l
def catFault (c : Cat) : Int :=
  if 10 < c.blocks.length ∨ 10 < c.entries.length then 1 else if blocksF 8 c.blocks = 0 then entsF c.blocks.length none c.entries else 4
def nextAt (p : Int) : List Blk → Int
  | [] => p
  | b :: l => nextAt (p + secs b.bytes) l
def nextS (c : Cat) : Int × Int := if catFault c = 0 then (nextAt 8 c.blocks, 0) else (0, catFault c)
def noEnt : Ent := ⟨.empty, 0, 0, 0⟩
def findS (c : Cat) (name : ByteArray) : Ent × Int :=
  if catFault c = 0 then (match c.entries.find? (fun x => decide (lst x.name = lst name)) with | some x => (x, 0) | none => (noEnt, 6)) else (noEnt, catFault c)
def twoB (n : Int) : List UInt8 := [byte (n / 256), byte (n % 256)]
def entBytes (x : Ent) : List UInt8 := byte x.name.size :: (lst x.name ++ [byte x.block, byte (x.at_ / 256), byte (x.at_ % 256), byte x.bytes])
def catBytes (c : Cat) : List UInt8 := byte c.blocks.length :: (c.blocks.flatMap (fun b => twoB b.bytes) ++ byte c.entries.length :: c.entries.flatMap entBytes)
def encCatS (c : Cat) : ByteArray × Int := if catFault c = 0 then (bs (catBytes c), 0) else (.empty, catFault c)
def decBlocks : Nat → Int → List UInt8 → Option (List Blk × List UInt8)
  | 0, _, l => some ([], l)
  | n + 1, p, a :: b :: l => (decBlocks n (p + secs (256 * (a.toNat : Int) + b.toNat)) l).map fun x => (⟨p, 256 * (a.toNat : Int) + b.toNat⟩ :: x.1, x.2)
  | _ + 1, _, _ => none
def entAt (m : Nat) (l : List UInt8) : Ent := ⟨bs (l.take m), (l.getD m 0).toNat, 256 * ((l.getD (m + 1) 0).toNat : Int) + (l.getD (m + 2) 0).toNat, (l.getD (m + 3) 0).toNat⟩
def decEnts : Nat → List UInt8 → Option (List Ent × List UInt8)
  | 0, l => some ([], l)
  | n + 1, m :: l => if l.length < m.toNat + 4 then none else (decEnts n (l.drop (m.toNat + 4))).map fun x => (entAt m.toNat l :: x.1, x.2)
  | _ + 1, [] => none
def noCat : Cat := ⟨[], []⟩
def endCat (bl : List Blk) (es : List Ent) (r : List UInt8) : Cat × Int :=
  if r.all (· == 0) then (if catFault ⟨bl, es⟩ = 0 then (⟨bl, es⟩, 0) else (noCat, catFault ⟨bl, es⟩)) else (noCat, 4)
def decCatL (l : List UInt8) : Cat × Int :=
  match l with
  | [] => (noCat, 5)
  | n :: l => match decBlocks n.toNat 8 l with
    | none => (noCat, 5)
    | some (_, []) => (noCat, 5)
    | some (bl, k :: r) => match decEnts k.toNat r with
      | none => (noCat, 5)
      | some (es, r') => endCat bl es r'
def decCatS (s : ByteArray) : Cat × Int := decCatL (lst s)

/-- The name ahead of the k-th entry. -/
def prevOf (l : List Ent) (k : Nat) : Option ByteArray := match k with | 0 => none | j + 1 => some (l.getD j noEnt).name
theorem drop_at {α : Type} (l : List α) (k : Nat) (h : k < l.length) : l.drop k = l[k] :: l.drop (k + 1) := List.drop_eq_getElem_cons h
theorem blocks_stop {p : Int} {b : Blk} {l : List Blk} (h : blockBad p b = true) : blocksF p (b :: l) = 4 := by unfold blocksF; rw [if_pos h]
theorem blocks_go {p : Int} {b : Blk} {l : List Blk} (h : blockBad p b = false) : blocksF p (b :: l) = blocksF (p + secs b.bytes) l := by rw [blocksF, if_neg (by simp [h])]
theorem ents_stop {nb : Nat} {p : Option ByteArray} {x : Ent} {l : List Ent} (h : entBad nb x = true) : entsF nb p (x :: l) = 4 := by unfold entsF; rw [if_pos h]
theorem ents_order {nb : Nat} {p : Option ByteArray} {x : Ent} {l : List Ent} (h : entBad nb x = false) (h2 : orderBad p x.name = true) : entsF nb p (x :: l) = 12 := by unfold entsF; rw [if_neg (by simp [h]), if_pos h2]
theorem ents_go {nb : Nat} {p : Option ByteArray} {x : Ent} {l : List Ent} (h : entBad nb x = false) (h2 : orderBad p x.name = false) : entsF nb p (x :: l) = entsF nb (some x.name) l := by rw [entsF, if_neg (by simp [h]), if_neg (by simp [h2])]
theorem prev_next (l : List Ent) (k : Nat) (h : k < l.length) : prevOf l (k + 1) = some l[k].name := by
  unfold prevOf; simp only; rw [List.getD_eq_getElem?_getD, List.getElem?_eq_getElem h]; rfl
theorem fault_long {c : Cat} (h : 10 < c.blocks.length ∨ 10 < c.entries.length) : catFault c = 1 := by unfold catFault; rw [if_pos h]
theorem fault_blocks {c : Cat} (h : ¬ (10 < c.blocks.length ∨ 10 < c.entries.length)) (h2 : blocksF 8 c.blocks ≠ 0) : catFault c = 4 := by unfold catFault; rw [if_neg h, if_neg h2]
theorem fault_ents {c : Cat} (h : ¬ (10 < c.blocks.length ∨ 10 < c.entries.length)) (h2 : blocksF 8 c.blocks = 0) : catFault c = entsF c.blocks.length none c.entries := by unfold catFault; rw [if_neg h, if_pos h2]

/-! A catalog that may be. -/
theorem blocksF_range : ∀ (l : List Blk) (p : Int), 0 ≤ p → blocksF p l = 0 → ∀ b ∈ l, 0 ≤ b.bytes ∧ b.bytes ≤ 1200
  | [], _, _, _, b, hb => by cases hb
  | x :: l, p, h0, h, b, hb => by
    unfold blocksF at h
    split at h
    · exact absurd h (by decide)
    · rename_i hx
      unfold blockBad at hx
      simp only [Bool.not_eq_true, Bool.or_eq_false_iff, Bool.not_eq_false', decide_eq_false_iff_not] at hx
      obtain ⟨⟨h1, h2⟩, h3⟩ := hx
      obtain ⟨h4, h5⟩ := inB_true h2
      rcases List.mem_cons.1 hb with rfl | hb
      · exact ⟨h4, h5⟩
      · exact blocksF_range l _ (by unfold secs; omega) h b hb
theorem catFault_ok {c : Cat} (h : catFault c = 0) : c.blocks.length ≤ 10 ∧ c.entries.length ≤ 10 ∧ blocksF 8 c.blocks = 0 ∧ entsF c.blocks.length none c.entries = 0 := by
  unfold catFault at h
  split at h
  · exact absurd h (by decide)
  · split at h
    · rename_i h1 h2; exact ⟨by omega, by omega, h2, h⟩
    · exact absurd h (by decide)
theorem entsF_ok (nb : Nat) : ∀ (l : List Ent) (p : Option ByteArray), entsF nb p l = 0 → ∀ x ∈ l, entBad nb x = false
  | [], _, _, x, hx => by cases hx
  | y :: l, p, h, x, hx => by
    unfold entsF at h
    split at h
    · exact absurd h (by decide)
    · rename_i h1
      split at h
      · exact absurd h (by decide)
      · rcases List.mem_cons.1 hx with rfl | hx
        · simpa using h1
        · exact entsF_ok nb l _ h x hx
theorem entBad_false {nb : Nat} {x : Ent} (h : entBad nb x = false) : nameMay x.name = true ∧ 0 ≤ x.block ∧ x.block < nb ∧ 0 ≤ x.at_ ∧ x.at_ ≤ 600 ∧ 0 ≤ x.bytes ∧ x.bytes ≤ 200 := by
  unfold entBad at h
  simp only [Bool.or_eq_false_iff, Bool.not_eq_false'] at h
  obtain ⟨⟨⟨h1, h2⟩, h3⟩, h4⟩ := h
  have a := inB_true h2
  have b := inB_true h3
  have c := inB_true h4
  exact ⟨h1, a.1, by omega, b.1, b.2, c.1, c.2⟩
theorem nameMay_size {s : ByteArray} (h : nameMay s = true) : 1 ≤ s.size ∧ s.size ≤ 8 := by
  unfold nameMay at h
  simp only [Bool.and_eq_true, decide_eq_true_eq] at h
  exact ⟨h.1.1, h.1.2⟩
end Go.Proofs.YtgjijcgkmofaaaaGreatDoor

/-
  A catalog is read as it was written, with 0s behind it, but with nothing else; cut short it is not. In plain Lean. Conditions: none.
-/
namespace Go.Proofs.YtgjijcgkmofaaaaGreatDoor
set_option linter.unusedSimpArgs false
set_option linter.unusedVariables false
open Go.RowKit

theorem byte_nat (n : Int) (h0 : 0 ≤ n) (h1 : n < 256) : (byte n).toNat = n.toNat := by
  have := byte_toNat n h0 h1; omega
theorem two_back (n : Int) (h0 : 0 ≤ n) (h1 : n ≤ 65535) : 256 * ((byte (n / 256)).toNat : Int) + ((byte (n % 256)).toNat : Int) = n := by
  rw [byte_toNat _ (by omega) (by omega), byte_toNat _ (by omega) (by omega)]; omega
/-- Blocks as they must lie. -/
theorem blocks_back : ∀ (l : List Blk) (p : Int) (r : List UInt8), 0 ≤ p → blocksF p l = 0 → decBlocks l.length p (l.flatMap (fun b => twoB b.bytes) ++ r) = some (l, r)
  | [], _, _, _, _ => rfl
  | b :: l, p, r, h0, h => by
    have hr := blocksF_range (b :: l) p h0 h b (List.mem_cons_self ..)
    unfold blocksF at h
    split at h
    · exact absurd h (by decide)
    · rename_i hb
      unfold blockBad at hb
      simp only [Bool.not_eq_true, Bool.or_eq_false_iff, decide_eq_false_iff_not, Decidable.not_not] at hb
      have ih := blocks_back l (p + secs b.bytes) r (by unfold secs; omega) h
      rw [List.flatMap_cons, List.append_assoc]
      show decBlocks (l.length + 1) p (byte (b.bytes / 256) :: byte (b.bytes % 256) :: (l.flatMap (fun b => twoB b.bytes) ++ r)) = _
      rw [decBlocks, two_back _ (by omega) (by omega), ih]
      obtain ⟨f, n⟩ := b
      simp only at hb
      rw [hb.1.1]
      rfl
theorem ent_back (x : Ent) (nb : Nat) (hn : nb ≤ 10) (h : entBad nb x = false) (r : List UInt8) :
    entAt x.name.size ((lst x.name ++ [byte x.block, byte (x.at_ / 256), byte (x.at_ % 256), byte x.bytes]) ++ r) = x := by
  obtain ⟨h1, h2, h3, h4, h5, h6, h7⟩ := entBad_false h
  have hl : (lst x.name).length = x.name.size := length_lst _
  unfold entAt
  rw [List.append_assoc, List.take_left' hl, bs_lst]
  have g : ∀ j, j < 4 → (lst x.name ++ ([byte x.block, byte (x.at_ / 256), byte (x.at_ % 256), byte x.bytes] ++ r)).getD (x.name.size + j) 0 = [byte x.block, byte (x.at_ / 256), byte (x.at_ % 256), byte x.bytes].getD j 0 := by
    intro j hj
    rw [List.getD_eq_getElem?_getD, List.getElem?_append_right (by omega), hl, Nat.add_sub_cancel_left, List.getElem?_append_left (by simpa using hj), ← List.getD_eq_getElem?_getD]
  have g0 := g 0 (by omega)
  have g1 := g 1 (by omega)
  have g2 := g 2 (by omega)
  have g3 := g 3 (by omega)
  rw [Nat.add_zero] at g0
  rw [g0, g1, g2, g3]
  show (⟨x.name, ((byte x.block).toNat : Int), 256 * ((byte (x.at_ / 256)).toNat : Int) + ((byte (x.at_ % 256)).toNat : Int), ((byte x.bytes).toNat : Int)⟩ : Ent) = x
  rw [two_back _ (by omega) (by omega), byte_toNat _ (by omega) (by omega), byte_toNat _ (by omega) (by omega)]
theorem ents_back (nb : Nat) (hn : nb ≤ 10) : ∀ (l : List Ent) (r : List UInt8), (∀ x ∈ l, entBad nb x = false) → decEnts l.length (l.flatMap entBytes ++ r) = some (l, r)
  | [], _, _ => rfl
  | x :: l, r, h => by
    have hx := h x (List.mem_cons_self ..)
    have ih := ents_back nb hn l r (fun y hy => h y (List.mem_cons_of_mem _ hy))
    obtain ⟨h1, _⟩ := entBad_false hx
    have hs := nameMay_size h1
    rw [List.flatMap_cons, List.append_assoc]
    show decEnts (l.length + 1) (byte x.name.size :: ((lst x.name ++ [byte x.block, byte (x.at_ / 256), byte (x.at_ % 256), byte x.bytes]) ++ (l.flatMap entBytes ++ r))) = _
    rw [decEnts, byte_nat _ (by omega) (by omega)]
    have hl : (lst x.name ++ [byte x.block, byte (x.at_ / 256), byte (x.at_ % 256), byte x.bytes]).length = x.name.size + 4 := by rw [List.length_append, length_lst]; rfl
    rw [show ((x.name.size : Int)).toNat = x.name.size from rfl, if_neg (by rw [List.length_append, hl]; omega), ent_back x nb hn hx, List.drop_left' hl, ih]
    rfl
theorem cat_back (c : Cat) (h : catFault c = 0) (r : List UInt8) : decCatL (catBytes c ++ r) = if r.all (· == 0) then (c, 0) else (noCat, 4) := by
  obtain ⟨h1, h2, h3, h4⟩ := catFault_ok h
  have he := entsF_ok _ _ _ h4
  unfold catBytes
  rw [List.cons_append, List.append_assoc, List.cons_append]
  unfold decCatL
  simp only [byte_nat (c.blocks.length : Int) (by omega) (by omega), Int.toNat_natCast, blocks_back c.blocks 8 _ (by omega) h3, byte_nat (c.entries.length : Int) (by omega) (by omega), ents_back _ h1 c.entries r he]
  unfold endCat
  split
  · first | rfl | rw [if_pos h]
  · rfl
/-! Cut short. -/
theorem pre_split {α : Type} {t a b : List α} (h : t <+: a ++ b) (hl : a.length ≤ t.length) : ∃ t2, t = a ++ t2 ∧ t2 <+: b := by
  obtain ⟨r, hr⟩ := h
  have h1 : t.take a.length = a := by
    have := congrArg (List.take a.length) hr
    rwa [List.take_append_of_le_length hl, List.take_left' rfl] at this
  refine ⟨t.drop a.length, ?_, r, ?_⟩
  · have := List.take_append_drop a.length t
    rw [h1] at this; exact this.symm
  · have := congrArg (List.drop a.length) hr
    rwa [List.drop_append_of_le_length hl, List.drop_left' rfl] at this
theorem pre_short {α : Type} {t a b : List α} (h : t <+: a ++ b) (hl : t.length ≤ a.length) : t <+: a := List.prefix_of_prefix_length_le h (List.prefix_append a b) hl
theorem blocks_cut : ∀ (l : List Blk) (p : Int) (t : List UInt8), t.length < (l.flatMap (fun b => twoB b.bytes)).length → t <+: l.flatMap (fun b => twoB b.bytes) → decBlocks l.length p t = none
  | [], _, t, h, _ => by simp at h
  | b :: l, p, t, h, hp => by
    match t with
    | [] => rfl
    | [a] => rfl
    | a :: a' :: t =>
      rw [List.flatMap_cons] at hp h
      have hp' : a :: a' :: t <+: byte (b.bytes / 256) :: byte (b.bytes % 256) :: l.flatMap (fun b => twoB b.bytes) := hp
      rw [List.cons_prefix_cons, List.cons_prefix_cons] at hp'
      have hlen : t.length < (l.flatMap (fun b => twoB b.bytes)).length := by
        have h' : (a :: a' :: t).length < (byte (b.bytes / 256) :: byte (b.bytes % 256) :: l.flatMap (fun b => twoB b.bytes)).length := h
        simp only [List.length_cons] at h'; omega
      show decBlocks (l.length + 1) p (a :: a' :: t) = none
      rw [decBlocks, blocks_cut l _ t hlen hp'.2.2]
      rfl
theorem ents_cut (nb : Nat) (hn : nb ≤ 10) : ∀ (l : List Ent) (t : List UInt8), (∀ x ∈ l, entBad nb x = false) → t <+: l.flatMap entBytes → t.length < (l.flatMap entBytes).length → decEnts l.length t = none
  | [], t, _, _, h => by simp at h
  | x :: l, t, he, hp, h => by
    match t with
    | [] => rfl
    | m :: t =>
      have hx := entBad_false (he x (List.mem_cons_self ..))
      have hs := nameMay_size hx.1
      rw [List.flatMap_cons] at hp h
      have hp' : m :: t <+: byte x.name.size :: ((lst x.name ++ [byte x.block, byte (x.at_ / 256), byte (x.at_ % 256), byte x.bytes]) ++ l.flatMap entBytes) := hp
      rw [List.cons_prefix_cons] at hp'
      obtain ⟨rfl, hp2⟩ := hp'
      have hl : (lst x.name ++ [byte x.block, byte (x.at_ / 256), byte (x.at_ % 256), byte x.bytes]).length = x.name.size + 4 := by rw [List.length_append, length_lst]; rfl
      have hm : (byte (x.name.size : Int)).toNat = x.name.size := by rw [byte_nat _ (by omega) (by omega)]; rfl
      show decEnts (l.length + 1) (_ :: t) = none
      unfold decEnts
      rw [hm]
      by_cases hc : t.length < x.name.size + 4
      · rw [if_pos hc]
      · rw [if_neg hc]
        obtain ⟨t2, rfl, hp3⟩ := pre_split hp2 (by rw [hl]; omega)
        have h' : (byte (x.name.size : Int) :: ((lst x.name ++ [byte x.block, byte (x.at_ / 256), byte (x.at_ % 256), byte x.bytes]) ++ t2)).length < (byte (x.name.size : Int) :: ((lst x.name ++ [byte x.block, byte (x.at_ / 256), byte (x.at_ % 256), byte x.bytes]) ++ l.flatMap entBytes)).length := h
        rw [List.length_cons, List.length_cons, List.length_append, List.length_append (bs := l.flatMap entBytes)] at h'
        rw [List.drop_left' hl, ents_cut nb hn l t2 (fun y hy => he y (List.mem_cons_of_mem _ hy)) hp3 (by omega)]
        rfl
theorem cat_cut (c : Cat) (h : catFault c = 0) (t : List UInt8) (hp : t <+: catBytes c) (hl : t.length < (catBytes c).length) : decCatL t = (noCat, 5) := by
  obtain ⟨h1, h2, h3, h4⟩ := catFault_ok h
  have he := entsF_ok _ _ _ h4
  unfold catBytes at hp hl
  match t with
  | [] => rfl
  | n :: t =>
    rw [List.cons_prefix_cons] at hp
    obtain ⟨rfl, hp⟩ := hp
    rw [List.length_cons, List.length_cons] at hl
    unfold decCatL
    simp only [byte_nat (c.blocks.length : Int) (by omega) (by omega), Int.toNat_natCast]
    by_cases hb : t.length < (c.blocks.flatMap (fun b => twoB b.bytes)).length
    · rw [blocks_cut c.blocks 8 t hb (pre_short hp (by omega))]
    · obtain ⟨t2, rfl, hp2⟩ := pre_split hp (by omega)
      rw [blocks_back c.blocks 8 t2 (by omega) h3]
      match t2 with
      | [] => rfl
      | k :: t3 =>
        rw [List.cons_prefix_cons] at hp2
        obtain ⟨rfl, hp3⟩ := hp2
        rw [List.length_append, List.length_append, List.length_cons, List.length_cons] at hl
        simp only [byte_nat (c.entries.length : Int) (by omega) (by omega), Int.toNat_natCast, ents_cut _ h1 c.entries t3 he hp3 (by omega)]
end Go.Proofs.YtgjijcgkmofaaaaGreatDoor

/-
  catalog.Check and the document's CatalogFault: whether a catalog may be; the law CatalogChecks. Conditions: the argument reads as a catalog.
-/
namespace Go.Proofs.YtgjijcgkmofaaaaGreatDoor
set_option linter.unusedSimpArgs false
set_option linter.unusedVariables false
open Go.RowKit


set_option maxRecDepth 100000 in
set_option maxHeartbeats 16000000 in
theorem catCheck_any (cs : List Value) (d : Cat) (w : World) (h : RCat w cs d) :
    Calls Tryz.prog 84 #[.agg cs.toArray] w fun e w' => e = .returned (.int .i64 (catFault d)) ∧ Ext w w' := by
  obtain ⟨v1, v2, rfl, h1, h2'⟩ := h
  have hnames := h2'.mem encEnt_ok w
  have hbnums := h1.mem encBlk_ok w
  obtain ⟨A1, c1, rfl, l1, hc1, p1⟩ := h1.rowE encBlk_ok
  obtain ⟨A2, c2, rfl, l2, hc2, s1⟩ := h2'.rowE encEnt_ok
  clear h1 h2' l1 l2 hc1 hc2
  have HNM := Lib.hid hnames
  have HP := Lib.hid p1
  have HS := Lib.hid s1
  clear hnames p1 s1 hbnums
  go_enter Tryz.func84, Tryz.ntmps84
  by_cases hlong : 10 < d.blocks.length ∨ 10 < d.entries.length
  · have HF := Lib.hid (fault_long hlong)
    have hcs : decide ((10 : Int) < (d.blocks.length : Int)) = true ∨ (decide ((10 : Int) < (d.blocks.length : Int)) = false ∧ decide ((10 : Int) < (d.entries.length : Int)) = true) := by
      simp only [decide_eq_true_eq, decide_eq_false_iff_not]; omega
    clear hlong
    rcases hcs with t1 | ⟨t1, t2⟩
    · go_wp2_with fail
      go_ret
      exact ⟨ret_int HF.out.symm, (Ext.refl _).alloc _⟩
    · go_wp2_with fail
      go_ret
      exact ⟨ret_int HF.out.symm, (Ext.refl _).alloc _⟩
  · have t1 : decide ((10 : Int) < (d.blocks.length : Int)) = false := by simp; omega
    have t2 : decide ((10 : Int) < (d.entries.length : Int)) = false := by simp; omega
    have HL := Lib.hid hlong
    have HN := Lib.hid (And.intro (show d.blocks.length ≤ 10 by omega) (show d.entries.length ≤ 10 by omega))
    clear hlong
    go_wp2_with fail
    refine wp_abs (fun W => Ext w W ∧ Blk_ W w.heap.size 88 #[.slice A1 d.blocks.length c1, .slice A2 d.entries.length c2]) ⟨(Ext.refl _).alloc _, Blk_.new _ _ _⟩ ?_
    rintro W ⟨hx, hb⟩
    go_loopw [3, 21] (fun pv i wr => ∃ (k : Nat) (p : Int), i = .int .i64 k ∧ pv = .int .i64 p ∧ k ≤ d.blocks.length ∧ 8 ≤ p ∧ p ≤ 64 ∧ Ext w wr ∧ Blk_ wr w.heap.size 88 #[.slice A1 d.blocks.length c1, .slice A2 d.entries.length c2] ∧ blocksF p (d.blocks.drop k) = blocksF 8 d.blocks) (fun _ i _ => d.blocks.length - (intOf i).toNat)
    case atStart => exact ⟨0, 8, rfl, rfl, Nat.zero_le _, by omega, by omega, hx, hb, rfl⟩
    case round =>
      clear hx hb t1 t2
      obtain ⟨k, p, rfl, rfl, hk, hp8, hp64, hx, hb, heq⟩ := hrel
      have f0 := hb.cell 0
      have f1 := hb.cell 1
      simp at f0 f1
      have HEQ := Lib.hid heq
      clear heq
      by_cases hlt : k < d.blocks.length
      · obtain ⟨b1, o1, rfl, g1⟩ := HP.out k hlt
        have q0 := hx.cell (g1 k hlt 0 _ rfl)
        have q1 := hx.cell (g1 k hlt 1 _ rfl)
        simp only [Nat.add_zero] at q0
        have HG := Lib.hid (show blocksF p (d.blocks[k] :: d.blocks.drop (k + 1)) = blocksF 8 d.blocks by rw [← drop_at d.blocks k hlt]; exact HEQ.out)
        obtain ⟨B, hB⟩ : ∃ B, B = d.blocks[k] := ⟨_, rfl⟩
        rw [← hB] at q0 q1 HG
        clear g1 hB HEQ
        have hki : (k : Int) < (d.blocks.length : Int) := by omega
        have hk10 : (k : Int) < 10 := by have := HN.out.1; omega
        have hcs : ((B.first != p) = true ∧ blockBad p B = true) ∨ ((B.first != p) = false ∧ decide (B.bytes < 0) = true ∧ blockBad p B = true) ∨ ((B.first != p) = false ∧ decide (B.bytes < 0) = false ∧ decide ((1200 : Int) < B.bytes) = true ∧ blockBad p B = true) ∨
            ((B.first != p) = false ∧ decide (B.bytes < 0) = false ∧ decide ((1200 : Int) < B.bytes) = false ∧ 0 ≤ B.bytes ∧ B.bytes ≤ 1200 ∧ decide (64 < p + (B.bytes + 23) / 24) = true ∧ blockBad p B = true) ∨
            ((B.first != p) = false ∧ decide (B.bytes < 0) = false ∧ decide ((1200 : Int) < B.bytes) = false ∧ 0 ≤ B.bytes ∧ B.bytes ≤ 1200 ∧ decide (64 < p + (B.bytes + 23) / 24) = false ∧ blockBad p B = false) := by
          unfold blockBad secs inB
          by_cases k1 : B.first = p
          · by_cases k2 : B.bytes < 0
            · simp [k1, k2] <;> omega
            · by_cases k3 : 1200 < B.bytes
              · simp [k1, k2, k3] <;> omega
              · by_cases k4 : 64 < p + (B.bytes + 23) / 24
                · simp [k1, k2, k3, k4] <;> omega
                · simp [k1, k2, k3, k4] <;> omega
          · simp [k1]
        rcases hcs with ⟨t1, hbad⟩ | ⟨t1, t2, hbad⟩ | ⟨t1, t2, t3, hbad⟩ | ⟨t1, t2, t3, u1, u2, t4, hbad⟩ | ⟨t1, t2, t3, u1, u2, t4, hbad⟩
        · have HF := Lib.hid (fault_blocks HL.out (by rw [← HG.out, blocks_stop hbad]; decide))
          clear hbad
          go_wp2_with fail
          go_ret
          exact ⟨ret_int HF.out.symm, hx.alloc _⟩
        · have HF := Lib.hid (fault_blocks HL.out (by rw [← HG.out, blocks_stop hbad]; decide))
          clear hbad
          go_wp2_with fail
          go_ret
          exact ⟨ret_int HF.out.symm, hx.alloc _⟩
        · have HF := Lib.hid (fault_blocks HL.out (by rw [← HG.out, blocks_stop hbad]; decide))
          clear hbad
          go_wp2_with fail
          go_ret
          exact ⟨ret_int HF.out.symm, hx.alloc _⟩
        · have HF := Lib.hid (fault_blocks HL.out (by rw [← HG.out, blocks_stop hbad]; decide))
          clear hbad
          go_wp2_with (first | (go_at_call 52; refine (sectors_any _ _ u1 (by omega)).mono ?_; rintro e w9 ⟨rfl, rfl⟩))
          go_ret
          exact ⟨ret_int HF.out.symm, hx.alloc _⟩
        · have HST := Lib.hid (show blocksF (p + (B.bytes + 23) / 24) (d.blocks.drop (k + 1)) = blocksF 8 d.blocks by rw [← HG.out, blocks_go hbad]; rfl)
          have hp64' : p + (B.bytes + 23) / 24 ≤ 64 := by simpa using t4
          clear hbad HG
          go_wp2_with (first | (go_at_call 52; refine (sectors_any _ _ u1 (by omega)).mono ?_; rintro e w9 ⟨rfl, rfl⟩))
          go_roundw
          case rel => exact ⟨k + 1, p + (B.bytes + 23) / 24, by go_num, by go_num, by omega, by omega, hp64', hx.alloc _, hb.alloc _, HST.out⟩
          case measure => simp [intOf]; omega
      · have hz : blocksF 8 d.blocks = 0 := by rw [← HEQ.out, List.drop_of_length_le (by omega)]; rfl
        have HFE := Lib.hid (fault_ents HL.out hz)
        clear hz HEQ
        have hk10 : (k : Int) ≤ 10 := by have := HN.out.1; omega
        go_wp2_with fail
        go_loopw [50] (fun i wr => ∃ k : Nat, i = .int .i64 k ∧ k ≤ d.entries.length ∧ Ext w wr ∧ Blk_ wr w.heap.size 88 #[.slice A1 d.blocks.length c1, .slice A2 d.entries.length c2] ∧ entsF d.blocks.length (prevOf d.entries k) (d.entries.drop k) = entsF d.blocks.length none d.entries) (fun i _ => d.entries.length - (intOf i).toNat)
        case atStart => exact ⟨0, rfl, Nat.zero_le _, hx, hb, rfl⟩
        case round =>
          clear hx hb f0 f1 hlt hk hk10 hp8 hp64
          obtain ⟨k, rfl, hk, hx, hb, heq⟩ := hrel
          have f0 := hb.cell 0
          have f1 := hb.cell 1
          simp at f0 f1
          have HEQ := Lib.hid heq
          clear heq
          have hnb10 : (d.blocks.length : Int) ≤ 10 := by have := HN.out.1; omega
          by_cases hlt : k < d.entries.length
          · obtain ⟨b2, o2, rfl, g1⟩ := HS.out k hlt
            have q0 := hx.cell (g1 k hlt 0 _ rfl)
            have q1 := hx.cell (g1 k hlt 1 _ rfl)
            have q2 := hx.cell (g1 k hlt 2 _ rfl)
            have q3 := hx.cell (g1 k hlt 3 _ rfl)
            simp only [Nat.add_zero] at q0
            have HG := Lib.hid (show entsF d.blocks.length (prevOf d.entries k) (d.entries[k] :: d.entries.drop (k + 1)) = entsF d.blocks.length none d.entries by rw [← drop_at d.entries k hlt]; exact HEQ.out)
            have HNX := Lib.hid (prev_next d.entries k hlt)
            have hsz := (HNM.out d.entries[k] (List.getElem_mem hlt)).2.1
            obtain ⟨X, hX⟩ : ∃ X, X = d.entries[k] := ⟨_, rfl⟩
            rw [← hX] at q0 q1 q2 q3 HG hsz HNX
            have HSZ := Lib.hid hsz
            have HCELL := Lib.hid g1
            clear g1 hX HEQ hsz
            have hki : (k : Int) < (d.entries.length : Int) := by omega
            have hk10 : (k : Int) < 10 := by have := HN.out.2; omega
            go_wp2_with fail
            refine calls_abs (fun W => Ext wr W ∧ Blk_ W wr.heap.size 113 #[.string X.name, .int .i64 X.block, .int .i64 X.at_, .int .i64 X.bytes]) ⟨(Ext.refl _).alloc _, Blk_.new _ _ _⟩ ?_
            rintro W1 ⟨hx1, hbx⟩
            refine (name_any X.name W1 HSZ.out).mono ?_
            rintro e w2 ⟨rfl, hx2⟩
            have hx12 := hx1.trans hx2
            have e0 := (hbx.ext hx2).cell 0
            have e1 := (hbx.ext hx2).cell 1
            have e2 := (hbx.ext hx2).cell 2
            have e3 := (hbx.ext hx2).cell 3
            simp at e0 e1 e2 e3
            have f0' := hx12.cell f0
            have f1' := hx12.cell f1
            have HX2 := Lib.hid (hx.trans hx12)
            have HB2 := Lib.hid (hb.ext hx12)
            clear f0 f1 q0 q1 q2 q3 hbx hx1 hx2 hx12 hb
            have hcs : (nameMay X.name = false ∧ entBad d.blocks.length X = true) ∨ (nameMay X.name = true ∧ decide (X.block < 0) = true ∧ entBad d.blocks.length X = true) ∨ (nameMay X.name = true ∧ decide (X.block < 0) = false ∧ decide ((d.blocks.length : Int) ≤ X.block) = true ∧ entBad d.blocks.length X = true) ∨
                (nameMay X.name = true ∧ decide (X.block < 0) = false ∧ decide ((d.blocks.length : Int) ≤ X.block) = false ∧ decide (X.at_ < 0) = true ∧ entBad d.blocks.length X = true) ∨
                (nameMay X.name = true ∧ decide (X.block < 0) = false ∧ decide ((d.blocks.length : Int) ≤ X.block) = false ∧ decide (X.at_ < 0) = false ∧ decide ((600 : Int) < X.at_) = true ∧ entBad d.blocks.length X = true) ∨
                (nameMay X.name = true ∧ decide (X.block < 0) = false ∧ decide ((d.blocks.length : Int) ≤ X.block) = false ∧ decide (X.at_ < 0) = false ∧ decide ((600 : Int) < X.at_) = false ∧ decide (X.bytes < 0) = true ∧ entBad d.blocks.length X = true) ∨
                (nameMay X.name = true ∧ decide (X.block < 0) = false ∧ decide ((d.blocks.length : Int) ≤ X.block) = false ∧ decide (X.at_ < 0) = false ∧ decide ((600 : Int) < X.at_) = false ∧ decide (X.bytes < 0) = false ∧ decide ((200 : Int) < X.bytes) = true ∧ entBad d.blocks.length X = true) ∨
                (nameMay X.name = true ∧ decide (X.block < 0) = false ∧ decide ((d.blocks.length : Int) ≤ X.block) = false ∧ decide (X.at_ < 0) = false ∧ decide ((600 : Int) < X.at_) = false ∧ decide (X.bytes < 0) = false ∧ decide ((200 : Int) < X.bytes) = false ∧ entBad d.blocks.length X = false) := by
              unfold entBad inB
              cases k0 : nameMay X.name with
              | false => simp
              | true =>
                by_cases k1 : X.block < 0
                · simp [k1] <;> omega
                · by_cases k2 : (d.blocks.length : Int) ≤ X.block
                  · simp [k1, k2] <;> omega
                  · by_cases k3 : X.at_ < 0
                    · simp [k1, k2, k3] <;> omega
                    · by_cases k4 : (600 : Int) < X.at_
                      · simp [k1, k2, k3, k4] <;> omega
                      · by_cases k5 : X.bytes < 0
                        · simp [k1, k2, k3, k4, k5] <;> omega
                        · by_cases k6 : (200 : Int) < X.bytes
                          · simp [k1, k2, k3, k4, k5, k6] <;> omega
                          · simp [k1, k2, k3, k4, k5, k6] <;> omega
            rcases hcs with ⟨t0, hbad⟩ | ⟨t0, t1, hbad⟩ | ⟨t0, t1, t2, hbad⟩ | ⟨t0, t1, t2, t3, hbad⟩ | ⟨t0, t1, t2, t3, t4, hbad⟩ | ⟨t0, t1, t2, t3, t4, t5, hbad⟩ | ⟨t0, t1, t2, t3, t4, t5, t6, hbad⟩ | ⟨t0, t1, t2, t3, t4, t5, t6, hbad⟩
            · have HF := Lib.hid (show catFault d = 4 by rw [HFE.out, ← HG.out, ents_stop hbad])
              rw [t0]
              clear hbad t0
              go_wp2_with fail
              go_ret
              exact ⟨ret_int HF.out.symm, HX2.out⟩
            · have HF := Lib.hid (show catFault d = 4 by rw [HFE.out, ← HG.out, ents_stop hbad])
              rw [t0]
              clear hbad t0
              go_wp2_with fail
              go_ret
              exact ⟨ret_int HF.out.symm, HX2.out⟩
            · have HF := Lib.hid (show catFault d = 4 by rw [HFE.out, ← HG.out, ents_stop hbad])
              rw [t0]
              clear hbad t0
              go_wp2_with fail
              go_ret
              exact ⟨ret_int HF.out.symm, HX2.out⟩
            · have HF := Lib.hid (show catFault d = 4 by rw [HFE.out, ← HG.out, ents_stop hbad])
              rw [t0]
              clear hbad t0
              go_wp2_with fail
              go_ret
              exact ⟨ret_int HF.out.symm, HX2.out⟩
            · have HF := Lib.hid (show catFault d = 4 by rw [HFE.out, ← HG.out, ents_stop hbad])
              rw [t0]
              clear hbad t0
              go_wp2_with fail
              go_ret
              exact ⟨ret_int HF.out.symm, HX2.out⟩
            · have HF := Lib.hid (show catFault d = 4 by rw [HFE.out, ← HG.out, ents_stop hbad])
              rw [t0]
              clear hbad t0
              go_wp2_with fail
              go_ret
              exact ⟨ret_int HF.out.symm, HX2.out⟩
            · have HF := Lib.hid (show catFault d = 4 by rw [HFE.out, ← HG.out, ents_stop hbad])
              rw [t0]
              clear hbad t0
              go_wp2_with fail
              go_ret
              exact ⟨ret_int HF.out.symm, HX2.out⟩
            · rw [t0]
              cases k with
              | zero =>
                have HGO := Lib.hid (show entsF d.blocks.length (prevOf d.entries (0 + 1)) (d.entries.drop (0 + 1)) = entsF d.blocks.length none d.entries by rw [← HG.out, ents_go hbad rfl, HNX.out])
                clear hbad t0 HG HNX
                go_wp2_with fail
                go_quiet (fail)
                go_wp2_with fail
                go_roundw
                case rel => exact ⟨0 + 1, rfl, by omega, HX2.out.drewN _, HB2.out, HGO.out⟩
                case measure => simp [intOf]; omega
              | succ j =>
                have hj : j < d.entries.length := by omega
                have qp := HX2.out.cell (HCELL.out j hj 0 _ rfl)
                simp only [Nat.add_zero] at qp
                have hpv : prevOf d.entries (j + 1) = some d.entries[j].name := prev_next d.entries j hj
                obtain ⟨Y, hY⟩ : ∃ Y, Y = d.entries[j].name := ⟨_, rfl⟩
                rw [← hY] at qp hpv
                have HG2 := Lib.hid (show entsF d.blocks.length (some Y) (X :: d.entries.drop (j + 1 + 1)) = entsF d.blocks.length none d.entries by rw [← hpv]; exact HG.out)
                have hji : (j : Int) + 1 < (d.entries.length : Int) := by omega
                have hji2 : (j : Int) < (d.entries.length : Int) := by omega
                have hj10 : (j : Int) < 10 := by omega
                clear hY hpv HG hki hk10
                cases hor : Op.bytesLess Y.toList X.name.toList with
                | false =>
                  have HF := Lib.hid (show catFault d = 12 by rw [HFE.out, ← HG2.out, ents_order hbad (by show (!Op.bytesLess Y.toList X.name.toList) = true; rw [hor]; rfl)])
                  
                  clear hbad t0 HG2 HNX
                  go_wp2_with fail
                  go_quiet (fail)
                  go_wp2_with fail
                  go_ret
                  exact ⟨ret_int HF.out.symm, HX2.out.drewN _⟩
                | true =>
                  have HGO := Lib.hid (show entsF d.blocks.length (prevOf d.entries (j + 1 + 1)) (d.entries.drop (j + 1 + 1)) = entsF d.blocks.length none d.entries by rw [← HG2.out, ents_go hbad (by show (!Op.bytesLess Y.toList X.name.toList) = false; rw [hor]; rfl), HNX.out])
                  
                  clear hbad t0 HG2 HNX
                  go_wp2_with fail
                  go_quiet (fail)
                  go_wp2_with fail
                  go_roundw
                  case rel => exact ⟨j + 1 + 1, by go_num, by omega, HX2.out.drewN _, HB2.out, HGO.out⟩
                  case measure => simp [intOf]; omega
          · have HF := Lib.hid (show catFault d = 0 by rw [HFE.out, ← HEQ.out, List.drop_of_length_le (by omega)]; rfl)
            clear HEQ HFE
            go_wp2_with fail
            go_ret
            exact ⟨ret_int HF.out.symm, hx⟩

end Go.Proofs.YtgjijcgkmofaaaaGreatDoor

/-
  catalog.Next and the document's NextOf: the next free sector; the law CatalogNexts. Conditions: the argument reads as a catalog.
-/
namespace Go.Proofs.YtgjijcgkmofaaaaGreatDoor
set_option linter.unusedSimpArgs false
set_option linter.unusedVariables false
open Go.RowKit

theorem next_good {c : Cat} (h : catFault c = 0) : nextS c = (nextAt 8 c.blocks, 0) := by unfold nextS; rw [if_pos h]
theorem next_bad {c : Cat} (h : ¬ catFault c = 0) : nextS c = (0, catFault c) := by unfold nextS; rw [if_neg h]
theorem block_ok {p : Int} {b : Blk} {l : List Blk} (h : blocksF p (b :: l) = 0) : 0 ≤ b.bytes ∧ b.bytes ≤ 1200 ∧ p + secs b.bytes ≤ 64 ∧ blocksF (p + secs b.bytes) l = 0 := by
  cases hb : blockBad p b with
  | true => rw [blocks_stop hb] at h; exact absurd h (by decide)
  | false =>
    rw [blocks_go hb] at h
    unfold blockBad at hb
    simp only [Bool.or_eq_false_iff, Bool.not_eq_false', decide_eq_false_iff_not] at hb
    have := inB_true hb.1.2
    exact ⟨this.1, this.2, by omega, h⟩

set_option maxRecDepth 100000 in
set_option maxHeartbeats 4000000 in
theorem catNext_any (cs : List Value) (d : Cat) (w : World) (h : RCat w cs d) :
    Calls Tryz.prog 51 #[.agg cs.toArray] w fun e w' => e = .returned (.tuple #[.int .i64 (nextS d).1, .int .i64 (nextS d).2]) ∧ Ext w w' := by
  have h' := h
  obtain ⟨v1, v2, rfl, h1, h2'⟩ := h'
  obtain ⟨A1, c1, rfl, l1, hc1, p1⟩ := h1.rowE encBlk_ok
  have HP := Lib.hid p1
  have HH := Lib.hid h
  clear h1 h2' l1 hc1 p1 h
  go_enter Tryz.func51, Tryz.ntmps51
  go_wp2_with fail
  refine calls_abs (fun W => Ext w W ∧ Blk_ W w.heap.size 88 #[.slice A1 d.blocks.length c1, v2]) ⟨(Ext.refl _).alloc _, Blk_.new _ _ _⟩ ?_
  rintro W ⟨hx, hb⟩
  refine (catCheck_any [.slice A1 d.blocks.length c1, v2] d W (HH.out.up hx)).mono ?_
  rintro e w1 ⟨rfl, hx1⟩
  have hb1 := hb.ext hx1
  have hxw := hx.trans hx1
  have f0 := hb1.cell 0
  simp at f0
  clear hb hx hx1
  by_cases hc : catFault d = 0
  · have HF := Lib.hid (next_good hc)
    have hok := catFault_ok hc
    have HN := Lib.hid hok.1
    have HB0 := Lib.hid hok.2.2.1
    rw [hc]
    clear hc hok
    go_wp2_with fail
    go_loopw [5, 16] (fun pv i wr => ∃ (k : Nat) (p : Int), i = .int .i64 k ∧ pv = .int .i64 p ∧ k ≤ d.blocks.length ∧ 8 ≤ p ∧ p ≤ 64 ∧ Ext w wr ∧ Blk_ wr w.heap.size 88 #[.slice A1 d.blocks.length c1, v2] ∧ blocksF p (d.blocks.drop k) = 0 ∧ nextAt p (d.blocks.drop k) = nextAt 8 d.blocks) (fun _ i _ => d.blocks.length - (intOf i).toNat)
    case atStart => exact ⟨0, 8, rfl, rfl, Nat.zero_le _, by omega, by omega, hxw, hb1, HB0.out, rfl⟩
    case round =>
      clear hxw hb1 f0
      obtain ⟨k, p, rfl, rfl, hk, hp8, hp64, hx, hb, hz, heq⟩ := hrel
      have f0 := hb.cell 0
      simp at f0
      have HEQ := Lib.hid heq
      have HZ := Lib.hid hz
      clear heq hz
      by_cases hlt : k < d.blocks.length
      · obtain ⟨b1, o1, rfl, g1⟩ := HP.out k hlt
        have q0 := hx.cell (g1 k hlt 0 _ rfl)
        have q1 := hx.cell (g1 k hlt 1 _ rfl)
        simp only [Nat.add_zero] at q0
        have hz := HZ.out
        have heq := HEQ.out
        rw [drop_at d.blocks k hlt] at hz heq
        obtain ⟨B, hB⟩ : ∃ B, B = d.blocks[k] := ⟨_, rfl⟩
        rw [← hB] at q0 q1 hz heq
        obtain ⟨u1, u2, u3, u4⟩ := block_ok hz
        have u3' : p + (B.bytes + 23) / 24 ≤ 64 := u3
        have HST := Lib.hid (And.intro u4 (show nextAt (p + secs B.bytes) (d.blocks.drop (k + 1)) = nextAt 8 d.blocks from heq))
        clear g1 hB HEQ HZ hz heq u3 u4
        have hki : (k : Int) < (d.blocks.length : Int) := by omega
        have hk10 : (k : Int) < 10 := by have := HN.out; omega
        go_wp2_with (first | (go_at_call 52; refine (sectors_any _ _ u1 (by omega)).mono ?_; rintro e w9 ⟨rfl, rfl⟩))
        go_roundw
        case rel => exact ⟨k + 1, p + (B.bytes + 23) / 24, by go_num, by go_num, by omega, by omega, u3', by first | exact hx | exact hx.alloc _, by first | exact hb | exact hb.alloc _, HST.out.1, HST.out.2⟩
        case measure => simp [intOf]; omega
      · have HFE := Lib.hid (show p = nextAt 8 d.blocks by rw [← HEQ.out, List.drop_of_length_le (by omega)]; rfl)
        clear HEQ HZ
        have hk10 : (k : Int) ≤ 10 := by have := HN.out; omega
        go_wp2_with fail
        go_ret2
        rw [HF.out, ← HFE.out]
        exact ⟨rfl, hx⟩
  · have HF := Lib.hid (next_bad hc)
    have hc' : (catFault d != 0) = true := by simpa using hc
    clear hc hb1
    generalize catFault d = t at *
    go_wp2_with fail
    go_ret2
    rw [HF.out]
    exact ⟨rfl, hxw⟩

end Go.Proofs.YtgjijcgkmofaaaaGreatDoor

/-
  Both ways of writing the parity are one: what the mirrors tell after they were written. In plain Lean. Conditions: the sector may be touched, the payload is no longer than a payload may be.
-/
namespace Go.Proofs.YtgjijcgkmofaaaaGreatDoor
set_option linter.unusedSimpArgs false
set_option linter.unusedVariables false
open Go.RowKit

theorem padS_full {s : ByteArray} (h : s.size = 24) : padS s = s := by
  unfold padS; rw [h]; simp
/-- An array that may be, and stays one. -/
structure Good (a : List Dev) (m : Nat) : Prop where
  len : a.length = 3
  m0 : devMay (dv a 0) = true
  m1 : devMay (dv a 1) = true
  m2 : devMay (dv a 2) = true
  l0 : (dv a 0).sec.length = m
  l1 : (dv a 1).sec.length = m
  l2 : (dv a 2).sec.length = m / 2
theorem Good.of {a : List Dev} (h : arrMay a = true) : Good a (dv a 0).sec.length := by
  obtain ⟨h1, h2, h3, h4, _, _, _, h5, h6⟩ := arr_parts h
  exact ⟨h1, h2, h3, h4, rfl, h5, h6⟩
theorem Good.touch {a : List Dev} {m : Nat} (h : Good a m) {n : Int} (h0 : 0 ≤ n) (h1 : n < m) : touchCode (dv a 0) n = 0 ∧ touchCode (dv a 1) n = 0 :=
  ⟨touch_iff.2 ⟨h.m0, h0, by rw [h.l0]; exact h1⟩, touch_iff.2 ⟨h.m1, h0, by rw [h.l1]; exact h1⟩⟩
theorem bothS_dv {a : List Dev} (h : a.length = 3) (n : Int) (s : ByteArray) : dv (bothS a n s) 0 = (writeS (dv a 0) n n s).1 ∧ dv (bothS a n s) 1 = (writeS (dv a 1) n n s).1 ∧ dv (bothS a n s) 2 = dv a 2 ∧ (bothS a n s).length = 3 := by
  unfold bothS
  refine ⟨?_, ?_, ?_, by simp [h]⟩
  · rw [dv_set_ne _ (by decide), dv_set_self (by omega)]
  · rw [dv_set_self (by simp; omega)]
  · rw [dv_set_ne _ (by decide), dv_set_ne _ (by decide)]
theorem Good.both {a : List Dev} {m : Nat} (h : Good a m) {n : Int} (h0 : 0 ≤ n) (h1 : n < m) {s : ByteArray} (hm : m ≤ 64) (hs : s.size ≤ 24) : Good (bothS a n s) m := by
  obtain ⟨t0, t1⟩ := h.touch h0 h1
  obtain ⟨e0, e1, e2, e3⟩ := bothS_dv h.len n s
  have w0 := write_may (no := n) t0 (by omega) (by omega) hs
  have w1 := write_may (no := n) t1 (by omega) (by omega) hs
  exact ⟨e3, by rw [e0]; exact w0.1, by rw [e1]; exact w1.1, by rw [e2]; exact h.m2, by rw [e0, w0.2, h.l0], by rw [e1, w1.2, h.l1], by rw [e2, h.l2]⟩
/-- What the mirrors tell of a sector that was written. -/
theorem mirror_both {a : List Dev} {m : Nat} (h : Good a m) {n : Int} (h0 : 0 ≤ n) (h1 : n < m) {s : ByteArray} (hm : m ≤ 64) (hs : s.size ≤ 24) : mirrorS (bothS a n s) n = (padS s, 1) := by
  obtain ⟨t0, t1⟩ := h.touch h0 h1
  obtain ⟨e0, e1, e2, e3⟩ := bothS_dv h.len n s
  unfold mirrorS
  rw [e0, read_write t0 (by omega) (by omega) hs, if_pos rfl]
  rfl
/-- And of another one. -/
theorem mirror_both_other {a : List Dev} {m : Nat} (h : Good a m) {n p : Int} (h0 : 0 ≤ n) (h1 : n < m) {s : ByteArray} (hm : m ≤ 64) (hs : s.size ≤ 24) (hp : 0 ≤ p) (hne : p ≠ n) : mirrorS (bothS a n s) p = mirrorS a p := by
  obtain ⟨t0, t1⟩ := h.touch h0 h1
  obtain ⟨e0, e1, e2, e3⟩ := bothS_dv h.len n s
  unfold mirrorS
  rw [e0, e1, read_write_other t0 (by omega) (by omega) hs p p hp hne, read_write_other t1 (by omega) (by omega) hs p p hp hne]
theorem mirror_two (a : List Dev) (n : Int) : (mirrorS a n).2 = 0 ∨ (mirrorS a n).2 = 1 ∨ (mirrorS a n).2 = 2 := by
  unfold mirrorS
  split
  · exact .inr (.inl rfl)
  · split
    · exact .inr (.inr rfl)
    · exact .inl rfl
theorem arrRead_cases {a : List Dev} {n : Int} (h : arrTouch a n = 0) :
    ((mirrorS a n).2 ≠ 0 ∧ arrReadS a n = ((mirrorS a n).1, (mirrorS a n).2, 0)) ∨ ((mirrorS a n).2 = 0 ∧ arrReadS a n = (.empty, 0, 11)) ∨ ((mirrorS a n).2 = 0 ∧ arrReadS a n = (xorS (parS a n).1 (mirrorS a (partner n)).1, 3, 0)) := by
  unfold arrReadS
  rw [if_neg (by simpa using h)]
  by_cases h1 : (mirrorS a n).2 = 0
  · right
    rw [if_neg (by simpa using h1)]
    split
    · exact .inl ⟨h1, rfl⟩
    · exact .inr ⟨h1, rfl⟩
  · left
    rw [if_pos h1]
    exact ⟨h1, rfl⟩
def writtenS (a : List Dev) (n : Int) (s : ByteArray) : List Dev :=
  (bothS (savedS a n) n s).set 2 (if (arrReadS a (partner n)).2.2 = 0 then (writeS (dv (bothS (savedS a n) n s) 2) (n / 2) (512 + n / 2) (xorS (padS s) (arrReadS a (partner n)).1)).1 else loseS (dv (bothS (savedS a n) n s) 2) (n / 2))
theorem written_eq {a : List Dev} {n : Int} {s : ByteArray} (h : arrTouch a n = 0) (hs : s.size ≤ 24) : arrWrite3 a n s = writtenS a n s := by
  obtain ⟨hm, h0, h1⟩ := arrTouch_zero.1 h
  obtain ⟨p1, p2, p3, p4, p5, p6, p7, p8, p9, p10⟩ := partner_range h
  have hg := Good.of hm
  have h64 := (arr_parts hm).2.2.2.2.2.1
  have hpm : partner n < (dv a 0).sec.length := (arrTouch_zero.1 p1).2.2
  unfold arrWrite3 writtenS
  have key : ∀ b : List Dev, Good b (dv a 0).sec.length → mirrorS b (partner n) = (if (arrReadS a (partner n)).2.2 = 0 then ((arrReadS a (partner n)).1, (mirrorS b (partner n)).2) else (.empty, 0)) → ((arrReadS a (partner n)).2.2 = 0 → (mirrorS b (partner n)).2 ≠ 0) →
      parityS (bothS b n s) n = (bothS b n s).set 2 (if (arrReadS a (partner n)).2.2 = 0 then (writeS (dv (bothS b n s) 2) (n / 2) (512 + n / 2) (xorS (padS s) (arrReadS a (partner n)).1)).1 else loseS (dv (bothS b n s) 2) (n / 2)) := by
    intro b hb hmb hne
    have e1 := mirror_both hb h0 h1 h64 hs
    have e2 := mirror_both_other hb h0 h1 h64 hs p6 p4
    unfold parityS writeP
    rw [e1, e2]
    by_cases hc : (arrReadS a (partner n)).2.2 = 0
    · rw [if_pos hc] at hmb
      rw [if_pos ⟨by show (1 : Int) ≠ 0; decide, hne hc⟩, if_pos hc, hmb]
    · rw [if_neg hc] at hmb
      rw [if_neg (by rw [hmb]; rintro ⟨_, h⟩; exact h rfl), if_neg hc]
  unfold savedS
  rcases arrRead_cases p1 with ⟨c1, c2⟩ | ⟨c1, c2⟩ | ⟨c1, c2⟩
  · have h3 : ¬ ((arrReadS a (partner n)).2.2 = 0 ∧ (arrReadS a (partner n)).2.1 = 3) := by
      rw [c2]
      rintro ⟨_, h⟩
      simp only at h
      rcases mirror_two a (partner n) with h' | h' | h' <;> omega
    rw [if_neg h3]
    refine key a hg ?_ (fun _ => c1)
    rw [c2, if_pos rfl]
  · have h3 : ¬ ((arrReadS a (partner n)).2.2 = 0 ∧ (arrReadS a (partner n)).2.1 = 3) := by rw [c2]; rintro ⟨h, _⟩; exact absurd h (by decide)
    rw [if_neg h3]
    refine key a hg ?_ (fun h => by rw [c2] at h; exact absurd h (by decide))
    rw [c2, if_neg (by decide)]
    unfold mirrorS at c1 ⊢
    split
    · rename_i hh; rw [if_pos hh] at c1; exact absurd c1 (by show ¬ (1 : Int) = 0; decide)
    · rename_i hh
      rw [if_neg hh] at c1
      split
      · rename_i hh2; rw [if_pos hh2] at c1; exact absurd c1 (by show ¬ (2 : Int) = 0; decide)
      · rfl
  · have h24 : (arrReadS a (partner n)).1.size = 24 := arrReadS_size (by rw [c2])
    have hr0 : (arrReadS a (partner n)).2.2 = 0 := by rw [c2]
    have hr3 : (arrReadS a (partner n)).2.1 = 3 := by rw [c2]
    rw [if_pos ⟨hr0, hr3⟩]
    have hgb := hg.both p6 hpm h64 (s := (arrReadS a (partner n)).1) (by omega)
    have e := mirror_both hg p6 hpm h64 (s := (arrReadS a (partner n)).1) (by omega)
    refine key _ hgb ?_ (fun _ => by rw [e]; show (1 : Int) ≠ 0; decide)
    rw [if_pos hr0, e, padS_full h24]
theorem arrTouch_good {a : List Dev} {n : Int} (h : arrTouch a n = 0) : Good a (dv a 0).sec.length := Good.of (arrTouch_zero.1 h).1
end Go.Proofs.YtgjijcgkmofaaaaGreatDoor
