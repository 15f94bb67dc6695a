/-
  Finding a name in a catalog whose names are in order, in plain Lean. Conditions: none.
-/
import Derived.Test.YtokpjgpdkmimgaaPCat
import Derived.Lib.Bytealg
namespace Go.Proofs.Ytokpjgpdkmimgaa
set_option linter.unusedSimpArgs false
set_option linter.unusedVariables false
open Go.RowKit

theorem cmp_neg : ∀ a b : List UInt8, decide (Lib.compareBytes a b < 0) = Op.bytesLess a b
  | [], [] => rfl
  | [], _ :: _ => rfl
  | _ :: _, [] => rfl
  | a :: x, b :: y => by
    have ih := cmp_neg x y
    unfold Lib.compareBytes Op.bytesLess
    by_cases h1 : a < b
    · simp [h1]
    · by_cases h2 : b < a
      · have hne : (a == b) = false := by
          apply beq_false_of_ne
          rintro rfl
          exact UInt8.lt_irrefl a h2
        simp [h1, h2, hne]
      · have he : a = b := by
          have h1' : ¬ a.toNat < b.toNat := h1
          have h2' : ¬ b.toNat < a.toNat := h2
          exact UInt8.toNat_inj.1 (by omega)
        subst he
        simp only [h1, if_false, ih, decide_false, Bool.false_or, beq_self_eq_true, Bool.true_and]
theorem cmp_zero : ∀ a b : List UInt8, Lib.compareBytes a b = 0 ↔ a = b
  | [], [] => by simp [Lib.compareBytes]
  | [], _ :: _ => by simp [Lib.compareBytes]
  | _ :: _, [] => by simp [Lib.compareBytes]
  | a :: x, b :: y => by
    have ih := cmp_zero x y
    unfold Lib.compareBytes
    by_cases h1 : a < b
    · rw [if_pos h1]
      constructor
      · intro h; exact absurd h (by decide)
      · intro h; injection h with h3 h4; subst h3; exact absurd h1 (UInt8.lt_irrefl a)
    · rw [if_neg h1]
      by_cases h2 : b < a
      · rw [if_pos h2]
        constructor
        · intro h; exact absurd h (by decide)
        · intro h; injection h with h3 h4; subst h3; exact absurd h2 (UInt8.lt_irrefl a)
      · rw [if_neg h2, ih]
        have he : a = b := by
          have h1' : ¬ a.toNat < b.toNat := h1
          have h2' : ¬ b.toNat < a.toNat := h2
          exact UInt8.toNat_inj.1 (by omega)
        subst he
        simp
theorem bl_irrefl : ∀ a : List UInt8, Op.bytesLess a a = false
  | [] => rfl
  | a :: x => by
    unfold Op.bytesLess
    rw [bl_irrefl x]
    have : (decide (a < a)) = false := decide_eq_false (UInt8.lt_irrefl a)
    simp [this]
theorem bl_trans : ∀ a b c : List UInt8, Op.bytesLess a b = true → Op.bytesLess b c = true → Op.bytesLess a c = true
  | _, _, [], _, h => by rename_i b _; cases b <;> cases h
  | [], _, _ :: _, _, _ => rfl
  | a :: x, [], _ :: _, h, _ => by cases h
  | a :: x, b :: y, c :: z, h1, h2 => by
    have ih := bl_trans x y z
    unfold Op.bytesLess at h1 h2 ⊢
    have hlt : ∀ c d : UInt8, (decide (c < d)) = decide (c.toNat < d.toNat) := fun c d => by simp [UInt8.lt_iff_toNat_lt]
    have heq : ∀ c d : UInt8, (c == d) = decide (c.toNat = d.toNat) := fun c d => by
      by_cases h : c = d
      · subst h; simp
      · have : c.toNat ≠ d.toNat := fun e => h (UInt8.toNat_inj.1 e)
        simp [h, this]
    simp only [hlt, heq, Bool.or_eq_true, Bool.and_eq_true, decide_eq_true_eq] at h1 h2 ⊢
    rcases h1 with h1 | ⟨h1, h1'⟩ <;> rcases h2 with h2 | ⟨h2, h2'⟩
    · left; omega
    · left; omega
    · left; omega
    · right; exact ⟨by omega, ih h1' h2'⟩
/-- Every name is ahead of those behind it. -/
def Rising (l : List Ent) : Prop := ∀ i j (hi : i < l.length) (hj : j < l.length), i < j → Op.bytesLess (lst l[i].name) (lst l[j].name) = true
theorem ents_rising (nb : Nat) : ∀ (l : List Ent) (p : Option ByteArray), entsF nb p l = 0 → Rising l ∧ ∀ q, p = some q → ∀ x ∈ l, Op.bytesLess (lst q) (lst x.name) = true
  | [], _, _ => ⟨fun i j hi => by simp at hi, fun _ _ x hx => by cases hx⟩
  | y :: l, p, h => by
    unfold entsF at h
    split at h
    · exact absurd h (by decide)
    · split at h
      · exact absurd h (by decide)
      · rename_i h2
        obtain ⟨h3, h4⟩ := ents_rising nb l _ h
        have h5 := h4 y.name rfl
        refine ⟨?_, ?_⟩
        · intro i j hi hj hij
          match i, j with
          | 0, j + 1 =>
            rw [List.getElem_cons_zero, List.getElem_cons_succ]
            exact h5 _ (List.getElem_mem _)
          | i + 1, j + 1 =>
            rw [List.getElem_cons_succ, List.getElem_cons_succ]
            exact h3 i j (by simpa using hi) (by simpa using hj) (by omega)
        · rintro q rfl x hx
          have h6 : Op.bytesLess (lst q) (lst y.name) = true := by
            unfold orderBad at h2
            simp only [Bool.not_eq_true, Bool.not_eq_false'] at h2
            rwa [toList_lst, toList_lst] at h2
          rcases List.mem_cons.1 hx with rfl | hx
          · exact h6
          · exact bl_trans _ _ _ h6 (h5 x hx)
theorem find_first {l : List Ent} {p : Ent → Bool} {i : Nat} (hi : i < l.length) (h1 : ∀ k (hk : k < l.length), k < i → p l[k] = false) (h2 : p l[i] = true) : l.find? p = some l[i] := by
  induction l generalizing i with
  | nil => simp at hi
  | cons a l ih =>
    cases i with
    | zero => rw [List.find?_cons, List.getElem_cons_zero] at *; rw [h2]
    | succ i =>
      have h0 := h1 0 (by simp) (by omega)
      rw [List.getElem_cons_zero] at h0
      rw [List.find?_cons, h0, List.getElem_cons_succ]
      rw [List.getElem_cons_succ] at h2
      exact ih (by simpa using hi) (fun k hk hki => by have := h1 (k + 1) (by simpa using hk) (by omega); rwa [List.getElem_cons_succ] at this) h2
theorem find_never {l : List Ent} {p : Ent → Bool} (h1 : ∀ k (hk : k < l.length), p l[k] = false) : l.find? p = none := by
  rw [List.find?_eq_none]
  intro x hx
  obtain ⟨k, hk, rfl⟩ := List.getElem_of_mem hx
  rw [h1 k hk]; decide
/-- What stands where the search ends. -/
def Cut_ (l : List Ent) (t : ByteArray) (i j : Nat) : Prop := (∀ k (hk : k < l.length), k < i → Op.bytesLess (lst l[k].name) (lst t) = true) ∧ ∀ k (hk : k < l.length), j ≤ k → Op.bytesLess (lst l[k].name) (lst t) = false
theorem cut_start (l : List Ent) (t : ByteArray) : Cut_ l t 0 l.length := ⟨fun k _ h => by omega, fun k hk h => by omega⟩
theorem cut_up {l : List Ent} {t : ByteArray} {i j h : Nat} (hs : Rising l) (hc : Cut_ l t i j) (hh : h < l.length) (hl : Op.bytesLess (lst l[h].name) (lst t) = true) : Cut_ l t (h + 1) j := by
  refine ⟨fun k hk hkh => ?_, hc.2⟩
  by_cases he : k = h
  · subst he; exact hl
  · exact bl_trans _ _ _ (hs k h hk hh (by omega)) hl
theorem cut_down {l : List Ent} {t : ByteArray} {i j h : Nat} (hs : Rising l) (hc : Cut_ l t i j) (hh : h < l.length) (hl : Op.bytesLess (lst l[h].name) (lst t) = false) : Cut_ l t i h := by
  refine ⟨hc.1, fun k hk hkh => ?_⟩
  by_cases he : k = h
  · subst he; exact hl
  · cases hb : Op.bytesLess (lst l[k].name) (lst t) with
    | false => rfl
    | true => rw [bl_trans _ _ _ (hs h k hh hk (by omega)) hb] at hl; cases hl
theorem cut_found {l : List Ent} {t : ByteArray} {i : Nat} (hc : Cut_ l t i i) (hi : i < l.length) (he : lst l[i].name = lst t) : l.find? (fun x => decide (lst x.name = lst t)) = some l[i] := by
  refine find_first hi (fun k hk hki => ?_) (decide_eq_true he)
  apply decide_eq_false
  intro h
  have := hc.1 k hk hki
  rw [h, bl_irrefl] at this
  cases this
theorem cut_not {l : List Ent} {t : ByteArray} {i : Nat} (hs : Rising l) (hc : Cut_ l t i i) (h : ∀ hi : i < l.length, lst l[i].name ≠ lst t) : l.find? (fun x => decide (lst x.name = lst t)) = none := by
  refine find_never (fun k hk => decide_eq_false fun he => ?_)
  by_cases h1 : k < i
  · have := hc.1 k hk h1
    rw [he, bl_irrefl] at this
    cases this
  · by_cases h2 : k = i
    · subst h2; exact h hk he
    · have h3 := hs i k (by omega) hk (by omega)
      rw [he] at h3
      have h4 := hc.2 i (by omega) (Nat.le_refl _)
      rw [h3] at h4
      cases h4
end Go.Proofs.Ytokpjgpdkmimgaa
