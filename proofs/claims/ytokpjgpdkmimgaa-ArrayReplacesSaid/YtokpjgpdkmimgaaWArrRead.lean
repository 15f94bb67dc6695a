/-
  array.Read and the document's ArrayRead: what the mirrors tell of a sector, or the parity and its partner; the law ArrayReads. Conditions: the argument reads as an array.
-/
import Derived.Test.YtokpjgpdkmimgaaWXor
import Derived.Test.YtokpjgpdkmimgaaPArr2
import Derived.Test.YtokpjgpdkmimgaaWArrCheck
namespace Go.Proofs.Ytokpjgpdkmimgaa
set_option linter.unusedSimpArgs false
set_option linter.unusedVariables false
open Go.RowKit

theorem RArr.form {w : World} {cs : List Value} {a : List Dev} (h : RArr w cs a) : ∃ A c, cs = [.slice A a.length c] := by
  obtain ⟨v, rfl, h1⟩ := h
  obtain ⟨A, c, rfl, _⟩ := h1.rowR
  exact ⟨A, c, rfl⟩
/-- The cells of a device of an array. -/
theorem RArr.look {w : World} {A : Option Addr} {c : Nat} {a : List Dev} (h : RArr w [.slice A a.length c] a) : ∀ k0, k0 < a.length → ∃ b o, A = some ⟨b, o, none⟩ ∧ ∀ k, k < a.length → ∃ A1 c1 A2 c2,
    w.cell? ⟨b, o + k * 2, none⟩ = some (.slice A1 (dv a k).sec.length c1) ∧ w.cell? ⟨b, o + k * 2 + 1, none⟩ = some (.slice A2 (dv a k).lost.length c2) ∧ RDev w [.slice A1 (dv a k).sec.length c1, .slice A2 (dv a k).lost.length c2] (dv a k) := by
  obtain ⟨v, e, h1⟩ := h
  obtain ⟨A', c', rfl, _, _, hr⟩ := h1.rowR
  simp only [List.cons.injEq, Value.slice.injEq, and_true, true_and] at e
  obtain ⟨rfl, rfl⟩ := e
  intro k0 hk0
  obtain ⟨b, o, rfl, hcell⟩ := hr k0 hk0
  refine ⟨b, o, rfl, fun k hk => ?_⟩
  have hd : dv a k = a[k] := by unfold dv; rw [List.getD_eq_getElem?_getD, List.getElem?_eq_getElem hk]; rfl
  rw [hd]
  obtain ⟨cs, hl, hcs, hdd⟩ := hcell k hk
  obtain ⟨A1, c1, A2, c2, rfl⟩ := hdd.form
  exact ⟨A1, c1, A2, c2, hcs 0 _ rfl, hcs 1 _ rfl, hdd⟩
theorem n2_of {a : List Dev} {n : Int} (h : arrTouch a n = 0) : 0 ≤ n ∧ n ≤ 63 := by
  have := partner_range h
  exact ⟨this.2.2.2.2.2.2.2.1, this.2.2.2.2.2.2.2.2.1⟩

/-! What the mirrors tell. -/
def okB (p : ByteArray × Int) : Bool := decide (p.2 ≠ 0)
theorem mirror_hit {a : List Dev} {n : Int} (k : Nat) (hk : k < 2) (hall : ∀ j, j < k → (readS (dv a j) n n).2 ≠ 0) (h : (readS (dv a k) n n).2 = 0) : mirrorS a n = ((readS (dv a k) n n).1, (k : Int) + 1) := by
  unfold mirrorS
  match k, hk with
  | 0, _ => rw [if_pos h]; rfl
  | 1, _ => rw [if_neg (hall 0 (by omega)), if_pos h]; rfl
theorem mirror_miss {a : List Dev} {n : Int} (hall : ∀ j, j < 2 → (readS (dv a j) n n).2 ≠ 0) : mirrorS a n = (.empty, 0) := by
  unfold mirrorS
  rw [if_neg (hall 0 (by omega)), if_neg (hall 1 (by omega))]
theorem partner_xor (n : Int) (h0 : 0 ≤ n) (h1 : n ≤ 63) : bits .xor .i64 n 1 = partner n := by
  obtain ⟨k, rfl⟩ := Int.eq_ofNat_of_zero_le h0
  have hk : k < 64 := by omega
  clear h0 h1
  revert k
  decide +kernel
theorem read_bad {a : List Dev} {n : Int} (h : arrTouch a n ≠ 0) : arrReadS a n = (.empty, 0, arrTouch a n) := by unfold arrReadS; rw [if_pos h]
theorem read_mir {a : List Dev} {n : Int} (h : arrTouch a n = 0) (h2 : (mirrorS a n).2 ≠ 0) : arrReadS a n = ((mirrorS a n).1, (mirrorS a n).2, 0) := by unfold arrReadS; rw [if_neg (by simpa using h), if_pos h2]
theorem read_lost {a : List Dev} {n : Int} (h : arrTouch a n = 0) (h2 : (mirrorS a n).2 = 0) (h3 : (mirrorS a (partner n)).2 = 0 ∨ (parS a n).2 ≠ 0) : arrReadS a n = (.empty, 0, 11) := by
  unfold arrReadS; rw [if_neg (by simpa using h), if_neg (by simpa using h2), if_pos h3]
theorem read_par {a : List Dev} {n : Int} (h : arrTouch a n = 0) (h2 : (mirrorS a n).2 = 0) (h3 : (mirrorS a (partner n)).2 ≠ 0) (h4 : (parS a n).2 = 0) : arrReadS a n = (xorS (parS a n).1 (mirrorS a (partner n)).1, 3, 0) := by
  unfold arrReadS; rw [if_neg (by simpa using h), if_neg (by simpa using h2), if_neg (by rintro (h | h); exact h3 h; exact h h4)]
theorem okB_true {p : ByteArray × Int} (h : p.2 ≠ 0) : okB p = true := by unfold okB; simpa using h
theorem okB_false {p : ByteArray × Int} (h : p.2 = 0) : okB p = false := by unfold okB; simpa using h
theorem mirror_range (a : List Dev) (n : Int) : (mirrorS a n).2 = 0 ∨ (mirrorS a n).2 = 1 ∨ (mirrorS a n).2 = 2 := by
  unfold mirrorS
  split
  · exact .inr (.inl rfl)
  · split
    · exact .inr (.inr rfl)
    · exact .inl rfl
end Go.Proofs.Ytokpjgpdkmimgaa
