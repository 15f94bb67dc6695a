/-
  Both ways of writing the parity are one: what the mirrors tell after they were written. In plain Lean. Conditions: the sector may be touched, the payload is no longer than a payload may be.
-/
import Derived.Test.YtokpjgpdkmimgaaPArr2
namespace Go.Proofs.Ytokpjgpdkmimgaa
set_option linter.unusedSimpArgs false
set_option linter.unusedVariables false
open Go.RowKit

theorem padS_full {s : ByteArray} (h : s.size = 24) : padS s = s := by
  unfold padS; rw [h]; simp
/-- An array that may be, and stays one. -/
structure Good (a : List Dev) (m : Nat) : Prop where
  len : a.length = 3
  m0 : devMay (dv a 0) = true
  m1 : devMay (dv a 1) = true
  m2 : devMay (dv a 2) = true
  l0 : (dv a 0).sec.length = m
  l1 : (dv a 1).sec.length = m
  l2 : (dv a 2).sec.length = m / 2
theorem Good.of {a : List Dev} (h : arrMay a = true) : Good a (dv a 0).sec.length := by
  obtain ⟨h1, h2, h3, h4, _, _, _, h5, h6⟩ := arr_parts h
  exact ⟨h1, h2, h3, h4, rfl, h5, h6⟩
theorem Good.touch {a : List Dev} {m : Nat} (h : Good a m) {n : Int} (h0 : 0 ≤ n) (h1 : n < m) : touchCode (dv a 0) n = 0 ∧ touchCode (dv a 1) n = 0 :=
  ⟨touch_iff.2 ⟨h.m0, h0, by rw [h.l0]; exact h1⟩, touch_iff.2 ⟨h.m1, h0, by rw [h.l1]; exact h1⟩⟩
theorem bothS_dv {a : List Dev} (h : a.length = 3) (n : Int) (s : ByteArray) : dv (bothS a n s) 0 = (writeS (dv a 0) n n s).1 ∧ dv (bothS a n s) 1 = (writeS (dv a 1) n n s).1 ∧ dv (bothS a n s) 2 = dv a 2 ∧ (bothS a n s).length = 3 := by
  unfold bothS
  refine ⟨?_, ?_, ?_, by simp [h]⟩
  · rw [dv_set_ne _ (by decide), dv_set_self (by omega)]
  · rw [dv_set_self (by simp; omega)]
  · rw [dv_set_ne _ (by decide), dv_set_ne _ (by decide)]
theorem Good.both {a : List Dev} {m : Nat} (h : Good a m) {n : Int} (h0 : 0 ≤ n) (h1 : n < m) {s : ByteArray} (hm : m ≤ 64) (hs : s.size ≤ 24) : Good (bothS a n s) m := by
  obtain ⟨t0, t1⟩ := h.touch h0 h1
  obtain ⟨e0, e1, e2, e3⟩ := bothS_dv h.len n s
  have w0 := write_may (no := n) t0 (by omega) (by omega) hs
  have w1 := write_may (no := n) t1 (by omega) (by omega) hs
  exact ⟨e3, by rw [e0]; exact w0.1, by rw [e1]; exact w1.1, by rw [e2]; exact h.m2, by rw [e0, w0.2, h.l0], by rw [e1, w1.2, h.l1], by rw [e2, h.l2]⟩
/-- What the mirrors tell of a sector that was written. -/
theorem mirror_both {a : List Dev} {m : Nat} (h : Good a m) {n : Int} (h0 : 0 ≤ n) (h1 : n < m) {s : ByteArray} (hm : m ≤ 64) (hs : s.size ≤ 24) : mirrorS (bothS a n s) n = (padS s, 1) := by
  obtain ⟨t0, t1⟩ := h.touch h0 h1
  obtain ⟨e0, e1, e2, e3⟩ := bothS_dv h.len n s
  unfold mirrorS
  rw [e0, read_write t0 (by omega) (by omega) hs, if_pos rfl]
  rfl
/-- And of another one. -/
theorem mirror_both_other {a : List Dev} {m : Nat} (h : Good a m) {n p : Int} (h0 : 0 ≤ n) (h1 : n < m) {s : ByteArray} (hm : m ≤ 64) (hs : s.size ≤ 24) (hp : 0 ≤ p) (hne : p ≠ n) : mirrorS (bothS a n s) p = mirrorS a p := by
  obtain ⟨t0, t1⟩ := h.touch h0 h1
  obtain ⟨e0, e1, e2, e3⟩ := bothS_dv h.len n s
  unfold mirrorS
  rw [e0, e1, read_write_other t0 (by omega) (by omega) hs p p hp hne, read_write_other t1 (by omega) (by omega) hs p p hp hne]
theorem mirror_two (a : List Dev) (n : Int) : (mirrorS a n).2 = 0 ∨ (mirrorS a n).2 = 1 ∨ (mirrorS a n).2 = 2 := by
  unfold mirrorS
  split
  · exact .inr (.inl rfl)
  · split
    · exact .inr (.inr rfl)
    · exact .inl rfl
theorem arrRead_cases {a : List Dev} {n : Int} (h : arrTouch a n = 0) :
    ((mirrorS a n).2 ≠ 0 ∧ arrReadS a n = ((mirrorS a n).1, (mirrorS a n).2, 0)) ∨ ((mirrorS a n).2 = 0 ∧ arrReadS a n = (.empty, 0, 11)) ∨ ((mirrorS a n).2 = 0 ∧ arrReadS a n = (xorS (parS a n).1 (mirrorS a (partner n)).1, 3, 0)) := by
  unfold arrReadS
  rw [if_neg (by simpa using h)]
  by_cases h1 : (mirrorS a n).2 = 0
  · right
    rw [if_neg (by simpa using h1)]
    split
    · exact .inl ⟨h1, rfl⟩
    · exact .inr ⟨h1, rfl⟩
  · left
    rw [if_pos h1]
    exact ⟨h1, rfl⟩
def writtenS (a : List Dev) (n : Int) (s : ByteArray) : List Dev :=
  (bothS (savedS a n) n s).set 2 (if (arrReadS a (partner n)).2.2 = 0 then (writeS (dv (bothS (savedS a n) n s) 2) (n / 2) (512 + n / 2) (xorS (padS s) (arrReadS a (partner n)).1)).1 else loseS (dv (bothS (savedS a n) n s) 2) (n / 2))
theorem written_eq {a : List Dev} {n : Int} {s : ByteArray} (h : arrTouch a n = 0) (hs : s.size ≤ 24) : arrWrite3 a n s = writtenS a n s := by
  obtain ⟨hm, h0, h1⟩ := arrTouch_zero.1 h
  obtain ⟨p1, p2, p3, p4, p5, p6, p7, p8, p9, p10⟩ := partner_range h
  have hg := Good.of hm
  have h64 := (arr_parts hm).2.2.2.2.2.1
  have hpm : partner n < (dv a 0).sec.length := (arrTouch_zero.1 p1).2.2
  unfold arrWrite3 writtenS
  have key : ∀ b : List Dev, Good b (dv a 0).sec.length → mirrorS b (partner n) = (if (arrReadS a (partner n)).2.2 = 0 then ((arrReadS a (partner n)).1, (mirrorS b (partner n)).2) else (.empty, 0)) → ((arrReadS a (partner n)).2.2 = 0 → (mirrorS b (partner n)).2 ≠ 0) →
      parityS (bothS b n s) n = (bothS b n s).set 2 (if (arrReadS a (partner n)).2.2 = 0 then (writeS (dv (bothS b n s) 2) (n / 2) (512 + n / 2) (xorS (padS s) (arrReadS a (partner n)).1)).1 else loseS (dv (bothS b n s) 2) (n / 2)) := by
    intro b hb hmb hne
    have e1 := mirror_both hb h0 h1 h64 hs
    have e2 := mirror_both_other hb h0 h1 h64 hs p6 p4
    unfold parityS writeP
    rw [e1, e2]
    by_cases hc : (arrReadS a (partner n)).2.2 = 0
    · rw [if_pos hc] at hmb
      rw [if_pos ⟨by show (1 : Int) ≠ 0; decide, hne hc⟩, if_pos hc, hmb]
    · rw [if_neg hc] at hmb
      rw [if_neg (by rw [hmb]; rintro ⟨_, h⟩; exact h rfl), if_neg hc]
  unfold savedS
  rcases arrRead_cases p1 with ⟨c1, c2⟩ | ⟨c1, c2⟩ | ⟨c1, c2⟩
  · have h3 : ¬ ((arrReadS a (partner n)).2.2 = 0 ∧ (arrReadS a (partner n)).2.1 = 3) := by
      rw [c2]
      rintro ⟨_, h⟩
      simp only at h
      rcases mirror_two a (partner n) with h' | h' | h' <;> omega
    rw [if_neg h3]
    refine key a hg ?_ (fun _ => c1)
    rw [c2, if_pos rfl]
  · have h3 : ¬ ((arrReadS a (partner n)).2.2 = 0 ∧ (arrReadS a (partner n)).2.1 = 3) := by rw [c2]; rintro ⟨h, _⟩; exact absurd h (by decide)
    rw [if_neg h3]
    refine key a hg ?_ (fun h => by rw [c2] at h; exact absurd h (by decide))
    rw [c2, if_neg (by decide)]
    unfold mirrorS at c1 ⊢
    split
    · rename_i hh; rw [if_pos hh] at c1; exact absurd c1 (by show ¬ (1 : Int) = 0; decide)
    · rename_i hh
      rw [if_neg hh] at c1
      split
      · rename_i hh2; rw [if_pos hh2] at c1; exact absurd c1 (by show ¬ (2 : Int) = 0; decide)
      · rfl
  · have h24 : (arrReadS a (partner n)).1.size = 24 := arrReadS_size (by rw [c2])
    have hr0 : (arrReadS a (partner n)).2.2 = 0 := by rw [c2]
    have hr3 : (arrReadS a (partner n)).2.1 = 3 := by rw [c2]
    rw [if_pos ⟨hr0, hr3⟩]
    have hgb := hg.both p6 hpm h64 (s := (arrReadS a (partner n)).1) (by omega)
    have e := mirror_both hg p6 hpm h64 (s := (arrReadS a (partner n)).1) (by omega)
    refine key _ hgb ?_ (fun _ => by rw [e]; show (1 : Int) ≠ 0; decide)
    rw [if_pos hr0, e, padS_full h24]
theorem arrTouch_good {a : List Dev} {n : Int} (h : arrTouch a n = 0) : Good a (dv a 0).sec.length := Good.of (arrTouch_zero.1 h).1
end Go.Proofs.Ytokpjgpdkmimgaa
