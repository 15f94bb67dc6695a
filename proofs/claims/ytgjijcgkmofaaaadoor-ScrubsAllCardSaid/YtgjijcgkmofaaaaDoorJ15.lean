/-
  ArraysStand: whatever happens to one device, all sectors are told; and where they come from. Conditions: both lists read as lists of raw numbers; the table of powers of ten that the library reads is in place.
-/
import Derived.Test.YtgjijcgkmofaaaaDoorJ14
import Derived.Lib.OthersKept
import Derived.WalkSmall
namespace Go.Proofs.YtgjijcgkmofaaaaDoor
set_option linter.unusedSimpArgs false
set_option linter.unusedVariables false
open Go.RowKit

theorem own_acts {w : World} {b : Nat} {t : TypeId} {A : Option Addr} {c : Nat} {L : List HA} (h : w.ownsRow b t 7 (.slice A L.length c) L.length (L.flatMap encHA)) :
    ∀ (k : Nat) (_ : k < L.length), ∃ b o, A = some ⟨b, o, none⟩ ∧ ∀ (i : Nat) (hi : i < L.length) (j : Nat) (u : Value), (encHA L[i])[j]? = some u → w.cell? ⟨b, o + i * 7 + j, none⟩ = some u := by
  intro k hk
  have h' := h
  rcases h.2 with ⟨_, h0⟩ | ⟨g, cap, cur, hv, _⟩
  · omega
  · injection hv with a1 a2 a3
    subst a1
    refine ⟨g, 0, rfl, fun i hi j u hu => ?_⟩
    have hj : j < 7 := (List.getElem?_eq_some_iff.1 hu).1
    have hc := h'.cellAt (i * 7 + j) (by omega)
    rw [Nat.zero_add, hc, flatMap_at (enc := encHA) (C := 7) (fun _ => rfl) L i j hi hj]
    exact hu
theorem acts_fine {k m : Nat} {L : List HA} (hk : k < 3) (hm : m ≤ 64) (h : ∀ x ∈ L, ActOk k (if k = 2 then m / 2 else m) x) : ∀ x ∈ L, x.d < 3 ∧ (x.kind = 4 ∨ x.kind = 5 ∨ x.kind = 6) ∧ I64 x.n ∧ I64 x.at_ ∧ I64 x.by_ := by
  intro x hx
  obtain ⟨h1, h2, h3, h4, h5, h6, h7, h8⟩ := h x hx
  have : (if k = 2 then m / 2 else m) ≤ 64 := by split <;> omega
  exact ⟨by omega, h2, by unfold I64; omega, by unfold I64; omega, by unfold I64; omega⟩
set_option maxRecDepth 100000 in
theorem keepSectors_any (n : Int) (w : World) (hn : I64 n) :
    Calls Tryd.prog 12 #[.int .i64 n] w fun e w' => ∃ m : Nat, e = .returned (.int .i64 (m : Int)) ∧ w' = w ∧ 24 ≤ m ∧ m ≤ 62 ∧ m % 2 = 0 := by
  have HN := Lib.hid hn
  clear hn
  go_enter Tryd.func12, Tryd.ntmps12
  go_wp2_with fail
  refine (picked_any n 20 w HN.out (by omega) (by omega)).mono ?_
  rintro e w1 ⟨rfl, hw⟩
  obtain rfl := hw.symm
  have hpr := pick_range n 20 (by decide)
  obtain ⟨p, hp⟩ := Int.eq_ofNat_of_zero_le hpr.1
  rw [hp] at hpr ⊢
  obtain ⟨p2, hp2⟩ : ∃ p2 : Nat, p2 = 2 * p := ⟨_, rfl⟩
  obtain ⟨m, hm⟩ : ∃ m : Nat, m = 24 + p2 := ⟨_, rfl⟩
  have y1 : (2 : Int) * (p : Int) = (p2 : Int) := by omega
  have y2 : (24 : Int) + (p2 : Int) = (m : Int) := by omega
  have b1 : (p : Int) < 20 := hpr.2
  have b2 : (p2 : Int) < 40 := by omega
  have b3 : (m : Int) ≤ 62 := by omega
  have HM := Lib.hid (show 24 ≤ m ∧ m ≤ 62 ∧ m % 2 = 0 by omega)
  clear hpr hp hp2 hm
  go_wp2_with fail
  go_ret
  exact ⟨m, rfl, rfl, HM.out⟩
end Go.Proofs.YtgjijcgkmofaaaaDoor

/-
  Sectors that are made whole again, in plain Lean, for arrays of which no copy tells anything wrong. Conditions: the numbers are within the array.
-/
namespace Go.Proofs.YtgjijcgkmofaaaaDoor
set_option linter.unusedSimpArgs false
set_option linter.unusedVariables false
open Go.RowKit

/-- Does the copy of a sector on a device tell something? -/
def ok0 (a : List Dev) (n : Nat) : Bool := decide ((readS (dv a 0) n n).2 = 0)
def ok1 (a : List Dev) (n : Nat) : Bool := decide ((readS (dv a 1) n n).2 = 0)
def ok2 (a : List Dev) (n : Nat) : Bool := decide ((readS (dv a 2) n (512 + n : Int)).2 = 0)
/-- A mirror is written where it tells nothing. -/
def mend (a : List Dev) (j n : Nat) (s : ByteArray) : List Dev × Int := if (readS (dv a j) n n).2 = 0 then (a, 0) else (a.set j (writeS (dv a j) n n s).1, 1)
/-- The parity is written where it tells nothing. -/
def mendP (a : List Dev) (n : Nat) (s : ByteArray) : List Dev × Int := if (readS (dv a 2) n (512 + n : Int)).2 = 0 then (a, 0) else (a.set 2 (writeS (dv a 2) n (512 + n : Int) s).1, 1)
/-- What making a sector whole does. -/
def healP (a : List Dev) (all : List ByteArray) (n : Nat) : List Dev × Int :=
  let x := mend a 0 n (pl all n)
  let y := mend x.1 1 n (pl all n)
  if (arrReadS y.1 (pt n : Nat)).2.2 = 0 then ((mendP y.1 (n / 2) (pp all (n / 2))).1, x.2 + y.2 + (mendP y.1 (n / 2) (pp all (n / 2))).2) else (y.1, x.2 + y.2)
theorem Part.put {a : List Dev} {m : Nat} {all : List ByteArray} (h : Part a m all) {j : Nat} (hj : j < 3) {d : Dev} (hd : devMay d = true) (hl : d.sec.length = (dv a j).sec.length)
    (h0 : j = 0 → ∀ n : Nat, n < m → (readS d n n).2 = 0 → (readS d n n).1 = pl all n) (h1 : j = 1 → ∀ n : Nat, n < m → (readS d n n).2 = 0 → (readS d n n).1 = pl all n)
    (h2 : j = 2 → ∀ n : Nat, n < m / 2 → (readS d n (512 + n : Int)).2 = 0 → (readS d n (512 + n : Int)).1 = pp all n) : Part (a.set j d) m all := by
  have h3 := h.good.len
  have e : ∀ i, dv (a.set j d) i = if i = j then d else dv a i := by
    intro i
    by_cases hi : i = j
    · subst hi; rw [if_pos rfl, dv_set_self (by omega)]
    · rw [if_neg hi, dv_set_ne _ (fun e => hi e.symm)]
  refine ⟨h.good.dev hj hd hl, h.len, h.size, fun n hn => ?_, fun n hn => ?_, fun n hn => ?_⟩
  · rw [e]; split
    · rename_i hh; exact h0 hh.symm n hn
    · exact h.r0 n hn
  · rw [e]; split
    · rename_i hh; exact h1 hh.symm n hn
    · exact h.r1 n hn
  · rw [e]; split
    · rename_i hh; exact h2 hh.symm n hn
    · exact h.r2 n hn
/-- A mirror that was mended: what it tells, and what stays. -/
theorem Part.mend {a : List Dev} {m : Nat} {all : List ByteArray} (h : Part a m all) (h64 : m ≤ 64) {j n : Nat} (hj : j < 2) (hn : n < m) :
    Part (Go.Proofs.YtgjijcgkmofaaaaDoor.mend a j n (pl all n)).1 m all ∧ (readS (dv (Go.Proofs.YtgjijcgkmofaaaaDoor.mend a j n (pl all n)).1 j) n n).2 = 0 ∧
      (∀ i p : Nat, (i ≠ j ∨ p ≠ n) → ∀ no, readS (dv (Go.Proofs.YtgjijcgkmofaaaaDoor.mend a j n (pl all n)).1 i) p no = readS (dv a i) p no) := by
  have h3 := h.good.len
  have hz := h.size n hn
  have ht : touchCode (dv a j) n = 0 := by
    have := h.good.touch (n := n) (by omega) (by omega)
    match j, hj with
    | 0, _ => exact this.1
    | 1, _ => exact this.2
  have hw := read_write (no := (n : Int)) (s := pl all n) ht (by omega) (by omega) (by omega)
  have hwo := fun (p : Nat) (hp : p ≠ n) (no : Int) => read_write_other (no := (n : Int)) (s := pl all n) ht (by omega) (by omega) (by omega) p no (by omega) (by omega)
  have hwm := write_may (no := (n : Int)) (s := pl all n) ht (by omega) (by omega) (by omega)
  unfold Go.Proofs.YtgjijcgkmofaaaaDoor.mend
  by_cases hc : (readS (dv a j) n n).2 = 0
  · rw [if_pos hc]
    exact ⟨h, hc, fun _ _ _ _ => rfl⟩
  · rw [if_neg hc]
    have e : ∀ i, dv (a.set j (writeS (dv a j) n n (pl all n)).1) i = if i = j then (writeS (dv a j) n n (pl all n)).1 else dv a i := by
      intro i
      by_cases hi : i = j
      · subst hi; rw [if_pos rfl, dv_set_self (by omega)]
      · rw [if_neg hi, dv_set_ne _ (fun e => hi e.symm)]
    have key : ∀ p : Nat, p < m → ((readS (dv a j) p p).2 = 0 → (readS (dv a j) p p).1 = pl all p) → (readS (writeS (dv a j) n n (pl all n)).1 p p).2 = 0 → (readS (writeS (dv a j) n n (pl all n)).1 p p).1 = pl all p := by
      intro p hp hold
      by_cases hpn : p = n
      · subst hpn
        intro _
        rw [hw, if_pos rfl, padS_full hz]
      · rw [hwo p hpn p]
        exact hold
    refine ⟨h.put (by omega) hwm.1 hwm.2 (fun hj0 p hp => key p hp (by subst hj0; exact h.r0 p hp)) (fun hj1 p hp => key p hp (by subst hj1; exact h.r1 p hp)) (fun hj2 => by omega), ?_, fun i p hip no => ?_⟩
    · rw [e, if_pos rfl, hw, if_pos rfl]
    · rw [e]
      by_cases hi : i = j
      · rw [if_pos hi, hi]
        rcases hip with hh | hh
        · exact absurd hi hh
        · exact hwo p hh no
      · rw [if_neg hi]
/-- The parity that was mended. -/
theorem Part.mendP {a : List Dev} {m : Nat} {all : List ByteArray} (h : Part a m all) (h64 : m ≤ 64) {n : Nat} (hn : n < m / 2) :
    Part (Go.Proofs.YtgjijcgkmofaaaaDoor.mendP a n (pp all n)).1 m all ∧ (readS (dv (Go.Proofs.YtgjijcgkmofaaaaDoor.mendP a n (pp all n)).1 2) n (512 + n : Int)).2 = 0 ∧
      (∀ i p : Nat, (i ≠ 2 ∨ p ≠ n) → ∀ no, readS (dv (Go.Proofs.YtgjijcgkmofaaaaDoor.mendP a n (pp all n)).1 i) p no = readS (dv a i) p no) := by
  have h3 := h.good.len
  have hz := pp_size h.size hn
  have ht : touchCode (dv a 2) n = 0 := h.good.touch2 hn
  have hw := read_write (no := (512 + n : Int)) (s := pp all n) ht (by omega) (by omega) (by omega)
  have hwo := fun (p : Nat) (hp : p ≠ n) (no : Int) => read_write_other (no := (512 + n : Int)) (s := pp all n) ht (by omega) (by omega) (by omega) p no (by omega) (by omega)
  have hwm := write_may (no := (512 + n : Int)) (s := pp all n) ht (by omega) (by omega) (by omega)
  unfold Go.Proofs.YtgjijcgkmofaaaaDoor.mendP
  by_cases hc : (readS (dv a 2) n (512 + n : Int)).2 = 0
  · rw [if_pos hc]
    exact ⟨h, hc, fun _ _ _ _ => rfl⟩
  · rw [if_neg hc]
    have e : ∀ i, dv (a.set 2 (writeS (dv a 2) n (512 + n : Int) (pp all n)).1) i = if i = 2 then (writeS (dv a 2) n (512 + n : Int) (pp all n)).1 else dv a i := by
      intro i
      by_cases hi : i = 2
      · subst hi; rw [if_pos rfl, dv_set_self (by omega)]
      · rw [if_neg hi, dv_set_ne _ (fun e => hi e.symm)]
    refine ⟨h.put (by omega) hwm.1 hwm.2 (fun hj0 => by omega) (fun hj1 => by omega) (fun _ p hp => ?_), ?_, fun i p hip no => ?_⟩
    · by_cases hpn : p = n
      · subst hpn
        intro _
        rw [hw, if_pos rfl, padS_full hz]
      · rw [hwo p hpn _]
        exact h.r2 p hp
    · rw [e, if_pos rfl, hw, if_pos rfl]
    · rw [e]
      by_cases hi : i = 2
      · rw [if_pos hi, hi]
        rcases hip with hh | hh
        · exact absurd hi hh
        · exact hwo p hh no
      · rw [if_neg hi]
/-- The copy of a sector on a device tells something. -/
def Cp (a : List Dev) (i p : Nat) : Prop := (readS (dv a i) p (if i = 2 then (512 + p : Int) else (p : Int))).2 = 0
theorem Cp.two {a : List Dev} {p : Nat} : Cp a 2 p ↔ (readS (dv a 2) p (512 + p : Int)).2 = 0 := by unfold Cp; rw [if_pos rfl]
theorem Cp.mir {a : List Dev} {i p : Nat} (h : i < 2) : Cp a i p ↔ (readS (dv a i) p p).2 = 0 := by unfold Cp; rw [if_neg (by omega)]
theorem Part.mendC {a : List Dev} {m : Nat} {all : List ByteArray} (h : Part a m all) (h64 : m ≤ 64) {j n : Nat} (hj : j < 2) (hn : n < m) :
    Cp (Go.Proofs.YtgjijcgkmofaaaaDoor.mend a j n (pl all n)).1 j n ∧ ∀ i p, (i ≠ j ∨ p ≠ n) → (Cp (Go.Proofs.YtgjijcgkmofaaaaDoor.mend a j n (pl all n)).1 i p ↔ Cp a i p) := by
  obtain ⟨_, h2, h3⟩ := h.mend h64 hj hn
  refine ⟨(Cp.mir hj).2 h2, fun i p hip => ?_⟩
  unfold Cp
  rw [h3 i p hip]
theorem Part.mendPC {a : List Dev} {m : Nat} {all : List ByteArray} (h : Part a m all) (h64 : m ≤ 64) {n : Nat} (hn : n < m / 2) :
    Cp (Go.Proofs.YtgjijcgkmofaaaaDoor.mendP a n (pp all n)).1 2 n ∧ ∀ i p, (i ≠ 2 ∨ p ≠ n) → (Cp (Go.Proofs.YtgjijcgkmofaaaaDoor.mendP a n (pp all n)).1 i p ↔ Cp a i p) := by
  obtain ⟨_, h2, h3⟩ := h.mendP h64 hn
  refine ⟨Cp.two.2 h2, fun i p hip => ?_⟩
  unfold Cp
  rw [h3 i p hip]
/-- Can a sector be read? -/
theorem Part.code {a : List Dev} {m : Nat} {all : List ByteArray} (h : Part a m all) (h16 : 16 ≤ m) (h64 : m ≤ 64) (h2 : m % 2 = 0) {n : Nat} (hn : n < m) :
    (arrReadS a n).2.2 = 0 ↔ Cp a 0 n ∨ Cp a 1 n ∨ ((Cp a 0 (pt n) ∨ Cp a 1 (pt n)) ∧ Cp a 2 (n / 2)) := by
  rw [Cp.mir (by decide), Cp.mir (by decide), Cp.mir (by decide), Cp.mir (by decide), Cp.two]
  have hp := pt_lt hn h2
  have hmir : (mirrorS a (pt n : Int)).2 ≠ 0 ↔ ((readS (dv a 0) (pt n : Nat) (pt n : Nat)).2 = 0 ∨ (readS (dv a 1) (pt n : Nat) (pt n : Nat)).2 = 0) := by
    constructor
    · intro hne
      rcases h.mirror hp with ⟨c, _⟩ | ⟨_, c, _⟩ | ⟨_, _, e⟩
      · exact .inl c
      · exact .inr c
      · rw [e] at hne; exact absurd rfl hne
    · exact h.mirror_ok hp
  rcases h.read h16 h64 h2 hn with ⟨c, e⟩ | ⟨c0, c, e⟩ | ⟨c0, c1, ⟨hc, e⟩ | ⟨hc, e⟩⟩
  · rw [e]; exact ⟨fun _ => .inl c, fun _ => rfl⟩
  · rw [e]; exact ⟨fun _ => .inr (.inl c), fun _ => rfl⟩
  · rw [e]
    constructor
    · intro hh; exact absurd hh (by show ¬ (11 : Int) = 0; decide)
    · rintro (hh | hh | ⟨h1, h2'⟩)
      · exact absurd hh c0
      · exact absurd hh c1
      · rcases hc with hc | hc
        · exact absurd hc (hmir.2 h1)
        · exact absurd h2' hc
  · rw [e]
    exact ⟨fun _ => .inr (.inr ⟨hmir.1 hc.1, hc.2⟩), fun _ => rfl⟩
/-- A sector that was made whole. -/
theorem heal_facts {a : List Dev} {m : Nat} {all : List ByteArray} (h : Part a m all) (h16 : 16 ≤ m) (h64 : m ≤ 64) (h2 : m % 2 = 0) {n : Nat} (hn : n < m) :
    Part (healP a all n).1 m all ∧ Cp (healP a all n).1 0 n ∧ Cp (healP a all n).1 1 n ∧ ((Cp a 0 (pt n) ∨ Cp a 1 (pt n) ∨ Cp a 2 (n / 2)) → Cp (healP a all n).1 2 (n / 2)) ∧
      (∀ i p, Cp a i p → Cp (healP a all n).1 i p) ∧ (∀ i p, p ≠ n → i < 2 → (Cp (healP a all n).1 i p ↔ Cp a i p)) ∧ (∀ p, p ≠ n / 2 → (Cp (healP a all n).1 2 p ↔ Cp a 2 p)) ∧ 0 ≤ (healP a all n).2 := by
  have hp1 := h.mend h64 (j := 0) (by decide) hn
  have hc1 := h.mendC h64 (j := 0) (by decide) hn
  obtain ⟨x, hx⟩ : ∃ x, x = mend a 0 n (pl all n) := ⟨_, rfl⟩
  rw [← hx] at hp1 hc1
  have hp2 := hp1.1.mend h64 (j := 1) (by decide) hn
  have hc2 := hp1.1.mendC h64 (j := 1) (by decide) hn
  obtain ⟨y, hy⟩ : ∃ y, y = mend x.1 1 n (pl all n) := ⟨_, rfl⟩
  rw [← hy] at hp2 hc2
  have hm := pt_lt hn h2
  have hpf := pt_facts n
  have hx0 : 0 ≤ x.2 := by rw [hx]; unfold mend; split <;> simp
  have hy0 : 0 ≤ y.2 := by rw [hy]; unfold mend; split <;> simp
  have hy_0 : Cp y.1 0 n := (hc2.2 0 n (.inl (by decide))).2 hc1.1
  have hyo : ∀ i p, (p ≠ n ∨ 2 ≤ i) → (Cp y.1 i p ↔ Cp a i p) := by
    intro i p hip
    have ha : (i ≠ 1 ∨ p ≠ n) := by omega
    have hb : (i ≠ 0 ∨ p ≠ n) := by omega
    exact (hc2.2 i p ha).trans (hc1.2 i p hb)
  have hym : ∀ i p, Cp a i p → Cp y.1 i p := by
    intro i p hcp
    by_cases hpn : p = n
    · subst hpn
      match i with
      | 0 => exact hy_0
      | 1 => exact hc2.1
      | i + 2 => exact (hyo (i + 2) p (.inr (by omega))).2 hcp
    · exact (hyo i p (.inl hpn)).2 hcp
  have hcode := hp2.1.code h16 h64 h2 hm
  have he : healP a all n = if (arrReadS y.1 (pt n : Nat)).2.2 = 0 then ((mendP y.1 (n / 2) (pp all (n / 2))).1, x.2 + y.2 + (mendP y.1 (n / 2) (pp all (n / 2))).2) else (y.1, x.2 + y.2) := by
    unfold healP
    simp only
    rw [← hx, ← hy]
  rw [he]
  by_cases hr : (arrReadS y.1 (pt n : Nat)).2.2 = 0
  · rw [if_pos hr]
    have hp3 := hp2.1.mendP h64 (n := n / 2) (by omega)
    have hc3 := hp2.1.mendPC h64 (n := n / 2) (by omega)
    have hz0 : 0 ≤ (mendP y.1 (n / 2) (pp all (n / 2))).2 := by unfold mendP; split <;> simp
    refine ⟨hp3.1, (hc3.2 0 n (.inl (by decide))).2 hy_0, (hc3.2 1 n (.inl (by decide))).2 hc2.1, fun _ => hc3.1, fun i p hcp => ?_, fun i p hpn hi => ?_, fun p hpn => ?_, by simp only; omega⟩
    · by_cases hip : i = 2 ∧ p = n / 2
      · rw [hip.1, hip.2]; exact hc3.1
      · exact (hc3.2 i p (by omega)).2 (hym i p hcp)
    · exact (hc3.2 i p (.inl (by omega))).trans (hyo i p (.inl hpn))
    · exact (hc3.2 2 p (.inr hpn)).trans (hyo 2 p (.inr (Nat.le_refl _)))
  · rw [if_neg hr]
    refine ⟨hp2.1, hy_0, hc2.1, fun hor => ?_, hym, fun i p hpn hi => hyo i p (.inl hpn), fun p hpn => hyo 2 p (.inr (Nat.le_refl _)), by simp only; omega⟩
    exfalso
    apply hr
    rw [hcode]
    rcases hor with hh | hh | hh
    · exact .inl (hym 0 _ hh)
    · exact .inr (.inl (hym 1 _ hh))
    · refine .inr (.inr ⟨?_, ?_⟩)
      · rw [hpf.2.2]; exact .inl hy_0
      · rw [hpf.2.1]; exact hym 2 _ hh
/-- Again there is nothing to do. -/
theorem heal_again {a : List Dev} {all : List ByteArray} {n : Nat} (h0 : Cp a 0 n) (h1 : Cp a 1 n) (h2 : Cp a 2 (n / 2)) : healP a all n = (a, 0) := by
  rw [Cp.mir (by decide)] at h0 h1
  rw [Cp.two] at h2
  have e0 : mend a 0 n (pl all n) = (a, 0) := by unfold mend; rw [if_pos h0]
  have e1 : mend a 1 n (pl all n) = (a, 0) := by unfold mend; rw [if_pos h1]
  have e2 : mendP a (n / 2) (pp all (n / 2)) = (a, 0) := by unfold mendP; rw [if_pos h2]
  unfold healP
  simp only
  rw [e0]
  simp only
  rw [e1]
  simp only
  rw [e2]
  split <;> rfl
end Go.Proofs.YtgjijcgkmofaaaaDoor

/-
  Sectors looked at one behind the other, round and round, in plain Lean: what is whole then. Conditions: of an array of which no copy tells anything wrong; the numbers are within the array.
-/
namespace Go.Proofs.YtgjijcgkmofaaaaDoor
set_option linter.unusedSimpArgs false
set_option linter.unusedVariables false
open Go.RowKit

/-- All devices but one tell all that they must. -/
def Ones (a : List Dev) (m k : Nat) : Prop := ∀ i p : Nat, i < 3 → i ≠ k → p < (if i = 2 then m / 2 else m) → Cp a i p
/-- A sector is whole: both mirrors and the parity tell it. -/
def Whole (a : List Dev) (n : Nat) : Prop := Cp a 0 n ∧ Cp a 1 n ∧ Cp a 2 (n / 2)
theorem Ones.code {a : List Dev} {m k : Nat} {all : List ByteArray} (ho : Ones a m k) (h : Part a m all) (h16 : 16 ≤ m) (h64 : m ≤ 64) (h2 : m % 2 = 0) {n : Nat} (hn : n < m) : (arrReadS a n).2.2 = 0 := by
  rw [h.code h16 h64 h2 hn]
  by_cases hk : k = 0
  · exact .inr (.inl (ho 1 n (by decide) (by omega) (by rw [if_neg (by decide)]; exact hn)))
  · exact .inl (ho 0 n (by decide) (by omega) (by rw [if_neg (by decide)]; exact hn))
theorem Ones.near {a : List Dev} {m k : Nat} (ho : Ones a m k) (h2 : m % 2 = 0) {n : Nat} (hn : n < m) : Cp a 0 (pt n) ∨ Cp a 1 (pt n) ∨ Cp a 2 (n / 2) := by
  have hp := pt_lt hn h2
  by_cases hk : k = 0
  · exact .inr (.inl (ho 1 _ (by decide) (by omega) (by rw [if_neg (by decide)]; exact hp)))
  · exact .inl (ho 0 _ (by decide) (by omega) (by rw [if_neg (by decide)]; exact hp))
/-- How far a scrub came. -/
structure Sc where
  a : List Dev
  next : Nat
  rounds : Nat
  count : Int
  gone : List Nat
/-- One sector more. -/
def scrub1 (m : Nat) (all : List ByteArray) (s : Sc) : Sc :=
  { a := if (arrReadS s.a s.next).2.2 = 0 then (healP s.a all s.next).1 else s.a
    next := if s.next + 1 = m then 0 else s.next + 1
    rounds := if s.next + 1 = m then s.rounds + 1 else s.rounds
    count := if (arrReadS s.a s.next).2.2 = 0 then s.count + (healP s.a all s.next).2 else s.count
    gone := if (arrReadS s.a s.next).2.2 = 0 then s.gone else if s.next ∈ s.gone then s.gone else s.gone ++ [s.next] }
/-- So many sectors. -/
def scrubN (m : Nat) (all : List ByteArray) : Nat → Sc → Sc
  | 0, s => s
  | k + 1, s => scrub1 m all (scrubN m all k s)
theorem scrub_next {m : Nat} (all : List ByteArray) (s : Sc) (hs : s.next < m) (k : Nat) : (scrubN m all k s).next = (s.next + k) % m ∧ (scrubN m all k s).rounds = s.rounds + (s.next + k) / m := by
  induction k with
  | zero =>
    show s.next = _ ∧ s.rounds = _
    rw [Nat.add_zero, Nat.mod_eq_of_lt hs, Nat.div_eq_of_lt hs]
    exact ⟨rfl, rfl⟩
  | succ k ih =>
    show (scrub1 m all (scrubN m all k s)).next = _ ∧ (scrub1 m all (scrubN m all k s)).rounds = _
    unfold scrub1
    simp only
    rw [ih.1, ih.2, ← Nat.add_assoc]
    obtain ⟨q, hq⟩ : ∃ q, q = (s.next + k) / m := ⟨_, rfl⟩
    obtain ⟨r, hr⟩ : ∃ r, r = (s.next + k) % m := ⟨_, rfl⟩
    have hlt : r < m := by rw [hr]; exact Nat.mod_lt _ (by omega)
    have he : s.next + k = r + m * q := by rw [hq, hr]; exact (Nat.mod_add_div _ _).symm
    rw [← hq, ← hr]
    by_cases hc : r + 1 = m
    · have e : s.next + k + 1 = m * (q + 1) := by rw [he, Nat.mul_add, Nat.mul_one]; omega
      rw [if_pos hc, if_pos hc, e, Nat.mul_mod_right, Nat.mul_div_cancel_left _ (by omega)]
      exact ⟨rfl, by omega⟩
    · have e : s.next + k + 1 = r + 1 + m * q := by omega
      rw [if_neg hc, if_neg hc, e, Nat.add_mul_mod_self_left, Nat.mod_eq_of_lt (by omega), Nat.add_mul_div_left _ _ (by omega), Nat.div_eq_of_lt (by omega), Nat.zero_add]
      exact ⟨rfl, rfl⟩
theorem scrub_add (m : Nat) (all : List ByteArray) (s : Sc) (i j : Nat) : scrubN m all (i + j) s = scrubN m all j (scrubN m all i s) := by
  induction j with
  | zero => rfl
  | succ j ih => show scrub1 m all (scrubN m all (i + j) s) = _; rw [ih]; rfl
/-- No copy that tells is lost by it. -/
theorem scrub_part {m : Nat} {all : List ByteArray} {s : Sc} (h : Part s.a m all) (h16 : 16 ≤ m) (h64 : m ≤ 64) (h2 : m % 2 = 0) (hs : s.next < m) (k : Nat) :
    Part (scrubN m all k s).a m all ∧ (∀ i p, Cp s.a i p → Cp (scrubN m all k s).a i p) ∧ s.count ≤ (scrubN m all k s).count := by
  induction k with
  | zero => exact ⟨h, fun _ _ hc => hc, Int.le_refl _⟩
  | succ k ih =>
    obtain ⟨i1, i2, i3⟩ := ih
    have hn : (scrubN m all k s).next < m := by rw [(scrub_next all s hs k).1]; exact Nat.mod_lt _ (by omega)
    have hf := heal_facts i1 h16 h64 h2 hn
    show Part (scrub1 m all (scrubN m all k s)).a m all ∧ (∀ i p, Cp s.a i p → Cp (scrub1 m all (scrubN m all k s)).a i p) ∧ s.count ≤ (scrub1 m all (scrubN m all k s)).count
    unfold scrub1
    simp only
    by_cases hc : (arrReadS (scrubN m all k s).a (scrubN m all k s).next).2.2 = 0
    · rw [if_pos hc, if_pos hc]
      exact ⟨hf.1, fun i p hcp => hf.2.2.2.2.1 i p (i2 i p hcp), by have := hf.2.2.2.2.2.2.2; omega⟩
    · rw [if_neg hc, if_neg hc]
      exact ⟨i1, i2, i3⟩
/-- Where two devices tell all: nothing is gone, and what was looked at is whole. -/
theorem scrub_ones {m k0 : Nat} {all : List ByteArray} {s : Sc} (ho : Ones s.a m k0) (h : Part s.a m all) (h16 : 16 ≤ m) (h64 : m ≤ 64) (h2 : m % 2 = 0) (hs : s.next < m) (hg : s.gone = []) (k : Nat) :
    (scrubN m all k s).gone = [] ∧ ∀ j, j < k → Whole (scrubN m all k s).a ((s.next + j) % m) := by
  induction k with
  | zero => exact ⟨hg, fun j hj => absurd hj (Nat.not_lt_zero _)⟩
  | succ k ih =>
    obtain ⟨i1, i2, i3⟩ := scrub_part h h16 h64 h2 hs k
    have hnx := (scrub_next all s hs k).1
    have hn : (scrubN m all k s).next < m := by rw [hnx]; exact Nat.mod_lt _ (by omega)
    have hf := heal_facts i1 h16 h64 h2 hn
    have ho' : Ones (scrubN m all k s).a m k0 := fun i p hi hik hp => i2 i p (ho i p hi hik hp)
    have hc := ho'.code i1 h16 h64 h2 hn
    show (scrub1 m all (scrubN m all k s)).gone = [] ∧ ∀ j, j < k + 1 → Whole (scrub1 m all (scrubN m all k s)).a ((s.next + j) % m)
    unfold scrub1
    simp only
    rw [if_pos hc, if_pos hc]
    refine ⟨ih.1, fun j hj => ?_⟩
    by_cases hjk : j = k
    · rw [hjk, ← hnx]
      exact ⟨hf.2.1, hf.2.2.1, hf.2.2.2.1 (ho'.near h2 hn)⟩
    · obtain ⟨w1, w2, w3⟩ := ih.2 j (by omega)
      exact ⟨hf.2.2.2.2.1 _ _ w1, hf.2.2.2.2.1 _ _ w2, hf.2.2.2.2.1 _ _ w3⟩
/-- When all sectors were looked at, all are whole. -/
theorem scrub_whole {m k0 : Nat} {all : List ByteArray} {s : Sc} (ho : Ones s.a m k0) (h : Part s.a m all) (h16 : 16 ≤ m) (h64 : m ≤ 64) (h2 : m % 2 = 0) (hs : s.next < m) (hg : s.gone = []) :
    ∀ n, n < m → Whole (scrubN m all m s).a n := by
  intro n hn
  have hw := (scrub_ones ho h h16 h64 h2 hs hg m).2
  by_cases hc : s.next ≤ n
  · have := hw (n - s.next) (by omega)
    rwa [show s.next + (n - s.next) = n by omega, Nat.mod_eq_of_lt hn] at this
  · have := hw (n + m - s.next) (by omega)
    rwa [show s.next + (n + m - s.next) = n + m by omega, Nat.add_mod_right, Nat.mod_eq_of_lt hn] at this
/-- Where all is whole, nothing is written. -/
theorem scrub_idle {m : Nat} {all : List ByteArray} {s : Sc} (h : ∀ n, n < m → Whole s.a n) (hs : s.next < m) (k : Nat) : (scrubN m all k s).a = s.a ∧ (scrubN m all k s).count = s.count := by
  induction k with
  | zero => exact ⟨rfl, rfl⟩
  | succ k ih =>
    have hn : (scrubN m all k s).next < m := by rw [(scrub_next all s hs k).1]; exact Nat.mod_lt _ (by omega)
    obtain ⟨w1, w2, w3⟩ := h _ hn
    have ha := heal_again (all := all) w1 w2 w3
    show (scrub1 m all (scrubN m all k s)).a = _ ∧ (scrub1 m all (scrubN m all k s)).count = _
    unfold scrub1
    simp only
    rw [ih.1, ih.2, ha]
    constructor
    · split <;> rfl
    · split
      · simp
      · rfl
/-- After hurts to one device the others tell all. -/
theorem keep_ones {a : List Dev} {m : Nat} {all : List ByteArray} (h : Full a m all) (h16 : 16 ≤ m) (h64 : m ≤ 64) (h2 : m % 2 = 0) {k : Nat} (hk : k < 3) {l : List HA} (hl : ∀ x ∈ l, ActOk k (dv a k).sec.length x) (hn : (turned l).Nodup) :
    Ones (hurtAll a l) m k := by
  have hlen : ∀ j, j < 3 → (dv a j).sec.length = if j = 2 then m / 2 else m := by
    intro j hj
    match j, hj with
    | 0, _ => exact h.good.l0
    | 1, _ => exact h.good.l1
    | 2, _ => exact h.good.l2
  have hmay : ∀ j, j < 3 → devMay (dv a j) = true := by
    intro j hj
    match j, hj with
    | 0, _ => exact h.good.m0
    | 1, _ => exact h.good.m1
    | 2, _ => exact h.good.m2
  have hsound : ∀ j, j < 3 → ∀ n : Nat, n < (dv a j).sec.length → Sound (dv a j) n (noOf j n) (exOf all j n) := by
    intro j hj n hnl
    rw [hlen j hj] at hnl
    match j, hj with
    | 0, _ => exact h.s0 n hnl
    | 1, _ => exact h.s1 n hnl
    | 2, _ => exact h.s2 n hnl
  have h0 : HInv a a m k (noOf k) (exOf all k) [] := ⟨h.good, fun _ _ => rfl, hmay k hk, rfl, fun n hnl => .inr (.inl ⟨by simp, hsound k hk n hnl⟩)⟩
  obtain ⟨T, hb⟩ := HInv.all h.good h16 h64 hk l a [] h0 hl hn (fun _ _ => by simp)
  obtain ⟨r0, r1, r2⟩ := h.reads h64
  intro i p hi hik hp
  unfold Cp
  rw [hb.others i hik]
  match i, hi with
  | 0, _ => have e := r0 p (by simpa using hp); rw [if_neg (by decide), e]
  | 1, _ => have e := r1 p (by simpa using hp); rw [if_neg (by decide), e]
  | 2, _ => have e := r2 p (by simpa using hp); rw [if_pos rfl, e]
end Go.Proofs.YtgjijcgkmofaaaaDoor

/-
  Streams read off an array of which no copy tells anything wrong, in plain Lean. Conditions: the sectors are within the array.
-/
namespace Go.Proofs.YtgjijcgkmofaaaaDoor
set_option linter.unusedSimpArgs false
set_option linter.unusedVariables false
open Go.RowKit

/-- Payloads, one behind the other. -/
def joinPl (all : List ByteArray) : Nat → Nat → ByteArray → ByteArray
  | 0, _, s => s
  | n + 1, k, s => joinPl all n (k + 1) (s ++ pl all k)
theorem Part.told {a : List Dev} {m : Nat} {all : List ByteArray} (h : Part a m all) (h16 : 16 ≤ m) (h64 : m ≤ 64) (h2 : m % 2 = 0) {n : Nat} (hn : n < m) :
    ((arrReadS a n).2.2 = 0 ∧ (arrReadS a n).1 = pl all n) ∨ arrReadS a n = (.empty, 0, 11) := by
  rcases h.read h16 h64 h2 hn with ⟨_, e⟩ | ⟨_, _, e⟩ | ⟨_, _, ⟨_, e⟩ | ⟨_, e⟩⟩
  · exact .inl (by rw [e]; exact ⟨rfl, rfl⟩)
  · exact .inl (by rw [e]; exact ⟨rfl, rfl⟩)
  · exact .inr e
  · exact .inl (by rw [e]; exact ⟨rfl, rfl⟩)
/-- All that is asked for can be read. -/
theorem part_loop {a : List Dev} {m : Nat} {all : List ByteArray} (h : Part a m all) (h16 : 16 ≤ m) (h64 : m ≤ 64) (h2 : m % 2 = 0) : ∀ (n k : Nat) (s : ByteArray), k + n ≤ m → (∀ i : Nat, k ≤ i → i < k + n → (arrReadS a i).2.2 = 0) → streamReadLoop a n k s = (joinPl all n k s, 0)
  | 0, k, s, _, _ => rfl
  | n + 1, k, s, hk, hr => by
    have h0 := hr k (Nat.le_refl _) (by omega)
    have ht : (arrReadS a k).1 = pl all k := by
      rcases h.told h16 h64 h2 (n := k) (by omega) with ⟨_, e⟩ | e
      · exact e
      · rw [e] at h0; exact absurd h0 (by show ¬ (11 : Int) = 0; decide)
    unfold streamReadLoop
    rw [if_neg (by simpa using h0), ht, show ((k : Nat) : Int) + 1 = ((k + 1 : Nat) : Int) by omega]
    exact part_loop h h16 h64 h2 n (k + 1) _ (by omega) (fun i hi hj => hr i (by omega) (by omega))
/-- Something of it can't be read. -/
theorem part_lost {a : List Dev} {m : Nat} {all : List ByteArray} (h : Part a m all) (h16 : 16 ≤ m) (h64 : m ≤ 64) (h2 : m % 2 = 0) : ∀ (n k : Nat) (s : ByteArray), k + n ≤ m → (∃ i : Nat, k ≤ i ∧ i < k + n ∧ (arrReadS a i).2.2 ≠ 0) → streamReadLoop a n k s = (.empty, 11)
  | 0, k, s, _, ⟨i, h1, h2', _⟩ => by omega
  | n + 1, k, s, hk, ⟨i, h1, h3, h4⟩ => by
    unfold streamReadLoop
    rcases h.told h16 h64 h2 (n := k) (by omega) with ⟨hc, e⟩ | e
    · rw [if_neg (by simpa using hc), e, show ((k : Nat) : Int) + 1 = ((k + 1 : Nat) : Int) by omega]
      refine part_lost h h16 h64 h2 n (k + 1) _ (by omega) ⟨i, ?_, by omega, h4⟩
      by_cases hik : i = k
      · rw [hik] at h4; exact absurd hc h4
      · omega
    · rw [e]; rfl
theorem joinPl_congr {all all' : List ByteArray} : ∀ (n k : Nat) (s : ByteArray), (∀ i, k ≤ i → i < k + n → pl all i = pl all' i) → joinPl all n k s = joinPl all' n k s
  | 0, _, _, _ => rfl
  | n + 1, k, s, h => by
    unfold joinPl
    rw [h k (Nat.le_refl _) (by omega)]
    exact joinPl_congr n (k + 1) _ fun i h1 h2 => h i (by omega) (by omega)
/-- What a stream of an array tells where all that is asked for can be read. -/
theorem part_stream {a : List Dev} {m : Nat} {all : List ByteArray} (h : Part a m all) (h16 : 16 ≤ m) (h64 : m ≤ 64) (h2 : m % 2 = 0) {k n : Nat} (hn : n ≤ 1536) (hm : k + (n + 23) / 24 ≤ m) :
    ((∀ i : Nat, k ≤ i → i < k + (n + 23) / 24 → (arrReadS a i).2.2 = 0) → streamReadS a k n = ((joinPl all ((n + 23) / 24) k .empty).extract 0 n, 0)) ∧
    ((∃ i : Nat, k ≤ i ∧ i < k + (n + 23) / 24 ∧ (arrReadS a i).2.2 ≠ 0) → streamReadS a k n = (.empty, 11)) := by
  have hlen : (dv a 0).sec.length = m := h.good.l0
  have hf : streamFaultS a k n = 0 := fault_none (h.good.may h16 h2) ⟨by omega, by omega⟩ (by rw [hlen]; omega)
  have en : (((n : Int) + 23) / 24).toNat = (n + 23) / 24 := by omega
  constructor
  · intro hr
    unfold streamReadS
    rw [hf, if_neg (by decide), en, part_loop h h16 h64 h2 _ k _ hm hr]
    rfl
  · intro hr
    unfold streamReadS
    rw [hf, if_neg (by decide), en, part_lost h h16 h64 h2 _ k _ hm hr]
    rfl
end Go.Proofs.YtgjijcgkmofaaaaDoor

/-
  The document's way to make a sector whole, and its count of bad copies, for an array of which no copy tells anything wrong: in plain Lean. Conditions: the numbers are within the array.
-/
namespace Go.Proofs.YtgjijcgkmofaaaaDoor
set_option linter.unusedSimpArgs false
set_option linter.unusedVariables false
open Go.RowKit

/-- A parity that can be read is right, where both sectors can be read. -/
def PR (a : List Dev) (n : Int) : Prop := (arrReadS a n).2.2 = 0 → (arrReadS a (partner n)).2.2 = 0 → (parS a n).2 = 0 → (parS a n).1 = xorS (arrReadS a n).1 (arrReadS a (partner n)).1
theorem par_pr {a : List Dev} {n : Int} (h : PR a n) (h0 : (arrReadS a n).2.2 = 0) (h1 : (arrReadS a (partner n)).2.2 = 0) : parRightS a n = (decide ((parS a n).2 = 0), true) := by
  unfold parRightS
  rw [if_neg (by omega)]
  by_cases hc : (parS a n).2 = 0
  · rw [h h0 h1 hc]; simp
  · simp [hc]
theorem Part.told0 {a : List Dev} {m : Nat} {all : List ByteArray} (h : Part a m all) (h16 : 16 ≤ m) (h64 : m ≤ 64) (h2 : m % 2 = 0) {n : Nat} (hn : n < m) (hc : (arrReadS a n).2.2 = 0) : (arrReadS a n).1 = pl all n := by
  rcases h.read h16 h64 h2 hn with ⟨_, e⟩ | ⟨_, _, e⟩ | ⟨_, _, ⟨_, e⟩ | ⟨_, e⟩⟩
  · rw [e]
  · rw [e]
  · rw [e] at hc; exact absurd hc (by show ¬ (11 : Int) = 0; decide)
  · rw [e]
theorem parS_nat (a : List Dev) (n : Nat) : parS a n = readS (dv a 2) ((n / 2 : Nat) : Int) (512 + ((n / 2 : Nat) : Int)) := by
  unfold parS
  rw [show ((n : Int) / 2) = ((n / 2 : Nat) : Int) by omega]
theorem Part.pr {a : List Dev} {m : Nat} {all : List ByteArray} (h : Part a m all) (h16 : 16 ≤ m) (h64 : m ≤ 64) (h2 : m % 2 = 0) {n : Nat} (hn : n < m) : PR a n := by
  intro h0 h1 hp
  have hm := pt_lt hn h2
  rw [partner_pt] at h1 ⊢
  rw [parS_nat] at hp ⊢
  rw [h.told0 h16 h64 h2 hn h0, h.told0 h16 h64 h2 hm h1, h.r2 (n / 2) (by omega) hp, pp_eq]
theorem healOne_eq {a : List Dev} {m : Nat} {all : List ByteArray} (h : Part a m all) {k n : Nat} (hk : k < 2) (hn : n < m) (how : Int) : healOne a k n (pl all n) how = mend a k n (pl all n) := by
  unfold healOne mend
  by_cases hc : (readS (dv a k) n n).2 = 0
  · rw [if_pos hc, if_pos]
    refine ⟨hc, .inl ?_⟩
    match k, hk with
    | 0, _ => rw [h.r0 n hn hc]
    | 1, _ => rw [h.r1 n hn hc]
  · rw [if_neg hc, if_neg (fun e => hc e.1)]
/-- What the document's healing does. -/
theorem heal_eq {a : List Dev} {m : Nat} {all : List ByteArray} (h : Part a m all) (h16 : 16 ≤ m) (h64 : m ≤ 64) (h2 : m % 2 = 0) {n : Nat} (hn : n < m) :
    healS a n = if (arrReadS a n).2.2 = 0 then ((healP a all n).1, (healP a all n).2, 0) else ([], 0, 11) := by
  unfold healS
  by_cases hc : (arrReadS a n).2.2 = 0
  · rw [if_neg (by simpa using hc), if_pos hc]
    dsimp only
    rw [h.told0 h16 h64 h2 hn hc, healOne_eq h (by decide) hn]
    have hp1 := h.mend h64 (j := 0) (by decide) hn
    have hc1 := h.mendC h64 (j := 0) (by decide) hn
    unfold healP
    dsimp only
    obtain ⟨x, hx⟩ : ∃ x, x = mend a 0 n (pl all n) := ⟨_, rfl⟩
    rw [← hx] at hp1 hc1 ⊢
    rw [healOne_eq hp1.1 (by decide) hn]
    have hp2 := hp1.1.mend h64 (j := 1) (by decide) hn
    have hc2 := hp1.1.mendC h64 (j := 1) (by decide) hn
    obtain ⟨y, hy⟩ : ∃ y, y = mend x.1 1 n (pl all n) := ⟨_, rfl⟩
    rw [← hy] at hp2 hc2 ⊢
    have hm := pt_lt hn h2
    have hy0 : (arrReadS y.1 n).2.2 = 0 := (hp2.1.code h16 h64 h2 hn).2 (.inr (.inl hc2.1))
    unfold healPar
    by_cases hr : (arrReadS y.1 (pt n : Nat)).2.2 = 0
    · rw [par_pr (hp2.1.pr h16 h64 h2 hn) hy0 (by rw [partner_pt]; exact hr), if_pos hr, parS_nat, partner_pt, hp2.1.told0 h16 h64 h2 hm hr]
      unfold mendP
      by_cases hq : (readS (dv y.1 2) ((n / 2 : Nat) : Int) (512 + ((n / 2 : Nat) : Int))).2 = 0
      · rw [if_pos hq, if_neg (by rintro ⟨_, e⟩; exact absurd hq (of_decide_eq_false e))]
      · rw [if_neg hq, if_pos ⟨rfl, decide_eq_false hq⟩]
        unfold writeP
        rw [show ((n : Int) / 2) = ((n / 2 : Nat) : Int) by omega, pp_eq]
    · have e : parRightS y.1 n = (false, false) := by unfold parRightS; rw [partner_pt, if_pos (.inr hr)]
      rw [e, if_neg hr, if_neg (by rintro ⟨e, _⟩; cases e)]
      simp
  · rw [if_pos hc, if_neg hc]
    rcases h.read h16 h64 h2 hn with ⟨_, e⟩ | ⟨_, _, e⟩ | ⟨_, _, ⟨_, e⟩ | ⟨_, e⟩⟩
    · rw [e] at hc; exact absurd rfl hc
    · rw [e] at hc; exact absurd rfl hc
    · rw [e]
    · rw [e] at hc; exact absurd rfl hc
/-- Where a sector is whole, no copy of it is bad. -/
theorem bad_whole {a : List Dev} {m : Nat} {all : List ByteArray} (h : Part a m all) (h16 : 16 ≤ m) (h64 : m ≤ 64) (h2 : m % 2 = 0) {n : Nat} (hn : n < m) (hw : Whole a n) (hp : Cp a 0 (pt n) ∨ Cp a 1 (pt n)) : badS a n = (0, 0) := by
  obtain ⟨w0, w1, w2⟩ := hw
  have hm := pt_lt hn h2
  have c0 : (arrReadS a n).2.2 = 0 := (h.code h16 h64 h2 hn).2 (.inl w0)
  have c1 : (arrReadS a (partner n)).2.2 = 0 := by
    rw [partner_pt]
    refine (h.code h16 h64 h2 hm).2 ?_
    rcases hp with hp | hp
    · exact .inl hp
    · exact .inr (.inl hp)
  have ht := h.good.arr h16 h2 hn
  unfold badS
  rw [if_neg (by simpa using ht), par_pr (h.pr h16 h64 h2 hn) c0 c1, parS_nat]
  have e0 : (readS (dv a 0) n n).2 = 0 := (Cp.mir (by decide)).1 w0
  have e1 : (readS (dv a 1) n n).2 = 0 := (Cp.mir (by decide)).1 w1
  have e2 : (readS (dv a 2) ((n / 2 : Nat) : Int) (512 + ((n / 2 : Nat) : Int))).2 = 0 := Cp.two.1 w2
  rw [e0, e1, e2]
  simp [b2i]
end Go.Proofs.YtgjijcgkmofaaaaDoor

/-
  heal.parityRight: does the parity of two sectors tell what it must? Conditions: the argument reads as an array; the sector is within it; where both sectors and the parity can be read, the parity is right.
-/
namespace Go.Proofs.YtgjijcgkmofaaaaDoor
set_option linter.unusedSimpArgs false
set_option linter.unusedVariables false
open Go.RowKit

theorem iter_ext {a w : World} (h : Ext a w) {k : Nat} (hk : a.heap.size ≤ k) (s : ByteArray) (pos : Nat) : Ext a (w.iterAt k s pos) := Lib.below_iterAt h hk s pos
theorem arrRead_size {a : List Dev} {n : Int} (h : (arrReadS a n).2.2 = 0) : (arrReadS a n).1.size = 24 := by
  unfold arrReadS at h ⊢
  split
  · rename_i ht; rw [if_pos ht] at h; exact absurd h ht
  · rename_i ht
    rw [if_neg ht] at h
    split
    · rename_i hm; exact mirrorS_size hm
    · rename_i hm
      rw [if_neg hm] at h
      split
      · rename_i hq; rw [if_pos hq] at h; exact absurd h (by show ¬ (11 : Int) = 0; decide)
      · rename_i hq
        have hq1 : (mirrorS a (partner n)).2 ≠ 0 := fun e => hq (.inl e)
        have hq2 : (parS a n).2 = 0 := by
          by_cases e : (parS a n).2 = 0
          · exact e
          · exact absurd (.inr e) hq
        rw [xorS_size (by rw [mirrorS_size hq1]; exact readS_size hq2)]
        exact readS_size hq2
theorem xorS_at {s t : ByteArray} (h : s.size = t.size) (k : Nat) (hk : k < s.size) (hk2 : k < (xorS s t).size) : (xorS s t)[k] = s[k] ^^^ t[k]'(by omega) := by
  have e : lst (xorS s t) = List.zipWith (fun a b => a ^^^ b) (lst s) (lst t) := lst_bs _
  have h1 : (xorS s t)[k] = (lst (xorS s t))[k]'(by rw [length_lst]; exact hk2) := rfl
  rw [h1]
  simp only [e, List.getElem_zipWith]
  rfl
set_option maxRecDepth 100000 in
set_option maxHeartbeats 4000000 in
theorem parityRight_any (cs : List Value) (a : List Dev) (n : Int) (w : World) (h : RArr w cs a) (hn : I64 n) (ht : arrTouch a n = 0) (hp : PR a n) :
    Calls Tryd.prog 27 #[.agg cs.toArray, .int .i64 n] w fun e w' => e = .returned (.tuple #[.bool (parRightS a n).1, .bool (parRightS a n).2]) ∧ Ext w w' := by
  obtain ⟨A, c, rfl⟩ := h.form
  obtain ⟨n0, n63⟩ := n2_of ht
  have h3 := (arr_parts (arrTouch_zero.1 ht).1).1
  have HT := Lib.hid ht
  have HP := Lib.hid hp
  have H3 := Lib.hid h3
  have HR := Lib.hid h
  have HN := Lib.hid hn
  have HPX := Lib.hid (partner_xor n n0 n63)
  have hpr := partner_range ht
  have HPN := Lib.hid (show I64 (partner n) from ⟨by omega, by omega⟩)
  clear ht hp h3 h hn hpr
  go_enter Tryd.func27, Tryd.ntmps27
  go_wp2_with fail
  refine calls_abs (fun W => Ext w W ∧ Blk_ W w.heap.size 25 #[.slice A a.length c]) ⟨(Ext.refl _).alloc _, Blk_.new _ _ _⟩ ?_
  rintro w1 ⟨hx1, hb1⟩
  obtain ⟨b10, h10⟩ : ∃ b, b = w.heap.size := ⟨_, rfl⟩
  rw [← h10] at hb1 ⊢
  have HX1 := Lib.hid hx1
  have HB1 := Lib.hid hb1
  have HR1 := Lib.hid (HR.out.up hx1)
  clear hx1 hb1 h10 HR
  refine (arrRead_any [.slice A a.length c] a n w1 HR1.out HN.out).mono ?_
  rintro e w2 ⟨rfl, hx2⟩
  have f0 := (HB1.out.ext hx2).cell 0
  simp at f0
  have HX2 := Lib.hid hx2
  clear hx2
  obtain ⟨e0, he0⟩ : ∃ e0, e0 = (arrReadS a n).2.2 := ⟨_, rfl⟩
  obtain ⟨s, hs⟩ : ∃ s, s = (arrReadS a n).1 := ⟨_, rfl⟩
  rw [← he0, ← hs]
  have HE0 := Lib.hid he0
  have HS0 := Lib.hid hs
  clear he0 hs
  generalize (arrReadS a n).2.1 = how
  go_wp2_with fail
  rw [HPX.out]
  refine (arrRead_any [.slice A a.length c] a (partner n) w2 (HR1.out.up HX2.out) HPN.out).mono ?_
  rintro e w3 ⟨rfl, hx3⟩
  clear f0
  have HX3 := Lib.hid (HX2.out.trans hx3)
  clear hx3
  obtain ⟨e1, he1⟩ : ∃ e1, e1 = (arrReadS a (partner n)).2.2 := ⟨_, rfl⟩
  obtain ⟨t, htt⟩ : ∃ t, t = (arrReadS a (partner n)).1 := ⟨_, rfl⟩
  rw [← he1, ← htt]
  generalize (arrReadS a (partner n)).2.1 = how2
  have he0 := HE0.out
  have hs := HS0.out
  clear HE0 HS0
  by_cases hc0 : e0 = 0
  case neg =>
    have hF : parRightS a n = (false, false) := by unfold parRightS; rw [if_pos (.inl (by rw [← he0]; exact hc0))]
    have hb0 : (e0 != 0) = true := by simpa using hc0
    have HF := Lib.hid hF
    clear hc0 he0 he1 hs htt hF
    go_wp2_with fail
    go_ret2
    rw [HF.out]
    exact ⟨rfl, HX1.out.trans HX3.out⟩
  case pos =>
  by_cases hc1 : e1 = 0
  case neg =>
    have hF : parRightS a n = (false, false) := by unfold parRightS; rw [if_pos (.inr (by rw [← he1]; exact hc1))]
    have hb0 : (e1 != 0) = true := by simpa using hc1
    rw [hc0]
    have HF := Lib.hid hF
    clear hc0 hc1 he0 he1 hs htt hF
    go_wp2_with fail
    go_ret2
    rw [HF.out]
    exact ⟨rfl, HX1.out.trans HX3.out⟩
  case pos =>
  have hF := par_pr HP.out (by rw [← he0]; exact hc0) (by rw [← he1]; exact hc1)
  have hxor := HP.out (by rw [← he0]; exact hc0) (by rw [← he1]; exact hc1)
  have hz0 := arrRead_size (a := a) (n := n) (by rw [← he0]; exact hc0)
  have hz1 := arrRead_size (a := a) (n := partner n) (by rw [← he1]; exact hc1)
  rw [← hs] at hxor hz0
  rw [← htt] at hxor hz1
  rw [hc0, hc1]
  have HF := Lib.hid hF
  clear hc0 hc1 he0 he1 hF hs htt
  have HR3 := Lib.hid (HR1.out.up HX3.out)
  have HB3 := Lib.hid (HB1.out.ext HX3.out)
  obtain ⟨b, o, rfl, hl⟩ := HR3.out.look 0 (by have := H3.out; omega)
  obtain ⟨A1, c1, A2, c2, q0, q1, hd⟩ := hl 2 (by have := H3.out; omega)
  simp at q0 q1
  have h3i : (2 : Int) < (a.length : Int) := by have := H3.out; omega
  have f0 := HB3.out.cell 0
  simp at f0
  have HD := Lib.hid hd
  have HXOR := Lib.hid hxor
  have HZ := Lib.hid (And.intro hz0 hz1)
  clear hl hd hxor hz0 hz1
  go_wp2_with fail
  refine calls_abs (fun W => Ext w3 W) (by first | exact Ext.refl _ | exact (Ext.refl _).alloc _) ?_
  intro w4 hx4
  refine (devRead_any [.slice A1 (dv a 2).sec.length c1, .slice A2 (dv a 2).lost.length c2] (dv a 2) (n / 2) (512 + n / 2) w4 (HD.out.up hx4) ⟨by omega, by omega⟩ ⟨by omega, by omega⟩).mono ?_
  rintro e w5 ⟨rfl, hx5⟩
  have hpar : readS (dv a 2) (n / 2) (512 + n / 2) = parS a n := rfl
  rw [hpar]
  have HX5 := Lib.hid (HX1.out.trans (HX3.out.trans (hx4.trans hx5)))
  clear hpar hx4 hx5 f0 q0 q1 HX1 HX2 HX3 HB1 HB3 HR1 HR3
  by_cases hg : (parS a n).2 = 0
  case neg =>
    have hgb : ((parS a n).2 != 0) = true := by simpa using hg
    have hdb : decide ((parS a n).2 = 0) = false := decide_eq_false hg
    have hFF := HF.out
    rw [hdb] at hFF
    have HFF := Lib.hid hFF
    clear hg hdb HXOR HF hFF
    generalize (parS a n).2 = pc at *
    generalize (parS a n).1 = pb at *
    go_wp2_with fail
    go_ret2
    rw [HFF.out]
    exact ⟨rfl, HX5.out⟩
  case pos =>
  have hx := HXOR.out hg
  have hFF := HF.out
  rw [decide_eq_true hg] at hFF
  have HFF := Lib.hid hFF
  rw [hg]
  clear HF hFF
  obtain ⟨P, hP⟩ : ∃ P, P = (parS a n).1 := ⟨_, rfl⟩
  rw [← hP] at hx ⊢
  clear hP hg HXOR
  have hzp : P.size = 24 := by rw [hx, xorS_size (by have := HZ.out; omega)]; exact HZ.out.1
  have HXP := Lib.hid hx
  have HZP := Lib.hid hzp
  clear hx hzp
  go_wp2_with fail
  refine wp_abs (fun W => Ext w5 W ∧ W.heap[w5.heap.size]? = some (.stringIter P 0)) ⟨(Ext.refl _).alloc _, by simpa using World.iter_heap w5 P 0⟩ ?_
  rintro w6 ⟨hx6, hk6⟩
  obtain ⟨k0, hk0⟩ : ∃ k, k = w5.heap.size := ⟨_, rfl⟩
  rw [← hk0] at hk6 ⊢
  have HK0 := Lib.hid hk0
  have HX6 := Lib.hid (And.intro hx6 hk6)
  clear hk0 hx6 hk6
  go_loopw [14] (fun _ wr => ∃ pos : Nat, wr.heap[k0]? = some (.stringIter P pos) ∧ Ext w5 wr) (fun _ wr => P.size - wr.iterPos k0)
  case atStart => exact ⟨0, HX6.out.2, HX6.out.1⟩
  case round =>
    clear HX6
    obtain ⟨pos, hk, hx⟩ := hrel
    by_cases hlt : pos < P.size
    · have hnext : ∀ ty, (Instr.next (.pointer (some ⟨k0, 0, none⟩)) true ty).run Tryd.prog wr = _ := fun ty => Lib.run_next_any_at wr k0 P pos ty hk hlt
      have hk1 := Lib.iterAt_heap wr k0 P pos (pos + (Utf8.decode P pos).2) hk
      have hx1 := iter_ext hx (Nat.le_of_eq HK0.out.symm) P (pos + (Utf8.decode P pos).2)
      have hmu : wr.iterPos k0 = pos := by simp [World.iterPos, hk]
      have hstep : 1 ≤ (Utf8.decode P pos).2 := by
        by_cases ha : (P[pos]).toNat < 128
        · rw [decode_ascii P pos hlt ha]; exact Nat.le_refl _
        · exact (decode_high P pos hlt (by omega)).2
      generalize wr.iterAt k0 P (pos + (Utf8.decode P pos).2) = W1 at hnext hk1 hx1
      generalize (Utf8.decode P pos).2 = step at *
      generalize (Utf8.decode P pos).1 = rune at *
      have hs0 : pos < s.size := by have := HZ.out; have := HZP.out; omega
      have ht0 : pos < t.size := by have := HZ.out; have := HZP.out; omega
      have hki : (pos : Int) < (P.size : Int) := by omega
      have hki1 : (pos : Int) < (s.size : Int) := by omega
      have hki2 : (pos : Int) < (t.size : Int) := by omega
      have hpx : P[pos] = s[pos] ^^^ t[pos] := by
        have hxp := HXP.out
        subst hxp
        exact xorS_at (by have := HZ.out; omega) pos hs0 hlt
      have hxb := xor_byte (s[pos]) (t[pos])
      have HXB := Lib.hid hxb
      have HPX2 := Lib.hid hpx
      have HK1 := Lib.hid hk1
      have HX1 := Lib.hid hx1
      have HMU := Lib.hid (And.intro hmu hstep)
      clear hk hx hk1 hx1 hmu hstep hpx hxb
      go_wp2_with fail
      go_quiet (fail)
      rw [HXB.out, HPX2.out]
      have hnn : (((s[pos] ^^^ t[pos]).toNat : Int) != ((s[pos] ^^^ t[pos]).toNat : Int)) = false := by simp
      rw [hnn]
      generalize s[pos] ^^^ t[pos] = bx
      go_wp2_with fail
      have hk2 : (W1.drewN nq).heap[k0]? = some (.stringIter P (pos + step)) := HK1.out
      go_roundw
      case rel => exact ⟨pos + step, hk2, HX1.out.drewN _⟩
      case measure =>
        have h1 : (W1.drewN nq).iterPos k0 = pos + step := iterPos_of hk2
        have h2 := HMU.out
        rw [h1, h2.1]
        omega
    · have hnext : ∀ ty, (Instr.next (.pointer (some ⟨k0, 0, none⟩)) true ty).run Tryd.prog wr = _ := fun ty => Lib.run_next_end_at wr k0 P pos ty hk hlt
      have HX := Lib.hid hx
      clear hx
      go_wp2_with fail
      go_ret2
      rw [HFF.out]
      exact ⟨rfl, HX5.out.trans HX.out⟩
end Go.Proofs.YtgjijcgkmofaaaaDoor
