/-
  ArraysStand: whatever happens to one device, all sectors are told; and where they come from. Conditions: both lists read as lists of raw numbers; the table of powers of ten that the library reads is in place.
-/
import Derived.Test.YtgjijcgkmofaaaaGreatDoorK20
namespace Go.Proofs.YtgjijcgkmofaaaaGreatDoor
set_option linter.unusedSimpArgs false
set_option linter.unusedVariables false
open Go.RowKit

theorem own_acts {w : World} {b : Nat} {t : TypeId} {A : Option Addr} {c : Nat} {L : List HA} (h : w.ownsRow b t 7 (.slice A L.length c) L.length (L.flatMap encHA)) :
    ∀ (k : Nat) (_ : k < L.length), ∃ b o, A = some ⟨b, o, none⟩ ∧ ∀ (i : Nat) (hi : i < L.length) (j : Nat) (u : Value), (encHA L[i])[j]? = some u → w.cell? ⟨b, o + i * 7 + j, none⟩ = some u := by
  intro k hk
  have h' := h
  rcases h.2 with ⟨_, h0⟩ | ⟨g, cap, cur, hv, _⟩
  · omega
  · injection hv with a1 a2 a3
    subst a1
    refine ⟨g, 0, rfl, fun i hi j u hu => ?_⟩
    have hj : j < 7 := (List.getElem?_eq_some_iff.1 hu).1
    have hc := h'.cellAt (i * 7 + j) (by omega)
    rw [Nat.zero_add, hc, flatMap_at (enc := encHA) (C := 7) (fun _ => rfl) L i j hi hj]
    exact hu
theorem acts_fine {k m : Nat} {L : List HA} (hk : k < 3) (hm : m ≤ 64) (h : ∀ x ∈ L, ActOk k (if k = 2 then m / 2 else m) x) : ∀ x ∈ L, x.d < 3 ∧ (x.kind = 4 ∨ x.kind = 5 ∨ x.kind = 6) ∧ I64 x.n ∧ I64 x.at_ ∧ I64 x.by_ := by
  intro x hx
  obtain ⟨h1, h2, h3, h4, h5, h6, h7, h8⟩ := h x hx
  have : (if k = 2 then m / 2 else m) ≤ 64 := by split <;> omega
  exact ⟨by omega, h2, by unfold I64; omega, by unfold I64; omega, by unfold I64; omega⟩
set_option maxRecDepth 100000 in
theorem keepSectors_any (n : Int) (w : World) (hn : I64 n) :
    Calls Tryz.prog 21 #[.int .i64 n] w fun e w' => ∃ m : Nat, e = .returned (.int .i64 (m : Int)) ∧ w' = w ∧ 24 ≤ m ∧ m ≤ 62 ∧ m % 2 = 0 := by
  have HN := Lib.hid hn
  clear hn
  go_enter Tryz.func21, Tryz.ntmps21
  go_wp2_with fail
  refine (picked_any n 20 w HN.out (by omega) (by omega)).mono ?_
  rintro e w1 ⟨rfl, hw⟩
  obtain rfl := hw.symm
  have hpr := pick_range n 20 (by decide)
  obtain ⟨p, hp⟩ := Int.eq_ofNat_of_zero_le hpr.1
  rw [hp] at hpr ⊢
  obtain ⟨p2, hp2⟩ : ∃ p2 : Nat, p2 = 2 * p := ⟨_, rfl⟩
  obtain ⟨m, hm⟩ : ∃ m : Nat, m = 24 + p2 := ⟨_, rfl⟩
  have y1 : (2 : Int) * (p : Int) = (p2 : Int) := by omega
  have y2 : (24 : Int) + (p2 : Int) = (m : Int) := by omega
  have b1 : (p : Int) < 20 := hpr.2
  have b2 : (p2 : Int) < 40 := by omega
  have b3 : (m : Int) ≤ 62 := by omega
  have HM := Lib.hid (show 24 ≤ m ∧ m ≤ 62 ∧ m % 2 = 0 by omega)
  clear hpr hp hp2 hm
  go_wp2_with fail
  go_ret
  exact ⟨m, rfl, rfl, HM.out⟩
end Go.Proofs.YtgjijcgkmofaaaaGreatDoor

/-
  Sectors that are made whole again, in plain Lean, for arrays of which no copy tells anything wrong. Conditions: the numbers are within the array.
-/
namespace Go.Proofs.YtgjijcgkmofaaaaGreatDoor
set_option linter.unusedSimpArgs false
set_option linter.unusedVariables false
open Go.RowKit

/-- Does the copy of a sector on a device tell something? -/
def ok0 (a : List Dev) (n : Nat) : Bool := decide ((readS (dv a 0) n n).2 = 0)
def ok1 (a : List Dev) (n : Nat) : Bool := decide ((readS (dv a 1) n n).2 = 0)
def ok2 (a : List Dev) (n : Nat) : Bool := decide ((readS (dv a 2) n (512 + n : Int)).2 = 0)
/-- A mirror is written where it tells nothing. -/
def mend (a : List Dev) (j n : Nat) (s : ByteArray) : List Dev × Int := if (readS (dv a j) n n).2 = 0 then (a, 0) else (a.set j (writeS (dv a j) n n s).1, 1)
/-- The parity is written where it tells nothing. -/
def mendP (a : List Dev) (n : Nat) (s : ByteArray) : List Dev × Int := if (readS (dv a 2) n (512 + n : Int)).2 = 0 then (a, 0) else (a.set 2 (writeS (dv a 2) n (512 + n : Int) s).1, 1)
/-- What making a sector whole does. -/
def healP (a : List Dev) (all : List ByteArray) (n : Nat) : List Dev × Int :=
  let x := mend a 0 n (pl all n)
  let y := mend x.1 1 n (pl all n)
  if (arrReadS y.1 (pt n : Nat)).2.2 = 0 then ((mendP y.1 (n / 2) (pp all (n / 2))).1, x.2 + y.2 + (mendP y.1 (n / 2) (pp all (n / 2))).2) else (y.1, x.2 + y.2)
theorem Part.put {a : List Dev} {m : Nat} {all : List ByteArray} (h : Part a m all) {j : Nat} (hj : j < 3) {d : Dev} (hd : devMay d = true) (hl : d.sec.length = (dv a j).sec.length)
    (h0 : j = 0 → ∀ n : Nat, n < m → (readS d n n).2 = 0 → (readS d n n).1 = pl all n) (h1 : j = 1 → ∀ n : Nat, n < m → (readS d n n).2 = 0 → (readS d n n).1 = pl all n)
    (h2 : j = 2 → ∀ n : Nat, n < m / 2 → (readS d n (512 + n : Int)).2 = 0 → (readS d n (512 + n : Int)).1 = pp all n) : Part (a.set j d) m all := by
  have h3 := h.good.len
  have e : ∀ i, dv (a.set j d) i = if i = j then d else dv a i := by
    intro i
    by_cases hi : i = j
    · subst hi; rw [if_pos rfl, dv_set_self (by omega)]
    · rw [if_neg hi, dv_set_ne _ (fun e => hi e.symm)]
  refine ⟨h.good.dev hj hd hl, h.len, h.size, fun n hn => ?_, fun n hn => ?_, fun n hn => ?_⟩
  · rw [e]; split
    · rename_i hh; exact h0 hh.symm n hn
    · exact h.r0 n hn
  · rw [e]; split
    · rename_i hh; exact h1 hh.symm n hn
    · exact h.r1 n hn
  · rw [e]; split
    · rename_i hh; exact h2 hh.symm n hn
    · exact h.r2 n hn
/-- A mirror that was mended: what it tells, and what stays. -/
theorem Part.mend {a : List Dev} {m : Nat} {all : List ByteArray} (h : Part a m all) (h64 : m ≤ 64) {j n : Nat} (hj : j < 2) (hn : n < m) :
    Part (Go.Proofs.YtgjijcgkmofaaaaGreatDoor.mend a j n (pl all n)).1 m all ∧ (readS (dv (Go.Proofs.YtgjijcgkmofaaaaGreatDoor.mend a j n (pl all n)).1 j) n n).2 = 0 ∧
      (∀ i p : Nat, (i ≠ j ∨ p ≠ n) → ∀ no, readS (dv (Go.Proofs.YtgjijcgkmofaaaaGreatDoor.mend a j n (pl all n)).1 i) p no = readS (dv a i) p no) := by
  have h3 := h.good.len
  have hz := h.size n hn
  have ht : touchCode (dv a j) n = 0 := by
    have := h.good.touch (n := n) (by omega) (by omega)
    match j, hj with
    | 0, _ => exact this.1
    | 1, _ => exact this.2
  have hw := read_write (no := (n : Int)) (s := pl all n) ht (by omega) (by omega) (by omega)
  have hwo := fun (p : Nat) (hp : p ≠ n) (no : Int) => read_write_other (no := (n : Int)) (s := pl all n) ht (by omega) (by omega) (by omega) p no (by omega) (by omega)
  have hwm := write_may (no := (n : Int)) (s := pl all n) ht (by omega) (by omega) (by omega)
  unfold Go.Proofs.YtgjijcgkmofaaaaGreatDoor.mend
  by_cases hc : (readS (dv a j) n n).2 = 0
  · rw [if_pos hc]
    exact ⟨h, hc, fun _ _ _ _ => rfl⟩
  · rw [if_neg hc]
    have e : ∀ i, dv (a.set j (writeS (dv a j) n n (pl all n)).1) i = if i = j then (writeS (dv a j) n n (pl all n)).1 else dv a i := by
      intro i
      by_cases hi : i = j
      · subst hi; rw [if_pos rfl, dv_set_self (by omega)]
      · rw [if_neg hi, dv_set_ne _ (fun e => hi e.symm)]
    have key : ∀ p : Nat, p < m → ((readS (dv a j) p p).2 = 0 → (readS (dv a j) p p).1 = pl all p) → (readS (writeS (dv a j) n n (pl all n)).1 p p).2 = 0 → (readS (writeS (dv a j) n n (pl all n)).1 p p).1 = pl all p := by
      intro p hp hold
      by_cases hpn : p = n
      · subst hpn
        intro _
        rw [hw, if_pos rfl, padS_full hz]
      · rw [hwo p hpn p]
        exact hold
    refine ⟨h.put (by omega) hwm.1 hwm.2 (fun hj0 p hp => key p hp (by subst hj0; exact h.r0 p hp)) (fun hj1 p hp => key p hp (by subst hj1; exact h.r1 p hp)) (fun hj2 => by omega), ?_, fun i p hip no => ?_⟩
    · rw [e, if_pos rfl, hw, if_pos rfl]
    · rw [e]
      by_cases hi : i = j
      · rw [if_pos hi, hi]
        rcases hip with hh | hh
        · exact absurd hi hh
        · exact hwo p hh no
      · rw [if_neg hi]
/-- The parity that was mended. -/
theorem Part.mendP {a : List Dev} {m : Nat} {all : List ByteArray} (h : Part a m all) (h64 : m ≤ 64) {n : Nat} (hn : n < m / 2) :
    Part (Go.Proofs.YtgjijcgkmofaaaaGreatDoor.mendP a n (pp all n)).1 m all ∧ (readS (dv (Go.Proofs.YtgjijcgkmofaaaaGreatDoor.mendP a n (pp all n)).1 2) n (512 + n : Int)).2 = 0 ∧
      (∀ i p : Nat, (i ≠ 2 ∨ p ≠ n) → ∀ no, readS (dv (Go.Proofs.YtgjijcgkmofaaaaGreatDoor.mendP a n (pp all n)).1 i) p no = readS (dv a i) p no) := by
  have h3 := h.good.len
  have hz := pp_size h.size hn
  have ht : touchCode (dv a 2) n = 0 := h.good.touch2 hn
  have hw := read_write (no := (512 + n : Int)) (s := pp all n) ht (by omega) (by omega) (by omega)
  have hwo := fun (p : Nat) (hp : p ≠ n) (no : Int) => read_write_other (no := (512 + n : Int)) (s := pp all n) ht (by omega) (by omega) (by omega) p no (by omega) (by omega)
  have hwm := write_may (no := (512 + n : Int)) (s := pp all n) ht (by omega) (by omega) (by omega)
  unfold Go.Proofs.YtgjijcgkmofaaaaGreatDoor.mendP
  by_cases hc : (readS (dv a 2) n (512 + n : Int)).2 = 0
  · rw [if_pos hc]
    exact ⟨h, hc, fun _ _ _ _ => rfl⟩
  · rw [if_neg hc]
    have e : ∀ i, dv (a.set 2 (writeS (dv a 2) n (512 + n : Int) (pp all n)).1) i = if i = 2 then (writeS (dv a 2) n (512 + n : Int) (pp all n)).1 else dv a i := by
      intro i
      by_cases hi : i = 2
      · subst hi; rw [if_pos rfl, dv_set_self (by omega)]
      · rw [if_neg hi, dv_set_ne _ (fun e => hi e.symm)]
    refine ⟨h.put (by omega) hwm.1 hwm.2 (fun hj0 => by omega) (fun hj1 => by omega) (fun _ p hp => ?_), ?_, fun i p hip no => ?_⟩
    · by_cases hpn : p = n
      · subst hpn
        intro _
        rw [hw, if_pos rfl, padS_full hz]
      · rw [hwo p hpn _]
        exact h.r2 p hp
    · rw [e, if_pos rfl, hw, if_pos rfl]
    · rw [e]
      by_cases hi : i = 2
      · rw [if_pos hi, hi]
        rcases hip with hh | hh
        · exact absurd hi hh
        · exact hwo p hh no
      · rw [if_neg hi]
/-- The copy of a sector on a device tells something. -/
def Cp (a : List Dev) (i p : Nat) : Prop := (readS (dv a i) p (if i = 2 then (512 + p : Int) else (p : Int))).2 = 0
theorem Cp.two {a : List Dev} {p : Nat} : Cp a 2 p ↔ (readS (dv a 2) p (512 + p : Int)).2 = 0 := by unfold Cp; rw [if_pos rfl]
theorem Cp.mir {a : List Dev} {i p : Nat} (h : i < 2) : Cp a i p ↔ (readS (dv a i) p p).2 = 0 := by unfold Cp; rw [if_neg (by omega)]
theorem Part.mendC {a : List Dev} {m : Nat} {all : List ByteArray} (h : Part a m all) (h64 : m ≤ 64) {j n : Nat} (hj : j < 2) (hn : n < m) :
    Cp (Go.Proofs.YtgjijcgkmofaaaaGreatDoor.mend a j n (pl all n)).1 j n ∧ ∀ i p, (i ≠ j ∨ p ≠ n) → (Cp (Go.Proofs.YtgjijcgkmofaaaaGreatDoor.mend a j n (pl all n)).1 i p ↔ Cp a i p) := by
  obtain ⟨_, h2, h3⟩ := h.mend h64 hj hn
  refine ⟨(Cp.mir hj).2 h2, fun i p hip => ?_⟩
  unfold Cp
  rw [h3 i p hip]
theorem Part.mendPC {a : List Dev} {m : Nat} {all : List ByteArray} (h : Part a m all) (h64 : m ≤ 64) {n : Nat} (hn : n < m / 2) :
    Cp (Go.Proofs.YtgjijcgkmofaaaaGreatDoor.mendP a n (pp all n)).1 2 n ∧ ∀ i p, (i ≠ 2 ∨ p ≠ n) → (Cp (Go.Proofs.YtgjijcgkmofaaaaGreatDoor.mendP a n (pp all n)).1 i p ↔ Cp a i p) := by
  obtain ⟨_, h2, h3⟩ := h.mendP h64 hn
  refine ⟨Cp.two.2 h2, fun i p hip => ?_⟩
  unfold Cp
  rw [h3 i p hip]
/-- Can a sector be read? -/
theorem Part.code {a : List Dev} {m : Nat} {all : List ByteArray} (h : Part a m all) (h16 : 16 ≤ m) (h64 : m ≤ 64) (h2 : m % 2 = 0) {n : Nat} (hn : n < m) :
    (arrReadS a n).2.2 = 0 ↔ Cp a 0 n ∨ Cp a 1 n ∨ ((Cp a 0 (pt n) ∨ Cp a 1 (pt n)) ∧ Cp a 2 (n / 2)) := by
  rw [Cp.mir (by decide), Cp.mir (by decide), Cp.mir (by decide), Cp.mir (by decide), Cp.two]
  have hp := pt_lt hn h2
  have hmir : (mirrorS a (pt n : Int)).2 ≠ 0 ↔ ((readS (dv a 0) (pt n : Nat) (pt n : Nat)).2 = 0 ∨ (readS (dv a 1) (pt n : Nat) (pt n : Nat)).2 = 0) := by
    constructor
    · intro hne
      rcases h.mirror hp with ⟨c, _⟩ | ⟨_, c, _⟩ | ⟨_, _, e⟩
      · exact .inl c
      · exact .inr c
      · rw [e] at hne; exact absurd rfl hne
    · exact h.mirror_ok hp
  rcases h.read h16 h64 h2 hn with ⟨c, e⟩ | ⟨c0, c, e⟩ | ⟨c0, c1, ⟨hc, e⟩ | ⟨hc, e⟩⟩
  · rw [e]; exact ⟨fun _ => .inl c, fun _ => rfl⟩
  · rw [e]; exact ⟨fun _ => .inr (.inl c), fun _ => rfl⟩
  · rw [e]
    constructor
    · intro hh; exact absurd hh (by show ¬ (11 : Int) = 0; decide)
    · rintro (hh | hh | ⟨h1, h2'⟩)
      · exact absurd hh c0
      · exact absurd hh c1
      · rcases hc with hc | hc
        · exact absurd hc (hmir.2 h1)
        · exact absurd h2' hc
  · rw [e]
    exact ⟨fun _ => .inr (.inr ⟨hmir.1 hc.1, hc.2⟩), fun _ => rfl⟩
/-- A sector that was made whole. -/
theorem heal_facts {a : List Dev} {m : Nat} {all : List ByteArray} (h : Part a m all) (h16 : 16 ≤ m) (h64 : m ≤ 64) (h2 : m % 2 = 0) {n : Nat} (hn : n < m) :
    Part (healP a all n).1 m all ∧ Cp (healP a all n).1 0 n ∧ Cp (healP a all n).1 1 n ∧ ((Cp a 0 (pt n) ∨ Cp a 1 (pt n) ∨ Cp a 2 (n / 2)) → Cp (healP a all n).1 2 (n / 2)) ∧
      (∀ i p, Cp a i p → Cp (healP a all n).1 i p) ∧ (∀ i p, p ≠ n → i < 2 → (Cp (healP a all n).1 i p ↔ Cp a i p)) ∧ (∀ p, p ≠ n / 2 → (Cp (healP a all n).1 2 p ↔ Cp a 2 p)) ∧ 0 ≤ (healP a all n).2 := by
  have hp1 := h.mend h64 (j := 0) (by decide) hn
  have hc1 := h.mendC h64 (j := 0) (by decide) hn
  obtain ⟨x, hx⟩ : ∃ x, x = mend a 0 n (pl all n) := ⟨_, rfl⟩
  rw [← hx] at hp1 hc1
  have hp2 := hp1.1.mend h64 (j := 1) (by decide) hn
  have hc2 := hp1.1.mendC h64 (j := 1) (by decide) hn
  obtain ⟨y, hy⟩ : ∃ y, y = mend x.1 1 n (pl all n) := ⟨_, rfl⟩
  rw [← hy] at hp2 hc2
  have hm := pt_lt hn h2
  have hpf := pt_facts n
  have hx0 : 0 ≤ x.2 := by rw [hx]; unfold mend; split <;> simp
  have hy0 : 0 ≤ y.2 := by rw [hy]; unfold mend; split <;> simp
  have hy_0 : Cp y.1 0 n := (hc2.2 0 n (.inl (by decide))).2 hc1.1
  have hyo : ∀ i p, (p ≠ n ∨ 2 ≤ i) → (Cp y.1 i p ↔ Cp a i p) := by
    intro i p hip
    have ha : (i ≠ 1 ∨ p ≠ n) := by omega
    have hb : (i ≠ 0 ∨ p ≠ n) := by omega
    exact (hc2.2 i p ha).trans (hc1.2 i p hb)
  have hym : ∀ i p, Cp a i p → Cp y.1 i p := by
    intro i p hcp
    by_cases hpn : p = n
    · subst hpn
      match i with
      | 0 => exact hy_0
      | 1 => exact hc2.1
      | i + 2 => exact (hyo (i + 2) p (.inr (by omega))).2 hcp
    · exact (hyo i p (.inl hpn)).2 hcp
  have hcode := hp2.1.code h16 h64 h2 hm
  have he : healP a all n = if (arrReadS y.1 (pt n : Nat)).2.2 = 0 then ((mendP y.1 (n / 2) (pp all (n / 2))).1, x.2 + y.2 + (mendP y.1 (n / 2) (pp all (n / 2))).2) else (y.1, x.2 + y.2) := by
    unfold healP
    simp only
    rw [← hx, ← hy]
  rw [he]
  by_cases hr : (arrReadS y.1 (pt n : Nat)).2.2 = 0
  · rw [if_pos hr]
    have hp3 := hp2.1.mendP h64 (n := n / 2) (by omega)
    have hc3 := hp2.1.mendPC h64 (n := n / 2) (by omega)
    have hz0 : 0 ≤ (mendP y.1 (n / 2) (pp all (n / 2))).2 := by unfold mendP; split <;> simp
    refine ⟨hp3.1, (hc3.2 0 n (.inl (by decide))).2 hy_0, (hc3.2 1 n (.inl (by decide))).2 hc2.1, fun _ => hc3.1, fun i p hcp => ?_, fun i p hpn hi => ?_, fun p hpn => ?_, by simp only; omega⟩
    · by_cases hip : i = 2 ∧ p = n / 2
      · rw [hip.1, hip.2]; exact hc3.1
      · exact (hc3.2 i p (by omega)).2 (hym i p hcp)
    · exact (hc3.2 i p (.inl (by omega))).trans (hyo i p (.inl hpn))
    · exact (hc3.2 2 p (.inr hpn)).trans (hyo 2 p (.inr (Nat.le_refl _)))
  · rw [if_neg hr]
    refine ⟨hp2.1, hy_0, hc2.1, fun hor => ?_, hym, fun i p hpn hi => hyo i p (.inl hpn), fun p hpn => hyo 2 p (.inr (Nat.le_refl _)), by simp only; omega⟩
    exfalso
    apply hr
    rw [hcode]
    rcases hor with hh | hh | hh
    · exact .inl (hym 0 _ hh)
    · exact .inr (.inl (hym 1 _ hh))
    · refine .inr (.inr ⟨?_, ?_⟩)
      · rw [hpf.2.2]; exact .inl hy_0
      · rw [hpf.2.1]; exact hym 2 _ hh
/-- Again there is nothing to do. -/
theorem heal_again {a : List Dev} {all : List ByteArray} {n : Nat} (h0 : Cp a 0 n) (h1 : Cp a 1 n) (h2 : Cp a 2 (n / 2)) : healP a all n = (a, 0) := by
  rw [Cp.mir (by decide)] at h0 h1
  rw [Cp.two] at h2
  have e0 : mend a 0 n (pl all n) = (a, 0) := by unfold mend; rw [if_pos h0]
  have e1 : mend a 1 n (pl all n) = (a, 0) := by unfold mend; rw [if_pos h1]
  have e2 : mendP a (n / 2) (pp all (n / 2)) = (a, 0) := by unfold mendP; rw [if_pos h2]
  unfold healP
  simp only
  rw [e0]
  simp only
  rw [e1]
  simp only
  rw [e2]
  split <;> rfl
end Go.Proofs.YtgjijcgkmofaaaaGreatDoor

/-
  Sectors looked at one behind the other, round and round, in plain Lean: what is whole then. Conditions: of an array of which no copy tells anything wrong; the numbers are within the array.
-/
namespace Go.Proofs.YtgjijcgkmofaaaaGreatDoor
set_option linter.unusedSimpArgs false
set_option linter.unusedVariables false
open Go.RowKit

/-- All devices but one tell all that they must. -/
def Ones (a : List Dev) (m k : Nat) : Prop := ∀ i p : Nat, i < 3 → i ≠ k → p < (if i = 2 then m / 2 else m) → Cp a i p
/-- A sector is whole: both mirrors and the parity tell it. -/
def Whole (a : List Dev) (n : Nat) : Prop := Cp a 0 n ∧ Cp a 1 n ∧ Cp a 2 (n / 2)
theorem Ones.code {a : List Dev} {m k : Nat} {all : List ByteArray} (ho : Ones a m k) (h : Part a m all) (h16 : 16 ≤ m) (h64 : m ≤ 64) (h2 : m % 2 = 0) {n : Nat} (hn : n < m) : (arrReadS a n).2.2 = 0 := by
  rw [h.code h16 h64 h2 hn]
  by_cases hk : k = 0
  · exact .inr (.inl (ho 1 n (by decide) (by omega) (by rw [if_neg (by decide)]; exact hn)))
  · exact .inl (ho 0 n (by decide) (by omega) (by rw [if_neg (by decide)]; exact hn))
theorem Ones.near {a : List Dev} {m k : Nat} (ho : Ones a m k) (h2 : m % 2 = 0) {n : Nat} (hn : n < m) : Cp a 0 (pt n) ∨ Cp a 1 (pt n) ∨ Cp a 2 (n / 2) := by
  have hp := pt_lt hn h2
  by_cases hk : k = 0
  · exact .inr (.inl (ho 1 _ (by decide) (by omega) (by rw [if_neg (by decide)]; exact hp)))
  · exact .inl (ho 0 _ (by decide) (by omega) (by rw [if_neg (by decide)]; exact hp))
/-- How far a scrub came. -/
structure Sc where
  a : List Dev
  next : Nat
  rounds : Nat
  count : Int
  gone : List Nat
/-- One sector more. -/
def scrub1 (m : Nat) (all : List ByteArray) (s : Sc) : Sc :=
  { a := if (arrReadS s.a s.next).2.2 = 0 then (healP s.a all s.next).1 else s.a
    next := if s.next + 1 = m then 0 else s.next + 1
    rounds := if s.next + 1 = m then s.rounds + 1 else s.rounds
    count := if (arrReadS s.a s.next).2.2 = 0 then s.count + (healP s.a all s.next).2 else s.count
    gone := if (arrReadS s.a s.next).2.2 = 0 then s.gone else if s.next ∈ s.gone then s.gone else s.gone ++ [s.next] }
/-- So many sectors. -/
def scrubN (m : Nat) (all : List ByteArray) : Nat → Sc → Sc
  | 0, s => s
  | k + 1, s => scrub1 m all (scrubN m all k s)
theorem scrub_next {m : Nat} (all : List ByteArray) (s : Sc) (hs : s.next < m) (k : Nat) : (scrubN m all k s).next = (s.next + k) % m ∧ (scrubN m all k s).rounds = s.rounds + (s.next + k) / m := by
  induction k with
  | zero =>
    show s.next = _ ∧ s.rounds = _
    rw [Nat.add_zero, Nat.mod_eq_of_lt hs, Nat.div_eq_of_lt hs]
    exact ⟨rfl, rfl⟩
  | succ k ih =>
    show (scrub1 m all (scrubN m all k s)).next = _ ∧ (scrub1 m all (scrubN m all k s)).rounds = _
    unfold scrub1
    simp only
    rw [ih.1, ih.2, ← Nat.add_assoc]
    obtain ⟨q, hq⟩ : ∃ q, q = (s.next + k) / m := ⟨_, rfl⟩
    obtain ⟨r, hr⟩ : ∃ r, r = (s.next + k) % m := ⟨_, rfl⟩
    have hlt : r < m := by rw [hr]; exact Nat.mod_lt _ (by omega)
    have he : s.next + k = r + m * q := by rw [hq, hr]; exact (Nat.mod_add_div _ _).symm
    rw [← hq, ← hr]
    by_cases hc : r + 1 = m
    · have e : s.next + k + 1 = m * (q + 1) := by rw [he, Nat.mul_add, Nat.mul_one]; omega
      rw [if_pos hc, if_pos hc, e, Nat.mul_mod_right, Nat.mul_div_cancel_left _ (by omega)]
      exact ⟨rfl, by omega⟩
    · have e : s.next + k + 1 = r + 1 + m * q := by omega
      rw [if_neg hc, if_neg hc, e, Nat.add_mul_mod_self_left, Nat.mod_eq_of_lt (by omega), Nat.add_mul_div_left _ _ (by omega), Nat.div_eq_of_lt (by omega), Nat.zero_add]
      exact ⟨rfl, rfl⟩
theorem scrub_add (m : Nat) (all : List ByteArray) (s : Sc) (i j : Nat) : scrubN m all (i + j) s = scrubN m all j (scrubN m all i s) := by
  induction j with
  | zero => rfl
  | succ j ih => show scrub1 m all (scrubN m all (i + j) s) = _; rw [ih]; rfl
/-- No copy that tells is lost by it. -/
theorem scrub_part {m : Nat} {all : List ByteArray} {s : Sc} (h : Part s.a m all) (h16 : 16 ≤ m) (h64 : m ≤ 64) (h2 : m % 2 = 0) (hs : s.next < m) (k : Nat) :
    Part (scrubN m all k s).a m all ∧ (∀ i p, Cp s.a i p → Cp (scrubN m all k s).a i p) ∧ s.count ≤ (scrubN m all k s).count := by
  induction k with
  | zero => exact ⟨h, fun _ _ hc => hc, Int.le_refl _⟩
  | succ k ih =>
    obtain ⟨i1, i2, i3⟩ := ih
    have hn : (scrubN m all k s).next < m := by rw [(scrub_next all s hs k).1]; exact Nat.mod_lt _ (by omega)
    have hf := heal_facts i1 h16 h64 h2 hn
    show Part (scrub1 m all (scrubN m all k s)).a m all ∧ (∀ i p, Cp s.a i p → Cp (scrub1 m all (scrubN m all k s)).a i p) ∧ s.count ≤ (scrub1 m all (scrubN m all k s)).count
    unfold scrub1
    simp only
    by_cases hc : (arrReadS (scrubN m all k s).a (scrubN m all k s).next).2.2 = 0
    · rw [if_pos hc, if_pos hc]
      exact ⟨hf.1, fun i p hcp => hf.2.2.2.2.1 i p (i2 i p hcp), by have := hf.2.2.2.2.2.2.2; omega⟩
    · rw [if_neg hc, if_neg hc]
      exact ⟨i1, i2, i3⟩
/-- Where two devices tell all: nothing is gone, and what was looked at is whole. -/
theorem scrub_ones {m k0 : Nat} {all : List ByteArray} {s : Sc} (ho : Ones s.a m k0) (h : Part s.a m all) (h16 : 16 ≤ m) (h64 : m ≤ 64) (h2 : m % 2 = 0) (hs : s.next < m) (hg : s.gone = []) (k : Nat) :
    (scrubN m all k s).gone = [] ∧ ∀ j, j < k → Whole (scrubN m all k s).a ((s.next + j) % m) := by
  induction k with
  | zero => exact ⟨hg, fun j hj => absurd hj (Nat.not_lt_zero _)⟩
  | succ k ih =>
    obtain ⟨i1, i2, i3⟩ := scrub_part h h16 h64 h2 hs k
    have hnx := (scrub_next all s hs k).1
    have hn : (scrubN m all k s).next < m := by rw [hnx]; exact Nat.mod_lt _ (by omega)
    have hf := heal_facts i1 h16 h64 h2 hn
    have ho' : Ones (scrubN m all k s).a m k0 := fun i p hi hik hp => i2 i p (ho i p hi hik hp)
    have hc := ho'.code i1 h16 h64 h2 hn
    show (scrub1 m all (scrubN m all k s)).gone = [] ∧ ∀ j, j < k + 1 → Whole (scrub1 m all (scrubN m all k s)).a ((s.next + j) % m)
    unfold scrub1
    simp only
    rw [if_pos hc, if_pos hc]
    refine ⟨ih.1, fun j hj => ?_⟩
    by_cases hjk : j = k
    · rw [hjk, ← hnx]
      exact ⟨hf.2.1, hf.2.2.1, hf.2.2.2.1 (ho'.near h2 hn)⟩
    · obtain ⟨w1, w2, w3⟩ := ih.2 j (by omega)
      exact ⟨hf.2.2.2.2.1 _ _ w1, hf.2.2.2.2.1 _ _ w2, hf.2.2.2.2.1 _ _ w3⟩
/-- When all sectors were looked at, all are whole. -/
theorem scrub_whole {m k0 : Nat} {all : List ByteArray} {s : Sc} (ho : Ones s.a m k0) (h : Part s.a m all) (h16 : 16 ≤ m) (h64 : m ≤ 64) (h2 : m % 2 = 0) (hs : s.next < m) (hg : s.gone = []) :
    ∀ n, n < m → Whole (scrubN m all m s).a n := by
  intro n hn
  have hw := (scrub_ones ho h h16 h64 h2 hs hg m).2
  by_cases hc : s.next ≤ n
  · have := hw (n - s.next) (by omega)
    rwa [show s.next + (n - s.next) = n by omega, Nat.mod_eq_of_lt hn] at this
  · have := hw (n + m - s.next) (by omega)
    rwa [show s.next + (n + m - s.next) = n + m by omega, Nat.add_mod_right, Nat.mod_eq_of_lt hn] at this
/-- Where all is whole, nothing is written. -/
theorem scrub_idle {m : Nat} {all : List ByteArray} {s : Sc} (h : ∀ n, n < m → Whole s.a n) (hs : s.next < m) (k : Nat) : (scrubN m all k s).a = s.a ∧ (scrubN m all k s).count = s.count := by
  induction k with
  | zero => exact ⟨rfl, rfl⟩
  | succ k ih =>
    have hn : (scrubN m all k s).next < m := by rw [(scrub_next all s hs k).1]; exact Nat.mod_lt _ (by omega)
    obtain ⟨w1, w2, w3⟩ := h _ hn
    have ha := heal_again (all := all) w1 w2 w3
    show (scrub1 m all (scrubN m all k s)).a = _ ∧ (scrub1 m all (scrubN m all k s)).count = _
    unfold scrub1
    simp only
    rw [ih.1, ih.2, ha]
    constructor
    · split <;> rfl
    · split
      · simp
      · rfl
/-- After hurts to one device the others tell all. -/
theorem keep_ones {a : List Dev} {m : Nat} {all : List ByteArray} (h : Full a m all) (h16 : 16 ≤ m) (h64 : m ≤ 64) (h2 : m % 2 = 0) {k : Nat} (hk : k < 3) {l : List HA} (hl : ∀ x ∈ l, ActOk k (dv a k).sec.length x) (hn : (turned l).Nodup) :
    Ones (hurtAll a l) m k := by
  have hlen : ∀ j, j < 3 → (dv a j).sec.length = if j = 2 then m / 2 else m := by
    intro j hj
    match j, hj with
    | 0, _ => exact h.good.l0
    | 1, _ => exact h.good.l1
    | 2, _ => exact h.good.l2
  have hmay : ∀ j, j < 3 → devMay (dv a j) = true := by
    intro j hj
    match j, hj with
    | 0, _ => exact h.good.m0
    | 1, _ => exact h.good.m1
    | 2, _ => exact h.good.m2
  have hsound : ∀ j, j < 3 → ∀ n : Nat, n < (dv a j).sec.length → Sound (dv a j) n (noOf j n) (exOf all j n) := by
    intro j hj n hnl
    rw [hlen j hj] at hnl
    match j, hj with
    | 0, _ => exact h.s0 n hnl
    | 1, _ => exact h.s1 n hnl
    | 2, _ => exact h.s2 n hnl
  have h0 : HInv a a m k (noOf k) (exOf all k) [] := ⟨h.good, fun _ _ => rfl, hmay k hk, rfl, fun n hnl => .inr (.inl ⟨by simp, hsound k hk n hnl⟩)⟩
  obtain ⟨T, hb⟩ := HInv.all h.good h16 h64 hk l a [] h0 hl hn (fun _ _ => by simp)
  obtain ⟨r0, r1, r2⟩ := h.reads h64
  intro i p hi hik hp
  unfold Cp
  rw [hb.others i hik]
  match i, hi with
  | 0, _ => have e := r0 p (by simpa using hp); rw [if_neg (by decide), e]
  | 1, _ => have e := r1 p (by simpa using hp); rw [if_neg (by decide), e]
  | 2, _ => have e := r2 p (by simpa using hp); rw [if_pos rfl, e]
end Go.Proofs.YtgjijcgkmofaaaaGreatDoor

/-
  Files added to a catalog, in plain Lean: entries stay in the order of their names. Conditions: the catalog may be, the files may be added together.
-/
namespace Go.Proofs.YtgjijcgkmofaaaaGreatDoor
set_option linter.unusedSimpArgs false
set_option linter.unusedVariables false
open Go.RowKit

/-- The one name is less than the other. -/
def Less (x y : Ent) : Prop := Op.bytesLess (lst x.name) (lst y.name) = true
/-- An entry put where its name belongs. -/
def insE (x : Ent) : List Ent → List Ent
  | [] => [x]
  | y :: l => if Op.bytesLess (lst y.name) (lst x.name) then y :: insE x l else x :: y :: l
theorem mem_insE {x z : Ent} : ∀ {l : List Ent}, z ∈ insE x l ↔ z = x ∨ z ∈ l
  | [] => by simp [insE]
  | y :: l => by
    unfold insE
    split
    · rw [List.mem_cons, mem_insE, List.mem_cons]
      exact ⟨fun h => by rcases h with h | h | h <;> simp [h], fun h => by rcases h with h | h | h <;> simp [h]⟩
    · simp
theorem insE_length (x : Ent) : ∀ l : List Ent, (insE x l).length = l.length + 1
  | [] => rfl
  | y :: l => by
    unfold insE
    split
    · simp [insE_length x l]
    · rfl
theorem less_of_not {a b : List UInt8} (h : ¬ Op.bytesLess a b = true) (hne : a ≠ b) : Op.bytesLess b a = true := by
  have ht := bl_total a b
  have h' : Op.bytesLess a b = false := by simpa using h
  rw [h'] at ht
  have ht2 : Op.bytesLess b a = true ∨ b = a := by simpa using ht
  exact ht2.resolve_right fun e => hne e.symm
theorem rising_iff (l : List Ent) : Rising l ↔ l.Pairwise Less := by
  rw [List.pairwise_iff_getElem]
  exact Iff.rfl
theorem rise_ins {x : Ent} : ∀ {l : List Ent}, l.Pairwise Less → (∀ y ∈ l, lst y.name ≠ lst x.name) → (insE x l).Pairwise Less
  | [], _, _ => List.pairwise_singleton _ _
  | y :: l, h, hne => by
    obtain ⟨h1, h2⟩ := List.pairwise_cons.1 h
    unfold insE
    split
    · rename_i hl
      refine List.pairwise_cons.2 ⟨fun z hz => ?_, rise_ins h2 fun z hz => hne z (List.mem_cons_of_mem _ hz)⟩
      rcases mem_insE.1 hz with rfl | hz
      · exact hl
      · exact h1 z hz
    · rename_i hl
      have hxy : Less x y := less_of_not hl (hne y List.mem_cons_self)
      refine List.pairwise_cons.2 ⟨fun z hz => ?_, h⟩
      rcases List.mem_cons.1 hz with rfl | hz
      · exact hxy
      · exact bl_trans _ _ _ hxy (h1 z hz)
/-- Where a search by halves ends, there the entry is put. -/
theorem insE_cut {x : Ent} : ∀ {l : List Ent} {i : Nat}, i ≤ l.length → Cut_ l x.name i i → insE x l = l.take i ++ x :: l.drop i
  | [], i, hi, _ => by
    have : i = 0 := by simpa using hi
    subst this
    rfl
  | y :: l, 0, _, hc => by
    have := hc.2 0 (by simp) (Nat.le_refl _)
    rw [List.getElem_cons_zero] at this
    unfold insE
    rw [if_neg (by simp [this])]
    rfl
  | y :: l, i + 1, hi, hc => by
    have h0 := hc.1 0 (by simp) (by omega)
    rw [List.getElem_cons_zero] at h0
    unfold insE
    rw [if_pos h0, insE_cut (i := i) (by simpa using hi) ⟨fun k hk hki => ?_, fun k hk hki => ?_⟩]
    · rfl
    · have := hc.1 (k + 1) (by simpa using hk) (by omega)
      rwa [List.getElem_cons_succ] at this
    · have := hc.2 (k + 1) (by simpa using hk) (by omega)
      rwa [List.getElem_cons_succ] at this
theorem insE_split {x : Ent} : ∀ (l1 l2 : List Ent), (∀ y ∈ l1, Less y x) → insE x (l1 ++ l2) = l1 ++ insE x l2
  | [], _, _ => rfl
  | y :: l1, l2, h => by
    rw [List.cons_append, insE, if_pos (show Op.bytesLess (lst y.name) (lst x.name) = true from h y List.mem_cons_self), insE_split l1 l2 (fun z hz => h z (List.mem_cons_of_mem _ hz)), List.cons_append]
theorem insE_here {x y : Ent} {l : List Ent} (h : ¬ Less y x) : insE x (y :: l) = x :: y :: l := by unfold insE; rw [if_neg (show ¬ Op.bytesLess (lst y.name) (lst x.name) = true from h)]
/-- Entries of files more; none: a name is there already. -/
def addE (nb : Nat) : List Ent → Nat → List Fil → Option (List Ent)
  | es, _, [] => some es
  | es, at_, f :: l => if es.any (fun y => decide (lst y.name = lst f.name)) then none else addE nb (insE ⟨f.name, nb, at_, f.data.size⟩ es) (at_ + f.data.size) l
/-- All bytes of files. -/
def fileBytes (l : List Fil) : Nat := (l.map fun f => f.data.size).sum
theorem entBad_mk {nb : Nat} {x : Ent} (h : nameMay x.name = true) (h1 : 0 ≤ x.block) (h2 : x.block < nb) (h3 : 0 ≤ x.at_) (h4 : x.at_ ≤ 600) (h5 : 0 ≤ x.bytes) (h6 : x.bytes ≤ 200) : entBad nb x = false := by
  unfold entBad inB
  simp only [h, Bool.not_true, Bool.false_or, Bool.or_eq_false_iff, Bool.not_eq_false', Bool.and_eq_true, decide_eq_true_eq]
  omega
theorem entBad_more {nb : Nat} {x : Ent} (h : entBad nb x = false) : entBad (nb + 1) x = false := by
  obtain ⟨h0, h1, h2, h3, h4, h5, h6⟩ := entBad_false h
  exact entBad_mk h0 h1 (by omega) h3 h4 h5 h6
theorem addE_ok {nb : Nat} : ∀ (l : List Fil) (es : List Ent) (p : Nat) (es' : List Ent), es.Pairwise Less → (∀ x ∈ es, entBad (nb + 1) x = false) → (∀ f ∈ l, nameMay f.name = true ∧ f.data.size ≤ 200) → p + fileBytes l ≤ 600 → addE nb es p l = some es' →
    es'.Pairwise Less ∧ (∀ x ∈ es', entBad (nb + 1) x = false) ∧ es'.length = es.length + l.length
  | [], es, p, es', h1, h2, _, _, h => by
    obtain rfl : es = es' := by simpa [addE] using h
    exact ⟨h1, h2, rfl⟩
  | f :: l, es, p, es', h1, h2, h3, h4, h => by
    unfold addE at h
    split at h
    · cases h
    · rename_i hn
      have hf := h3 f List.mem_cons_self
      have hs : fileBytes (f :: l) = f.data.size + fileBytes l := by simp [fileBytes]
      have hne : ∀ y ∈ es, lst y.name ≠ lst f.name := by
        intro y hy he
        exact hn (List.any_eq_true.2 ⟨y, hy, decide_eq_true he⟩)
      obtain ⟨r1, r2, r3⟩ := addE_ok l _ _ es' (rise_ins (x := ⟨f.name, nb, p, f.data.size⟩) h1 hne) (fun z hz => by
        rcases mem_insE.1 hz with rfl | hz
        · exact entBad_mk hf.1 (by simp only; omega) (by simp only; omega) (by simp only; omega) (by simp only; omega) (by simp only; omega) (by simp only; omega)
        · exact h2 z hz) (fun g hg => h3 g (List.mem_cons_of_mem _ hg)) (by omega) h
      refine ⟨r1, r2, ?_⟩
      rw [r3, insE_length, List.length_cons]
      omega
theorem ents_fine {nb : Nat} : ∀ (l : List Ent) (p : Option ByteArray), l.Pairwise Less → (∀ x ∈ l, entBad nb x = false) → (∀ q, p = some q → ∀ x ∈ l, Op.bytesLess (lst q) (lst x.name) = true) → entsF nb p l = 0
  | [], _, _, _, _ => rfl
  | y :: l, p, h1, h2, h3 => by
    obtain ⟨g1, g2⟩ := List.pairwise_cons.1 h1
    have ho : orderBad p y.name = false := by
      unfold orderBad
      cases p with
      | none => rfl
      | some q =>
        have := h3 q rfl y List.mem_cons_self
        simp only
        rw [toList_lst, toList_lst, this]
        rfl
    rw [ents_go (h2 y List.mem_cons_self) ho]
    exact ents_fine l _ g2 (fun x hx => h2 x (List.mem_cons_of_mem _ hx)) (fun q hq x hx => by obtain rfl := Option.some.inj hq; exact g1 x hx)
theorem blocks_snoc : ∀ (l : List Blk) (p : Int) (b : Blk), blocksF p l = 0 → blockBad (nextAt p l) b = false → blocksF p (l ++ [b]) = 0
  | [], p, b, _, h => by
    rw [List.nil_append, blocks_go (p := p) (b := b) (l := []) h]; rfl
  | a :: l, p, b, h, h2 => by
    unfold blocksF at h
    split at h
    · exact absurd h (by decide)
    · rename_i hb
      rw [List.cons_append, blocks_go (by simpa using hb)]
      exact blocks_snoc l _ b h h2
/-- The catalog with a block and entries more may be. -/
theorem fault_added {c : Cat} {b : Blk} {es : List Ent} (h : catFault c = 0) (hl : c.blocks.length < 10) (he : es.length ≤ 10) (hf : b.first = nextAt 8 c.blocks) (h0 : 0 ≤ b.bytes) (h1 : b.bytes ≤ 1200) (h2 : nextAt 8 c.blocks + secs b.bytes ≤ 64)
    (hr : es.Pairwise Less) (hb : ∀ x ∈ es, entBad (c.blocks.length + 1) x = false) : catFault ⟨c.blocks ++ [b], es⟩ = 0 := by
  obtain ⟨f1, f2, f3, f4⟩ := catFault_ok h
  have hbb : blockBad (nextAt 8 c.blocks) b = false := by
    unfold blockBad inB
    simp only [hf, Bool.or_eq_false_iff, Bool.not_eq_false', Bool.and_eq_true, decide_eq_true_eq, decide_eq_false_iff_not]
    omega
  have hlen : (c.blocks ++ [b]).length = c.blocks.length + 1 := by simp
  rw [fault_ents (by simp only; rw [hlen]; omega) (blocks_snoc _ _ _ f3 hbb)]
  simp only
  rw [hlen]
  exact ents_fine es none hr hb (fun q hq => by cases hq)
end Go.Proofs.YtgjijcgkmofaaaaGreatDoor

/-
  archive.Add in plain Lean: what it computes, and that its own steps do not fail. Conditions: none but those in the statements.
-/
namespace Go.Proofs.YtgjijcgkmofaaaaGreatDoor
set_option linter.unusedSimpArgs false
set_option linter.unusedVariables false
open Go.RowKit

/-- All data of files, one behind the other. -/
def dataS (l : List Fil) : ByteArray := bs (l.flatMap fun f => lst f.data)
theorem dataS_size (l : List Fil) : (dataS l).size = fileBytes l := by
  unfold dataS fileBytes
  rw [size_bs]
  induction l with
  | nil => rfl
  | cons f l ih => rw [List.flatMap_cons, List.length_append, length_lst, ih, List.map_cons, List.sum_cons]
/-- The catalog with the files' block. -/
def addCat (c : Cat) (es : List Ent) (s : ByteArray) : Cat := ⟨c.blocks ++ [⟨nextAt 8 c.blocks, s.size⟩], es⟩
/-- A catalog's bytes with noughts behind them. -/
def catText (c : Cat) : ByteArray := (encCatS c).1 ++ bs (List.replicate (192 - (encCatS c).1.size) 0)
/-- What archive.Add computes. -/
def addS (a : List Dev) (l : List Fil) : List Dev × Int :=
  if (openS a).2 ≠ 0 then ([], (openS a).2) else if filesS l ≠ 0 then ([], filesS l) else
    match addE (openS a).1.blocks.length (openS a).1.entries 0 l with
    | none => ([], 7)
    | some es =>
      if 10 < es.length ∨ (openS a).1.blocks.length = 10 ∨ ((dv a 0).sec.length : Int) < nextAt 8 (openS a).1.blocks + secs (packS (dataS l)).1.size then ([], 8)
      else
        let x := (streamWriteS a (nextAt 8 (openS a).1.blocks) (packS (dataS l)).1).1
        streamWriteS x 0 (catText (addCat (openS a).1 es (packS (dataS l)).1))
theorem fileBytes_cons (f : Fil) (l : List Fil) : fileBytes (f :: l) = f.data.size + fileBytes l := by unfold fileBytes; rw [List.map_cons, List.sum_cons]
theorem filesGo_ok {l : List Fil} : ∀ (m k : Nat) (all : Int), k + m = l.length → filesGo l m k all = 0 → (∀ f ∈ l.drop k, nameMay f.name = true ∧ f.data.size ≤ 200) ∧ all + fileBytes (l.drop k) ≤ 600
  | 0, k, all, hk, h => by
    have e : l.drop k = [] := List.drop_eq_nil_of_le (by omega)
    rw [e]
    unfold filesGo at h
    split at h
    · exact absurd h (by decide)
    · exact ⟨(fun f hf => absurd hf (by simp)), (by show all + ((0 : Nat) : Int) ≤ 600; omega)⟩
  | m + 1, k, all, hk, h => by
    have hl : k < l.length := by omega
    have hx : l.getD k noFil = l[k] := by simp [List.getD, hl]
    unfold filesGo at h
    rw [hx] at h
    split at h
    · exact absurd h (by decide)
    · rename_i h1
      split at h
      · exact absurd h (by decide)
      · rename_i h2
        split at h
        · exact absurd h (by decide)
        · obtain ⟨r1, r2⟩ := filesGo_ok m (k + 1) _ (by omega) h
          have hd : l.drop k = l[k] :: l.drop (k + 1) := List.drop_eq_getElem_cons hl
          rw [hd]
          refine ⟨fun f hf => ?_, ?_⟩
          · rcases List.mem_cons.1 hf with rfl | hf
            · exact ⟨by simpa using h1, by omega⟩
            · exact r1 f hf
          · have : fileBytes (l[k] :: l.drop (k + 1)) = l[k].data.size + fileBytes (l.drop (k + 1)) := fileBytes_cons _ _
            rw [this]
            omega
theorem filesS_ok {l : List Fil} (h : filesS l = 0) : 1 ≤ l.length ∧ l.length ≤ 10 ∧ (∀ f ∈ l, nameMay f.name = true ∧ f.data.size ≤ 200) ∧ fileBytes l ≤ 600 := by
  unfold filesS at h
  split at h
  · rename_i hl
    obtain ⟨r1, r2⟩ := filesGo_ok l.length 0 0 (by omega) h
    rw [List.drop_zero] at r1 r2
    exact ⟨hl.1, hl.2, r1, by omega⟩
  · exact absurd h (by decide)
/-- The bytes that are packed are few enough. -/
theorem data_ok {l : List Fil} (h : filesS l = 0) : (dataS l).size ≤ 600 ∧ (packS (dataS l)).2 = 0 ∧ (packS (dataS l)).1.size ≤ 605 := by
  have hs : (dataS l).size ≤ 600 := by rw [dataS_size]; exact (filesS_ok h).2.2.2
  have := packS_len _ hs
  exact ⟨hs, packS_code _ hs, by omega⟩
/-- The catalog with a block more may be. -/
theorem addCat_ok {c : Cat} {l : List Fil} {es : List Ent} {n : Nat} (hc : catFault c = 0) (h : filesS l = 0) (he : addE c.blocks.length c.entries 0 l = some es) (h1 : ¬ 10 < es.length) (h2 : c.blocks.length ≠ 10)
    (h3 : ¬ ((n : Nat) : Int) < nextAt 8 c.blocks + secs (packS (dataS l)).1.size) (hn : n ≤ 64) : catFault (addCat c es (packS (dataS l)).1) = 0 := by
  obtain ⟨f1, f2, f3, f4⟩ := catFault_ok hc
  obtain ⟨g1, g2, g3, g4⟩ := filesS_ok h
  have hd := data_ok h
  obtain ⟨a1, a2, a3⟩ := addE_ok l c.entries 0 es ((rising_iff _).1 (ents_rising _ _ _ f4).1) (fun x hx => entBad_more (entsF_ok _ _ _ f4 x hx)) g3 (by omega) he
  exact fault_added hc (by omega) (by omega) rfl (by simp only; omega) (by simp only; omega) (by simp only; omega) a1 a2
end Go.Proofs.YtgjijcgkmofaaaaGreatDoor

/-
  Streams read off an array of which no copy tells anything wrong, in plain Lean. Conditions: the sectors are within the array.
-/
namespace Go.Proofs.YtgjijcgkmofaaaaGreatDoor
set_option linter.unusedSimpArgs false
set_option linter.unusedVariables false
open Go.RowKit

/-- Payloads, one behind the other. -/
def joinPl (all : List ByteArray) : Nat → Nat → ByteArray → ByteArray
  | 0, _, s => s
  | n + 1, k, s => joinPl all n (k + 1) (s ++ pl all k)
theorem Part.told {a : List Dev} {m : Nat} {all : List ByteArray} (h : Part a m all) (h16 : 16 ≤ m) (h64 : m ≤ 64) (h2 : m % 2 = 0) {n : Nat} (hn : n < m) :
    ((arrReadS a n).2.2 = 0 ∧ (arrReadS a n).1 = pl all n) ∨ arrReadS a n = (.empty, 0, 11) := by
  rcases h.read h16 h64 h2 hn with ⟨_, e⟩ | ⟨_, _, e⟩ | ⟨_, _, ⟨_, e⟩ | ⟨_, e⟩⟩
  · exact .inl (by rw [e]; exact ⟨rfl, rfl⟩)
  · exact .inl (by rw [e]; exact ⟨rfl, rfl⟩)
  · exact .inr e
  · exact .inl (by rw [e]; exact ⟨rfl, rfl⟩)
/-- All that is asked for can be read. -/
theorem part_loop {a : List Dev} {m : Nat} {all : List ByteArray} (h : Part a m all) (h16 : 16 ≤ m) (h64 : m ≤ 64) (h2 : m % 2 = 0) : ∀ (n k : Nat) (s : ByteArray), k + n ≤ m → (∀ i : Nat, k ≤ i → i < k + n → (arrReadS a i).2.2 = 0) → streamReadLoop a n k s = (joinPl all n k s, 0)
  | 0, k, s, _, _ => rfl
  | n + 1, k, s, hk, hr => by
    have h0 := hr k (Nat.le_refl _) (by omega)
    have ht : (arrReadS a k).1 = pl all k := by
      rcases h.told h16 h64 h2 (n := k) (by omega) with ⟨_, e⟩ | e
      · exact e
      · rw [e] at h0; exact absurd h0 (by show ¬ (11 : Int) = 0; decide)
    unfold streamReadLoop
    rw [if_neg (by simpa using h0), ht, show ((k : Nat) : Int) + 1 = ((k + 1 : Nat) : Int) by omega]
    exact part_loop h h16 h64 h2 n (k + 1) _ (by omega) (fun i hi hj => hr i (by omega) (by omega))
/-- Something of it can't be read. -/
theorem part_lost {a : List Dev} {m : Nat} {all : List ByteArray} (h : Part a m all) (h16 : 16 ≤ m) (h64 : m ≤ 64) (h2 : m % 2 = 0) : ∀ (n k : Nat) (s : ByteArray), k + n ≤ m → (∃ i : Nat, k ≤ i ∧ i < k + n ∧ (arrReadS a i).2.2 ≠ 0) → streamReadLoop a n k s = (.empty, 11)
  | 0, k, s, _, ⟨i, h1, h2', _⟩ => by omega
  | n + 1, k, s, hk, ⟨i, h1, h3, h4⟩ => by
    unfold streamReadLoop
    rcases h.told h16 h64 h2 (n := k) (by omega) with ⟨hc, e⟩ | e
    · rw [if_neg (by simpa using hc), e, show ((k : Nat) : Int) + 1 = ((k + 1 : Nat) : Int) by omega]
      refine part_lost h h16 h64 h2 n (k + 1) _ (by omega) ⟨i, ?_, by omega, h4⟩
      by_cases hik : i = k
      · rw [hik] at h4; exact absurd hc h4
      · omega
    · rw [e]; rfl
theorem joinPl_congr {all all' : List ByteArray} : ∀ (n k : Nat) (s : ByteArray), (∀ i, k ≤ i → i < k + n → pl all i = pl all' i) → joinPl all n k s = joinPl all' n k s
  | 0, _, _, _ => rfl
  | n + 1, k, s, h => by
    unfold joinPl
    rw [h k (Nat.le_refl _) (by omega)]
    exact joinPl_congr n (k + 1) _ fun i h1 h2 => h i (by omega) (by omega)
/-- What a stream of an array tells where all that is asked for can be read. -/
theorem part_stream {a : List Dev} {m : Nat} {all : List ByteArray} (h : Part a m all) (h16 : 16 ≤ m) (h64 : m ≤ 64) (h2 : m % 2 = 0) {k n : Nat} (hn : n ≤ 1536) (hm : k + (n + 23) / 24 ≤ m) :
    ((∀ i : Nat, k ≤ i → i < k + (n + 23) / 24 → (arrReadS a i).2.2 = 0) → streamReadS a k n = ((joinPl all ((n + 23) / 24) k .empty).extract 0 n, 0)) ∧
    ((∃ i : Nat, k ≤ i ∧ i < k + (n + 23) / 24 ∧ (arrReadS a i).2.2 ≠ 0) → streamReadS a k n = (.empty, 11)) := by
  have hlen : (dv a 0).sec.length = m := h.good.l0
  have hf : streamFaultS a k n = 0 := fault_none (h.good.may h16 h2) ⟨by omega, by omega⟩ (by rw [hlen]; omega)
  have en : (((n : Int) + 23) / 24).toNat = (n + 23) / 24 := by omega
  constructor
  · intro hr
    unfold streamReadS
    rw [hf, if_neg (by decide), en, part_loop h h16 h64 h2 _ k _ hm hr]
    rfl
  · intro hr
    unfold streamReadS
    rw [hf, if_neg (by decide), en, part_lost h h16 h64 h2 _ k _ hm hr]
    rfl
end Go.Proofs.YtgjijcgkmofaaaaGreatDoor

/-
  Writing a sector of an array of which no copy tells anything wrong, in plain Lean: no copy tells anything wrong then. Conditions: the sector is within the array.
-/
namespace Go.Proofs.YtgjijcgkmofaaaaGreatDoor
set_option linter.unusedSimpArgs false
set_option linter.unusedVariables false
open Go.RowKit

/-- Both mirrors written with what they tell anyhow. -/
theorem Part.both {a : List Dev} {m : Nat} {all : List ByteArray} (h : Part a m all) (h64 : m ≤ 64) {n : Nat} (hn : n < m) : Part (bothS a n (pl all n)) m all := by
  have h3 := h.good.len
  have hz := h.size n hn
  obtain ⟨t0, t1⟩ := h.good.touch (n := (n : Int)) (by omega) (by omega)
  have key : ∀ d : Dev, touchCode d n = 0 → (∀ p : Nat, p < m → (readS d p p).2 = 0 → (readS d p p).1 = pl all p) → ∀ p : Nat, p < m → (readS (writeS d n n (pl all n)).1 p p).2 = 0 → (readS (writeS d n n (pl all n)).1 p p).1 = pl all p := by
    intro d ht hold p hp
    by_cases hpn : p = n
    · subst hpn
      intro _
      rw [read_write ht (by omega) (by omega) (by omega), if_pos rfl, padS_full hz]
    · rw [read_write_other ht (by omega) (by omega) (by omega) p p (by omega) (by omega)]
      exact hold p hp
  have w0 := write_may (no := (n : Int)) (s := pl all n) t0 (by omega) (by omega) (by omega)
  have w1 := write_may (no := (n : Int)) (s := pl all n) t1 (by omega) (by omega) (by omega)
  have p0 := h.put (j := 0) (by decide) w0.1 w0.2 (fun _ => key _ t0 h.r0) (fun e => by omega) (fun e => by omega)
  have e1 : dv (a.set 0 (writeS (dv a 0) n n (pl all n)).1) 1 = dv a 1 := dv_set_ne _ (by decide) _
  exact p0.put (j := 1) (by decide) w1.1 (by rw [e1]; exact w1.2) (fun e => by omega) (fun _ => key _ t1 h.r1) (fun e => by omega)
theorem Part.saved {a : List Dev} {m : Nat} {all : List ByteArray} (h : Part a m all) (h16 : 16 ≤ m) (h64 : m ≤ 64) (h2 : m % 2 = 0) {n : Nat} (hn : n < m) : Part (savedS a n) m all := by
  have hp := pt_lt hn h2
  unfold savedS
  rw [partner_pt]
  rcases h.read h16 h64 h2 hp with ⟨_, e⟩ | ⟨_, _, e⟩ | ⟨_, _, ⟨_, e⟩ | ⟨_, e⟩⟩
  · rw [e, if_neg (by rintro ⟨_, hh⟩; exact absurd (show (1 : Int) = 3 from hh) (by decide))]; exact h
  · rw [e, if_neg (by rintro ⟨_, hh⟩; exact absurd (show (2 : Int) = 3 from hh) (by decide))]; exact h
  · rw [e, if_neg (by rintro ⟨hh, _⟩; exact absurd (show (11 : Int) = 0 from hh) (by decide))]; exact h
  · rw [e, if_pos ⟨rfl, rfl⟩]
    exact h.both h64 hp
/-- A sector written. -/
theorem Part.write {a : List Dev} {m : Nat} {all : List ByteArray} (h : Part a m all) (h16 : 16 ≤ m) (h64 : m ≤ 64) (h2 : m % 2 = 0) {n : Nat} (hn : n < m) {s : ByteArray} (hs : s.size ≤ 24) :
    arrWriteS a n s = (arrWrite3 a n s, 0) ∧ Part (arrWrite3 a n s) m (all.set n (padS s)) := by
  obtain ⟨e1, hg⟩ := write_step h.good h16 h64 h2 (n := n) (by omega) (by omega) hs
  refine ⟨e1, ?_⟩
  have hsv := h.saved h16 h64 h2 hn
  obtain ⟨b, hb⟩ : ∃ b, b = savedS a n := ⟨_, rfl⟩
  have hw : arrWrite3 a n s = parityS (bothS b n s) n := by rw [hb]; rfl
  rw [← hb] at hsv
  rw [hw] at hg ⊢
  clear hw e1 h hb
  have hp := pt_lt hn h2
  have hpf := pt_facts n
  have hln := hsv.len
  have h3 := hsv.good.len
  obtain ⟨b0, b1, b2, b3⟩ := bothS_dv hsv.good.len (n : Int) s
  obtain ⟨t0, t1⟩ := hsv.good.touch (n := (n : Int)) (by omega) (by omega)
  have t2 := hsv.good.touch2 (n := n / 2) (by omega)
  obtain ⟨c, hc⟩ : ∃ c, c = bothS b n s := ⟨_, rfl⟩
  rw [← hc] at b0 b1 b2 b3 hg ⊢
  have key : ∀ d : Dev, touchCode d n = 0 → (∀ p : Nat, p < m → (readS d p p).2 = 0 → (readS d p p).1 = pl all p) → ∀ p : Nat, p < m → (readS (writeS d n n s).1 p p).2 = 0 → (readS (writeS d n n s).1 p p).1 = pl (all.set n (padS s)) p := by
    intro d ht hold p hp
    by_cases hpn : p = n
    · subst hpn
      intro _
      rw [read_write ht (by omega) (by omega) hs, if_pos rfl, pl_set_self (by omega)]
    · rw [read_write_other ht (by omega) (by omega) hs p p (by omega) (by omega), pl_set_ne _ (fun e => hpn e.symm)]
      exact hold p hp
  have k0 := key _ t0 hsv.r0
  have k1 := key _ t1 hsv.r1
  rw [← b0] at k0
  rw [← b1] at k1
  have ht2 : touchCode (dv c 2) ((n / 2 : Nat) : Int) = 0 := by rw [b2]; exact t2
  have hq : ((n : Int) / 2) = ((n / 2 : Nat) : Int) := by omega
  have hsz : ∀ k : Nat, k < m → (pl (all.set n (padS s)) k).size = 24 := by
    intro k hk
    by_cases he : n = k
    · subst he; rw [pl_set_self (by omega)]; exact padS_size hs
    · rw [pl_set_ne _ he]; exact hsv.size k hk
  have ho2 : ∀ k : Nat, k < m / 2 → k ≠ n / 2 → (readS (dv c 2) k (512 + k : Int)).2 = 0 → (readS (dv c 2) k (512 + k : Int)).1 = pp (all.set n (padS s)) k := by
    intro k hk hkn hr
    rw [b2] at hr ⊢
    rw [pp_set_other _ (fun e => hkn e.symm)]
    exact hsv.r2 k hk hr
  have hmn : mirrorS c n = (padS s, 1) := by
    unfold mirrorS
    rw [b0, read_write t0 (by omega) (by omega) hs, if_pos rfl, if_pos rfl]
  have hmp : mirrorS c (pt n : Nat) = mirrorS b (pt n : Nat) := by
    unfold mirrorS
    rw [b0, b1, read_write_other t0 (by omega) (by omega) hs _ _ (by omega) (by omega), read_write_other t1 (by omega) (by omega) hs _ _ (by omega) (by omega)]
  have fin : ∀ d2 : Dev, (∀ k : Nat, k < m / 2 → (readS d2 k (512 + k : Int)).2 = 0 → (readS d2 k (512 + k : Int)).1 = pp (all.set n (padS s)) k) → Good (c.set 2 d2) m → Part (c.set 2 d2) m (all.set n (padS s)) := by
    intro d2 hd2 hgd
    have g0 : dv (c.set 2 d2) 0 = dv c 0 := dv_set_ne _ (by decide) _
    have g1 : dv (c.set 2 d2) 1 = dv c 1 := dv_set_ne _ (by decide) _
    have g2 : dv (c.set 2 d2) 2 = d2 := dv_set_self (by omega) _
    exact ⟨hgd, by rw [List.length_set]; exact hln, hsz, fun k hk => by rw [g0]; exact k0 k hk, fun k hk => by rw [g1]; exact k1 k hk, fun k hk => by rw [g2]; exact hd2 k hk⟩
  unfold parityS at hg ⊢
  rw [hmn, partner_pt, hmp] at hg ⊢
  have hcase : (mirrorS b (pt n : Nat)).2 = 0 ∨ ((mirrorS b (pt n : Nat)).2 ≠ 0 ∧ (mirrorS b (pt n : Nat)).1 = pl all (pt n)) := by
    rcases hsv.mirror hp with ⟨_, e⟩ | ⟨_, _, e⟩ | ⟨_, _, e⟩
    · right; rw [e]; exact ⟨by show ¬ (1 : Int) = 0; decide, rfl⟩
    · right; rw [e]; exact ⟨by show ¬ (2 : Int) = 0; decide, rfl⟩
    · left; rw [e]
  rcases hcase with hm0 | ⟨hm0, hm1⟩
  · rw [if_neg (by rintro ⟨_, hh⟩; exact hh hm0)] at hg ⊢
    refine fin _ (fun k hk hr => ?_) hg
    rw [hq] at hr ⊢
    by_cases hkn : k = n / 2
    · rw [hkn, read_lose ht2] at hr
      exact absurd hr (by show ¬ (11 : Int) = 0; decide)
    · rw [read_lose_other ht2 k _ (by omega) (by omega)] at hr ⊢
      exact ho2 k hk hkn hr
  · rw [if_pos ⟨by show ¬ (1 : Int) = 0; decide, hm0⟩] at hg ⊢
    refine fin _ (fun k hk hr => ?_) hg
    have hx : (xorS (padS s) (pl all (pt n))).size = 24 := by
      have := padS_size hs
      rw [xorS_size (by rw [this, hsv.size _ hp]), this]
    unfold writeP at hr ⊢
    dsimp only at hr ⊢
    rw [hq, hm1] at hr ⊢
    by_cases hkn : k = n / 2
    · subst hkn
      rw [read_write ht2 (by omega) (by omega) (by omega), if_pos rfl, padS_full hx, pp_eq, pl_set_self (by omega), pl_set_ne _ (fun e => hpf.1 e.symm)]
    · rw [read_write_other ht2 (by omega) (by omega) (by omega) k _ (by omega) (by omega)] at hr ⊢
      exact ho2 k hk hkn hr
end Go.Proofs.YtgjijcgkmofaaaaGreatDoor

/-
  Writing a sector where all devices but one tell all, in plain Lean: they do so then. Conditions: the sector is within the array.
-/
namespace Go.Proofs.YtgjijcgkmofaaaaGreatDoor
set_option linter.unusedSimpArgs false
set_option linter.unusedVariables false
open Go.RowKit

theorem Ones.saved {a : List Dev} {m k : Nat} {all : List ByteArray} (ho : Ones a m k) (h : Part a m all) (h16 : 16 ≤ m) (h64 : m ≤ 64) (h2 : m % 2 = 0) {n : Nat} (hn : n < m) : savedS a n = a := by
  have hp := pt_lt hn h2
  have hr : (readS (dv a 0) (pt n : Nat) (pt n : Nat)).2 = 0 ∨ (readS (dv a 1) (pt n : Nat) (pt n : Nat)).2 = 0 := by
    by_cases hk : k = 0
    · exact .inr ((Cp.mir (by decide)).1 (ho 1 _ (by decide) (by omega) (by rw [if_neg (by decide)]; exact hp)))
    · exact .inl ((Cp.mir (by decide)).1 (ho 0 _ (by decide) (by omega) (by rw [if_neg (by decide)]; exact hp)))
  obtain ⟨how, hh, e⟩ := h.read_ok h16 h64 h2 hp hr
  unfold savedS
  rw [partner_pt, e, if_neg]
  rintro ⟨_, h3⟩
  have h3' : how = 3 := h3
  rcases hh with rfl | rfl
  · exact absurd h3' (by decide)
  · exact absurd h3' (by decide)
/-- No copy that tells is lost by writing. -/
theorem Ones.write {a : List Dev} {m k : Nat} {all : List ByteArray} (ho : Ones a m k) (h : Part a m all) (h16 : 16 ≤ m) (h64 : m ≤ 64) (h2 : m % 2 = 0) {n : Nat} (hn : n < m) {s : ByteArray} (hs : s.size ≤ 24) :
    (∀ i p : Nat, i < 3 → Cp a i p → Cp (arrWrite3 a n s) i p) ∧ Ones (arrWrite3 a n s) m k := by
  have hmono : ∀ i p : Nat, i < 3 → Cp a i p → Cp (arrWrite3 a n s) i p := by
    have hp := pt_lt hn h2
    have hpf := pt_facts n
    have h3 := h.good.len
    have hw : arrWrite3 a n s = parityS (bothS a n s) n := by
      have e : arrWrite3 a n s = parityS (bothS (savedS a n) n s) n := rfl
      rw [e, ho.saved h h16 h64 h2 hn]
    rw [hw]
    obtain ⟨b0, b1, b2, b3⟩ := bothS_dv h.good.len (n : Int) s
    obtain ⟨t0, t1⟩ := h.good.touch (n := (n : Int)) (by omega) (by omega)
    have t2 := h.good.touch2 (n := n / 2) (by omega)
    obtain ⟨c, hc⟩ : ∃ c, c = bothS a n s := ⟨_, rfl⟩
    rw [← hc] at b0 b1 b2 b3 ⊢
    have hq : ((n : Int) / 2) = ((n / 2 : Nat) : Int) := by omega
    have ht2 : touchCode (dv c 2) ((n / 2 : Nat) : Int) = 0 := by rw [b2]; exact t2
    have hmn : mirrorS c n = (padS s, 1) := by
      unfold mirrorS
      rw [b0, read_write t0 (by omega) (by omega) hs, if_pos rfl, if_pos rfl]
    have hmp : mirrorS c (pt n : Nat) = mirrorS a (pt n : Nat) := by
      unfold mirrorS
      rw [b0, b1, read_write_other t0 (by omega) (by omega) hs _ _ (by omega) (by omega), read_write_other t1 (by omega) (by omega) hs _ _ (by omega) (by omega)]
    have hr : (readS (dv a 0) (pt n : Nat) (pt n : Nat)).2 = 0 ∨ (readS (dv a 1) (pt n : Nat) (pt n : Nat)).2 = 0 := by
      by_cases hk : k = 0
      · exact .inr ((Cp.mir (by decide)).1 (ho 1 _ (by decide) (by omega) (by rw [if_neg (by decide)]; exact hp)))
      · exact .inl ((Cp.mir (by decide)).1 (ho 0 _ (by decide) (by omega) (by rw [if_neg (by decide)]; exact hp)))
    have hm0 := h.mirror_ok hp hr
    have hm1 : (mirrorS a (pt n : Nat)).1 = pl all (pt n) := by
      rcases h.mirror hp with ⟨_, e⟩ | ⟨_, _, e⟩ | ⟨_, _, e⟩
      · rw [e]
      · rw [e]
      · rw [e] at hm0; exact absurd rfl hm0
    have hx : (xorS (padS s) (pl all (pt n))).size = 24 := by
      have := padS_size hs
      rw [xorS_size (by rw [this, h.size _ hp]), this]
    unfold parityS
    rw [hmn, partner_pt, hmp, if_pos ⟨by show ¬ (1 : Int) = 0; decide, hm0⟩]
    unfold writeP
    dsimp only
    rw [hq, hm1]
    intro i p hi hcp
    have g0 : dv (c.set 2 (writeS (dv c 2) ((n / 2 : Nat) : Int) (512 + ((n / 2 : Nat) : Int)) (xorS (padS s) (pl all (pt n)))).1) 0 = dv c 0 := dv_set_ne _ (by decide) _
    have g1 : dv (c.set 2 (writeS (dv c 2) ((n / 2 : Nat) : Int) (512 + ((n / 2 : Nat) : Int)) (xorS (padS s) (pl all (pt n)))).1) 1 = dv c 1 := dv_set_ne _ (by decide) _
    have g2 : dv (c.set 2 (writeS (dv c 2) ((n / 2 : Nat) : Int) (512 + ((n / 2 : Nat) : Int)) (xorS (padS s) (pl all (pt n)))).1) 2 = (writeS (dv c 2) ((n / 2 : Nat) : Int) (512 + ((n / 2 : Nat) : Int)) (xorS (padS s) (pl all (pt n)))).1 := dv_set_self (by omega) _
    match i, hi with
    | 0, _ =>
      rw [Cp.mir (by decide)] at hcp ⊢
      rw [g0, b0]
      by_cases hpn : p = n
      · subst hpn; rw [read_write t0 (by omega) (by omega) hs, if_pos rfl]
      · rw [read_write_other t0 (by omega) (by omega) hs p _ (by omega) (by omega)]; exact hcp
    | 1, _ =>
      rw [Cp.mir (by decide)] at hcp ⊢
      rw [g1, b1]
      by_cases hpn : p = n
      · subst hpn; rw [read_write t1 (by omega) (by omega) hs, if_pos rfl]
      · rw [read_write_other t1 (by omega) (by omega) hs p _ (by omega) (by omega)]; exact hcp
    | 2, _ =>
      rw [Cp.two] at hcp ⊢
      rw [g2]
      by_cases hpn : p = n / 2
      · subst hpn; rw [read_write ht2 (by omega) (by omega) (by omega), if_pos rfl]
      · rw [read_write_other ht2 (by omega) (by omega) (by omega) p _ (by omega) (by omega), b2]; exact hcp
  exact ⟨hmono, fun i p hi hik hp => hmono i p hi (ho i p hi hik hp)⟩
end Go.Proofs.YtgjijcgkmofaaaaGreatDoor
