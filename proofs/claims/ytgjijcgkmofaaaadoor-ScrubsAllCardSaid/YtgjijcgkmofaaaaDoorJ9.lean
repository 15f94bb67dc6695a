/-
  What arrays tell whose sectors were lost, in plain Lean: the laws ArraysParity, WritesStay and StreamsBack. Conditions: the numbers are within the array.
-/
import Derived.Test.YtgjijcgkmofaaaaDoorJ8
import Derived.Shelf.LaysM
import Derived.Shelf.Strconv.Itoa3
import Derived.Shelf.Bits.Mul64
import Derived.Lib.ItoaLen
namespace Go.Proofs.YtgjijcgkmofaaaaDoor
set_option linter.unusedSimpArgs false
set_option linter.unusedVariables false
open Go.RowKit

/-- A sector of a device is lost. -/
def loseA (a : List Dev) (j n : Nat) : List Dev := a.set j (loseS (dv a j) n)
theorem loseA_dv {a : List Dev} {j n : Nat} (hj : j < a.length) (i : Nat) : dv (loseA a j n) i = if i = j then loseS (dv a j) n else dv a i := by
  unfold loseA
  by_cases h : i = j
  · subst h; rw [if_pos rfl, dv_set_self hj]
  · rw [if_neg h, dv_set_ne _ (fun e => h e.symm)]
theorem loseA_len (a : List Dev) (j n : Nat) : (loseA a j n).length = a.length := by unfold loseA; simp
theorem loseA_read {a : List Dev} {j n : Nat} (hj : j < a.length) (ht : touchCode (dv a j) n = 0) (i p : Nat) (no : Int) : readS (dv (loseA a j n) i) p no = if i = j ∧ p = n then (.empty, 11) else readS (dv a i) p no := by
  rw [loseA_dv hj]
  by_cases h : i = j
  · subst h
    rw [if_pos rfl]
    by_cases hp : p = n
    · subst hp; rw [if_pos ⟨rfl, rfl⟩, read_lose ht]
    · rw [if_neg (fun e => hp e.2), read_lose_other ht p no (by omega) (by omega)]
  · rw [if_neg h, if_neg (fun e => h e.1)]
theorem Good.dev {a : List Dev} {m : Nat} (h : Good a m) {j : Nat} {d : Dev} (hj : j < 3) (hd : devMay d = true) (hl : d.sec.length = (dv a j).sec.length) : Good (a.set j d) m := by
  have h3 := h.len
  have e : ∀ i, dv (a.set j d) i = if i = j then d else dv a i := by
    intro i
    by_cases hi : i = j
    · subst hi; rw [if_pos rfl, dv_set_self (by omega)]
    · rw [if_neg hi, dv_set_ne _ (fun e => hi e.symm)]
  refine ⟨by rw [List.length_set]; exact h3, ?_, ?_, ?_, ?_, ?_, ?_⟩
  · rw [e]; split; exact hd; exact h.m0
  · rw [e]; split; exact hd; exact h.m1
  · rw [e]; split; exact hd; exact h.m2
  · rw [e]; split
    · rename_i hh; rw [hl, ← hh]; exact h.l0
    · exact h.l0
  · rw [e]; split
    · rename_i hh; rw [hl, ← hh]; exact h.l1
    · exact h.l1
  · rw [e]; split
    · rename_i hh; rw [hl, ← hh]; exact h.l2
    · exact h.l2
theorem Good.lose {a : List Dev} {m : Nat} (h : Good a m) {j n : Nat} (hj : j < 3) (ht : touchCode (dv a j) n = 0) : Good (loseA a j n) m := h.dev hj (lose_may ht) (lose_len ht)
theorem Part.lose {a : List Dev} {m : Nat} {all : List ByteArray} (h : Part a m all) {j n : Nat} (hj : j < 3) (ht : touchCode (dv a j) n = 0) : Part (loseA a j n) m all := by
  have h3 := h.good.len
  refine ⟨h.good.lose hj ht, h.len, h.size, fun p hp => ?_, fun p hp => ?_, fun p hp => ?_⟩
  · rw [loseA_read (by omega) ht]
    split
    · intro e; exact absurd e (by show ¬ (11 : Int) = 0; decide)
    · exact h.r0 p hp
  · rw [loseA_read (by omega) ht]
    split
    · intro e; exact absurd e (by show ¬ (11 : Int) = 0; decide)
    · exact h.r1 p hp
  · rw [loseA_read (by omega) ht]
    split
    · intro e; exact absurd e (by show ¬ (11 : Int) = 0; decide)
    · exact h.r2 p hp
theorem e11 : ¬ (11 : Int) = 0 := by decide
/-- Both mirrors lost a sector. -/
def lostBoth (a : List Dev) (k : Nat) : List Dev := loseA (loseA a 0 k) 1 k
theorem Full.lostBoth {a : List Dev} {m : Nat} {all : List ByteArray} (h : Full a m all) (h64 : m ≤ 64) {k : Nat} (hk : k < m) :
    touchCode (dv a 0) k = 0 ∧ touchCode (dv (loseA a 0 k) 1) k = 0 ∧ Part (lostBoth a k) m all ∧
      (∀ i p : Nat, i < 2 → p < m → readS (dv (lostBoth a k) i) p p = if p = k then (.empty, 11) else (pl all p, 0)) ∧ ∀ p : Nat, p < m / 2 → readS (dv (lostBoth a k) 2) p (512 + p : Int) = (pp all p, 0) := by
  have h3 := h.good.len
  obtain ⟨t0, t1⟩ := h.good.touch (n := k) (by omega) (by omega)
  have t1' : touchCode (dv (loseA a 0 k) 1) k = 0 := by rw [loseA_dv (by omega), if_neg (by decide)]; exact t1
  obtain ⟨r0, r1, r2⟩ := h.reads h64
  refine ⟨t0, t1', ((h.part h64).lose (by decide) t0).lose (by decide) t1', fun i p hi hp => ?_, fun p hp => ?_⟩
  · unfold Go.Proofs.YtgjijcgkmofaaaaDoor.lostBoth
    rw [loseA_read (by rw [loseA_len]; omega) t1', loseA_read (by omega) t0]
    by_cases hpk : p = k
    · subst hpk
      rw [if_pos rfl]
      match i, hi with
      | 0, _ => simp
      | 1, _ => simp
    · rw [if_neg (fun e => hpk e.2), if_neg (fun e => hpk e.2), if_neg hpk]
      match i, hi with
      | 0, _ => exact r0 p hp
      | 1, _ => exact r1 p hp
  · unfold Go.Proofs.YtgjijcgkmofaaaaDoor.lostBoth
    rw [loseA_read (by rw [loseA_len]; omega) t1', loseA_read (by omega) t0, if_neg (by simp), if_neg (by simp)]
    exact r2 p hp
theorem Part.mirror_ok {a : List Dev} {m : Nat} {all : List ByteArray} (h : Part a m all) {n : Nat} (hn : n < m) (hr : (readS (dv a 0) n n).2 = 0 ∨ (readS (dv a 1) n n).2 = 0) : (mirrorS a n).2 ≠ 0 := by
  rcases h.mirror hn with ⟨_, e⟩ | ⟨_, _, e⟩ | ⟨a0, a1, e⟩
  · rw [e]; show (1 : Int) ≠ 0; decide
  · rw [e]; show (2 : Int) ≠ 0; decide
  · rcases hr with h | h
    · exact absurd h a0
    · exact absurd h a1
theorem Part.read_ok {a : List Dev} {m : Nat} {all : List ByteArray} (h : Part a m all) (h16 : 16 ≤ m) (h64 : m ≤ 64) (h2 : m % 2 = 0) {n : Nat} (hn : n < m) (hr : (readS (dv a 0) n n).2 = 0 ∨ (readS (dv a 1) n n).2 = 0) : ∃ how, (how = 1 ∨ how = 2) ∧ arrReadS a n = (pl all n, how, 0) := by
  rcases h.read h16 h64 h2 hn with ⟨_, e⟩ | ⟨_, _, e⟩ | ⟨a0, a1, _⟩
  · exact ⟨1, .inl rfl, e⟩
  · exact ⟨2, .inr rfl, e⟩
  · rcases hr with h | h
    · exact absurd h a0
    · exact absurd h a1
theorem Part.read_par {a : List Dev} {m : Nat} {all : List ByteArray} (h : Part a m all) (h16 : 16 ≤ m) (h64 : m ≤ 64) (h2 : m % 2 = 0) {n : Nat} (hn : n < m) (h0 : (readS (dv a 0) n n).2 ≠ 0) (h1 : (readS (dv a 1) n n).2 ≠ 0)
    (hp : (readS (dv a 0) (pt n : Nat) (pt n : Nat)).2 = 0 ∨ (readS (dv a 1) (pt n : Nat) (pt n : Nat)).2 = 0) (hq : (readS (dv a 2) (n / 2 : Nat) (512 + (n / 2 : Nat) : Int)).2 = 0) : arrReadS a n = (pl all n, 3, 0) := by
  have hm := h.mirror_ok (pt_lt hn h2) hp
  rcases h.read h16 h64 h2 hn with ⟨a0, _⟩ | ⟨_, a1, _⟩ | ⟨_, _, ⟨hc, _⟩ | ⟨_, e⟩⟩
  · exact absurd a0 h0
  · exact absurd a1 h1
  · rcases hc with hc | hc
    · exact absurd hc hm
    · exact absurd hq hc
  · exact e
/-- ArraysParity. -/
theorem keep_parity {a : List Dev} {all : List ByteArray} (h : Full a 16 all) {k j : Nat} (hk : k < 16) (hj : j < 2) :
    touchCode (dv a 0) k = 0 ∧ touchCode (dv (loseA a 0 k) 1) k = 0 ∧ arrReadS (lostBoth a k) k = (pl all k, 3, 0) ∧ touchCode (dv (lostBoth a k) j) (pt k : Nat) = 0 ∧
      (∀ n : Nat, n < 16 → ∃ how, arrReadS (loseA (lostBoth a k) j (pt k)) n = (pl all n, how, 0)) ∧ touchCode (dv (lostBoth a k) 2) (k / 2 : Nat) = 0 ∧
      arrReadS (loseA (lostBoth a k) 2 (k / 2)) k = (.empty, 0, 11) ∧ ∃ how, arrReadS (loseA (lostBoth a k) 2 (k / 2)) (pt k : Nat) = (pl all (pt k), how, 0) := by
  obtain ⟨t0, t1, hp, hr, hr2⟩ := h.lostBoth (by decide) hk
  have hpk := pt_lt hk (by decide)
  obtain ⟨f1, f2, f3⟩ := pt_facts k
  have h3 := hp.good.len
  have hk0 : ∀ i, i < 2 → (readS (dv (lostBoth a k) i) k k).2 ≠ 0 := fun i hi => by rw [hr i k hi hk, if_pos rfl]; exact e11
  have hp0 : ∀ i p : Nat, i < 2 → p < 16 → p ≠ k → (readS (dv (lostBoth a k) i) p p).2 = 0 := fun i p hi hpp hne => by rw [hr i p hi hpp, if_neg hne]
  have q2 : ∀ p : Nat, p < 16 / 2 → (readS (dv (lostBoth a k) 2) p (512 + p : Int)).2 = 0 := fun p hpp => by rw [hr2 p hpp]
  have tj : touchCode (dv (lostBoth a k) j) (pt k : Nat) = 0 := by
    have := hp.good.touch (n := (pt k : Nat)) (by omega) (by omega)
    match j, hj with
    | 0, _ => exact this.1
    | 1, _ => exact this.2
  have t2 : touchCode (dv (lostBoth a k) 2) (k / 2 : Nat) = 0 := hp.good.touch2 (by omega)
  refine ⟨t0, t1, ?_, tj, fun n hn => ?_, t2, ?_, ?_⟩
  · exact hp.read_par (by decide) (by decide) (by decide) hk (hk0 0 (by decide)) (hk0 1 (by decide)) (.inl (hp0 0 _ (by decide) hpk f1)) (q2 _ (by omega))
  · have hy := hp.lose (j := j) (n := pt k) (by omega) tj
    have rd := loseA_read (a := lostBoth a k) (j := j) (n := pt k) (by omega) tj
    by_cases hnk : n = k
    · subst hnk
      refine ⟨3, hy.read_par (by decide) (by decide) (by decide) hk ?_ ?_ ?_ ?_⟩
      · rw [rd, if_neg (fun e => f1 e.2.symm)]; exact hk0 0 (by decide)
      · rw [rd, if_neg (fun e => f1 e.2.symm)]; exact hk0 1 (by decide)
      · match j, hj with
        | 0, _ => right; rw [rd, if_neg (by simp)]; exact hp0 1 _ (by decide) hpk f1
        | 1, _ => left; rw [rd, if_neg (by simp)]; exact hp0 0 _ (by decide) hpk f1
      · rw [rd, if_neg (by omega)]; exact q2 _ (by omega)
    · obtain ⟨how, _, e⟩ := hy.read_ok (n := n) (by decide) (by decide) (by decide) hn (by
        match j, hj with
        | 0, _ => right; rw [rd, if_neg (by simp)]; exact hp0 1 _ (by decide) hn hnk
        | 1, _ => left; rw [rd, if_neg (by simp)]; exact hp0 0 _ (by decide) hn hnk)
      exact ⟨how, e⟩
  · have hz := hp.lose (j := 2) (n := k / 2) (by decide) t2
    have rd := loseA_read (a := lostBoth a k) (j := 2) (n := k / 2) (by omega) t2
    have g0 : (readS (dv (loseA (lostBoth a k) 2 (k / 2)) 0) k k).2 ≠ 0 := by rw [rd, if_neg (by simp)]; exact hk0 0 (by decide)
    have g1 : (readS (dv (loseA (lostBoth a k) 2 (k / 2)) 1) k k).2 ≠ 0 := by rw [rd, if_neg (by simp)]; exact hk0 1 (by decide)
    have g2 : (readS (dv (loseA (lostBoth a k) 2 (k / 2)) 2) (k / 2 : Nat) (512 + (k / 2 : Nat) : Int)).2 ≠ 0 := by rw [rd, if_pos ⟨rfl, rfl⟩]; exact e11
    rcases hz.read (by decide) (by decide) (by decide) hk with ⟨a0, _⟩ | ⟨_, a1, _⟩ | ⟨_, _, ⟨_, e⟩ | ⟨hc, _⟩⟩
    · exact absurd a0 g0
    · exact absurd a1 g1
    · exact e
    · exact absurd hc.2 g2
  · have hz := hp.lose (j := 2) (n := k / 2) (by decide) t2
    have rd := loseA_read (a := lostBoth a k) (j := 2) (n := k / 2) (by omega) t2
    obtain ⟨how, _, e⟩ := hz.read_ok (n := pt k) (by decide) (by decide) (by decide) hpk (.inl (by rw [rd, if_neg (by simp)]; exact hp0 0 _ (by decide) hpk f1))
    exact ⟨how, e⟩
/-- What both mirrors lost is written back: the array is whole again. -/
theorem Full.back {a : List Dev} {m : Nat} {all : List ByteArray} (h : Full a m all) (h64 : m ≤ 64) {q : Nat} (hq : q < m) : Full (bothS (Go.Proofs.YtgjijcgkmofaaaaDoor.lostBoth a q) q (pl all q)) m all := by
  obtain ⟨t0, t1, hp, hr, hr2⟩ := h.lostBoth h64 hq
  have h3 := h.good.len
  have hz := h.size q hq
  obtain ⟨s0, s1⟩ := hp.good.touch (n := q) (by omega) (by omega)
  obtain ⟨b0, b1, b2, b3⟩ := bothS_dv hp.good.len (q : Int) (pl all q)
  have d0 : dv (Go.Proofs.YtgjijcgkmofaaaaDoor.lostBoth a q) 0 = loseS (dv a 0) q := by unfold Go.Proofs.YtgjijcgkmofaaaaDoor.lostBoth; rw [loseA_dv (by rw [loseA_len]; omega), if_neg (by decide), loseA_dv (by omega), if_pos rfl]
  have d1 : dv (Go.Proofs.YtgjijcgkmofaaaaDoor.lostBoth a q) 1 = loseS (dv a 1) q := by unfold Go.Proofs.YtgjijcgkmofaaaaDoor.lostBoth; rw [loseA_dv (by rw [loseA_len]; omega), if_pos rfl, loseA_dv (by omega), if_neg (by decide)]
  have d2 : dv (Go.Proofs.YtgjijcgkmofaaaaDoor.lostBoth a q) 2 = dv a 2 := by unfold Go.Proofs.YtgjijcgkmofaaaaDoor.lostBoth; rw [loseA_dv (by rw [loseA_len]; omega), if_neg (by decide), loseA_dv (by omega), if_neg (by decide)]
  have hl : ∀ (d : Dev) (k : Nat) (s : ByteArray), touchCode d q = 0 → k ≠ q → Sound d k k s → Sound (loseS d q) k k s := by
    intro d k s ht hne hs
    rw [loseS_ok ht]
    exact ⟨hs.1, (getD_set_ne _ _ _ _ _ (by simpa using fun e => hne e.symm)).trans hs.2⟩
  obtain ⟨u0, u1⟩ := h.good.touch (n := q) (by omega) (by omega)
  refine ⟨hp.good.both (by omega) (by omega) h64 (by omega), h.len, h.size, fun k hk => ?_, fun k hk => ?_, fun k hk => ?_⟩
  · rw [b0]
    by_cases he : q = k
    · subst he
      have := Sound.write (s := pl all q) (no := (q : Int)) s0 (by omega) (by omega) (by omega)
      rwa [padS_full hz] at this
    · refine Sound.write_other ?_ s0 (by omega) (by omega) (by omega) he
      rw [d0]; exact hl _ _ _ u0 (fun e => he e.symm) (h.s0 k hk)
  · rw [b1]
    by_cases he : q = k
    · subst he
      have := Sound.write (s := pl all q) (no := (q : Int)) s1 (by omega) (by omega) (by omega)
      rwa [padS_full hz] at this
    · refine Sound.write_other ?_ s1 (by omega) (by omega) (by omega) he
      rw [d1]; exact hl _ _ _ u1 (fun e => he e.symm) (h.s1 k hk)
  · rw [b2, d2]; exact h.s2 k hk
/-- WritesStay. -/
theorem keep_write {a : List Dev} {all : List ByteArray} (h : Full a 16 all) {k : Nat} (hk : k < 16) {s : ByteArray} (hs : s.size ≤ 24) :
    touchCode (dv a 0) (pt k : Nat) = 0 ∧ touchCode (dv (loseA a 0 (pt k)) 1) (pt k : Nat) = 0 ∧ ∃ b, arrWriteS (lostBoth a (pt k)) k s = (b, 0) ∧ Full b 16 (all.set k (padS s)) := by
  have hpk := pt_lt hk (show 16 % 2 = 0 by decide)
  obtain ⟨f1, f2, f3⟩ := pt_facts k
  obtain ⟨t0, t1, hp, hr, hr2⟩ := h.lostBoth (by decide) hpk
  have hbk := h.back (by decide) hpk
  have hrd : arrReadS (lostBoth a (pt k)) (pt k : Nat) = (pl all (pt k), 3, 0) := by
    refine hp.read_par (by decide) (by decide) (by decide) hpk ?_ ?_ ?_ ?_
    · rw [hr 0 _ (by decide) hpk, if_pos rfl]; exact e11
    · rw [hr 1 _ (by decide) hpk, if_pos rfl]; exact e11
    · left; rw [f3, hr 0 _ (by decide) hk, if_neg (fun e => f1 e.symm)]
    · rw [hr2 _ (by omega)]
  have hsv : savedS (lostBoth a (pt k)) k = bothS (lostBoth a (pt k)) (pt k : Nat) (pl all (pt k)) := by
    unfold savedS
    rw [partner_pt, hrd, if_pos ⟨rfl, rfl⟩]
  obtain ⟨b, e, hb⟩ := hbk.write (by decide) (by decide) (by decide) hk hs
  refine ⟨t0, t1, b, ?_, hb⟩
  have e1 := (write_step hbk.good (by decide) (by decide) (by decide) (n := k) (by omega) (by omega) hs).1
  rw [e] at e1
  have e2 := (write_step hp.good (by decide) (by decide) (by decide) (n := k) (by omega) (by omega) hs).1
  rw [e2]
  have hs2 : savedS (bothS (lostBoth a (pt k)) (pt k : Nat) (pl all (pt k))) k = bothS (lostBoth a (pt k)) (pt k : Nat) (pl all (pt k)) := by
    unfold savedS
    rw [partner_pt, hbk.read (by decide) (by decide) (by decide) hpk, if_neg (by rintro ⟨_, h⟩; exact absurd (show (1 : Int) = 3 from h) (by decide))]
  have e3 : arrWrite3 (lostBoth a (pt k)) k s = arrWrite3 (bothS (lostBoth a (pt k)) (pt k : Nat) (pl all (pt k))) k s := by
    unfold arrWrite3; rw [hsv, hs2]
  rw [e3, ← (Prod.mk.inj e1).1]
end Go.Proofs.YtgjijcgkmofaaaaDoor

/-
  strconv.Itoa in this seat: the library's contract, laid (printed by the kit's lay-shelf and lay-plain). Conditions: as they say.
-/
namespace Go.Proofs.YtgjijcgkmofaaaaDoor
open Go.Shelf
def Tryd.laysM171_ren : Go.Shelf.Ren := ⟨fun | 171 => 38 | 243 => 58 | 246 => 77 | 283 => 85 | 284 => 86 | 285 => 87 | 286 => 88 | 129 => 74 | 317 => 90 | 318 => 91 | 319 => 92 | 320 => 93 | 337 => 94 | 338 => 95 | n => n, fun | 3 => 3 | 9 => 9 | 2 => 2 | 4 => 4 | 171 => 145 | 0 => 0 | 53 => 113 | 37 => 76 | 5 => 5 | 173 => 147 | 212 => 153 | 51 => 110 | 20 => 20 | 213 => 154 | 46 => 81 | 232 => 155 | 233 => 156 | n => n, fun | 17 => 1 | 18 => 2 | 19 => 3 | n => n⟩
theorem Tryd.laysM171 : Go.Proofs.LaysM.n171 Tryd.prog Tryd.laysM171_ren := {
  mixed := by kernel_rfl
  f129 := Tryd.func74.trans (congrArg some (by kernel_rfl))
  f171 := Tryd.func38.trans (congrArg some (by kernel_rfl))
  f243 := Tryd.func58.trans (congrArg some (by kernel_rfl))
  f246 := Tryd.func77.trans (congrArg some (by kernel_rfl))
  f283 := Tryd.func85.trans (congrArg some (by kernel_rfl))
  f284 := Tryd.func86.trans (congrArg some (by kernel_rfl))
  f285 := Tryd.func87.trans (congrArg some (by kernel_rfl))
  f286 := Tryd.func88.trans (congrArg some (by kernel_rfl))
  f317 := Tryd.func90.trans (congrArg some (by kernel_rfl))
  f318 := Tryd.func91.trans (congrArg some (by kernel_rfl))
  f319 := Tryd.func92.trans (congrArg some (by kernel_rfl))
  f320 := Tryd.func93.trans (congrArg some (by kernel_rfl))
  f337 := Tryd.func94.trans (congrArg some (by kernel_rfl))
  f338 := Tryd.func95.trans (congrArg some (by kernel_rfl))
  t0 := Tryd.underlying0
  a0 := Tryd.isAgg0
  z0 := Tryd.sizeOf0
  v0 := Tryd.zeroValue0
  t2 := Tryd.underlying2
  a2 := Tryd.isAgg2
  z2 := Tryd.sizeOf2
  v2 := Tryd.zeroValue2
  t3 := Tryd.underlying3
  a3 := Tryd.isAgg3
  z3 := Tryd.sizeOf3
  v3 := Tryd.zeroValue3
  t4 := Tryd.underlying4
  a4 := Tryd.isAgg4
  z4 := Tryd.sizeOf4
  v4 := Tryd.zeroValue4
  t5 := Tryd.underlying5
  a5 := Tryd.isAgg5
  z5 := Tryd.sizeOf5
  v5 := Tryd.zeroValue5
  t9 := Tryd.underlying9
  a9 := Tryd.isAgg9
  z9 := Tryd.sizeOf9
  v9 := Tryd.zeroValue9
  t20 := Tryd.underlying20
  a20 := Tryd.isAgg20
  z20 := Tryd.sizeOf20
  v20 := Tryd.zeroValue20
  t37 := Tryd.underlying76
  a37 := Tryd.isAgg76
  z37 := Tryd.sizeOf76
  v37 := Tryd.zeroValue76
  t46 := Tryd.underlying81
  a46 := Tryd.isAgg81
  z46 := Tryd.sizeOf81
  v46 := Tryd.zeroValue81
  t51 := Tryd.underlying110
  a51 := Tryd.isAgg110
  z51 := Tryd.sizeOf110
  v51 := Tryd.zeroValue110
  t53 := Tryd.underlying113
  a53 := Tryd.isAgg113
  z53 := Tryd.sizeOf113
  v53 := Tryd.zeroValue113
  t171 := Tryd.underlying145
  a171 := Tryd.isAgg145
  z171 := Tryd.sizeOf145
  v171 := Tryd.zeroValue145
  t173 := Tryd.underlying147
  a173 := Tryd.isAgg147
  z173 := Tryd.sizeOf147
  v173 := Tryd.zeroValue147
  t212 := Tryd.underlying153
  a212 := Tryd.isAgg153
  z212 := Tryd.sizeOf153
  v212 := Tryd.zeroValue153
  t213 := Tryd.underlying154
  a213 := Tryd.isAgg154
  z213 := Tryd.sizeOf154
  t232 := Tryd.underlying155
  a232 := Tryd.isAgg155
  z232 := Tryd.sizeOf155
  v232 := Tryd.zeroValue155
  t233 := Tryd.underlying156
  a233 := Tryd.isAgg156
  z233 := Tryd.sizeOf156
  v233 := Tryd.zeroValue156
  g17 := by kernel_rfl
  g18 := by kernel_rfl
  g19 := by kernel_rfl
  i0 := by kernel_rfl
  i2 := by kernel_rfl
  i3 := by kernel_rfl
  i4 := by kernel_rfl
  i5 := by kernel_rfl
  i9 := by kernel_rfl
  i20 := by kernel_rfl
  i37 := by kernel_rfl
  i46 := by kernel_rfl
  i51 := by kernel_rfl
  i53 := by kernel_rfl
  i171 := by kernel_rfl
  i173 := by kernel_rfl
  i212 := by kernel_rfl
  i232 := by kernel_rfl
  i233 := by kernel_rfl
  m17 := by kernel_rfl
  m18 := by kernel_rfl
  m19 := by kernel_rfl }
open Go.RowKit Go.Sort Go.Lib in
/-- strconv.Itoa: "Itoa is equivalent to FormatInt(int64(i), 10).": i's DECIMAL NUMERAL ('Lib.itoa': a '-' where i is negative, then the digits), FOR EVERY int. The world behind the call: the world before it, new blocks behind the heap (the library's 'var a [24]byte'), draws. (LAID: no walk: one application.) -/
theorem Tryd.strconv_Itoa (n : Int) (h0 : -9223372036854775808 ≤ n) (h1 : n ≤ 9223372036854775807) (w : World) (htab : Lib.TabIs Tryd.prog w "internal/strconv.uint64pow10" .u64 Lib.pow10Tab) :
    Calls Tryd.prog 38 #[.int .i64 n] w fun e w' => e = .returned (.string ⟨(Lib.itoa n).toArray⟩) ∧ ∃ k os, w' = grow (w.drewN k) os := Any.strconv_Itoa Tryd.laysM171 n h0 h1 w htab
end Go.Proofs.YtgjijcgkmofaaaaDoor

/-
  math/bits.Mul in this seat: the library's contract, laid (printed by the kit's lay-shelf and lay-plain). Conditions: as they say.
-/
namespace Go.Proofs.YtgjijcgkmofaaaaDoor
open Go.Shelf
def Tryd.lays212_ren : Go.Shelf.Ren := ⟨fun | 212 => 32 | 263 => 53 | 264 => 54 | n => n, fun | 46 => 81 | 51 => 110 | 146 => 111 | 53 => 113 | 148 => 114 | n => n, fun | n => n⟩
theorem Tryd.lays212 : Go.Proofs.Lays.n212 Tryd.prog Tryd.lays212_ren := {
  mixed := by kernel_rfl
  f212 := Tryd.func32.trans (congrArg some (by kernel_rfl))
  f263 := Tryd.func53.trans (congrArg some (by kernel_rfl))
  f264 := Tryd.func54.trans (congrArg some (by kernel_rfl))
  t46 := Tryd.underlying81
  a46 := Tryd.isAgg81
  z46 := Tryd.sizeOf81
  v46 := Tryd.zeroValue81
  t51 := Tryd.underlying110
  a51 := Tryd.isAgg110
  z51 := Tryd.sizeOf110
  v51 := Tryd.zeroValue110
  t53 := Tryd.underlying113
  a53 := Tryd.isAgg113
  z53 := Tryd.sizeOf113
  v53 := Tryd.zeroValue113
  t146 := Tryd.underlying111
  a146 := Tryd.isAgg111
  z146 := Tryd.sizeOf111
  v146 := Tryd.zeroValue111
  t148 := Tryd.underlying114
  a148 := Tryd.isAgg114
  z148 := Tryd.sizeOf114
  v148 := Tryd.zeroValue114 }
open Go.RowKit Go.Lib in
/-- math/bits.Mul: "Mul returns the full-width product of x and y": on a machine of 64 bits: Mul64's. (LAID: no walk: one application.) -/
theorem Tryd.bits_Mul (x y : Nat) (hx : x < 18446744073709551616) (hy : y < 18446744073709551616) (w : World) :
    Calls Tryd.prog 32 #[.int .u64 x, .int .u64 y] w fun e w' => e = .returned (.tuple #[.int .u64 ((x * y / 18446744073709551616 : Nat) : Int), .int .u64 ((x * y % 18446744073709551616 : Nat) : Int)]) ∧ w' = w := Any.bits_Mul Tryd.lays212 x y hx hy w
end Go.Proofs.YtgjijcgkmofaaaaDoor

/-
  arraskeep.Data: bytes made of raw numbers: some text of at most 200 bytes. Conditions: the table of powers of ten that the library reads is in place.
-/
namespace Go.Proofs.YtgjijcgkmofaaaaDoor
set_option linter.unusedSimpArgs false
set_option linter.unusedVariables false
open Go.RowKit

/-- The library's table of powers of ten is in place. -/
def Tab (w : World) : Prop := Lib.TabIs Tryd.prog w "internal/strconv.uint64pow10" .u64 Lib.pow10Tab
theorem Tab.ext {w w' : World} (h : Tab w) (k : Ext w w') : Tab w' := by
  unfold Tab Lib.TabIs World.var? at *
  cases hg : Tryd.prog.globalNamed "internal/strconv.uint64pow10" with
  | none => rw [hg] at h; exact absurd h (by simp)
  | some g =>
    rw [hg] at h
    simp only [Option.bind_some] at h ⊢
    have hlt : g < w.heap.size := by
      cases hh : w.heap[g]? with
      | none => rw [hh] at h; exact absurd h (by simp)
      | some o => exact (Array.getElem?_eq_some_iff.1 hh).1
    rw [show w'.heap[g]? = w.heap[g]? from k.below.block g hlt]
    exact h
theorem itoa_any (n : Int) (w : World) (h0 : 0 ≤ n) (h1 : n ≤ 1000) (ht : Tab w) :
    Calls Tryd.prog 38 #[.int .i64 n] w fun e w' => ∃ s : ByteArray, e = .returned (.string s) ∧ s.size ≤ 21 ∧ Ext w w' := by
  refine (Tryd.strconv_Itoa n (by omega) (by omega) w ht).mono ?_
  rintro e w' ⟨rfl, k, os, rfl⟩
  refine ⟨_, rfl, ?_, ?_⟩
  · have := Lib.itoa_length_le n (by omega) (by omega)
    show (Lib.itoa n).toArray.size ≤ 21
    simpa using this
  · refine ⟨rfl, rfl, rfl, ?_, fun b hb => ?_⟩
    · show w.heap.size ≤ (w.heap ++ os).size
      rw [Array.size_append]; omega
    · show (w.heap ++ os)[b]? = w.heap[b]?
      exact Array.getElem?_append_left hb
theorem repeatL_length (l : List UInt8) (n : Nat) : (Lib.repeatL l n).length = l.length * n := by
  induction n with
  | zero => rfl
  | succ n ih => unfold Lib.repeatL; rw [List.length_append, ih, Nat.mul_succ]; omega
theorem rep_any (s : ByteArray) (c : Nat) (w : World) (B : Nat) (h : s.size * c ≤ B) (hB : B ≤ 1000) (hc : c ≤ 1000) :
    Calls Tryd.prog 17 #[.string s, .int .i64 c] w fun e w' => ∃ t : ByteArray, e = .returned (.string t) ∧ t.size ≤ B ∧ Ext w w' := by
  refine (Tryd.strings_Repeat s c w (by omega) (by omega)).mono ?_
  rintro e w' ⟨rfl, hx⟩
  refine ⟨_, rfl, ?_, hx⟩
  show (Lib.repeatL s.data.toList c).toArray.size ≤ B
  have := repeatL_length s.data.toList c
  have h2 : s.data.toList.length = s.size := length_lst s
  rw [h2] at this
  simpa [this] using h
theorem info_byte0 : (Tryd.prog.info? 5).map (fun i => (i.zero, i.size, i.bytes)) = some (some (.int .u8 0), 1, 1) := by kernel_rfl
theorem zero_bytes (n : Nat) : ∀ i, i < n → ((List.replicate n (0 : UInt8)).getD i 0).toNat = 0 := by
  intro i hi
  rw [List.getD_eq_getElem?_getD, List.getElem?_replicate, if_pos hi]; rfl
theorem Buf.zeros (e : TypeId) (w : World) (cs : Array Value) (n : Nat) (hc : cs.toList = List.replicate n (.int .u8 0)) : Buf e (w.alloc (.cells cs e)) w.heap.size (List.replicate n 0) := by
  refine ⟨cs, (0, 0), heap_alloc_new w _, fun i hi => ?_, fun i hi => by simp⟩
  rw [List.length_replicate] at hi
  have := zero_bytes n i hi
  rw [this, ← Array.getElem?_toList, hc, List.getElem?_replicate, if_pos hi]
  rfl
set_option maxRecDepth 100000 in
set_option maxHeartbeats 4000000 in
theorem data_any (r : Raw4) (w : World) (hi : I64 r.kind ∧ I64 r.a ∧ I64 r.b ∧ I64 r.c) (ht : Tab w) :
    Calls Tryd.prog 18 #[.agg #[.int .i64 r.kind, .int .i64 r.a, .int .i64 r.b, .int .i64 r.c]] w fun e w' => ∃ s : ByteArray, e = .returned (.string s) ∧ s.size ≤ 200 ∧ Ext w w' := by
  have HI := Lib.hid hi
  have HTAB0 := Lib.hid ht
  clear hi ht
  go_enter Tryd.func18, Tryd.ntmps18
  go_wp2_with fail
  refine calls_abs (fun W => Ext w W ∧ Blk_ W w.heap.size 54 #[.int .i64 r.kind, .int .i64 r.a, .int .i64 r.b, .int .i64 r.c]) ⟨(Ext.refl _).alloc _, Blk_.new _ _ _⟩ ?_
  rintro w1 ⟨hx1, hb1⟩
  have HB := Lib.hid hb1
  have HX := Lib.hid hx1
  have HTAB := Lib.hid (HTAB0.out.ext hx1)
  have hg := hb1.lt
  obtain ⟨g, hgg⟩ : ∃ g, g = w.heap.size := ⟨_, rfl⟩
  rw [← hgg] at HB hg ⊢
  clear hx1 hb1 hgg HTAB0
  refine (picked_any r.a 30 w1 HI.out.2.1 (by omega) (by omega)).mono ?_
  rintro e w2 ⟨rfl, hw⟩
  obtain rfl := hw.symm
  have hm := pick_range r.a 30 (by decide)
  obtain ⟨n, hn⟩ := Int.eq_ofNat_of_zero_le hm.1
  rw [hn] at hm ⊢
  have HN := Lib.hid (show n < 30 by omega)
  have hn30 : (n : Int) < 30 := by omega
  clear hm hn
  have f0 := HB.out.cell 0
  have f1 := HB.out.cell 1
  have f2 := HB.out.cell 2
  have f3 := HB.out.cell 3
  simp at f0 f1 f2 f3
  go_wp2_with fail
  refine (picked_any r.kind 5 w1 HI.out.1 (by omega) (by omega)).mono ?_
  rintro e w2 ⟨rfl, hw⟩
  obtain rfl := hw.symm
  have hm := pick_range r.kind 5 (by decide)
  obtain ⟨kd, hkd⟩ : ∃ kd, kd = pick r.kind 5 := ⟨_, rfl⟩
  rw [← hkd] at hm ⊢
  clear hkd
  have hcs : kd = 0 ∨ kd = 1 ∨ kd = 2 ∨ kd = 3 ∨ kd = 4 := by omega
  clear hm
  rcases hcs with rfl | rfl | rfl | rfl | rfl
  · clear f0 f1 f2 f3
    go_wp2_with fail
    refine (rep_any (⟨#[97, 98]⟩) n w1 58 (by have h2 : ((⟨#[97, 98]⟩) : ByteArray).size = 2 := rfl; have := HN.out; rw [h2]; omega) (by decide) (by have := HN.out; omega)).mono ?_
    rintro e w2 ⟨s, rfl, hz, hx⟩
    go_wp2_with fail
    go_ret
    exact ⟨s, rfl, by omega, HX.out.trans hx⟩
  · clear f0 f1 f2 f3
    go_wp2_with fail
    refine wp_region_vals (F := ?_) ?_ [(fun (v : Value) (_ : World) => v = .int .i64 (n : Int)), (fun v _ => ∃ s : ByteArray, v = .string s ∧ s.size ≤ 21), (fun v _ => ∃ s : ByteArray, v = .string s ∧ s.size ≤ 26), (fun v _ => ∃ s : ByteArray, v = .string s ∧ s.size ≤ 32), (fun (v : Value) (_ : World) => v = .pointer (some ⟨g, 2, none⟩)), (fun (v : Value) (_ : World) => v = .int .i64 r.b), (fun (v : Value) (_ : World) => v = .int .i64 (pick r.b 30)), (fun v _ => ∃ s : ByteArray, v = .string s ∧ s.size ≤ 21), (fun v _ => ∃ s : ByteArray, v = .string s ∧ s.size ≤ 53), (fun v _ => ∃ s : ByteArray, v = .string s ∧ s.size ≤ 59), (fun (v : Value) (_ : World) => v = .int .i64 (n : Int)), (fun v _ => ∃ s : ByteArray, v = .string s ∧ s.size ≤ 21), (fun v _ => ∃ s : ByteArray, v = .string s ∧ s.size ≤ 80), (fun v _ => ∃ s : ByteArray, v = .string s ∧ s.size ≤ 81), (fun v _ => ∃ s : ByteArray, v = .string s ∧ s.size ≤ 81)] (by kernel_rfl) (by kernel_rfl) ?_ ?_ ?_
    rotate_left
    · intro vals
      simp only [putAll, Act.put, List.setIfInBounds_toArray, List.set_cons_zero, List.set_cons_succ, Nat.zero_add, Nat.reduceAdd]
      rfl
    · simp only [List.forall_mem_cons]
      exact ⟨fun _ _ _ h _ => h, fun _ _ _ h _ => h, fun _ _ _ h _ => h, fun _ _ _ h _ => h, fun _ _ _ h _ => h, fun _ _ _ h _ => h, fun _ _ _ h _ => h, fun _ _ _ h _ => h, fun _ _ _ h _ => h, fun _ _ _ h _ => h, fun _ _ _ h _ => h, fun _ _ _ h _ => h, fun _ _ _ h _ => h, fun _ _ _ h _ => h, fun _ _ _ h _ => h, fun _ h => (by cases h)⟩
    · refine ⟨?_, ?_, ?_, ?_, ?_, ?_, ?_, ?_, ?_, ?_, ?_, ?_, ?_, ?_, ?_, trivial⟩
      · intro vals W e hd ho K hK
        refine st_quiet (v := ?_) ?_ ?_
        rotate_left
        · go_simp
          rfl
        exact hK _ _ _ rfl (by first | exact rfl | exact congrArg (Value.int _) (by first | (rw [IntKind.wrap_i64]; omega) | (rw [IntKind.wrap_u8]; omega) | omega)) (Ext.refl _)
      · intro vals W e hd ho K hK
        have h0 : vals 0 = .int .i64 (n : Int) := hd 0 (by kernel_rfl)
        go_wp2_with fail
        refine (itoa_any (n : Int) _ (by omega) (by have := HN.out; omega) (HTAB.out.ext ((Ext.refl _).drew.trans e))).mono ?_
        rintro e' u' ⟨s', rfl, hz', hx'⟩
        exact hK _ _ _ (by first | rfl | (simp only [h0]; rfl)) ⟨s', rfl, hz'⟩ hx'
      · intro vals W e hd ho K hK
        obtain ⟨s1, h1, z1⟩ := hd 1 (by kernel_rfl)
        have c0 : ((⟨#[108, 105, 110, 101, 32]⟩) : ByteArray).size = 5 := rfl
        refine st_concat _ _ _ _ (⟨#[108, 105, 110, 101, 32]⟩) (s1) rfl rfl h1 (by omega) ?_
        exact hK _ _ _ rfl ⟨_, rfl, by rw [ByteArray.size_append]; omega⟩ (Ext.refl _)
      · intro vals W e hd ho K hK
        obtain ⟨s2, h2, z2⟩ := hd 2 (by kernel_rfl)
        have c0 : ((⟨#[10, 108, 105, 110, 101, 32]⟩) : ByteArray).size = 6 := rfl
        refine st_concat _ _ _ _ (s2) (⟨#[10, 108, 105, 110, 101, 32]⟩) rfl h2 rfl (by omega) ?_
        exact hK _ _ _ rfl ⟨_, rfl, by rw [ByteArray.size_append]; omega⟩ (Ext.refl _)
      · intro vals W e hd ho K hK
        refine st_quiet (v := ?_) ?_ ?_
        rotate_left
        · go_simp
          rfl
        exact hK _ _ _ rfl (by first | exact rfl | exact congrArg (Value.int _) (by first | (rw [IntKind.wrap_i64]; omega) | (rw [IntKind.wrap_u8]; omega) | omega)) (Ext.refl _)
      · intro vals W e hd ho K hK
        have h4 : vals 4 = .pointer (some ⟨g, 2, none⟩) := hd 4 (by kernel_rfl)
        have cc := (HB.out.drew.ext e).cell 2
        simp at cc
        refine st_quiet (v := ?_) ?_ ?_
        rotate_left
        · go_simp
          rfl
        exact hK _ _ _ rfl rfl (Ext.refl _)
      · intro vals W e hd ho K hK
        have h5 : vals 5 = .int .i64 r.b := hd 5 (by kernel_rfl)
        go_wp2_with fail
        refine (picked_any r.b 30 _ HI.out.2.2.1 (by omega) (by omega)).mono ?_
        rintro e' u' ⟨rfl, rfl⟩
        exact hK _ _ _ (by first | rfl | (simp only [h5]; rfl)) rfl (Ext.refl _)
      · intro vals W e hd ho K hK
        have h6 : vals 6 = .int .i64 (pick r.b 30) := hd 6 (by kernel_rfl)
        go_wp2_with fail
        refine (itoa_any (pick r.b 30) _ (pick_range r.b 30 (by decide)).1 (by have := pick_range r.b 30 (by decide); omega) (HTAB.out.ext ((Ext.refl _).drew.trans e))).mono ?_
        rintro e' u' ⟨s', rfl, hz', hx'⟩
        exact hK _ _ _ (by first | rfl | (simp only [h6]; rfl)) ⟨s', rfl, hz'⟩ hx'
      · intro vals W e hd ho K hK
        obtain ⟨s3, h3, z3⟩ := hd 3 (by kernel_rfl)
        obtain ⟨s7, h7, z7⟩ := hd 7 (by kernel_rfl)
        refine st_concat _ _ _ _ (s3) (s7) rfl h3 h7 (by omega) ?_
        exact hK _ _ _ rfl ⟨_, rfl, by rw [ByteArray.size_append]; omega⟩ (Ext.refl _)
      · intro vals W e hd ho K hK
        obtain ⟨s8, h8, z8⟩ := hd 8 (by kernel_rfl)
        have c0 : ((⟨#[10, 108, 105, 110, 101, 32]⟩) : ByteArray).size = 6 := rfl
        refine st_concat _ _ _ _ (s8) (⟨#[10, 108, 105, 110, 101, 32]⟩) rfl h8 rfl (by omega) ?_
        exact hK _ _ _ rfl ⟨_, rfl, by rw [ByteArray.size_append]; omega⟩ (Ext.refl _)
      · intro vals W e hd ho K hK
        refine st_quiet (v := ?_) ?_ ?_
        rotate_left
        · go_simp
          rfl
        exact hK _ _ _ rfl (by first | exact rfl | exact congrArg (Value.int _) (by first | (rw [IntKind.wrap_i64]; omega) | (rw [IntKind.wrap_u8]; omega) | omega)) (Ext.refl _)
      · intro vals W e hd ho K hK
        have h10 : vals 10 = .int .i64 (n : Int) := hd 10 (by kernel_rfl)
        go_wp2_with fail
        refine (itoa_any (n : Int) _ (by omega) (by have := HN.out; omega) (HTAB.out.ext ((Ext.refl _).drew.trans e))).mono ?_
        rintro e' u' ⟨s', rfl, hz', hx'⟩
        exact hK _ _ _ (by first | rfl | (simp only [h10]; rfl)) ⟨s', rfl, hz'⟩ hx'
      · intro vals W e hd ho K hK
        obtain ⟨s9, h9, z9⟩ := hd 9 (by kernel_rfl)
        obtain ⟨s11, h11, z11⟩ := hd 11 (by kernel_rfl)
        refine st_concat _ _ _ _ (s9) (s11) rfl h9 h11 (by omega) ?_
        exact hK _ _ _ rfl ⟨_, rfl, by rw [ByteArray.size_append]; omega⟩ (Ext.refl _)
      · intro vals W e hd ho K hK
        obtain ⟨s12, h12, z12⟩ := hd 12 (by kernel_rfl)
        have c0 : ((⟨#[10]⟩) : ByteArray).size = 1 := rfl
        refine st_concat _ _ _ _ (s12) (⟨#[10]⟩) rfl h12 rfl (by omega) ?_
        exact hK _ _ _ rfl ⟨_, rfl, by rw [ByteArray.size_append]; omega⟩ (Ext.refl _)
      · intro vals W e hd ho K hK
        obtain ⟨s13, h13, z13⟩ := hd 13 (by kernel_rfl)
        refine st_quiet (v := ?_) ?_ ?_
        rotate_left
        · go_simp
          rfl
        exact hK _ _ _ rfl ⟨s13, (by first | exact rfl | exact h13), z13⟩ (Ext.refl _)
    intro vals W e hall
    obtain ⟨s14, h14, z14⟩ := hall 14 (by decide)
    have HXW := Lib.hid (HX.out.trans ((Ext.refl _).drew.trans e))
    clear hall e
    go_wp2_with fail
    go_ret
    exact ⟨s14, congrArg Ending.returned h14, by omega, HXW.out⟩
  · obtain ⟨i0, hi, hz0, hz1, hz2⟩ := info_parts info_byte0
    obtain ⟨cs, hcs, hmk⟩ := make_row (P := Tryd.prog) 76 5 i0 (.int .u8 0) Tryd.underlying76 hi hz0 hz1 rfl n (by have := HN.out; rw [hz2]; omega) (by have := HN.out; omega)
    have HCS := Lib.hid hcs
    clear hi hz0 hz1 hz2 hcs f0 f1 f2 f3
    go_wp2_with fail
    refine wp_abs (fun W => Ext w1 W ∧ Buf 5 W w1.heap.size (List.replicate n 0)) ⟨(Ext.refl _).alloc _, Buf.zeros _ _ _ _ HCS.out⟩ ?_
    rintro W ⟨hx, hb⟩
    have HX1 := Lib.hid hx
    have HBF := Lib.hid hb
    obtain ⟨gb, hgb⟩ : ∃ gb, gb = w1.heap.size := ⟨_, rfl⟩
    rw [← hgb] at HBF ⊢
    have HGB := Lib.hid hgb
    clear hx hb hmk hgb HCS
    go_wp2_with fail
    go_loopw [38] (fun kv wr => ∃ (k : Nat) (bl : List UInt8), kv = .int .i64 k ∧ k ≤ n ∧ bl.length = n ∧ Ext w1 wr ∧ Buf 5 wr gb bl) (fun kv _ => n - (intOf kv).toNat)
    case atStart => exact ⟨0, _, rfl, Nat.zero_le _, List.length_replicate, HX1.out, HBF.out⟩
    case round =>
      clear HX1 HBF
      obtain ⟨k, bl, rfl, hk, hbl, hx, hb⟩ := hrel
      have HB0 := HB
      by_cases hlt : k < n
      · have hki : (k : Int) < (n : Int) := by omega
        have HBL := Lib.hid hbl
        have bp := hb.cell k (by omega)
        have bz := hb.frozen k (by omega)
        have HB := Lib.hid (HB0.out.ext hx)
        have HXR := Lib.hid hx
        have HBF := Lib.hid hb
        have HKN := Lib.hid (And.intro hlt hk)
        have p1 := pick_range r.b 50 (by decide)
        have p2 := pick_range r.c 256 (by decide)
        obtain ⟨m1, hm1⟩ : ∃ m1 : Int, m1 = (k : Int) * (k : Int) := ⟨_, rfl⟩
        have y1 : (k : Int) * (k : Int) = m1 := hm1.symm
        have b1 : 0 ≤ m1 ∧ m1 ≤ 841 := by
          rw [hm1]
          have : (k : Int) ≤ 29 := by have := HN.out; omega
          exact ⟨Int.mul_nonneg (by omega) (by omega), Int.le_trans (Int.mul_le_mul this this (by omega) (by omega)) (by decide)⟩
        obtain ⟨m2, hm2⟩ : ∃ m2 : Int, m2 = m1 * pick r.b 50 := ⟨_, rfl⟩
        have y2 : m1 * pick r.b 50 = m2 := hm2.symm
        have b2 : 0 ≤ m2 ∧ m2 ≤ 42050 := by
          rw [hm2]
          exact ⟨Int.mul_nonneg b1.1 p1.1, Int.le_trans (Int.mul_le_mul b1.2 (Int.le_of_lt p1.2) p1.1 (by decide)) (by decide)⟩
        obtain ⟨m3, hm3⟩ : ∃ m3 : Int, m3 = m2 + pick r.c 256 := ⟨_, rfl⟩
        have y3 : m2 + pick r.c 256 = m3 := hm3.symm
        have b3 : 0 ≤ m3 ∧ m3 ≤ 43000 := by omega
        obtain ⟨m4, hm4⟩ : ∃ m4 : Int, m4 = m3 % 256 := ⟨_, rfl⟩
        have y4 : m3 % 256 = m4 := hm4.symm
        have b4 : 0 ≤ m4 ∧ m4 < 256 := by omega
        have HM4 := Lib.hid b4
        obtain ⟨b10, b11⟩ := b1
        obtain ⟨b20, b21⟩ := b2
        obtain ⟨b30, b31⟩ := b3
        obtain ⟨b40, b41⟩ := b4
        clear hm1 hm2 hm3 hm4 p1 p2 hlt hk hbl hx hb HB0
        go_wp2_with fail
        refine wp_region_valsA 99 none (F := ?_) ?_ [(fun (v : Value) (_ : World) => v = .slice (some ⟨gb, 0, none⟩) n n), (fun (v : Value) (_ : World) => v = .int .i64 (k : Int)), (fun (v : Value) (_ : World) => v = .int .i64 (k : Int)), (fun (v : Value) (_ : World) => v = .int .i64 (k : Int)), (fun (v : Value) (_ : World) => v = .int .i64 m1), (fun (v : Value) (_ : World) => v = .pointer (some ⟨g, 2, none⟩)), (fun (v : Value) (_ : World) => v = .int .i64 r.b), (fun (v : Value) (_ : World) => v = .int .i64 (pick r.b 50)), (fun (v : Value) (_ : World) => v = .int .i64 m2), (fun (v : Value) (_ : World) => v = .pointer (some ⟨g, 3, none⟩)), (fun (v : Value) (_ : World) => v = .int .i64 r.c), (fun (v : Value) (_ : World) => v = .int .i64 (pick r.c 256)), (fun (v : Value) (_ : World) => v = .int .i64 m3), (fun (v : Value) (_ : World) => v = .int .u8 m4), (fun (v : Value) (_ : World) => v = .pointer (some ⟨gb, k, none⟩))] (by kernel_rfl) rfl (by kernel_rfl) rfl (by kernel_rfl) ?_ ?_ ?_
        rotate_left
        · intro vals
          simp only [putAll, List.dropLast, Act.put, List.setIfInBounds_toArray, List.set_cons_zero, List.set_cons_succ, Nat.zero_add, Nat.reduceAdd]
          rfl
        · intro j p hp v u u' h hr
          match j, hp with
          | 0, hp => obtain rfl := Option.some.inj hp; exact h
          | 1, hp => obtain rfl := Option.some.inj hp; exact h
          | 2, hp => obtain rfl := Option.some.inj hp; exact h
          | 3, hp => obtain rfl := Option.some.inj hp; exact h
          | 4, hp => obtain rfl := Option.some.inj hp; exact h
          | 5, hp => obtain rfl := Option.some.inj hp; exact h
          | 6, hp => obtain rfl := Option.some.inj hp; exact h
          | 7, hp => obtain rfl := Option.some.inj hp; exact h
          | 8, hp => obtain rfl := Option.some.inj hp; exact h
          | 9, hp => obtain rfl := Option.some.inj hp; exact h
          | 10, hp => obtain rfl := Option.some.inj hp; exact h
          | 11, hp => obtain rfl := Option.some.inj hp; exact h
          | 12, hp => obtain rfl := Option.some.inj hp; exact h
          | 13, hp => obtain rfl := Option.some.inj hp; exact h
          | 14, hp => obtain rfl := Option.some.inj hp; exact h
          | n + 15, hp => exact absurd hp (by simp)
        · refine ⟨?_, ?_, ?_, ?_, ?_, ?_, ?_, ?_, ?_, ?_, ?_, ?_, ?_, ?_, ?_, trivial⟩
          · intro vals W' e hd ho K hK
            have hx : World.grownBy _ W' none := e
            refine st_quiet (v := ?_) ?_ ?_
            rotate_left
            · go_simp
              rfl
            exact hK _ _ _ rfl (by first | exact rfl | exact congrArg (Value.int _) (by first | (rw [IntKind.wrap_i64]; omega) | (rw [IntKind.wrap_u8]; omega) | omega)) (Ext.refl _)
          · intro vals W' e hd ho K hK
            have hx : World.grownBy _ W' none := e
            refine st_quiet (v := ?_) ?_ ?_
            rotate_left
            · go_simp
              rfl
            exact hK _ _ _ rfl (by first | exact rfl | exact congrArg (Value.int _) (by first | (rw [IntKind.wrap_i64]; omega) | (rw [IntKind.wrap_u8]; omega) | omega)) (Ext.refl _)
          · intro vals W' e hd ho K hK
            have hx : World.grownBy _ W' none := e
            refine st_quiet (v := ?_) ?_ ?_
            rotate_left
            · go_simp
              rfl
            exact hK _ _ _ rfl (by first | exact rfl | exact congrArg (Value.int _) (by first | (rw [IntKind.wrap_i64]; omega) | (rw [IntKind.wrap_u8]; omega) | omega)) (Ext.refl _)
          · intro vals W' e hd ho K hK
            have hx : World.grownBy _ W' none := e
            refine st_quiet (v := ?_) ?_ ?_
            rotate_left
            · go_simp
              rfl
            exact hK _ _ _ rfl (by first | exact rfl | exact congrArg (Value.int _) (by first | (rw [IntKind.wrap_i64]; omega) | (rw [IntKind.wrap_u8]; omega) | omega)) (Ext.refl _)
          · intro vals W' e hd ho K hK
            have h2 : vals 2 = .int .i64 (k : Int) := hd 2 (by kernel_rfl)
            have h3 : vals 3 = .int .i64 (k : Int) := hd 3 (by kernel_rfl)
            have hx : World.grownBy _ W' none := e
            refine st_quiet (v := ?_) ?_ ?_
            rotate_left
            · go_simp
              rfl
            exact hK _ _ _ rfl (by first | exact rfl | exact congrArg (Value.int _) (by first | (rw [IntKind.wrap_i64]; omega) | (rw [IntKind.wrap_u8]; omega) | omega)) (Ext.refl _)
          · intro vals W' e hd ho K hK
            have hx : World.grownBy _ W' none := e
            refine st_quiet (v := ?_) ?_ ?_
            rotate_left
            · go_simp
              rfl
            exact hK _ _ _ rfl (by first | exact rfl | exact congrArg (Value.int _) (by first | (rw [IntKind.wrap_i64]; omega) | (rw [IntKind.wrap_u8]; omega) | omega)) (Ext.refl _)
          · intro vals W' e hd ho K hK
            have h5 : vals 5 = .pointer (some ⟨g, 2, none⟩) := hd 5 (by kernel_rfl)
            have hx : World.grownBy _ W' none := e
            have cc := (HB.out.drew.grown hx (fun q hq => by cases hq)).cell 2
            simp at cc
            refine st_quiet (v := ?_) ?_ ?_
            rotate_left
            · go_simp
              rfl
            exact hK _ _ _ rfl rfl (Ext.refl _)
          · intro vals W' e hd ho K hK
            have h6 : vals 6 = .int .i64 r.b := hd 6 (by kernel_rfl)
            have hx : World.grownBy _ W' none := e
            go_wp2_with fail
            refine (picked_any r.b 50 _ HI.out.2.2.1 (by omega) (by omega)).mono ?_
            rintro e' u' ⟨rfl, rfl⟩
            exact hK _ _ _ (by first | rfl | (simp only [h6]; rfl)) rfl (Ext.refl _)
          · intro vals W' e hd ho K hK
            have h4 : vals 4 = .int .i64 m1 := hd 4 (by kernel_rfl)
            have h7 : vals 7 = .int .i64 (pick r.b 50) := hd 7 (by kernel_rfl)
            have hx : World.grownBy _ W' none := e
            refine st_quiet (v := ?_) ?_ ?_
            rotate_left
            · go_simp
              rfl
            exact hK _ _ _ rfl (by first | exact rfl | exact congrArg (Value.int _) (by first | (rw [IntKind.wrap_i64]; omega) | (rw [IntKind.wrap_u8]; omega) | omega)) (Ext.refl _)
          · intro vals W' e hd ho K hK
            have hx : World.grownBy _ W' none := e
            refine st_quiet (v := ?_) ?_ ?_
            rotate_left
            · go_simp
              rfl
            exact hK _ _ _ rfl (by first | exact rfl | exact congrArg (Value.int _) (by first | (rw [IntKind.wrap_i64]; omega) | (rw [IntKind.wrap_u8]; omega) | omega)) (Ext.refl _)
          · intro vals W' e hd ho K hK
            have h9 : vals 9 = .pointer (some ⟨g, 3, none⟩) := hd 9 (by kernel_rfl)
            have hx : World.grownBy _ W' none := e
            have cc := (HB.out.drew.grown hx (fun q hq => by cases hq)).cell 3
            simp at cc
            refine st_quiet (v := ?_) ?_ ?_
            rotate_left
            · go_simp
              rfl
            exact hK _ _ _ rfl rfl (Ext.refl _)
          · intro vals W' e hd ho K hK
            have h10 : vals 10 = .int .i64 r.c := hd 10 (by kernel_rfl)
            have hx : World.grownBy _ W' none := e
            go_wp2_with fail
            refine (picked_any r.c 256 _ HI.out.2.2.2 (by omega) (by omega)).mono ?_
            rintro e' u' ⟨rfl, rfl⟩
            exact hK _ _ _ (by first | rfl | (simp only [h10]; rfl)) rfl (Ext.refl _)
          · intro vals W' e hd ho K hK
            have h8 : vals 8 = .int .i64 m2 := hd 8 (by kernel_rfl)
            have h11 : vals 11 = .int .i64 (pick r.c 256) := hd 11 (by kernel_rfl)
            have hx : World.grownBy _ W' none := e
            refine st_quiet (v := ?_) ?_ ?_
            rotate_left
            · go_simp
              rfl
            exact hK _ _ _ rfl (by first | exact rfl | exact congrArg (Value.int _) (by first | (rw [IntKind.wrap_i64]; omega) | (rw [IntKind.wrap_u8]; omega) | omega)) (Ext.refl _)
          · intro vals W' e hd ho K hK
            have h12 : vals 12 = .int .i64 m3 := hd 12 (by kernel_rfl)
            have hx : World.grownBy _ W' none := e
            refine st_quiet (v := ?_) ?_ ?_
            rotate_left
            · go_simp
              rfl
            exact hK _ _ _ rfl (by first | exact rfl | exact congrArg (Value.int _) (by first | (rw [IntKind.wrap_i64]; omega) | (rw [IntKind.wrap_u8]; omega) | omega)) (Ext.refl _)
          · intro vals W' e hd ho K hK
            have h0 : vals 0 = .slice (some ⟨gb, 0, none⟩) n n := hd 0 (by kernel_rfl)
            have h1 : vals 1 = .int .i64 (k : Int) := hd 1 (by kernel_rfl)
            have hx : World.grownBy _ W' none := e
            refine st_quiet (v := ?_) ?_ ?_
            rotate_left
            · go_simp
              rfl
            exact hK _ _ _ rfl (by first | exact rfl | exact congrArg (Value.int _) (by first | (rw [IntKind.wrap_i64]; omega) | (rw [IntKind.wrap_u8]; omega) | omega)) (Ext.refl _)
        intro vals W' e hall K hK
        have ex : Ext wr W' := (Ext.refl wr).drew.grown e (fun q hq => by cases hq)
        have q0 := ex.cell bp
        have q1 := (ex.frozen (p := ⟨gb, k, none⟩) HBF.out.lt).trans bz
        have HEX := Lib.hid ex
        have h13 : vals 13 = .int .u8 m4 := hall 13 (by decide)
        have h14 : vals 14 = .pointer (some ⟨gb, k, none⟩) := hall 14 (by decide)
        clear hall e ex bp bz
        go_wp2_with fail
        go_roundw
        case rel => exact ⟨k + 1, bl.set k (byte m4), by first | rfl | go_num, by have := HKN.out; omega, by rw [List.length_set]; exact HBL.out, (HXR.out.trans HEX.out).setCell (by have := HGB.out; dsimp only; omega) _, (HBF.out.ext HEX.out).set k m4 HM4.out.1 HM4.out.2⟩
        case measure => have := HKN.out; (simp [intOf]; try omega)
      · obtain rfl : k = n := by omega
        have HBF := Lib.hid hb
        have HBL := Lib.hid hbl
        have HXR := Lib.hid hx
        clear hb hx hbl hlt
        go_wp2_with (refine wpList_frombytes (.tmp 57) 76 9 5 rfl rfl Tryd.underlying76 Tryd.underlying5 Tryd.underlying9 gb k k _ HBF.out HBL.out.symm rfl ?_)
        go_wp2_with fail
        go_ret
        exact ⟨_, rfl, by rw [size_bs, HBL.out]; have := HN.out; omega, HX.out.trans HXR.out⟩
  · have h4 := pick_range r.b 256 (by decide)
    obtain ⟨pb, hpb⟩ : ∃ pb, pb = pick r.b 256 := ⟨_, rfl⟩
    rw [← hpb] at h4
    have HPB := Lib.hid hpb
    obtain ⟨p0, p1⟩ := h4
    obtain ⟨c, hc⟩ : ∃ c : Nat, c = 4 * n := ⟨_, rfl⟩
    have y1 : (4 : Int) * (n : Int) = (c : Int) := by omega
    have HC := Lib.hid (show c ≤ 116 by have := HN.out; omega)
    have hc2 : (c : Int) ≤ 116 := by have := HN.out; omega
    clear hpb hc
    go_wp2_with fail
    refine (picked_any r.b 256 w1 HI.out.2.2.1 (by omega) (by omega)).mono ?_
    rintro e w2 ⟨rfl, hw⟩
    obtain rfl := hw.symm
    rw [← HPB.out]
    clear f0 f1 f2 f3
    go_wp2_with fail
    refine (rep_any (bs [byte pb]) c _ 116 (by rw [size_bs]; show 1 * c ≤ 116; have := HC.out; omega) (by decide) (by have := HC.out; omega)).mono ?_
    rintro e w2 ⟨s, rfl, hz, hx⟩
    have HXW := Lib.hid (HX.out.trans (((Ext.refl _).alloc _).trans hx))
    clear hx
    go_wp2_with fail
    go_ret
    exact ⟨s, rfl, by omega, HXW.out⟩
  · obtain ⟨q, hq⟩ : ∃ q : Nat, q = n % 4 := ⟨_, rfl⟩
    have y1 : Int.tmod (n : Int) 4 = (q : Int) := by rw [Int.tmod_eq_emod_of_nonneg (by omega)]; omega
    have y1' : (n : Int) % 4 = (q : Int) := by omega
    obtain ⟨c, hc⟩ : ∃ c : Nat, c = 1 + q := ⟨_, rfl⟩
    have y2 : (1 : Int) + (q : Int) = (c : Int) := by omega
    have HC := Lib.hid (show c ≤ 4 by omega)
    have hc2 : (c : Int) ≤ 4 := by omega
    clear hq hc f0 f1 f2 f3
    go_wp2_with fail
    refine wp_region_vals (F := ?_) ?_ [(fun (v : Value) (_ : World) => v = .int .i64 (n : Int)), (fun (v : Value) (_ : World) => v = .int .i64 (q : Int)), (fun (v : Value) (_ : World) => v = .int .i64 (c : Int)), (fun v _ => ∃ s : ByteArray, v = .string s ∧ s.size ≤ 60), (fun (v : Value) (_ : World) => v = .pointer (some ⟨g, 3, none⟩)), (fun (v : Value) (_ : World) => v = .int .i64 r.c), (fun (v : Value) (_ : World) => v = .int .i64 (pick r.c 1000)), (fun v _ => ∃ s : ByteArray, v = .string s ∧ s.size ≤ 21), (fun v _ => ∃ s : ByteArray, v = .string s ∧ s.size ≤ 81), (fun v _ => ∃ s : ByteArray, v = .string s ∧ s.size ≤ 81)] (by kernel_rfl) (by kernel_rfl) ?_ ?_ ?_
    rotate_left
    · intro vals
      simp only [putAll, Act.put, List.setIfInBounds_toArray, List.set_cons_zero, List.set_cons_succ, Nat.zero_add, Nat.reduceAdd]
      rfl
    · simp only [List.forall_mem_cons]
      exact ⟨fun _ _ _ h _ => h, fun _ _ _ h _ => h, fun _ _ _ h _ => h, fun _ _ _ h _ => h, fun _ _ _ h _ => h, fun _ _ _ h _ => h, fun _ _ _ h _ => h, fun _ _ _ h _ => h, fun _ _ _ h _ => h, fun _ _ _ h _ => h, fun _ h => (by cases h)⟩
    · refine ⟨?_, ?_, ?_, ?_, ?_, ?_, ?_, ?_, ?_, ?_, trivial⟩
      · intro vals W e hd ho K hK
        refine st_quiet (v := ?_) ?_ ?_
        rotate_left
        · go_simp
          rfl
        exact hK _ _ _ rfl (by first | exact rfl | exact congrArg (Value.int _) (by first | (rw [IntKind.wrap_i64]; omega) | (rw [IntKind.wrap_u8]; omega) | omega)) (Ext.refl _)
      · intro vals W e hd ho K hK
        have h0 : vals 0 = .int .i64 (n : Int) := hd 0 (by kernel_rfl)
        refine st_quiet (v := ?_) ?_ ?_
        rotate_left
        · go_simp
          rfl
        exact hK _ _ _ rfl (by first | exact rfl | exact congrArg (Value.int _) (by first | (rw [IntKind.wrap_i64]; omega) | (rw [IntKind.wrap_u8]; omega) | omega)) (Ext.refl _)
      · intro vals W e hd ho K hK
        have h1 : vals 1 = .int .i64 (q : Int) := hd 1 (by kernel_rfl)
        refine st_quiet (v := ?_) ?_ ?_
        rotate_left
        · go_simp
          rfl
        exact hK _ _ _ rfl (by first | exact rfl | exact congrArg (Value.int _) (by first | (rw [IntKind.wrap_i64]; omega) | (rw [IntKind.wrap_u8]; omega) | omega)) (Ext.refl _)
      · intro vals W e hd ho K hK
        have h2 : vals 2 = .int .i64 (c : Int) := hd 2 (by kernel_rfl)
        go_wp2_with fail
        refine (rep_any (⟨#[116, 104, 101, 32, 113, 117, 105, 99, 107, 32, 102, 111, 120, 44, 32]⟩) c _ 60 (by have h15 : ((⟨#[116, 104, 101, 32, 113, 117, 105, 99, 107, 32, 102, 111, 120, 44, 32]⟩) : ByteArray).size = 15 := rfl; have := HC.out; rw [h15]; omega) (by decide) (by have := HC.out; omega)).mono ?_
        rintro e' u' ⟨s', rfl, hz', hx'⟩
        exact hK _ _ _ (by first | rfl | (simp only [h2]; rfl)) ⟨s', rfl, hz'⟩ hx'
      · intro vals W e hd ho K hK
        refine st_quiet (v := ?_) ?_ ?_
        rotate_left
        · go_simp
          rfl
        exact hK _ _ _ rfl (by first | exact rfl | exact congrArg (Value.int _) (by first | (rw [IntKind.wrap_i64]; omega) | (rw [IntKind.wrap_u8]; omega) | omega)) (Ext.refl _)
      · intro vals W e hd ho K hK
        have h4 : vals 4 = .pointer (some ⟨g, 3, none⟩) := hd 4 (by kernel_rfl)
        have cc := (HB.out.drew.ext e).cell 3
        simp at cc
        refine st_quiet (v := ?_) ?_ ?_
        rotate_left
        · go_simp
          rfl
        exact hK _ _ _ rfl rfl (Ext.refl _)
      · intro vals W e hd ho K hK
        have h5 : vals 5 = .int .i64 r.c := hd 5 (by kernel_rfl)
        go_wp2_with fail
        refine (picked_any r.c 1000 _ HI.out.2.2.2 (by omega) (by omega)).mono ?_
        rintro e' u' ⟨rfl, rfl⟩
        exact hK _ _ _ (by first | rfl | (simp only [h5]; rfl)) rfl (Ext.refl _)
      · intro vals W e hd ho K hK
        have h6 : vals 6 = .int .i64 (pick r.c 1000) := hd 6 (by kernel_rfl)
        go_wp2_with fail
        refine (itoa_any (pick r.c 1000) _ (pick_range r.c 1000 (by decide)).1 (by have := pick_range r.c 1000 (by decide); omega) (HTAB.out.ext ((Ext.refl _).drew.trans e))).mono ?_
        rintro e' u' ⟨s', rfl, hz', hx'⟩
        exact hK _ _ _ (by first | rfl | (simp only [h6]; rfl)) ⟨s', rfl, hz'⟩ hx'
      · intro vals W e hd ho K hK
        obtain ⟨s3, h3, z3⟩ := hd 3 (by kernel_rfl)
        obtain ⟨s7, h7, z7⟩ := hd 7 (by kernel_rfl)
        refine st_concat _ _ _ _ (s3) (s7) rfl h3 h7 (by omega) ?_
        exact hK _ _ _ rfl ⟨_, rfl, by rw [ByteArray.size_append]; omega⟩ (Ext.refl _)
      · intro vals W e hd ho K hK
        obtain ⟨s8, h8, z8⟩ := hd 8 (by kernel_rfl)
        refine st_quiet (v := ?_) ?_ ?_
        rotate_left
        · go_simp
          rfl
        exact hK _ _ _ rfl ⟨s8, (by first | exact rfl | exact h8), z8⟩ (Ext.refl _)
    intro vals W e hall
    obtain ⟨s9, h9, z9⟩ := hall 9 (by decide)
    have HXW := Lib.hid (HX.out.trans ((Ext.refl _).drew.trans e))
    clear hall e
    go_wp2_with fail
    go_ret
    exact ⟨s9, congrArg Ending.returned h9, by omega, HXW.out⟩
end Go.Proofs.YtgjijcgkmofaaaaDoor
