/-
  Regions of which the last operation is forced to be last, and one of whose other operations may write into a row of the call's own: each operation walked once. Conditions: none.
-/
import Derived.Test.YtokpjgpdkmimgaaR3
import Derived.Test.YtokpjgpdkmimgaaR
import Derived.Test.YtokpjgpdkmimgaaA
namespace Go.Proofs.Ytokpjgpdkmimgaa
set_option linter.unusedSimpArgs false
set_option linter.unusedVariables false
open Go.RowKit

theorem Ext.grownBy {w w' : World} (h : Ext w w') (row : Option Nat) : w.grownBy w' row := ⟨h.below.os, h.below.tape, h.below.output, h.below.size, fun b hb _ => h.below.block b hb⟩
theorem World.grownBy.trans {a b c : World} {row : Option Nat} (h : a.grownBy b row) (k : b.grownBy c row) : a.grownBy c row :=
  ⟨k.os.trans h.os, k.tape.trans h.tape, k.output.trans h.output, Nat.le_trans h.size k.size, fun g hg hne => (k.block g (Nat.lt_of_lt_of_le hg h.size) hne).trans (h.block g hg hne)⟩
/-- What an operation may do: number k writes into the row, all others only make. -/
def RA (k : Nat) (row : Option Nat) (i : Nat) (w w' : World) : Prop := cond (Nat.beq i k) (w.grownBy w' row) (Ext w w')
theorem RA.grown {k : Nat} {row : Option Nat} {i : Nat} {w w' : World} (h : RA k row i w w') : w.grownBy w' row := by
  unfold RA at h
  cases hb : Nat.beq i k <;> rw [hb] at h
  · exact h.grownBy row
  · exact h
theorem RA.ext {k : Nat} {row : Option Nat} {i : Nat} {w w' : World} (h : RA k row i w w') (hi : i ≠ k) : Ext w w' := by
  unfold RA at h
  cases hb : Nat.beq i k <;> rw [hb] at h
  · exact h
  · exact absurd (Nat.eq_of_beq_eq_true hb) hi
/-- What stands when number i comes up: ahead of number k all has only grown. -/
def RB (k : Nat) (row : Option Nat) (i : Nat) (w w' : World) : Prop := cond (Nat.beq i k) (Ext w w') (w.grownBy w' row)
theorem RB.of {k : Nat} {row : Option Nat} {i : Nat} {w w' : World} (h1 : w.grownBy w' row) (h2 : i = k → Ext w w') : RB k row i w w' := by
  unfold RB
  cases hb : Nat.beq i k
  · exact h1
  · exact h2 (Nat.eq_of_beq_eq_true hb)
section
variable {P : Program} {Q : Exit → Act → World → Prop}
/-- One operation's walk. -/
def StA (k : Nat) (row : Option Nat) (P : Program) (Q : Exit → Act → World → Prop) (L : List Oper) (a0 : Act) (F : (Nat → Value) → Act) (V : List (Value → World → Prop)) (w0 : World) (i : Nat) (x : Oper) : Prop :=
  ∀ vals w, RB k row i w0 w → (∀ j, (waits x).contains j = true → At V j (vals j) w) → (∀ j, (waitsAt L j).contains i = true → vals j = oldAt a0 L j) →
    ∀ K : Act → World → Prop, (∀ a' v w', a' = (F vals).put x.dst v → At V i v w' → RA k row i w w' → K a' w') → x.wp P (F vals) w K Q
theorem wpAny_vals_goA {k0 : Nat} {row : Option Nat} {L : List Oper} {a0 : Act} {w0 : World} {F : (Nat → Value) → Act} (hF : ∀ vals, putAll a0 vals 0 L = F vals) (V : List (Value → World → Prop)) (hok : valsOk L = true)
    (hV : ∀ j p, V[j]? = some p → ∀ v w w', p v w → (if j = k0 then Ext w w' else w.grownBy w' row) → p v w') (hs : Steps (StA k0 row P Q L a0 F V w0) 0 L)
    (done : ∀ vals w, w0.grownBy w row → (∀ i, i < L.length → At V i (vals i) w) → Q .normal (F vals) w) :
    ∀ (fuel : Nat) (listed : Array Bool) (vals : Nat → Value) (w : World), listed.size = L.length → left_ listed ≤ fuel → w0.grownBy w row → (listed.getD k0 true = false → Ext w0 w) →
      (∀ i, i < L.length → listed.getD i true = true → At V i (vals i) w ∧ ∀ j, (waitsAt L i).contains j = true → listed.getD j false = true) →
      (∀ i, listed.getD i true = false → vals i = oldAt a0 L i) →
      wpAny P .any L.toArray Q fuel listed (F vals) w := by
  unfold valsOk at hok
  rw [Bool.and_eq_true, Bool.and_eq_true] at hok
  obtain ⟨⟨hap, hgu⟩, hord⟩ := hok
  have hAt : ∀ i m v w w', i ≠ m → At V i v w → RA k0 row m w w' → At V i v w' := by
    intro i m v w w' him h e
    unfold At at *
    cases hp : V[i]? with
    | none => rw [hp] at h; exact h
    | some p =>
      rw [hp] at h
      refine hV i p hp _ _ _ h ?_
      by_cases hi : i = k0
      · rw [if_pos hi]; exact e.ext (by omega)
      · rw [if_neg hi]; exact e.grown
  have hall : ∀ (listed : Array Bool), listed.size = L.length → Region.ready .any L.toArray listed = [] → ∀ i, i < L.length → listed.getD i true = true := by
    intro listed hsz hr i
    induction i using Nat.strongRecOn with
    | ind i ih =>
      intro hi
      cases hb : listed.getD i true with
      | true => rfl
      | false =>
        have : i ∈ Region.ready .any L.toArray listed := by
          rw [ready_mem]
          refine ⟨by simpa using hi, hb, L[i], by simp [hi], fun e he hbd => ?_⟩
          have hlt : e.on < i := by
            have h1 := List.all_eq_true.1 hord i (List.mem_range.2 hi)
            have h2 := List.all_eq_true.1 h1 e.on (by
              unfold waitsAt
              rw [List.getElem?_eq_getElem hi]
              exact List.contains_iff_mem.1 (mem_waits.2 ⟨e, he, hbd, rfl⟩))
            simpa using h2
          have := ih e.on hlt (by omega)
          have hin : e.on < listed.size := by omega
          simpa [Array.getD_eq_getD_getElem?, hin] using this
        rw [hr] at this
        cases this
  intro fuel
  induction fuel with
  | zero =>
    intro listed vals w hsz hl e hx0 hv ho
    have hno : Region.ready .any L.toArray listed = [] := by
      apply List.eq_nil_iff_forall_not_mem.2
      intro i hi
      obtain ⟨h1, h2, _⟩ := ready_mem.1 hi
      have := left_set (b := listed) (i := i) (by simpa [hsz] using h1) h2
      omega
    exact ⟨hno, done vals w e fun i hi => (hv i hi (hall listed hsz hno i hi)).1⟩
  | succ fuel ih =>
    intro listed vals w hsz hl e hx0 hv ho
    refine ⟨fun hno => done vals w e fun i hi => (hv i hi (hall listed hsz hno i hi)).1, fun i hi => ?_⟩
    obtain ⟨h1, h2, x, hx, h3⟩ := ready_mem.1 hi
    have hil : i < L.length := by simpa using h1
    have hxL : L[i]? = some x := by simpa using hx
    have hg : x.guard = none := by
      have := List.all_eq_true.1 hgu x (List.mem_of_getElem? hxL)
      simpa using this
    unfold wpOp
    rw [hx]
    simp only
    rw [if_pos (by simp [Region.wanted, hg])]
    left
    have hst := hs.at hxL
    rw [Nat.zero_add] at hst
    have hwait : ∀ j, (waits x).contains j = true → listed.getD j false = true := by
      intro j hj
      obtain ⟨ed, he1, he2, rfl⟩ := mem_waits.1 hj
      exact h3 ed he1 he2
    refine hst vals w (RB.of e (fun hik => hx0 (hik ▸ h2))) (fun j hj => ?_) (fun j hj => ?_) _ ?_
    · have hlj := hwait j hj
      have hjs : j < L.length := by
        by_cases h : j < listed.size
        · omega
        · simp [Array.getD_eq_getD_getElem?, h] at hlj
      refine (hv j hjs ?_).1
      have hin : j < listed.size := by omega
      simpa [Array.getD_eq_getD_getElem?, hin] using hlj
    · refine ho j ?_
      cases hb : listed.getD j true with
      | false => rfl
      | true =>
        by_cases hjl : j < L.length
        · have := (hv j hjl hb).2 i hj
          have hin : i < listed.size := by omega
          simp [Array.getD_eq_getD_getElem?, hin] at this h2
          rw [this] at h2
          cases h2
        · unfold waitsAt at hj
          rw [List.getElem?_eq_none (by omega)] at hj
          simp at hj
    · intro a' v w' ha' hv' e'
      subst ha'
      have hput : (F vals).put x.dst v = F (upd vals i v) := by
        rw [← hF, ← hF, ← putAll_upd a0 vals v L 0 i x hap hxL, Nat.zero_add]
      rw [hput]
      refine ih _ _ _ (by simpa using hsz) (by have := left_set (b := listed) (i := i) (by omega) h2; omega) (e.trans e'.grown) (fun hk => by
        by_cases hik : i = k0
        · subst hik
          rw [getD_set_same (by omega)] at hk
          cases hk
        · rw [getD_set_other hik] at hk
          exact (hx0 hk).trans (e'.ext hik)) (fun k hk hkl => ?_) (fun k hk => ?_)
      · by_cases hki : k = i
        · subst hki
          rw [upd_same]
          refine ⟨hv', fun j hj => ?_⟩
          have hj' : (waits x).contains j = true := by
            unfold waitsAt at hj
            rw [hxL] at hj
            exact hj
          have hlj := hwait j hj'
          by_cases hjk : k = j
          · subst hjk; exact getD_set_same (by omega) _
          · rw [getD_set_other hjk]; exact hlj
        · rw [upd_other _ _ hki]
          rw [getD_set_other (Ne.symm hki)] at hkl
          obtain ⟨g1, g2⟩ := hv k hk hkl
          refine ⟨hAt _ i _ _ _ hki g1 e', fun j hj => ?_⟩
          have hlj := g2 j hj
          by_cases hji : i = j
          · subst hji; exact getD_set_same (by omega) _
          · rw [getD_set_other hji]; exact hlj
      · by_cases hki : k = i
        · subst hki
          rw [getD_set_same (by omega)] at hk
          cases hk
        · rw [upd_other _ _ hki]
          rw [getD_set_other (Ne.symm hki)] at hk
          exact ho k hk

/-- THE REGION: each operation is walked once, the last one last; number k may write into the row. -/
theorem wp_region_valsA (k : Nat) (row : Option Nat) {id n : Nat} {L r : List Oper} {o : Oper} {a0 : Act} {w : World} {F : (Nat → Value) → Act} (hF : ∀ vals, putAll a0 vals 0 L.dropLast = F vals) (V : List (Value → World → Prop)) (hm : P.follows .mixedOrders = true)
    (hL : L.reverse = o :: r) (hf : lastForced L.dropLast o = true) (hn : L.length = n + 1) (hok : valsOk L.dropLast = true)
    (hV : ∀ j p, V[j]? = some p → ∀ v w w', p v w → (if j = k then Ext w w' else w.grownBy w' row) → p v w') (hs : Steps (StA k row P (LastQ P o Q) L.dropLast a0 F V w.drew) 0 L.dropLast)
    (done : ∀ vals w', w.drew.grownBy w' row → (∀ i, i < L.dropLast.length → At V i (vals i) w') → ∀ K : Act → World → Prop, (∀ a' w'', Q .normal a' w'' → K a' w'') → o.wp P (F vals) w' K Q) : (Code.region id L.toArray true).wp P Q a0 w := by
  have hn2 : L.dropLast.length = n := by rw [List.length_dropLast, hn]; rfl
  refine wp_region_any hm (wpAny_dropLast (getLast_of_reverse hL) hf hn ?_)
  have h0 : F (oldAt a0 L.dropLast) = a0 := by
    rw [← hF]
    refine putAll_old _ _ _ _ (fun i x d h1 h2 => ?_)
    rw [Nat.zero_add]
    unfold oldAt
    rw [h1]
    simp only
    rw [h2]
  have := wpAny_vals_goA (P := P) (Q := LastQ P o Q) hF V hok hV hs (fun vals w' hr ha => done vals w' hr ha _ fun _ _ h => h) n (Array.replicate n false) (oldAt a0 L.dropLast) w.drew (by simp [hn2]) (by simp [left_]) (World.grownBy.refl _ _) (fun _ => Ext.refl _)
    (fun i hi h => by
      exfalso
      rw [hn2] at hi
      simp [Array.getD_eq_getD_getElem?, Array.getElem?_replicate, hi] at h)
    (fun i _ => rfl)
  rw [h0] at this
  exact this
end
end Go.Proofs.Ytokpjgpdkmimgaa
