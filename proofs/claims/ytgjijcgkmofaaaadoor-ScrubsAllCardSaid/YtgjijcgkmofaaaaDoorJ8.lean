/-
  An array that is written stays one that may be, of as many sectors; streams of writes. In plain Lean. Conditions: none.
-/
import Derived.Test.YtgjijcgkmofaaaaDoorJ7
namespace Go.Proofs.YtgjijcgkmofaaaaDoor
set_option linter.unusedSimpArgs false
set_option linter.unusedVariables false
open Go.RowKit

theorem Good.may {a : List Dev} {m : Nat} (h : Good a m) (h1 : 16 ≤ m) (h2 : m % 2 = 0) : arrMay a = true :=
  arr_made h.len h.m0 h.m1 h.m2 (by rw [h.l0]; exact h1) (by rw [h.l0]; exact h2) (by rw [h.l1, h.l0]) (by rw [h.l2, h.l0])
theorem Good.third {a : List Dev} {m : Nat} (h : Good a m) {d : Dev} (hd : devMay d = true) (hl : d.sec.length = m / 2) : Good (a.set 2 d) m := by
  refine ⟨by simp [h.len], ?_, ?_, ?_, ?_, ?_, ?_⟩
  · rw [dv_set_ne _ (by decide)]; exact h.m0
  · rw [dv_set_ne _ (by decide)]; exact h.m1
  · rw [dv_set_self (by rw [h.len]; decide)]; exact hd
  · rw [dv_set_ne _ (by decide)]; exact h.l0
  · rw [dv_set_ne _ (by decide)]; exact h.l1
  · rw [dv_set_self (by rw [h.len]; decide)]; exact hl
theorem Good.parity {a : List Dev} {m : Nat} (h : Good a m) {n : Int} (h0 : 0 ≤ n) (h1 : n < m) (hm : m ≤ 64) (h2 : m % 2 = 0) : Good (parityS a n) m := by
  have ht : touchCode (dv a 2) (n / 2) = 0 := touch_iff.2 ⟨h.m2, by omega, by rw [h.l2]; omega⟩
  unfold parityS
  split
  · rename_i hc
    have hx : (xorS (mirrorS a n).1 (mirrorS a (partner n)).1).size ≤ 24 := by
      rw [xorS_size (by rw [mirrorS_size hc.1, mirrorS_size hc.2]), mirrorS_size hc.1]
      exact Nat.le_refl _
    have hw := write_may (no := 512 + n / 2) (s := xorS (mirrorS a n).1 (mirrorS a (partner n)).1) ht (by omega) (by omega) hx
    exact h.third hw.1 (by show (writeP a n _).sec.length = _; unfold writeP; rw [hw.2, h.l2])
  · exact h.third (lose_may ht) (by rw [lose_len ht, h.l2])
theorem Good.written {a : List Dev} {m : Nat} (h : Good a m) {n : Int} {s : ByteArray} (ht : arrTouch a n = 0) (hs : s.size ≤ 24) (hm : (dv a 0).sec.length = m) : Good (arrWrite3 a n s) m := by
  obtain ⟨hmay, h0, h1⟩ := arrTouch_zero.1 ht
  obtain ⟨_, _, _, _, g1, g2, g3, _, _⟩ := arr_parts hmay
  obtain ⟨p1, p2, p3, p4, p5, p6, p7, p8, p9, p10⟩ := partner_range ht
  have hpm := (arrTouch_zero.1 p1).2.2
  subst hm
  unfold arrWrite3 savedS
  split
  · rename_i hc
    have hr : (arrReadS a (partner n)).1.size ≤ 24 := by rw [arrReadS_size hc.1]; exact Nat.le_refl _
    exact ((h.both p6 hpm g2 hr).both h0 h1 g2 hs).parity h0 h1 g2 g3
  · exact (h.both h0 h1 g2 hs).parity h0 h1 g2 g3
/-- What a write in range does. -/
theorem write_step {a : List Dev} {m : Nat} (h : Good a m) (h16 : 16 ≤ m) (h64 : m ≤ 64) (h2 : m % 2 = 0) {n : Int} {s : ByteArray} (n0 : 0 ≤ n) (n1 : n < m) (hs : s.size ≤ 24) :
    arrWriteS a n s = (arrWrite3 a n s, 0) ∧ Good (arrWrite3 a n s) m := by
  have ht : arrTouch a n = 0 := arrTouch_zero.2 ⟨h.may h16 h2, n0, by rw [h.l0]; exact n1⟩
  refine ⟨?_, h.written ht hs h.l0⟩
  unfold arrWriteS
  rw [if_neg (by simpa using ht), if_neg (by omega)]
def chunk (s : ByteArray) (i : Nat) : ByteArray := s.extract (24 * i) (min (24 * i + 24) s.size)
theorem chunk_size (s : ByteArray) (i : Nat) : (chunk s i).size ≤ 24 := by unfold chunk; rw [ByteArray.size_extract]; omega
theorem swl_succ (m i : Nat) (a : List Dev) (first : Int) (s : ByteArray) : streamWriteLoop (m + 1) i a first s = streamWriteLoop m (i + 1) (arrWriteS a (first + i) (chunk s i)).1 first s := rfl
theorem sw_bad {a : List Dev} {first : Int} {s : ByteArray} (h : streamFaultS a first s.size ≠ 0) : streamWriteS a first s = ([], streamFaultS a first s.size) := by unfold streamWriteS; rw [if_pos h]
theorem sw_good {a : List Dev} {first : Int} {s : ByteArray} (h : streamFaultS a first s.size = 0) : streamWriteS a first s = (streamWriteLoop ((s.size + 23) / 24) 0 a first s, 0) := by unfold streamWriteS; rw [if_neg (by simpa using h)]
end Go.Proofs.YtgjijcgkmofaaaaDoor

/-
  Regions that draw their order, told by what each operation yields: each operation is walked once, whatever order is drawn. Conditions: what is told of a value stays as the world grows.
-/
namespace Go.Proofs.YtgjijcgkmofaaaaDoor
set_option linter.unusedSimpArgs false
set_option linter.unusedVariables false
open Go.RowKit

/-- The operations that it waits for. -/
def waits (x : Oper) : List Nat := (x.after.toList.filter (Region.binds .any)).map (·.on)
def waitsAt (L : List Oper) (i : Nat) : List Nat := ((L[i]?).map waits).getD []
def upd (vals : Nat → Value) (i : Nat) (v : Value) : Nat → Value := fun j => if j = i then v else vals j
theorem upd_same (vals : Nat → Value) (i : Nat) (v : Value) : upd vals i v i = v := if_pos rfl
theorem upd_other (vals : Nat → Value) {i j : Nat} (v : Value) (h : j ≠ i) : upd vals i v j = vals j := if_neg h
/-- The frame with the operations' values. -/
def putAll (a : Act) (vals : Nat → Value) : Nat → List Oper → Act
  | _, [] => a
  | n, x :: l => putAll (a.put x.dst (vals n)) vals (n + 1) l
def apart : List (Option Tmp) → Bool
  | [] => true
  | d :: l => (d.isNone || !l.contains d) && apart l
theorem put_comm (a : Act) {d e : Option Tmp} (u v : Value) (h : d = none ∨ d ≠ e) : (a.put d u).put e v = (a.put e v).put d u := by
  cases d with
  | none => rfl
  | some d =>
    cases e with
    | none => rfl
    | some e =>
      have hde : d ≠ e := by
        rcases h with h | h
        · cases h
        · intro hh; exact h (by rw [hh])
      unfold Act.put
      simp only [Act.mk.injEq, and_true]
      exact Array.setIfInBounds_comm _ _ hde
theorem put_put (a : Act) (d : Option Tmp) (u v : Value) : (a.put d u).put d v = a.put d v := by
  cases d with
  | none => rfl
  | some d => unfold Act.put; simp
theorem put_own (a : Act) (d : Tmp) : a.put (some d) (a.tmps.getD d undef) = a := by
  unfold Act.put
  obtain ⟨t, ds⟩ := a
  simp only [Act.mk.injEq, and_true]
  apply Array.ext_getElem?
  intro k
  rw [Array.getElem?_setIfInBounds]
  by_cases h : d = k
  · subst h
    rw [if_pos rfl]
    by_cases h2 : d < t.size
    · simp [h2]
    · simp [h2]
  · rw [if_neg h]
theorem putAll_put (a : Act) (vals : Nat → Value) (d : Option Tmp) (v : Value) : ∀ (l : List Oper) (n : Nat), (d = none ∨ ¬ d ∈ l.map (·.dst)) → putAll (a.put d v) vals n l = (putAll a vals n l).put d v := by
  intro l
  induction l generalizing a with
  | nil => intro n _; rfl
  | cons x l ih =>
    intro n h
    unfold putAll
    have h1 : d = none ∨ d ≠ x.dst := by
      rcases h with h | h
      · exact .inl h
      · right; intro hh; exact h (by simp [hh])
    have h2 : d = none ∨ ¬ d ∈ l.map (·.dst) := by
      rcases h with h | h
      · exact .inl h
      · right; intro hh; exact h (by rw [List.map_cons]; exact List.mem_cons_of_mem _ hh)
    rw [put_comm a v (vals n) h1, ih _ _ h2]
theorem putAll_upd_lt (a : Act) (vals : Nat → Value) (i : Nat) (v : Value) : ∀ (l : List Oper) (n : Nat), i < n → putAll a (upd vals i v) n l = putAll a vals n l := by
  intro l
  induction l generalizing a with
  | nil => intro n _; rfl
  | cons x l ih =>
    intro n h
    unfold putAll
    rw [upd_other _ _ (by omega), ih _ _ (by omega)]
theorem putAll_upd (a : Act) (vals : Nat → Value) (v : Value) : ∀ (l : List Oper) (n i : Nat) (x : Oper), apart (l.map (·.dst)) = true → l[i]? = some x → putAll a (upd vals (n + i) v) n l = (putAll a vals n l).put x.dst v := by
  intro l
  induction l generalizing a with
  | nil => intro n i x _ h; simp at h
  | cons y l ih =>
    intro n i x hap h
    rw [List.map_cons] at hap
    unfold apart at hap
    rw [Bool.and_eq_true] at hap
    unfold putAll
    cases i with
    | zero =>
      simp only [List.getElem?_cons_zero, Option.some.injEq] at h
      subst h
      rw [Nat.add_zero, upd_same, putAll_upd_lt _ _ _ _ _ _ (by omega), ← put_put a y.dst (vals n) v]
      refine putAll_put _ _ _ _ _ _ ?_
      have h1 := hap.1
      rw [Bool.or_eq_true] at h1
      rcases h1 with h1 | h1
      · left; simpa using h1
      · right; simpa using h1
    | succ i =>
      rw [List.getElem?_cons_succ] at h
      rw [upd_other _ _ (by omega), show n + (i + 1) = n + 1 + i by omega]
      exact ih _ _ _ _ hap.2 h
def oldAt (a : Act) (L : List Oper) (i : Nat) : Value := match L[i]? with
  | some x => match x.dst with
    | some d => a.tmps.getD d undef
    | none => undef
  | none => undef
theorem putAll_old (a : Act) (vals : Nat → Value) : ∀ (l : List Oper) (n : Nat), (∀ i x d, l[i]? = some x → x.dst = some d → vals (n + i) = a.tmps.getD d undef) → putAll a vals n l = a := by
  intro l
  induction l with
  | nil => intro n _; rfl
  | cons x l ih =>
    intro n h
    unfold putAll
    have h0 : a.put x.dst (vals n) = a := by
      cases hd : x.dst with
      | none => rfl
      | some d =>
        have := h 0 x d rfl hd
        rw [Nat.add_zero] at this
        rw [this, put_own]
    rw [h0]
    refine ih (n + 1) (fun i x d h1 h2 => ?_)
    have := h (i + 1) x d (by rw [List.getElem?_cons_succ]; exact h1) h2
    rw [← this]
    congr 1
    omega
/-- What is told of the value at a place. -/
def At (V : List (Value → World → Prop)) (i : Nat) (v : Value) (w : World) : Prop := match V[i]? with
  | some p => p v w
  | none => False
def valsOk (L : List Oper) : Bool := apart (L.map (·.dst)) && L.all (fun x => x.guard.isNone) && (List.range L.length).all (fun i => (waitsAt L i).all (fun j => decide (j < i)))

section
variable {P : Program} {Q : Exit → Act → World → Prop}
/-- One operation's walk. -/
def St (P : Program) (Q : Exit → Act → World → Prop) (L : List Oper) (a0 : Act) (F : (Nat → Value) → Act) (V : List (Value → World → Prop)) (w0 : World) (i : Nat) (x : Oper) : Prop :=
  ∀ vals w, Ext w0 w → (∀ j, (waits x).contains j = true → At V j (vals j) w) → (∀ j, (waitsAt L j).contains i = true → vals j = oldAt a0 L j) →
    ∀ K : Act → World → Prop, (∀ a' v w', a' = (F vals).put x.dst v → At V i v w' → Ext w w' → K a' w') → x.wp P (F vals) w K Q
def Steps (f : Nat → Oper → Prop) : Nat → List Oper → Prop
  | _, [] => True
  | n, x :: l => f n x ∧ Steps f (n + 1) l
theorem Steps.at {f : Nat → Oper → Prop} : ∀ {l : List Oper} {n i : Nat} {x : Oper}, Steps f n l → l[i]? = some x → f (n + i) x := by
  intro l
  induction l with
  | nil => intro n i x _ h; simp at h
  | cons y l ih =>
    intro n i x hs h
    cases i with
    | zero => simp only [List.getElem?_cons_zero, Option.some.injEq] at h; subst h; exact hs.1
    | succ i =>
      rw [List.getElem?_cons_succ] at h
      have := ih hs.2 h
      rwa [show n + (i + 1) = n + 1 + i by omega]
theorem mem_waits {x : Oper} {j : Nat} : (waits x).contains j = true ↔ ∃ e ∈ x.after, Region.binds .any e = true ∧ e.on = j := by
  unfold waits
  rw [List.contains_iff_mem, List.mem_map]
  constructor
  · rintro ⟨e, h1, h2⟩
    rw [List.mem_filter] at h1
    exact ⟨e, by simpa using h1.1, h1.2, h2⟩
  · rintro ⟨e, h1, h2, h3⟩
    exact ⟨e, by rw [List.mem_filter]; exact ⟨by simpa using h1, h2⟩, h3⟩
theorem getD_set_same {b : Array Bool} {i : Nat} (h : i < b.size) (d : Bool) : (b.setIfInBounds i true).getD i d = true := by
  simp [Array.getD_eq_getD_getElem?, h]
theorem getD_set_other {b : Array Bool} {i k : Nat} (h : i ≠ k) (d : Bool) : (b.setIfInBounds i true).getD k d = b.getD k d := by
  simp [Array.getD_eq_getD_getElem?, Array.getElem?_setIfInBounds, h]
/-- How many have not come up yet. -/
def left_ (b : Array Bool) : Nat := b.toList.count false
theorem left_set {b : Array Bool} {i : Nat} (h : i < b.size) (hb : b.getD i true = false) : left_ (b.setIfInBounds i true) + 1 = left_ b := by
  unfold left_
  obtain ⟨l⟩ := b
  simp only [List.setIfInBounds_toArray] at *
  have hb' : l[i]? = some false := by
    simp only [List.size_toArray] at h
    rw [Array.getD_eq_getD_getElem?] at hb
    simp [h] at hb
    simp [h, hb]
  clear hb
  induction l generalizing i with
  | nil => simp at hb'
  | cons x l ih =>
    cases i with
    | zero =>
      simp only [List.getElem?_cons_zero, Option.some.injEq] at hb'
      subst hb'
      simp
    | succ i =>
      rw [List.getElem?_cons_succ] at hb'
      simp only [List.set_cons_succ, List.count_cons]
      have := ih (i := i) (by simp only [List.size_toArray, List.length_cons] at h ⊢; omega) hb'
      omega
theorem wpAny_vals_go {L : List Oper} {a0 : Act} {w0 : World} {F : (Nat → Value) → Act} (hF : ∀ vals, putAll a0 vals 0 L = F vals) (V : List (Value → World → Prop)) (hok : valsOk L = true)
    (hV : ∀ p ∈ V, ∀ v w w', p v w → Ext w w' → p v w') (hs : Steps (St P Q L a0 F V w0) 0 L)
    (done : ∀ vals w, Ext w0 w → (∀ i, i < L.length → At V i (vals i) w) → Q .normal (F vals) w) :
    ∀ (fuel : Nat) (listed : Array Bool) (vals : Nat → Value) (w : World), listed.size = L.length → left_ listed ≤ fuel → Ext w0 w →
      (∀ i, i < L.length → listed.getD i true = true → At V i (vals i) w ∧ ∀ j, (waitsAt L i).contains j = true → listed.getD j false = true) →
      (∀ i, listed.getD i true = false → vals i = oldAt a0 L i) →
      wpAny P .any L.toArray Q fuel listed (F vals) w := by
  unfold valsOk at hok
  rw [Bool.and_eq_true, Bool.and_eq_true] at hok
  obtain ⟨⟨hap, hgu⟩, hord⟩ := hok
  have hAt : ∀ i v w w', At V i v w → Ext w w' → At V i v w' := by
    intro i v w w' h e
    unfold At at *
    cases hp : V[i]? with
    | none => rw [hp] at h; exact h
    | some p => rw [hp] at h; exact hV p (List.mem_of_getElem? hp) _ _ _ h e
  have hall : ∀ (listed : Array Bool), listed.size = L.length → Region.ready .any L.toArray listed = [] → ∀ i, i < L.length → listed.getD i true = true := by
    intro listed hsz hr i
    induction i using Nat.strongRecOn with
    | ind i ih =>
      intro hi
      cases hb : listed.getD i true with
      | true => rfl
      | false =>
        have : i ∈ Region.ready .any L.toArray listed := by
          rw [ready_mem]
          refine ⟨by simpa using hi, hb, L[i], by simp [hi], fun e he hbd => ?_⟩
          have hlt : e.on < i := by
            have h1 := List.all_eq_true.1 hord i (List.mem_range.2 hi)
            have h2 := List.all_eq_true.1 h1 e.on (by
              unfold waitsAt
              rw [List.getElem?_eq_getElem hi]
              exact List.contains_iff_mem.1 (mem_waits.2 ⟨e, he, hbd, rfl⟩))
            simpa using h2
          have := ih e.on hlt (by omega)
          have hin : e.on < listed.size := by omega
          simpa [Array.getD_eq_getD_getElem?, hin] using this
        rw [hr] at this
        cases this
  intro fuel
  induction fuel with
  | zero =>
    intro listed vals w hsz hl e hv ho
    have hno : Region.ready .any L.toArray listed = [] := by
      apply List.eq_nil_iff_forall_not_mem.2
      intro i hi
      obtain ⟨h1, h2, _⟩ := ready_mem.1 hi
      have := left_set (b := listed) (i := i) (by simpa [hsz] using h1) h2
      omega
    exact ⟨hno, done vals w e fun i hi => (hv i hi (hall listed hsz hno i hi)).1⟩
  | succ fuel ih =>
    intro listed vals w hsz hl e hv ho
    refine ⟨fun hno => done vals w e fun i hi => (hv i hi (hall listed hsz hno i hi)).1, fun i hi => ?_⟩
    obtain ⟨h1, h2, x, hx, h3⟩ := ready_mem.1 hi
    have hil : i < L.length := by simpa using h1
    have hxL : L[i]? = some x := by simpa using hx
    have hg : x.guard = none := by
      have := List.all_eq_true.1 hgu x (List.mem_of_getElem? hxL)
      simpa using this
    unfold wpOp
    rw [hx]
    simp only
    rw [if_pos (by simp [Region.wanted, hg])]
    left
    have hst := hs.at hxL
    rw [Nat.zero_add] at hst
    have hwait : ∀ j, (waits x).contains j = true → listed.getD j false = true := by
      intro j hj
      obtain ⟨ed, he1, he2, rfl⟩ := mem_waits.1 hj
      exact h3 ed he1 he2
    refine hst vals w e (fun j hj => ?_) (fun j hj => ?_) _ ?_
    · have hlj := hwait j hj
      have hjs : j < L.length := by
        by_cases h : j < listed.size
        · omega
        · simp [Array.getD_eq_getD_getElem?, h] at hlj
      refine (hv j hjs ?_).1
      have hin : j < listed.size := by omega
      simpa [Array.getD_eq_getD_getElem?, hin] using hlj
    · refine ho j ?_
      cases hb : listed.getD j true with
      | false => rfl
      | true =>
        by_cases hjl : j < L.length
        · have := (hv j hjl hb).2 i hj
          have hin : i < listed.size := by omega
          simp [Array.getD_eq_getD_getElem?, hin] at this h2
          rw [this] at h2
          cases h2
        · unfold waitsAt at hj
          rw [List.getElem?_eq_none (by omega)] at hj
          simp at hj
    · intro a' v w' ha' hv' e'
      subst ha'
      have hput : (F vals).put x.dst v = F (upd vals i v) := by
        rw [← hF, ← hF, ← putAll_upd a0 vals v L 0 i x hap hxL, Nat.zero_add]
      rw [hput]
      refine ih _ _ _ (by simpa using hsz) (by have := left_set (b := listed) (i := i) (by omega) h2; omega) (e.trans e') (fun k hk hkl => ?_) (fun k hk => ?_)
      · by_cases hki : k = i
        · subst hki
          rw [upd_same]
          refine ⟨hv', fun j hj => ?_⟩
          have hj' : (waits x).contains j = true := by
            unfold waitsAt at hj
            rw [hxL] at hj
            exact hj
          have hlj := hwait j hj'
          by_cases hjk : k = j
          · subst hjk; exact getD_set_same (by omega) _
          · rw [getD_set_other hjk]; exact hlj
        · rw [upd_other _ _ hki]
          rw [getD_set_other (Ne.symm hki)] at hkl
          obtain ⟨g1, g2⟩ := hv k hk hkl
          refine ⟨hAt _ _ _ _ g1 e', fun j hj => ?_⟩
          have hlj := g2 j hj
          by_cases hji : i = j
          · subst hji; exact getD_set_same (by omega) _
          · rw [getD_set_other hji]; exact hlj
      · by_cases hki : k = i
        · subst hki
          rw [getD_set_same (by omega)] at hk
          cases hk
        · rw [upd_other _ _ hki]
          rw [getD_set_other (Ne.symm hki)] at hk
          exact ho k hk
/-- THE REGION: each operation is walked once. -/
theorem wp_region_vals {id : Nat} {L : List Oper} {a0 : Act} {w : World} {F : (Nat → Value) → Act} (hF : ∀ vals, putAll a0 vals 0 L = F vals) (V : List (Value → World → Prop)) (hm : P.follows .mixedOrders = true) (hok : valsOk L = true)
    (hV : ∀ p ∈ V, ∀ v w w', p v w → Ext w w' → p v w') (hs : Steps (St P Q L a0 F V w.drew) 0 L)
    (done : ∀ vals w', Ext w.drew w' → (∀ i, i < L.length → At V i (vals i) w') → Q .normal (F vals) w') : (Code.region id L.toArray true).wp P Q a0 w := by
  refine wp_region_any hm ?_
  have h0 : F (oldAt a0 L) = a0 := by
    rw [← hF]
    refine putAll_old _ _ _ _ (fun i x d h1 h2 => ?_)
    rw [Nat.zero_add]
    unfold oldAt
    rw [h1]
    simp only
    rw [h2]
  have := wpAny_vals_go hF V hok hV hs done L.toArray.size (Array.replicate L.toArray.size false) (oldAt a0 L) w.drew (by simp) (by simp [left_]) (Ext.refl _)
    (fun i hi h => by
      exfalso
      simp [Array.getD_eq_getD_getElem?, Array.getElem?_replicate, hi] at h)
    (fun i _ => rfl)
  rw [h0] at this
  exact this
theorem st_quiet {x : Oper} {a : Act} {w : World} {K : Act → World → Prop} (v : Value) (hy : (execOp a.eval x).run P w = .ok (.value v) w) (h : K (a.put x.dst v) w) : x.wp P a w K Q := by
  unfold Oper.wp
  rw [hy]
  exact h
/-- Two texts, one behind the other. -/
theorem st_concat {x : Oper} {a : Act} {w : World} {K : Act → World → Prop} (p q : Operand) (t t' : TypeId) (s u : ByteArray) (ho : x.op = .binOp .add t p q t') (hp : a.eval p = .string s) (hq : a.eval q = .string u) (hn : s.size + u.size ≤ 9223372036854775807) (h : K (a.put x.dst (.string (s ++ u))) w) : x.wp P a w K Q := by
  refine st_quiet (.string (s ++ u)) ?_ h
  unfold execOp
  rw [ho]
  simp only
  rw [hp, hq]
  have hn' : ¬ ((s.size + u.size : Nat) : Int) > IntKind.i64.max := by
    rw [show IntKind.i64.max = 9223372036854775807 from rfl]; omega
  simp only [eqGuard, binOp, Op.stringOp, Sem.run_bind]
  rw [if_neg hn']
  rfl
/-- The bounds of a part of a text. -/
def boundOf (a : Act) (lo : Option Operand) (d : Nat) (l : Nat) : Prop := match lo with
  | none => l = d
  | some p => a.eval p = .int .i64 (l : Int)
/-- A part of a text. -/
theorem st_slice {x : Oper} {a : Act} {w : World} {K : Act → World → Prop} (t : TypeId) (p : Operand) (lo hi : Option Operand) (s : ByteArray) (l h : Nat) (ho : x.op = .slice t p lo hi none) (ht : P.underlying t = some .string) (hp : a.eval p = .string s) (hlo : boundOf a lo 0 l) (hhi : boundOf a hi s.size h) (h1 : l ≤ h) (h2 : h ≤ s.size)
    (hK : K (a.put x.dst (.string (s.extract l h))) w) : x.wp P a w K Q := by
  refine st_quiet (.string (s.extract l h)) ?_ hK
  have hb : (Instr.sliceBounds false s.size s.size (lo.map a.eval) (hi.map a.eval) none).run P w = .ok (l, h, s.size) w := by
    unfold Instr.sliceBounds
    have i1 : (0 : Int) ≤ (h : Int) ∧ (h : Int) ≤ (s.size : Int) := ⟨by omega, by omega⟩
    have i2 : (0 : Int) ≤ (l : Int) ∧ (l : Int) ≤ (h : Int) := ⟨by omega, by omega⟩
    cases lo with
    | none =>
      cases hi with
      | none => simp only [boundOf] at hlo hhi; subst hlo hhi; simp
      | some q => simp only [boundOf] at hlo hhi; subst hlo; simp [Instr.sliceBound, hhi, asIntOf, i1, h2]
    | some q =>
      cases hi with
      | none => simp only [boundOf] at hlo hhi; subst hhi; simp [Instr.sliceBound, hlo, asIntOf, i2, h1]
      | some r => simp only [boundOf] at hlo hhi; simp [Instr.sliceBound, hlo, hhi, asIntOf, i1, i2, h1, h2]
  unfold execOp
  rw [ho]
  simp only [Sem.run_bind, Instr.sliceAt, hp, Option.map_none]
  simp [Instr.slice, ht, hb, underlying]
end
end Go.Proofs.YtgjijcgkmofaaaaDoor

/-
  A number from 0 to many - 1, out of any number. Conditions: many is more than 0.
-/
namespace Go.Proofs.YtgjijcgkmofaaaaDoor
set_option linter.unusedSimpArgs false
set_option linter.unusedVariables false
open Go.RowKit

def pick (n many : Int) : Int := (if n < 0 then -(n + 1) else n) % many
theorem pick_range (n many : Int) (h : 0 < many) : 0 ≤ pick n many ∧ pick n many < many := ⟨Int.emod_nonneg _ (by omega), Int.emod_lt_of_pos _ h⟩
set_option maxRecDepth 100000 in
theorem picked_any (n many : Int) (w : World) (hn : I64 n) (h0 : 0 < many) (h1 : many ≤ 140737488355328) :
    Calls Tryd.prog 8 #[.int .i64 n, .int .i64 many] w fun e w' => e = .returned (.int .i64 (pick n many)) ∧ w' = w := by
  have hne : (many == 0) = false := beq_false_of_ne (by omega)
  have hne2 : ¬ many = 0 := by omega
  have hnm : ¬ many = -1 := by omega
  have hr := pick_range n many h0
  unfold I64 at hn
  by_cases h : n < 0
  · have hp : pick n many = (-(n + 1)) % many := by unfold pick; rw [if_pos h]
    have t1 : decide (n < 0) = true := decide_eq_true h
    obtain ⟨m, hm⟩ : ∃ m, m = -(n + 1) := ⟨_, rfl⟩
    have y1 : IntKind.i64.wrap (n + 1) = -m := by rw [IntKind.wrap_i64]; omega
    have y2 : IntKind.i64.wrap (- -m) = m := by rw [IntKind.wrap_i64]; omega
    have y2' : IntKind.i64.wrap m = m := by rw [IntKind.wrap_i64]; omega
    have hm0 : 0 ≤ m := by omega
    have y3 : IntKind.i64.wrap (m % many) = m % many := by rw [IntKind.wrap_i64]; rw [hp, ← hm] at hr; omega
    have y4 : Int.tmod m many = m % many := Int.tmod_eq_emod_of_nonneg hm0
    rw [hp, ← hm]
    rw [hp, ← hm] at hr
    have y5 : n + 1 = -m := by omega
    have hb1 : m ≤ 9223372036854775807 := by omega
    have hb2 : -9223372036854775808 ≤ n + 1 := by omega
    have hb3 : n + 1 ≤ 9223372036854775807 := by omega
    clear hm hp h
    go_enter Tryd.func8, Tryd.ntmps8
    go_wp2_with fail
    go_ret
    exact ⟨by first | rfl | (rw [y4, y3]) | (congr 3; omega), rfl⟩
  · have hp : pick n many = n % many := by unfold pick; rw [if_neg h]
    have t1 : decide (n < 0) = false := decide_eq_false h
    have hn0 : 0 ≤ n := by omega
    have y3 : IntKind.i64.wrap (n % many) = n % many := by rw [IntKind.wrap_i64]; rw [hp] at hr; omega
    have y4 : Int.tmod n many = n % many := Int.tmod_eq_emod_of_nonneg hn0
    rw [hp]
    rw [hp] at hr
    go_enter Tryd.func8, Tryd.ntmps8
    go_wp2_with fail
    go_ret
    exact ⟨by first | rfl | (rw [y4, y3]), rfl⟩
end Go.Proofs.YtgjijcgkmofaaaaDoor

/-
  Regions of which the last operation is forced to be last, and one of whose other operations may write into a row of the call's own: each operation walked once. Conditions: none.
-/
namespace Go.Proofs.YtgjijcgkmofaaaaDoor
set_option linter.unusedSimpArgs false
set_option linter.unusedVariables false
open Go.RowKit

theorem Ext.grownBy {w w' : World} (h : Ext w w') (row : Option Nat) : w.grownBy w' row := ⟨h.below.os, h.below.tape, h.below.output, h.below.size, fun b hb _ => h.below.block b hb⟩
theorem World.grownBy.trans {a b c : World} {row : Option Nat} (h : a.grownBy b row) (k : b.grownBy c row) : a.grownBy c row :=
  ⟨k.os.trans h.os, k.tape.trans h.tape, k.output.trans h.output, Nat.le_trans h.size k.size, fun g hg hne => (k.block g (Nat.lt_of_lt_of_le hg h.size) hne).trans (h.block g hg hne)⟩
/-- What an operation may do: number k writes into the row, all others only make. -/
def RA (k : Nat) (row : Option Nat) (i : Nat) (w w' : World) : Prop := cond (Nat.beq i k) (w.grownBy w' row) (Ext w w')
theorem RA.grown {k : Nat} {row : Option Nat} {i : Nat} {w w' : World} (h : RA k row i w w') : w.grownBy w' row := by
  unfold RA at h
  cases hb : Nat.beq i k <;> rw [hb] at h
  · exact h.grownBy row
  · exact h
theorem RA.ext {k : Nat} {row : Option Nat} {i : Nat} {w w' : World} (h : RA k row i w w') (hi : i ≠ k) : Ext w w' := by
  unfold RA at h
  cases hb : Nat.beq i k <;> rw [hb] at h
  · exact h
  · exact absurd (Nat.eq_of_beq_eq_true hb) hi
/-- What stands when number i comes up: ahead of number k all has only grown. -/
def RB (k : Nat) (row : Option Nat) (i : Nat) (w w' : World) : Prop := cond (Nat.beq i k) (Ext w w') (w.grownBy w' row)
theorem RB.of {k : Nat} {row : Option Nat} {i : Nat} {w w' : World} (h1 : w.grownBy w' row) (h2 : i = k → Ext w w') : RB k row i w w' := by
  unfold RB
  cases hb : Nat.beq i k
  · exact h1
  · exact h2 (Nat.eq_of_beq_eq_true hb)
section
variable {P : Program} {Q : Exit → Act → World → Prop}
/-- One operation's walk. -/
def StA (k : Nat) (row : Option Nat) (P : Program) (Q : Exit → Act → World → Prop) (L : List Oper) (a0 : Act) (F : (Nat → Value) → Act) (V : List (Value → World → Prop)) (w0 : World) (i : Nat) (x : Oper) : Prop :=
  ∀ vals w, RB k row i w0 w → (∀ j, (waits x).contains j = true → At V j (vals j) w) → (∀ j, (waitsAt L j).contains i = true → vals j = oldAt a0 L j) →
    ∀ K : Act → World → Prop, (∀ a' v w', a' = (F vals).put x.dst v → At V i v w' → RA k row i w w' → K a' w') → x.wp P (F vals) w K Q
theorem wpAny_vals_goA {k0 : Nat} {row : Option Nat} {L : List Oper} {a0 : Act} {w0 : World} {F : (Nat → Value) → Act} (hF : ∀ vals, putAll a0 vals 0 L = F vals) (V : List (Value → World → Prop)) (hok : valsOk L = true)
    (hV : ∀ j p, V[j]? = some p → ∀ v w w', p v w → (if j = k0 then Ext w w' else w.grownBy w' row) → p v w') (hs : Steps (StA k0 row P Q L a0 F V w0) 0 L)
    (done : ∀ vals w, w0.grownBy w row → (∀ i, i < L.length → At V i (vals i) w) → Q .normal (F vals) w) :
    ∀ (fuel : Nat) (listed : Array Bool) (vals : Nat → Value) (w : World), listed.size = L.length → left_ listed ≤ fuel → w0.grownBy w row → (listed.getD k0 true = false → Ext w0 w) →
      (∀ i, i < L.length → listed.getD i true = true → At V i (vals i) w ∧ ∀ j, (waitsAt L i).contains j = true → listed.getD j false = true) →
      (∀ i, listed.getD i true = false → vals i = oldAt a0 L i) →
      wpAny P .any L.toArray Q fuel listed (F vals) w := by
  unfold valsOk at hok
  rw [Bool.and_eq_true, Bool.and_eq_true] at hok
  obtain ⟨⟨hap, hgu⟩, hord⟩ := hok
  have hAt : ∀ i m v w w', i ≠ m → At V i v w → RA k0 row m w w' → At V i v w' := by
    intro i m v w w' him h e
    unfold At at *
    cases hp : V[i]? with
    | none => rw [hp] at h; exact h
    | some p =>
      rw [hp] at h
      refine hV i p hp _ _ _ h ?_
      by_cases hi : i = k0
      · rw [if_pos hi]; exact e.ext (by omega)
      · rw [if_neg hi]; exact e.grown
  have hall : ∀ (listed : Array Bool), listed.size = L.length → Region.ready .any L.toArray listed = [] → ∀ i, i < L.length → listed.getD i true = true := by
    intro listed hsz hr i
    induction i using Nat.strongRecOn with
    | ind i ih =>
      intro hi
      cases hb : listed.getD i true with
      | true => rfl
      | false =>
        have : i ∈ Region.ready .any L.toArray listed := by
          rw [ready_mem]
          refine ⟨by simpa using hi, hb, L[i], by simp [hi], fun e he hbd => ?_⟩
          have hlt : e.on < i := by
            have h1 := List.all_eq_true.1 hord i (List.mem_range.2 hi)
            have h2 := List.all_eq_true.1 h1 e.on (by
              unfold waitsAt
              rw [List.getElem?_eq_getElem hi]
              exact List.contains_iff_mem.1 (mem_waits.2 ⟨e, he, hbd, rfl⟩))
            simpa using h2
          have := ih e.on hlt (by omega)
          have hin : e.on < listed.size := by omega
          simpa [Array.getD_eq_getD_getElem?, hin] using this
        rw [hr] at this
        cases this
  intro fuel
  induction fuel with
  | zero =>
    intro listed vals w hsz hl e hx0 hv ho
    have hno : Region.ready .any L.toArray listed = [] := by
      apply List.eq_nil_iff_forall_not_mem.2
      intro i hi
      obtain ⟨h1, h2, _⟩ := ready_mem.1 hi
      have := left_set (b := listed) (i := i) (by simpa [hsz] using h1) h2
      omega
    exact ⟨hno, done vals w e fun i hi => (hv i hi (hall listed hsz hno i hi)).1⟩
  | succ fuel ih =>
    intro listed vals w hsz hl e hx0 hv ho
    refine ⟨fun hno => done vals w e fun i hi => (hv i hi (hall listed hsz hno i hi)).1, fun i hi => ?_⟩
    obtain ⟨h1, h2, x, hx, h3⟩ := ready_mem.1 hi
    have hil : i < L.length := by simpa using h1
    have hxL : L[i]? = some x := by simpa using hx
    have hg : x.guard = none := by
      have := List.all_eq_true.1 hgu x (List.mem_of_getElem? hxL)
      simpa using this
    unfold wpOp
    rw [hx]
    simp only
    rw [if_pos (by simp [Region.wanted, hg])]
    left
    have hst := hs.at hxL
    rw [Nat.zero_add] at hst
    have hwait : ∀ j, (waits x).contains j = true → listed.getD j false = true := by
      intro j hj
      obtain ⟨ed, he1, he2, rfl⟩ := mem_waits.1 hj
      exact h3 ed he1 he2
    refine hst vals w (RB.of e (fun hik => hx0 (hik ▸ h2))) (fun j hj => ?_) (fun j hj => ?_) _ ?_
    · have hlj := hwait j hj
      have hjs : j < L.length := by
        by_cases h : j < listed.size
        · omega
        · simp [Array.getD_eq_getD_getElem?, h] at hlj
      refine (hv j hjs ?_).1
      have hin : j < listed.size := by omega
      simpa [Array.getD_eq_getD_getElem?, hin] using hlj
    · refine ho j ?_
      cases hb : listed.getD j true with
      | false => rfl
      | true =>
        by_cases hjl : j < L.length
        · have := (hv j hjl hb).2 i hj
          have hin : i < listed.size := by omega
          simp [Array.getD_eq_getD_getElem?, hin] at this h2
          rw [this] at h2
          cases h2
        · unfold waitsAt at hj
          rw [List.getElem?_eq_none (by omega)] at hj
          simp at hj
    · intro a' v w' ha' hv' e'
      subst ha'
      have hput : (F vals).put x.dst v = F (upd vals i v) := by
        rw [← hF, ← hF, ← putAll_upd a0 vals v L 0 i x hap hxL, Nat.zero_add]
      rw [hput]
      refine ih _ _ _ (by simpa using hsz) (by have := left_set (b := listed) (i := i) (by omega) h2; omega) (e.trans e'.grown) (fun hk => by
        by_cases hik : i = k0
        · subst hik
          rw [getD_set_same (by omega)] at hk
          cases hk
        · rw [getD_set_other hik] at hk
          exact (hx0 hk).trans (e'.ext hik)) (fun k hk hkl => ?_) (fun k hk => ?_)
      · by_cases hki : k = i
        · subst hki
          rw [upd_same]
          refine ⟨hv', fun j hj => ?_⟩
          have hj' : (waits x).contains j = true := by
            unfold waitsAt at hj
            rw [hxL] at hj
            exact hj
          have hlj := hwait j hj'
          by_cases hjk : k = j
          · subst hjk; exact getD_set_same (by omega) _
          · rw [getD_set_other hjk]; exact hlj
        · rw [upd_other _ _ hki]
          rw [getD_set_other (Ne.symm hki)] at hkl
          obtain ⟨g1, g2⟩ := hv k hk hkl
          refine ⟨hAt _ i _ _ _ hki g1 e', fun j hj => ?_⟩
          have hlj := g2 j hj
          by_cases hji : i = j
          · subst hji; exact getD_set_same (by omega) _
          · rw [getD_set_other hji]; exact hlj
      · by_cases hki : k = i
        · subst hki
          rw [getD_set_same (by omega)] at hk
          cases hk
        · rw [upd_other _ _ hki]
          rw [getD_set_other (Ne.symm hki)] at hk
          exact ho k hk

/-- THE REGION: each operation is walked once, the last one last; number k may write into the row. -/
theorem wp_region_valsA (k : Nat) (row : Option Nat) {id n : Nat} {L r : List Oper} {o : Oper} {a0 : Act} {w : World} {F : (Nat → Value) → Act} (hF : ∀ vals, putAll a0 vals 0 L.dropLast = F vals) (V : List (Value → World → Prop)) (hm : P.follows .mixedOrders = true)
    (hL : L.reverse = o :: r) (hf : lastForced L.dropLast o = true) (hn : L.length = n + 1) (hok : valsOk L.dropLast = true)
    (hV : ∀ j p, V[j]? = some p → ∀ v w w', p v w → (if j = k then Ext w w' else w.grownBy w' row) → p v w') (hs : Steps (StA k row P (LastQ P o Q) L.dropLast a0 F V w.drew) 0 L.dropLast)
    (done : ∀ vals w', w.drew.grownBy w' row → (∀ i, i < L.dropLast.length → At V i (vals i) w') → ∀ K : Act → World → Prop, (∀ a' w'', Q .normal a' w'' → K a' w'') → o.wp P (F vals) w' K Q) : (Code.region id L.toArray true).wp P Q a0 w := by
  have hn2 : L.dropLast.length = n := by rw [List.length_dropLast, hn]; rfl
  refine wp_region_any hm (wpAny_dropLast (getLast_of_reverse hL) hf hn ?_)
  have h0 : F (oldAt a0 L.dropLast) = a0 := by
    rw [← hF]
    refine putAll_old _ _ _ _ (fun i x d h1 h2 => ?_)
    rw [Nat.zero_add]
    unfold oldAt
    rw [h1]
    simp only
    rw [h2]
  have := wpAny_vals_goA (P := P) (Q := LastQ P o Q) hF V hok hV hs (fun vals w' hr ha => done vals w' hr ha _ fun _ _ h => h) n (Array.replicate n false) (oldAt a0 L.dropLast) w.drew (by simp [hn2]) (by simp [left_]) (World.grownBy.refl _ _) (fun _ => Ext.refl _)
    (fun i hi h => by
      exfalso
      rw [hn2] at hi
      simp [Array.getD_eq_getD_getElem?, Array.getElem?_replicate, hi] at h)
    (fun i _ => rfl)
  rw [h0] at this
  exact this
end
end Go.Proofs.YtgjijcgkmofaaaaDoor

/-
  The laws' arguments, opened by their types: lists of raw numbers. Conditions: none.
-/
namespace Go.Proofs.YtgjijcgkmofaaaaDoor
set_option linter.unusedSimpArgs false
set_option linter.unusedVariables false
open Go.RowKit Go.ChangeShapes Go.WideShapes Go.ChangeAt Go.Deep
section
variable {H : Type} {enc : TypeId × Value → H} {w : World} {spare : Nat → Bool}

theorem opensRaw : Opens H enc Tryd.prog w spare 54 RRaw := by
  intro fuel cs x h hz
  obtain ⟨hlen, hf⟩ := opens_fields Tryd.underlying54 h hz
  rw [show Tryd.prog.cellsOf 54 = 4 by kernel_rfl] at hlen
  obtain ⟨n0, y0, t0', z0'⟩ := hf 0 _ rfl
  have t0 : DataW.trod enc Tryd.prog w 0 spare true n0 3 ((cs.drop 0).take (Tryd.prog.cellsOf 3)) = some y0 := t0'
  have z0 : ∀ k ∈ y0.1.weights Tryd.prog 3, k ≤ reachBytes := z0'
  clear t0' z0'
  rw [show Tryd.prog.cellsOf 3 = 1 by kernel_rfl] at t0
  obtain ⟨n1, y1, t1', z1'⟩ := hf 1 _ rfl
  have t1 : DataW.trod enc Tryd.prog w 0 spare true n1 3 ((cs.drop 1).take (Tryd.prog.cellsOf 3)) = some y1 := t1'
  have z1 : ∀ k ∈ y1.1.weights Tryd.prog 3, k ≤ reachBytes := z1'
  clear t1' z1'
  rw [show Tryd.prog.cellsOf 3 = 1 by kernel_rfl] at t1
  obtain ⟨n2, y2, t2', z2'⟩ := hf 2 _ rfl
  have t2 : DataW.trod enc Tryd.prog w 0 spare true n2 3 ((cs.drop 2).take (Tryd.prog.cellsOf 3)) = some y2 := t2'
  have z2 : ∀ k ∈ y2.1.weights Tryd.prog 3, k ≤ reachBytes := z2'
  clear t2' z2'
  rw [show Tryd.prog.cellsOf 3 = 1 by kernel_rfl] at t2
  obtain ⟨n3, y3, t3', z3'⟩ := hf 3 _ rfl
  have t3 : DataW.trod enc Tryd.prog w 0 spare true n3 3 ((cs.drop 3).take (Tryd.prog.cellsOf 3)) = some y3 := t3'
  have z3 : ∀ k ∈ y3.1.weights Tryd.prog 3, k ≤ reachBytes := z3'
  clear t3' z3'
  rw [show Tryd.prog.cellsOf 3 = 1 by kernel_rfl] at t3
  obtain ⟨u0, u1, u2, u3, rfl⟩ := len4 hlen
  clear hf h hz
  obtain ⟨a0, r0⟩ := (opens_int Tryd.underlying3) n0 _ y0 t0 z0
  obtain ⟨a1, r1⟩ := (opens_int Tryd.underlying3) n1 _ y1 t1 z1
  obtain ⟨a2, r2⟩ := (opens_int Tryd.underlying3) n2 _ y2 t2 z2
  obtain ⟨a3, r3⟩ := (opens_int Tryd.underlying3) n3 _ y3 t3 z3
  obtain ⟨e0, r0⟩ := r0
  obtain ⟨e1, r1⟩ := r1
  obtain ⟨e2, r2⟩ := r2
  obtain ⟨e3, r3⟩ := r3
  refine ⟨⟨a0, a1, a2, a3⟩, ?_, r0, r1, r2, r3⟩
  have e0' : u0 = .int .i64 a0 := by simpa using e0
  have e1' : u1 = .int .i64 a1 := by simpa using e1
  have e2' : u2 = .int .i64 a2 := by simpa using e2
  have e3' : u3 = .int .i64 a3 := by simpa using e3
  rw [e0', e1', e2', e3']

theorem opensRaws : Opens H enc Tryd.prog w spare 22 (fun w cs (l : List Raw4) => ∃ v, cs = [v] ∧ SlR 4 32 RRaw w v l) :=
  opens_slice Tryd.underlying22 (by kernel_rfl) (by decide) (by kernel_rfl) opensRaw

end
end Go.Proofs.YtgjijcgkmofaaaaDoor

/-
  Arrays of which every copy is as it must be, in plain Lean: what writing, losing and turning leave of that, and what is read then. Conditions: the numbers are within the array.
-/
namespace Go.Proofs.YtgjijcgkmofaaaaDoor
set_option linter.unusedSimpArgs false
set_option linter.unusedVariables false
open Go.RowKit

theorem enc_pad (no : Int) {s : ByteArray} (h : s.size ≤ 24) : encodeS no (padS s) = encodeS no s := by
  have hp := padS_size h
  have e : rawS no (padS s) = rawS no s := by
    unfold rawS
    rw [hp, Nat.sub_self, List.replicate_zero, List.append_nil]
    unfold padS
    rw [lst_bs]
  unfold encodeS
  rw [hp, e, if_neg (show ¬ 24 < 24 by decide), if_neg (show ¬ 24 < s.size by omega)]
theorem xorS_comm (s t : ByteArray) : xorS s t = xorS t s := by
  unfold xorS
  congr 1
  rw [List.zipWith_comm]
  congr 1
  funext a b
  exact UInt8.xor_comm _ _
theorem xor_back (l k : List UInt8) (h : l.length = k.length) : List.zipWith (fun a b => a ^^^ b) (List.zipWith (fun a b => a ^^^ b) l k) k = l := by
  induction l generalizing k with
  | nil => rfl
  | cons a l ih =>
    cases k with
    | nil => simp at h
    | cons b k =>
      simp only [List.zipWith_cons_cons]
      rw [ih k (by simpa using h)]
      congr 1
      rw [UInt8.xor_assoc, UInt8.xor_self, UInt8.xor_zero]
theorem xorS_back {s t : ByteArray} (h : s.size = t.size) : xorS (xorS s t) t = s := by
  unfold xorS
  rw [lst_bs, xor_back _ _ (by rw [length_lst, length_lst]; exact h), bs_lst]
/-- A sector that is as it was written. -/
def Sound (d : Dev) (n : Nat) (no : Int) (s : ByteArray) : Prop := d.sec.getD n .empty = (encodeS no s).1 ∧ d.lost.getD n false = false
theorem Sound.read {d : Dev} {n : Nat} {no : Int} {s : ByteArray} (h : Sound d n no s) (ht : touchCode d n = 0) (h0 : 0 ≤ no) (h1 : no ≤ 65535) (hs : s.size = 24) : readS d n no = (s, 0) := by
  rw [read_eq no ht, show ((n : Int)).toNat = n from rfl, h.2, if_neg (by decide), h.1, decode_encode _ _ _ h0 h1 (by omega), if_pos rfl, padS_full hs]
theorem Sound.write {d : Dev} {n : Nat} {no : Int} {s : ByteArray} (ht : touchCode d n = 0) (h0 : 0 ≤ no) (h1 : no ≤ 65535) (hs : s.size ≤ 24) : Sound (writeS d n no s).1 n no (padS s) := by
  obtain ⟨hm, hn, hl⟩ := touch_zero ht
  obtain ⟨m1, m2, m3, m4⟩ := devMay_len hm
  rw [writeS_ok ht h0 h1 hs]
  refine ⟨?_, ?_⟩
  · rw [enc_pad no hs]
    exact getD_set_self _ _ _ _ (by simpa using hl)
  · exact getD_set_self _ _ _ _ (by rw [m3]; simpa using hl)
theorem Sound.write_other {d : Dev} {n k : Nat} {no no' : Int} {s t : ByteArray} (h : Sound d k no' t) (ht : touchCode d n = 0) (h0 : 0 ≤ no) (h1 : no ≤ 65535) (hs : s.size ≤ 24) (hne : n ≠ k) : Sound (writeS d n no s).1 k no' t := by
  rw [writeS_ok ht h0 h1 hs]
  refine ⟨?_, ?_⟩
  · exact (getD_set_ne _ _ _ _ _ (by simpa using hne)).trans h.1
  · exact (getD_set_ne _ _ _ _ _ (by simpa using hne)).trans h.2
/-- The payload of a sector. -/
def pl (all : List ByteArray) (n : Nat) : ByteArray := all.getD n .empty
/-- The parity of two sectors. -/
def pp (all : List ByteArray) (n : Nat) : ByteArray := xorS (pl all (2 * n)) (pl all (2 * n + 1))
/-- An array of which every copy is as it must be. -/
structure Full (a : List Dev) (m : Nat) (all : List ByteArray) : Prop where
  good : Good a m
  len : all.length = m
  size : ∀ n : Nat, n < m → (pl all n).size = 24
  s0 : ∀ n : Nat, n < m → Sound (dv a 0) n n (pl all n)
  s1 : ∀ n : Nat, n < m → Sound (dv a 1) n n (pl all n)
  s2 : ∀ n : Nat, n < m / 2 → Sound (dv a 2) n (512 + n) (pp all n)
theorem pl_set_self {all : List ByteArray} {n : Nat} (h : n < all.length) (s : ByteArray) : pl (all.set n s) n = s := getD_set_self _ _ _ _ h
theorem pl_set_ne (all : List ByteArray) {n k : Nat} (h : n ≠ k) (s : ByteArray) : pl (all.set n s) k = pl all k := getD_set_ne _ _ _ _ _ h
theorem pp_size {all : List ByteArray} {m n : Nat} (h : ∀ n : Nat, n < m → (pl all n).size = 24) (hn : n < m / 2) : (pp all n).size = 24 := by
  unfold pp
  rw [xorS_size (by rw [h _ (by omega), h _ (by omega)]), h _ (by omega)]
theorem pp_set_other (all : List ByteArray) {n k : Nat} (h : n / 2 ≠ k) (s : ByteArray) : pp (all.set n s) k = pp all k := by
  unfold pp
  rw [pl_set_ne _ (by omega), pl_set_ne _ (by omega)]
/-- The other one of the two, as a Nat. -/
def pt (n : Nat) : Nat := if n % 2 = 0 then n + 1 else n - 1
theorem partner_pt (n : Nat) : partner n = (pt n : Int) := by
  unfold partner pt
  by_cases h : n % 2 = 0
  · rw [if_pos h, if_pos (by omega)]; omega
  · rw [if_neg h, if_neg (by omega)]; omega
theorem pt_facts (n : Nat) : pt n ≠ n ∧ pt n / 2 = n / 2 ∧ pt (pt n) = n := by
  unfold pt
  by_cases h : n % 2 = 0
  · rw [if_pos h, if_neg (by omega)]; omega
  · rw [if_neg h, if_pos (by omega)]; omega
theorem pt_lt {n m : Nat} (h : n < m) (h2 : m % 2 = 0) : pt n < m := by
  unfold pt
  split <;> omega
theorem pp_eq (all : List ByteArray) (n : Nat) : pp all (n / 2) = xorS (pl all n) (pl all (pt n)) := by
  unfold pp pt
  by_cases h : n % 2 = 0
  · rw [if_pos h, show 2 * (n / 2) = n by omega]
  · rw [if_neg h, show 2 * (n / 2) = n - 1 by omega, show n - 1 + 1 = n by omega, xorS_comm]
/-- An array of which no copy tells anything wrong. -/
structure Part (a : List Dev) (m : Nat) (all : List ByteArray) : Prop where
  good : Good a m
  len : all.length = m
  size : ∀ n : Nat, n < m → (pl all n).size = 24
  r0 : ∀ n : Nat, n < m → (readS (dv a 0) n n).2 = 0 → (readS (dv a 0) n n).1 = pl all n
  r1 : ∀ n : Nat, n < m → (readS (dv a 1) n n).2 = 0 → (readS (dv a 1) n n).1 = pl all n
  r2 : ∀ n : Nat, n < m / 2 → (readS (dv a 2) n (512 + n : Int)).2 = 0 → (readS (dv a 2) n (512 + n : Int)).1 = pp all n
theorem Good.touch2 {a : List Dev} {m : Nat} (h : Good a m) {n : Nat} (h1 : n < m / 2) : touchCode (dv a 2) n = 0 := touch_iff.2 ⟨h.m2, by omega, by rw [h.l2]; omega⟩
theorem Full.reads {a : List Dev} {m : Nat} {all : List ByteArray} (h : Full a m all) (h64 : m ≤ 64) :
    (∀ n : Nat, n < m → readS (dv a 0) n n = (pl all n, 0)) ∧ (∀ n : Nat, n < m → readS (dv a 1) n n = (pl all n, 0)) ∧ ∀ n : Nat, n < m / 2 → readS (dv a 2) n (512 + n : Int) = (pp all n, 0) :=
  ⟨fun n hn => (h.s0 n hn).read (h.good.touch (by omega) (by omega)).1 (by omega) (by omega) (h.size n hn), fun n hn => (h.s1 n hn).read (h.good.touch (by omega) (by omega)).2 (by omega) (by omega) (h.size n hn),
    fun n hn => (h.s2 n hn).read (h.good.touch2 hn) (by omega) (by omega) (pp_size h.size hn)⟩
theorem Full.part {a : List Dev} {m : Nat} {all : List ByteArray} (h : Full a m all) (h64 : m ≤ 64) : Part a m all := by
  obtain ⟨r0, r1, r2⟩ := h.reads h64
  exact ⟨h.good, h.len, h.size, fun n hn _ => by rw [r0 n hn], fun n hn _ => by rw [r1 n hn], fun n hn _ => by rw [r2 n hn]⟩
theorem Good.arr {a : List Dev} {m : Nat} (h : Good a m) (h16 : 16 ≤ m) (h2 : m % 2 = 0) {n : Nat} (hn : n < m) : arrTouch a n = 0 := arrTouch_zero.2 ⟨h.may h16 h2, by omega, by rw [h.l0]; omega⟩
theorem Part.mirror {a : List Dev} {m : Nat} {all : List ByteArray} (h : Part a m all) {n : Nat} (hn : n < m) :
    ((readS (dv a 0) n n).2 = 0 ∧ mirrorS a n = (pl all n, 1)) ∨ ((readS (dv a 0) n n).2 ≠ 0 ∧ (readS (dv a 1) n n).2 = 0 ∧ mirrorS a n = (pl all n, 2)) ∨ ((readS (dv a 0) n n).2 ≠ 0 ∧ (readS (dv a 1) n n).2 ≠ 0 ∧ mirrorS a n = (.empty, 0)) := by
  unfold mirrorS
  by_cases h0 : (readS (dv a 0) n n).2 = 0
  · left; rw [if_pos h0, h.r0 n hn h0]; exact ⟨h0, rfl⟩
  · right
    rw [if_neg h0]
    by_cases h1 : (readS (dv a 1) n n).2 = 0
    · left; rw [if_pos h1, h.r1 n hn h1]; exact ⟨h0, h1, rfl⟩
    · right; rw [if_neg h1]; exact ⟨h0, h1, rfl⟩
/-- What reading a sector answers. -/
theorem Part.read {a : List Dev} {m : Nat} {all : List ByteArray} (h : Part a m all) (h16 : 16 ≤ m) (h64 : m ≤ 64) (h2 : m % 2 = 0) {n : Nat} (hn : n < m) :
    ((readS (dv a 0) n n).2 = 0 ∧ arrReadS a n = (pl all n, 1, 0)) ∨ ((readS (dv a 0) n n).2 ≠ 0 ∧ (readS (dv a 1) n n).2 = 0 ∧ arrReadS a n = (pl all n, 2, 0)) ∨
    ((readS (dv a 0) n n).2 ≠ 0 ∧ (readS (dv a 1) n n).2 ≠ 0 ∧ (((mirrorS a (pt n : Int)).2 = 0 ∨ (readS (dv a 2) (n / 2 : Nat) (512 + (n / 2 : Nat) : Int)).2 ≠ 0) ∧ arrReadS a n = (.empty, 0, 11) ∨
      ((mirrorS a (pt n : Int)).2 ≠ 0 ∧ (readS (dv a 2) (n / 2 : Nat) (512 + (n / 2 : Nat) : Int)).2 = 0) ∧ arrReadS a n = (pl all n, 3, 0))) := by
  have ht := h.good.arr h16 h2 hn
  have hq : ((n : Int) / 2) = ((n / 2 : Nat) : Int) := by omega
  unfold arrReadS
  rw [if_neg (by simpa using ht)]
  rcases h.mirror hn with ⟨a0, e⟩ | ⟨a0, a1, e⟩ | ⟨a0, a1, e⟩
  · left; rw [e, if_pos (by show (1 : Int) ≠ 0; decide)]; exact ⟨a0, rfl⟩
  · right; left; rw [e, if_pos (by show (2 : Int) ≠ 0; decide)]; exact ⟨a0, a1, rfl⟩
  · right; right
    refine ⟨a0, a1, ?_⟩
    rw [e, if_neg (by show ¬ (0 : Int) ≠ 0; decide), partner_pt]
    unfold parS
    rw [hq]
    by_cases hc : (mirrorS a (pt n : Int)).2 = 0 ∨ (readS (dv a 2) ((n / 2 : Nat) : Int) (512 + ((n / 2 : Nat) : Int))).2 ≠ 0
    · left; rw [if_pos hc]; exact ⟨hc, rfl⟩
    · right
      have hc' : (mirrorS a (pt n : Int)).2 ≠ 0 ∧ (readS (dv a 2) ((n / 2 : Nat) : Int) (512 + ((n / 2 : Nat) : Int))).2 = 0 := by
        constructor
        · exact fun h => hc (.inl h)
        · exact Decidable.byContradiction fun h => hc (.inr h)
      rw [if_neg hc]
      refine ⟨hc', ?_⟩
      have hp := pt_lt hn h2
      have hpn := h.size n hn
      have hpp := h.size (pt n) hp
      have e2 : (mirrorS a (pt n : Int)).1 = pl all (pt n) := by
        rcases h.mirror hp with ⟨_, e⟩ | ⟨_, _, e⟩ | ⟨_, _, e⟩
        · rw [e]
        · rw [e]
        · rw [e] at hc'; exact absurd rfl hc'.1
      rw [e2, h.r2 (n / 2) (by omega) hc'.2, pp_eq, xorS_back (by rw [hpn, hpp])]
theorem Full.read {a : List Dev} {m : Nat} {all : List ByteArray} (h : Full a m all) (h16 : 16 ≤ m) (h64 : m ≤ 64) (h2 : m % 2 = 0) {n : Nat} (hn : n < m) : arrReadS a n = (pl all n, 1, 0) := by
  rcases (h.part h64).read h16 h64 h2 hn with ⟨_, e⟩ | ⟨e, _⟩ | ⟨e, _⟩
  · exact e
  · rw [(h.reads h64).1 n hn] at e; exact absurd rfl e
  · rw [(h.reads h64).1 n hn] at e; exact absurd rfl e
/-- A write into such an array. -/
theorem Full.write {a : List Dev} {m : Nat} {all : List ByteArray} (h : Full a m all) (h16 : 16 ≤ m) (h64 : m ≤ 64) (h2 : m % 2 = 0) {n : Nat} (hn : n < m) {s : ByteArray} (hs : s.size ≤ 24) :
    ∃ b, arrWriteS a n s = (b, 0) ∧ Full b m (all.set n (padS s)) := by
  obtain ⟨e1, hg⟩ := write_step h.good h16 h64 h2 (n := n) (by omega) (by omega) hs
  refine ⟨_, e1, ?_⟩
  have ht := h.good.arr h16 h2 hn
  have hp := pt_lt hn h2
  have hpf := pt_facts n
  have hr := h.read h16 h64 h2 hp
  have hpp := h.size (pt n) hp
  have hq : ((n : Int) / 2) = ((n / 2 : Nat) : Int) := by omega
  have hsv : savedS a n = a := by
    unfold savedS
    rw [partner_pt, hr, if_neg (by rintro ⟨_, h⟩; exact absurd (show (1 : Int) = 3 from h) (by decide))]
  have hw : arrWrite3 a n s = (bothS a n s).set 2 (writeS (dv a 2) ((n / 2 : Nat) : Int) (512 + ((n / 2 : Nat) : Int)) (xorS (padS s) (pl all (pt n)))).1 := by
    rw [written_eq ht hs]
    unfold writtenS
    rw [hsv, partner_pt, hr, if_pos rfl, (bothS_dv h.good.len n s).2.2.1, hq]
  obtain ⟨b0, b1, b2, b3⟩ := bothS_dv h.good.len (n : Int) s
  obtain ⟨t0, t1⟩ := h.good.touch (n := n) (by omega) (by omega)
  have t2 := h.good.touch2 (n := n / 2) (by omega)
  have hx : (xorS (padS s) (pl all (pt n))).size = 24 := by
    have := padS_size hs
    rw [xorS_size (by omega), this]
  have e2 : dv (arrWrite3 a n s) 2 = (writeS (dv a 2) ((n / 2 : Nat) : Int) (512 + ((n / 2 : Nat) : Int)) (xorS (padS s) (pl all (pt n)))).1 := by
    rw [hw, dv_set_self (by omega)]
  have e0 : dv (arrWrite3 a n s) 0 = (writeS (dv a 0) n n s).1 := by rw [hw, dv_set_ne _ (by decide), b0]
  have e1' : dv (arrWrite3 a n s) 1 = (writeS (dv a 1) n n s).1 := by rw [hw, dv_set_ne _ (by decide), b1]
  have hln := h.len
  refine ⟨hg, by rw [List.length_set]; exact h.len, fun k hk => ?_, fun k hk => ?_, fun k hk => ?_, fun k hk => ?_⟩
  · by_cases he : n = k
    · subst he; rw [pl_set_self (by omega)]; exact padS_size hs
    · rw [pl_set_ne _ he]; exact h.size k hk
  · rw [e0]
    by_cases he : n = k
    · subst he; rw [pl_set_self (by omega)]; exact Sound.write t0 (by omega) (by omega) hs
    · rw [pl_set_ne _ he]; exact (h.s0 k hk).write_other t0 (by omega) (by omega) hs he
  · rw [e1']
    by_cases he : n = k
    · subst he; rw [pl_set_self (by omega)]; exact Sound.write t1 (by omega) (by omega) hs
    · rw [pl_set_ne _ he]; exact (h.s1 k hk).write_other t1 (by omega) (by omega) hs he
  · rw [e2]
    by_cases he : n / 2 = k
    · subst he
      have := Sound.write (s := xorS (padS s) (pl all (pt n))) (no := 512 + ((n / 2 : Nat) : Int)) t2 (by omega) (by omega) (by omega)
      rw [padS_full hx] at this
      rw [pp_eq, pl_set_self (by omega), pl_set_ne _ (fun h => hpf.1 h.symm)]
      exact this
    · rw [pp_set_other _ he]; exact (h.s2 k hk).write_other t2 (by omega) (by omega) (by omega) he
/-- A new array. -/
theorem full_new {m : Nat} (h16 : 16 ≤ m) (h64 : m ≤ 64) (h2 : m % 2 = 0) : Full [freshDev m 0, freshDev m 0, freshDev (m / 2) 512] m (List.replicate m (bs (List.replicate 24 0))) := by
  have hpl : ∀ n : Nat, n < m → pl (List.replicate m (bs (List.replicate 24 0))) n = bs (List.replicate 24 0) := by
    intro n hn
    unfold pl
    rw [List.getD_eq_getElem?_getD, List.getElem?_replicate, if_pos hn]; rfl
  have hpe : padS .empty = bs (List.replicate 24 0) := rfl
  have hxe : xorS (bs (List.replicate 24 0)) (bs (List.replicate 24 0)) = bs (List.replicate 24 0) := by decide
  have hsnd : ∀ (mm n : Nat) (f : Int), n < mm → Sound (freshDev mm f) n (f + n) (bs (List.replicate 24 0)) := by
    intro mm n f hn
    refine ⟨?_, fresh_lost _ _ _⟩
    rw [fresh_sec mm f n hn, ← hpe, enc_pad _ (by decide)]
  refine ⟨⟨rfl, fresh_may m 0 (by omega) (by omega) (by omega) (by omega), fresh_may m 0 (by omega) (by omega) (by omega) (by omega), fresh_may (m / 2) 512 (by omega) (by omega) (by omega) (by omega), fresh_len _ _, fresh_len _ _, fresh_len _ _⟩, by simp, fun n hn => ?_, fun n hn => ?_, fun n hn => ?_, fun n hn => ?_⟩
  · rw [hpl n hn, size_bs]; rfl
  · rw [hpl n hn]; have := hsnd m n 0 hn; rw [Int.zero_add] at this; exact this
  · rw [hpl n hn]; have := hsnd m n 0 hn; rw [Int.zero_add] at this; exact this
  · have : pp (List.replicate m (bs (List.replicate 24 0))) n = bs (List.replicate 24 0) := by
      unfold pp; rw [hpl _ (by omega), hpl _ (by omega), hxe]
    rw [this]; exact hsnd (m / 2) n 512 hn
end Go.Proofs.YtgjijcgkmofaaaaDoor
