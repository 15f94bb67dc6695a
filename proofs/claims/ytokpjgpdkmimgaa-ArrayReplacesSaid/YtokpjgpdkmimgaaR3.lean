/-
  Regions that draw their order, told by what each operation yields: each operation is walked once, whatever order is drawn. Conditions: what is told of a value stays as the world grows.
-/
import Derived.Test.YtokpjgpdkmimgaaK
import Derived.Test.YtokpjgpdkmimgaaR2
namespace Go.Proofs.Ytokpjgpdkmimgaa
set_option linter.unusedSimpArgs false
set_option linter.unusedVariables false
open Go.RowKit

/-- The operations that it waits for. -/
def waits (x : Oper) : List Nat := (x.after.toList.filter (Region.binds .any)).map (·.on)
def waitsAt (L : List Oper) (i : Nat) : List Nat := ((L[i]?).map waits).getD []
def upd (vals : Nat → Value) (i : Nat) (v : Value) : Nat → Value := fun j => if j = i then v else vals j
theorem upd_same (vals : Nat → Value) (i : Nat) (v : Value) : upd vals i v i = v := if_pos rfl
theorem upd_other (vals : Nat → Value) {i j : Nat} (v : Value) (h : j ≠ i) : upd vals i v j = vals j := if_neg h
/-- The frame with the operations' values. -/
def putAll (a : Act) (vals : Nat → Value) : Nat → List Oper → Act
  | _, [] => a
  | n, x :: l => putAll (a.put x.dst (vals n)) vals (n + 1) l
def apart : List (Option Tmp) → Bool
  | [] => true
  | d :: l => (d.isNone || !l.contains d) && apart l
theorem put_comm (a : Act) {d e : Option Tmp} (u v : Value) (h : d = none ∨ d ≠ e) : (a.put d u).put e v = (a.put e v).put d u := by
  cases d with
  | none => rfl
  | some d =>
    cases e with
    | none => rfl
    | some e =>
      have hde : d ≠ e := by
        rcases h with h | h
        · cases h
        · intro hh; exact h (by rw [hh])
      unfold Act.put
      simp only [Act.mk.injEq, and_true]
      exact Array.setIfInBounds_comm _ _ hde
theorem put_put (a : Act) (d : Option Tmp) (u v : Value) : (a.put d u).put d v = a.put d v := by
  cases d with
  | none => rfl
  | some d => unfold Act.put; simp
theorem put_own (a : Act) (d : Tmp) : a.put (some d) (a.tmps.getD d undef) = a := by
  unfold Act.put
  obtain ⟨t, ds⟩ := a
  simp only [Act.mk.injEq, and_true]
  apply Array.ext_getElem?
  intro k
  rw [Array.getElem?_setIfInBounds]
  by_cases h : d = k
  · subst h
    rw [if_pos rfl]
    by_cases h2 : d < t.size
    · simp [h2]
    · simp [h2]
  · rw [if_neg h]
theorem putAll_put (a : Act) (vals : Nat → Value) (d : Option Tmp) (v : Value) : ∀ (l : List Oper) (n : Nat), (d = none ∨ ¬ d ∈ l.map (·.dst)) → putAll (a.put d v) vals n l = (putAll a vals n l).put d v := by
  intro l
  induction l generalizing a with
  | nil => intro n _; rfl
  | cons x l ih =>
    intro n h
    unfold putAll
    have h1 : d = none ∨ d ≠ x.dst := by
      rcases h with h | h
      · exact .inl h
      · right; intro hh; exact h (by simp [hh])
    have h2 : d = none ∨ ¬ d ∈ l.map (·.dst) := by
      rcases h with h | h
      · exact .inl h
      · right; intro hh; exact h (by rw [List.map_cons]; exact List.mem_cons_of_mem _ hh)
    rw [put_comm a v (vals n) h1, ih _ _ h2]
theorem putAll_upd_lt (a : Act) (vals : Nat → Value) (i : Nat) (v : Value) : ∀ (l : List Oper) (n : Nat), i < n → putAll a (upd vals i v) n l = putAll a vals n l := by
  intro l
  induction l generalizing a with
  | nil => intro n _; rfl
  | cons x l ih =>
    intro n h
    unfold putAll
    rw [upd_other _ _ (by omega), ih _ _ (by omega)]
theorem putAll_upd (a : Act) (vals : Nat → Value) (v : Value) : ∀ (l : List Oper) (n i : Nat) (x : Oper), apart (l.map (·.dst)) = true → l[i]? = some x → putAll a (upd vals (n + i) v) n l = (putAll a vals n l).put x.dst v := by
  intro l
  induction l generalizing a with
  | nil => intro n i x _ h; simp at h
  | cons y l ih =>
    intro n i x hap h
    rw [List.map_cons] at hap
    unfold apart at hap
    rw [Bool.and_eq_true] at hap
    unfold putAll
    cases i with
    | zero =>
      simp only [List.getElem?_cons_zero, Option.some.injEq] at h
      subst h
      rw [Nat.add_zero, upd_same, putAll_upd_lt _ _ _ _ _ _ (by omega), ← put_put a y.dst (vals n) v]
      refine putAll_put _ _ _ _ _ _ ?_
      have h1 := hap.1
      rw [Bool.or_eq_true] at h1
      rcases h1 with h1 | h1
      · left; simpa using h1
      · right; simpa using h1
    | succ i =>
      rw [List.getElem?_cons_succ] at h
      rw [upd_other _ _ (by omega), show n + (i + 1) = n + 1 + i by omega]
      exact ih _ _ _ _ hap.2 h
def oldAt (a : Act) (L : List Oper) (i : Nat) : Value := match L[i]? with
  | some x => match x.dst with
    | some d => a.tmps.getD d undef
    | none => undef
  | none => undef
theorem putAll_old (a : Act) (vals : Nat → Value) : ∀ (l : List Oper) (n : Nat), (∀ i x d, l[i]? = some x → x.dst = some d → vals (n + i) = a.tmps.getD d undef) → putAll a vals n l = a := by
  intro l
  induction l with
  | nil => intro n _; rfl
  | cons x l ih =>
    intro n h
    unfold putAll
    have h0 : a.put x.dst (vals n) = a := by
      cases hd : x.dst with
      | none => rfl
      | some d =>
        have := h 0 x d rfl hd
        rw [Nat.add_zero] at this
        rw [this, put_own]
    rw [h0]
    refine ih (n + 1) (fun i x d h1 h2 => ?_)
    have := h (i + 1) x d (by rw [List.getElem?_cons_succ]; exact h1) h2
    rw [← this]
    congr 1
    omega
/-- What is told of the value at a place. -/
def At (V : List (Value → World → Prop)) (i : Nat) (v : Value) (w : World) : Prop := match V[i]? with
  | some p => p v w
  | none => False
def valsOk (L : List Oper) : Bool := apart (L.map (·.dst)) && L.all (fun x => x.guard.isNone) && (List.range L.length).all (fun i => (waitsAt L i).all (fun j => decide (j < i)))

section
variable {P : Program} {Q : Exit → Act → World → Prop}
/-- One operation's walk. -/
def St (P : Program) (Q : Exit → Act → World → Prop) (L : List Oper) (a0 : Act) (F : (Nat → Value) → Act) (V : List (Value → World → Prop)) (w0 : World) (i : Nat) (x : Oper) : Prop :=
  ∀ vals w, Ext w0 w → (∀ j, (waits x).contains j = true → At V j (vals j) w) → (∀ j, (waitsAt L j).contains i = true → vals j = oldAt a0 L j) →
    ∀ K : Act → World → Prop, (∀ a' v w', a' = (F vals).put x.dst v → At V i v w' → Ext w w' → K a' w') → x.wp P (F vals) w K Q
def Steps (f : Nat → Oper → Prop) : Nat → List Oper → Prop
  | _, [] => True
  | n, x :: l => f n x ∧ Steps f (n + 1) l
theorem Steps.at {f : Nat → Oper → Prop} : ∀ {l : List Oper} {n i : Nat} {x : Oper}, Steps f n l → l[i]? = some x → f (n + i) x := by
  intro l
  induction l with
  | nil => intro n i x _ h; simp at h
  | cons y l ih =>
    intro n i x hs h
    cases i with
    | zero => simp only [List.getElem?_cons_zero, Option.some.injEq] at h; subst h; exact hs.1
    | succ i =>
      rw [List.getElem?_cons_succ] at h
      have := ih hs.2 h
      rwa [show n + (i + 1) = n + 1 + i by omega]
theorem mem_waits {x : Oper} {j : Nat} : (waits x).contains j = true ↔ ∃ e ∈ x.after, Region.binds .any e = true ∧ e.on = j := by
  unfold waits
  rw [List.contains_iff_mem, List.mem_map]
  constructor
  · rintro ⟨e, h1, h2⟩
    rw [List.mem_filter] at h1
    exact ⟨e, by simpa using h1.1, h1.2, h2⟩
  · rintro ⟨e, h1, h2, h3⟩
    exact ⟨e, by rw [List.mem_filter]; exact ⟨by simpa using h1, h2⟩, h3⟩
theorem getD_set_same {b : Array Bool} {i : Nat} (h : i < b.size) (d : Bool) : (b.setIfInBounds i true).getD i d = true := by
  simp [Array.getD_eq_getD_getElem?, h]
theorem getD_set_other {b : Array Bool} {i k : Nat} (h : i ≠ k) (d : Bool) : (b.setIfInBounds i true).getD k d = b.getD k d := by
  simp [Array.getD_eq_getD_getElem?, Array.getElem?_setIfInBounds, h]
/-- How many have not come up yet. -/
def left_ (b : Array Bool) : Nat := b.toList.count false
theorem left_set {b : Array Bool} {i : Nat} (h : i < b.size) (hb : b.getD i true = false) : left_ (b.setIfInBounds i true) + 1 = left_ b := by
  unfold left_
  obtain ⟨l⟩ := b
  simp only [List.setIfInBounds_toArray] at *
  have hb' : l[i]? = some false := by
    simp only [List.size_toArray] at h
    rw [Array.getD_eq_getD_getElem?] at hb
    simp [h] at hb
    simp [h, hb]
  clear hb
  induction l generalizing i with
  | nil => simp at hb'
  | cons x l ih =>
    cases i with
    | zero =>
      simp only [List.getElem?_cons_zero, Option.some.injEq] at hb'
      subst hb'
      simp
    | succ i =>
      rw [List.getElem?_cons_succ] at hb'
      simp only [List.set_cons_succ, List.count_cons]
      have := ih (i := i) (by simp only [List.size_toArray, List.length_cons] at h ⊢; omega) hb'
      omega
theorem wpAny_vals_go {L : List Oper} {a0 : Act} {w0 : World} {F : (Nat → Value) → Act} (hF : ∀ vals, putAll a0 vals 0 L = F vals) (V : List (Value → World → Prop)) (hok : valsOk L = true)
    (hV : ∀ p ∈ V, ∀ v w w', p v w → Ext w w' → p v w') (hs : Steps (St P Q L a0 F V w0) 0 L)
    (done : ∀ vals w, Ext w0 w → (∀ i, i < L.length → At V i (vals i) w) → Q .normal (F vals) w) :
    ∀ (fuel : Nat) (listed : Array Bool) (vals : Nat → Value) (w : World), listed.size = L.length → left_ listed ≤ fuel → Ext w0 w →
      (∀ i, i < L.length → listed.getD i true = true → At V i (vals i) w ∧ ∀ j, (waitsAt L i).contains j = true → listed.getD j false = true) →
      (∀ i, listed.getD i true = false → vals i = oldAt a0 L i) →
      wpAny P .any L.toArray Q fuel listed (F vals) w := by
  unfold valsOk at hok
  rw [Bool.and_eq_true, Bool.and_eq_true] at hok
  obtain ⟨⟨hap, hgu⟩, hord⟩ := hok
  have hAt : ∀ i v w w', At V i v w → Ext w w' → At V i v w' := by
    intro i v w w' h e
    unfold At at *
    cases hp : V[i]? with
    | none => rw [hp] at h; exact h
    | some p => rw [hp] at h; exact hV p (List.mem_of_getElem? hp) _ _ _ h e
  have hall : ∀ (listed : Array Bool), listed.size = L.length → Region.ready .any L.toArray listed = [] → ∀ i, i < L.length → listed.getD i true = true := by
    intro listed hsz hr i
    induction i using Nat.strongRecOn with
    | ind i ih =>
      intro hi
      cases hb : listed.getD i true with
      | true => rfl
      | false =>
        have : i ∈ Region.ready .any L.toArray listed := by
          rw [ready_mem]
          refine ⟨by simpa using hi, hb, L[i], by simp [hi], fun e he hbd => ?_⟩
          have hlt : e.on < i := by
            have h1 := List.all_eq_true.1 hord i (List.mem_range.2 hi)
            have h2 := List.all_eq_true.1 h1 e.on (by
              unfold waitsAt
              rw [List.getElem?_eq_getElem hi]
              exact List.contains_iff_mem.1 (mem_waits.2 ⟨e, he, hbd, rfl⟩))
            simpa using h2
          have := ih e.on hlt (by omega)
          have hin : e.on < listed.size := by omega
          simpa [Array.getD_eq_getD_getElem?, hin] using this
        rw [hr] at this
        cases this
  intro fuel
  induction fuel with
  | zero =>
    intro listed vals w hsz hl e hv ho
    have hno : Region.ready .any L.toArray listed = [] := by
      apply List.eq_nil_iff_forall_not_mem.2
      intro i hi
      obtain ⟨h1, h2, _⟩ := ready_mem.1 hi
      have := left_set (b := listed) (i := i) (by simpa [hsz] using h1) h2
      omega
    exact ⟨hno, done vals w e fun i hi => (hv i hi (hall listed hsz hno i hi)).1⟩
  | succ fuel ih =>
    intro listed vals w hsz hl e hv ho
    refine ⟨fun hno => done vals w e fun i hi => (hv i hi (hall listed hsz hno i hi)).1, fun i hi => ?_⟩
    obtain ⟨h1, h2, x, hx, h3⟩ := ready_mem.1 hi
    have hil : i < L.length := by simpa using h1
    have hxL : L[i]? = some x := by simpa using hx
    have hg : x.guard = none := by
      have := List.all_eq_true.1 hgu x (List.mem_of_getElem? hxL)
      simpa using this
    unfold wpOp
    rw [hx]
    simp only
    rw [if_pos (by simp [Region.wanted, hg])]
    left
    have hst := hs.at hxL
    rw [Nat.zero_add] at hst
    have hwait : ∀ j, (waits x).contains j = true → listed.getD j false = true := by
      intro j hj
      obtain ⟨ed, he1, he2, rfl⟩ := mem_waits.1 hj
      exact h3 ed he1 he2
    refine hst vals w e (fun j hj => ?_) (fun j hj => ?_) _ ?_
    · have hlj := hwait j hj
      have hjs : j < L.length := by
        by_cases h : j < listed.size
        · omega
        · simp [Array.getD_eq_getD_getElem?, h] at hlj
      refine (hv j hjs ?_).1
      have hin : j < listed.size := by omega
      simpa [Array.getD_eq_getD_getElem?, hin] using hlj
    · refine ho j ?_
      cases hb : listed.getD j true with
      | false => rfl
      | true =>
        by_cases hjl : j < L.length
        · have := (hv j hjl hb).2 i hj
          have hin : i < listed.size := by omega
          simp [Array.getD_eq_getD_getElem?, hin] at this h2
          rw [this] at h2
          cases h2
        · unfold waitsAt at hj
          rw [List.getElem?_eq_none (by omega)] at hj
          simp at hj
    · intro a' v w' ha' hv' e'
      subst ha'
      have hput : (F vals).put x.dst v = F (upd vals i v) := by
        rw [← hF, ← hF, ← putAll_upd a0 vals v L 0 i x hap hxL, Nat.zero_add]
      rw [hput]
      refine ih _ _ _ (by simpa using hsz) (by have := left_set (b := listed) (i := i) (by omega) h2; omega) (e.trans e') (fun k hk hkl => ?_) (fun k hk => ?_)
      · by_cases hki : k = i
        · subst hki
          rw [upd_same]
          refine ⟨hv', fun j hj => ?_⟩
          have hj' : (waits x).contains j = true := by
            unfold waitsAt at hj
            rw [hxL] at hj
            exact hj
          have hlj := hwait j hj'
          by_cases hjk : k = j
          · subst hjk; exact getD_set_same (by omega) _
          · rw [getD_set_other hjk]; exact hlj
        · rw [upd_other _ _ hki]
          rw [getD_set_other (Ne.symm hki)] at hkl
          obtain ⟨g1, g2⟩ := hv k hk hkl
          refine ⟨hAt _ _ _ _ g1 e', fun j hj => ?_⟩
          have hlj := g2 j hj
          by_cases hji : i = j
          · subst hji; exact getD_set_same (by omega) _
          · rw [getD_set_other hji]; exact hlj
      · by_cases hki : k = i
        · subst hki
          rw [getD_set_same (by omega)] at hk
          cases hk
        · rw [upd_other _ _ hki]
          rw [getD_set_other (Ne.symm hki)] at hk
          exact ho k hk
/-- THE REGION: each operation is walked once. -/
theorem wp_region_vals {id : Nat} {L : List Oper} {a0 : Act} {w : World} {F : (Nat → Value) → Act} (hF : ∀ vals, putAll a0 vals 0 L = F vals) (V : List (Value → World → Prop)) (hm : P.follows .mixedOrders = true) (hok : valsOk L = true)
    (hV : ∀ p ∈ V, ∀ v w w', p v w → Ext w w' → p v w') (hs : Steps (St P Q L a0 F V w.drew) 0 L)
    (done : ∀ vals w', Ext w.drew w' → (∀ i, i < L.length → At V i (vals i) w') → Q .normal (F vals) w') : (Code.region id L.toArray true).wp P Q a0 w := by
  refine wp_region_any hm ?_
  have h0 : F (oldAt a0 L) = a0 := by
    rw [← hF]
    refine putAll_old _ _ _ _ (fun i x d h1 h2 => ?_)
    rw [Nat.zero_add]
    unfold oldAt
    rw [h1]
    simp only
    rw [h2]
  have := wpAny_vals_go hF V hok hV hs done L.toArray.size (Array.replicate L.toArray.size false) (oldAt a0 L) w.drew (by simp) (by simp [left_]) (Ext.refl _)
    (fun i hi h => by
      exfalso
      simp [Array.getD_eq_getD_getElem?, Array.getElem?_replicate, hi] at h)
    (fun i _ => rfl)
  rw [h0] at this
  exact this
theorem st_quiet {x : Oper} {a : Act} {w : World} {K : Act → World → Prop} (v : Value) (hy : (execOp a.eval x).run P w = .ok (.value v) w) (h : K (a.put x.dst v) w) : x.wp P a w K Q := by
  unfold Oper.wp
  rw [hy]
  exact h
/-- Two texts, one behind the other. -/
theorem st_concat {x : Oper} {a : Act} {w : World} {K : Act → World → Prop} (p q : Operand) (t t' : TypeId) (s u : ByteArray) (ho : x.op = .binOp .add t p q t') (hp : a.eval p = .string s) (hq : a.eval q = .string u) (hn : s.size + u.size ≤ 9223372036854775807) (h : K (a.put x.dst (.string (s ++ u))) w) : x.wp P a w K Q := by
  refine st_quiet (.string (s ++ u)) ?_ h
  unfold execOp
  rw [ho]
  simp only
  rw [hp, hq]
  have hn' : ¬ ((s.size + u.size : Nat) : Int) > IntKind.i64.max := by
    rw [show IntKind.i64.max = 9223372036854775807 from rfl]; omega
  simp only [eqGuard, binOp, Op.stringOp, Sem.run_bind]
  rw [if_neg hn']
  rfl
/-- The bounds of a part of a text. -/
def boundOf (a : Act) (lo : Option Operand) (d : Nat) (l : Nat) : Prop := match lo with
  | none => l = d
  | some p => a.eval p = .int .i64 (l : Int)
/-- A part of a text. -/
theorem st_slice {x : Oper} {a : Act} {w : World} {K : Act → World → Prop} (t : TypeId) (p : Operand) (lo hi : Option Operand) (s : ByteArray) (l h : Nat) (ho : x.op = .slice t p lo hi none) (ht : P.underlying t = some .string) (hp : a.eval p = .string s) (hlo : boundOf a lo 0 l) (hhi : boundOf a hi s.size h) (h1 : l ≤ h) (h2 : h ≤ s.size)
    (hK : K (a.put x.dst (.string (s.extract l h))) w) : x.wp P a w K Q := by
  refine st_quiet (.string (s.extract l h)) ?_ hK
  have hb : (Instr.sliceBounds false s.size s.size (lo.map a.eval) (hi.map a.eval) none).run P w = .ok (l, h, s.size) w := by
    unfold Instr.sliceBounds
    have i1 : (0 : Int) ≤ (h : Int) ∧ (h : Int) ≤ (s.size : Int) := ⟨by omega, by omega⟩
    have i2 : (0 : Int) ≤ (l : Int) ∧ (l : Int) ≤ (h : Int) := ⟨by omega, by omega⟩
    cases lo with
    | none =>
      cases hi with
      | none => simp only [boundOf] at hlo hhi; subst hlo hhi; simp
      | some q => simp only [boundOf] at hlo hhi; subst hlo; simp [Instr.sliceBound, hhi, asIntOf, i1, h2]
    | some q =>
      cases hi with
      | none => simp only [boundOf] at hlo hhi; subst hhi; simp [Instr.sliceBound, hlo, asIntOf, i2, h1]
      | some r => simp only [boundOf] at hlo hhi; simp [Instr.sliceBound, hlo, hhi, asIntOf, i1, i2, h1, h2]
  unfold execOp
  rw [ho]
  simp only [Sem.run_bind, Instr.sliceAt, hp, Option.map_none]
  simp [Instr.slice, ht, hb, underlying]
end
end Go.Proofs.Ytokpjgpdkmimgaa
