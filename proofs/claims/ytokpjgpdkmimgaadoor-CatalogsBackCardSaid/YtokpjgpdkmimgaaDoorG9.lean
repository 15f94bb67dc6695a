/-
  Regions that draw their order, told by what each operation yields: each operation is walked once, whatever order is drawn. Conditions: what is told of a value stays as the world grows.
-/
import Derived.Test.YtokpjgpdkmimgaaDoorG8
import Derived.Lib.AppendStr
namespace Go.Proofs.YtokpjgpdkmimgaaDoor
set_option linter.unusedSimpArgs false
set_option linter.unusedVariables false
open Go.RowKit

/-- The operations that it waits for. -/
def waits (x : Oper) : List Nat := (x.after.toList.filter (Region.binds .any)).map (·.on)
def waitsAt (L : List Oper) (i : Nat) : List Nat := ((L[i]?).map waits).getD []
def upd (vals : Nat → Value) (i : Nat) (v : Value) : Nat → Value := fun j => if j = i then v else vals j
theorem upd_same (vals : Nat → Value) (i : Nat) (v : Value) : upd vals i v i = v := if_pos rfl
theorem upd_other (vals : Nat → Value) {i j : Nat} (v : Value) (h : j ≠ i) : upd vals i v j = vals j := if_neg h
/-- The frame with the operations' values. -/
def putAll (a : Act) (vals : Nat → Value) : Nat → List Oper → Act
  | _, [] => a
  | n, x :: l => putAll (a.put x.dst (vals n)) vals (n + 1) l
def apart : List (Option Tmp) → Bool
  | [] => true
  | d :: l => (d.isNone || !l.contains d) && apart l
theorem put_comm (a : Act) {d e : Option Tmp} (u v : Value) (h : d = none ∨ d ≠ e) : (a.put d u).put e v = (a.put e v).put d u := by
  cases d with
  | none => rfl
  | some d =>
    cases e with
    | none => rfl
    | some e =>
      have hde : d ≠ e := by
        rcases h with h | h
        · cases h
        · intro hh; exact h (by rw [hh])
      unfold Act.put
      simp only [Act.mk.injEq, and_true]
      exact Array.setIfInBounds_comm _ _ hde
theorem put_put (a : Act) (d : Option Tmp) (u v : Value) : (a.put d u).put d v = a.put d v := by
  cases d with
  | none => rfl
  | some d => unfold Act.put; simp
theorem put_own (a : Act) (d : Tmp) : a.put (some d) (a.tmps.getD d undef) = a := by
  unfold Act.put
  obtain ⟨t, ds⟩ := a
  simp only [Act.mk.injEq, and_true]
  apply Array.ext_getElem?
  intro k
  rw [Array.getElem?_setIfInBounds]
  by_cases h : d = k
  · subst h
    rw [if_pos rfl]
    by_cases h2 : d < t.size
    · simp [h2]
    · simp [h2]
  · rw [if_neg h]
theorem putAll_put (a : Act) (vals : Nat → Value) (d : Option Tmp) (v : Value) : ∀ (l : List Oper) (n : Nat), (d = none ∨ ¬ d ∈ l.map (·.dst)) → putAll (a.put d v) vals n l = (putAll a vals n l).put d v := by
  intro l
  induction l generalizing a with
  | nil => intro n _; rfl
  | cons x l ih =>
    intro n h
    unfold putAll
    have h1 : d = none ∨ d ≠ x.dst := by
      rcases h with h | h
      · exact .inl h
      · right; intro hh; exact h (by simp [hh])
    have h2 : d = none ∨ ¬ d ∈ l.map (·.dst) := by
      rcases h with h | h
      · exact .inl h
      · right; intro hh; exact h (by rw [List.map_cons]; exact List.mem_cons_of_mem _ hh)
    rw [put_comm a v (vals n) h1, ih _ _ h2]
theorem putAll_upd_lt (a : Act) (vals : Nat → Value) (i : Nat) (v : Value) : ∀ (l : List Oper) (n : Nat), i < n → putAll a (upd vals i v) n l = putAll a vals n l := by
  intro l
  induction l generalizing a with
  | nil => intro n _; rfl
  | cons x l ih =>
    intro n h
    unfold putAll
    rw [upd_other _ _ (by omega), ih _ _ (by omega)]
theorem putAll_upd (a : Act) (vals : Nat → Value) (v : Value) : ∀ (l : List Oper) (n i : Nat) (x : Oper), apart (l.map (·.dst)) = true → l[i]? = some x → putAll a (upd vals (n + i) v) n l = (putAll a vals n l).put x.dst v := by
  intro l
  induction l generalizing a with
  | nil => intro n i x _ h; simp at h
  | cons y l ih =>
    intro n i x hap h
    rw [List.map_cons] at hap
    unfold apart at hap
    rw [Bool.and_eq_true] at hap
    unfold putAll
    cases i with
    | zero =>
      simp only [List.getElem?_cons_zero, Option.some.injEq] at h
      subst h
      rw [Nat.add_zero, upd_same, putAll_upd_lt _ _ _ _ _ _ (by omega), ← put_put a y.dst (vals n) v]
      refine putAll_put _ _ _ _ _ _ ?_
      have h1 := hap.1
      rw [Bool.or_eq_true] at h1
      rcases h1 with h1 | h1
      · left; simpa using h1
      · right; simpa using h1
    | succ i =>
      rw [List.getElem?_cons_succ] at h
      rw [upd_other _ _ (by omega), show n + (i + 1) = n + 1 + i by omega]
      exact ih _ _ _ _ hap.2 h
def oldAt (a : Act) (L : List Oper) (i : Nat) : Value := match L[i]? with
  | some x => match x.dst with
    | some d => a.tmps.getD d undef
    | none => undef
  | none => undef
theorem putAll_old (a : Act) (vals : Nat → Value) : ∀ (l : List Oper) (n : Nat), (∀ i x d, l[i]? = some x → x.dst = some d → vals (n + i) = a.tmps.getD d undef) → putAll a vals n l = a := by
  intro l
  induction l with
  | nil => intro n _; rfl
  | cons x l ih =>
    intro n h
    unfold putAll
    have h0 : a.put x.dst (vals n) = a := by
      cases hd : x.dst with
      | none => rfl
      | some d =>
        have := h 0 x d rfl hd
        rw [Nat.add_zero] at this
        rw [this, put_own]
    rw [h0]
    refine ih (n + 1) (fun i x d h1 h2 => ?_)
    have := h (i + 1) x d (by rw [List.getElem?_cons_succ]; exact h1) h2
    rw [← this]
    congr 1
    omega
/-- What is told of the value at a place. -/
def At (V : List (Value → World → Prop)) (i : Nat) (v : Value) (w : World) : Prop := match V[i]? with
  | some p => p v w
  | none => False
def valsOk (L : List Oper) : Bool := apart (L.map (·.dst)) && L.all (fun x => x.guard.isNone) && (List.range L.length).all (fun i => (waitsAt L i).all (fun j => decide (j < i)))

section
variable {P : Program} {Q : Exit → Act → World → Prop}
/-- One operation's walk. -/
def St (P : Program) (Q : Exit → Act → World → Prop) (L : List Oper) (a0 : Act) (F : (Nat → Value) → Act) (V : List (Value → World → Prop)) (w0 : World) (i : Nat) (x : Oper) : Prop :=
  ∀ vals w, Ext w0 w → (∀ j, (waits x).contains j = true → At V j (vals j) w) → (∀ j, (waitsAt L j).contains i = true → vals j = oldAt a0 L j) →
    ∀ K : Act → World → Prop, (∀ a' v w', a' = (F vals).put x.dst v → At V i v w' → Ext w w' → K a' w') → x.wp P (F vals) w K Q
def Steps (f : Nat → Oper → Prop) : Nat → List Oper → Prop
  | _, [] => True
  | n, x :: l => f n x ∧ Steps f (n + 1) l
theorem Steps.at {f : Nat → Oper → Prop} : ∀ {l : List Oper} {n i : Nat} {x : Oper}, Steps f n l → l[i]? = some x → f (n + i) x := by
  intro l
  induction l with
  | nil => intro n i x _ h; simp at h
  | cons y l ih =>
    intro n i x hs h
    cases i with
    | zero => simp only [List.getElem?_cons_zero, Option.some.injEq] at h; subst h; exact hs.1
    | succ i =>
      rw [List.getElem?_cons_succ] at h
      have := ih hs.2 h
      rwa [show n + (i + 1) = n + 1 + i by omega]
theorem mem_waits {x : Oper} {j : Nat} : (waits x).contains j = true ↔ ∃ e ∈ x.after, Region.binds .any e = true ∧ e.on = j := by
  unfold waits
  rw [List.contains_iff_mem, List.mem_map]
  constructor
  · rintro ⟨e, h1, h2⟩
    rw [List.mem_filter] at h1
    exact ⟨e, by simpa using h1.1, h1.2, h2⟩
  · rintro ⟨e, h1, h2, h3⟩
    exact ⟨e, by rw [List.mem_filter]; exact ⟨by simpa using h1, h2⟩, h3⟩
theorem getD_set_same {b : Array Bool} {i : Nat} (h : i < b.size) (d : Bool) : (b.setIfInBounds i true).getD i d = true := by
  simp [Array.getD_eq_getD_getElem?, h]
theorem getD_set_other {b : Array Bool} {i k : Nat} (h : i ≠ k) (d : Bool) : (b.setIfInBounds i true).getD k d = b.getD k d := by
  simp [Array.getD_eq_getD_getElem?, Array.getElem?_setIfInBounds, h]
/-- How many have not come up yet. -/
def left_ (b : Array Bool) : Nat := b.toList.count false
theorem left_set {b : Array Bool} {i : Nat} (h : i < b.size) (hb : b.getD i true = false) : left_ (b.setIfInBounds i true) + 1 = left_ b := by
  unfold left_
  obtain ⟨l⟩ := b
  simp only [List.setIfInBounds_toArray] at *
  have hb' : l[i]? = some false := by
    simp only [List.size_toArray] at h
    rw [Array.getD_eq_getD_getElem?] at hb
    simp [h] at hb
    simp [h, hb]
  clear hb
  induction l generalizing i with
  | nil => simp at hb'
  | cons x l ih =>
    cases i with
    | zero =>
      simp only [List.getElem?_cons_zero, Option.some.injEq] at hb'
      subst hb'
      simp
    | succ i =>
      rw [List.getElem?_cons_succ] at hb'
      simp only [List.set_cons_succ, List.count_cons]
      have := ih (i := i) (by simp only [List.size_toArray, List.length_cons] at h ⊢; omega) hb'
      omega
theorem wpAny_vals_go {L : List Oper} {a0 : Act} {w0 : World} {F : (Nat → Value) → Act} (hF : ∀ vals, putAll a0 vals 0 L = F vals) (V : List (Value → World → Prop)) (hok : valsOk L = true)
    (hV : ∀ p ∈ V, ∀ v w w', p v w → Ext w w' → p v w') (hs : Steps (St P Q L a0 F V w0) 0 L)
    (done : ∀ vals w, Ext w0 w → (∀ i, i < L.length → At V i (vals i) w) → Q .normal (F vals) w) :
    ∀ (fuel : Nat) (listed : Array Bool) (vals : Nat → Value) (w : World), listed.size = L.length → left_ listed ≤ fuel → Ext w0 w →
      (∀ i, i < L.length → listed.getD i true = true → At V i (vals i) w ∧ ∀ j, (waitsAt L i).contains j = true → listed.getD j false = true) →
      (∀ i, listed.getD i true = false → vals i = oldAt a0 L i) →
      wpAny P .any L.toArray Q fuel listed (F vals) w := by
  unfold valsOk at hok
  rw [Bool.and_eq_true, Bool.and_eq_true] at hok
  obtain ⟨⟨hap, hgu⟩, hord⟩ := hok
  have hAt : ∀ i v w w', At V i v w → Ext w w' → At V i v w' := by
    intro i v w w' h e
    unfold At at *
    cases hp : V[i]? with
    | none => rw [hp] at h; exact h
    | some p => rw [hp] at h; exact hV p (List.mem_of_getElem? hp) _ _ _ h e
  have hall : ∀ (listed : Array Bool), listed.size = L.length → Region.ready .any L.toArray listed = [] → ∀ i, i < L.length → listed.getD i true = true := by
    intro listed hsz hr i
    induction i using Nat.strongRecOn with
    | ind i ih =>
      intro hi
      cases hb : listed.getD i true with
      | true => rfl
      | false =>
        have : i ∈ Region.ready .any L.toArray listed := by
          rw [ready_mem]
          refine ⟨by simpa using hi, hb, L[i], by simp [hi], fun e he hbd => ?_⟩
          have hlt : e.on < i := by
            have h1 := List.all_eq_true.1 hord i (List.mem_range.2 hi)
            have h2 := List.all_eq_true.1 h1 e.on (by
              unfold waitsAt
              rw [List.getElem?_eq_getElem hi]
              exact List.contains_iff_mem.1 (mem_waits.2 ⟨e, he, hbd, rfl⟩))
            simpa using h2
          have := ih e.on hlt (by omega)
          have hin : e.on < listed.size := by omega
          simpa [Array.getD_eq_getD_getElem?, hin] using this
        rw [hr] at this
        cases this
  intro fuel
  induction fuel with
  | zero =>
    intro listed vals w hsz hl e hv ho
    have hno : Region.ready .any L.toArray listed = [] := by
      apply List.eq_nil_iff_forall_not_mem.2
      intro i hi
      obtain ⟨h1, h2, _⟩ := ready_mem.1 hi
      have := left_set (b := listed) (i := i) (by simpa [hsz] using h1) h2
      omega
    exact ⟨hno, done vals w e fun i hi => (hv i hi (hall listed hsz hno i hi)).1⟩
  | succ fuel ih =>
    intro listed vals w hsz hl e hv ho
    refine ⟨fun hno => done vals w e fun i hi => (hv i hi (hall listed hsz hno i hi)).1, fun i hi => ?_⟩
    obtain ⟨h1, h2, x, hx, h3⟩ := ready_mem.1 hi
    have hil : i < L.length := by simpa using h1
    have hxL : L[i]? = some x := by simpa using hx
    have hg : x.guard = none := by
      have := List.all_eq_true.1 hgu x (List.mem_of_getElem? hxL)
      simpa using this
    unfold wpOp
    rw [hx]
    simp only
    rw [if_pos (by simp [Region.wanted, hg])]
    left
    have hst := hs.at hxL
    rw [Nat.zero_add] at hst
    have hwait : ∀ j, (waits x).contains j = true → listed.getD j false = true := by
      intro j hj
      obtain ⟨ed, he1, he2, rfl⟩ := mem_waits.1 hj
      exact h3 ed he1 he2
    refine hst vals w e (fun j hj => ?_) (fun j hj => ?_) _ ?_
    · have hlj := hwait j hj
      have hjs : j < L.length := by
        by_cases h : j < listed.size
        · omega
        · simp [Array.getD_eq_getD_getElem?, h] at hlj
      refine (hv j hjs ?_).1
      have hin : j < listed.size := by omega
      simpa [Array.getD_eq_getD_getElem?, hin] using hlj
    · refine ho j ?_
      cases hb : listed.getD j true with
      | false => rfl
      | true =>
        by_cases hjl : j < L.length
        · have := (hv j hjl hb).2 i hj
          have hin : i < listed.size := by omega
          simp [Array.getD_eq_getD_getElem?, hin] at this h2
          rw [this] at h2
          cases h2
        · unfold waitsAt at hj
          rw [List.getElem?_eq_none (by omega)] at hj
          simp at hj
    · intro a' v w' ha' hv' e'
      subst ha'
      have hput : (F vals).put x.dst v = F (upd vals i v) := by
        rw [← hF, ← hF, ← putAll_upd a0 vals v L 0 i x hap hxL, Nat.zero_add]
      rw [hput]
      refine ih _ _ _ (by simpa using hsz) (by have := left_set (b := listed) (i := i) (by omega) h2; omega) (e.trans e') (fun k hk hkl => ?_) (fun k hk => ?_)
      · by_cases hki : k = i
        · subst hki
          rw [upd_same]
          refine ⟨hv', fun j hj => ?_⟩
          have hj' : (waits x).contains j = true := by
            unfold waitsAt at hj
            rw [hxL] at hj
            exact hj
          have hlj := hwait j hj'
          by_cases hjk : k = j
          · subst hjk; exact getD_set_same (by omega) _
          · rw [getD_set_other hjk]; exact hlj
        · rw [upd_other _ _ hki]
          rw [getD_set_other (Ne.symm hki)] at hkl
          obtain ⟨g1, g2⟩ := hv k hk hkl
          refine ⟨hAt _ _ _ _ g1 e', fun j hj => ?_⟩
          have hlj := g2 j hj
          by_cases hji : i = j
          · subst hji; exact getD_set_same (by omega) _
          · rw [getD_set_other hji]; exact hlj
      · by_cases hki : k = i
        · subst hki
          rw [getD_set_same (by omega)] at hk
          cases hk
        · rw [upd_other _ _ hki]
          rw [getD_set_other (Ne.symm hki)] at hk
          exact ho k hk
/-- THE REGION: each operation is walked once. -/
theorem wp_region_vals {id : Nat} {L : List Oper} {a0 : Act} {w : World} {F : (Nat → Value) → Act} (hF : ∀ vals, putAll a0 vals 0 L = F vals) (V : List (Value → World → Prop)) (hm : P.follows .mixedOrders = true) (hok : valsOk L = true)
    (hV : ∀ p ∈ V, ∀ v w w', p v w → Ext w w' → p v w') (hs : Steps (St P Q L a0 F V w.drew) 0 L)
    (done : ∀ vals w', Ext w.drew w' → (∀ i, i < L.length → At V i (vals i) w') → Q .normal (F vals) w') : (Code.region id L.toArray true).wp P Q a0 w := by
  refine wp_region_any hm ?_
  have h0 : F (oldAt a0 L) = a0 := by
    rw [← hF]
    refine putAll_old _ _ _ _ (fun i x d h1 h2 => ?_)
    rw [Nat.zero_add]
    unfold oldAt
    rw [h1]
    simp only
    rw [h2]
  have := wpAny_vals_go hF V hok hV hs done L.toArray.size (Array.replicate L.toArray.size false) (oldAt a0 L) w.drew (by simp) (by simp [left_]) (Ext.refl _)
    (fun i hi h => by
      exfalso
      simp [Array.getD_eq_getD_getElem?, Array.getElem?_replicate, hi] at h)
    (fun i _ => rfl)
  rw [h0] at this
  exact this
theorem st_quiet {x : Oper} {a : Act} {w : World} {K : Act → World → Prop} (v : Value) (hy : (execOp a.eval x).run P w = .ok (.value v) w) (h : K (a.put x.dst v) w) : x.wp P a w K Q := by
  unfold Oper.wp
  rw [hy]
  exact h
/-- Two texts, one behind the other. -/
theorem st_concat {x : Oper} {a : Act} {w : World} {K : Act → World → Prop} (p q : Operand) (t t' : TypeId) (s u : ByteArray) (ho : x.op = .binOp .add t p q t') (hp : a.eval p = .string s) (hq : a.eval q = .string u) (hn : s.size + u.size ≤ 9223372036854775807) (h : K (a.put x.dst (.string (s ++ u))) w) : x.wp P a w K Q := by
  refine st_quiet (.string (s ++ u)) ?_ h
  unfold execOp
  rw [ho]
  simp only
  rw [hp, hq]
  have hn' : ¬ ((s.size + u.size : Nat) : Int) > IntKind.i64.max := by
    rw [show IntKind.i64.max = 9223372036854775807 from rfl]; omega
  simp only [eqGuard, binOp, Op.stringOp, Sem.run_bind]
  rw [if_neg hn']
  rfl
/-- The bounds of a part of a text. -/
def boundOf (a : Act) (lo : Option Operand) (d : Nat) (l : Nat) : Prop := match lo with
  | none => l = d
  | some p => a.eval p = .int .i64 (l : Int)
/-- A part of a text. -/
theorem st_slice {x : Oper} {a : Act} {w : World} {K : Act → World → Prop} (t : TypeId) (p : Operand) (lo hi : Option Operand) (s : ByteArray) (l h : Nat) (ho : x.op = .slice t p lo hi none) (ht : P.underlying t = some .string) (hp : a.eval p = .string s) (hlo : boundOf a lo 0 l) (hhi : boundOf a hi s.size h) (h1 : l ≤ h) (h2 : h ≤ s.size)
    (hK : K (a.put x.dst (.string (s.extract l h))) w) : x.wp P a w K Q := by
  refine st_quiet (.string (s.extract l h)) ?_ hK
  have hb : (Instr.sliceBounds false s.size s.size (lo.map a.eval) (hi.map a.eval) none).run P w = .ok (l, h, s.size) w := by
    unfold Instr.sliceBounds
    have i1 : (0 : Int) ≤ (h : Int) ∧ (h : Int) ≤ (s.size : Int) := ⟨by omega, by omega⟩
    have i2 : (0 : Int) ≤ (l : Int) ∧ (l : Int) ≤ (h : Int) := ⟨by omega, by omega⟩
    cases lo with
    | none =>
      cases hi with
      | none => simp only [boundOf] at hlo hhi; subst hlo hhi; simp
      | some q => simp only [boundOf] at hlo hhi; subst hlo; simp [Instr.sliceBound, hhi, asIntOf, i1, h2]
    | some q =>
      cases hi with
      | none => simp only [boundOf] at hlo hhi; subst hhi; simp [Instr.sliceBound, hlo, asIntOf, i2, h1]
      | some r => simp only [boundOf] at hlo hhi; simp [Instr.sliceBound, hlo, hhi, asIntOf, i1, i2, h1, h2]
  unfold execOp
  rw [ho]
  simp only [Sem.run_bind, Instr.sliceAt, hp, Option.map_none]
  simp [Instr.slice, ht, hb, underlying]
end
end Go.Proofs.YtokpjgpdkmimgaaDoor

/-
  The document's plainly and PackedOf: bytes as they are, and packed. Conditions: the text is short.
-/
namespace Go.Proofs.YtokpjgpdkmimgaaDoor
set_option linter.unusedSimpArgs false
set_option linter.unusedVariables false
open Go.RowKit

theorem lst_ext0 (s : ByteArray) (n : Nat) : lst (s.extract 0 n) = (lst s).take n := by
  unfold lst; rw [ByteArray.data_extract, Array.toList_extract]; simp [List.extract]
theorem lst_ext (s : ByteArray) (a b : Nat) : lst (s.extract a b) = sub_ s a b := by
  unfold lst sub_
  rw [ByteArray.data_extract, Array.toList_extract]
  simp [List.extract, List.drop_take, lst]
theorem plain_join (s : ByteArray) (n : Nat) (hn : n = min s.size 128) (h0 : 0 < s.size) : bs [byte ((n : Int) - 1)] ++ s.extract 0 n ++ bs (plainF (lst (s.extract n s.size))) = bs (plainF (lst s)) := by
  apply lst_inj
  rw [lst_append, lst_append, lst_bs, lst_bs, lst_bs, lst_ext0, lst_ext]
  have hne : lst s ≠ [] := by intro h; have := length_lst s; rw [h] at this; simp at this; omega
  have hn1 : 1 ≤ n := by omega
  rw [plainF.eq_def (lst s), dif_neg hne, length_lst, ← hn]
  have hb : byte ((n : Int) - 1) = UInt8.ofNat (n - 1) := by
    unfold byte; congr 1; show ((n : Int) - 1).toNat = n - 1; omega
  have ht : (lst s).take n = (lst s).take 128 := by
    by_cases h : s.size ≤ 128
    · rw [List.take_of_length_le (by rw [length_lst]; omega), List.take_of_length_le (by rw [length_lst]; omega)]
    · rw [show n = 128 by omega]
  have hd : sub_ s n s.size = (lst s).drop 128 := by
    unfold sub_
    rw [List.take_of_length_le (by rw [length_lst]; omega)]
    by_cases h : s.size ≤ 128
    · rw [List.drop_of_length_le (by rw [length_lst]; omega), List.drop_of_length_le (by rw [length_lst]; omega)]
    · rw [show n = 128 by omega]
  rw [hb, ht, hd]
  simp
theorem plain_size (l : List UInt8) : (bs (plainF l)).size = l.length + (l.length + 127) / 128 := by rw [size_bs, plain_len]
end Go.Proofs.YtokpjgpdkmimgaaDoor

/-
  The document's PackedOf: a text, with what stands there already made short. Conditions: none.
-/
namespace Go.Proofs.YtokpjgpdkmimgaaDoor
set_option linter.unusedSimpArgs false
set_option linter.unusedVariables false
open Go.RowKit

theorem pack_plain {s : ByteArray} {o : List UInt8} {f i : Nat} (h : i < s.size) (h2 : (pieceF s i 1 0 0).1 < 4) : packF s o f i = packF s o f (i + 1) := by
  rw [packF, dif_pos h, dif_pos h2]
theorem pack_piece {s : ByteArray} {o : List UInt8} {f i n d : Nat} (h : i < s.size) (hp : pieceF s i 1 0 0 = (n, d)) (h2 : ¬ n < 4) : packF s o f i = packF s (o ++ plainF (sub_ s f i) ++ [UInt8.ofNat (124 + n), UInt8.ofNat d]) (i + n) (i + n) := by
  rw [packF, dif_pos h, hp, dif_neg h2]
theorem pack_stop {s : ByteArray} {o : List UInt8} {f i : Nat} (h : ¬ i < s.size) : packF s o f i = o ++ plainF (sub_ s f s.size) := by
  rw [packF, dif_neg h]
theorem bs_app (a b : List UInt8) : bs a ++ bs b = bs (a ++ b) := by apply lst_inj; rw [lst_append, lst_bs, lst_bs, lst_bs]
theorem plain_len2 (l : List UInt8) : (plainF l).length ≤ 2 * l.length := by rw [plain_len]; omega
theorem byte_124 (n : Nat) : byte (124 + (n : Int)) = UInt8.ofNat (124 + n) := by unfold byte; congr 1
theorem byte_cast (n : Nat) : byte (n : Int) = UInt8.ofNat n := by unfold byte; congr 1
end Go.Proofs.YtokpjgpdkmimgaaDoor

/-
  press.Pack: a text, with what stands there already made short. Conditions: none.
-/
namespace Go.Proofs.YtokpjgpdkmimgaaDoor
set_option linter.unusedSimpArgs false
set_option linter.unusedVariables false
open Go.RowKit

/-- The boxes that the packing works on: the text, the bytes so far, how many are to be told as they are. -/
structure PBx (w0 w : World) (gs gb gp base : Nat) (s : ByteArray) (B : Value) (p : Nat) : Prop where
  ext : Ext w0 w
  ls : w0.heap.size ≤ gs
  lb : w0.heap.size ≤ gb
  lp : w0.heap.size ≤ gp
  bs_ : gs < base
  bb : gb < base
  bp : gp < base
  nbs : gb ≠ gs
  nps : gp ≠ gs
  nbp : gb ≠ gp
  sz : base ≤ w.heap.size
  box : Blk_ w gs 9 #[.string s]
  buf : Blk_ w gb 34 #[B]
  pl : Blk_ w gp 3 #[.int .i64 (p : Int)]
theorem PBx.grown {w0 w w' : World} {gs gb gp base : Nat} {s : ByteArray} {B : Value} {p : Nat} (h : PBx w0 w gs gb gp base s B p) {row : Option Nat} (hg : w.grownBy w' row) (hr : ∀ k, row = some k → base ≤ k) : PBx w0 w' gs gb gp base s B p where
  ext := h.ext.grown hg (fun k hk => by have := hr k hk; have := h.ls; have := h.bs_; omega)
  ls := h.ls
  lb := h.lb
  lp := h.lp
  bs_ := h.bs_
  bb := h.bb
  bp := h.bp
  nbs := h.nbs
  nps := h.nps
  nbp := h.nbp
  sz := Nat.le_trans h.sz hg.size
  box := h.box.grown hg (fun k hk => by have := hr k hk; have := h.bs_; omega)
  buf := h.buf.grown hg (fun k hk => by have := hr k hk; have := h.bb; omega)
  pl := h.pl.grown hg (fun k hk => by have := hr k hk; have := h.bp; omega)
theorem PBx.setPl {w0 w : World} {gs gb gp base : Nat} {s : ByteArray} {B : Value} {p : Nat} (h : PBx w0 w gs gb gp base s B p) (q : Nat) : PBx w0 (w.setCell ⟨gp, 0, none⟩ (.int .i64 (q : Int))) gs gb gp base s B q where
  ext := h.ext.setCell h.lp _
  ls := h.ls
  lb := h.lb
  lp := h.lp
  bs_ := h.bs_
  bb := h.bb
  bp := h.bp
  nbs := h.nbs
  nps := h.nps
  nbp := h.nbp
  sz := by rw [World.size_setCell]; exact h.sz
  box := h.box.far (fun e => h.nps e.symm) _
  buf := h.buf.far (fun e => h.nbp e) _
  pl := h.pl.set 0 _
theorem PBx.setBuf {w0 w : World} {gs gb gp base : Nat} {s : ByteArray} {B : Value} {p : Nat} (h : PBx w0 w gs gb gp base s B p) (B' : Value) : PBx w0 (w.setCell ⟨gb, 0, none⟩ B') gs gb gp base s B' p where
  ext := h.ext.setCell h.lb _
  ls := h.ls
  lb := h.lb
  lp := h.lp
  bs_ := h.bs_
  bb := h.bb
  bp := h.bp
  nbs := h.nbs
  nps := h.nps
  nbp := h.nbp
  sz := by rw [World.size_setCell]; exact h.sz
  box := h.box.far (fun e => h.nbs e.symm) _
  buf := h.buf.set 0 _
  pl := h.pl.far (fun e => h.nbp e.symm) _
/-- Bytes as cells. -/
def cells (o : List UInt8) : List Value := o.map fun b => Value.int .u8 (b.toNat : Int)
theorem cells_append (a b : List UInt8) : cells (a ++ b) = cells a ++ cells b := by unfold cells; exact List.map_append
theorem strCells_eq (s : ByteArray) : Lib.strCells s = cells (lst s) := rfl
section
variable {P : Program}
/-- append(b, s...): a text's bytes onto a row of the call's own. -/
theorem wp_append_str {o : Oper} {a : Act} {w : World} {K : Act → World → Prop} {Q : Exit → Act → World → Prop} (sl x : Operand) (t u : TypeId)
    (ho : o.op = .call { callee := .builtin .append, args := #[sl, x], argTypes := #[t, u] })
    (base : Nat) (e : TypeId) (i : TypeInfo) (ht : P.underlying t = some (.slice e)) (hu : P.underlying u = some .string) (hi : P.info? e = some i) (hz : i.zero = some (.int .u8 0))
    (hsize : i.size = 1) (hby : i.bytes = 1)
    (v : Value) (n : Nat) (xs : List Value) (hs : a.eval sl = v) (hown : w.ownsRow base e 1 v n xs) (s : ByteArray) (hx : a.eval x = .string s)
    (h63 : n + s.size ≤ maxLen) (hbytes : n + s.size ≤ 140737488355328) (hbase : base ≤ w.heap.size)
    (h : ∀ v' w', w'.ownsRow base e 1 v' (n + s.size) (xs ++ cells (lst s)) → w.grownBy w' v.ownBlock → K (a.put o.dst v') w') : o.wp P a w K Q := by
  obtain ⟨v', w', hr, h2, h3, h4⟩ := Lib.run_append_own_string (P := P) w base t u o.type e i ht hu hi hz hsize hby v n xs hown s h63 hbytes hbase
  unfold Oper.wp execOp
  simp only [ho, resolve, invoke, builtin, Sem.run_bind, Sem.run_pure, Result.andThen_ok, List.map_toArray, List.map_cons, List.map_nil, hs, hx, hr]
  exact h v' w' h2 h3
end
theorem plain_cons (s : ByteArray) (a b n : Nat) (hab : a < b) (hb : b ≤ s.size) (hn : n = min (b - a) 128) : plainF (sub_ s a b) = [byte ((n : Int) - 1)] ++ lst (s.extract a (a + n)) ++ plainF (sub_ s (a + n) b) := by
  have hl : (sub_ s a b).length = b - a := length_sub_ s a b hb
  have hne : sub_ s a b ≠ [] := by intro h; rw [h] at hl; simp at hl; omega
  rw [plainF.eq_def (sub_ s a b), dif_neg hne, hl, ← hn]
  have hb' : byte ((n : Int) - 1) = UInt8.ofNat (n - 1) := by
    unfold byte; congr 1; show ((n : Int) - 1).toNat = n - 1; omega
  have ht : (sub_ s a b).take 128 = lst (s.extract a (a + n)) := by
    rw [lst_ext]
    unfold sub_
    rw [List.take_drop, List.take_take]
    by_cases h : b - a ≤ 128
    · rw [show min (a + 128) b = b by omega, show a + n = b by omega]
    · rw [show min (a + 128) b = a + 128 by omega, show n = 128 by omega]
  have hd : (sub_ s a b).drop 128 = sub_ s (a + n) b := by
    unfold sub_
    rw [List.drop_drop]
    by_cases h : b - a ≤ 128
    · rw [List.drop_of_length_le (by rw [List.length_take, length_lst]; omega), List.drop_of_length_le (by rw [List.length_take, length_lst]; omega)]
    · rw [show n = 128 by omega]
  rw [hb', ht, hd]
  simp
theorem plain_none (s : ByteArray) (a b : Nat) (h : b ≤ a) : plainF (sub_ s a b) = [] := by
  have : sub_ s a b = [] := by unfold sub_; exact List.drop_of_length_le (by rw [List.length_take]; omega)
  rw [this, plain_nil]
end Go.Proofs.YtokpjgpdkmimgaaDoor

/-
  catalog.Encode: a catalog as bytes. Conditions: the argument reads as a catalog.
-/
namespace Go.Proofs.YtokpjgpdkmimgaaDoor
set_option linter.unusedSimpArgs false
set_option linter.unusedVariables false
open Go.RowKit

theorem enc_good {c : Cat} (h : catFault c = 0) : encCatS c = (bs (catBytes c), 0) := by unfold encCatS; rw [if_pos h]
theorem enc_bad {c : Cat} (h : ¬ catFault c = 0) : encCatS c = (.empty, catFault c) := by unfold encCatS; rw [if_neg h]
theorem ent_join (x : Ent) : bs [byte (x.name.size : Int)] ++ x.name ++ bs [byte x.block] ++ bs (twoB x.at_) ++ bs [byte x.bytes] = bs (entBytes x) := by
  obtain ⟨nm, b, a, n⟩ := x
  obtain ⟨q, rfl⟩ : ∃ q, nm = bs q := ⟨lst nm, (bs_lst nm).symm⟩
  unfold entBytes twoB
  simp only [lst_bs, bs_append]
  congr 1
  simp
theorem ent_len {nb : Nat} {x : Ent} (h : entBad nb x = false) : (entBytes x).length ≤ 13 := by
  have h1 := nameMay_size (entBad_false h).1
  unfold entBytes
  rw [List.length_cons, List.length_append, length_lst]
  simp only [List.length_cons, List.length_nil]
  omega
set_option maxRecDepth 100000 in
theorem two_any (n : Int) (w : World) (h0 : 0 ≤ n) (h1 : n ≤ 65535) :
    Calls Tryd.prog 61 #[.int .i64 n] w fun e w' => e = .returned (.string (bs (twoB n))) ∧ Ext w w' := by
  have hq : (0 : Int) ≤ n / 256 := by omega
  have hq2 : n / 256 ≤ 255 := by omega
  go_enter Tryd.func61, Tryd.ntmps61
  go_wp2_with fail
  go_ret
  refine ⟨?_, by first | exact ((Ext.refl _).alloc _) | exact ((Ext.refl _).alloc _).drew⟩
  rfl

set_option maxRecDepth 100000 in
set_option maxHeartbeats 8000000 in
theorem catEncode_any (cs : List Value) (d : Cat) (w : World) (h : RCat w cs d) :
    Calls Tryd.prog 27 #[.agg cs.toArray] w fun e w' => e = .returned (.tuple #[.string (encCatS d).1, .int .i64 (encCatS d).2]) ∧ Ext w w' := by
  have h' := h
  obtain ⟨v1, v2, rfl, h1, h2'⟩ := h'
  obtain ⟨A1, c1, rfl, l1, hc1, p1⟩ := h1.rowE encBlk_ok
  obtain ⟨A2, c2, rfl, l2, hc2, s1⟩ := h2'.rowE encEnt_ok
  have HP := Lib.hid p1
  have HS := Lib.hid s1
  have HH := Lib.hid h
  clear h1 h2' l1 hc1 p1 h l2 hc2 s1
  go_enter Tryd.func27, Tryd.ntmps27
  go_wp2_with fail
  refine calls_abs (fun W => Ext w W ∧ Blk_ W w.heap.size 25 #[.slice A1 d.blocks.length c1, .slice A2 d.entries.length c2]) ⟨(Ext.refl _).alloc _, Blk_.new _ _ _⟩ ?_
  rintro W ⟨hx, hb⟩
  refine (catCheck_any [.slice A1 d.blocks.length c1, .slice A2 d.entries.length c2] d W (HH.out.up hx)).mono ?_
  rintro e w1 ⟨rfl, hx1⟩
  have hb1 := hb.ext hx1
  have hxw := hx.trans hx1
  have f0 := hb1.cell 0
  have f1 := hb1.cell 1
  simp at f0 f1
  clear hb hx hx1
  by_cases hc : catFault d = 0
  · have HF := Lib.hid (enc_good hc)
    have hok := catFault_ok hc
    have HN := Lib.hid (And.intro hok.1 hok.2.1)
    have HBR := Lib.hid (blocksF_range d.blocks 8 (by omega) hok.2.2.1)
    have HER := Lib.hid (entsF_ok _ _ _ hok.2.2.2)
    rw [hc]
    have hn1 : (d.blocks.length : Int) ≤ 10 := by have := hok.1; omega
    have hn2 : (d.entries.length : Int) ≤ 10 := by have := hok.2.1; omega
    have hu1 : IntKind.u8.wrap (d.blocks.length : Int) = (d.blocks.length : Int) := by rw [IntKind.wrap_u8]; omega
    have hu2 : IntKind.u8.wrap (d.entries.length : Int) = (d.entries.length : Int) := by rw [IntKind.wrap_u8]; omega
    obtain ⟨T, hT⟩ : ∃ T, T = catBytes d := ⟨_, rfl⟩
    obtain ⟨REST, hREST⟩ : ∃ r, r = byte d.entries.length :: d.entries.flatMap entBytes := ⟨_, rfl⟩
    have HT := Lib.hid hT
    have HRE := Lib.hid hREST
    have HT0 := Lib.hid (show [byte (d.blocks.length : Int)] ++ ((d.blocks.drop 0).flatMap (fun b => twoB b.bytes) ++ REST) = T by rw [hT, hREST]; rfl)
    clear hc hok hT hREST
    have hl1 := hb1.lt
    go_wp2_with fail
    go_loopw [5, 24] (fun sv i wr => ∃ (k : Nat) (t : List UInt8), sv = .string (bs t) ∧ i = .int .i64 k ∧ k ≤ d.blocks.length ∧ t.length ≤ 1 + 2 * k ∧ Ext w wr ∧ Blk_ wr w.heap.size 25 #[.slice A1 d.blocks.length c1, .slice A2 d.entries.length c2] ∧ t ++ ((d.blocks.drop k).flatMap (fun b => twoB b.bytes) ++ REST) = T) (fun _ i _ => d.blocks.length - (intOf i).toNat)
    case atStart => exact ⟨0, [byte (d.blocks.length : Int)], rfl, rfl, Nat.zero_le _, by simp, by first | exact hxw | exact hxw.alloc _ | exact (hxw.alloc _).drew, by first | exact hb1 | exact hb1.alloc _ | exact (hb1.alloc _).drew, HT0.out⟩
    case round =>
      clear hxw hb1 f0 f1 HT0 hl1
      obtain ⟨k, t, rfl, rfl, hk, htl, hx, hb, heq⟩ := hrel
      have f0 := hb.cell 0
      have f1 := hb.cell 1
      simp at f0 f1
      have HEQ := Lib.hid heq
      clear heq
      obtain ⟨S, hS⟩ : ∃ S, S = bs t := ⟨_, rfl⟩
      have HSS := Lib.hid (show S.size = t.length by rw [hS, size_bs])
      rw [← hS]
      have HSE := Lib.hid hS
      clear hS
      by_cases hlt : k < d.blocks.length
      · obtain ⟨b1, o1, rfl, g1⟩ := HP.out k hlt
        have q0 := hx.cell (g1 k hlt 0 _ rfl)
        have q1 := hx.cell (g1 k hlt 1 _ rfl)
        simp only [Nat.add_zero] at q0
        have hB0 := HBR.out d.blocks[k] (List.getElem_mem hlt)
        have heq := HEQ.out
        rw [List.drop_eq_getElem_cons hlt, List.flatMap_cons] at heq
        obtain ⟨B, hB⟩ : ∃ B, B = d.blocks[k] := ⟨_, rfl⟩
        rw [← hB] at q0 q1 hB0 heq
        have HNX := Lib.hid (show (t ++ twoB B.bytes) ++ ((d.blocks.drop (k + 1)).flatMap (fun b => twoB b.bytes) ++ REST) = T by rw [List.append_assoc, ← List.append_assoc (twoB B.bytes)]; exact heq)
        clear g1 hB HEQ heq
        have hki : (k : Int) < (d.blocks.length : Int) := by omega
        have hk10 : (k : Int) < 10 := by have := HN.out.1; omega
        go_wp2_with fail
        refine (two_any B.bytes _ hB0.1 (by omega)).mono ?_
        rintro e w9 ⟨rfl, hx9⟩
        have HX9 := Lib.hid (hx.trans (((Ext.refl wr).alloc _).trans hx9))
        have HB9 := Lib.hid (hb.ext (((Ext.refl wr).alloc _).trans hx9))
        obtain ⟨Q, hQ⟩ : ∃ Q, Q = bs (twoB B.bytes) := ⟨_, rfl⟩
        rw [← hQ]
        have HQ := Lib.hid hQ
        have hcc : ¬ (9223372036854775807 < S.size + Q.size) := by rw [HSS.out, hQ, size_bs]; show ¬ (9223372036854775807 < t.length + 2); omega
        clear hx hb hx9 hQ f0 f1 q0 q1
        go_wp2_with fail
        go_roundw
        case rel => exact ⟨k + 1, t ++ twoB B.bytes, by rw [HSE.out, HQ.out, bs_append], by go_num, by omega, by rw [List.length_append]; show t.length + 2 ≤ _; omega, HX9.out, HB9.out, HNX.out⟩
        case measure => simp [intOf]; omega
      · have HE1 := Lib.hid (show t ++ REST = T by have := HEQ.out; rw [List.drop_of_length_le (by omega)] at this; exact this)
        clear HEQ
        have hk10 : (k : Int) ≤ 10 := by have := HN.out.1; omega
        have hcc : ¬ (9223372036854775807 < S.size + 1) := by rw [HSS.out]; omega
        have hcc' : ¬ (9223372036854775807 < S.size + (bs [byte (d.entries.length : Int)]).size) := by rw [size_bs]; exact hcc
        have HX0 := Lib.hid hx
        have HBL0 := Lib.hid hb
        have hl0 := hb.lt
        go_wp2_with fail
        go_loopw [5, 45] (fun sv i wr => ∃ (k : Nat) (t : List UInt8), sv = .string (bs t) ∧ i = .int .i64 k ∧ k ≤ d.entries.length ∧ t.length ≤ 22 + 13 * k ∧ Ext w wr ∧ Blk_ wr w.heap.size 25 #[.slice A1 d.blocks.length c1, .slice A2 d.entries.length c2] ∧ t ++ (d.entries.drop k).flatMap entBytes = T) (fun _ i _ => d.entries.length - (intOf i).toNat)
        case atStart => exact ⟨0, t ++ [byte (d.entries.length : Int)], by rw [HSE.out, bs_append], rfl, Nat.zero_le _, by rw [List.length_append]; show t.length + 1 ≤ _; have := HN.out.1; omega, by first | exact HX0.out | exact HX0.out.alloc _ | exact (HX0.out.alloc _).drew, by first | exact HBL0.out | exact HBL0.out.alloc _ | exact (HBL0.out.alloc _).drew, by have := HE1.out; rw [HRE.out] at this; rw [List.append_assoc]; exact this⟩
        case round =>
          clear hx hb hl0 f0 f1 hlt hk hk10 htl hcc hcc' HSS HSE HE1 HX0 HBL0
          obtain ⟨k, t, rfl, rfl, hk, htl, hx, hb, heq⟩ := hrel
          have f0 := hb.cell 0
          have f1 := hb.cell 1
          simp at f0 f1
          have HEQ := Lib.hid heq
          clear heq
          obtain ⟨S, hS⟩ : ∃ S, S = bs t := ⟨_, rfl⟩
          have HSS := Lib.hid (show S.size = t.length by rw [hS, size_bs])
          rw [← hS]
          have HSE := Lib.hid hS
          clear hS
          by_cases hlt : k < d.entries.length
          · obtain ⟨b2, o2, rfl, g1⟩ := HS.out k hlt
            have q0 := hx.cell (g1 k hlt 0 _ rfl)
            have q1 := hx.cell (g1 k hlt 1 _ rfl)
            have q2 := hx.cell (g1 k hlt 2 _ rfl)
            have q3 := hx.cell (g1 k hlt 3 _ rfl)
            simp only [Nat.add_zero] at q0
            have hX0 := HER.out d.entries[k] (List.getElem_mem hlt)
            have heq := HEQ.out
            rw [List.drop_eq_getElem_cons hlt, List.flatMap_cons] at heq
            obtain ⟨X, hX⟩ : ∃ X, X = d.entries[k] := ⟨_, rfl⟩
            rw [← hX] at q0 q1 q2 q3 hX0 heq
            have hXL := ent_len hX0
            have hXB := entBad_false hX0
            have hXN := nameMay_size hXB.1
            have HNX := Lib.hid (show (t ++ entBytes X) ++ (d.entries.drop (k + 1)).flatMap entBytes = T by rw [List.append_assoc]; exact heq)
            have HXL := Lib.hid hXL
            have hb10 : X.block < 10 := by have := hXB.2.2.1; have := HN.out.1; omega
            obtain ⟨_, hb0, _, ha0, ha1, hn0, hn1'⟩ := hXB
            clear g1 hX HEQ heq hX0 hXL
            have hki : (k : Int) < (d.entries.length : Int) := by omega
            have hk10 : (k : Int) < 10 := by have := HN.out.2; omega
            obtain ⟨Q, hQ⟩ : ∃ Q, Q = bs (twoB X.at_) := ⟨_, rfl⟩
            have HQS := Lib.hid (show Q.size = 2 by rw [hQ, size_bs]; rfl)
            have HQ := Lib.hid hQ
            have HJ := Lib.hid (show S ++ (bs [byte (X.name.size : Int)] ++ X.name ++ bs [byte X.block] ++ Q ++ bs [byte X.bytes]) = bs (t ++ entBytes X) by rw [hQ, ent_join, HSE.out, bs_append])
            clear hQ
            have hk10' : k < 10 := by omega
            go_wp2_with fail
            refine wp_abs (fun W => Ext wr W ∧ Blk_ W wr.heap.size 58 #[.string X.name, .int .i64 X.block, .int .i64 X.at_, .int .i64 X.bytes]) ⟨(Ext.refl _).alloc _, Blk_.new _ _ _⟩ ?_
            rintro W1 ⟨hx1, hbx⟩
            have e0 := hbx.cell 0
            have e1 := hbx.cell 1
            have e2 := hbx.cell 2
            have e3 := hbx.cell 3
            simp at e0 e1 e2 e3
            have HX1 := Lib.hid (hx.trans hx1)
            have HB1 := Lib.hid (hb.ext hx1)
            clear hx hb hx1 hbx f0 f1 q0 q1 q2 q3
            refine wp_region_vals (F := ?_) ?_ [(fun (v : Value) (_ : World) => v = .string S), (fun (v : Value) (_ : World) => v = .pointer (some ⟨wr.heap.size, 0, none⟩)), (fun (v : Value) (_ : World) => v = .string X.name), (fun (v : Value) (_ : World) => v = .int .i64 (X.name.size : Int)), (fun (v : Value) (_ : World) => v = .int .u8 (X.name.size : Int)), (fun v w => ∃ g, v = .slice (some ⟨g, 0, none⟩) 1 1 ∧ Blk_ w g 5 #[.int .u8 (X.name.size : Int)]), (fun (v : Value) (_ : World) => v = .string (bs [byte (X.name.size : Int)])), (fun (v : Value) (_ : World) => v = .pointer (some ⟨wr.heap.size, 0, none⟩)), (fun (v : Value) (_ : World) => v = .string X.name), (fun (v : Value) (_ : World) => v = .string (bs [byte (X.name.size : Int)] ++ X.name)), (fun (v : Value) (_ : World) => v = .pointer (some ⟨wr.heap.size, 1, none⟩)), (fun (v : Value) (_ : World) => v = .int .i64 X.block), (fun (v : Value) (_ : World) => v = .int .u8 X.block), (fun v w => ∃ g, v = .slice (some ⟨g, 0, none⟩) 1 1 ∧ Blk_ w g 5 #[.int .u8 X.block]), (fun (v : Value) (_ : World) => v = .string (bs [byte X.block])), (fun (v : Value) (_ : World) => v = .string (bs [byte (X.name.size : Int)] ++ X.name ++ bs [byte X.block])), (fun (v : Value) (_ : World) => v = .pointer (some ⟨wr.heap.size, 2, none⟩)), (fun (v : Value) (_ : World) => v = .int .i64 X.at_), (fun (v : Value) (_ : World) => v = .string Q), (fun (v : Value) (_ : World) => v = .string (bs [byte (X.name.size : Int)] ++ X.name ++ bs [byte X.block] ++ Q)), (fun (v : Value) (_ : World) => v = .pointer (some ⟨wr.heap.size, 3, none⟩)), (fun (v : Value) (_ : World) => v = .int .i64 X.bytes), (fun (v : Value) (_ : World) => v = .int .u8 X.bytes), (fun v w => ∃ g, v = .slice (some ⟨g, 0, none⟩) 1 1 ∧ Blk_ w g 5 #[.int .u8 X.bytes]), (fun (v : Value) (_ : World) => v = .string (bs [byte X.bytes])), (fun (v : Value) (_ : World) => v = .string (bs [byte (X.name.size : Int)] ++ X.name ++ bs [byte X.block] ++ Q ++ bs [byte X.bytes])), (fun (v : Value) (_ : World) => v = .string (S ++ (bs [byte (X.name.size : Int)] ++ X.name ++ bs [byte X.block] ++ Q ++ bs [byte X.bytes]))), (fun (v : Value) (_ : World) => v = .string (S ++ (bs [byte (X.name.size : Int)] ++ X.name ++ bs [byte X.block] ++ Q ++ bs [byte X.bytes])))] (by kernel_rfl) (by kernel_rfl) ?_ ?_ ?_
            rotate_left
            · intro vals
              simp only [putAll, Act.put, List.setIfInBounds_toArray, List.set_cons_zero, List.set_cons_succ, Nat.zero_add, Nat.reduceAdd]
              rfl
            · simp only [List.forall_mem_cons]
              exact ⟨fun _ _ _ h _ => h, fun _ _ _ h _ => h, fun _ _ _ h _ => h, fun _ _ _ h _ => h, fun _ _ _ h _ => h, fun _ _ _ h e => (by obtain ⟨g, hg, hb⟩ := h; exact ⟨g, hg, hb.ext e⟩), fun _ _ _ h _ => h, fun _ _ _ h _ => h, fun _ _ _ h _ => h, fun _ _ _ h _ => h, fun _ _ _ h _ => h, fun _ _ _ h _ => h, fun _ _ _ h _ => h, fun _ _ _ h e => (by obtain ⟨g, hg, hb⟩ := h; exact ⟨g, hg, hb.ext e⟩), fun _ _ _ h _ => h, fun _ _ _ h _ => h, fun _ _ _ h _ => h, fun _ _ _ h _ => h, fun _ _ _ h _ => h, fun _ _ _ h _ => h, fun _ _ _ h _ => h, fun _ _ _ h _ => h, fun _ _ _ h _ => h, fun _ _ _ h e => (by obtain ⟨g, hg, hb⟩ := h; exact ⟨g, hg, hb.ext e⟩), fun _ _ _ h _ => h, fun _ _ _ h _ => h, fun _ _ _ h _ => h, fun _ _ _ h _ => h, fun _ h => (by cases h)⟩
            · refine ⟨?_, ?_, ?_, ?_, ?_, ?_, ?_, ?_, ?_, ?_, ?_, ?_, ?_, ?_, ?_, ?_, ?_, ?_, ?_, ?_, ?_, ?_, ?_, ?_, ?_, ?_, ?_, ?_, trivial⟩
              · intro vals W e hd ho K hK
                have o27 : vals 27 = .string S := ho 27 (by kernel_rfl)
                refine st_quiet (v := ?_) ?_ ?_
                rotate_left
                · go_simp
                  rfl
                exact hK _ _ _ rfl (by first | exact rfl | exact congrArg (Value.int _) (by first | (rw [IntKind.wrap_i64]; omega) | (rw [IntKind.wrap_u8]; omega) | omega)) (Ext.refl _)
              · intro vals W e hd ho K hK
                refine st_quiet (v := ?_) ?_ ?_
                rotate_left
                · go_simp
                  rfl
                exact hK _ _ _ rfl (by first | exact rfl | exact congrArg (Value.int _) (by first | (rw [IntKind.wrap_i64]; omega) | (rw [IntKind.wrap_u8]; omega) | omega)) (Ext.refl _)
              · intro vals W e hd ho K hK
                have h1 : vals 1 = .pointer (some ⟨wr.heap.size, 0, none⟩) := hd 1 (by kernel_rfl)
                have cc := e.cell e0
                refine st_quiet (v := ?_) ?_ ?_
                rotate_left
                · go_simp
                  rfl
                exact hK _ _ _ rfl rfl (Ext.refl _)
              · intro vals W e hd ho K hK
                have h2 : vals 2 = .string X.name := hd 2 (by kernel_rfl)
                refine st_quiet (v := ?_) ?_ ?_
                rotate_left
                · go_simp
                  rfl
                exact hK _ _ _ rfl (by first | exact rfl | exact congrArg (Value.int _) (by first | (rw [IntKind.wrap_i64]; omega) | (rw [IntKind.wrap_u8]; omega) | omega)) (Ext.refl _)
              · intro vals W e hd ho K hK
                have h3 : vals 3 = .int .i64 (X.name.size : Int) := hd 3 (by kernel_rfl)
                refine st_quiet (v := ?_) ?_ ?_
                rotate_left
                · go_simp
                  rfl
                exact hK _ _ _ rfl (by first | exact rfl | exact congrArg (Value.int _) (by first | (rw [IntKind.wrap_i64]; omega) | (rw [IntKind.wrap_u8]; omega) | omega)) (Ext.refl _)
              · intro vals W e hd ho K hK
                have h4 : vals 4 = .int .u8 (X.name.size : Int) := hd 4 (by kernel_rfl)
                go_wp2_with fail
                exact hK _ _ _ (by first | rfl | (simp only [h4]; rfl)) ⟨W.heap.size, rfl, Blk_.new _ _ _⟩ ((Ext.refl W).alloc _)
              · intro vals W e hd ho K hK
                obtain ⟨g5, h5, b5⟩ := hd 5 (by kernel_rfl)
                refine wp_conv1 (.tmp 54) 34 9 5 rfl Tryd.underlying34 Tryd.underlying5 Tryd.underlying9 g5 _ (by go_simp; try rfl) b5 ?_
                exact hK _ _ _ rfl rfl (Ext.refl _)
              · intro vals W e hd ho K hK
                refine st_quiet (v := ?_) ?_ ?_
                rotate_left
                · go_simp
                  rfl
                exact hK _ _ _ rfl (by first | exact rfl | exact congrArg (Value.int _) (by first | (rw [IntKind.wrap_i64]; omega) | (rw [IntKind.wrap_u8]; omega) | omega)) (Ext.refl _)
              · intro vals W e hd ho K hK
                have h7 : vals 7 = .pointer (some ⟨wr.heap.size, 0, none⟩) := hd 7 (by kernel_rfl)
                have cc := e.cell e0
                refine st_quiet (v := ?_) ?_ ?_
                rotate_left
                · go_simp
                  rfl
                exact hK _ _ _ rfl rfl (Ext.refl _)
              · intro vals W e hd ho K hK
                have h6 : vals 6 = .string (bs [byte (X.name.size : Int)]) := hd 6 (by kernel_rfl)
                have h8 : vals 8 = .string X.name := hd 8 (by kernel_rfl)
                refine st_concat (.tmp 55) (.tmp 57) _ _ _ _ rfl h6 h8 (by rw [size_bs]; simp only [List.length_cons, List.length_nil]; omega) ?_
                exact hK _ _ _ rfl rfl (Ext.refl _)
              · intro vals W e hd ho K hK
                refine st_quiet (v := ?_) ?_ ?_
                rotate_left
                · go_simp
                  rfl
                exact hK _ _ _ rfl (by first | exact rfl | exact congrArg (Value.int _) (by first | (rw [IntKind.wrap_i64]; omega) | (rw [IntKind.wrap_u8]; omega) | omega)) (Ext.refl _)
              · intro vals W e hd ho K hK
                have h10 : vals 10 = .pointer (some ⟨wr.heap.size, 1, none⟩) := hd 10 (by kernel_rfl)
                have cc := e.cell e1
                refine st_quiet (v := ?_) ?_ ?_
                rotate_left
                · go_simp
                  rfl
                exact hK _ _ _ rfl rfl (Ext.refl _)
              · intro vals W e hd ho K hK
                have h11 : vals 11 = .int .i64 X.block := hd 11 (by kernel_rfl)
                refine st_quiet (v := ?_) ?_ ?_
                rotate_left
                · go_simp
                  rfl
                exact hK _ _ _ rfl (by first | exact rfl | exact congrArg (Value.int _) (by first | (rw [IntKind.wrap_i64]; omega) | (rw [IntKind.wrap_u8]; omega) | omega)) (Ext.refl _)
              · intro vals W e hd ho K hK
                have h12 : vals 12 = .int .u8 X.block := hd 12 (by kernel_rfl)
                go_wp2_with fail
                exact hK _ _ _ (by first | rfl | (simp only [h12]; rfl)) ⟨W.heap.size, rfl, Blk_.new _ _ _⟩ ((Ext.refl W).alloc _)
              · intro vals W e hd ho K hK
                obtain ⟨g13, h13, b13⟩ := hd 13 (by kernel_rfl)
                refine wp_conv1 (.tmp 62) 34 9 5 rfl Tryd.underlying34 Tryd.underlying5 Tryd.underlying9 g13 _ (by go_simp; try rfl) b13 ?_
                exact hK _ _ _ rfl rfl (Ext.refl _)
              · intro vals W e hd ho K hK
                have h9 : vals 9 = .string (bs [byte (X.name.size : Int)] ++ X.name) := hd 9 (by kernel_rfl)
                have h14 : vals 14 = .string (bs [byte X.block]) := hd 14 (by kernel_rfl)
                refine st_concat (.tmp 58) (.tmp 63) _ _ _ _ rfl h9 h14 (by rw [ByteArray.size_append, size_bs, size_bs]; simp only [List.length_cons, List.length_nil]; omega) ?_
                exact hK _ _ _ rfl rfl (Ext.refl _)
              · intro vals W e hd ho K hK
                refine st_quiet (v := ?_) ?_ ?_
                rotate_left
                · go_simp
                  rfl
                exact hK _ _ _ rfl (by first | exact rfl | exact congrArg (Value.int _) (by first | (rw [IntKind.wrap_i64]; omega) | (rw [IntKind.wrap_u8]; omega) | omega)) (Ext.refl _)
              · intro vals W e hd ho K hK
                have h16 : vals 16 = .pointer (some ⟨wr.heap.size, 2, none⟩) := hd 16 (by kernel_rfl)
                have cc := e.cell e2
                refine st_quiet (v := ?_) ?_ ?_
                rotate_left
                · go_simp
                  rfl
                exact hK _ _ _ rfl rfl (Ext.refl _)
              · intro vals W e hd ho K hK
                have h17 : vals 17 = .int .i64 X.at_ := hd 17 (by kernel_rfl)
                go_wp2_with fail
                refine (two_any X.at_ _ ha0 (by omega)).mono ?_
                rintro e' W' ⟨rfl, h'⟩
                exact hK _ _ _ (by first | rfl | (simp only [h17]; rfl)) (congrArg Value.string HQ.out.symm) h'
              · intro vals W e hd ho K hK
                have h15 : vals 15 = .string (bs [byte (X.name.size : Int)] ++ X.name ++ bs [byte X.block]) := hd 15 (by kernel_rfl)
                have h18 : vals 18 = .string Q := hd 18 (by kernel_rfl)
                refine st_concat (.tmp 64) (.tmp 67) _ _ _ _ rfl h15 h18 (by have := HQS.out; rw [ByteArray.size_append, ByteArray.size_append, size_bs, size_bs]; simp only [List.length_cons, List.length_nil]; omega) ?_
                exact hK _ _ _ rfl rfl (Ext.refl _)
              · intro vals W e hd ho K hK
                refine st_quiet (v := ?_) ?_ ?_
                rotate_left
                · go_simp
                  rfl
                exact hK _ _ _ rfl (by first | exact rfl | exact congrArg (Value.int _) (by first | (rw [IntKind.wrap_i64]; omega) | (rw [IntKind.wrap_u8]; omega) | omega)) (Ext.refl _)
              · intro vals W e hd ho K hK
                have h20 : vals 20 = .pointer (some ⟨wr.heap.size, 3, none⟩) := hd 20 (by kernel_rfl)
                have cc := e.cell e3
                refine st_quiet (v := ?_) ?_ ?_
                rotate_left
                · go_simp
                  rfl
                exact hK _ _ _ rfl rfl (Ext.refl _)
              · intro vals W e hd ho K hK
                have h21 : vals 21 = .int .i64 X.bytes := hd 21 (by kernel_rfl)
                refine st_quiet (v := ?_) ?_ ?_
                rotate_left
                · go_simp
                  rfl
                exact hK _ _ _ rfl (by first | exact rfl | exact congrArg (Value.int _) (by first | (rw [IntKind.wrap_i64]; omega) | (rw [IntKind.wrap_u8]; omega) | omega)) (Ext.refl _)
              · intro vals W e hd ho K hK
                have h22 : vals 22 = .int .u8 X.bytes := hd 22 (by kernel_rfl)
                go_wp2_with fail
                exact hK _ _ _ (by first | rfl | (simp only [h22]; rfl)) ⟨W.heap.size, rfl, Blk_.new _ _ _⟩ ((Ext.refl W).alloc _)
              · intro vals W e hd ho K hK
                obtain ⟨g23, h23, b23⟩ := hd 23 (by kernel_rfl)
                refine wp_conv1 (.tmp 72) 34 9 5 rfl Tryd.underlying34 Tryd.underlying5 Tryd.underlying9 g23 _ (by go_simp; try rfl) b23 ?_
                exact hK _ _ _ rfl rfl (Ext.refl _)
              · intro vals W e hd ho K hK
                have h19 : vals 19 = .string (bs [byte (X.name.size : Int)] ++ X.name ++ bs [byte X.block] ++ Q) := hd 19 (by kernel_rfl)
                have h24 : vals 24 = .string (bs [byte X.bytes]) := hd 24 (by kernel_rfl)
                refine st_concat (.tmp 68) (.tmp 73) _ _ _ _ rfl h19 h24 (by have := HQS.out; rw [ByteArray.size_append, ByteArray.size_append, ByteArray.size_append, size_bs, size_bs, size_bs]; simp only [List.length_cons, List.length_nil]; omega) ?_
                exact hK _ _ _ rfl rfl (Ext.refl _)
              · intro vals W e hd ho K hK
                have h0 : vals 0 = .string S := hd 0 (by kernel_rfl)
                have h25 : vals 25 = .string (bs [byte (X.name.size : Int)] ++ X.name ++ bs [byte X.block] ++ Q ++ bs [byte X.bytes]) := hd 25 (by kernel_rfl)
                refine st_concat (.tmp 49) (.tmp 74) _ _ _ _ rfl h0 h25 (by have := HQS.out; have := HSS.out; have := HN.out.2; rw [ByteArray.size_append, ByteArray.size_append, ByteArray.size_append, ByteArray.size_append, size_bs, size_bs, size_bs]; simp only [List.length_cons, List.length_nil]; omega) ?_
                exact hK _ _ _ rfl rfl (Ext.refl _)
              · intro vals W e hd ho K hK
                have h26 : vals 26 = .string (S ++ (bs [byte (X.name.size : Int)] ++ X.name ++ bs [byte X.block] ++ Q ++ bs [byte X.bytes])) := hd 26 (by kernel_rfl)
                refine st_quiet (v := ?_) ?_ ?_
                rotate_left
                · go_simp
                  rfl
                exact hK _ _ _ rfl (by first | exact rfl | exact congrArg (Value.int _) (by first | (rw [IntKind.wrap_i64]; omega) | (rw [IntKind.wrap_u8]; omega) | omega)) (Ext.refl _)
            intro vals W e hall
            have h27 : vals 27 = .string (S ++ (bs [byte (X.name.size : Int)] ++ X.name ++ bs [byte X.block] ++ Q ++ bs [byte X.bytes])) := hall 27 (by decide)
            rw [HJ.out] at h27
            go_wp2_with fail
            go_roundw
            case rel => exact ⟨k + 1, t ++ entBytes X, h27, by go_num, by omega, by rw [List.length_append]; have := HXL.out; omega, HX1.out.trans ((Ext.refl _).drew.trans e), HB1.out.ext ((Ext.refl _).drew.trans e), HNX.out⟩
            case measure => simp [intOf]; omega
          · have HE2 := Lib.hid (show t = T by have := HEQ.out; rw [List.drop_of_length_le (by omega)] at this; simpa using this)
            clear HEQ
            have hk10 : (k : Int) ≤ 10 := by have := HN.out.2; omega
            go_wp2_with fail
            go_ret2
            rw [HF.out, HSE.out, HE2.out, HT.out]
            exact ⟨rfl, hx⟩
  · have HF := Lib.hid (enc_bad hc)
    have hc' : (catFault d != 0) = true := by simpa using hc
    clear hc hb1
    generalize catFault d = t at *
    go_wp2_with fail
    go_ret2
    rw [HF.out]
    exact ⟨rfl, hxw⟩
end Go.Proofs.YtokpjgpdkmimgaaDoor

/-
  A number from 0 to many - 1, out of any number. Conditions: many is more than 0.
-/
namespace Go.Proofs.YtokpjgpdkmimgaaDoor
set_option linter.unusedSimpArgs false
set_option linter.unusedVariables false
open Go.RowKit

def pick (n many : Int) : Int := (if n < 0 then -(n + 1) else n) % many
theorem pick_range (n many : Int) (h : 0 < many) : 0 ≤ pick n many ∧ pick n many < many := ⟨Int.emod_nonneg _ (by omega), Int.emod_lt_of_pos _ h⟩
set_option maxRecDepth 100000 in
theorem picked_any (n many : Int) (w : World) (hn : I64 n) (h0 : 0 < many) (h1 : many ≤ 140737488355328) :
    Calls Tryd.prog 16 #[.int .i64 n, .int .i64 many] w fun e w' => e = .returned (.int .i64 (pick n many)) ∧ w' = w := by
  have hne : (many == 0) = false := beq_false_of_ne (by omega)
  have hne2 : ¬ many = 0 := by omega
  have hnm : ¬ many = -1 := by omega
  have hr := pick_range n many h0
  unfold I64 at hn
  by_cases h : n < 0
  · have hp : pick n many = (-(n + 1)) % many := by unfold pick; rw [if_pos h]
    have t1 : decide (n < 0) = true := decide_eq_true h
    obtain ⟨m, hm⟩ : ∃ m, m = -(n + 1) := ⟨_, rfl⟩
    have y1 : IntKind.i64.wrap (n + 1) = -m := by rw [IntKind.wrap_i64]; omega
    have y2 : IntKind.i64.wrap (- -m) = m := by rw [IntKind.wrap_i64]; omega
    have y2' : IntKind.i64.wrap m = m := by rw [IntKind.wrap_i64]; omega
    have hm0 : 0 ≤ m := by omega
    have y3 : IntKind.i64.wrap (m % many) = m % many := by rw [IntKind.wrap_i64]; rw [hp, ← hm] at hr; omega
    have y4 : Int.tmod m many = m % many := Int.tmod_eq_emod_of_nonneg hm0
    rw [hp, ← hm]
    rw [hp, ← hm] at hr
    have y5 : n + 1 = -m := by omega
    have hb1 : m ≤ 9223372036854775807 := by omega
    have hb2 : -9223372036854775808 ≤ n + 1 := by omega
    have hb3 : n + 1 ≤ 9223372036854775807 := by omega
    clear hm hp h
    go_enter Tryd.func16, Tryd.ntmps16
    go_wp2_with fail
    go_ret
    exact ⟨by first | rfl | (rw [y4, y3]) | (congr 3; omega), rfl⟩
  · have hp : pick n many = n % many := by unfold pick; rw [if_neg h]
    have t1 : decide (n < 0) = false := decide_eq_false h
    have hn0 : 0 ≤ n := by omega
    have y3 : IntKind.i64.wrap (n % many) = n % many := by rw [IntKind.wrap_i64]; rw [hp] at hr; omega
    have y4 : Int.tmod n many = n % many := Int.tmod_eq_emod_of_nonneg hn0
    rw [hp]
    rw [hp] at hr
    go_enter Tryd.func16, Tryd.ntmps16
    go_wp2_with fail
    go_ret
    exact ⟨by first | rfl | (rw [y4, y3]), rfl⟩
end Go.Proofs.YtokpjgpdkmimgaaDoor
