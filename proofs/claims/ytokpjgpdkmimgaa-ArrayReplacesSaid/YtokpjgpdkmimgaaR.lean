/-
  A region that draws its order and ends in one operation that waits for all others: that one may be walked behind the region of the others. Conditions: the edges say so.
-/
import Derived.Orders
import Derived.OrdersHeld
import Derived.Tactics
namespace Go.Proofs.Ytokpjgpdkmimgaa
set_option linter.unusedSimpArgs false
set_option linter.unusedVariables false

/-- The last operation waits for all others, and the others for none behind them. -/
def lastForced (l : List Oper) (o : Oper) : Bool :=
  ((List.range l.length).all (fun j => o.after.any fun e => Region.binds .any e && e.on == j) && o.after.all (fun e => !Region.binds .any e || decide (e.on < l.length))) && o.guard.isNone &&
  (List.range l.length).all (fun i => ((l[i]?).map fun x => x.after.all (fun e => !Region.binds .any e || decide (e.on < i)) && (match x.guard with | none => true | some (j, _) => decide (j < l.length))).getD true)

/-- The post of the region of the others: behind them the last one. -/
def LastQ (P : Program) (o : Oper) (Q : Exit → Act → World → Prop) : Exit → Act → World → Prop
  | .normal, a, w => o.wp P a w (Q .normal) Q
  | e, a, w => Q e a w

section
variable {P : Program} {Q : Exit → Act → World → Prop} {l : List Oper} {o : Oper}
theorem wp_lastQ {x : Oper} {a : Act} {w : World} {K K' : Act → World → Prop} (h : ∀ a w, K a w → K' a w) (hh : x.wp P a w K (LastQ P o Q)) : x.wp P a w K' Q := by
  unfold Oper.wp at *
  generalize (execOp a.eval x).run P w = r at *
  cases r with
  | ok n w' =>
    cases n <;> simp only [Oper.upon] at hh ⊢ <;>
      first
        | exact h _ _ hh
        | exact Calls.mono hh (fun e w'' he => by cases e <;> first | exact h _ _ he | exact he)
        | exact Rows.mono hh (fun _ _ he => h _ _ he)
  | halt x w' => cases x <;> simp only [Oper.upon] at hh ⊢ <;> exact hh
theorem lets_lastQ (h : LetsOut (LastQ P o Q)) : LetsOut Q := h

theorem ready_mem {md : Region.Mode} {ops : Array Oper} {listed : Array Bool} {i : Nat} :
    i ∈ Region.ready md ops listed ↔ i < ops.size ∧ listed.getD i true = false ∧ ∃ x, ops[i]? = some x ∧ ∀ e ∈ x.after, Region.binds md e = true → listed.getD e.on false = true := by
  unfold Region.ready
  rw [List.mem_filter, List.mem_range]
  constructor
  · rintro ⟨h1, h2⟩
    rw [Bool.and_eq_true, Bool.not_eq_true'] at h2
    obtain ⟨x, hx⟩ : ∃ x, ops[i]? = some x := ⟨ops[i], Array.getElem?_eq_getElem h1⟩
    refine ⟨h1, h2.1, x, hx, fun e he hb => ?_⟩
    have h3 := h2.2
    rw [hx] at h3
    simp only [Option.map_some, Option.getD_some, Array.all_eq_true_iff_forall_mem] at h3
    have := h3 e he
    simpa [hb] using this
  · rintro ⟨h1, h2, x, hx, h3⟩
    refine ⟨h1, ?_⟩
    rw [Bool.and_eq_true, Bool.not_eq_true', hx]
    refine ⟨h2, ?_⟩
    simp only [Option.map_some, Option.getD_some, Array.all_eq_true_iff_forall_mem]
    intro e he
    by_cases hb : Region.binds md e = true
    · simp [h3 e he hb]
    · simp [hb]

theorem getD_push_lt {b : Array Bool} {i : Nat} (h : i < b.size) (d : Bool) : (b.push false).getD i d = b.getD i d := by
  simp [Array.getD_eq_getD_getElem?, Array.getElem?_push, Nat.ne_of_lt h]
theorem getD_push_eq {b : Array Bool} {n : Nat} (h : b.size = n) (d : Bool) : (b.push false).getD n d = false := by
  subst h
  simp [Array.getD_eq_getD_getElem?, Array.getElem?_push]

theorem set_push {b : Array Bool} {i : Nat} (h : i < b.size) : (b.push false).setIfInBounds i true = (b.setIfInBounds i true).push false := by
  apply Array.ext_getElem?
  intro k
  simp only [Array.getElem?_setIfInBounds, Array.getElem?_push, Array.size_setIfInBounds, Array.size_push]
  by_cases h1 : i = k
  · subst h1
    simp [h, Nat.ne_of_lt h]
    omega
  · simp [h1]
theorem wanted_last (hg : ∀ (x : Oper) j b, x.guard = some (j, b) → j < l.length → True) {x : Oper} (h : ∀ j b, x.guard = some (j, b) → j < l.length) (tmps : Array Value) :
    Region.wanted x (yielded (l ++ [o]).toArray tmps) = Region.wanted x (yielded l.toArray tmps) := by
  unfold Region.wanted
  cases hx : x.guard with
  | none => rfl
  | some p =>
    obtain ⟨j, b⟩ := p
    have hj := h j b hx
    have : (l ++ [o]).toArray[j]? = l.toArray[j]? := by simp [List.getElem?_append_left hj]
    simp only [yielded, this]
theorem ready_done {ops : Array Oper} {listed : Array Bool} (h : ∀ i, i < ops.size → listed.getD i true = true) : Region.ready .any ops listed = [] := by
  apply List.eq_nil_iff_forall_not_mem.2
  intro i hi
  obtain ⟨h1, h2, _⟩ := ready_mem.1 hi
  rw [h i h1] at h2
  cases h2
theorem wpAny_last (hf : lastForced l o = true) : ∀ (fuel : Nat) (listed : Array Bool) (a : Act) (w : World), listed.size = l.length →
    wpAny P .any l.toArray (LastQ P o Q) fuel listed a w → wpAny P .any (l ++ [o]).toArray Q (fuel + 1) (listed.push false) a w := by
  unfold lastForced at hf
  rw [Bool.and_eq_true, Bool.and_eq_true, Bool.and_eq_true] at hf
  obtain ⟨⟨⟨hwait, hin⟩, hguard⟩, hback⟩ := hf
  have hwait' : ∀ j, j < l.length → ∃ e ∈ o.after, Region.binds .any e = true ∧ e.on = j := by
    intro j hj
    have := List.all_eq_true.1 hwait j (List.mem_range.2 hj)
    rw [Array.any_eq_true'] at this
    obtain ⟨e, he, h⟩ := this
    rw [Bool.and_eq_true, beq_iff_eq] at h
    exact ⟨e, he, h.1, h.2⟩
  have hin' : ∀ e ∈ o.after, Region.binds .any e = true → e.on < l.length := by
    intro e he hb
    rw [Array.all_eq_true_iff_forall_mem] at hin
    have := hin e he
    simpa [hb] using this
  have hback' : ∀ i x, l[i]? = some x → (∀ e ∈ x.after, Region.binds .any e = true → e.on < i) ∧ (∀ j b, x.guard = some (j, b) → j < l.length) := by
    intro i x hx
    have hi : i < l.length := (List.getElem?_eq_some_iff.1 hx).1
    have := List.all_eq_true.1 hback i (List.mem_range.2 hi)
    rw [hx] at this
    simp only [Option.map_some, Option.getD_some, Bool.and_eq_true, Array.all_eq_true_iff_forall_mem] at this
    refine ⟨fun e he hb => ?_, fun j b hg => ?_⟩
    · have := this.1 e he
      simpa [hb] using this
    · have := this.2
      rw [hg] at this
      simpa using this
  have hops : ∀ i, i < l.length → (l ++ [o]).toArray[i]? = l.toArray[i]? := by
    intro i hi
    simp [List.getElem?_append_left hi]
  have hlast : (l ++ [o]).toArray[l.length]? = some o := by simp
  have hgn : o.guard = none := by cases h : o.guard <;> simp_all
  have final : ∀ (fuel : Nat) (listed : Array Bool) (a : Act) (w : World), listed.size = l.length → Region.ready .any l.toArray listed = [] → LastQ P o Q .normal a w →
      wpAny P .any (l ++ [o]).toArray Q (fuel + 1) (listed.push false) a w := by
    intro fuel listed a w hsz hr hq
    have hall : ∀ i, i < l.length → listed.getD i true = true := by
      intro i
      induction i using Nat.strongRecOn with
      | ind i ih =>
        intro hi
        cases hb : listed.getD i true with
        | true => rfl
        | false =>
          have : i ∈ Region.ready .any l.toArray listed := by
            rw [ready_mem]
            refine ⟨by simpa using hi, hb, l[i], by simp [hi], fun e he hbd => ?_⟩
            have hlt := (hback' i _ (List.getElem?_eq_getElem hi)).1 e he hbd
            have := ih e.on hlt (by omega)
            have hin : e.on < listed.size := by omega
            simpa [Array.getD_eq_getD_getElem?, hin] using this
          rw [hr] at this
          cases this
    have hlastready : ∀ i, i ∈ Region.ready .any (l ++ [o]).toArray (listed.push false) → i = l.length := by
      intro i hi
      obtain ⟨h1, h2, _⟩ := ready_mem.1 hi
      simp at h1
      by_cases he : i = l.length
      · exact he
      · have hlt : i < l.length := by omega
        rw [getD_push_lt (by omega)] at h2
        rw [hall i hlt] at h2
        cases h2
    have hmem : l.length ∈ Region.ready .any (l ++ [o]).toArray (listed.push false) := by
      rw [ready_mem]
      refine ⟨by simp, getD_push_eq hsz true, o, hlast, fun e he hbd => ?_⟩
      have hlt := hin' e he hbd
      have := hall e.on hlt
      rw [getD_push_lt (by omega)]
      have hin : e.on < listed.size := by omega
      simpa [Array.getD_eq_getD_getElem?, hin] using this
    refine ⟨fun h => (by rw [h] at hmem; cases hmem), fun i hi => ?_⟩
    have hie := hlastready i hi
    subst hie
    unfold wpOp
    rw [hlast]
    simp only
    rw [if_pos (by simp [Region.wanted, hgn])]
    left
    refine Oper.wp_mono (fun a' w' hq' => ?_) hq
    have hdone : Region.ready .any (l ++ [o]).toArray ((listed.push false).setIfInBounds l.length true) = [] := by
      apply ready_done
      intro i hi
      simp at hi
      by_cases he : i = l.length
      · subst he
        simp [Array.getD_eq_getD_getElem?, hsz]
      · have hlt : i < l.length := by omega
        have := hall i hlt
        have hin : i < listed.size := by omega
        simp [Array.getD_eq_getD_getElem?, hin] at this
        simp [Array.getD_eq_getD_getElem?, Array.getElem?_setIfInBounds, Ne.symm he, Array.getElem?_push, Nat.ne_of_lt hin, hin, this]
    cases fuel with
    | zero => exact ⟨hdone, hq'⟩
    | succ fuel => exact ⟨fun _ => hq', by rw [hdone]; simp⟩
  intro fuel
  induction fuel with
  | zero => exact fun listed a w hsz h => final 0 listed a w hsz h.1 h.2
  | succ fuel ih =>
    intro listed a w hsz h
    by_cases hr : Region.ready .any l.toArray listed = []
    · exact final (fuel + 1) listed a w hsz hr (h.1 hr)
    · have hsub : ∀ i, i ∈ Region.ready .any l.toArray listed → i ∈ Region.ready .any (l ++ [o]).toArray (listed.push false) := by
        intro i hi
        obtain ⟨h1, h2, x, hx, h3⟩ := ready_mem.1 hi
        simp at h1
        rw [ready_mem]
        refine ⟨by simp; omega, by rw [getD_push_lt (by omega)]; exact h2, x, by rw [hops i h1]; exact hx, fun e he hb => ?_⟩
        have hlt := (hback' i x (by simpa using hx)).1 e he hb
        rw [getD_push_lt (by omega)]
        exact h3 e he hb
      have hsup : ∀ i, i ∈ Region.ready .any (l ++ [o]).toArray (listed.push false) → i ∈ Region.ready .any l.toArray listed := by
        intro i hi
        obtain ⟨h1, h2, x, hx, h3⟩ := ready_mem.1 hi
        simp at h1
        have hlt : i < l.length := by
          rcases Nat.lt_or_ge i l.length with h | h
          · exact h
          · exfalso
            have hie : i = l.length := by omega
            subst hie
            rw [hlast] at hx
            injection hx with hx
            subst hx
            obtain ⟨j, hj⟩ := List.exists_mem_of_ne_nil _ hr
            obtain ⟨g1, g2, _⟩ := ready_mem.1 hj
            simp at g1
            obtain ⟨e, he, hb, heq⟩ := hwait' j g1
            have := h3 e he hb
            rw [heq, getD_push_lt (by omega)] at this
            have hin : j < listed.size := by omega
            simp [Array.getD_eq_getD_getElem?, hin] at this g2
            rw [this] at g2
            cases g2
        rw [ready_mem]
        refine ⟨by simpa using hlt, by rw [getD_push_lt (by omega)] at h2; exact h2, x, by rw [← hops i hlt]; exact hx, fun e he hb => ?_⟩
        have hlt' := (hback' i x (by rw [hops i hlt] at hx; simpa using hx)).1 e he hb
        have := h3 e he hb
        rwa [getD_push_lt (by omega)] at this
      refine ⟨fun h0 => ?_, fun i hi => ?_⟩
      · obtain ⟨j, hj⟩ := List.exists_mem_of_ne_nil _ hr
        have := hsub j hj
        rw [h0] at this
        cases this
      · have hi' := hsup i hi
        have hw := h.2 i hi'
        obtain ⟨h1, h2, x, hx, h3⟩ := ready_mem.1 hi'
        simp at h1
        have hb := hback' i x (by simpa using hx)
        have hset : (listed.push false).setIfInBounds i true = (listed.setIfInBounds i true).push false := by
          exact set_push (by omega)
        have hgo : ∀ a' w', wpAny P .any l.toArray (LastQ P o Q) fuel (listed.setIfInBounds i true) a' w' → wpAny P .any (l ++ [o]).toArray Q (fuel + 1) ((listed.push false).setIfInBounds i true) a' w' := by
          intro a' w' h'
          rw [hset]
          exact ih _ _ _ (by simpa using hsz) h'
        unfold wpOp at hw ⊢
        rw [hx] at hw
        rw [hops i h1, hx]
        simp only at hw ⊢
        rw [wanted_last (fun _ _ _ _ _ => trivial) hb.2]
        split
        · rename_i hwant
          rw [if_pos hwant] at hw
          rcases hw with hw | ⟨h4, h5⟩
          · exact .inl (wp_lastQ hgo hw)
          · exact .inr ⟨h4, lets_lastQ h5⟩
        · rename_i hwant
          rw [if_neg hwant] at hw
          exact hgo _ _ hw

theorem wpAny_dropLast {L : List Oper} (hL : L.getLast? = some o) (hf : lastForced L.dropLast o = true) {n : Nat} {a : Act} {w : World} (hn : L.length = n + 1)
    (h : wpAny P .any L.dropLast.toArray (LastQ P o Q) n (Array.replicate n false) a w) : wpAny P .any L.toArray Q L.toArray.size (Array.replicate L.toArray.size false) a w := by
  have hne : L ≠ [] := by intro e; rw [e] at hL; cases hL
  have hl : L.dropLast ++ [o] = L := by
    have := List.dropLast_concat_getLast hne
    rw [List.getLast?_eq_some_getLast hne] at hL
    injection hL with hL
    rwa [hL] at this
  have h2 := wpAny_last hf n (Array.replicate n false) a w (by simp [hn]) h
  rw [hl] at h2
  have e1 : L.toArray.size = n + 1 := by simp [hn]
  rw [e1]
  rwa [show (Array.replicate (n + 1) false) = (Array.replicate n false).push false from Array.replicate_succ]
theorem getLast_of_reverse {L r : List Oper} (h : L.reverse = o :: r) : L.getLast? = some o := by
  rw [← List.head?_reverse, h]; rfl
theorem at_of_drop {L tl : List Oper} {i : Nat} {x : Oper} (h : L.drop i = x :: tl) : L.toArray[i]? = some x := by
  have := List.getElem?_drop (xs := L) (i := i) (j := 0)
  rw [h] at this
  simpa using this.symm
/-- THE BEGINNING: the others first. -/
theorem wp_region_begin {id : Nat} {L r : List Oper} {S : World → Prop} {n : Nat} {a : Act} {w : World} (hm : P.follows .mixedOrders = true) (hL : L.reverse = o :: r) (hf : lastForced L.dropLast o = true) (hn : L.length = n + 1)
    (h : wpAnyH P .any L.dropLast.toArray (LastQ P o Q) S n (Array.replicate n false) a w.drew) : (Code.region id L.toArray true).wp P Q a w :=
  wp_region_any hm (wpAny_dropLast (getLast_of_reverse hL) hf hn (wpAny_of_held _ _ _ _ h))
/-- A quiet operation that may come up now is taken first. -/
theorem wpAnyH_takeL {L tl : List Oper} {S : World → Prop} {i : Nat} {x : Oper} {v : Value} {fuel : Nat} {listed : Array Bool} {a : Act} {w : World} (hi : L.drop i = x :: tl)
    (hs : (Region.noSelect L.toArray && Region.free .any L.toArray listed i && (Region.ready .any L.toArray listed).contains i) = true)
    (hQ : ∀ c a w, Q (.panic c) (a.put x.dst v) w → Q (.panic c) a w) (hw : Region.wanted x (yielded L.toArray a.tmps) = true) (hy : ∀ w', S w' → (execOp a.eval x).run P w' = .ok (.value v) w') (hS : S w)
    (h : wpAnyH P .any L.toArray Q S fuel (listed.setIfInBounds i true) (a.put x.dst v) w) : wpAnyH P .any L.toArray Q S (fuel + 1) listed a w := by
  rw [Bool.and_eq_true, Bool.and_eq_true] at hs
  exact wpAnyH_take (at_of_drop hi) hs.1.1 hs.1.2 hs.2 hQ (.inl ⟨hw, hy⟩) hS h
/-- The one operation that may come up. -/
theorem wpAnyH_oneL {L tl : List Oper} {S : World → Prop} {i : Nat} {x : Oper} {fuel : Nat} {listed : Array Bool} {a : Act} {w : World} (hi : L.drop i = x :: tl)
    (hr : Region.ready .any L.toArray listed = [i]) (hw : Region.wanted x (yielded L.toArray a.tmps) = true)
    (h : ∀ K : Act → World → Prop, (∀ a' w', S w' → wpAnyH P .any L.toArray Q S fuel (listed.setIfInBounds i true) a' w' → K a' w') → x.wp P a w K Q) : wpAnyH P .any L.toArray Q S (fuel + 1) listed a w := by
  refine wpAnyH_all hr (by simp) (fun j hj => ?_)
  obtain rfl := List.mem_singleton.1 hj
  unfold wpOp
  rw [at_of_drop hi]
  simp only
  rw [if_pos hw]
  exact .inl (h _ fun _ _ h1 h2 => ⟨h1, h2⟩)
theorem wpAnyH_endL {L : List Oper} {S : World → Prop} {fuel : Nat} {listed : Array Bool} {a : Act} {w : World} (hr : Region.ready .any L.toArray listed = [])
    (h : ∀ K : Act → World → Prop, (∀ a' w', Q .normal a' w' → K a' w') → o.wp P a w K Q) : wpAnyH P .any L.toArray (LastQ P o Q) S fuel listed a w :=
  wpAnyH_done hr (h _ fun _ _ h => h) _
end
end Go.Proofs.Ytokpjgpdkmimgaa
