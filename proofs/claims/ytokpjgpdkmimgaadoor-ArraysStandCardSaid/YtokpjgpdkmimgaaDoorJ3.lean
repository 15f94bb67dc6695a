/-
  A region that draws its order and ends in one operation that waits for all others: that one may be walked behind the region of the others. Conditions: the edges say so.
-/
import Derived.Test.YtokpjgpdkmimgaaDoorJ2
import Derived.Orders
import Derived.OrdersHeld
import Derived.Tactics
namespace Go.Proofs.YtokpjgpdkmimgaaDoor
set_option linter.unusedSimpArgs false
set_option linter.unusedVariables false

/-- The last operation waits for all others, and the others for none behind them. -/
def lastForced (l : List Oper) (o : Oper) : Bool :=
  ((List.range l.length).all (fun j => o.after.any fun e => Region.binds .any e && e.on == j) && o.after.all (fun e => !Region.binds .any e || decide (e.on < l.length))) && o.guard.isNone &&
  (List.range l.length).all (fun i => ((l[i]?).map fun x => x.after.all (fun e => !Region.binds .any e || decide (e.on < i)) && (match x.guard with | none => true | some (j, _) => decide (j < l.length))).getD true)

/-- The post of the region of the others: behind them the last one. -/
def LastQ (P : Program) (o : Oper) (Q : Exit → Act → World → Prop) : Exit → Act → World → Prop
  | .normal, a, w => o.wp P a w (Q .normal) Q
  | e, a, w => Q e a w

section
variable {P : Program} {Q : Exit → Act → World → Prop} {l : List Oper} {o : Oper}
theorem wp_lastQ {x : Oper} {a : Act} {w : World} {K K' : Act → World → Prop} (h : ∀ a w, K a w → K' a w) (hh : x.wp P a w K (LastQ P o Q)) : x.wp P a w K' Q := by
  unfold Oper.wp at *
  generalize (execOp a.eval x).run P w = r at *
  cases r with
  | ok n w' =>
    cases n <;> simp only [Oper.upon] at hh ⊢ <;>
      first
        | exact h _ _ hh
        | exact Calls.mono hh (fun e w'' he => by cases e <;> first | exact h _ _ he | exact he)
        | exact Rows.mono hh (fun _ _ he => h _ _ he)
  | halt x w' => cases x <;> simp only [Oper.upon] at hh ⊢ <;> exact hh
theorem lets_lastQ (h : LetsOut (LastQ P o Q)) : LetsOut Q := h

theorem ready_mem {md : Region.Mode} {ops : Array Oper} {listed : Array Bool} {i : Nat} :
    i ∈ Region.ready md ops listed ↔ i < ops.size ∧ listed.getD i true = false ∧ ∃ x, ops[i]? = some x ∧ ∀ e ∈ x.after, Region.binds md e = true → listed.getD e.on false = true := by
  unfold Region.ready
  rw [List.mem_filter, List.mem_range]
  constructor
  · rintro ⟨h1, h2⟩
    rw [Bool.and_eq_true, Bool.not_eq_true'] at h2
    obtain ⟨x, hx⟩ : ∃ x, ops[i]? = some x := ⟨ops[i], Array.getElem?_eq_getElem h1⟩
    refine ⟨h1, h2.1, x, hx, fun e he hb => ?_⟩
    have h3 := h2.2
    rw [hx] at h3
    simp only [Option.map_some, Option.getD_some, Array.all_eq_true_iff_forall_mem] at h3
    have := h3 e he
    simpa [hb] using this
  · rintro ⟨h1, h2, x, hx, h3⟩
    refine ⟨h1, ?_⟩
    rw [Bool.and_eq_true, Bool.not_eq_true', hx]
    refine ⟨h2, ?_⟩
    simp only [Option.map_some, Option.getD_some, Array.all_eq_true_iff_forall_mem]
    intro e he
    by_cases hb : Region.binds md e = true
    · simp [h3 e he hb]
    · simp [hb]

theorem getD_push_lt {b : Array Bool} {i : Nat} (h : i < b.size) (d : Bool) : (b.push false).getD i d = b.getD i d := by
  simp [Array.getD_eq_getD_getElem?, Array.getElem?_push, Nat.ne_of_lt h]
theorem getD_push_eq {b : Array Bool} {n : Nat} (h : b.size = n) (d : Bool) : (b.push false).getD n d = false := by
  subst h
  simp [Array.getD_eq_getD_getElem?, Array.getElem?_push]

theorem set_push {b : Array Bool} {i : Nat} (h : i < b.size) : (b.push false).setIfInBounds i true = (b.setIfInBounds i true).push false := by
  apply Array.ext_getElem?
  intro k
  simp only [Array.getElem?_setIfInBounds, Array.getElem?_push, Array.size_setIfInBounds, Array.size_push]
  by_cases h1 : i = k
  · subst h1
    simp [h, Nat.ne_of_lt h]
    omega
  · simp [h1]
theorem wanted_last (hg : ∀ (x : Oper) j b, x.guard = some (j, b) → j < l.length → True) {x : Oper} (h : ∀ j b, x.guard = some (j, b) → j < l.length) (tmps : Array Value) :
    Region.wanted x (yielded (l ++ [o]).toArray tmps) = Region.wanted x (yielded l.toArray tmps) := by
  unfold Region.wanted
  cases hx : x.guard with
  | none => rfl
  | some p =>
    obtain ⟨j, b⟩ := p
    have hj := h j b hx
    have : (l ++ [o]).toArray[j]? = l.toArray[j]? := by simp [List.getElem?_append_left hj]
    simp only [yielded, this]
theorem ready_done {ops : Array Oper} {listed : Array Bool} (h : ∀ i, i < ops.size → listed.getD i true = true) : Region.ready .any ops listed = [] := by
  apply List.eq_nil_iff_forall_not_mem.2
  intro i hi
  obtain ⟨h1, h2, _⟩ := ready_mem.1 hi
  rw [h i h1] at h2
  cases h2
theorem wpAny_last (hf : lastForced l o = true) : ∀ (fuel : Nat) (listed : Array Bool) (a : Act) (w : World), listed.size = l.length →
    wpAny P .any l.toArray (LastQ P o Q) fuel listed a w → wpAny P .any (l ++ [o]).toArray Q (fuel + 1) (listed.push false) a w := by
  unfold lastForced at hf
  rw [Bool.and_eq_true, Bool.and_eq_true, Bool.and_eq_true] at hf
  obtain ⟨⟨⟨hwait, hin⟩, hguard⟩, hback⟩ := hf
  have hwait' : ∀ j, j < l.length → ∃ e ∈ o.after, Region.binds .any e = true ∧ e.on = j := by
    intro j hj
    have := List.all_eq_true.1 hwait j (List.mem_range.2 hj)
    rw [Array.any_eq_true'] at this
    obtain ⟨e, he, h⟩ := this
    rw [Bool.and_eq_true, beq_iff_eq] at h
    exact ⟨e, he, h.1, h.2⟩
  have hin' : ∀ e ∈ o.after, Region.binds .any e = true → e.on < l.length := by
    intro e he hb
    rw [Array.all_eq_true_iff_forall_mem] at hin
    have := hin e he
    simpa [hb] using this
  have hback' : ∀ i x, l[i]? = some x → (∀ e ∈ x.after, Region.binds .any e = true → e.on < i) ∧ (∀ j b, x.guard = some (j, b) → j < l.length) := by
    intro i x hx
    have hi : i < l.length := (List.getElem?_eq_some_iff.1 hx).1
    have := List.all_eq_true.1 hback i (List.mem_range.2 hi)
    rw [hx] at this
    simp only [Option.map_some, Option.getD_some, Bool.and_eq_true, Array.all_eq_true_iff_forall_mem] at this
    refine ⟨fun e he hb => ?_, fun j b hg => ?_⟩
    · have := this.1 e he
      simpa [hb] using this
    · have := this.2
      rw [hg] at this
      simpa using this
  have hops : ∀ i, i < l.length → (l ++ [o]).toArray[i]? = l.toArray[i]? := by
    intro i hi
    simp [List.getElem?_append_left hi]
  have hlast : (l ++ [o]).toArray[l.length]? = some o := by simp
  have hgn : o.guard = none := by cases h : o.guard <;> simp_all
  have final : ∀ (fuel : Nat) (listed : Array Bool) (a : Act) (w : World), listed.size = l.length → Region.ready .any l.toArray listed = [] → LastQ P o Q .normal a w →
      wpAny P .any (l ++ [o]).toArray Q (fuel + 1) (listed.push false) a w := by
    intro fuel listed a w hsz hr hq
    have hall : ∀ i, i < l.length → listed.getD i true = true := by
      intro i
      induction i using Nat.strongRecOn with
      | ind i ih =>
        intro hi
        cases hb : listed.getD i true with
        | true => rfl
        | false =>
          have : i ∈ Region.ready .any l.toArray listed := by
            rw [ready_mem]
            refine ⟨by simpa using hi, hb, l[i], by simp [hi], fun e he hbd => ?_⟩
            have hlt := (hback' i _ (List.getElem?_eq_getElem hi)).1 e he hbd
            have := ih e.on hlt (by omega)
            have hin : e.on < listed.size := by omega
            simpa [Array.getD_eq_getD_getElem?, hin] using this
          rw [hr] at this
          cases this
    have hlastready : ∀ i, i ∈ Region.ready .any (l ++ [o]).toArray (listed.push false) → i = l.length := by
      intro i hi
      obtain ⟨h1, h2, _⟩ := ready_mem.1 hi
      simp at h1
      by_cases he : i = l.length
      · exact he
      · have hlt : i < l.length := by omega
        rw [getD_push_lt (by omega)] at h2
        rw [hall i hlt] at h2
        cases h2
    have hmem : l.length ∈ Region.ready .any (l ++ [o]).toArray (listed.push false) := by
      rw [ready_mem]
      refine ⟨by simp, getD_push_eq hsz true, o, hlast, fun e he hbd => ?_⟩
      have hlt := hin' e he hbd
      have := hall e.on hlt
      rw [getD_push_lt (by omega)]
      have hin : e.on < listed.size := by omega
      simpa [Array.getD_eq_getD_getElem?, hin] using this
    refine ⟨fun h => (by rw [h] at hmem; cases hmem), fun i hi => ?_⟩
    have hie := hlastready i hi
    subst hie
    unfold wpOp
    rw [hlast]
    simp only
    rw [if_pos (by simp [Region.wanted, hgn])]
    left
    refine Oper.wp_mono (fun a' w' hq' => ?_) hq
    have hdone : Region.ready .any (l ++ [o]).toArray ((listed.push false).setIfInBounds l.length true) = [] := by
      apply ready_done
      intro i hi
      simp at hi
      by_cases he : i = l.length
      · subst he
        simp [Array.getD_eq_getD_getElem?, hsz]
      · have hlt : i < l.length := by omega
        have := hall i hlt
        have hin : i < listed.size := by omega
        simp [Array.getD_eq_getD_getElem?, hin] at this
        simp [Array.getD_eq_getD_getElem?, Array.getElem?_setIfInBounds, Ne.symm he, Array.getElem?_push, Nat.ne_of_lt hin, hin, this]
    cases fuel with
    | zero => exact ⟨hdone, hq'⟩
    | succ fuel => exact ⟨fun _ => hq', by rw [hdone]; simp⟩
  intro fuel
  induction fuel with
  | zero => exact fun listed a w hsz h => final 0 listed a w hsz h.1 h.2
  | succ fuel ih =>
    intro listed a w hsz h
    by_cases hr : Region.ready .any l.toArray listed = []
    · exact final (fuel + 1) listed a w hsz hr (h.1 hr)
    · have hsub : ∀ i, i ∈ Region.ready .any l.toArray listed → i ∈ Region.ready .any (l ++ [o]).toArray (listed.push false) := by
        intro i hi
        obtain ⟨h1, h2, x, hx, h3⟩ := ready_mem.1 hi
        simp at h1
        rw [ready_mem]
        refine ⟨by simp; omega, by rw [getD_push_lt (by omega)]; exact h2, x, by rw [hops i h1]; exact hx, fun e he hb => ?_⟩
        have hlt := (hback' i x (by simpa using hx)).1 e he hb
        rw [getD_push_lt (by omega)]
        exact h3 e he hb
      have hsup : ∀ i, i ∈ Region.ready .any (l ++ [o]).toArray (listed.push false) → i ∈ Region.ready .any l.toArray listed := by
        intro i hi
        obtain ⟨h1, h2, x, hx, h3⟩ := ready_mem.1 hi
        simp at h1
        have hlt : i < l.length := by
          rcases Nat.lt_or_ge i l.length with h | h
          · exact h
          · exfalso
            have hie : i = l.length := by omega
            subst hie
            rw [hlast] at hx
            injection hx with hx
            subst hx
            obtain ⟨j, hj⟩ := List.exists_mem_of_ne_nil _ hr
            obtain ⟨g1, g2, _⟩ := ready_mem.1 hj
            simp at g1
            obtain ⟨e, he, hb, heq⟩ := hwait' j g1
            have := h3 e he hb
            rw [heq, getD_push_lt (by omega)] at this
            have hin : j < listed.size := by omega
            simp [Array.getD_eq_getD_getElem?, hin] at this g2
            rw [this] at g2
            cases g2
        rw [ready_mem]
        refine ⟨by simpa using hlt, by rw [getD_push_lt (by omega)] at h2; exact h2, x, by rw [← hops i hlt]; exact hx, fun e he hb => ?_⟩
        have hlt' := (hback' i x (by rw [hops i hlt] at hx; simpa using hx)).1 e he hb
        have := h3 e he hb
        rwa [getD_push_lt (by omega)] at this
      refine ⟨fun h0 => ?_, fun i hi => ?_⟩
      · obtain ⟨j, hj⟩ := List.exists_mem_of_ne_nil _ hr
        have := hsub j hj
        rw [h0] at this
        cases this
      · have hi' := hsup i hi
        have hw := h.2 i hi'
        obtain ⟨h1, h2, x, hx, h3⟩ := ready_mem.1 hi'
        simp at h1
        have hb := hback' i x (by simpa using hx)
        have hset : (listed.push false).setIfInBounds i true = (listed.setIfInBounds i true).push false := by
          exact set_push (by omega)
        have hgo : ∀ a' w', wpAny P .any l.toArray (LastQ P o Q) fuel (listed.setIfInBounds i true) a' w' → wpAny P .any (l ++ [o]).toArray Q (fuel + 1) ((listed.push false).setIfInBounds i true) a' w' := by
          intro a' w' h'
          rw [hset]
          exact ih _ _ _ (by simpa using hsz) h'
        unfold wpOp at hw ⊢
        rw [hx] at hw
        rw [hops i h1, hx]
        simp only at hw ⊢
        rw [wanted_last (fun _ _ _ _ _ => trivial) hb.2]
        split
        · rename_i hwant
          rw [if_pos hwant] at hw
          rcases hw with hw | ⟨h4, h5⟩
          · exact .inl (wp_lastQ hgo hw)
          · exact .inr ⟨h4, lets_lastQ h5⟩
        · rename_i hwant
          rw [if_neg hwant] at hw
          exact hgo _ _ hw

theorem wpAny_dropLast {L : List Oper} (hL : L.getLast? = some o) (hf : lastForced L.dropLast o = true) {n : Nat} {a : Act} {w : World} (hn : L.length = n + 1)
    (h : wpAny P .any L.dropLast.toArray (LastQ P o Q) n (Array.replicate n false) a w) : wpAny P .any L.toArray Q L.toArray.size (Array.replicate L.toArray.size false) a w := by
  have hne : L ≠ [] := by intro e; rw [e] at hL; cases hL
  have hl : L.dropLast ++ [o] = L := by
    have := List.dropLast_concat_getLast hne
    rw [List.getLast?_eq_some_getLast hne] at hL
    injection hL with hL
    rwa [hL] at this
  have h2 := wpAny_last hf n (Array.replicate n false) a w (by simp [hn]) h
  rw [hl] at h2
  have e1 : L.toArray.size = n + 1 := by simp [hn]
  rw [e1]
  rwa [show (Array.replicate (n + 1) false) = (Array.replicate n false).push false from Array.replicate_succ]
theorem getLast_of_reverse {L r : List Oper} (h : L.reverse = o :: r) : L.getLast? = some o := by
  rw [← List.head?_reverse, h]; rfl
theorem at_of_drop {L tl : List Oper} {i : Nat} {x : Oper} (h : L.drop i = x :: tl) : L.toArray[i]? = some x := by
  have := List.getElem?_drop (xs := L) (i := i) (j := 0)
  rw [h] at this
  simpa using this.symm
/-- THE BEGINNING: the others first. -/
theorem wp_region_begin {id : Nat} {L r : List Oper} {S : World → Prop} {n : Nat} {a : Act} {w : World} (hm : P.follows .mixedOrders = true) (hL : L.reverse = o :: r) (hf : lastForced L.dropLast o = true) (hn : L.length = n + 1)
    (h : wpAnyH P .any L.dropLast.toArray (LastQ P o Q) S n (Array.replicate n false) a w.drew) : (Code.region id L.toArray true).wp P Q a w :=
  wp_region_any hm (wpAny_dropLast (getLast_of_reverse hL) hf hn (wpAny_of_held _ _ _ _ h))
/-- A quiet operation that may come up now is taken first. -/
theorem wpAnyH_takeL {L tl : List Oper} {S : World → Prop} {i : Nat} {x : Oper} {v : Value} {fuel : Nat} {listed : Array Bool} {a : Act} {w : World} (hi : L.drop i = x :: tl)
    (hs : (Region.noSelect L.toArray && Region.free .any L.toArray listed i && (Region.ready .any L.toArray listed).contains i) = true)
    (hQ : ∀ c a w, Q (.panic c) (a.put x.dst v) w → Q (.panic c) a w) (hw : Region.wanted x (yielded L.toArray a.tmps) = true) (hy : ∀ w', S w' → (execOp a.eval x).run P w' = .ok (.value v) w') (hS : S w)
    (h : wpAnyH P .any L.toArray Q S fuel (listed.setIfInBounds i true) (a.put x.dst v) w) : wpAnyH P .any L.toArray Q S (fuel + 1) listed a w := by
  rw [Bool.and_eq_true, Bool.and_eq_true] at hs
  exact wpAnyH_take (at_of_drop hi) hs.1.1 hs.1.2 hs.2 hQ (.inl ⟨hw, hy⟩) hS h
/-- The one operation that may come up. -/
theorem wpAnyH_oneL {L tl : List Oper} {S : World → Prop} {i : Nat} {x : Oper} {fuel : Nat} {listed : Array Bool} {a : Act} {w : World} (hi : L.drop i = x :: tl)
    (hr : Region.ready .any L.toArray listed = [i]) (hw : Region.wanted x (yielded L.toArray a.tmps) = true)
    (h : ∀ K : Act → World → Prop, (∀ a' w', S w' → wpAnyH P .any L.toArray Q S fuel (listed.setIfInBounds i true) a' w' → K a' w') → x.wp P a w K Q) : wpAnyH P .any L.toArray Q S (fuel + 1) listed a w := by
  refine wpAnyH_all hr (by simp) (fun j hj => ?_)
  obtain rfl := List.mem_singleton.1 hj
  unfold wpOp
  rw [at_of_drop hi]
  simp only
  rw [if_pos hw]
  exact .inl (h _ fun _ _ h1 h2 => ⟨h1, h2⟩)
theorem wpAnyH_endL {L : List Oper} {S : World → Prop} {fuel : Nat} {listed : Array Bool} {a : Act} {w : World} (hr : Region.ready .any L.toArray listed = [])
    (h : ∀ K : Act → World → Prop, (∀ a' w', Q .normal a' w' → K a' w') → o.wp P a w K Q) : wpAnyH P .any L.toArray (LastQ P o Q) S fuel listed a w :=
  wpAnyH_done hr (h _ fun _ _ h => h) _
end
end Go.Proofs.YtokpjgpdkmimgaaDoor

/-
  array.Copy: all devices in new memory. sameArray answers true at what reads alike; the law ArrayCopies. Conditions: the arguments read as arrays.
-/
namespace Go.Proofs.YtokpjgpdkmimgaaDoor
set_option linter.unusedSimpArgs false
set_option linter.unusedVariables false
open Go.RowKit

theorem info_dev : (Tryd.prog.info? 117).map (fun i => (i.zero, i.size, i.bytes)) = some (some (.agg #[.slice none 0 0, .slice none 0 0]), 2, 48) := by kernel_rfl
set_option maxRecDepth 100000 in
set_option maxHeartbeats 1000000 in
theorem arrCopy_any (cs : List Value) (a : List Dev) (w : World) (h : RArr w cs a) :
    Calls Tryd.prog 78 #[.agg cs.toArray] w fun e w' => ∃ A c, e = .returned (.agg #[.slice A a.length c]) ∧ Ext w w' ∧ OArr 117 w' w.heap.size (.slice A a.length c) a := by
  obtain ⟨v, rfl, h1⟩ := h
  obtain ⟨A0, c0, rfl, hb0, hc0, hr⟩ := h1.rowR
  clear h1
  go_enter Tryd.func78, Tryd.ntmps78
  go_wp2
  refine wp_abs (fun W => Ext w W ∧ Blk_ W w.heap.size 40 #[.slice A0 a.length c0] ∧ Blk_ W (w.heap.size + 1) 40 #[.slice none 0 0] ∧ Blk_ W (w.heap.size + 1 + 1) 40 #[.slice none 0 0]) ⟨(((Ext.refl _).alloc _).alloc _).alloc _, ((Blk_.new _ _ _).alloc _).alloc _, (Blk_.new1 _ _ _ _).alloc _, Blk_.new2 _ _ _ _ _⟩ ?_
  rintro W ⟨hx, hb1, hb2, hb3⟩
  go_loopw [10] (fun i wr => ∃ (k : Nat) (A : Option Addr) (c : Nat), i = .int .i64 k ∧ k ≤ a.length ∧ Ext w wr ∧ Blk_ wr w.heap.size 40 #[.slice A0 a.length c0] ∧ Blk_ wr (w.heap.size + 1) 40 #[.slice none 0 0] ∧ Blk_ wr (w.heap.size + 1 + 1) 40 #[.slice A k c] ∧ OArr 117 wr (w.heap.size + 3) (.slice A k c) (a.take k)) (fun i _ => a.length - (intOf i).toNat)
  case atStart => exact ⟨0, none, 0, rfl, Nat.zero_le _, hx, hb1, hb2, hb3, OArr.nil _ _ _⟩
  case round =>
    clear hx hb1 hb2 hb3
    obtain ⟨k, A, c, rfl, hk, hx, hb1, hb2, hb3, ho⟩ := hrel
    by_cases hlt : k < a.length
    · obtain ⟨b, o, rfl, hcell⟩ := hr k hlt
      obtain ⟨cs, hl, hcs, hd⟩ := hcell k hlt
      obtain ⟨A1, c1, A2, c2, rfl⟩ := hd.form
      have q0 := hx.cell (hcs 0 _ rfl)
      have q1 := hx.cell (hcs 1 _ rfl)
      simp only [Nat.add_zero] at q0
      have f0 := hb1.cell 0
      simp at f0
      clear hcell hcs hl
      have HR := Lib.hid hr
      clear hr
      go_wp2
      refine wp_abs (fun W => Ext wr W ∧ Blk_ W wr.heap.size 117 #[.slice A1 a[k].sec.length c1, .slice A2 a[k].lost.length c2]) ⟨(Ext.refl _).alloc _, Blk_.new _ _ _⟩ ?_
      rintro W1 ⟨hx1, hb4⟩
      have g0 := (hb3.ext hx1).cell 0
      have g1 := hb4.cell 0
      have g2 := hb4.cell 1
      simp at g0 g1 g2
      refine wp_region_begin (S := fun W' => W'.cell? ⟨w.heap.size + 1 + 1, 0, none⟩ = some (.slice A k c) ∧ W'.cell? ⟨wr.heap.size, 0, none⟩ = some (.slice A1 a[k].sec.length c1) ∧ W'.cell? ⟨wr.heap.size, 1, none⟩ = some (.slice A2 a[k].lost.length c2)) (n := 7) (by kernel_rfl) rfl (by kernel_rfl) rfl ?_
      have hS0 : (fun W' => W'.cell? ⟨w.heap.size + 1 + 1, 0, none⟩ = some (.slice A k c) ∧ W'.cell? ⟨wr.heap.size, 0, none⟩ = some (.slice A1 a[k].sec.length c1) ∧ W'.cell? ⟨wr.heap.size, 1, none⟩ = some (.slice A2 a[k].lost.length c2)) W1.drew := ⟨g0, g1, g2⟩
      refine wpAnyH_takeL (i := 0) (v := ?_) rfl (by kernel_rfl) (fun _ _ _ h => h) rfl ?_ hS0 ?_
      rotate_left
      · intro w' hS
        try dsimp only at hS
        go_simp
        rfl
      simp only [Act.put, List.setIfInBounds_toArray, List.set_cons_zero, List.set_cons_succ]
      refine wpAnyH_takeL (i := 1) (v := ?_) rfl (by kernel_rfl) (fun _ _ _ h => h) rfl ?_ hS0 ?_
      rotate_left
      · intro w' hS
        try dsimp only at hS
        go_simp
        rfl
      simp only [Act.put, List.setIfInBounds_toArray, List.set_cons_zero, List.set_cons_succ]
      refine wpAnyH_takeL (i := 2) (v := ?_) rfl (by kernel_rfl) (fun _ _ _ h => h) rfl ?_ hS0 ?_
      rotate_left
      · intro w' hS
        try dsimp only at hS
        go_simp
        rfl
      simp only [Act.put, List.setIfInBounds_toArray, List.set_cons_zero, List.set_cons_succ]
      refine wpAnyH_oneL (i := 3) rfl (by kernel_rfl) rfl (fun K hK => ?_)
      go_wp2_with fail
      refine (devCopy_any [.slice A1 a[k].sec.length c1, .slice A2 a[k].lost.length c2] a[k] _ (hd.up ((hx.trans hx1).drew))).mono ?_
      rintro e w2 ⟨B1, k1, B2, k2, rfl, hx2, o1, o2⟩
      have e2 : Ext W1 w2 := (Ext.refl W1).drew.trans hx2
      refine hK _ _ ⟨e2.cell g0, e2.cell g1, e2.cell g2⟩ ?_
      clear hK K
      try simp only [Act.put, List.setIfInBounds_toArray, List.set_cons_zero, List.set_cons_succ]
      refine wpAnyH_oneL (i := 4) rfl (by kernel_rfl) rfl (fun K hK => ?_)
      go_wp2_with fail
      have e3 : Ext W1 (w2.alloc (.cells #[.slice B1 a[k].sec.length k1, .slice B2 a[k].lost.length k2] 117)) := e2.alloc _
      have hb5 := Blk_.new w2 117 #[.slice B1 a[k].sec.length k1, .slice B2 a[k].lost.length k2]
      have hx3 : Ext w2 (w2.alloc (.cells #[.slice B1 a[k].sec.length k1, .slice B2 a[k].lost.length k2] 117)) := (Ext.refl _).alloc _
      refine hK _ _ ⟨e3.cell g0, e3.cell g1, e3.cell g2⟩ ?_
      clear hK K
      generalize w2.alloc (.cells #[.slice B1 a[k].sec.length k1, .slice B2 a[k].lost.length k2] 117) = w3 at e3 hb5 hx3
      refine wpAnyH_oneL (i := 5) rfl (by kernel_rfl) rfl (fun K hK => ?_)
      have hdn : RDev w3 [.slice B1 a[k].sec.length k1, .slice B2 a[k].lost.length k2] a[k] := (hd.again o1 o2).up hx3
      obtain ⟨xs0, hown0, _⟩ := ho.pushes
      obtain ⟨xs, hown, hpush⟩ := (ho.ext (hx1.trans e3)).pushes
      obtain ⟨i0, hi, hz0, hz1, hz2⟩ := info_parts info_dev
      have hlen : (a.take k).length = k := by rw [List.length_take]; omega
      rw [hlen] at hown hpush
      refine wp_append_at _ (.tmp 15) (.tmp 18) 38 rfl (w.heap.size + 3) 117 i0 (.agg #[.slice none 0 0, .slice none 0 0]) 2 48 Tryd.underlying38 hi hz0 hz1 hz2 rfl (by decide) _ _ xs rfl hown ⟨w2.heap.size, 0, none⟩ 1 1 [.slice B1 a[k].sec.length k1, .slice B2 a[k].lost.length k2] rfl rfl ?_ ?_ ?_ ?_ ?_ ?_
      · intro j u hu
        rw [Addr.add_lit, Nat.zero_add, hb5.cell]
        simpa using hu
      · intro u hu
        simp at hu
        rcases hu with rfl | rfl <;> rfl
      · unfold maxLen; omega
      · omega
      · have := e3.size; have := hx1.size; have := hb3.lt; omega
      intro A' c' w4 hown' hg' hb'
      have hbase : ∀ g, (Value.slice A k c).ownBlock = some g → w.heap.size + 3 ≤ g := fun g hgg => (hown.lt g hgg).1
      have hnb : w.heap.size + 3 ≤ W1.drew.heap.size := by have := hx1.size; have := hb3.lt; simp; omega
      have hox : OArr 117 w4 (w.heap.size + 3) (.slice A' (k + 1) c') (a.take k ++ [a[k]]) := hpush w4 _ _ _ _ hown' hg' hb' hdn (fun g hgg => by
        refine hdn.newG (New.own o1) (New.own o2) ?_
        have := (hown0.lt g hgg).2
        have := hx1.size
        simp; omega) ((New.own o1).mono hnb) ((New.own o2).mono hnb)
      have hx4 : Ext w w4 := ((hx.trans hx1).trans e3).grown hg' (fun g hgg => by have := hbase g hgg; omega)
      have j1 := (hb1.ext (hx1.trans e3)).grown hg' (fun g hgg => by have := hbase g hgg; omega)
      have j2 := (hb2.ext (hx1.trans e3)).grown hg' (fun g hgg => by have := hbase g hgg; omega)
      have j3 := (hb3.ext (hx1.trans e3)).grown hg' (fun g hgg => by have := hbase g hgg; omega)
      have j3c := j3.cell 0
      have j3f := j3.frozen 0
      simp at j3c
      have j4 := (hb4.ext e3).grown hg' (fun g hgg => by have := (hown0.lt g hgg).2; omega)
      have j40 := j4.cell 0
      have j41 := j4.cell 1
      simp at j40 j41
      refine hK _ _ ⟨j3c, j40, j41⟩ ?_
      clear hK K
      try simp only [Act.put, List.setIfInBounds_toArray, List.set_cons_zero, List.set_cons_succ]
      refine wpAnyH_takeL (i := 6) (v := ?_) rfl (by kernel_rfl) (fun _ _ _ h => h) rfl ?_ ⟨j3c, j40, j41⟩ ?_
      rotate_left
      · intro w' hS
        try dsimp only at hS
        go_simp
        rfl
      simp only [Act.put, List.setIfInBounds_toArray, List.set_cons_zero, List.set_cons_succ]
      refine wpAnyH_endL (by kernel_rfl) (fun K hK => ?_)
      go_wp2
      go_roundw
      case rel =>
        refine ⟨k + 1, A', c', by go_num, by omega, hx4.setCell (by dsimp only; omega) _, j1.far (by dsimp only; omega) _, j2.far (by dsimp only; omega) _, ?_, ?_⟩
        · exact j3.set 0 _
        · rw [← List.take_append_getElem hlt]
          exact hox.far (by dsimp only; omega) _
      case measure => simp [intOf]; omega
    · obtain rfl : k = a.length := by omega
      have f0 := hb3.cell 0
      simp at f0
      have f1 := hb2.cell 0
      have f2 := hb2.frozen 0
      simp at f1
      clear hr
      rw [List.take_length] at ho
      have hb5 := hb2.set 0 (.slice A a.length c)
      have H5 := Lib.hid hb5
      clear hb5
      go_wp2
      refine bodyPost_ret (res_cell rfl rfl H5.out Tryd.underlying40 rfl (by kernel_rfl)) rfl ?_
      exact ⟨A, c, rfl, hx.setCell (by dsimp only; omega) _, (ho.far (by dsimp only; omega) _).base (by omega)⟩

end Go.Proofs.YtokpjgpdkmimgaaDoor

/-
  slices.ContainsFunc with the closures of catalog.Name and device.Check: whether an element is met. Conditions: the slice reads as a list.
-/
namespace Go.Proofs.YtokpjgpdkmimgaaDoor
set_option linter.unusedSimpArgs false
set_option linter.unusedVariables false
open Go.RowKit
def RByte : Rd UInt8 := fun _ cs c => cs = [.int .u8 c.toNat]
theorem RByte.val {w : World} {u : Value} {c : UInt8} (h : RByte w [u] c) : u = .int .u8 c.toNat := by have : [u] = _ := h; simpa using this
/-- No byte of a name. -/
def badByte (c : UInt8) : Bool := (decide ((c.toNat : Int) < 97) || decide (122 < (c.toNat : Int))) && (decide ((c.toNat : Int) < 48) || decide (57 < (c.toNat : Int)))
def badRaw (s : ByteArray) : Bool := !((s.size : Int) == 30)

set_option maxRecDepth 100000 in
set_option maxHeartbeats 400000 in
theorem badByte_any (c : UInt8) (w : World) : Calls Tryd.prog 100 #[.int .u8 c.toNat] w fun e w' => w = w' ∧ e = .returned (.bool (badByte c)) := by
  unfold badByte
  by_cases h1 : (c.toNat : Int) < 97
  · by_cases h3 : (c.toNat : Int) < 48
    · go_enter Tryd.func100, Tryd.ntmps100
      go_wp2
      go_ret
      exact ⟨rfl, ret_bool (by simp [h1, h3])⟩
    · have h3' : decide ((c.toNat : Int) < 48) = false := by simpa using h3
      go_enter Tryd.func100, Tryd.ntmps100
      go_wp2
      go_ret
      exact ⟨rfl, ret_bool (by simp [h1, h3'])⟩
  · by_cases h2 : 122 < (c.toNat : Int)
    · by_cases h3 : (c.toNat : Int) < 48
      · omega
      · have h1' : decide ((c.toNat : Int) < 97) = false := by simpa using h1
        have h3' : decide ((c.toNat : Int) < 48) = false := by simpa using h3
        go_enter Tryd.func100, Tryd.ntmps100
        go_wp2
        go_ret
        exact ⟨rfl, ret_bool (by simp [h1', h2, h3'])⟩
    · have h1' : decide ((c.toNat : Int) < 97) = false := by simpa using h1
      have h2' : decide (122 < (c.toNat : Int)) = false := by simpa using h2
      go_enter Tryd.func100, Tryd.ntmps100
      go_wp2
      go_ret
      exact ⟨rfl, ret_bool (by simp [h1', h2'])⟩
set_option maxRecDepth 100000 in
set_option maxHeartbeats 400000 in
theorem badRaw_any (s : ByteArray) (w : World) : Calls Tryd.prog 110 #[.string s] w fun e w' => w = w' ∧ e = .returned (.bool (badRaw s)) := by
  unfold badRaw
  go_enter Tryd.func110, Tryd.ntmps110
  go_wp2
  go_ret
  exact ⟨rfl, ret_bool (by simp [bne])⟩

set_option maxRecDepth 100000 in
set_option maxHeartbeats 400000 in
theorem index_byte (v : Value) (l : List UInt8) (w : World) (h : SlR 1 1 RByte w v l) :
    Calls Tryd.prog 123 #[v, .func (.func 100) #[] #[]] w fun e w' => w = w' ∧ ∃ r : Int, e = .returned (.int .i64 r) ∧ decide (0 ≤ r) = l.any badByte := by
  obtain ⟨A, c, rfl, hl, hc, r1⟩ := h.row
  clear h
  go_enter Tryd.func123, Tryd.ntmps123
  go_wp2
  go_loop [8] (fun i => ∃ k : Nat, i = .int .i64 k ∧ k ≤ l.length ∧ (l.take k).any badByte = false) (fun i => l.length - (intOf i).toNat)
  case atStart => exact ⟨0, rfl, Nat.zero_le _, rfl⟩
  case round =>
    obtain ⟨k, rfl, hk, hno⟩ := hrel
    have HN := Lib.hid hno
    clear hno
    by_cases hlt : k < l.length
    · obtain ⟨b1, o1, rfl, g1⟩ := r1 k hlt
      obtain ⟨u1, q1, t1⟩ := g1 k hlt
      obtain rfl := t1.val
      have HR := Lib.hid r1
      clear g1 r1 t1
      have hcon := badByte_any l[k] w
      have htk : (l.take (k + 1)).any badByte = badByte l[k] := by
        rw [← List.take_append_getElem hlt, List.any_append, HN.out]; simp
      have HT := Lib.hid htk
      clear htk
      by_cases hp : badByte l[k] = true
      · rw [hp] at hcon
        have HC := Lib.hid hcon
        have HP := Lib.hid hp
        clear hcon hp
        go_wp2_with fail
        refine HC.out.mono ?_
        rintro e w1 ⟨rfl, rfl⟩
        go_wp2
        go_ret
        refine ⟨rfl, _, rfl, ?_⟩
        have : l.any badByte = true := List.any_eq_true.2 ⟨l[k], List.getElem_mem hlt, HP.out⟩
        rw [this]
        simp
      · rw [Bool.not_eq_true] at hp
        rw [hp] at hcon
        have HC := Lib.hid hcon
        have HP := Lib.hid hp
        clear hcon hp
        go_wp2_with fail
        refine HC.out.mono ?_
        rintro e w1 ⟨rfl, rfl⟩
        go_wp2
        go_round
        case rel => exact ⟨k + 1, by go_num, by omega, by rw [HT.out, HP.out]⟩
        case measure => simp [intOf]; omega
    · obtain rfl : k = l.length := by omega
      go_wp2
      go_ret
      refine ⟨rfl, _, rfl, ?_⟩
      rw [List.take_length] at HN
      rw [HN.out]
      simp
set_option maxRecDepth 100000 in
set_option maxHeartbeats 400000 in
theorem contains_byte (v : Value) (l : List UInt8) (w : World) (h : SlR 1 1 RByte w v l) :
    Calls Tryd.prog 99 #[v, .func (.func 100) #[] #[]] w fun e w' => w = w' ∧ e = .returned (.bool (l.any badByte)) := by
  go_enter Tryd.func99, Tryd.ntmps99
  go_wp2_with fail
  refine (index_byte v l w h).mono ?_
  rintro e w1 ⟨rfl, r, rfl, hr⟩
  have HR := Lib.hid hr
  clear hr h
  go_wp2
  go_ret
  exact ⟨rfl, ret_bool HR.out⟩

set_option maxRecDepth 100000 in
set_option maxHeartbeats 400000 in
theorem index_str (v : Value) (l : List ByteArray) (w : World) (h : SlR 1 16 RStr w v l) :
    Calls Tryd.prog 129 #[v, .func (.func 110) #[] #[]] w fun e w' => w = w' ∧ ∃ r : Int, e = .returned (.int .i64 r) ∧ decide (0 ≤ r) = l.any badRaw := by
  obtain ⟨A, c, rfl, hl, hc, r1⟩ := h.row
  clear h
  go_enter Tryd.func129, Tryd.ntmps129
  go_wp2
  go_loop [8] (fun i => ∃ k : Nat, i = .int .i64 k ∧ k ≤ l.length ∧ (l.take k).any badRaw = false) (fun i => l.length - (intOf i).toNat)
  case atStart => exact ⟨0, rfl, Nat.zero_le _, rfl⟩
  case round =>
    obtain ⟨k, rfl, hk, hno⟩ := hrel
    have HN := Lib.hid hno
    clear hno
    by_cases hlt : k < l.length
    · obtain ⟨b1, o1, rfl, g1⟩ := r1 k hlt
      obtain ⟨u1, q1, t1⟩ := g1 k hlt
      obtain rfl := t1.val
      have HR := Lib.hid r1
      clear g1 r1 t1
      have hcon := badRaw_any l[k] w
      have htk : (l.take (k + 1)).any badRaw = badRaw l[k] := by
        rw [← List.take_append_getElem hlt, List.any_append, HN.out]; simp
      have HT := Lib.hid htk
      clear htk
      by_cases hp : badRaw l[k] = true
      · rw [hp] at hcon
        have HC := Lib.hid hcon
        have HP := Lib.hid hp
        clear hcon hp
        go_wp2_with fail
        refine HC.out.mono ?_
        rintro e w1 ⟨rfl, rfl⟩
        go_wp2
        go_ret
        refine ⟨rfl, _, rfl, ?_⟩
        have : l.any badRaw = true := List.any_eq_true.2 ⟨l[k], List.getElem_mem hlt, HP.out⟩
        rw [this]
        simp
      · rw [Bool.not_eq_true] at hp
        rw [hp] at hcon
        have HC := Lib.hid hcon
        have HP := Lib.hid hp
        clear hcon hp
        go_wp2_with fail
        refine HC.out.mono ?_
        rintro e w1 ⟨rfl, rfl⟩
        go_wp2
        go_round
        case rel => exact ⟨k + 1, by go_num, by omega, by rw [HT.out, HP.out]⟩
        case measure => simp [intOf]; omega
    · obtain rfl : k = l.length := by omega
      go_wp2
      go_ret
      refine ⟨rfl, _, rfl, ?_⟩
      rw [List.take_length] at HN
      rw [HN.out]
      simp
set_option maxRecDepth 100000 in
set_option maxHeartbeats 400000 in
theorem contains_str (v : Value) (l : List ByteArray) (w : World) (h : SlR 1 16 RStr w v l) :
    Calls Tryd.prog 109 #[v, .func (.func 110) #[] #[]] w fun e w' => w = w' ∧ e = .returned (.bool (l.any badRaw)) := by
  go_enter Tryd.func109, Tryd.ntmps109
  go_wp2_with fail
  refine (index_str v l w h).mono ?_
  rintro e w1 ⟨rfl, r, rfl, hr⟩
  have HR := Lib.hid hr
  clear hr h
  go_wp2
  go_ret
  exact ⟨rfl, ret_bool HR.out⟩

end Go.Proofs.YtokpjgpdkmimgaaDoor

/-
  device.Check and the document's DeviceMay: both tell whether a device may be; the law DeviceChecks. Conditions: the argument reads as a device.
-/
namespace Go.Proofs.YtokpjgpdkmimgaaDoor
set_option linter.unusedSimpArgs false
set_option linter.unusedVariables false
open Go.RowKit

/-- A device that may be. -/
def devMay (d : Dev) : Bool := decide (1 ≤ d.sec.length) && decide (d.sec.length ≤ 64) && decide (d.lost.length = d.sec.length) && !(d.sec.any badRaw)
theorem devMay_len {d : Dev} (h : devMay d = true) : 1 ≤ d.sec.length ∧ d.sec.length ≤ 64 ∧ d.lost.length = d.sec.length ∧ ∀ s ∈ d.sec, s.size = 30 := by
  unfold devMay at h
  simp only [Bool.and_eq_true, decide_eq_true_eq, Bool.not_eq_true', List.any_eq_false] at h
  obtain ⟨⟨⟨h1, h2⟩, h3⟩, h4⟩ := h
  refine ⟨h1, h2, h3, fun s hs => ?_⟩
  have := h4 s hs
  unfold badRaw at this
  simp at this
  omega
def devCode (d : Dev) : Int := if devMay d then 0 else 9

set_option maxRecDepth 100000 in
set_option maxHeartbeats 400000 in
theorem devCheck_any (cs : List Value) (d : Dev) (w : World) (h : RDev w cs d) :
    Calls Tryd.prog 83 #[.agg cs.toArray] w fun e w' => e = .returned (.int .i64 (devCode d)) ∧ Ext w w' := by
  obtain ⟨A1, c1, A2, c2, rfl, h1, h2⟩ := h.split
  clear h
  by_cases k1 : d.sec.length < 1
  · have hm : devMay d = false := by unfold devMay; simp; omega
    have k1' : decide ((d.sec.length : Int) < 1) = true := by simp; omega
    have hf : devCode d = 9 := by unfold devCode; rw [hm]; rfl
    rw [hf]
    clear hm hf h1 h2
    go_enter Tryd.func83, Tryd.ntmps83
    go_wp2
    go_ret
    exact ⟨rfl, (Ext.refl _).alloc _⟩
  · have k1' : decide ((d.sec.length : Int) < 1) = false := by simp; omega
    by_cases k2 : 64 < d.sec.length
    · have hm : devMay d = false := by unfold devMay; simp; omega
      have k2' : decide ((64 : Int) < (d.sec.length : Int)) = true := by simp; omega
      have hf : devCode d = 9 := by unfold devCode; rw [hm]; rfl
      rw [hf]
      clear hm hf h1 h2
      go_enter Tryd.func83, Tryd.ntmps83
      go_wp2
      go_ret
      exact ⟨rfl, (Ext.refl _).alloc _⟩
    · have k2' : decide ((64 : Int) < (d.sec.length : Int)) = false := by simp; omega
      by_cases k3 : d.lost.length = d.sec.length
      · have k3' : ((d.lost.length : Int) != (d.sec.length : Int)) = false := by simp; omega
        have hm : devMay d = !(d.sec.any badRaw) := by
          unfold devMay
          rw [decide_eq_true (by omega : 1 ≤ d.sec.length), decide_eq_true (by omega : d.sec.length ≤ 64), decide_eq_true k3]
          simp
        have hf : ∀ b, d.sec.any badRaw = b → devCode d = if b then 9 else 0 := by
          intro b hb; unfold devCode; rw [hm, hb]; cases b <;> rfl
        have HF := Lib.hid hf
        clear hm hf k3
        have hcon := contains_str _ d.sec (w.alloc (.cells #[.slice A1 d.sec.length c1, .slice A2 d.lost.length c2] 117)) (h1.ext RStr.stays ((Ext.refl w).alloc _))
        clear h1 h2
        cases hb : d.sec.any badRaw with
        | true =>
          rw [hb] at hcon
          have HC := Lib.hid hcon
          have HB := Lib.hid hb
          clear hcon hb
          go_enter Tryd.func83, Tryd.ntmps83
          go_wp2_with (go_at_call 109; refine HC.out.mono ?_; rintro e w1 ⟨rfl, rfl⟩)
          go_ret
          exact ⟨ret_int (by rw [HF.out true HB.out]; rfl), (Ext.refl _).alloc _⟩
        | false =>
          rw [hb] at hcon
          have HC := Lib.hid hcon
          have HB := Lib.hid hb
          clear hcon hb
          go_enter Tryd.func83, Tryd.ntmps83
          go_wp2_with (go_at_call 109; refine HC.out.mono ?_; rintro e w1 ⟨rfl, rfl⟩)
          go_ret
          exact ⟨ret_int (by rw [HF.out false HB.out]; rfl), (Ext.refl _).alloc _⟩
      · have hm : devMay d = false := by unfold devMay; rw [decide_eq_false k3]; simp
        have k3' : ((d.lost.length : Int) != (d.sec.length : Int)) = true := by simp; omega
        have hf : devCode d = 9 := by unfold devCode; rw [hm]; rfl
        rw [hf]
        clear hm hf h1 h2
        go_enter Tryd.func83, Tryd.ntmps83
        go_wp2
        go_ret
        exact ⟨rfl, (Ext.refl _).alloc _⟩

set_option maxRecDepth 100000 in
set_option maxHeartbeats 400000 in
theorem devMay_any (cs : List Value) (d : Dev) (w : World) (h : RDev w cs d) :
    Calls Tryd.prog 134 #[.agg cs.toArray] w fun e w' => e = .returned (.bool (devMay d)) ∧ Ext w w' := by
  obtain ⟨v1, v2, rfl, h1, h2⟩ := h
  obtain ⟨A1, c1, rfl, l1, hc1, r1⟩ := h1.row
  obtain ⟨A2, c2, rfl, l2, hc2, _⟩ := h2.row
  clear h1 h2
  go_enter Tryd.func134, Tryd.ntmps134
  go_wp2
  refine wp_abs (fun W => Ext w W ∧ Blk_ W w.heap.size 117 #[.slice A1 d.sec.length c1, .slice A2 d.lost.length c2]) ⟨(Ext.refl _).alloc _, Blk_.new _ _ _⟩ ?_
  rintro W ⟨hx, hb⟩
  have f0 := hb.cell 0
  have f1 := hb.cell 1
  simp at f0 f1
  go_loop [3] (fun i => ∃ k : Nat, i = .int .i64 k ∧ k ≤ d.sec.length ∧ (d.sec.take k).any badRaw = false) (fun i => d.sec.length - (intOf i).toNat)
  case atStart => exact ⟨0, rfl, Nat.zero_le _, rfl⟩
  case round =>
    obtain ⟨k, rfl, hk, hno⟩ := hrel
    have HN := Lib.hid hno
    clear hno
    by_cases hlt : k < d.sec.length
    · obtain ⟨b1, o1, rfl, g1⟩ := r1 k hlt
      obtain ⟨u1, q1, t1⟩ := g1 k hlt
      obtain rfl := t1.val
      have q1' := hx.cell q1
      have HR := Lib.hid r1
      clear g1 r1 t1 q1
      have htk : (d.sec.take (k + 1)).any badRaw = badRaw d.sec[k] := by
        rw [← List.take_append_getElem hlt, List.any_append, HN.out]; simp
      have HT := Lib.hid htk
      clear htk
      by_cases hp : badRaw d.sec[k] = true
      · have hm : devMay d = false := by
          have : d.sec.any badRaw = true := List.any_eq_true.2 ⟨d.sec[k], List.getElem_mem hlt, hp⟩
          unfold devMay; rw [this]; simp
        have hs : (((d.sec[k]).size : Int) != 30) = true := by unfold badRaw at hp; simpa [bne] using hp
        have HM := Lib.hid hm
        clear hm hp
        go_wp2
        go_ret
        exact ⟨ret_bool HM.out.symm, hx⟩
      · rw [Bool.not_eq_true] at hp
        have hs : (((d.sec[k]).size : Int) != 30) = false := by unfold badRaw at hp; simpa [bne] using hp
        have HP := Lib.hid hp
        clear hp
        go_wp2
        go_round
        case rel => exact ⟨k + 1, by go_num, by omega, by rw [HT.out, HP.out]⟩
        case measure => simp [intOf]; omega
    · obtain rfl : k = d.sec.length := by omega
      rw [List.take_length] at HN
      clear r1
      by_cases k1 : inB d.sec.length 1 64 = true
      · obtain ⟨k2, k3⟩ := inB_true k1
        clear k1
        go_wp2_with (go_at_call 87; refine (in_true _ _ _ _ k2 k3).mono ?_; rintro e w1 ⟨rfl, rfl⟩)
        go_ret
        refine ⟨ret_bool ?_, hx⟩
        unfold devMay
        rw [HN.out, decide_eq_true (by omega : 1 ≤ d.sec.length), decide_eq_true (by omega : d.sec.length ≤ 64)]
        simp
        rw [Bool.eq_iff_iff]
        simp
        omega
      · rw [Bool.not_eq_true] at k1
        have k2 := inB_false k1
        clear k1
        go_wp2_with (go_at_call 87; refine (in_false _ _ _ _ k2).mono ?_; rintro e w1 ⟨rfl, rfl⟩)
        go_ret
        refine ⟨ret_bool ?_, hx⟩
        have : devMay d = false := by
          unfold devMay
          simp
          omega
        rw [this]

end Go.Proofs.YtokpjgpdkmimgaaDoor

/-
  array.Check and the document's ArrayMay: both tell whether an array may be; the law ArrayChecks. Conditions: the argument reads as an array.
-/
namespace Go.Proofs.YtokpjgpdkmimgaaDoor
set_option linter.unusedSimpArgs false
set_option linter.unusedVariables false
open Go.RowKit

/-- An array that may be. -/
def arrMay : List Dev → Bool
  | [x, y, z] => devMay x && devMay y && devMay z && decide (16 ≤ x.sec.length) && decide (x.sec.length % 2 = 0) && decide (y.sec.length = x.sec.length) && decide (z.sec.length = x.sec.length / 2)
  | _ => false
theorem arrMay_len {a : List Dev} (h : a.length ≠ 3) : arrMay a = false := by
  match a, h with
  | [], _ => rfl
  | [_], _ => rfl
  | [_, _], _ => rfl
  | [_, _, _], h => exact absurd rfl h
  | _ :: _ :: _ :: _ :: _, _ => rfl
theorem arrMay_all {a : List Dev} {k : Nat} (hk : k < a.length) (h : devMay a[k] = false) : arrMay a = false := by
  match a, hk with
  | [x, y, z], hk =>
    match k, hk with
    | 0, _ => have h' : devMay x = false := h
              simp [arrMay, h']
    | 1, _ => have h' : devMay y = false := h
              simp [arrMay, h']
    | 2, _ => have h' : devMay z = false := h
              simp [arrMay, h']
  | [_], _ => rfl
  | [_, _], _ => rfl
  | _ :: _ :: _ :: _ :: _, _ => rfl
def arrCode (a : List Dev) : Int := if arrMay a then 0 else 9
theorem arrCode_false {a : List Dev} (h : arrMay a = false) : arrCode a = 9 := by unfold arrCode; rw [h]; rfl
theorem arrCode_true {a : List Dev} (h : arrMay a = true) : arrCode a = 0 := by unfold arrCode; rw [h]; rfl
theorem three {α : Type} {l : List α} (h : l.length = 3) : ∃ a b c, l = [a, b, c] := by
  match l, h with
  | [a, b, c], _ => exact ⟨a, b, c, rfl⟩

theorem arrMay_eq {a : List Dev} (h : a.length = 3) : arrMay a = (devMay (a[0]'(by omega)) && devMay (a[1]'(by omega)) && devMay (a[2]'(by omega)) && decide (16 ≤ (a[0]'(by omega)).sec.length) && decide ((a[0]'(by omega)).sec.length % 2 = 0) &&
    decide ((a[1]'(by omega)).sec.length = (a[0]'(by omega)).sec.length) && decide ((a[2]'(by omega)).sec.length = (a[0]'(by omega)).sec.length / 2)) := by
  obtain ⟨x, y, z, rfl⟩ := three h
  rfl

set_option maxRecDepth 100000 in
set_option maxHeartbeats 1000000 in
theorem arrCheck_any (cs : List Value) (a : List Dev) (w : World) (h : RArr w cs a) :
    Calls Tryd.prog 41 #[.agg cs.toArray] w fun e w' => e = .returned (.int .i64 (arrCode a)) ∧ Ext w w' := by
  obtain ⟨v, rfl, h1⟩ := h
  obtain ⟨A0, c0, rfl, hb0, hc0, hr⟩ := h1.rowR
  clear h1
  by_cases h3 : a.length = 3
  · have hr0 := hr
    have H3 := Lib.hid h3
    have h3i : ((a.length : Int) != 3) = false := by simp; omega
    clear h3
    go_enter Tryd.func41, Tryd.ntmps41
    go_wp2
    refine wp_abs (fun W => Ext w W ∧ Blk_ W w.heap.size 40 #[.slice A0 a.length c0]) ⟨(Ext.refl _).alloc _, Blk_.new _ _ _⟩ ?_
    rintro W ⟨hx, hb⟩
    go_loopw [14] (fun i wr => ∃ k : Nat, i = .int .i64 k ∧ k ≤ a.length ∧ Ext w wr ∧ Blk_ wr w.heap.size 40 #[.slice A0 a.length c0] ∧ ∀ j, (hj : j < a.length) → j < k → devMay a[j] = true) (fun i _ => a.length - (intOf i).toNat)
    case atStart => exact ⟨0, rfl, Nat.zero_le _, hx, hb, fun j _ h => absurd h (by omega)⟩
    case round =>
      clear hx hb
      obtain ⟨k, rfl, hk, hx, hb, hall⟩ := hrel
      have HA := Lib.hid hall
      clear hall
      have f0 := hb.cell 0
      simp at f0
      by_cases hlt : k < a.length
      · obtain ⟨b, o, rfl, g⟩ := hr k hlt
        obtain ⟨cs1, n1, q1, d1⟩ := g k hlt
        obtain ⟨B1, k1, B2, k2, rfl⟩ := d1.form
        have r0 := hx.cell (q1 0 _ rfl)
        have r1 := hx.cell (q1 1 _ rfl)
        simp only [Nat.add_zero] at r0
        have HR := Lib.hid hr
        have HR0 := Lib.hid hr0
        clear g q1 n1 hr hr0
        go_wp2_with fail
        refine calls_abs (fun W => Ext wr W) ((Ext.refl _).alloc _) ?_
        intro W1 hx1
        refine (devCheck_any [.slice B1 a[k].sec.length k1, .slice B2 a[k].lost.length k2] a[k] W1 (d1.up (hx.trans hx1))).mono ?_
        rintro e w2 ⟨rfl, hx2⟩
        cases hm : devMay a[k] with
        | false =>
          have hf : devCode a[k] = 9 := by unfold devCode; rw [hm]; rfl
          have hfin := arrCode_false (arrMay_all hlt hm)
          have HF := Lib.hid hfin
          rw [hf]
          clear hm hf hfin d1
          go_wp2
          go_ret
          exact ⟨ret_int HF.out.symm, (hx.trans hx1).trans hx2⟩
        | true =>
          have hf : devCode a[k] = 0 := by unfold devCode; rw [hm]; rfl
          rw [hf]
          have HM := Lib.hid hm
          clear hm hf d1
          go_wp2
          go_roundw
          case rel =>
            refine ⟨k + 1, by go_num, by omega, (hx.trans hx1).trans hx2, (hb.ext hx1).ext hx2, fun j hj hjk => ?_⟩
            by_cases hje : j = k
            · subst hje; exact HM.out
            · exact HA.out j hj (by omega)
          case measure => simp [intOf]; omega
      · have hk' : k = a.length := by omega
        have HK := Lib.hid hk'
        clear hk'
        have l0 : 0 < a.length := by have := H3.out; omega
        have l1 : 1 < a.length := by have := H3.out; omega
        have l2 : 2 < a.length := by have := H3.out; omega
        obtain ⟨b, o, rfl, g⟩ := hr 0 l0
        obtain ⟨cs0, n0, q0, d0⟩ := g 0 l0
        obtain ⟨cs1, n1, q1, d1⟩ := g 1 l1
        obtain ⟨cs2, n2, q2, d2⟩ := g 2 l2
        obtain ⟨B1, k1, B2, k2, rfl⟩ := d0.form
        obtain ⟨B3, k3, B4, k4, rfl⟩ := d1.form
        obtain ⟨B5, k5, B6, k6, rfl⟩ := d2.form
        have r0 := hx.cell (q0 0 _ rfl)
        have r1 := hx.cell (q1 0 _ rfl)
        have r2 := hx.cell (q2 0 _ rfl)
        simp only [Nat.add_zero, Nat.zero_mul, Nat.one_mul] at r0 r1 r2
        have m0 : devMay a[0] = true := HA.out 0 l0 (by have := HK.out; omega)
        have m1 : devMay a[1] = true := HA.out 1 l1 (by have := HK.out; omega)
        have m2 : devMay a[2] = true := HA.out 2 l2 (by have := HK.out; omega)
        have hdef := arrMay_eq H3.out
        rw [m0, m1, m2] at hdef
        have hxl := (devMay_len m0).2.1
        clear m0 m1 m2 q0 q1 q2 n0 n1 n2 d0 d1 d2 g hr hr0 HA
        generalize a[0] = x at *
        generalize a[1] = y at *
        generalize a[2] = z at *
        have HD := Lib.hid hdef
        clear hdef
        by_cases e1 : x.sec.length < 16
        · have e1' : decide ((x.sec.length : Int) < 16) = true := by simp; omega
          have hfin : arrCode a = 9 := arrCode_false (by rw [HD.out, decide_eq_false (by omega : ¬ 16 ≤ x.sec.length)]; rfl)
          have HF := Lib.hid hfin
          clear hfin e1
          go_wp2
          go_ret
          exact ⟨ret_int HF.out.symm, hx⟩
        · have e1' : decide ((x.sec.length : Int) < 16) = false := by simp; omega
          by_cases e2 : x.sec.length % 2 = 0
          · have e2' : ((x.sec.length : Int) % 2 != 0) = false := by simp; omega
            by_cases e3 : y.sec.length = x.sec.length
            · have e3' : ((y.sec.length : Int) != (x.sec.length : Int)) = false := by simp; omega
              by_cases e4 : z.sec.length = x.sec.length / 2
              · have e4' : ((z.sec.length : Int) != (x.sec.length : Int) / 2) = false := by simp; omega
                have hfin : arrCode a = 0 := arrCode_true (by rw [HD.out, decide_eq_true (by omega : 16 ≤ x.sec.length), decide_eq_true e2, decide_eq_true e3, decide_eq_true e4]; rfl)
                have HF := Lib.hid hfin
                clear hfin e1 e2 e3 e4
                go_wp2
                go_ret
                exact ⟨ret_int HF.out.symm, hx⟩
              · have e4' : ((z.sec.length : Int) != (x.sec.length : Int) / 2) = true := by simp; omega
                have hfin : arrCode a = 9 := arrCode_false (by rw [HD.out, decide_eq_false e4]; simp)
                have HF := Lib.hid hfin
                clear hfin e1 e2 e3 e4
                go_wp2
                go_ret
                exact ⟨ret_int HF.out.symm, hx⟩
            · have e3' : ((y.sec.length : Int) != (x.sec.length : Int)) = true := by simp; omega
              have hfin : arrCode a = 9 := arrCode_false (by rw [HD.out, decide_eq_false e3]; simp)
              have HF := Lib.hid hfin
              clear hfin e1 e2 e3
              go_wp2
              go_ret
              exact ⟨ret_int HF.out.symm, hx⟩
          · have e2' : ((x.sec.length : Int) % 2 != 0) = true := by simp; omega
            have hfin : arrCode a = 9 := arrCode_false (by rw [HD.out, decide_eq_false e2]; simp)
            have HF := Lib.hid hfin
            clear hfin e1 e2
            go_wp2
            go_ret
            exact ⟨ret_int HF.out.symm, hx⟩
  · have hfin := arrCode_false (arrMay_len h3)
    have h3i : ((a.length : Int) != 3) = true := by simp; omega
    rw [hfin]
    clear hfin hr h3
    go_enter Tryd.func41, Tryd.ntmps41
    go_wp2
    go_ret
    exact ⟨rfl, (Ext.refl _).alloc _⟩
set_option maxRecDepth 100000 in
set_option maxHeartbeats 1000000 in
theorem arrMay_any (cs : List Value) (a : List Dev) (w : World) (h : RArr w cs a) :
    Calls Tryd.prog 115 #[.agg cs.toArray] w fun e w' => e = .returned (.bool (arrMay a)) ∧ Ext w w' := by
  obtain ⟨v, rfl, h1⟩ := h
  obtain ⟨A0, c0, rfl, hb0, hc0, hr⟩ := h1.rowR
  clear h1
  by_cases h3 : a.length = 3
  · have hr0 := hr
    have H3 := Lib.hid h3
    have h3i : ((a.length : Int) != 3) = false := by simp; omega
    clear h3
    go_enter Tryd.func115, Tryd.ntmps115
    go_wp2
    refine wp_abs (fun W => Ext w W ∧ Blk_ W w.heap.size 40 #[.slice A0 a.length c0]) ⟨(Ext.refl _).alloc _, Blk_.new _ _ _⟩ ?_
    rintro W ⟨hx, hb⟩
    go_loopw [3] (fun i wr => ∃ k : Nat, i = .int .i64 k ∧ k ≤ 3 ∧ Ext w wr ∧ Blk_ wr w.heap.size 40 #[.slice A0 a.length c0] ∧ ∀ j, (hj : j < a.length) → j < k → devMay a[j] = true) (fun i _ => 3 - (intOf i).toNat)
    case atStart => exact ⟨0, rfl, Nat.zero_le _, hx, hb, fun j _ h => absurd h (by omega)⟩
    case round =>
      clear hx hb
      obtain ⟨k, rfl, hk, hx, hb, hall⟩ := hrel
      have HA := Lib.hid hall
      clear hall
      have f0 := hb.cell 0
      simp at f0
      have hl3 : a.length = 3 := H3.out
      by_cases hlt3 : k < 3
      · have hlt : k < a.length := by omega
        clear hl3
        obtain ⟨b, o, rfl, g⟩ := hr k hlt
        obtain ⟨cs1, n1, q1, d1⟩ := g k hlt
        obtain ⟨B1, k1, B2, k2, rfl⟩ := d1.form
        have r0 := hx.cell (q1 0 _ rfl)
        have r1 := hx.cell (q1 1 _ rfl)
        simp only [Nat.add_zero] at r0
        have HR := Lib.hid hr
        have HR0 := Lib.hid hr0
        clear g q1 n1 hr hr0
        go_wp2_with fail
        refine (devMay_any [.slice B1 a[k].sec.length k1, .slice B2 a[k].lost.length k2] a[k] wr (d1.up hx)).mono ?_
        rintro e w2 ⟨rfl, hx2⟩
        cases hm : devMay a[k] with
        | false =>
          have hfin := arrMay_all hlt hm
          have HF := Lib.hid hfin
          clear hm hfin d1
          go_wp2
          go_ret
          exact ⟨ret_bool HF.out.symm, hx.trans hx2⟩
        | true =>
          have HM := Lib.hid hm
          clear hm d1
          go_wp2
          go_roundw
          case rel =>
            refine ⟨k + 1, by go_num, by omega, hx.trans hx2, hb.ext hx2, fun j hj hjk => ?_⟩
            by_cases hje : j = k
            · subst hje; exact HM.out
            · exact HA.out j hj (by omega)
          case measure => simp [intOf]; omega
      · have hk' : k = a.length := by omega
        clear hl3
        have HK := Lib.hid hk'
        clear hk'
        have l0 : 0 < a.length := by have := H3.out; omega
        have l1 : 1 < a.length := by have := H3.out; omega
        have l2 : 2 < a.length := by have := H3.out; omega
        obtain ⟨b, o, rfl, g⟩ := hr 0 l0
        obtain ⟨cs0, n0, q0, d0⟩ := g 0 l0
        obtain ⟨cs1, n1, q1, d1⟩ := g 1 l1
        obtain ⟨cs2, n2, q2, d2⟩ := g 2 l2
        obtain ⟨B1, k1, B2, k2, rfl⟩ := d0.form
        obtain ⟨B3, k3, B4, k4, rfl⟩ := d1.form
        obtain ⟨B5, k5, B6, k6, rfl⟩ := d2.form
        have r0 := hx.cell (q0 0 _ rfl)
        have r1 := hx.cell (q1 0 _ rfl)
        have r2 := hx.cell (q2 0 _ rfl)
        simp only [Nat.add_zero, Nat.zero_mul, Nat.one_mul] at r0 r1 r2
        have m0 : devMay a[0] = true := HA.out 0 l0 (by have := HK.out; omega)
        have m1 : devMay a[1] = true := HA.out 1 l1 (by have := HK.out; omega)
        have m2 : devMay a[2] = true := HA.out 2 l2 (by have := HK.out; omega)
        have hdef := arrMay_eq H3.out
        rw [m0, m1, m2] at hdef
        have hxl := (devMay_len m0).2.1
        clear m0 m1 m2 q0 q1 q2 n0 n1 n2 d0 d1 d2 g hr hr0 HA
        generalize a[0] = x at *
        generalize a[1] = y at *
        generalize a[2] = z at *
        have HD := Lib.hid hdef
        clear hdef
        have hIn : ∀ (b : Bool), inB x.sec.length 16 64 = b → b = decide (16 ≤ x.sec.length) := by
          intro b hb; rw [← hb]; unfold inB; rw [Bool.eq_iff_iff]; simp; omega
        by_cases e1 : 16 ≤ x.sec.length
        · have n1 : (16 : Int) ≤ (x.sec.length : Int) := by omega
          have n2 : (x.sec.length : Int) ≤ 64 := by omega
          by_cases e2 : x.sec.length % 2 = 0
          · have e2' : ((x.sec.length : Int) % 2 == 0) = true := by simp; omega
            by_cases e3 : y.sec.length = x.sec.length
            · have e3' : ((y.sec.length : Int) == (x.sec.length : Int)) = true := by simp; omega
              have hfin : arrMay a = decide (z.sec.length = x.sec.length / 2) := by rw [HD.out, decide_eq_true e1, decide_eq_true e2, decide_eq_true e3]; simp
              have HF := Lib.hid hfin
              clear hfin e1 e2 e3 hIn
              go_wp2_with (go_at_call 87; refine (in_true _ _ _ _ n1 n2).mono ?_; rintro e w1 ⟨rfl, rfl⟩)
              go_ret
              exact ⟨ret_bool (by rw [HF.out, Bool.eq_iff_iff]; simp; omega), hx⟩
            · have e3' : ((y.sec.length : Int) == (x.sec.length : Int)) = false := by simp; omega
              have hfin : arrMay a = false := by rw [HD.out, decide_eq_false e3]; simp
              have HF := Lib.hid hfin
              clear hfin e1 e2 e3 hIn
              go_wp2_with (go_at_call 87; refine (in_true _ _ _ _ n1 n2).mono ?_; rintro e w1 ⟨rfl, rfl⟩)
              go_ret
              exact ⟨ret_bool HF.out.symm, hx⟩
          · have e2' : ((x.sec.length : Int) % 2 == 0) = false := by simp; omega
            have hfin : arrMay a = false := by rw [HD.out, decide_eq_false e2]; simp
            have HF := Lib.hid hfin
            clear hfin e1 e2 hIn
            go_wp2_with (go_at_call 87; refine (in_true _ _ _ _ n1 n2).mono ?_; rintro e w1 ⟨rfl, rfl⟩)
            go_ret
            exact ⟨ret_bool HF.out.symm, hx⟩
        · have n1 : (x.sec.length : Int) < 16 ∨ (64 : Int) < (x.sec.length : Int) := by omega
          have hfin : arrMay a = false := by rw [HD.out, decide_eq_false e1]; rfl
          have HF := Lib.hid hfin
          clear hfin e1 hIn
          go_wp2_with (go_at_call 87; refine (in_false _ _ _ _ n1).mono ?_; rintro e w1 ⟨rfl, rfl⟩)
          go_ret
          exact ⟨ret_bool HF.out.symm, hx⟩
  · have hfin := arrMay_len h3
    have h3i : ((a.length : Int) != 3) = true := by simp; omega
    rw [hfin]
    clear hfin hr h3
    go_enter Tryd.func115, Tryd.ntmps115
    go_wp2
    go_ret
    exact ⟨rfl, (Ext.refl _).alloc _⟩

end Go.Proofs.YtokpjgpdkmimgaaDoor
