/-
  Regions that draw their order, told by what each operation yields: each operation is walked once, whatever order is drawn. Conditions: what is told of a value stays as the world grows.
-/
import Derived.Test.YtgjijcgkmofaaaaGreatDoorU8
import Derived.Lib.AppendStr
import Derived.Shelf.Strings.BuilderK
namespace Go.Proofs.YtgjijcgkmofaaaaGreatDoor
set_option linter.unusedSimpArgs false
set_option linter.unusedVariables false
set_option maxRecDepth 100000
set_option maxHeartbeats 8000000
open Go.RowKit
def waits (x : Oper) : List Nat := (x.after.toList.filter (Region.binds .any)).map (·.on)
def waitsAt (L : List Oper) (i : Nat) : List Nat := ((L[i]?).map waits).getD []
def upd (vals : Nat → Value) (i : Nat) (v : Value) : Nat → Value := fun j => if j = i then v else vals j
theorem upd_same (vals : Nat → Value) (i : Nat) (v : Value) : upd vals i v i = v := if_pos rfl
theorem upd_other (vals : Nat → Value) {i j : Nat} (v : Value) (h : j ≠ i) : upd vals i v j = vals j := if_neg h
def putAll (a : Act) (vals : Nat → Value) : Nat → List Oper → Act
 | _, [] => a
 | n, x :: l => putAll (a.put x.dst (vals n)) vals (n + 1) l
def apart : List (Option Tmp) → Bool
 | [] => true
 | d :: l => (d.isNone || !l.contains d) && apart l
theorem put_comm (a : Act) {d e : Option Tmp} (u v : Value) (h : d = none ∨ d ≠ e) : (a.put d u).put e v = (a.put e v).put d u := by
 cases d with
 | none => rfl
 | some d =>
  cases e with
  | none => rfl
  | some e =>
   have hde : d ≠ e := by
    rcases h with h | h
    ·cases h
    ·intro hh; exact h (by rw [hh])
   unfold Act.put
   simp only [Act.mk.injEq, and_true]
   exact Array.setIfInBounds_comm _ _ hde
theorem put_put (a : Act) (d : Option Tmp) (u v : Value) : (a.put d u).put d v = a.put d v := by
 cases d with
 | none => rfl
 | some d => unfold Act.put; simp
theorem put_own (a : Act) (d : Tmp) : a.put (some d) (a.tmps.getD d undef) = a := by
 unfold Act.put
 obtain ⟨t, ds⟩ := a
 simp only [Act.mk.injEq, and_true]
 apply Array.ext_getElem?
 intro k
 rw [Array.getElem?_setIfInBounds]
 by_cases h : d = k
 ·subst h
  rw [if_pos rfl]
  by_cases h2 : d < t.size
  ·simp [h2]
  ·simp [h2]
 ·rw [if_neg h]
theorem putAll_put (a : Act) (vals : Nat → Value) (d : Option Tmp) (v : Value) : ∀ (l : List Oper) (n : Nat), (d = none ∨ ¬ d ∈ l.map (·.dst)) → putAll (a.put d v) vals n l = (putAll a vals n l).put d v := by
 intro l
 induction l generalizing a with
 | nil => intro n _; rfl
 | cons x l ih =>
  intro n h
  unfold putAll
  have h1 : d = none ∨ d ≠ x.dst := by
   rcases h with h | h
   ·exact .inl h
   ·right; intro hh; exact h (by simp [hh])
  have h2 : d = none ∨ ¬ d ∈ l.map (·.dst) := by
   rcases h with h | h
   ·exact .inl h
   ·right; intro hh; exact h (by rw [List.map_cons]; exact List.mem_cons_of_mem _ hh)
  rw [put_comm a v (vals n) h1, ih _ _ h2]
theorem putAll_upd_lt (a : Act) (vals : Nat → Value) (i : Nat) (v : Value) : ∀ (l : List Oper) (n : Nat), i < n → putAll a (upd vals i v) n l = putAll a vals n l := by
 intro l
 induction l generalizing a with
 | nil => intro n _; rfl
 | cons x l ih =>
  intro n h
  unfold putAll
  rw [upd_other _ _ (by omega), ih _ _ (by omega)]
theorem putAll_upd (a : Act) (vals : Nat → Value) (v : Value) : ∀ (l : List Oper) (n i : Nat) (x : Oper), apart (l.map (·.dst)) = true → l[i]? = some x → putAll a (upd vals (n + i) v) n l = (putAll a vals n l).put x.dst v := by
 intro l
 induction l generalizing a with
 | nil => intro n i x _ h; simp at h
 | cons y l ih =>
  intro n i x hap h
  rw [List.map_cons] at hap
  unfold apart at hap
  rw [Bool.and_eq_true] at hap
  unfold putAll
  cases i with
  | zero =>
   simp only [List.getElem?_cons_zero, Option.some.injEq] at h
   subst h
   rw [Nat.add_zero, upd_same, putAll_upd_lt _ _ _ _ _ _ (by omega), ← put_put a y.dst (vals n) v]
   refine putAll_put _ _ _ _ _ _ ?_
   have h1 := hap.1
   rw [Bool.or_eq_true] at h1
   rcases h1 with h1 | h1
   ·left; simpa using h1
   ·right; simpa using h1
  | succ i =>
   rw [List.getElem?_cons_succ] at h
   rw [upd_other _ _ (by omega), show n + (i + 1) = n + 1 + i by omega]
   exact ih _ _ _ _ hap.2 h
def oldAt (a : Act) (L : List Oper) (i : Nat) : Value := match L[i]? with
 | some x => match x.dst with
  | some d => a.tmps.getD d undef
  | none => undef
 | none => undef
theorem putAll_old (a : Act) (vals : Nat → Value) : ∀ (l : List Oper) (n : Nat), (∀ i x d, l[i]? = some x → x.dst = some d → vals (n + i) = a.tmps.getD d undef) → putAll a vals n l = a := by
 intro l
 induction l with
 | nil => intro n _; rfl
 | cons x l ih =>
  intro n h
  unfold putAll
  have h0 : a.put x.dst (vals n) = a := by
   cases hd : x.dst with
   | none => rfl
   | some d =>
    have := h 0 x d rfl hd
    rw [Nat.add_zero] at this
    rw [this, put_own]
  rw [h0]
  refine ih (n + 1) (fun i x d h1 h2 => ?_)
  have := h (i + 1) x d (by rw [List.getElem?_cons_succ]; exact h1) h2
  rw [← this]
  congr 1
  omega
def At (V : List (Value → World → Prop)) (i : Nat) (v : Value) (w : World) : Prop := match V[i]? with
 | some p => p v w
 | none => False
def valsOk (L : List Oper) : Bool := apart (L.map (·.dst)) && L.all (fun x => x.guard.isNone) && (List.range L.length).all (fun i => (waitsAt L i).all (fun j => decide (j < i)))
section
variable {P : Program} {Q : Exit → Act → World → Prop}
def St (P : Program) (Q : Exit → Act → World → Prop) (L : List Oper) (a0 : Act) (F : (Nat → Value) → Act) (V : List (Value → World → Prop)) (w0 : World) (i : Nat) (x : Oper) : Prop :=
 ∀ vals w, Ext w0 w → (∀ j, (waits x).contains j = true → At V j (vals j) w) → (∀ j, (waitsAt L j).contains i = true → vals j = oldAt a0 L j) →
  ∀ K : Act → World → Prop, (∀ a' v w', a' = (F vals).put x.dst v → At V i v w' → Ext w w' → K a' w') → x.wp P (F vals) w K Q
def Steps (f : Nat → Oper → Prop) : Nat → List Oper → Prop
 | _, [] => True
 | n, x :: l => f n x ∧ Steps f (n + 1) l
theorem Steps.at {f : Nat → Oper → Prop} : ∀ {l : List Oper} {n i : Nat} {x : Oper}, Steps f n l → l[i]? = some x → f (n + i) x := by
 intro l
 induction l with
 | nil => intro n i x _ h; simp at h
 | cons y l ih =>
  intro n i x hs h
  cases i with
  | zero => simp only [List.getElem?_cons_zero, Option.some.injEq] at h; subst h; exact hs.1
  | succ i =>
   rw [List.getElem?_cons_succ] at h
   have := ih hs.2 h
   rwa [show n + (i + 1) = n + 1 + i by omega]
theorem mem_waits {x : Oper} {j : Nat} : (waits x).contains j = true ↔ ∃ e ∈ x.after, Region.binds .any e = true ∧ e.on = j := by
 unfold waits
 rw [List.contains_iff_mem, List.mem_map]
 constructor
 ·rintro ⟨e, h1, h2⟩
  rw [List.mem_filter] at h1
  exact ⟨e, by simpa using h1.1, h1.2, h2⟩
 ·rintro ⟨e, h1, h2, h3⟩
  exact ⟨e, by rw [List.mem_filter]; exact ⟨by simpa using h1, h2⟩, h3⟩
theorem getD_set_same {b : Array Bool} {i : Nat} (h : i < b.size) (d : Bool) : (b.setIfInBounds i true).getD i d = true := by
 simp [Array.getD_eq_getD_getElem?, h]
theorem getD_set_other {b : Array Bool} {i k : Nat} (h : i ≠ k) (d : Bool) : (b.setIfInBounds i true).getD k d = b.getD k d := by
 simp [Array.getD_eq_getD_getElem?, Array.getElem?_setIfInBounds, h]
def left_ (b : Array Bool) : Nat := b.toList.count false
theorem left_set {b : Array Bool} {i : Nat} (h : i < b.size) (hb : b.getD i true = false) : left_ (b.setIfInBounds i true) + 1 = left_ b := by
 unfold left_
 obtain ⟨l⟩ := b
 simp only [List.setIfInBounds_toArray] at *
 have hb' : l[i]? = some false := by
  simp only [List.size_toArray] at h
  rw [Array.getD_eq_getD_getElem?] at hb
  simp [h] at hb
  simp [h, hb]
 clear hb
 induction l generalizing i with
 | nil => simp at hb'
 | cons x l ih =>
  cases i with
  | zero =>
   simp only [List.getElem?_cons_zero, Option.some.injEq] at hb'
   subst hb'
   simp
  | succ i =>
   rw [List.getElem?_cons_succ] at hb'
   simp only [List.set_cons_succ, List.count_cons]
   have := ih (i := i) (by simp only [List.size_toArray, List.length_cons] at h ⊢; omega) hb'
   omega
theorem wpAny_vals_go {L : List Oper} {a0 : Act} {w0 : World} {F : (Nat → Value) → Act} (hF : ∀ vals, putAll a0 vals 0 L = F vals) (V : List (Value → World → Prop)) (hok : valsOk L = true)
  (hV : ∀ p ∈ V, ∀ v w w', p v w → Ext w w' → p v w') (hs : Steps (St P Q L a0 F V w0) 0 L)
  (done : ∀ vals w, Ext w0 w → (∀ i, i < L.length → At V i (vals i) w) → Q .normal (F vals) w) :
  ∀ (fuel : Nat) (listed : Array Bool) (vals : Nat → Value) (w : World), listed.size = L.length → left_ listed ≤ fuel → Ext w0 w →
   (∀ i, i < L.length → listed.getD i true = true → At V i (vals i) w ∧ ∀ j, (waitsAt L i).contains j = true → listed.getD j false = true) →
   (∀ i, listed.getD i true = false → vals i = oldAt a0 L i) →
   wpAny P .any L.toArray Q fuel listed (F vals) w := by
 unfold valsOk at hok
 rw [Bool.and_eq_true, Bool.and_eq_true] at hok
 obtain ⟨⟨hap, hgu⟩, hord⟩ := hok
 have hAt : ∀ i v w w', At V i v w → Ext w w' → At V i v w' := by
  intro i v w w' h e
  unfold At at *
  cases hp : V[i]? with
  | none => rw [hp] at h; exact h
  | some p => rw [hp] at h; exact hV p (List.mem_of_getElem? hp) _ _ _ h e
 have hall : ∀ (listed : Array Bool), listed.size = L.length → Region.ready .any L.toArray listed = [] → ∀ i, i < L.length → listed.getD i true = true := by
  intro listed hsz hr i
  induction i using Nat.strongRecOn with
  | ind i ih =>
   intro hi
   cases hb : listed.getD i true with
   | true => rfl
   | false =>
    have : i ∈ Region.ready .any L.toArray listed := by
     rw [ready_mem]
     refine ⟨by simpa using hi, hb, L[i], by simp [hi], fun e he hbd => ?_⟩
     have hlt : e.on < i := by
      have h1 := List.all_eq_true.1 hord i (List.mem_range.2 hi)
      have h2 := List.all_eq_true.1 h1 e.on (by
       unfold waitsAt
       rw [List.getElem?_eq_getElem hi]
       exact List.contains_iff_mem.1 (mem_waits.2 ⟨e, he, hbd, rfl⟩))
      simpa using h2
     have := ih e.on hlt (by omega)
     have hin : e.on < listed.size := by omega
     simpa [Array.getD_eq_getD_getElem?, hin] using this
    rw [hr] at this
    cases this
 intro fuel
 induction fuel with
 | zero =>
  intro listed vals w hsz hl e hv ho
  have hno : Region.ready .any L.toArray listed = [] := by
   apply List.eq_nil_iff_forall_not_mem.2
   intro i hi
   obtain ⟨h1, h2, _⟩ := ready_mem.1 hi
   have := left_set (b := listed) (i := i) (by simpa [hsz] using h1) h2
   omega
  exact ⟨hno, done vals w e fun i hi => (hv i hi (hall listed hsz hno i hi)).1⟩
 | succ fuel ih =>
  intro listed vals w hsz hl e hv ho
  refine ⟨fun hno => done vals w e fun i hi => (hv i hi (hall listed hsz hno i hi)).1, fun i hi => ?_⟩
  obtain ⟨h1, h2, x, hx, h3⟩ := ready_mem.1 hi
  have hil : i < L.length := by simpa using h1
  have hxL : L[i]? = some x := by simpa using hx
  have hg : x.guard = none := by
   have := List.all_eq_true.1 hgu x (List.mem_of_getElem? hxL)
   simpa using this
  unfold wpOp
  rw [hx]
  simp only
  rw [if_pos (by simp [Region.wanted, hg])]
  left
  have hst := hs.at hxL
  rw [Nat.zero_add] at hst
  have hwait : ∀ j, (waits x).contains j = true → listed.getD j false = true := by
   intro j hj
   obtain ⟨ed, he1, he2, rfl⟩ := mem_waits.1 hj
   exact h3 ed he1 he2
  refine hst vals w e (fun j hj => ?_) (fun j hj => ?_) _ ?_
  ·have hlj := hwait j hj
   have hjs : j < L.length := by
    by_cases h : j < listed.size
    ·omega
    ·simp [Array.getD_eq_getD_getElem?, h] at hlj
   refine (hv j hjs ?_).1
   have hin : j < listed.size := by omega
   simpa [Array.getD_eq_getD_getElem?, hin] using hlj
  ·refine ho j ?_
   cases hb : listed.getD j true with
   | false => rfl
   | true =>
    by_cases hjl : j < L.length
    ·have := (hv j hjl hb).2 i hj
     have hin : i < listed.size := by omega
     simp [Array.getD_eq_getD_getElem?, hin] at this h2
     rw [this] at h2
     cases h2
    ·unfold waitsAt at hj
     rw [List.getElem?_eq_none (by omega)] at hj
     simp at hj
  ·intro a' v w' ha' hv' e'
   subst ha'
   have hput : (F vals).put x.dst v = F (upd vals i v) := by
    rw [← hF, ← hF, ← putAll_upd a0 vals v L 0 i x hap hxL, Nat.zero_add]
   rw [hput]
   refine ih _ _ _ (by simpa using hsz) (by have := left_set (b := listed) (i := i) (by omega) h2; omega) (e.trans e') (fun k hk hkl => ?_) (fun k hk => ?_)
   ·by_cases hki : k = i
    ·subst hki
     rw [upd_same]
     refine ⟨hv', fun j hj => ?_⟩
     have hj' : (waits x).contains j = true := by
      unfold waitsAt at hj
      rw [hxL] at hj
      exact hj
     have hlj := hwait j hj'
     by_cases hjk : k = j
     ·subst hjk; exact getD_set_same (by omega) _
     ·rw [getD_set_other hjk]; exact hlj
    ·rw [upd_other _ _ hki]
     rw [getD_set_other (Ne.symm hki)] at hkl
     obtain ⟨g1, g2⟩ := hv k hk hkl
     refine ⟨hAt _ _ _ _ g1 e', fun j hj => ?_⟩
     have hlj := g2 j hj
     by_cases hji : i = j
     ·subst hji; exact getD_set_same (by omega) _
     ·rw [getD_set_other hji]; exact hlj
   ·by_cases hki : k = i
    ·subst hki
     rw [getD_set_same (by omega)] at hk
     cases hk
    ·rw [upd_other _ _ hki]
     rw [getD_set_other (Ne.symm hki)] at hk
     exact ho k hk
theorem wp_region_vals {id : Nat} {L : List Oper} {a0 : Act} {w : World} {F : (Nat → Value) → Act} (hF : ∀ vals, putAll a0 vals 0 L = F vals) (V : List (Value → World → Prop)) (hm : P.follows .mixedOrders = true) (hok : valsOk L = true)
  (hV : ∀ p ∈ V, ∀ v w w', p v w → Ext w w' → p v w') (hs : Steps (St P Q L a0 F V w.drew) 0 L)
  (done : ∀ vals w', Ext w.drew w' → (∀ i, i < L.length → At V i (vals i) w') → Q .normal (F vals) w') : (Code.region id L.toArray true).wp P Q a0 w := by
 refine wp_region_any hm ?_
 have h0 : F (oldAt a0 L) = a0 := by
  rw [← hF]
  refine putAll_old _ _ _ _ (fun i x d h1 h2 => ?_)
  rw [Nat.zero_add]
  unfold oldAt
  rw [h1]
  simp only
  rw [h2]
 have := wpAny_vals_go hF V hok hV hs done L.toArray.size (Array.replicate L.toArray.size false) (oldAt a0 L) w.drew (by simp) (by simp [left_]) (Ext.refl _)
  (fun i hi h => by
   exfalso
   simp [Array.getD_eq_getD_getElem?, Array.getElem?_replicate, hi] at h)
  (fun i _ => rfl)
 rw [h0] at this
 exact this
theorem st_quiet {x : Oper} {a : Act} {w : World} {K : Act → World → Prop} (v : Value) (hy : (execOp a.eval x).run P w = .ok (.value v) w) (h : K (a.put x.dst v) w) : x.wp P a w K Q := by
 unfold Oper.wp
 rw [hy]
 exact h
theorem st_q {x : Oper} {a : Act} {w : World} {K : Act → World → Prop} {p : Value → World → Prop} {R : World → World → Prop} {v : Value} (hK : ∀ a' v w', a' = a.put x.dst v → p v w' → R w w' → K a' w') (hy : (execOp a.eval x).run P w = .ok (.value v) w)
  (hp : p v w := by first | exact rfl | exact congrArg (Value.int _) (by first | (rw [IntKind.wrap_i64]; omega) | (rw [IntKind.wrap_u8]; omega) | omega)) (hR : R w w := by exact Ext.refl _) : x.wp P a w K Q :=
 st_quiet v hy (hK _ _ _ rfl hp hR)
theorem st_concat {x : Oper} {a : Act} {w : World} {K : Act → World → Prop} (p q : Operand) (t t' : TypeId) (s u : ByteArray) (ho : x.op = .binOp .add t p q t') (hp : a.eval p = .string s) (hq : a.eval q = .string u) (hn : s.size + u.size ≤ 9223372036854775807) (h : K (a.put x.dst (.string (s ++ u))) w) : x.wp P a w K Q := by
 refine st_quiet (.string (s ++ u)) ?_ h
 unfold execOp
 rw [ho]
 simp only
 rw [hp, hq]
 have hn' : ¬ ((s.size + u.size : Nat) : Int) > IntKind.i64.max := by
  rw [show IntKind.i64.max = 9223372036854775807 from rfl]; omega
 simp only [eqGuard, binOp, Op.stringOp, Sem.run_bind]
 rw [if_neg hn']
 rfl
end
theorem lst_ext (s : ByteArray) (a b : Nat) : lst (s.extract a b) = sub_ s a b := by
 unfold lst sub_
 rw [ByteArray.data_extract, Array.toList_extract]
 simp [List.extract, List.drop_take, lst]
theorem pack_plain {s : ByteArray} {o : List UInt8} {f i : Nat} (h : i < s.size) (h2 : (pieceF s i 1 0 0).1 < 4) : packF s o f i = packF s o f (i + 1) := by
 rw [packF, dif_pos h, dif_pos h2]
theorem pack_piece {s : ByteArray} {o : List UInt8} {f i n d : Nat} (h : i < s.size) (hp : pieceF s i 1 0 0 = (n, d)) (h2 : ¬ n < 4) : packF s o f i = packF s (o ++ plainF (sub_ s f i) ++ [UInt8.ofNat (124 + n), UInt8.ofNat d]) (i + n) (i + n) := by
 rw [packF, dif_pos h, hp, dif_neg h2]
theorem pack_stop {s : ByteArray} {o : List UInt8} {f i : Nat} (h : ¬ i < s.size) : packF s o f i = o ++ plainF (sub_ s f s.size) := by
 rw [packF, dif_neg h]
theorem plain_len2 (l : List UInt8) : (plainF l).length ≤ 2 * l.length := by rw [plain_len]; omega
theorem byte_124 (n : Nat) : byte (124 + (n : Int)) = UInt8.ofNat (124 + n) := by unfold byte; congr 1
theorem byte_cast (n : Nat) : byte (n : Int) = UInt8.ofNat n := by unfold byte; congr 1
structure PBx (w0 w : World) (gs gb gp base : Nat) (s : ByteArray) (B : Value) (p : Nat) : Prop where
 ext : Ext w0 w
 ls : w0.heap.size ≤ gs
 lb : w0.heap.size ≤ gb
 lp : w0.heap.size ≤ gp
 bs_ : gs < base
 bb : gb < base
 bp : gp < base
 nbs : gb ≠ gs
 nps : gp ≠ gs
 nbp : gb ≠ gp
 sz : base ≤ w.heap.size
 box : Blk_ w gs 9 #[.string s]
 buf : Blk_ w gb 95 #[B]
 pl : Blk_ w gp 3 #[.int .i64 (p : Int)]
theorem PBx.grown {w0 w w' : World} {gs gb gp base : Nat} {s : ByteArray} {B : Value} {p : Nat} (h : PBx w0 w gs gb gp base s B p) {row : Option Nat} (hg : w.grownBy w' row) (hr : ∀ k, row = some k → base ≤ k) : PBx w0 w' gs gb gp base s B p where
 ext := h.ext.grown hg (fun k hk => by have := hr k hk; have := h.ls; have := h.bs_; omega)
 ls := h.ls
 lb := h.lb
 lp := h.lp
 bs_ := h.bs_
 bb := h.bb
 bp := h.bp
 nbs := h.nbs
 nps := h.nps
 nbp := h.nbp
 sz := Nat.le_trans h.sz hg.size
 box := h.box.grown hg (fun k hk => by have := hr k hk; have := h.bs_; omega)
 buf := h.buf.grown hg (fun k hk => by have := hr k hk; have := h.bb; omega)
 pl := h.pl.grown hg (fun k hk => by have := hr k hk; have := h.bp; omega)
theorem PBx.setPl {w0 w : World} {gs gb gp base : Nat} {s : ByteArray} {B : Value} {p : Nat} (h : PBx w0 w gs gb gp base s B p) (q : Nat) : PBx w0 (w.setCell ⟨gp, 0, none⟩ (.int .i64 (q : Int))) gs gb gp base s B q where
 ext := h.ext.setCell h.lp _
 ls := h.ls
 lb := h.lb
 lp := h.lp
 bs_ := h.bs_
 bb := h.bb
 bp := h.bp
 nbs := h.nbs
 nps := h.nps
 nbp := h.nbp
 sz := by rw [World.size_setCell]; exact h.sz
 box := h.box.far (fun e => h.nps e.symm) _
 buf := h.buf.far (fun e => h.nbp e) _
 pl := h.pl.set 0 _
theorem PBx.setBuf {w0 w : World} {gs gb gp base : Nat} {s : ByteArray} {B : Value} {p : Nat} (h : PBx w0 w gs gb gp base s B p) (B' : Value) : PBx w0 (w.setCell ⟨gb, 0, none⟩ B') gs gb gp base s B' p where
 ext := h.ext.setCell h.lb _
 ls := h.ls
 lb := h.lb
 lp := h.lp
 bs_ := h.bs_
 bb := h.bb
 bp := h.bp
 nbs := h.nbs
 nps := h.nps
 nbp := h.nbp
 sz := by rw [World.size_setCell]; exact h.sz
 box := h.box.far (fun e => h.nbs e.symm) _
 buf := h.buf.set 0 _
 pl := h.pl.far (fun e => h.nbp e.symm) _
def cells (o : List UInt8) : List Value := o.map fun b => Value.int .u8 (b.toNat : Int)
theorem cells_append (a b : List UInt8) : cells (a ++ b) = cells a ++ cells b := by unfold cells; exact List.map_append
section
variable {P : Program}
theorem wp_append_str {o : Oper} {a : Act} {w : World} {K : Act → World → Prop} {Q : Exit → Act → World → Prop} (sl x : Operand) (t u : TypeId)
  (ho : o.op = .call { callee := .builtin .append, args := #[sl, x], argTypes := #[t, u] })
  (base : Nat) (e : TypeId) (i : TypeInfo) (ht : P.underlying t = some (.slice e)) (hu : P.underlying u = some .string) (hi : P.info? e = some i) (hz : i.zero = some (.int .u8 0))
  (hsize : i.size = 1) (hby : i.bytes = 1)
  (v : Value) (n : Nat) (xs : List Value) (hs : a.eval sl = v) (hown : w.ownsRow base e 1 v n xs) (s : ByteArray) (hx : a.eval x = .string s)
  (h63 : n + s.size ≤ maxLen) (hbytes : n + s.size ≤ 140737488355328) (hbase : base ≤ w.heap.size)
  (h : ∀ v' w', w'.ownsRow base e 1 v' (n + s.size) (xs ++ cells (lst s)) → w.grownBy w' v.ownBlock → K (a.put o.dst v') w') : o.wp P a w K Q := by
 obtain ⟨v', w', hr, h2, h3, h4⟩ := Lib.run_append_own_string (P := P) w base t u o.type e i ht hu hi hz hsize hby v n xs hown s h63 hbytes hbase
 unfold Oper.wp execOp
 simp only [ho, resolve, invoke, builtin, Sem.run_bind, Sem.run_pure, Result.andThen_ok, List.map_toArray, List.map_cons, List.map_nil, hs, hx, hr]
 exact h v' w' h2 h3
end
theorem plain_cons (s : ByteArray) (a b n : Nat) (hab : a < b) (hb : b ≤ s.size) (hn : n = min (b - a) 128) : plainF (sub_ s a b) = [byte ((n : Int) - 1)] ++ lst (s.extract a (a + n)) ++ plainF (sub_ s (a + n) b) := by
 have hl : (sub_ s a b).length = b - a := length_sub_ s a b hb
 have hne : sub_ s a b ≠ [] := by intro h; rw [h] at hl; simp at hl; omega
 rw [plainF.eq_def (sub_ s a b), dif_neg hne, hl, ← hn]
 have hb' : byte ((n : Int) - 1) = UInt8.ofNat (n - 1) := by
  unfold byte; congr 1; show ((n : Int) - 1).toNat = n - 1; omega
 have ht : (sub_ s a b).take 128 = lst (s.extract a (a + n)) := by
  rw [lst_ext]
  unfold sub_
  rw [List.take_drop, List.take_take]
  by_cases h : b - a ≤ 128
  ·rw [show min (a + 128) b = b by omega, show a + n = b by omega]
  ·rw [show min (a + 128) b = a + 128 by omega, show n = 128 by omega]
 have hd : (sub_ s a b).drop 128 = sub_ s (a + n) b := by
  unfold sub_
  rw [List.drop_drop]
  by_cases h : b - a ≤ 128
  ·rw [List.drop_of_length_le (by rw [List.length_take, length_lst]; omega), List.drop_of_length_le (by rw [List.length_take, length_lst]; omega)]
  ·rw [show n = 128 by omega]
 rw [hb', ht, hd]
 simp
theorem plain_none (s : ByteArray) (a b : Nat) (h : b ≤ a) : plainF (sub_ s a b) = [] := by
 have : sub_ s a b = [] := by unfold sub_; exact List.drop_of_length_le (by rw [List.length_take]; omega)
 rw [this, plain_nil]
theorem flush_any (w0 w : World) (gs gb gp base : Nat) (s : ByteArray) (B : Value) (o : List UInt8) (p i : Nat) (h : PBx w0 w gs gb gp base s B p) (ho : w.ownsRow base 5 1 B o.length (cells o)) (hp : p ≤ i) (hi : i ≤ s.size) (hs : s.size ≤ 600) (hol : o.length ≤ 2000) :
  Calls Tryz.prog 82 #[.int .i64 i, .pointer (some ⟨gp, 0, none⟩), .pointer (some ⟨gb, 0, none⟩), .pointer (some ⟨gs, 0, none⟩)] w fun e w' => e = .returned (.tuple #[]) ∧ ∃ B', PBx w0 w' gs gb gp base s B' 0 ∧ w'.ownsRow base 5 1 B' (o ++ plainF (sub_ s (i - p) i)).length (cells (o ++ plainF (sub_ s (i - p) i))) := by
 obtain ⟨i0, hi0, hz0, hz1, hz2⟩ := info_parts info_byte
 have HI := Lib.hid (And.intro hi0 (And.intro hz0 (And.intro hz1 hz2)))
 clear hi0 hz0 hz1 hz2
 have hi6 : (i : Int) ≤ 600 := by omega
 obtain ⟨T, hT⟩ : ∃ T, T = o ++ plainF (sub_ s (i - p) i) := ⟨_, rfl⟩
 rw [← hT]
 have HT := Lib.hid hT.symm
 have HH := Lib.hid (And.intro h ho)
 have hsI : (i : Int) ≤ (s.size : Int) := by omega
 have HPI := Lib.hid (And.intro hp hol)
 have HTL := Lib.hid (show T.length ≤ 4000 by
  have h1 := plain_len2 (sub_ s (i - p) i)
  rw [length_sub_ s _ _ hi] at h1
  rw [hT, List.length_append]; omega)
 clear hT h ho hp hol
 go_enter Tryz.func82, Tryz.ntmps82
 go_wp2_with fail
 go_loopw [5] (fun _ wr => ∃ (B' : Value) (o' : List UInt8) (q : Nat), PBx w0 wr gs gb gp base s B' q ∧ wr.ownsRow base 5 1 B' o'.length (cells o') ∧ q ≤ i ∧ o' ++ plainF (sub_ s (i - q) i) = T) (fun _ wr => (intOf ((wr.cell? ⟨gp, 0, none⟩).getD undef)).toNat)
 case atStart => exact ⟨B, o, p, HH.out.1, HH.out.2, HPI.out.1, HT.out⟩
 case round =>
  clear HH HPI HT
  obtain ⟨B', o', q, hb, ho, hq, heq⟩ := hrel
  have HB := Lib.hid hb
  have HO := Lib.hid ho
  have HEQ := Lib.hid heq
  have q0 := hb.pl.cell 0
  simp at q0
  have q1 := hb.buf.cell 0
  simp at q1
  have q2 := hb.box.cell 0
  simp at q2
  have hqI : (q : Int) ≤ (i : Int) := by omega
  by_cases h0 : q = 0
  ·subst h0
   have HR := Lib.hid (show o' = T by rw [← heq, plain_none s _ _ (by omega), List.append_nil])
   have q0' : wr.cell? ⟨gp, 0, none⟩ = some (.int .i64 0) := q0
   clear hb ho heq q0
   go_wp2_with fail
   go_end0
   refine ⟨rfl, B', HB.out, ?_⟩
   rw [← HR.out]; exact HO.out
  ·have t1 : decide ((0 : Int) < (q : Int)) = true := by simp; omega
   have h0' : 0 < q := by omega
   obtain ⟨n, hn⟩ : ∃ n, n = min q 128 := ⟨_, rfl⟩
   have hmin1 : (if (128 : Int) < (q : Int) then (128 : Int) else (q : Int)) = (n : Int) := by split <;> omega
   have hmin2 : (if 128 < q then (128 : Int) else (q : Int)) = (n : Int) := by split <;> omega
   have hmin3 : min (q : Int) 128 = (n : Int) := by omega
   have hmin4 : min (128 : Int) (q : Int) = (n : Int) := by omega
   have HN := Lib.hid hn
   have hn1 : (1 : Int) ≤ (n : Int) := by omega
   have hn2 : (n : Int) ≤ 128 := by omega
   have hnq : (n : Int) ≤ (q : Int) := by omega
   have hpl := HEQ.out
   rw [plain_cons s (i - q) i n (by omega) hi (by omega)] at hpl
   have HPL := Lib.hid hpl
   have hz0 := hb.pl.frozen 0
   have hz1 := hb.buf.frozen 0
   have hxx1 : IntKind.i64.wrap ((n : Int) - 1) = (n : Int) - 1 := by rw [IntKind.wrap_i64]; omega
   have hxx2 : IntKind.u8.wrap ((n : Int) - 1) = (n : Int) - 1 := by rw [IntKind.wrap_u8]; omega
   have hxx3 : IntKind.i64.wrap ((i : Int) - (q : Int)) = (i : Int) - (q : Int) := by rw [IntKind.wrap_i64]; omega
   have hxx4 : IntKind.i64.wrap ((i : Int) - (q : Int) + (n : Int)) = (i : Int) - (q : Int) + (n : Int) := by rw [IntKind.wrap_i64]; omega
   have hxx5 : IntKind.i64.wrap ((q : Int) - (n : Int)) = (q : Int) - (n : Int) := by rw [IntKind.wrap_i64]; omega
   have hsl0 : (0 : Int) ≤ (i : Int) - (q : Int) := by omega
   have hsl1 : (0 : Int) ≤ (i : Int) - (q : Int) + (n : Int) := by omega
   have hsl2 : (i : Int) - (q : Int) ≤ (i : Int) - (q : Int) + (n : Int) := by omega
   have hsl3 : (i : Int) - (q : Int) + (n : Int) ≤ (s.size : Int) := by omega
   have hsl4 : ((i : Int) - (q : Int)).toNat = i - q := by omega
   have hsl5 : ((i : Int) - (q : Int) + (n : Int)).toNat = i - q + n := by omega
   have HLE := Lib.hid (show o'.length + q ≤ 4000 by
    have h1 := congrArg List.length HEQ.out
    have h2 := HTL.out
    rw [List.length_append] at h1
    have h3 : q ≤ (plainF (sub_ s (i - q) i)).length := by rw [plain_len, length_sub_ s _ _ hi]; omega
    omega)
   have HCB := Lib.hid (show cells [byte ((n : Int) - 1)] = [.int .u8 ((n : Int) - 1)] by
    unfold cells; rw [List.map_cons, List.map_nil, byte_nat_ _ (by omega) (by omega)])
   clear hb ho heq h0 hn hpl
   go_wp2_with fail
   refine wp_region_begin (S := fun W' => W'.cell? ⟨gp, 0, none⟩ = some (.int .i64 (q : Int)) ∧ W'.cell? ⟨gb, 0, none⟩ = some B' ∧ W'.cell? ⟨gs, 0, none⟩ = some (.string s)) (n := 17) (by kernel_rfl) rfl (by kernel_rfl) rfl ?_
   have hS0 : (fun W' => W'.cell? ⟨gp, 0, none⟩ = some (.int .i64 (q : Int)) ∧ W'.cell? ⟨gb, 0, none⟩ = some B' ∧ W'.cell? ⟨gs, 0, none⟩ = some (.string s)) wr.drew := ⟨q0, q1, q2⟩
   refine tkL 0 rfl (fun w' hS => by (try dsimp only at hS); go_simp; rfl) hS0 ?_
   refine tkL 1 rfl (fun w' hS => by (try dsimp only at hS); go_simp; rfl) hS0 ?_
   refine tkL 2 rfl (fun w' hS => by (try dsimp only at hS); go_simp; rfl) hS0 ?_
   try simp only [Act.put, List.setIfInBounds_toArray, List.set_cons_zero, List.set_cons_succ]
   refine tkL 3 rfl (fun w' hS => by (try dsimp only at hS); go_simp; rfl) hS0 ?_
   refine tkL 6 rfl (fun w' hS => by (try dsimp only at hS); go_simp; rfl) hS0 ?_
   refine tkL 7 rfl (fun w' hS => by (try dsimp only at hS); go_simp; rfl) hS0 ?_
   try simp only [Act.put, List.setIfInBounds_toArray, List.set_cons_zero, List.set_cons_succ]
   refine tkL 8 rfl (fun w' hS => by (try dsimp only at hS); go_simp; rfl) hS0 ?_
   refine tkL 9 rfl (fun w' hS => by (try dsimp only at hS); go_simp; rfl) hS0 ?_
   refine tkL 10 rfl (fun w' hS => by (try dsimp only at hS); go_simp; rfl) hS0 ?_
   try simp only [Act.put, List.setIfInBounds_toArray, List.set_cons_zero, List.set_cons_succ]
   refine tkL 11 rfl (fun w' hS => by (try dsimp only at hS); go_simp; rfl) hS0 ?_
   refine tkL 12 rfl (fun w' hS => by (try dsimp only at hS); go_simp; rfl) hS0 ?_
   refine tkL 13 rfl (fun w' hS => by (try dsimp only at hS); go_simp; rfl) hS0 ?_
   try simp only [Act.put, List.setIfInBounds_toArray, List.set_cons_zero, List.set_cons_succ]
   refine tkL 14 rfl (fun w' hS => by (try dsimp only at hS); go_simp; rfl) hS0 ?_
   refine tkL 15 rfl (fun w' hS => by (try dsimp only at hS); go_simp; rfl) hS0 ?_
   try simp only [Act.put, List.setIfInBounds_toArray, List.set_cons_zero, List.set_cons_succ]
   refine wpAnyH_oneL (i := 4) rfl (by kernel_rfl) rfl (fun K hK => ?_)
   go_wp2_with fail
   refine hK _ _ ?_ ?_
   ·first | exact ⟨(Ext.refl wr).drew.alloc _ |>.cell q0, (Ext.refl wr).drew.alloc _ |>.cell q1, (Ext.refl wr).drew.alloc _ |>.cell q2⟩ | exact ⟨((Ext.refl wr).alloc _).drew.cell q0, ((Ext.refl wr).alloc _).drew.cell q1, ((Ext.refl wr).alloc _).drew.cell q2⟩
   clear hK K
   try simp only [Act.put, List.setIfInBounds_toArray, List.set_cons_zero, List.set_cons_succ]
   refine anyH_abs (fun W => Ext wr W ∧ Blk_ W wr.heap.size 5 #[.int .u8 ((n : Int) - 1)]) ⟨by first | exact (Ext.refl _).alloc _ | exact (Ext.refl _).drew.alloc _, by first | exact Blk_.new _ _ _ | exact (Blk_.new _ _ _).drew⟩ ?_
   rintro W3 ⟨e3, b3⟩
   refine wpAnyH_oneL (i := 5) rfl (by kernel_rfl) rfl (fun K hK => ?_)
   refine wp_append_at _ (.tmp 10) (.tmp 14) 95 rfl base 5 i0 (.int .u8 0) 1 1 Tryz.underlying95 HI.out.1 HI.out.2.1 HI.out.2.2.1 HI.out.2.2.2 rfl (by decide) _ o'.length _ rfl (own_ext HO.out e3) ⟨wr.heap.size, 0, none⟩ 1 1 [.int .u8 ((n : Int) - 1)] rfl rfl ?_ ?_ ?_ ?_ ?_ ?_
   ·intro j u hu
    rw [Addr.add_lit, Nat.zero_add, b3.cell]
    simpa using hu
   ·intro u hu
    obtain rfl := List.mem_singleton.1 hu
    rfl
   ·have := HLE.out; unfold maxLen; omega
   ·have := HLE.out; omega
   ·have := HB.out.sz; have := e3.size; omega
   intro A4 c4 w4 own4 hg4 hb4
   have hb4' := (HB.out.grown (e3.by_ none) (fun k hk => by cases hk)).grown hg4 (fun k hk => (HO.out.lt k hk).1)
   have own4' : w4.ownsRow base 5 1 (.slice A4 (o'.length + 1) c4) (o' ++ [byte ((n : Int) - 1)]).length (cells (o' ++ [byte ((n : Int) - 1)])) := by
    rw [cells_append, List.length_append, List.length_singleton]
    rw [HCB.out]
    exact own4
   have HB4 := Lib.hid hb4'
   have HO4 := Lib.hid own4'
   refine hK _ _ ⟨by have := hb4'.pl.cell 0; simpa using this, by have := hb4'.buf.cell 0; simpa using this, by have := hb4'.box.cell 0; simpa using this⟩ ?_
   clear hK K own4 hg4 hb4 hb4' own4' e3 b3
   try simp only [Act.put, List.setIfInBounds_toArray, List.set_cons_zero, List.set_cons_succ]
   refine wpAnyH_oneL (i := 16) rfl (by kernel_rfl) rfl (fun K hK => ?_)
   refine wp_append_str (.tmp 15) (.tmp 25) 95 9 rfl base 5 i0 Tryz.underlying95 Tryz.underlying9 HI.out.1 HI.out.2.1 HI.out.2.2.1 HI.out.2.2.2 _ _ _ rfl HO4.out (s.extract (i - q) (i - q + n)) rfl ?_ ?_ ?_ ?_
   ·have := HLE.out; have := HN.out; rw [ByteArray.size_extract, List.length_append, List.length_singleton]; unfold maxLen; omega
   ·have := HLE.out; have := HN.out; rw [ByteArray.size_extract, List.length_append, List.length_singleton]; omega
   ·exact HB4.out.sz
   intro B5 w5 own5 hg5
   obtain ⟨A5, c5, rfl⟩ := own_slice own5
   have hb5 := HB4.out.grown hg5 (fun k hk => (HO4.out.lt k hk).1)
   have HO5 := Lib.hid (show w5.ownsRow base 5 1 _ (o' ++ [byte ((n : Int) - 1)] ++ lst (s.extract (i - q) (i - q + n))).length (cells (o' ++ [byte ((n : Int) - 1)] ++ lst (s.extract (i - q) (i - q + n)))) by
    rw [show (o' ++ [byte ((n : Int) - 1)] ++ lst (s.extract (i - q) (i - q + n))).length = (o' ++ [byte ((n : Int) - 1)]).length + (s.extract (i - q) (i - q + n)).size by rw [List.length_append, length_lst], cells_append (o' ++ _)]; exact own5)
   have HB5 := Lib.hid hb5
   clear own5 hg5
   generalize (o' ++ [byte ((n : Int) - 1)]).length + (s.extract (i - q) (i - q + n)).size = m5 at *
   have p0 := hb5.pl.cell 0
   simp at p0
   have p1 := hb5.buf.cell 0
   simp at p1
   have p2 := hb5.box.cell 0
   simp at p2
   refine hK _ _ ⟨p0, p1, p2⟩ ?_
   clear hK K
   try simp only [Act.put, List.setIfInBounds_toArray, List.set_cons_zero, List.set_cons_succ]
   refine wpAnyH_endL (by kernel_rfl) (fun K hK => ?_)
   have x0 := hb5.pl.frozen 0
   have x1 := hb5.buf.frozen 0
   have ne1 : ¬ (gb = gp) := hb5.nbp
   have ne2 : ¬ (gp = gb) := fun e => hb5.nbp e.symm
   clear hb5
   go_wp2_with fail
   go_roundw
   case rel =>
    have hqn : (q : Int) - (n : Int) = ((q - n : Nat) : Int) := by have := HN.out; omega
    rw [hqn]
    refine ⟨_, o' ++ [byte ((n : Int) - 1)] ++ lst (s.extract (i - q) (i - q + n)), q - n, (HB5.out.setBuf _).setPl (q - n), ?_, by omega, ?_⟩
    ·refine ownsRow_setCell_other (ownsRow_setCell_other HO5.out ?_ _) ?_ _
     ·intro e; have h1 : base ≤ gb := (HO5.out.lt _ e).1; have := HB5.out.bb; omega
     ·intro e; have h1 : base ≤ gp := (HO5.out.lt _ e).1; have := HB5.out.bp; omega
    ·rw [show i - (q - n) = i - q + n by have := HN.out; omega]
     have := HPL.out
     simpa [List.append_assoc] using this
   case measure =>
    have y0 := ((HB5.out.setBuf (.slice A5 m5 c5)).pl.set 0 (.int .i64 ((q : Int) - (n : Int)))).cell 0
    simp at y0
    rw [y0, q0]
    simp [intOf]; omega
theorem cells_flat (l : List UInt8) : cells l = l.flatMap encByte := by
 unfold cells
 induction l with
 | nil => rfl
 | cons a l ih => rw [List.map_cons, List.flatMap_cons, ih]; rfl
section
variable {P : Program} {Q : Exit → Act → World → Prop}
theorem wpList_fromnil {ops : Array Oper} {rest : List Oper} {o : Oper} {a : Act} {w : World} (x : Operand) (src dst e : TypeId) (ho : o.op = .convert src dst x) (hgd : o.guard = none) (hs : P.underlying src = some (.slice e)) (he : P.underlying e = some (.int .u8)) (hd : P.underlying dst = some .string)
  (hx : a.eval x = .slice none 0 0) (h : wpList P ops Q rest (a.put o.dst (.string (bs []))) w) : wpList P ops Q (o :: rest) a w := by
 refine wpList_plain hgd fun K hK => ?_
 have hr : (convert src dst (.slice none 0 0)).run P w = .ok (.string (bs [])) w := by
  rw [run_convert_bytes_string w src dst e none 0 0 hs he hd]
  rfl
 unfold Oper.wp execOp
 simp only [ho, Sem.run_bind, hx, hr, Result.andThen_ok, Sem.run_pure, Oper.upon]
 exact hK _ _ h
end
theorem PBx.init (w : World) (s : ByteArray) : PBx w (((w.alloc (.cells #[.string s] 9)).alloc (.cells #[.slice none 0 0] 95)).alloc (.cells #[.int .i64 0] 3))
  w.heap.size (w.heap.size + 1) (w.heap.size + 1 + 1) (w.heap.size + 1 + 1 + 1) s (.slice none 0 0) 0 where
 ext := (((Ext.refl w).alloc _).alloc _).alloc _
 ls := by omega
 lb := by omega
 lp := by omega
 bs_ := by omega
 bb := by omega
 bp := by omega
 nbs := by omega
 nps := by omega
 nbp := by omega
 sz := by rw [World.size_alloc, World.size_alloc, World.size_alloc]; omega
 box := ((Blk_.new w _ _).alloc _).alloc _
 buf := (Blk_.new1 w _ _ _).alloc _
 pl := Blk_.new2 w _ _ _ _
theorem pieceF_back (s : ByteArray) (i d best back : Nat) (h : back ≤ 255) : (pieceF s i d best back).2 ≤ 255 := by
 induction hm : 256 - d generalizing d best back with
 | zero => rw [pieceF, if_neg (by omega)]; exact h
 | succ m ih =>
  rw [pieceF]
  split
  ·rename_i hc
   split
   ·exact ih _ _ _ hc.1 (by omega)
   ·exact ih _ _ _ h (by omega)
  ·exact h
theorem pack_any (s : ByteArray) (w : World) :
  Calls Tryz.prog 49 #[.string s] w fun e w' => e = .returned (.tuple #[.string (packS s).1, .int .i64 (packS s).2]) ∧ Ext w w' := by
 by_cases hs : 600 < s.size
 ·have hf : packS s = (.empty, 1) := by unfold packS; rw [if_pos hs]
  rw [hf]
  clear hf
  go_enter Tryz.func49, Tryz.ntmps49
  go_wp2_with fail
  go_ret2
  exact ⟨rfl, (Ext.refl _).alloc _⟩
 ·have hf : packS s = (bs (packF s [] 0 0), 0) := by unfold packS; rw [if_neg hs]
  rw [hf]
  have hs' : s.size ≤ 600 := by omega
  have hsI : (s.size : Int) ≤ 600 := by omega
  obtain ⟨i0, hi0, hz0, hz1, hz2⟩ := info_parts info_byte
  have HI := Lib.hid (And.intro hi0 (And.intro hz0 (And.intro hz1 hz2)))
  clear hf hi0 hz0 hz1 hz2
  go_enter Tryz.func49, Tryz.ntmps49
  go_wp2_with fail
  refine wp_abs (fun W => PBx w W w.heap.size (w.heap.size + 1) (w.heap.size + 1 + 1) (w.heap.size + 1 + 1 + 1) s (.slice none 0 0) 0) (PBx.init w s) ?_
  intro W hW
  have HW := Lib.hid hW
  clear hW
  revert HW
  generalize w.heap.size + 1 + 1 + 1 = base
  generalize w.heap.size + 1 + 1 = gp
  generalize w.heap.size + 1 = gb
  generalize w.heap.size = gs
  intro HW
  go_loopw [7] (fun iv wr => ∃ (B : Value) (o : List UInt8) (p i : Nat), iv = .int .i64 i ∧ PBx w wr gs gb gp base s B p ∧ wr.ownsRow base 5 1 B o.length (cells o) ∧ p ≤ i ∧ i ≤ s.size ∧ o.length ≤ 2 * (i - p) ∧ packF s o (i - p) i = packF s [] 0 0) (fun iv _ => s.size - (intOf iv).toNat)
  case atStart => exact ⟨.slice none 0 0, [], 0, 0, rfl, HW.out, World.ownsRow_nil _ _ _ _, by omega, by omega, by simp, rfl⟩
  case round =>
   clear HW
   obtain ⟨B, o, p, i, rfl, hb, ho, hpi, his, hol, heq⟩ := hrel
   have HEQ := Lib.hid heq
   have HO := Lib.hid ho
   have HB := Lib.hid hb
   have q2 := hb.box.cell 0
   simp at q2
   clear heq ho hb
   by_cases hi : i < s.size
   ·have HI2 := Lib.hid hi
    go_wp2_with fail
    refine (piece_any s i _ hi hs').mono ?_
    rintro e' w1 ⟨rfl, hx1⟩
    have hb1 := HB.out.grown (hx1.by_ none) (fun k hk => by cases hk)
    have HO1 := Lib.hid (own_ext HO.out hx1)
    have HB1 := Lib.hid hb1
    have r0 := hb1.pl.cell 0
    simp at r0
    have r1 := hb1.buf.cell 0
    simp at r1
    have r2 := hb1.box.cell 0
    simp at r2
    have z0 := hb1.pl.frozen 0
    have z1 := hb1.buf.frozen 0
    obtain ⟨n, hn⟩ : ∃ n, n = (pieceF s i 1 0 0).1 := ⟨_, rfl⟩
    obtain ⟨d, hd⟩ : ∃ d, d = (pieceF s i 1 0 0).2 := ⟨_, rfl⟩
    rw [← hn, ← hd]
    have HPP := Lib.hid (show pieceF s i 1 0 0 = (n, d) by rw [hn, hd])
    have HPL := Lib.hid (show n ≤ 131 ∧ i + n ≤ s.size by rw [hn]; exact piece_le s i his)
    have hd255 : (d : Int) ≤ 255 := by have := pieceF_back s i 1 0 0 (by omega); omega
    have hn131 : (n : Int) ≤ 131 := by have := HPL.out.1; omega
    have hi6 : (i : Int) < 600 := by omega
    have hp6 : (p : Int) < 600 := by omega
    clear hb1 hn hd q2 hx1
    by_cases h4 : n < 4
    ·have HNX := Lib.hid (show packF s o (i - p) (i + 1) = packF s [] 0 0 by rw [← HEQ.out]; exact (pack_plain HI2.out (by rw [HPP.out]; exact h4)).symm)
     go_wp2_with fail
     go_roundw
     case rel =>
      refine ⟨B, o, p + 1, i + 1, by first | rfl | go_num, ?_, ?_, by omega, by omega, by omega, by rw [show i + 1 - (p + 1) = i - p by omega]; exact HNX.out⟩
      ·have := HB1.out.setPl (p + 1)
       simpa using this
      ·refine ownsRow_setCell_other HO1.out ?_ _
       intro e; have h1 : base ≤ gp := (HO1.out.lt _ e).1; have := HB1.out.bp; omega
     case measure => (simp [intOf]; try omega)
    ·have HN4 := Lib.hid h4
     have HPI := Lib.hid (And.intro hpi hol)
     have HOL := Lib.hid (show (o ++ plainF (sub_ s (i - p) i)).length ≤ 2 * i by
      have h1 := plain_len2 (sub_ s (i - p) i)
      rw [length_sub_ s _ _ his] at h1
      rw [List.length_append]; omega)
     have HNX := Lib.hid (show packF s (o ++ plainF (sub_ s (i - p) i) ++ [UInt8.ofNat (124 + n), UInt8.ofNat d]) (i + n) (i + n) = packF s [] 0 0 by rw [← HEQ.out]; exact (pack_piece HI2.out HPP.out h4).symm)
     have t3 : decide ((n : Int) < 4) = false := by simp; omega
     go_wp2_with fail
     refine (flush_any w w1 gs gb gp base s B o p i HB1.out HO1.out hpi his hs' (by omega)).mono ?_
     rintro e' w2 ⟨rfl, B2, hb2, ho2⟩
     obtain ⟨A2, c2, rfl⟩ := own_slice ho2
     generalize hO2 : o ++ plainF (sub_ s (i - p) i) = O2 at *
     have HO2 := Lib.hid ho2
     have HB2 := Lib.hid hb2
     have hln : (O2.length : Int) ≤ 1200 := by have := HOL.out; omega
     have hx128 : IntKind.i64.wrap (128 + (n : Int)) = 128 + (n : Int) := by rw [IntKind.wrap_i64]; omega
     have hx124 : IntKind.i64.wrap (128 + (n : Int) - 4) = 124 + (n : Int) := by rw [IntKind.wrap_i64]; omega
     have hx124' : 128 + (n : Int) - 4 = 124 + (n : Int) := by omega
     have hxu : IntKind.u8.wrap (124 + (n : Int)) = 124 + (n : Int) := by rw [IntKind.wrap_u8]; omega
     have hxd : IntKind.u8.wrap (d : Int) = (d : Int) := by rw [IntKind.wrap_u8]; omega
     have m1 := hb2.buf.cell 0
     simp at m1
     have y1 := hb2.buf.frozen 0
     clear hO2 ho2 hb2 r0 r1 r2 z0 z1 h4 hpi hol t3
     go_wp2_with (at_builtin; refine wpList_append_at _ rfl (.tmp 33) (.tmp 40) 95 rfl base 5 i0 (.int .u8 0) 1 1 Tryz.underlying95 HI.out.1 HI.out.2.1 HI.out.2.2.1 HI.out.2.2.2 rfl (by decide) _ _ _ rfl (own_ext HO2.out ((Ext.refl _).alloc _)) ⟨w2.heap.size, 0, none⟩ 2 2 [.int .u8 (124 + (n : Int)), .int .u8 (d : Int)] rfl rfl ?c1 ?c2 ?c3 ?c4 ?c5 ?_)
     case c1 =>
      intro j u hu
      rw [Addr.add_lit, Nat.zero_add, (Blk_.new _ _ _).cell]
      simpa using hu
     case c2 =>
      intro u hu
      simp only [List.mem_cons, List.not_mem_nil, or_false] at hu
      rcases hu with rfl | rfl <;> rfl
     case c3 => unfold maxLen; omega
     case c4 => omega
     case c5 => have := HB2.out.sz; rw [World.size_alloc]; omega
     intro A4 c4 w4 own4 hg4 hb4
     have hb4' := (HB2.out.grown (((Ext.refl w2).alloc _).by_ none) (fun k hk => by cases hk)).grown hg4 (fun k hk => (HO2.out.lt k hk).1)
     have HO4 := Lib.hid (show w4.ownsRow base 5 1 (.slice A4 (O2.length + 2) c4) (O2 ++ [UInt8.ofNat (124 + n), UInt8.ofNat d]).length (cells (O2 ++ [UInt8.ofNat (124 + n), UInt8.ofNat d])) by
      rw [cells_append, List.length_append]
      rw [show cells [UInt8.ofNat (124 + n), UInt8.ofNat d] = [.int .u8 (124 + (n : Int)), .int .u8 (d : Int)] by
       unfold cells
       rw [List.map_cons, List.map_cons, List.map_nil, ← byte_124, ← byte_cast, byte_nat_ _ (by omega) (by omega), byte_nat_ _ (by omega) (by omega)]]
      exact own4)
     have HB4 := Lib.hid hb4'
     have r1 := hb4'.buf.cell 0
     simp at r1
     have z1 := hb4'.buf.frozen 0
     clear own4 hg4 hb4 hb4' m1 y1
     go_wp2_with fail
     go_roundw
     case rel =>
      refine ⟨_, O2 ++ [UInt8.ofNat (124 + n), UInt8.ofNat d], 0, i + n, by first | rfl | go_num, HB4.out.setBuf _, ?_, by omega, HPL.out.2, ?_, HNX.out⟩
      ·refine ownsRow_setCell_other HO4.out ?_ _
       intro e; have h1 : base ≤ gb := (HO4.out.lt _ e).1; have := HB4.out.bb; omega
      ·have := HOL.out; have := HN4.out; rw [List.length_append]; simp only [List.length_cons, List.length_nil]; omega
     case measure => have := HN4.out; (simp [intOf]; try omega)
   ·obtain rfl : i = s.size := by omega
    have HFIN := Lib.hid (show o ++ plainF (sub_ s (s.size - p) s.size) = packF s [] 0 0 by rw [← HEQ.out, pack_stop hi])
    have HPI := Lib.hid hpi
    have HOL := Lib.hid hol
    clear hpi hol hi HEQ
    go_wp2_with fail
    refine (flush_any w wr gs gb gp base s B o p s.size HB.out HO.out HPI.out his hs' (by have := HOL.out; omega)).mono ?_
    rintro e' w2 ⟨rfl, B2, hb2, ho2⟩
    rw [HFIN.out] at ho2
    obtain ⟨A2, c2, rfl⟩ := own_slice ho2
    have HX := Lib.hid hb2.ext
    have m1 := hb2.buf.cell 0
    simp at m1
    generalize hRR : packF s [] 0 0 = R at *
    have HRR := Lib.hid hRR
    clear hRR
    by_cases hR : R.length = 0
    ·have hR0 : R = [] := List.eq_nil_of_length_eq_zero hR
     subst hR0
     rcases ho2.2 with ⟨hv, _⟩ | ⟨g, cap, cur, hv, hbg, hg, _⟩
     ·injection hv with e1 e2 e3
      subst e1 e3
      clear ho2 hb2 HFIN HB HO hR
      go_wp2_with (refine wpList_fromnil (.tmp 48) 95 9 5 rfl rfl Tryz.underlying95 Tryz.underlying5 Tryz.underlying9 rfl ?_)
      go_wp2_with fail
      go_ret2
      exact ⟨by rw [HRR.out]; rfl, HX.out⟩
     ·injection hv with e1 e2 e3
      subst e1 e3
      have HBF := Lib.hid (show Buf 5 w2 g [] from ⟨cur, (0, 0), hg, fun i hi => by simp at hi, fun i hi => by simp at hi⟩)
      clear ho2 hb2 HFIN HB HO hR hg
      go_wp2_with (refine wpList_frombytes (.tmp 48) 95 9 5 rfl rfl Tryz.underlying95 Tryz.underlying5 Tryz.underlying9 g _ _ _ HBF.out rfl rfl ?_)
      go_wp2_with fail
      go_ret2
      exact ⟨by rw [HRR.out]; rfl, HX.out⟩
    ·rw [cells_flat] at ho2
     obtain ⟨g, rfl, hg1, hbf, hln⟩ := own_buf ho2 (by omega)
     have HBF := Lib.hid hbf
     clear ho2 hb2 hbf hln HFIN HB HO
     go_wp2_with (refine wpList_frombytes (.tmp 48) 95 9 5 rfl rfl Tryz.underlying95 Tryz.underlying5 Tryz.underlying9 g _ c2 _ HBF.out rfl rfl ?_)
     go_wp2_with fail
     go_ret2
     exact ⟨by rw [HRR.out]; rfl, HX.out⟩
end Go.Proofs.YtgjijcgkmofaaaaGreatDoor
namespace Go.Proofs.YtgjijcgkmofaaaaGreatDoor
set_option linter.unusedSimpArgs false
set_option linter.unusedVariables false
set_option maxRecDepth 100000
set_option maxHeartbeats 8000000
open Go.Shelf
def Tryz.laysB_ren : Go.Shelf.Ren := ⟨fun | 166 => 48 | 167 => 94 | 169 => 50 | 170 => 91 | 240 => 81 | 276 => 128 | n => n, fun | 9 => 9 | 3 => 3 | 4 => 4 | 20 => 20 | 0 => 0 | 46 => 129 | 109 => 151 | 5 => 5 | 72 => 97 | 76 => 100 | 51 => 176 | 146 => 195 | 53 => 178 | 148 => 197 | 70 => 94 | 37 => 95 | 75 => 99 | 127 => 148 | 164 => 189 | 80 => 103 | n => n, fun | n => n⟩
theorem Tryz.laysB166 : Go.Proofs.Lays.n166 Tryz.prog Tryz.laysB_ren := {
 mixed := by kernel_rfl
 f166 := Tryz.func48.trans (congrArg some (by kernel_rfl))
 f240 := Tryz.func81.trans (congrArg some (by kernel_rfl))
 f276 := Tryz.func128.trans (congrArg some (by kernel_rfl))
 t0 := Tryz.underlying0
 a0 := Tryz.isAgg0
 z0 := Tryz.sizeOf0
 v0 := Tryz.zeroValue0
 t3 := Tryz.underlying3
 a3 := Tryz.isAgg3
 z3 := Tryz.sizeOf3
 v3 := Tryz.zeroValue3
 t4 := Tryz.underlying4
 a4 := Tryz.isAgg4
 z4 := Tryz.sizeOf4
 v4 := Tryz.zeroValue4
 t9 := Tryz.underlying9
 a9 := Tryz.isAgg9
 z9 := Tryz.sizeOf9
 v9 := Tryz.zeroValue9
 t20 := Tryz.underlying20
 a20 := Tryz.isAgg20
 z20 := Tryz.sizeOf20
 v20 := Tryz.zeroValue20
 t37 := Tryz.underlying95
 a37 := Tryz.isAgg95
 z37 := Tryz.sizeOf95
 v37 := Tryz.zeroValue95
 t70 := Tryz.underlying94
 a70 := Tryz.isAgg94
 z70 := Tryz.sizeOf94
 v70 := Tryz.zeroValue94
 t72 := Tryz.underlying97
 a72 := Tryz.isAgg97
 z72 := Tryz.sizeOf97
 v72 := Tryz.zeroValue97
 t75 := Tryz.underlying99
 a75 := Tryz.isAgg99
 z75 := Tryz.sizeOf99
 v75 := Tryz.zeroValue99
 t164 := Tryz.underlying189
 a164 := Tryz.isAgg189
 z164 := Tryz.sizeOf189
 v164 := Tryz.zeroValue189 }
theorem Tryz.laysB167 : Go.Proofs.Lays.n167 Tryz.prog Tryz.laysB_ren := {
 mixed := by kernel_rfl
 f167 := Tryz.func94.trans (congrArg some (by kernel_rfl))
 f240 := Tryz.func81.trans (congrArg some (by kernel_rfl))
 f276 := Tryz.func128.trans (congrArg some (by kernel_rfl))
 t0 := Tryz.underlying0
 a0 := Tryz.isAgg0
 z0 := Tryz.sizeOf0
 v0 := Tryz.zeroValue0
 t4 := Tryz.underlying4
 a4 := Tryz.isAgg4
 z4 := Tryz.sizeOf4
 v4 := Tryz.zeroValue4
 t5 := Tryz.underlying5
 a5 := Tryz.isAgg5
 z5 := Tryz.sizeOf5
 v5 := Tryz.zeroValue5
 t9 := Tryz.underlying9
 a9 := Tryz.isAgg9
 z9 := Tryz.sizeOf9
 v9 := Tryz.zeroValue9
 t20 := Tryz.underlying20
 a20 := Tryz.isAgg20
 z20 := Tryz.sizeOf20
 v20 := Tryz.zeroValue20
 t37 := Tryz.underlying95
 a37 := Tryz.isAgg95
 z37 := Tryz.sizeOf95
 v37 := Tryz.zeroValue95
 t70 := Tryz.underlying94
 a70 := Tryz.isAgg94
 z70 := Tryz.sizeOf94
 v70 := Tryz.zeroValue94
 t72 := Tryz.underlying97
 a72 := Tryz.isAgg97
 z72 := Tryz.sizeOf97
 v72 := Tryz.zeroValue97
 t75 := Tryz.underlying99
 a75 := Tryz.isAgg99
 z75 := Tryz.sizeOf99
 v75 := Tryz.zeroValue99
 t164 := Tryz.underlying189
 a164 := Tryz.isAgg189
 z164 := Tryz.sizeOf189
 v164 := Tryz.zeroValue189 }
theorem Tryz.laysB169 : Go.Proofs.Lays.n169 Tryz.prog Tryz.laysB_ren := {
 mixed := by kernel_rfl
 f169 := Tryz.func50.trans (congrArg some (by kernel_rfl))
 t0 := Tryz.underlying0
 a0 := Tryz.isAgg0
 z0 := Tryz.sizeOf0
 v0 := Tryz.zeroValue0
 t3 := Tryz.underlying3
 a3 := Tryz.isAgg3
 z3 := Tryz.sizeOf3
 v3 := Tryz.zeroValue3
 t9 := Tryz.underlying9
 a9 := Tryz.isAgg9
 z9 := Tryz.sizeOf9
 v9 := Tryz.zeroValue9
 t37 := Tryz.underlying95
 a37 := Tryz.isAgg95
 z37 := Tryz.sizeOf95
 v37 := Tryz.zeroValue95
 t70 := Tryz.underlying94
 a70 := Tryz.isAgg94
 z70 := Tryz.sizeOf94
 v70 := Tryz.zeroValue94
 t72 := Tryz.underlying97
 a72 := Tryz.isAgg97
 z72 := Tryz.sizeOf97
 v72 := Tryz.zeroValue97
 t127 := Tryz.underlying148
 a127 := Tryz.isAgg148
 z127 := Tryz.sizeOf148
 v127 := Tryz.zeroValue148 }
theorem Tryz.laysB170 : Go.Proofs.Lays.n170 Tryz.prog Tryz.laysB_ren := {
 mixed := by kernel_rfl
 f170 := Tryz.func91.trans (congrArg some (by kernel_rfl))
 t0 := Tryz.underlying0
 a0 := Tryz.isAgg0
 z0 := Tryz.sizeOf0
 v0 := Tryz.zeroValue0
 t3 := Tryz.underlying3
 a3 := Tryz.isAgg3
 z3 := Tryz.sizeOf3
 v3 := Tryz.zeroValue3
 t37 := Tryz.underlying95
 a37 := Tryz.isAgg95
 z37 := Tryz.sizeOf95
 v37 := Tryz.zeroValue95
 t70 := Tryz.underlying94
 a70 := Tryz.isAgg94
 z70 := Tryz.sizeOf94
 v70 := Tryz.zeroValue94
 t72 := Tryz.underlying97
 a72 := Tryz.isAgg97
 z72 := Tryz.sizeOf97
 v72 := Tryz.zeroValue97 }
theorem Tryz.laysB_Extra : Builder.Extra Tryz.prog Tryz.laysB_ren := {
 sizeBuilder := by kernel_rfl
 liesBuilder := by kernel_rfl
 t5 := Tryz.underlying5
 a5 := Tryz.isAgg5
 z5 := Tryz.sizeOf5
 v5 := Tryz.zeroValue5
 infoByte := by kernel_rfl
 cellsByte := by kernel_rfl
 sizeByte := by kernel_rfl
 neB5 := by decide }
open Go.RowKit Go.Lib
def Bld (B b : Nat) (l : List UInt8) (w : World) : Prop := Lib.IsBuilderF 97 5 B b (Lib.byteCells l) w
theorem bld_len (B b : Nat) (l : List UInt8) (w : World) (h : Bld B b l w) : Calls Tryz.prog 91 #[.pointer (some ⟨b, 0, none⟩)] w fun e w' => e = .returned (.int .i64 l.length) ∧ w' = w := by
 refine (Any.Builder_Len_f Tryz.laysB170 B b (Lib.byteCells l) w h).mono ?_
 rintro e w' ⟨rfl, rfl⟩
 exact ⟨by simp [Lib.byteCells], rfl⟩
theorem bld_string (B b : Nat) (l : List UInt8) (w : World) (h : Bld B b l w) (hB : B ≤ w.heap.size) : Calls Tryz.prog 50 #[.pointer (some ⟨b, 0, none⟩)] w fun e w' => e = .returned (.string ⟨l.toArray⟩) ∧ Bld B b l w' ∧ Below B w w' := by
 refine (Any.Builder_String_any_f Tryz.laysB169 Tryz.laysB_Extra B b l w h hB).mono ?_
 rintro e w' ⟨rfl, h1, h2⟩
 exact ⟨rfl, h1, h2⟩
theorem bld_byte (B b : Nat) (l : List UInt8) (c : UInt8) (w : World) (h : Bld B b l w) (hl : l.length + 1 ≤ 140737488355328) (hB : B ≤ w.heap.size) : Calls Tryz.prog 94 #[.pointer (some ⟨b, 0, none⟩), .int .u8 (c.toNat : Int)] w fun e w' => e = .returned .nilIface ∧ Bld B b (l ++ [c]) w' ∧ Below B w w' := by
 refine (Any.Builder_WriteByte_k Tryz.laysB167 Tryz.laysB_Extra B b (Lib.byteCells l) (c.toNat : Int) w h (by simpa [Lib.byteCells] using hl) hB).mono ?_
 rintro e w' ⟨rfl, h1, h2, _⟩
 refine ⟨rfl, .inr ?_, h2⟩
 have : Lib.byteCells (l ++ [c]) = Lib.byteCells l ++ [.int .u8 (c.toNat : Int)] := by simp [Lib.byteCells]
 rw [this]
 exact h1
theorem bld_text (B b : Nat) (l : List UInt8) (s : ByteArray) (w : World) (h : Bld B b l w) (hl : l.length + s.size ≤ 140737488355328) (hB : B ≤ w.heap.size) : Calls Tryz.prog 48 #[.pointer (some ⟨b, 0, none⟩), .string s] w fun e w' => e = .returned (.tuple #[.int .i64 s.size, .nilIface]) ∧ Bld B b (l ++ s.data.toList) w' ∧ Below B w w' := by
 refine (Any.Builder_WriteString_f Tryz.laysB166 Tryz.laysB_Extra B b (Lib.byteCells l) s w h (by simpa [Lib.byteCells] using hl) hB).mono ?_
 rintro e w' ⟨rfl, h1, h2⟩
 refine ⟨rfl, .inr ?_, h2⟩
 have : Lib.byteCells (l ++ s.data.toList) = Lib.byteCells l ++ Lib.strCells s := by simp [Lib.byteCells, Lib.strCells]
 rw [this]
 exact h1
end Go.Proofs.YtgjijcgkmofaaaaGreatDoor
