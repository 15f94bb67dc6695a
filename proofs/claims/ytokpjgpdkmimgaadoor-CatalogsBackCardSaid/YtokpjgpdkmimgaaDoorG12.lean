/-
  Regions of which the last operation is forced to be last, and one of whose other operations may write into a row of the call's own: each operation walked once. Conditions: none.
-/
import Derived.Test.YtokpjgpdkmimgaaDoorG11
namespace Go.Proofs.YtokpjgpdkmimgaaDoor
set_option linter.unusedSimpArgs false
set_option linter.unusedVariables false
open Go.RowKit

theorem Ext.grownBy {w w' : World} (h : Ext w w') (row : Option Nat) : w.grownBy w' row := ⟨h.below.os, h.below.tape, h.below.output, h.below.size, fun b hb _ => h.below.block b hb⟩
theorem World.grownBy.trans {a b c : World} {row : Option Nat} (h : a.grownBy b row) (k : b.grownBy c row) : a.grownBy c row :=
  ⟨k.os.trans h.os, k.tape.trans h.tape, k.output.trans h.output, Nat.le_trans h.size k.size, fun g hg hne => (k.block g (Nat.lt_of_lt_of_le hg h.size) hne).trans (h.block g hg hne)⟩
/-- What an operation may do: number k writes into the row, all others only make. -/
def RA (k : Nat) (row : Option Nat) (i : Nat) (w w' : World) : Prop := cond (Nat.beq i k) (w.grownBy w' row) (Ext w w')
theorem RA.grown {k : Nat} {row : Option Nat} {i : Nat} {w w' : World} (h : RA k row i w w') : w.grownBy w' row := by
  unfold RA at h
  cases hb : Nat.beq i k <;> rw [hb] at h
  · exact h.grownBy row
  · exact h
theorem RA.ext {k : Nat} {row : Option Nat} {i : Nat} {w w' : World} (h : RA k row i w w') (hi : i ≠ k) : Ext w w' := by
  unfold RA at h
  cases hb : Nat.beq i k <;> rw [hb] at h
  · exact h
  · exact absurd (Nat.eq_of_beq_eq_true hb) hi
/-- What stands when number i comes up: ahead of number k all has only grown. -/
def RB (k : Nat) (row : Option Nat) (i : Nat) (w w' : World) : Prop := cond (Nat.beq i k) (Ext w w') (w.grownBy w' row)
theorem RB.of {k : Nat} {row : Option Nat} {i : Nat} {w w' : World} (h1 : w.grownBy w' row) (h2 : i = k → Ext w w') : RB k row i w w' := by
  unfold RB
  cases hb : Nat.beq i k
  · exact h1
  · exact h2 (Nat.eq_of_beq_eq_true hb)
section
variable {P : Program} {Q : Exit → Act → World → Prop}
/-- One operation's walk. -/
def StA (k : Nat) (row : Option Nat) (P : Program) (Q : Exit → Act → World → Prop) (L : List Oper) (a0 : Act) (F : (Nat → Value) → Act) (V : List (Value → World → Prop)) (w0 : World) (i : Nat) (x : Oper) : Prop :=
  ∀ vals w, RB k row i w0 w → (∀ j, (waits x).contains j = true → At V j (vals j) w) → (∀ j, (waitsAt L j).contains i = true → vals j = oldAt a0 L j) →
    ∀ K : Act → World → Prop, (∀ a' v w', a' = (F vals).put x.dst v → At V i v w' → RA k row i w w' → K a' w') → x.wp P (F vals) w K Q
theorem wpAny_vals_goA {k0 : Nat} {row : Option Nat} {L : List Oper} {a0 : Act} {w0 : World} {F : (Nat → Value) → Act} (hF : ∀ vals, putAll a0 vals 0 L = F vals) (V : List (Value → World → Prop)) (hok : valsOk L = true)
    (hV : ∀ j p, V[j]? = some p → ∀ v w w', p v w → (if j = k0 then Ext w w' else w.grownBy w' row) → p v w') (hs : Steps (StA k0 row P Q L a0 F V w0) 0 L)
    (done : ∀ vals w, w0.grownBy w row → (∀ i, i < L.length → At V i (vals i) w) → Q .normal (F vals) w) :
    ∀ (fuel : Nat) (listed : Array Bool) (vals : Nat → Value) (w : World), listed.size = L.length → left_ listed ≤ fuel → w0.grownBy w row → (listed.getD k0 true = false → Ext w0 w) →
      (∀ i, i < L.length → listed.getD i true = true → At V i (vals i) w ∧ ∀ j, (waitsAt L i).contains j = true → listed.getD j false = true) →
      (∀ i, listed.getD i true = false → vals i = oldAt a0 L i) →
      wpAny P .any L.toArray Q fuel listed (F vals) w := by
  unfold valsOk at hok
  rw [Bool.and_eq_true, Bool.and_eq_true] at hok
  obtain ⟨⟨hap, hgu⟩, hord⟩ := hok
  have hAt : ∀ i m v w w', i ≠ m → At V i v w → RA k0 row m w w' → At V i v w' := by
    intro i m v w w' him h e
    unfold At at *
    cases hp : V[i]? with
    | none => rw [hp] at h; exact h
    | some p =>
      rw [hp] at h
      refine hV i p hp _ _ _ h ?_
      by_cases hi : i = k0
      · rw [if_pos hi]; exact e.ext (by omega)
      · rw [if_neg hi]; exact e.grown
  have hall : ∀ (listed : Array Bool), listed.size = L.length → Region.ready .any L.toArray listed = [] → ∀ i, i < L.length → listed.getD i true = true := by
    intro listed hsz hr i
    induction i using Nat.strongRecOn with
    | ind i ih =>
      intro hi
      cases hb : listed.getD i true with
      | true => rfl
      | false =>
        have : i ∈ Region.ready .any L.toArray listed := by
          rw [ready_mem]
          refine ⟨by simpa using hi, hb, L[i], by simp [hi], fun e he hbd => ?_⟩
          have hlt : e.on < i := by
            have h1 := List.all_eq_true.1 hord i (List.mem_range.2 hi)
            have h2 := List.all_eq_true.1 h1 e.on (by
              unfold waitsAt
              rw [List.getElem?_eq_getElem hi]
              exact List.contains_iff_mem.1 (mem_waits.2 ⟨e, he, hbd, rfl⟩))
            simpa using h2
          have := ih e.on hlt (by omega)
          have hin : e.on < listed.size := by omega
          simpa [Array.getD_eq_getD_getElem?, hin] using this
        rw [hr] at this
        cases this
  intro fuel
  induction fuel with
  | zero =>
    intro listed vals w hsz hl e hx0 hv ho
    have hno : Region.ready .any L.toArray listed = [] := by
      apply List.eq_nil_iff_forall_not_mem.2
      intro i hi
      obtain ⟨h1, h2, _⟩ := ready_mem.1 hi
      have := left_set (b := listed) (i := i) (by simpa [hsz] using h1) h2
      omega
    exact ⟨hno, done vals w e fun i hi => (hv i hi (hall listed hsz hno i hi)).1⟩
  | succ fuel ih =>
    intro listed vals w hsz hl e hx0 hv ho
    refine ⟨fun hno => done vals w e fun i hi => (hv i hi (hall listed hsz hno i hi)).1, fun i hi => ?_⟩
    obtain ⟨h1, h2, x, hx, h3⟩ := ready_mem.1 hi
    have hil : i < L.length := by simpa using h1
    have hxL : L[i]? = some x := by simpa using hx
    have hg : x.guard = none := by
      have := List.all_eq_true.1 hgu x (List.mem_of_getElem? hxL)
      simpa using this
    unfold wpOp
    rw [hx]
    simp only
    rw [if_pos (by simp [Region.wanted, hg])]
    left
    have hst := hs.at hxL
    rw [Nat.zero_add] at hst
    have hwait : ∀ j, (waits x).contains j = true → listed.getD j false = true := by
      intro j hj
      obtain ⟨ed, he1, he2, rfl⟩ := mem_waits.1 hj
      exact h3 ed he1 he2
    refine hst vals w (RB.of e (fun hik => hx0 (hik ▸ h2))) (fun j hj => ?_) (fun j hj => ?_) _ ?_
    · have hlj := hwait j hj
      have hjs : j < L.length := by
        by_cases h : j < listed.size
        · omega
        · simp [Array.getD_eq_getD_getElem?, h] at hlj
      refine (hv j hjs ?_).1
      have hin : j < listed.size := by omega
      simpa [Array.getD_eq_getD_getElem?, hin] using hlj
    · refine ho j ?_
      cases hb : listed.getD j true with
      | false => rfl
      | true =>
        by_cases hjl : j < L.length
        · have := (hv j hjl hb).2 i hj
          have hin : i < listed.size := by omega
          simp [Array.getD_eq_getD_getElem?, hin] at this h2
          rw [this] at h2
          cases h2
        · unfold waitsAt at hj
          rw [List.getElem?_eq_none (by omega)] at hj
          simp at hj
    · intro a' v w' ha' hv' e'
      subst ha'
      have hput : (F vals).put x.dst v = F (upd vals i v) := by
        rw [← hF, ← hF, ← putAll_upd a0 vals v L 0 i x hap hxL, Nat.zero_add]
      rw [hput]
      refine ih _ _ _ (by simpa using hsz) (by have := left_set (b := listed) (i := i) (by omega) h2; omega) (e.trans e'.grown) (fun hk => by
        by_cases hik : i = k0
        · subst hik
          rw [getD_set_same (by omega)] at hk
          cases hk
        · rw [getD_set_other hik] at hk
          exact (hx0 hk).trans (e'.ext hik)) (fun k hk hkl => ?_) (fun k hk => ?_)
      · by_cases hki : k = i
        · subst hki
          rw [upd_same]
          refine ⟨hv', fun j hj => ?_⟩
          have hj' : (waits x).contains j = true := by
            unfold waitsAt at hj
            rw [hxL] at hj
            exact hj
          have hlj := hwait j hj'
          by_cases hjk : k = j
          · subst hjk; exact getD_set_same (by omega) _
          · rw [getD_set_other hjk]; exact hlj
        · rw [upd_other _ _ hki]
          rw [getD_set_other (Ne.symm hki)] at hkl
          obtain ⟨g1, g2⟩ := hv k hk hkl
          refine ⟨hAt _ i _ _ _ hki g1 e', fun j hj => ?_⟩
          have hlj := g2 j hj
          by_cases hji : i = j
          · subst hji; exact getD_set_same (by omega) _
          · rw [getD_set_other hji]; exact hlj
      · by_cases hki : k = i
        · subst hki
          rw [getD_set_same (by omega)] at hk
          cases hk
        · rw [upd_other _ _ hki]
          rw [getD_set_other (Ne.symm hki)] at hk
          exact ho k hk

/-- THE REGION: each operation is walked once, the last one last; number k may write into the row. -/
theorem wp_region_valsA (k : Nat) (row : Option Nat) {id n : Nat} {L r : List Oper} {o : Oper} {a0 : Act} {w : World} {F : (Nat → Value) → Act} (hF : ∀ vals, putAll a0 vals 0 L.dropLast = F vals) (V : List (Value → World → Prop)) (hm : P.follows .mixedOrders = true)
    (hL : L.reverse = o :: r) (hf : lastForced L.dropLast o = true) (hn : L.length = n + 1) (hok : valsOk L.dropLast = true)
    (hV : ∀ j p, V[j]? = some p → ∀ v w w', p v w → (if j = k then Ext w w' else w.grownBy w' row) → p v w') (hs : Steps (StA k row P (LastQ P o Q) L.dropLast a0 F V w.drew) 0 L.dropLast)
    (done : ∀ vals w', w.drew.grownBy w' row → (∀ i, i < L.dropLast.length → At V i (vals i) w') → ∀ K : Act → World → Prop, (∀ a' w'', Q .normal a' w'' → K a' w'') → o.wp P (F vals) w' K Q) : (Code.region id L.toArray true).wp P Q a0 w := by
  have hn2 : L.dropLast.length = n := by rw [List.length_dropLast, hn]; rfl
  refine wp_region_any hm (wpAny_dropLast (getLast_of_reverse hL) hf hn ?_)
  have h0 : F (oldAt a0 L.dropLast) = a0 := by
    rw [← hF]
    refine putAll_old _ _ _ _ (fun i x d h1 h2 => ?_)
    rw [Nat.zero_add]
    unfold oldAt
    rw [h1]
    simp only
    rw [h2]
  have := wpAny_vals_goA (P := P) (Q := LastQ P o Q) hF V hok hV hs (fun vals w' hr ha => done vals w' hr ha _ fun _ _ h => h) n (Array.replicate n false) (oldAt a0 L.dropLast) w.drew (by simp [hn2]) (by simp [left_]) (World.grownBy.refl _ _) (fun _ => Ext.refl _)
    (fun i hi h => by
      exfalso
      rw [hn2] at hi
      simp [Array.getD_eq_getD_getElem?, Array.getElem?_replicate, hi] at h)
    (fun i _ => rfl)
  rw [h0] at this
  exact this
end
end Go.Proofs.YtokpjgpdkmimgaaDoor

/-
  The catalog that is made of raw numbers may be; what its bytes are read as. In plain Lean. Conditions: at most nine of it.
-/
namespace Go.Proofs.YtokpjgpdkmimgaaDoor
set_option linter.unusedSimpArgs false
set_option linter.unusedVariables false
open Go.RowKit

def r40 : Raw4 := ⟨0, 0, 0, 0⟩
def cBytes (l : List Raw4) (j : Nat) : Int := pick (l.getD j r40).a 140
def cAt (l : List Raw4) : Nat → Int
  | 0 => 8
  | j + 1 => cAt l j + secs (cBytes l j)
def cBlk (l : List Raw4) (j : Nat) : Blk := ⟨cAt l j, cBytes l j⟩
def cName (j : Nat) : ByteArray := bs [110, byte (97 + (j : Int))]
def cEnt (l : List Raw4) (j : Nat) : Ent := ⟨cName j, pick (l.getD j r40).b ((j : Int) + 1), pick (l.getD j r40).c 600, pick (l.getD j r40).kind 201⟩
def cCat (l : List Raw4) (k : Nat) : Cat := ⟨(List.range k).map (cBlk l), (List.range k).map (cEnt l)⟩
theorem cBytes_range (l : List Raw4) (j : Nat) : 0 ≤ cBytes l j ∧ cBytes l j ≤ 139 := by
  have := pick_range (l.getD j r40).a 140 (by decide)
  unfold cBytes; omega
theorem cAt_range (l : List Raw4) : ∀ j : Nat, 8 ≤ cAt l j ∧ cAt l j ≤ 8 + 6 * (j : Int)
  | 0 => by unfold cAt; omega
  | j + 1 => by
    have h := cAt_range l j
    have hb := cBytes_range l j
    unfold cAt secs
    omega
theorem cNames_may : ∀ j : Nat, j < 9 → nameMay (cName j) = true := by decide
theorem cNames_less : ∀ j : Nat, j < 9 → Op.bytesLess [110, byte (97 + (j : Int))] [110, byte (97 + ((j + 1 : Nat) : Int))] = true := by decide
theorem cNames_order (j : Nat) (hj : j < 9) : orderBad (some (cName j)) (cName (j + 1)) = false := by
  unfold orderBad
  simp only
  rw [toList_lst, toList_lst]
  unfold cName
  rw [lst_bs, lst_bs, cNames_less j hj]
  rfl
theorem cBlks_ok (l : List Raw4) : ∀ m i : Nat, i + m ≤ 9 → blocksF (cAt l i) ((List.range' i m).map (cBlk l)) = 0
  | 0, _, _ => rfl
  | m + 1, i, h => by
    rw [List.range'_succ, List.map_cons]
    have hb := cBytes_range l i
    have ha := cAt_range l (i + 1)
    rw [blocks_go]
    · exact cBlks_ok l m (i + 1) (by omega)
    · unfold blockBad
      have e1 : (cBlk l i).first = cAt l i := rfl
      have e2 : (cBlk l i).bytes = cBytes l i := rfl
      have e3 : cAt l (i + 1) = cAt l i + secs (cBytes l i) := rfl
      rw [e1, e2]
      simp only [inB, Bool.or_eq_false_iff, Bool.not_eq_false', Bool.and_eq_true, decide_eq_false_iff_not, decide_eq_true_eq, ne_eq, not_true_eq_false, not_false_eq_true, true_and]
      omega
theorem cEnt_ok (l : List Raw4) (k i : Nat) (h : i < k) (hk : k ≤ 9) : entBad k (cEnt l i) = false := by
  have h1 := pick_range (l.getD i r40).b ((i : Int) + 1) (by omega)
  have h2 := pick_range (l.getD i r40).c 600 (by decide)
  have h3 := pick_range (l.getD i r40).kind 201 (by decide)
  unfold entBad cEnt
  simp only [inB, cNames_may i (by omega), Bool.not_true, Bool.false_or, Bool.or_eq_false_iff, Bool.not_eq_false', Bool.and_eq_true, decide_eq_true_eq]
  omega
theorem cEnts_ok (l : List Raw4) (k : Nat) (hk : k ≤ 9) : ∀ m i : Nat, i + m ≤ k → (p : Option ByteArray) → (p = none ∨ ∃ j, j + 1 = i ∧ p = some (cName j)) → entsF k p ((List.range' i m).map (cEnt l)) = 0
  | 0, _, _, _, _ => rfl
  | m + 1, i, h, p, hp => by
    rw [List.range'_succ, List.map_cons]
    rw [ents_go (cEnt_ok l k i (by omega) hk)]
    · exact cEnts_ok l k hk m (i + 1) (by omega) _ (.inr ⟨i, rfl, rfl⟩)
    · rcases hp with rfl | ⟨j, rfl, rfl⟩
      · rfl
      · exact cNames_order j (by omega)
theorem cCat_ok (l : List Raw4) (k : Nat) (hk : k ≤ 9) : catFault (cCat l k) = 0 := by
  have h1 : (cCat l k).blocks.length = k := by simp [cCat]
  have h2 : (cCat l k).entries.length = k := by simp [cCat]
  have hb : blocksF 8 (cCat l k).blocks = 0 := by
    show blocksF 8 ((List.range k).map (cBlk l)) = 0
    rw [List.range_eq_range']
    exact cBlks_ok l k 0 (by omega)
  rw [fault_ents (by omega) hb, h1]
  show entsF k none ((List.range k).map (cEnt l)) = 0
  rw [List.range_eq_range']
  exact cEnts_ok l k hk k 0 (by omega) none (.inl rfl)
theorem cCat_succ (l : List Raw4) (k : Nat) : cCat l (k + 1) = ⟨(cCat l k).blocks ++ [cBlk l k], (cCat l k).entries ++ [cEnt l k]⟩ := by
  unfold cCat
  rw [List.range_succ, List.map_append, List.map_append]
  rfl
theorem flat_bound {α : Type} (f : α → List UInt8) (b : Nat) : ∀ l : List α, (∀ x ∈ l, (f x).length ≤ b) → (l.flatMap f).length ≤ b * l.length
  | [], _ => Nat.zero_le _
  | x :: l, h => by
    rw [List.flatMap_cons, List.length_append, List.length_cons, Nat.mul_succ]
    have h1 := h x (List.mem_cons_self ..)
    have h2 := flat_bound f b l (fun y hy => h y (List.mem_cons_of_mem _ hy))
    omega
theorem catBytes_len {c : Cat} (h : catFault c = 0) : 2 ≤ (catBytes c).length ∧ (catBytes c).length ≤ 200 := by
  obtain ⟨h1, h2, h3, h4⟩ := catFault_ok h
  have he := entsF_ok _ _ _ h4
  have b1 := flat_bound (fun b : Blk => twoB b.bytes) 2 c.blocks (fun x _ => by simp [twoB])
  have b2 := flat_bound entBytes 13 c.entries (fun x hx => ent_len (he x hx))
  unfold catBytes
  simp only [List.length_cons, List.length_append]
  omega
/-- What is read of the bytes of a catalog that may be. -/
theorem dec_zeros {c : Cat} (h : catFault c = 0) (n : Nat) : decCatS ((encCatS c).1 ++ bs (List.replicate n 0)) = (c, 0) := by
  rw [enc_good h]
  unfold decCatS
  rw [lst_append, lst_bs, lst_bs, cat_back c h, if_pos (by rw [List.all_replicate]; simp)]
theorem dec_more {c : Cat} (h : catFault c = 0) : decCatS ((encCatS c).1 ++ bs [0, 120]) = (noCat, 4) := by
  rw [enc_good h]
  unfold decCatS
  rw [lst_append, lst_bs, lst_bs, cat_back c h]
  rfl
theorem dec_short {c : Cat} (h : catFault c = 0) (m : Nat) (hm : m < (encCatS c).1.size) : decCatS ((encCatS c).1.extract 0 m) = (noCat, 5) := by
  rw [enc_good h] at hm ⊢
  unfold decCatS
  have hl : lst ((bs (catBytes c)).extract 0 m) = (catBytes c).take m := by
    rw [lst_extract]
    simp [sub_, lst_bs]
  rw [hl]
  rw [size_bs] at hm
  exact cat_cut c h _ (List.take_prefix _ _) (by rw [List.length_take]; omega)
theorem nextAt_ge : ∀ (l : List Blk) (p : Int), (∀ b ∈ l, 0 ≤ b.bytes) → p ≤ nextAt p l
  | [], p, _ => Int.le_refl p
  | b :: l, p, h => by
    have h0 := h b (List.mem_cons_self ..)
    have := nextAt_ge l (p + secs b.bytes) (fun x hx => h x (List.mem_cons_of_mem _ hx))
    show p ≤ nextAt (p + secs b.bytes) l
    unfold secs at *
    omega
theorem next_ge {c : Cat} (h : catFault c = 0) : (nextS c).2 = 0 ∧ 8 ≤ (nextS c).1 := by
  obtain ⟨_, _, h3, _⟩ := catFault_ok h
  unfold nextS
  rw [if_pos h]
  exact ⟨rfl, nextAt_ge _ _ (fun b hb => (blocksF_range _ _ (by decide) h3 b hb).1)⟩
end Go.Proofs.YtokpjgpdkmimgaaDoor

/-
  arraskeep.Catalog: the catalog that is made of raw numbers. Conditions: the argument reads as a list of them.
-/
namespace Go.Proofs.YtokpjgpdkmimgaaDoor
set_option linter.unusedSimpArgs false
set_option linter.unusedVariables false
open Go.RowKit

def encRaw (x : Raw4) : List Value := [.int .i64 x.kind, .int .i64 x.a, .int .i64 x.b, .int .i64 x.c]
theorem encRaw_ok : Enc 4 RRaw encRaw := ⟨fun _ => rfl, fun _ _ _ h => h.1, fun _ _ _ _ h => h, fun _ u h => by simp [encRaw] at h; rcases h with h | h | h | h <;> subst h <;> rfl⟩
theorem World.size_drew (w : World) : w.drew.heap.size = w.heap.size := rfl
theorem nm_eq (k : Nat) : (⟨#[110]⟩ : ByteArray) ++ bs [byte (97 + (k : Int))] = cName k := by
  have : (⟨#[110]⟩ : ByteArray) = bs [110] := rfl
  rw [this, bs_append]
  rfl
set_option maxRecDepth 100000 in
set_option maxHeartbeats 4000000 in
theorem catalog_any (v : Value) (l : List Raw4) (w : World) (h : SlR 4 32 RRaw w v l) :
    Calls Tryd.prog 26 #[v] w fun e w' => ∃ A1 c1 A2 c2 k, e = .returned (.agg #[.slice A1 (cCat l k).blocks.length c1, .slice A2 (cCat l k).entries.length c2]) ∧ Ext w w' ∧ k ≤ 9 ∧ RCat w' [.slice A1 (cCat l k).blocks.length c1, .slice A2 (cCat l k).entries.length c2] (cCat l k) := by
  obtain ⟨i0, hi0, hz0, hz1, hz2⟩ := info_parts info_blk
  have HIB := Lib.hid (And.intro hi0 (And.intro hz0 (And.intro hz1 hz2)))
  clear hi0 hz0 hz1 hz2
  obtain ⟨i1, hi0, hz0, hz1, hz2⟩ := info_parts info_ent
  have HIE := Lib.hid (And.intro hi0 (And.intro hz0 (And.intro hz1 hz2)))
  clear hi0 hz0 hz1 hz2
  have hmem := h.mem encRaw_ok w
  obtain ⟨A0, c0, rfl, hlb, hlc, p0⟩ := h.rowE encRaw_ok
  have HM := Lib.hid hmem
  have HP := Lib.hid p0
  clear h hmem p0
  go_enter Tryd.func26, Tryd.ntmps26
  go_wp2
  refine wp_abs (fun W => CX w W (w.heap.size + 1) (w.heap.size + 2) (.slice none 0 0) (.slice none 0 0) [] [] ∧ Blk_ W w.heap.size 25 #[.slice none 0 0, .slice none 0 0]) ⟨⟨((Ext.refl _).alloc _).alloc _, by omega, by omega, Blk_.new1 _ _ _ _, World.ownsRow_nil _ _ _ _, World.ownsRow_nil _ _ _ _, (fun _ h => by cases h), (fun _ h => by cases h)⟩, (Blk_.new _ _ _).alloc _⟩ ?_
  rintro W ⟨hS, hR⟩
  go_loopw [4, 5] (fun pv kv wr => ∃ (k : Nat) (A1 : Option Addr) (c1 : Nat) (A2 : Option Addr) (c2 : Nat) (bl : List Blk) (es : List Ent), pv = .int .i64 (cAt l k) ∧ kv = .int .i64 k ∧ k ≤ 9 ∧ k ≤ l.length ∧ bl.length = k ∧ es.length = k ∧ cCat l k = ⟨bl, es⟩ ∧ CX w wr (w.heap.size + 1) (w.heap.size + 2) (.slice A1 bl.length c1) (.slice A2 es.length c2) bl es ∧ Blk_ wr w.heap.size 25 #[.slice none 0 0, .slice none 0 0]) (fun _ kv _ => 9 - (intOf kv).toNat)
  case atStart => exact ⟨0, none, 0, none, 0, [], [], rfl, rfl, by omega, by omega, rfl, rfl, rfl, hS, hR⟩
  case round =>
    clear hS hR
    obtain ⟨k, A1, c1, A2, c2, bl, es, rfl, rfl, hk9, hkl, hbl0, hes0, hcat, hS, hR⟩ := hrel
    have HS := Lib.hid hS
    have HRS := Lib.hid hR
    have HBE := Lib.hid (And.intro hbl0 hes0)
    have hbl1 : bl.length ≤ 9 := by omega
    have hes1 : es.length ≤ 9 := by omega
    have HCA := Lib.hid hcat
    have HAT := Lib.hid (cAt_range l k)
    obtain ⟨p, hp⟩ : ∃ p, p = cAt l k := ⟨_, rfl⟩
    rw [← hp] at HAT ⊢
    have HPP := Lib.hid hp
    clear hS hR hbl0 hes0 hcat hp
    have hp1 := HAT.out.1
    have hp2 := HAT.out.2
    have hll : (l.length : Int) ≤ 140737488355328 := by omega
    by_cases hlt : k < l.length
    · by_cases h9 : k < 9
      · have hltI : (k : Int) < (l.length : Int) := by omega
        have h9I : (k : Int) < 9 := by omega
        obtain ⟨b, o, rfl, hcell⟩ := HP.out k hlt
        obtain ⟨r, hr⟩ : ∃ r, r = l[k] := ⟨_, rfl⟩
        have hI := (HM.out _ (List.getElem_mem hlt)).2
        rw [← hr] at hI
        have q0 := HS.out.ext.cell (hcell k hlt 0 _ rfl)
        have q1 := HS.out.ext.cell (hcell k hlt 1 _ rfl)
        have q2 := HS.out.ext.cell (hcell k hlt 2 _ rfl)
        have q3 := HS.out.ext.cell (hcell k hlt 3 _ rfl)
        rw [← hr] at q0 q1 q2 q3
        simp only [Nat.add_zero] at q0
        have lb := World.block_lt_of_cell? wr _ q0
        simp at lb
        have HR0 := Lib.hid (show l.getD k r40 = r by rw [hr, List.getD_eq_getElem?_getD, List.getElem?_eq_getElem hlt]; rfl)
        have HI := Lib.hid hI
        have HK := Lib.hid (And.intro hlt h9)
        clear hcell hr hI hlt h9 hk9 hkl
        go_wp2_with fail
        refine calls_abs (fun W => Ext wr W ∧ Blk_ W wr.heap.size 96 #[.int .i64 r.kind, .int .i64 r.a, .int .i64 r.b, .int .i64 r.c]) ⟨(Ext.refl _).alloc _, Blk_.new _ _ _⟩ ?_
        rintro w2 ⟨hx2, hb6⟩
        refine (picked_any r.a 140 w2 HI.out.2.1 (by omega) (by omega)).mono ?_
        rintro en w3 ⟨rfl, hw⟩
        obtain rfl := hw.symm
        obtain ⟨n, hn⟩ : ∃ n, n = pick r.a 140 := ⟨_, rfl⟩
        have hnr := pick_range r.a 140 (by decide)
        rw [← hn] at hnr ⊢
        obtain ⟨hn0, hn1⟩ := hnr
        have HCB := Lib.hid (show cBytes l k = n by unfold cBytes; rw [HR0.out, hn])
        have HS2 := Lib.hid (HS.out.up hx2)
        have HR2 := Lib.hid (HRS.out.ext hx2)
        have HB2 := Lib.hid hb6
        have HWL := Lib.hid (show ∀ q, (Value.slice A1 bl.length c1).ownBlock = some q → q < wr.heap.size from fun q hq => (HS.out.o1.lt q hq).2)
        have HW2 := Lib.hid (show ∀ q, (Value.slice A2 es.length c2).ownBlock = some q → q < wr.heap.size from fun q hq => (HS.out.o2.lt q hq).2)
        have HWS := Lib.hid hb6.lt
        have HLR := Lib.hid (show w.heap.size + 1 < wr.heap.size from HS.out.cat.lt)
        obtain ⟨g6, hg6⟩ : ∃ g, g = wr.heap.size := ⟨_, rfl⟩
        rw [← hg6] at HB2 HWL HW2 HWS HLR ⊢
        clear hn hx2 hb6 HS HRS q0 q1 q2 q3 lb hg6
        have g0 := HS2.out.cat.cell 0
        have g1 := HS2.out.cat.cell 1
        simp at g0 g1
        have lc := HS2.out.cat.lt
        obtain ⟨q, hq⟩ : ∃ q, q = p + (n + 23) / 24 := ⟨_, rfl⟩
        have hq1 : p + (n + 23) / 24 = q := hq.symm
        have hqb : 8 ≤ q ∧ q ≤ 10000 := by omega
        have HQ := Lib.hid (show q = cAt l (k + 1) by show q = cAt l k + secs (cBytes l k); rw [← HPP.out, HCB.out]; exact hq)
        have HI1 := Lib.hid (show I64 p ∧ I64 n by constructor <;> (unfold I64; omega))
        have HBL := Lib.hid hbl1
        have HEL := Lib.hid hes1
        clear hq
        have hp8 : p ≤ 1000000 := by omega
        go_wp2_with (first | (go_at_call 45; refine (sectors_any n _ hn0 (by omega)).mono ?_; rintro en w9 ⟨rfl, rfl⟩) | (at_builtin; refine wpList_append_at _ rfl (.tmp 34) (.tmp 36) 22 rfl (w.heap.size + 2) 55 i0 (.agg #[.int .i64 0, .int .i64 0]) 2 16 Tryd.underlying22 HIB.out.1 HIB.out.2.1 HIB.out.2.2.1 HIB.out.2.2.2 rfl (by decide) _ bl.length _ rfl (own_ext HS2.out.o1 (((Ext.refl _).alloc _).alloc _)) ⟨w2.heap.size + 1, 0, none⟩ 1 1 [.int .i64 p, .int .i64 n] rfl rfl ?c1 ?c2 ?c3 ?c4 ?c5 ?_))
        case c1 =>
          intro j u hu
          rw [Addr.add_lit, Nat.zero_add, (Blk_.new1 w2 _ 55 _).cell]
          simpa using hu
        case c2 =>
          intro u hu
          simp only [List.mem_cons, List.not_mem_nil, or_false] at hu
          rcases hu with rfl | rfl <;> rfl
        case c3 => have := HBL.out; unfold maxLen; omega
        case c4 => have := HBL.out; omega
        case c5 => rw [World.size_alloc, World.size_alloc]; omega
        intro A7 c7 w7 own7 hg7 _
        have hc7 := ((HS2.out.cat.alloc _).alloc _).grown hg7 (fun k hk => by have := (HS2.out.o1.lt k hk).1; omega)
        have hr7 := (((HR2.out.alloc _).alloc _).grown hg7 (fun k hk => by have := (HS2.out.o1.lt k hk).1; omega)).far (p := ⟨w.heap.size + 1, 0, none⟩) (by dsimp only; omega) (.slice A7 (bl.length + 1) c7)
        have hb7 := (((HB2.out.alloc _).alloc _).grown hg7 (fun k hk => by have := HWL.out k hk; omega)).far (p := ⟨w.heap.size + 1, 0, none⟩) (by have := HLR.out; dsimp only; omega) (.slice A7 (bl.length + 1) c7)
        have hs8 := (HS2.out.up (((Ext.refl _).alloc _).alloc _)).pushB (b := ⟨p, n⟩) hg7 own7 HI1.out.1 HI1.out.2
        have q0 := hc7.cell 0
        have q1 := hc7.cell 1
        have z0 := hc7.frozen 0
        simp at q0 q1
        have HS8 := Lib.hid hs8
        have HR8 := Lib.hid hr7
        have HB8 := Lib.hid hb7
        clear own7 hg7 g0 g1 hc7 hs8 hr7 hb7
        go_wp2_with fail
        refine wp_abs (fun W => CX w W (w.heap.size + 1) (w.heap.size + 2) (.slice A7 (bl.length + 1) c7) (.slice A2 es.length c2) (bl ++ [⟨p, n⟩]) es ∧ Blk_ W w.heap.size 25 #[.slice none 0 0, .slice none 0 0] ∧ Blk_ W g6 96 #[.int .i64 r.kind, .int .i64 r.a, .int .i64 r.b, .int .i64 r.c] ∧ g6 < W.heap.size) ⟨HS8.out, HR8.out, HB8.out, HB8.out.lt⟩ ?_
        rintro W ⟨hS, hR, hB, hgl⟩
        clear q0 q1 z0 HS8 HR8 HB8 HR2 HB2 lc HS2
        have HS := Lib.hid hS
        have HRS := Lib.hid hR
        have HB6 := Lib.hid hB
        have lcat := hS.cat.lt
        obtain ⟨ro, hro⟩ : ∃ ro, ro = (Value.slice A2 es.length c2).ownBlock := ⟨_, rfl⟩
        have HRO := Lib.hid hro
        obtain ⟨N0, hN0⟩ : ∃ N, N = W.heap.size := ⟨_, rfl⟩
        have HN0 := Lib.hid hN0
        have HRB := Lib.hid (show ∀ q, ro = some q → w.heap.size + 2 ≤ q from fun q hq => (hS.o2.lt q (hro.symm.trans hq)).1)
        have HRL := Lib.hid (show ∀ q, ro = some q → q < N0 from fun q hq => by rw [hN0]; exact (hS.o2.lt q (hro.symm.trans hq)).2)
        have HRG := Lib.hid (show ∀ q, ro = some q → q ≠ g6 from fun q hq => by have := HW2.out q (hro.symm.trans hq); omega)
        obtain ⟨nm, hnm⟩ : ∃ nm, nm = (⟨#[110]⟩ : ByteArray) ++ bs [byte (97 + (k : Int))] := ⟨_, rfl⟩
        have HNM := Lib.hid hnm.symm
        have h2 := pick_range r.b ((k : Int) + 1) (by omega)
        have h3 := pick_range r.c 600 (by decide)
        have h4 := pick_range r.kind 201 (by decide)
        have HOK := Lib.hid (show EntOk ⟨nm, pick r.b ((k : Int) + 1), pick r.c 600, pick r.kind 201⟩ from ⟨by rw [hnm, nm_eq]; show (cName k).size ≤ _; unfold cName; rw [size_bs]; show (2 : Nat) ≤ _; omega, by show I64 (pick r.b ((k : Int) + 1)); unfold I64; omega, by show I64 (pick r.c 600); unfold I64; omega, by show I64 (pick r.kind 201); unfold I64; omega⟩)
        clear hS hR hB hro hN0 hnm h2 h3 h4
        refine wp_region_valsA 21 ro (F := ?_) ?_ [(fun (v : Value) (_ : World) => v = .pointer (some ⟨w.heap.size + 1, 1, none⟩)), (fun (v : Value) (_ : World) => v = .slice A2 es.length c2), (fun (v : Value) (_ : World) => v = .int .i64 (k : Int)), (fun (v : Value) (_ : World) => v = .int .i64 (97 + (k : Int))), (fun (v : Value) (_ : World) => v = .int .u8 (97 + (k : Int))), (fun v u => ∃ g, v = .slice (some ⟨g, 0, none⟩) 1 1 ∧ Blk_ u g 5 #[.int .u8 (97 + (k : Int))] ∧ N0 ≤ g), (fun (v : Value) (_ : World) => v = .string (bs [byte (97 + (k : Int))])), (fun (v : Value) (_ : World) => v = .string nm), (fun (v : Value) (_ : World) => v = .pointer (some ⟨g6, 2, none⟩)), (fun (v : Value) (_ : World) => v = .int .i64 r.b), (fun (v : Value) (_ : World) => v = .int .i64 (k : Int)), (fun (v : Value) (_ : World) => v = .int .i64 ((k : Int) + 1)), (fun (v : Value) (_ : World) => v = .int .i64 (pick r.b ((k : Int) + 1))), (fun (v : Value) (_ : World) => v = .pointer (some ⟨g6, 3, none⟩)), (fun (v : Value) (_ : World) => v = .int .i64 r.c), (fun (v : Value) (_ : World) => v = .int .i64 (pick r.c 600)), (fun (v : Value) (_ : World) => v = .pointer (some ⟨g6, 0, none⟩)), (fun (v : Value) (_ : World) => v = .int .i64 r.kind), (fun (v : Value) (_ : World) => v = .int .i64 (pick r.kind 201)), (fun (v : Value) (_ : World) => v = .agg #[.string nm, .int .i64 (pick r.b ((k : Int) + 1)), .int .i64 (pick r.c 600), .int .i64 (pick r.kind 201)]), (fun v u => ∃ g, v = .slice (some ⟨g, 0, none⟩) 1 1 ∧ Blk_ u g 58 #[.string nm, .int .i64 (pick r.b ((k : Int) + 1)), .int .i64 (pick r.c 600), .int .i64 (pick r.kind 201)] ∧ N0 ≤ g), (fun v u => ∃ A' c', v = .slice A' (es.length + 1) c' ∧ u.ownsRow (w.heap.size + 2) 58 4 (.slice A' (es.length + 1) c') (es.length + 1) (es.flatMap encEnt ++ [.string nm, .int .i64 (pick r.b ((k : Int) + 1)), .int .i64 (pick r.c 600), .int .i64 (pick r.kind 201)])), (fun (v : Value) (_ : World) => v = .pointer (some ⟨w.heap.size + 1, 1, none⟩))] (by kernel_rfl) rfl (by kernel_rfl) rfl (by kernel_rfl) ?_ ?_ ?_
        rotate_left
        · intro vals
          simp only [putAll, List.dropLast, Act.put, List.setIfInBounds_toArray, List.set_cons_zero, List.set_cons_succ, Nat.zero_add, Nat.reduceAdd]
          rfl
        · intro j p hp v u u' h hr
          match j, hp with
          | 0, hp => obtain rfl := Option.some.inj hp; exact h
          | 1, hp => obtain rfl := Option.some.inj hp; exact h
          | 2, hp => obtain rfl := Option.some.inj hp; exact h
          | 3, hp => obtain rfl := Option.some.inj hp; exact h
          | 4, hp => obtain rfl := Option.some.inj hp; exact h
          | 5, hp => obtain rfl := Option.some.inj hp; rw [if_neg (by decide)] at hr; exact (by obtain ⟨g, hg, hb, hn⟩ := h; exact ⟨g, hg, hb.grown hr (fun q hq => by have := HRL.out q hq; omega), hn⟩)
          | 6, hp => obtain rfl := Option.some.inj hp; exact h
          | 7, hp => obtain rfl := Option.some.inj hp; exact h
          | 8, hp => obtain rfl := Option.some.inj hp; exact h
          | 9, hp => obtain rfl := Option.some.inj hp; exact h
          | 10, hp => obtain rfl := Option.some.inj hp; exact h
          | 11, hp => obtain rfl := Option.some.inj hp; exact h
          | 12, hp => obtain rfl := Option.some.inj hp; exact h
          | 13, hp => obtain rfl := Option.some.inj hp; exact h
          | 14, hp => obtain rfl := Option.some.inj hp; exact h
          | 15, hp => obtain rfl := Option.some.inj hp; exact h
          | 16, hp => obtain rfl := Option.some.inj hp; exact h
          | 17, hp => obtain rfl := Option.some.inj hp; exact h
          | 18, hp => obtain rfl := Option.some.inj hp; exact h
          | 19, hp => obtain rfl := Option.some.inj hp; exact h
          | 20, hp => obtain rfl := Option.some.inj hp; rw [if_neg (by decide)] at hr; exact (by obtain ⟨g, hg, hb, hn⟩ := h; exact ⟨g, hg, hb.grown hr (fun q hq => by have := HRL.out q hq; omega), hn⟩)
          | 21, hp => obtain rfl := Option.some.inj hp; rw [if_pos rfl] at hr; exact (by obtain ⟨A', c', hv, ho⟩ := h; exact ⟨A', c', hv, own_ext ho hr⟩)
          | 22, hp => obtain rfl := Option.some.inj hp; exact h
          | n + 23, hp => exact absurd hp (by simp)
        · refine ⟨?_, ?_, ?_, ?_, ?_, ?_, ?_, ?_, ?_, ?_, ?_, ?_, ?_, ?_, ?_, ?_, ?_, ?_, ?_, ?_, ?_, ?_, ?_, trivial⟩
          · intro vals W' e hd ho K hK
            have hx : World.grownBy _ W' ro := e
            refine st_quiet (v := ?_) ?_ ?_
            rotate_left
            · go_simp
              rfl
            exact hK _ _ _ rfl (by first | exact rfl | exact congrArg (Value.int _) (by first | (rw [IntKind.wrap_i64]; omega) | (rw [IntKind.wrap_u8]; omega) | omega)) (Ext.refl _)
          · intro vals W' e hd ho K hK
            have h0 : vals 0 = .pointer (some ⟨w.heap.size + 1, 1, none⟩) := hd 0 (by kernel_rfl)
            have hx : World.grownBy _ W' ro := e
            have cc := (HS.out.cat.drew.grown hx (fun q hq => by have := HRB.out q hq; omega)).cell 1
            simp at cc
            refine st_quiet (v := ?_) ?_ ?_
            rotate_left
            · go_simp
              rfl
            exact hK _ _ _ rfl rfl (Ext.refl _)
          · intro vals W' e hd ho K hK
            have hx : World.grownBy _ W' ro := e
            refine st_quiet (v := ?_) ?_ ?_
            rotate_left
            · go_simp
              rfl
            exact hK _ _ _ rfl (by first | exact rfl | exact congrArg (Value.int _) (by first | (rw [IntKind.wrap_i64]; omega) | (rw [IntKind.wrap_u8]; omega) | omega)) (Ext.refl _)
          · intro vals W' e hd ho K hK
            have h2 : vals 2 = .int .i64 (k : Int) := hd 2 (by kernel_rfl)
            have hx : World.grownBy _ W' ro := e
            refine st_quiet (v := ?_) ?_ ?_
            rotate_left
            · go_simp
              rfl
            exact hK _ _ _ rfl (by first | exact rfl | exact congrArg (Value.int _) (by first | (rw [IntKind.wrap_i64]; omega) | (rw [IntKind.wrap_u8]; omega) | omega)) (Ext.refl _)
          · intro vals W' e hd ho K hK
            have h3 : vals 3 = .int .i64 (97 + (k : Int)) := hd 3 (by kernel_rfl)
            have hx : World.grownBy _ W' ro := e
            refine st_quiet (v := ?_) ?_ ?_
            rotate_left
            · go_simp
              rfl
            exact hK _ _ _ rfl (by first | exact rfl | exact congrArg (Value.int _) (by first | (rw [IntKind.wrap_i64]; omega) | (rw [IntKind.wrap_u8]; omega) | omega)) (Ext.refl _)
          · intro vals W' e hd ho K hK
            have h4 : vals 4 = .int .u8 (97 + (k : Int)) := hd 4 (by kernel_rfl)
            have hx : World.grownBy _ W' ro := e
            go_wp2_with fail
            exact hK _ _ _ (by first | rfl | (simp only [h4]; rfl)) ⟨W'.heap.size, rfl, Blk_.new _ _ _, by have := hx.size; have := HN0.out; simp only [World.size_drew] at *; omega⟩ ((Ext.refl W').alloc _)
          · intro vals W' e hd ho K hK
            obtain ⟨g5, h5, b5, n5⟩ := hd 5 (by kernel_rfl)
            have hx : World.grownBy _ W' ro := e
            refine wp_conv1 (.tmp 44) 34 9 5 rfl Tryd.underlying34 Tryd.underlying5 Tryd.underlying9 g5 _ (by go_simp; try rfl) b5 ?_
            exact hK _ _ _ rfl rfl (Ext.refl _)
          · intro vals W' e hd ho K hK
            have h6 : vals 6 = .string (bs [byte (97 + (k : Int))]) := hd 6 (by kernel_rfl)
            have hx : World.grownBy _ W' ro := e
            refine st_concat _ _ _ _ ⟨#[110]⟩ (bs [byte (97 + (k : Int))]) rfl rfl h6 (by rw [size_bs]; show (2 : Nat) ≤ _; omega) ?_
            exact hK _ _ _ rfl (congrArg Value.string HNM.out) (Ext.refl _)
          · intro vals W' e hd ho K hK
            have hx : World.grownBy _ W' ro := e
            refine st_quiet (v := ?_) ?_ ?_
            rotate_left
            · go_simp
              rfl
            exact hK _ _ _ rfl (by first | exact rfl | exact congrArg (Value.int _) (by first | (rw [IntKind.wrap_i64]; omega) | (rw [IntKind.wrap_u8]; omega) | omega)) (Ext.refl _)
          · intro vals W' e hd ho K hK
            have h8 : vals 8 = .pointer (some ⟨g6, 2, none⟩) := hd 8 (by kernel_rfl)
            have hx : World.grownBy _ W' ro := e
            have cc := (HB6.out.drew.grown hx HRG.out).cell 2
            simp at cc
            refine st_quiet (v := ?_) ?_ ?_
            rotate_left
            · go_simp
              rfl
            exact hK _ _ _ rfl rfl (Ext.refl _)
          · intro vals W' e hd ho K hK
            have hx : World.grownBy _ W' ro := e
            refine st_quiet (v := ?_) ?_ ?_
            rotate_left
            · go_simp
              rfl
            exact hK _ _ _ rfl (by first | exact rfl | exact congrArg (Value.int _) (by first | (rw [IntKind.wrap_i64]; omega) | (rw [IntKind.wrap_u8]; omega) | omega)) (Ext.refl _)
          · intro vals W' e hd ho K hK
            have h10 : vals 10 = .int .i64 (k : Int) := hd 10 (by kernel_rfl)
            have hx : World.grownBy _ W' ro := e
            refine st_quiet (v := ?_) ?_ ?_
            rotate_left
            · go_simp
              rfl
            exact hK _ _ _ rfl (by first | exact rfl | exact congrArg (Value.int _) (by first | (rw [IntKind.wrap_i64]; omega) | (rw [IntKind.wrap_u8]; omega) | omega)) (Ext.refl _)
          · intro vals W' e hd ho K hK
            have h9 : vals 9 = .int .i64 r.b := hd 9 (by kernel_rfl)
            have h11 : vals 11 = .int .i64 ((k : Int) + 1) := hd 11 (by kernel_rfl)
            have hx : World.grownBy _ W' ro := e
            go_wp2_with fail
            refine (picked_any r.b ((k : Int) + 1) _ HI.out.2.2.1 (by omega) (by omega)).mono ?_
            rintro e' u' ⟨rfl, rfl⟩
            exact hK _ _ _ (by first | rfl | (simp only [h9, h11]; rfl)) rfl (Ext.refl _)
          · intro vals W' e hd ho K hK
            have hx : World.grownBy _ W' ro := e
            refine st_quiet (v := ?_) ?_ ?_
            rotate_left
            · go_simp
              rfl
            exact hK _ _ _ rfl (by first | exact rfl | exact congrArg (Value.int _) (by first | (rw [IntKind.wrap_i64]; omega) | (rw [IntKind.wrap_u8]; omega) | omega)) (Ext.refl _)
          · intro vals W' e hd ho K hK
            have h13 : vals 13 = .pointer (some ⟨g6, 3, none⟩) := hd 13 (by kernel_rfl)
            have hx : World.grownBy _ W' ro := e
            have cc := (HB6.out.drew.grown hx HRG.out).cell 3
            simp at cc
            refine st_quiet (v := ?_) ?_ ?_
            rotate_left
            · go_simp
              rfl
            exact hK _ _ _ rfl rfl (Ext.refl _)
          · intro vals W' e hd ho K hK
            have h14 : vals 14 = .int .i64 r.c := hd 14 (by kernel_rfl)
            have hx : World.grownBy _ W' ro := e
            go_wp2_with fail
            refine (picked_any r.c 600 _ HI.out.2.2.2 (by omega) (by omega)).mono ?_
            rintro e' u' ⟨rfl, rfl⟩
            exact hK _ _ _ (by first | rfl | (simp only [h14]; rfl)) rfl (Ext.refl _)
          · intro vals W' e hd ho K hK
            have hx : World.grownBy _ W' ro := e
            refine st_quiet (v := ?_) ?_ ?_
            rotate_left
            · go_simp
              rfl
            exact hK _ _ _ rfl (by first | exact rfl | exact congrArg (Value.int _) (by first | (rw [IntKind.wrap_i64]; omega) | (rw [IntKind.wrap_u8]; omega) | omega)) (Ext.refl _)
          · intro vals W' e hd ho K hK
            have h16 : vals 16 = .pointer (some ⟨g6, 0, none⟩) := hd 16 (by kernel_rfl)
            have hx : World.grownBy _ W' ro := e
            have cc := (HB6.out.drew.grown hx HRG.out).cell 0
            simp at cc
            refine st_quiet (v := ?_) ?_ ?_
            rotate_left
            · go_simp
              rfl
            exact hK _ _ _ rfl rfl (Ext.refl _)
          · intro vals W' e hd ho K hK
            have h17 : vals 17 = .int .i64 r.kind := hd 17 (by kernel_rfl)
            have hx : World.grownBy _ W' ro := e
            go_wp2_with fail
            refine (picked_any r.kind 201 _ HI.out.1 (by omega) (by omega)).mono ?_
            rintro e' u' ⟨rfl, rfl⟩
            exact hK _ _ _ (by first | rfl | (simp only [h17]; rfl)) rfl (Ext.refl _)
          · intro vals W' e hd ho K hK
            have h7 : vals 7 = .string nm := hd 7 (by kernel_rfl)
            have h12 : vals 12 = .int .i64 (pick r.b ((k : Int) + 1)) := hd 12 (by kernel_rfl)
            have h15 : vals 15 = .int .i64 (pick r.c 600) := hd 15 (by kernel_rfl)
            have h18 : vals 18 = .int .i64 (pick r.kind 201) := hd 18 (by kernel_rfl)
            have hx : World.grownBy _ W' ro := e
            refine st_quiet (v := ?_) ?_ ?_
            rotate_left
            · go_simp
              rfl
            exact hK _ _ _ rfl (by first | exact rfl | exact congrArg (Value.int _) (by first | (rw [IntKind.wrap_i64]; omega) | (rw [IntKind.wrap_u8]; omega) | omega)) (Ext.refl _)
          · intro vals W' e hd ho K hK
            have h19 : vals 19 = .agg #[.string nm, .int .i64 (pick r.b ((k : Int) + 1)), .int .i64 (pick r.c 600), .int .i64 (pick r.kind 201)] := hd 19 (by kernel_rfl)
            have hx : World.grownBy _ W' ro := e
            go_wp2_with fail
            exact hK _ _ _ (by first | rfl | (simp only [h19]; rfl)) ⟨W'.heap.size, rfl, Blk_.new _ _ _, by have := hx.size; have := HN0.out; simp only [World.size_drew] at *; omega⟩ ((Ext.refl W').alloc _)
          · intro vals W' e hd ho K hK
            have h1 : vals 1 = .slice A2 es.length c2 := hd 1 (by kernel_rfl)
            obtain ⟨g20, h20, b20, n20⟩ := hd 20 (by kernel_rfl)
            have hx : Ext _ W' := e
            refine wp_append_at W' (.tmp 40) (.tmp 59) 23 rfl (w.heap.size + 2) 58 i1 (.agg #[.string .empty, .int .i64 0, .int .i64 0, .int .i64 0]) 4 40 Tryd.underlying23 HIE.out.1 HIE.out.2.1 HIE.out.2.2.1 HIE.out.2.2.2 rfl (by decide) (.slice A2 es.length c2) es.length _ h1 (own_ext HS.out.o2 ((Ext.refl _).drew.trans hx)) ⟨g20, 0, none⟩ 1 1 [.string nm, .int .i64 (pick r.b ((k : Int) + 1)), .int .i64 (pick r.c 600), .int .i64 (pick r.kind 201)] h20 rfl ?_ ?_ ?_ ?_ ?_ ?_
            · intro j u hu
              rw [Addr.add_lit, Nat.zero_add, b20.cell]
              simpa using hu
            · intro u hu
              simp only [List.mem_cons, List.not_mem_nil, or_false] at hu
              rcases hu with rfl | rfl | rfl | rfl <;> rfl
            · have := HEL.out; unfold maxLen; omega
            · have := HEL.out; omega
            · have h5 := HS.out.cat.lt
              have := hx.below.size
              simp only [World.size_drew] at *
              omega
            intro A' c' u' own hg _
            exact hK _ _ _ rfl ⟨A', c', rfl, own⟩ (by rw [← HRO.out] at hg; exact hg)
          · intro vals W' e hd ho K hK
            have hx : World.grownBy _ W' ro := e
            refine st_quiet (v := ?_) ?_ ?_
            rotate_left
            · go_simp
              rfl
            exact hK _ _ _ rfl (by first | exact rfl | exact congrArg (Value.int _) (by first | (rw [IntKind.wrap_i64]; omega) | (rw [IntKind.wrap_u8]; omega) | omega)) (Ext.refl _)
        intro vals W' e hall K hK
        obtain ⟨A8, c8, h21, own8⟩ := hall 21 (by decide)
        have h22 : vals 22 = .pointer (some ⟨w.heap.size + 1, 1, none⟩) := hall 22 (by decide)
        rw [HRO.out] at e
        have HS9 := Lib.hid ((HS.out.up (Ext.refl W).drew).pushE (x := ⟨nm, pick r.b ((k : Int) + 1), pick r.c 600, pick r.kind 201⟩) e own8 HOK.out)
        have hc9 := HS.out.cat.drew.grown e (fun q hq => by rw [← HRO.out] at hq; have := HRB.out q hq; omega)
        have HR9 := Lib.hid ((HRS.out.drew.grown e (fun q hq => by rw [← HRO.out] at hq; have := HRB.out q hq; omega)).far (p := ⟨w.heap.size + 1, 1, none⟩) (by dsimp only; omega) (.slice A8 (es.length + 1) c8))
        have z1 := hc9.frozen 1
        have y0 := hc9.cell 0
        have y1 := hc9.cell 1
        simp at y0 y1
        clear hall e own8 hc9
        go_wp2_with fail
        go_roundw
        case rel =>
          refine ⟨k + 1, A7, c7, A8, c8, bl ++ [⟨p, n⟩], es ++ [⟨nm, pick r.b ((k : Int) + 1), pick r.c 600, pick r.kind 201⟩], ?_, by first | rfl | go_num, by have := HK.out; omega, by have := HK.out; omega, by rw [List.length_append, HBE.out.1]; rfl, by rw [List.length_append, HBE.out.2]; rfl, ?_, ?_, HR9.out⟩
          · rw [HQ.out]
          · have e1 : cBlk l k = ⟨p, n⟩ := by unfold cBlk; rw [← HPP.out, HCB.out]
            have e2 : cEnt l k = ⟨nm, pick r.b ((k : Int) + 1), pick r.c 600, pick r.kind 201⟩ := by unfold cEnt; rw [HR0.out, ← HNM.out, nm_eq]
            rw [cCat_succ, HCA.out, e1, e2]
          · rw [List.length_append, List.length_append]
            exact HS9.out
        case measure => have := HK.out; (simp [intOf]; try omega)
      · have hltI : (k : Int) < (l.length : Int) := by omega
        have h9I : (9 : Int) ≤ (k : Int) := by omega
        have HK := Lib.hid hk9
        clear hlt h9 hk9 hkl
        have g0 := HS.out.cat.cell 0
        have g1 := HS.out.cat.cell 1
        have m0 := HRS.out.cell 0
        have m1 := HRS.out.cell 1
        have z0 := HRS.out.frozen 0
        have z1 := HRS.out.frozen 1
        have lc := HS.out.cat.lt
        simp at g0 g1 m0 m1
        go_wp2_with fail
        have HXX := Lib.hid ((HS.out.ext.setCell (p := ⟨w.heap.size, 0, none⟩) (Nat.le_refl _) (.slice A1 bl.length c1)).setCell (p := ⟨w.heap.size, 1, none⟩) (Nat.le_refl _) (.slice A2 es.length c2))
        have HRR := Lib.hid ((HRS.out.set 0 (.slice A1 bl.length c1)).set 1 (.slice A2 es.length c2))
        have HCX := Lib.hid ((HS.out.by_ (setRow_by wr w.heap.size 0 (.slice A1 bl.length c1)) (Nat.le_refl _) (by omega) (by omega)).by_ (setRow_by _ w.heap.size 1 (.slice A2 es.length c2)) (Nat.le_refl _) (by omega) (by omega))
        refine bodyPost_ret (res_cell rfl rfl HRR.out Tryd.underlying25 rfl (by kernel_rfl)) rfl ?_
        refine ⟨A1, c1, A2, c2, k, ?_, HXX.out, HK.out, ?_⟩
        · rw [HCA.out]; rfl
        · rw [HCA.out]; exact HCX.out.rcat (by omega) (by omega)
    · have hltI : (l.length : Int) ≤ (k : Int) := by omega
      have HK := Lib.hid hk9
      clear hlt hk9 hkl
      have g0 := HS.out.cat.cell 0
      have g1 := HS.out.cat.cell 1
      have m0 := HRS.out.cell 0
      have m1 := HRS.out.cell 1
      have z0 := HRS.out.frozen 0
      have z1 := HRS.out.frozen 1
      have lc := HS.out.cat.lt
      simp at g0 g1 m0 m1
      go_wp2_with fail
      have HXX := Lib.hid ((HS.out.ext.setCell (p := ⟨w.heap.size, 0, none⟩) (Nat.le_refl _) (.slice A1 bl.length c1)).setCell (p := ⟨w.heap.size, 1, none⟩) (Nat.le_refl _) (.slice A2 es.length c2))
      have HRR := Lib.hid ((HRS.out.set 0 (.slice A1 bl.length c1)).set 1 (.slice A2 es.length c2))
      have HCX := Lib.hid ((HS.out.by_ (setRow_by wr w.heap.size 0 (.slice A1 bl.length c1)) (Nat.le_refl _) (by omega) (by omega)).by_ (setRow_by _ w.heap.size 1 (.slice A2 es.length c2)) (Nat.le_refl _) (by omega) (by omega))
      refine bodyPost_ret (res_cell rfl rfl HRR.out Tryd.underlying25 rfl (by kernel_rfl)) rfl ?_
      refine ⟨A1, c1, A2, c2, k, ?_, HXX.out, HK.out, ?_⟩
      · rw [HCA.out]; rfl
      · rw [HCA.out]; exact HCX.out.rcat (by omega) (by omega)
end Go.Proofs.YtokpjgpdkmimgaaDoor

/-
  slices.Equal of two slices that read as the same list: true. Conditions: both read as it.
-/
namespace Go.Proofs.YtokpjgpdkmimgaaDoor
set_option linter.unusedSimpArgs false
set_option linter.unusedVariables false
open Go.RowKit

set_option maxRecDepth 100000 in
set_option maxHeartbeats 2000000 in
theorem eqBlks_any (v1 v2 : Value) (l : List Blk) (w : World) (h1 : SlR 2 16 RBlk w v1 l) (h2 : SlR 2 16 RBlk w v2 l) :
    Calls Tryd.prog 30 #[v1, v2] w fun e w' => e = .returned (.bool true) ∧ Ext w w' := by
  obtain ⟨A1, c1, rfl, hb1, hc1, p1⟩ := h1.rowE encBlk_ok
  obtain ⟨A2, c2, rfl, hb2, hc2, p2⟩ := h2.rowE encBlk_ok
  have P1 := Lib.hid p1
  have P2 := Lib.hid p2
  have hl : (l.length : Int) ≤ 140737488355328 := by omega
  have hne : (((l.length : Int)) != (l.length : Int)) = false := by simp
  clear h1 h2 p1 p2 hb1 hb2
  go_enter Tryd.func30, Tryd.ntmps30
  go_wp2
  go_loopw [13] (fun kv wr => ∃ (k : Nat), kv = .int .i64 k ∧ k ≤ l.length ∧ Ext w wr) (fun kv _ => l.length - (intOf kv).toNat)
  case atStart => exact ⟨0, rfl, Nat.zero_le _, Ext.refl _⟩
  case round =>
    obtain ⟨k, rfl, hk, hx⟩ := hrel
    have HX := Lib.hid hx
    by_cases hlt : k < l.length
    · obtain ⟨b, o, rfl, g1⟩ := P1.out k hlt
      obtain ⟨b', o', rfl, g2⟩ := P2.out k hlt
      have q0 := hx.cell (g1 k hlt 0 _ rfl)
      have y0 := hx.cell (g2 k hlt 0 _ rfl)
      have q1 := hx.cell (g1 k hlt 1 _ rfl)
      have y1 := hx.cell (g2 k hlt 1 _ rfl)
      obtain ⟨x, hxx⟩ : ∃ x, x = l[k] := ⟨_, rfl⟩
      rw [← hxx] at q0 y0 q1 y1
      simp only [Nat.add_zero] at q0 y0
      have hltI : (k : Int) < (l.length : Int) := by omega
      have HK := Lib.hid hlt
      clear g1 g2 hxx hlt hk hx
      go_wp2_with fail
      go_quiet (fail)
      go_wp2_with fail
      go_roundw
      case rel => exact ⟨k + 1, by first | rfl | go_num, HK.out, by first | exact HX.out | exact HX.out.drew | exact HX.out.drewN _⟩
      case measure => have := HK.out; (simp [intOf]; try omega)
    · have hltI : (l.length : Int) ≤ (k : Int) := by omega
      clear hlt
      go_wp2_with fail
      go_ret
      exact ⟨rfl, HX.out⟩
set_option maxRecDepth 100000 in
set_option maxHeartbeats 2000000 in
theorem eqEnts_any (v1 v2 : Value) (l : List Ent) (w : World) (h1 : SlR 4 40 REnt w v1 l) (h2 : SlR 4 40 REnt w v2 l) :
    Calls Tryd.prog 31 #[v1, v2] w fun e w' => e = .returned (.bool true) ∧ Ext w w' := by
  obtain ⟨A1, c1, rfl, hb1, hc1, p1⟩ := h1.rowE encEnt_ok
  obtain ⟨A2, c2, rfl, hb2, hc2, p2⟩ := h2.rowE encEnt_ok
  have P1 := Lib.hid p1
  have P2 := Lib.hid p2
  have hl : (l.length : Int) ≤ 140737488355328 := by omega
  have hne : (((l.length : Int)) != (l.length : Int)) = false := by simp
  clear h1 h2 p1 p2 hb1 hb2
  go_enter Tryd.func31, Tryd.ntmps31
  go_wp2
  go_loopw [13] (fun kv wr => ∃ (k : Nat), kv = .int .i64 k ∧ k ≤ l.length ∧ Ext w wr) (fun kv _ => l.length - (intOf kv).toNat)
  case atStart => exact ⟨0, rfl, Nat.zero_le _, Ext.refl _⟩
  case round =>
    obtain ⟨k, rfl, hk, hx⟩ := hrel
    have HX := Lib.hid hx
    by_cases hlt : k < l.length
    · obtain ⟨b, o, rfl, g1⟩ := P1.out k hlt
      obtain ⟨b', o', rfl, g2⟩ := P2.out k hlt
      have q0 := hx.cell (g1 k hlt 0 _ rfl)
      have y0 := hx.cell (g2 k hlt 0 _ rfl)
      have q1 := hx.cell (g1 k hlt 1 _ rfl)
      have y1 := hx.cell (g2 k hlt 1 _ rfl)
      have q2 := hx.cell (g1 k hlt 2 _ rfl)
      have y2 := hx.cell (g2 k hlt 2 _ rfl)
      have q3 := hx.cell (g1 k hlt 3 _ rfl)
      have y3 := hx.cell (g2 k hlt 3 _ rfl)
      obtain ⟨x, hxx⟩ : ∃ x, x = l[k] := ⟨_, rfl⟩
      rw [← hxx] at q0 y0 q1 y1 q2 y2 q3 y3
      simp only [Nat.add_zero] at q0 y0
      have hltI : (k : Int) < (l.length : Int) := by omega
      have HK := Lib.hid hlt
      clear g1 g2 hxx hlt hk hx
      go_wp2_with fail
      go_quiet (fail)
      go_wp2_with fail
      go_roundw
      case rel => exact ⟨k + 1, by first | rfl | go_num, HK.out, by first | exact HX.out | exact HX.out.drew | exact HX.out.drewN _⟩
      case measure => have := HK.out; (simp [intOf]; try omega)
    · have hltI : (l.length : Int) ≤ (k : Int) := by omega
      clear hlt
      go_wp2_with fail
      go_ret
      exact ⟨rfl, HX.out⟩
end Go.Proofs.YtokpjgpdkmimgaaDoor
