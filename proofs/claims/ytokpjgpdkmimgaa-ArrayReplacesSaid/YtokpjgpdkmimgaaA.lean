/-
  Arrays of devices in memory: a row of the call's own that holds devices; a device may be stored into it, or one more behind it. Conditions: none.
-/
import Derived.Test.YtokpjgpdkmimgaaM
import Derived.Maps.AppendAt
import Derived.RegionTactic
import Derived.OwnWalk
namespace Go.Proofs.Ytokpjgpdkmimgaa
set_option linter.unusedSimpArgs false
set_option linter.unusedVariables false
open Go.RowKit

/-- The value's row does not lie in block g. -/
def Av (g : Nat) (v : Value) : Prop := ∀ b o s n c, v = .slice (some ⟨b, o, s⟩) n c → n = 0 ∨ b ≠ g
/-- The value's row lies in block B or above. -/
def New (B : Nat) (v : Value) : Prop := ∀ b o s n c, v = .slice (some ⟨b, o, s⟩) n c → n = 0 ∨ B ≤ b
theorem New.av {B g : Nat} {v : Value} (h : New B v) (hg : g < B) : Av g v := fun b o s n c e => by
  rcases h b o s n c e with h | h
  · exact .inl h
  · exact .inr (by omega)
theorem New.mono {B B' : Nat} {v : Value} (h : New B v) (hB : B' ≤ B) : New B' v := fun b o s n c e => by
  rcases h b o s n c e with h | h
  · exact .inl h
  · exact .inr (by omega)
theorem New.nil (B : Nat) : New B (.slice none 0 0) := fun b o s n c e => by cases e
theorem New.own {w : World} {base : Nat} {e : TypeId} {size : Nat} {v : Value} {n : Nat} {xs : List Value} (h : w.ownsRow base e size v n xs) : New base v := by
  intro b o s n' c ev
  rcases h.2 with ⟨hv, _⟩ | ⟨g, cap, cur, hv, hb, _⟩
  · rw [hv] at ev; cases ev
  · rw [hv] at ev; injection ev with h1 h2 h3; injection h1 with h1; injection h1 with h1; subst h1; exact .inr hb
theorem SlR.far {α : Type} {C bytes : Nat} {R : Rd α} {enc : α → List Value} (he : Enc C R enc) {w : World} {v : Value} {l : List α} (h : SlR C bytes R w v l) {p : Addr} (hv : Av p.block v) (u : Value) : SlR C bytes R (w.setCell p u) v l := by
  obtain ⟨A, cap, e, hb, hc, h⟩ := h
  refine ⟨A, cap, e, hb, hc, ?_⟩
  rcases h with h | ⟨b, o, hA, h⟩
  · exact .inl h
  · by_cases h0 : l = []
    · exact .inl h0
    · right
      subst hA
      have hne : b ≠ p.block := by
        rcases hv b o none _ _ e with h | h
        · exact absurd (List.eq_nil_of_length_eq_zero h) h0
        · exact h
      refine ⟨b, o, rfl, fun i hi => ?_⟩
      obtain ⟨cs, hl, hcell, hr⟩ := h i hi
      exact ⟨cs, hl, fun j hj => (World.cell?_setCell_other w p _ u (fun e => hne (by rw [e]))).trans (hcell j hj), he.w _ _ _ _ hr⟩
/-- A device whose rows do not lie in block g. -/
def RDevG (g : Nat) (w : World) (cs : List Value) (d : Dev) : Prop := ∃ A1 c1 A2 c2, cs = [.slice A1 d.sec.length c1, .slice A2 d.lost.length c2] ∧ RDev w cs d ∧ Av g (.slice A1 d.sec.length c1) ∧ Av g (.slice A2 d.lost.length c2)
theorem RDevG.dev {g : Nat} {w : World} {cs : List Value} {d : Dev} (h : RDevG g w cs d) : RDev w cs d := by
  obtain ⟨_, _, _, _, _, h, _⟩ := h
  exact h
theorem RDevG.ext {g : Nat} {w w' : World} {cs : List Value} {d : Dev} (h : RDevG g w cs d) (k : Ext w w') : RDevG g w' cs d := by
  obtain ⟨A1, c1, A2, c2, e, h, r⟩ := h
  exact ⟨A1, c1, A2, c2, e, h.up k, r⟩
theorem RDevG.far {w : World} {cs : List Value} {d : Dev} {p : Addr} (h : RDevG p.block w cs d) (u : Value) : RDevG p.block (w.setCell p u) cs d := by
  obtain ⟨A1, c1, A2, c2, e, h, r1, r2⟩ := h
  refine ⟨A1, c1, A2, c2, e, ?_, r1, r2⟩
  obtain ⟨v1, v2, e', h1, h2⟩ := h
  rw [e] at e'
  simp only [List.cons.injEq, and_true] at e'
  obtain ⟨rfl, rfl⟩ := e'
  exact ⟨_, _, e, h1.far encStr_ok r1 u, h2.far encBool_ok r2 u⟩
theorem SlR.avoids {α : Type} {C bytes : Nat} {R : Rd α} {w : World} {v : Value} {l : List α} (h : SlR C bytes R w v l) (hC : 0 < C) {g : Nat} (hg : w.heap.size ≤ g) : Av g v := by
  obtain ⟨A, cap, e, hb, hc, h⟩ := h
  intro b o s n c ev
  rw [e] at ev
  injection ev with h1 h2 h3
  rcases h with h | ⟨b', o', hA, h⟩
  · left; rw [← h2, h]; rfl
  · rw [hA] at h1
    injection h1 with h1
    injection h1 with h1 h1' h1''
    subst h1
    by_cases h0 : l.length = 0
    · left; omega
    · right
      obtain ⟨cs, hl, hcell, _⟩ := h 0 (by omega)
      have h2 := hcell 0 hC
      rw [List.getElem?_eq_getElem (by omega)] at h2
      have := World.block_lt_of_cell? w _ h2
      simp at this
      omega
theorem RDev.old {w : World} {cs : List Value} {d : Dev} (h : RDev w cs d) {g : Nat} (hg : w.heap.size ≤ g) : RDevG g w cs d := by
  obtain ⟨A1, c1, A2, c2, e⟩ := h.form
  have h' := h
  obtain ⟨v1, v2, e', h1, h2⟩ := h'
  rw [e] at e'
  simp only [List.cons.injEq, and_true] at e'
  obtain ⟨rfl, rfl⟩ := e'
  exact ⟨A1, c1, A2, c2, e, h, h1.avoids (by decide) hg, h2.avoids (by decide) hg⟩
theorem RDev.newG {w : World} {A1 A2 : Option Addr} {n1 c1 n2 c2 : Nat} {d : Dev} (h : RDev w [.slice A1 n1 c1, .slice A2 n2 c2] d) {B g : Nat} (k1 : New B (.slice A1 n1 c1)) (k2 : New B (.slice A2 n2 c2)) (hg : g < B) : RDevG g w [.slice A1 n1 c1, .slice A2 n2 c2] d := by
  obtain ⟨A1', c1', A2', c2', e⟩ := h.form
  have e' := e
  simp only [List.cons.injEq, and_true, Value.slice.injEq] at e'
  obtain ⟨⟨rfl, rfl, rfl⟩, rfl, rfl, rfl⟩ := e'
  exact ⟨_, _, _, _, e, h, k1.av hg, k2.av hg⟩

def pair (p : Value × Value) : List Value := [p.1, p.2]
theorem pair_len (p : Value × Value) : (pair p).length = 2 := rfl
/-- A row of the call's own that holds devices. -/
def OArr (E : TypeId) (w : World) (base : Nat) (v : Value) (a : List Dev) : Prop :=
  ∃ vs : List (Value × Value), vs.length = a.length ∧ w.ownsRow base E 2 v a.length (vs.flatMap pair) ∧
    (∀ g, v.ownBlock = some g → ∀ (i : Nat) (hi : i < a.length) (p : Value × Value), vs[i]? = some p → RDevG g w (pair p) a[i]) ∧
    ∀ (i : Nat) (p : Value × Value), vs[i]? = some p → New base p.1 ∧ New base p.2
theorem RDevG.away {g : Nat} {w : World} {x1 x2 : Value} {d : Dev} {p : Addr} {B : Nat} (h : RDevG g w [x1, x2] d) (h1 : New B x1) (h2 : New B x2) (hp : p.block < B) (u : Value) : RDevG g (w.setCell p u) [x1, x2] d := by
  obtain ⟨A1, c1, A2, c2, e, h, r1, r2⟩ := h
  refine ⟨A1, c1, A2, c2, e, ?_, r1, r2⟩
  obtain ⟨v1, v2, e', k1, k2⟩ := h
  simp only [List.cons.injEq, and_true] at e'
  obtain ⟨rfl, rfl⟩ := e'
  exact ⟨_, _, rfl, k1.far encStr_ok (h1.av hp) u, k2.far encBool_ok (h2.av hp) u⟩
theorem OArr.far {E : TypeId} {w : World} {base : Nat} {v : Value} {a : List Dev} (h : OArr E w base v a) {p : Addr} (hp : p.block < base) (u : Value) : OArr E (w.setCell p u) base v a := by
  obtain ⟨vs, hl, ho, hr, hn⟩ := h
  exact ⟨vs, hl, ownsRow_setCell_below ho hp u, fun g hg i hi q hq => (hr g hg i hi q hq).away (hn i q hq).1 (hn i q hq).2 hp u, hn⟩
theorem OArr.base {E : TypeId} {w : World} {base base' : Nat} {v : Value} {a : List Dev} (h : OArr E w base v a) (hb : base' ≤ base) : OArr E w base' v a := by
  obtain ⟨vs, hl, ho, hr, hn⟩ := h
  exact ⟨vs, hl, own_base ho hb, hr, fun i p hp => ⟨(hn i p hp).1.mono hb, (hn i p hp).2.mono hb⟩⟩
theorem OArr.ext {E : TypeId} {w w' : World} {base : Nat} {v : Value} {a : List Dev} (h : OArr E w base v a) (k : Ext w w') : OArr E w' base v a := by
  obtain ⟨vs, hl, ho, hr, hn⟩ := h
  exact ⟨vs, hl, own_ext ho k, fun g hg i hi p hp => (hr g hg i hi p hp).ext k, hn⟩
theorem OArr.nil (E : TypeId) (w : World) (base : Nat) : OArr E w base (.slice none 0 0) [] := ⟨[], rfl, World.ownsRow_nil _ _ _ _, (fun g hg => by cases hg), fun i p hp => by simp at hp⟩
theorem OArr.rarr {E : TypeId} {w : World} {base : Nat} {v : Value} {a : List Dev} (h : OArr E w base v a) (hb : a.length * 48 ≤ 140737488355328) : RArr w [v] a := by
  obtain ⟨vs, hl, ho, hr, _⟩ := h
  refine ⟨v, rfl, ?_⟩
  obtain ⟨hlen, h⟩ := ho
  rcases h with ⟨hv, hn⟩ | ⟨g, cap, cur, hv, _, hg, hnc, _, hcs, htake⟩
  · have : a = [] := List.eq_nil_of_length_eq_zero hn
    subst this
    exact ⟨none, 0, by rw [hv]; rfl, by simp, by simp, .inl rfl⟩
  · refine ⟨some ⟨g, 0, none⟩, cap, hv, hb, hnc, ?_⟩
    by_cases h0 : a = []
    · exact .inl h0
    · refine .inr ⟨g, 0, rfl, fun i hi => ?_⟩
      have hi' : i < vs.length := by omega
      refine ⟨pair vs[i], rfl, fun j hj => ?_, (hr g (by rw [hv]; rfl) i hi _ (List.getElem?_eq_getElem hi')).dev⟩
      rw [← flatMap_at pair_len vs i j hi' hj, Nat.zero_add, cell_of_row w g (i * 2 + j) cur E (0, 0) hg, ← htake, List.getElem?_take, if_pos]
      · simp
      · omega
theorem SlR.grown {α : Type} {C bytes : Nat} {R : Rd α} {enc : α → List Value} (he : Enc C R enc) {w w' : World} {v : Value} {l : List α} {row : Option Nat} (h : SlR C bytes R w v l) (hg : w.grownBy w' row) (hv : ∀ g, row = some g → Av g v) : SlR C bytes R w' v l := by
  obtain ⟨A, cap, e, hb, hc, h⟩ := h
  refine ⟨A, cap, e, hb, hc, ?_⟩
  rcases h with h | ⟨b, o, hA, h⟩
  · exact .inl h
  · by_cases h0 : l = []
    · exact .inl h0
    · right
      subst hA
      refine ⟨b, o, rfl, fun i hi => ?_⟩
      obtain ⟨cs, hl, hcell, hr⟩ := h i hi
      refine ⟨cs, hl, fun j hj => ?_, he.w _ _ _ _ hr⟩
      have hs : cs[j]? = some (cs[j]'(by omega)) := List.getElem?_eq_getElem (by omega)
      rw [hs]
      refine hg.cell ((hcell j hj).trans hs) (fun e' => ?_)
      rcases hv b e'.symm b o none _ _ e with h | h
      · exact absurd (List.eq_nil_of_length_eq_zero h) h0
      · exact h rfl
theorem RDev.grown {w w' : World} {cs : List Value} {d : Dev} {row : Option Nat} (h : RDev w cs d) (hg : w.grownBy w' row) (hv : ∀ g, row = some g → RDevG g w cs d) : RDev w' cs d := by
  obtain ⟨v1, v2, e, h1, h2⟩ := h
  refine ⟨v1, v2, e, h1.grown encStr_ok hg (fun g hr => ?_), h2.grown encBool_ok hg (fun g hr => ?_)⟩
  · obtain ⟨A1, c1, A2, c2, e', _, r1, r2⟩ := hv g hr
    rw [e] at e'
    simp only [List.cons.injEq, and_true] at e'
    rw [e'.1]; exact r1
  · obtain ⟨A1, c1, A2, c2, e', _, r1, r2⟩ := hv g hr
    rw [e] at e'
    simp only [List.cons.injEq, and_true] at e'
    rw [e'.2]; exact r2
/-- One more device behind the row. -/
theorem OArr.push {E : TypeId} {w w' : World} {base : Nat} {v v' : Value} {a : List Dev} {x1 x2 : Value} {d : Dev} (h : OArr E w base v a)
    (ho : ∀ xs, w.ownsRow base E 2 v a.length xs → w'.ownsRow base E 2 v' (a.length + 1) (xs ++ [x1, x2])) (hg : w.grownBy w' v.ownBlock) (hb : v'.ownBlock = v.ownBlock ∨ v'.ownBlock = some w.heap.size)
    (hd : RDev w [x1, x2] d) (hd' : ∀ g, v.ownBlock = some g → RDevG g w [x1, x2] d) (n1 : New base x1) (n2 : New base x2) : OArr E w' base v' (a ++ [d]) := by
  obtain ⟨vs, hl, hown, hr, hn⟩ := h
  refine ⟨vs ++ [(x1, x2)], by simp [hl], ?_, ?_, fun i p hp => ?_⟩
  rotate_left 2
  · by_cases hlt : i < vs.length
    · rw [List.getElem?_append_left hlt] at hp
      exact hn i p hp
    · rw [List.getElem?_append_right (by omega)] at hp
      have : i - vs.length = 0 := by
        have := (List.getElem?_eq_some_iff.1 hp).1
        simp at this; omega
      rw [this] at hp
      simp only [List.getElem?_cons_zero, Option.some.injEq] at hp
      subst hp
      exact ⟨n1, n2⟩
  · have := ho _ hown
    simp only [List.length_append, List.length_cons, List.length_nil, Nat.zero_add, List.flatMap_append, List.flatMap_cons, List.flatMap_nil, List.append_nil, pair]
    exact this
  · intro g hv i hi p hp
    have key : ∀ cs (d0 : Dev), RDev w cs d0 → (∀ g0, v.ownBlock = some g0 → RDevG g0 w cs d0) → RDevG g w' cs d0 := by
      intro cs d0 h1 h2
      have h3 : RDev w' cs d0 := h1.grown hg h2
      obtain ⟨A1, c1, A2, c2, e⟩ := h3.form
      have hav : RDevG g w cs d0 := by
        rcases hb with hb | hb
        · exact h2 g (by rw [← hb]; exact hv)
        · rw [hb] at hv; injection hv with hv; subst hv; exact h1.old (Nat.le_refl _)
      obtain ⟨B1, k1, B2, k2, e', _, r1, r2⟩ := hav
      exact ⟨B1, k1, B2, k2, e', h3, r1, r2⟩
    by_cases hlt : i < a.length
    · rw [List.getElem?_append_left (by omega)] at hp
      rw [List.getElem_append_left hlt]
      have h1 := fun g0 h0 => hr g0 h0 i hlt p hp
      refine key _ _ ?_ h1
      have hne : ∃ g0, v.ownBlock = some g0 := by
        rcases hown.2 with ⟨_, hn⟩ | ⟨g0, _, _, hv0, _⟩
        · omega
        · exact ⟨g0, by rw [hv0]; rfl⟩
      obtain ⟨g0, hg0⟩ := hne
      exact (h1 g0 hg0).dev
    · have hie : i = a.length := by simp at hi; omega
      subst hie
      rw [List.getElem?_append_right (by omega), hl, Nat.sub_self] at hp
      simp only [List.getElem?_cons_zero, Option.some.injEq] at hp
      subst hp
      rw [List.getElem_append_right (by omega)]
      simp only [Nat.sub_self, List.getElem_cons_zero]
      exact key _ _ hd hd'
theorem OArr.pushes {E : TypeId} {w : World} {base : Nat} {v : Value} {a : List Dev} (h : OArr E w base v a) :
    ∃ xs, w.ownsRow base E 2 v a.length xs ∧ ∀ (w' : World) (v' x1 x2 : Value) (d : Dev), w'.ownsRow base E 2 v' (a.length + 1) (xs ++ [x1, x2]) → w.grownBy w' v.ownBlock → (v'.ownBlock = v.ownBlock ∨ v'.ownBlock = some w.heap.size) →
      RDev w [x1, x2] d → (∀ g, v.ownBlock = some g → RDevG g w [x1, x2] d) → New base x1 → New base x2 → OArr E w' base v' (a ++ [d]) := by
  have h' := h
  obtain ⟨vs, hl, hown, hr, _⟩ := h'
  refine ⟨_, hown, fun w' v' x1 x2 d ho hg hb hd hd' n1 n2 => h.push (fun xs hxs => ?_) hg hb hd hd' n1 n2⟩
  have e : xs = vs.flatMap pair := by
    obtain ⟨l1, h1⟩ := hxs
    obtain ⟨l2, h2⟩ := hown
    rcases h1 with ⟨_, hn⟩ | ⟨g, cap, cur, hv, _, hg, _, _, _, ht⟩
    · rw [hn] at l1 l2
      have q1 : xs = [] := List.eq_nil_of_length_eq_zero (by rw [l1, Nat.zero_mul])
      have q2 : vs.flatMap pair = [] := List.eq_nil_of_length_eq_zero (by rw [l2, Nat.zero_mul])
      rw [q1, q2]
    · rcases h2 with ⟨hv2, _⟩ | ⟨g2, cap2, cur2, hv2, _, hg2, _, _, _, ht2⟩
      · rw [hv] at hv2; cases hv2
      · rw [hv] at hv2
        injection hv2 with e1 e2 e3
        injection e1 with e1
        injection e1 with e1
        subst e1
        rw [hg] at hg2
        injection hg2 with hg2
        injection hg2 with hg2
        subst hg2
        rw [← ht, ← ht2]
  rw [e]; exact ho
theorem Blk_.grown {w w' : World} {g : Nat} {t : TypeId} {cs : Array Value} {row : Option Nat} (h : Blk_ w g t cs) (hg : w.grownBy w' row) (hr : ∀ k, row = some k → k ≠ g) : Blk_ w' g t cs :=
  (hg.block g h.lt (fun e => hr g e.symm rfl)).trans h

section
variable {P : Program} (w : World)
theorem wp_append_at {o : Oper} {a : Act} {K : Act → World → Prop} {Q : Exit → Act → World → Prop} (s x : Operand) (t : TypeId)
    (ho : o.op = .call { callee := .builtin .append, args := #[s, x], argTypes := #[t, t] })
    (base : Nat) (e : TypeId) (i : TypeInfo) (z : Value) (size bytes : Nat) (ht : P.underlying t = some (.slice e)) (hi : P.info? e = some i) (hz : i.zero = some z)
    (hsize : i.size = size) (hby : i.bytes = bytes) (hzs : z.cells.size = size) (hsz : 0 < size)
    (v : Value) (n : Nat) (xs : List Value) (hs : a.eval s = v) (hown : w.ownsRow base e size v n xs)
    (ad : Addr) (m c : Nat) (news : List Value) (hx : a.eval x = .slice (some ad) m c) (hl : news.length = m * size) (hnews : ∀ (j : Nat) (u : Value), news[j]? = some u → w.cell? (ad.add j) = some u) (h1 : ∀ u ∈ news, u.oneCell' = true)
    (h63 : n + m ≤ maxLen) (hbytes : (n + m) * bytes ≤ 140737488355328) (hbase : base ≤ w.heap.size)
    (h : ∀ A' c' w', w'.ownsRow base e size (.slice A' (n + m) c') (n + m) (xs ++ news) → w.grownBy w' v.ownBlock → ((Value.slice A' (n + m) c').ownBlock = v.ownBlock ∨ (Value.slice A' (n + m) c').ownBlock = some w.heap.size) → K (a.put o.dst (.slice A' (n + m) c')) w') : o.wp P a w K Q := by
  obtain ⟨v', w', hrun, h2, h3, _, h5⟩ := run_append_own_at (P := P) w base t o.type e i z size bytes ht hi hz hsize hby hzs hsz v n xs hown ad m c news hl hnews h1 h63 hbytes hbase
  obtain ⟨A', c', hv⟩ := own_slice h2
  subst hv
  unfold Oper.wp execOp
  simp only [ho, resolve, invoke, builtin, Sem.run_bind, Sem.run_pure, Result.andThen_ok, List.map_toArray, List.map_cons, List.map_nil, hs, hx, hrun]
  exact h A' c' w' h2 h3 h5
theorem step_append_at {ops : Array Oper} {o : Oper} {a : Act} {K : Act → World → Prop} {Q : Exit → Act → World → Prop} {E : Prop} (hgd : o.guard = none) (s x : Operand) (t : TypeId)
    (ho : o.op = .call { callee := .builtin .append, args := #[s, x], argTypes := #[t, t] })
    (base : Nat) (e : TypeId) (i : TypeInfo) (z : Value) (size bytes : Nat) (ht : P.underlying t = some (.slice e)) (hi : P.info? e = some i) (hz : i.zero = some z)
    (hsize : i.size = size) (hby : i.bytes = bytes) (hzs : z.cells.size = size) (hsz : 0 < size)
    (v : Value) (n : Nat) (xs : List Value) (hs : a.eval s = v) (hown : w.ownsRow base e size v n xs)
    (ad : Addr) (m c : Nat) (news : List Value) (hx : a.eval x = .slice (some ad) m c) (hl : news.length = m * size) (hnews : ∀ (j : Nat) (u : Value), news[j]? = some u → w.cell? (ad.add j) = some u) (h1 : ∀ u ∈ news, u.oneCell' = true)
    (h63 : n + m ≤ maxLen) (hbytes : (n + m) * bytes ≤ 140737488355328) (hbase : base ≤ w.heap.size)
    (h : ∀ A' c' w', w'.ownsRow base e size (.slice A' (n + m) c') (n + m) (xs ++ news) → w.grownBy w' v.ownBlock → ((Value.slice A' (n + m) c').ownBlock = v.ownBlock ∨ (Value.slice A' (n + m) c').ownBlock = some w.heap.size) → K (a.put o.dst (.slice A' (n + m) c')) w') :
    if Region.wanted o (yielded ops a.tmps) = true then Oper.wp P o a w K Q else E := by
  have hw : Region.wanted o (yielded ops a.tmps) = true := by simp [Region.wanted, hgd]
  rw [if_pos hw]
  exact wp_append_at w s x t ho base e i z size bytes ht hi hz hsize hby hzs hsz v n xs hs hown ad m c news hx hl hnews h1 h63 hbytes hbase h
theorem wpList_append_at {ops : Array Oper} {rest : List Oper} {o : Oper} {a : Act} {Q : Exit → Act → World → Prop} (hgd : o.guard = none) (s x : Operand) (t : TypeId)
    (ho : o.op = .call { callee := .builtin .append, args := #[s, x], argTypes := #[t, t] })
    (base : Nat) (e : TypeId) (i : TypeInfo) (z : Value) (size bytes : Nat) (ht : P.underlying t = some (.slice e)) (hi : P.info? e = some i) (hz : i.zero = some z)
    (hsize : i.size = size) (hby : i.bytes = bytes) (hzs : z.cells.size = size) (hsz : 0 < size)
    (v : Value) (n : Nat) (xs : List Value) (hs : a.eval s = v) (hown : w.ownsRow base e size v n xs)
    (ad : Addr) (m c : Nat) (news : List Value) (hx : a.eval x = .slice (some ad) m c) (hl : news.length = m * size) (hnews : ∀ (j : Nat) (u : Value), news[j]? = some u → w.cell? (ad.add j) = some u) (h1 : ∀ u ∈ news, u.oneCell' = true)
    (h63 : n + m ≤ maxLen) (hbytes : (n + m) * bytes ≤ 140737488355328) (hbase : base ≤ w.heap.size)
    (h : ∀ A' c' w', w'.ownsRow base e size (.slice A' (n + m) c') (n + m) (xs ++ news) → w.grownBy w' v.ownBlock → ((Value.slice A' (n + m) c').ownBlock = v.ownBlock ∨ (Value.slice A' (n + m) c').ownBlock = some w.heap.size) → wpList P ops Q rest (a.put o.dst (.slice A' (n + m) c')) w') : wpList P ops Q (o :: rest) a w :=
  wpList_plain hgd fun _ hK => wp_append_at w s x t ho base e i z size bytes ht hi hz hsize hby hzs hsz v n xs hs hown ad m c news hx hl hnews h1 h63 hbytes hbase fun A' c' w' h2 h3 h4 => hK _ _ (h A' c' w' h2 h3 h4)
end

/-- A device stored over the i-th one of the row. -/
theorem OArr.set {E : TypeId} {w : World} {base g : Nat} {n c : Nat} {a : List Dev} (h : OArr E w base (.slice (some ⟨g, 0, none⟩) n c) a) {i : Nat} (hi : i < a.length) {x1 x2 : Value} {d : Dev} (hd : RDevG g w [x1, x2] d) (n1 : New base x1) (n2 : New base x2) :
    OArr E ((w.setCell ⟨g, i * 2, none⟩ x1).setCell ⟨g, i * 2 + 1, none⟩ x2) base (.slice (some ⟨g, 0, none⟩) n c) (a.set i d) := by
  obtain ⟨vs, hl, ⟨hlen, ho⟩, hr, hn⟩ := h
  refine ⟨vs.set i (x1, x2), by simp [hl], ⟨?_, ?_⟩, ?_, fun k p hp => ?_⟩
  rotate_left 3
  · rw [List.getElem?_set] at hp
    split at hp
    · split at hp
      · injection hp with hp; subst hp; exact ⟨n1, n2⟩
      · cases hp
    · exact hn k p hp
  · rw [length_flatMap pair_len]; simp [hl]
  · rcases ho with ⟨hv, _⟩ | ⟨g', cap, cur, hv, hb, hg, hnc, hm, hcs, htake⟩
    · cases hv
    · right
      injection hv with h1 h2 h3
      injection h1 with h1
      injection h1 with h1
      subst h1
      have hB : Blk_ w g E cur := hg
      have hB2 := (hB.set (i * 2) x1).set (i * 2 + 1) x2
      refine ⟨g, cap, (cur.setIfInBounds (i * 2) x1).setIfInBounds (i * 2 + 1) x2, by rw [h2, h3]; simp, hb, hB2, by simpa using hnc, hm, by simp [hcs], ?_⟩
      have hsz : a.length * 2 ≤ cur.size := by rw [hcs]; exact Nat.mul_le_mul_right _ hnc
      apply List.ext_getElem?
      intro j
      rw [List.length_set, List.getElem?_take]
      by_cases hj : j < a.length * 2
      · rw [if_pos hj]
        have hq : j / 2 < vs.length := by omega
        have hmod : j % 2 < 2 := Nat.mod_lt _ (by decide)
        have hj2 : j / 2 * 2 + j % 2 = j := by omega
        have e1 := flatMap_at pair_len (vs.set i (x1, x2)) (j / 2) (j % 2) (by simpa using hq) hmod
        have e2 := flatMap_at pair_len vs (j / 2) (j % 2) hq hmod
        rw [hj2] at e1 e2
        rw [e1]
        have e3 : cur.toList[j]? = (pair vs[j / 2])[j % 2]? := by
          rw [← e2, ← htake, List.getElem?_take, if_pos hj]
        simp only [Array.toList_setIfInBounds, List.getElem?_set, List.length_set, Array.length_toList]
        rw [List.getElem_set]
        by_cases h1 : i * 2 + 1 = j
        · rw [if_pos h1, if_pos (by omega), if_pos (by omega), show j % 2 = 1 by omega]; rfl
        · rw [if_neg h1]
          by_cases h2 : i * 2 = j
          · rw [if_pos h2, if_pos (by omega), if_pos (by omega), show j % 2 = 0 by omega]; rfl
          · rw [if_neg h2, if_neg (by omega), e3]
      · rw [if_neg hj, List.getElem?_eq_none]
        rw [length_flatMap pair_len]; simp; omega
  · intro g' hg' k hk p hp
    have hgg : g' = g := by simp [Value.ownBlock] at hg'; exact hg'.symm
    subst hgg
    rw [List.getElem?_set] at hp
    have key : ∀ cs d0, RDevG g' w cs d0 → RDevG g' ((w.setCell ⟨g', i * 2, none⟩ x1).setCell ⟨g', i * 2 + 1, none⟩ x2) cs d0 := fun cs d0 h0 => (h0.far (p := ⟨g', i * 2, none⟩) x1).far (p := ⟨g', i * 2 + 1, none⟩) x2
    by_cases hki : i = k
    · subst hki
      rw [if_pos rfl] at hp
      split at hp
      · injection hp with hp; subst hp
        rw [List.getElem_set_self]
        exact key _ _ hd
      · cases hp
    · rw [if_neg hki] at hp
      rw [List.getElem_set_ne hki]
      exact key _ _ (hr g' (by simp [Value.ownBlock]) k (by simpa using hk) p hp)
end Go.Proofs.Ytokpjgpdkmimgaa
