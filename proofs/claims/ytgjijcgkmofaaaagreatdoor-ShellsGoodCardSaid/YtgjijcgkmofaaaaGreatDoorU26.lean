/-
  Scripts of adds, hurts, scrubs and gets over an archive, in plain Lean: what they need, and what stays. Conditions: as they say.
-/
import Derived.Test.YtgjijcgkmofaaaaGreatDoorU25
namespace Go.Proofs.YtgjijcgkmofaaaaGreatDoor
set_option linter.unusedSimpArgs false
set_option linter.unusedVariables false
set_option maxRecDepth 100000
set_option maxHeartbeats 8000000
open Go.RowKit
def FineAll (m : Nat) : Sh → List ActD → Prop
 | _, [] => True
 | s, x :: l => ActFine m s x ∧ FineAll m (actS m s x).1 l
theorem FineAll.app {m : Nat} : ∀ {l l' : List ActD} {s : Sh}, FineAll m s l → FineAll m (runS m l s).2 l' → FineAll m s (l ++ l')
 | [], _, _, _, h => h
 | _ :: _, _, _, h, h' => ⟨h.1, FineAll.app h.2 h'⟩
theorem FineAll.at_ {m : Nat} : ∀ {l : List ActD} {s : Sh}, FineAll m s l → ∀ k (hk : k < l.length), ActFine m (runS m (l.take k) s).2 l[k]
 | [], _, _, k, hk => absurd hk (Nat.not_lt_zero _)
 | x :: l, s, h, 0, _ => h.1
 | x :: l, s, h, k + 1, hk => FineAll.at_ h.2 k (by simpa using hk)
structure TI (m : Nat) (s : Sh) (T : Nat → Nat → Prop) (G : List Fil) (n : Nat) : Prop where
 inv : AInv s.a m s.all T
 told : ∃ c D, Told s.all m c D G n
 next : s.next < m
 rounds : s.rounds ≤ 1000
structure MOk (m : Nat) : Prop where
 h16 : 16 ≤ m
 h64 : m ≤ 64
 h2 : m % 2 = 0
theorem TI.ok {m : Nat} {s : Sh} {T : Nat → Nat → Prop} {G : List Fil} {n : Nat} (hm : MOk m) (h : TI m s T G n) : ShOk m s := ⟨h.inv.part hm.h64, h.next, h.rounds⟩
theorem sh0_facts {m : Nat} (hm : MOk m) : TI m (sh0 m) (fun _ _ => False) [] 0 ∧ (∀ k, Ones (sh0 m).a m k) ∧ (sh0 m).next = 0 ∧ (sh0 m).rounds = 0 := by
 have hf := full_new hm.h16 hm.h64 hm.h2
 have e : (sh0 m).a = [freshDev m 0, freshDev m 0, freshDev (m / 2) 512] := by unfold sh0; rw [new_arr hm.h16 hm.h64 hm.h2]
 have hf' : Full (sh0 m).a m (sh0 m).all := by rw [e]; exact hf
 exact ⟨⟨AInv.of_full hf', ⟨_, _, told_new m (by have := hm.h16; omega)⟩, by have := hm.h16; show 0 < m; omega, by show 0 ≤ 1000; omega⟩, fun k => hf'.ones hm.h64 k, rfl, rfl⟩
def okG : List Ans → List (List Fil) → List Fil
 | a :: x, L :: l => (if a.code = 0 then L else []) ++ okG x l
 | _, _ => []
theorem actS_add (m : Nat) (s : Sh) (L : List Fil) : actS m s (addAct L) = (if (addS s.a L).2 = 0 then { s with a := (addS s.a L).1, all := addG s.a s.all L } else s, ansE (addS s.a L).2) := by
 unfold actS addAct
 rw [if_pos rfl]
theorem TI.add {m k : Nat} {s : Sh} {T : Nat → Nat → Prop} {G : List Fil} {n : Nat} (hm : MOk m) (h : TI m s T G n) (ho : Ones s.a m k) {L : List Fil} (hL : FilesOk n L) (h1 : 1 ≤ L.length) (h3 : L.length ≤ 3) (hn : n + L.length ≤ 10) :
  ActFine m s (addAct L) ∧ TI m (actS m s (addAct L)).1 T (G ++ (if (actS m s (addAct L)).2.code = 0 then L else [])) (n + L.length) ∧ Ones (actS m s (addAct L)).1.a m k ∧ (actS m s (addAct L)).1.next = s.next ∧ (actS m s (addAct L)).1.rounds = s.rounds := by
 obtain ⟨c, D, ht⟩ := h.told
 have hp := h.inv.part hm.h64
 have hop := ht.arch.openS hp hm.h16 hm.h64 hm.h2 (fun i hi => ho.code hp hm.h16 hm.h64 hm.h2 (by have := hm.h16; omega))
 obtain ⟨u1, u2, u3⟩ := add_fresh (nb := c.blocks.length) L n 0 c.entries hL hn ht.below
 rw [actS_add]
 by_cases hc : (addS s.a L).2 = 0
 ·obtain ⟨p1, o1, t1⟩ := ht.add hp ho hm.h16 hm.h64 hm.h2 hL hn hc
  have i1 := h.inv.add ht.arch ho hm.h16 hm.h64 hm.h2 hc
  refine ⟨⟨h.ok hm, fun _ _ => by rw [hop]; exact ht.arch.ok, fun _ _ _ => by rw [hop]; exact u1, fun _ _ => p1.good.len, fun e => absurd e (by show ¬ (1 : Int) = 7; decide)⟩, ?_⟩
  dsimp only
  rw [if_pos hc, if_pos (show (ansE (addS s.a L).2).code = 0 from hc)]
  exact ⟨⟨i1, ⟨_, _, t1⟩, h.next, h.rounds⟩, o1, rfl, rfl⟩
 ·refine ⟨⟨h.ok hm, fun _ _ => by rw [hop]; exact ht.arch.ok, fun _ _ _ => by rw [hop]; exact u1, fun _ e => absurd e hc, fun e => absurd e (by show ¬ (1 : Int) = 7; decide)⟩, ?_⟩
  dsimp only
  rw [if_neg hc, if_neg (show ¬ (ansE (addS s.a L).2).code = 0 from hc), List.append_nil]
  exact ⟨⟨h.inv, ⟨_, _, ht.more (by omega)⟩, h.next, h.rounds⟩, ho, rfl, rfl⟩
theorem TI.adds {m k : Nat} (hm : MOk m) {T : Nat → Nat → Prop} : ∀ {Ls : List (List Fil)} {s : Sh} {G : List Fil} {n : Nat}, TI m s T G n → Ones s.a m k → GroupsOk n Ls → n + Ls.flatten.length ≤ 10 →
  FineAll m s (Ls.map addAct) ∧ TI m (runS m (Ls.map addAct) s).2 T (G ++ okG (runS m (Ls.map addAct) s).1 Ls) (n + Ls.flatten.length) ∧ Ones (runS m (Ls.map addAct) s).2.a m k ∧ (runS m (Ls.map addAct) s).2.next = s.next ∧ (runS m (Ls.map addAct) s).2.rounds = s.rounds
 | [], s, G, n, h, ho, _, _ => ⟨trivial, by show TI m s T (G ++ []) (n + 0); rw [List.append_nil]; exact h, ho, rfl, rfl⟩
 | L :: Ls, s, G, n, h, ho, hg, hn => by
  obtain ⟨g1, g2, g3, g4⟩ := hg
  rw [List.flatten_cons, List.length_append] at hn
  obtain ⟨a1, a2, a3, a4, a5⟩ := h.add hm ho g1 g2 (by omega) (by omega)
  obtain ⟨b1, b2, b3, b4, b5⟩ := TI.adds hm a2 a3 g4 (by omega)
  refine ⟨⟨a1, b1⟩, ?_, b3, b4.trans a4, b5.trans a5⟩
  rw [List.flatten_cons, List.length_append, ← Nat.add_assoc]
  rw [List.append_assoc] at b2
  exact b2
theorem Ones.set_ {a : List Dev} {m j : Nat} (ho : Ones a m j) (hj : j < a.length) (d : Dev) : Ones (a.set j d) m j := by
 intro i p hi hij hp
 have := ho i p hi hij hp
 unfold Cp at this ⊢
 rw [dv_set a hj, if_neg hij]
 exact this
theorem TI.hurt {m j : Nat} {s : Sh} {T : Nat → Nat → Prop} {G : List Fil} {n : Nat} (hm : MOk m) (h : TI m s T G n) (hj : j < 3) {x : HA} (hx : ActOk j (szOf m j) x) (hT : x.kind = 5 → ¬ T j x.n.toNat) :
  ActFine m s (hurtAct x) ∧ TI m (actS m s (hurtAct x)).1 (fun i p => T i p ∨ (x.kind = 5 ∧ i = j ∧ p = x.n.toNat)) G n ∧ (Ones s.a m j → Ones (actS m s (hurtAct x)).1.a m j) ∧ (actS m s (hurtAct x)).1.next = s.next ∧ (actS m s (hurtAct x)).1.rounds = s.rounds := by
 obtain ⟨kd, d, nn, at_, by_⟩ := x
 obtain ⟨h1, h2, h3, h4, h5, h6, h7, h8⟩ := hx
 dsimp only at h1 h2 h3 h4 h5 h6 h7 h8 hT
 obtain rfl := h1
 obtain ⟨q, rfl⟩ := Int.eq_ofNat_of_zero_le h3
 rw [Int.toNat_natCast] at hT
 have hq : q < szOf m d := by omega
 have hl3 := h.inv.good.len
 have hmay := h.inv.good.may hm.h16 hm.h2
 have ht := h.inv.good.touch_ hj hq
 have hin : inB (d : Int) 0 2 = true := by unfold inB; simp only [Bool.and_eq_true, decide_eq_true_eq]; omega
 have hmono : AInv s.a m s.all (fun i p => T i p ∨ (kd = 5 ∧ i = d ∧ p = q)) := h.inv.mono (fun _ _ e => .inl e)
 refine ⟨⟨h.ok hm, fun e => ?_, fun e => ?_, fun e => ?_, fun e => ?_⟩, ?_⟩
 ·have e : kd = 1 := e; omega
 ·have e : kd = 1 := e; omega
 ·have e : kd = 1 := e; omega
 ·have e : kd = 7 := e; omega
 unfold actS hurtAct
 dsimp only
 rw [Int.toNat_natCast, Int.toNat_natCast]
 rcases h2 with rfl | rfl | rfl
 ·rw [if_neg (by decide), if_neg (by decide), if_neg (by decide), if_pos rfl, if_pos hin]
  unfold hurtS
  rw [ht, if_pos rfl]
  exact ⟨⟨(hmono.lose hj hq), h.told, h.next, h.rounds⟩, fun ho => ho.set_ (by omega) _, rfl, rfl⟩
 ·rw [if_neg (by decide), if_neg (by decide), if_neg (by decide), if_neg (by decide), if_pos rfl, if_pos hin]
  unfold hurtS
  have e0 : (turnS (dv s.a d) (q : Int) at_ by_).2 = 0 := by rw [turnS_ok ht ⟨h5, h6⟩ ⟨h7, h8⟩]
  rw [e0, if_pos rfl, Int.toNat_natCast]
  exact ⟨⟨h.inv.turn hj hq ⟨h5, h6⟩ ⟨h7, h8⟩ (hT rfl) (.inr ⟨rfl, rfl, rfl⟩) (fun _ _ e => .inl e), h.told, h.next, h.rounds⟩, fun ho => ho.set_ (by omega) _, rfl, rfl⟩
 ·rw [if_neg (by decide), if_neg (by decide), if_neg (by decide), if_neg (by decide), if_neg (by decide), if_pos rfl]
  have e1 : replaceS s.a (d : Int) = (s.a.set d (lostDev (devAt m d)), 0) := by
   unfold replaceS
   rw [hmay, hin, h.inv.good.l0]
   simp [devAt]
  rw [e1, if_pos rfl]
  exact ⟨⟨hmono.replace hm.h16 hm.h64 hj, h.told, h.next, h.rounds⟩, fun ho => ho.set_ (by omega) _, rfl, rfl⟩
theorem TI.hurts {m j : Nat} (hm : MOk m) (hj : j < 3) {G : List Fil} {n : Nat} : ∀ {l : List HA} {s : Sh} {T : Nat → Nat → Prop}, TI m s T G n → (∀ x ∈ l, ActOk j (szOf m j) x) → (turned l).Nodup → (∀ x ∈ l, x.kind = 5 → ¬ T j x.n.toNat) →
  FineAll m s (l.map hurtAct) ∧ (∃ T', TI m (runS m (l.map hurtAct) s).2 T' G n ∧ ∀ i p, T' i p → T i p ∨ (i = j ∧ ((p : Nat) : Int) ∈ turned l)) ∧ (Ones s.a m j → Ones (runS m (l.map hurtAct) s).2.a m j) ∧ (runS m (l.map hurtAct) s).2.next = s.next ∧ (runS m (l.map hurtAct) s).2.rounds = s.rounds
 | [], s, T, h, _, _, _ => ⟨trivial, ⟨T, h, fun _ _ e => .inl e⟩, id, rfl, rfl⟩
 | x :: l, s, T, h, hl, hn, hT => by
  rw [turned_cons] at hn
  have hx := hl x List.mem_cons_self
  obtain ⟨a1, a2, a3, a4, a5⟩ := h.hurt hm hj hx (hT x List.mem_cons_self)
  have hn' : (turned l).Nodup := (List.nodup_append.1 hn).2.1
  obtain ⟨b1, ⟨T', b2, b3⟩, b4, b5, b6⟩ := TI.hurts hm hj (l := l) a2 (fun y hy => hl y (List.mem_cons_of_mem _ hy)) hn' (fun y hy hk => by
   rintro (e | ⟨e5, _, e⟩)
   ·exact hT y (List.mem_cons_of_mem _ hy) hk e
   ·rw [if_pos e5] at hn
    have hy' := hl y (List.mem_cons_of_mem _ hy)
    have e1 : y.n = x.n := by have := hx.2.2.1; have := hy'.2.2.1; omega
    exact (List.nodup_append.1 hn).2.2 x.n (List.mem_singleton.2 rfl) y.n (by unfold turned; exact List.mem_map.2 ⟨y, List.mem_filter.2 ⟨hy, by simpa using hk⟩, rfl⟩) e1.symm)
  refine ⟨⟨a1, b1⟩, ⟨T', b2, fun i p e => ?_⟩, fun ho => b4 (a3 ho), b5.trans a4, b6.trans a5⟩
  rw [turned_cons]
  rcases b3 i p e with (e | ⟨e5, e, e'⟩) | ⟨e, e'⟩
  ·exact .inl e
  ·refine .inr ⟨e, ?_⟩
   rw [if_pos e5, e']
   have := hx.2.2.1
   exact List.mem_append_left _ (List.mem_singleton.2 (by omega))
  ·exact .inr ⟨e, List.mem_append_right _ e'⟩
theorem top_base {m k : Nat} (hm : MOk m) (hk : k < 3) {Ls : List (List Fil)} {hs : List HA} (hg : GroupsOk 0 Ls) (hn : Ls.flatten.length ≤ 10) (hh : ∀ x ∈ hs, ActOk k (szOf m k) x) (hd : (turned hs).Nodup) :
  FineAll m (sh0 m) (Ls.map addAct) ∧ FineAll m (runS m (Ls.map addAct) (sh0 m)).2 (hs.map hurtAct) ∧
  ∃ T, TI m (runS m (hs.map hurtAct) (runS m (Ls.map addAct) (sh0 m)).2).2 T (okG (runS m (Ls.map addAct) (sh0 m)).1 Ls) (0 + Ls.flatten.length) ∧ (∀ i p, T i p → i = k) ∧
   Ones (runS m (hs.map hurtAct) (runS m (Ls.map addAct) (sh0 m)).2).2.a m k ∧ (runS m (hs.map hurtAct) (runS m (Ls.map addAct) (sh0 m)).2).2.next = 0 ∧ (runS m (hs.map hurtAct) (runS m (Ls.map addAct) (sh0 m)).2).2.rounds = 0 := by
 obtain ⟨a1, a2, a3, a4⟩ := sh0_facts hm
 obtain ⟨b1, b2, b3, b4, b5⟩ := TI.adds (k := k) hm a1 (a2 k) hg (by omega)
 obtain ⟨c1, ⟨T, c2, c3⟩, c4, c5, c6⟩ := b2.hurts hm hk hh hd (fun _ _ _ => id)
 refine ⟨b1, c1, T, c2, fun i p e => ?_, c4 b3, c5.trans (b4.trans a3), c6.trans (b5.trans a4)⟩
 rcases c3 i p e with e | e
 ·exact e.elim
 ·exact e.1
def badActs (q : Int) (m : Nat) : List ActD := [⟨q, [], .empty, 0, 0, 0, 0⟩, ⟨4, [], .empty, 3, 0, 0, 0⟩, ⟨5, [], .empty, 0, (m : Int), 0, 0⟩, ⟨7, [], .empty, 0, -1, 0, 0⟩, ⟨6, [], .empty, -1, 0, 0, 0⟩]
theorem bad_kind {m : Nat} (s : Sh) {q : Int} (hq : 9 ≤ q) : actS m s ⟨q, [], .empty, 0, 0, 0, 0⟩ = (s, ansE 3) := by
 unfold actS
 dsimp only
 rw [if_neg (by omega), if_neg (by omega), if_neg (by omega), if_neg (by omega), if_neg (by omega), if_neg (by omega), if_neg (by omega), if_neg (by omega)]
theorem bad_lose {m : Nat} (s : Sh) : actS m s ⟨4, [], .empty, 3, 0, 0, 0⟩ = (s, ansE 2) := by
 unfold actS
 dsimp only
 rw [if_neg (by decide), if_neg (by decide), if_neg (by decide), if_pos rfl, if_neg (by decide)]
theorem bad_turn {m : Nat} {s : Sh} (hm : MOk m) (h : ShOk m s) : actS m s ⟨5, [], .empty, 0, (m : Int), 0, 0⟩ = (s, ansE 6) := by
 have ht : touchCode (dv s.a 0) (m : Int) = 6 := by
  unfold touchCode
  rw [h.part.good.m0, h.part.good.l0, if_pos rfl, if_neg]
  intro e
  have := inB_true e
  omega
 unfold actS
 dsimp only
 rw [if_neg (by decide), if_neg (by decide), if_neg (by decide), if_neg (by decide), if_pos rfl, if_pos (by decide)]
 have e : turnS (dv s.a (0 : Int).toNat) (m : Int) 0 0 = (⟨[], []⟩, 6) := by
  show turnS (dv s.a 0) (m : Int) 0 0 = _
  unfold turnS
  rw [ht, if_neg (by decide)]
 rw [e]
 unfold hurtS
 rw [if_neg (by decide)]
theorem bad_scrub {m : Nat} (s : Sh) : actS m s ⟨7, [], .empty, 0, -1, 0, 0⟩ = (s, ansE 2) := by
 unfold actS
 dsimp only
 rw [if_neg (by decide), if_neg (by decide), if_neg (by decide), if_neg (by decide), if_neg (by decide), if_neg (by decide), if_pos rfl, if_neg (by decide)]
theorem bad_repl {m : Nat} {s : Sh} (hm : MOk m) (h : ShOk m s) : actS m s ⟨6, [], .empty, -1, 0, 0, 0⟩ = (s, ansE 2) := by
 have e : replaceS s.a (-1) = ([], 2) := by
  unfold replaceS
  rw [h.part.good.may hm.h16 hm.h2]
  rfl
 unfold actS
 dsimp only
 rw [if_neg (by decide), if_neg (by decide), if_neg (by decide), if_neg (by decide), if_neg (by decide), if_pos rfl, e, if_neg (by decide)]
theorem fine_no {m : Nat} {s : Sh} (h : ShOk m s) {x : ActD} (h1 : x.kind ≠ 1) (h7 : x.kind = 7 → (0 ≤ x.n ∧ x.n ≤ 64) ∨ x.n < 0) : ActFine m s x := ⟨h, fun e => absurd e h1, fun e => absurd e h1, fun e => absurd e h1, h7⟩
theorem run_bad {m : Nat} {s : Sh} (hm : MOk m) (h : ShOk m s) {q : Int} (hq : 9 ≤ q) : FineAll m s (badActs q m) ∧ runS m (badActs q m) s = ([ansE 3, ansE 2, ansE 6, ansE 2, ansE 2], s) := by
 have e1 := bad_kind (m := m) s hq
 have e2 := bad_lose (m := m) s
 have e3 := bad_turn hm h
 have e4 := bad_scrub (m := m) s
 have e5 := bad_repl hm h
 constructor
 ·refine ⟨fine_no h (show q ≠ 1 by omega) (fun e => absurd e (show q ≠ 7 by omega)), ?_⟩
  rw [e1]
  refine ⟨fine_no h (show (4 : Int) ≠ 1 by decide) (fun e => absurd e (show (4 : Int) ≠ 7 by decide)), ?_⟩
  rw [e2]
  refine ⟨fine_no h (show (5 : Int) ≠ 1 by decide) (fun e => absurd e (show (5 : Int) ≠ 7 by decide)), ?_⟩
  rw [e3]
  refine ⟨fine_no h (show (7 : Int) ≠ 1 by decide) (fun _ => .inr (show (-1 : Int) < 0 by decide)), ?_⟩
  rw [e4]
  exact ⟨fine_no h (show (6 : Int) ≠ 1 by decide) (fun e => absurd e (show (6 : Int) ≠ 7 by decide)), trivial⟩
 ·unfold badActs
  rw [runS_cons, e1, runS_cons, e2, runS_cons, e3, runS_cons, e4, runS_cons, e5, runS_nil]
theorem shells_good {m k : Nat} (hm : MOk m) (hk : k < 3) {q : Int} (hq : 9 ≤ q) {Ls : List (List Fil)} {hs : List HA} {acts : List ActD} (ha : acts = Ls.map addAct ++ hs.map hurtAct) (hg : GroupsOk 0 Ls) (hn : Ls.flatten.length ≤ 10) (hh : ∀ x ∈ hs, ActOk k (szOf m k) x) (hd : (turned hs).Nodup) :
  FineAll m (sh0 m) acts ∧ FineAll m (sh0 m) (acts ++ badActs q m) ∧ arrCode (runS m acts (sh0 m)).2.a = 0 ∧ (runS m (acts ++ badActs q m) (sh0 m)).1 = (runS m acts (sh0 m)).1 ++ [ansE 3, ansE 2, ansE 6, ansE 2, ansE 2] ∧ (runS m (acts ++ badActs q m) (sh0 m)).2 = (runS m acts (sh0 m)).2 ∧ (runS m acts (sh0 m)).2.a.length = 3 := by
 obtain ⟨a1, a2, T, a3, _⟩ := top_base hm hk hg hn hh hd
 have f1 : FineAll m (sh0 m) acts := by rw [ha]; exact a1.app a2
 have e : (runS m acts (sh0 m)).2 = (runS m (hs.map hurtAct) (runS m (Ls.map addAct) (sh0 m)).2).2 := by rw [ha, runS_append]
 rw [← e] at a3
 obtain ⟨b1, b2⟩ := run_bad hm (a3.ok hm) hq
 refine ⟨f1, f1.app b1, arrCode_true (a3.inv.good.may hm.h16 hm.h2), ?_, ?_, a3.inv.good.len⟩
 ·rw [runS_append, b2]
 ·rw [runS_append, b2]
theorem GroupsOk.len : ∀ {Ls : List (List Fil)} {n : Nat}, GroupsOk n Ls → Ls.length ≤ Ls.flatten.length
 | [], _, _ => Nat.le_refl _
 | L :: Ls, n, h => by
  have := GroupsOk.len h.2.2.2
  have := h.2.1
  rw [List.flatten_cons, List.length_append, List.length_cons]
  omega
theorem AddsW.la {w W : World} {va vf : Value} {La : List ActV} {Ls : List (List Fil)} (h : AddsW w W va vf La Ls) : La.length ≤ Ls.flatten.length := by
 have := congrArg List.length h.e
 rw [List.length_map, List.length_map] at this
 rw [this]
 exact h.g.len
theorem AddsW.acts {w W : World} {A : Option Addr} {c : Nat} {vf : Value} {La : List ActV} {Ls : List (List Fil)} (h : AddsW w W (.slice A La.length c) vf La Ls) (hl : La.length ≤ 1000) : ActsR W (.slice A La.length c) La := by
 refine ⟨SlR.of_own encActV_ok h.a (by omega) (fun y hy => ?_), fun y hy => (h.y y hy).1⟩
 have hm : y.a ∈ Ls.map addAct := by rw [← h.e]; exact List.mem_map_of_mem hy
 obtain ⟨L, _, e⟩ := List.mem_map.1 hm
 refine ⟨rfl, ?_⟩
 rw [← e]
 unfold I64 addAct
 refine ⟨?_, ?_, ?_, ?_, ?_, ?_⟩ <;> dsimp only <;> first | omega | decide
theorem picked_nat (d : Int) : ∃ k : Nat, pick d 3 = (k : Int) ∧ k < 3 := by
 obtain ⟨h0, h1⟩ := pick_range d 3 (by decide)
 exact ⟨(pick d 3).toNat, by omega, by omega⟩
def hurtV (x : HA) : ActV := ⟨hurtAct x, none, 0⟩
theorem map_hurtV (L : List HA) : (L.map hurtV).map (·.a) = L.map hurtAct := by rw [List.map_map]; rfl
theorem hurts_read2 {W : World} {base : Nat} {A : Option Addr} {c : Nat} {L : List HA} (h : W.ownsRow base 39 7 (.slice A L.length c) L.length (L.flatMap encHA)) (ho : ∀ x ∈ L, ∃ k sz, k < 3 ∧ sz ≤ 64 ∧ ActOk k sz x) (hl : L.length ≤ 1000) : ActsR W (.slice A L.length c) (L.map hurtV) := by
 have hlen : (L.map hurtV).length = L.length := List.length_map _
 have e : (L.map hurtV).flatMap encActV = L.flatMap encHA := by rw [List.flatMap_map]; rfl
 refine ⟨?_, fun y hy => ?_⟩
 ·have := SlR.of_own (bytes := 80) (l := L.map hurtV) encActV_ok (v := .slice A L.length c) (w := W) (base := base) (e := 39) (by rw [hlen, e]; exact h) (by omega) (fun y hy => by
   obtain ⟨x, hx, rfl⟩ := List.mem_map.1 hy
   obtain ⟨k, sz, hk, hs, h1, h2, h3, h4, h5, h6, h7, h8⟩ := ho x hx
   refine ⟨rfl, ?_⟩
   unfold I64 hurtV hurtAct
   refine ⟨?_, ?_, ?_, ?_, ?_, ?_⟩ <;> dsimp only <;> first | omega | decide)
  exact this
 ·obtain ⟨x, hx, rfl⟩ := List.mem_map.1 hy
  exact ⟨none, 0, rfl, Nat.zero_le _, Nat.zero_le _, .inl rfl⟩
theorem hurts_read {W : World} {base : Nat} {A : Option Addr} {c k sz : Nat} {L : List HA} (h : W.ownsRow base 39 7 (.slice A L.length c) L.length (L.flatMap encHA)) (hk : k < 3) (hs : sz ≤ 64) (ho : ∀ x ∈ L, ActOk k sz x) (hl : L.length ≤ 1000) : ActsR W (.slice A L.length c) (L.map hurtV) :=
 hurts_read2 h (fun x hx => ⟨k, sz, hk, hs, ho x hx⟩) hl
def litV (x : ActD) : ActV := ⟨x, none, 0⟩
theorem litV_a (x : ActD) : (litV x).a = x := rfl
theorem map_litV (L : List ActD) : (L.map litV).map (·.a) = L := by rw [List.map_map]; exact List.map_id _
theorem ans_cells {w : World} {A : Option Addr} {c : Nat} {x : List Ans} (h : SlR 5 80 RAns w (.slice A x.length c) x) : ∀ i (hi : i < x.length), ∃ b o n g, A = some ⟨b, o, none⟩ ∧ w.cell? ⟨b, o + i * 5, none⟩ = some (.int .i64 x[i].code) ∧ w.cell? ⟨b, o + i * 5 + 1, none⟩ = some (.string x[i].data) ∧
  w.cell? ⟨b, o + i * 5 + 2, none⟩ = some n ∧ w.cell? ⟨b, o + i * 5 + 3, none⟩ = some (.int .i64 x[i].count) ∧ w.cell? ⟨b, o + i * 5 + 4, none⟩ = some g ∧ SlR 1 16 RStr w n x[i].names ∧ SlR 1 8 RInt w g x[i].gone := by
 intro i hi
 obtain ⟨A', c', he, _, _, hrow⟩ := h.rowR
 injection he with he1 he2 he3
 subst he1
 obtain ⟨b, o, rfl, hc⟩ := hrow i hi
 obtain ⟨cs, hl, hcell, n, g, rfl, hn, hg⟩ := hc i hi
 exact ⟨b, o, n, g, rfl, hcell 0 _ rfl, hcell 1 _ rfl, hcell 2 _ rfl, hcell 3 _ rfl, hcell 4 _ rfl, hn, hg⟩
theorem eqStrs_any (v1 v2 : Value) (l : List ByteArray) (w : World) (h1 : SlR 1 16 RStr w v1 l) (h2 : SlR 1 16 RStr w v2 l) :
  Calls Tryz.prog 32 #[v1, v2] w fun e w' => e = .returned (.bool true) ∧ Ext w w' := by
 obtain ⟨A1, c1, rfl, hl, hc1, r1⟩ := h1.row
 obtain ⟨A2, c2, rfl, _, hc2, r2⟩ := h2.row
 by_cases h0 : l = []
 ·subst h0
  refine (Tryz.slices_Equal_string_empty A1 A2 c1 0 c2 w (by decide)).mono ?_
  rintro e w' ⟨rfl, hw⟩
  obtain rfl := hw
  exact ⟨by simp, Ext.refl _⟩
 ·have hpos : 0 < l.length := List.length_pos_iff.2 h0
  obtain ⟨b1, o1, rfl, g1⟩ := r1 0 hpos
  obtain ⟨b2, o2, rfl, g2⟩ := r2 0 hpos
  refine (Tryz.slices_Equal_string b1 o1 l.length c1 b2 o2 l.length c2 l l w (Nat.le_refl _) (Nat.le_refl _) (by omega) (by omega) (fun j hj => ?_) (fun j hj => ?_)).mono ?_
  ·obtain ⟨u, hu, hr⟩ := g1 j hj
   obtain rfl := hr.val
   rw [hu, List.getD_eq_getElem?_getD, List.getElem?_eq_getElem hj]
   rfl
  ·obtain ⟨u, hu, hr⟩ := g2 j hj
   obtain rfl := hr.val
   rw [hu, List.getD_eq_getElem?_getD, List.getElem?_eq_getElem hj]
   rfl
  ·rintro e w' ⟨rfl, q, rfl⟩
   exact ⟨by simp, (Ext.refl _).drewN q⟩
theorem eqBools_any (v1 v2 : Value) (l : List Bool) (w : World) (h1 : SlR 1 1 RBool w v1 l) (h2 : SlR 1 1 RBool w v2 l) :
  Calls Tryz.prog 33 #[v1, v2] w fun e w' => e = .returned (.bool true) ∧ Ext w w' := by
 obtain ⟨A1, c1, rfl, hb1, hc1, p1⟩ := h1.rowE encBool_ok
 obtain ⟨A2, c2, rfl, hb2, hc2, p2⟩ := h2.rowE encBool_ok
 have P1 := Lib.hid p1
 have P2 := Lib.hid p2
 have hl : (l.length : Int) ≤ 140737488355328 := by omega
 have hne : (((l.length : Int)) != (l.length : Int)) = false := by simp
 clear h1 h2 p1 p2 hb1 hb2
 go_enter Tryz.func33, Tryz.ntmps33
 go_wp2
 go_loopw [13] (fun kv wr => ∃ (k : Nat), kv = .int .i64 k ∧ k ≤ l.length ∧ Ext w wr) (fun kv _ => l.length - (intOf kv).toNat)
 case atStart => exact ⟨0, rfl, Nat.zero_le _, Ext.refl _⟩
 case round =>
  obtain ⟨k, rfl, hk, hx⟩ := hrel
  have HX := Lib.hid hx
  by_cases hlt : k < l.length
  ·obtain ⟨b, o, rfl, g1⟩ := P1.out k hlt
   obtain ⟨b', o', rfl, g2⟩ := P2.out k hlt
   have q0 := hx.cell (g1 k hlt 0 _ rfl)
   have y0 := hx.cell (g2 k hlt 0 _ rfl)
   obtain ⟨x, hxx⟩ : ∃ x, x = l[k] := ⟨_, rfl⟩
   rw [← hxx] at q0 y0
   simp only [Nat.mul_one, Nat.add_zero] at q0 y0
   have hltI : (k : Int) < (l.length : Int) := by omega
   have HK := Lib.hid hlt
   clear g1 g2 hxx hlt hk hx
   go_wp2_with fail
   go_quiet (fail)
   go_wp2_with fail
   go_roundw
   case rel => exact ⟨k + 1, by first | rfl | go_num, HK.out, by first | exact HX.out | exact HX.out.drew | exact HX.out.drewN _⟩
   case measure => have := HK.out; (simp [intOf]; try omega)
  ·have hltI : (l.length : Int) ≤ (k : Int) := by omega
   clear hlt
   go_wp2_with fail
   go_ret
   exact ⟨rfl, HX.out⟩
theorem dev_cells {w : World} {A : Option Addr} {c : Nat} {a : List Dev} (h : SlR 2 48 RDev w (.slice A a.length c) a) : ∀ i (hi : i < a.length), ∃ b o A1 c1 A2 c2, A = some ⟨b, o, none⟩ ∧ w.cell? ⟨b, o + i * 2, none⟩ = some (.slice A1 a[i].sec.length c1) ∧ w.cell? ⟨b, o + i * 2 + 1, none⟩ = some (.slice A2 a[i].lost.length c2) ∧
  SlR 1 16 RStr w (.slice A1 a[i].sec.length c1) a[i].sec ∧ SlR 1 1 RBool w (.slice A2 a[i].lost.length c2) a[i].lost := by
 intro i hi
 obtain ⟨A', c', he, _, _, hrow⟩ := h.rowR
 injection he with he1 he2 he3
 subst he1
 obtain ⟨b, o, rfl, hc⟩ := hrow i hi
 obtain ⟨cs, hl, hcell, hd⟩ := hc i hi
 obtain ⟨A1, c1, A2, c2, rfl, h1, h2⟩ := hd.split
 exact ⟨b, o, A1, c1, A2, c2, rfl, hcell 0 _ rfl, hcell 1 _ rfl, h1, h2⟩
theorem make_some {P : Program} (t e : TypeId) (i : TypeInfo) (z : Value) (ht : P.underlying t = some (.slice e)) (hi : P.info? e = some i) (hz : i.zero = some z) (n : Nat) (hb : i.bytes * n ≤ 140737488355328) (hn : n ≤ 140737488355328) :
  ∃ cs : Array Value, ∀ w : World, (Instr.makeSlice t (.int .i64 n) (.int .i64 n)).run P w = .ok (.slice (some ⟨w.heap.size, 0, none⟩) n n) (w.alloc (.cells cs e)) := by
 have hbb : ((i.bytes : Int) * (n : Int)) = ((i.bytes * n : Nat) : Int) := by simp
 refine ⟨madeCells z.cells (n * i.size), fun w => ?_⟩
 have hr := run_make (P := P) w t e i z ht hi hz .i64 .i64 n n (by omega) (by omega) (by rw [hbb]; omega) (by omega)
 simpa using hr
theorem AddsW.more {w w1 w2 w3 : World} {A A6 : Option Addr} {c c6 : Nat} {vf : Value} {La Lb : List ActV} {Ls : List (List Fil)} (h : AddsW w w1 (.slice A La.length c) vf La Ls) (hl : La.length ≤ 100) (hb : Lb.length ≤ 100) (k : Ext w1 w2) (hr : ∀ y ∈ Lb, RActV w2 (encActV y) y ∧ SlR 2 32 RFil w3 y.f y.a.files)
  (own : w3.ownsRow w.heap.size 39 7 (.slice A6 (La.length + Lb.length) c6) (La.length + Lb.length) (La.flatMap encActV ++ Lb.flatMap encActV)) (hg : w2.grownBy w3 (Value.slice A La.length c).ownBlock)
  (hV : (Value.slice A6 (La.length + Lb.length) c6).ownBlock = (Value.slice A La.length c).ownBlock ∨ (Value.slice A6 (La.length + Lb.length) c6).ownBlock = some w2.heap.size) : ActsR w3 (.slice A6 (La ++ Lb).length c6) (La ++ Lb) := by
 have ha := h.acts (by omega)
 have hm : ∀ y ∈ La ++ Lb, RActV w3 (encActV y) y ∧ SlR 2 32 RFil w3 y.f y.a.files := by
  intro y hy
  rcases List.mem_append.1 hy with hy | hy
  ·exact ⟨ha.1.mem encActV_ok w3 y hy, (((h.y y hy).ext k).rowA hg hV).1⟩
  ·exact ⟨encActV_ok.w _ _ _ _ (hr y hy).1, (hr y hy).2⟩
 refine ⟨SlR.of_own (bytes := 80) (base := w.heap.size) (e := 39) encActV_ok ?_ (by rw [List.length_append]; omega) (fun y hy => (hm y hy).1), fun y hy => (hm y hy).2⟩
 rw [List.length_append, List.flatMap_append]
 exact own
theorem dev_rows {w : World} {A : Option Addr} {c : Nat} {a : List Dev} (h : SlR 2 48 RDev w (.slice A a.length c) a) (h0 : 0 < a.length) : ∃ b o, A = some ⟨b, o, none⟩ ∧ ∀ i (hi : i < a.length), ∃ A1 c1 A2 c2, w.cell? ⟨b, o + i * 2, none⟩ = some (.slice A1 a[i].sec.length c1) ∧ w.cell? ⟨b, o + i * 2 + 1, none⟩ = some (.slice A2 a[i].lost.length c2) ∧
  SlR 1 16 RStr w (.slice A1 a[i].sec.length c1) a[i].sec ∧ SlR 1 1 RBool w (.slice A2 a[i].lost.length c2) a[i].lost := by
 obtain ⟨b, o, _, _, _, _, hA, _⟩ := dev_cells h 0 h0
 refine ⟨b, o, hA, fun i hi => ?_⟩
 obtain ⟨b', o', A1, c1, A2, c2, hA', r⟩ := dev_cells h i hi
 rw [hA] at hA'
 injection hA' with hA'
 injection hA' with h1 h2
 subst h1 h2
 exact ⟨A1, c1, A2, c2, r⟩
theorem arr_row {w : World} {A : Option Addr} {c n : Nat} {a : List Dev} (h : RArr w [.slice A n c] a) (hn : a.length = n) : SlR 2 48 RDev w (.slice A a.length c) a := by
 obtain ⟨v', e', h1⟩ := h
 have : (Value.slice A n c) = v' := by simpa using e'
 rw [hn, this]
 exact h1
theorem code_cells {w : World} {A : Option Addr} {c n : Nat} {x y : List Ans} (h : SlR 5 80 RAns w (.slice A n c) (x ++ y)) (hn : n = (x ++ y).length) (hy : 0 < y.length) : ∃ b o, A = some ⟨b, o, none⟩ ∧ ∀ t (ht : t < y.length), w.cell? ⟨b, o + (x.length + t) * 5, none⟩ = some (.int .i64 y[t].code) := by
 subst hn
 obtain ⟨b, o, _, _, hA, _⟩ := ans_cells h x.length (by rw [List.length_append]; omega)
 refine ⟨b, o, hA, fun t ht => ?_⟩
 obtain ⟨b', o', _, _, hA', hc, _⟩ := ans_cells h (x.length + t) (by rw [List.length_append]; omega)
 rw [hA] at hA'
 injection hA' with hA'
 injection hA' with h1 h2
 subst h1 h2
 rw [hc, List.getElem_append_right (by omega)]
 simp
theorem badActs_len (q : Int) (m : Nat) : (badActs q m).length = 5 := rfl
theorem badActs_fine {q : Int} {m : Nat} (h0 : 9 ≤ q) (h1 : q ≤ 20) (hm : m ≤ 64) : ∀ x ∈ badActs q m, x.files = [] ∧ x.name.size ≤ 1000 ∧ I64 x.kind ∧ I64 x.d ∧ I64 x.n ∧ I64 x.at_ ∧ I64 x.by_ := by
 intro x hx
 unfold badActs at hx
 simp only [List.mem_cons, List.not_mem_nil, or_false] at hx
 rcases hx with rfl | rfl | rfl | rfl | rfl <;> (unfold I64; dsimp only; refine ⟨rfl, by decide, ?_, ?_, ?_, ?_, ?_⟩ <;> omega)
theorem lits_more {W W2 : World} {base : Nat} {A8 : Option Addr} {c8 : Nat} {La : List ActV} {L : List ActD} {va : Value} (ha : ActsR W va La) (hl : La.length ≤ 100) (hb : L.length ≤ 100) (k : Ext W W2) (h : ∀ x ∈ L, x.files = [] ∧ x.name.size ≤ 1000 ∧ I64 x.kind ∧ I64 x.d ∧ I64 x.n ∧ I64 x.at_ ∧ I64 x.by_)
  (own : W2.ownsRow base 39 7 (.slice A8 (La.length + L.length) c8) (La.length + L.length) (La.flatMap encActV ++ (L.map litV).flatMap encActV)) : ActsR W2 (.slice A8 (La ++ L.map litV).length c8) (La ++ L.map litV) := by
 have hm : ∀ y ∈ La ++ L.map litV, RActV W2 (encActV y) y ∧ SlR 2 32 RFil W2 y.f y.a.files := by
  intro y hy
  rcases List.mem_append.1 hy with hy | hy
  ·exact ⟨ha.1.mem encActV_ok W2 y hy, (ha.2 y hy).ext RFil.stays k⟩
  ·obtain ⟨x, hx, rfl⟩ := List.mem_map.1 hy
   obtain ⟨h1, h2, h3⟩ := h x hx
   have h0 : x.files.length = 0 := by rw [h1]; rfl
   exact ⟨⟨rfl, by show x.name.size ≤ _; omega, h3⟩, none, 0, rfl, by show x.files.length * 32 ≤ _; omega, by show x.files.length ≤ 0; omega, .inl h1⟩
 refine ⟨SlR.of_own (bytes := 80) (base := base) (e := 39) encActV_ok ?_ (by rw [List.length_append, List.length_map]; omega) (fun y hy => (hm y hy).1), fun y hy => (hm y hy).2⟩
 rw [List.length_append, List.length_map, List.flatMap_append]
 exact own
theorem lawShellsGood_any (v : Value) (l : List Raw4) (d many kind : Int) (w : World) (h : SlR 4 32 RRaw w v l) (hd : I64 d) (hm : I64 many) (hk : I64 kind) (ht : Tab w) :
  Calls Tryz.prog 7 #[v, .int .i64 d, .int .i64 many, .int .i64 kind] w fun e w' => e = .returned (.bool true) ∧ Ext w w' := by
 have H := Lib.hid h
 have HI := Lib.hid (And.intro hd (And.intro hm hk))
 have HT := Lib.hid ht
 clear h hd hm hk ht
 go_enter Tryz.func7, Tryz.ntmps7
 go_wp2_with fail
 refine (keepSectors_any many w HI.out.2.1).mono ?_
 rintro e wz ⟨m, rfl, hw, h24, h62, hm2⟩
 obtain rfl := hw.symm
 have HM := Lib.hid (And.intro h24 (And.intro h62 hm2))
 have hmI : (m : Int) ≤ 62 := by omega
 clear hw h24 h62 hm2
 go_wp2_with fail
 refine (adds_any v l 8 w H.out (by decide) (by decide) HT.out).mono ?_
 rintro e w1 ⟨A, c, A', c', La, Ls, rfl, hw, hle⟩
 have HW := Lib.hid hw
 have hla := hw.la
 have HLA := Lib.hid (show La.length ≤ 8 ∧ Ls.flatten.length ≤ 8 by omega)
 have hlaI : (La.length : Int) ≤ 8 := by omega
 have X1 := Lib.hid hw.x
 clear hw hle hla
 go_wp2_with fail
 refine (picked_any d 3 w1 HI.out.1 (by decide) (by decide)).mono ?_
 rintro e wz ⟨rfl, hw⟩
 obtain rfl := hw.symm
 obtain ⟨k, hk, hk3⟩ := picked_nat d
 have HK := Lib.hid hk3
 rw [hk]
 have hkI : (k : Int) < 3 := by omega
 clear hw hk hk3
 go_wp2_with fail
 refine (hurts_any v l k m 30 w1 (H.out.ext RRaw.stays X1.out) HK.out (by have := HM.out; omega) (by have := HM.out; omega) (by decide)).mono ?_
 rintro e w2 ⟨B1, b1, L1, rfl, hx, ho, hok, hnd, hL⟩
 have X2 := Lib.hid hx
 have HO1 := Lib.hid (And.intro hok (And.intro hnd hL))
 have HR1 := Lib.hid (hurts_read ho HK.out (by have := HM.out; split <;> omega) hok (by omega))
 have hl1I : (L1.length : Int) ≤ 30 := by omega
 clear hx ho hok hnd hL
 obtain ⟨i1, hi0, hz0, hz1, hz2⟩ := info_parts info_act
 have HIA := Lib.hid (And.intro hi0 (And.intro hz0 (And.intro hz1 hz2)))
 obtain ⟨LB, hLB⟩ : ∃ z, z = L1.map hurtV := ⟨_, rfl⟩
 have hlb : LB.length = L1.length := by rw [hLB, List.length_map]
 have hrb := HR1.out
 rw [← hLB, ← hlb] at hrb
 have HLB := Lib.hid (And.intro hLB hlb)
 have HRB := Lib.hid hrb
 rw [← hlb]
 clear hi0 hz0 hz1 hz2 hLB hlb hrb HR1
 go_wp2_with (at_builtin; refine wpList_append_onto _ encActV_ok (by decide) rfl (.tmp 34) (.tmp 39) 23 rfl w.heap.size 39 i1 (.agg #[.int .i64 0, .slice none 0 0, .string .empty, .int .i64 0, .int .i64 0, .int .i64 0, .int .i64 0]) Tryz.underlying23 HIA.out.1 HIA.out.2.1 HIA.out.2.2.1 HIA.out.2.2.2 rfl (.slice A La.length c) La.length _ rfl (own_ext HW.out.a X2.out) (.slice B1 LB.length b1) LB rfl HRB.out.1 ?c1 ?c2 ?c3 ?_)
 case c1 => have := HLA.out; have := HLB.out; unfold maxLen; omega
 case c2 => have := HLA.out; have := HLB.out; omega
 case c3 => have := (X1.out.trans X2.out).size; omega
 intro A6 c6 w3 own6 hg6 hV6
 have hbb : LB.length ≤ 30 := by have := HLB.out; omega
 have hra := HW.out.more (by have := HLA.out; omega) (by omega) X2.out (fun y hy => ⟨HRB.out.1.mem encActV_ok w2 y hy, by
  rw [HLB.out.1] at hy
  obtain ⟨x, hx, rfl⟩ := List.mem_map.1 hy
  exact ⟨none, 0, rfl, Nat.zero_le _, Nat.zero_le _, .inl rfl⟩⟩) own6 hg6 hV6
 have X3 := Lib.hid ((X1.out.trans X2.out).grown hg6 (fun g hg => (HW.out.a.lt g hg).1))
 obtain ⟨LA, hLA⟩ : ∃ z, z = La ++ LB := ⟨_, rfl⟩
 have hll : La.length + LB.length = LA.length := by rw [hLA, List.length_append]
 rw [← hLA] at hra
 rw [hll]
 have HRA := Lib.hid hra
 have hmap : LA.map (·.a) = Ls.map addAct ++ L1.map hurtAct := by rw [hLA, List.map_append, HW.out.e, HLB.out.1, map_hurtV]
 have hl40 : LA.length ≤ 38 := by have := HLA.out; omega
 obtain ⟨q, hq⟩ : ∃ q : Nat, pick kind 9 = (q : Int) := by
  have := (pick_range kind 9 (by decide)).1
  exact ⟨(pick kind 9).toNat, by omega⟩
 have hq9 : q < 9 := by have := (pick_range kind 9 (by decide)).2; omega
 obtain ⟨ac, hac⟩ : ∃ z, z = LA.map (·.a) := ⟨_, rfl⟩
 have hal : ac.length = LA.length := by rw [hac, List.length_map]
 have hsg := shells_good (m := m) (k := k) ⟨by have := HM.out; omega, by have := HM.out; omega, HM.out.2.2⟩ HK.out (q := 9 + (q : Int)) (by omega) (acts := ac) (by rw [hac]; exact hmap) HW.out.g (by have := HLA.out; omega) HO1.out.1 HO1.out.2.1
 have HSG := Lib.hid hsg
 have HAC := Lib.hid (And.intro hac (And.intro hal hl40))
 have HQ := Lib.hid (And.intro hq hq9)
 have hqI : (q : Int) < 9 := by omega
 have hlI : (LA.length : Int) ≤ 38 := by omega
 clear own6 hg6 hV6 hra hLA hll hmap hl40 hq hq9 hac hal hsg hbb HW HRB HLB HLA HO1 hlaI hl1I
 go_wp2_with fail
 have hrun := run_any (.slice A6 LA.length c6) ac m w3 (by have := HRA.out.acts; rw [← HAC.out.1] at this; exact this) (by have := HM.out; omega) (by have := HM.out; omega) HM.out.2.2 (by have := HAC.out; omega) HSG.out.1.at_
 refine hrun.mono ?_
 clear hrun
 rintro e w4 ⟨D1, d1, D2, d2, rfl, hx, hs4, hr4⟩
 have X4 := Lib.hid hx
 have HS4 := Lib.hid hs4
 have HR4 := Lib.hid hr4
 clear hx hs4 hr4
 go_wp2_with fail
 refine calls_abs (fun W => Ext w4 W ∧ Blk_ W w4.heap.size 30 #[.slice D2 3 d2]) ⟨(Ext.refl _).alloc _, Blk_.new _ _ _⟩ ?_
 rintro w5 ⟨hx, hb⟩
 obtain ⟨g14, hg14⟩ : ∃ z, z = w4.heap.size := ⟨_, rfl⟩
 rw [← hg14] at hb ⊢
 have X5 := Lib.hid hx
 have HB14 := Lib.hid hb
 clear hx hb hg14
 refine (clone_acts (.slice A6 LA.length c6) w5 LA (HRA.out.1.ext RActV.stays (X4.out.trans X5.out))).mono ?_
 rintro e w6 ⟨A7, c7, rfl, hx, ho⟩
 have X6 := Lib.hid hx
 have HO7 := Lib.hid ho
 clear hx ho
 go_wp2_with fail
 refine (picked_any kind 9 w6 HI.out.2.2 (by decide) (by decide)).mono ?_
 rintro e wz ⟨rfl, hw⟩
 obtain rfl := hw.symm
 rw [HQ.out.1]
 clear hw
 go_wp2_with (at_builtin; refine wpList_append_at _ rfl (.tmp 51) (.tmp 61) 23 rfl w5.heap.size 39 i1 (.agg #[.int .i64 0, .slice none 0 0, .string .empty, .int .i64 0, .int .i64 0, .int .i64 0, .int .i64 0]) 7 80 Tryz.underlying23 HIA.out.1 HIA.out.2.1 HIA.out.2.2.1 HIA.out.2.2.2 rfl (by decide) (.slice A7 LA.length c7) LA.length _ rfl (own_ext HO7.out ((Ext.refl _).alloc _)) ⟨w6.heap.size, 0, none⟩ 5 5 (((badActs (9 + (q : Int)) m).map litV).flatMap encActV) rfl rfl ?d1 ?d2 ?d3 ?d4 ?d5 ?_)
 case d1 =>
  intro j u hu
  rw [Addr.add_lit, Nat.zero_add, (Blk_.new w6 39 _).cell, List.getElem?_toArray]
  exact hu
 case d2 => exact fun u hu => by obtain ⟨y, _, hy⟩ := List.mem_flatMap.1 hu; exact encActV_ok.one y u hy
 case d3 => have := HAC.out; unfold maxLen; omega
 case d4 => have := HAC.out; omega
 case d5 => have := X6.out.size; rw [World.size_alloc]; omega
 intro A8 c8 w7 own8 hg8 hV8
 have X7 := Lib.hid (show Ext w5 w7 from (X6.out.alloc _).grown hg8 (fun g hg => (HO7.out.lt g hg).1))
 have hrb := lits_more HRA.out (by have := HAC.out; omega) (by rw [badActs_len]; decide) ((X4.out.trans X5.out).trans X7.out) (badActs_fine (q := 9 + (q : Int)) (m := m) (by omega) (by omega) (by have := HM.out; omega)) own8
 have hn8 : LA.length + 5 = (LA ++ (badActs (9 + (q : Int)) m).map litV).length := by rw [List.length_append, List.length_map, badActs_len]
 rw [hn8]
 obtain ⟨LC, hLC⟩ : ∃ z, z = LA ++ (badActs (9 + (q : Int)) m).map litV := ⟨_, rfl⟩
 rw [← hLC] at hrb hn8 ⊢
 have hmc : LC.map (·.a) = ac ++ badActs (9 + (q : Int)) m := by rw [hLC, List.map_append, map_litV, HAC.out.1]
 obtain ⟨ad, had⟩ : ∃ z, z = ac ++ badActs (9 + (q : Int)) m := ⟨_, rfl⟩
 have hdl : ad.length = ac.length + 5 := by rw [had, List.length_append, badActs_len]
 have hsg := HSG.out
 rw [← had] at hmc hsg
 have HRC := Lib.hid hrb
 have HAD := Lib.hid (And.intro hmc hdl)
 have HSH := Lib.hid hsg
 clear own8 hg8 hV8 hrb hn8 hLC hmc had hdl hsg HSG HO7
 go_wp2_with fail
 have hrun := run_any (.slice A8 LC.length c8) ad m w7 (by have := HRC.out.acts; rw [HAD.out.1] at this; exact this) (by have := HM.out; omega) (by have := HM.out; omega) HM.out.2.2 (by have := HAD.out.2; have := HAC.out; omega) HSH.out.2.1.at_
 refine hrun.mono ?_
 clear hrun
 rintro e w8 ⟨E1, e1, E2, e2, rfl, hx, hs8, hr8⟩
 rw [HSH.out.2.2.2.1] at hs8
 rw [HSH.out.2.2.2.2.1] at hr8
 have X8 := Lib.hid hx
 have HS8 := Lib.hid hs8
 have HR8 := Lib.hid hr8
 clear hx hs8 hr8
 go_wp2_with fail
 refine calls_abs (fun W => Ext w8 W ∧ Blk_ W w8.heap.size 30 #[.slice E2 3 e2]) ⟨(Ext.refl _).alloc _, Blk_.new _ _ _⟩ ?_
 rintro w9 ⟨hx, hb⟩
 obtain ⟨g17, hg17⟩ : ∃ z, z = w8.heap.size := ⟨_, rfl⟩
 rw [← hg17] at hb ⊢
 have X9 := Lib.hid hx
 have HB17 := Lib.hid hb
 clear hx hb hg17
 refine (runRange_any (.slice none 0 0) w9).mono ?_
 rintro e w10 ⟨rfl, hx⟩
 have X10 := Lib.hid hx
 obtain ⟨mk, hmk⟩ := make_some (P := Tryz.prog) 23 39 i1 _ Tryz.underlying23 HIA.out.1 HIA.out.2.1 201 (by rw [HIA.out.2.2.2]; decide) (by decide)
 have hmk' : ∀ w : World, (Instr.makeSlice 23 (.int .i64 201) (.int .i64 201)).run Tryz.prog w = .ok (.slice (some ⟨w.heap.size, 0, none⟩) 201 201) (w.alloc (.cells mk 39)) := hmk
 clear hx hmk
 go_wp2_with fail
 refine calls_abs (fun W => Ext w10 W) (((Ext.refl _).alloc _).alloc _) ?_
 rintro w11 hx
 have X11 := Lib.hid hx
 clear hx hmk'
 refine (runSize_any _ 201 m w11 (by have := HM.out; omega) (by have := HM.out; omega) HM.out.2.2).mono ?_
 rintro e w12 ⟨rfl, hx⟩
 have X12 := Lib.hid (X11.out.trans hx)
 have XE5 := Lib.hid (show Ext w5 w8 from X7.out.trans X8.out)
 have XE9 := Lib.hid (X10.out.trans X12.out)
 have q14 := (HB14.out.ext (XE5.out.trans (X9.out.trans XE9.out))).cell 0
 simp at q14
 have hne : ((ac.length : Int) != (LA.length : Int)) = false := by have := HAC.out.2.1; rw [this]; simp
 have l14 := (HB14.out.ext (XE5.out.trans (X9.out.trans XE9.out))).lt
 clear hx X10 X11 X12
 go_wp2_with fail
 refine calls_abs (fun W => Ext w12 W) ((Ext.refl _).alloc _) ?_
 rintro w13 hx
 have X13 := Lib.hid (XE9.out.trans hx)
 clear hx q14 l14 hne
 refine (arrCheck_any [.slice D2 3 d2] (runS m ac (sh0 m)).2.a w13 (HR4.out.up (X5.out.trans (XE5.out.trans (X9.out.trans X13.out))))).mono ?_
 rintro e w14 ⟨rfl, hx⟩
 rw [HSH.out.2.2.1]
 have X14 := Lib.hid (X13.out.trans hx)
 have y14 := (HB14.out.ext (XE5.out.trans (X9.out.trans X14.out))).cell 0
 simp at y14
 obtain ⟨a, ha⟩ : ∃ z, z = (runS m ac (sh0 m)).2.a := ⟨_, rfl⟩
 have h3 : a.length = 3 := by rw [ha]; exact HSH.out.2.2.2.2.2
 have hda := HR4.out
 have hdb := HR8.out
 rw [← ha] at hda hdb
 obtain ⟨ba, oa, hba, hca⟩ := dev_rows (arr_row hda h3) (by omega)
 obtain ⟨bb, ob, hbb, hcb⟩ := dev_rows (arr_row hdb h3) (by omega)
 subst hba hbb
 have HDA := Lib.hid hca
 have HDB := Lib.hid hcb
 have H3 := Lib.hid h3
 clear hx hda hdb hca hcb ha HR4 HR8
 go_wp2_with fail
 clear y14
 go_loopw [108] (fun kv wr => ∃ (j : Nat), kv = .int .i64 j ∧ j ≤ 3 ∧ Ext w14 wr) (fun kv _ => 3 - (intOf kv).toNat)
 case atStart => exact ⟨0, rfl, by decide, Ext.refl _⟩
 case round =>
  obtain ⟨j, rfl, hj, hx⟩ := hrel
  have HX := Lib.hid hx
  by_cases hlt : j < 3
  ·have hjI : (j : Int) < 3 := by omega
   obtain ⟨P1, p1, P2, p2, ca1, ca2, ra1, ra2⟩ := HDA.out j (by have := H3.out; omega)
   obtain ⟨R1, r1, R2, r2, cb1, cb2, rb1, rb2⟩ := HDB.out j (by have := H3.out; omega)
   obtain ⟨dd, hdd⟩ : ∃ z, z = a[j]'(by have := H3.out; omega) := ⟨_, rfl⟩
   rw [← hdd] at ca1 ca2 ra1 ra2 cb1 cb2 rb1 rb2
   have xa : Ext w4 wr := X5.out.trans (XE5.out.trans (X9.out.trans (X14.out.trans hx)))
   have xb : Ext w8 wr := X9.out.trans (X14.out.trans hx)
   have s1 := (HB14.out.ext (XE5.out.trans (X9.out.trans (X14.out.trans hx)))).cell 0
   have s4 := (HB17.out.ext (X14.out.trans hx)).cell 0
   simp at s1 s4
   have s2 := xa.cell ca1
   have s3 := xa.cell ca2
   have s5 := xb.cell cb1
   have s6 := xb.cell cb2
   have HRA1 := Lib.hid (And.intro (ra1.ext RStr.stays xa) (ra2.ext RBool.stays xa))
   have HRB1 := Lib.hid (And.intro (rb1.ext RStr.stays xb) (rb2.ext RBool.stays xb))
   have HJ := Lib.hid hlt
   obtain ⟨n1, hn1⟩ : ∃ z, z = dd.sec.length := ⟨_, rfl⟩
   obtain ⟨n2, hn2⟩ : ∃ z, z = dd.lost.length := ⟨_, rfl⟩
   rw [← hn1] at s2 s5 HRA1 HRB1
   rw [← hn2] at s3 s6 HRA1 HRB1
   clear ca1 ca2 ra1 ra2 cb1 cb2 rb1 rb2 hdd xa xb hn1 hn2 hx hj hlt
   go_wp2_with fail
   refine wp_region_all (S := fun W' => W'.cell? ⟨g14, 0, none⟩ = some (.slice (some ⟨ba, oa, none⟩) 3 d2) ∧ W'.cell? ⟨ba, oa + j * 2, none⟩ = some (.slice P1 n1 p1) ∧ W'.cell? ⟨ba, oa + j * 2 + 1, none⟩ = some (.slice P2 n2 p2) ∧ W'.cell? ⟨g17, 0, none⟩ = some (.slice (some ⟨bb, ob, none⟩) 3 e2) ∧ W'.cell? ⟨bb, ob + j * 2, none⟩ = some (.slice R1 n1 r1) ∧ W'.cell? ⟨bb, ob + j * 2 + 1, none⟩ = some (.slice R2 n2 r2)) (by kernel_rfl) ?_
   have hS0 : (fun W' => W'.cell? ⟨g14, 0, none⟩ = some (.slice (some ⟨ba, oa, none⟩) 3 d2) ∧ W'.cell? ⟨ba, oa + j * 2, none⟩ = some (.slice P1 n1 p1) ∧ W'.cell? ⟨ba, oa + j * 2 + 1, none⟩ = some (.slice P2 n2 p2) ∧ W'.cell? ⟨g17, 0, none⟩ = some (.slice (some ⟨bb, ob, none⟩) 3 e2) ∧ W'.cell? ⟨bb, ob + j * 2, none⟩ = some (.slice R1 n1 r1) ∧ W'.cell? ⟨bb, ob + j * 2 + 1, none⟩ = some (.slice R2 n2 r2)) wr.drew := ⟨s1, s2, s3, s4, s5, s6⟩
   refine tkL 0 rfl (fun w' hS => by obtain ⟨t1, t2, t3, t4, t5, t6⟩ := hS; go_simp; rfl) hS0 ?_
   refine tkL 1 rfl (fun w' hS => by obtain ⟨t1, t2, t3, t4, t5, t6⟩ := hS; go_simp; rfl) hS0 ?_
   refine tkL 2 rfl (fun w' hS => by obtain ⟨t1, t2, t3, t4, t5, t6⟩ := hS; go_simp; rfl) hS0 ?_
   try simp only [Act.put, List.setIfInBounds_toArray, List.set_cons_zero, List.set_cons_succ]
   refine tkL 3 rfl (fun w' hS => by obtain ⟨t1, t2, t3, t4, t5, t6⟩ := hS; go_simp; rfl) hS0 ?_
   refine tkL 4 rfl (fun w' hS => by obtain ⟨t1, t2, t3, t4, t5, t6⟩ := hS; go_simp; rfl) hS0 ?_
   refine tkL 5 rfl (fun w' hS => by obtain ⟨t1, t2, t3, t4, t5, t6⟩ := hS; go_simp; rfl) hS0 ?_
   try simp only [Act.put, List.setIfInBounds_toArray, List.set_cons_zero, List.set_cons_succ]
   refine tkL 6 rfl (fun w' hS => by obtain ⟨t1, t2, t3, t4, t5, t6⟩ := hS; go_simp; rfl) hS0 ?_
   refine tkL 7 rfl (fun w' hS => by obtain ⟨t1, t2, t3, t4, t5, t6⟩ := hS; go_simp; rfl) hS0 ?_
   refine tkL 8 rfl (fun w' hS => by obtain ⟨t1, t2, t3, t4, t5, t6⟩ := hS; go_simp; rfl) hS0 ?_
   try simp only [Act.put, List.setIfInBounds_toArray, List.set_cons_zero, List.set_cons_succ]
   refine tkL 9 rfl (fun w' hS => by obtain ⟨t1, t2, t3, t4, t5, t6⟩ := hS; go_simp; rfl) hS0 ?_
   refine tkL 10 rfl (fun w' hS => by obtain ⟨t1, t2, t3, t4, t5, t6⟩ := hS; go_simp; rfl) hS0 ?_
   refine tkL 11 rfl (fun w' hS => by obtain ⟨t1, t2, t3, t4, t5, t6⟩ := hS; go_simp; rfl) hS0 ?_
   try simp only [Act.put, List.setIfInBounds_toArray, List.set_cons_zero, List.set_cons_succ]
   clear hS0
   refine wpAnyH_oneL (i := 12) rfl (by kernel_rfl) rfl (fun K hK => ?_)
   go_wp2_with fail
   refine (eqStrs_any (.slice P1 n1 p1) (.slice R1 n1 r1) dd.sec _ (HRA1.out.1.ext RStr.stays (Ext.refl _).drew) (HRB1.out.1.ext RStr.stays (Ext.refl _).drew)).mono ?_
   rintro e wS ⟨rfl, hxS⟩
   have hxq : Ext wr wS := (Ext.refl wr).drew.trans hxS
   refine hK _ _ ⟨hxq.cell s1, hxq.cell s2, hxq.cell s3, hxq.cell s4, hxq.cell s5, hxq.cell s6⟩ ?_
   clear hK K
   try simp only [Act.put, List.setIfInBounds_toArray, List.set_cons_zero, List.set_cons_succ]
   refine anyH_abs (fun W => Ext wr W) hxq ?_
   clear hxS hxq
   rintro wp hxp
   have hS1 : (fun W' => W'.cell? ⟨g14, 0, none⟩ = some (.slice (some ⟨ba, oa, none⟩) 3 d2) ∧ W'.cell? ⟨ba, oa + j * 2, none⟩ = some (.slice P1 n1 p1) ∧ W'.cell? ⟨ba, oa + j * 2 + 1, none⟩ = some (.slice P2 n2 p2) ∧ W'.cell? ⟨g17, 0, none⟩ = some (.slice (some ⟨bb, ob, none⟩) 3 e2) ∧ W'.cell? ⟨bb, ob + j * 2, none⟩ = some (.slice R1 n1 r1) ∧ W'.cell? ⟨bb, ob + j * 2 + 1, none⟩ = some (.slice R2 n2 r2)) wp := ⟨hxp.cell s1, hxp.cell s2, hxp.cell s3, hxp.cell s4, hxp.cell s5, hxp.cell s6⟩
   refine tkL 13 rfl (fun w' hS => by obtain ⟨t1, t2, t3, t4, t5, t6⟩ := hS; go_simp; rfl) hS1 ?_
   refine tkL 14 rfl (fun w' hS => by obtain ⟨t1, t2, t3, t4, t5, t6⟩ := hS; go_simp; rfl) hS1 ?_
   refine tkL 15 rfl (fun w' hS => by obtain ⟨t1, t2, t3, t4, t5, t6⟩ := hS; go_simp; rfl) hS1 ?_
   refine tkL 16 rfl (fun w' hS => by obtain ⟨t1, t2, t3, t4, t5, t6⟩ := hS; go_simp; rfl) hS1 ?_
   refine tkL 17 rfl (fun w' hS => by obtain ⟨t1, t2, t3, t4, t5, t6⟩ := hS; go_simp; rfl) hS1 ?_
   try simp only [Act.put, List.setIfInBounds_toArray, List.set_cons_zero, List.set_cons_succ]
   refine tkL 18 rfl (fun w' hS => by obtain ⟨t1, t2, t3, t4, t5, t6⟩ := hS; go_simp; rfl) hS1 ?_
   refine tkL 19 rfl (fun w' hS => by obtain ⟨t1, t2, t3, t4, t5, t6⟩ := hS; go_simp; rfl) hS1 ?_
   refine tkL 20 rfl (fun w' hS => by obtain ⟨t1, t2, t3, t4, t5, t6⟩ := hS; go_simp; rfl) hS1 ?_
   try simp only [Act.put, List.setIfInBounds_toArray, List.set_cons_zero, List.set_cons_succ]
   refine tkL 21 rfl (fun w' hS => by obtain ⟨t1, t2, t3, t4, t5, t6⟩ := hS; go_simp; rfl) hS1 ?_
   refine tkL 22 rfl (fun w' hS => by obtain ⟨t1, t2, t3, t4, t5, t6⟩ := hS; go_simp; rfl) hS1 ?_
   refine tkL 23 rfl (fun w' hS => by obtain ⟨t1, t2, t3, t4, t5, t6⟩ := hS; go_simp; rfl) hS1 ?_
   try simp only [Act.put, List.setIfInBounds_toArray, List.set_cons_zero, List.set_cons_succ]
   refine tkL 24 rfl (fun w' hS => by obtain ⟨t1, t2, t3, t4, t5, t6⟩ := hS; go_simp; rfl) hS1 ?_
   refine tkL 25 rfl (fun w' hS => by obtain ⟨t1, t2, t3, t4, t5, t6⟩ := hS; go_simp; rfl) hS1 ?_
   refine tkL 26 rfl (fun w' hS => by obtain ⟨t1, t2, t3, t4, t5, t6⟩ := hS; go_simp; rfl) hS1 ?_
   try simp only [Act.put, List.setIfInBounds_toArray, List.set_cons_zero, List.set_cons_succ]
   try simp only [Act.put, List.setIfInBounds_toArray, List.set_cons_zero, List.set_cons_succ]
   clear hS1
   refine wpAnyH_oneL (i := 27) rfl (by kernel_rfl) rfl (fun K hK => ?_)
   go_wp2_with fail
   refine (eqBools_any (.slice P2 n2 p2) (.slice R2 n2 r2) dd.lost _ (HRA1.out.2.ext RBool.stays hxp) (HRB1.out.2.ext RBool.stays hxp)).mono ?_
   rintro e wS ⟨rfl, hxS⟩
   have hxq : Ext wr wS := hxp.trans hxS
   refine hK _ _ ⟨hxq.cell s1, hxq.cell s2, hxq.cell s3, hxq.cell s4, hxq.cell s5, hxq.cell s6⟩ ?_
   clear hK K
   try simp only [Act.put, List.setIfInBounds_toArray, List.set_cons_zero, List.set_cons_succ]
   refine anyH_abs (fun W => Ext wr W) hxq ?_
   clear hxS hxq hxp
   rintro wp hxp
   have hS2 : (fun W' => W'.cell? ⟨g14, 0, none⟩ = some (.slice (some ⟨ba, oa, none⟩) 3 d2) ∧ W'.cell? ⟨ba, oa + j * 2, none⟩ = some (.slice P1 n1 p1) ∧ W'.cell? ⟨ba, oa + j * 2 + 1, none⟩ = some (.slice P2 n2 p2) ∧ W'.cell? ⟨g17, 0, none⟩ = some (.slice (some ⟨bb, ob, none⟩) 3 e2) ∧ W'.cell? ⟨bb, ob + j * 2, none⟩ = some (.slice R1 n1 r1) ∧ W'.cell? ⟨bb, ob + j * 2 + 1, none⟩ = some (.slice R2 n2 r2)) wp := ⟨hxp.cell s1, hxp.cell s2, hxp.cell s3, hxp.cell s4, hxp.cell s5, hxp.cell s6⟩
   refine tkL 28 rfl (fun w' hS => by obtain ⟨t1, t2, t3, t4, t5, t6⟩ := hS; go_simp; rfl) hS2 ?_
   refine tkL 29 rfl (fun w' hS => by obtain ⟨t1, t2, t3, t4, t5, t6⟩ := hS; go_simp; rfl) hS2 ?_
   try simp only [Act.put, List.setIfInBounds_toArray, List.set_cons_zero, List.set_cons_succ]
   clear hS2
   refine wpAnyH_done (by kernel_rfl) ?_ _
   have HXP := Lib.hid (HX.out.trans hxp)
   clear hxp s1 s2 s3 s4 s5 s6
   go_wp2_with fail
   go_roundw
   case rel => exact ⟨j + 1, by first | rfl | go_num, HJ.out, HXP.out⟩
   case measure => have := HJ.out; (simp [intOf]; try omega)
  ·have hjI : (3 : Int) ≤ (j : Int) := by omega
   have hrl : (runS m ac (sh0 m)).1.length = LA.length := by rw [runS_length]; exact HAC.out.2.1
   obtain ⟨be, oe, hbe, hce⟩ := code_cells HS8.out (by rw [List.length_append, hrl, HAD.out.2, HAC.out.2.1]; rfl) (by decide)
   rw [hrl] at hce
   subst hbe
   have xb : Ext w8 wr := X9.out.trans (X14.out.trans hx)
   have v0 := xb.cell (hce 0 (by decide))
   have v1 := xb.cell (hce 1 (by decide))
   have v2 := xb.cell (hce 2 (by decide))
   have v3 := xb.cell (hce 3 (by decide))
   have v4 := xb.cell (hce 4 (by decide))
   simp only [Nat.add_zero] at v0
   obtain ⟨nd, hnd⟩ : ∃ z, z = ad.length := ⟨_, rfl⟩
   rw [← hnd]
   have hndN : nd = LA.length + 5 := by rw [hnd, HAD.out.2, HAC.out.2.1]
   obtain ⟨nl, hnl⟩ : ∃ z, z = LA.length := ⟨_, rfl⟩
   rw [← hnl] at v0 v1 v2 v3 v4 hndN hlI ⊢
   have u0 : (nl : Int) < (nd : Int) := by omega
   have u1 : (nl : Int) + 1 < (nd : Int) := by omega
   have u2 : (nl : Int) + 2 < (nd : Int) := by omega
   have u3 : (nl : Int) + 3 < (nd : Int) := by omega
   have u4 : (nl : Int) + 4 < (nd : Int) := by omega
   have z1 : (0 : Int) ≤ (nl : Int) + 1 := by omega
   have z2 : (0 : Int) ≤ (nl : Int) + 2 := by omega
   have z3 : (0 : Int) ≤ (nl : Int) + 3 := by omega
   have z4 : (0 : Int) ≤ (nl : Int) + 4 := by omega
   have y1 : ((nl : Int) + 1).toNat = nl + 1 := by omega
   have y2 : ((nl : Int) + 2).toNat = nl + 2 := by omega
   have y3 : ((nl : Int) + 3).toNat = nl + 3 := by omega
   have y4 : ((nl : Int) + 4).toNat = nl + 4 := by omega
   clear hx hj hlt hce xb hrl hnd hnl hndN
   go_wp2_with fail
   go_ret
   exact ⟨rfl, X3.out.trans (X4.out.trans (X5.out.trans (XE5.out.trans (X9.out.trans (X14.out.trans HX.out)))))⟩
end Go.Proofs.YtgjijcgkmofaaaaGreatDoor
