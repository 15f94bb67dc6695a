/-
  What the laws of the whole ask of scrubs, lists and scripts that are run twice, in plain Lean. Conditions: as they say.
-/
import Derived.Test.YtgjijcgkmofaaaaGreatDoorQ26
namespace Go.Proofs.YtgjijcgkmofaaaaGreatDoor
set_option linter.unusedSimpArgs false
set_option linter.unusedVariables false
open Go.RowKit
theorem actS_list (m : Nat) (s : Sh) : actS m s listAct = (s, ⟨(openS s.a).2, .empty, (openS s.a).1.entries.map (·.name), 0, []⟩) := by
 unfold actS listAct
 dsimp only
 rw [if_neg (by decide), if_neg (by decide), if_pos rfl]
theorem fine_list {m : Nat} {s : Sh} (h : ShOk m s) : ActFine m s listAct := by
 refine ⟨h, fun e => ?_, fun e => ?_, fun e => ?_, fun e => ?_⟩
 ·exact absurd e (by show ¬ (3 : Int) = 1; decide)
 ·exact absurd e (by show ¬ (3 : Int) = 1; decide)
 ·exact absurd e (by show ¬ (3 : Int) = 1; decide)
 ·exact absurd e (by show ¬ (3 : Int) = 7; decide)
theorem top_scrub {m k j q : Nat} (hm : MOk m) (hk : k < 3) (hj : j < 3) (hkj : j ≠ k) (hq : q ≤ 64) {Ls : List (List Fil)} {hs hs' : List HA} (hg : GroupsOk 0 Ls) (hn : Ls.flatten.length ≤ 10) (hh : ∀ x ∈ hs, ActOk k (szOf m k) x) (hd : (turned hs).Nodup) (hh' : ∀ x ∈ hs', ActOk j (szOf m j) x) (hd' : (turned hs').Nodup) :
  FineAll m (sh0 m) ((Ls.map addAct ++ (hs ++ hs').map hurtAct) ++ (Ls.flatten.map getAct ++ [listAct])) ∧ FineAll m (sh0 m) ((Ls.map addAct ++ (hs ++ hs').map hurtAct) ++ ([scrubAct q] ++ (Ls.flatten.map getAct ++ [listAct]))) ∧
  ∃ x y z, (runS m ((Ls.map addAct ++ (hs ++ hs').map hurtAct) ++ (Ls.flatten.map getAct ++ [listAct])) (sh0 m)).1 = x ++ z ∧ (runS m ((Ls.map addAct ++ (hs ++ hs').map hurtAct) ++ ([scrubAct q] ++ (Ls.flatten.map getAct ++ [listAct]))) (sh0 m)).1 = y ++ z ∧ z.length = Ls.flatten.length + 1 := by
 obtain ⟨a1, T, a2, a3, a4, a5⟩ := top_both hm hk hj hkj hg hn hh hd hh' hd'
 obtain ⟨s, hs0⟩ : ∃ s, s = (runS m (Ls.map addAct ++ (hs ++ hs').map hurtAct) (sh0 m)).2 := ⟨_, rfl⟩
 have fg : ∀ s : Sh, ShOk m s → FineAll m s (Ls.flatten.map getAct ++ [listAct]) := by
  intro s h
  refine (fine_gets h _).app ?_
  rw [run_gets]
  exact ⟨fine_list h, trivial⟩
 have rg : ∀ s : Sh, runS m (Ls.flatten.map getAct ++ [listAct]) s = (Ls.flatten.map (fun f => (⟨(getS s.a f.name).2, (getS s.a f.name).1, [], 0, []⟩ : Ans)) ++ [⟨(openS s.a).2, .empty, (openS s.a).1.entries.map (·.name), 0, []⟩], s) := by
  intro s
  rw [runS_append, run_gets, runS_cons, runS_nil, actS_list]
 rw [← hs0] at a2 a3 a4
 obtain ⟨b2, b3⟩ := a2.scrub hm (by omega) (k := q) hq
 refine ⟨a1.app (by rw [← hs0]; exact fg s (a2.ok hm)), a1.app (by rw [← hs0]; exact ⟨fine_scrub (a2.ok hm) hq, fg _ (b2.ok hm)⟩), ?_⟩
 rw [runS_append _ _ (Ls.flatten.map getAct ++ [listAct]), runS_append _ _ ([scrubAct q] ++ _), ← hs0, runS_append _ [scrubAct q], runS_cons, runS_nil, rg, rg]
 dsimp only
 have e1 := actS_scrub m s hq
 have e2 : (actS m s (scrubAct q)).1.a = (scrubN m s.all q ⟨s.a, s.next, s.rounds, 0, []⟩).a := by rw [e1]
 have e3 : (actS m s (scrubAct q)).1.all = s.all := by rw [e1]
 have hp' := b2.inv.part hm.h64
 rw [e3] at hp'
 have hsame := stream_same (a2.inv.part hm.h64) hp' hm.h16 hm.h64 hm.h2 (fun n hn => by
  rw [e2]
  exact (scrub_code (s := (⟨s.a, s.next, s.rounds, 0, []⟩ : Sc)) (a2.inv.part hm.h64) hm.h16 hm.h64 hm.h2 a2.next q hn).symm)
 refine ⟨_, (runS m (Ls.map addAct ++ (hs ++ hs').map hurtAct) (sh0 m)).1 ++ [(actS m s (scrubAct q)).2], _, rfl, ?_, by rw [List.length_append, List.length_map]; rfl⟩
 rw [List.append_assoc]
 simp only [get_same hsame, open_same hsame]
theorem scrub_reset {m : Nat} {all : List ByteArray} {a : List Dev} {next rounds : Nat} (hnx : next < m) (c : Int) (g : List Nat) : ∀ k, 
  (scrubN m all k ⟨a, next, rounds, c, g⟩).a = (scrubN m all k ⟨a, next, rounds, 0, []⟩).a ∧ (scrubN m all k ⟨a, next, rounds, c, g⟩).next = (scrubN m all k ⟨a, next, rounds, 0, []⟩).next ∧ (scrubN m all k ⟨a, next, rounds, c, g⟩).rounds = (scrubN m all k ⟨a, next, rounds, 0, []⟩).rounds ∧
  (scrubN m all k ⟨a, next, rounds, c, g⟩).count = c + (scrubN m all k ⟨a, next, rounds, 0, []⟩).count ∧ (next + k ≤ m → (∀ x ∈ g, x < next) → (scrubN m all k ⟨a, next, rounds, c, g⟩).gone = g ++ (scrubN m all k ⟨a, next, rounds, 0, []⟩).gone ∧
   (∀ x ∈ (scrubN m all k ⟨a, next, rounds, 0, []⟩).gone, next ≤ x ∧ x < next + k) ∧ (scrubN m all k ⟨a, next, rounds, 0, []⟩).gone.Pairwise (· < ·))
 | 0 => ⟨rfl, rfl, rfl, (Int.add_zero _).symm, fun _ _ => ⟨(List.append_nil _).symm, (fun x hx => by cases hx), List.Pairwise.nil⟩⟩
 | k + 1 => by
  obtain ⟨h1, h2, h3, h4, h5⟩ := scrub_reset hnx c g k (all := all) (a := a) (rounds := rounds)
  have hn := (scrub_next all (⟨a, next, rounds, 0, []⟩ : Sc) hnx k).1
  have e1 : scrubN m all (k + 1) ⟨a, next, rounds, c, g⟩ = scrub1 m all (scrubN m all k ⟨a, next, rounds, c, g⟩) := rfl
  have e2 : scrubN m all (k + 1) ⟨a, next, rounds, 0, []⟩ = scrub1 m all (scrubN m all k ⟨a, next, rounds, 0, []⟩) := rfl
  rw [e1, e2]
  obtain ⟨t, ht⟩ : ∃ t, t = scrubN m all k ⟨a, next, rounds, c, g⟩ := ⟨_, rfl⟩
  obtain ⟨u, hu⟩ : ∃ u, u = scrubN m all k ⟨a, next, rounds, 0, []⟩ := ⟨_, rfl⟩
  rw [← ht, ← hu] at h1 h2 h3 h4 h5 ⊢
  rw [← hu] at hn
  unfold scrub1
  dsimp only
  rw [h1, h2, h3]
  refine ⟨rfl, rfl, rfl, ?_, fun hm hg => ?_⟩
  ·split
   ·rw [h4, Int.add_assoc]
   ·exact h4
  ·obtain ⟨g1, g2, g3⟩ := h5 (by omega) hg
   have hnk : u.next = next + k := hn.trans (Nat.mod_eq_of_lt (by show next + k < m; omega))
   by_cases hr : (arrReadS u.a u.next).2.2 = 0
   ·rw [if_pos hr, if_pos hr]
    exact ⟨g1, fun x hx => by have := g2 x hx; omega, g3⟩
   ·have hx1 : u.next ∉ u.gone := fun h => by have := g2 _ h; omega
    have hx2 : u.next ∉ t.gone := fun h => by
     rw [g1] at h
     rcases List.mem_append.1 h with h | h
     ·have := hg _ h; omega
     ·exact hx1 h
    rw [if_neg hr, if_neg hr, if_neg hx1, if_neg hx2, g1, List.append_assoc]
    refine ⟨rfl, fun x hx => ?_, ?_⟩
    ·rcases List.mem_append.1 hx with hx | hx
     ·have := g2 x hx; omega
     ·obtain rfl := List.mem_singleton.1 hx; omega
    ·refine List.pairwise_append.2 ⟨g3, List.pairwise_singleton _ _, fun x hx y hy => ?_⟩
     obtain rfl := List.mem_singleton.1 hy
     have := g2 x hx; omega
theorem goneI_sorted {l : List Nat} (h : l.Pairwise (· < ·)) : goneI l = l.map (fun (n : Nat) => (n : Int)) := by
 unfold goneI
 apply List.mergeSort_of_pairwise
 rw [List.pairwise_map]
 exact h.imp (fun hab => by simp only [decide_eq_true_eq]; omega)
theorem top_steps {m k j q : Nat} (hm : MOk m) (hk : k < 3) (hj : j < 3) (hkj : j ≠ k) (hq : q ≤ m) {Ls : List (List Fil)} {hs hs' : List HA} (hg : GroupsOk 0 Ls) (hn : Ls.flatten.length ≤ 10) (hh : ∀ x ∈ hs, ActOk k (szOf m k) x) (hd : (turned hs).Nodup) (hh' : ∀ x ∈ hs', ActOk j (szOf m j) x) (hd' : (turned hs').Nodup) :
  FineAll m (sh0 m) ((Ls.map addAct ++ (hs ++ hs').map hurtAct) ++ [scrubAct m]) ∧ FineAll m (sh0 m) ((Ls.map addAct ++ (hs ++ hs').map hurtAct) ++ [scrubAct q, scrubAct (m - q)]) ∧
  ∃ x p b c, (runS m ((Ls.map addAct ++ (hs ++ hs').map hurtAct) ++ [scrubAct m]) (sh0 m)).1 = x ++ [p] ∧ (runS m ((Ls.map addAct ++ (hs ++ hs').map hurtAct) ++ [scrubAct q, scrubAct (m - q)]) (sh0 m)).1 = x ++ [b, c] ∧ p.count = b.count + c.count ∧ p.gone = b.gone ++ c.gone ∧ (0 ≤ b.count ∧ b.count ≤ 200 ∧ 0 ≤ c.count ∧ c.count ≤ 200) ∧
   (runS m ((Ls.map addAct ++ (hs ++ hs').map hurtAct) ++ [scrubAct m]) (sh0 m)).2.a = (runS m ((Ls.map addAct ++ (hs ++ hs').map hurtAct) ++ [scrubAct q, scrubAct (m - q)]) (sh0 m)).2.a := by
 obtain ⟨a1, T, a2, a3, a4, a5⟩ := top_both hm hk hj hkj hg hn hh hd hh' hd'
 obtain ⟨s, hs0⟩ : ∃ s, s = (runS m (Ls.map addAct ++ (hs ++ hs').map hurtAct) (sh0 m)).2 := ⟨_, rfl⟩
 rw [← hs0] at a2 a3 a4
 have h64 := hm.h64
 have h16 := hm.h16
 obtain ⟨b2, b3⟩ := a2.scrub hm (by omega) (k := q) (by omega)
 refine ⟨a1.app (by rw [← hs0]; exact ⟨fine_scrub (a2.ok hm) h64, trivial⟩), a1.app (by rw [← hs0]; exact ⟨fine_scrub (a2.ok hm) (by omega), fine_scrub (b2.ok hm) (by omega), trivial⟩), ?_⟩
 rw [runS_append _ _ [scrubAct m], runS_append _ _ [scrubAct q, _], ← hs0, runS_cons, runS_nil, runS_cons, runS_cons, runS_nil]
 dsimp only
 rw [actS_scrub m s h64, actS_scrub m s (show q ≤ 64 by omega)]
 dsimp only
 rw [actS_scrub m _ (show m - q ≤ 64 by omega)]
 dsimp only
 refine ⟨_, _, _, _, rfl, rfl, ?_⟩
 have e0 : scrubN m s.all m ⟨s.a, s.next, s.rounds, 0, []⟩ = scrubN m s.all (m - q) (scrubN m s.all q ⟨s.a, s.next, s.rounds, 0, []⟩) := by
  rw [← scrub_add, Nat.add_sub_cancel' hq]
 obtain ⟨r1, r2, r3, r4, r5⟩ := scrub_reset (m := m) (all := s.all) (a := s.a) (rounds := s.rounds) a2.next 0 [] q
 obtain ⟨_, q2, q3⟩ := r5 (by omega) (fun x hx => by cases hx)
 obtain ⟨_, f2, f3⟩ := (scrub_reset (m := m) (all := s.all) (a := s.a) (rounds := s.rounds) a2.next 0 [] m).2.2.2.2 (by omega) (fun x hx => by cases hx)
 have hnx := (scrub_next s.all (⟨s.a, s.next, s.rounds, 0, []⟩ : Sc) a2.next q).1
 rw [goneI_sorted f3, goneI_sorted q3]
 rw [e0]
 obtain ⟨t, ht⟩ : ∃ t, t = scrubN m s.all q ⟨s.a, s.next, s.rounds, 0, []⟩ := ⟨_, rfl⟩
 rw [← ht] at q2 q3 hnx ⊢
 have hta : t = ⟨t.a, t.next, t.rounds, t.count, t.gone⟩ := rfl
 have hpt : Part t.a m s.all := by rw [ht]; exact (scrub_part (s := (⟨s.a, s.next, s.rounds, 0, []⟩ : Sc)) (a2.inv.part hm.h64) hm.h16 hm.h64 hm.h2 a2.next q).1
 have htn : t.next < m := by rw [hnx]; exact Nat.mod_lt _ (by omega)
 obtain ⟨u1, u2, u3, u4, u5⟩ := scrub_reset (m := m) (all := s.all) (a := t.a) (rounds := t.rounds) htn t.count t.gone (m - q)
 rw [← hta] at u1 u2 u3 u4 u5
 have hc1 := (scrub_bounds (s := (⟨s.a, s.next, s.rounds, 0, []⟩ : Sc)) (a2.inv.part hm.h64) hm.h16 hm.h64 hm.h2 a2.next q).2.2.2
 have hc2 := (scrub_bounds (s := (⟨t.a, t.next, t.rounds, 0, []⟩ : Sc)) hpt hm.h16 hm.h64 hm.h2 htn (m - q)).2.2.2
 refine ⟨u4, ?_, ?_, u1⟩
 rotate_left
 ·rw [← ht] at hc1
  dsimp only at hc1 hc2 ⊢
  omega
 by_cases hqm : q = m
 ·rw [hqm, Nat.sub_self]
  show t.gone.map _ = t.gone.map _ ++ goneI []
  simp [goneI]
 ·have hnk : t.next = q := by rw [hnx]; exact (Nat.mod_eq_of_lt (by show s.next + q < m; omega)).trans (by show s.next + q = q; omega)
  obtain ⟨v1, v2, v3⟩ := u5 (by omega) (fun x hx => by have := q2 x hx; omega)
  rw [goneI_sorted v3, v1, List.map_append]
theorem okG_sub : ∀ (x : List Ans) (Ls : List (List Fil)), (okG x Ls).Sublist Ls.flatten
 | [], Ls => by unfold okG; exact List.nil_sublist _
 | _ :: _, [] => by unfold okG; exact List.nil_sublist _
 | a :: x, L :: Ls => by
  unfold okG
  rw [List.flatten_cons]
  refine List.Sublist.append ?_ (okG_sub x Ls)
  split
  ·exact List.Sublist.refl _
  ·exact List.nil_sublist _
theorem okG_app : ∀ {x : List Ans} {Ls : List (List Fil)} (z : List Ans), x.length = Ls.length → okG (x ++ z) Ls = okG x Ls
 | [], [], z, _ => by cases z <;> rfl
 | [], _ :: _, z, h => by simp at h
 | _ :: _, [], z, h => by simp at h
 | a :: x, L :: Ls, z, h => by
  show (if a.code = 0 then L else []) ++ okG (x ++ z) Ls = (if a.code = 0 then L else []) ++ okG x Ls
  rw [okG_app z (by simpa using h)]
theorem okG_snoc : ∀ {x : List Ans} {Ls : List (List Fil)} {i : Nat} (hx : i < x.length) (hi : i < Ls.length), okG x (Ls.take (i + 1)) = okG x (Ls.take i) ++ (if x[i].code = 0 then Ls[i] else [])
 | [], _, i, hx, _ => absurd hx (Nat.not_lt_zero _)
 | _ :: _, [], i, _, hi => absurd hi (Nat.not_lt_zero _)
 | a :: x, L :: Ls, 0, _, _ => by
  show (if a.code = 0 then L else []) ++ okG x [] = [] ++ _
  cases x <;> simp [okG]
 | a :: x, L :: Ls, i + 1, hx, hi => by
  show (if a.code = 0 then L else []) ++ okG x (Ls.take (i + 1)) = ((if a.code = 0 then L else []) ++ okG x (Ls.take i)) ++ _
  rw [okG_snoc (i := i) (by simpa using hx) (by simpa using hi), List.append_assoc]
  rfl
theorem fname_le : ∀ i j : Fin 10, i.val < j.val → lst (fname i.val) ≤ lst (fname j.val) := by decide
theorem groups_rise : ∀ {Ls : List (List Fil)} {n : Nat}, GroupsOk n Ls → FilesOk n Ls.flatten
 | [], n, _ => fun k hk => absurd hk (Nat.not_lt_zero _)
 | L :: Ls, n, h => by rw [List.flatten_cons]; exact h.1.app (groups_rise h.2.2.2)
theorem ok_rise {x : List Ans} {Ls : List (List Fil)} (hg : GroupsOk 0 Ls) (hn : Ls.flatten.length ≤ 10) : ((okG x Ls).map (·.name)).Pairwise (fun s t => Op.bytesLess (lst s) (lst t) = true) := by
 refine List.Pairwise.sublist ((okG_sub x Ls).map _) ?_
 rw [List.pairwise_map]
 rw [List.pairwise_iff_getElem]
 intro i j hi hj hij
 have hf := groups_rise hg
 rw [(hf i hi).1, (hf j hj).1]
 exact fname_less ⟨0 + i, by omega⟩ ⟨0 + j, by omega⟩ (by show 0 + i < 0 + j; omega)
theorem ok_le {x : List Ans} {Ls : List (List Fil)} (hg : GroupsOk 0 Ls) (hn : Ls.flatten.length ≤ 10) : ((okG x Ls).map (·.name)).Pairwise (fun s t => lst s ≤ lst t) := by
 refine List.Pairwise.sublist ((okG_sub x Ls).map _) ?_
 rw [List.pairwise_map]
 rw [List.pairwise_iff_getElem]
 intro i j hi hj hij
 have hf := groups_rise hg
 rw [(hf i hi).1, (hf j hj).1]
 exact fname_le ⟨0 + i, by omega⟩ ⟨0 + j, by omega⟩ (by show 0 + i < 0 + j; omega)
theorem top_names {m k : Nat} (hm : MOk m) (hk : k < 3) {Ls : List (List Fil)} {hs : List HA} (hg : GroupsOk 0 Ls) (hn : Ls.flatten.length ≤ 10) (hh : ∀ x ∈ hs, ActOk k (szOf m k) x) (hd : (turned hs).Nodup) :
  FineAll m (sh0 m) (Ls.map addAct ++ (hs.map hurtAct ++ [listAct])) ∧
  ∃ x y l, (runS m (Ls.map addAct ++ (hs.map hurtAct ++ [listAct])) (sh0 m)).1 = x ++ (y ++ [l]) ∧ x.length = Ls.length ∧ l.code = 0 ∧ l.names = (okG x Ls).map (·.name) ∧ l.names.Pairwise (fun s t => Op.bytesLess (lst s) (lst t) = true) := by
 obtain ⟨a1, a2, T, a3, _, a4, _⟩ := top_base hm hk hg hn hh hd
 have hp := a3.inv.part hm.h64
 have h16 := hm.h16
 refine ⟨a1.app (a2.app ⟨fine_list (a3.ok hm), trivial⟩), ?_⟩
 rw [runS_append, runS_append, runS_cons, runS_nil, actS_list]
 dsimp only
 obtain ⟨c, D, ht⟩ := a3.told
 have hop := ht.arch.openS hp hm.h16 hm.h64 hm.h2 (fun i hi => a4.code hp hm.h16 hm.h64 hm.h2 (by omega))
 refine ⟨_, _, _, rfl, by rw [runS_length, List.length_map], ?_, ?_, ?_⟩
 ·rw [hop]
 ·rw [hop]; exact ht.names
 ·rw [hop]
  dsimp only
  rw [ht.names]
  exact ok_rise hg hn
theorem runS_take (m : Nat) : ∀ (l : List ActD) (k : Nat) (s : Sh), (runS m (l.take k) s).1 = (runS m l s).1.take k
 | [], k, s => by rw [List.take_nil]; simp [runS_nil]
 | x :: l, 0, s => rfl
 | x :: l, k + 1, s => by rw [List.take_succ_cons, runS_cons, runS_cons, List.take_succ_cons, runS_take m l k]
theorem top_twice {m k j q : Nat} (hm : MOk m) (hk : k < 3) (hj : j < 3) (hkj : j ≠ k) (hq : q ≤ 64) {Ls : List (List Fil)} {hs hs' : List HA} (hg : GroupsOk 0 Ls) (hn : Ls.flatten.length ≤ 10) (hh : ∀ x ∈ hs, ActOk k (szOf m k) x) (hd : (turned hs).Nodup) (hh' : ∀ x ∈ hs', ActOk j (szOf m j) x) (hd' : (turned hs').Nodup) :
  FineAll m (sh0 m) (Ls.map addAct ++ ((hs ++ hs').map hurtAct ++ ([healthAct, scrubAct q] ++ Ls.flatten.map getAct))) := by
 obtain ⟨a1, T, a2, a3, a4, a5⟩ := top_both hm hk hj hkj hg hn hh hd hh' hd'
 obtain ⟨s, hs0⟩ : ∃ s, s = (runS m (Ls.map addAct ++ (hs ++ hs').map hurtAct) (sh0 m)).2 := ⟨_, rfl⟩
 rw [← hs0] at a2 a3 a4
 obtain ⟨b2, b3⟩ := a2.scrub hm (by omega) (k := q) hq
 rw [← List.append_assoc]
 refine a1.app ?_
 rw [← hs0]
 refine ⟨fine_health (a2.ok hm), ?_⟩
 rw [actS_health]
 exact ⟨fine_scrub (a2.ok hm) hq, fine_gets (b2.ok hm) _⟩
end Go.Proofs.YtgjijcgkmofaaaaGreatDoor
