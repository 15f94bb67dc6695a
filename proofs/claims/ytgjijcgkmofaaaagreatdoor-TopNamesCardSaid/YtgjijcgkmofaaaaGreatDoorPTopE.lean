/-
  What the laws of the whole ask of scrubs, lists and scripts that are run twice, in plain Lean. Conditions: as they say.
-/
import Derived.Test.YtgjijcgkmofaaaaGreatDoorQ26
namespace Go.Proofs.YtgjijcgkmofaaaaGreatDoor
set_option linter.unusedSimpArgs false
set_option linter.unusedVariables false
open Go.RowKit
theorem actS_list (m : Nat) (s : Sh) : actS m s listAct = (s, ⟨(openS s.a).2, .empty, (openS s.a).1.entries.map (·.name), 0, []⟩) := by
 unfold actS listAct
 dsimp only
 rw [if_neg (by decide), if_neg (by decide), if_pos rfl]
theorem fine_list {m : Nat} {s : Sh} (h : ShOk m s) : ActFine m s listAct := by
 refine ⟨h, fun e => ?_, fun e => ?_, fun e => ?_, fun e => ?_⟩
 ·exact absurd e (by show ¬ (3 : Int) = 1; decide)
 ·exact absurd e (by show ¬ (3 : Int) = 1; decide)
 ·exact absurd e (by show ¬ (3 : Int) = 1; decide)
 ·exact absurd e (by show ¬ (3 : Int) = 7; decide)
theorem okG_sub : ∀ (x : List Ans) (Ls : List (List Fil)), (okG x Ls).Sublist Ls.flatten
 | [], Ls => by unfold okG; exact List.nil_sublist _
 | _ :: _, [] => by unfold okG; exact List.nil_sublist _
 | a :: x, L :: Ls => by
  unfold okG
  rw [List.flatten_cons]
  refine List.Sublist.append ?_ (okG_sub x Ls)
  split
  ·exact List.Sublist.refl _
  ·exact List.nil_sublist _
theorem okG_app : ∀ {x : List Ans} {Ls : List (List Fil)} (z : List Ans), x.length = Ls.length → okG (x ++ z) Ls = okG x Ls
 | [], [], z, _ => by cases z <;> rfl
 | [], _ :: _, z, h => by simp at h
 | _ :: _, [], z, h => by simp at h
 | a :: x, L :: Ls, z, h => by
  show (if a.code = 0 then L else []) ++ okG (x ++ z) Ls = (if a.code = 0 then L else []) ++ okG x Ls
  rw [okG_app z (by simpa using h)]
theorem okG_snoc : ∀ {x : List Ans} {Ls : List (List Fil)} {i : Nat} (hx : i < x.length) (hi : i < Ls.length), okG x (Ls.take (i + 1)) = okG x (Ls.take i) ++ (if x[i].code = 0 then Ls[i] else [])
 | [], _, i, hx, _ => absurd hx (Nat.not_lt_zero _)
 | _ :: _, [], i, _, hi => absurd hi (Nat.not_lt_zero _)
 | a :: x, L :: Ls, 0, _, _ => by
  show (if a.code = 0 then L else []) ++ okG x [] = [] ++ _
  cases x <;> simp [okG]
 | a :: x, L :: Ls, i + 1, hx, hi => by
  show (if a.code = 0 then L else []) ++ okG x (Ls.take (i + 1)) = ((if a.code = 0 then L else []) ++ okG x (Ls.take i)) ++ _
  rw [okG_snoc (i := i) (by simpa using hx) (by simpa using hi), List.append_assoc]
  rfl
theorem fname_le : ∀ i j : Fin 10, i.val < j.val → lst (fname i.val) ≤ lst (fname j.val) := by decide
theorem groups_rise : ∀ {Ls : List (List Fil)} {n : Nat}, GroupsOk n Ls → FilesOk n Ls.flatten
 | [], n, _ => fun k hk => absurd hk (Nat.not_lt_zero _)
 | L :: Ls, n, h => by rw [List.flatten_cons]; exact h.1.app (groups_rise h.2.2.2)
theorem ok_rise {x : List Ans} {Ls : List (List Fil)} (hg : GroupsOk 0 Ls) (hn : Ls.flatten.length ≤ 10) : ((okG x Ls).map (·.name)).Pairwise (fun s t => Op.bytesLess (lst s) (lst t) = true) := by
 refine List.Pairwise.sublist ((okG_sub x Ls).map _) ?_
 rw [List.pairwise_map]
 rw [List.pairwise_iff_getElem]
 intro i j hi hj hij
 have hf := groups_rise hg
 rw [(hf i hi).1, (hf j hj).1]
 exact fname_less ⟨0 + i, by omega⟩ ⟨0 + j, by omega⟩ (by show 0 + i < 0 + j; omega)
theorem ok_le {x : List Ans} {Ls : List (List Fil)} (hg : GroupsOk 0 Ls) (hn : Ls.flatten.length ≤ 10) : ((okG x Ls).map (·.name)).Pairwise (fun s t => lst s ≤ lst t) := by
 refine List.Pairwise.sublist ((okG_sub x Ls).map _) ?_
 rw [List.pairwise_map]
 rw [List.pairwise_iff_getElem]
 intro i j hi hj hij
 have hf := groups_rise hg
 rw [(hf i hi).1, (hf j hj).1]
 exact fname_le ⟨0 + i, by omega⟩ ⟨0 + j, by omega⟩ (by show 0 + i < 0 + j; omega)
theorem top_names {m k : Nat} (hm : MOk m) (hk : k < 3) {Ls : List (List Fil)} {hs : List HA} (hg : GroupsOk 0 Ls) (hn : Ls.flatten.length ≤ 10) (hh : ∀ x ∈ hs, ActOk k (szOf m k) x) (hd : (turned hs).Nodup) :
  FineAll m (sh0 m) (Ls.map addAct ++ (hs.map hurtAct ++ [listAct])) ∧
  ∃ x y l, (runS m (Ls.map addAct ++ (hs.map hurtAct ++ [listAct])) (sh0 m)).1 = x ++ (y ++ [l]) ∧ x.length = Ls.length ∧ l.code = 0 ∧ l.names = (okG x Ls).map (·.name) ∧ l.names.Pairwise (fun s t => Op.bytesLess (lst s) (lst t) = true) := by
 obtain ⟨a1, a2, T, a3, _, a4, _⟩ := top_base hm hk hg hn hh hd
 have hp := a3.inv.part hm.h64
 have h16 := hm.h16
 refine ⟨a1.app (a2.app ⟨fine_list (a3.ok hm), trivial⟩), ?_⟩
 rw [runS_append, runS_append, runS_cons, runS_nil, actS_list]
 dsimp only
 obtain ⟨c, D, ht⟩ := a3.told
 have hop := ht.arch.openS hp hm.h16 hm.h64 hm.h2 (fun i hi => a4.code hp hm.h16 hm.h64 hm.h2 (by omega))
 refine ⟨_, _, _, rfl, by rw [runS_length, List.length_map], ?_, ?_, ?_⟩
 ·rw [hop]
 ·rw [hop]; exact ht.names
 ·rw [hop]
  dsimp only
  rw [ht.names]
  exact ok_rise hg hn
theorem runS_take (m : Nat) : ∀ (l : List ActD) (k : Nat) (s : Sh), (runS m (l.take k) s).1 = (runS m l s).1.take k
 | [], k, s => by rw [List.take_nil]; simp [runS_nil]
 | x :: l, 0, s => rfl
 | x :: l, k + 1, s => by rw [List.take_succ_cons, runS_cons, runS_cons, List.take_succ_cons, runS_take m l k]
theorem top_twice {m k j q : Nat} (hm : MOk m) (hk : k < 3) (hj : j < 3) (hkj : j ≠ k) (hq : q ≤ 64) {Ls : List (List Fil)} {hs hs' : List HA} (hg : GroupsOk 0 Ls) (hn : Ls.flatten.length ≤ 10) (hh : ∀ x ∈ hs, ActOk k (szOf m k) x) (hd : (turned hs).Nodup) (hh' : ∀ x ∈ hs', ActOk j (szOf m j) x) (hd' : (turned hs').Nodup) :
  FineAll m (sh0 m) (Ls.map addAct ++ ((hs ++ hs').map hurtAct ++ ([healthAct, scrubAct q] ++ Ls.flatten.map getAct))) := by
 obtain ⟨a1, T, a2, a3, a4, a5⟩ := top_both hm hk hj hkj hg hn hh hd hh' hd'
 obtain ⟨s, hs0⟩ : ∃ s, s = (runS m (Ls.map addAct ++ (hs ++ hs').map hurtAct) (sh0 m)).2 := ⟨_, rfl⟩
 rw [← hs0] at a2 a3 a4
 obtain ⟨b2, b3⟩ := a2.scrub hm (by omega) (k := q) hq
 rw [← List.append_assoc]
 refine a1.app ?_
 rw [← hs0]
 refine ⟨fine_health (a2.ok hm), ?_⟩
 rw [actS_health]
 exact ⟨fine_scrub (a2.ok hm) hq, fine_gets (b2.ok hm) _⟩
end Go.Proofs.YtgjijcgkmofaaaaGreatDoor
