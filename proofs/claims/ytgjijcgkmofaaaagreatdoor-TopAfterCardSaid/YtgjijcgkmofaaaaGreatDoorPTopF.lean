/-
  Adds between which a device is hurt, bit by bit, in plain Lean: all files that were taken are told. Conditions: as they say.
-/
import Derived.Test.YtgjijcgkmofaaaaGreatDoorQ26
namespace Go.Proofs.YtgjijcgkmofaaaaGreatDoor
set_option linter.unusedSimpArgs false
set_option linter.unusedVariables false
open Go.RowKit
theorem turned_append (l l' : List HA) : turned (l ++ l') = turned l ++ turned l' := by unfold turned; rw [List.filter_append, List.map_append]
def cutAt (i len n : Nat) : Nat := i * len / n
theorem cutAt_mono {i j len n : Nat} (h : i ≤ j) : cutAt i len n ≤ cutAt j len n := Nat.div_le_div_right (Nat.mul_le_mul_right _ h)
theorem cutAt_le {i len n : Nat} (h : i ≤ n) (hn : 0 < n) : cutAt i len n ≤ len := by
 unfold cutAt
 exact Nat.div_le_of_le_mul (Nat.mul_le_mul_right _ h)
def bit (bad : List HA) (n i : Nat) : List HA := (bad.drop (cutAt i bad.length n)).take (cutAt (i + 1) bad.length n - cutAt i bad.length n)
theorem bit_append (bad : List HA) (n i : Nat) : bad.take (cutAt (i + 1) bad.length n) = bad.take (cutAt i bad.length n) ++ bit bad n i := by
 have h := cutAt_mono (len := bad.length) (n := n) (Nat.le_add_right i 1)
 unfold bit
 conv => lhs; rw [show cutAt (i + 1) bad.length n = cutAt i bad.length n + (cutAt (i + 1) bad.length n - cutAt i bad.length n) by omega]
 rw [List.take_add]
def weave (bad : List HA) (Ls : List (List Fil)) : Nat → List ActD
 | 0 => []
 | i + 1 => weave bad Ls i ++ ((bit bad Ls.length i).map hurtAct ++ [addAct (Ls.getD i [])])
def firsts (m : Nat) (bad : List HA) (Ls : List (List Fil)) : Nat → List Ans
 | 0 => []
 | i + 1 => firsts m bad Ls i ++ [(actS m (runS m ((bit bad Ls.length i).map hurtAct) (runS m (weave bad Ls i) (sh0 m)).2).2 (addAct (Ls.getD i []))).2]
theorem firsts_len (m : Nat) (bad : List HA) (Ls : List (List Fil)) : ∀ i, (firsts m bad Ls i).length = i
 | 0 => rfl
 | i + 1 => by
  show (firsts m bad Ls i ++ [_]).length = _
  rw [List.length_append, firsts_len m bad Ls i]; rfl
theorem okG_snoc' : ∀ {x : List Ans} {Ls : List (List Fil)} {a : Ans} {L : List Fil}, x.length = Ls.length → okG (x ++ [a]) (Ls ++ [L]) = okG x Ls ++ (if a.code = 0 then L else [])
 | [], [], a, L, _ => by show (if a.code = 0 then L else []) ++ [] = [] ++ _; simp
 | [], _ :: _, _, _, h => by simp at h
 | _ :: _, [], _, _, h => by simp at h
 | b :: x, K :: Ls, a, L, h => by
  show (if b.code = 0 then K else []) ++ okG (x ++ [a]) (Ls ++ [L]) = ((if b.code = 0 then K else []) ++ okG x Ls) ++ _
  rw [okG_snoc' (by simpa using h), List.append_assoc]
theorem GroupsOk.at_ : ∀ {Ls : List (List Fil)} {n i : Nat} (h : GroupsOk n Ls) (hi : i < Ls.length), FilesOk (n + ((Ls.take i).flatten).length) Ls[i] ∧ 1 ≤ Ls[i].length ∧ Ls[i].length ≤ 2
 | L :: Ls, n, 0, h, _ => ⟨h.1, h.2.1, h.2.2.1⟩
 | L :: Ls, n, i + 1, h, hi => by
  have := GroupsOk.at_ (i := i) h.2.2.2 (by simpa using hi)
  rw [List.take_succ_cons, List.flatten_cons, List.length_append, ← Nat.add_assoc]
  exact this
theorem weave_inv {m k : Nat} (hm : MOk m) (hk : k < 3) {Ls : List (List Fil)} {bad : List HA} (hg : GroupsOk 0 Ls) (hn : Ls.flatten.length ≤ 10) (hh : ∀ x ∈ bad, ActOk k (szOf m k) x) (hd : (turned bad).Nodup) : ∀ i, i ≤ Ls.length →
  FineAll m (sh0 m) (weave bad Ls i) ∧ (∃ T, TI m (runS m (weave bad Ls i) (sh0 m)).2 T (okG (firsts m bad Ls i) (Ls.take i)) (((Ls.take i).flatten).length) ∧ ∀ a p, T a p → a = k ∧ ((p : Nat) : Int) ∈ turned (bad.take (cutAt i bad.length Ls.length))) ∧ Ones (runS m (weave bad Ls i) (sh0 m)).2.a m k
 | 0, _ => by
  obtain ⟨a1, a2, a3, a4⟩ := sh0_facts hm
  exact ⟨trivial, ⟨_, a1, fun _ _ e => e.elim⟩, a2 k⟩
 | i + 1, hi => by
  obtain ⟨b1, ⟨T, b2, b3⟩, b4⟩ := weave_inv hm hk hg hn hh hd i (by omega)
  have hcut := bit_append bad Ls.length i
  have hsub : ∀ x ∈ bit bad Ls.length i, x ∈ bad := fun x hx => List.mem_of_mem_drop (List.mem_of_mem_take hx)
  have hnd : (turned (bad.take (cutAt i bad.length Ls.length) ++ bit bad Ls.length i)).Nodup := by
   rw [← hcut]
   refine List.Nodup.sublist ?_ hd
   unfold turned
   exact ((List.take_sublist _ _).filter _).map _
  rw [turned_append] at hnd
  obtain ⟨c1, ⟨T', c2, c3⟩, c4, _, _⟩ := b2.hurts hm hk (fun x hx => hh x (hsub x hx)) (List.nodup_append.1 hnd).2.1 (fun x hx h5 hT => by
   have h0 := (hh x (hsub x hx)).2.2.1
   have h1 := (b3 _ _ hT).2
   rw [Int.toNat_of_nonneg h0] at h1
   exact (List.nodup_append.1 hnd).2.2 x.n h1 x.n (by unfold turned; exact List.mem_map.2 ⟨x, List.mem_filter.2 ⟨hx, by simpa using h5⟩, rfl⟩) rfl)
  have hi' : i < Ls.length := by omega
  have hget : Ls.getD i [] = Ls[i] := by simp [List.getD, hi']
  obtain ⟨g1, g2, g3⟩ := hg.at_ hi'
  rw [Nat.zero_add] at g1
  have hfl := take_flat_le Ls i hi'
  obtain ⟨d1, d2, d3, d4, d5⟩ := c2.add hm (c4 b4) g1 g2 (by omega) (by omega)
  have e1 : runS m (weave bad Ls (i + 1)) (sh0 m) = _ := runS_append m (weave bad Ls i) _ (sh0 m)
  have e2 : (runS m (weave bad Ls (i + 1)) (sh0 m)).2 = (actS m (runS m ((bit bad Ls.length i).map hurtAct) (runS m (weave bad Ls i) (sh0 m)).2).2 (addAct Ls[i])).1 := by
   rw [e1, runS_append, runS_cons, runS_nil, hget]
  refine ⟨?_, ⟨T', ?_, fun a p e => ?_⟩, by rw [e2]; exact d3⟩
  ·show FineAll m (sh0 m) (weave bad Ls i ++ _)
   refine b1.app (c1.app ⟨?_, trivial⟩)
   rw [hget]; exact d1
  ·rw [e2]
   have e3 : Ls.take (i + 1) = Ls.take i ++ [Ls[i]] := List.take_succ_eq_append_getElem hi'
   have e4 : okG (firsts m bad Ls (i + 1)) (Ls.take (i + 1)) = okG (firsts m bad Ls i) (Ls.take i) ++ (if (actS m (runS m ((bit bad Ls.length i).map hurtAct) (runS m (weave bad Ls i) (sh0 m)).2).2 (addAct Ls[i])).2.code = 0 then Ls[i] else []) := by
    show okG (firsts m bad Ls i ++ [_]) _ = _
    rw [e3, okG_snoc' (by rw [firsts_len, List.length_take]; omega), hget]
   rw [e4, e3, List.flatten_append, List.length_append]
   simpa using d2
  ·rw [hcut, turned_append]
   rcases c3 a p e with e | ⟨e, e'⟩
   ·exact ⟨(b3 a p e).1, List.mem_append_left _ (b3 a p e).2⟩
   ·exact ⟨e, List.mem_append_right _ e'⟩
theorem top_after {m k : Nat} (hm : MOk m) (hk : k < 3) {Ls : List (List Fil)} {bad : List HA} (hg : GroupsOk 0 Ls) (hn : Ls.flatten.length ≤ 10) (hh : ∀ x ∈ bad, ActOk k (szOf m k) x) (hd : (turned bad).Nodup) :
  FineAll m (sh0 m) (weave bad Ls Ls.length ++ Ls.flatten.map getAct) ∧ ∃ y, (runS m (weave bad Ls Ls.length ++ Ls.flatten.map getAct) (sh0 m)).1 = (runS m (weave bad Ls Ls.length) (sh0 m)).1 ++ y ∧ y.length = Ls.flatten.length ∧ ToldOk (firsts m bad Ls Ls.length ++ y) Ls := by
 obtain ⟨b1, ⟨T, b2, _⟩, b4⟩ := weave_inv hm hk hg hn hh hd Ls.length (Nat.le_refl _)
 rw [List.take_length] at b2
 have b2' : TI m (runS m (weave bad Ls Ls.length) (sh0 m)).2 T (okG (firsts m bad Ls Ls.length) Ls) (0 + Ls.flatten.length) := by rw [Nat.zero_add]; exact b2
 refine ⟨b1.app (fine_gets (b2.ok hm) _), (runS m (Ls.flatten.map getAct) (runS m (weave bad Ls Ls.length) (sh0 m)).2).1, by rw [runS_append], by rw [runS_length, List.length_map], ?_⟩
 have := (tell hm b2' hg hn (firsts_len m bad Ls Ls.length) (fun i hi => b4.code (b2.inv.part hm.h64) hm.h16 hm.h64 hm.h2 hi)).told (z := [])
 simpa using this
end Go.Proofs.YtgjijcgkmofaaaaGreatDoor
