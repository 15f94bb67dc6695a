/-
  slices.Insert of an entry, wherever it belongs: in place, or in a new row. Conditions: the row is of the caller's own; the entry lies in a block of its own.
-/
import Derived.Test.YtjadmfdlggnlgaaGreatDoorV19
import Derived.Lib.Overlaps
import Derived.Laws.IdiomCopy
import Derived.BigRegion
import Derived.Lib.AppendZerosOnto
namespace Go.Proofs.YtjadmfdlggnlgaaGreatDoor
set_option linter.unusedSimpArgs false
set_option linter.unusedVariables false
set_option maxRecDepth 100000
set_option maxHeartbeats 8000000
open Go.RowKit Go.Lib
section
variable {P : Program}
theorem run_copy_rowC (w : World) (dT sT ty elem : TypeId) (g o dLen dCap : Nat) (a : Addr) (sLen sCap C : Nat) (cur : Array Value) (t : TypeId) (cs : List Value)
  (hu : P.underlying dT = some (.slice elem)) (hs : (P.info? elem).map (·.size) = some C)
  (hg : w.heap[g]? = some (.cells cur t (0, 0))) (hn : cs.length = Nat.min sLen dLen * C)
  (hsrc : ∀ j v, cs[j]? = some v → w.cell? (a.add j) = some v) (hfit : o + cs.length ≤ cur.size) (h1 : ∀ v ∈ cs, v.oneCell' = true) :
  (Builtin.copy_ #[dT, sT] ty #[.slice (some ⟨g, o, none⟩) dLen dCap, .slice (some a) sLen sCap]).run P w =
   .ok (goInt (Nat.min sLen dLen)) (w.setRow g (cur.toList.take o ++ cs ++ cur.toList.drop (o + cs.length)).toArray) := by
 have hl := run_loadCells_list (P := P) w a cs hsrc
 have hst := run_storeCells_at P g o t cs 0 cur w hg (by simpa using hfit) h1
 cases hq : P.info? elem with
 | none => simp [hq] at hs
 | some i =>
  have hi : i.size = C := by simpa [hq] using hs
  simp [Builtin.copy_, run_underlying hu, Builtin.lenOf, Builtin.firstCells, sizeOf, typeInfo, hq, hi, ← hn, hl, hst]
end
section
variable {P : Program}
theorem wp_copy_runC (w : World) {o : Oper} {a : Act} {K : Act → World → Prop} {Q : Exit → Act → World → Prop} (d s : Operand) (t t' : TypeId)
  (ho : o.op = .call { callee := .builtin .copy, args := #[d, s], argTypes := #[t, t'] }) (v u : Value) (hd : a.eval d = v) (hs : a.eval s = u) {v' : Value} {w' : World}
  (hr : (Builtin.copy_ #[t, t'] o.type #[v, u]).run P w = .ok v' w') (h : K (a.put o.dst v') w') : o.wp P a w K Q := by
 unfold Oper.wp execOp
 simp only [ho, resolve, invoke, builtin, Sem.run_bind, Sem.run_pure, Result.andThen_ok, List.map_toArray, List.map_cons, List.map_nil, hd, hs, hr]
 exact h
end
theorem Ent_zeros (z : Array Value) (n : Nat) : (Builtin.zeroCells z n).size = n * z.size := by unfold Builtin.zeroCells; simp
theorem enc_len (l : List Ent) : (l.flatMap encEnt).length = l.length * 4 := length_flatMap encEnt_ok.len l
theorem enc_one {l : List Ent} : ∀ u ∈ l.flatMap encEnt, u.oneCell' = true := fun u hu => by obtain ⟨y, _, hy⟩ := List.mem_flatMap.1 hu; exact encEnt_ok.one y u hy
theorem grown_row {w : World} {g : Nat} {cs : Array Value} : w.grownBy (w.setRow g cs) (some g) := ⟨rfl, rfl, rfl, by simp [World.setRow], fun b hb hne => by
 have : ¬ g = b := fun e => hne (by rw [e])
 simp [World.setRow, Array.getElem?_modify, this]⟩
theorem heap_row {w : World} {g : Nat} {cur cs : Array Value} {t : TypeId} {fr : Nat × Nat} (h : w.heap[g]? = some (.cells cur t fr)) : (w.setRow g cs).heap[g]? = some (.cells cs t fr) := by
 simp [World.setRow, Array.getElem?_modify, h]
theorem mid_row {p q r e : List Value} {C : Nat} (he : e.length = C) (hr : C ≤ r.length) :
  ((p ++ q ++ r).take (p.length + C) ++ q ++ (p ++ q ++ r).drop (p.length + C + q.length)).take p.length ++ e ++ ((p ++ q ++ r).take (p.length + C) ++ q ++ (p ++ q ++ r).drop (p.length + C + q.length)).drop (p.length + e.length) = p ++ e ++ q ++ r.drop C := by
 have h1 : (p ++ q ++ r).length = p.length + q.length + r.length := by simp; omega
 have h2 : ((p ++ q ++ r).take (p.length + C)).length = p.length + C := by rw [List.length_take, h1]; omega
 have h3 : (p ++ q ++ r).drop (p.length + C + q.length) = r.drop C := by
  rw [show p.length + C + q.length = (p ++ q).length + C by rw [List.length_append]; omega, ← List.drop_drop, List.drop_left']
  rfl
 have h4 : ((p ++ q ++ r).take (p.length + C) ++ q ++ (p ++ q ++ r).drop (p.length + C + q.length)).take p.length = p := by
  rw [List.append_assoc, List.take_append_of_le_length (by omega), List.take_take, Nat.min_eq_left (by omega), List.append_assoc, List.take_left']
  rfl
 have h5 : ((p ++ q ++ r).take (p.length + C) ++ q ++ (p ++ q ++ r).drop (p.length + C + q.length)).drop (p.length + e.length) = q ++ r.drop C := by
  rw [h3, he, List.append_assoc, List.drop_left' h2]
 rw [h4, h5]
 simp
theorem insRoom_any (g c base i : Nat) (es : List Ent) (x : Ent) (gv : Nat) (cur : Array Value) (w : World) (hb : base ≤ g) (hg : w.heap[g]? = some (.cells cur 70 (0, 0))) (hc : es.length + 1 ≤ c) (hcm : c ≤ maxLen) (hcs : cur.size = c * 4) (hx : cur.toList.take (es.length * 4) = es.flatMap encEnt)
  (hn : es.length ≤ 20) (hi : i < es.length) (hv : Blk_ w gv 70 (encEnt x).toArray) (hne : gv ≠ g) :
  Calls Tryz.prog 40 #[.slice (some ⟨g, 0, none⟩) es.length c, .int .i64 i, .slice (some ⟨gv, 0, none⟩) 1 1] w fun e w' => e = .returned (.slice (some ⟨g, 0, none⟩) (es.length + 1) c) ∧ w'.ownsRow base 70 4 (.slice (some ⟨g, 0, none⟩) (es.length + 1) c) (es.length + 1) ((es.take i ++ x :: es.drop i).flatMap encEnt) ∧ w.grownBy w' (some g) := by
 obtain ⟨i1, hi1, za1, zb1, zc1⟩ := info_parts info_ent
 have hsz : (Tryz.prog.info? 70).map (·.size) = some 4 := by rw [hi1]; simp [zb1]
 obtain ⟨p, hp⟩ : ∃ p, p = (es.take i).flatMap encEnt := ⟨_, rfl⟩
 obtain ⟨q, hq⟩ : ∃ q, q = (es.drop i).flatMap encEnt := ⟨_, rfl⟩
 obtain ⟨r, hr⟩ : ∃ r, r = cur.toList.drop (es.length * 4) := ⟨_, rfl⟩
 have hpl : p.length = i * 4 := by rw [hp, enc_len, List.length_take, Nat.min_eq_left (by omega)]
 have hql : q.length = (es.length - i) * 4 := by rw [hq, enc_len, List.length_drop]
 have hpq : p ++ q = es.flatMap encEnt := by rw [hp, hq, ← List.flatMap_append, List.take_append_drop]
 have hcur : cur.toList = p ++ q ++ r := by rw [hpq, ← hx, hr, List.take_append_drop]
 have hrl : r.length = c * 4 - es.length * 4 := by rw [hr, List.length_drop, Array.length_toList, hcs]
 have hcell : ∀ (j : Nat) (u : Value), cur.toList[j]? = some u → w.cell? ⟨g, j, none⟩ = some u := by
  intro j u hj
  simp only [World.cell?, hg]
  simpa using hj
 have hov : ∀ lb cb, (callFunc 70 #[.slice (some ⟨gv, 0, none⟩) 1 1, .slice (some ⟨g, (i + 1) * 4, none⟩) lb cb]).run Tryz.prog w = .ok (.value (.bool false)) w := fun lb cb => by
  rw [run_callFunc_extern Tryz.func70 (by kernel_rfl) (by kernel_rfl) (by kernel_rfl) (e := Extern.SlicesOverlaps.overlaps #[38, 38] #[4]) (by kernel_rfl),
   Lib.run_overlaps_apart w 38 4 70 Tryz.underlying38 4 (fun w => by simp [sizeOf, typeInfo, hi1, zb1]) ⟨gv, 0, none⟩ ⟨g, (i + 1) * 4, none⟩ 1 1 lb cb hne 70 70 4 cur.size (by unfold Blk_ at hv; simp [World.shape?, hv, encEnt]) (by simp [World.shape?, hg]) (by omega) (by unfold Blk_ at hv; simp [World.frozen?, hv]) (by unfold Blk_ at hv; simp [World.frozen?, hv])]
  rfl
 have hiI : (i : Int) < (es.length : Int) := by omega
 have hnI : (es.length : Int) ≤ 20 := by omega
 have hcI : (es.length : Int) + 1 ≤ (c : Int) := by omega
 have hcJ : (c : Int) ≤ 9223372036854775807 := by unfold maxLen at hcm; omega
 have hz1 : ¬ ((i : Int) = (es.length : Int)) := by omega
 have hw1 : IntKind.i64.wrap ((i : Int) + 1) = (i : Int) + 1 := by rw [IntKind.wrap_i64]; omega
 have hb1 : (0 : Int) ≤ (i : Int) + 1 := by omega
 have htn : ((i : Int) + 1).toNat = i + 1 := by omega
 have hle1 : (i : Int) + 1 ≤ (es.length : Int) + 1 := by omega
 have hle2 : (i : Int) ≤ (es.length : Int) + 1 := by omega
 have hci1 : ¬ (c = i + 1) := by omega
 have hci : ¬ (c = i) := by omega
 have hmin : Nat.min (es.length + 1 - i) (es.length + 1 - (i + 1)) = es.length - i := by simp only [Nat.min_def]; split <;> omega
 have hmin2 : Nat.min 1 (es.length + 1 - i) = 1 := by simp only [Nat.min_def]; split <;> omega
 have HG := Lib.hid hg
 have HSZ := Lib.hid hsz
 have HC := Lib.hid hcell
 have HL := Lib.hid (And.intro hpl (And.intro hql (And.intro hrl (And.intro hcur (And.intro hcs hcm)))))
 have HPQ := Lib.hid (And.intro hp hq)
 have HV := Lib.hid hv
 have HM := Lib.hid (And.intro hmin hmin2)
 clear hi1 za1 zb1 zc1 hg hsz hcell hpl hql hrl hcur hcs hx hr hp hq hpq hv hmin hmin2 hcm
 go_enter Tryz.func40, Tryz.ntmps40
 go_wp2_with fail
 clear hov
 refine wp_region_all (S := fun _ => True) (by kernel_rfl) ?_
 refine tkL 0 rfl (fun w' hS => by go_simp; rfl) trivial ?_
 refine tkL 1 rfl (fun w' hS => by go_simp; rfl) trivial ?_
 refine tkL 2 rfl (fun w' hS => by go_simp; rfl) trivial ?_
 try simp only [Act.put, List.setIfInBounds_toArray, List.set_cons_zero, List.set_cons_succ]
 refine tkL 3 rfl (fun w' hS => by go_simp; rfl) trivial ?_
 refine tkL 4 (v := .slice (some ⟨g, (i + 1) * 4, none⟩) (es.length + 1 - (i + 1)) (c - (i + 1))) rfl (fun w' hS => by go_simp; try rfl) trivial ?_
 refine tkL 5 rfl (fun w' hS => by go_simp; rfl) trivial ?_
 try simp only [Act.put, List.setIfInBounds_toArray, List.set_cons_zero, List.set_cons_succ]
 refine tkL 6 rfl (fun w' hS => by go_simp; rfl) trivial ?_
 refine tkL 7 (v := .slice (some ⟨g, i * 4, none⟩) (es.length + 1 - i) (c - i)) rfl (fun w' hS => by go_simp; try rfl) trivial ?_
 try simp only [Act.put, List.setIfInBounds_toArray, List.set_cons_zero, List.set_cons_succ]
 refine wpAnyH_oneL (i := 8) rfl (by kernel_rfl) rfl (fun K hK => ?_)
 refine wp_copy_runC w.drew (.tmp 73) (.tmp 76) 38 38 rfl (.slice (some ⟨g, (i + 1) * 4, none⟩) (es.length + 1 - (i + 1)) (c - (i + 1))) (.slice (some ⟨g, i * 4, none⟩) (es.length + 1 - i) (c - i)) rfl rfl
  (run_copy_rowC w.drew _ _ _ 70 g ((i + 1) * 4) _ _ ⟨g, i * 4, none⟩ _ _ 4 cur _ q Tryz.underlying38 HSZ.out HG.out (by rw [HM.out.1]; exact HL.out.2.1) (fun j u hj => ?_) (by have h1 := HL.out.2.1; have h2 := HL.out.2.2.2.2.1; omega) (by have h := HPQ.out.2; subst h; exact enc_one)) ?_
 ·rw [Addr.add_lit]
  refine HC.out (i * 4 + j) u ?_
  have h1 := HL.out.1
  rw [HL.out.2.2.2.1, List.append_assoc, List.getElem?_append_right (by omega), show i * 4 + j - p.length = j by omega, List.getElem?_append_left (List.getElem?_eq_some_iff.1 hj).1]
  exact hj
 refine hK _ _ trivial ?_
 clear hK K
 try simp only [Act.put, List.setIfInBounds_toArray, List.set_cons_zero, List.set_cons_succ]
 obtain ⟨R1, hR1⟩ : ∃ z, z = cur.toList.take ((i + 1) * 4) ++ q ++ cur.toList.drop ((i + 1) * 4 + q.length) := ⟨_, rfl⟩
 rw [← hR1]
 have HR1 := Lib.hid hR1
 clear hR1
 refine anyH_abs (fun W => W.heap[g]? = some (.cells R1.toArray 70 (0, 0)) ∧ Blk_ W gv 70 (encEnt x).toArray ∧ w.grownBy W (some g)) ⟨heap_row HG.out, ((((Ext.refl w).drew.by_ (some g)).trans (grown_row (w := w.drew) (g := g) (cs := R1.toArray))).block gv HV.out.lt (fun e => hne (by injection e))).trans HV.out, ((Ext.refl w).drew.by_ (some g)).trans (grown_row (w := w.drew))⟩ ?_
 rintro W1 ⟨hg1, hv1, hgr1⟩
 refine wpAnyH_done (by kernel_rfl) ?_ _
 have H1 := Lib.hid (And.intro hg1 (And.intro hv1 hgr1))
 have hpe : p.length + 4 = (i + 1) * 4 := by have := HL.out.1; omega
 have hR : R1 = (p ++ q ++ r).take (p.length + 4) ++ q ++ (p ++ q ++ r).drop (p.length + 4 + q.length) := by rw [hpe, ← HL.out.2.2.2.1]; exact HR1.out
 have hmr := mid_row (p := p) (q := q) (r := r) (e := encEnt x) (C := 4) rfl (by have := HL.out.2.2.1; omega)
 rw [← hR, HL.out.1] at hmr
 have hrs : R1.length = c * 4 := by
  rw [hR]
  have h1 := HL.out.1; have h2 := HL.out.2.1; have h3 := HL.out.2.2.1
  simp only [List.length_append, List.length_take, List.length_drop]
  omega
 have HMR := Lib.hid hmr
 have HRS := Lib.hid hrs
 clear hg1 hv1 hgr1 hpe hR hmr hrs HR1
 have hcp : ∀ (W : World) (ty : TypeId), W.heap = W1.heap → (Builtin.copy_ #[38, 38] ty #[.slice (some ⟨g, i * 4, none⟩) (es.length + 1 - i) (c - i), .slice (some ⟨gv, 0, none⟩) 1 1]).run Tryz.prog W = .ok (goInt (Nat.min 1 (es.length + 1 - i))) (W.setRow g (R1.toArray.toList.take (i * 4) ++ encEnt x ++ R1.toArray.toList.drop (i * 4 + (encEnt x).length)).toArray) := fun W ty hW =>
  run_copy_rowC W _ _ ty 70 g (i * 4) _ _ ⟨gv, 0, none⟩ _ _ 4 R1.toArray _ (encEnt x) Tryz.underlying38 HSZ.out (by rw [hW]; exact H1.out.1) (by rw [HM.out.2]; rfl) (fun j u hj => by
   have hb : Blk_ W gv 70 (encEnt x).toArray := by unfold Blk_; rw [hW]; exact H1.out.2.1
   rw [Addr.add_lit, Nat.zero_add, hb.cell, List.getElem?_toArray]; exact hj) (by rw [List.size_toArray, HRS.out]; have : (encEnt x).length = 4 := rfl; omega) (fun u hu => encEnt_ok.one x u hu)
 go_wp2_with (at_builtin; refine wpList_copy_runC _ rfl (.tmp 80) (.tmp 81) 38 38 rfl _ _ rfl rfl (hcp _ _ rfl) ?_)
 go_ret
 have hmr := HMR.out
 have hl := HL.out
 have hpq := HPQ.out
 have e1 : R1.toArray.toList = R1 := List.toList_toArray
 have hxs : (es.take i ++ x :: es.drop i).flatMap encEnt = p ++ encEnt x ++ q := by rw [List.flatMap_append, List.flatMap_cons, hpq.1, hpq.2, List.append_assoc]
 have hxl : (encEnt x).length = 4 := rfl
 refine ⟨rfl, ⟨?_, .inr ⟨g, c, _, rfl, hb, heap_row H1.out.1, hc, hl.2.2.2.2.2, ?_, ?_⟩⟩, H1.out.2.2.trans grown_row⟩
 ·(first | rw [hxs] | rw [← hpq.1, ← hpq.2]); simp only [List.length_append]; omega
 ·have hm2 := hmr
  simp only [List.append_assoc] at hm2
  (first | rw [hm2] | rw [e1, hmr])
  rw [List.size_toArray]; simp only [List.length_append, List.length_drop]; omega
 ·have hm2 := hmr
  simp only [List.append_assoc] at hm2
  have e2 : (p ++ (encEnt x ++ (q ++ r.drop 4))).take ((es.length + 1) * 4) = p ++ (encEnt x ++ q) := by
   rw [show p ++ (encEnt x ++ (q ++ r.drop 4)) = (p ++ (encEnt x ++ q)) ++ r.drop 4 by simp only [List.append_assoc], List.take_left' (by simp only [List.length_append]; omega)]
  rw [← hpq.1, ← hpq.2]
  first | exact (by rw [hm2]; exact e2) | (rw [List.toList_toArray, hm2]; exact e2)
theorem seg_put {a z e : List Value} {k : Nat} (hk : k = a.length) : (a ++ z).take k ++ e ++ (a ++ z).drop (k + e.length) = a ++ e ++ z.drop e.length := by
 subst hk
 rw [List.take_left' rfl, ← List.drop_drop, List.drop_left' rfl]
theorem insGrow_any (g base i : Nat) (es : List Ent) (x : Ent) (gv : Nat) (cur : Array Value) (w : World) (hb : base ≤ w.heap.size) (hg : w.heap[g]? = some (.cells cur 70 (0, 0))) (hcs : cur.size = es.length * 4) (hx : cur.toList.take (es.length * 4) = es.flatMap encEnt)
  (hn : es.length ≤ 20) (hi : i < es.length) (hv : Blk_ w gv 70 (encEnt x).toArray) :
  Calls Tryz.prog 40 #[.slice (some ⟨g, 0, none⟩) es.length es.length, .int .i64 i, .slice (some ⟨gv, 0, none⟩) 1 1] w fun e w' => ∃ c', e = .returned (.slice (some ⟨w.heap.size, 0, none⟩) (es.length + 1) c') ∧ w'.ownsRow base 70 4 (.slice (some ⟨w.heap.size, 0, none⟩) (es.length + 1) c') (es.length + 1) ((es.take i ++ x :: es.drop i).flatMap encEnt) ∧ Ext w w' := by
 obtain ⟨i1, hi1, za1, zb1, zc1⟩ := info_parts info_ent
 have hsz : (Tryz.prog.info? 70).map (·.size) = some 4 := by rw [hi1]; simp [zb1]
 obtain ⟨p, hp⟩ : ∃ p, p = (es.take i).flatMap encEnt := ⟨_, rfl⟩
 obtain ⟨q, hq⟩ : ∃ q, q = (es.drop i).flatMap encEnt := ⟨_, rfl⟩
 have hpl : p.length = i * 4 := by rw [hp, enc_len, List.length_take, Nat.min_eq_left (by omega)]
 have hql : q.length = (es.length - i) * 4 := by rw [hq, enc_len, List.length_drop]
 have hpq : p ++ q = es.flatMap encEnt := by rw [hp, hq, ← List.flatMap_append, List.take_append_drop]
 have hcur : cur.toList = p ++ q := by rw [hpq, ← hx, List.take_of_length_le (by rw [Array.length_toList]; omega)]
 have hcell : ∀ (W : World), W.heap[g]? = w.heap[g]? → ∀ (j : Nat) (u : Value), cur.toList[j]? = some u → W.cell? ⟨g, j, none⟩ = some u := by
  intro W hW j u hj
  simp only [World.cell?, hW, hg]
  simpa using hj
 have hgl : g < w.heap.size := (Array.getElem?_eq_some_iff.1 hg).1
 obtain ⟨N, hN⟩ : ∃ N, N = w.heap.size := ⟨_, rfl⟩
 obtain ⟨G, hG⟩ : ∃ G, G = grownCap w (es.length + 1) es.length 70 := ⟨_, rfl⟩
 have hGn : es.length + 1 ≤ G := by rw [hG]; exact grownCap_ge w _ _ _
 have hG63 : G ≤ maxLen := by rw [hG]; exact grownCap_le_maxLen w (es.length + 1) es.length 70 (by unfold maxLen; omega)
 have hik : i + (es.length + 1 - i) = es.length + 1 := by omega
 obtain ⟨Z, hZ⟩ : ∃ Z : List Value, Z = (Builtin.zeroCells (Value.agg #[.string .empty, .int .i64 0, .int .i64 0, .int .i64 0]).cells (es.length + 1 - i)).toList ++ (Builtin.zeroCells (Value.agg #[.string .empty, .int .i64 0, .int .i64 0, .int .i64 0]).cells (G - (es.length + 1))).toList := ⟨_, rfl⟩
 have hZl : Z.length = (G - i) * 4 := by
  have h1 := Ent_zeros (Value.agg #[.string .empty, .int .i64 0, .int .i64 0, .int .i64 0]).cells (es.length + 1 - i)
  have h2 := Ent_zeros (Value.agg #[.string .empty, .int .i64 0, .int .i64 0, .int .i64 0]).cells (G - (es.length + 1))
  have h3 : (Value.agg #[.string .empty, .int .i64 0, .int .i64 0, .int .i64 0]).cells.size = 4 := rfl
  rw [h3] at h1 h2
  have h4 : ∀ a : Array Value, a.toList.length = a.size := fun a => Array.length_toList
  rw [hZ, List.length_append, h4, h4, h1, h2]
  omega
 have hrz : ∀ ty, (Builtin.append_ #[38, 3] ty #[.slice (some ⟨g, 0, none⟩) i es.length, .int .i64 ((es.length : Int) + 1 - (i : Int))]).run Tryz.prog w =
   .ok (.slice (some ⟨N, 0, none⟩) (es.length + 1) G) (w.drew.alloc (.cells (p ++ Z).toArray 70)) := fun ty => by
  have h := Lib.run_append_grow_zeros w 38 3 ty 70 i1 _ .i64 .i64 Tryz.underlying38 Tryz.underlying3 hi1 za1 (some ⟨g, 0, none⟩) i es.length p (by
   rw [zb1]
   exact run_firstCells_some w.drew 4 i ⟨g, 0, none⟩ i es.length p hpl (fun j u hj => by
    rw [Addr.add_lit, Nat.zero_add]
    exact hcell w.drew rfl j u (by rw [hcur, List.getElem?_append_left (List.getElem?_eq_some_iff.1 hj).1]; exact hj))) (es.length + 1 - i) (by omega) (by rw [zb1]; decide) (by omega) (by omega) (by rw [zc1]; omega) (by rw [zc1, hik]; exact growslice_fits (by omega) (by omega))
  rw [hik, ← hG, ← hN] at h
  rw [show (es.length : Int) + 1 - (i : Int) = ((es.length + 1 - i : Nat) : Int) by omega, h]
  congr 3
  rw [hZ]
  simp
 have hmin : Nat.min (es.length - i) (es.length + 1 - (i + 1)) = es.length - i := by simp only [Nat.min_def]; split <;> omega
 have hmin2 : Nat.min 1 (es.length + 1 - i) = 1 := by simp only [Nat.min_def]; split <;> omega
 obtain ⟨W1, hW1⟩ : ∃ W, W = w.drew.alloc (.cells (p ++ Z).toArray 70) := ⟨_, rfl⟩
 have h1N : W1.heap[N]? = some (.cells (p ++ Z).toArray 70 (0, 0)) := by rw [hW1, hN]; exact heap_alloc_new w.drew _
 have h1x : Ext w W1 := by rw [hW1]; exact (Ext.refl w).drew.alloc _
 have h1v : Blk_ W1 gv 70 (encEnt x).toArray := hv.ext h1x
 obtain ⟨R1, hR1⟩ : ∃ z, z = (p ++ Z).take (i * 4) ++ encEnt x ++ (p ++ Z).drop (i * 4 + (encEnt x).length) := ⟨_, rfl⟩
 have hxl : (encEnt x).length = 4 := rfl
 have hr1 : R1 = p ++ encEnt x ++ Z.drop 4 := by rw [hR1, seg_put hpl.symm, hxl]
 have hcpA : ∀ (W : World) (ty : TypeId) (dc : Nat), W.heap = W1.heap → (Builtin.copy_ #[38, 38] ty #[.slice (some ⟨N, i * 4, none⟩) (es.length + 1 - i) dc, .slice (some ⟨gv, 0, none⟩) 1 1]).run Tryz.prog W = .ok (goInt (Nat.min 1 (es.length + 1 - i))) (W.setRow N R1.toArray) := fun W ty dc hW => by
  have h := run_copy_rowC W 38 38 ty 70 N (i * 4) (es.length + 1 - i) dc ⟨gv, 0, none⟩ 1 1 4 (p ++ Z).toArray 70 (encEnt x) Tryz.underlying38 hsz (by rw [hW]; exact h1N) (by rw [hmin2]; rfl) (fun j u hj => by
   have hb : Blk_ W gv 70 (encEnt x).toArray := by unfold Blk_; rw [hW]; exact h1v
   rw [Addr.add_lit, Nat.zero_add, hb.cell, List.getElem?_toArray]; exact hj) (by rw [List.size_toArray, List.length_append]; omega) (fun u hu => encEnt_ok.one x u hu)
  rw [h, hR1]
 have hiI : (i : Int) < (es.length : Int) := by omega
 have hnI : (es.length : Int) ≤ 20 := by omega
 have hz1 : ¬ ((i : Int) = (es.length : Int)) := by omega
 have hz3 : (es.length : Int) < (es.length : Int) + 1 := by omega
 have hci : ¬ (es.length = i) := by omega
 have hGi : ¬ (G = i) := by omega
 have hGi1 : ¬ (G = i + 1) := by omega
 have hw1 : IntKind.i64.wrap ((i : Int) + 1) = (i : Int) + 1 := by rw [IntKind.wrap_i64]; omega
 have hb1 : (0 : Int) ≤ (i : Int) + 1 := by omega
 have htn : ((i : Int) + 1).toNat = i + 1 := by omega
 have hle1 : (i : Int) + 1 ≤ (es.length : Int) + 1 := by omega
 have hle2 : (i : Int) ≤ (es.length : Int) + 1 := by omega
 have hle3 : (i : Int) ≤ (es.length : Int) := by omega
 have hG63' : (G : Int) ≤ 9223372036854775807 := by unfold maxLen at hG63; omega
 have hGI : (es.length : Int) + 1 ≤ (G : Int) := by omega
 subst hW1
 have HG := Lib.hid hg
 have HSZ := Lib.hid hsz
 have HC := Lib.hid hcell
 have HL := Lib.hid (And.intro hpl (And.intro hql (And.intro hZl (And.intro hr1 hG63))))
 have HPQ := Lib.hid (And.intro hp (And.intro hq hcur))
 have HM := Lib.hid (And.intro hmin hmin2)
 have H1 := Lib.hid (And.intro h1N h1x)
 have HN := Lib.hid hN
 have HGL := Lib.hid hgl
 have HB := Lib.hid hb
 have HGN := Lib.hid hGn
 clear hi1 za1 zb1 zc1 hg hsz hcell hpl hql hZl hr1 hG63 hp hq hcur hmin hmin2 h1N h1x h1v hcs hx hv hpq hZ hG hN hgl hb hR1 hxl hGn hik
 go_enter Tryz.func40, Tryz.ntmps40
 have hcpA' := hcpA (w.alloc (.cells (p ++ Z).toArray 70)).drew 3 (G - i) rfl
 go_wp2_with (at_builtin; refine Lib.wpList_append_run _ rfl _ _ _ _ rfl _ _ rfl rfl _ _ (hrz _) ?_)
 clear hcpA hcpA' hrz
 have hx0 : Ext w ((w.alloc (.cells (p ++ Z).toArray 70)).drew.setRow N R1.toArray) := (((Ext.refl w).alloc _).drew).grown grown_row (fun k hk => by injection hk with hk; rw [← hk, HN.out]; exact Nat.le_refl _)
 refine wp_abs (fun W => W.heap[N]? = some (.cells R1.toArray 70 (0, 0)) ∧ W.heap[g]? = w.heap[g]? ∧ Ext w W) ⟨heap_row H1.out.1, hx0.below.block g HGL.out, hx0⟩ ?_
 clear hx0
 rintro W2 ⟨hn2, hg2, hx2⟩
 refine wp_region_all (S := fun _ => True) (by kernel_rfl) ?_
 refine tkL 0 rfl (fun w' hS => by go_simp; rfl) trivial ?_
 refine tkL 1 rfl (fun w' hS => by go_simp; rfl) trivial ?_
 refine tkL 2 rfl (fun w' hS => by go_simp; rfl) trivial ?_
 try simp only [Act.put, List.setIfInBounds_toArray, List.set_cons_zero, List.set_cons_succ]
 refine tkL 3 rfl (fun w' hS => by go_simp; rfl) trivial ?_
 refine tkL 4 (v := .slice (some ⟨N, (i + 1) * 4, none⟩) (es.length + 1 - (i + 1)) (G - (i + 1))) rfl (fun w' hS => by go_simp; try rfl) trivial ?_
 refine tkL 5 rfl (fun w' hS => by go_simp; rfl) trivial ?_
 try simp only [Act.put, List.setIfInBounds_toArray, List.set_cons_zero, List.set_cons_succ]
 refine tkL 6 rfl (fun w' hS => by go_simp; rfl) trivial ?_
 refine tkL 7 (v := .slice (some ⟨g, i * 4, none⟩) (es.length - i) (es.length - i)) rfl (fun w' hS => by go_simp; try rfl) trivial ?_
 try simp only [Act.put, List.setIfInBounds_toArray, List.set_cons_zero, List.set_cons_succ]
 refine wpAnyH_oneL (i := 8) rfl (by kernel_rfl) rfl (fun K hK => ?_)
 refine wp_copy_runC W2.drew (.tmp 50) (.tmp 53) 38 38 rfl (.slice (some ⟨N, (i + 1) * 4, none⟩) (es.length + 1 - (i + 1)) (G - (i + 1))) (.slice (some ⟨g, i * 4, none⟩) (es.length - i) (es.length - i)) rfl rfl
  (run_copy_rowC W2.drew _ _ _ 70 N ((i + 1) * 4) _ _ ⟨g, i * 4, none⟩ _ _ 4 R1.toArray _ q Tryz.underlying38 HSZ.out hn2 (by rw [HM.out.1]; exact HL.out.2.1) (fun j u hj => ?_) ?_ (by have h := HPQ.out.2.1; subst h; exact enc_one)) ?_
 ·rw [Addr.add_lit]
  refine HC.out W2.drew hg2 (i * 4 + j) u ?_
  have h1 := HL.out.1
  rw [HPQ.out.2.2, List.getElem?_append_right (by omega), show i * 4 + j - p.length = j by omega]
  exact hj
 ·have h1 := HL.out.1
  have h2 := HL.out.2.1
  have h3 := HL.out.2.2.1
  have h4 := HGN.out
  have h5 : (encEnt x).length = 4 := rfl
  rw [List.size_toArray, HL.out.2.2.2.1]
  simp only [List.length_append, List.length_drop]
  omega
 refine hK _ _ trivial ?_
 clear hK K
 try simp only [Act.put, List.setIfInBounds_toArray, List.set_cons_zero, List.set_cons_succ]
 have hp4 : (i + 1) * 4 = (p ++ encEnt x).length := by have h1 := HL.out.1; have h5 : (encEnt x).length = 4 := rfl; rw [List.length_append]; omega
 have hr2 : R1.toArray.toList.take ((i + 1) * 4) ++ q ++ R1.toArray.toList.drop ((i + 1) * 4 + q.length) = p ++ encEnt x ++ q ++ (Z.drop 4).drop q.length := by
  rw [show R1.toArray.toList = R1 from rfl, HL.out.2.2.2.1, seg_put hp4]
 rw [hr2]
 have hx3 : Ext w (W2.drew.setRow N (p ++ encEnt x ++ q ++ (Z.drop 4).drop q.length).toArray) := (hx2.drew).grown grown_row (fun k hk => by injection hk with hk; rw [← hk, HN.out]; exact Nat.le_refl _)
 refine anyH_abs (fun W => W.heap[N]? = some (.cells (p ++ encEnt x ++ q ++ (Z.drop 4).drop q.length).toArray 70 (0, 0)) ∧ Ext w W) ⟨heap_row (w := W2.drew) hn2, hx3⟩ ?_
 clear hx3 hr2 hp4 hn2 hg2 hx2
 rintro W3 ⟨hn3, hx3⟩
 refine wpAnyH_done (by kernel_rfl) ?_ _
 have H3 := Lib.hid (And.intro hn3 hx3)
 clear hn3 hx3
 go_wp2_with fail
 go_ret
 have hl := HL.out
 have hpq := HPQ.out
 have hgn := HGN.out
 have hxl : (encEnt x).length = 4 := rfl
 refine ⟨G, by rw [← HN.out]; rfl, ⟨?_, .inr ⟨N, G, _, by rw [HN.out], by rw [HN.out]; exact HB.out, H3.out.1, hgn, hl.2.2.2.2, ?_, ?_⟩⟩, H3.out.2⟩
 ·simp only [List.flatMap_append, List.flatMap_cons, List.length_append]; rw [← hpq.1, ← hpq.2.1]; omega
 ·rw [List.size_toArray]; simp only [List.length_append, List.length_drop]; omega
 ·rw [show (p ++ encEnt x ++ q ++ (Z.drop 4).drop q.length).toArray.toList = p ++ encEnt x ++ q ++ (Z.drop 4).drop q.length from rfl, List.take_left' (by simp only [List.length_append]; omega), List.flatMap_append, List.flatMap_cons, ← hpq.1, ← hpq.2.1, List.append_assoc]
theorem insAny_any (A : Option Addr) (c base i : Nat) (es : List Ent) (x : Ent) (gv : Nat) (w : World) (ho : w.ownsRow base 70 4 (.slice A es.length c) es.length (es.flatMap encEnt)) (hn : es.length ≤ 20) (hi : i ≤ es.length) (hb : base ≤ gv) (hv : Blk_ w gv 70 (encEnt x).toArray) (hne : (Value.slice A es.length c).ownBlock ≠ some gv) :
  Calls Tryz.prog 40 #[.slice A es.length c, .int .i64 i, .slice (some ⟨gv, 0, none⟩) 1 1] w fun e w' => ∃ A' c', e = .returned (.slice A' (es.length + 1) c') ∧ w'.ownsRow base 70 4 (.slice A' (es.length + 1) c') (es.length + 1) ((es.take i ++ x :: es.drop i).flatMap encEnt) ∧ w.grownBy w' (Value.slice A es.length c).ownBlock ∧
   ((Value.slice A' (es.length + 1) c').ownBlock = (Value.slice A es.length c).ownBlock ∨ (Value.slice A' (es.length + 1) c').ownBlock = some w.heap.size) := by
 have hbw : base ≤ w.heap.size := by have := hv.lt; omega
 by_cases hie : i = es.length
 ·subst hie
  refine (insertEnd_any A c base es.length (es.flatMap encEnt) x gv w ho hn hbw (fun j u hj => by rw [hv.cell, List.getElem?_toArray]; exact hj)).mono ?_
  rintro e w' ⟨A', c', rfl, h1, h2, h3⟩
  refine ⟨A', c', rfl, ?_, h2, h3⟩
  rw [List.take_length, List.drop_length, List.flatMap_append]
  simpa using h1
 ·have hil : i < es.length := by omega
  rcases ho.2 with ⟨_, h0⟩ | ⟨g, cap, cur, hvv, hbg, hg, hnc, hcm, hsz, htk⟩
  ·omega
  ·injection hvv with a1 a2 a3
   subst a1 a3
   have hne' : gv ≠ g := fun e => hne (by rw [e]; rfl)
   by_cases hroom : es.length + 1 ≤ c
   ·refine (insRoom_any g c base i es x gv cur w hbg hg hroom hcm hsz htk hn hil hv hne').mono ?_
    rintro e w' ⟨rfl, h1, h2⟩
    exact ⟨_, _, rfl, h1, h2, .inl rfl⟩
   ·obtain rfl : c = es.length := by omega
    refine (insGrow_any g base i es x gv cur w hbw hg hsz htk hn hil hv).mono ?_
    rintro e w' ⟨c', rfl, h1, h2⟩
    exact ⟨_, _, rfl, h1, h2.by_ _, .inr rfl⟩
end Go.Proofs.YtjadmfdlggnlgaaGreatDoor
namespace Go.Proofs.YtjadmfdlggnlgaaGreatDoor
set_option linter.unusedSimpArgs false
set_option linter.unusedVariables false
set_option maxRecDepth 100000
set_option maxHeartbeats 8000000
open Go.RowKit
theorem entriesG_any (cs : List Value) (d : Cat) (v : Value) (l : List Fil) (w : World) (h : RCat w cs d) (hf : SlR 2 32 RFil w v l) (hp : d.entries.Pairwise Less) (hd : d.entries.length ≤ 10) (hl : l.length ≤ 10) (hz : ∀ f ∈ l, f.data.size ≤ 200) (hb : d.blocks.length ≤ 10) :
  Calls Tryz.prog 11 #[.agg cs.toArray, v] w fun e w' =>
   (addE d.blocks.length d.entries 0 l = none ∧ e = .returned (.tuple #[.slice none 0 0, .int .i64 7]) ∧ Ext w w') ∨
   (∃ es A c, addE d.blocks.length d.entries 0 l = some es ∧ e = .returned (.tuple #[.slice A es.length c, .int .i64 0]) ∧ Ext w w' ∧ w'.ownsRow w.heap.size 70 4 (.slice A es.length c) es.length (es.flatMap encEnt)) := by
 have h' := h
 obtain ⟨v1, v2, rfl, h1, h2'⟩ := h'
 have h2 := h2'
 obtain ⟨A1, c1, rfl, l1, hc1, p1⟩ := h1.rowE encBlk_ok
 obtain ⟨A2, c2, rfl, l2, hc2, s1⟩ := h2'.rowE encEnt_ok
 obtain ⟨A3, c3, rfl, hlb3, hc3, r3⟩ := hf.rowE encFil_ok
 have HF := Lib.hid r3
 have HE := Lib.hid h2
 have HP := Lib.hid hp
 have HD := Lib.hid hd
 have HL := Lib.hid hl
 have HZ := Lib.hid hz
 have hbI : (d.blocks.length : Int) ≤ 10 := by omega
 have hlI : (l.length : Int) ≤ 10 := by omega
 clear h h1 h2' h2 l1 hc1 p1 l2 hc2 s1 hf hlb3 hc3 r3 hp hd hl hz
 go_enter Tryz.func11, Tryz.ntmps11
 go_wp2_with fail
 refine calls_abs (fun W => Ext w W ∧ Blk_ W w.heap.size 40 #[.slice A1 d.blocks.length c1, .slice A2 d.entries.length c2]) ⟨(Ext.refl _).alloc _, Blk_.new _ _ _⟩ ?_
 rintro w1 ⟨hx1, hb1⟩
 obtain ⟨b2, hb2⟩ : ∃ b, b = w.heap.size := ⟨_, rfl⟩
 rw [← hb2] at hb1 ⊢
 have HB2 := Lib.hid hb2
 have HX1 := Lib.hid hx1
 have HB1 := Lib.hid hb1
 have HE1 := Lib.hid (HE.out.ext REnt.stays hx1)
 clear hx1 hb1 hb2
 refine (clone_ent _ _ d.entries HE1.out).mono ?_
 rintro e w2 ⟨A5, c5, rfl, hx2, ho2⟩
 have HX2 := Lib.hid hx2
 have HO2 := Lib.hid ho2
 have HW1 := Lib.hid (show b2 < w1.heap.size from HB1.out.lt)
 clear hx2 ho2
 go_wp2_with fail
 go_loopw [6, 7, 17] (fun ev pv iv wr => ∃ (k p : Nat) (es : List Ent) (A : Option Addr) (c : Nat), ev = .slice A es.length c ∧ pv = .int .i64 p ∧ iv = .int .i64 k ∧ k ≤ l.length ∧ p ≤ 200 * k ∧ es.length = d.entries.length + k ∧ es.Pairwise Less ∧
   addE d.blocks.length es p (l.drop k) = addE d.blocks.length d.entries 0 l ∧ Ext w1 wr ∧ w1.heap.size ≤ wr.heap.size ∧ wr.ownsRow w1.heap.size 70 4 (.slice A es.length c) es.length (es.flatMap encEnt)) (fun _ _ iv _ => l.length - (intOf iv).toNat)
 case atStart => exact ⟨0, 0, d.entries, A5, c5, rfl, rfl, rfl, Nat.zero_le _, Nat.le_refl _, rfl, HP.out, rfl, HX2.out, HX2.out.size, HO2.out⟩
 case round =>
  clear HO2 HX2
  obtain ⟨k, p, es, A, c, rfl, rfl, rfl, hk, hpk, hel, hpw, hadd, hx, hsz, ho⟩ := hrel
  have hes : (es.length : Int) ≤ 20 := by have := HD.out; have := HL.out; omega
  have hpI : (p : Int) ≤ 2000 := by have := HL.out; omega
  have HO := Lib.hid ho
  have HX := Lib.hid hx
  have HPW := Lib.hid hpw
  have HAD := Lib.hid hadd
  have HEL := Lib.hid hel
  have HPK := Lib.hid hpk
  have q0 := (HB1.out.ext hx).cell 0
  have q1 := (HB1.out.ext hx).cell 1
  simp at q0 q1
  have lb := (HB1.out.ext hx).lt
  by_cases hlt : k < l.length
  ·have hki : (k : Int) < (l.length : Int) := by omega
   obtain ⟨b3, o3, rfl, g3⟩ := HF.out k hlt
   have f0 := (HX1.out.trans hx).cell (g3 k hlt 0 _ rfl)
   have f1 := (HX1.out.trans hx).cell (g3 k hlt 1 _ rfl)
   simp only [Nat.add_zero] at f0
   have hdr : l.drop k = l[k] :: l.drop (k + 1) := List.drop_eq_getElem_cons hlt
   have hfz := HZ.out l[k] (List.getElem_mem hlt)
   obtain ⟨f, hff⟩ : ∃ f, f = l[k] := ⟨_, rfl⟩
   rw [← hff] at f0 f1 hdr hfz
   have HAD2 := Lib.hid (show addE d.blocks.length es p (f :: l.drop (k + 1)) = addE d.blocks.length d.entries 0 l by rw [← hdr]; exact HAD.out)
   have HLT := Lib.hid hlt
   have hfI : (f.data.size : Int) ≤ 200 := by omega
   have HFZ := Lib.hid hfz
   clear g3 hff hdr hadd hx hpw ho hel hpk hfz hlt hk HAD
   go_wp2_with fail
   refine calls_abs (fun W => Ext wr W ∧ Blk_ W wr.heap.size 51 #[.string f.name, .string f.data]) ⟨(Ext.refl _).alloc _, Blk_.new _ _ _⟩ ?_
   rintro w3 ⟨hx3, hb3⟩
   obtain ⟨b9, hb9⟩ : ∃ b, b = wr.heap.size := ⟨_, rfl⟩
   rw [← hb9] at hb3 ⊢
   have HB3 := Lib.hid hb3
   have HX3 := Lib.hid (HX.out.trans hx3)
   have HO3 := Lib.hid (own_ext HO.out hx3)
   clear hx3 hb3 hb9 HX HO q0 q1 lb f0 f1
   refine (search2_any A c es f.name w3 (own_ents HO3.out) ((rising_iff _).2 HPW.out) (by omega)).mono ?_
   rintro e w4 ⟨i, b, rfl, hx4, hi, hcut, ht, hn⟩
   have HX4 := Lib.hid (HX3.out.trans hx4)
   have HO4 := Lib.hid (own_ext HO3.out hx4)
   have HB4 := Lib.hid (HB3.out.ext hx4)
   have HC4 := Lib.hid (HB1.out.ext (HX3.out.trans hx4))
   clear hx4 HX3 HO3 HB3
   cases b with
   | true =>
    obtain ⟨hil, hie⟩ := ht rfl
    have hnone := addE_there (nb := d.blocks.length) (p := p) (l := l.drop (k + 1)) ⟨es[i], List.getElem_mem hil, hie⟩
    rw [HAD2.out] at hnone
    have HNO := Lib.hid hnone
    have hiI : (i : Int) ≤ 20 := by omega
    clear hil hie hnone ht hn hcut
    go_wp2_with fail
    go_ret2
    exact .inl ⟨HNO.out, rfl, HX1.out.trans HX4.out⟩
   | false =>
    have hno : ¬ ∃ y ∈ es, lst y.name = lst f.name := by
     rintro ⟨y, hy, e⟩
     have hfn := cut_not ((rising_iff _).2 HPW.out) hcut (hn rfl)
     have := List.find?_eq_none.1 hfn y hy
     simp only [decide_eq_true_eq] at this
     exact this e
    have hgo := addE_go (nb := d.blocks.length) (p := p) (l := l.drop (k + 1)) hno
    rw [HAD2.out] at hgo
    have hcut' := insE_cut (x := ⟨f.name, d.blocks.length, p, f.data.size⟩) hi hcut
    have hrise := rise_ins (x := ⟨f.name, d.blocks.length, p, f.data.size⟩) HPW.out (fun y hy e => hno ⟨y, hy, e⟩)
    have HEND := Lib.hid hgo
    have HPE := Lib.hid hrise
    have HCUT := Lib.hid hcut'
    have HI := Lib.hid hi
    have hiI : (i : Int) ≤ 20 := by omega
    have q0 := HC4.out.cell 0
    have f0 := HB4.out.cell 0
    have f1 := HB4.out.cell 1
    simp at q0 f0 f1
    have l9 := HB4.out.lt
    have l2 := HC4.out.lt
    clear hno hgo hcut' hrise ht hn hcut hi HAD2 HPW
    go_wp2_with fail
    refine calls_abs (fun W => Ext w4 W ∧ Blk_ W w4.heap.size 70 #[.string f.name, .int .i64 d.blocks.length, .int .i64 p, .int .i64 f.data.size]) ⟨(Ext.refl _).alloc _, Blk_.new _ _ _⟩ ?_
    rintro w5 ⟨hx5, hb5⟩
    have HX5 := Lib.hid (HX4.out.trans hx5)
    have HB5 := Lib.hid (HB4.out.ext hx5)
    have HO5 := Lib.hid (own_ext HO4.out hx5)
    refine (insAny_any A c w1.heap.size i es ⟨f.name, d.blocks.length, p, f.data.size⟩ w4.heap.size w5 HO5.out (by omega) HI.out (by have := HX4.out.size; exact this) hb5 (fun e => by have := (HO4.out.lt _ e).2; omega)).mono ?_
    rw [← HCUT.out]
    rintro e w6 ⟨A6, c6, rfl, ho6, hg6, _⟩
    have hgb : ∀ g, (Value.slice A es.length c).ownBlock = some g → w1.heap.size ≤ g := fun g hg => (HO5.out.lt g hg).1
    have HX6 := Lib.hid (HX5.out.grown hg6 hgb)
    have HSZ := Lib.hid (Nat.le_trans HX5.out.size hg6.size)
    obtain ⟨es', hes'⟩ : ∃ z, z = insE (⟨f.name, d.blocks.length, p, f.data.size⟩ : Ent) es := ⟨_, rfl⟩
    have hes1 : es.length + 1 = es'.length := by rw [hes', insE_length]
    rw [← hes'] at ho6 HEND HPE
    have HO6 := Lib.hid ho6
    have HES1 := Lib.hid hes1
    clear hes1 hes'
    have f1' : w6.cell? ⟨b9, 1, none⟩ = some (.string f.data) := by
     have h0 := (HB5.out.grown hg6 (own_ne HO5.out HB5.out (by decide))).cell 1
     simpa using h0
    clear hx5 hb5 ho6 hg6 hgb q0 f0 f1 HX5 HB5 HO5 l9 l2
    go_wp2_with fail
    go_roundw
    case rel =>
     refine ⟨k + 1, p + f.data.size, es', A6, c6, by rw [← HES1.out], by go_num, by first | rfl | go_num, by have := HLT.out; omega, by have := HPK.out; have := HFZ.out; omega, by have := HEL.out; have := HES1.out; omega, HPE.out, HEND.out.symm, HX6.out, HSZ.out, ?_⟩
     rw [← HES1.out]
     exact HO6.out
    case measure => have := HLT.out; (simp [intOf]; try omega)
  ·obtain rfl : k = l.length := by omega
   have hfin := HAD.out
   rw [List.drop_length] at hfin
   have HFIN := Lib.hid (show addE d.blocks.length d.entries 0 l = some es by rw [← hfin]; rfl)
   clear hfin hadd hx hpw ho hel hpk hlt hk
   go_wp2_with fail
   go_ret2
   refine .inr ⟨es, A, c, HFIN.out, rfl, HX1.out.trans HX.out, own_base HO.out (by have := HX1.out.size; have := HB2.out; have := HW1.out; omega)⟩
end Go.Proofs.YtjadmfdlggnlgaaGreatDoor
