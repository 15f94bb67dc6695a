/-
  arrastop.run: scripts laid behind one another, and run. Conditions: they read as acts that find what they need, 200 at most.
-/
import Derived.Test.YtgjijcgkmofaaaaGreatDoorQ25
namespace Go.Proofs.YtgjijcgkmofaaaaGreatDoor
set_option linter.unusedSimpArgs false
set_option linter.unusedVariables false
set_option maxRecDepth 100000
set_option maxHeartbeats 8000000
open Go.RowKit
theorem GroupsOk.len : ∀ {Ls : List (List Fil)} {n : Nat}, GroupsOk n Ls → Ls.length ≤ Ls.flatten.length
 | [], _, _ => Nat.le_refl _
 | L :: Ls, n, h => by
  have := GroupsOk.len h.2.2.2
  have := h.2.1
  rw [List.flatten_cons, List.length_append, List.length_cons]
  omega
theorem AddsW.la {w W : World} {va vf : Value} {La : List ActV} {Ls : List (List Fil)} (h : AddsW w W va vf La Ls) : La.length ≤ Ls.flatten.length := by
 have := congrArg List.length h.e
 rw [List.length_map, List.length_map] at this
 rw [this]
 exact h.g.len
theorem AddsW.acts {w W : World} {A : Option Addr} {c : Nat} {vf : Value} {La : List ActV} {Ls : List (List Fil)} (h : AddsW w W (.slice A La.length c) vf La Ls) (hl : La.length ≤ 1000) : ActsR W (.slice A La.length c) La := by
 refine ⟨SlR.of_own encActV_ok h.a (by omega) (fun y hy => ?_), fun y hy => (h.y y hy).1⟩
 have hm : y.a ∈ Ls.map addAct := by rw [← h.e]; exact List.mem_map_of_mem hy
 obtain ⟨L, _, e⟩ := List.mem_map.1 hm
 refine ⟨rfl, ?_⟩
 rw [← e]
 unfold I64 addAct
 refine ⟨?_, ?_, ?_, ?_, ?_, ?_⟩ <;> dsimp only <;> first | omega | decide
theorem AddsW.files {w W : World} {va : Value} {A : Option Addr} {c : Nat} {La : List ActV} {Ls : List (List Fil)} (h : AddsW w W va (.slice A Ls.flatten.length c) La Ls) (hl : Ls.flatten.length ≤ 10) : SlR 2 32 RFil W (.slice A Ls.flatten.length c) Ls.flatten := by
 refine SlR.of_own encFil_ok h.f (by omega) (fun f hf => ?_)
 obtain ⟨i, hi, rfl⟩ := List.getElem_of_mem hf
 obtain ⟨e1, e2⟩ := groups_rise0 h.g i hi
 exact ⟨rfl, by rw [e1]; show (2 : Nat) ≤ _; decide, by omega⟩
theorem RAns.stays : Stays RAns := fun w w' cs x ⟨n, g, e, h1, h2⟩ k => ⟨n, g, e, h1.ext RStr.stays k, h2.ext RInt.stays k⟩
theorem ans_box {w : World} {v : Value} {x : List Ans} {g : Nat} {t : TypeId} (h : SlR 5 80 RAns w v x) (hb : Blk_ w g t #[.slice none 0 0]) (u : Value) : SlR 5 80 RAns (w.setCell ⟨g, 0, none⟩ u) v x := by
 have hz : w.cell? ⟨g, 0, none⟩ = some (.slice none 0 0) := by rw [hb.cell]; rfl
 obtain ⟨A, cap, hv, hby, hc, hh⟩ := h
 refine ⟨A, cap, hv, hby, hc, ?_⟩
 rcases hh with hh | ⟨b, o, hA, hh⟩
 ·exact .inl hh
 ·refine .inr ⟨b, o, hA, fun i hi => ?_⟩
  obtain ⟨cs, hl, hcell, n, gg, he, h1, h2⟩ := hh i hi
  refine ⟨cs, hl, fun j hj => ?_, n, gg, he, ?_, ?_⟩
  ·rw [World.cell?_setCell_other _ _ _ _ (fun e => ?_)]
   ·exact hcell j hj
   ·have e1 : g = b := congrArg Addr.block e
    have e2 : 0 = o + i * 5 + j := congrArg Addr.off e
    subst e1
    have h3 := hcell 1 (by decide)
    rw [hb.cell, List.getElem?_eq_getElem (by omega)] at h3
    rw [show o + i * 5 + 1 = 1 by omega] at h3
    simp at h3
  ·exact SlR.box1 h1 hz (fun u x hr => by rw [hr.val]; exact fun e => by cases e) (fun _ _ _ h => h) _
  ·exact SlR.box1 h2 hz (fun u x hr => by rw [hr.val]; exact fun e => by cases e) (fun _ _ _ h => h) _
theorem picked1_any (n many : Int) (w : World) (hn : I64 n) (h0 : 0 < many) (h1 : many ≤ 140737488355328) :
  Calls Tryz.prog 16 #[.int .i64 n, .int .i64 many] w fun e w' => e = .returned (.int .i64 (pick n many)) ∧ w' = w := by
 have HN := Lib.hid hn
 clear hn
 go_enter Tryz.func16, Tryz.ntmps16
 go_wp2_with fail
 refine (picked_any n many w HN.out h0 h1).mono ?_
 rintro e w' ⟨rfl, hw⟩
 obtain rfl := hw.symm
 go_wp2_with fail
 go_ret
 exact ⟨rfl, rfl⟩
theorem picked_nat (d : Int) : ∃ k : Nat, pick d 3 = (k : Int) ∧ k < 3 := by
 obtain ⟨h0, h1⟩ := pick_range d 3 (by decide)
 exact ⟨(pick d 3).toNat, by omega, by omega⟩
def hurtV (x : HA) : ActV := ⟨hurtAct x, none, 0⟩
def getV (f : Fil) : ActV := ⟨getAct f, none, 0⟩
theorem map_hurtV (L : List HA) : (L.map hurtV).map (·.a) = L.map hurtAct := by rw [List.map_map]; rfl
theorem map_getV (L : List Fil) : (L.map getV).map (·.a) = L.map getAct := by rw [List.map_map]; rfl
theorem hurts_read2 {W : World} {base : Nat} {A : Option Addr} {c : Nat} {L : List HA} (h : W.ownsRow base 39 7 (.slice A L.length c) L.length (L.flatMap encHA)) (ho : ∀ x ∈ L, ∃ k sz, k < 3 ∧ sz ≤ 64 ∧ ActOk k sz x) (hl : L.length ≤ 1000) : ActsR W (.slice A L.length c) (L.map hurtV) := by
 have hlen : (L.map hurtV).length = L.length := List.length_map _
 have e : (L.map hurtV).flatMap encActV = L.flatMap encHA := by rw [List.flatMap_map]; rfl
 refine ⟨?_, fun y hy => ?_⟩
 ·have := SlR.of_own (bytes := 80) (l := L.map hurtV) encActV_ok (v := .slice A L.length c) (w := W) (base := base) (e := 39) (by rw [hlen, e]; exact h) (by omega) (fun y hy => by
   obtain ⟨x, hx, rfl⟩ := List.mem_map.1 hy
   obtain ⟨k, sz, hk, hs, h1, h2, h3, h4, h5, h6, h7, h8⟩ := ho x hx
   refine ⟨rfl, ?_⟩
   unfold I64 hurtV hurtAct
   refine ⟨?_, ?_, ?_, ?_, ?_, ?_⟩ <;> dsimp only <;> first | omega | decide)
  exact this
 ·obtain ⟨x, hx, rfl⟩ := List.mem_map.1 hy
  exact ⟨none, 0, rfl, Nat.zero_le _, Nat.zero_le _, .inl rfl⟩
theorem hurts_read {W : World} {base : Nat} {A : Option Addr} {c k sz : Nat} {L : List HA} (h : W.ownsRow base 39 7 (.slice A L.length c) L.length (L.flatMap encHA)) (hk : k < 3) (hs : sz ≤ 64) (ho : ∀ x ∈ L, ActOk k sz x) (hl : L.length ≤ 1000) : ActsR W (.slice A L.length c) (L.map hurtV) :=
 hurts_read2 h (fun x hx => ⟨k, sz, hk, hs, ho x hx⟩) hl
theorem gets_read {W : World} {base : Nat} {A : Option Addr} {c : Nat} {L : List Fil} (h : W.ownsRow base 39 7 (.slice A L.length c) L.length (L.flatMap encGet)) (ho : ∀ f ∈ L, f.name.size ≤ 1000) (hl : L.length ≤ 1000) : ActsR W (.slice A L.length c) (L.map getV) := by
 have hlen : (L.map getV).length = L.length := List.length_map _
 have e : (L.map getV).flatMap encActV = L.flatMap encGet := by rw [List.flatMap_map]; rfl
 refine ⟨?_, fun y hy => ?_⟩
 ·have := SlR.of_own (bytes := 80) (l := L.map getV) encActV_ok (v := .slice A L.length c) (w := W) (base := base) (e := 39) (by rw [hlen, e]; exact h) (by omega) (fun y hy => by
   obtain ⟨f, hf, rfl⟩ := List.mem_map.1 hy
   have h1 := ho f hf
   refine ⟨rfl, ?_⟩
   unfold I64 getV getAct
   refine ⟨?_, ?_, ?_, ?_, ?_, ?_⟩ <;> dsimp only <;> first | omega | decide)
  exact this
 ·obtain ⟨f, hf, rfl⟩ := List.mem_map.1 hy
  exact ⟨none, 0, rfl, Nat.zero_le _, Nat.zero_le _, .inl rfl⟩
theorem rows_lit {W : World} {g : Nat} {t : TypeId} {LL : List ActsV} (hb : Blk_ W g t (LL.flatMap encActsV).toArray) (hl : LL.length ≤ 1000) : SlR 1 24 RActsV W (.slice (some ⟨g, 0, none⟩) LL.length LL.length) LL := by
 refine ⟨_, _, rfl, by omega, Nat.le_refl _, .inr ⟨g, 0, rfl, fun i hi => ⟨encActsV LL[i], rfl, fun j hj => ?_, rfl⟩⟩⟩
 have hj0 : j = 0 := by omega
 subst hj0
 rw [hb.cell, List.getElem?_toArray, ← flatMap_at (enc := encActsV) (C := 1) (fun _ => rfl) LL i 0 hi (by decide)]
 congr 1
 omega
theorem run1_any (v : Value) (LL : List ActsV) (acts : List ActD) (w : World) (h : SlR 1 24 RActsV w v LL) (hL : ∀ x ∈ LL, ActsR w x.v x.L) (hac : (flatV LL).map (·.a) = acts) (hlen : acts.length ≤ 200) (hll : LL.length ≤ 1000) (hf : FineAll 48 (sh0 48) acts) :
  Calls Tryz.prog 14 #[v] w fun e w' => ∃ A c A' c', e = .returned (.tuple #[.slice A acts.length c, .agg #[.slice A' 3 c'], .bool true]) ∧ Ext w w' ∧ SlR 5 80 RAns w' (.slice A acts.length c) (runS 48 acts (sh0 48)).1 ∧ RArr w' [.slice A' 3 c'] (runS 48 acts (sh0 48)).2.a := by
 have hfl : (flatV LL).length = acts.length := by rw [← hac, List.length_map]
 have hfy : ∀ y ∈ flatV LL, SlR 2 32 RFil w y.f y.a.files := by
  intro y hy
  obtain ⟨x, hx, hy'⟩ := List.mem_flatMap.1 hy
  exact (hL x hx).2 y hy'
 have hfr : ∀ y ∈ flatV LL, RActV w (encActV y) y := by
  intro y hy
  obtain ⟨x, hx, hy'⟩ := List.mem_flatMap.1 hy
  exact (hL x hx).1.mem encActV_ok w y hy'
 have H := Lib.hid h
 have HL := Lib.hid (fun x hx => (hL x hx).1 : ∀ x ∈ LL, SlR 7 80 RActV w x.v x.L)
 have HF := Lib.hid hf
 have HY := Lib.hid (And.intro hfy hfr)
 have HN := Lib.hid (And.intro hfl (And.intro hac (And.intro hlen hll)))
 have hlI : (acts.length : Int) ≤ 200 := by omega
 clear h hL hf hfy hfr hfl hac hlen hll
 go_enter Tryz.func14, Tryz.ntmps14
 go_wp2_with fail
 refine calls_abs (fun W => Ext w W ∧ Blk_ W w.heap.size 30 #[.slice none 0 0]) ⟨(Ext.refl _).alloc _, Blk_.new _ _ _⟩ ?_
 rintro w1 ⟨hx1, hb1⟩
 obtain ⟨b3, h3⟩ : ∃ b, b = w.heap.size := ⟨_, rfl⟩
 rw [← h3] at hb1 ⊢
 have hc := concat_any v LL w1 (H.out.ext RActsV.stays hx1) (fun x hx => (HL.out x hx).ext RActV.stays hx1) (by have := HN.out; omega) HN.out.2.2.2
 rw [HN.out.1] at hc
 refine hc.mono ?_
 clear hc
 rintro e w2 ⟨A, c, rfl, hx2, ho2⟩
 have HB2 := Lib.hid (hb1.ext hx2)
 have HX2 := Lib.hid (hx1.trans hx2)
 have HA := Lib.hid (show ActsR w2 (.slice A acts.length c) (flatV LL) from ⟨SlR.of_own encActV_ok (own_len HN.out.1.symm ho2) (by have := HN.out; omega) (fun y hy => HY.out.2 y hy), fun y hy => (HY.out.1 y hy).ext RFil.stays HX2.out⟩)
 have H3 := Lib.hid h3
 clear hx1 hb1 hx2 ho2 h3
 go_wp2_with fail
 have hr := run_any (.slice A acts.length c) acts 48 w2 (by have := HA.out.acts; rw [HN.out.2.1] at this; exact this) (by decide) (by decide) (by decide) HN.out.2.2.1 HF.out.at_
 refine hr.mono ?_
 clear hr
 rintro e w4 ⟨A4, c4, A5, c5, rfl, hx4, hs4, hr4⟩
 have HX4 := Lib.hid (HX2.out.trans hx4)
 have HB4 := Lib.hid (HB2.out.ext hx4)
 have HS4 := Lib.hid hs4
 have HR4 := Lib.hid hr4
 clear hx4 hs4 hr4 HX2 HB2
 go_wp2_with fail
 refine wp_abs (fun W => Ext w4 W ∧ Blk_ W w4.heap.size 30 #[.slice A5 3 c5]) ⟨(Ext.refl _).alloc _, Blk_.new _ _ _⟩ ?_
 rintro w5 ⟨hx5, hb5⟩
 obtain ⟨b7, h7⟩ : ∃ b, b = w4.heap.size := ⟨_, rfl⟩
 rw [← h7] at hb5 ⊢
 have q7 := hb5.cell 0
 have HB5 := Lib.hid (HB4.out.ext hx5)
 have HNE := Lib.hid (show b3 ≠ b7 from fun e => by have := HB4.out.lt; omega)
 simp at q7
 have HX5 := Lib.hid (HX4.out.trans hx5)
 have HS5 := Lib.hid (HS4.out)
 have HX45 := Lib.hid hx5
 clear hx5 hb5 h7
 refine wp_region_all (S := fun W' => W'.cell? ⟨b7, 0, none⟩ = some (.slice A5 3 c5)) (by kernel_rfl) ?_
 have hS0 : (fun W' => W'.cell? ⟨b7, 0, none⟩ = some (.slice A5 3 c5)) w5.drew := q7
 refine tkL 0 rfl (fun w' hS => by go_simp; rfl) hS0 ?_
 refine tkL 1 rfl (fun w' hS => by (try dsimp only at hS); go_simp; rfl) hS0 ?_
 refine tkL 2 rfl (fun w' hS => by go_simp; rfl) hS0 ?_
 try simp only [Act.put, List.setIfInBounds_toArray, List.set_cons_zero, List.set_cons_succ]
 refine tkL 3 rfl (fun w' hS => by go_simp; rfl) hS0 ?_
 refine tkL 4 rfl (fun w' hS => by go_simp; rfl) hS0 ?_
 refine tkL 5 rfl (fun w' hS => by go_simp; rfl) hS0 ?_
 try simp only [Act.put, List.setIfInBounds_toArray, List.set_cons_zero, List.set_cons_succ]
 refine tkL 6 rfl (fun w' hS => by go_simp; rfl) hS0 ?_
 refine tkL 7 rfl (fun w' hS => by go_simp; rfl) hS0 ?_
 refine tkL 8 rfl (fun w' hS => by go_simp; rfl) hS0 ?_
 try simp only [Act.put, List.setIfInBounds_toArray, List.set_cons_zero, List.set_cons_succ]
 refine tkL 9 rfl (fun w' hS => by go_simp; rfl) hS0 ?_
 refine tkL 10 rfl (fun w' hS => by go_simp; rfl) hS0 ?_
 refine tkL 11 rfl (fun w' hS => by go_simp; rfl) hS0 ?_
 try simp only [Act.put, List.setIfInBounds_toArray, List.set_cons_zero, List.set_cons_succ]
 clear hS0
 refine anyH_abs (fun W => Ext w5 W) ((Ext.refl _).drew) ?_
 rintro w6 hx6
 have hb6 := HB5.out.ext hx6
 have y3 := hb6.cell 0
 have z3 := hb6.frozen 0
 have l3 := hb6.lt
 simp at y3
 have hne := HNE.out
 have hs6 := ans_box ((HS5.out).ext RAns.stays (HX45.out.trans hx6)) hb6 (.slice A5 3 c5)
 have hr6 := (HR4.out.up (HX45.out.trans hx6)).box hb6 (.slice A5 3 c5)
 have HFIN := Lib.hid (And.intro hs6 (And.intro hr6 (And.intro ((HX5.out.trans hx6).setCell (p := ⟨b3, 0, none⟩) (by have := H3.out; simp only; omega) (.slice A5 3 c5)) (hb6.set 0 (.slice A5 3 c5)))))
 have q6 := hx6.cell q7
 clear hs6 hr6 hb6
 refine wpAnyH_oneL (i := 12) rfl (by kernel_rfl) rfl (fun K hK => ?_)
 go_wp2_with fail
 have q8 : (w6.setCell ⟨b3, 0, none⟩ (.slice A5 3 c5)).cell? ⟨b7, 0, none⟩ = some (.slice A5 3 c5) := by
  rw [World.cell?_setCell_other _ _ _ _ (fun e => HNE.out (congrArg Addr.block e))]
  exact q6
 refine hK _ _ q8 ?_
 clear hK K y3 z3 l3 hne q6 hx6 q7
 try simp only [Act.put, List.setIfInBounds_toArray, List.set_cons_zero, List.set_cons_succ]
 refine anyH_abs (fun W => SlR 5 80 RAns W (.slice A4 acts.length c4) (runS 48 acts (sh0 48)).1 ∧ RArr W [.slice A5 3 c5] (runS 48 acts (sh0 48)).2.a ∧ (Ext w W ∧ Blk_ W b3 30 #[.slice A5 3 c5]) ∧ W.cell? ⟨b7, 0, none⟩ = some (.slice A5 3 c5)) ⟨HFIN.out.1, HFIN.out.2.1, HFIN.out.2.2, q8⟩ ?_
 clear HFIN q8
 rintro w7 ⟨hs7, hr7, ⟨hx7, hb7⟩, q7⟩
 have hS1 : (fun W' => W'.cell? ⟨b7, 0, none⟩ = some (.slice A5 3 c5)) w7 := q7
 refine tkL 13 rfl (fun w' hS => by go_simp; rfl) hS1 ?_
 try simp only [Act.put, List.setIfInBounds_toArray, List.set_cons_zero, List.set_cons_succ]
 refine wpAnyH_done (by kernel_rfl) ?_ _
 have HS7 := Lib.hid hs7
 have HR7 := Lib.hid hr7
 have HX7 := Lib.hid hx7
 have HB7 := Lib.hid hb7
 clear hs7 hr7 hx7 hb7 q7 hS1
 go_wp2_with fail
 refine bodyPost_ret (res_tmp_cell_tmp rfl rfl HB7.out Tryz.underlying30 rfl (by kernel_rfl)) rfl ?_
 exact ⟨A4, c4, A5, c5, rfl, HX7.out, HS7.out, HR7.out⟩
def RowsR (w : World) : List Value → List (List ActV) → Prop
 | [], [] => True
 | v :: vs, L :: Ls => ActsR w v L ∧ RowsR w vs Ls
 | _, _ => False
theorem RowsR.rows {w : World} : ∀ {vs : List Value} {Ls : List (List ActV)}, RowsR w vs Ls → ∃ xs : List ActsV, xs.flatMap encActsV = vs ∧ xs.map (·.L) = Ls ∧ xs.length = vs.length ∧ ∀ x ∈ xs, ActsR w x.v x.L
 | [], [], _ => ⟨[], rfl, rfl, rfl, fun x hx => by cases hx⟩
 | v :: vs, L :: Ls, h => by
  obtain ⟨xs, h1, h2, h3, h4⟩ := RowsR.rows h.2
  obtain ⟨A, cap, rfl, _⟩ := h.1.1
  refine ⟨⟨A, cap, L⟩ :: xs, ?_, ?_, ?_, fun x hx => ?_⟩
  ·rw [List.flatMap_cons, h1]; rfl
  ·rw [List.map_cons, h2]
  ·rw [List.length_cons, List.length_cons, h3]
  ·rcases List.mem_cons.1 hx with rfl | hx
   ·exact h.1
   ·exact h4 x hx
theorem flat_rows (xs : List ActsV) : flatV xs = (xs.map (·.L)).flatten := by unfold flatV; rw [List.flatMap_def]
theorem run2_any (g : Nat) (t : TypeId) (vs : List Value) (Ls : List (List ActV)) (acts : List ActD) (w : World) (hb : Blk_ w g t vs.toArray) (hR : RowsR w vs Ls) (hac : Ls.flatten.map (·.a) = acts) (hlen : acts.length ≤ 200) (hll : vs.length ≤ 1000) (hf : FineAll 48 (sh0 48) acts) :
  Calls Tryz.prog 14 #[.slice (some ⟨g, 0, none⟩) vs.length vs.length] w fun e w' => ∃ A c A' c', e = .returned (.tuple #[.slice A acts.length c, .agg #[.slice A' 3 c'], .bool true]) ∧ Ext w w' ∧ SlR 5 80 RAns w' (.slice A acts.length c) (runS 48 acts (sh0 48)).1 ∧ RArr w' [.slice A' 3 c'] (runS 48 acts (sh0 48)).2.a := by
 obtain ⟨xs, h1, h2, h3, h4⟩ := hR.rows
 have hr := rows_lit (LL := xs) (W := w) (g := g) (t := t) (by rw [h1]; exact hb) (by omega)
 rw [h3] at hr
 exact run1_any _ xs acts w hr h4 (by rw [flat_rows, h2]; exact hac) hlen (by omega) hf
def litV (x : ActD) : ActV := ⟨x, none, 0⟩
theorem litV_a (x : ActD) : (litV x).a = x := rfl
theorem map_litV (L : List ActD) : (L.map litV).map (·.a) = L := by rw [List.map_map]; exact List.map_id _
theorem lits_read {W : World} {g : Nat} {t : TypeId} (L : List ActD) (hb : Blk_ W g t ((L.map litV).flatMap encActV).toArray) (hl : L.length ≤ 1000) (h : ∀ x ∈ L, x.files = [] ∧ x.name.size ≤ 1000 ∧ I64 x.kind ∧ I64 x.d ∧ I64 x.n ∧ I64 x.at_ ∧ I64 x.by_) :
  ActsR W (.slice (some ⟨g, 0, none⟩) L.length L.length) (L.map litV) := by
 have hlen : (L.map litV).length = L.length := List.length_map _
 refine ⟨⟨_, _, by rw [hlen], by omega, by omega, .inr ⟨g, 0, rfl, fun i hi => ⟨encActV (L.map litV)[i], rfl, fun j hj => ?_, ?_⟩⟩⟩, fun y hy => ?_⟩
 ·rw [hb.cell, List.getElem?_toArray, ← flatMap_at (enc := encActV) (C := 7) (fun _ => rfl) (L.map litV) i j hi hj]
  congr 1
  omega
 ·obtain ⟨h1, h2, h3⟩ := h L[i] (List.getElem_mem (by omega))
  rw [List.getElem_map]
  exact ⟨rfl, by show L[i].name.size ≤ _; omega, h3⟩
 ·obtain ⟨x, hx, rfl⟩ := List.mem_map.1 hy
  obtain ⟨h1, _⟩ := h x hx
  have h0 : x.files.length = 0 := by rw [h1]; rfl
  exact ⟨none, 0, rfl, by show x.files.length * 32 ≤ _; omega, by show x.files.length ≤ 0; omega, .inl h1⟩
theorem cell_lt {w : World} {b o : Nat} {v : Value} (h : w.cell? ⟨b, o, none⟩ = some v) : b < w.heap.size := by
 rcases Nat.lt_or_ge b w.heap.size with hl | hl
 ·exact hl
 ·exfalso
  unfold World.cell? at h
  rw [Array.getElem?_eq_none hl] at h
  simp at h
theorem ans_cells {w : World} {A : Option Addr} {c : Nat} {x : List Ans} (h : SlR 5 80 RAns w (.slice A x.length c) x) : ∀ i (hi : i < x.length), ∃ b o n g, A = some ⟨b, o, none⟩ ∧ w.cell? ⟨b, o + i * 5, none⟩ = some (.int .i64 x[i].code) ∧ w.cell? ⟨b, o + i * 5 + 1, none⟩ = some (.string x[i].data) ∧
  w.cell? ⟨b, o + i * 5 + 2, none⟩ = some n ∧ w.cell? ⟨b, o + i * 5 + 3, none⟩ = some (.int .i64 x[i].count) ∧ w.cell? ⟨b, o + i * 5 + 4, none⟩ = some g ∧ SlR 1 16 RStr w n x[i].names ∧ SlR 1 8 RInt w g x[i].gone := by
 intro i hi
 obtain ⟨A', c', he, _, _, hrow⟩ := h.rowR
 injection he with he1 he2 he3
 subst he1
 obtain ⟨b, o, rfl, hc⟩ := hrow i hi
 obtain ⟨cs, hl, hcell, n, g, rfl, hn, hg⟩ := hc i hi
 exact ⟨b, o, n, g, rfl, hcell 0 _ rfl, hcell 1 _ rfl, hcell 2 _ rfl, hcell 3 _ rfl, hcell 4 _ rfl, hn, hg⟩
theorem concat2_any (g : Nat) (t : TypeId) (vs : List Value) (Ls : List (List ActV)) (w : World) (hb : Blk_ w g t vs.toArray) (hR : RowsR w vs Ls) (hlen : Ls.flatten.length ≤ 1000) (hll : vs.length ≤ 1000) :
  Calls Tryz.prog 35 #[.slice (some ⟨g, 0, none⟩) vs.length vs.length] w fun e w' => ∃ A c, e = .returned (.slice A Ls.flatten.length c) ∧ Ext w w' ∧ ActsR w' (.slice A Ls.flatten.length c) Ls.flatten := by
 obtain ⟨xs, h1, h2, h3, h4⟩ := hR.rows
 have hr := rows_lit (LL := xs) (W := w) (g := g) (t := t) (by rw [h1]; exact hb) (by omega)
 rw [h3] at hr
 have hfl : flatV xs = Ls.flatten := by rw [flat_rows, h2]
 have hc := concat_any _ xs w hr (fun x hx => (h4 x hx).1) (by rw [hfl]; exact hlen) (by omega)
 rw [hfl] at hc
 refine hc.mono ?_
 rintro e w' ⟨A, c, rfl, hx, ho⟩
 have hm : ∀ y ∈ Ls.flatten, ∃ x ∈ xs, y ∈ x.L := fun y hy => by rw [← hfl] at hy; exact List.mem_flatMap.1 hy
 refine ⟨A, c, rfl, hx, SlR.of_own encActV_ok ho (by omega) (fun y hy => ?_), fun y hy => ?_⟩
 ·obtain ⟨x, hxm, hy'⟩ := hm y hy
  exact (h4 x hxm).1.mem encActV_ok w' y hy'
 ·obtain ⟨x, hxm, hy'⟩ := hm y hy
  exact ((h4 x hxm).2 y hy').ext RFil.stays hx
theorem picked_nat_ (d : Int) (m : Nat) (hm : 0 < m) : ∃ k : Nat, pick d (m : Int) = (k : Int) ∧ k < m := by
 obtain ⟨h0, h1⟩ := pick_range d m (by omega)
 exact ⟨(pick d m).toNat, by omega, by omega⟩
theorem info_ans : ∃ i, Tryz.prog.info? 46 = some i ∧ i.size = 5 := by
 obtain ⟨i, h0, _, h1, _⟩ := info_parts info_answer
 exact ⟨i, h0, h1⟩
theorem ans_row {w : World} {A : Option Addr} {c : Nat} {x : List Ans} (h : SlR 5 80 RAns w (.slice A x.length c) x) : ∀ i (hi : i < x.length), ∃ b o, A = some ⟨b, o, none⟩ ∧ ∀ k (hk : k < x.length), w.cell? ⟨b, o + k * 5, none⟩ = some (.int .i64 x[k].code) ∧ w.cell? ⟨b, o + k * 5 + 1, none⟩ = some (.string x[k].data) := by
 intro i hi
 obtain ⟨A', c', he, _, _, hrow⟩ := h.rowR
 injection he with he1 he2 he3
 subst he1
 obtain ⟨b, o, rfl, hc⟩ := hrow i hi
 refine ⟨b, o, rfl, fun k hk => ?_⟩
 obtain ⟨cs, hl, hcell, n, g, rfl, _⟩ := hc k hk
 exact ⟨hcell 0 _ rfl, hcell 1 _ rfl⟩
theorem take_flat_succ (Ls : List (List Fil)) (i : Nat) (hi : i < Ls.length) : ((Ls.take (i + 1)).flatten).length = ((Ls.take i).flatten).length + Ls[i].length := by
 rw [List.take_succ_eq_append_getElem hi, List.flatten_append, List.length_append]
 simp
theorem told_any (vx va : Value) (x : List Ans) (La : List ActV) (Ls : List (List Fil)) (Af : Option Addr) (cf : Nat) (w : World) (hx : SlR 5 80 RAns w vx x) (ha : ActsR w va La) (he : La.map (·.a) = Ls.map addAct) (ht : ToldOk x Ls) (hl : x.length ≤ 1000) :
  Calls Tryz.prog 18 #[vx, va, .slice Af Ls.flatten.length cf] w fun e w' => e = .returned (.bool true) ∧ Ext w w' := by
 obtain ⟨Ax, cx, rfl, hxb, hxc, _⟩ := hx.rowR
 obtain ⟨Aa, ca, rfl, hab, hac, pa⟩ := ha.1.rowE encActV_ok
 have hrow := ans_row hx
 have hLn : La.length = Ls.length := by have := congrArg List.length he; simpa using this
 have hfile : ∀ i (hi : i < La.length), ∃ h : i < Ls.length, La[i].a.files = Ls[i] := by
  intro i hi
  have hi' : i < Ls.length := by omega
  refine ⟨hi', ?_⟩
  have h1 : (La.map (·.a))[i]'(by simpa using hi) = (Ls.map addAct)[i]'(by simpa using hi') := by simp only [he]
  rw [List.getElem_map, List.getElem_map] at h1
  rw [h1]; rfl
 obtain ⟨i5, hi0, hi1⟩ := info_ans
 obtain ⟨t0, t1, t2⟩ := ht
 obtain ⟨n, hn⟩ : ∃ n, n = Ls.flatten.length := ⟨_, rfl⟩
 obtain ⟨q, hq⟩ : ∃ q, q = x.length - n := ⟨_, rfl⟩
 rw [← hn] at t0 ⊢
 have hqs : (x.length : Int) - (n : Int) = (q : Int) := by omega
 have hsd := hx.drop q (by omega)
 have hA5 : ∃ A5, (if cx = q then Ax else Ax.map (·.add (q * 5))) = A5 := ⟨_, rfl⟩
 obtain ⟨A5, hA5⟩ := hA5
 obtain ⟨c5, hc5⟩ : ∃ c5, cx - q = c5 := ⟨_, rfl⟩
 rw [hA5, hc5, show x.length - q = n by omega] at hsd
 have hxr := fun (i j : Nat) (hi : i < Ls.length) (hj : j < Ls[i].length) => t2 i hi j hj
 rw [← hn, ← hq] at hxr
 have hsd' : SlR 5 80 RAns w (.slice A5 (x.drop q).length c5) (x.drop q) := by rw [List.length_drop, show x.length - q = n by omega]; exact hsd
 have hrow5 := ans_row hsd'
 have HROW := Lib.hid hrow
 have HROW5 := Lib.hid hrow5
 have HX := Lib.hid hxr
 have HPA := Lib.hid pa
 have HFI := Lib.hid ha.2
 have HFL := Lib.hid hfile
 have HI := Lib.hid (And.intro hi0 hi1)
 have HN := Lib.hid (And.intro hn (And.intro hq (And.intro t0 (And.intro t1 hl))))
 have HA5 := Lib.hid (And.intro hA5 hc5)
 have HLN := Lib.hid hLn
 have hlI : (x.length : Int) ≤ 1000 := by omega
 have hnI : (n : Int) ≤ (x.length : Int) := by omega
 have hqN : q ≤ x.length := by omega
 have hqn : x.length - q = n := by omega
 have hlaI : (La.length : Int) ≤ 1000 := by omega
 clear hx ha he t0 t1 t2 hxb hxc hab hac pa hrow hfile hi0 hi1 hn hq hsd hA5 hc5 hxr hsd' hrow5 hl hLn
 go_enter Tryz.func18, Tryz.ntmps18
 go_wp2_with (refine wpList_slice_from _ rfl (.tmp 13) (.tmp 18) 27 rfl 5 46 i5 Tryz.underlying27 HI.out.1 HI.out.2 Ax x.length cx q rfl (by first | rfl | (rw [← hqs]; rfl)) hqN A5 c5 HA5.out.1 HA5.out.2 ?_)
 go_loopw [8, 22] (fun mv iv wr => ∃ (i m : Nat), mv = .int .i64 (m : Int) ∧ iv = .int .i64 (i : Int) ∧ i ≤ La.length ∧ m = ((Ls.take i).flatten).length ∧ Ext w wr) (fun _ iv _ => La.length - (intOf iv).toNat)
 case atStart => exact ⟨0, 0, rfl, rfl, Nat.zero_le _, rfl, Ext.refl _⟩
 case round =>
  obtain ⟨i, m, rfl, rfl, hi, hm, hx⟩ := hrel
  have HXR := Lib.hid hx
  have HM := Lib.hid hm
  clear hx hm
  by_cases hlt : i < La.length
  ·have hltI : (i : Int) < (La.length : Int) := by omega
   obtain ⟨hiL, hfe⟩ := HFL.out i hlt
   obtain ⟨b, o, rfl, hc⟩ := HPA.out i hlt
   have hf0 := HFI.out La[i] (List.getElem_mem hlt)
   obtain ⟨Y, hY⟩ : ∃ Y, Y = La[i] := ⟨_, rfl⟩
   rw [← hY] at hf0 hfe
   have hcc : ∀ (j : Nat) (u : Value), (encActV Y)[j]? = some u → wr.cell? ⟨b, o + i * 7 + j, none⟩ = some u := fun j u hu => HXR.out.cell (hc i hlt j u (by rw [← hY]; exact hu))
   have r0 := hcc 0 _ rfl
   have r1 := hcc 1 _ rfl
   have r2 := hcc 2 _ rfl
   have r3 := hcc 3 _ rfl
   have r4 := hcc 4 _ rfl
   have r5 := hcc 5 _ rfl
   have r6 := hcc 6 _ rfl
   simp only [Nat.add_zero] at r0
   obtain ⟨yk, hyk⟩ : ∃ z, z = Y.a.kind := ⟨_, rfl⟩
   obtain ⟨yn, hyn⟩ : ∃ z, z = Y.a.name := ⟨_, rfl⟩
   obtain ⟨yd, hyd⟩ : ∃ z, z = Y.a.d := ⟨_, rfl⟩
   obtain ⟨y4, hy4⟩ : ∃ z, z = Y.a.n := ⟨_, rfl⟩
   obtain ⟨y5, hy5⟩ : ∃ z, z = Y.a.at_ := ⟨_, rfl⟩
   obtain ⟨y6, hy6⟩ : ∃ z, z = Y.a.by_ := ⟨_, rfl⟩
   rw [← hyk] at r0
   rw [← hyn] at r2
   rw [← hyd] at r3
   rw [← hy4] at r4
   rw [← hy5] at r5
   rw [← hy6] at r6
   obtain ⟨G, hG⟩ : ∃ G, G = Ls[i] := ⟨_, rfl⟩
   have hf1 : SlR 2 32 RFil w (.slice Y.A G.length Y.c) G := by have h := hf0; unfold ActV.f at h; rw [hfe, ← hG] at h; exact h
   have r1' : wr.cell? ⟨b, o + i * 7 + 1, none⟩ = some (.slice Y.A G.length Y.c) := by have h := r1; unfold ActV.f at h; rw [hfe, ← hG] at h; exact h
   obtain ⟨Ya, hYa⟩ : ∃ z, z = Y.A := ⟨_, rfl⟩
   obtain ⟨Yc, hYc⟩ : ∃ z, z = Y.c := ⟨_, rfl⟩
   rw [← hYa, ← hYc] at hf1 r1'
   have HF1 := Lib.hid (fil_row hf1)
   have HG := Lib.hid hG
   have HLT := Lib.hid (And.intro hlt hiL)
   have hflat := take_flat_le Ls i hiL
   rw [← hG] at hflat
   have hmI : (m : Int) + (G.length : Int) ≤ 1000 := by have := HN.out; have := HM.out; omega
   have hmn : (m : Int) + (G.length : Int) ≤ (n : Int) := by have := HN.out; have := HM.out; omega
   have hixI : (i : Int) < (x.length : Int) := by have := HN.out; have := HLN.out; omega
   have hix : i < x.length := by have := HN.out; have := HLN.out; omega
   obtain ⟨bx, ox, hAx, hcx⟩ := HROW.out i hix
   have HCX := Lib.hid hcx
   have HAX := Lib.hid hAx
   clear hc hcc r1 hY hyk hyn hyd hy4 hy5 hy6 hf0 hf1 hfe hYa hYc hflat hlt hi hAx hcx hG
   go_wp2_with fail
   go_loopw [8, 30] (fun mv jv wq => ∃ (j p : Nat), mv = .int .i64 (p : Int) ∧ jv = .int .i64 (j : Int) ∧ j ≤ G.length ∧ p = m + j ∧ Ext w wq) (fun _ jv _ => G.length - (intOf jv).toNat)
   case atStart => exact ⟨0, m, rfl, rfl, Nat.zero_le _, rfl, by first | exact HXR.out.alloc _ | exact (HXR.out.alloc _).drew⟩
   case round =>
    obtain ⟨j, p, rfl, rfl, hj, hp, hx⟩ := hrel
    have HXR := Lib.hid hx
    have HP := Lib.hid hp
    have hpI : (p : Int) ≤ 1000 := by omega
    clear hx
    by_cases hjl : j < G.length
    ·have hjI : (j : Int) < (G.length : Int) := by omega
     have hpn : (p : Int) < (n : Int) := by omega
     have hjL : j < Ls[i].length := by rw [← HG.out]; exact hjl
     obtain ⟨b2, o2, rfl, hn0, hd0⟩ := HF1.out j hjl
     obtain ⟨ra, rg, ea, eg, e0, e6⟩ := HX.out i j HLT.out.2 hjL
     have hpd : p < (x.drop q).length := by rw [List.length_drop]; omega
     obtain ⟨b5, o5, rfl, hc5⟩ := HROW5.out p hpd
     have hxa : x[i] = ra := by rw [List.getElem?_eq_getElem hix] at ea; exact Option.some.inj ea
     have hxg : (x.drop q)[p] = rg := by
      rw [← HM.out, ← hp] at eg
      rw [List.getElem_drop]
      rw [List.getElem?_eq_getElem (by omega)] at eg
      exact Option.some.inj eg
     have hdd : (Ls[i][j]).data = G[j].data := by simp only [HG.out]
     rw [hdd] at e0
     have c0 := HXR.out.cell (HCX.out i hix).1
     have g0 := HXR.out.cell (hc5 p hpd).1
     have g1 := HXR.out.cell (hc5 p hpd).2
     rw [hxa] at c0
     rw [hxg] at g0 g1
     have n0 := HXR.out.cell hn0
     have d0 := HXR.out.cell hd0
     obtain ⟨fn, hfn⟩ : ∃ z, z = G[j].name := ⟨_, rfl⟩
     obtain ⟨fd, hfd⟩ : ∃ z, z = G[j].data := ⟨_, rfl⟩
     rw [← hfn] at n0
     rw [← hfd] at d0 e0
     obtain ⟨gc, gd, gn, gk, gg⟩ := rg
     obtain ⟨ac, ad, an, ak, ag⟩ := ra
     dsimp only at c0 g0 g1 e0 e6
     have hAX := HAX.out
     subst hAX
     have HJ := Lib.hid hjl
     clear hfn hfd hn0 hd0 ea eg hc5 hxa hxg hdd hjL hpd hj hp hjl
     by_cases hac : ac = 0
     ·obtain ⟨e1, e2⟩ := e0 hac
      subst hac e1 e2
      clear e6 e0
      go_wp2_with fail
      refine wp_abs (fun W => Ext wr W ∧ Blk_ W wr.heap.size 57 #[.string fn, .string gd]) ⟨(Ext.refl _).alloc _, Blk_.new _ _ _⟩ ?_
      rintro W ⟨hxw, hbw⟩
      obtain ⟨bf, hbf⟩ : ∃ z, z = wr.heap.size := ⟨_, rfl⟩
      rw [← hbf] at hbw ⊢
      have c0' := hxw.cell c0
      have g0' := hxw.cell g0
      have g1' := hxw.cell g1
      have f0' := hbw.cell 0
      have f1' := hbw.cell 1
      simp at f0' f1'
      have HXW := Lib.hid (HXR.out.trans hxw)
      have HW2 := Lib.hid hxw
      clear c0 g0 g1 n0 d0 hxw hbw hbf
      go_quiet (fail)
      go_wp2_with fail
      go_roundw
      case rel => exact ⟨j + 1, p + 1, by first | rfl | go_num, by first | rfl | go_num, HJ.out, by have := HP.out; omega, by first | exact HXW.out.drewN _ | exact HXW.out.drew | exact HXW.out⟩
      case measure => have := HJ.out; (simp [intOf]; try omega)
     ·have e1 := e6 hac
      subst e1
      have hb1 : (ac == 0) = false := beq_false_of_ne hac
      have hb2 : (ac != 0) = true := by simp [bne, hb1]
      clear e6 e0
      go_wp2_with fail
      refine wp_abs (fun W => Ext wr W ∧ Blk_ W wr.heap.size 57 #[.string fn, .string fd]) ⟨(Ext.refl _).alloc _, Blk_.new _ _ _⟩ ?_
      rintro W ⟨hxw, hbw⟩
      obtain ⟨bf, hbf⟩ : ∃ z, z = wr.heap.size := ⟨_, rfl⟩
      rw [← hbf] at hbw ⊢
      have c0' := hxw.cell c0
      have g0' := hxw.cell g0
      have g1' := hxw.cell g1
      have f0' := hbw.cell 0
      have f1' := hbw.cell 1
      simp at f0' f1'
      have HXW := Lib.hid (HXR.out.trans hxw)
      have HW2 := Lib.hid hxw
      clear c0 g0 g1 n0 d0 hxw hbw hbf
      go_quiet (fail)
      go_wp2_with fail
      go_roundw
      case rel => exact ⟨j + 1, p + 1, by first | rfl | go_num, by first | rfl | go_num, HJ.out, by have := HP.out; omega, by first | exact HXW.out.drewN _ | exact HXW.out.drew | exact HXW.out⟩
      case measure => have := HJ.out; (simp [intOf]; try omega)
    ·have hjI : (G.length : Int) ≤ (j : Int) := by omega
     have hje : j = G.length := by omega
     have HJE := Lib.hid hje
     clear hjl hj hp hje
     go_wp2_with fail
     go_roundw
     case rel =>
      refine ⟨i + 1, p, by first | rfl | go_num, by first | rfl | go_num, HLT.out.1, ?_, HXR.out⟩
      rw [take_flat_succ Ls i HLT.out.2, ← HG.out, ← HM.out, HP.out, HJE.out]
     case measure => have := HLT.out.1; (simp [intOf]; try omega)
  ·have hltI : (La.length : Int) ≤ (i : Int) := by omega
   clear hlt hi
   go_wp2_with fail
   go_ret
   exact ⟨rfl, HXR.out⟩
theorem both2_any (v : Value) (l : List Raw4) (d : Int) (most : Nat) (w : World) (h : SlR 4 32 RRaw w v l) (hd : I64 d) (hm : most ≤ 100) :
  Calls Tryz.prog 19 #[v, .int .i64 d, .int .i64 (most : Int)] w fun e w' => ∃ (A : Option Addr) (c k j : Nat) (L L' : List HA), e = .returned (.slice A (L ++ L').length c) ∧ Ext w w' ∧ ActsR w' (.slice A (L ++ L').length c) ((L ++ L').map hurtV) ∧ k < 3 ∧ j < 3 ∧ j ≠ k ∧ L.length ≤ most ∧ L'.length ≤ most ∧
   (∀ x ∈ L, ActOk k (szOf 48 k) x) ∧ (turned L).Nodup ∧ (∀ x ∈ L', ActOk j (szOf 48 j) x) ∧ (turned L').Nodup := by
 obtain ⟨Av, cv, rfl, hlb, hlc, _⟩ := h.rowE encRw_ok
 have H := Lib.hid h
 have HD := Lib.hid hd
 have HM := Lib.hid hm
 obtain ⟨k, hk, hk3⟩ := picked_nat d
 have HK := Lib.hid (And.intro hk hk3)
 obtain ⟨i3, hr0, _, hr1, _⟩ := info_parts info_raw
 have HIR := Lib.hid (And.intro hr0 hr1)
 have hkI : (k : Int) < 3 := by omega
 have hlI : (l.length : Int) ≤ 140737488355328 := by omega
 obtain ⟨q, hq⟩ : ∃ q, q = l.length / 2 := ⟨_, rfl⟩
 have hqI : (l.length : Int) / 2 = (q : Int) := by omega
 have hql : (q : Int) ≤ (l.length : Int) := by omega
 have hqN : q ≤ l.length := by omega
 have hqc : (q : Int) ≤ (cv : Int) := by omega
 obtain ⟨j, hj⟩ : ∃ j, j = (k + 1) % 3 := ⟨_, rfl⟩
 have hjI : ((k : Int) + 1) % 3 = (j : Int) := by omega
 have hj3 : (j : Int) < 3 := by omega
 have HJ := Lib.hid (show j < 3 ∧ j ≠ k by omega)
 clear h hd hm hk hr0 hr1 hlb hlc hq hj
 go_enter Tryz.func19, Tryz.ntmps19
 go_wp2_with fail
 refine (picked1_any d 3 w HD.out (by decide) (by decide)).mono ?_
 rintro e wz ⟨rfl, hw⟩
 obtain rfl := hw.symm
 rw [HK.out.1]
 go_wp2_with fail
 refine wp_region_all (S := fun _ => True) (by kernel_rfl) ?_
 refine tkL 0 rfl (fun w' hS => by go_simp; rfl) trivial ?_
 refine tkL 1 rfl (fun w' hS => by go_simp; rfl) trivial ?_
 refine tkL 2 rfl (fun w' hS => by go_simp; rfl) trivial ?_
 try simp only [Act.put, List.setIfInBounds_toArray, List.set_cons_zero, List.set_cons_succ]
 refine tkL 3 rfl (fun w' hS => by go_simp; rfl) trivial ?_
 refine tkL 4 rfl (fun w' hS => by go_simp; rfl) trivial ?_
 refine tkL 6 rfl (fun w' hS => by go_simp; rfl) trivial ?_
 try simp only [Act.put, List.setIfInBounds_toArray, List.set_cons_zero, List.set_cons_succ]
 refine tkL 7 rfl (fun w' hS => by go_simp; rfl) trivial ?_
 refine tkL 8 rfl (fun w' hS => by go_simp; rfl) trivial ?_
 try simp only [Act.put, List.setIfInBounds_toArray, List.set_cons_zero, List.set_cons_succ]
 have hsd := H.out.drop' q hqN rfl
 have hst := H.out.take q hqN
 obtain ⟨A5, hA5⟩ : ∃ A5, (if cv = q then Av else Av.map (·.add (q * 4))) = A5 := ⟨_, rfl⟩
 obtain ⟨c5, hc5⟩ : ∃ c5, cv - q = c5 := ⟨_, rfl⟩
 obtain ⟨q5, hq5⟩ : ∃ q5, l.length - q = q5 := ⟨_, rfl⟩
 rw [hA5, hc5, hq5] at hsd ⊢
 have HSD := Lib.hid hsd
 have HST := Lib.hid hst
 clear hA5 hc5 hsd hst hq5
 refine tkL 9 rfl (fun w' hS => by go_simp; rfl) trivial ?_
 refine tkL 10 rfl (fun w' hS => by go_simp; rfl) trivial ?_
 refine tkL 11 rfl (fun w' hS => by go_simp; rfl) trivial ?_
 refine tkL 12 rfl (fun w' hS => by go_simp; rfl) trivial ?_
 try simp only [Act.put, List.setIfInBounds_toArray, List.set_cons_zero, List.set_cons_succ]
 refine anyH_abs (fun W => Ext w W) ((Ext.refl _).drew) ?_
 rintro w1 hx1
 refine wpAnyH_oneL (i := 5) rfl (by kernel_rfl) rfl (fun K hK => ?_)
 go_wp2_with fail
 refine (hurts_any (.slice Av q cv) (l.take q) k 48 most w1 (HST.out.ext RRaw.stays hx1) HK.out.2 (by decide) (by decide) (by have := HM.out; omega)).mono ?_
 rintro e w2 ⟨B1, b1, L1, rfl, hx2, ho2, hok1, hnd1, hl1⟩
 refine hK _ _ trivial ?_
 clear hK K
 try simp only [Act.put, List.setIfInBounds_toArray, List.set_cons_zero, List.set_cons_succ]
 have HO1 := Lib.hid (And.intro hok1 (And.intro hnd1 hl1))
 refine anyH_abs (fun W => Ext w W ∧ W.ownsRow w.heap.size 39 7 (.slice B1 L1.length b1) L1.length (L1.flatMap encHA)) ⟨hx1.trans hx2, own_base ho2 (by have := hx1.size; omega)⟩ ?_
 clear hx1 hx2 ho2 hok1 hnd1 hl1
 rintro w3 ⟨hx3, ho3⟩
 refine wpAnyH_oneL (i := 13) rfl (by kernel_rfl) rfl (fun K hK => ?_)
 go_wp2_with fail
 rw [hjI]
 refine (hurts_any (.slice A5 q5 c5) (l.drop q) j 48 most w3 (HSD.out.ext RRaw.stays hx3) HJ.out.1 (by decide) (by decide) (by have := HM.out; omega)).mono ?_
 rintro e w4 ⟨B2, b2, L2, rfl, hx4, ho4, hok2, hnd2, hl2⟩
 refine hK _ _ trivial ?_
 clear hK K
 try simp only [Act.put, List.setIfInBounds_toArray, List.set_cons_zero, List.set_cons_succ]
 have HO2 := Lib.hid (And.intro hok2 (And.intro hnd2 hl2))
 have hr4 := hurts_read ho4 HJ.out.1 (by split <;> decide) hok2 (by have := HM.out; omega)
 refine anyH_abs (fun W => Ext w W ∧ W.ownsRow w.heap.size 39 7 (.slice B1 L1.length b1) L1.length (L1.flatMap encHA) ∧ ActsR W (.slice B2 L2.length b2) (L2.map hurtV)) ⟨hx3.trans hx4, own_ext ho3 hx4, hr4⟩ ?_
 clear hx3 hx4 ho3 ho4 hok2 hnd2 hl2 hr4
 rintro w5 ⟨hx5, ho5, hr5⟩
 refine wpAnyH_oneL (i := 14) rfl (by kernel_rfl) rfl (fun K hK => ?_)
 have hr5' := hr5.1
 obtain ⟨i1, hi0, hz0, hz1, hz2⟩ := info_parts info_act
 refine wp_append_onto w5 encActV_ok (by decide) (.tmp 19) (.tmp 27) 23 rfl w.heap.size 39 i1 (.agg #[.int .i64 0, .slice none 0 0, .string .empty, .int .i64 0, .int .i64 0, .int .i64 0, .int .i64 0]) Tryz.underlying23 hi0 hz0 hz1 hz2 rfl (.slice B1 L1.length b1) L1.length _ rfl ho5 (.slice B2 L2.length b2) (L2.map hurtV) rfl hr5' (by have := HO1.out.2.2; have := HO2.out.2.2; have := HM.out; rw [List.length_map]; unfold maxLen; omega) (by have := HO1.out.2.2; have := HO2.out.2.2; have := HM.out; rw [List.length_map]; omega) hx5.size ?_
 intro A' c' w6 own6 hg6 hV6
 refine hK _ _ trivial ?_
 clear hK K
 try simp only [Act.put, List.setIfInBounds_toArray, List.set_cons_zero, List.set_cons_succ]
 have hln : (L2.map hurtV).length = L2.length := List.length_map _
 have hle : (L2.map hurtV).flatMap encActV = L2.flatMap encHA := by rw [List.flatMap_map]; rfl
 have hrr : ActsR w6 (.slice A' (L1 ++ L2).length c') ((L1 ++ L2).map hurtV) := by
  refine hurts_read2 (base := w.heap.size) ?_ (fun x hx => ?_) ?_
  ·rw [List.length_append, List.flatMap_append, ← hln, ← hle]; exact own6
  ·rcases List.mem_append.1 hx with hx | hx
   ·exact ⟨k, _, HK.out.2, by split <;> decide, HO1.out.1 x hx⟩
   ·exact ⟨j, _, HJ.out.1, by split <;> decide, HO2.out.1 x hx⟩
  ·rw [List.length_append]; have := HO1.out.2.2; have := HO2.out.2.2; have := HM.out; omega
 have hx6 := hx5.grown hg6 (fun g hg => (ho5.lt g hg).1)
 refine anyH_abs (fun W => Ext w W ∧ ActsR W (.slice A' (L1 ++ L2).length c') ((L1 ++ L2).map hurtV)) ⟨hx6, hrr⟩ ?_
 rw [show L1.length + (L2.map hurtV).length = (L1 ++ L2).length by rw [List.length_append, hln]]
 clear hx6 hrr hle hln own6 hg6 hV6 hx5 ho5 hr5 hr5' hi0 hz0 hz1 hz2
 rintro w7 ⟨hx7, hr7⟩
 refine tkL 15 rfl (fun w' hS => by go_simp; rfl) trivial ?_
 try simp only [Act.put, List.setIfInBounds_toArray, List.set_cons_zero, List.set_cons_succ]
 refine wpAnyH_done (by kernel_rfl) ?_ _
 have HX7 := Lib.hid hx7
 have HR7 := Lib.hid hr7
 clear hx7 hr7
 go_wp2_with fail
 go_ret
 exact ⟨A', c', k, j, L1, L2, by rw [List.length_append]; rfl, HX7.out, HR7.out, HK.out.2, HJ.out.1, HJ.out.2, HO1.out.2.2, HO2.out.2.2, HO1.out.1, HO1.out.2.1, HO2.out.1, HO2.out.2.1⟩
end Go.Proofs.YtgjijcgkmofaaaaGreatDoor
