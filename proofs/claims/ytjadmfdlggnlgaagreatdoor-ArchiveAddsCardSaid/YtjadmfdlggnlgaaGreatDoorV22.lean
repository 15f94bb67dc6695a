/-
  The document's AddedOf: files are added. Conditions: the arguments read as an array and a list of files.
-/
import Derived.Test.YtjadmfdlggnlgaaGreatDoorV21
namespace Go.Proofs.YtjadmfdlggnlgaaGreatDoor
set_option linter.unusedSimpArgs false
set_option linter.unusedVariables false
set_option maxRecDepth 100000
set_option maxHeartbeats 8000000
open Go.RowKit
theorem sectorsOf_quiet (n : Int) (w : World) (h0 : 0 ≤ n) (h1 : n ≤ 140737488355328) :
  Calls Tryz.prog 26 #[.int .i64 n] w fun e w' => e = .returned (.int .i64 ((n + 23) / 24)) ∧ w' = w := (sectorsOf_any n w h0 h1).mono fun _ _ h => ⟨h.1, h.2.symm⟩
theorem addedOf_any (cs : List Value) (a : List Dev) (v : Value) (l : List Fil) (w : World) (h : RArr w cs a) (hf : SlR 2 32 RFil w v l) :
  Calls Tryz.prog 6 #[.agg cs.toArray, v] w fun e w' => ∃ A c, e = .returned (.tuple #[.agg #[.slice A (addS a l).1.length c], .int .i64 (addS a l).2]) ∧ Ext w w' ∧ OArr 35 w' w.heap.size (.slice A (addS a l).1.length c) (addS a l).1 := by
 obtain ⟨A, c, rfl⟩ := h.form
 have HFI := Lib.hid hf
 obtain ⟨A3, c3, rfl, hlb3, hc3, r3⟩ := hf.rowE encFil_ok
 have HF := Lib.hid r3
 have HR := Lib.hid h
 clear h hf hlb3 hc3 r3
 go_enter Tryz.func6, Tryz.ntmps6
 go_wp2_with fail
 refine calls_abs (fun W => Ext w W ∧ Blk_ W w.heap.size 24 #[.slice A a.length c] ∧ Blk_ W (w.heap.size + 1) 24 #[.slice none 0 0]) ⟨((Ext.refl _).alloc _).alloc _, (Blk_.new _ _ _).alloc _, Blk_.new1 _ _ _ _⟩ ?_
 rintro w1 ⟨hx1, hb1, hq1⟩
 obtain ⟨b2, hb2⟩ : ∃ b, b = w.heap.size := ⟨_, rfl⟩
 obtain ⟨b4, hb4⟩ : ∃ b, b = b2 + 1 := ⟨_, rfl⟩
 rw [← hb2, ← hb4] at hq1
 rw [← hb2] at hb1 ⊢
 try rw [← hb4]
 have HW := Lib.hid (And.intro hb2 hb4)
 have HX1 := Lib.hid hx1
 have HB1 := Lib.hid hb1
 have HQ1 := Lib.hid hq1
 have HR1 := Lib.hid (HR.out.up hx1)
 have HFI1 := Lib.hid (HFI.out.ext RFil.stays hx1)
 clear hx1 hb1 hq1 hb2 hb4 HR HFI
 refine (openedOf_any [.slice A a.length c] a w1 HR1.out).mono ?_
 rintro e w2 ⟨A1, c1, A2, c2, rfl, hx2, hr2⟩
 have HX2 := Lib.hid (HX1.out.trans hx2)
 have HB2 := Lib.hid (HB1.out.ext hx2)
 have HQ2 := Lib.hid (HQ1.out.ext hx2)
 have HD2 := Lib.hid hr2
 have HR2 := Lib.hid (HR1.out.up hx2)
 have HFI2 := Lib.hid (HFI1.out.ext RFil.stays hx2)
 clear hx2 hr2 HB1 HQ1 HR1 HFI1
 by_cases hu0 : (openS a).2 = 0
 case neg =>
  have HFE := Lib.hid (addS_open (l := l) hu0)
  have hu1 : ((openS a).2 != 0) = true := by simpa using hu0
  have hu2 : ((openS a).2 == 0) = false := by simpa using hu0
  have y0 := HQ2.out.cell 0
  have x0 := HQ2.out.frozen 0
  simp at y0
  have lq := HQ2.out.lt
  clear hu0
  generalize (openS a).2 = code at *
  generalize (openS a).1 = dd at *
  have HQR := Lib.hid HQ2.out
  have HXR := Lib.hid HX2.out
  go_wp2_with fail
  refine bodyPost_ret (res_cell_tmp (g := b4) (cs := #[.slice none 0 0]) rfl rfl (by first | exact HQR.out.set 0 (.slice none 0 0) | exact (HQR.out.set 0 (.slice none 0 0)).alloc _ | exact (HQR.out.alloc _).set 0 (.slice none 0 0) | exact (HQR.out.set 0 (.slice none 0 0)).ext (Ext.drewN (Ext.refl _) _) | exact (HQR.out.ext (Ext.drewN (Ext.refl _) _)).set 0 (.slice none 0 0)) Tryz.underlying24 rfl (by kernel_rfl)) rfl ?_
  rw [HFE.out]
  exact ⟨none, 0, rfl, by first | exact HXR.out.setCell (p := ⟨b4, 0, none⟩) (by have := HW.out; simp only; omega) _ | exact (HXR.out.setCell (p := ⟨b4, 0, none⟩) (by have := HW.out; simp only; omega) _).alloc _ | exact (HXR.out.alloc _).setCell (p := ⟨b4, 0, none⟩) (by have := HW.out; simp only; omega) _ | exact (HXR.out.drewN _).setCell (p := ⟨b4, 0, none⟩) (by have := HW.out; simp only; omega) _ | exact (HXR.out.setCell (p := ⟨b4, 0, none⟩) (by have := HW.out; simp only; omega) _).drewN _, OArr.nil _ _ _⟩
 case pos =>
 have hok := open_cat hu0
 have hmay := open_may hu0
 have h3 := (arr_parts hmay).1
 have hA1 : ¬ (openS a).2 ≠ 0 := fun h => h hu0
 have HOP := Lib.hid hA1
 obtain ⟨d, hd⟩ : ∃ d, d = (openS a).1 := ⟨_, rfl⟩
 have HDE := Lib.hid hd
 rw [hu0]
 rw [← hd] at HD2 hok ⊢
 obtain ⟨f1, f2, f3, f4⟩ := catFault_ok hok
 have HOK := Lib.hid hok
 have HMAY := Lib.hid hmay
 have H3 := Lib.hid h3
 have HCA := Lib.hid (And.intro f1 (And.intro f2 (And.intro f3 f4)))
 have HPW := Lib.hid ((rising_iff _).1 (ents_rising _ _ _ f4).1)
 clear hok hmay h3 hd hA1 hu0 f1 f2 f3 f4
 go_wp2_with fail
 refine calls_abs (fun W => Ext w2 W ∧ Blk_ W w2.heap.size 40 #[.slice A1 d.blocks.length c1, .slice A2 d.entries.length c2]) ⟨(Ext.refl _).alloc _, Blk_.new _ _ _⟩ ?_
 rintro w3 ⟨hx3, hb3⟩
 obtain ⟨b6, hb6⟩ : ∃ b, b = w2.heap.size := ⟨_, rfl⟩
 rw [← hb6] at hb3 ⊢
 have HB3 := Lib.hid hb3
 have HX3 := Lib.hid hx3
 clear hx3 hb3 hb6
 refine (filesFault_any (.slice A3 l.length c3) l w3 (HFI2.out.ext RFil.stays HX3.out)).mono ?_
 rintro e w4 ⟨rfl, hx4⟩
 have HX4 := Lib.hid (HX3.out.trans hx4)
 have HX14 := Lib.hid (HX2.out.trans (HX3.out.trans hx4))
 have HB4 := Lib.hid (HB3.out.ext hx4)
 clear hx4 HX3 HB3
 by_cases hfz : filesS l = 0
 case neg =>
  have HFE := Lib.hid (addS_files HOP.out hfz)
  have hu1 : (filesS l != 0) = true := by simpa using hfz
  have HQR := Lib.hid (HQ2.out.ext HX4.out)
  have HXR := Lib.hid HX14.out
  have y0 := HQR.out.cell 0
  have x0 := HQR.out.frozen 0
  simp at y0
  have lq := HQR.out.lt
  clear hfz
  generalize filesS l = code at *
  go_wp2_with fail
  refine bodyPost_ret (res_cell_tmp (g := b4) (cs := #[.slice none 0 0]) rfl rfl (by first | exact HQR.out.set 0 (.slice none 0 0) | exact (HQR.out.set 0 (.slice none 0 0)).alloc _ | exact (HQR.out.alloc _).set 0 (.slice none 0 0) | exact (HQR.out.set 0 (.slice none 0 0)).ext (Ext.drewN (Ext.refl _) _) | exact (HQR.out.ext (Ext.drewN (Ext.refl _) _)).set 0 (.slice none 0 0)) Tryz.underlying24 rfl (by kernel_rfl)) rfl ?_
  rw [HFE.out]
  exact ⟨none, 0, rfl, by first | exact HXR.out.setCell (p := ⟨b4, 0, none⟩) (by have := HW.out; simp only; omega) _ | exact (HXR.out.setCell (p := ⟨b4, 0, none⟩) (by have := HW.out; simp only; omega) _).alloc _ | exact (HXR.out.alloc _).setCell (p := ⟨b4, 0, none⟩) (by have := HW.out; simp only; omega) _ | exact (HXR.out.drewN _).setCell (p := ⟨b4, 0, none⟩) (by have := HW.out; simp only; omega) _ | exact (HXR.out.setCell (p := ⟨b4, 0, none⟩) (by have := HW.out; simp only; omega) _).drewN _, OArr.nil _ _ _⟩
 case pos =>
 have hfs := filesS_ok hfz
 have hdt := data_ok hfz
 have HFZ := Lib.hid (fun (h : filesS l ≠ 0) => h hfz)
 have HFS := Lib.hid hfs
 have HDT := Lib.hid hdt
 have HZ0 := Lib.hid hfz
 have hlI : (l.length : Int) ≤ 10 := by omega
 rw [hfz]
 clear hfz hfs hdt
 have p6a := HB4.out.cell 0
 have p6b := HB4.out.cell 1
 simp at p6a p6b
 go_wp2_with fail
 refine (catCopyRef_any [.slice A1 d.blocks.length c1, .slice A2 d.entries.length c2] d w4 (HD2.out.up HX4.out)).mono ?_
 rintro e w5 ⟨B1, k1, B2, k2, rfl, hx5, ho1, ho2, hne12⟩
 have HX5 := Lib.hid hx5
 have HO1 := Lib.hid ho1
 have HO2 := Lib.hid ho2
 have HNE := Lib.hid hne12
 have HX25 := Lib.hid (HX4.out.trans hx5)
 clear hx5 ho1 ho2 hne12 p6a p6b
 go_wp2_with fail
 refine wp_abs (fun W => Ext w5 W ∧ Blk_ W w5.heap.size 40 #[.slice B1 d.blocks.length k1, .slice B2 d.entries.length k2]) ⟨(Ext.refl _).alloc _, Blk_.new _ _ _⟩ ?_
 rintro w6 ⟨hx6, hb6'⟩
 obtain ⟨b8, hb8⟩ : ∃ b, b = w5.heap.size := ⟨_, rfl⟩
 rw [← hb8] at hb6' ⊢
 have HX6 := Lib.hid hx6
 have HB8 := Lib.hid hb6'
 have H8 := Lib.hid hb8
 clear hx6 hb6' hb8
 go_loopw [9, 10] (fun dv iv wr => ∃ (k : Nat) (es : List Ent) (Ae : Option Addr) (ce : Nat), dv = .string (dataS (l.take k)) ∧ iv = .int .i64 k ∧ k ≤ l.length ∧ es.length = d.entries.length + k ∧ addE d.blocks.length es (dataS (l.take k)).size (l.drop k) = addE d.blocks.length d.entries 0 l ∧ Ext w5 wr ∧ Blk_ wr b8 40 #[.slice B1 d.blocks.length k1, .slice Ae es.length ce] ∧
   wr.ownsRow w4.heap.size 70 4 (.slice Ae es.length ce) es.length (es.flatMap encEnt) ∧ (∀ g, (Value.slice B1 d.blocks.length k1).ownBlock = some g → (Value.slice Ae es.length ce).ownBlock ≠ some g)) (fun _ iv _ => l.length - (intOf iv).toNat)
 case atStart => exact ⟨0, d.entries, B2, k2, rfl, rfl, Nat.zero_le _, rfl, rfl, HX6.out, HB8.out, own_ext HO2.out HX6.out, HNE.out⟩
 case round =>
  clear HX6 HB8 HO2 HNE
  obtain ⟨k, es, Ae, ce, rfl, rfl, hk, hel, hadd, hx, hb8, hoe, hne⟩ := hrel
  have HX := Lib.hid hx
  have HB8 := Lib.hid hb8
  have HOE := Lib.hid hoe
  have HNE := Lib.hid hne
  have HEL := Lib.hid hel
  have hes20 : (es.length : Int) ≤ 20 := by have := HCA.out.2.1; omega
  have hdsz : (dataS (l.take k)).size ≤ 600 := by
   have h1 := dataS_size (l.take k)
   have h2 : fileBytes (l.take k) ≤ fileBytes l := by
    unfold fileBytes
    conv => rhs; rw [← List.take_append_drop k l, List.map_append, List.sum_append]
    omega
   have := HFS.out.2.2.2
   omega
  have hdI : ((dataS (l.take k)).size : Int) ≤ 600 := by omega
  by_cases hlt : k < l.length
  ·have hki : (k : Int) < (l.length : Int) := by omega
   obtain ⟨b3, o3, rfl, g3⟩ := HF.out k hlt
   have xr : Ext w wr := HX14.out.trans (HX5.out.trans hx)
   have q0 := xr.cell (g3 k hlt 0 _ rfl)
   have q1 := xr.cell (g3 k hlt 1 _ rfl)
   simp only [Nat.add_zero] at q0
   have hdr : l.drop k = l[k] :: l.drop (k + 1) := List.drop_eq_getElem_cons hlt
   have hdt2 := dataS_take l k hlt
   have hfz := (HFS.out.2.2.1 l[k] (List.getElem_mem hlt)).2
   obtain ⟨f, hff⟩ : ∃ f, f = l[k] := ⟨_, rfl⟩
   rw [← hff] at q0 q1 hdr hdt2 hfz
   rw [hdr] at hadd
   have HDT2 := Lib.hid hdt2
   have HAD := Lib.hid hadd
   have HLT := Lib.hid hlt
   obtain ⟨dt, hdt⟩ : ∃ z, z = dataS (l.take k) := ⟨_, rfl⟩
   rw [← hdt] at hdsz hdI HDT2 HAD ⊢
   have hfI : (f.data.size : Int) ≤ 200 := by omega
   have e6 := (HB4.out.ext (HX5.out.trans hx)).cell 0
   simp at e6
   have HDS := Lib.hid hdsz
   clear g3 hff hdr hdt2 hfz hadd hlt hk hel hx hb8 hoe hne hdt xr hdsz
   go_wp2_with fail
   refine wp_region_all (S := fun W' => W'.cell? ⟨b3, o3 + k * 2, none⟩ = some (.string f.name) ∧ W'.cell? ⟨b3, o3 + k * 2 + 1, none⟩ = some (.string f.data) ∧ W'.cell? ⟨b6, 0, none⟩ = some (.slice A1 d.blocks.length c1)) (by kernel_rfl) ?_
   have hS0 : (fun W' => W'.cell? ⟨b3, o3 + k * 2, none⟩ = some (.string f.name) ∧ W'.cell? ⟨b3, o3 + k * 2 + 1, none⟩ = some (.string f.data) ∧ W'.cell? ⟨b6, 0, none⟩ = some (.slice A1 d.blocks.length c1)) wr.drew := ⟨q0, q1, e6⟩
   refine tkL 0 rfl (fun w' hS => by obtain ⟨t1, t2, t3⟩ := hS; go_simp; rfl) hS0 ?_
   refine tkL 1 rfl (fun w' hS => by obtain ⟨t1, t2, t3⟩ := hS; go_simp; rfl) hS0 ?_
   refine tkL 2 rfl (fun w' hS => by obtain ⟨t1, t2, t3⟩ := hS; go_simp; rfl) hS0 ?_
   try simp only [Act.put, List.setIfInBounds_toArray, List.set_cons_zero, List.set_cons_succ]
   refine tkL 3 rfl (fun w' hS => by obtain ⟨t1, t2, t3⟩ := hS; go_simp; rfl) hS0 ?_
   refine tkL 4 rfl (fun w' hS => by obtain ⟨t1, t2, t3⟩ := hS; go_simp; rfl) hS0 ?_
   refine tkL 5 rfl (fun w' hS => by obtain ⟨t1, t2, t3⟩ := hS; go_simp; rfl) hS0 ?_
   try simp only [Act.put, List.setIfInBounds_toArray, List.set_cons_zero, List.set_cons_succ]
   refine tkL 6 rfl (fun w' hS => by obtain ⟨t1, t2, t3⟩ := hS; go_simp; rfl) hS0 ?_
   refine tkL 7 rfl (fun w' hS => by obtain ⟨t1, t2, t3⟩ := hS; go_simp; rfl) hS0 ?_
   refine tkL 8 rfl (fun w' hS => by obtain ⟨t1, t2, t3⟩ := hS; go_simp; rfl) hS0 ?_
   try simp only [Act.put, List.setIfInBounds_toArray, List.set_cons_zero, List.set_cons_succ]
   refine tkL 9 rfl (fun w' hS => by obtain ⟨t1, t2, t3⟩ := hS; go_simp; rfl) hS0 ?_
   refine tkL 10 rfl (fun w' hS => by obtain ⟨t1, t2, t3⟩ := hS; go_simp; rfl) hS0 ?_
   refine tkL 11 rfl (fun w' hS => by obtain ⟨t1, t2, t3⟩ := hS; go_simp; rfl) hS0 ?_
   try simp only [Act.put, List.setIfInBounds_toArray, List.set_cons_zero, List.set_cons_succ]
   refine tkL 12 rfl (fun w' hS => by obtain ⟨t1, t2, t3⟩ := hS; go_simp; rfl) hS0 ?_
   refine tkL 13 rfl (fun w' hS => by obtain ⟨t1, t2, t3⟩ := hS; go_simp; rfl) hS0 ?_
   refine tkL 14 rfl (fun w' hS => by obtain ⟨t1, t2, t3⟩ := hS; go_simp; rfl) hS0 ?_
   try simp only [Act.put, List.setIfInBounds_toArray, List.set_cons_zero, List.set_cons_succ]
   refine tkL 15 rfl (fun w' hS => by obtain ⟨t1, t2, t3⟩ := hS; go_simp; rfl) hS0 ?_
   refine tkL 16 rfl (fun w' hS => by obtain ⟨t1, t2, t3⟩ := hS; go_simp; rfl) hS0 ?_
   try simp only [Act.put, List.setIfInBounds_toArray, List.set_cons_zero, List.set_cons_succ]
   clear hS0
   refine anyH_abs (fun W => Ext wr W) ((Ext.refl _).drew) ?_
   rintro wp hxp
   refine wpAnyH_oneL (i := 17) rfl (by kernel_rfl) rfl (fun K hK => ?_)
   go_wp2_with fail
   refine hK _ _ ⟨(hxp.alloc _).cell q0, (hxp.alloc _).cell q1, (hxp.alloc _).cell e6⟩ ?_
   clear hK K
   try simp only [Act.put, List.setIfInBounds_toArray, List.set_cons_zero, List.set_cons_succ]
   obtain ⟨b11, hb11⟩ : ∃ b, b = wp.heap.size := ⟨_, rfl⟩
   rw [← hb11]
   have hl11 : wr.heap.size ≤ b11 := by rw [hb11]; exact hxp.size
   refine anyH_abs (fun W => Ext wr W ∧ Blk_ W b11 70 #[.string .empty, .int .i64 0, .int .i64 0, .int .i64 0]) ⟨hxp.alloc _, by rw [hb11]; exact Blk_.new _ _ _⟩ ?_
   clear hxp hb11
   rintro wp ⟨hxp, h11⟩
   have f0 := h11.cell 0
   have f1 := h11.cell 1
   have f2 := h11.cell 2
   have f3 := h11.cell 3
   have z0 := h11.frozen 0
   have z1 := h11.frozen 1
   have z2 := h11.frozen 2
   have z3 := h11.frozen 3
   have l11 := h11.lt
   simp at f0 f1 f2 f3
   refine wpAnyH_oneL (i := 18) rfl (by kernel_rfl) rfl (fun K hK => ?_)
   go_wp2_with fail
   have hxq := (((hxp.setCell (p := ⟨b11, 0, none⟩) hl11 (.string f.name)).setCell (p := ⟨b11, 1, none⟩) hl11 (.int .i64 d.blocks.length)).setCell (p := ⟨b11, 2, none⟩) hl11 (.int .i64 dt.size)).setCell (p := ⟨b11, 3, none⟩) hl11 (.int .i64 f.data.size)
   refine hK _ _ ⟨hxq.cell q0, hxq.cell q1, hxq.cell e6⟩ ?_
   clear hK K
   try simp only [Act.put, List.setIfInBounds_toArray, List.set_cons_zero, List.set_cons_succ]
   refine anyH_abs (fun W => Ext wr W ∧ Blk_ W b11 70 #[.string f.name, .int .i64 d.blocks.length, .int .i64 dt.size, .int .i64 f.data.size]) ⟨hxq, (((h11.set 0 _).set 1 _).set 2 _).set 3 _⟩ ?_
   clear hxp h11 hxq f0 f1 f2 f3 z0 z1 z2 z3 l11
   rintro w7 ⟨hx7, h11⟩
   refine wpAnyH_done (by kernel_rfl) ?_ _
   have HX7 := Lib.hid hx7
   have H11 := Lib.hid h11
   have HL11 := Lib.hid hl11
   have q1' := hx7.cell q1
   clear hx7 h11 hl11 q0 q1 e6
   go_wp2_with fail
   obtain ⟨X, hX⟩ : ∃ X : Ent, X = ⟨f.name, d.blocks.length, dt.size, f.data.size⟩ := ⟨_, rfl⟩
   have HXD := Lib.hid hX
   have HOE7 := Lib.hid (own_ext HOE.out HX7.out)
   have HB87 := Lib.hid (HB8.out.ext HX7.out)
   have HCE := Lib.hid (own_ents HOE7.out)
   obtain ⟨i1, hi1, za1, zb1, zc1⟩ := info_parts info_ent
   have HI1 := Lib.hid (And.intro hi1 (And.intro za1 (And.intro zb1 zc1)))
   clear hi1 za1 zb1 zc1 hX q1'
   go_loopw [12, 13, 14] (fun nv bv jv ws => ∃ (j : Nat) (done : Bool) (next : List Ent) (An : Option Addr) (cn : Nat), nv = .slice An next.length cn ∧ bv = .bool done ∧ jv = .int .i64 j ∧ j ≤ es.length ∧ RSt X es j done next ∧ Ext w7 ws ∧ ws.ownsRow w7.heap.size 70 4 (.slice An next.length cn) next.length (next.flatMap encEnt)) (fun _ _ jv _ => es.length - (intOf jv).toNat)
   case atStart => exact ⟨0, false, [], none, 0, rfl, rfl, rfl, Nat.zero_le _, RSt.start X es, Ext.refl _, World.ownsRow_nil _ _ _ _⟩
   case round =>
    obtain ⟨j, done, next, An, cn, rfl, rfl, rfl, hj, hst, hxs, how⟩ := hrel
    have HXS := Lib.hid hxs
    have HOW := Lib.hid how
    have HST := Lib.hid hst
    have hnl := hst.len
    have hnn : (next.length : Int) ≤ 21 := by omega
    have HNL := Lib.hid hnl
    have n8 := (HB87.out.ext hxs).cell 1
    simp at n8
    by_cases hlt : j < es.length
    ·have hjI : (j : Int) < (es.length : Int) := by omega
     obtain ⟨be, oe, rfl, ge⟩ := HCE.out j hlt
     have m0 := hxs.cell (ge j hlt 0 _ rfl)
     have m1 := hxs.cell (ge j hlt 1 _ rfl)
     have m2 := hxs.cell (ge j hlt 2 _ rfl)
     have m3 := hxs.cell (ge j hlt 3 _ rfl)
     simp only [Nat.add_zero] at m0
     have g0 := (H11.out.ext hxs).cell 0
     have g1 := (H11.out.ext hxs).cell 1
     have g2 := (H11.out.ext hxs).cell 2
     have g3 := (H11.out.ext hxs).cell 3
     simp at g0 g1 g2 g3
     have hmem : es[j]'hlt ∈ es := List.getElem_mem hlt
     have HPUT := Lib.hid (fun (hd : done = false) (h1 : lst es[j].name ≠ lst X.name) (h2 : Op.bytesLess (lst X.name) (lst es[j].name) = true) => RSt.put (by rw [hd] at hst; exact hst) hlt h1 h2)
     have HPASS := Lib.hid (fun (hd : done = false) (h1 : lst es[j].name ≠ lst X.name) (h2 : Op.bytesLess (lst X.name) (lst es[j].name) = false) => RSt.pass (by rw [hd] at hst; exact hst) hlt h1 h2)
     have HMORE := Lib.hid (fun (hd : done = true) (h1 : lst es[j].name ≠ lst X.name) => RSt.more (by rw [hd] at hst; exact hst) hlt h1)
     obtain ⟨Y, hY⟩ : ∃ Y, Y = es[j]'hlt := ⟨_, rfl⟩
     rw [← hY] at m0 m1 m2 m3 hmem HPUT HPASS HMORE
     have HLJ := Lib.hid hlt
     obtain ⟨nn, hnnE⟩ : ∃ z, z = next.length := ⟨_, rfl⟩
     have HNE2 := Lib.hid hnnE
     rw [← hnnE] at hnn HOW HNL ⊢
     have hXn : X.name = f.name := by rw [HXD.out]
     have GE := Lib.hid (show j < es.length → ∀ (t : Nat) (u : Value), (encEnt Y)[t]? = some u → w7.cell? ⟨be, oe + j * 4 + t, none⟩ = some u from fun hl t u hu => ge j hl t u (by rw [← hY]; exact hu))
     clear hst hnl hY ge hj how hlt hnnE hxs
     by_cases he : lst Y.name = lst f.name
     ·have hE : (Y.name.toList == f.name.toList) = true := by rw [toList_lst, toList_lst, he]; exact beq_self_eq_true _
      have HFE := Lib.hid (addS_twice HOP.out HFZ.out (by rw [← HDE.out, ← HAD.out]; exact addE_in ⟨Y, hmem, he⟩))
      have HQR := Lib.hid (HQ2.out.ext (HX25.out.trans (HX.out.trans (HX7.out.trans HXS.out))))
      have HXR := Lib.hid (HX2.out.trans (HX25.out.trans (HX.out.trans (HX7.out.trans HXS.out))))
      have y0 := HQR.out.cell 0
      have x0 := HQR.out.frozen 0
      simp at y0
      have lq := HQR.out.lt
      clear he hmem hXn
      go_wp2_with fail
      go_quiet (fail)
      go_wp2_with fail
      refine bodyPost_ret (res_cell_tmp (g := b4) (cs := #[.slice none 0 0]) rfl rfl (by first | exact HQR.out.set 0 (.slice none 0 0) | exact (HQR.out.set 0 (.slice none 0 0)).alloc _ | exact (HQR.out.alloc _).set 0 (.slice none 0 0) | exact (HQR.out.set 0 (.slice none 0 0)).ext (Ext.drewN (Ext.refl _) _) | exact (HQR.out.ext (Ext.drewN (Ext.refl _) _)).set 0 (.slice none 0 0)) Tryz.underlying24 rfl (by kernel_rfl)) rfl ?_
      rw [HFE.out]
      exact ⟨none, 0, rfl, by first | exact HXR.out.setCell (p := ⟨b4, 0, none⟩) (by have := HW.out; simp only; omega) _ | exact (HXR.out.setCell (p := ⟨b4, 0, none⟩) (by have := HW.out; simp only; omega) _).alloc _ | exact (HXR.out.alloc _).setCell (p := ⟨b4, 0, none⟩) (by have := HW.out; simp only; omega) _ | exact (HXR.out.drewN _).setCell (p := ⟨b4, 0, none⟩) (by have := HW.out; simp only; omega) _ | exact (HXR.out.setCell (p := ⟨b4, 0, none⟩) (by have := HW.out; simp only; omega) _).drewN _, OArr.nil _ _ _⟩
     ·have hE : (Y.name.toList == f.name.toList) = false := by rw [toList_lst, toList_lst]; exact beq_false_of_ne he
      have hne' : lst Y.name ≠ lst X.name := by rw [hXn]; exact he
      go_wp2_with fail
      go_quiet (fail)
      go_wp2_with fail
      refine wp_abs (fun W => Ext wr W) (by first | exact (Ext.refl _).drewN _ | exact (Ext.refl _).drew | exact Ext.refl _) ?_
      rintro v1 hv1
      have HV1 := Lib.hid (HXS.out.trans hv1)
      have HOW1 := Lib.hid (own_ext HOW.out hv1)
      clear hv1 n8 m0 m1 m2 m3 g0 g1 g2 g3
      have n8 := (HB87.out.ext HV1.out).cell 1
      have m0 := HV1.out.cell (GE.out HLJ.out 0 _ rfl)
      have m1 := HV1.out.cell (GE.out HLJ.out 1 _ rfl)
      have m2 := HV1.out.cell (GE.out HLJ.out 2 _ rfl)
      have m3 := HV1.out.cell (GE.out HLJ.out 3 _ rfl)
      have g0 := (H11.out.ext HV1.out).cell 0
      have g1 := (H11.out.ext HV1.out).cell 1
      have g2 := (H11.out.ext HV1.out).cell 2
      have g3 := (H11.out.ext HV1.out).cell 3
      simp at n8 g0 g1 g2 g3
      simp only [Nat.add_zero] at m0
      cases done with
      | true =>
       have HRS := Lib.hid (HMORE.out rfl hne')
       clear he hne' hmem hXn
       go_quiet (fail)
       go_wp2_with (at_builtin; refine wpList_append_at _ rfl (.tmp 102) (.tmp 108) 38 rfl w7.heap.size 70 i1 (.agg #[.string .empty, .int .i64 0, .int .i64 0, .int .i64 0]) 4 40 Tryz.underlying38 HI1.out.1 HI1.out.2.1 HI1.out.2.2.1 HI1.out.2.2.2 rfl (by decide) (.slice An (nn) cn) (nn) _ rfl (own_ext HOW1.out (((Ext.refl _).drewN _).alloc _)) ⟨_, 0, none⟩ 1 1 (encEnt Y) rfl rfl ?a0 ?a1 ?a2 ?a3 ?a4 ?_)
       case a0 =>
        intro j' u hj'
        try rw [Addr.add_lit, Nat.zero_add]
        refine Eq.trans ((Blk_.new _ 70 _).cell j') ?_
        rw [List.getElem?_toArray]
        exact hj'
       case a1 => exact fun u hu => encEnt_ok.one _ u hu
       case a2 => unfold maxLen; omega
       case a3 => omega
       case a4 => have := HV1.out.size; first | omega | (rw [World.size_alloc]; omega) | exact ((HV1.out.drewN _).alloc _).size
       intro A3 c3 v3 own3 hg3 hV3
       have HV3 := Lib.hid (((HV1.out.drewN _).alloc _).grown hg3 (fun g hg => (HOW1.out.lt g hg).1))
       have HO3_ := Lib.hid own3
       clear own3 hg3 hV3
       go_wp2_with fail
       go_roundw
       case rel => exact ⟨j + 1, true, next ++ [Y], A3, c3, by rw [List.length_append, ← HNE2.out]; rfl, rfl, by first | rfl | go_num, HLJ.out, HRS.out, HV3.out, by rw [List.length_append, List.flatMap_append, ← HNE2.out]; simpa using HO3_.out⟩
       case measure => have := HLJ.out; (simp [intOf]; try omega)
      | false =>
       cases hl : Op.bytesLess (lst X.name) (lst Y.name) with
       | true =>
        have HRS := Lib.hid (HPUT.out rfl hne' hl)
        have hL : Op.bytesLess Y.name.toList f.name.toList = false := by
         rw [toList_lst, toList_lst, ← hXn]
         cases hq : Op.bytesLess (lst Y.name) (lst X.name) with
         | false => rfl
         | true => have h3 := bl_trans _ _ _ hq hl; rw [bl_irrefl] at h3; cases h3
        clear he hne' hmem hXn hl
        go_quiet (fail)
        go_wp2_with (at_builtin; refine wpList_append_at _ rfl (.tmp 98) (.tmp 100) 38 rfl w7.heap.size 70 i1 (.agg #[.string .empty, .int .i64 0, .int .i64 0, .int .i64 0]) 4 40 Tryz.underlying38 HI1.out.1 HI1.out.2.1 HI1.out.2.2.1 HI1.out.2.2.2 rfl (by decide) (.slice An (nn) cn) (nn) _ rfl (own_ext HOW1.out (((Ext.refl _).drewN _).alloc _)) ⟨_, 0, none⟩ 1 1 (encEnt ⟨f.name, d.blocks.length, dt.size, f.data.size⟩) rfl rfl ?a0 ?a1 ?a2 ?a3 ?a4 ?_)
        case a0 =>
         intro j' u hj'
         try rw [Addr.add_lit, Nat.zero_add]
         refine Eq.trans ((Blk_.new _ 70 _).cell j') ?_
         rw [List.getElem?_toArray]
         exact hj'
        case a1 => exact fun u hu => encEnt_ok.one _ u hu
        case a2 => unfold maxLen; omega
        case a3 => omega
        case a4 => have := HV1.out.size; first | omega | (rw [World.size_alloc]; omega) | exact ((HV1.out.drewN _).alloc _).size
        intro A3 c3 v3 own3 hg3 hV3
        have HV3 := Lib.hid (((HV1.out.drewN _).alloc _).grown hg3 (fun g hg => (HOW1.out.lt g hg).1))
        have HO3_ := Lib.hid own3
        clear own3 hg3 hV3
        clear n8 m0 m1 m2 m3 g0 g1 g2 g3
        have n8 := (HB87.out.ext HV3.out).cell 1
        have m0 := HV3.out.cell (GE.out HLJ.out 0 _ rfl)
        have m1 := HV3.out.cell (GE.out HLJ.out 1 _ rfl)
        have m2 := HV3.out.cell (GE.out HLJ.out 2 _ rfl)
        have m3 := HV3.out.cell (GE.out HLJ.out 3 _ rfl)
        have g0 := (H11.out.ext HV3.out).cell 0
        have g1 := (H11.out.ext HV3.out).cell 1
        have g2 := (H11.out.ext HV3.out).cell 2
        have g3 := (H11.out.ext HV3.out).cell 3
        simp at n8 g0 g1 g2 g3
        simp only [Nat.add_zero] at m0
        go_wp2_with (at_builtin; refine wpList_append_at _ rfl (.tmp 102) (.tmp 108) 38 rfl w7.heap.size 70 i1 (.agg #[.string .empty, .int .i64 0, .int .i64 0, .int .i64 0]) 4 40 Tryz.underlying38 HI1.out.1 HI1.out.2.1 HI1.out.2.2.1 HI1.out.2.2.2 rfl (by decide) (.slice A3 (nn + 1) c3) (nn + 1) _ rfl (own_ext HO3_.out ((Ext.refl _).alloc _)) ⟨_, 0, none⟩ 1 1 (encEnt Y) rfl rfl ?b0 ?b1 ?b2 ?b3 ?b4 ?_)
        case b0 =>
         intro j' u hj'
         try rw [Addr.add_lit, Nat.zero_add]
         refine Eq.trans ((Blk_.new _ 70 _).cell j') ?_
         rw [List.getElem?_toArray]
         exact hj'
        case b1 => exact fun u hu => encEnt_ok.one _ u hu
        case b2 => unfold maxLen; omega
        case b3 => omega
        case b4 => have := HV3.out.size; first | omega | (rw [World.size_alloc]; omega) | exact (HV3.out.alloc _).size
        intro A5 c5 v5 own5 hg5 hV5
        have HV5 := Lib.hid ((HV3.out.alloc _).grown hg5 (fun g hg => (HO3_.out.lt g hg).1))
        have HO5_ := Lib.hid own5
        clear own5 hg5 hV5
        go_wp2_with fail
        go_roundw
        case rel => exact ⟨j + 1, true, next ++ [X] ++ [Y], A5, c5, by rw [List.length_append, List.length_append, ← HNE2.out]; rfl, rfl, by first | rfl | go_num, HLJ.out, HRS.out, HV5.out, by rw [List.length_append, List.length_append, List.flatMap_append, List.flatMap_append, ← HNE2.out, HXD.out]; simpa using HO5_.out⟩
        case measure => have := HLJ.out; (simp [intOf]; try omega)
       | false =>
        have HRS := Lib.hid (HPASS.out rfl hne' hl)
        have hL : Op.bytesLess Y.name.toList f.name.toList = true := by rw [toList_lst, toList_lst, ← hXn]; exact less_of_not (by rw [hl]; decide) (fun e => hne' e.symm)
        clear he hne' hmem hXn hl
        go_quiet (fail)
        go_wp2_with (at_builtin; refine wpList_append_at _ rfl (.tmp 102) (.tmp 108) 38 rfl w7.heap.size 70 i1 (.agg #[.string .empty, .int .i64 0, .int .i64 0, .int .i64 0]) 4 40 Tryz.underlying38 HI1.out.1 HI1.out.2.1 HI1.out.2.2.1 HI1.out.2.2.2 rfl (by decide) (.slice An (nn) cn) (nn) _ rfl (own_ext HOW1.out (((Ext.refl _).drewN _).alloc _)) ⟨_, 0, none⟩ 1 1 (encEnt Y) rfl rfl ?a0 ?a1 ?a2 ?a3 ?a4 ?_)
        case a0 =>
         intro j' u hj'
         try rw [Addr.add_lit, Nat.zero_add]
         refine Eq.trans ((Blk_.new _ 70 _).cell j') ?_
         rw [List.getElem?_toArray]
         exact hj'
        case a1 => exact fun u hu => encEnt_ok.one _ u hu
        case a2 => unfold maxLen; omega
        case a3 => omega
        case a4 => have := HV1.out.size; first | omega | (rw [World.size_alloc]; omega) | exact ((HV1.out.drewN _).alloc _).size
        intro A3 c3 v3 own3 hg3 hV3
        have HV3 := Lib.hid (((HV1.out.drewN _).alloc _).grown hg3 (fun g hg => (HOW1.out.lt g hg).1))
        have HO3_ := Lib.hid own3
        clear own3 hg3 hV3
        go_wp2_with fail
        go_roundw
        case rel => exact ⟨j + 1, false, next ++ [Y], A3, c3, by rw [List.length_append, ← HNE2.out]; rfl, rfl, by first | rfl | go_num, HLJ.out, HRS.out, HV3.out, by rw [List.length_append, List.flatMap_append, ← HNE2.out]; simpa using HO3_.out⟩
        case measure => have := HLJ.out; (simp [intOf]; try omega)
    ·have hje : j = es.length := by omega
     subst hje
     have hjI : (es.length : Int) ≤ (es.length : Int) := by omega
     have hfine := hst.fine
     obtain ⟨nn, hnnE⟩ : ∃ z, z = next.length := ⟨_, rfl⟩
     have HNE2 := Lib.hid hnnE
     rw [← hnnE] at hnn HOW HNL ⊢
     have z8 := (HB87.out.ext hxs).frozen 1
     have l8 := (HB87.out.ext hxs).lt
     have hil : (insE X es).length = es.length + 1 := insE_length X es
     cases done with
     | true =>
      have hend := hst.end1
      have HINS := Lib.hid (And.intro hfine hend)
      have HLN := Lib.hid (show nn = (insE X es).length by rw [hnnE, hend])
      clear hst hnl hj how hlt hnnE hxs hfine hil hend
      go_wp2_with fail
      go_roundw
      case rel =>
       have hq := HINS.out
       have hl5 := H8.out
       have hl7 := HB87.out.lt
       have hs57 := (HX.out.trans HX7.out).size
       have hs45 := HX5.out.size
       refine ⟨k + 1, insE X es, An, cn, by rw [HDT2.out], by first | rfl | go_num, HLT.out, by rw [insE_length]; have := HEL.out; omega, ?_, ((HX.out.trans HX7.out).trans HXS.out).setCell (p := ⟨b8, 1, none⟩) (by simp only; omega) _, ?_, ?_, ?_⟩
       ·rw [← HDT2.out, ByteArray.size_append, ← HAD.out, HXD.out]
        exact (addE_go (nb := d.blocks.length) (p := dt.size) (f := f) (l := l.drop (k + 1)) (by rw [HXD.out] at hq; exact hq.1)).symm
       ·have h1 := (HB87.out.ext HXS.out).set 1 (.slice An (nn) cn)
        rw [← HLN.out]
        exact h1
       ·have h1 := HOW.out
        rw [HINS.out.2] at h1
        have h2 := own_len HLN.out h1
        rw [← HLN.out] at h2 ⊢
        exact own_base (ownsRow_setCell_other h2 (fun e => by have h3 := (h2.lt _ e).1; simp only at h3; omega) _) (by omega)
       ·intro g hg hg'
        have h3 := (HO1.out.lt g hg).2
        have h4 := (HOW.out.lt g (by rw [HLN.out]; exact hg')).1
        omega
      case measure => have := HLT.out; (simp [intOf]; try omega)
     | false =>
      have hend := hst.end0
      have HINS := Lib.hid (And.intro hfine hend)
      have HLN := Lib.hid (show nn + 1 = (insE X es).length by rw [← hend, List.length_append, hnnE]; rfl)
      have g0 := (H11.out.ext hxs).cell 0
      have g1 := (H11.out.ext hxs).cell 1
      have g2 := (H11.out.ext hxs).cell 2
      have g3 := (H11.out.ext hxs).cell 3
      simp at g0 g1 g2 g3
      clear hst hnl hj how hlt hnnE hxs hfine hil hend z8 l8
      go_wp2_with (at_builtin; refine wpList_append_at _ rfl (.tmp 112) (.tmp 114) 38 rfl w7.heap.size 70 i1 (.agg #[.string .empty, .int .i64 0, .int .i64 0, .int .i64 0]) 4 40 Tryz.underlying38 HI1.out.1 HI1.out.2.1 HI1.out.2.2.1 HI1.out.2.2.2 rfl (by decide) (.slice An (nn) cn) (nn) _ rfl (own_ext HOW.out ((Ext.refl _).alloc _)) ⟨_, 0, none⟩ 1 1 (encEnt ⟨f.name, d.blocks.length, dt.size, f.data.size⟩) rfl rfl ?a0 ?a1 ?a2 ?a3 ?a4 ?_)
      case a0 =>
       intro j' u hj'
       try rw [Addr.add_lit, Nat.zero_add]
       refine Eq.trans ((Blk_.new _ 70 _).cell j') ?_
       rw [List.getElem?_toArray]
       exact hj'
      case a1 => exact fun u hu => encEnt_ok.one _ u hu
      case a2 => unfold maxLen; omega
      case a3 => omega
      case a4 => have := HXS.out.size; first | omega | (rw [World.size_alloc]; omega) | exact (HXS.out.alloc _).size
      intro A3 c3 v3 own3 hg3 hV3
      have HV3 := Lib.hid ((HXS.out.alloc _).grown hg3 (fun g hg => (HOW.out.lt g hg).1))
      have HO3_ := Lib.hid own3
      clear own3 hg3 hV3
      clear n8
      have n8 := (HB87.out.ext HV3.out).cell 1
      have z8 := (HB87.out.ext HV3.out).frozen 1
      have l8 := (HB87.out.ext HV3.out).lt
      simp at n8
      have HO4_ := Lib.hid (show v3.ownsRow w7.heap.size 70 4 (.slice A3 (nn + 1) c3) (nn + 1) ((next ++ [X]).flatMap encEnt) by rw [List.flatMap_append, HXD.out]; simpa using HO3_.out)
      clear g0 g1 g2 g3
      go_wp2_with fail
      go_roundw
      case rel =>
       have hq := HINS.out
       have hl5 := H8.out
       have hl7 := HB87.out.lt
       have hs57 := (HX.out.trans HX7.out).size
       have hs45 := HX5.out.size
       refine ⟨k + 1, insE X es, A3, c3, by rw [HDT2.out], by first | rfl | go_num, HLT.out, by rw [insE_length]; have := HEL.out; omega, ?_, ((HX.out.trans HX7.out).trans HV3.out).setCell (p := ⟨b8, 1, none⟩) (by simp only; omega) _, ?_, ?_, ?_⟩
       ·rw [← HDT2.out, ByteArray.size_append, ← HAD.out, HXD.out]
        exact (addE_go (nb := d.blocks.length) (p := dt.size) (f := f) (l := l.drop (k + 1)) (by rw [HXD.out] at hq; exact hq.1)).symm
       ·have h1 := (HB87.out.ext HV3.out).set 1 (.slice A3 (nn + 1) c3)
        rw [← HLN.out]
        exact h1
       ·have h1 := HO4_.out
        rw [HINS.out.2] at h1
        have h2 := own_len HLN.out h1
        rw [← HLN.out] at h2 ⊢
        exact own_base (ownsRow_setCell_other h2 (fun e => by have h3 := (h2.lt _ e).1; simp only at h3; omega) _) (by omega)
       ·intro g hg hg'
        have h3 := (HO1.out.lt g hg).2
        have h4 := (HO4_.out.lt g (by rw [HLN.out]; exact hg')).1
        omega
      case measure => have := HLT.out; (simp [intOf]; try omega)
  ·have hke : k = l.length := by omega
   have HES := Lib.hid (show addE d.blocks.length d.entries 0 l = some es by rw [← hadd, hke, List.drop_length]; rfl)
   have htk : l.take k = l := by rw [hke, List.take_length]
   rw [htk] at hdsz hdI ⊢
   have hki : (l.length : Int) ≤ (k : Int) := by omega
   have hae := addE_ok l d.entries 0 es HPW.out (fun x hx => entBad_more (entsF_ok _ _ _ HCA.out.2.2.2 x hx)) HFS.out.2.2.1 (by have := HFS.out.2.2.2; omega) HES.out
   have HAE := Lib.hid hae
   clear hadd hke htk hae hlt hk hel hx hb8 hoe hne HEL
   go_wp2_with fail
   refine (packedOf_any (dataS l) wr).mono ?_
   rintro e w10 ⟨rfl, hx10⟩
   rw [HDT.out.2.1]
   obtain ⟨s, hs⟩ : ∃ s, s = (packS (dataS l)).1 := ⟨_, rfl⟩
   have HS := Lib.hid hs
   have hsz := HDT.out.2.2
   rw [← hs] at hsz ⊢
   have HSZ := Lib.hid hsz
   have hsI : (s.size : Int) ≤ 605 := by omega
   have HX10 := Lib.hid (HX.out.trans hx10)
   have HXW10 := Lib.hid hx10
   have p6a := (HB4.out.ext (HX5.out.trans HX10.out)).cell 0
   have p6b := (HB4.out.ext (HX5.out.trans HX10.out)).cell 1
   simp at p6a p6b
   clear hs hsz hx10 hdsz
   go_wp2_with fail
   refine (nextOf_any [.slice A1 d.blocks.length c1, .slice A2 d.entries.length c2] d w10 (HD2.out.up (HX25.out.trans HX10.out))).mono ?_
   rintro e w11 ⟨rfl, hx11⟩
   rw [next_good HOK.out]
   have hge := catFault_blk HOK.out
   have hle := nextAt_le d.blocks 8 (by omega) (fun _ _ _ => trivial) HCA.out.2.2.1
   obtain ⟨p, hp⟩ : ∃ p : Nat, nextAt 8 d.blocks = (p : Int) := ⟨(nextAt 8 d.blocks).toNat, by omega⟩
   have HPP := Lib.hid hp
   rw [hp] at hge hle ⊢
   have hpI : (p : Int) ≤ 64 := hle
   have HX11 := Lib.hid (HX10.out.trans hx11)
   have HXR2 := Lib.hid (HX25.out.trans HX11.out)
   have HXW11 := Lib.hid (HXW10.out.trans hx11)
   have H8B := Lib.hid (HB8.out.ext HXW11.out)
   have n8a := H8B.out.cell 0
   have n8b := H8B.out.cell 1
   have r6a := (HB4.out.ext (HX5.out.trans HX11.out)).cell 0
   have r2 := (HB2.out.ext HXR2.out).cell 0
   have HQ11 := Lib.hid (HQ2.out.ext HXR2.out)
   have y0 := HQ11.out.cell 0
   have x0 := HQ11.out.frozen 0
   have lq := HQ11.out.lt
   simp at n8a n8b r6a r2 y0
   have HRA := Lib.hid (HR2.out.up HXR2.out)
   obtain ⟨ba, oa, rfl, hla⟩ := HRA.out.look 0 (by have := H3.out; omega)
   obtain ⟨C1, k1', C2, k2', z0, z1, _⟩ := hla 0 (by have := H3.out; omega)
   simp at z0 z1
   have ha0 : (0 : Int) < (a.length : Int) := by have := H3.out; omega
   have hsec : secs s.size = ((s.size : Int) + 23) / 24 := rfl
   obtain ⟨q, hq⟩ : ∃ q : Nat, ((s.size : Int) + 23) / 24 = (q : Int) := ⟨(s.size + 23) / 24, by omega⟩
   have hqI : (q : Int) ≤ 27 := by omega
   have HQQ := Lib.hid hq
   have hesI : (es.length : Int) ≤ 20 := by omega
   have HQR := Lib.hid HQ11.out
   have HXR := Lib.hid (HX2.out.trans HXR2.out)
   clear hx11 hp hge hle p6a p6b hq hla
   go_wp2_with fail
   by_cases g1 : 10 < es.length
   case pos =>
    have HFE := Lib.hid (addS_full HOP.out HFZ.out (by rw [← HDE.out]; exact HES.out) (.inl g1))
    have g1b : decide ((10 : Int) < (es.length : Int)) = true := decide_eq_true (by omega)
    clear g1
    go_quiet (fail)
    go_wp2_with fail
    refine bodyPost_ret (res_cell_tmp (g := b4) (cs := #[.slice none 0 0]) rfl rfl (by first | exact HQR.out.set 0 (.slice none 0 0) | exact (HQR.out.set 0 (.slice none 0 0)).alloc _ | exact (HQR.out.alloc _).set 0 (.slice none 0 0) | exact (HQR.out.set 0 (.slice none 0 0)).ext (Ext.drewN (Ext.refl _) _) | exact (HQR.out.ext (Ext.drewN (Ext.refl _) _)).set 0 (.slice none 0 0)) Tryz.underlying24 rfl (by kernel_rfl)) rfl ?_
    rw [HFE.out]
    exact ⟨none, 0, rfl, by first | exact HXR.out.setCell (p := ⟨b4, 0, none⟩) (by have := HW.out; simp only; omega) _ | exact (HXR.out.setCell (p := ⟨b4, 0, none⟩) (by have := HW.out; simp only; omega) _).alloc _ | exact (HXR.out.alloc _).setCell (p := ⟨b4, 0, none⟩) (by have := HW.out; simp only; omega) _ | exact (HXR.out.drewN _).setCell (p := ⟨b4, 0, none⟩) (by have := HW.out; simp only; omega) _ | exact (HXR.out.setCell (p := ⟨b4, 0, none⟩) (by have := HW.out; simp only; omega) _).drewN _, OArr.nil _ _ _⟩
   case neg =>
   have g1b : decide ((10 : Int) < (es.length : Int)) = false := decide_eq_false (by omega)
   have HG1 := Lib.hid g1
   clear g1
   by_cases g2 : d.blocks.length = 10
   case pos =>
    have HFE := Lib.hid (addS_full HOP.out HFZ.out (by rw [← HDE.out]; exact HES.out) (.inr (.inl (by rw [← HDE.out]; exact g2))))
    have g2b : decide ((10 : Int) ≤ (d.blocks.length : Int)) = true := decide_eq_true (by omega)
    clear g2
    go_quiet (fail)
    go_wp2_with fail
    refine bodyPost_ret (res_cell_tmp (g := b4) (cs := #[.slice none 0 0]) rfl rfl (by first | exact HQR.out.set 0 (.slice none 0 0) | exact (HQR.out.set 0 (.slice none 0 0)).alloc _ | exact (HQR.out.alloc _).set 0 (.slice none 0 0) | exact (HQR.out.set 0 (.slice none 0 0)).ext (Ext.drewN (Ext.refl _) _) | exact (HQR.out.ext (Ext.drewN (Ext.refl _) _)).set 0 (.slice none 0 0)) Tryz.underlying24 rfl (by kernel_rfl)) rfl ?_
    rw [HFE.out]
    exact ⟨none, 0, rfl, by first | exact HXR.out.setCell (p := ⟨b4, 0, none⟩) (by have := HW.out; simp only; omega) _ | exact (HXR.out.setCell (p := ⟨b4, 0, none⟩) (by have := HW.out; simp only; omega) _).alloc _ | exact (HXR.out.alloc _).setCell (p := ⟨b4, 0, none⟩) (by have := HW.out; simp only; omega) _ | exact (HXR.out.drewN _).setCell (p := ⟨b4, 0, none⟩) (by have := HW.out; simp only; omega) _ | exact (HXR.out.setCell (p := ⟨b4, 0, none⟩) (by have := HW.out; simp only; omega) _).drewN _, OArr.nil _ _ _⟩
   case neg =>
   have g2b : decide ((10 : Int) ≤ (d.blocks.length : Int)) = false := decide_eq_false (by have := HCA.out.1; omega)
   have HG2 := Lib.hid g2
   clear g2
   by_cases g3 : ((dv a 0).sec.length : Int) < (p : Int) + (q : Int)
   case pos =>
    have HFE := Lib.hid (addS_full HOP.out HFZ.out (by rw [← HDE.out]; exact HES.out) (.inr (.inr (by rw [← HDE.out, HPP.out, ← HS.out, hsec, HQQ.out]; exact g3))))
    have g3b : decide (((dv a 0).sec.length : Int) < (p : Int) + (q : Int)) = true := decide_eq_true g3
    have hdl : ((dv a 0).sec.length : Int) < 100 := by omega
    clear g3 hsec
    generalize (dv a 0).sec.length = dl at *
    have hqv := HQQ.out
    go_quiet (first | (go_at_call 26; refine Calls.quiet_of_same (sectorsOf_quiet s.size _ (by omega) (by omega))))
    go_wp2_with fail
    refine bodyPost_ret (res_cell_tmp (g := b4) (cs := #[.slice none 0 0]) rfl rfl (by first | exact HQR.out.set 0 (.slice none 0 0) | exact (HQR.out.set 0 (.slice none 0 0)).alloc _ | exact (HQR.out.alloc _).set 0 (.slice none 0 0) | exact (HQR.out.set 0 (.slice none 0 0)).ext (Ext.drewN (Ext.refl _) _) | exact (HQR.out.ext (Ext.drewN (Ext.refl _) _)).set 0 (.slice none 0 0)) Tryz.underlying24 rfl (by kernel_rfl)) rfl ?_
    rw [HFE.out]
    exact ⟨none, 0, rfl, by first | exact HXR.out.setCell (p := ⟨b4, 0, none⟩) (by have := HW.out; simp only; omega) _ | exact (HXR.out.setCell (p := ⟨b4, 0, none⟩) (by have := HW.out; simp only; omega) _).alloc _ | exact (HXR.out.alloc _).setCell (p := ⟨b4, 0, none⟩) (by have := HW.out; simp only; omega) _ | exact (HXR.out.drewN _).setCell (p := ⟨b4, 0, none⟩) (by have := HW.out; simp only; omega) _ | exact (HXR.out.setCell (p := ⟨b4, 0, none⟩) (by have := HW.out; simp only; omega) _).drewN _, OArr.nil _ _ _⟩
   case neg =>
   have g3b : decide (((dv a 0).sec.length : Int) < (p : Int) + (q : Int)) = false := decide_eq_false g3
   have hnf : ¬ (10 < es.length ∨ (openS a).1.blocks.length = 10 ∨ ((dv a 0).sec.length : Int) < nextAt 8 (openS a).1.blocks + secs (packS (dataS l)).1.size) := by
    rw [← HDE.out, HPP.out, ← HS.out, hsec, HQQ.out]
    rintro (e | e | e)
    ·exact HG1.out e
    ·exact HG2.out e
    ·exact g3 e
   have haok := addS_ok HOP.out HFZ.out (by rw [← HDE.out]; exact HES.out) hnf
   have hcok := addCat_ok (n := (dv a 0).sec.length) HOK.out HZ0.out HES.out HG1.out HG2.out (by rw [HPP.out, ← HS.out, hsec, HQQ.out]; exact g3) (by have := arr_parts HMAY.out; omega)
   have hfl : streamFaultS a (p : Int) s.size = 0 := fault_none HMAY.out ⟨by omega, by omega⟩ (by have h1 := HQQ.out; omega)
   rw [← HDE.out, ← HS.out, HPP.out] at haok
   rw [← HS.out] at hcok
   have hw1 := sw_good hfl
   have hdl : ((dv a 0).sec.length : Int) < 100 := by have := arr_parts HMAY.out; omega
   have HAOK := Lib.hid haok
   have HCOK := Lib.hid hcok
   have HW1 := Lib.hid (show (streamWriteS a (p : Int) s).2 = 0 by rw [hw1])
   have HDL := Lib.hid g3
   clear g3 hsec hnf haok hcok hfl hw1
   obtain ⟨dl, hdle⟩ : ∃ dl, dl = (dv a 0).sec.length := ⟨_, rfl⟩
   rw [← hdle] at z0 hdl g3b
   clear hdle
   have hqv := HQQ.out
   go_quiet (first | (go_at_call 26; refine Calls.quiet_of_same (sectorsOf_quiet s.size _ (by omega) (by omega))))
   clear hqv
   have hnb : (d.blocks.length : Int) < 10 := by have h1 := HCA.out.1; have h2 := HG2.out; omega
   obtain ⟨i0, hi0, za0, zb0, zc0⟩ := info_parts info_blk
   have HI0 := Lib.hid (And.intro hi0 (And.intro za0 (And.intro zb0 zc0)))
   clear hi0 za0 zb0 zc0
   go_wp2_with (at_builtin; refine wpList_append_at _ rfl (.tmp 154) (.tmp 159) 37 rfl w4.heap.size 64 i0 (.agg #[.int .i64 0, .int .i64 0]) 2 16 Tryz.underlying37 HI0.out.1 HI0.out.2.1 HI0.out.2.2.1 HI0.out.2.2.2 rfl (by decide) (.slice B1 d.blocks.length k1) d.blocks.length _ rfl (own_ext HO1.out ((HX11.out.drewN _).alloc _)) ⟨_, 0, none⟩ 1 1 [.int .i64 p, .int .i64 s.size] rfl rfl ?c0 ?c1 ?c2 ?c3 ?c4 ?_)
   case c0 =>
    intro j' u hj'
    try rw [Addr.add_lit, Nat.zero_add]
    refine Eq.trans ((Blk_.new _ 64 _).cell j') ?_
    rw [List.getElem?_toArray]
    exact hj'
   case c1 => first | exact ⟨rfl, rfl⟩ | (intro u hu; simp only [List.mem_cons, List.not_mem_nil, or_false] at hu; rcases hu with rfl | rfl <;> rfl)
   case c2 => unfold maxLen; omega
   case c3 => omega
   case c4 => have h1 := HX11.out.size; have h2 := HX5.out.size; first | omega | (rw [World.size_alloc]; omega)
   intro A7 c7 w14 own14 hg14 hV14
   have hx414 : Ext w4 w14 := (HX5.out.trans ((HX11.out.drewN _).alloc _)).grown hg14 (fun g hg => (HO1.out.lt g hg).1)
   have hb814 := (H8B.out.ext (((Ext.refl _).drewN _).alloc _)).grown hg14 (fun j hj => by have h1 := (HO1.out.lt j hj).2; have h2 := H8.out; omega)
   have hoe14 := own_grown (own_ext HOE.out ((HXW11.out.drewN _).alloc _)) hg14 (fun g hg e => HNE.out g e hg)
   have hfm : d.blocks.flatMap encBlk ++ [Value.int .i64 (p : Int), .int .i64 (s.size : Int)] = (d.blocks ++ [(⟨(p : Int), (s.size : Int)⟩ : Blk)]).flatMap encBlk := by rw [List.flatMap_append]; simp [encBlk]
   rw [hfm] at own14
   have HX414 := Lib.hid hx414
   have HB814 := Lib.hid hb814
   have HOE14 := Lib.hid hoe14
   have HOB14 := Lib.hid own14
   have hl8 : w4.heap.size ≤ b8 := by have := H8.out; have := HX5.out.size; omega
   have HL8 := Lib.hid hl8
   clear hx414 hoe14 hfm own14 hg14 hV14 n8a n8b r6a r2 y0 x0 lq z0 z1 hl8
   have n8a := hb814.cell 0
   have n8b := hb814.cell 1
   have z8a := hb814.frozen 0
   have l8 := hb814.lt
   simp at n8a n8b
   clear hb814
   go_wp2_with fail
   refine calls_abs (fun W => Ext w4 W ∧ RCat W [.slice A7 (d.blocks.length + 1) c7, .slice Ae es.length ce] (addCat d es s)) ⟨HX414.out.setCell (p := ⟨b8, 0, none⟩) HL8.out _, ?_⟩ ?_
   ·have h2 : (addCat d es s).blocks = d.blocks ++ [(⟨(p : Int), (s.size : Int)⟩ : Blk)] := by unfold addCat; rw [HPP.out]
    have h3 := ownsRow_setCell_other HOB14.out (a := ⟨b8, 0, none⟩) (fun e => own_ne HOB14.out HB814.out (by decide) _ e rfl) (.slice A7 (d.blocks.length + 1) c7)
    have h4 := ownsRow_setCell_other HOE14.out (a := ⟨b8, 0, none⟩) (fun e => own_ne HOE14.out HB814.out (by decide) _ e rfl) (.slice A7 (d.blocks.length + 1) c7)
    refine ⟨_, _, rfl, ?_, SlR.of_own (bytes := 40) (R := REnt) encEnt_ok h4 (by show es.length * 40 ≤ _; omega) (fun x hx => ent_read (HAE.out.2.1 x hx) (by omega) _)⟩
    have hln : d.blocks.length + 1 = (d.blocks ++ [(⟨(p : Int), (s.size : Int)⟩ : Blk)]).length := by simp
    rw [h2]
    refine SlR.of_own (bytes := 16) (R := RBlk) encBlk_ok (own_len hln h3) (by rw [← hln]; omega) ?_
    intro x hx
    rcases List.mem_append.1 hx with hx | hx
    ·obtain ⟨V1, V2, hv, hs1, hs2⟩ := HD2.out
     exact hs1.mem encBlk_ok _ x hx
    ·obtain rfl := List.mem_singleton.1 hx
     exact ⟨rfl, ⟨by show -9223372036854775808 ≤ (p : Int); omega, by show (p : Int) ≤ 9223372036854775807; omega⟩, ⟨by show -9223372036854775808 ≤ (s.size : Int); omega, by show (s.size : Int) ≤ 9223372036854775807; omega⟩⟩
   rintro w15 ⟨hx15, hc15⟩
   refine (catBytes_any [.slice A7 (d.blocks.length + 1) c7, .slice Ae es.length ce] (addCat d es s) w15 hc15).mono ?_
   rintro e w16 ⟨rfl, hx16⟩
   have hct := catText_size HCOK.out
   obtain ⟨bt, hbt⟩ : ∃ bt, bt = (encCatS (addCat d es s)).1 := ⟨_, rfl⟩
   have hctt : catText (addCat d es s) = bt ++ bs (List.replicate (192 - bt.size) 0) := by unfold catText; rw [← hbt]
   rw [hctt, ByteArray.size_append, size_bs, List.length_replicate] at hct
   rw [← hbt]
   have HCT := Lib.hid hctt
   have hbI : (bt.size : Int) ≤ 192 := by omega
   have HX16 := Lib.hid (HX4.out.trans (hx15.trans hx16))
   have r2 := (HB2.out.ext HX16.out).cell 0
   simp at r2
   have HR16 := Lib.hid (HR2.out.up HX16.out)
   have HQ16 := Lib.hid (HQ2.out.ext HX16.out)
   generalize (encCatS (addCat d es s)).2 = ec at *
   clear hct hbt hctt hx15 hx16 hc15 n8a n8b z8a l8
   go_wp2_with fail
   refine (streamWritten_any [.slice (some ⟨ba, oa, none⟩) a.length c] a p s w16 HR16.out ⟨by omega, by omega⟩ (by omega)).mono ?_
   rintro e w17 ⟨A8, c8, rfl, hx17, ho17⟩
   rw [HW1.out]
   obtain ⟨X, hX⟩ : ∃ X, X = (streamWriteS a (p : Int) s).1 := ⟨_, rfl⟩
   rw [← hX] at ho17 HAOK ⊢
   have HX17 := Lib.hid (HX16.out.trans hx17)
   have HO17 := Lib.hid ho17
   have HQ17 := Lib.hid (HQ16.out.ext hx17)
   have hn8 : X.length ≤ 3 := by
    have h0 := fault_none HMAY.out (first := (p : Int)) (n := s.size) ⟨by omega, by omega⟩ (by have h1 := HQQ.out; have h2 := HDL.out; omega)
    have h1 := sw_good h0
    rw [h1] at hX
    rw [hX]
    obtain ⟨_, _, _, _, m1, m2, m3, _⟩ := arr_parts HMAY.out
    exact Nat.le_of_eq (swl_good s (p : Int) (dv a 0).sec.length m1 m2 m3 (by omega) _ 0 a (Good.of HMAY.out) (by have h1 := HQQ.out; have h2 := HDL.out; omega)).len
   have HN8 := Lib.hid hn8
   obtain ⟨n8, hn8e⟩ : ∃ n8, n8 = X.length := ⟨_, rfl⟩
   have HNE8 := Lib.hid hn8e
   rw [← hn8e] at HO17 ⊢
   clear hX hx17 ho17 hn8 hn8e r2
   go_wp2_with fail
   refine wp_abs (fun W => Ext w17 W ∧ Blk_ W w17.heap.size 24 #[.slice A8 n8 c8]) ⟨(Ext.refl _).alloc _, Blk_.new _ _ _⟩ ?_
   rintro w18 ⟨hx18, hb18⟩
   obtain ⟨g18, hg18⟩ : ∃ g, g = w17.heap.size := ⟨_, rfl⟩
   rw [← hg18] at hb18 ⊢
   have q18 := hb18.cell 0
   simp at q18
   have HX18 := Lib.hid (HX17.out.trans hx18)
   have HR18 := Lib.hid ((HO17.out.ext hx18).rarr (by have := HN8.out; omega))
   have HQ18 := Lib.hid (HQ17.out.ext hx18)
   rw [HNE8.out] at HR18
   have HR18' := Lib.hid (show RArr w18 [.slice A8 n8 c8] X by have := HR18.out; rw [← HNE8.out] at this; exact this)
   have hne18 : g18 ≠ b4 := by have h1 := HQ17.out.lt; omega
   clear hx18 hb18 hg18
   refine wp_region_all (S := fun W' => W'.cell? ⟨g18, 0, none⟩ = some (.slice A8 n8 c8)) (by kernel_rfl) ?_
   have hS0 : (fun W' => W'.cell? ⟨g18, 0, none⟩ = some (.slice A8 n8 c8)) w18.drew := q18
   refine tkL 0 rfl (fun w' hS => by (try dsimp only at hS); go_simp; rfl) hS0 ?_
   refine tkL 1 rfl (fun w' hS => by (try dsimp only at hS); go_simp; rfl) hS0 ?_
   refine tkL 2 rfl (fun w' hS => by (try dsimp only at hS); go_simp; rfl) hS0 ?_
   try simp only [Act.put, List.setIfInBounds_toArray, List.set_cons_zero, List.set_cons_succ]
   refine tkL 3 rfl (fun w' hS => by (try dsimp only at hS); go_simp; rfl) hS0 ?_
   refine tkL 4 rfl (fun w' hS => by (try dsimp only at hS); go_simp; rfl) hS0 ?_
   try simp only [Act.put, List.setIfInBounds_toArray, List.set_cons_zero, List.set_cons_succ]
   refine wpAnyH_oneL (i := 5) rfl (by kernel_rfl) rfl (fun K hK => ?_)
   go_wp2_with fail
   refine (noughts_any (192 - (bt.size : Int)) _ (by omega) (by omega)).mono ?_
   rintro e w19 ⟨rfl, hx19⟩
   have hS1 : (fun W' => W'.cell? ⟨g18, 0, none⟩ = some (.slice A8 n8 c8)) w19 := ((Ext.refl w18).drew.trans hx19).cell q18
   have HW1918 := Lib.hid (show w18.heap.size ≤ w19.heap.size from ((Ext.refl w18).drew.trans hx19).size)
   refine hK _ _ hS1 ?_
   clear hK K
   try simp only [Act.put, List.setIfInBounds_toArray, List.set_cons_zero, List.set_cons_succ]
   have htn : (192 - (bt.size : Int)).toNat = 192 - bt.size := by omega
   rw [htn]
   have hrz : (bs (List.replicate (192 - bt.size) (0 : UInt8))).size ≤ 192 := by rw [size_bs, List.length_replicate]; omega
   refine wpAnyH_oneL (i := 6) rfl (by kernel_rfl) rfl (fun K hK => ?_)
   refine st_concat (.tmp 175) (.tmp 179) _ _ _ _ rfl rfl rfl (by omega) ?_
   refine hK _ _ hS1 ?_
   clear hK K
   try simp only [Act.put, List.setIfInBounds_toArray, List.set_cons_zero, List.set_cons_succ]
   rw [← HCT.out]
   refine wpAnyH_oneL (i := 7) rfl (by kernel_rfl) rfl (fun K hK => ?_)
   go_wp2_with fail
   have hx1819 : Ext w18 w19 := (Ext.refl w18).drew.trans hx19
   refine (streamWritten_any [.slice A8 n8 c8] X 0 (catText (addCat d es s)) w19 (HR18'.out.up hx1819) ⟨by decide, by decide⟩ (by rw [catText_size HCOK.out]; decide)).mono ?_
   rintro e w20 ⟨A9, c9, rfl, hx20, ho20⟩
   rw [← HAOK.out] at ho20 ⊢
   have hS2 : (fun W' => W'.cell? ⟨g18, 0, none⟩ = some (.slice A8 n8 c8)) w20 := hx20.cell hS1
   have hq20 := HQ18.out.ext (hx1819.trans hx20)
   have y0 := hq20.cell 0
   have x0 := hq20.frozen 0
   simp at y0
   have HX20 := Lib.hid (HX18.out.trans (hx1819.trans hx20))
   have HO20 := Lib.hid ho20
   have HQ20 := Lib.hid (hq20.set 0 (.slice A9 (addS a l).1.length c9))
   refine hK _ _ hS2 ?_
   clear hK K hx19 hx20 ho20 hx1819 hq20
   try simp only [Act.put, List.setIfInBounds_toArray, List.set_cons_zero, List.set_cons_succ]
   obtain ⟨n9, hn9⟩ : ∃ n9, n9 = (addS a l).1.length := ⟨_, rfl⟩
   obtain ⟨e9, he9⟩ : ∃ e9, e9 = (addS a l).2 := ⟨_, rfl⟩
   have HN9 := Lib.hid (And.intro hn9 he9)
   rw [← hn9] at HO20 HQ20 ⊢
   rw [← he9]
   clear hn9 he9
   refine tkL 8 rfl (fun w' hS => by (try dsimp only at hS); go_simp; rfl) hS2 ?_
   refine tkL 9 rfl (fun w' hS => by (try dsimp only at hS); go_simp; rfl) hS2 ?_
   try simp only [Act.put, List.setIfInBounds_toArray, List.set_cons_zero, List.set_cons_succ]
   refine wpAnyH_oneL (i := 10) rfl (by kernel_rfl) rfl (fun K hK => ?_)
   have hS4 : (w20.setCell ⟨b4, 0, none⟩ (.slice A9 n9 c9)).cell? ⟨g18, 0, none⟩ = some (.slice A8 n8 c8) := by
    rw [World.cell?_setCell_other _ _ _ _ (by first | (simp; done) | (simp; omega))]
    exact hS2
   go_wp2_with fail
   refine hK _ _ hS4 ?_
   clear hK K
   refine tkL 11 rfl (fun w' hS => by (try dsimp only at hS); go_simp; rfl) hS4 ?_
   try simp only [Act.put, List.setIfInBounds_toArray, List.set_cons_zero, List.set_cons_succ]
   refine wpAnyH_done (by kernel_rfl) ?_ _
   go_wp2_with fail
   refine bodyPost_ret (res_cell_tmp rfl rfl HQ20.out Tryz.underlying24 rfl (by kernel_rfl)) rfl ?_
   rw [← HN9.out.1, ← HN9.out.2]
   have hsz := HX18.out.size
   exact ⟨A9, c9, rfl, (HX2.out.trans HX20.out).setCell (p := ⟨b4, 0, none⟩) (by have := HW.out; simp only; omega) _, (HO20.out.far (p := ⟨b4, 0, none⟩) (by have h1 := HQ18.out.lt; have h2 := HW1918.out; simp only; omega) _).base (by have h1 := HX2.out.size; have h2 := HX18.out.size; have h3 := HW1918.out; omega)⟩
end Go.Proofs.YtjadmfdlggnlgaaGreatDoor
