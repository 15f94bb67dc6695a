/-
  An act that adds files. Conditions: the pointer's box holds an array and a cursor.
-/
import Derived.Test.YtgjijcgkmofaaaaGreatDoorU21
namespace Go.Proofs.YtgjijcgkmofaaaaGreatDoor
set_option linter.unusedSimpArgs false
set_option linter.unusedVariables false
set_option maxRecDepth 100000
set_option maxHeartbeats 8000000
open Go.RowKit
theorem act_add (gs : Nat) (A : Option Addr) (c : Nat) (a : List Dev) (nx rd : Int) (vf : Value) (nm : ByteArray) (d n at_ by_ : Int) (w : World) (hb : Blk_ w gs 123 #[.slice A 3 c, .int .i64 nx, .int .i64 rd]) (hr : RArr w [.slice A 3 c] a) (h3 : a.length = 3) (l : List Fil) (hf : SlR 2 32 RFil w vf l) (hcf : (openS a).2 = 0 → catFault (openS a).1 = 0) (hmy : (openS a).2 = 0 → arrMay a = true) (hu : (openS a).2 = 0 → filesS l = 0 → Up (openS a).1.blocks.length (openS a).1.entries 0 l) (hl3 : (addS a l).2 = 0 → (addS a l).1.length = 3) :
  Calls Tryz.prog 62 #[.pointer (some ⟨gs, 0, none⟩), .agg #[.int .i64 1, vf, .string nm, .int .i64 d, .int .i64 n, .int .i64 at_, .int .i64 by_]] w fun e w' => e = .returned (.agg #[.int .i64 ((addS a l).2), .string .empty, .slice none 0 0, .int .i64 0, .slice none 0 0]) ∧ ((¬ ((addS a l).2) = 0 ∧ Ext w w') ∨ (((addS a l).2) = 0 ∧ Moves gs w w' ((addS a l).1) nx rd)) := by
 have HB := Lib.hid hb
 have HR := Lib.hid hr
 have H3 := Lib.hid h3
 have HF := Lib.hid hf
 have HCF := Lib.hid hcf
 have HMY := Lib.hid hmy
 have HU := Lib.hid hu
 have HL3 := Lib.hid hl3
 clear hb hr h3 hf hcf hmy hu hl3
 have c0 := HB.out.cell 0
 have c1 := HB.out.cell 1
 have c2 := HB.out.cell 2
 simp at c0 c1 c2
 have l0 := HB.out.lt
 have l0a : gs < w.heap.size + 1 := by omega
 have l0b : gs < w.heap.size + 1 + 1 := by omega
 go_enter Tryz.func62, Tryz.ntmps62
 go_wp2_with fail
 refine wp_abs (fun W => Ext w W ∧ Blk_ W w.heap.size 39 #[.int .i64 1, vf, .string nm, .int .i64 d, .int .i64 n, .int .i64 at_, .int .i64 by_] ∧ Blk_ W (w.heap.size + 1) 46 #[.int .i64 0, .string .empty, .slice none 0 0, .int .i64 0, .slice none 0 0] ∧ Blk_ W (w.heap.size + 2) 46 #[.int .i64 0, .string .empty, .slice none 0 0, .int .i64 0, .slice none 0 0]) ⟨(((Ext.refl _).alloc _).alloc _).alloc _, ((Blk_.new _ _ _).alloc _).alloc _, (Blk_.new1 _ _ _ _).alloc _, Blk_.new2 _ _ _ _ _⟩ ?_
 rintro w1 ⟨hx1, hb3, hb4, hb5⟩
 obtain ⟨b3, e3⟩ : ∃ b, b = w.heap.size := ⟨_, rfl⟩
 obtain ⟨b4, e4⟩ : ∃ b, b = b3 + 1 := ⟨_, rfl⟩
 obtain ⟨b5, e5⟩ : ∃ b, b = b4 + 1 := ⟨_, rfl⟩
 rw [← e3, ← e4, ← e5]
 have hb4' : Blk_ w1 b4 46 #[.int .i64 0, .string .empty, .slice none 0 0, .int .i64 0, .slice none 0 0] := by rw [e4, e3]; exact hb4
 have hb5' : Blk_ w1 b5 46 #[.int .i64 0, .string .empty, .slice none 0 0, .int .i64 0, .slice none 0 0] := by rw [e5, e4, e3]; exact hb5
 rw [← e3] at hb3
 have HE := Lib.hid (show w.heap.size = b3 ∧ b4 = b3 + 1 ∧ b5 = b4 + 1 ∧ gs < b3 from ⟨e3.symm, e4, e5, by rw [e3]; exact l0⟩)
 have HX1 := Lib.hid hx1
 have B3 := Lib.hid hb3
 have B4 := Lib.hid hb4'
 have B5 := Lib.hid hb5'
 have HB1 := Lib.hid (HB.out.ext hx1)
 have HR1 := Lib.hid (HR.out.up hx1)
 clear hx1 hb3 hb4 hb5 hb4' hb5' e3 e4 e5 l0 l0a l0b c0 c1 c2
 have fgs0 := (HB1.out).cell 0
 simp at fgs0
 have fb31 := (B3.out).cell 1
 simp at fb31
 have hne45 : ¬ (b4 = b5) := by have := HE.out; omega
 have hne54 : ¬ (b5 = b4) := by have := HE.out; omega
 have hneg4 : ¬ (gs = b4) := by have := HE.out; omega
 have hneg5 : ¬ (gs = b5) := by have := HE.out; omega
 have hne4g : ¬ (b4 = gs) := by have := HE.out; omega
 have hne5g : ¬ (b5 = gs) := by have := HE.out; omega
 obtain ⟨cd, hcd⟩ : ∃ cd, cd = (addS a l).2 := ⟨_, rfl⟩
 have HCD := Lib.hid hcd
 clear hcd
 refine wp_region_all (S := fun W' => W'.cell? ⟨gs, 0, none⟩ = some (.slice A 3 c) ∧ W'.cell? ⟨b3, 1, none⟩ = some (vf)) (by kernel_rfl) ?_
 have hS0 : (fun W' => W'.cell? ⟨gs, 0, none⟩ = some (.slice A 3 c) ∧ W'.cell? ⟨b3, 1, none⟩ = some (vf)) w1.drew := ⟨fgs0, fb31⟩
 refine tkL 0 rfl (fun w' hS => by obtain ⟨hS, hS2'⟩ := hS; go_simp; rfl) hS0 ?_
 refine tkL 1 rfl (fun w' hS => by obtain ⟨hS, hS2'⟩ := hS; go_simp; rfl) hS0 ?_
 refine tkL 2 rfl (fun w' hS => by obtain ⟨hS, hS2'⟩ := hS; go_simp; rfl) hS0 ?_
 try simp only [Act.put, List.setIfInBounds_toArray, List.set_cons_zero, List.set_cons_succ]
 refine tkL 3 rfl (fun w' hS => by obtain ⟨hS, hS2'⟩ := hS; go_simp; rfl) hS0 ?_
 refine tkL 4 rfl (fun w' hS => by obtain ⟨hS, hS2'⟩ := hS; go_simp; rfl) hS0 ?_
 refine tkL 5 rfl (fun w' hS => by obtain ⟨hS, hS2'⟩ := hS; go_simp; rfl) hS0 ?_
 try simp only [Act.put, List.setIfInBounds_toArray, List.set_cons_zero, List.set_cons_succ]
 refine wpAnyH_twoL (i := 6) (j := 10) rfl rfl (by kernel_rfl) rfl rfl (fun K hK => ?_) (fun K hK => ?_)
 ·skip
  go_wp2_with fail
  obtain ⟨wc, hwc⟩ : ∃ W, W = w1.drew := ⟨_, rfl⟩
  rw [← hwc]
  have hxc : Ext w1 wc := by rw [hwc]; exact (Ext.refl w1).drew
  have hc6 : wc.heap.size = w1.heap.size := by rw [hwc]; rfl
  clear hwc
  have hb6 := Nat.le_refl w1.heap.size
  refine (archAdd_any [.slice A 3 c] a vf l wc (HR1.out.up hxc) (HF.out.ext RFil.stays (HX1.out.trans hxc)) HCF.out HMY.out HU.out).mono ?_
  rintro e w2 ⟨A', c', rfl, hx2', hoa⟩
  have hx2 : Ext w1 w2 := hxc.trans hx2'
  have hx12 : w1.heap.size ≤ wc.heap.size := hxc.size
  have u40 := (B4.out.ext hx2).cell 0
  have u50 := (B5.out.ext hx2).cell 0
  have v40 := (B4.out.ext hx2).frozen 0
  have v50 := (B5.out.ext hx2).frozen 0
  have u41 := (B4.out.ext hx2).cell 1
  have u51 := (B5.out.ext hx2).cell 1
  have v41 := (B4.out.ext hx2).frozen 1
  have v51 := (B5.out.ext hx2).frozen 1
  have u42 := (B4.out.ext hx2).cell 2
  have u52 := (B5.out.ext hx2).cell 2
  have v42 := (B4.out.ext hx2).frozen 2
  have v52 := (B5.out.ext hx2).frozen 2
  have u43 := (B4.out.ext hx2).cell 3
  have u53 := (B5.out.ext hx2).cell 3
  have v43 := (B4.out.ext hx2).frozen 3
  have v53 := (B5.out.ext hx2).frozen 3
  have u44 := (B4.out.ext hx2).cell 4
  have u54 := (B5.out.ext hx2).cell 4
  have v44 := (B4.out.ext hx2).frozen 4
  have v54 := (B5.out.ext hx2).frozen 4
  simp at u40 u50 u41 u51 u42 u52 u43 u53 u44 u54
  have hl4 := (B4.out.ext hx2).lt
  have hl5 := (B5.out.ext hx2).lt
  have gg0 := (HB1.out.ext hx2).cell 0
  have gz0 := (HB1.out.ext hx2).frozen 0
  simp at gg0
  have gl := (HB1.out.ext hx2).lt
  have hS2 : (fun W' => W'.cell? ⟨gs, 0, none⟩ = some (.slice A 3 c) ∧ W'.cell? ⟨b3, 1, none⟩ = some (vf)) w2 := ⟨hx2.cell fgs0, hx2.cell fb31⟩
  have HX2 := Lib.hid hx2
  have HX12 := Lib.hid hx12
  have HOA := Lib.hid hoa
  have HB6 := Lib.hid (show w1.heap.size ≤ wc.heap.size from hx12)
  have HW1 := Lib.hid HX1.out.size
  rw [← HCD.out]
  refine hK _ _ hS2 ?_
  clear hK K hx2 hx2' hoa hx12 hxc
  try simp only [Act.put, List.setIfInBounds_toArray, List.set_cons_zero, List.set_cons_succ]
  obtain ⟨n9, hn9⟩ : ∃ n9, n9 = ((addS a l).1).length := ⟨_, rfl⟩
  have HN9 := Lib.hid hn9
  rw [← hn9] at HOA ⊢
  clear hn9
  refine tkL 7 rfl (fun w' hS => by obtain ⟨hS, hS2'⟩ := hS; go_simp; rfl) hS2 ?_
  refine tkL 8 rfl (fun w' hS => by obtain ⟨hS, hS2'⟩ := hS; go_simp; rfl) hS2 ?_
  refine tkL 9 rfl (fun w' hS => by obtain ⟨hS, hS2'⟩ := hS; go_simp; rfl) hS2 ?_
  try simp only [Act.put, List.setIfInBounds_toArray, List.set_cons_zero, List.set_cons_succ]
  refine wpAnyH_oneL (i := 10) rfl (by kernel_rfl) rfl (fun K hK => ?_)
  have hS3 : (fun W' => W'.cell? ⟨gs, 0, none⟩ = some (.slice A 3 c) ∧ W'.cell? ⟨b3, 1, none⟩ = some (vf)) (w2.alloc (.cells #[.slice none 0 0] 30)) := ⟨((Ext.refl w2).alloc _).cell hS2.1, ((Ext.refl w2).alloc _).cell hS2.2⟩
  go_wp2_with fail
  refine hK _ _ hS3 ?_
  clear hK K
  try simp only [Act.put, List.setIfInBounds_toArray, List.set_cons_zero, List.set_cons_succ]
  refine wpAnyH_oneL (i := 11) rfl (by kernel_rfl) rfl (fun K hK => ?_)
  have hS4 : (fun W' => W'.cell? ⟨gs, 0, none⟩ = some (.slice A 3 c) ∧ W'.cell? ⟨b3, 1, none⟩ = some (vf)) (w2.alloc (.cells #[.slice A' n9 c'] 30)) := ⟨((Ext.refl w2).alloc _).cell hS2.1, ((Ext.refl w2).alloc _).cell hS2.2⟩
  go_wp2_with fail
  refine hK _ _ hS4 ?_
  clear hK K
  refine tkL 12 rfl (fun w' hS => by obtain ⟨hS, hS2'⟩ := hS; go_simp; rfl) hS4 ?_
  try simp only [Act.put, List.setIfInBounds_toArray, List.set_cons_zero, List.set_cons_succ]
  refine wpAnyH_done (by kernel_rfl) ?_ _
  by_cases hz : cd = 0
  ·have HL := Lib.hid (show (addS a l).1.length = 3 from HL3.out (by rw [← HCD.out]; exact hz))
   have HZ := Lib.hid hz
   have hn3 : n9 = 3 := by rw [HN9.out]; exact HL.out
   rw [hn3] at HOA ⊢
   rw [hz]
   clear hz hn3
   go_wp2_with fail
   refine bodyPost_ret (res_cell (g := b4) (cs := #[.int .i64 0, .string .empty, .slice none 0 0, .int .i64 0, .slice none 0 0]) rfl rfl (by exact (((((((((B4.out.ext HX2.out).far (p := ⟨b5, 0, none⟩) hne45 (.int .i64 0)).far (p := ⟨gs, 0, none⟩) hne4g (.slice A' 3 c')).set 0 (.int .i64 0)).set 1 (.string .empty)).set 2 (.slice none 0 0)).set 3 (.int .i64 0)).set 4 (.slice none 0 0))).alloc _) Tryz.underlying46 rfl (by kernel_rfl)) rfl ?_
   rw [← HCD.out, HZ.out]
   exact ⟨rfl, .inr ⟨rfl, A', c', ((grown_set (grown_set (grown_set (grown_set (grown_set ((grown_set ((HX1.out.trans HX2.out).by_ (some gs)) (p := ⟨b5, 0, none⟩) (by have := HE.out; have := HB6.out; have := HW1.out; simp only; omega) (.int .i64 0)).trans (setRow_by _ gs 0 (.slice A' 3 c'))) (p := ⟨b4, 0, none⟩) (by have := HE.out; have := HB6.out; have := HW1.out; simp only; omega) (.int .i64 0)) (p := ⟨b4, 1, none⟩) (by have := HE.out; have := HB6.out; have := HW1.out; simp only; omega) (.string .empty)) (p := ⟨b4, 2, none⟩) (by have := HE.out; have := HB6.out; have := HW1.out; simp only; omega) (.slice none 0 0)) (p := ⟨b4, 3, none⟩) (by have := HE.out; have := HB6.out; have := HW1.out; simp only; omega) (.int .i64 0)) (p := ⟨b4, 4, none⟩) (by have := HE.out; have := HB6.out; have := HW1.out; simp only; omega) (.slice none 0 0))).trans (((Ext.refl _).alloc _).by_ _), (((((((((HB1.out.ext HX2.out).far (p := ⟨b5, 0, none⟩) (by have := HE.out; have := HB6.out; have := HW1.out; simp only; omega) (.int .i64 0)).set 0 (.slice A' 3 c')).far (p := ⟨b4, 0, none⟩) (by have := HE.out; have := HB6.out; have := HW1.out; simp only; omega) (.int .i64 0)).far (p := ⟨b4, 1, none⟩) (by have := HE.out; have := HB6.out; have := HW1.out; simp only; omega) (.string .empty)).far (p := ⟨b4, 2, none⟩) (by have := HE.out; have := HB6.out; have := HW1.out; simp only; omega) (.slice none 0 0)).far (p := ⟨b4, 3, none⟩) (by have := HE.out; have := HB6.out; have := HW1.out; simp only; omega) (.int .i64 0)).far (p := ⟨b4, 4, none⟩) (by have := HE.out; have := HB6.out; have := HW1.out; simp only; omega) (.slice none 0 0))).alloc _, Fresh.low (((((((((fresh_arr HOA.out (by have := HL.out; omega)).off (p := ⟨b5, 0, none⟩) (by have h4 := B4.out.lt; have h5 := B5.out.lt; have h1 := HB1.out.lt; have h6 := HB6.out; have h7 := HX12.out; simp only; omega) (.int .i64 0)).off (p := ⟨gs, 0, none⟩) (by have h4 := B4.out.lt; have h5 := B5.out.lt; have h1 := HB1.out.lt; have h6 := HB6.out; have h7 := HX12.out; simp only; omega) (.slice A' 3 c')).off (p := ⟨b4, 0, none⟩) (by have h4 := B4.out.lt; have h5 := B5.out.lt; have h1 := HB1.out.lt; have h6 := HB6.out; have h7 := HX12.out; simp only; omega) (.int .i64 0)).off (p := ⟨b4, 1, none⟩) (by have h4 := B4.out.lt; have h5 := B5.out.lt; have h1 := HB1.out.lt; have h6 := HB6.out; have h7 := HX12.out; simp only; omega) (.string .empty)).off (p := ⟨b4, 2, none⟩) (by have h4 := B4.out.lt; have h5 := B5.out.lt; have h1 := HB1.out.lt; have h6 := HB6.out; have h7 := HX12.out; simp only; omega) (.slice none 0 0)).off (p := ⟨b4, 3, none⟩) (by have h4 := B4.out.lt; have h5 := B5.out.lt; have h1 := HB1.out.lt; have h6 := HB6.out; have h7 := HX12.out; simp only; omega) (.int .i64 0)).off (p := ⟨b4, 4, none⟩) (by have h4 := B4.out.lt; have h5 := B5.out.lt; have h1 := HB1.out.lt; have h6 := HB6.out; have h7 := HX12.out; simp only; omega) (.slice none 0 0)).up ((Ext.refl _).alloc _)) (by have h1 := HX1.out.size; have h2 := HX12.out; omega)⟩⟩
  ·have HZ := Lib.hid hz
   have hzb : (cd == 0) = false := by simpa using hz
   clear hz
   go_wp2_with fail
   refine bodyPost_ret (res_cell (g := b4) (cs := #[.int .i64 cd, .string .empty, .slice none 0 0, .int .i64 0, .slice none 0 0]) rfl rfl (by exact ((((((((B4.out.ext HX2.out).far (p := ⟨b5, 0, none⟩) hne45 (.int .i64 cd)).set 0 (.int .i64 cd)).set 1 (.string .empty)).set 2 (.slice none 0 0)).set 3 (.int .i64 0)).set 4 (.slice none 0 0))).alloc _) Tryz.underlying46 rfl (by kernel_rfl)) rfl ?_
   rw [← HCD.out]
   exact ⟨rfl, .inl ⟨HZ.out, ((((((((HX1.out.trans HX2.out).setCell (p := ⟨b5, 0, none⟩) (by have := HE.out; have := HB6.out; have := HW1.out; simp only; omega) (.int .i64 cd)).setCell (p := ⟨b4, 0, none⟩) (by have := HE.out; have := HB6.out; have := HW1.out; simp only; omega) (.int .i64 cd)).setCell (p := ⟨b4, 1, none⟩) (by have := HE.out; have := HB6.out; have := HW1.out; simp only; omega) (.string .empty)).setCell (p := ⟨b4, 2, none⟩) (by have := HE.out; have := HB6.out; have := HW1.out; simp only; omega) (.slice none 0 0)).setCell (p := ⟨b4, 3, none⟩) (by have := HE.out; have := HB6.out; have := HW1.out; simp only; omega) (.int .i64 0)).setCell (p := ⟨b4, 4, none⟩) (by have := HE.out; have := HB6.out; have := HW1.out; simp only; omega) (.slice none 0 0))).alloc _⟩⟩
 ·skip
  go_wp2_with fail
  have hSb : (fun W' => W'.cell? ⟨gs, 0, none⟩ = some (.slice A 3 c) ∧ W'.cell? ⟨b3, 1, none⟩ = some (vf)) (w1.drew.alloc (.cells #[.slice none 0 0] 30)) := ⟨((Ext.refl w1).drew.alloc _).cell fgs0, ((Ext.refl w1).drew.alloc _).cell fb31⟩
  refine hK _ _ hSb ?_
  clear hK K
  try simp only [Act.put, List.setIfInBounds_toArray, List.set_cons_zero, List.set_cons_succ]
  refine wpAnyH_oneL (i := 6) rfl (by kernel_rfl) rfl (fun K hK => ?_)
  go_wp2_with fail
  obtain ⟨wc, hwc⟩ : ∃ W, W = (w1.alloc (.cells #[.slice none 0 0] 30)).drew := ⟨_, rfl⟩
  rw [← hwc]
  have hxc : Ext w1 wc := by rw [hwc]; exact ((Ext.refl w1).alloc _).drew
  have hbc : Blk_ wc w1.heap.size 30 #[.slice none 0 0] := by rw [hwc]; exact (Blk_.new w1 30 #[.slice none 0 0]).ext (Ext.refl _).drew
  obtain ⟨b6, hb6e⟩ : ∃ b, b = w1.heap.size := ⟨_, rfl⟩
  rw [← hb6e] at hbc ⊢
  have hb6 := Nat.le_of_eq hb6e.symm
  clear hwc hb6e
  refine (archAdd_any [.slice A 3 c] a vf l wc (HR1.out.up hxc) (HF.out.ext RFil.stays (HX1.out.trans hxc)) HCF.out HMY.out HU.out).mono ?_
  rintro e w2 ⟨A', c', rfl, hx2', hoa⟩
  have hx2 : Ext w1 w2 := hxc.trans hx2'
  have hx12 : w1.heap.size ≤ wc.heap.size := hxc.size
  have u40 := (B4.out.ext hx2).cell 0
  have u50 := (B5.out.ext hx2).cell 0
  have v40 := (B4.out.ext hx2).frozen 0
  have v50 := (B5.out.ext hx2).frozen 0
  have u41 := (B4.out.ext hx2).cell 1
  have u51 := (B5.out.ext hx2).cell 1
  have v41 := (B4.out.ext hx2).frozen 1
  have v51 := (B5.out.ext hx2).frozen 1
  have u42 := (B4.out.ext hx2).cell 2
  have u52 := (B5.out.ext hx2).cell 2
  have v42 := (B4.out.ext hx2).frozen 2
  have v52 := (B5.out.ext hx2).frozen 2
  have u43 := (B4.out.ext hx2).cell 3
  have u53 := (B5.out.ext hx2).cell 3
  have v43 := (B4.out.ext hx2).frozen 3
  have v53 := (B5.out.ext hx2).frozen 3
  have u44 := (B4.out.ext hx2).cell 4
  have u54 := (B5.out.ext hx2).cell 4
  have v44 := (B4.out.ext hx2).frozen 4
  have v54 := (B5.out.ext hx2).frozen 4
  simp at u40 u50 u41 u51 u42 u52 u43 u53 u44 u54
  have hl4 := (B4.out.ext hx2).lt
  have hl5 := (B5.out.ext hx2).lt
  have gg0 := (HB1.out.ext hx2).cell 0
  have gz0 := (HB1.out.ext hx2).frozen 0
  simp at gg0
  have gl := (HB1.out.ext hx2).lt
  have k60 := (hbc.ext hx2').cell 0
  have k6z := (hbc.ext hx2').frozen 0
  have k6l := (hbc.ext hx2').lt
  simp at k60
  have hne46 : ¬ (b4 = b6) := by have := B4.out.lt; omega
  have hne64 : ¬ (b6 = b4) := fun e => hne46 e.symm
  have hne56 : ¬ (b5 = b6) := by have := B5.out.lt; omega
  have hne65 : ¬ (b6 = b5) := fun e => hne56 e.symm
  have hneg6 : ¬ (gs = b6) := by have := HB1.out.lt; omega
  have hne6g : ¬ (b6 = gs) := fun e => hneg6 e.symm
  have hS2 : (fun W' => W'.cell? ⟨gs, 0, none⟩ = some (.slice A 3 c) ∧ W'.cell? ⟨b3, 1, none⟩ = some (vf)) w2 := ⟨hx2.cell fgs0, hx2.cell fb31⟩
  have HX2 := Lib.hid hx2
  have HX12 := Lib.hid hx12
  have HOA := Lib.hid hoa
  have HB6 := Lib.hid (show b6 ≥ w1.heap.size ∧ b6 < wc.heap.size from ⟨hb6, hbc.lt⟩)
  have HW1 := Lib.hid HX1.out.size
  rw [← HCD.out]
  refine hK _ _ hS2 ?_
  clear hK K hx2 hx2' hoa hx12 hxc
  try simp only [Act.put, List.setIfInBounds_toArray, List.set_cons_zero, List.set_cons_succ]
  obtain ⟨n9, hn9⟩ : ∃ n9, n9 = ((addS a l).1).length := ⟨_, rfl⟩
  have HN9 := Lib.hid hn9
  rw [← hn9] at HOA ⊢
  clear hn9
  refine tkL 7 rfl (fun w' hS => by obtain ⟨hS, hS2'⟩ := hS; go_simp; rfl) hS2 ?_
  refine tkL 8 rfl (fun w' hS => by obtain ⟨hS, hS2'⟩ := hS; go_simp; rfl) hS2 ?_
  refine tkL 9 rfl (fun w' hS => by obtain ⟨hS, hS2'⟩ := hS; go_simp; rfl) hS2 ?_
  try simp only [Act.put, List.setIfInBounds_toArray, List.set_cons_zero, List.set_cons_succ]
  refine wpAnyH_oneL (i := 11) rfl (by kernel_rfl) rfl (fun K hK => ?_)
  have hS4 : (fun W' => W'.cell? ⟨gs, 0, none⟩ = some (.slice A 3 c) ∧ W'.cell? ⟨b3, 1, none⟩ = some (vf)) (w2.setCell ⟨b6, 0, none⟩ (.slice A' n9 c')) := by
   constructor
   ·rw [World.cell?_setCell_other _ _ _ _ (fun e => by injection e with e1; exact hneg6 e1.symm)]; exact hS2.1
   ·rw [World.cell?_setCell_other _ _ _ _ (fun e => by have h1 := B3.out.lt; injection e with e1; omega)]; exact hS2.2
  go_wp2_with fail
  refine hK _ _ hS4 ?_
  clear hK K
  refine tkL 12 rfl (fun w' hS => by obtain ⟨hS, hS2'⟩ := hS; go_simp; rfl) hS4 ?_
  try simp only [Act.put, List.setIfInBounds_toArray, List.set_cons_zero, List.set_cons_succ]
  refine wpAnyH_done (by kernel_rfl) ?_ _
  by_cases hz : cd = 0
  ·have HL := Lib.hid (show (addS a l).1.length = 3 from HL3.out (by rw [← HCD.out]; exact hz))
   have HZ := Lib.hid hz
   have hn3 : n9 = 3 := by rw [HN9.out]; exact HL.out
   rw [hn3] at HOA ⊢
   rw [hz]
   clear hz hn3
   go_wp2_with fail
   refine bodyPost_ret (res_cell (g := b4) (cs := #[.int .i64 0, .string .empty, .slice none 0 0, .int .i64 0, .slice none 0 0]) rfl rfl (by exact (((((((((B4.out.ext HX2.out).far (p := ⟨b6, 0, none⟩) hne46 (.slice A' 3 c')).far (p := ⟨b5, 0, none⟩) hne45 (.int .i64 0)).far (p := ⟨gs, 0, none⟩) hne4g (.slice A' 3 c')).set 0 (.int .i64 0)).set 1 (.string .empty)).set 2 (.slice none 0 0)).set 3 (.int .i64 0)).set 4 (.slice none 0 0))) Tryz.underlying46 rfl (by kernel_rfl)) rfl ?_
   rw [← HCD.out, HZ.out]
   exact ⟨rfl, .inr ⟨rfl, A', c', (grown_set (grown_set (grown_set (grown_set (grown_set ((grown_set (grown_set ((HX1.out.trans HX2.out).by_ (some gs)) (p := ⟨b6, 0, none⟩) (by have := HE.out; have := HB6.out; have := HW1.out; simp only; omega) (.slice A' 3 c')) (p := ⟨b5, 0, none⟩) (by have := HE.out; have := HB6.out; have := HW1.out; simp only; omega) (.int .i64 0)).trans (setRow_by _ gs 0 (.slice A' 3 c'))) (p := ⟨b4, 0, none⟩) (by have := HE.out; have := HB6.out; have := HW1.out; simp only; omega) (.int .i64 0)) (p := ⟨b4, 1, none⟩) (by have := HE.out; have := HB6.out; have := HW1.out; simp only; omega) (.string .empty)) (p := ⟨b4, 2, none⟩) (by have := HE.out; have := HB6.out; have := HW1.out; simp only; omega) (.slice none 0 0)) (p := ⟨b4, 3, none⟩) (by have := HE.out; have := HB6.out; have := HW1.out; simp only; omega) (.int .i64 0)) (p := ⟨b4, 4, none⟩) (by have := HE.out; have := HB6.out; have := HW1.out; simp only; omega) (.slice none 0 0)), (((((((((HB1.out.ext HX2.out).far (p := ⟨b6, 0, none⟩) (by have := HE.out; have := HB6.out; have := HW1.out; simp only; omega) (.slice A' 3 c')).far (p := ⟨b5, 0, none⟩) (by have := HE.out; have := HB6.out; have := HW1.out; simp only; omega) (.int .i64 0)).set 0 (.slice A' 3 c')).far (p := ⟨b4, 0, none⟩) (by have := HE.out; have := HB6.out; have := HW1.out; simp only; omega) (.int .i64 0)).far (p := ⟨b4, 1, none⟩) (by have := HE.out; have := HB6.out; have := HW1.out; simp only; omega) (.string .empty)).far (p := ⟨b4, 2, none⟩) (by have := HE.out; have := HB6.out; have := HW1.out; simp only; omega) (.slice none 0 0)).far (p := ⟨b4, 3, none⟩) (by have := HE.out; have := HB6.out; have := HW1.out; simp only; omega) (.int .i64 0)).far (p := ⟨b4, 4, none⟩) (by have := HE.out; have := HB6.out; have := HW1.out; simp only; omega) (.slice none 0 0)), Fresh.low (((((((((fresh_arr HOA.out (by have := HL.out; omega)).off (p := ⟨b6, 0, none⟩) (by have h4 := B4.out.lt; have h5 := B5.out.lt; have h1 := HB1.out.lt; have h6 := HB6.out; have h7 := HX12.out; simp only; omega) (.slice A' 3 c')).off (p := ⟨b5, 0, none⟩) (by have h4 := B4.out.lt; have h5 := B5.out.lt; have h1 := HB1.out.lt; have h6 := HB6.out; have h7 := HX12.out; simp only; omega) (.int .i64 0)).off (p := ⟨gs, 0, none⟩) (by have h4 := B4.out.lt; have h5 := B5.out.lt; have h1 := HB1.out.lt; have h6 := HB6.out; have h7 := HX12.out; simp only; omega) (.slice A' 3 c')).off (p := ⟨b4, 0, none⟩) (by have h4 := B4.out.lt; have h5 := B5.out.lt; have h1 := HB1.out.lt; have h6 := HB6.out; have h7 := HX12.out; simp only; omega) (.int .i64 0)).off (p := ⟨b4, 1, none⟩) (by have h4 := B4.out.lt; have h5 := B5.out.lt; have h1 := HB1.out.lt; have h6 := HB6.out; have h7 := HX12.out; simp only; omega) (.string .empty)).off (p := ⟨b4, 2, none⟩) (by have h4 := B4.out.lt; have h5 := B5.out.lt; have h1 := HB1.out.lt; have h6 := HB6.out; have h7 := HX12.out; simp only; omega) (.slice none 0 0)).off (p := ⟨b4, 3, none⟩) (by have h4 := B4.out.lt; have h5 := B5.out.lt; have h1 := HB1.out.lt; have h6 := HB6.out; have h7 := HX12.out; simp only; omega) (.int .i64 0)).off (p := ⟨b4, 4, none⟩) (by have h4 := B4.out.lt; have h5 := B5.out.lt; have h1 := HB1.out.lt; have h6 := HB6.out; have h7 := HX12.out; simp only; omega) (.slice none 0 0)) (by have h1 := HX1.out.size; have h2 := HX12.out; omega)⟩⟩
  ·have HZ := Lib.hid hz
   have hzb : (cd == 0) = false := by simpa using hz
   clear hz
   go_wp2_with fail
   refine bodyPost_ret (res_cell (g := b4) (cs := #[.int .i64 cd, .string .empty, .slice none 0 0, .int .i64 0, .slice none 0 0]) rfl rfl (by exact ((((((((B4.out.ext HX2.out).far (p := ⟨b6, 0, none⟩) hne46 (.slice A' n9 c')).far (p := ⟨b5, 0, none⟩) hne45 (.int .i64 cd)).set 0 (.int .i64 cd)).set 1 (.string .empty)).set 2 (.slice none 0 0)).set 3 (.int .i64 0)).set 4 (.slice none 0 0))) Tryz.underlying46 rfl (by kernel_rfl)) rfl ?_
   rw [← HCD.out]
   exact ⟨rfl, .inl ⟨HZ.out, ((((((((HX1.out.trans HX2.out).setCell (p := ⟨b6, 0, none⟩) (by have := HE.out; have := HB6.out; have := HW1.out; simp only; omega) (.slice A' n9 c')).setCell (p := ⟨b5, 0, none⟩) (by have := HE.out; have := HB6.out; have := HW1.out; simp only; omega) (.int .i64 cd)).setCell (p := ⟨b4, 0, none⟩) (by have := HE.out; have := HB6.out; have := HW1.out; simp only; omega) (.int .i64 cd)).setCell (p := ⟨b4, 1, none⟩) (by have := HE.out; have := HB6.out; have := HW1.out; simp only; omega) (.string .empty)).setCell (p := ⟨b4, 2, none⟩) (by have := HE.out; have := HB6.out; have := HW1.out; simp only; omega) (.slice none 0 0)).setCell (p := ⟨b4, 3, none⟩) (by have := HE.out; have := HB6.out; have := HW1.out; simp only; omega) (.int .i64 0)).setCell (p := ⟨b4, 4, none⟩) (by have := HE.out; have := HB6.out; have := HW1.out; simp only; omega) (.slice none 0 0))⟩⟩
theorem replaceS_len {a : List Dev} {d : Int} (h3 : a.length = 3) (h : (replaceS a d).2 = 0) : (replaceS a d).1.length = 3 := by
 unfold replaceS at h ⊢
 split
 ·rename_i hc; rw [if_pos hc] at h; exact absurd h (by show ¬ (9 : Int) = 0; decide)
 ·rename_i hc
  rw [if_neg hc] at h
  split
  ·rename_i hc2; rw [if_pos hc2] at h; exact absurd h (by show ¬ (2 : Int) = 0; decide)
  ·simpa using h3
theorem act_replace (gs : Nat) (A : Option Addr) (c : Nat) (a : List Dev) (nx rd : Int) (vf : Value) (nm : ByteArray) (d n at_ by_ : Int) (w : World) (hb : Blk_ w gs 123 #[.slice A 3 c, .int .i64 nx, .int .i64 rd]) (hr : RArr w [.slice A 3 c] a) (h3 : a.length = 3) (hd : I64 d) :
  Calls Tryz.prog 62 #[.pointer (some ⟨gs, 0, none⟩), .agg #[.int .i64 6, vf, .string nm, .int .i64 d, .int .i64 n, .int .i64 at_, .int .i64 by_]] w fun e w' => e = .returned (.agg #[.int .i64 ((replaceS a d).2), .string .empty, .slice none 0 0, .int .i64 0, .slice none 0 0]) ∧ ((¬ ((replaceS a d).2) = 0 ∧ Ext w w') ∨ (((replaceS a d).2) = 0 ∧ Moves gs w w' ((replaceS a d).1) nx rd)) := by
 have HB := Lib.hid hb
 have HR := Lib.hid hr
 have H3 := Lib.hid h3
 have HI := Lib.hid hd
 clear hb hr h3 hd
 have c0 := HB.out.cell 0
 have c1 := HB.out.cell 1
 have c2 := HB.out.cell 2
 simp at c0 c1 c2
 have l0 := HB.out.lt
 have l0a : gs < w.heap.size + 1 := by omega
 have l0b : gs < w.heap.size + 1 + 1 := by omega
 go_enter Tryz.func62, Tryz.ntmps62
 go_wp2_with fail
 refine wp_abs (fun W => Ext w W ∧ Blk_ W w.heap.size 39 #[.int .i64 6, vf, .string nm, .int .i64 d, .int .i64 n, .int .i64 at_, .int .i64 by_] ∧ Blk_ W (w.heap.size + 1) 46 #[.int .i64 0, .string .empty, .slice none 0 0, .int .i64 0, .slice none 0 0] ∧ Blk_ W (w.heap.size + 2) 46 #[.int .i64 0, .string .empty, .slice none 0 0, .int .i64 0, .slice none 0 0]) ⟨(((Ext.refl _).alloc _).alloc _).alloc _, ((Blk_.new _ _ _).alloc _).alloc _, (Blk_.new1 _ _ _ _).alloc _, Blk_.new2 _ _ _ _ _⟩ ?_
 rintro w1 ⟨hx1, hb3, hb4, hb5⟩
 obtain ⟨b3, e3⟩ : ∃ b, b = w.heap.size := ⟨_, rfl⟩
 obtain ⟨b4, e4⟩ : ∃ b, b = b3 + 1 := ⟨_, rfl⟩
 obtain ⟨b5, e5⟩ : ∃ b, b = b4 + 1 := ⟨_, rfl⟩
 rw [← e3, ← e4, ← e5]
 have hb4' : Blk_ w1 b4 46 #[.int .i64 0, .string .empty, .slice none 0 0, .int .i64 0, .slice none 0 0] := by rw [e4, e3]; exact hb4
 have hb5' : Blk_ w1 b5 46 #[.int .i64 0, .string .empty, .slice none 0 0, .int .i64 0, .slice none 0 0] := by rw [e5, e4, e3]; exact hb5
 rw [← e3] at hb3
 have HE := Lib.hid (show w.heap.size = b3 ∧ b4 = b3 + 1 ∧ b5 = b4 + 1 ∧ gs < b3 from ⟨e3.symm, e4, e5, by rw [e3]; exact l0⟩)
 have HX1 := Lib.hid hx1
 have B3 := Lib.hid hb3
 have B4 := Lib.hid hb4'
 have B5 := Lib.hid hb5'
 have HB1 := Lib.hid (HB.out.ext hx1)
 have HR1 := Lib.hid (HR.out.up hx1)
 clear hx1 hb3 hb4 hb5 hb4' hb5' e3 e4 e5 l0 l0a l0b c0 c1 c2
 have fgs0 := (HB1.out).cell 0
 simp at fgs0
 have fb33 := (B3.out).cell 3
 simp at fb33
 have hne45 : ¬ (b4 = b5) := by have := HE.out; omega
 have hne54 : ¬ (b5 = b4) := by have := HE.out; omega
 have hneg4 : ¬ (gs = b4) := by have := HE.out; omega
 have hneg5 : ¬ (gs = b5) := by have := HE.out; omega
 have hne4g : ¬ (b4 = gs) := by have := HE.out; omega
 have hne5g : ¬ (b5 = gs) := by have := HE.out; omega
 obtain ⟨cd, hcd⟩ : ∃ cd, cd = (replaceS a d).2 := ⟨_, rfl⟩
 have HCD := Lib.hid hcd
 clear hcd
 refine wp_region_all (S := fun W' => W'.cell? ⟨gs, 0, none⟩ = some (.slice A 3 c) ∧ W'.cell? ⟨b3, 3, none⟩ = some (.int .i64 d)) (by kernel_rfl) ?_
 have hS0 : (fun W' => W'.cell? ⟨gs, 0, none⟩ = some (.slice A 3 c) ∧ W'.cell? ⟨b3, 3, none⟩ = some (.int .i64 d)) w1.drew := ⟨fgs0, fb33⟩
 refine tkL 0 rfl (fun w' hS => by obtain ⟨hS, hS2'⟩ := hS; go_simp; rfl) hS0 ?_
 refine tkL 1 rfl (fun w' hS => by obtain ⟨hS, hS2'⟩ := hS; go_simp; rfl) hS0 ?_
 refine tkL 2 rfl (fun w' hS => by obtain ⟨hS, hS2'⟩ := hS; go_simp; rfl) hS0 ?_
 try simp only [Act.put, List.setIfInBounds_toArray, List.set_cons_zero, List.set_cons_succ]
 refine tkL 3 rfl (fun w' hS => by obtain ⟨hS, hS2'⟩ := hS; go_simp; rfl) hS0 ?_
 refine tkL 4 rfl (fun w' hS => by obtain ⟨hS, hS2'⟩ := hS; go_simp; rfl) hS0 ?_
 refine tkL 5 rfl (fun w' hS => by obtain ⟨hS, hS2'⟩ := hS; go_simp; rfl) hS0 ?_
 try simp only [Act.put, List.setIfInBounds_toArray, List.set_cons_zero, List.set_cons_succ]
 refine wpAnyH_twoL (i := 6) (j := 10) rfl rfl (by kernel_rfl) rfl rfl (fun K hK => ?_) (fun K hK => ?_)
 ·skip
  go_wp2_with fail
  obtain ⟨wc, hwc⟩ : ∃ W, W = w1.drew := ⟨_, rfl⟩
  rw [← hwc]
  have hxc : Ext w1 wc := by rw [hwc]; exact (Ext.refl w1).drew
  have hc6 : wc.heap.size = w1.heap.size := by rw [hwc]; rfl
  clear hwc
  have hb6 := Nat.le_refl w1.heap.size
  have hq := arrReplace_any A c a d wc (show RArr wc [.slice A a.length c] a by rw [H3.out]; exact HR1.out.up hxc) HI.out
  rw [H3.out] at hq
  refine (hq).mono ?_
  rintro e w2 ⟨A', c', rfl, hx2', hoa⟩
  have hx2 : Ext w1 w2 := hxc.trans hx2'
  have hx12 : w1.heap.size ≤ wc.heap.size := hxc.size
  have u40 := (B4.out.ext hx2).cell 0
  have u50 := (B5.out.ext hx2).cell 0
  have v40 := (B4.out.ext hx2).frozen 0
  have v50 := (B5.out.ext hx2).frozen 0
  have u41 := (B4.out.ext hx2).cell 1
  have u51 := (B5.out.ext hx2).cell 1
  have v41 := (B4.out.ext hx2).frozen 1
  have v51 := (B5.out.ext hx2).frozen 1
  have u42 := (B4.out.ext hx2).cell 2
  have u52 := (B5.out.ext hx2).cell 2
  have v42 := (B4.out.ext hx2).frozen 2
  have v52 := (B5.out.ext hx2).frozen 2
  have u43 := (B4.out.ext hx2).cell 3
  have u53 := (B5.out.ext hx2).cell 3
  have v43 := (B4.out.ext hx2).frozen 3
  have v53 := (B5.out.ext hx2).frozen 3
  have u44 := (B4.out.ext hx2).cell 4
  have u54 := (B5.out.ext hx2).cell 4
  have v44 := (B4.out.ext hx2).frozen 4
  have v54 := (B5.out.ext hx2).frozen 4
  simp at u40 u50 u41 u51 u42 u52 u43 u53 u44 u54
  have hl4 := (B4.out.ext hx2).lt
  have hl5 := (B5.out.ext hx2).lt
  have gg0 := (HB1.out.ext hx2).cell 0
  have gz0 := (HB1.out.ext hx2).frozen 0
  simp at gg0
  have gl := (HB1.out.ext hx2).lt
  have hS2 : (fun W' => W'.cell? ⟨gs, 0, none⟩ = some (.slice A 3 c) ∧ W'.cell? ⟨b3, 3, none⟩ = some (.int .i64 d)) w2 := ⟨hx2.cell fgs0, hx2.cell fb33⟩
  have HX2 := Lib.hid hx2
  have HX12 := Lib.hid hx12
  have HOA := Lib.hid hoa
  have HB6 := Lib.hid (show w1.heap.size ≤ wc.heap.size from hx12)
  have HW1 := Lib.hid HX1.out.size
  rw [← HCD.out]
  refine hK _ _ hS2 ?_
  clear hK K hx2 hx2' hoa hx12 hxc
  try simp only [Act.put, List.setIfInBounds_toArray, List.set_cons_zero, List.set_cons_succ]
  obtain ⟨n9, hn9⟩ : ∃ n9, n9 = ((replaceS a d).1).length := ⟨_, rfl⟩
  have HN9 := Lib.hid hn9
  rw [← hn9] at HOA ⊢
  clear hn9
  refine tkL 7 rfl (fun w' hS => by obtain ⟨hS, hS2'⟩ := hS; go_simp; rfl) hS2 ?_
  refine tkL 8 rfl (fun w' hS => by obtain ⟨hS, hS2'⟩ := hS; go_simp; rfl) hS2 ?_
  refine tkL 9 rfl (fun w' hS => by obtain ⟨hS, hS2'⟩ := hS; go_simp; rfl) hS2 ?_
  try simp only [Act.put, List.setIfInBounds_toArray, List.set_cons_zero, List.set_cons_succ]
  refine wpAnyH_oneL (i := 10) rfl (by kernel_rfl) rfl (fun K hK => ?_)
  have hS3 : (fun W' => W'.cell? ⟨gs, 0, none⟩ = some (.slice A 3 c) ∧ W'.cell? ⟨b3, 3, none⟩ = some (.int .i64 d)) (w2.alloc (.cells #[.slice none 0 0] 30)) := ⟨((Ext.refl w2).alloc _).cell hS2.1, ((Ext.refl w2).alloc _).cell hS2.2⟩
  go_wp2_with fail
  refine hK _ _ hS3 ?_
  clear hK K
  try simp only [Act.put, List.setIfInBounds_toArray, List.set_cons_zero, List.set_cons_succ]
  refine wpAnyH_oneL (i := 11) rfl (by kernel_rfl) rfl (fun K hK => ?_)
  have hS4 : (fun W' => W'.cell? ⟨gs, 0, none⟩ = some (.slice A 3 c) ∧ W'.cell? ⟨b3, 3, none⟩ = some (.int .i64 d)) (w2.alloc (.cells #[.slice A' n9 c'] 30)) := ⟨((Ext.refl w2).alloc _).cell hS2.1, ((Ext.refl w2).alloc _).cell hS2.2⟩
  go_wp2_with fail
  refine hK _ _ hS4 ?_
  clear hK K
  refine tkL 12 rfl (fun w' hS => by obtain ⟨hS, hS2'⟩ := hS; go_simp; rfl) hS4 ?_
  try simp only [Act.put, List.setIfInBounds_toArray, List.set_cons_zero, List.set_cons_succ]
  refine wpAnyH_done (by kernel_rfl) ?_ _
  by_cases hz : cd = 0
  ·have HL := Lib.hid (show (replaceS a d).1.length = 3 from replaceS_len H3.out (by rw [← HCD.out]; exact hz))
   have HZ := Lib.hid hz
   have hn3 : n9 = 3 := by rw [HN9.out]; exact HL.out
   rw [hn3] at HOA ⊢
   rw [hz]
   clear hz hn3
   go_wp2_with fail
   refine bodyPost_ret (res_cell (g := b4) (cs := #[.int .i64 0, .string .empty, .slice none 0 0, .int .i64 0, .slice none 0 0]) rfl rfl (by exact (((((((((B4.out.ext HX2.out).far (p := ⟨b5, 0, none⟩) hne45 (.int .i64 0)).far (p := ⟨gs, 0, none⟩) hne4g (.slice A' 3 c')).set 0 (.int .i64 0)).set 1 (.string .empty)).set 2 (.slice none 0 0)).set 3 (.int .i64 0)).set 4 (.slice none 0 0))).alloc _) Tryz.underlying46 rfl (by kernel_rfl)) rfl ?_
   rw [← HCD.out, HZ.out]
   exact ⟨rfl, .inr ⟨rfl, A', c', ((grown_set (grown_set (grown_set (grown_set (grown_set ((grown_set ((HX1.out.trans HX2.out).by_ (some gs)) (p := ⟨b5, 0, none⟩) (by have := HE.out; have := HB6.out; have := HW1.out; simp only; omega) (.int .i64 0)).trans (setRow_by _ gs 0 (.slice A' 3 c'))) (p := ⟨b4, 0, none⟩) (by have := HE.out; have := HB6.out; have := HW1.out; simp only; omega) (.int .i64 0)) (p := ⟨b4, 1, none⟩) (by have := HE.out; have := HB6.out; have := HW1.out; simp only; omega) (.string .empty)) (p := ⟨b4, 2, none⟩) (by have := HE.out; have := HB6.out; have := HW1.out; simp only; omega) (.slice none 0 0)) (p := ⟨b4, 3, none⟩) (by have := HE.out; have := HB6.out; have := HW1.out; simp only; omega) (.int .i64 0)) (p := ⟨b4, 4, none⟩) (by have := HE.out; have := HB6.out; have := HW1.out; simp only; omega) (.slice none 0 0))).trans (((Ext.refl _).alloc _).by_ _), (((((((((HB1.out.ext HX2.out).far (p := ⟨b5, 0, none⟩) (by have := HE.out; have := HB6.out; have := HW1.out; simp only; omega) (.int .i64 0)).set 0 (.slice A' 3 c')).far (p := ⟨b4, 0, none⟩) (by have := HE.out; have := HB6.out; have := HW1.out; simp only; omega) (.int .i64 0)).far (p := ⟨b4, 1, none⟩) (by have := HE.out; have := HB6.out; have := HW1.out; simp only; omega) (.string .empty)).far (p := ⟨b4, 2, none⟩) (by have := HE.out; have := HB6.out; have := HW1.out; simp only; omega) (.slice none 0 0)).far (p := ⟨b4, 3, none⟩) (by have := HE.out; have := HB6.out; have := HW1.out; simp only; omega) (.int .i64 0)).far (p := ⟨b4, 4, none⟩) (by have := HE.out; have := HB6.out; have := HW1.out; simp only; omega) (.slice none 0 0))).alloc _, Fresh.low (((((((((fresh_arr HOA.out (by have := HL.out; omega)).off (p := ⟨b5, 0, none⟩) (by have h4 := B4.out.lt; have h5 := B5.out.lt; have h1 := HB1.out.lt; have h6 := HB6.out; have h7 := HX12.out; simp only; omega) (.int .i64 0)).off (p := ⟨gs, 0, none⟩) (by have h4 := B4.out.lt; have h5 := B5.out.lt; have h1 := HB1.out.lt; have h6 := HB6.out; have h7 := HX12.out; simp only; omega) (.slice A' 3 c')).off (p := ⟨b4, 0, none⟩) (by have h4 := B4.out.lt; have h5 := B5.out.lt; have h1 := HB1.out.lt; have h6 := HB6.out; have h7 := HX12.out; simp only; omega) (.int .i64 0)).off (p := ⟨b4, 1, none⟩) (by have h4 := B4.out.lt; have h5 := B5.out.lt; have h1 := HB1.out.lt; have h6 := HB6.out; have h7 := HX12.out; simp only; omega) (.string .empty)).off (p := ⟨b4, 2, none⟩) (by have h4 := B4.out.lt; have h5 := B5.out.lt; have h1 := HB1.out.lt; have h6 := HB6.out; have h7 := HX12.out; simp only; omega) (.slice none 0 0)).off (p := ⟨b4, 3, none⟩) (by have h4 := B4.out.lt; have h5 := B5.out.lt; have h1 := HB1.out.lt; have h6 := HB6.out; have h7 := HX12.out; simp only; omega) (.int .i64 0)).off (p := ⟨b4, 4, none⟩) (by have h4 := B4.out.lt; have h5 := B5.out.lt; have h1 := HB1.out.lt; have h6 := HB6.out; have h7 := HX12.out; simp only; omega) (.slice none 0 0)).up ((Ext.refl _).alloc _)) (by have h1 := HX1.out.size; have h2 := HX12.out; omega)⟩⟩
  ·have HZ := Lib.hid hz
   have hzb : (cd == 0) = false := by simpa using hz
   clear hz
   go_wp2_with fail
   refine bodyPost_ret (res_cell (g := b4) (cs := #[.int .i64 cd, .string .empty, .slice none 0 0, .int .i64 0, .slice none 0 0]) rfl rfl (by exact ((((((((B4.out.ext HX2.out).far (p := ⟨b5, 0, none⟩) hne45 (.int .i64 cd)).set 0 (.int .i64 cd)).set 1 (.string .empty)).set 2 (.slice none 0 0)).set 3 (.int .i64 0)).set 4 (.slice none 0 0))).alloc _) Tryz.underlying46 rfl (by kernel_rfl)) rfl ?_
   rw [← HCD.out]
   exact ⟨rfl, .inl ⟨HZ.out, ((((((((HX1.out.trans HX2.out).setCell (p := ⟨b5, 0, none⟩) (by have := HE.out; have := HB6.out; have := HW1.out; simp only; omega) (.int .i64 cd)).setCell (p := ⟨b4, 0, none⟩) (by have := HE.out; have := HB6.out; have := HW1.out; simp only; omega) (.int .i64 cd)).setCell (p := ⟨b4, 1, none⟩) (by have := HE.out; have := HB6.out; have := HW1.out; simp only; omega) (.string .empty)).setCell (p := ⟨b4, 2, none⟩) (by have := HE.out; have := HB6.out; have := HW1.out; simp only; omega) (.slice none 0 0)).setCell (p := ⟨b4, 3, none⟩) (by have := HE.out; have := HB6.out; have := HW1.out; simp only; omega) (.int .i64 0)).setCell (p := ⟨b4, 4, none⟩) (by have := HE.out; have := HB6.out; have := HW1.out; simp only; omega) (.slice none 0 0))).alloc _⟩⟩
 ·skip
  go_wp2_with fail
  have hSb : (fun W' => W'.cell? ⟨gs, 0, none⟩ = some (.slice A 3 c) ∧ W'.cell? ⟨b3, 3, none⟩ = some (.int .i64 d)) (w1.drew.alloc (.cells #[.slice none 0 0] 30)) := ⟨((Ext.refl w1).drew.alloc _).cell fgs0, ((Ext.refl w1).drew.alloc _).cell fb33⟩
  refine hK _ _ hSb ?_
  clear hK K
  try simp only [Act.put, List.setIfInBounds_toArray, List.set_cons_zero, List.set_cons_succ]
  refine wpAnyH_oneL (i := 6) rfl (by kernel_rfl) rfl (fun K hK => ?_)
  go_wp2_with fail
  obtain ⟨wc, hwc⟩ : ∃ W, W = (w1.alloc (.cells #[.slice none 0 0] 30)).drew := ⟨_, rfl⟩
  rw [← hwc]
  have hxc : Ext w1 wc := by rw [hwc]; exact ((Ext.refl w1).alloc _).drew
  have hbc : Blk_ wc w1.heap.size 30 #[.slice none 0 0] := by rw [hwc]; exact (Blk_.new w1 30 #[.slice none 0 0]).ext (Ext.refl _).drew
  obtain ⟨b6, hb6e⟩ : ∃ b, b = w1.heap.size := ⟨_, rfl⟩
  rw [← hb6e] at hbc ⊢
  have hb6 := Nat.le_of_eq hb6e.symm
  clear hwc hb6e
  have hq := arrReplace_any A c a d wc (show RArr wc [.slice A a.length c] a by rw [H3.out]; exact HR1.out.up hxc) HI.out
  rw [H3.out] at hq
  refine (hq).mono ?_
  rintro e w2 ⟨A', c', rfl, hx2', hoa⟩
  have hx2 : Ext w1 w2 := hxc.trans hx2'
  have hx12 : w1.heap.size ≤ wc.heap.size := hxc.size
  have u40 := (B4.out.ext hx2).cell 0
  have u50 := (B5.out.ext hx2).cell 0
  have v40 := (B4.out.ext hx2).frozen 0
  have v50 := (B5.out.ext hx2).frozen 0
  have u41 := (B4.out.ext hx2).cell 1
  have u51 := (B5.out.ext hx2).cell 1
  have v41 := (B4.out.ext hx2).frozen 1
  have v51 := (B5.out.ext hx2).frozen 1
  have u42 := (B4.out.ext hx2).cell 2
  have u52 := (B5.out.ext hx2).cell 2
  have v42 := (B4.out.ext hx2).frozen 2
  have v52 := (B5.out.ext hx2).frozen 2
  have u43 := (B4.out.ext hx2).cell 3
  have u53 := (B5.out.ext hx2).cell 3
  have v43 := (B4.out.ext hx2).frozen 3
  have v53 := (B5.out.ext hx2).frozen 3
  have u44 := (B4.out.ext hx2).cell 4
  have u54 := (B5.out.ext hx2).cell 4
  have v44 := (B4.out.ext hx2).frozen 4
  have v54 := (B5.out.ext hx2).frozen 4
  simp at u40 u50 u41 u51 u42 u52 u43 u53 u44 u54
  have hl4 := (B4.out.ext hx2).lt
  have hl5 := (B5.out.ext hx2).lt
  have gg0 := (HB1.out.ext hx2).cell 0
  have gz0 := (HB1.out.ext hx2).frozen 0
  simp at gg0
  have gl := (HB1.out.ext hx2).lt
  have k60 := (hbc.ext hx2').cell 0
  have k6z := (hbc.ext hx2').frozen 0
  have k6l := (hbc.ext hx2').lt
  simp at k60
  have hne46 : ¬ (b4 = b6) := by have := B4.out.lt; omega
  have hne64 : ¬ (b6 = b4) := fun e => hne46 e.symm
  have hne56 : ¬ (b5 = b6) := by have := B5.out.lt; omega
  have hne65 : ¬ (b6 = b5) := fun e => hne56 e.symm
  have hneg6 : ¬ (gs = b6) := by have := HB1.out.lt; omega
  have hne6g : ¬ (b6 = gs) := fun e => hneg6 e.symm
  have hS2 : (fun W' => W'.cell? ⟨gs, 0, none⟩ = some (.slice A 3 c) ∧ W'.cell? ⟨b3, 3, none⟩ = some (.int .i64 d)) w2 := ⟨hx2.cell fgs0, hx2.cell fb33⟩
  have HX2 := Lib.hid hx2
  have HX12 := Lib.hid hx12
  have HOA := Lib.hid hoa
  have HB6 := Lib.hid (show b6 ≥ w1.heap.size ∧ b6 < wc.heap.size from ⟨hb6, hbc.lt⟩)
  have HW1 := Lib.hid HX1.out.size
  rw [← HCD.out]
  refine hK _ _ hS2 ?_
  clear hK K hx2 hx2' hoa hx12 hxc
  try simp only [Act.put, List.setIfInBounds_toArray, List.set_cons_zero, List.set_cons_succ]
  obtain ⟨n9, hn9⟩ : ∃ n9, n9 = ((replaceS a d).1).length := ⟨_, rfl⟩
  have HN9 := Lib.hid hn9
  rw [← hn9] at HOA ⊢
  clear hn9
  refine tkL 7 rfl (fun w' hS => by obtain ⟨hS, hS2'⟩ := hS; go_simp; rfl) hS2 ?_
  refine tkL 8 rfl (fun w' hS => by obtain ⟨hS, hS2'⟩ := hS; go_simp; rfl) hS2 ?_
  refine tkL 9 rfl (fun w' hS => by obtain ⟨hS, hS2'⟩ := hS; go_simp; rfl) hS2 ?_
  try simp only [Act.put, List.setIfInBounds_toArray, List.set_cons_zero, List.set_cons_succ]
  refine wpAnyH_oneL (i := 11) rfl (by kernel_rfl) rfl (fun K hK => ?_)
  have hS4 : (fun W' => W'.cell? ⟨gs, 0, none⟩ = some (.slice A 3 c) ∧ W'.cell? ⟨b3, 3, none⟩ = some (.int .i64 d)) (w2.setCell ⟨b6, 0, none⟩ (.slice A' n9 c')) := by
   constructor
   ·rw [World.cell?_setCell_other _ _ _ _ (fun e => by injection e with e1; exact hneg6 e1.symm)]; exact hS2.1
   ·rw [World.cell?_setCell_other _ _ _ _ (fun e => by have h1 := B3.out.lt; injection e with e1; omega)]; exact hS2.2
  go_wp2_with fail
  refine hK _ _ hS4 ?_
  clear hK K
  refine tkL 12 rfl (fun w' hS => by obtain ⟨hS, hS2'⟩ := hS; go_simp; rfl) hS4 ?_
  try simp only [Act.put, List.setIfInBounds_toArray, List.set_cons_zero, List.set_cons_succ]
  refine wpAnyH_done (by kernel_rfl) ?_ _
  by_cases hz : cd = 0
  ·have HL := Lib.hid (show (replaceS a d).1.length = 3 from replaceS_len H3.out (by rw [← HCD.out]; exact hz))
   have HZ := Lib.hid hz
   have hn3 : n9 = 3 := by rw [HN9.out]; exact HL.out
   rw [hn3] at HOA ⊢
   rw [hz]
   clear hz hn3
   go_wp2_with fail
   refine bodyPost_ret (res_cell (g := b4) (cs := #[.int .i64 0, .string .empty, .slice none 0 0, .int .i64 0, .slice none 0 0]) rfl rfl (by exact (((((((((B4.out.ext HX2.out).far (p := ⟨b6, 0, none⟩) hne46 (.slice A' 3 c')).far (p := ⟨b5, 0, none⟩) hne45 (.int .i64 0)).far (p := ⟨gs, 0, none⟩) hne4g (.slice A' 3 c')).set 0 (.int .i64 0)).set 1 (.string .empty)).set 2 (.slice none 0 0)).set 3 (.int .i64 0)).set 4 (.slice none 0 0))) Tryz.underlying46 rfl (by kernel_rfl)) rfl ?_
   rw [← HCD.out, HZ.out]
   exact ⟨rfl, .inr ⟨rfl, A', c', (grown_set (grown_set (grown_set (grown_set (grown_set ((grown_set (grown_set ((HX1.out.trans HX2.out).by_ (some gs)) (p := ⟨b6, 0, none⟩) (by have := HE.out; have := HB6.out; have := HW1.out; simp only; omega) (.slice A' 3 c')) (p := ⟨b5, 0, none⟩) (by have := HE.out; have := HB6.out; have := HW1.out; simp only; omega) (.int .i64 0)).trans (setRow_by _ gs 0 (.slice A' 3 c'))) (p := ⟨b4, 0, none⟩) (by have := HE.out; have := HB6.out; have := HW1.out; simp only; omega) (.int .i64 0)) (p := ⟨b4, 1, none⟩) (by have := HE.out; have := HB6.out; have := HW1.out; simp only; omega) (.string .empty)) (p := ⟨b4, 2, none⟩) (by have := HE.out; have := HB6.out; have := HW1.out; simp only; omega) (.slice none 0 0)) (p := ⟨b4, 3, none⟩) (by have := HE.out; have := HB6.out; have := HW1.out; simp only; omega) (.int .i64 0)) (p := ⟨b4, 4, none⟩) (by have := HE.out; have := HB6.out; have := HW1.out; simp only; omega) (.slice none 0 0)), (((((((((HB1.out.ext HX2.out).far (p := ⟨b6, 0, none⟩) (by have := HE.out; have := HB6.out; have := HW1.out; simp only; omega) (.slice A' 3 c')).far (p := ⟨b5, 0, none⟩) (by have := HE.out; have := HB6.out; have := HW1.out; simp only; omega) (.int .i64 0)).set 0 (.slice A' 3 c')).far (p := ⟨b4, 0, none⟩) (by have := HE.out; have := HB6.out; have := HW1.out; simp only; omega) (.int .i64 0)).far (p := ⟨b4, 1, none⟩) (by have := HE.out; have := HB6.out; have := HW1.out; simp only; omega) (.string .empty)).far (p := ⟨b4, 2, none⟩) (by have := HE.out; have := HB6.out; have := HW1.out; simp only; omega) (.slice none 0 0)).far (p := ⟨b4, 3, none⟩) (by have := HE.out; have := HB6.out; have := HW1.out; simp only; omega) (.int .i64 0)).far (p := ⟨b4, 4, none⟩) (by have := HE.out; have := HB6.out; have := HW1.out; simp only; omega) (.slice none 0 0)), Fresh.low (((((((((fresh_arr HOA.out (by have := HL.out; omega)).off (p := ⟨b6, 0, none⟩) (by have h4 := B4.out.lt; have h5 := B5.out.lt; have h1 := HB1.out.lt; have h6 := HB6.out; have h7 := HX12.out; simp only; omega) (.slice A' 3 c')).off (p := ⟨b5, 0, none⟩) (by have h4 := B4.out.lt; have h5 := B5.out.lt; have h1 := HB1.out.lt; have h6 := HB6.out; have h7 := HX12.out; simp only; omega) (.int .i64 0)).off (p := ⟨gs, 0, none⟩) (by have h4 := B4.out.lt; have h5 := B5.out.lt; have h1 := HB1.out.lt; have h6 := HB6.out; have h7 := HX12.out; simp only; omega) (.slice A' 3 c')).off (p := ⟨b4, 0, none⟩) (by have h4 := B4.out.lt; have h5 := B5.out.lt; have h1 := HB1.out.lt; have h6 := HB6.out; have h7 := HX12.out; simp only; omega) (.int .i64 0)).off (p := ⟨b4, 1, none⟩) (by have h4 := B4.out.lt; have h5 := B5.out.lt; have h1 := HB1.out.lt; have h6 := HB6.out; have h7 := HX12.out; simp only; omega) (.string .empty)).off (p := ⟨b4, 2, none⟩) (by have h4 := B4.out.lt; have h5 := B5.out.lt; have h1 := HB1.out.lt; have h6 := HB6.out; have h7 := HX12.out; simp only; omega) (.slice none 0 0)).off (p := ⟨b4, 3, none⟩) (by have h4 := B4.out.lt; have h5 := B5.out.lt; have h1 := HB1.out.lt; have h6 := HB6.out; have h7 := HX12.out; simp only; omega) (.int .i64 0)).off (p := ⟨b4, 4, none⟩) (by have h4 := B4.out.lt; have h5 := B5.out.lt; have h1 := HB1.out.lt; have h6 := HB6.out; have h7 := HX12.out; simp only; omega) (.slice none 0 0)) (by have h1 := HX1.out.size; have h2 := HX12.out; omega)⟩⟩
  ·have HZ := Lib.hid hz
   have hzb : (cd == 0) = false := by simpa using hz
   clear hz
   go_wp2_with fail
   refine bodyPost_ret (res_cell (g := b4) (cs := #[.int .i64 cd, .string .empty, .slice none 0 0, .int .i64 0, .slice none 0 0]) rfl rfl (by exact ((((((((B4.out.ext HX2.out).far (p := ⟨b6, 0, none⟩) hne46 (.slice A' n9 c')).far (p := ⟨b5, 0, none⟩) hne45 (.int .i64 cd)).set 0 (.int .i64 cd)).set 1 (.string .empty)).set 2 (.slice none 0 0)).set 3 (.int .i64 0)).set 4 (.slice none 0 0))) Tryz.underlying46 rfl (by kernel_rfl)) rfl ?_
   rw [← HCD.out]
   exact ⟨rfl, .inl ⟨HZ.out, ((((((((HX1.out.trans HX2.out).setCell (p := ⟨b6, 0, none⟩) (by have := HE.out; have := HB6.out; have := HW1.out; simp only; omega) (.slice A' n9 c')).setCell (p := ⟨b5, 0, none⟩) (by have := HE.out; have := HB6.out; have := HW1.out; simp only; omega) (.int .i64 cd)).setCell (p := ⟨b4, 0, none⟩) (by have := HE.out; have := HB6.out; have := HW1.out; simp only; omega) (.int .i64 cd)).setCell (p := ⟨b4, 1, none⟩) (by have := HE.out; have := HB6.out; have := HW1.out; simp only; omega) (.string .empty)).setCell (p := ⟨b4, 2, none⟩) (by have := HE.out; have := HB6.out; have := HW1.out; simp only; omega) (.slice none 0 0)).setCell (p := ⟨b4, 3, none⟩) (by have := HE.out; have := HB6.out; have := HW1.out; simp only; omega) (.int .i64 0)).setCell (p := ⟨b4, 4, none⟩) (by have := HE.out; have := HB6.out; have := HW1.out; simp only; omega) (.slice none 0 0))⟩⟩
end Go.Proofs.YtgjijcgkmofaaaaGreatDoor
