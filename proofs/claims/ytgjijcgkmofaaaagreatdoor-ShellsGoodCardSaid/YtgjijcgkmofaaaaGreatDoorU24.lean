/-
  The act Scrub at a number below 0: refused, nothing changed. Conditions: as act_scrub's.
-/
import Derived.Test.YtgjijcgkmofaaaaGreatDoorU23
import Derived.LaidSub
import Derived.MakeChecks
import Derived.Lib.LaidTab
namespace Go.Proofs.YtgjijcgkmofaaaaGreatDoor
set_option linter.unusedSimpArgs false
set_option linter.unusedVariables false
set_option maxRecDepth 100000
set_option maxHeartbeats 8000000
open Go.RowKit
theorem act_scrubRange (gs : Nat) (A : Option Addr) (c : Nat) (a : List Dev) (nx rd : Int) (vf : Value) (nm : ByteArray) (d n at_ by_ : Int) (w : World) (hb : Blk_ w gs 123 #[.slice A 3 c, .int .i64 nx, .int .i64 rd]) (hr : RArr w [.slice A 3 c] a) (h3 : a.length = 3) (m nx0 rd0 : Nat) (all : List ByteArray) (hnx : nx = (nx0 : Int)) (hrd : rd = (rd0 : Int)) (hp : Part a m all) (h16 : 16 ≤ m) (h64 : m ≤ 64) (h2 : m % 2 = 0) (hnm : nx0 < m) (hrr : rd0 ≤ 1000000) (hk : n < 0) :
  Calls Tryz.prog 62 #[.pointer (some ⟨gs, 0, none⟩), .agg #[.int .i64 7, vf, .string nm, .int .i64 d, .int .i64 n, .int .i64 at_, .int .i64 by_]] w fun e w' => e = .returned (.agg #[.int .i64 2, .string .empty, .slice none 0 0, .int .i64 0, .slice none 0 0]) ∧ Ext w w' := by
 have HB := Lib.hid hb
 have HR := Lib.hid hr
 have H3 := Lib.hid h3
 subst hnx hrd
 have HP := Lib.hid hp
 have HM := Lib.hid (And.intro h16 (And.intro h64 (And.intro h2 (And.intro hnm (And.intro hrr hk)))))
 clear hb hr h3 hp h16 h64 h2 hnm hrr hk
 have c0 := HB.out.cell 0
 have c1 := HB.out.cell 1
 have c2 := HB.out.cell 2
 simp at c0 c1 c2
 have l0 := HB.out.lt
 have l0a : gs < w.heap.size + 1 := by omega
 have l0b : gs < w.heap.size + 1 + 1 := by omega
 go_enter Tryz.func62, Tryz.ntmps62
 go_wp2_with fail
 refine wp_abs (fun W => Ext w W ∧ Blk_ W w.heap.size 39 #[.int .i64 7, vf, .string nm, .int .i64 d, .int .i64 n, .int .i64 at_, .int .i64 by_] ∧ Blk_ W (w.heap.size + 1) 46 #[.int .i64 0, .string .empty, .slice none 0 0, .int .i64 0, .slice none 0 0] ∧ Blk_ W (w.heap.size + 2) 46 #[.int .i64 0, .string .empty, .slice none 0 0, .int .i64 0, .slice none 0 0]) ⟨(((Ext.refl _).alloc _).alloc _).alloc _, ((Blk_.new _ _ _).alloc _).alloc _, (Blk_.new1 _ _ _ _).alloc _, Blk_.new2 _ _ _ _ _⟩ ?_
 rintro w1 ⟨hx1, hb3, hb4, hb5⟩
 obtain ⟨b3, e3⟩ : ∃ b, b = w.heap.size := ⟨_, rfl⟩
 obtain ⟨b4, e4⟩ : ∃ b, b = b3 + 1 := ⟨_, rfl⟩
 obtain ⟨b5, e5⟩ : ∃ b, b = b4 + 1 := ⟨_, rfl⟩
 rw [← e3, ← e4, ← e5]
 have hb4' : Blk_ w1 b4 46 #[.int .i64 0, .string .empty, .slice none 0 0, .int .i64 0, .slice none 0 0] := by rw [e4, e3]; exact hb4
 have hb5' : Blk_ w1 b5 46 #[.int .i64 0, .string .empty, .slice none 0 0, .int .i64 0, .slice none 0 0] := by rw [e5, e4, e3]; exact hb5
 rw [← e3] at hb3
 have HE := Lib.hid (show w.heap.size = b3 ∧ b4 = b3 + 1 ∧ b5 = b4 + 1 ∧ gs < b3 from ⟨e3.symm, e4, e5, by rw [e3]; exact l0⟩)
 have HX1 := Lib.hid hx1
 have B3 := Lib.hid hb3
 have B4 := Lib.hid hb4'
 have B5 := Lib.hid hb5'
 have HB1 := Lib.hid (HB.out.ext hx1)
 have HR1 := Lib.hid (HR.out.up hx1)
 clear hx1 hb3 hb4 hb5 hb4' hb5' e3 e4 e5 l0 l0a l0b c0 c1 c2
 have fgs0 := (HB1.out).cell 0
 have fgs1 := (HB1.out).cell 1
 have fgs2 := (HB1.out).cell 2
 simp at fgs0 fgs1 fgs2
 have fb34 := (B3.out).cell 4
 simp at fb34
 have hne45 : ¬ (b4 = b5) := by have := HE.out; omega
 have hne54 : ¬ (b5 = b4) := by have := HE.out; omega
 have hneg4 : ¬ (gs = b4) := by have := HE.out; omega
 have hneg5 : ¬ (gs = b5) := by have := HE.out; omega
 have hne4g : ¬ (b4 = gs) := by have := HE.out; omega
 have hne5g : ¬ (b5 = gs) := by have := HE.out; omega
 refine wp_region_all (S := fun W' => W'.cell? ⟨gs, 0, none⟩ = some (.slice A 3 c) ∧ W'.cell? ⟨gs, 1, none⟩ = some (.int .i64 (nx0 : Int)) ∧ W'.cell? ⟨gs, 2, none⟩ = some (.int .i64 (rd0 : Int)) ∧ W'.cell? ⟨b3, 4, none⟩ = some (.int .i64 n)) (by kernel_rfl) ?_
 have hS0 : (fun W' => W'.cell? ⟨gs, 0, none⟩ = some (.slice A 3 c) ∧ W'.cell? ⟨gs, 1, none⟩ = some (.int .i64 (nx0 : Int)) ∧ W'.cell? ⟨gs, 2, none⟩ = some (.int .i64 (rd0 : Int)) ∧ W'.cell? ⟨b3, 4, none⟩ = some (.int .i64 n)) w1.drew := ⟨fgs0, fgs1, fgs2, fb34⟩
 refine tkL 0 rfl (fun w' hS => by obtain ⟨hS, hS2', hS3', hS4'⟩ := hS; go_simp; rfl) hS0 ?_
 refine tkL 1 rfl (fun w' hS => by obtain ⟨hS, hS2', hS3', hS4'⟩ := hS; go_simp; rfl) hS0 ?_
 refine tkL 2 rfl (fun w' hS => by obtain ⟨hS, hS2', hS3', hS4'⟩ := hS; go_simp; rfl) hS0 ?_
 try simp only [Act.put, List.setIfInBounds_toArray, List.set_cons_zero, List.set_cons_succ]
 refine tkL 3 rfl (fun w' hS => by obtain ⟨hS, hS2', hS3', hS4'⟩ := hS; go_simp; rfl) hS0 ?_
 refine tkL 4 rfl (fun w' hS => by obtain ⟨hS, hS2', hS3', hS4'⟩ := hS; go_simp; rfl) hS0 ?_
 refine tkL 5 rfl (fun w' hS => by obtain ⟨hS, hS2', hS3', hS4'⟩ := hS; go_simp; rfl) hS0 ?_
 try simp only [Act.put, List.setIfInBounds_toArray, List.set_cons_zero, List.set_cons_succ]
 refine tkL 6 rfl (fun w' hS => by obtain ⟨hS, hS2', hS3', hS4'⟩ := hS; go_simp; rfl) hS0 ?_
 refine tkL 7 rfl (fun w' hS => by obtain ⟨hS, hS2', hS3', hS4'⟩ := hS; go_simp; rfl) hS0 ?_
 refine tkL 8 rfl (fun w' hS => by obtain ⟨hS, hS2', hS3', hS4'⟩ := hS; go_simp; rfl) hS0 ?_
 try simp only [Act.put, List.setIfInBounds_toArray, List.set_cons_zero, List.set_cons_succ]
 refine tkL 9 rfl (fun w' hS => by obtain ⟨hS, hS2', hS3', hS4'⟩ := hS; go_simp; rfl) hS0 ?_
 try simp only [Act.put, List.setIfInBounds_toArray, List.set_cons_zero, List.set_cons_succ]
 refine anyH_abs (fun W => Ext w1 W) ((Ext.refl w1).drew) ?_
 rintro wp hxp
 refine wpAnyH_threeL (i := 10) (j := 17) (k := 18) rfl rfl rfl (by kernel_rfl) rfl rfl rfl (fun K hK => ?_) (fun K hK => ?_) (fun K hK => ?_)
 focus
  go_wp2_with fail
  refine (stepRange_any [.slice A 3 c] a m nx0 rd0 n all wp (HR1.out.up hxp) HP.out HM.out.1 HM.out.2.1 HM.out.2.2.1 HM.out.2.2.2.1 HM.out.2.2.2.2.1 HM.out.2.2.2.2.2).mono ?_
  rintro e wS ⟨rfl, hxS⟩
  refine hK _ _ ⟨(hxp.trans hxS).cell fgs0, (hxp.trans hxS).cell fgs1, (hxp.trans hxS).cell fgs2, (hxp.trans hxS).cell fb34⟩ ?_
  clear hK K
  try simp only [Act.put, List.setIfInBounds_toArray, List.set_cons_zero, List.set_cons_succ]
  obtain ⟨wc, hwc⟩ : ∃ W, W = wp := ⟨_, rfl⟩
  have hlc : w1.heap.size ≤ wc.heap.size := by rw [hwc]; exact hxp.size
  refine anyH_abs (fun W => Ext w1 W ∧ Keep wc wS W) ⟨hxp.trans hxS, ⟨Nat.le_refl _, fun _ _ _ => rfl⟩⟩ ?_
  clear hxp hxS hwc
  rintro wp ⟨hxp, hkp⟩
  have hS1 : (fun W' => W'.cell? ⟨gs, 0, none⟩ = some (.slice A 3 c) ∧ W'.cell? ⟨gs, 1, none⟩ = some (.int .i64 (nx0 : Int)) ∧ W'.cell? ⟨gs, 2, none⟩ = some (.int .i64 (rd0 : Int)) ∧ W'.cell? ⟨b3, 4, none⟩ = some (.int .i64 n)) wp := ⟨(hxp).cell fgs0, (hxp).cell fgs1, (hxp).cell fgs2, (hxp).cell fb34⟩
  refine tkL 11 rfl (fun w' hS => by obtain ⟨hS, hS2', hS3', hS4'⟩ := hS; go_simp; rfl) hS1 ?_
  refine tkL 12 rfl (fun w' hS => by obtain ⟨hS, hS2', hS3', hS4'⟩ := hS; go_simp; rfl) hS1 ?_
  refine tkL 13 rfl (fun w' hS => by obtain ⟨hS, hS2', hS3', hS4'⟩ := hS; go_simp; rfl) hS1 ?_
  try simp only [Act.put, List.setIfInBounds_toArray, List.set_cons_zero, List.set_cons_succ]
  refine tkL 14 rfl (fun w' hS => by obtain ⟨hS, hS2', hS3', hS4'⟩ := hS; go_simp; rfl) hS1 ?_
  refine tkL 15 rfl (fun w' hS => by obtain ⟨hS, hS2', hS3', hS4'⟩ := hS; go_simp; rfl) hS1 ?_
  refine tkL 16 rfl (fun w' hS => by obtain ⟨hS, hS2', hS3', hS4'⟩ := hS; go_simp; rfl) hS1 ?_
  try simp only [Act.put, List.setIfInBounds_toArray, List.set_cons_zero, List.set_cons_succ]
  clear hS1
  refine wpAnyH_twoL (i := 17) (j := 18) rfl rfl (by kernel_rfl) rfl rfl (fun K hK => ?_) (fun K hK => ?_)
  focus
   go_wp2_with fail
   refine hK _ _ ⟨(hxp.alloc _).cell fgs0, (hxp.alloc _).cell fgs1, (hxp.alloc _).cell fgs2, (hxp.alloc _).cell fb34⟩ ?_
   clear hK K
   try simp only [Act.put, List.setIfInBounds_toArray, List.set_cons_zero, List.set_cons_succ]
   obtain ⟨b10, hbb10⟩ : ∃ b, b = wp.heap.size := ⟨_, rfl⟩
   rw [← hbb10]
   have hlb10 : w1.heap.size ≤ b10 := by rw [hbb10]; exact hxp.size
   have hsb10 : b10 < wc.heap.size ∨ wS.heap.size ≤ b10 := .inr (by rw [hbb10]; exact hkp.1)
   refine anyH_abs (fun W => Ext w1 W ∧ Keep wc wS W ∧ Blk_ W b10 30 #[.slice none 0 0]) ⟨hxp.alloc _, hkp.up ((Ext.refl _).alloc _), by rw [hbb10]; exact Blk_.new _ _ _⟩ ?_
   clear hxp hbb10 hkp
   rintro wp ⟨hxp, hkp, h10⟩
   refine wpAnyH_oneL (i := 18) rfl (by kernel_rfl) rfl (fun K hK => ?_)
   go_wp2_with fail
   refine hK _ _ ⟨(hxp.alloc _).cell fgs0, (hxp.alloc _).cell fgs1, (hxp.alloc _).cell fgs2, (hxp.alloc _).cell fb34⟩ ?_
   clear hK K
   try simp only [Act.put, List.setIfInBounds_toArray, List.set_cons_zero, List.set_cons_succ]
   obtain ⟨b11, hbb11⟩ : ∃ b, b = wp.heap.size := ⟨_, rfl⟩
   rw [← hbb11]
   have hlb11 : w1.heap.size ≤ b11 := by rw [hbb11]; exact hxp.size
   have hsb11 : b11 < wc.heap.size ∨ wS.heap.size ≤ b11 := .inr (by rw [hbb11]; exact hkp.1)
   have hnb : b10 ≠ b11 := by have := h10.lt; omega
   refine anyH_abs (fun W => Ext w1 W ∧ Keep wc wS W ∧ Blk_ W b10 30 #[.slice none 0 0] ∧ Blk_ W b11 121 #[.int .i64 0, .int .i64 0]) ⟨hxp.alloc _, hkp.up ((Ext.refl _).alloc _), h10.alloc _, by rw [hbb11]; exact Blk_.new _ _ _⟩ ?_
   clear hxp hbb11 hkp h10
   rintro wp ⟨hxp, hkp, h10, h11⟩
  rotate_left
  focus
   go_wp2_with fail
   refine hK _ _ ⟨(hxp.alloc _).cell fgs0, (hxp.alloc _).cell fgs1, (hxp.alloc _).cell fgs2, (hxp.alloc _).cell fb34⟩ ?_
   clear hK K
   try simp only [Act.put, List.setIfInBounds_toArray, List.set_cons_zero, List.set_cons_succ]
   obtain ⟨b11, hbb11⟩ : ∃ b, b = wp.heap.size := ⟨_, rfl⟩
   rw [← hbb11]
   have hlb11 : w1.heap.size ≤ b11 := by rw [hbb11]; exact hxp.size
   have hsb11 : b11 < wc.heap.size ∨ wS.heap.size ≤ b11 := .inr (by rw [hbb11]; exact hkp.1)
   refine anyH_abs (fun W => Ext w1 W ∧ Keep wc wS W ∧ Blk_ W b11 121 #[.int .i64 0, .int .i64 0]) ⟨hxp.alloc _, hkp.up ((Ext.refl _).alloc _), by rw [hbb11]; exact Blk_.new _ _ _⟩ ?_
   clear hxp hbb11 hkp
   rintro wp ⟨hxp, hkp, h11⟩
   refine wpAnyH_oneL (i := 17) rfl (by kernel_rfl) rfl (fun K hK => ?_)
   go_wp2_with fail
   refine hK _ _ ⟨(hxp.alloc _).cell fgs0, (hxp.alloc _).cell fgs1, (hxp.alloc _).cell fgs2, (hxp.alloc _).cell fb34⟩ ?_
   clear hK K
   try simp only [Act.put, List.setIfInBounds_toArray, List.set_cons_zero, List.set_cons_succ]
   obtain ⟨b10, hbb10⟩ : ∃ b, b = wp.heap.size := ⟨_, rfl⟩
   rw [← hbb10]
   have hlb10 : w1.heap.size ≤ b10 := by rw [hbb10]; exact hxp.size
   have hsb10 : b10 < wc.heap.size ∨ wS.heap.size ≤ b10 := .inr (by rw [hbb10]; exact hkp.1)
   have hnb : b10 ≠ b11 := by have := h11.lt; omega
   refine anyH_abs (fun W => Ext w1 W ∧ Keep wc wS W ∧ Blk_ W b11 121 #[.int .i64 0, .int .i64 0] ∧ Blk_ W b10 30 #[.slice none 0 0]) ⟨hxp.alloc _, hkp.up ((Ext.refl _).alloc _), h11.alloc _, by rw [hbb10]; exact Blk_.new _ _ _⟩ ?_
   clear hxp hbb10 hkp h11
   rintro wp ⟨hxp, hkp, h11, h10⟩
  rotate_left
 rotate_left 2
 focus
  go_wp2_with fail
  refine hK _ _ ⟨(hxp.alloc _).cell fgs0, (hxp.alloc _).cell fgs1, (hxp.alloc _).cell fgs2, (hxp.alloc _).cell fb34⟩ ?_
  clear hK K
  try simp only [Act.put, List.setIfInBounds_toArray, List.set_cons_zero, List.set_cons_succ]
  obtain ⟨b10, hbb10⟩ : ∃ b, b = wp.heap.size := ⟨_, rfl⟩
  rw [← hbb10]
  have hlb10 : w1.heap.size ≤ b10 := by rw [hbb10]; exact hxp.size
  refine anyH_abs (fun W => Ext w1 W ∧ Blk_ W b10 30 #[.slice none 0 0]) ⟨hxp.alloc _, by rw [hbb10]; exact Blk_.new _ _ _⟩ ?_
  clear hxp hbb10
  rintro wp ⟨hxp, h10⟩
  refine wpAnyH_twoL (i := 10) (j := 18) rfl rfl (by kernel_rfl) rfl rfl (fun K hK => ?_) (fun K hK => ?_)
  focus
   go_wp2_with fail
   refine (stepRange_any [.slice A 3 c] a m nx0 rd0 n all wp (HR1.out.up hxp) HP.out HM.out.1 HM.out.2.1 HM.out.2.2.1 HM.out.2.2.2.1 HM.out.2.2.2.2.1 HM.out.2.2.2.2.2).mono ?_
   rintro e wS ⟨rfl, hxS⟩
   refine hK _ _ ⟨(hxp.trans hxS).cell fgs0, (hxp.trans hxS).cell fgs1, (hxp.trans hxS).cell fgs2, (hxp.trans hxS).cell fb34⟩ ?_
   clear hK K
   try simp only [Act.put, List.setIfInBounds_toArray, List.set_cons_zero, List.set_cons_succ]
   obtain ⟨wc, hwc⟩ : ∃ W, W = wp := ⟨_, rfl⟩
   have hlc : w1.heap.size ≤ wc.heap.size := by rw [hwc]; exact hxp.size
   have hsb10 : b10 < wc.heap.size ∨ wS.heap.size ≤ b10 := .inl (by rw [hwc]; exact h10.lt)
   refine anyH_abs (fun W => Ext w1 W ∧ Blk_ W b10 30 #[.slice none 0 0] ∧ Keep wc wS W) ⟨hxp.trans hxS, h10.ext hxS, ⟨Nat.le_refl _, fun _ _ _ => rfl⟩⟩ ?_
   clear hxp hxS hwc h10
   rintro wp ⟨hxp, h10, hkp⟩
   have hS1 : (fun W' => W'.cell? ⟨gs, 0, none⟩ = some (.slice A 3 c) ∧ W'.cell? ⟨gs, 1, none⟩ = some (.int .i64 (nx0 : Int)) ∧ W'.cell? ⟨gs, 2, none⟩ = some (.int .i64 (rd0 : Int)) ∧ W'.cell? ⟨b3, 4, none⟩ = some (.int .i64 n)) wp := ⟨(hxp).cell fgs0, (hxp).cell fgs1, (hxp).cell fgs2, (hxp).cell fb34⟩
   refine tkL 11 rfl (fun w' hS => by obtain ⟨hS, hS2', hS3', hS4'⟩ := hS; go_simp; rfl) hS1 ?_
   refine tkL 12 rfl (fun w' hS => by obtain ⟨hS, hS2', hS3', hS4'⟩ := hS; go_simp; rfl) hS1 ?_
   refine tkL 13 rfl (fun w' hS => by obtain ⟨hS, hS2', hS3', hS4'⟩ := hS; go_simp; rfl) hS1 ?_
   try simp only [Act.put, List.setIfInBounds_toArray, List.set_cons_zero, List.set_cons_succ]
   refine tkL 14 rfl (fun w' hS => by obtain ⟨hS, hS2', hS3', hS4'⟩ := hS; go_simp; rfl) hS1 ?_
   refine tkL 15 rfl (fun w' hS => by obtain ⟨hS, hS2', hS3', hS4'⟩ := hS; go_simp; rfl) hS1 ?_
   refine tkL 16 rfl (fun w' hS => by obtain ⟨hS, hS2', hS3', hS4'⟩ := hS; go_simp; rfl) hS1 ?_
   try simp only [Act.put, List.setIfInBounds_toArray, List.set_cons_zero, List.set_cons_succ]
   clear hS1
   refine wpAnyH_oneL (i := 18) rfl (by kernel_rfl) rfl (fun K hK => ?_)
   go_wp2_with fail
   refine hK _ _ ⟨(hxp.alloc _).cell fgs0, (hxp.alloc _).cell fgs1, (hxp.alloc _).cell fgs2, (hxp.alloc _).cell fb34⟩ ?_
   clear hK K
   try simp only [Act.put, List.setIfInBounds_toArray, List.set_cons_zero, List.set_cons_succ]
   obtain ⟨b11, hbb11⟩ : ∃ b, b = wp.heap.size := ⟨_, rfl⟩
   rw [← hbb11]
   have hlb11 : w1.heap.size ≤ b11 := by rw [hbb11]; exact hxp.size
   have hsb11 : b11 < wc.heap.size ∨ wS.heap.size ≤ b11 := .inr (by rw [hbb11]; exact hkp.1)
   have hnb : b10 ≠ b11 := by have := h10.lt; omega
   refine anyH_abs (fun W => Ext w1 W ∧ Blk_ W b10 30 #[.slice none 0 0] ∧ Keep wc wS W ∧ Blk_ W b11 121 #[.int .i64 0, .int .i64 0]) ⟨hxp.alloc _, h10.alloc _, hkp.up ((Ext.refl _).alloc _), by rw [hbb11]; exact Blk_.new _ _ _⟩ ?_
   clear hxp hbb11 h10 hkp
   rintro wp ⟨hxp, h10, hkp, h11⟩
  rotate_left
  focus
   go_wp2_with fail
   refine hK _ _ ⟨(hxp.alloc _).cell fgs0, (hxp.alloc _).cell fgs1, (hxp.alloc _).cell fgs2, (hxp.alloc _).cell fb34⟩ ?_
   clear hK K
   try simp only [Act.put, List.setIfInBounds_toArray, List.set_cons_zero, List.set_cons_succ]
   obtain ⟨b11, hbb11⟩ : ∃ b, b = wp.heap.size := ⟨_, rfl⟩
   rw [← hbb11]
   have hlb11 : w1.heap.size ≤ b11 := by rw [hbb11]; exact hxp.size
   have hnb : b10 ≠ b11 := by have := h10.lt; omega
   refine anyH_abs (fun W => Ext w1 W ∧ Blk_ W b10 30 #[.slice none 0 0] ∧ Blk_ W b11 121 #[.int .i64 0, .int .i64 0]) ⟨hxp.alloc _, h10.alloc _, by rw [hbb11]; exact Blk_.new _ _ _⟩ ?_
   clear hxp hbb11 h10
   rintro wp ⟨hxp, h10, h11⟩
   refine wpAnyH_oneL (i := 10) rfl (by kernel_rfl) rfl (fun K hK => ?_)
   go_wp2_with fail
   refine (stepRange_any [.slice A 3 c] a m nx0 rd0 n all wp (HR1.out.up hxp) HP.out HM.out.1 HM.out.2.1 HM.out.2.2.1 HM.out.2.2.2.1 HM.out.2.2.2.2.1 HM.out.2.2.2.2.2).mono ?_
   rintro e wS ⟨rfl, hxS⟩
   refine hK _ _ ⟨(hxp.trans hxS).cell fgs0, (hxp.trans hxS).cell fgs1, (hxp.trans hxS).cell fgs2, (hxp.trans hxS).cell fb34⟩ ?_
   clear hK K
   try simp only [Act.put, List.setIfInBounds_toArray, List.set_cons_zero, List.set_cons_succ]
   obtain ⟨wc, hwc⟩ : ∃ W, W = wp := ⟨_, rfl⟩
   have hlc : w1.heap.size ≤ wc.heap.size := by rw [hwc]; exact hxp.size
   have hsb10 : b10 < wc.heap.size ∨ wS.heap.size ≤ b10 := .inl (by rw [hwc]; exact h10.lt)
   have hsb11 : b11 < wc.heap.size ∨ wS.heap.size ≤ b11 := .inl (by rw [hwc]; exact h11.lt)
   refine anyH_abs (fun W => Ext w1 W ∧ Blk_ W b10 30 #[.slice none 0 0] ∧ Blk_ W b11 121 #[.int .i64 0, .int .i64 0] ∧ Keep wc wS W) ⟨hxp.trans hxS, h10.ext hxS, h11.ext hxS, ⟨Nat.le_refl _, fun _ _ _ => rfl⟩⟩ ?_
   clear hxp hxS hwc h10 h11
   rintro wp ⟨hxp, h10, h11, hkp⟩
   have hS1 : (fun W' => W'.cell? ⟨gs, 0, none⟩ = some (.slice A 3 c) ∧ W'.cell? ⟨gs, 1, none⟩ = some (.int .i64 (nx0 : Int)) ∧ W'.cell? ⟨gs, 2, none⟩ = some (.int .i64 (rd0 : Int)) ∧ W'.cell? ⟨b3, 4, none⟩ = some (.int .i64 n)) wp := ⟨(hxp).cell fgs0, (hxp).cell fgs1, (hxp).cell fgs2, (hxp).cell fb34⟩
   refine tkL 11 rfl (fun w' hS => by obtain ⟨hS, hS2', hS3', hS4'⟩ := hS; go_simp; rfl) hS1 ?_
   refine tkL 12 rfl (fun w' hS => by obtain ⟨hS, hS2', hS3', hS4'⟩ := hS; go_simp; rfl) hS1 ?_
   refine tkL 13 rfl (fun w' hS => by obtain ⟨hS, hS2', hS3', hS4'⟩ := hS; go_simp; rfl) hS1 ?_
   try simp only [Act.put, List.setIfInBounds_toArray, List.set_cons_zero, List.set_cons_succ]
   refine tkL 14 rfl (fun w' hS => by obtain ⟨hS, hS2', hS3', hS4'⟩ := hS; go_simp; rfl) hS1 ?_
   refine tkL 15 rfl (fun w' hS => by obtain ⟨hS, hS2', hS3', hS4'⟩ := hS; go_simp; rfl) hS1 ?_
   refine tkL 16 rfl (fun w' hS => by obtain ⟨hS, hS2', hS3', hS4'⟩ := hS; go_simp; rfl) hS1 ?_
   try simp only [Act.put, List.setIfInBounds_toArray, List.set_cons_zero, List.set_cons_succ]
   clear hS1
  rotate_left
 rotate_left 2
 focus
  go_wp2_with fail
  refine hK _ _ ⟨(hxp.alloc _).cell fgs0, (hxp.alloc _).cell fgs1, (hxp.alloc _).cell fgs2, (hxp.alloc _).cell fb34⟩ ?_
  clear hK K
  try simp only [Act.put, List.setIfInBounds_toArray, List.set_cons_zero, List.set_cons_succ]
  obtain ⟨b11, hbb11⟩ : ∃ b, b = wp.heap.size := ⟨_, rfl⟩
  rw [← hbb11]
  have hlb11 : w1.heap.size ≤ b11 := by rw [hbb11]; exact hxp.size
  refine anyH_abs (fun W => Ext w1 W ∧ Blk_ W b11 121 #[.int .i64 0, .int .i64 0]) ⟨hxp.alloc _, by rw [hbb11]; exact Blk_.new _ _ _⟩ ?_
  clear hxp hbb11
  rintro wp ⟨hxp, h11⟩
  refine wpAnyH_twoL (i := 10) (j := 17) rfl rfl (by kernel_rfl) rfl rfl (fun K hK => ?_) (fun K hK => ?_)
  focus
   go_wp2_with fail
   refine (stepRange_any [.slice A 3 c] a m nx0 rd0 n all wp (HR1.out.up hxp) HP.out HM.out.1 HM.out.2.1 HM.out.2.2.1 HM.out.2.2.2.1 HM.out.2.2.2.2.1 HM.out.2.2.2.2.2).mono ?_
   rintro e wS ⟨rfl, hxS⟩
   refine hK _ _ ⟨(hxp.trans hxS).cell fgs0, (hxp.trans hxS).cell fgs1, (hxp.trans hxS).cell fgs2, (hxp.trans hxS).cell fb34⟩ ?_
   clear hK K
   try simp only [Act.put, List.setIfInBounds_toArray, List.set_cons_zero, List.set_cons_succ]
   obtain ⟨wc, hwc⟩ : ∃ W, W = wp := ⟨_, rfl⟩
   have hlc : w1.heap.size ≤ wc.heap.size := by rw [hwc]; exact hxp.size
   have hsb11 : b11 < wc.heap.size ∨ wS.heap.size ≤ b11 := .inl (by rw [hwc]; exact h11.lt)
   refine anyH_abs (fun W => Ext w1 W ∧ Blk_ W b11 121 #[.int .i64 0, .int .i64 0] ∧ Keep wc wS W) ⟨hxp.trans hxS, h11.ext hxS, ⟨Nat.le_refl _, fun _ _ _ => rfl⟩⟩ ?_
   clear hxp hxS hwc h11
   rintro wp ⟨hxp, h11, hkp⟩
   have hS1 : (fun W' => W'.cell? ⟨gs, 0, none⟩ = some (.slice A 3 c) ∧ W'.cell? ⟨gs, 1, none⟩ = some (.int .i64 (nx0 : Int)) ∧ W'.cell? ⟨gs, 2, none⟩ = some (.int .i64 (rd0 : Int)) ∧ W'.cell? ⟨b3, 4, none⟩ = some (.int .i64 n)) wp := ⟨(hxp).cell fgs0, (hxp).cell fgs1, (hxp).cell fgs2, (hxp).cell fb34⟩
   refine tkL 11 rfl (fun w' hS => by obtain ⟨hS, hS2', hS3', hS4'⟩ := hS; go_simp; rfl) hS1 ?_
   refine tkL 12 rfl (fun w' hS => by obtain ⟨hS, hS2', hS3', hS4'⟩ := hS; go_simp; rfl) hS1 ?_
   refine tkL 13 rfl (fun w' hS => by obtain ⟨hS, hS2', hS3', hS4'⟩ := hS; go_simp; rfl) hS1 ?_
   try simp only [Act.put, List.setIfInBounds_toArray, List.set_cons_zero, List.set_cons_succ]
   refine tkL 14 rfl (fun w' hS => by obtain ⟨hS, hS2', hS3', hS4'⟩ := hS; go_simp; rfl) hS1 ?_
   refine tkL 15 rfl (fun w' hS => by obtain ⟨hS, hS2', hS3', hS4'⟩ := hS; go_simp; rfl) hS1 ?_
   refine tkL 16 rfl (fun w' hS => by obtain ⟨hS, hS2', hS3', hS4'⟩ := hS; go_simp; rfl) hS1 ?_
   try simp only [Act.put, List.setIfInBounds_toArray, List.set_cons_zero, List.set_cons_succ]
   clear hS1
   refine wpAnyH_oneL (i := 17) rfl (by kernel_rfl) rfl (fun K hK => ?_)
   go_wp2_with fail
   refine hK _ _ ⟨(hxp.alloc _).cell fgs0, (hxp.alloc _).cell fgs1, (hxp.alloc _).cell fgs2, (hxp.alloc _).cell fb34⟩ ?_
   clear hK K
   try simp only [Act.put, List.setIfInBounds_toArray, List.set_cons_zero, List.set_cons_succ]
   obtain ⟨b10, hbb10⟩ : ∃ b, b = wp.heap.size := ⟨_, rfl⟩
   rw [← hbb10]
   have hlb10 : w1.heap.size ≤ b10 := by rw [hbb10]; exact hxp.size
   have hsb10 : b10 < wc.heap.size ∨ wS.heap.size ≤ b10 := .inr (by rw [hbb10]; exact hkp.1)
   have hnb : b10 ≠ b11 := by have := h11.lt; omega
   refine anyH_abs (fun W => Ext w1 W ∧ Blk_ W b11 121 #[.int .i64 0, .int .i64 0] ∧ Keep wc wS W ∧ Blk_ W b10 30 #[.slice none 0 0]) ⟨hxp.alloc _, h11.alloc _, hkp.up ((Ext.refl _).alloc _), by rw [hbb10]; exact Blk_.new _ _ _⟩ ?_
   clear hxp hbb10 h11 hkp
   rintro wp ⟨hxp, h11, hkp, h10⟩
  rotate_left
  focus
   go_wp2_with fail
   refine hK _ _ ⟨(hxp.alloc _).cell fgs0, (hxp.alloc _).cell fgs1, (hxp.alloc _).cell fgs2, (hxp.alloc _).cell fb34⟩ ?_
   clear hK K
   try simp only [Act.put, List.setIfInBounds_toArray, List.set_cons_zero, List.set_cons_succ]
   obtain ⟨b10, hbb10⟩ : ∃ b, b = wp.heap.size := ⟨_, rfl⟩
   rw [← hbb10]
   have hlb10 : w1.heap.size ≤ b10 := by rw [hbb10]; exact hxp.size
   have hnb : b10 ≠ b11 := by have := h11.lt; omega
   refine anyH_abs (fun W => Ext w1 W ∧ Blk_ W b11 121 #[.int .i64 0, .int .i64 0] ∧ Blk_ W b10 30 #[.slice none 0 0]) ⟨hxp.alloc _, h11.alloc _, by rw [hbb10]; exact Blk_.new _ _ _⟩ ?_
   clear hxp hbb10 h11
   rintro wp ⟨hxp, h11, h10⟩
   refine wpAnyH_oneL (i := 10) rfl (by kernel_rfl) rfl (fun K hK => ?_)
   go_wp2_with fail
   refine (stepRange_any [.slice A 3 c] a m nx0 rd0 n all wp (HR1.out.up hxp) HP.out HM.out.1 HM.out.2.1 HM.out.2.2.1 HM.out.2.2.2.1 HM.out.2.2.2.2.1 HM.out.2.2.2.2.2).mono ?_
   rintro e wS ⟨rfl, hxS⟩
   refine hK _ _ ⟨(hxp.trans hxS).cell fgs0, (hxp.trans hxS).cell fgs1, (hxp.trans hxS).cell fgs2, (hxp.trans hxS).cell fb34⟩ ?_
   clear hK K
   try simp only [Act.put, List.setIfInBounds_toArray, List.set_cons_zero, List.set_cons_succ]
   obtain ⟨wc, hwc⟩ : ∃ W, W = wp := ⟨_, rfl⟩
   have hlc : w1.heap.size ≤ wc.heap.size := by rw [hwc]; exact hxp.size
   have hsb11 : b11 < wc.heap.size ∨ wS.heap.size ≤ b11 := .inl (by rw [hwc]; exact h11.lt)
   have hsb10 : b10 < wc.heap.size ∨ wS.heap.size ≤ b10 := .inl (by rw [hwc]; exact h10.lt)
   refine anyH_abs (fun W => Ext w1 W ∧ Blk_ W b11 121 #[.int .i64 0, .int .i64 0] ∧ Blk_ W b10 30 #[.slice none 0 0] ∧ Keep wc wS W) ⟨hxp.trans hxS, h11.ext hxS, h10.ext hxS, ⟨Nat.le_refl _, fun _ _ _ => rfl⟩⟩ ?_
   clear hxp hxS hwc h11 h10
   rintro wp ⟨hxp, h11, h10, hkp⟩
   have hS1 : (fun W' => W'.cell? ⟨gs, 0, none⟩ = some (.slice A 3 c) ∧ W'.cell? ⟨gs, 1, none⟩ = some (.int .i64 (nx0 : Int)) ∧ W'.cell? ⟨gs, 2, none⟩ = some (.int .i64 (rd0 : Int)) ∧ W'.cell? ⟨b3, 4, none⟩ = some (.int .i64 n)) wp := ⟨(hxp).cell fgs0, (hxp).cell fgs1, (hxp).cell fgs2, (hxp).cell fb34⟩
   refine tkL 11 rfl (fun w' hS => by obtain ⟨hS, hS2', hS3', hS4'⟩ := hS; go_simp; rfl) hS1 ?_
   refine tkL 12 rfl (fun w' hS => by obtain ⟨hS, hS2', hS3', hS4'⟩ := hS; go_simp; rfl) hS1 ?_
   refine tkL 13 rfl (fun w' hS => by obtain ⟨hS, hS2', hS3', hS4'⟩ := hS; go_simp; rfl) hS1 ?_
   try simp only [Act.put, List.setIfInBounds_toArray, List.set_cons_zero, List.set_cons_succ]
   refine tkL 14 rfl (fun w' hS => by obtain ⟨hS, hS2', hS3', hS4'⟩ := hS; go_simp; rfl) hS1 ?_
   refine tkL 15 rfl (fun w' hS => by obtain ⟨hS, hS2', hS3', hS4'⟩ := hS; go_simp; rfl) hS1 ?_
   refine tkL 16 rfl (fun w' hS => by obtain ⟨hS, hS2', hS3', hS4'⟩ := hS; go_simp; rfl) hS1 ?_
   try simp only [Act.put, List.setIfInBounds_toArray, List.set_cons_zero, List.set_cons_succ]
   clear hS1
  rotate_left
 rotate_left 2
 all_goals
  have f10 := h10.cell 0
  have z10 := h10.frozen 0
  have l10 := h10.lt
  simp at f10
  refine wpAnyH_oneL (i := 19) rfl (by kernel_rfl) rfl (fun K hK => ?_)
  go_wp2_with fail
  have hxq := hxp.setCell (p := ⟨b10, 0, none⟩) hlb10 (.slice none 0 0)
  refine hK _ _ ⟨(hxq).cell fgs0, (hxq).cell fgs1, (hxq).cell fgs2, (hxq).cell fb34⟩ ?_
  clear hK K
  try simp only [Act.put, List.setIfInBounds_toArray, List.set_cons_zero, List.set_cons_succ]
  refine anyH_abs (fun W => Ext w1 W ∧ Keep wc wS W ∧ Blk_ W b10 30 #[.slice none 0 0] ∧ Blk_ W b11 121 #[.int .i64 0, .int .i64 0]) ⟨hxq, hkp.off (p := ⟨b10, 0, none⟩) hsb10 _, h10.set 0 _, h11.far (p := ⟨b10, 0, none⟩) (fun e => hnb (by simpa using e.symm)) _⟩ ?_
  clear hxp hkp h10 h11 hxq f10 z10 l10
  rintro wq ⟨hxp, hkp, h10, h11⟩
  have f11 := h11.cell 0
  have f11' := h11.cell 1
  have z11 := h11.frozen 0
  have z11' := h11.frozen 1
  have l11 := h11.lt
  simp at f11 f11'
  refine wpAnyH_oneL (i := 20) rfl (by kernel_rfl) rfl (fun K hK => ?_)
  go_wp2_with fail
  have hxq := (hxp.setCell (p := ⟨b11, 0, none⟩) hlb11 (.int .i64 0)).setCell (p := ⟨b11, 1, none⟩) hlb11 (.int .i64 0)
  refine hK _ _ ⟨(hxq).cell fgs0, (hxq).cell fgs1, (hxq).cell fgs2, (hxq).cell fb34⟩ ?_
  clear hK K
  try simp only [Act.put, List.setIfInBounds_toArray, List.set_cons_zero, List.set_cons_succ]
  refine anyH_abs (fun W => Ext w1 W ∧ Keep wc wS W ∧ Blk_ W b10 30 #[.slice none 0 0] ∧ Blk_ W b11 121 #[.int .i64 0, .int .i64 0]) ⟨hxq, (hkp.off (p := ⟨b11, 0, none⟩) hsb11 _).off (p := ⟨b11, 1, none⟩) hsb11 _, (h10.far (p := ⟨b11, 0, none⟩) hnb _).far (p := ⟨b11, 1, none⟩) hnb _, (h11.set 0 _).set 1 _⟩ ?_
  clear hxp hkp h10 h11 hxq f11 f11' z11 z11' l11
  rintro wr ⟨hxp, hkp, h10, h11⟩
  have hS2 : (fun W' => W'.cell? ⟨gs, 0, none⟩ = some (.slice A 3 c) ∧ W'.cell? ⟨gs, 1, none⟩ = some (.int .i64 (nx0 : Int)) ∧ W'.cell? ⟨gs, 2, none⟩ = some (.int .i64 (rd0 : Int)) ∧ W'.cell? ⟨b3, 4, none⟩ = some (.int .i64 n)) wr := ⟨(hxp).cell fgs0, (hxp).cell fgs1, (hxp).cell fgs2, (hxp).cell fb34⟩
  refine tkL 21 rfl (fun w' hS => by obtain ⟨hS, hS2', hS3', hS4'⟩ := hS; go_simp; rfl) hS2 ?_
  refine tkL 22 rfl (fun w' hS => by obtain ⟨hS, hS2', hS3', hS4'⟩ := hS; go_simp; rfl) hS2 ?_
  refine tkL 23 rfl (fun w' hS => by obtain ⟨hS, hS2', hS3', hS4'⟩ := hS; go_simp; rfl) hS2 ?_
  try simp only [Act.put, List.setIfInBounds_toArray, List.set_cons_zero, List.set_cons_succ]
  clear hS2
  refine wpAnyH_done (by kernel_rfl) ?_ _
  have H10 := Lib.hid h10
  have H11 := Lib.hid h11
  have HKP := Lib.hid hkp
  have HXP := Lib.hid hxp
  have q10 := h10.cell 0
  have q11 := h11.cell 0
  have q12 := h11.cell 1
  have y10 := h10.frozen 0
  have y11 := h11.frozen 0
  have y12 := h11.frozen 1
  have g0 := (HB1.out.ext hxp).cell 0
  have g1 := (HB1.out.ext hxp).cell 1
  have g2 := (HB1.out.ext hxp).cell 2
  have m0 := (HB1.out.ext hxp).frozen 0
  have m1 := (HB1.out.ext hxp).frozen 1
  have m2 := (HB1.out.ext hxp).frozen 2
  simp at q10 q11 q12 g0 g1 g2
  have gl := (HB1.out.ext hxp).lt
  have u40 := (B4.out.ext hxp).cell 0
  have u50 := (B5.out.ext hxp).cell 0
  have v40 := (B4.out.ext hxp).frozen 0
  have v50 := (B5.out.ext hxp).frozen 0
  have u41 := (B4.out.ext hxp).cell 1
  have u51 := (B5.out.ext hxp).cell 1
  have v41 := (B4.out.ext hxp).frozen 1
  have v51 := (B5.out.ext hxp).frozen 1
  have u42 := (B4.out.ext hxp).cell 2
  have u52 := (B5.out.ext hxp).cell 2
  have v42 := (B4.out.ext hxp).frozen 2
  have v52 := (B5.out.ext hxp).frozen 2
  have u43 := (B4.out.ext hxp).cell 3
  have u53 := (B5.out.ext hxp).cell 3
  have v43 := (B4.out.ext hxp).frozen 3
  have v53 := (B5.out.ext hxp).frozen 3
  have u44 := (B4.out.ext hxp).cell 4
  have u54 := (B5.out.ext hxp).cell 4
  have v44 := (B4.out.ext hxp).frozen 4
  have v54 := (B5.out.ext hxp).frozen 4
  simp at u40 u50 u41 u51 u42 u52 u43 u53 u44 u54
  have hl4 := (B4.out.ext hxp).lt
  have hl5 := (B5.out.ext hxp).lt
  clear hxp hkp h10 h11
  clear fgs0 fgs1 fgs2 fb34 hS0
  have hne104 : ¬ (b10 = b4) := by have := B4.out.lt; omega
  have hne114 : ¬ (b11 = b4) := by have := B4.out.lt; omega
  have hne105 : ¬ (b10 = b5) := by have := B5.out.lt; omega
  have hne115 : ¬ (b11 = b5) := by have := B5.out.lt; omega
  have hne10g : ¬ (b10 = gs) := by have := HB1.out.lt; omega
  have hne11g : ¬ (b11 = gs) := by have := HB1.out.lt; omega
  have hneg10 : ¬ (gs = b10) := fun e => hne10g e.symm
  have hneg11 : ¬ (gs = b11) := fun e => hne11g e.symm
  have hne510 : ¬ (b5 = b10) := fun e => hne105 e.symm
  have hne511 : ¬ (b5 = b11) := fun e => hne115 e.symm
  go_wp2_with fail
  refine bodyPost_ret (res_cell (g := b4) (cs := #[.int .i64 2, .string .empty, .slice none 0 0, .int .i64 0, .slice none 0 0]) rfl rfl (by exact (((((((B4.out.ext HXP.out).far (p := ⟨b5, 0, none⟩) hne45 (.int .i64 2)).set 0 (.int .i64 2)).set 1 (.string .empty)).set 2 (.slice none 0 0)).set 3 (.int .i64 0)).set 4 (.slice none 0 0))) Tryz.underlying46 rfl (by kernel_rfl)) rfl ?_
  exact ⟨rfl, (((((((HX1.out.trans HXP.out).setCell (p := ⟨b5, 0, none⟩) (by have := HE.out; simp only; omega) (.int .i64 2)).setCell (p := ⟨b4, 0, none⟩) (by have := HE.out; simp only; omega) (.int .i64 2)).setCell (p := ⟨b4, 1, none⟩) (by have := HE.out; simp only; omega) (.string .empty)).setCell (p := ⟨b4, 2, none⟩) (by have := HE.out; simp only; omega) (.slice none 0 0)).setCell (p := ⟨b4, 3, none⟩) (by have := HE.out; simp only; omega) (.int .i64 0)).setCell (p := ⟨b4, 4, none⟩) (by have := HE.out; simp only; omega) (.slice none 0 0))⟩
def fname (n : Nat) : ByteArray := ⟨#[102, (48 + n).toUInt8]⟩
theorem itoa_dig (n : Nat) (h : n < 10) : Lib.itoa (n : Int) = [(48 + n).toUInt8] := by
 rw [Lib.itoa_nonneg]
 have hc : n = 0 ∨ n = 1 ∨ n = 2 ∨ n = 3 ∨ n = 4 ∨ n = 5 ∨ n = 6 ∨ n = 7 ∨ n = 8 ∨ n = 9 := by omega
 rcases hc with rfl | rfl | rfl | rfl | rfl | rfl | rfl | rfl | rfl | rfl <;> (unfold Lib.decDigits; rfl)
theorem dig_any (n : Nat) (w : World) (h : n < 10) (ht : Tab w) :
  Calls Tryz.prog 43 #[.int .i64 (n : Int)] w fun e w' => e = .returned (.string ⟨#[(48 + n).toUInt8]⟩) ∧ Ext w w' := by
 refine (Tryz.strconv_Itoa (n : Int) (by omega) (by omega) w ht).mono ?_
 rintro e w' ⟨rfl, k, os, rfl⟩
 refine ⟨by rw [itoa_dig n h], rfl, rfl, rfl, ?_, fun b hb => ?_⟩
 ·show w.heap.size ≤ (w.heap ++ os).size
  rw [Array.size_append]; omega
 ·show (w.heap ++ os)[b]? = w.heap[b]?
  exact Array.getElem?_append_left hb
def FilesOk (first : Nat) (L : List Fil) : Prop := ∀ k (h : k < L.length), L[k].name = fname (first + k) ∧ L[k].data.size ≤ 200
theorem FilesOk.snoc {first : Nat} {L : List Fil} (h : FilesOk first L) {x : Fil} (hn : x.name = fname (first + L.length)) (hd : x.data.size ≤ 200) : FilesOk first (L ++ [x]) := by
 intro k hk
 rw [List.length_append, List.length_singleton] at hk
 by_cases hl : k < L.length
 ·rw [List.getElem_append_left hl]; exact h k hl
 ·obtain rfl : k = L.length := by omega
  rw [List.getElem_append_right (Nat.le_refl _)]
  simpa using ⟨hn, hd⟩
theorem info_file : (Tryz.prog.info? 57).map (fun i => (i.zero, i.size, i.bytes)) = some (some (.agg #[.string .empty, .string .empty]), 2, 32) := by kernel_rfl
theorem files_any (v : Value) (l : List Raw4) (first most : Nat) (w : World) (h : SlR 4 32 RRaw w v l) (hfm : first + most ≤ 10) (ht : Tab w) :
  Calls Tryz.prog 22 #[v, .int .i64 (first : Int), .int .i64 (most : Int)] w fun e w' => ∃ A c L, e = .returned (.slice A L.length c) ∧ Ext w w' ∧ w'.ownsRow w.heap.size 57 2 (.slice A L.length c) L.length (L.flatMap encFil) ∧ L.length = min most l.length ∧ FilesOk first L := by
 have hmem := h.mem encRw_ok w
 obtain ⟨A0, c0, rfl, hlb, hlc, p0⟩ := h.rowE encRw_ok
 have HMM := Lib.hid hmem
 have HP := Lib.hid p0
 have HFM := Lib.hid hfm
 have HTAB := Lib.hid ht
 obtain ⟨i1, hi0, hz0, hz1, hz2⟩ := info_parts info_file
 have HIE := Lib.hid (And.intro hi0 (And.intro hz0 (And.intro hz1 hz2)))
 have hll : (l.length : Int) ≤ 140737488355328 := by omega
 have hmoI : (most : Int) ≤ 10 := by omega
 have hfiI : (first : Int) ≤ 10 := by omega
 clear h hmem p0 hlb hlc hi0 hz0 hz1 hz2 hfm ht
 go_enter Tryz.func22, Tryz.ntmps22
 go_wp2_with fail
 go_loopw [7, 8] (fun pv kv wr => ∃ (i : Nat) (A : Option Addr) (c : Nat) (L : List Fil), pv = .slice A L.length c ∧ kv = .int .i64 i ∧ i ≤ l.length ∧ i ≤ most ∧ L.length = i ∧ Ext w wr ∧ wr.ownsRow w.heap.size 57 2 (.slice A L.length c) L.length (L.flatMap encFil) ∧ FilesOk first L) (fun _ kv _ => most - (intOf kv).toNat)
 case atStart => exact ⟨0, none, 0, [], rfl, rfl, by omega, by omega, rfl, Ext.refl _, World.ownsRow_nil _ _ _ _, fun k hk => absurd hk (by simp)⟩
 case round =>
  obtain ⟨i, A, c, L, rfl, rfl, hil, him, hLi, hx, hown, hok⟩ := hrel
  have HX := Lib.hid hx
  have HOWN := Lib.hid hown
  have HOK := Lib.hid hok
  clear hx hown hok
  by_cases hlt : i < l.length
  ·by_cases h30 : i < most
   ·have hltI : (i : Int) < (l.length : Int) := by omega
    have h30I : (i : Int) < (most : Int) := by omega
    have HLL := Lib.hid (show L.length = i ∧ i < most ∧ most ≤ 10 ∧ i < l.length from ⟨hLi, h30, by have := HFM.out; omega, hlt⟩)
    have HFI := Lib.hid (show first + i < 10 by have := HFM.out; omega)
    obtain ⟨b, o, rfl, hcell⟩ := HP.out i hlt
    obtain ⟨r, hr⟩ : ∃ r, r = l[i] := ⟨_, rfl⟩
    have hI := (HMM.out _ (List.getElem_mem hlt)).2
    rw [← hr] at hI
    have hcl : ∀ (j : Nat) (u : Value), (encRw r)[j]? = some u → w.cell? ⟨b, o + i * 4 + j, none⟩ = some u := fun j u hu => by rw [hr] at hu; exact hcell i hlt j u hu
    have HC := Lib.hid hcl
    have HI := Lib.hid hI
    obtain ⟨ro, hro⟩ : ∃ ro, ro = (Value.slice A L.length c).ownBlock := ⟨_, rfl⟩
    have HRO := Lib.hid hro
    obtain ⟨N0, hN0⟩ : ∃ N, N = wr.heap.size := ⟨_, rfl⟩
    have HN0 := Lib.hid hN0
    have HRB := Lib.hid (show ∀ q, ro = some q → w.heap.size ≤ q from fun q hq => (HOWN.out.lt q (hro.symm.trans hq)).1)
    have HRL := Lib.hid (show ∀ q, ro = some q → q < N0 from fun q hq => by rw [hN0]; exact (HOWN.out.lt q (hro.symm.trans hq)).2)
    clear hcell hcl hr hI hlt h30 hil him hLi hro hN0
    go_wp2_with fail
    refine wp_region_valsA 13 ro (F := ?_) ?_ [(fun (v : Value) (_ : World) => v = .slice A L.length c), (fun (v : Value) (_ : World) => v = .int .i64 (first : Int)), (fun (v : Value) (_ : World) => v = .int .i64 (i : Int)), (fun (v : Value) (_ : World) => v = .int .i64 ((first + i : Nat) : Int)), (fun (v : Value) (_ : World) => v = .string ⟨#[(48 + (first + i)).toUInt8]⟩), (fun (v : Value) (_ : World) => v = .string (fname (first + i))), (fun (v : Value) (_ : World) => v = .slice (some ⟨b, o, none⟩) l.length c0), (fun (v : Value) (_ : World) => v = .int .i64 (i : Int)), (fun (v : Value) (_ : World) => v = .pointer (some ⟨b, o + i * 4, none⟩)), (fun (v : Value) (_ : World) => v = .agg #[.int .i64 r.kind, .int .i64 r.a, .int .i64 r.b, .int .i64 r.c]), (fun v _ => ∃ s : ByteArray, v = .string s ∧ s.size ≤ 200), (fun v _ => ∃ s : ByteArray, v = .agg #[.string (fname (first + i)), .string s] ∧ s.size ≤ 200), (fun v u => ∃ g, ∃ s : ByteArray, v = .slice (some ⟨g, 0, none⟩) 1 1 ∧ Blk_ u g 57 #[.string (fname (first + i)), .string s] ∧ N0 ≤ g ∧ s.size ≤ 200), (fun v u => ∃ A' c', ∃ s : ByteArray, v = .slice A' (L.length + 1) c' ∧ u.ownsRow w.heap.size 57 2 (.slice A' (L.length + 1) c') (L.length + 1) (L.flatMap encFil ++ [.string (fname (first + i)), .string s]) ∧ s.size ≤ 200)] (by kernel_rfl) rfl (by kernel_rfl) rfl (by kernel_rfl) ?_ ?_ ?_
    rotate_left
    ·intro vals
     simp only [putAll, List.dropLast, Act.put, List.setIfInBounds_toArray, List.set_cons_zero, List.set_cons_succ, Nat.zero_add, Nat.reduceAdd]
     rfl
    ·intro j p hp v u u' h hr
     match j, hp with
     | 0, hp => obtain rfl := Option.some.inj hp; exact h
     | 1, hp => obtain rfl := Option.some.inj hp; exact h
     | 2, hp => obtain rfl := Option.some.inj hp; exact h
     | 3, hp => obtain rfl := Option.some.inj hp; exact h
     | 4, hp => obtain rfl := Option.some.inj hp; exact h
     | 5, hp => obtain rfl := Option.some.inj hp; exact h
     | 6, hp => obtain rfl := Option.some.inj hp; exact h
     | 7, hp => obtain rfl := Option.some.inj hp; exact h
     | 8, hp => obtain rfl := Option.some.inj hp; exact h
     | 9, hp => obtain rfl := Option.some.inj hp; exact h
     | 10, hp => obtain rfl := Option.some.inj hp; rw [if_neg (by decide)] at hr; exact h
     | 11, hp => obtain rfl := Option.some.inj hp; rw [if_neg (by decide)] at hr; exact h
     | 12, hp => obtain rfl := Option.some.inj hp; rw [if_neg (by decide)] at hr; exact (by obtain ⟨g, s, hg, hb, hn, hz⟩ := h; exact ⟨g, s, hg, hb.grown hr (fun q hq => by have := HRL.out q hq; omega), hn, hz⟩)
     | 13, hp => obtain rfl := Option.some.inj hp; rw [if_pos rfl] at hr; exact (by obtain ⟨A', c', s, hv, ho, hz⟩ := h; exact ⟨A', c', s, hv, own_ext ho hr, hz⟩)
     | n + 14, hp => exact absurd hp (by simp)
    ·refine ⟨?_, ?_, ?_, ?_, ?_, ?_, ?_, ?_, ?_, ?_, ?_, ?_, ?_, ?_, trivial⟩
     ·intro vals W' e hd ho K hK
      have hx : World.grownBy _ W' ro := e
      exact st_q hK (by go_simp; rfl)
     ·intro vals W' e hd ho K hK
      have hx : World.grownBy _ W' ro := e
      exact st_q hK (by go_simp; rfl)
     ·intro vals W' e hd ho K hK
      have hx : World.grownBy _ W' ro := e
      exact st_q hK (by go_simp; rfl)
     ·intro vals W' e hd ho K hK
      have h1 : vals 1 = .int .i64 (first : Int) := hd 1 (by kernel_rfl)
      have h2 : vals 2 = .int .i64 (i : Int) := hd 2 (by kernel_rfl)
      have hx : World.grownBy _ W' ro := e
      exact st_q hK (by go_simp; rfl)
     ·intro vals W' e hd ho K hK
      have h3 : vals 3 = .int .i64 ((first + i : Nat) : Int) := hd 3 (by kernel_rfl)
      have hx : World.grownBy _ W' ro := e
      go_wp2_with fail
      refine (dig_any (first + i) _ HFI.out (HTAB.out.ext (HX.out.drew.grown hx (fun q hq => HRB.out q hq)))).mono ?_
      rintro e' u' ⟨rfl, hx'⟩
      exact hK _ _ _ (by first | rfl | (simp only [h3]; rfl)) rfl hx'
     ·intro vals W' e hd ho K hK
      have h4 : vals 4 = .string ⟨#[(48 + (first + i)).toUInt8]⟩ := hd 4 (by kernel_rfl)
      have hx : World.grownBy _ W' ro := e
      refine st_concat _ _ _ _ (⟨#[102]⟩) (⟨#[(48 + (first + i)).toUInt8]⟩) rfl rfl h4 (by show (1 : Nat) + 1 ≤ _; decide) ?_
      exact hK _ _ _ rfl rfl (Ext.refl _)
     ·intro vals W' e hd ho K hK
      have hx : World.grownBy _ W' ro := e
      exact st_q hK (by go_simp; rfl)
     ·intro vals W' e hd ho K hK
      have hx : World.grownBy _ W' ro := e
      exact st_q hK (by go_simp; rfl)
     ·intro vals W' e hd ho K hK
      have h6 : vals 6 = .slice (some ⟨b, o, none⟩) l.length c0 := hd 6 (by kernel_rfl)
      have h7 : vals 7 = .int .i64 (i : Int) := hd 7 (by kernel_rfl)
      have hx : World.grownBy _ W' ro := e
      exact st_q hK (by go_simp; rfl)
     ·intro vals W' e hd ho K hK
      have h8 : vals 8 = .pointer (some ⟨b, o + i * 4, none⟩) := hd 8 (by kernel_rfl)
      have hx : World.grownBy _ W' ro := e
      have cc := fun (j : Nat) (u : Value) (h : (encRw r)[j]? = some u) => (HX.out.drew.grown hx (fun q hq => HRB.out q hq)).cell (HC.out j u h)
      have q0 := cc 0 _ rfl
      have q1 := cc 1 _ rfl
      have q2 := cc 2 _ rfl
      have q3 := cc 3 _ rfl
      simp only [Nat.add_zero] at q0
      refine st_quiet (v := ?_) ?_ ?_
      rotate_left
      ·go_simp
       rfl
      exact hK _ _ _ rfl rfl (Ext.refl _)
     ·intro vals W' e hd ho K hK
      have h9 : vals 9 = .agg #[.int .i64 r.kind, .int .i64 r.a, .int .i64 r.b, .int .i64 r.c] := hd 9 (by kernel_rfl)
      have hx : World.grownBy _ W' ro := e
      go_wp2_with fail
      refine (data_any r _ HI.out (HTAB.out.ext (HX.out.drew.grown hx (fun q hq => HRB.out q hq)))).mono ?_
      rintro e' u' ⟨s', rfl, hz', hx'⟩
      exact hK _ _ _ (by first | rfl | (simp only [h9]; rfl)) ⟨s', rfl, hz'⟩ hx'
     ·intro vals W' e hd ho K hK
      have h5 : vals 5 = .string (fname (first + i)) := hd 5 (by kernel_rfl)
      obtain ⟨s10, h10, z10⟩ := hd 10 (by kernel_rfl)
      have hx : World.grownBy _ W' ro := e
      refine st_quiet (v := ?_) ?_ ?_
      rotate_left
      ·go_simp
       rfl
      exact hK _ _ _ rfl ⟨s10, rfl, z10⟩ (Ext.refl _)
     ·intro vals W' e hd ho K hK
      obtain ⟨s11, h11, z11⟩ := hd 11 (by kernel_rfl)
      have hx : World.grownBy _ W' ro := e
      go_wp2_with fail
      exact hK _ _ _ (by first | rfl | (simp only [h11]; rfl)) ⟨W'.heap.size, s11, rfl, Blk_.new _ _ _, by have := hx.size; have := HN0.out; simp only [size_drew_] at *; omega, z11⟩ ((Ext.refl W').alloc _)
     ·intro vals W' e hd ho K hK
      have h0 : vals 0 = .slice A L.length c := hd 0 (by kernel_rfl)
      obtain ⟨g12, s12, h12, b12, n12, z12⟩ := hd 12 (by kernel_rfl)
      have hx : Ext _ W' := e
      refine wp_append_at W' (.tmp 20) (.tmp 32) 24 rfl w.heap.size 57 i1 (.agg #[.string .empty, .string .empty]) 2 32 Tryz.underlying24 HIE.out.1 HIE.out.2.1 HIE.out.2.2.1 HIE.out.2.2.2 rfl (by decide) (.slice A L.length c) L.length _ h0 (own_ext HOWN.out ((Ext.refl _).drew.trans hx)) ⟨g12, 0, none⟩ 1 1 [.string (fname (first + i)), .string s12] h12 rfl ?_ ?_ ?_ ?_ ?_ ?_
      ·intro j u hu
       rw [Addr.add_lit, Nat.zero_add, b12.cell]
       simpa using hu
      ·intro u hu
       simp only [List.mem_cons, List.not_mem_nil, or_false] at hu
       rcases hu with rfl | rfl <;> rfl
      ·have := HLL.out; unfold maxLen; omega
      ·have := HLL.out; omega
      ·have := hx.below.size
       have h5 := HX.out.size
       simp only [size_drew_] at *
       omega
      intro A' c' u' own hg _
      exact hK _ _ _ rfl ⟨A', c', s12, rfl, own, z12⟩ (by rw [← HRO.out] at hg; exact hg)
    intro vals W' e hall K hK
    obtain ⟨A', c', s, h13, own3, hz⟩ := hall 13 (by decide)
    rw [HRO.out] at e
    have HOWN3 := Lib.hid own3
    have HX3 := Lib.hid ((HX.out.drew).grown e (fun q hq => by have := HRB.out q (HRO.out.trans hq); omega))
    have HZ := Lib.hid hz
    clear hall e own3 hz
    go_wp2_with fail
    go_roundw
    case rel =>
     have hll := HLL.out
     refine ⟨i + 1, A', c', L ++ [⟨fname (first + i), s⟩], by rw [List.length_append]; exact h13, by first | rfl | go_num, by omega, by omega, by rw [List.length_append]; show L.length + 1 = i + 1; omega, HX3.out, ?_, HOK.out.snoc (by rw [hll.1]) HZ.out⟩
     rw [List.length_append, List.flatMap_append]
     exact HOWN3.out
    case measure => have := HLL.out; (simp [intOf]; try omega)
   ·have hltI : (i : Int) < (l.length : Int) := by omega
    have h9I : (most : Int) ≤ (i : Int) := by omega
    have HLN := Lib.hid (show L.length = min most l.length by omega)
    clear hlt h30 hil him hLi
    go_wp2_with fail
    go_ret
    exact ⟨A, c, L, rfl, HX.out, HOWN.out, HLN.out, HOK.out⟩
  ·have hltI : (l.length : Int) ≤ (i : Int) := by omega
   have HLN := Lib.hid (show L.length = min most l.length by omega)
   clear hlt hil him hLi
   go_wp2_with fail
   go_ret
   exact ⟨A, c, L, rfl, HX.out, HOWN.out, HLN.out, HOK.out⟩
theorem fname_less : ∀ i j : Fin 10, i.val < j.val → Op.bytesLess (lst (fname i.val)) (lst (fname j.val)) = true := by decide
theorem fname_ne : ∀ i j : Fin 10, i.val ≠ j.val → lst (fname i.val) ≠ lst (fname j.val) := by decide
theorem FilesOk.tail {first : Nat} {f : Fil} {L : List Fil} (h : FilesOk first (f :: L)) : f.name = fname first ∧ f.data.size ≤ 200 ∧ FilesOk (first + 1) L := by
 refine ⟨(h 0 (by simp)).1, (h 0 (by simp)).2, fun k hk => ?_⟩
 have := h (k + 1) (by simpa using hk)
 simp only [List.getElem_cons_succ] at this
 rw [show first + (k + 1) = first + 1 + k by omega] at this
 exact this
def Below_ (n : Nat) (es : List Ent) : Prop := ∀ y ∈ es, ∃ j, j < n ∧ y.name = fname j
theorem add_fresh {nb : Nat} : ∀ (L : List Fil) (first p : Nat) (es : List Ent), FilesOk first L → first + L.length ≤ 10 → Below_ first es →
  Up nb es p L ∧ addE nb es p L = some (es ++ newE nb p L) ∧ Below_ (first + L.length) (es ++ newE nb p L)
 | [], first, p, es, _, _, he => ⟨trivial, by simp [addE, newE], by simpa [newE] using he⟩
 | f :: l, first, p, es, hL, hn, he => by
  obtain ⟨e1, e2, hl⟩ := hL.tail
  rw [List.length_cons] at hn
  have hless : ∀ y ∈ es, Op.bytesLess (lst y.name) (lst f.name) = true := by
   intro y hy
   obtain ⟨j, hj, ej⟩ := he y hy
   rw [ej, e1]
   exact fname_less ⟨j, by omega⟩ ⟨first, by omega⟩ hj
  have hany : es.any (fun y => decide (lst y.name = lst f.name)) = false := by
   rw [List.any_eq_false]
   intro y hy
   obtain ⟨j, hj, ej⟩ := he y hy
   rw [ej, e1]
   have := fname_ne ⟨j, by omega⟩ ⟨first, by omega⟩ (by show j ≠ first; omega)
   simpa using this
  have hins : insE ⟨f.name, nb, p, f.data.size⟩ es = es ++ [⟨f.name, nb, p, f.data.size⟩] := by
   have := insE_split (x := (⟨f.name, nb, p, f.data.size⟩ : Ent)) es [] hless
   rw [List.append_nil] at this
   exact this
  have he' : Below_ (first + 1) (es ++ [⟨f.name, nb, p, f.data.size⟩]) := by
   intro y hy
   rcases List.mem_append.1 hy with hy | hy
   ·obtain ⟨j, hj, ej⟩ := he y hy; exact ⟨j, by omega, ej⟩
   ·obtain rfl := List.mem_singleton.1 hy; exact ⟨first, by omega, e1⟩
  obtain ⟨i1, i2, i3⟩ := add_fresh l (first + 1) (p + f.data.size) _ hl (by omega) he'
  refine ⟨.inr ⟨hless, i1⟩, ?_, ?_⟩
  ·unfold addE
   rw [hany, if_neg (by decide), hins, i2, newE_cons, List.append_assoc]
   rfl
  ·rw [newE_cons, List.length_cons, show first + (l.length + 1) = first + 1 + l.length by omega]
   rw [List.append_assoc] at i3
   exact i3
theorem newE_names (nb : Nat) : ∀ (p : Nat) (l : List Fil), (newE nb p l).map (·.name) = l.map (·.name)
 | _, [] => rfl
 | p, f :: l => by rw [newE_cons, List.map_cons, List.map_cons, newE_names nb]
theorem Full.ones {a : List Dev} {m : Nat} {all : List ByteArray} (h : Full a m all) (h64 : m ≤ 64) (k : Nat) : Ones a m k := by
 obtain ⟨r0, r1, r2⟩ := h.reads h64
 intro i p hi _ hp
 match i, hi with
 | 0, _ => show (readS (dv a 0) p p).2 = 0; rw [r0 p (by simpa using hp)]
 | 1, _ => show (readS (dv a 1) p p).2 = 0; rw [r1 p (by simpa using hp)]
 | 2, _ => show (readS (dv a 2) p (512 + p : Int)).2 = 0; rw [r2 p (by simpa using hp)]
def zero24 : ByteArray := bs (List.replicate 24 0)
theorem catFault_no : catFault noCat = 0 := by decide
theorem catText_no : catText noCat = bs (List.replicate 192 0) := by
 have e : (encCatS noCat).1 = bs [0, 0] := by unfold encCatS; rw [if_pos catFault_no]; rfl
 unfold catText
 rw [e]
 decide
theorem arch_new (m : Nat) (h8 : 8 ≤ m) (D : Nat → ByteArray) : Arch (List.replicate m zero24) m noCat D := by
 refine ⟨catFault_no, ?_, by show (8 : Int) ≤ m; omega, fun k hk => absurd hk (by simp [noCat]), fun x hx => absurd hx (by simp [noCat])⟩
 rw [catText_no]
 intro i hi
 have hi : i < 8 := by rw [size_bs, List.length_replicate] at hi; omega
 have e : pl (List.replicate m zero24) (0 + i) = zero24 := by
  unfold pl
  rw [List.getD_eq_getElem?_getD, List.getElem?_replicate, if_pos (by omega)]; rfl
 rw [e]
 have hc : i = 0 ∨ i = 1 ∨ i = 2 ∨ i = 3 ∨ i = 4 ∨ i = 5 ∨ i = 6 ∨ i = 7 := by omega
 rcases hc with rfl | rfl | rfl | rfl | rfl | rfl | rfl | rfl <;> decide
theorem fname_inj {i j : Nat} (hi : i < 10) (hj : j < 10) (h : lst (fname i) = lst (fname j)) : i = j := by
 by_cases e : i = j
 ·exact e
 ·exact absurd h (fname_ne ⟨i, hi⟩ ⟨j, hj⟩ e)
structure Told (all : List ByteArray) (m : Nat) (c : Cat) (D : Nat → ByteArray) (G : List Fil) (n : Nat) : Prop where
 arch : Arch all m c D
 names : c.entries.map (·.name) = G.map (·.name)
 data : ∀ f ∈ G, ∀ x ∈ c.entries, lst x.name = lst f.name → (D x.block.toNat).extract x.at_.toNat (x.at_ + x.bytes).toNat = f.data
 below : Below_ n c.entries
theorem told_new (m : Nat) (h8 : 8 ≤ m) : Told (List.replicate m zero24) m noCat (fun _ => .empty) [] 0 :=
 ⟨arch_new m h8 _, rfl, fun f hf => absurd hf (by simp), fun y hy => absurd hy (by simp [noCat])⟩
theorem Told.low {all : List ByteArray} {m : Nat} {c : Cat} {D : Nat → ByteArray} {G : List Fil} {n : Nat} (h : Told all m c D G n) : ∀ f ∈ G, ∃ j, j < n ∧ f.name = fname j := by
 intro f hf
 have : f.name ∈ c.entries.map (·.name) := by rw [h.names]; exact List.mem_map_of_mem hf
 obtain ⟨x, hx, e⟩ := List.mem_map.1 this
 obtain ⟨j, hj, ej⟩ := h.below x hx
 exact ⟨j, hj, by rw [← e]; exact ej⟩
theorem Told.more {all : List ByteArray} {m : Nat} {c : Cat} {D : Nat → ByteArray} {G : List Fil} {n n' : Nat} (h : Told all m c D G n) (hn : n ≤ n') : Told all m c D G n' :=
 ⟨h.arch, h.names, h.data, fun y hy => by obtain ⟨j, hj, e⟩ := h.below y hy; exact ⟨j, by omega, e⟩⟩
theorem Told.add {a : List Dev} {m k0 : Nat} {all : List ByteArray} {c : Cat} {D : Nat → ByteArray} {G : List Fil} {n : Nat} (ht : Told all m c D G n) (h : Part a m all) (ho : Ones a m k0) (h16 : 16 ≤ m) (h64 : m ≤ 64) (h2 : m % 2 = 0) {L : List Fil} (hL : FilesOk n L) (hn : n + L.length ≤ 10) (hc : (addS a L).2 = 0) :
  Part (addS a L).1 m (addG a all L) ∧ Ones (addS a L).1 m k0 ∧ Told (addG a all L) m (addCat c (c.entries ++ newE c.blocks.length 0 L) (packS (dataS L)).1) (addD c.blocks.length D L) (G ++ L) (n + L.length) := by
 obtain ⟨es, he, hf, hp, hon, ha⟩ := ht.arch.add h ho h16 h64 h2 hc
 obtain ⟨_, h2', h3⟩ := add_fresh (nb := c.blocks.length) L n 0 c.entries hL hn ht.below
 rw [h2'] at he
 obtain rfl := Option.some.inj he
 refine ⟨hp, hon, ha, ?_, ?_, h3⟩
 ·show (c.entries ++ newE c.blocks.length 0 L).map (·.name) = _
  rw [List.map_append, List.map_append, newE_names, ht.names]
 ·intro f hf' x hx hname
  have hx : x ∈ c.entries ++ newE c.blocks.length 0 L := hx
  obtain ⟨_, _, _, f4⟩ := catFault_ok ht.arch.ok
  rcases List.mem_append.1 hx with hx | hx
  ·rcases List.mem_append.1 hf' with hf' | hf'
   ·have hb := entBad_false (entsF_ok _ _ _ f4 x hx)
    have e : addD c.blocks.length D L x.block.toNat = D x.block.toNat := by unfold addD; rw [if_neg (by omega)]
    rw [e]
    exact ht.data f hf' x hx hname
   ·exfalso
    obtain ⟨i, hi, rfl⟩ := List.getElem_of_mem hf'
    obtain ⟨j, hj, ej⟩ := ht.below x hx
    rw [ej, (hL i hi).1] at hname
    have := fname_inj (by omega) (by omega) hname
    omega
  ·obtain ⟨g, hg, e1, e2, e3, q, e4, e5, e6⟩ := newE_data L 0 x hx
   rcases List.mem_append.1 hf' with hf' | hf'
   ·exfalso
    obtain ⟨i, hi, rfl⟩ := List.getElem_of_mem hg
    obtain ⟨j, hj, ej⟩ := ht.low f hf'
    rw [e1, ej, (hL i hi).1] at hname
    have := fname_inj (by omega) (by omega) hname
    omega
   ·obtain ⟨i, hi, rfl⟩ := List.getElem_of_mem hg
    obtain ⟨j, hj, rfl⟩ := List.getElem_of_mem hf'
    rw [e1, (hL i hi).1, (hL j hj).1] at hname
    have hij := fname_inj (by omega) (by omega) hname
    obtain rfl : i = j := by omega
    have ed : addD c.blocks.length D L x.block.toNat = dataS L := by unfold addD; rw [if_pos (by rw [e2]; simp)]
    rw [ed, e4, e3]
    have t1 : ((0 + q : Nat) : Int).toNat = q := by omega
    have t2 : (((0 + q : Nat) : Int) + (L[i].data.size : Int)).toNat = q + L[i].data.size := by omega
    rw [t1, t2]
    have e7 := take_drop (dataS L) q L[i].data.size
    rw [show lst (dataS L) = L.flatMap (fun g => lst g.data) from lst_bs _, e6] at e7
    rw [← bs_lst ((dataS L).extract q (q + L[i].data.size)), ← e7, bs_lst]
theorem new_arr {m : Nat} (h16 : 16 ≤ m) (h64 : m ≤ 64) (h2 : m % 2 = 0) : newArrS (m : Int) = ([freshDev m 0, freshDev m 0, freshDev (m / 2) 512], 0) := by
 unfold newArrS
 have h1 : (inB (m : Int) 16 64 && decide ((m : Int) % 2 = 0)) = true := by
  unfold inB
  simp only [Bool.and_eq_true, decide_eq_true_eq]
  omega
 rw [if_pos h1, Int.toNat_natCast, show ((m : Int) / 2).toNat = m / 2 by omega]
theorem tab_of_laid5 {W : World} (h : laidMetH Tryz.prog [("math/bits.deBruijn32tab", Rows.laid_math_bits_deBruijn32tab), ("math/bits.deBruijn64tab", Rows.laid_math_bits_deBruijn64tab), ("internal/strconv.uint64pow10", Rows.laid_internal_strconv_uint64pow10), ("unicode/utf8.acceptRanges", Rows.laid_unicode_utf8_acceptRanges), ("unicode/utf8.first", Rows.laid_unicode_utf8_first)] W) : Tab W := by
 have h1 := h.filter (fun x => x.1 == "internal/strconv.uint64pow10")
 rw [show ([("math/bits.deBruijn32tab", Rows.laid_math_bits_deBruijn32tab), ("math/bits.deBruijn64tab", Rows.laid_math_bits_deBruijn64tab), ("internal/strconv.uint64pow10", Rows.laid_internal_strconv_uint64pow10), ("unicode/utf8.acceptRanges", Rows.laid_unicode_utf8_acceptRanges), ("unicode/utf8.first", Rows.laid_unicode_utf8_first)] : List (String × DataW Unit)).filter (fun x => x.1 == "internal/strconv.uint64pow10") =
  [("internal/strconv.uint64pow10", Rows.laid_internal_strconv_uint64pow10)] by simp] at h1
 rw [MakeChecks.laidMetH_plain _ _ _ (by kernel_rfl)] at h1
 rw [show (Rows.laid_internal_strconv_uint64pow10 : DataW Unit) = Lib.tabData .u64 Lib.pow10Tab by rfl] at h1
 exact Lib.tabIs_of_head (g := 1) (t := 240) (e := 178) (n := 20) (by kernel_rfl) (by kernel_rfl) Tryz.underlying240 Tryz.underlying178 (by kernel_rfl) (by kernel_rfl) h1
end Go.Proofs.YtgjijcgkmofaaaaGreatDoor
