/-
  A script's hurts. Conditions: the pointer's box holds an array and a cursor.
-/
import Derived.Test.YtgjijcgkmofaaaaGreatDoorU20
namespace Go.Proofs.YtgjijcgkmofaaaaGreatDoor
set_option linter.unusedSimpArgs false
set_option linter.unusedVariables false
set_option maxRecDepth 100000
set_option maxHeartbeats 8000000
open Go.RowKit
theorem grown_set {w W : World} {row : Option Nat} (h : w.grownBy W row) {p : Addr} (hp : w.heap.size ≤ p.block) (u : Value) : w.grownBy (W.setCell p u) row :=
 ⟨h.os, h.tape, h.output, by simpa using h.size, fun j hj hne => (Below.heap_setCell W p u j (by omega)).trans (h.block j hj hne)⟩
theorem own_av {w : World} {base : Nat} {e : TypeId} {size : Nat} {v : Value} {n : Nat} {xs : List Value} (h : w.ownsRow base e size v n xs) {g : Nat} (hg : w.heap.size ≤ g) : Av g v := by
 intro b o s n' c e
 rcases h.2 with ⟨hv, _⟩ | ⟨g', cap, cur, hv, _⟩
 ·rw [hv] at e
  injection e with e1
  cases e1
 ·right
  have hl := (h.lt g' (by rw [hv]; rfl)).2
  rw [hv] at e
  injection e with e1
  injection e1 with e1
  injection e1 with e2
  omega
theorem hurtLose_any (gs : Nat) (A : Option Addr) (c : Nat) (a : List Dev) (nx rd : Int) (b3 : Nat) (kd : Int) (vf : Value) (fn : ByteArray) (d n at_ by_ : Int) (k : Nat) (w : World) (hb : Blk_ w gs 123 #[.slice A 3 c, .int .i64 nx, .int .i64 rd]) (hr : RArr w [.slice A 3 c] a) (h3 : a.length = 3)
  (hb3 : Blk_ w b3 39 #[.int .i64 kd, vf, .string fn, .int .i64 d, .int .i64 n, .int .i64 at_, .int .i64 by_]) (hk : k < 3) (hn : I64 n) (ha : I64 at_) (hy : I64 by_) :
  Calls Tryz.prog 96 #[.pointer (some ⟨gs, 0, none⟩), .int .i64 (k : Int), .func (.func 97) #[] #[.pointer (some ⟨b3, 0, none⟩)]] w fun e w' =>
   (¬ (touchCode (dv a k) n) = 0 ∧ e = .returned (.int .i64 (touchCode (dv a k) n)) ∧ Ext w w') ∨
   ((touchCode (dv a k) n) = 0 ∧ e = .returned (.int .i64 0) ∧ ∃ A' c', w.grownBy w' (some gs) ∧ Blk_ w' gs 123 #[.slice A' 3 c', .int .i64 nx, .int .i64 rd] ∧ OArr 68 w' w.heap.size (.slice A' 3 c') (a.set k (loseS (dv a k) n))) := by
 have HB := Lib.hid hb
 have HR := Lib.hid hr
 have H3 := Lib.hid h3
 have HB3 := Lib.hid hb3
 have HI := Lib.hid (And.intro hn (And.intro ha hy))
 have l0 := hb.lt
 have HKK := Lib.hid hk
 have c0 := hb.cell 0
 simp at c0
 obtain ⟨b, o, rfl, hl⟩ := (show RArr w [.slice A a.length c] a by rw [h3]; exact hr).look 0 (by omega)
 obtain ⟨A1, c1, A2, c2, q0, q1, hd⟩ := hl k (by omega)
 have HD := Lib.hid hd
 have hk0 : (k : Int) < 3 := by omega
 have t1 : decide ((k : Int) < 0) = false := by simp
 have t2 : decide ((3 : Int) ≤ (k : Int)) = false := by simp; omega
 clear hb hr h3 hb3 hl hd hn ha hy hk
 go_enter Tryz.func96, Tryz.ntmps96
 go_wp2_with fail
 refine (actLose_any [.slice A1 (dv a k).sec.length c1, .slice A2 (dv a k).lost.length c2] (dv a k) b3 kd vf fn d n at_ by_ w HD.out HB3.out HI.out.1 HI.out.2.1 HI.out.2.2).mono ?_
 rintro e w2 ⟨A3, c3, A4, c4, rfl, hx2, ho2⟩
 have HX2 := Lib.hid hx2
 obtain ⟨D, hD⟩ : ∃ D, D = loseS (dv a k) n := ⟨_, rfl⟩
 have HDD := Lib.hid hD
 obtain ⟨cd, hcd⟩ : ∃ cd, cd = touchCode (dv a k) n := ⟨_, rfl⟩
 have HCD := Lib.hid hcd
 rw [← hD] at ho2 ⊢
 rw [← hcd]
 obtain ⟨n1, hn1⟩ : ∃ n1, n1 = D.sec.length := ⟨_, rfl⟩
 obtain ⟨n2, hn2⟩ : ∃ n2, n2 = D.lost.length := ⟨_, rfl⟩
 have HNN := Lib.hid (And.intro hn1 hn2)
 rw [← hn1, ← hn2] at ho2 ⊢
 have HO2 := Lib.hid ho2
 have g0 := (HB.out.ext hx2).cell 0
 simp at g0
 have l2 := (HB.out.ext hx2).lt
 clear hn1 hn2 hD hcd ho2 q0 q1 hx2 c0 l0
 by_cases hz : cd = 0
 case neg =>
  have hzb : (cd != 0) = true := by simpa using hz
  have HZ := Lib.hid hz
  clear hz
  go_wp2_with fail
  go_ret
  left
  rw [← HCD.out]
  exact ⟨HZ.out, rfl, HX2.out.alloc _⟩
 case pos =>
 rw [hz]
 have HZ := Lib.hid hz
 clear hz
 go_wp2_with fail
 refine calls_abs (fun W => Ext w2 W ∧ Blk_ W w2.heap.size 68 #[.slice A3 n1 c3, .slice A4 n2 c4]) ⟨(Ext.refl _).alloc _, Blk_.new _ _ _⟩ ?_
 rintro w3 ⟨hx3, hb7⟩
 obtain ⟨b7, h7⟩ : ∃ b, b = w2.heap.size := ⟨_, rfl⟩
 rw [← h7] at hb7 ⊢
 have HX3 := Lib.hid (HX2.out.trans hx3)
 have HL := Lib.hid (show gs < b7 by rw [h7]; exact l2)
 have HLW := Lib.hid (show w2.heap.size ≤ b7 by rw [h7]; exact Nat.le_refl _)
 have HS2 := Lib.hid (show w.heap.size ≤ b7 by rw [h7]; exact HX2.out.size)
 have HB7 := Lib.hid hb7
 have HO3 := Lib.hid (HO2.out.ext hx3)
 clear hx3 hb7 h7 g0 l2
 have hr3 := HR.out.up HX3.out
 refine (arrCopy_any [.slice (some ⟨b, o, none⟩) 3 c] a w3 (by have := H3.out; exact hr3)).mono ?_
 rintro e w4 ⟨A5, c5, rfl, hx4, ho5⟩
 rw [H3.out] at ho5 ⊢
 obtain ⟨g, rfl, hg1, hg2, hfz, _⟩ := ho5.at_ H3.out
 have k0 := (HB.out.ext (HX3.out.trans hx4)).cell 0
 have kz := (HB.out.ext (HX3.out.trans hx4)).frozen 0
 simp at k0
 have HG := Lib.hid (show b7 < w3.heap.size ∧ w3.heap.size ≤ g ∧ g < w4.heap.size from ⟨HB7.out.lt, hg1, hg2⟩)
 have HX4 := Lib.hid (HX3.out.trans hx4)
 have HBL := Lib.hid ((HB.out.ext HX4.out).set 0 (.slice (some ⟨g, 0, none⟩) 3 c5))
 have HB74 := Lib.hid ((HB7.out.ext hx4).far (p := ⟨gs, 0, none⟩) (by have := HL.out; simp only; omega) (.slice (some ⟨g, 0, none⟩) 3 c5))
 have HO4 := Lib.hid ((HO3.out.ext hx4).far (p := ⟨gs, 0, none⟩) (by have h1 := (HB.out).lt; simp only; omega) (.slice (some ⟨g, 0, none⟩) 3 c5))
 have HOA := Lib.hid (ho5.far (p := ⟨gs, 0, none⟩) (by have h1 := HG.out; have h2 := HL.out; simp only; omega) (.slice (some ⟨g, 0, none⟩) 3 c5))
 have HGR := Lib.hid ((HX4.out.by_ (some gs)).trans (setRow_by w4 gs 0 (.slice (some ⟨g, 0, none⟩) 3 c5)))
 clear hr3 hx4 ho5 hg1 hg2 hfz
 go_wp2_with fail
 refine wp_abs (fun W => w.grownBy W (some gs) ∧ Blk_ W gs 123 #[.slice (some ⟨g, 0, none⟩) 3 c5, .int .i64 nx, .int .i64 rd] ∧ Blk_ W b7 68 #[.slice A3 n1 c3, .slice A4 n2 c4] ∧ ODev 9 4 W w.heap.size (.slice A3 n1 c3) (.slice A4 n2 c4) D ∧ OArr 68 W w3.heap.size (.slice (some ⟨g, 0, none⟩) 3 c5) a ∧ g < W.heap.size) ⟨HGR.out, HBL.out, HB74.out, HO4.out, HOA.out, by have := HG.out; simpa using this.2.2⟩ ?_
 clear HGR HBL HB74 HO4 HOA k0 kz
 rintro w4 ⟨hgr, hbl, hb7, hod, hoa, hgl⟩
 obtain ⟨_, _, hfz, hat⟩ := hoa.atg H3.out
 obtain ⟨B1, d1, B2, d2, r0, r1, _⟩ := hat k (by omega)
 have s0 := hbl.cell 0
 have s70 := hb7.cell 0
 have s71 := hb7.cell 1
 simp at s0 s70 s71
 have HFZ := Lib.hid hfz
 have HGR := Lib.hid hgr
 have HBL := Lib.hid hbl
 have HOD := Lib.hid hod
 have HOA := Lib.hid hoa
 have HGL := Lib.hid hgl
 have HNE := Lib.hid (show gs < g ∧ b7 < g by have h1 := HG.out; have h2 := HL.out; omega)
 clear hgr hbl hb7 hod hoa hfz hat hgl
 refine wp_region_all (S := fun W' => W'.cell? ⟨gs, 0, none⟩ = some (.slice (some ⟨g, 0, none⟩) 3 c5) ∧ W'.cell? ⟨b7, 0, none⟩ = some (.slice A3 n1 c3) ∧ W'.cell? ⟨b7, 1, none⟩ = some (.slice A4 n2 c4)) (by kernel_rfl) ?_
 have hS0 : (fun W' => W'.cell? ⟨gs, 0, none⟩ = some (.slice (some ⟨g, 0, none⟩) 3 c5) ∧ W'.cell? ⟨b7, 0, none⟩ = some (.slice A3 n1 c3) ∧ W'.cell? ⟨b7, 1, none⟩ = some (.slice A4 n2 c4)) w4.drew := ⟨s0, s70, s71⟩
 refine tkL 0 rfl (fun w' hS => by obtain ⟨hS, hS2', hS3'⟩ := hS; go_simp; rfl) hS0 ?_
 refine tkL 1 rfl (fun w' hS => by obtain ⟨hS, hS2', hS3'⟩ := hS; go_simp; rfl) hS0 ?_
 refine tkL 2 rfl (fun w' hS => by obtain ⟨hS, hS2', hS3'⟩ := hS; go_simp; rfl) hS0 ?_
 try simp only [Act.put, List.setIfInBounds_toArray, List.set_cons_zero, List.set_cons_succ]
 refine tkL 3 rfl (fun w' hS => by obtain ⟨hS, hS2', hS3'⟩ := hS; go_simp; rfl) hS0 ?_
 refine tkL 4 rfl (fun w' hS => by obtain ⟨hS, hS2', hS3'⟩ := hS; go_simp; rfl) hS0 ?_
 refine tkL 5 rfl (fun w' hS => by obtain ⟨hS, hS2', hS3'⟩ := hS; go_simp; rfl) hS0 ?_
 try simp only [Act.put, List.setIfInBounds_toArray, List.set_cons_zero, List.set_cons_succ]
 refine tkL 6 rfl (fun w' hS => by obtain ⟨hS, hS2', hS3'⟩ := hS; go_simp; rfl) hS0 ?_
 refine tkL 7 rfl (fun w' hS => by obtain ⟨hS, hS2', hS3'⟩ := hS; go_simp; rfl) hS0 ?_
 try simp only [Act.put, List.setIfInBounds_toArray, List.set_cons_zero, List.set_cons_succ]
 refine wpAnyH_oneL (i := 8) rfl (by kernel_rfl) rfl (fun K hK => ?_)
 have z0 := HFZ.out (k * 2)
 have z1 := HFZ.out (k * 2 + 1)
 have hS4 : (fun W' => W'.cell? ⟨gs, 0, none⟩ = some (.slice (some ⟨g, 0, none⟩) 3 c5) ∧ W'.cell? ⟨b7, 0, none⟩ = some (.slice A3 n1 c3) ∧ W'.cell? ⟨b7, 1, none⟩ = some (.slice A4 n2 c4)) ((w4.drew.setCell ⟨g, k * 2, none⟩ (.slice A3 n1 c3)).setCell ⟨g, k * 2 + 1, none⟩ (.slice A4 n2 c4)) := by
  refine ⟨?_, ?_, ?_⟩
  ·rw [World.cell?_setCell_other _ _ _ _ (fun e => by have h1 := HNE.out; injection e with e1; omega), World.cell?_setCell_other _ _ _ _ (fun e => by have h1 := HNE.out; injection e with e1; omega)]; exact s0
  ·rw [World.cell?_setCell_other _ _ _ _ (fun e => by have h1 := HNE.out; injection e with e1; omega), World.cell?_setCell_other _ _ _ _ (fun e => by have h1 := HNE.out; injection e with e1; omega)]; exact s70
  ·rw [World.cell?_setCell_other _ _ _ _ (fun e => by have h1 := HNE.out; injection e with e1; omega), World.cell?_setCell_other _ _ _ _ (fun e => by have h1 := HNE.out; injection e with e1; omega)]; exact s71
 go_wp2_with fail
 refine hK _ _ hS4 ?_
 clear hK K
 refine wpAnyH_done (by kernel_rfl) ?_ _
 go_wp2_with fail
 go_ret
 right
 rw [← HCD.out, ← HDD.out]
 have hav : Av g (.slice A3 n1 c3) ∧ Av g (.slice A4 n2 c4) := by
  have h1 := HG.out
  have h2 := HB7.out.lt
  have h3' := HLW.out
  exact ⟨own_av HO2.out.1 (by omega), own_av HO2.out.2.1 (by omega)⟩
 have hng : RDevG g w4 [.slice A3 n1 c3, .slice A4 n2 c4] D := ⟨A3, c3, A4, c4, by rw [HNN.out.1, HNN.out.2], by have := HOD.out.dev; exact this, by rw [← HNN.out.1]; exact hav.1, by rw [← HNN.out.2]; exact hav.2⟩
 have hset := (HOA.out.base (base' := w.heap.size) (by have := HX3.out.size; exact this)).set (i := k) (by have := H3.out; have := HKK.out; omega) hng HOD.out.new1 HOD.out.new2
 refine ⟨HZ.out, rfl, some ⟨g, 0, none⟩, c5, ?_, ?_, ?_⟩
 ·have hws : w.heap.size ≤ g := by have h1 := HG.out; have h2 := HX3.out.size; omega
  exact (grown_set (grown_set HGR.out (p := ⟨g, k * 2, none⟩) hws _) (p := ⟨g, k * 2 + 1, none⟩) hws _).trans ((Ext.refl _).drew.by_ _)
 ·have hne := HNE.out
  exact ((HBL.out.far (p := ⟨g, k * 2, none⟩) (by simp only; omega) _).far (p := ⟨g, k * 2 + 1, none⟩) (by simp only; omega) _).ext (Ext.refl _).drew
 ·exact hset.ext (Ext.refl _).drew
theorem hurtTurn_any (gs : Nat) (A : Option Addr) (c : Nat) (a : List Dev) (nx rd : Int) (b3 : Nat) (kd : Int) (vf : Value) (fn : ByteArray) (d n at_ by_ : Int) (k : Nat) (w : World) (hb : Blk_ w gs 123 #[.slice A 3 c, .int .i64 nx, .int .i64 rd]) (hr : RArr w [.slice A 3 c] a) (h3 : a.length = 3)
  (hb3 : Blk_ w b3 39 #[.int .i64 kd, vf, .string fn, .int .i64 d, .int .i64 n, .int .i64 at_, .int .i64 by_]) (hk : k < 3) (hn : I64 n) (ha : I64 at_) (hy : I64 by_) :
  Calls Tryz.prog 96 #[.pointer (some ⟨gs, 0, none⟩), .int .i64 (k : Int), .func (.func 99) #[] #[.pointer (some ⟨b3, 0, none⟩)]] w fun e w' =>
   (¬ ((turnS (dv a k) n at_ by_).2) = 0 ∧ e = .returned (.int .i64 ((turnS (dv a k) n at_ by_).2)) ∧ Ext w w') ∨
   (((turnS (dv a k) n at_ by_).2) = 0 ∧ e = .returned (.int .i64 0) ∧ ∃ A' c', w.grownBy w' (some gs) ∧ Blk_ w' gs 123 #[.slice A' 3 c', .int .i64 nx, .int .i64 rd] ∧ OArr 68 w' w.heap.size (.slice A' 3 c') (a.set k ((turnS (dv a k) n at_ by_).1))) := by
 have HB := Lib.hid hb
 have HR := Lib.hid hr
 have H3 := Lib.hid h3
 have HB3 := Lib.hid hb3
 have HI := Lib.hid (And.intro hn (And.intro ha hy))
 have l0 := hb.lt
 have HKK := Lib.hid hk
 have c0 := hb.cell 0
 simp at c0
 obtain ⟨b, o, rfl, hl⟩ := (show RArr w [.slice A a.length c] a by rw [h3]; exact hr).look 0 (by omega)
 obtain ⟨A1, c1, A2, c2, q0, q1, hd⟩ := hl k (by omega)
 have HD := Lib.hid hd
 have hk0 : (k : Int) < 3 := by omega
 have t1 : decide ((k : Int) < 0) = false := by simp
 have t2 : decide ((3 : Int) ≤ (k : Int)) = false := by simp; omega
 clear hb hr h3 hb3 hl hd hn ha hy hk
 go_enter Tryz.func96, Tryz.ntmps96
 go_wp2_with fail
 refine (actTurn_any [.slice A1 (dv a k).sec.length c1, .slice A2 (dv a k).lost.length c2] (dv a k) b3 kd vf fn d n at_ by_ w HD.out HB3.out HI.out.1 HI.out.2.1 HI.out.2.2).mono ?_
 rintro e w2 ⟨A3, c3, A4, c4, rfl, hx2, ho2⟩
 have HX2 := Lib.hid hx2
 obtain ⟨D, hD⟩ : ∃ D, D = (turnS (dv a k) n at_ by_).1 := ⟨_, rfl⟩
 have HDD := Lib.hid hD
 obtain ⟨cd, hcd⟩ : ∃ cd, cd = (turnS (dv a k) n at_ by_).2 := ⟨_, rfl⟩
 have HCD := Lib.hid hcd
 rw [← hD] at ho2 ⊢
 rw [← hcd]
 obtain ⟨n1, hn1⟩ : ∃ n1, n1 = D.sec.length := ⟨_, rfl⟩
 obtain ⟨n2, hn2⟩ : ∃ n2, n2 = D.lost.length := ⟨_, rfl⟩
 have HNN := Lib.hid (And.intro hn1 hn2)
 rw [← hn1, ← hn2] at ho2 ⊢
 have HO2 := Lib.hid ho2
 have g0 := (HB.out.ext hx2).cell 0
 simp at g0
 have l2 := (HB.out.ext hx2).lt
 clear hn1 hn2 hD hcd ho2 q0 q1 hx2 c0 l0
 by_cases hz : cd = 0
 case neg =>
  have hzb : (cd != 0) = true := by simpa using hz
  have HZ := Lib.hid hz
  clear hz
  go_wp2_with fail
  go_ret
  left
  rw [← HCD.out]
  exact ⟨HZ.out, rfl, HX2.out.alloc _⟩
 case pos =>
 rw [hz]
 have HZ := Lib.hid hz
 clear hz
 go_wp2_with fail
 refine calls_abs (fun W => Ext w2 W ∧ Blk_ W w2.heap.size 68 #[.slice A3 n1 c3, .slice A4 n2 c4]) ⟨(Ext.refl _).alloc _, Blk_.new _ _ _⟩ ?_
 rintro w3 ⟨hx3, hb7⟩
 obtain ⟨b7, h7⟩ : ∃ b, b = w2.heap.size := ⟨_, rfl⟩
 rw [← h7] at hb7 ⊢
 have HX3 := Lib.hid (HX2.out.trans hx3)
 have HL := Lib.hid (show gs < b7 by rw [h7]; exact l2)
 have HLW := Lib.hid (show w2.heap.size ≤ b7 by rw [h7]; exact Nat.le_refl _)
 have HS2 := Lib.hid (show w.heap.size ≤ b7 by rw [h7]; exact HX2.out.size)
 have HB7 := Lib.hid hb7
 have HO3 := Lib.hid (HO2.out.ext hx3)
 clear hx3 hb7 h7 g0 l2
 have hr3 := HR.out.up HX3.out
 refine (arrCopy_any [.slice (some ⟨b, o, none⟩) 3 c] a w3 (by have := H3.out; exact hr3)).mono ?_
 rintro e w4 ⟨A5, c5, rfl, hx4, ho5⟩
 rw [H3.out] at ho5 ⊢
 obtain ⟨g, rfl, hg1, hg2, hfz, _⟩ := ho5.at_ H3.out
 have k0 := (HB.out.ext (HX3.out.trans hx4)).cell 0
 have kz := (HB.out.ext (HX3.out.trans hx4)).frozen 0
 simp at k0
 have HG := Lib.hid (show b7 < w3.heap.size ∧ w3.heap.size ≤ g ∧ g < w4.heap.size from ⟨HB7.out.lt, hg1, hg2⟩)
 have HX4 := Lib.hid (HX3.out.trans hx4)
 have HBL := Lib.hid ((HB.out.ext HX4.out).set 0 (.slice (some ⟨g, 0, none⟩) 3 c5))
 have HB74 := Lib.hid ((HB7.out.ext hx4).far (p := ⟨gs, 0, none⟩) (by have := HL.out; simp only; omega) (.slice (some ⟨g, 0, none⟩) 3 c5))
 have HO4 := Lib.hid ((HO3.out.ext hx4).far (p := ⟨gs, 0, none⟩) (by have h1 := (HB.out).lt; simp only; omega) (.slice (some ⟨g, 0, none⟩) 3 c5))
 have HOA := Lib.hid (ho5.far (p := ⟨gs, 0, none⟩) (by have h1 := HG.out; have h2 := HL.out; simp only; omega) (.slice (some ⟨g, 0, none⟩) 3 c5))
 have HGR := Lib.hid ((HX4.out.by_ (some gs)).trans (setRow_by w4 gs 0 (.slice (some ⟨g, 0, none⟩) 3 c5)))
 clear hr3 hx4 ho5 hg1 hg2 hfz
 go_wp2_with fail
 refine wp_abs (fun W => w.grownBy W (some gs) ∧ Blk_ W gs 123 #[.slice (some ⟨g, 0, none⟩) 3 c5, .int .i64 nx, .int .i64 rd] ∧ Blk_ W b7 68 #[.slice A3 n1 c3, .slice A4 n2 c4] ∧ ODev 9 4 W w.heap.size (.slice A3 n1 c3) (.slice A4 n2 c4) D ∧ OArr 68 W w3.heap.size (.slice (some ⟨g, 0, none⟩) 3 c5) a ∧ g < W.heap.size) ⟨HGR.out, HBL.out, HB74.out, HO4.out, HOA.out, by have := HG.out; simpa using this.2.2⟩ ?_
 clear HGR HBL HB74 HO4 HOA k0 kz
 rintro w4 ⟨hgr, hbl, hb7, hod, hoa, hgl⟩
 obtain ⟨_, _, hfz, hat⟩ := hoa.atg H3.out
 obtain ⟨B1, d1, B2, d2, r0, r1, _⟩ := hat k (by omega)
 have s0 := hbl.cell 0
 have s70 := hb7.cell 0
 have s71 := hb7.cell 1
 simp at s0 s70 s71
 have HFZ := Lib.hid hfz
 have HGR := Lib.hid hgr
 have HBL := Lib.hid hbl
 have HOD := Lib.hid hod
 have HOA := Lib.hid hoa
 have HGL := Lib.hid hgl
 have HNE := Lib.hid (show gs < g ∧ b7 < g by have h1 := HG.out; have h2 := HL.out; omega)
 clear hgr hbl hb7 hod hoa hfz hat hgl
 refine wp_region_all (S := fun W' => W'.cell? ⟨gs, 0, none⟩ = some (.slice (some ⟨g, 0, none⟩) 3 c5) ∧ W'.cell? ⟨b7, 0, none⟩ = some (.slice A3 n1 c3) ∧ W'.cell? ⟨b7, 1, none⟩ = some (.slice A4 n2 c4)) (by kernel_rfl) ?_
 have hS0 : (fun W' => W'.cell? ⟨gs, 0, none⟩ = some (.slice (some ⟨g, 0, none⟩) 3 c5) ∧ W'.cell? ⟨b7, 0, none⟩ = some (.slice A3 n1 c3) ∧ W'.cell? ⟨b7, 1, none⟩ = some (.slice A4 n2 c4)) w4.drew := ⟨s0, s70, s71⟩
 refine tkL 0 rfl (fun w' hS => by obtain ⟨hS, hS2', hS3'⟩ := hS; go_simp; rfl) hS0 ?_
 refine tkL 1 rfl (fun w' hS => by obtain ⟨hS, hS2', hS3'⟩ := hS; go_simp; rfl) hS0 ?_
 refine tkL 2 rfl (fun w' hS => by obtain ⟨hS, hS2', hS3'⟩ := hS; go_simp; rfl) hS0 ?_
 try simp only [Act.put, List.setIfInBounds_toArray, List.set_cons_zero, List.set_cons_succ]
 refine tkL 3 rfl (fun w' hS => by obtain ⟨hS, hS2', hS3'⟩ := hS; go_simp; rfl) hS0 ?_
 refine tkL 4 rfl (fun w' hS => by obtain ⟨hS, hS2', hS3'⟩ := hS; go_simp; rfl) hS0 ?_
 refine tkL 5 rfl (fun w' hS => by obtain ⟨hS, hS2', hS3'⟩ := hS; go_simp; rfl) hS0 ?_
 try simp only [Act.put, List.setIfInBounds_toArray, List.set_cons_zero, List.set_cons_succ]
 refine tkL 6 rfl (fun w' hS => by obtain ⟨hS, hS2', hS3'⟩ := hS; go_simp; rfl) hS0 ?_
 refine tkL 7 rfl (fun w' hS => by obtain ⟨hS, hS2', hS3'⟩ := hS; go_simp; rfl) hS0 ?_
 try simp only [Act.put, List.setIfInBounds_toArray, List.set_cons_zero, List.set_cons_succ]
 refine wpAnyH_oneL (i := 8) rfl (by kernel_rfl) rfl (fun K hK => ?_)
 have z0 := HFZ.out (k * 2)
 have z1 := HFZ.out (k * 2 + 1)
 have hS4 : (fun W' => W'.cell? ⟨gs, 0, none⟩ = some (.slice (some ⟨g, 0, none⟩) 3 c5) ∧ W'.cell? ⟨b7, 0, none⟩ = some (.slice A3 n1 c3) ∧ W'.cell? ⟨b7, 1, none⟩ = some (.slice A4 n2 c4)) ((w4.drew.setCell ⟨g, k * 2, none⟩ (.slice A3 n1 c3)).setCell ⟨g, k * 2 + 1, none⟩ (.slice A4 n2 c4)) := by
  refine ⟨?_, ?_, ?_⟩
  ·rw [World.cell?_setCell_other _ _ _ _ (fun e => by have h1 := HNE.out; injection e with e1; omega), World.cell?_setCell_other _ _ _ _ (fun e => by have h1 := HNE.out; injection e with e1; omega)]; exact s0
  ·rw [World.cell?_setCell_other _ _ _ _ (fun e => by have h1 := HNE.out; injection e with e1; omega), World.cell?_setCell_other _ _ _ _ (fun e => by have h1 := HNE.out; injection e with e1; omega)]; exact s70
  ·rw [World.cell?_setCell_other _ _ _ _ (fun e => by have h1 := HNE.out; injection e with e1; omega), World.cell?_setCell_other _ _ _ _ (fun e => by have h1 := HNE.out; injection e with e1; omega)]; exact s71
 go_wp2_with fail
 refine hK _ _ hS4 ?_
 clear hK K
 refine wpAnyH_done (by kernel_rfl) ?_ _
 go_wp2_with fail
 go_ret
 right
 rw [← HCD.out, ← HDD.out]
 have hav : Av g (.slice A3 n1 c3) ∧ Av g (.slice A4 n2 c4) := by
  have h1 := HG.out
  have h2 := HB7.out.lt
  have h3' := HLW.out
  exact ⟨own_av HO2.out.1 (by omega), own_av HO2.out.2.1 (by omega)⟩
 have hng : RDevG g w4 [.slice A3 n1 c3, .slice A4 n2 c4] D := ⟨A3, c3, A4, c4, by rw [HNN.out.1, HNN.out.2], by have := HOD.out.dev; exact this, by rw [← HNN.out.1]; exact hav.1, by rw [← HNN.out.2]; exact hav.2⟩
 have hset := (HOA.out.base (base' := w.heap.size) (by have := HX3.out.size; exact this)).set (i := k) (by have := H3.out; have := HKK.out; omega) hng HOD.out.new1 HOD.out.new2
 refine ⟨HZ.out, rfl, some ⟨g, 0, none⟩, c5, ?_, ?_, ?_⟩
 ·have hws : w.heap.size ≤ g := by have h1 := HG.out; have h2 := HX3.out.size; omega
  exact (grown_set (grown_set HGR.out (p := ⟨g, k * 2, none⟩) hws _) (p := ⟨g, k * 2 + 1, none⟩) hws _).trans ((Ext.refl _).drew.by_ _)
 ·have hne := HNE.out
  exact ((HBL.out.far (p := ⟨g, k * 2, none⟩) (by simp only; omega) _).far (p := ⟨g, k * 2 + 1, none⟩) (by simp only; omega) _).ext (Ext.refl _).drew
 ·exact hset.ext (Ext.refl _).drew
def Moves (gs : Nat) (w w' : World) (a' : List Dev) (nx rd : Int) : Prop := ∃ A' c', w.grownBy w' (some gs) ∧ Blk_ w' gs 123 #[.slice A' 3 c', .int .i64 nx, .int .i64 rd] ∧ Fresh w w' (fun W => RArr W [.slice A' 3 c'] a')
theorem hurtRange_any (gs : Nat) (d : Int) (fv : Value) (w : World) (hd : d < 0 ∨ 2 < d) :
  Calls Tryz.prog 96 #[.pointer (some ⟨gs, 0, none⟩), .int .i64 d, fv] w fun e w' => e = .returned (.int .i64 2) ∧ Ext w w' := by
 by_cases h0 : d < 0
 ·have t1 : decide (d < 0) = true := decide_eq_true h0
  clear hd h0
  go_enter Tryz.func96, Tryz.ntmps96
  go_wp2_with fail
  go_ret
  exact ⟨rfl, Ext.refl _⟩
 ·have t1 : decide (d < 0) = false := decide_eq_false h0
  have t2 : decide ((3 : Int) ≤ d) = true := decide_eq_true (by omega)
  clear hd h0
  go_enter Tryz.func96, Tryz.ntmps96
  go_wp2_with fail
  go_ret
  exact ⟨rfl, Ext.refl _⟩
theorem act_lose (gs : Nat) (A : Option Addr) (c : Nat) (a : List Dev) (nx rd : Int) (vf : Value) (nm : ByteArray) (d n at_ by_ : Int) (w : World) (hb : Blk_ w gs 123 #[.slice A 3 c, .int .i64 nx, .int .i64 rd]) (hr : RArr w [.slice A 3 c] a) (h3 : a.length = 3) (k : Nat) (hk : d = (k : Int)) (hk3 : k < 3) (hn : I64 n) (ha : I64 at_) (hy : I64 by_) :
  Calls Tryz.prog 62 #[.pointer (some ⟨gs, 0, none⟩), .agg #[.int .i64 4, vf, .string nm, .int .i64 d, .int .i64 n, .int .i64 at_, .int .i64 by_]] w fun e w' => e = .returned (.agg #[.int .i64 (touchCode (dv a k) n), .string .empty, .slice none 0 0, .int .i64 0, .slice none 0 0]) ∧ ((¬ (touchCode (dv a k) n) = 0 ∧ Ext w w') ∨ ((touchCode (dv a k) n) = 0 ∧ Moves gs w w' (a.set k (loseS (dv a k) n)) nx rd)) := by
 have HB := Lib.hid hb
 have HR := Lib.hid hr
 have H3 := Lib.hid h3
 subst hk
 have HK3 := Lib.hid hk3
 have HI := Lib.hid (And.intro hn (And.intro ha hy))
 have hkI : (k : Int) < 3 := by omega
 clear hb hr h3 hk3 hn ha hy
 have c0 := HB.out.cell 0
 have c1 := HB.out.cell 1
 have c2 := HB.out.cell 2
 simp at c0 c1 c2
 have l0 := HB.out.lt
 have l0a : gs < w.heap.size + 1 := by omega
 have l0b : gs < w.heap.size + 1 + 1 := by omega
 go_enter Tryz.func62, Tryz.ntmps62
 go_wp2_with fail
 refine calls_abs (fun W => Ext w W ∧ Blk_ W w.heap.size 39 #[.int .i64 4, vf, .string nm, .int .i64 (k : Int), .int .i64 n, .int .i64 at_, .int .i64 by_] ∧ Blk_ W (w.heap.size + 1) 46 #[.int .i64 0, .string .empty, .slice none 0 0, .int .i64 0, .slice none 0 0] ∧ Blk_ W (w.heap.size + 2) 46 #[.int .i64 0, .string .empty, .slice none 0 0, .int .i64 0, .slice none 0 0]) ⟨(((Ext.refl _).alloc _).alloc _).alloc _, ((Blk_.new _ _ _).alloc _).alloc _, (Blk_.new1 _ _ _ _).alloc _, Blk_.new2 _ _ _ _ _⟩ ?_
 rintro w1 ⟨hx1, hb3, hb4, hb5⟩
 obtain ⟨b3, e3⟩ : ∃ b, b = w.heap.size := ⟨_, rfl⟩
 obtain ⟨b4, e4⟩ : ∃ b, b = b3 + 1 := ⟨_, rfl⟩
 obtain ⟨b5, e5⟩ : ∃ b, b = b4 + 1 := ⟨_, rfl⟩
 rw [← e3, ← e4, ← e5]
 have hb4' : Blk_ w1 b4 46 #[.int .i64 0, .string .empty, .slice none 0 0, .int .i64 0, .slice none 0 0] := by rw [e4, e3]; exact hb4
 have hb5' : Blk_ w1 b5 46 #[.int .i64 0, .string .empty, .slice none 0 0, .int .i64 0, .slice none 0 0] := by rw [e5, e4, e3]; exact hb5
 rw [← e3] at hb3
 have HE := Lib.hid (show w.heap.size = b3 ∧ b4 = b3 + 1 ∧ b5 = b4 + 1 ∧ gs < b3 from ⟨e3.symm, e4, e5, by rw [e3]; exact l0⟩)
 have HX1 := Lib.hid hx1
 have B3 := Lib.hid hb3
 have B4 := Lib.hid hb4'
 have B5 := Lib.hid hb5'
 have HB1 := Lib.hid (HB.out.ext hx1)
 have HR1 := Lib.hid (HR.out.up hx1)
 clear hx1 hb3 hb4 hb5 hb4' hb5' e3 e4 e5 l0 l0a l0b c0 c1 c2
 refine (hurtLose_any gs A c a nx rd b3 4 vf nm (k : Int) n at_ by_ k w1 HB1.out HR1.out H3.out B3.out HK3.out HI.out.1 HI.out.2.1 HI.out.2.2).mono ?_
 obtain ⟨cd, hcd⟩ : ∃ cd, cd = touchCode (dv a k) n := ⟨_, rfl⟩
 have HCD := Lib.hid hcd
 rw [← hcd]
 clear hcd
 have hne45 : ¬ (b4 = b5) := by have := HE.out; omega
 have hne54 : ¬ (b5 = b4) := by have := HE.out; omega
 rintro e w2 (⟨hz, rfl, hx2⟩ | ⟨hz, rfl, A', c', hg2, hbl2, hoa2⟩)
 ·skip
  have u40 := (B4.out.ext hx2).cell 0
  have u50 := (B5.out.ext hx2).cell 0
  have v40 := (B4.out.ext hx2).frozen 0
  have v50 := (B5.out.ext hx2).frozen 0
  have u41 := (B4.out.ext hx2).cell 1
  have u51 := (B5.out.ext hx2).cell 1
  have v41 := (B4.out.ext hx2).frozen 1
  have v51 := (B5.out.ext hx2).frozen 1
  have u42 := (B4.out.ext hx2).cell 2
  have u52 := (B5.out.ext hx2).cell 2
  have v42 := (B4.out.ext hx2).frozen 2
  have v52 := (B5.out.ext hx2).frozen 2
  have u43 := (B4.out.ext hx2).cell 3
  have u53 := (B5.out.ext hx2).cell 3
  have v43 := (B4.out.ext hx2).frozen 3
  have v53 := (B5.out.ext hx2).frozen 3
  have u44 := (B4.out.ext hx2).cell 4
  have u54 := (B5.out.ext hx2).cell 4
  have v44 := (B4.out.ext hx2).frozen 4
  have v54 := (B5.out.ext hx2).frozen 4
  simp at u40 u50 u41 u51 u42 u52 u43 u53 u44 u54
  have hl4 := (B4.out.ext hx2).lt
  have hl5 := (B5.out.ext hx2).lt
  have HX2 := Lib.hid hx2
  have HZ := Lib.hid hz
  clear hx2 hz
  go_wp2_with fail
  refine bodyPost_ret (res_cell (g := b4) (cs := #[.int .i64 cd, .string .empty, .slice none 0 0, .int .i64 0, .slice none 0 0]) rfl rfl (by exact (((((((B4.out.ext HX2.out).far (p := ⟨b5, 0, none⟩) hne45 (.int .i64 cd)).set 0 (.int .i64 cd)).set 1 (.string .empty)).set 2 (.slice none 0 0)).set 3 (.int .i64 0)).set 4 (.slice none 0 0))) Tryz.underlying46 rfl (by kernel_rfl)) rfl ?_
  rw [← HCD.out]
  exact ⟨rfl, .inl ⟨HZ.out, (((((((HX1.out.trans HX2.out).setCell (p := ⟨b5, 0, none⟩) (by have := HE.out; simp only; omega) (.int .i64 cd)).setCell (p := ⟨b4, 0, none⟩) (by have := HE.out; simp only; omega) (.int .i64 cd)).setCell (p := ⟨b4, 1, none⟩) (by have := HE.out; simp only; omega) (.string .empty)).setCell (p := ⟨b4, 2, none⟩) (by have := HE.out; simp only; omega) (.slice none 0 0)).setCell (p := ⟨b4, 3, none⟩) (by have := HE.out; simp only; omega) (.int .i64 0)).setCell (p := ⟨b4, 4, none⟩) (by have := HE.out; simp only; omega) (.slice none 0 0))⟩⟩
 ·skip
  have h4 := B4.out.grown hg2 (fun j hj => by injection hj with hj; have := HE.out; omega)
  have h5 := B5.out.grown hg2 (fun j hj => by injection hj with hj; have := HE.out; omega)
  have u40 := (h4).cell 0
  have u50 := (h5).cell 0
  have v40 := (h4).frozen 0
  have v50 := (h5).frozen 0
  have u41 := (h4).cell 1
  have u51 := (h5).cell 1
  have v41 := (h4).frozen 1
  have v51 := (h5).frozen 1
  have u42 := (h4).cell 2
  have u52 := (h5).cell 2
  have v42 := (h4).frozen 2
  have v52 := (h5).frozen 2
  have u43 := (h4).cell 3
  have u53 := (h5).cell 3
  have v43 := (h4).frozen 3
  have v53 := (h5).frozen 3
  have u44 := (h4).cell 4
  have u54 := (h5).cell 4
  have v44 := (h4).frozen 4
  have v54 := (h5).frozen 4
  simp at u40 u50 u41 u51 u42 u52 u43 u53 u44 u54
  have H4 := Lib.hid h4
  have HG2 := Lib.hid hg2
  have HBL := Lib.hid hbl2
  have HOA := Lib.hid hoa2
  have HZ := Lib.hid hz
  clear h4 h5 hg2 hbl2 hoa2 hz
  go_wp2_with fail
  refine bodyPost_ret (res_cell (g := b4) (cs := #[.int .i64 0, .string .empty, .slice none 0 0, .int .i64 0, .slice none 0 0]) rfl rfl (by exact ((((((H4.out.far (p := ⟨b5, 0, none⟩) hne45 (.int .i64 0)).set 0 (.int .i64 0)).set 1 (.string .empty)).set 2 (.slice none 0 0)).set 3 (.int .i64 0)).set 4 (.slice none 0 0))) Tryz.underlying46 rfl (by kernel_rfl)) rfl ?_
  rw [← HCD.out, HZ.out]
  exact ⟨rfl, .inr ⟨rfl, A', c', (grown_set (grown_set (grown_set (grown_set (grown_set (grown_set ((HX1.out.by_ (some gs)).trans HG2.out) (p := ⟨b5, 0, none⟩) (by have := HE.out; simp only; omega) (.int .i64 0)) (p := ⟨b4, 0, none⟩) (by have := HE.out; simp only; omega) (.int .i64 0)) (p := ⟨b4, 1, none⟩) (by have := HE.out; simp only; omega) (.string .empty)) (p := ⟨b4, 2, none⟩) (by have := HE.out; simp only; omega) (.slice none 0 0)) (p := ⟨b4, 3, none⟩) (by have := HE.out; simp only; omega) (.int .i64 0)) (p := ⟨b4, 4, none⟩) (by have := HE.out; simp only; omega) (.slice none 0 0)), ((((((HBL.out.far (p := ⟨b5, 0, none⟩) (by have := HE.out; simp only; omega) (.int .i64 0)).far (p := ⟨b4, 0, none⟩) (by have := HE.out; simp only; omega) (.int .i64 0)).far (p := ⟨b4, 1, none⟩) (by have := HE.out; simp only; omega) (.string .empty)).far (p := ⟨b4, 2, none⟩) (by have := HE.out; simp only; omega) (.slice none 0 0)).far (p := ⟨b4, 3, none⟩) (by have := HE.out; simp only; omega) (.int .i64 0)).far (p := ⟨b4, 4, none⟩) (by have := HE.out; simp only; omega) (.slice none 0 0)), Fresh.low ((((((((fresh_arr HOA.out (by rw [List.length_set]; have := H3.out; omega)).off (p := ⟨b5, 0, none⟩) (by have h4 := B4.out.lt; have h5 := B5.out.lt; simp only; omega) (.int .i64 0)).off (p := ⟨b4, 0, none⟩) (by have h4 := B4.out.lt; have h5 := B5.out.lt; simp only; omega) (.int .i64 0)).off (p := ⟨b4, 1, none⟩) (by have h4 := B4.out.lt; have h5 := B5.out.lt; simp only; omega) (.string .empty)).off (p := ⟨b4, 2, none⟩) (by have h4 := B4.out.lt; have h5 := B5.out.lt; simp only; omega) (.slice none 0 0)).off (p := ⟨b4, 3, none⟩) (by have h4 := B4.out.lt; have h5 := B5.out.lt; simp only; omega) (.int .i64 0)).off (p := ⟨b4, 4, none⟩) (by have h4 := B4.out.lt; have h5 := B5.out.lt; simp only; omega) (.slice none 0 0))) HX1.out.size⟩⟩
theorem act_loseRange (gs : Nat) (A : Option Addr) (c : Nat) (a : List Dev) (nx rd : Int) (vf : Value) (nm : ByteArray) (d n at_ by_ : Int) (w : World) (hb : Blk_ w gs 123 #[.slice A 3 c, .int .i64 nx, .int .i64 rd]) (hr : RArr w [.slice A 3 c] a) (h3 : a.length = 3) (hd : d < 0 ∨ 2 < d) :
  Calls Tryz.prog 62 #[.pointer (some ⟨gs, 0, none⟩), .agg #[.int .i64 4, vf, .string nm, .int .i64 d, .int .i64 n, .int .i64 at_, .int .i64 by_]] w fun e w' => e = .returned (.agg #[.int .i64 2, .string .empty, .slice none 0 0, .int .i64 0, .slice none 0 0]) ∧ Ext w w' := by
 have HB := Lib.hid hb
 have HR := Lib.hid hr
 have H3 := Lib.hid h3
 have HD := Lib.hid hd
 clear hb hr h3 hd
 have c0 := HB.out.cell 0
 have c1 := HB.out.cell 1
 have c2 := HB.out.cell 2
 simp at c0 c1 c2
 have l0 := HB.out.lt
 have l0a : gs < w.heap.size + 1 := by omega
 have l0b : gs < w.heap.size + 1 + 1 := by omega
 go_enter Tryz.func62, Tryz.ntmps62
 go_wp2_with fail
 refine calls_abs (fun W => Ext w W ∧ Blk_ W w.heap.size 39 #[.int .i64 4, vf, .string nm, .int .i64 d, .int .i64 n, .int .i64 at_, .int .i64 by_] ∧ Blk_ W (w.heap.size + 1) 46 #[.int .i64 0, .string .empty, .slice none 0 0, .int .i64 0, .slice none 0 0] ∧ Blk_ W (w.heap.size + 2) 46 #[.int .i64 0, .string .empty, .slice none 0 0, .int .i64 0, .slice none 0 0]) ⟨(((Ext.refl _).alloc _).alloc _).alloc _, ((Blk_.new _ _ _).alloc _).alloc _, (Blk_.new1 _ _ _ _).alloc _, Blk_.new2 _ _ _ _ _⟩ ?_
 rintro w1 ⟨hx1, hb3, hb4, hb5⟩
 obtain ⟨b3, e3⟩ : ∃ b, b = w.heap.size := ⟨_, rfl⟩
 obtain ⟨b4, e4⟩ : ∃ b, b = b3 + 1 := ⟨_, rfl⟩
 obtain ⟨b5, e5⟩ : ∃ b, b = b4 + 1 := ⟨_, rfl⟩
 rw [← e3, ← e4, ← e5]
 have hb4' : Blk_ w1 b4 46 #[.int .i64 0, .string .empty, .slice none 0 0, .int .i64 0, .slice none 0 0] := by rw [e4, e3]; exact hb4
 have hb5' : Blk_ w1 b5 46 #[.int .i64 0, .string .empty, .slice none 0 0, .int .i64 0, .slice none 0 0] := by rw [e5, e4, e3]; exact hb5
 rw [← e3] at hb3
 have HE := Lib.hid (show w.heap.size = b3 ∧ b4 = b3 + 1 ∧ b5 = b4 + 1 ∧ gs < b3 from ⟨e3.symm, e4, e5, by rw [e3]; exact l0⟩)
 have HX1 := Lib.hid hx1
 have B3 := Lib.hid hb3
 have B4 := Lib.hid hb4'
 have B5 := Lib.hid hb5'
 have HB1 := Lib.hid (HB.out.ext hx1)
 have HR1 := Lib.hid (HR.out.up hx1)
 clear hx1 hb3 hb4 hb5 hb4' hb5' e3 e4 e5 l0 l0a l0b c0 c1 c2
 refine (hurtRange_any gs d _ w1 HD.out).mono ?_
 rintro e w2 ⟨rfl, hx2⟩
 have u40 := (B4.out.ext hx2).cell 0
 have u50 := (B5.out.ext hx2).cell 0
 have v40 := (B4.out.ext hx2).frozen 0
 have v50 := (B5.out.ext hx2).frozen 0
 have u41 := (B4.out.ext hx2).cell 1
 have u51 := (B5.out.ext hx2).cell 1
 have v41 := (B4.out.ext hx2).frozen 1
 have v51 := (B5.out.ext hx2).frozen 1
 have u42 := (B4.out.ext hx2).cell 2
 have u52 := (B5.out.ext hx2).cell 2
 have v42 := (B4.out.ext hx2).frozen 2
 have v52 := (B5.out.ext hx2).frozen 2
 have u43 := (B4.out.ext hx2).cell 3
 have u53 := (B5.out.ext hx2).cell 3
 have v43 := (B4.out.ext hx2).frozen 3
 have v53 := (B5.out.ext hx2).frozen 3
 have u44 := (B4.out.ext hx2).cell 4
 have u54 := (B5.out.ext hx2).cell 4
 have v44 := (B4.out.ext hx2).frozen 4
 have v54 := (B5.out.ext hx2).frozen 4
 simp at u40 u50 u41 u51 u42 u52 u43 u53 u44 u54
 have hl4 := (B4.out.ext hx2).lt
 have hl5 := (B5.out.ext hx2).lt
 have hne45 : ¬ (b4 = b5) := by have := HE.out; omega
 have hne54 : ¬ (b5 = b4) := by have := HE.out; omega
 have HX2 := Lib.hid hx2
 clear hx2
 go_wp2_with fail
 refine bodyPost_ret (res_cell (g := b4) (cs := #[.int .i64 2, .string .empty, .slice none 0 0, .int .i64 0, .slice none 0 0]) rfl rfl (by exact (((((((B4.out.ext HX2.out).far (p := ⟨b5, 0, none⟩) hne45 (.int .i64 2)).set 0 (.int .i64 2)).set 1 (.string .empty)).set 2 (.slice none 0 0)).set 3 (.int .i64 0)).set 4 (.slice none 0 0))) Tryz.underlying46 rfl (by kernel_rfl)) rfl ?_
 exact ⟨rfl, (((((((HX1.out.trans HX2.out).setCell (p := ⟨b5, 0, none⟩) (by have := HE.out; simp only; omega) (.int .i64 2)).setCell (p := ⟨b4, 0, none⟩) (by have := HE.out; simp only; omega) (.int .i64 2)).setCell (p := ⟨b4, 1, none⟩) (by have := HE.out; simp only; omega) (.string .empty)).setCell (p := ⟨b4, 2, none⟩) (by have := HE.out; simp only; omega) (.slice none 0 0)).setCell (p := ⟨b4, 3, none⟩) (by have := HE.out; simp only; omega) (.int .i64 0)).setCell (p := ⟨b4, 4, none⟩) (by have := HE.out; simp only; omega) (.slice none 0 0))⟩
theorem act_turn (gs : Nat) (A : Option Addr) (c : Nat) (a : List Dev) (nx rd : Int) (vf : Value) (nm : ByteArray) (d n at_ by_ : Int) (w : World) (hb : Blk_ w gs 123 #[.slice A 3 c, .int .i64 nx, .int .i64 rd]) (hr : RArr w [.slice A 3 c] a) (h3 : a.length = 3) (k : Nat) (hk : d = (k : Int)) (hk3 : k < 3) (hn : I64 n) (ha : I64 at_) (hy : I64 by_) :
  Calls Tryz.prog 62 #[.pointer (some ⟨gs, 0, none⟩), .agg #[.int .i64 5, vf, .string nm, .int .i64 d, .int .i64 n, .int .i64 at_, .int .i64 by_]] w fun e w' => e = .returned (.agg #[.int .i64 ((turnS (dv a k) n at_ by_).2), .string .empty, .slice none 0 0, .int .i64 0, .slice none 0 0]) ∧ ((¬ ((turnS (dv a k) n at_ by_).2) = 0 ∧ Ext w w') ∨ (((turnS (dv a k) n at_ by_).2) = 0 ∧ Moves gs w w' (a.set k ((turnS (dv a k) n at_ by_).1)) nx rd)) := by
 have HB := Lib.hid hb
 have HR := Lib.hid hr
 have H3 := Lib.hid h3
 subst hk
 have HK3 := Lib.hid hk3
 have HI := Lib.hid (And.intro hn (And.intro ha hy))
 have hkI : (k : Int) < 3 := by omega
 clear hb hr h3 hk3 hn ha hy
 have c0 := HB.out.cell 0
 have c1 := HB.out.cell 1
 have c2 := HB.out.cell 2
 simp at c0 c1 c2
 have l0 := HB.out.lt
 have l0a : gs < w.heap.size + 1 := by omega
 have l0b : gs < w.heap.size + 1 + 1 := by omega
 go_enter Tryz.func62, Tryz.ntmps62
 go_wp2_with fail
 refine calls_abs (fun W => Ext w W ∧ Blk_ W w.heap.size 39 #[.int .i64 5, vf, .string nm, .int .i64 (k : Int), .int .i64 n, .int .i64 at_, .int .i64 by_] ∧ Blk_ W (w.heap.size + 1) 46 #[.int .i64 0, .string .empty, .slice none 0 0, .int .i64 0, .slice none 0 0] ∧ Blk_ W (w.heap.size + 2) 46 #[.int .i64 0, .string .empty, .slice none 0 0, .int .i64 0, .slice none 0 0]) ⟨(((Ext.refl _).alloc _).alloc _).alloc _, ((Blk_.new _ _ _).alloc _).alloc _, (Blk_.new1 _ _ _ _).alloc _, Blk_.new2 _ _ _ _ _⟩ ?_
 rintro w1 ⟨hx1, hb3, hb4, hb5⟩
 obtain ⟨b3, e3⟩ : ∃ b, b = w.heap.size := ⟨_, rfl⟩
 obtain ⟨b4, e4⟩ : ∃ b, b = b3 + 1 := ⟨_, rfl⟩
 obtain ⟨b5, e5⟩ : ∃ b, b = b4 + 1 := ⟨_, rfl⟩
 rw [← e3, ← e4, ← e5]
 have hb4' : Blk_ w1 b4 46 #[.int .i64 0, .string .empty, .slice none 0 0, .int .i64 0, .slice none 0 0] := by rw [e4, e3]; exact hb4
 have hb5' : Blk_ w1 b5 46 #[.int .i64 0, .string .empty, .slice none 0 0, .int .i64 0, .slice none 0 0] := by rw [e5, e4, e3]; exact hb5
 rw [← e3] at hb3
 have HE := Lib.hid (show w.heap.size = b3 ∧ b4 = b3 + 1 ∧ b5 = b4 + 1 ∧ gs < b3 from ⟨e3.symm, e4, e5, by rw [e3]; exact l0⟩)
 have HX1 := Lib.hid hx1
 have B3 := Lib.hid hb3
 have B4 := Lib.hid hb4'
 have B5 := Lib.hid hb5'
 have HB1 := Lib.hid (HB.out.ext hx1)
 have HR1 := Lib.hid (HR.out.up hx1)
 clear hx1 hb3 hb4 hb5 hb4' hb5' e3 e4 e5 l0 l0a l0b c0 c1 c2
 refine (hurtTurn_any gs A c a nx rd b3 5 vf nm (k : Int) n at_ by_ k w1 HB1.out HR1.out H3.out B3.out HK3.out HI.out.1 HI.out.2.1 HI.out.2.2).mono ?_
 obtain ⟨cd, hcd⟩ : ∃ cd, cd = (turnS (dv a k) n at_ by_).2 := ⟨_, rfl⟩
 have HCD := Lib.hid hcd
 rw [← hcd]
 clear hcd
 have hne45 : ¬ (b4 = b5) := by have := HE.out; omega
 have hne54 : ¬ (b5 = b4) := by have := HE.out; omega
 rintro e w2 (⟨hz, rfl, hx2⟩ | ⟨hz, rfl, A', c', hg2, hbl2, hoa2⟩)
 ·skip
  have u40 := (B4.out.ext hx2).cell 0
  have u50 := (B5.out.ext hx2).cell 0
  have v40 := (B4.out.ext hx2).frozen 0
  have v50 := (B5.out.ext hx2).frozen 0
  have u41 := (B4.out.ext hx2).cell 1
  have u51 := (B5.out.ext hx2).cell 1
  have v41 := (B4.out.ext hx2).frozen 1
  have v51 := (B5.out.ext hx2).frozen 1
  have u42 := (B4.out.ext hx2).cell 2
  have u52 := (B5.out.ext hx2).cell 2
  have v42 := (B4.out.ext hx2).frozen 2
  have v52 := (B5.out.ext hx2).frozen 2
  have u43 := (B4.out.ext hx2).cell 3
  have u53 := (B5.out.ext hx2).cell 3
  have v43 := (B4.out.ext hx2).frozen 3
  have v53 := (B5.out.ext hx2).frozen 3
  have u44 := (B4.out.ext hx2).cell 4
  have u54 := (B5.out.ext hx2).cell 4
  have v44 := (B4.out.ext hx2).frozen 4
  have v54 := (B5.out.ext hx2).frozen 4
  simp at u40 u50 u41 u51 u42 u52 u43 u53 u44 u54
  have hl4 := (B4.out.ext hx2).lt
  have hl5 := (B5.out.ext hx2).lt
  have HX2 := Lib.hid hx2
  have HZ := Lib.hid hz
  clear hx2 hz
  go_wp2_with fail
  refine bodyPost_ret (res_cell (g := b4) (cs := #[.int .i64 cd, .string .empty, .slice none 0 0, .int .i64 0, .slice none 0 0]) rfl rfl (by exact (((((((B4.out.ext HX2.out).far (p := ⟨b5, 0, none⟩) hne45 (.int .i64 cd)).set 0 (.int .i64 cd)).set 1 (.string .empty)).set 2 (.slice none 0 0)).set 3 (.int .i64 0)).set 4 (.slice none 0 0))) Tryz.underlying46 rfl (by kernel_rfl)) rfl ?_
  rw [← HCD.out]
  exact ⟨rfl, .inl ⟨HZ.out, (((((((HX1.out.trans HX2.out).setCell (p := ⟨b5, 0, none⟩) (by have := HE.out; simp only; omega) (.int .i64 cd)).setCell (p := ⟨b4, 0, none⟩) (by have := HE.out; simp only; omega) (.int .i64 cd)).setCell (p := ⟨b4, 1, none⟩) (by have := HE.out; simp only; omega) (.string .empty)).setCell (p := ⟨b4, 2, none⟩) (by have := HE.out; simp only; omega) (.slice none 0 0)).setCell (p := ⟨b4, 3, none⟩) (by have := HE.out; simp only; omega) (.int .i64 0)).setCell (p := ⟨b4, 4, none⟩) (by have := HE.out; simp only; omega) (.slice none 0 0))⟩⟩
 ·skip
  have h4 := B4.out.grown hg2 (fun j hj => by injection hj with hj; have := HE.out; omega)
  have h5 := B5.out.grown hg2 (fun j hj => by injection hj with hj; have := HE.out; omega)
  have u40 := (h4).cell 0
  have u50 := (h5).cell 0
  have v40 := (h4).frozen 0
  have v50 := (h5).frozen 0
  have u41 := (h4).cell 1
  have u51 := (h5).cell 1
  have v41 := (h4).frozen 1
  have v51 := (h5).frozen 1
  have u42 := (h4).cell 2
  have u52 := (h5).cell 2
  have v42 := (h4).frozen 2
  have v52 := (h5).frozen 2
  have u43 := (h4).cell 3
  have u53 := (h5).cell 3
  have v43 := (h4).frozen 3
  have v53 := (h5).frozen 3
  have u44 := (h4).cell 4
  have u54 := (h5).cell 4
  have v44 := (h4).frozen 4
  have v54 := (h5).frozen 4
  simp at u40 u50 u41 u51 u42 u52 u43 u53 u44 u54
  have H4 := Lib.hid h4
  have HG2 := Lib.hid hg2
  have HBL := Lib.hid hbl2
  have HOA := Lib.hid hoa2
  have HZ := Lib.hid hz
  clear h4 h5 hg2 hbl2 hoa2 hz
  go_wp2_with fail
  refine bodyPost_ret (res_cell (g := b4) (cs := #[.int .i64 0, .string .empty, .slice none 0 0, .int .i64 0, .slice none 0 0]) rfl rfl (by exact ((((((H4.out.far (p := ⟨b5, 0, none⟩) hne45 (.int .i64 0)).set 0 (.int .i64 0)).set 1 (.string .empty)).set 2 (.slice none 0 0)).set 3 (.int .i64 0)).set 4 (.slice none 0 0))) Tryz.underlying46 rfl (by kernel_rfl)) rfl ?_
  rw [← HCD.out, HZ.out]
  exact ⟨rfl, .inr ⟨rfl, A', c', (grown_set (grown_set (grown_set (grown_set (grown_set (grown_set ((HX1.out.by_ (some gs)).trans HG2.out) (p := ⟨b5, 0, none⟩) (by have := HE.out; simp only; omega) (.int .i64 0)) (p := ⟨b4, 0, none⟩) (by have := HE.out; simp only; omega) (.int .i64 0)) (p := ⟨b4, 1, none⟩) (by have := HE.out; simp only; omega) (.string .empty)) (p := ⟨b4, 2, none⟩) (by have := HE.out; simp only; omega) (.slice none 0 0)) (p := ⟨b4, 3, none⟩) (by have := HE.out; simp only; omega) (.int .i64 0)) (p := ⟨b4, 4, none⟩) (by have := HE.out; simp only; omega) (.slice none 0 0)), ((((((HBL.out.far (p := ⟨b5, 0, none⟩) (by have := HE.out; simp only; omega) (.int .i64 0)).far (p := ⟨b4, 0, none⟩) (by have := HE.out; simp only; omega) (.int .i64 0)).far (p := ⟨b4, 1, none⟩) (by have := HE.out; simp only; omega) (.string .empty)).far (p := ⟨b4, 2, none⟩) (by have := HE.out; simp only; omega) (.slice none 0 0)).far (p := ⟨b4, 3, none⟩) (by have := HE.out; simp only; omega) (.int .i64 0)).far (p := ⟨b4, 4, none⟩) (by have := HE.out; simp only; omega) (.slice none 0 0)), Fresh.low ((((((((fresh_arr HOA.out (by rw [List.length_set]; have := H3.out; omega)).off (p := ⟨b5, 0, none⟩) (by have h4 := B4.out.lt; have h5 := B5.out.lt; simp only; omega) (.int .i64 0)).off (p := ⟨b4, 0, none⟩) (by have h4 := B4.out.lt; have h5 := B5.out.lt; simp only; omega) (.int .i64 0)).off (p := ⟨b4, 1, none⟩) (by have h4 := B4.out.lt; have h5 := B5.out.lt; simp only; omega) (.string .empty)).off (p := ⟨b4, 2, none⟩) (by have h4 := B4.out.lt; have h5 := B5.out.lt; simp only; omega) (.slice none 0 0)).off (p := ⟨b4, 3, none⟩) (by have h4 := B4.out.lt; have h5 := B5.out.lt; simp only; omega) (.int .i64 0)).off (p := ⟨b4, 4, none⟩) (by have h4 := B4.out.lt; have h5 := B5.out.lt; simp only; omega) (.slice none 0 0))) HX1.out.size⟩⟩
theorem act_turnRange (gs : Nat) (A : Option Addr) (c : Nat) (a : List Dev) (nx rd : Int) (vf : Value) (nm : ByteArray) (d n at_ by_ : Int) (w : World) (hb : Blk_ w gs 123 #[.slice A 3 c, .int .i64 nx, .int .i64 rd]) (hr : RArr w [.slice A 3 c] a) (h3 : a.length = 3) (hd : d < 0 ∨ 2 < d) :
  Calls Tryz.prog 62 #[.pointer (some ⟨gs, 0, none⟩), .agg #[.int .i64 5, vf, .string nm, .int .i64 d, .int .i64 n, .int .i64 at_, .int .i64 by_]] w fun e w' => e = .returned (.agg #[.int .i64 2, .string .empty, .slice none 0 0, .int .i64 0, .slice none 0 0]) ∧ Ext w w' := by
 have HB := Lib.hid hb
 have HR := Lib.hid hr
 have H3 := Lib.hid h3
 have HD := Lib.hid hd
 clear hb hr h3 hd
 have c0 := HB.out.cell 0
 have c1 := HB.out.cell 1
 have c2 := HB.out.cell 2
 simp at c0 c1 c2
 have l0 := HB.out.lt
 have l0a : gs < w.heap.size + 1 := by omega
 have l0b : gs < w.heap.size + 1 + 1 := by omega
 go_enter Tryz.func62, Tryz.ntmps62
 go_wp2_with fail
 refine calls_abs (fun W => Ext w W ∧ Blk_ W w.heap.size 39 #[.int .i64 5, vf, .string nm, .int .i64 d, .int .i64 n, .int .i64 at_, .int .i64 by_] ∧ Blk_ W (w.heap.size + 1) 46 #[.int .i64 0, .string .empty, .slice none 0 0, .int .i64 0, .slice none 0 0] ∧ Blk_ W (w.heap.size + 2) 46 #[.int .i64 0, .string .empty, .slice none 0 0, .int .i64 0, .slice none 0 0]) ⟨(((Ext.refl _).alloc _).alloc _).alloc _, ((Blk_.new _ _ _).alloc _).alloc _, (Blk_.new1 _ _ _ _).alloc _, Blk_.new2 _ _ _ _ _⟩ ?_
 rintro w1 ⟨hx1, hb3, hb4, hb5⟩
 obtain ⟨b3, e3⟩ : ∃ b, b = w.heap.size := ⟨_, rfl⟩
 obtain ⟨b4, e4⟩ : ∃ b, b = b3 + 1 := ⟨_, rfl⟩
 obtain ⟨b5, e5⟩ : ∃ b, b = b4 + 1 := ⟨_, rfl⟩
 rw [← e3, ← e4, ← e5]
 have hb4' : Blk_ w1 b4 46 #[.int .i64 0, .string .empty, .slice none 0 0, .int .i64 0, .slice none 0 0] := by rw [e4, e3]; exact hb4
 have hb5' : Blk_ w1 b5 46 #[.int .i64 0, .string .empty, .slice none 0 0, .int .i64 0, .slice none 0 0] := by rw [e5, e4, e3]; exact hb5
 rw [← e3] at hb3
 have HE := Lib.hid (show w.heap.size = b3 ∧ b4 = b3 + 1 ∧ b5 = b4 + 1 ∧ gs < b3 from ⟨e3.symm, e4, e5, by rw [e3]; exact l0⟩)
 have HX1 := Lib.hid hx1
 have B3 := Lib.hid hb3
 have B4 := Lib.hid hb4'
 have B5 := Lib.hid hb5'
 have HB1 := Lib.hid (HB.out.ext hx1)
 have HR1 := Lib.hid (HR.out.up hx1)
 clear hx1 hb3 hb4 hb5 hb4' hb5' e3 e4 e5 l0 l0a l0b c0 c1 c2
 refine (hurtRange_any gs d _ w1 HD.out).mono ?_
 rintro e w2 ⟨rfl, hx2⟩
 have u40 := (B4.out.ext hx2).cell 0
 have u50 := (B5.out.ext hx2).cell 0
 have v40 := (B4.out.ext hx2).frozen 0
 have v50 := (B5.out.ext hx2).frozen 0
 have u41 := (B4.out.ext hx2).cell 1
 have u51 := (B5.out.ext hx2).cell 1
 have v41 := (B4.out.ext hx2).frozen 1
 have v51 := (B5.out.ext hx2).frozen 1
 have u42 := (B4.out.ext hx2).cell 2
 have u52 := (B5.out.ext hx2).cell 2
 have v42 := (B4.out.ext hx2).frozen 2
 have v52 := (B5.out.ext hx2).frozen 2
 have u43 := (B4.out.ext hx2).cell 3
 have u53 := (B5.out.ext hx2).cell 3
 have v43 := (B4.out.ext hx2).frozen 3
 have v53 := (B5.out.ext hx2).frozen 3
 have u44 := (B4.out.ext hx2).cell 4
 have u54 := (B5.out.ext hx2).cell 4
 have v44 := (B4.out.ext hx2).frozen 4
 have v54 := (B5.out.ext hx2).frozen 4
 simp at u40 u50 u41 u51 u42 u52 u43 u53 u44 u54
 have hl4 := (B4.out.ext hx2).lt
 have hl5 := (B5.out.ext hx2).lt
 have hne45 : ¬ (b4 = b5) := by have := HE.out; omega
 have hne54 : ¬ (b5 = b4) := by have := HE.out; omega
 have HX2 := Lib.hid hx2
 clear hx2
 go_wp2_with fail
 refine bodyPost_ret (res_cell (g := b4) (cs := #[.int .i64 2, .string .empty, .slice none 0 0, .int .i64 0, .slice none 0 0]) rfl rfl (by exact (((((((B4.out.ext HX2.out).far (p := ⟨b5, 0, none⟩) hne45 (.int .i64 2)).set 0 (.int .i64 2)).set 1 (.string .empty)).set 2 (.slice none 0 0)).set 3 (.int .i64 0)).set 4 (.slice none 0 0))) Tryz.underlying46 rfl (by kernel_rfl)) rfl ?_
 exact ⟨rfl, (((((((HX1.out.trans HX2.out).setCell (p := ⟨b5, 0, none⟩) (by have := HE.out; simp only; omega) (.int .i64 2)).setCell (p := ⟨b4, 0, none⟩) (by have := HE.out; simp only; omega) (.int .i64 2)).setCell (p := ⟨b4, 1, none⟩) (by have := HE.out; simp only; omega) (.string .empty)).setCell (p := ⟨b4, 2, none⟩) (by have := HE.out; simp only; omega) (.slice none 0 0)).setCell (p := ⟨b4, 3, none⟩) (by have := HE.out; simp only; omega) (.int .i64 0)).setCell (p := ⟨b4, 4, none⟩) (by have := HE.out; simp only; omega) (.slice none 0 0))⟩
end Go.Proofs.YtgjijcgkmofaaaaGreatDoor
