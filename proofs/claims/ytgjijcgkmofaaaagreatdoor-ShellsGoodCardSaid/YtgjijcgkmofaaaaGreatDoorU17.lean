/-
  heal.Sector: a sector is made whole again. Conditions: the argument reads as an array of which no copy tells anything wrong; the sector is within it.
-/
import Derived.Test.YtgjijcgkmofaaaaGreatDoorU16
import Derived.Shelf.Sort.Plain
import Derived.Shelf.Slices.In.SortNone
import Derived.Shelf.Slices.Turned
import Derived.Shelf.Slices.Equal
import Derived.Ground.Names2Prog
import Derived.Shelf.Slices.Clone
namespace Go.Proofs.YtgjijcgkmofaaaaGreatDoor
set_option linter.unusedSimpArgs false
set_option linter.unusedVariables false
set_option maxRecDepth 100000
set_option maxHeartbeats 8000000
open Go.RowKit
def hTo (a : List Dev) (n : Nat) (s : ByteArray) : Nat → List Dev × Int
 | 0 => (a, 0)
 | 1 => mend a 0 n s
 | _ => ((mend (mend a 0 n s).1 1 n s).1, (mend a 0 n s).2 + (mend (mend a 0 n s).1 1 n s).2)
theorem hTo_succ (a : List Dev) (n : Nat) (s : ByteArray) (k : Nat) (hk : k < 2) : hTo a n s (k + 1) = ((mend (hTo a n s k).1 k n s).1, (hTo a n s k).2 + (mend (hTo a n s k).1 k n s).2) := by
 match k, hk with
 | 0, _ =>
  show mend a 0 n s = ((mend a 0 n s).1, 0 + (mend a 0 n s).2)
  rw [Int.zero_add]
 | 1, _ => rfl
theorem mend_count (a : List Dev) (j n : Nat) (s : ByteArray) : 0 ≤ (mend a j n s).2 ∧ (mend a j n s).2 ≤ 1 := by
 unfold mend; split <;> simp
theorem hTo_part {a : List Dev} {m : Nat} {all : List ByteArray} (h : Part a m all) (h64 : m ≤ 64) {n : Nat} (hn : n < m) (k : Nat) : Part (hTo a n (pl all n) k).1 m all ∧ 0 ≤ (hTo a n (pl all n) k).2 ∧ (hTo a n (pl all n) k).2 ≤ 2 := by
 have h1 := (h.mend h64 (j := 0) (by decide) hn).1
 have b1 := mend_count a 0 n (pl all n)
 have b2 := mend_count (mend a 0 n (pl all n)).1 1 n (pl all n)
 match k with
 | 0 => exact ⟨h, Int.le_refl _, show (0 : Int) ≤ 2 by omega⟩
 | 1 => exact ⟨h1, b1.1, show (mend a 0 n (pl all n)).2 ≤ 2 by omega⟩
 | k + 2 => exact ⟨(h1.mend h64 (j := 1) (by decide) hn).1, show 0 ≤ (mend a 0 n (pl all n)).2 + (mend (mend a 0 n (pl all n)).1 1 n (pl all n)).2 by omega, show (mend a 0 n (pl all n)).2 + (mend (mend a 0 n (pl all n)).1 1 n (pl all n)).2 ≤ 2 by omega⟩
section
variable {P : Program}
theorem conv_run {x : Oper} {a : Act} {w : World} (p : Operand) (src dst e : TypeId) (ho : x.op = .convert src dst p) (hs : P.underlying src = some (.slice e)) (he : P.underlying e = some (.int .u8)) (hd : P.underlying dst = some .string)
  (g n cap : Nat) (l : List UInt8) (hb : Buf e w g l) (hn : n = l.length) (hx : a.eval p = .slice (some ⟨g, 0, none⟩) n cap) : (execOp a.eval x).run P w = .ok (.value (.string (bs l))) w := by
 subst hn
 have hr := hb.back (P := P) src dst hs he hd cap
 unfold execOp
 simp only [ho, Sem.run_bind, hx, hr, Result.andThen_ok, Sem.run_pure]
end
theorem healP_to (a : List Dev) (all : List ByteArray) (n : Nat) : healP a all n = if (arrReadS (hTo a n (pl all n) 2).1 (pt n : Nat)).2.2 = 0 then ((mendP (hTo a n (pl all n) 2).1 (n / 2) (pp all (n / 2))).1, (hTo a n (pl all n) 2).2 + (mendP (hTo a n (pl all n) 2).1 (n / 2) (pp all (n / 2))).2) else hTo a n (pl all n) 2 := by
 unfold healP
 rfl
theorem healSector_any (cs : List Value) (a : List Dev) (m n : Nat) (all : List ByteArray) (w : World) (h : RArr w cs a) (hp : Part a m all) (h16 : 16 ≤ m) (h64 : m ≤ 64) (h2 : m % 2 = 0) (hn : n < m) :
  Calls Tryz.prog 140 #[.agg cs.toArray, .int .i64 n] w fun e w' =>
   ((arrReadS a n).2.2 = 0 ∧ ∃ A c, e = .returned (.tuple #[.agg #[.slice A 3 c], .int .i64 (healP a all n).2, .int .i64 0]) ∧ Ext w w' ∧ OArr 68 w' w.heap.size (.slice A 3 c) (healP a all n).1) ∨
   (¬ (arrReadS a n).2.2 = 0 ∧ e = .returned (.tuple #[.agg #[.slice none 0 0], .int .i64 0, .int .i64 11]) ∧ Ext w w') := by
 obtain ⟨A, c, rfl⟩ := h.form
 have h3 := hp.good.len
 have HP := Lib.hid hp
 have H3 := Lib.hid h3
 have HM := Lib.hid (show 16 ≤ m ∧ m ≤ 64 ∧ m % 2 = 0 ∧ n < m from ⟨h16, h64, h2, hn⟩)
 have HR := Lib.hid h
 have HN := Lib.hid (show I64 n by unfold I64; omega)
 have HPX := Lib.hid (partner_xor n (by omega) (by omega))
 have hpt := pt_lt hn h2
 have HPT := Lib.hid hpt
 have n63 : (n : Int) ≤ 63 := by omega
 clear hp h3 h16 h64 h2 hn h hpt
 go_enter Tryz.func140, Tryz.ntmps140
 go_wp2_with fail
 refine calls_abs (fun W => Ext w W ∧ Blk_ W w.heap.size 30 #[.slice A a.length c] ∧ Blk_ W (w.heap.size + 1) 30 #[.slice none 0 0]) ⟨((Ext.refl _).alloc _).alloc _, (Blk_.new _ _ _).alloc _, Blk_.new1 _ _ _ _⟩ ?_
 rintro w1 ⟨hx1, hb1, hq1⟩
 obtain ⟨b2, hb2⟩ : ∃ b, b = w.heap.size := ⟨_, rfl⟩
 rw [← hb2] at hb1 hq1 ⊢
 have HW := Lib.hid hb2
 have HX1 := Lib.hid hx1
 have HB1 := Lib.hid hb1
 have HQ1 := Lib.hid hq1
 have HR1 := Lib.hid (HR.out.up hx1)
 clear hx1 hb1 hq1 hb2 HR
 refine (arrRead_any [.slice A a.length c] a n w1 HR1.out HN.out).mono ?_
 rintro e w2 ⟨rfl, hx2⟩
 have f0 := (HB1.out.ext hx2).cell 0
 simp at f0
 have y0 := (HQ1.out.ext hx2).cell 0
 have x0 := (HQ1.out.ext hx2).frozen 0
 simp at y0
 have HX2 := Lib.hid hx2
 clear hx2
 rcases HP.out.told HM.out.1 HM.out.2.1 HM.out.2.2.1 HM.out.2.2.2 with ⟨hc, hd⟩ | he
 case inr =>
  have HE := Lib.hid he
  rw [he]
  have HB := Lib.hid ((HQ1.out.ext HX2.out).set 0 (.slice none 0 0))
  clear he f0
  go_wp2_with fail
  refine bodyPost_ret (res_cell_tmp2 rfl rfl HB.out Tryz.underlying30 rfl (by kernel_rfl)) rfl ?_
  right
  rw [HE.out]
  refine ⟨by show ¬ (11 : Int) = 0; decide, rfl, (HX1.out.trans HX2.out).setCell (p := ⟨b2 + 1, 0, none⟩) (by have := HW.out; simp; omega) _⟩
 case inl =>
 have HC := Lib.hid hc
 rw [hc, hd]
 have HZ := Lib.hid (HP.out.size n HM.out.2.2.2)
 clear hc hd
 obtain ⟨s, hs⟩ : ∃ s, s = pl all n := ⟨_, rfl⟩
 have HS := Lib.hid hs
 rw [← hs]
 clear hs
 generalize (arrReadS a n).2.1 = how
 go_wp2_with fail
 refine (arrCopy_any [.slice A a.length c] a w2 (HR1.out.up HX2.out)).mono ?_
 rintro e w3 ⟨A', c', rfl, hx3, ho⟩
 rw [H3.out] at ho ⊢
 obtain ⟨g, rfl, hg1, hg2, _, _⟩ := ho.at_ H3.out
 have HX3 := Lib.hid (HX2.out.trans hx3)
 have HO3 := Lib.hid ho
 have HG := Lib.hid (And.intro hg1 hg2)
 clear ho hx3 f0 y0 x0 hg1 hg2
 go_wp2_with fail
 refine wp_abs (fun W => Ext w1 W ∧ Blk_ W w3.heap.size 30 #[.slice (some ⟨g, 0, none⟩) 3 c'] ∧ OArr 68 W w2.heap.size (.slice (some ⟨g, 0, none⟩) 3 c') a) ⟨HX3.out.alloc _, Blk_.new _ _ _, HO3.out.ext ((Ext.refl _).alloc _)⟩ ?_
 rintro w4 ⟨hx4, hb4, ho4⟩
 obtain ⟨gb, hgb⟩ : ∃ gb, gb = w3.heap.size := ⟨_, rfl⟩
 rw [← hgb] at hb4 ⊢
 have hne1 : ¬ (gb = g) := by have := HG.out; omega
 have hne2 : ¬ (g = gb) := fun e => hne1 e.symm
 obtain ⟨base, hbase⟩ : ∃ b, b = w2.heap.size := ⟨_, rfl⟩
 rw [← hbase] at ho4
 have HBA := Lib.hid (show base ≤ g ∧ b2 + 2 ≤ base ∧ g < gb ∧ w1.heap.size ≤ base by have h1 := HG.out; have h2 := HX2.out.size; have h3 := HQ1.out.lt; omega)
 have HX4 := Lib.hid hx4
 have HB4 := Lib.hid hb4
 have HO4 := Lib.hid ho4
 clear hx4 hb4 ho4 hgb hbase HO3 HG HX3
 go_loopw [10, 35] (fun cnt i wr => ∃ k : Nat, i = .int .i64 k ∧ k ≤ 2 ∧ cnt = .int .i64 (hTo a n s k).2 ∧ w4.grownBy wr (some g) ∧ OArr 68 wr base (.slice (some ⟨g, 0, none⟩) 3 c') (hTo a n s k).1) (fun _ i _ => 2 - (intOf i).toNat)
 case atStart => exact ⟨0, rfl, Nat.zero_le _, rfl, World.grownBy.refl _ _, HO4.out⟩
 case round =>
  obtain ⟨k, rfl, hk, rfl, hgr, ho⟩ := hrel
  have hpk := hTo_part HP.out HM.out.2.1 HM.out.2.2.2 k
  rw [← HS.out] at hpk
  have hbr := HB4.out.grown hgr (fun j hj => by injection hj with hj; omega)
  have q0 := hbr.cell 0
  simp at q0
  by_cases hlt : k < 2
  ·have hsu := hTo_succ a n s k hlt
   obtain ⟨hbg, hgl, hfz, hat⟩ := ho.atg hpk.1.good.len
   obtain ⟨A1, c1, A2, c2, r0, r1, hd⟩ := hat k (by omega)
   have hk2 : (k : Int) < 2 := by omega
   have hk3 : (k : Int) < 3 := by omega
   have hcb : 0 ≤ (hTo a n s k).2 ∧ (hTo a n s k).2 ≤ 2 := hpk.2
   have HD := Lib.hid hd
   have HO := Lib.hid ho
   have HGR := Lib.hid hgr
   have HBR := Lib.hid hbr
   have HBG := Lib.hid (And.intro hbg hgl)
   have HSU := Lib.hid hsu
   have HPK := Lib.hid hpk.1
   have HKL := Lib.hid hlt
   clear hd ho hgr hbr hat hfz hbg hgl hsu hpk
   generalize hTo a n s k = ak at *
   obtain ⟨ad, cnt⟩ := ak
   dsimp only at *
   go_wp2_with fail
   refine (devRead_any [.slice A1 (dv ad k).sec.length c1, .slice A2 (dv ad k).lost.length c2] (dv ad k) n n wr HD.out HN.out HN.out).mono ?_
   rintro e w6 ⟨rfl, hx6⟩
   have q6 := hx6.cell q0
   have r06 := hx6.cell r0
   have r16 := hx6.cell r1
   have HX6 := Lib.hid hx6
   clear hx6 q0 r0 r1
   by_cases hc : (readS (dv ad k) n n).2 = 0
   ·have hsame : (readS (dv ad k) n n).1 = s := by
     rw [HS.out]
     have hk' := HKL.out
     match k, hk' with
     | 0, _ => exact HPK.out.r0 n HM.out.2.2.2 hc
     | 1, _ => exact HPK.out.r1 n HM.out.2.2.2 hc
    have hmd : mend ad k n s = (ad, 0) := by unfold mend; rw [if_pos hc]
    rw [hc, hsame]
    have HMD := Lib.hid hmd
    clear hc hsame hmd
    go_wp2_with fail
    go_roundw
    case rel =>
     refine ⟨k + 1, by go_num, by have := HKL.out; omega, ?_, HGR.out.trans (HX6.out.by_ _), ?_⟩
     ·rw [HSU.out, HMD.out]; simp
     ·rw [HSU.out, HMD.out]; exact HO.out.ext HX6.out
    case measure => have := HKL.out; (simp [intOf]; try omega)
   ·have hmd : mend ad k n s = (ad.set k (writeS (dv ad k) n n s).1, 1) := by unfold mend; rw [if_neg hc]
    have hcb2 : ((readS (dv ad k) n n).2 == 0) = false := by simpa using hc
    have HMD := Lib.hid hmd
    clear hc hmd
    generalize (readS (dv ad k) n n).2 = rc at *
    generalize (readS (dv ad k) n n).1 = rd at *
    go_wp2_with fail
    refine wp_region_all (S := fun W' => W'.cell? ⟨gb, 0, none⟩ = some (.slice (some ⟨g, 0, none⟩) 3 c')) (by kernel_rfl) ?_
    have hS0 : (fun W' => W'.cell? ⟨gb, 0, none⟩ = some (.slice (some ⟨g, 0, none⟩) 3 c')) w6.drew := q6
    refine tkL 0 rfl (fun w' hS => by (try dsimp only at hS); go_simp; rfl) hS0 ?_
    refine tkL 1 rfl (fun w' hS => by (try dsimp only at hS); go_simp; rfl) hS0 ?_
    refine tkL 2 rfl (fun w' hS => by (try dsimp only at hS); go_simp; rfl) hS0 ?_
    try simp only [Act.put, List.setIfInBounds_toArray, List.set_cons_zero, List.set_cons_succ]
    refine tkL 3 rfl (fun w' hS => by (try dsimp only at hS); go_simp; rfl) hS0 ?_
    refine tkL 4 rfl (fun w' hS => by (try dsimp only at hS); go_simp; rfl) hS0 ?_
    refine tkL 5 rfl (fun w' hS => by (try dsimp only at hS); go_simp; rfl) hS0 ?_
    try simp only [Act.put, List.setIfInBounds_toArray, List.set_cons_zero, List.set_cons_succ]
    refine tkL 6 rfl (fun w' hS => by (try dsimp only at hS); go_simp; rfl) hS0 ?_
    refine tkL 8 rfl (fun w' hS => by (try dsimp only at hS); go_simp; rfl) hS0 ?_
    refine tkL 9 rfl (fun w' hS => by (try dsimp only at hS); go_simp; rfl) hS0 ?_
    try simp only [Act.put, List.setIfInBounds_toArray, List.set_cons_zero, List.set_cons_succ]
    refine tkL 10 rfl (fun w' hS => by (try dsimp only at hS); go_simp; rfl) hS0 ?_
    try simp only [Act.put, List.setIfInBounds_toArray, List.set_cons_zero, List.set_cons_succ]
    refine wpAnyH_oneL (i := 7) rfl (by kernel_rfl) rfl (fun K hK => ?_)
    go_wp2_with fail
    refine hK _ _ hS0 ?_
    clear hK K
    try simp only [Act.put, List.setIfInBounds_toArray, List.set_cons_zero, List.set_cons_succ]
    refine wpAnyH_oneL (i := 11) rfl (by kernel_rfl) rfl (fun K hK => ?_)
    go_wp2_with fail
    refine (devWrite_any [.slice A1 (dv ad k).sec.length c1, .slice A2 (dv ad k).lost.length c2] (dv ad k) n n s _ (HD.out.up (HX6.out.trans (Ext.refl _).drew)) HN.out HN.out (by rw [HS.out, HZ.out]; decide)).mono ?_
    rintro e w7 ⟨B1, k1, B2, k2, rfl, hx7, hod⟩
    have e2 : Ext wr w7 := (HX6.out.trans (Ext.refl w6).drew).trans hx7
    have e6 : Ext w6 w7 := (Ext.refl w6).drew.trans hx7
    have hS2 : (fun W' => W'.cell? ⟨gb, 0, none⟩ = some (.slice (some ⟨g, 0, none⟩) 3 c')) w7 := e6.cell q6
    refine hK _ _ hS2 ?_
    clear hK K
    refine tkL 12 rfl (fun w' hS => by (try dsimp only at hS); go_simp; rfl) hS2 ?_
    refine tkL 13 rfl (fun w' hS => by (try dsimp only at hS); go_simp; rfl) hS2 ?_
    refine tkL 14 rfl (fun w' hS => by (try dsimp only at hS); go_simp; rfl) hS2 ?_
    try simp only [Act.put, List.setIfInBounds_toArray, List.set_cons_zero, List.set_cons_succ]
    refine tkL 15 rfl (fun w' hS => by (try dsimp only at hS); go_simp; rfl) hS2 ?_
    try simp only [Act.put, List.setIfInBounds_toArray, List.set_cons_zero, List.set_cons_succ]
    refine wpAnyH_oneL (i := 16) rfl (by kernel_rfl) rfl (fun K hK => ?_)
    have ho2 := HO.out.ext e2
    have hfz2 := (ho2.atg HPK.out.good.len).2.2.1
    have z0 := hfz2 (k * 2)
    have z1 := hfz2 (k * 2 + 1)
    have r02 := e6.cell r06
    have r12 := e6.cell r16
    have hgw2 : g < w7.heap.size := by have := HBG.out.2; have := e2.size; omega
    have hbase2 : base ≤ w6.drew.heap.size := by have := HBG.out; have := HX6.out.size; simp; omega
    have hng := hod.dev.newG hod.new1 hod.new2 (show g < w6.drew.heap.size by have := HBG.out.2; have := HX6.out.size; simp; omega)
    have hset := ho2.set (i := k) (by have := HPK.out.good.len; have := HKL.out; omega) hng (hod.new1.mono hbase2) (hod.new2.mono hbase2)
    have HSET := Lib.hid hset
    have HG2 := Lib.hid ((HGR.out.trans (e2.by_ _)).trans ((setRow_by w7 g (k * 2) (.slice B1 (writeS (dv ad k) n n s).1.sec.length k1)).trans (setRow_by _ g (k * 2 + 1) (.slice B2 (writeS (dv ad k) n n s).1.lost.length k2))))
    have hS4 : ((w7.setCell ⟨g, k * 2, none⟩ (.slice B1 (writeS (dv ad k) n n s).1.sec.length k1)).setCell ⟨g, k * 2 + 1, none⟩ (.slice B2 (writeS (dv ad k) n n s).1.lost.length k2)).cell? ⟨gb, 0, none⟩ = some (.slice (some ⟨g, 0, none⟩) 3 c') := by
     rw [World.cell?_setCell_other _ _ _ _ (by simp [hne1, hne2]), World.cell?_setCell_other _ _ _ _ (by simp [hne1, hne2])]
     exact hS2
    rw [show (ad.set k (writeS (dv ad k) n n s).1) = (hTo a n s (k + 1)).1 by rw [HSU.out, HMD.out]] at HSET
    clear ho2 hfz2 hng hset hod hS0 hx7 e2 e6
    go_wp2_with fail
    refine hK _ _ hS4 ?_
    clear hK K
    refine wpAnyH_done (by kernel_rfl) ?_ _
    go_wp2_with fail
    go_roundw
    case rel =>
     refine ⟨k + 1, by go_num, by have := HKL.out; omega, ?_, HG2.out, HSET.out⟩
     rw [HSU.out, HMD.out]
    case measure => have := HKL.out; (simp [intOf]; try omega)
  ·obtain rfl : k = 2 := by omega
   have hyp := hpk.1
   have hgood := hyp.good
   have h3y := hgood.len
   have hpr := hyp.pr HM.out.1 HM.out.2.1 HM.out.2.2.1 HM.out.2.2.2
   have hto := healP_to a all n
   rw [← HS.out] at hto
   have hcb : 0 ≤ (hTo a n s 2).2 ∧ (hTo a n s 2).2 ≤ 2 := hpk.2
   have hy0 : (arrReadS (hTo a n s 2).1 n).2.2 = 0 := by
    have hf := (HP.out.mend HM.out.2.1 (j := 0) (by decide) HM.out.2.2.2).1
    have hc := (hf.mendC HM.out.2.1 (j := 1) (by decide) HM.out.2.2.2).1
    rw [HS.out]
    rw [HS.out] at hyp
    exact (hyp.code HM.out.1 HM.out.2.1 HM.out.2.2.1 HM.out.2.2.2).2 (.inr (.inl hc))
   have htc := hgood.arr HM.out.1 HM.out.2.2.1 HM.out.2.2.2
   have HYP := Lib.hid hyp
   have H3Y := Lib.hid h3y
   have HPR := Lib.hid hpr
   have HTO := Lib.hid hto
   have HY0 := Lib.hid hy0
   have HTC := Lib.hid htc
   have HO := Lib.hid ho
   have HGR := Lib.hid hgr
   have HBR := Lib.hid hbr
   clear hyp hgood h3y hpr hto hy0 htc ho hgr hbr hpk hk hlt
   generalize hTo a n s 2 = yy at *
   obtain ⟨y, cnt⟩ := yy
   dsimp only at *
   go_wp2_with fail
   refine (parityRight_any [.slice (some ⟨g, 0, none⟩) 3 c'] y n wr (by have := HO.out.rarr (by rw [H3Y.out]; decide); exact this) HN.out HTC.out HPR.out).mono ?_
   rintro e w6 ⟨rfl, hx6⟩
   have q6 := hx6.cell q0
   have y6 := ((HQ1.out.ext (HX4.out)).grown HGR.out (fun j hj => by injection hj with hj; have := HBA.out; omega)).ext hx6
   have y0 := y6.cell 0
   have x0 := y6.frozen 0
   simp at y0
   have HX6 := Lib.hid hx6
   have HY6 := Lib.hid y6
   clear hx6 q0 y6
   by_cases hr : (arrReadS y (pt n : Nat)).2.2 = 0
   case neg =>
    have hpf : parRightS y n = (false, false) := by unfold parRightS; rw [partner_pt, if_pos (.inr hr)]
    have HHE := Lib.hid (show healP a all n = (y, cnt) by rw [HTO.out, if_neg hr])
    rw [hpf]
    have HBF := Lib.hid (HY6.out.set 0 (.slice (some ⟨g, 0, none⟩) 3 c'))
    clear hr hpf
    go_wp2_with fail
    refine bodyPost_ret (res_cell_tmp2 rfl rfl HBF.out Tryz.underlying30 rfl (by kernel_rfl)) rfl ?_
    left
    rw [HHE.out]
    exact ⟨HC.out, some ⟨g, 0, none⟩, c', rfl, ((HX1.out.trans HX4.out).grown (HGR.out.trans (HX6.out.by_ _)) (fun j hj => by injection hj with hj; have := HBA.out; have := HW.out; omega)).setCell (p := ⟨b2 + 1, 0, none⟩) (by have := HW.out; simp; omega) _, ((HO.out.ext HX6.out).far (p := ⟨b2 + 1, 0, none⟩) (by have := HBA.out; simp; omega) _).base (by have := HBA.out; have := HW.out; omega)⟩
   case pos =>
   have hpf := par_pr HPR.out HY0.out (by rw [partner_pt]; exact hr)
   by_cases hq : (parS y n).2 = 0
   case pos =>
    have HHE := Lib.hid (show healP a all n = (y, cnt) by
     rw [HTO.out, if_pos hr]
     have : mendP y (n / 2) (pp all (n / 2)) = (y, 0) := by unfold mendP; rw [← parS_nat, if_pos hq]
     rw [this]
     simp)
    rw [hpf, decide_eq_true hq]
    have HBF := Lib.hid (HY6.out.set 0 (.slice (some ⟨g, 0, none⟩) 3 c'))
    clear hr hpf hq
    go_wp2_with fail
    refine bodyPost_ret (res_cell_tmp2 rfl rfl HBF.out Tryz.underlying30 rfl (by kernel_rfl)) rfl ?_
    left
    rw [HHE.out]
    exact ⟨HC.out, some ⟨g, 0, none⟩, c', rfl, ((HX1.out.trans HX4.out).grown (HGR.out.trans (HX6.out.by_ _)) (fun j hj => by injection hj with hj; have := HBA.out; have := HW.out; omega)).setCell (p := ⟨b2 + 1, 0, none⟩) (by have := HW.out; simp; omega) _, ((HO.out.ext HX6.out).far (p := ⟨b2 + 1, 0, none⟩) (by have := HBA.out; simp; omega) _).base (by have := HBA.out; have := HW.out; omega)⟩
   case neg =>
   have HHE := Lib.hid (show healP a all n = (y.set 2 (writeS (dv y 2) ((n / 2 : Nat) : Int) (512 + ((n / 2 : Nat) : Int)) (pp all (n / 2))).1, cnt + 1) by
    rw [HTO.out, if_pos hr]
    have : mendP y (n / 2) (pp all (n / 2)) = (y.set 2 (writeS (dv y 2) ((n / 2 : Nat) : Int) (512 + ((n / 2 : Nat) : Int)) (pp all (n / 2))).1, 1) := by unfold mendP; rw [← parS_nat, if_neg hq]
    rw [this])
   rw [hpf, decide_eq_false hq]
   have hT := HYP.out.told0 HM.out.1 HM.out.2.1 HM.out.2.2.1 HPT.out hr
   have HR := Lib.hid hr
   have hTz := HYP.out.size _ HPT.out
   have hpe := pp_eq all n
   rw [← HS.out] at hpe
   obtain ⟨T, hTT⟩ : ∃ T, T = pl all (pt n) := ⟨_, rfl⟩
   rw [← hTT] at hT hTz hpe
   have HT := Lib.hid hT
   have HTZ := Lib.hid hTz
   have HPE := Lib.hid hpe
   have HSZ := Lib.hid (show s.size = 24 by rw [HS.out]; exact HZ.out)
   clear hr hpf hq hT hTz hpe hTT
   go_wp2_with fail
   rw [HPX.out]
   refine (arrRead_any [.slice (some ⟨g, 0, none⟩) 3 c'] y (partner n) w6 (by have := (HO.out.ext HX6.out).rarr (by rw [H3Y.out]; decide); exact this) (by have := HPT.out; have := HM.out; rw [partner_pt]; unfold I64; omega)).mono ?_
   rintro e w7 ⟨rfl, hx7⟩
   rw [partner_pt, HR.out, HT.out]
   have q7 := hx7.cell q6
   have HX7 := Lib.hid (HX6.out.trans hx7)
   have HY7 := Lib.hid (HY6.out.ext hx7)
   clear hx7 q6 y0 x0 HX6 HY6
   generalize (arrReadS y (pt n : Nat)).2.1 = how2
   go_wp2_with (refine wpList_tobytes (.tmp 98) 9 95 5 rfl rfl Tryz.underlying9 Tryz.underlying95 Tryz.underlying5 s rfl ?_)
   intro g2 cap w8 hg2 ex8 hb8 hcap
   have HB8 := Lib.hid hb8
   have HX8 := Lib.hid ex8
   have HG8 := Lib.hid hg2
   clear hb8 ex8 hg2
   go_wp2_with fail
   go_loopw [102] (fun i wr2 => ∃ k : Nat, i = .int .i64 k ∧ k ≤ s.size ∧ Ext w7 wr2 ∧ Buf 5 wr2 g2 (xorTo s T k)) (fun i _ => s.size - (intOf i).toNat)
   case atStart => exact ⟨0, rfl, Nat.zero_le _, HX8.out, by rw [xorTo_zero]; exact HB8.out⟩
   case round =>
    clear HB8 HX8
    obtain ⟨k, rfl, hk, hx, hb⟩ := hrel
    have HE := Lib.hid (show s.size = T.size by rw [HSZ.out, HTZ.out])
    by_cases hlt : k < s.size
    ·have hlt2 : k < T.size := by have := HE.out; omega
     have hki : (k : Int) < (s.size : Int) := by omega
     have hk24 : (k : Int) < 24 := by have := HSZ.out; omega
     have hki2 : (k : Int) < (T.size : Int) := by omega
     have hbl : k < (xorTo s T k).length := by rw [xorTo_len HE.out k hk]; exact hlt
     have bp := hb.cell k hbl
     have bz := hb.frozen k hbl
     rw [xorTo_at HE.out k hlt] at bp
     have hxb := xor_byte (s[k]) (T[k])
     have c0 := u8_hi s[k]
     have c1 := u8_hi T[k]
     have hset := hb.set k (((s[k] ^^^ T[k]).toNat : Int)) (u8_lo _) (u8_hi _)
     rw [byte_u8, xorTo_succ HE.out k hlt] at hset
     have HSET := Lib.hid hset
     have HXB := Lib.hid hxb
     clear hb hset hbl hxb
     go_wp2_with fail
     refine wp_region_begin (S := fun W' => W'.cell? ⟨g2, k, none⟩ = some (.int .u8 (s[k].toNat : Int))) (n := 9) (by kernel_rfl) rfl (by kernel_rfl) rfl ?_
     have hS0 : (fun W' => W'.cell? ⟨g2, k, none⟩ = some (.int .u8 (s[k].toNat : Int))) wr.drew := bp
     refine tkL 0 rfl (fun w' hS => by (try dsimp only at hS); go_simp; rfl) hS0 ?_
     refine tkL 1 rfl (fun w' hS => by (try dsimp only at hS); go_simp; rfl) hS0 ?_
     refine tkL 2 rfl (fun w' hS => by (try dsimp only at hS); go_simp; rfl) hS0 ?_
     try simp only [Act.put, List.setIfInBounds_toArray, List.set_cons_zero, List.set_cons_succ]
     refine tkL 3 rfl (fun w' hS => by (try dsimp only at hS); go_simp; rfl) hS0 ?_
     refine tkL 4 rfl (fun w' hS => by (try dsimp only at hS); go_simp; rfl) hS0 ?_
     refine tkL 5 rfl (fun w' hS => by (try dsimp only at hS); go_simp; rfl) hS0 ?_
     try simp only [Act.put, List.setIfInBounds_toArray, List.set_cons_zero, List.set_cons_succ]
     refine tkL 6 rfl (fun w' hS => by (try dsimp only at hS); go_simp; rfl) hS0 ?_
     refine tkL 7 rfl (fun w' hS => by (try dsimp only at hS); go_simp; rfl) hS0 ?_
     try simp only [Act.put, List.setIfInBounds_toArray, List.set_cons_zero, List.set_cons_succ]
     rw [HXB.out]
     refine tkL 8 rfl (fun w' hS => by (try dsimp only at hS); go_simp; rfl) hS0 ?_
     try simp only [Act.put, List.setIfInBounds_toArray, List.set_cons_zero, List.set_cons_succ]
     refine wpAnyH_endL (by kernel_rfl) (fun K hK => ?_)
     go_wp2_with fail
     go_roundw
     case rel => exact ⟨k + 1, by go_num, by omega, (hx.drew).setCell (by have := HG8.out; first | exact this | (dsimp only; omega)) _, HSET.out⟩
     case measure => simp [intOf]; omega
    ·obtain rfl : k = s.size := by omega
     have hl24 := xorTo_len HE.out s.size hk
     have hfin := xorTo_end HE.out
     rw [← HPE.out] at hfin
     have HLN := Lib.hid hl24
     have HFN := Lib.hid hfin
     have HBB := Lib.hid hb
     have hxo := HX7.out.trans hx
     have hox := HO.out.ext hxo
     obtain ⟨hbg, hgl, hfz, hat⟩ := hox.atg H3Y.out
     obtain ⟨A1, c1, A2, c2, r0, r1, hd⟩ := hat 2 (by omega)
     simp at r0 r1
     have qe := hx.cell q7
     have HD := Lib.hid hd
     have HOX := Lib.hid hox
     have HBG := Lib.hid (And.intro hbg hgl)
     have HXO := Lib.hid hxo
     have HYE := Lib.hid (HY7.out.ext hx)
     have b1 : (0 : Int) ≤ (n : Int) / 2 := by omega
     have b2' : (n : Int) / 2 ≤ 31 := by omega
     have hdv : (n : Int) / 2 = ((n / 2 : Nat) : Int) := by omega
     have HDV := Lib.hid hdv
     have hne3 : g2 ≠ g := by have h1 := HBA.out; have h2 := HBR.out.lt; have h3 := HX7.out.size; have h4 := HG8.out; omega
     clear hb hfin hl24 hox hat hfz hd hbg hgl hxo hx q7 hlt hdv hk
     obtain ⟨len, hlen⟩ : ∃ l, l = s.size := ⟨_, rfl⟩
     have HLEN := Lib.hid hlen
     rw [← hlen] at HBB HLN HFN ⊢
     clear hlen
     go_wp2_with fail
     refine wp_region_all (S := fun W' => W'.cell? ⟨gb, 0, none⟩ = some (.slice (some ⟨g, 0, none⟩) 3 c') ∧ Buf 5 W' g2 (xorTo s T len)) (by kernel_rfl) ?_
     have hS0 : (fun W' => W'.cell? ⟨gb, 0, none⟩ = some (.slice (some ⟨g, 0, none⟩) 3 c') ∧ Buf 5 W' g2 (xorTo s T len)) wr.drew := ⟨qe, HBB.out.ext (Ext.refl _).drew⟩
     refine tkL 0 rfl (fun w' hS => by obtain ⟨hS, _⟩ := hS; go_simp; rfl) hS0 ?_
     refine tkL 1 rfl (fun w' hS => by obtain ⟨hS, _⟩ := hS; go_simp; rfl) hS0 ?_
     refine tkL 2 rfl (fun w' hS => by obtain ⟨hS, _⟩ := hS; go_simp; rfl) hS0 ?_
     try simp only [Act.put, List.setIfInBounds_toArray, List.set_cons_zero, List.set_cons_succ]
     refine tkL 3 rfl (fun w' hS => by obtain ⟨hS, _⟩ := hS; go_simp; rfl) hS0 ?_
     refine tkL 4 rfl (fun w' hS => by obtain ⟨hS, _⟩ := hS; go_simp; rfl) hS0 ?_
     refine tkL 6 rfl (fun w' hS => by obtain ⟨hS, _⟩ := hS; go_simp; rfl) hS0 ?_
     try simp only [Act.put, List.setIfInBounds_toArray, List.set_cons_zero, List.set_cons_succ]
     refine tkL 7 rfl (fun w' hS => by obtain ⟨hS, _⟩ := hS; go_simp; rfl) hS0 ?_
     refine tkL 8 rfl (fun w' hS => by obtain ⟨hS, _⟩ := hS; go_simp; rfl) hS0 ?_
     refine tkL 9 rfl (fun w' hS => by obtain ⟨hS, _⟩ := hS; go_simp; rfl) hS0 ?_
     try simp only [Act.put, List.setIfInBounds_toArray, List.set_cons_zero, List.set_cons_succ]
     refine tkL 10 rfl (fun w' hS => by obtain ⟨hS, _⟩ := hS; go_simp; rfl) hS0 ?_
     refine tkL 11 rfl (fun w' hS => by obtain ⟨hS, _⟩ := hS; go_simp; rfl) hS0 ?_
     try simp only [Act.put, List.setIfInBounds_toArray, List.set_cons_zero, List.set_cons_succ]
     refine wpAnyH_takeL (i := 12) (v := .string (bs (xorTo s T len))) rfl (by kernel_rfl) (fun _ _ _ h => h) rfl ?_ hS0 ?_
     ·intro w' hS
      exact conv_run (.tmp 127) 95 9 5 rfl Tryz.underlying95 Tryz.underlying5 Tryz.underlying9 g2 len cap _ hS.2 HLN.out.symm rfl
     rw [HFN.out]
     try simp only [Act.put, List.setIfInBounds_toArray, List.set_cons_zero, List.set_cons_succ]
     refine wpAnyH_oneL (i := 5) rfl (by kernel_rfl) rfl (fun K hK => ?_)
     go_wp2_with fail
     refine hK _ _ hS0 ?_
     clear hK K
     try simp only [Act.put, List.setIfInBounds_toArray, List.set_cons_zero, List.set_cons_succ]
     refine wpAnyH_oneL (i := 13) rfl (by kernel_rfl) rfl (fun K hK => ?_)
     go_wp2_with fail
     rw [HDV.out]
     refine (devWrite_any [.slice A1 (dv y 2).sec.length c1, .slice A2 (dv y 2).lost.length c2] (dv y 2) ((n / 2 : Nat) : Int) (512 + ((n / 2 : Nat) : Int)) (pp all (n / 2)) _ (HD.out.up (Ext.refl _).drew) ⟨by omega, by omega⟩ ⟨by omega, by omega⟩ (by have := HTZ.out; rw [HPE.out, xorS_size (by rw [HSZ.out, HTZ.out]), HSZ.out]; decide)).mono ?_
     rintro e w9 ⟨B1, k1, B2, k2, rfl, hx9, hod⟩
     obtain ⟨W9, hW9⟩ : ∃ W, W = writeS (dv y 2) ((n / 2 : Nat) : Int) (512 + ((n / 2 : Nat) : Int)) (pp all (n / 2)) := ⟨_, rfl⟩
     rw [← hW9] at hod ⊢
     have HW9 := Lib.hid hW9
     clear hW9
     have e2 : Ext wr w9 := (Ext.refl wr).drew.trans hx9
     have hS2 : (fun W' => W'.cell? ⟨gb, 0, none⟩ = some (.slice (some ⟨g, 0, none⟩) 3 c') ∧ Buf 5 W' g2 (xorTo s T len)) w9 := ⟨e2.cell qe, HBB.out.ext e2⟩
     refine hK _ _ hS2 ?_
     clear hK K
     refine tkL 14 rfl (fun w' hS => by obtain ⟨hS, _⟩ := hS; go_simp; rfl) hS2 ?_
     refine tkL 15 rfl (fun w' hS => by obtain ⟨hS, _⟩ := hS; go_simp; rfl) hS2 ?_
     refine tkL 16 rfl (fun w' hS => by obtain ⟨hS, _⟩ := hS; go_simp; rfl) hS2 ?_
     try simp only [Act.put, List.setIfInBounds_toArray, List.set_cons_zero, List.set_cons_succ]
     refine tkL 17 rfl (fun w' hS => by obtain ⟨hS, _⟩ := hS; go_simp; rfl) hS2 ?_
     try simp only [Act.put, List.setIfInBounds_toArray, List.set_cons_zero, List.set_cons_succ]
     refine wpAnyH_oneL (i := 18) rfl (by kernel_rfl) rfl (fun K hK => ?_)
     have ho2 := HOX.out.ext e2
     have hfz2 := (ho2.atg H3Y.out).2.2.1
     have z0 := hfz2 4
     have z1 := hfz2 5
     have r02 := e2.cell r0
     have r12 := e2.cell r1
     have hgw2 : g < w9.heap.size := by have := HBG.out.2; have := e2.size; omega
     have hbase2 : base ≤ wr.drew.heap.size := by have := HBG.out; simp; omega
     have hng := hod.dev.newG hod.new1 hod.new2 (show g < wr.drew.heap.size by have := HBG.out.2; simp; omega)
     have hset := ho2.set (i := 2) (by have := H3Y.out; omega) hng (hod.new1.mono hbase2) (hod.new2.mono hbase2)
     have HSET := Lib.hid hset
     have hby := (e2.by_ (some g)).trans ((setRow_by w9 g 4 (.slice B1 W9.1.sec.length k1)).trans (setRow_by _ g 5 (.slice B2 W9.1.lost.length k2)))
     have hS4 : ((w9.setCell ⟨g, 4, none⟩ (.slice B1 W9.1.sec.length k1)).setCell ⟨g, 5, none⟩ (.slice B2 W9.1.lost.length k2)).cell? ⟨gb, 0, none⟩ = some (.slice (some ⟨g, 0, none⟩) 3 c') := by
      rw [World.cell?_setCell_other _ _ _ _ (by simp [hne1, hne2]), World.cell?_setCell_other _ _ _ _ (by simp [hne1, hne2])]
      exact hS2.1
     have hy4 := HYE.out.grown hby (fun j hj => by injection hj with hj; have := HBA.out; omega)
     have y0 := hy4.cell 0
     have x0 := hy4.frozen 0
     simp at y0
     have HG2 := Lib.hid (HGR.out.trans ((HXO.out.by_ _).trans hby))
     have HBF := Lib.hid (hy4.set 0 (.slice (some ⟨g, 0, none⟩) 3 c'))
     clear ho2 hfz2 hng hset hod hS0 hx9 e2 hby hy4
     go_wp2_with fail
     refine hK _ _ ⟨hS4, (hS2.2.far (p := ⟨g, 4, none⟩) hne3 _).far (p := ⟨g, 5, none⟩) hne3 _⟩ ?_
     clear hK K
     refine wpAnyH_done (by kernel_rfl) ?_ _
     go_wp2_with fail
     refine bodyPost_ret (res_cell_tmp2 rfl rfl HBF.out Tryz.underlying30 rfl (by kernel_rfl)) rfl ?_
     left
     rw [HHE.out, ← HW9.out]
     exact ⟨HC.out, some ⟨g, 0, none⟩, c', rfl, ((HX1.out.trans HX4.out).grown HG2.out (fun j hj => by injection hj with hj; have := HBA.out; have := HW.out; omega)).setCell (p := ⟨b2 + 1, 0, none⟩) (by have := HW.out; simp; omega) _, (HSET.out.far (p := ⟨b2 + 1, 0, none⟩) (by have := HBA.out; simp; omega) _).base (by have := HBA.out; have := HW.out; omega)⟩
def bTo (a : List Dev) (n : Int) : Nat → Int
 | 0 => 0
 | 1 => b2i (decide ((readS (dv a 0) n n).2 ≠ 0))
 | _ => b2i (decide ((readS (dv a 0) n n).2 ≠ 0)) + b2i (decide ((readS (dv a 1) n n).2 ≠ 0))
theorem b2i_range (b : Bool) : 0 ≤ b2i b ∧ b2i b ≤ 1 := by cases b <;> decide
theorem bTo_range (a : List Dev) (n : Int) (k : Nat) : 0 ≤ bTo a n k ∧ bTo a n k ≤ 2 := by
 have h0 := b2i_range (decide ((readS (dv a 0) n n).2 ≠ 0))
 have h1 := b2i_range (decide ((readS (dv a 1) n n).2 ≠ 0))
 match k with
 | 0 => exact ⟨Int.le_refl 0, show (0 : Int) ≤ 2 by omega⟩
 | 1 => exact ⟨h0.1, show b2i (decide ((readS (dv a 0) n n).2 ≠ 0)) ≤ 2 by omega⟩
 | k + 2 => exact ⟨show 0 ≤ b2i (decide ((readS (dv a 0) n n).2 ≠ 0)) + b2i (decide ((readS (dv a 1) n n).2 ≠ 0)) by omega, show b2i (decide ((readS (dv a 0) n n).2 ≠ 0)) + b2i (decide ((readS (dv a 1) n n).2 ≠ 0)) ≤ 2 by omega⟩
theorem bTo_succ (a : List Dev) (n : Int) (k : Nat) (hk : k < 2) : bTo a n (k + 1) = bTo a n k + b2i (decide ((readS (dv a k) n n).2 ≠ 0)) := by
 match k, hk with
 | 0, _ =>
  show b2i (decide ((readS (dv a 0) n n).2 ≠ 0)) = 0 + b2i (decide ((readS (dv a 0) n n).2 ≠ 0))
  rw [Int.zero_add]
 | 1, _ => rfl
theorem healBad_any (cs : List Value) (a : List Dev) (m n : Nat) (all : List ByteArray) (w : World) (h : RArr w cs a) (hp : Part a m all) (h16 : 16 ≤ m) (h64 : m ≤ 64) (h2 : m % 2 = 0) (hn : n < m) :
  Calls Tryz.prog 143 #[.agg cs.toArray, .int .i64 n] w fun e w' => e = .returned (.tuple #[.int .i64 (badS a n).1, .int .i64 0]) ∧ Ext w w' := by
 obtain ⟨A, c, rfl⟩ := h.form
 have h3 := hp.good.len
 have htc := hp.good.arr h16 h2 hn
 have hpr := hp.pr h16 h64 h2 hn
 have hbs : (badS a n).1 = bTo a n 2 + b2i (decide ((n : Int) % 2 = 0) && !(parRightS a n).1) := by unfold badS; rw [if_neg (by simpa using htc)]; rfl
 have htold := hp.told h16 h64 h2 hn
 have H3 := Lib.hid h3
 have HTC := Lib.hid htc
 have HPR := Lib.hid hpr
 have HBS := Lib.hid hbs
 have HR := Lib.hid h
 have HN := Lib.hid (show I64 n by unfold I64; omega)
 have n63 : (n : Int) ≤ 63 := by omega
 clear hp h3 htc hpr hbs h h16 h64 h2 hn
 go_enter Tryz.func143, Tryz.ntmps143
 go_wp2_with fail
 refine calls_abs (fun W => Ext w W ∧ Blk_ W w.heap.size 30 #[.slice A a.length c]) ⟨(Ext.refl _).alloc _, Blk_.new _ _ _⟩ ?_
 rintro w1 ⟨hx1, hb1⟩
 obtain ⟨b2, hb2⟩ : ∃ b, b = w.heap.size := ⟨_, rfl⟩
 rw [← hb2] at hb1 ⊢
 have HX1 := Lib.hid hx1
 have HB1 := Lib.hid hb1
 have HR1 := Lib.hid (HR.out.up hx1)
 clear hx1 hb1 hb2 HR
 obtain ⟨b, o, rfl, hl⟩ := HR1.out.look 0 (by have := H3.out; omega)
 have HL := Lib.hid hl
 clear hl
 refine (arrRead_any [.slice (some ⟨b, o, none⟩) a.length c] a n w1 HR1.out HN.out).mono ?_
 rintro e w2 ⟨rfl, hx2⟩
 have HX2 := Lib.hid hx2
 clear hx2
 rcases htold with ⟨e, _⟩ | e
 ·rw [e]
  clear e
  generalize (arrReadS a n).2.1 = how
  generalize (arrReadS a n).1 = s0
  go_wp2_with fail
  go_loopw [9, 29] (fun cnt i wr => ∃ k : Nat, i = .int .i64 k ∧ k ≤ 2 ∧ cnt = .int .i64 (bTo a n k) ∧ Ext w1 wr) (fun _ i _ => 2 - (intOf i).toNat)
  case atStart => exact ⟨0, rfl, Nat.zero_le _, rfl, HX2.out⟩
  case round =>
   obtain ⟨k, rfl, hk, rfl, hx⟩ := hrel
   have q0 := (HB1.out.ext hx).cell 0
   simp at q0
   have hbr := bTo_range a n k
   by_cases hlt : k < 2
   ·have hsu := bTo_succ a n k hlt
    obtain ⟨A1, c1, A2, c2, r0, r1, hd⟩ := HL.out k (by have := H3.out; omega)
    have r0' := hx.cell r0
    have r1' := hx.cell r1
    have hk2 : (k : Int) < 2 := by omega
    have hk3 : (k : Int) < (a.length : Int) := by have := H3.out; omega
    have HD := Lib.hid (hd.up hx)
    have HX := Lib.hid hx
    have HSU := Lib.hid hsu
    have HKL := Lib.hid hlt
    clear r0 r1 hd hx hsu hk hlt
    generalize bTo a n k = cnt at *
    go_wp2_with fail
    refine (devRead_any [.slice A1 (dv a k).sec.length c1, .slice A2 (dv a k).lost.length c2] (dv a k) n n wr HD.out HN.out HN.out).mono ?_
    rintro e w6 ⟨rfl, hx6⟩
    have HX6 := Lib.hid (HX.out.trans hx6)
    clear hx6 r0' r1' q0
    by_cases hc : (readS (dv a k) n n).2 = 0
    ·have he : bTo a n (k + 1) = cnt := by rw [HSU.out, decide_eq_false (by simpa using hc)]; simp [b2i]
     have HE := Lib.hid he
     rw [hc]
     clear hc he
     go_wp2_with fail
     go_roundw
     case rel => exact ⟨k + 1, by go_num, by have := HKL.out; omega, by rw [HE.out], HX6.out⟩
     case measure => have := HKL.out; (simp [intOf]; try omega)
    ·have he : bTo a n (k + 1) = cnt + 1 := by rw [HSU.out, decide_eq_true (by simpa using hc)]; simp [b2i]
     have HE := Lib.hid he
     have hcb : ((readS (dv a k) n n).2 != 0) = true := by simpa using hc
     clear hc he
     generalize (readS (dv a k) n n).2 = rcc at *
     generalize (readS (dv a k) n n).1 = rdd at *
     go_wp2_with fail
     go_roundw
     case rel => exact ⟨k + 1, by go_num, by have := HKL.out; omega, by rw [HE.out], HX6.out⟩
     case measure => have := HKL.out; (simp [intOf]; try omega)
   ·obtain rfl : k = 2 := by omega
    have HX := Lib.hid hx
    clear hx hlt hk
    by_cases hp : (n : Int) % 2 = 0
    ·have t1 : ((n : Int) % 2 == 0) = true := by simpa using hp
     have hbe := HBS.out
     rw [decide_eq_true hp, Bool.true_and] at hbe
     have HBE := Lib.hid hbe
     clear hp hbe
     generalize bTo a n 2 = cnt at *
     go_wp2_with fail
     refine (parityRight_any [.slice (some ⟨b, o, none⟩) a.length c] a n wr (HR1.out.up HX.out) HN.out HTC.out HPR.out).mono ?_
     rintro e w6 ⟨rfl, hx6⟩
     have HX6 := Lib.hid (HX1.out.trans (HX.out.trans hx6))
     clear hx6 q0
     cases hpp : (parRightS a n).1 with
     | true =>
      rw [hpp] at HBE
      have HBF := Lib.hid (show (badS a n).1 = cnt by rw [HBE.out]; simp [b2i])
      clear hpp HBE
      generalize (parRightS a n).2 = pk at *
      go_wp2_with fail
      go_ret2
      rw [HBF.out]
      exact ⟨rfl, HX6.out⟩
     | false =>
      rw [hpp] at HBE
      have HBF := Lib.hid (show (badS a n).1 = cnt + 1 by rw [HBE.out]; simp [b2i])
      clear hpp HBE
      generalize (parRightS a n).2 = pk at *
      go_wp2_with fail
      go_ret2
      rw [HBF.out]
      exact ⟨rfl, HX6.out⟩
    ·have t1 : ((n : Int) % 2 == 0) = false := by simpa using hp
     have hbe := HBS.out
     rw [decide_eq_false hp, Bool.false_and] at hbe
     have HBE := Lib.hid (show (badS a n).1 = bTo a n 2 by rw [hbe]; simp [b2i])
     clear hp hbe
     generalize bTo a n 2 = cnt at *
     go_wp2_with fail
     go_ret2
     rw [HBE.out]
     exact ⟨rfl, HX1.out.trans HX.out⟩
 ·rw [e]
  clear e
  go_wp2_with fail
  go_loopw [9, 29] (fun cnt i wr => ∃ k : Nat, i = .int .i64 k ∧ k ≤ 2 ∧ cnt = .int .i64 (bTo a n k) ∧ Ext w1 wr) (fun _ i _ => 2 - (intOf i).toNat)
  case atStart => exact ⟨0, rfl, Nat.zero_le _, rfl, HX2.out⟩
  case round =>
   obtain ⟨k, rfl, hk, rfl, hx⟩ := hrel
   have q0 := (HB1.out.ext hx).cell 0
   simp at q0
   have hbr := bTo_range a n k
   by_cases hlt : k < 2
   ·have hsu := bTo_succ a n k hlt
    obtain ⟨A1, c1, A2, c2, r0, r1, hd⟩ := HL.out k (by have := H3.out; omega)
    have r0' := hx.cell r0
    have r1' := hx.cell r1
    have hk2 : (k : Int) < 2 := by omega
    have hk3 : (k : Int) < (a.length : Int) := by have := H3.out; omega
    have HD := Lib.hid (hd.up hx)
    have HX := Lib.hid hx
    have HSU := Lib.hid hsu
    have HKL := Lib.hid hlt
    clear r0 r1 hd hx hsu hk hlt
    generalize bTo a n k = cnt at *
    go_wp2_with fail
    refine (devRead_any [.slice A1 (dv a k).sec.length c1, .slice A2 (dv a k).lost.length c2] (dv a k) n n wr HD.out HN.out HN.out).mono ?_
    rintro e w6 ⟨rfl, hx6⟩
    have HX6 := Lib.hid (HX.out.trans hx6)
    clear hx6 r0' r1' q0
    by_cases hc : (readS (dv a k) n n).2 = 0
    ·have he : bTo a n (k + 1) = cnt := by rw [HSU.out, decide_eq_false (by simpa using hc)]; simp [b2i]
     have HE := Lib.hid he
     rw [hc]
     clear hc he
     go_wp2_with fail
     go_roundw
     case rel => exact ⟨k + 1, by go_num, by have := HKL.out; omega, by rw [HE.out], HX6.out⟩
     case measure => have := HKL.out; (simp [intOf]; try omega)
    ·have he : bTo a n (k + 1) = cnt + 1 := by rw [HSU.out, decide_eq_true (by simpa using hc)]; simp [b2i]
     have HE := Lib.hid he
     have hcb : ((readS (dv a k) n n).2 != 0) = true := by simpa using hc
     clear hc he
     generalize (readS (dv a k) n n).2 = rcc at *
     generalize (readS (dv a k) n n).1 = rdd at *
     go_wp2_with fail
     go_roundw
     case rel => exact ⟨k + 1, by go_num, by have := HKL.out; omega, by rw [HE.out], HX6.out⟩
     case measure => have := HKL.out; (simp [intOf]; try omega)
   ·obtain rfl : k = 2 := by omega
    have HX := Lib.hid hx
    clear hx hlt hk
    by_cases hp : (n : Int) % 2 = 0
    ·have t1 : ((n : Int) % 2 == 0) = true := by simpa using hp
     have hbe := HBS.out
     rw [decide_eq_true hp, Bool.true_and] at hbe
     have HBE := Lib.hid hbe
     clear hp hbe
     generalize bTo a n 2 = cnt at *
     go_wp2_with fail
     refine (parityRight_any [.slice (some ⟨b, o, none⟩) a.length c] a n wr (HR1.out.up HX.out) HN.out HTC.out HPR.out).mono ?_
     rintro e w6 ⟨rfl, hx6⟩
     have HX6 := Lib.hid (HX1.out.trans (HX.out.trans hx6))
     clear hx6 q0
     cases hpp : (parRightS a n).1 with
     | true =>
      rw [hpp] at HBE
      have HBF := Lib.hid (show (badS a n).1 = cnt by rw [HBE.out]; simp [b2i])
      clear hpp HBE
      generalize (parRightS a n).2 = pk at *
      go_wp2_with fail
      go_ret2
      rw [HBF.out]
      exact ⟨rfl, HX6.out⟩
     | false =>
      rw [hpp] at HBE
      have HBF := Lib.hid (show (badS a n).1 = cnt + 1 by rw [HBE.out]; simp [b2i])
      clear hpp HBE
      generalize (parRightS a n).2 = pk at *
      go_wp2_with fail
      go_ret2
      rw [HBF.out]
      exact ⟨rfl, HX6.out⟩
    ·have t1 : ((n : Int) % 2 == 0) = false := by simpa using hp
     have hbe := HBS.out
     rw [decide_eq_false hp, Bool.false_and] at hbe
     have HBE := Lib.hid (show (badS a n).1 = bTo a n 2 by rw [hbe]; simp [b2i])
     clear hp hbe
     generalize bTo a n 2 = cnt at *
     go_wp2_with fail
     go_ret2
     rw [HBE.out]
     exact ⟨rfl, HX1.out.trans HX.out⟩
theorem info_int8 : (Tryz.prog.info? 3).map (fun i => (i.zero, i.size, i.bytes)) = some (some (.int .i64 0), 1, 8) := by kernel_rfl
theorem own_low {w : World} {base base' : Nat} {e : TypeId} {size : Nat} {v : Value} {n : Nat} {xs : List Value} (h : w.ownsRow base e size v n xs) (hb : base' ≤ base) : w.ownsRow base' e size v n xs := by
 refine ⟨h.1, ?_⟩
 rcases h.2 with h0 | ⟨g, cap, cur, hv, hg, hr⟩
 ·exact .inl h0
 ·exact .inr ⟨g, cap, cur, hv, Nat.le_trans hb hg, hr⟩
theorem badS_range (a : List Dev) (n : Int) : 0 ≤ (badS a n).1 ∧ (badS a n).1 ≤ 3 := by
 unfold badS
 split
 ·exact ⟨Int.le_refl 0, by show (0 : Int) ≤ 3; omega⟩
 ·have h0 := b2i_range (decide ((readS (dv a 0) n n).2 ≠ 0))
  have h1 := b2i_range (decide ((readS (dv a 1) n n).2 ≠ 0))
  have h2 := b2i_range (decide (n % 2 = 0) && !(parRightS a n).1)
  constructor
  ·show 0 ≤ b2i _ + b2i _ + b2i _; omega
  ·show b2i _ + b2i _ + b2i _ ≤ 3; omega
theorem health_any (cs : List Value) (a : List Dev) (m : Nat) (all : List ByteArray) (w : World) (h : RArr w cs a) (hp : Part a m all) (h16 : 16 ≤ m) (h64 : m ≤ 64) (h2 : m % 2 = 0) :
  Calls Tryz.prog 103 #[.agg cs.toArray] w fun e w' => ∃ A c, e = .returned (.tuple #[.int .i64 (healthS a).1, .slice A (healthS a).2.1.length c, .int .i64 0]) ∧ Ext w w' ∧
   w'.ownsRow w.heap.size 3 1 (.slice A (healthS a).2.1.length c) (healthS a).2.1.length ((healthS a).2.1.flatMap encInt) := by
 obtain ⟨A, c, rfl⟩ := h.form
 obtain ⟨i1, hi1, za1, zb1, zc1⟩ := info_parts info_int8
 have HI1 := Lib.hid (And.intro hi1 (And.intro za1 (And.intro zb1 zc1)))
 have h3 := hp.good.len
 have hmay := hp.good.may h16 h2
 have hl0 : (dv a 0).sec.length = m := hp.good.l0
 have hS : ((healthS a).1, (healthS a).2.1) = healthLoop a m 0 0 [] := by unfold healthS; rw [hmay, hl0]; rfl
 have H3 := Lib.hid h3
 have HMAY := Lib.hid hmay
 have HL0 := Lib.hid hl0
 have HSS := Lib.hid hS
 have HP := Lib.hid hp
 have HM := Lib.hid (And.intro h16 (And.intro h64 h2))
 have HR := Lib.hid h
 have m64 : (m : Int) ≤ 64 := by omega
 clear hi1 za1 zb1 zc1 h3 hmay hl0 hS hp h16 h64 h2 h
 go_enter Tryz.func103, Tryz.ntmps103
 go_wp2_with fail
 refine calls_abs (fun W => Ext w W ∧ Blk_ W w.heap.size 30 #[.slice A a.length c]) ⟨(Ext.refl _).alloc _, Blk_.new _ _ _⟩ ?_
 rintro w1 ⟨hx1, hb1⟩
 obtain ⟨b2, hb2⟩ : ∃ b, b = w.heap.size := ⟨_, rfl⟩
 rw [← hb2] at hb1 ⊢
 have HB2 := Lib.hid hb2
 have HX1 := Lib.hid hx1
 have HB1 := Lib.hid hb1
 have HR1 := Lib.hid (HR.out.up hx1)
 clear hx1 hb1 hb2 HR
 obtain ⟨b, o, rfl, hl⟩ := HR1.out.look 0 (by have := H3.out; omega)
 obtain ⟨A1, c1, A2, c2, r0, r1, hd⟩ := hl 0 (by have := H3.out; omega)
 simp at r0 r1
 rw [HL0.out] at r0
 refine (arrCheck_any [.slice (some ⟨b, o, none⟩) a.length c] a w1 HR1.out).mono ?_
 rintro e w2 ⟨rfl, hx2⟩
 rw [arrCode_true HMAY.out]
 have HX2 := Lib.hid hx2
 have q0 := (HB1.out.ext hx2).cell 0
 simp at q0
 have r0' := hx2.cell r0
 have hai : (0 : Int) < (a.length : Int) := by have := H3.out; omega
 clear hx2 r0 r1 hd hl
 go_wp2_with fail
 go_loopw [6, 7, 25] (fun bv gv iv wr => ∃ (k : Nat) (bad : Int) (gone : List Int) (A' : Option Addr) (c' : Nat), bv = .int .i64 bad ∧ gv = .slice A' gone.length c' ∧ iv = .int .i64 k ∧ k ≤ m ∧ gone.length ≤ k ∧ 0 ≤ bad ∧ bad ≤ 3 * k ∧
   healthLoop a (m - k) k bad gone = ((healthS a).1, (healthS a).2.1) ∧ Ext w2 wr ∧ wr.ownsRow w2.heap.size 3 1 (.slice A' gone.length c') gone.length (gone.flatMap encInt)) (fun _ _ iv _ => m - (intOf iv).toNat)
 case atStart => exact ⟨0, 0, [], none, 0, rfl, rfl, rfl, Nat.zero_le _, Nat.le_refl 0, Int.le_refl 0, by decide, HSS.out.symm, Ext.refl _, World.ownsRow_nil _ _ _ _⟩
 case round =>
  clear r0'
  obtain ⟨k, bad, gone, A', c', rfl, rfl, rfl, hk, hgl, hb0, hb3, hloop, hx, ho⟩ := hrel
  have HO := Lib.hid ho
  have HX := Lib.hid hx
  have HLOOP := Lib.hid hloop
  have q1 := hx.cell q0
  clear ho hloop
  by_cases hlt : k < m
  ·have hki : (k : Int) < (m : Int) := by omega
   have HLT := Lib.hid hlt
   have HGL := Lib.hid hgl
   have hstep : healthLoop a (m - (k + 1)) (k + 1) (bad + (badS a k).1) (if (arrReadS a k).2.2 ≠ 0 then gone ++ [(k : Int)] else gone) = ((healthS a).1, (healthS a).2.1) := by
    rw [← HLOOP.out, show m - k = (m - (k + 1)) + 1 by omega]
    rfl
   have HST := Lib.hid hstep
   have hbr := badS_range a k
   have htold := HP.out.told HM.out.1 HM.out.2.1 HM.out.2.2 hlt
   clear hstep hk hlt hgl hx
   go_wp2_with fail
   refine (healBad_any [.slice (some ⟨b, o, none⟩) a.length c] a m k all wr (HR1.out.up (HX2.out.trans HX.out)) HP.out HM.out.1 HM.out.2.1 HM.out.2.2 HLT.out).mono ?_
   rintro e w5 ⟨rfl, hx5⟩
   have q2 := hx5.cell q1
   obtain ⟨bd, hbd⟩ : ∃ bd, bd = (badS a k).1 := ⟨_, rfl⟩
   rw [← hbd] at hbr HST ⊢
   clear hbd q1
   have HX5 := Lib.hid (HX.out.trans hx5)
   have HO5 := Lib.hid (own_ext HO.out hx5)
   clear hx5
   go_wp2_with fail
   refine (arrRead_any [.slice (some ⟨b, o, none⟩) a.length c] a k w5 (HR1.out.up (HX2.out.trans HX5.out)) (by have := HLT.out; unfold I64; omega)).mono ?_
   rintro e w6 ⟨rfl, hx6⟩
   have HX6 := Lib.hid (HX5.out.trans hx6)
   have HO6 := Lib.hid (own_ext HO5.out hx6)
   clear hx6 q2 HO HO5
   rcases htold with ⟨hc, _⟩ | he
   ·rw [hc] at HST ⊢
    clear hc
    have HST2 := Lib.hid (show healthLoop a (m - (k + 1)) (k + 1) (bad + bd) gone = ((healthS a).1, (healthS a).2.1) by have := HST.out; rwa [if_neg (by decide)] at this)
    clear HST
    generalize (arrReadS a k).2.1 = how
    generalize (arrReadS a k).1 = s0
    go_wp2_with fail
    go_roundw
    case rel => exact ⟨k + 1, bad + bd, gone, A', c', by first | rfl | go_num, rfl, by first | rfl | go_num, by have := HLT.out; omega, by have := HGL.out; omega, by omega, by omega, HST2.out, HX6.out, HO6.out⟩
    case measure => have := HLT.out; (simp [intOf]; try omega)
   ·rw [he] at HST ⊢
    clear he
    have HST2 := Lib.hid (show healthLoop a (m - (k + 1)) (k + 1) (bad + bd) (gone ++ [(k : Int)]) = ((healthS a).1, (healthS a).2.1) by have := HST.out; rwa [if_pos (by decide)] at this)
    clear HST
    have hgI : (gone.length : Int) ≤ 64 := by have := HGL.out; omega
    go_wp2_with (at_builtin; refine wpList_push (.tmp 46) (.tmp 48) 44 rfl rfl w2.heap.size 3 i1 (.int .i64 0) 8 Tryz.underlying44 HI1.out.1 HI1.out.2.1 HI1.out.2.2.1 HI1.out.2.2.2 rfl _ gone.length _ rfl (own_ext HO6.out ((Ext.refl _).alloc _)) w6.heap.size 1 (.int .i64 k) rfl ?c1 rfl ?c2 ?c3 ?c4 ?_)
    case c1 => exact (Blk_.new _ _ _).cell 0
    case c2 => have := HGL.out; have := HLT.out; unfold maxLen; omega
    case c3 => have := HGL.out; have := HLT.out; omega
    case c4 => have := HX6.out.size; simp only [World.size_alloc]; omega
    intro A7 c7 w7 own7 hg7 _
    have HX7 := Lib.hid ((HX6.out.alloc _).grown hg7 (fun g hgg => (HO6.out.lt g hgg).1))
    have hgl7 : gone.length + 1 = (gone ++ [(k : Int)]).length := by simp
    have hfm : gone.flatMap encInt ++ [Value.int .i64 k] = (gone ++ [(k : Int)]).flatMap encInt := by rw [List.flatMap_append]; rfl
    rw [hfm] at own7
    have HO7 := Lib.hid own7
    clear own7 hg7 hfm
    go_wp2_with fail
    go_roundw
    case rel =>
     refine ⟨k + 1, bad + bd, gone ++ [(k : Int)], A7, c7, by first | rfl | go_num, by rw [hgl7], by first | rfl | go_num, by have := HLT.out; omega, by have := HGL.out; simp; omega, by omega, by omega, HST2.out, HX7.out, ?_⟩
     rw [← hgl7]
     exact HO7.out
    case measure => have := HLT.out; (simp [intOf]; try omega)
  ·obtain rfl : k = m := by omega
   have hfin := HLOOP.out
   rw [Nat.sub_self] at hfin
   have hf1 : bad = (healthS a).1 := congrArg Prod.fst hfin
   have hf2 : gone = (healthS a).2.1 := congrArg Prod.snd hfin
   have HF := Lib.hid (And.intro hf1 hf2)
   clear hfin hf1 hf2 HLOOP hlt hk hgl hx
   go_wp2_with fail
   go_ret3
   rw [← HF.out.1, ← HF.out.2]
   have hs := HB1.out.lt
   exact ⟨A', c', rfl, HX1.out.trans (HX2.out.trans HX.out), own_low HO.out (by have := HX1.out.size; have := HX2.out.size; have := HB2.out; omega)⟩
end Go.Proofs.YtgjijcgkmofaaaaGreatDoor
namespace Go.Proofs.YtgjijcgkmofaaaaGreatDoor
set_option linter.unusedSimpArgs false
set_option linter.unusedVariables false
set_option maxRecDepth 100000
set_option maxHeartbeats 8000000
open Go.Shelf
def Tryz.lays189_ren : Go.Shelf.Ren := ⟨fun | 189 => 142 | 125 => 66 | 257 => 172 | 128 => 115 | 129 => 116 | 294 => 184 | 295 => 185 | 296 => 186 | 297 => 187 | 298 => 188 | 299 => 189 | 216 => 190 | 300 => 191 | 301 => 192 | 328 => 198 | 329 => 148 | 330 => 149 | 331 => 199 | 332 => 200 | 215 => 201 | 343 => 206 | n => n, fun | 28 => 44 | 3 => 3 | 46 => 129 | 0 => 0 | 51 => 176 | 53 => 178 | 4 => 4 | 183 => 170 | 182 => 169 | 131 => 140 | 5 => 5 | 9 => 9 | 218 => 211 | 222 => 215 | 228 => 236 | 229 => 146 | n => n, fun | n => n⟩
theorem Tryz.lays189 : Go.Proofs.Lays.n189 Tryz.prog Tryz.lays189_ren := {
 mixed := by kernel_rfl
 f125 := Tryz.func66.trans (congrArg some (by kernel_rfl))
 f128 := Tryz.func115.trans (congrArg some (by kernel_rfl))
 f129 := Tryz.func116.trans (congrArg some (by kernel_rfl))
 f189 := Tryz.func142.trans (congrArg some (by kernel_rfl))
 f215 := Tryz.func201.trans (congrArg some (by kernel_rfl))
 f216 := Tryz.func190.trans (congrArg some (by kernel_rfl))
 f257 := Tryz.func172.trans (congrArg some (by kernel_rfl))
 f294 := Tryz.func184.trans (congrArg some (by kernel_rfl))
 f295 := Tryz.func185.trans (congrArg some (by kernel_rfl))
 f296 := Tryz.func186.trans (congrArg some (by kernel_rfl))
 f297 := Tryz.func187.trans (congrArg some (by kernel_rfl))
 f298 := Tryz.func188.trans (congrArg some (by kernel_rfl))
 f299 := Tryz.func189.trans (congrArg some (by kernel_rfl))
 f300 := Tryz.func191.trans (congrArg some (by kernel_rfl))
 f301 := Tryz.func192.trans (congrArg some (by kernel_rfl))
 f328 := Tryz.func198.trans (congrArg some (by kernel_rfl))
 f329 := Tryz.func148.trans (congrArg some (by kernel_rfl))
 f330 := Tryz.func149.trans (congrArg some (by kernel_rfl))
 f331 := Tryz.func199.trans (congrArg some (by kernel_rfl))
 f332 := Tryz.func200.trans (congrArg some (by kernel_rfl))
 f343 := Tryz.func206.trans (congrArg some (by kernel_rfl))
 t0 := Tryz.underlying0
 a0 := Tryz.isAgg0
 z0 := Tryz.sizeOf0
 v0 := Tryz.zeroValue0
 t3 := Tryz.underlying3
 a3 := Tryz.isAgg3
 z3 := Tryz.sizeOf3
 v3 := Tryz.zeroValue3
 t4 := Tryz.underlying4
 a4 := Tryz.isAgg4
 z4 := Tryz.sizeOf4
 v4 := Tryz.zeroValue4
 t5 := Tryz.underlying5
 a5 := Tryz.isAgg5
 z5 := Tryz.sizeOf5
 v5 := Tryz.zeroValue5
 t9 := Tryz.underlying9
 a9 := Tryz.isAgg9
 z9 := Tryz.sizeOf9
 v9 := Tryz.zeroValue9
 t28 := Tryz.underlying44
 a28 := Tryz.isAgg44
 z28 := Tryz.sizeOf44
 v28 := Tryz.zeroValue44
 t46 := Tryz.underlying129
 a46 := Tryz.isAgg129
 z46 := Tryz.sizeOf129
 v46 := Tryz.zeroValue129
 t51 := Tryz.underlying176
 a51 := Tryz.isAgg176
 z51 := Tryz.sizeOf176
 v51 := Tryz.zeroValue176
 t53 := Tryz.underlying178
 a53 := Tryz.isAgg178
 z53 := Tryz.sizeOf178
 v53 := Tryz.zeroValue178
 t131 := Tryz.underlying140
 a131 := Tryz.isAgg140
 z131 := Tryz.sizeOf140
 v131 := Tryz.zeroValue140
 t182 := Tryz.underlying169
 a182 := Tryz.isAgg169
 z182 := Tryz.sizeOf169
 v182 := Tryz.zeroValue169
 t183 := Tryz.underlying170
 a183 := Tryz.isAgg170
 z183 := Tryz.sizeOf170
 v183 := Tryz.zeroValue170
 t218 := Tryz.underlying211
 a218 := Tryz.isAgg211
 z218 := Tryz.sizeOf211
 v218 := Tryz.zeroValue211
 t222 := Tryz.underlying215
 a222 := Tryz.isAgg215
 z222 := Tryz.sizeOf215
 v222 := Tryz.zeroValue215
 t228 := Tryz.underlying236
 a228 := Tryz.isAgg236
 z228 := Tryz.sizeOf236
 v228 := Tryz.zeroValue236
 t229 := Tryz.underlying146
 a229 := Tryz.isAgg146
 z229 := Tryz.sizeOf146
 v229 := Tryz.zeroValue146 }
open Go.Sort Go.RowKit in
theorem Tryz.slices_Sort_int (blk off cap : Nat) (zs : List Int) (w : World) (hH : Go.Sort.Holds (Value.int .i64) w blk off zs.toArray) (hblk : blk < w.heap.size) (hsz : zs.length < 4611686018427387904) :
  Calls Tryz.prog 142 #[.slice (some ⟨blk, off, none⟩) zs.length cap] w fun e w' =>
   e = .returned (.tuple #[]) ∧ ∃ n os, w' = grow (putRow (Value.int .i64) (Sort.ahead w n) blk off (zs.mergeSort fun x y => decide (x ≤ y)).toArray) os := Any.slices_Sort_int Tryz.lays189 blk off cap zs w hH hblk hsz
open Go.RowKit Go.Sort in
theorem Tryz.slices_Sort_int_none (p : Option Addr) (cap : Nat) (w : World) :
  Calls Tryz.prog 142 #[.slice p 0 cap] w fun e w' => e = .returned (.tuple #[]) ∧ w' = w := Any.slices_Sort_int_none Tryz.lays189 p cap w
def Tryz.lays107_ren : Go.Shelf.Ren := ⟨fun | 107 => 141 | 108 => 171 | n => n, fun | 28 => 44 | 3 => 3 | 4 => 4 | 0 => 0 | n => n, fun | n => n⟩
theorem Tryz.lays107 : Go.Proofs.Lays.n107 Tryz.prog Tryz.lays107_ren := {
 mixed := by kernel_rfl
 f107 := Tryz.func141.trans (congrArg some (by kernel_rfl))
 f108 := Tryz.func171.trans (congrArg some (by kernel_rfl))
 t0 := Tryz.underlying0
 a0 := Tryz.isAgg0
 z0 := Tryz.sizeOf0
 v0 := Tryz.zeroValue0
 t3 := Tryz.underlying3
 a3 := Tryz.isAgg3
 z3 := Tryz.sizeOf3
 v3 := Tryz.zeroValue3
 t4 := Tryz.underlying4
 a4 := Tryz.isAgg4
 z4 := Tryz.sizeOf4
 v4 := Tryz.zeroValue4
 t28 := Tryz.underlying44
 a28 := Tryz.isAgg44
 z28 := Tryz.sizeOf44
 v28 := Tryz.zeroValue44 }
def Tryz.lays193_ren : Go.Shelf.Ren := ⟨fun | 193 => 32 | n => n, fun | 31 => 43 | 9 => 9 | 4 => 4 | 3 => 3 | 0 => 0 | n => n, fun | n => n⟩
theorem Tryz.lays193 : Go.Proofs.Lays.n193 Tryz.prog Tryz.lays193_ren := {
 mixed := by kernel_rfl
 f193 := Tryz.func32.trans (congrArg some (by kernel_rfl))
 t0 := Tryz.underlying0
 a0 := Tryz.isAgg0
 z0 := Tryz.sizeOf0
 v0 := Tryz.zeroValue0
 t3 := Tryz.underlying3
 a3 := Tryz.isAgg3
 z3 := Tryz.sizeOf3
 v3 := Tryz.zeroValue3
 t4 := Tryz.underlying4
 a4 := Tryz.isAgg4
 z4 := Tryz.sizeOf4
 v4 := Tryz.zeroValue4
 t9 := Tryz.underlying9
 a9 := Tryz.isAgg9
 z9 := Tryz.sizeOf9
 v9 := Tryz.zeroValue9
 t31 := Tryz.underlying43
 a31 := Tryz.isAgg43
 z31 := Tryz.sizeOf43
 v31 := Tryz.zeroValue43 }
open Go.Lib in
theorem Tryz.slices_Contains_int (b off n c : Nat) (zs : List Int) (x : Int) (w : World) (hz : n ≤ zs.length) (hbig : n ≤ 9223372036854775807) (hc : ∀ j, j < zs.length → w.cell? ⟨b, off + j, none⟩ = some (.int .i64 (zs.getD j 0))) :
  Calls Tryz.prog 141 #[.slice (some ⟨b, off, none⟩) n c, .int .i64 x] w fun e w' => e = .returned (.bool ((zs.take n).contains x)) ∧ w' = w := Any.slices_Contains_int Tryz.lays107 b off n c zs x w hz hbig hc
open Go.Lib in
theorem Tryz.slices_Contains_int_empty (a : Option Addr) (c : Nat) (x : Int) (w : World) :
  Calls Tryz.prog 141 #[.slice a 0 c, .int .i64 x] w fun e w' => e = .returned (.bool false) ∧ w' = w := Any.slices_Contains_int_empty Tryz.lays107 a c x w
open Go.RowKit Go.Lib in
theorem Tryz.slices_Equal_string (b1 o1 n c b2 o2 m d : Nat) (xs ys : List ByteArray) (w : World) (hx : n ≤ xs.length) (hy : m ≤ ys.length) (hbig : n ≤ 9223372036854775807) (hbig2 : m ≤ 9223372036854775807) (hc1 : ∀ j, j < xs.length → w.cell? ⟨b1, o1 + j, none⟩ = some (.string (xs.getD j ByteArray.empty))) (hc2 : ∀ j, j < ys.length → w.cell? ⟨b2, o2 + j, none⟩ = some (.string (ys.getD j ByteArray.empty))) :
  Calls Tryz.prog 32 #[.slice (some ⟨b1, o1, none⟩) n c, .slice (some ⟨b2, o2, none⟩) m d] w fun e w' => e = .returned (.bool (decide (xs.take n = ys.take m))) ∧ ∃ q, w' = w.drewN q := Any.slices_Equal_string Tryz.lays193 b1 o1 n c b2 o2 m d xs ys w hx hy hbig hbig2 hc1 hc2
open Go.RowKit Go.Lib in
theorem Tryz.slices_Equal_string_empty (a1 a2 : Option Addr) (c m d : Nat) (w : World) (hbig2 : m ≤ 9223372036854775807) :
  Calls Tryz.prog 32 #[.slice a1 0 c, .slice a2 m d] w fun e w' => e = .returned (.bool (decide (m = 0))) ∧ w' = w := Any.slices_Equal_string_empty Tryz.lays193 a1 a2 c m d w hbig2
end Go.Proofs.YtgjijcgkmofaaaaGreatDoor
