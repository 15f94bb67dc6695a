/-
  array.Write and the document's ArrayWritten: a sector is written on both mirrors, and the parity anew; the law ArrayWrites. Conditions: the argument reads as an array.
-/
import Derived.Test.YtjadmfdlggnlgaaGreatDoorV8
namespace Go.Proofs.YtjadmfdlggnlgaaGreatDoor
set_option linter.unusedSimpArgs false
set_option linter.unusedVariables false
set_option maxRecDepth 100000
set_option maxHeartbeats 8000000
open Go.RowKit
section
variable {P : Program} {Q : Exit → Act → World → Prop}
theorem wp_region_all {id : Nat} {L : List Oper} {S : World → Prop} {a : Act} {w : World} (hm : P.follows .mixedOrders = true) (h : wpAnyH P .any L.toArray Q S L.toArray.size (Array.replicate L.toArray.size false) a w.drew) : (Code.region id L.toArray true).wp P Q a w :=
 wp_region_any hm (wpAny_of_held _ _ _ _ h)
end
def bothTo (a : List Dev) (n : Int) (s : ByteArray) : Nat → List Dev
 | 0 => a
 | 1 => a.set 0 (writeS (dv a 0) n n s).1
 | _ => bothS a n s
theorem bothTo_len {a : List Dev} (h : a.length = 3) (n : Int) (s : ByteArray) (k : Nat) : (bothTo a n s k).length = 3 := by
 match k with
 | 0 => exact h
 | 1 => simp [bothTo, h]
 | k + 2 => simp [bothTo, bothS, h]
theorem bothTo_succ {a : List Dev} (h : a.length = 3) (n : Int) (s : ByteArray) (k : Nat) (hk : k < 2) : (bothTo a n s k).set k (writeS (dv (bothTo a n s k) k) n n s).1 = bothTo a n s (k + 1) := by
 match k, hk with
 | 0, _ => rfl
 | 1, _ =>
  show (a.set 0 _).set 1 (writeS (dv (a.set 0 _) 1) n n s).1 = bothS a n s
  rw [dv_set_ne _ (by decide)]
  rfl
theorem both_any (a : List Dev) (n : Int) (s : ByteArray) (w : World) (gb g c base : Nat) (hb : Blk_ w gb 24 #[.slice (some ⟨g, 0, none⟩) 3 c]) (ho : OArr 35 w base (.slice (some ⟨g, 0, none⟩) 3 c) a) (h3 : a.length = 3) (hne : gb ≠ g) (hn : I64 n) (hs : s.size ≤ 140737488355328) :
  Calls Tryz.prog 76 #[.pointer (some ⟨gb, 0, none⟩), .int .i64 n, .string s] w fun e w' => e = .returned (.tuple #[]) ∧ w.grownBy w' (some g) ∧ OArr 35 w' base (.slice (some ⟨g, 0, none⟩) 3 c) (bothS a n s) := by
 have HN := Lib.hid (And.intro hn hs)
 have H3 := Lib.hid h3
 have hne1 : ¬ (gb = g) := hne
 have hne2 : ¬ (g = gb) := fun e => hne e.symm
 clear hn hs h3
 go_enter Tryz.func76, Tryz.ntmps76
 go_wp2_with fail
 go_loopw [7] (fun i wr => ∃ k : Nat, i = .int .i64 k ∧ k ≤ 2 ∧ w.grownBy wr (some g) ∧ OArr 35 wr base (.slice (some ⟨g, 0, none⟩) 3 c) (bothTo a n s k)) (fun i _ => 2 - (intOf i).toNat)
 case atStart => exact ⟨0, rfl, Nat.zero_le _, World.grownBy.refl _ _, ho⟩
 case round =>
  clear ho
  obtain ⟨k, rfl, hk, hgr, ho⟩ := hrel
  by_cases hlt : k < 2
  ·have hbr := hb.grown hgr (fun j hj => by injection hj with hj; omega)
   obtain ⟨hbg, hgl, hfz, hat⟩ := ho.atg (bothTo_len H3.out n s k)
   obtain ⟨A1, c1, A2, c2, r0, r1, hd⟩ := hat k (by omega)
   have q0 := hbr.cell 0
   simp at q0
   have hk2 : (k : Int) < 2 := by omega
   have hk3 : (k : Int) < 3 := by omega
   have HD := Lib.hid hd
   have HO := Lib.hid ho
   have HBR := Lib.hid hbr
   have HGR := Lib.hid hgr
   have HBG := Lib.hid (And.intro hbg hgl)
   have HSC := Lib.hid (bothTo_succ H3.out n s k hlt)
   have HBL := Lib.hid (bothTo_len H3.out n s k)
   clear hd ho hbr hgr hat hfz hbg hgl
   generalize bothTo a n s k = ak at *
   go_wp2_with fail
   refine wp_region_all (S := fun W' => W'.cell? ⟨gb, 0, none⟩ = some (.slice (some ⟨g, 0, none⟩) 3 c)) (by kernel_rfl) ?_
   have hS0 : (fun W' => W'.cell? ⟨gb, 0, none⟩ = some (.slice (some ⟨g, 0, none⟩) 3 c)) wr.drew := q0
   refine tkL 0 rfl (fun w' hS => by (try dsimp only at hS); go_simp; rfl) hS0 ?_
   refine tkL 1 rfl (fun w' hS => by (try dsimp only at hS); go_simp; rfl) hS0 ?_
   refine tkL 2 rfl (fun w' hS => by (try dsimp only at hS); go_simp; rfl) hS0 ?_
   try simp only [Act.put, List.setIfInBounds_toArray, List.set_cons_zero, List.set_cons_succ]
   refine tkL 3 rfl (fun w' hS => by (try dsimp only at hS); go_simp; rfl) hS0 ?_
   refine tkL 4 rfl (fun w' hS => by (try dsimp only at hS); go_simp; rfl) hS0 ?_
   refine tkL 5 rfl (fun w' hS => by (try dsimp only at hS); go_simp; rfl) hS0 ?_
   try simp only [Act.put, List.setIfInBounds_toArray, List.set_cons_zero, List.set_cons_succ]
   refine tkL 6 rfl (fun w' hS => by (try dsimp only at hS); go_simp; rfl) hS0 ?_
   refine tkL 7 rfl (fun w' hS => by (try dsimp only at hS); go_simp; rfl) hS0 ?_
   refine tkL 8 rfl (fun w' hS => by (try dsimp only at hS); go_simp; rfl) hS0 ?_
   try simp only [Act.put, List.setIfInBounds_toArray, List.set_cons_zero, List.set_cons_succ]
   refine tkL 9 rfl (fun w' hS => by (try dsimp only at hS); go_simp; rfl) hS0 ?_
   refine tkL 10 rfl (fun w' hS => by (try dsimp only at hS); go_simp; rfl) hS0 ?_
   refine tkL 12 rfl (fun w' hS => by (try dsimp only at hS); go_simp; rfl) hS0 ?_
   try simp only [Act.put, List.setIfInBounds_toArray, List.set_cons_zero, List.set_cons_succ]
   refine tkL 13 rfl (fun w' hS => by (try dsimp only at hS); go_simp; rfl) hS0 ?_
   refine tkL 14 rfl (fun w' hS => by (try dsimp only at hS); go_simp; rfl) hS0 ?_
   try simp only [Act.put, List.setIfInBounds_toArray, List.set_cons_zero, List.set_cons_succ]
   refine wpAnyH_oneL (i := 11) rfl (by kernel_rfl) rfl (fun K hK => ?_)
   go_wp2_with fail
   refine hK _ _ hS0 ?_
   clear hK K
   try simp only [Act.put, List.setIfInBounds_toArray, List.set_cons_zero, List.set_cons_succ]
   refine wpAnyH_oneL (i := 15) rfl (by kernel_rfl) rfl (fun K hK => ?_)
   go_wp2_with fail
   refine (devWrite_any [.slice A1 (dv ak k).sec.length c1, .slice A2 (dv ak k).lost.length c2] (dv ak k) n n s _ (HD.out.up (Ext.refl _).drew) HN.out.1 HN.out.1 HN.out.2).mono ?_
   rintro e w2 ⟨B1, k1, B2, k2, rfl, hx2, hod⟩
   have e2 : Ext wr w2 := (Ext.refl wr).drew.trans hx2
   have hS2 : (fun W' => W'.cell? ⟨gb, 0, none⟩ = some (.slice (some ⟨g, 0, none⟩) 3 c)) w2 := e2.cell q0
   refine hK _ _ hS2 ?_
   clear hK K
   refine tkL 16 rfl (fun w' hS => by (try dsimp only at hS); go_simp; rfl) hS2 ?_
   refine tkL 17 rfl (fun w' hS => by (try dsimp only at hS); go_simp; rfl) hS2 ?_
   refine tkL 18 rfl (fun w' hS => by (try dsimp only at hS); go_simp; rfl) hS2 ?_
   try simp only [Act.put, List.setIfInBounds_toArray, List.set_cons_zero, List.set_cons_succ]
   refine tkL 19 rfl (fun w' hS => by (try dsimp only at hS); go_simp; rfl) hS2 ?_
   try simp only [Act.put, List.setIfInBounds_toArray, List.set_cons_zero, List.set_cons_succ]
   refine wpAnyH_oneL (i := 20) rfl (by kernel_rfl) rfl (fun K hK => ?_)
   have ho2 := HO.out.ext e2
   have hfz2 := (ho2.atg HBL.out).2.2.1
   have z0 := hfz2 (k * 2)
   have z1 := hfz2 (k * 2 + 1)
   have r02 := e2.cell r0
   have r12 := e2.cell r1
   have hgw2 : g < w2.heap.size := by have := HBG.out.2; have := e2.size; omega
   have hbase2 : base ≤ wr.drew.heap.size := by have := HBG.out; simp; omega
   have hng := hod.dev.newG hod.new1 hod.new2 (show g < wr.drew.heap.size by simpa using HBG.out.2)
   have hset := ho2.set (i := k) (by rw [HBL.out]; omega) hng (hod.new1.mono hbase2) (hod.new2.mono hbase2)
   rw [HSC.out] at hset
   have HSET := Lib.hid hset
   have HG2 := Lib.hid ((HGR.out.trans (e2.by_ _)).trans ((setRow_by w2 g (k * 2) (.slice B1 (writeS (dv ak k) n n s).1.sec.length k1)).trans (setRow_by _ g (k * 2 + 1) (.slice B2 (writeS (dv ak k) n n s).1.lost.length k2))))
   have hS4 : ((w2.setCell ⟨g, k * 2, none⟩ (.slice B1 (writeS (dv ak k) n n s).1.sec.length k1)).setCell ⟨g, k * 2 + 1, none⟩ (.slice B2 (writeS (dv ak k) n n s).1.lost.length k2)).cell? ⟨gb, 0, none⟩ = some (.slice (some ⟨g, 0, none⟩) 3 c) := by
    rw [World.cell?_setCell_other _ _ _ _ (by simp [hne1, hne2]), World.cell?_setCell_other _ _ _ _ (by simp [hne1, hne2])]
    exact hS2
   clear ho2 hfz2 hng hset hod hS0 hx2 e2
   go_wp2_with fail
   refine hK _ _ hS4 ?_
   clear hK K
   refine wpAnyH_done (by kernel_rfl) ?_ _
   go_wp2_with fail
   go_roundw
   case rel => exact ⟨k + 1, by go_num, by omega, HG2.out, HSET.out⟩
   case measure => simp [intOf]; omega
  ·obtain rfl : k = 2 := by omega
   go_wp2_with fail
   go_end0
   exact ⟨rfl, hgr, ho⟩
theorem parity_both {a : List Dev} {n : Int} (h1 : (mirrorS a n).2 ≠ 0) (h2 : (mirrorS a (partner n)).2 ≠ 0) : parityS a n = a.set 2 (writeS (dv a 2) (n / 2) (512 + n / 2) (xorS (mirrorS a n).1 (mirrorS a (partner n)).1)).1 := by
 unfold parityS writeP; rw [if_pos ⟨h1, h2⟩]
theorem parity_lost {a : List Dev} {n : Int} (h : ¬ ((mirrorS a n).2 ≠ 0 ∧ (mirrorS a (partner n)).2 ≠ 0)) : parityS a n = a.set 2 (loseS (dv a 2) (n / 2)) := by
 unfold parityS; rw [if_neg h]
theorem parity_any (a : List Dev) (n : Int) (w : World) (gb g c base : Nat) (hb : Blk_ w gb 24 #[.slice (some ⟨g, 0, none⟩) 3 c]) (ho : OArr 35 w base (.slice (some ⟨g, 0, none⟩) 3 c) a) (h3 : a.length = 3) (hne : gb ≠ g) (n0 : 0 ≤ n) (n1 : n ≤ 63) :
  Calls Tryz.prog 77 #[.pointer (some ⟨gb, 0, none⟩), .int .i64 n] w fun e w' => e = .returned (.tuple #[]) ∧ w.grownBy w' (some g) ∧ OArr 35 w' base (.slice (some ⟨g, 0, none⟩) 3 c) (parityS a n) := by
 have hr := ho.rarr (by omega)
 have e3 : (3 : Nat) = a.length := h3.symm
 have hr' : RArr w [.slice (some ⟨g, 0, none⟩) a.length c] a := by rw [← e3]; exact hr
 have H3 := Lib.hid h3
 have HNN := Lib.hid (And.intro n0 n1)
 have hne1 : ¬ (gb = g) := hne
 have hne2 : ¬ (g = gb) := fun e => hne e.symm
 have q0 := hb.cell 0
 simp at q0
 have HPX := Lib.hid (partner_xor n n0 n1)
 have HPR := Lib.hid (show 0 ≤ partner n ∧ partner n ≤ 64 by unfold partner; split <;> omega)
 have HR := Lib.hid hr
 have HO := Lib.hid ho
 clear hr hr' e3 h3 ho
 go_enter Tryz.func77, Tryz.ntmps77
 go_wp2_with fail
 refine (mirror_any [.slice (some ⟨g, 0, none⟩) 3 c] a n w HR.out H3.out ⟨by omega, by omega⟩).mono ?_
 rintro e w1 ⟨rfl, hx1⟩
 have q1 := hx1.cell q0
 go_wp2_with fail
 rw [HPX.out]
 refine (mirror_any [.slice (some ⟨g, 0, none⟩) 3 c] a (partner n) w1 (HR.out.up hx1) H3.out ⟨by have := HPR.out; omega, by have := HPR.out; omega⟩).mono ?_
 rintro e w2 ⟨rfl, hx2⟩
 have q2 := hx2.cell q1
 have hx12 := hx1.trans hx2
 have ho2 := HO.out.ext hx12
 obtain ⟨hbg, hgl, hfz, hat⟩ := ho2.atg H3.out
 obtain ⟨A1, c1, A2, c2, r0, r1, hd⟩ := hat 2 (by omega)
 simp at r0 r1
 have HD := Lib.hid hd
 have HO2 := Lib.hid ho2
 have HX12 := Lib.hid hx12
 have HBG := Lib.hid (And.intro hbg hgl)
 clear q0 q1 hb hx1 hx2 hx12 ho2 hat hfz hd hbg hgl HR HO
 have b1 : (0 : Int) ≤ n / 2 := by omega
 have b2 : n / 2 ≤ 31 := by omega
 by_cases hm : (mirrorS a n).2 ≠ 0 ∧ (mirrorS a (partner n)).2 ≠ 0
 ·rw [okB_true hm.1, okB_true hm.2]
  have HP := Lib.hid (parity_both hm.1 hm.2)
  have s1 := mirrorS_size hm.1
  have s2 := mirrorS_size hm.2
  have HSZ := Lib.hid (And.intro s1 s2)
  clear hm s1 s2
  generalize (mirrorS a n).1 = S1 at *
  generalize (mirrorS a (partner n)).1 = S2 at *
  have hxz : (xorS S1 S2).size ≤ 140737488355328 := by rw [xorS_size (by rw [HSZ.out.1, HSZ.out.2]), HSZ.out.1]; decide
  have HXZ := Lib.hid hxz
  clear hxz
  generalize hD2 : (writeS (dv a 2) (n / 2) (512 + n / 2) (xorS S1 S2)).1 = D2 at HP
  have HD2 := Lib.hid hD2
  clear hD2
  go_wp2_with fail
  refine wp_region_all (S := fun W' => W'.cell? ⟨gb, 0, none⟩ = some (.slice (some ⟨g, 0, none⟩) 3 c)) (by kernel_rfl) ?_
  have hS0 : (fun W' => W'.cell? ⟨gb, 0, none⟩ = some (.slice (some ⟨g, 0, none⟩) 3 c)) w2.drew := q2
  refine tkL 0 rfl (fun w' hS => by (try dsimp only at hS); go_simp; rfl) hS0 ?_
  refine tkL 1 rfl (fun w' hS => by (try dsimp only at hS); go_simp; rfl) hS0 ?_
  refine tkL 2 rfl (fun w' hS => by (try dsimp only at hS); go_simp; rfl) hS0 ?_
  try simp only [Act.put, List.setIfInBounds_toArray, List.set_cons_zero, List.set_cons_succ]
  refine tkL 3 rfl (fun w' hS => by (try dsimp only at hS); go_simp; rfl) hS0 ?_
  refine tkL 4 rfl (fun w' hS => by (try dsimp only at hS); go_simp; rfl) hS0 ?_
  refine tkL 5 rfl (fun w' hS => by (try dsimp only at hS); go_simp; rfl) hS0 ?_
  try simp only [Act.put, List.setIfInBounds_toArray, List.set_cons_zero, List.set_cons_succ]
  refine tkL 6 rfl (fun w' hS => by (try dsimp only at hS); go_simp; rfl) hS0 ?_
  refine tkL 7 rfl (fun w' hS => by (try dsimp only at hS); go_simp; rfl) hS0 ?_
  refine tkL 8 rfl (fun w' hS => by (try dsimp only at hS); go_simp; rfl) hS0 ?_
  try simp only [Act.put, List.setIfInBounds_toArray, List.set_cons_zero, List.set_cons_succ]
  refine tkL 10 rfl (fun w' hS => by (try dsimp only at hS); go_simp; rfl) hS0 ?_
  refine tkL 11 rfl (fun w' hS => by (try dsimp only at hS); go_simp; rfl) hS0 ?_
  refine tkL 12 rfl (fun w' hS => by (try dsimp only at hS); go_simp; rfl) hS0 ?_
  try simp only [Act.put, List.setIfInBounds_toArray, List.set_cons_zero, List.set_cons_succ]
  refine tkL 13 rfl (fun w' hS => by (try dsimp only at hS); go_simp; rfl) hS0 ?_
  refine tkL 14 rfl (fun w' hS => by (try dsimp only at hS); go_simp; rfl) hS0 ?_
  refine tkL 15 rfl (fun w' hS => by (try dsimp only at hS); go_simp; rfl) hS0 ?_
  try simp only [Act.put, List.setIfInBounds_toArray, List.set_cons_zero, List.set_cons_succ]
  refine tkL 16 rfl (fun w' hS => by (try dsimp only at hS); go_simp; rfl) hS0 ?_
  try simp only [Act.put, List.setIfInBounds_toArray, List.set_cons_zero, List.set_cons_succ]
  refine wpAnyH_twoL (i := 9) (j := 17) rfl rfl (by kernel_rfl) rfl rfl (fun K hK => ?_) (fun K hK => ?_)
  ·go_wp2_with fail
   refine hK _ _ hS0 ?_
   clear hK K
   try simp only [Act.put, List.setIfInBounds_toArray, List.set_cons_zero, List.set_cons_succ]
   refine wpAnyH_oneL (i := 17) rfl (by kernel_rfl) rfl (fun K hK => ?_)
   go_wp2_with fail
   refine (xor_any S1 S2 _ (by rw [HSZ.out.1, HSZ.out.2]) (by rw [HSZ.out.1]; decide)).mono ?_
   rintro e w3 ⟨rfl, hx3⟩
   have e3 : Ext w2 w3 := (Ext.refl w2).drew.trans hx3
   have hS3 : (fun W' => W'.cell? ⟨gb, 0, none⟩ = some (.slice (some ⟨g, 0, none⟩) 3 c)) w3 := e3.cell q2
   refine hK _ _ hS3 ?_
   clear hK K
   try simp only [Act.put, List.setIfInBounds_toArray, List.set_cons_zero, List.set_cons_succ]
   refine wpAnyH_oneL (i := 18) rfl (by kernel_rfl) rfl (fun K hK => ?_)
   go_wp2_with fail
   refine (devWrite_any [.slice A1 (dv a 2).sec.length c1, .slice A2 (dv a 2).lost.length c2] (dv a 2) (n / 2) (512 + n / 2) (xorS S1 S2) w3 (HD.out.up e3) ⟨by omega, by omega⟩ ⟨by omega, by omega⟩ HXZ.out).mono ?_
   rintro e w4 ⟨B1, k1, B2, k2, rfl, hx4, hod⟩
   have HBS := Lib.hid (show base ≤ w3.heap.size by have := HBG.out; have := e3.size; omega)
   have HGS := Lib.hid (show g < w3.heap.size by have := HBG.out.2; have := e3.size; omega)
   rw [HD2.out] at hod ⊢
   have e4 : Ext w2 w4 := e3.trans hx4
   have hS5 : (fun W' => W'.cell? ⟨gb, 0, none⟩ = some (.slice (some ⟨g, 0, none⟩) 3 c)) w4 := e4.cell q2
   refine hK _ _ hS5 ?_
   clear hK K
   refine tkL 19 rfl (fun w' hS => by (try dsimp only at hS); go_simp; rfl) hS5 ?_
   refine tkL 20 rfl (fun w' hS => by (try dsimp only at hS); go_simp; rfl) hS5 ?_
   refine tkL 21 rfl (fun w' hS => by (try dsimp only at hS); go_simp; rfl) hS5 ?_
   try simp only [Act.put, List.setIfInBounds_toArray, List.set_cons_zero, List.set_cons_succ]
   refine tkL 22 rfl (fun w' hS => by (try dsimp only at hS); go_simp; rfl) hS5 ?_
   try simp only [Act.put, List.setIfInBounds_toArray, List.set_cons_zero, List.set_cons_succ]
   refine wpAnyH_oneL (i := 23) rfl (by kernel_rfl) rfl (fun K hK => ?_)
   have ho4 := HO2.out.ext e4
   have hfz4 := (ho4.atg H3.out).2.2.1
   have z0 := hfz4 4
   have z1 := hfz4 5
   have r04 := e4.cell r0
   have r14 := e4.cell r1
   have hgw4 : g < w4.heap.size := by have := HBG.out.2; have := e4.size; omega
   have hbase4 : base ≤ w3.heap.size := HBS.out
   have hng := hod.dev.newG hod.new1 hod.new2 (show g < w3.heap.size from HGS.out)
   have hset := ho4.set (i := 2) (by rw [H3.out]; omega) hng (hod.new1.mono hbase4) (hod.new2.mono hbase4)
   have HSET := Lib.hid hset
   have HG2 := Lib.hid ((((HX12.out.trans e4).by_ (some g)).trans ((setRow_by w4 g 4 (.slice B1 (D2).sec.length k1)).trans (setRow_by _ g 5 (.slice B2 (D2).lost.length k2)))))
   have hS4 : ((w4.setCell ⟨g, 4, none⟩ (.slice B1 (D2).sec.length k1)).setCell ⟨g, 5, none⟩ (.slice B2 (D2).lost.length k2)).cell? ⟨gb, 0, none⟩ = some (.slice (some ⟨g, 0, none⟩) 3 c) := by
    rw [World.cell?_setCell_other _ _ _ _ (by simp [hne1, hne2]), World.cell?_setCell_other _ _ _ _ (by simp [hne1, hne2])]
    exact e4.cell q2
   clear ho4 hfz4 hng hset hod
   go_wp2_with fail
   refine hK _ _ hS4 ?_
   clear hK K
   refine wpAnyH_done (by kernel_rfl) ?_ _
   go_wp2_with fail
   try simp only [Exit.inBlock, Exit.then]
   refine bodyPost_ret (results_none rfl _ _ _) rfl ?_
   refine ⟨rfl, HG2.out, ?_⟩
   rw [HP.out]
   exact HSET.out
  ·go_wp2_with fail
   refine (xor_any S1 S2 _ (by rw [HSZ.out.1, HSZ.out.2]) (by rw [HSZ.out.1]; decide)).mono ?_
   rintro e w3 ⟨rfl, hx3⟩
   have e3 : Ext w2 w3 := (Ext.refl w2).drew.trans hx3
   have hS3 : (fun W' => W'.cell? ⟨gb, 0, none⟩ = some (.slice (some ⟨g, 0, none⟩) 3 c)) w3 := e3.cell q2
   refine hK _ _ hS3 ?_
   clear hK K
   try simp only [Act.put, List.setIfInBounds_toArray, List.set_cons_zero, List.set_cons_succ]
   have r03 := e3.cell r0
   have r13 := e3.cell r1
   refine wpAnyH_oneL (i := 9) rfl (by kernel_rfl) rfl (fun K hK => ?_)
   go_wp2_with fail
   refine hK _ _ hS3 ?_
   clear hK K r03 r13
   try simp only [Act.put, List.setIfInBounds_toArray, List.set_cons_zero, List.set_cons_succ]
   refine wpAnyH_oneL (i := 18) rfl (by kernel_rfl) rfl (fun K hK => ?_)
   go_wp2_with fail
   refine (devWrite_any [.slice A1 (dv a 2).sec.length c1, .slice A2 (dv a 2).lost.length c2] (dv a 2) (n / 2) (512 + n / 2) (xorS S1 S2) w3 (HD.out.up e3) ⟨by omega, by omega⟩ ⟨by omega, by omega⟩ HXZ.out).mono ?_
   rintro e w4 ⟨B1, k1, B2, k2, rfl, hx4, hod⟩
   have HBS := Lib.hid (show base ≤ w3.heap.size by have := HBG.out; have := e3.size; omega)
   have HGS := Lib.hid (show g < w3.heap.size by have := HBG.out.2; have := e3.size; omega)
   rw [HD2.out] at hod ⊢
   have e4 : Ext w2 w4 := e3.trans hx4
   have hS5 : (fun W' => W'.cell? ⟨gb, 0, none⟩ = some (.slice (some ⟨g, 0, none⟩) 3 c)) w4 := e4.cell q2
   refine hK _ _ hS5 ?_
   clear hK K
   refine tkL 19 rfl (fun w' hS => by (try dsimp only at hS); go_simp; rfl) hS5 ?_
   refine tkL 20 rfl (fun w' hS => by (try dsimp only at hS); go_simp; rfl) hS5 ?_
   refine tkL 21 rfl (fun w' hS => by (try dsimp only at hS); go_simp; rfl) hS5 ?_
   try simp only [Act.put, List.setIfInBounds_toArray, List.set_cons_zero, List.set_cons_succ]
   refine tkL 22 rfl (fun w' hS => by (try dsimp only at hS); go_simp; rfl) hS5 ?_
   try simp only [Act.put, List.setIfInBounds_toArray, List.set_cons_zero, List.set_cons_succ]
   refine wpAnyH_oneL (i := 23) rfl (by kernel_rfl) rfl (fun K hK => ?_)
   have ho4 := HO2.out.ext e4
   have hfz4 := (ho4.atg H3.out).2.2.1
   have z0 := hfz4 4
   have z1 := hfz4 5
   have r04 := e4.cell r0
   have r14 := e4.cell r1
   have hgw4 : g < w4.heap.size := by have := HBG.out.2; have := e4.size; omega
   have hbase4 : base ≤ w3.heap.size := HBS.out
   have hng := hod.dev.newG hod.new1 hod.new2 (show g < w3.heap.size from HGS.out)
   have hset := ho4.set (i := 2) (by rw [H3.out]; omega) hng (hod.new1.mono hbase4) (hod.new2.mono hbase4)
   have HSET := Lib.hid hset
   have HG2 := Lib.hid ((((HX12.out.trans e4).by_ (some g)).trans ((setRow_by w4 g 4 (.slice B1 (D2).sec.length k1)).trans (setRow_by _ g 5 (.slice B2 (D2).lost.length k2)))))
   have hS4 : ((w4.setCell ⟨g, 4, none⟩ (.slice B1 (D2).sec.length k1)).setCell ⟨g, 5, none⟩ (.slice B2 (D2).lost.length k2)).cell? ⟨gb, 0, none⟩ = some (.slice (some ⟨g, 0, none⟩) 3 c) := by
    rw [World.cell?_setCell_other _ _ _ _ (by simp [hne1, hne2]), World.cell?_setCell_other _ _ _ _ (by simp [hne1, hne2])]
    exact e4.cell q2
   clear ho4 hfz4 hng hset hod
   go_wp2_with fail
   refine hK _ _ hS4 ?_
   clear hK K
   refine wpAnyH_done (by kernel_rfl) ?_ _
   go_wp2_with fail
   try simp only [Exit.inBlock, Exit.then]
   refine bodyPost_ret (results_none rfl _ _ _) rfl ?_
   refine ⟨rfl, HG2.out, ?_⟩
   rw [HP.out]
   exact HSET.out
 ·have HP := Lib.hid (parity_lost hm)
  have hcs : okB (mirrorS a n) = false ∨ (okB (mirrorS a n) = true ∧ okB (mirrorS a (partner n)) = false) := by
   by_cases h1 : (mirrorS a n).2 = 0
   ·exact .inl (okB_false h1)
   ·exact .inr ⟨okB_true h1, okB_false (by by_cases h2 : (mirrorS a (partner n)).2 = 0; exact h2; exact absurd ⟨h1, h2⟩ hm)⟩
  generalize hD2 : loseS (dv a 2) (n / 2) = D2 at HP
  have HD2 := Lib.hid hD2
  clear hD2 hm
  rcases hcs with o1 | ⟨o1, o2⟩
  ·rw [o1]
   clear o1
   generalize (mirrorS a n).1 = S1 at *
   generalize (mirrorS a n).2 = T1 at *
   generalize (mirrorS a (partner n)).1 = S2 at *
   generalize (mirrorS a (partner n)).2 = T2 at *
   generalize okB (mirrorS a (partner n)) = T3 at *
   go_wp2_with fail
   refine wp_region_all (S := fun W' => W'.cell? ⟨gb, 0, none⟩ = some (.slice (some ⟨g, 0, none⟩) 3 c)) (by kernel_rfl) ?_
   have hS0 : (fun W' => W'.cell? ⟨gb, 0, none⟩ = some (.slice (some ⟨g, 0, none⟩) 3 c)) w2.drew := q2
   refine tkL 0 rfl (fun w' hS => by (try dsimp only at hS); go_simp; rfl) hS0 ?_
   refine tkL 1 rfl (fun w' hS => by (try dsimp only at hS); go_simp; rfl) hS0 ?_
   refine tkL 2 rfl (fun w' hS => by (try dsimp only at hS); go_simp; rfl) hS0 ?_
   try simp only [Act.put, List.setIfInBounds_toArray, List.set_cons_zero, List.set_cons_succ]
   refine tkL 3 rfl (fun w' hS => by (try dsimp only at hS); go_simp; rfl) hS0 ?_
   refine tkL 4 rfl (fun w' hS => by (try dsimp only at hS); go_simp; rfl) hS0 ?_
   refine tkL 5 rfl (fun w' hS => by (try dsimp only at hS); go_simp; rfl) hS0 ?_
   try simp only [Act.put, List.setIfInBounds_toArray, List.set_cons_zero, List.set_cons_succ]
   refine tkL 6 rfl (fun w' hS => by (try dsimp only at hS); go_simp; rfl) hS0 ?_
   refine tkL 7 rfl (fun w' hS => by (try dsimp only at hS); go_simp; rfl) hS0 ?_
   refine tkL 8 rfl (fun w' hS => by (try dsimp only at hS); go_simp; rfl) hS0 ?_
   try simp only [Act.put, List.setIfInBounds_toArray, List.set_cons_zero, List.set_cons_succ]
   refine tkL 10 rfl (fun w' hS => by (try dsimp only at hS); go_simp; rfl) hS0 ?_
   refine tkL 11 rfl (fun w' hS => by (try dsimp only at hS); go_simp; rfl) hS0 ?_
   try simp only [Act.put, List.setIfInBounds_toArray, List.set_cons_zero, List.set_cons_succ]
   refine wpAnyH_oneL (i := 9) rfl (by kernel_rfl) rfl (fun K hK => ?_)
   go_wp2_with fail
   refine hK _ _ hS0 ?_
   clear hK K
   try simp only [Act.put, List.setIfInBounds_toArray, List.set_cons_zero, List.set_cons_succ]
   refine wpAnyH_oneL (i := 12) rfl (by kernel_rfl) rfl (fun K hK => ?_)
   go_wp2_with fail
   refine (devLose_any [.slice A1 (dv a 2).sec.length c1, .slice A2 (dv a 2).lost.length c2] (dv a 2) (n / 2) _ (HD.out.up (Ext.refl _).drew) ⟨by omega, by omega⟩).mono ?_
   rintro e w4 ⟨B1, k1, B2, k2, rfl, hx4, hod⟩
   have HBS := Lib.hid (show base ≤ w2.drew.heap.size by have := HBG.out; simp; omega)
   have HGS := Lib.hid (show g < w2.drew.heap.size by have := HBG.out.2; simp; omega)
   rw [HD2.out] at hod ⊢
   have e4 : Ext w2 w4 := (Ext.refl w2).drew.trans hx4
   have hS5 : (fun W' => W'.cell? ⟨gb, 0, none⟩ = some (.slice (some ⟨g, 0, none⟩) 3 c)) w4 := e4.cell q2
   refine hK _ _ hS5 ?_
   clear hK K
   refine tkL 13 rfl (fun w' hS => by (try dsimp only at hS); go_simp; rfl) hS5 ?_
   refine tkL 14 rfl (fun w' hS => by (try dsimp only at hS); go_simp; rfl) hS5 ?_
   refine tkL 15 rfl (fun w' hS => by (try dsimp only at hS); go_simp; rfl) hS5 ?_
   try simp only [Act.put, List.setIfInBounds_toArray, List.set_cons_zero, List.set_cons_succ]
   refine tkL 16 rfl (fun w' hS => by (try dsimp only at hS); go_simp; rfl) hS5 ?_
   try simp only [Act.put, List.setIfInBounds_toArray, List.set_cons_zero, List.set_cons_succ]
   refine wpAnyH_oneL (i := 17) rfl (by kernel_rfl) rfl (fun K hK => ?_)
   have ho4 := HO2.out.ext e4
   have hfz4 := (ho4.atg H3.out).2.2.1
   have z0 := hfz4 4
   have z1 := hfz4 5
   have r04 := e4.cell r0
   have r14 := e4.cell r1
   have hgw4 : g < w4.heap.size := by have := HBG.out.2; have := e4.size; omega
   have hbase4 : base ≤ w2.drew.heap.size := HBS.out
   have hng := hod.dev.newG hod.new1 hod.new2 (show g < w2.drew.heap.size from HGS.out)
   have hset := ho4.set (i := 2) (by rw [H3.out]; omega) hng (hod.new1.mono hbase4) (hod.new2.mono hbase4)
   have HSET := Lib.hid hset
   have HG2 := Lib.hid ((((HX12.out.trans e4).by_ (some g)).trans ((setRow_by w4 g 4 (.slice B1 (D2).sec.length k1)).trans (setRow_by _ g 5 (.slice B2 (D2).lost.length k2)))))
   have hS4 : ((w4.setCell ⟨g, 4, none⟩ (.slice B1 (D2).sec.length k1)).setCell ⟨g, 5, none⟩ (.slice B2 (D2).lost.length k2)).cell? ⟨gb, 0, none⟩ = some (.slice (some ⟨g, 0, none⟩) 3 c) := by
    rw [World.cell?_setCell_other _ _ _ _ (by simp [hne1, hne2]), World.cell?_setCell_other _ _ _ _ (by simp [hne1, hne2])]
    exact e4.cell q2
   clear ho4 hfz4 hng hset hod
   go_wp2_with fail
   refine hK _ _ hS4 ?_
   clear hK K
   refine wpAnyH_done (by kernel_rfl) ?_ _
   go_wp2_with fail
   go_end0
   refine ⟨rfl, HG2.out, ?_⟩
   rw [HP.out]
   exact HSET.out
  ·rw [o1, o2]
   clear o1 o2
   generalize (mirrorS a n).1 = S1 at *
   generalize (mirrorS a n).2 = T1 at *
   generalize (mirrorS a (partner n)).1 = S2 at *
   generalize (mirrorS a (partner n)).2 = T2 at *
   go_wp2_with fail
   refine wp_region_all (S := fun W' => W'.cell? ⟨gb, 0, none⟩ = some (.slice (some ⟨g, 0, none⟩) 3 c)) (by kernel_rfl) ?_
   have hS0 : (fun W' => W'.cell? ⟨gb, 0, none⟩ = some (.slice (some ⟨g, 0, none⟩) 3 c)) w2.drew := q2
   refine tkL 0 rfl (fun w' hS => by (try dsimp only at hS); go_simp; rfl) hS0 ?_
   refine tkL 1 rfl (fun w' hS => by (try dsimp only at hS); go_simp; rfl) hS0 ?_
   refine tkL 2 rfl (fun w' hS => by (try dsimp only at hS); go_simp; rfl) hS0 ?_
   try simp only [Act.put, List.setIfInBounds_toArray, List.set_cons_zero, List.set_cons_succ]
   refine tkL 3 rfl (fun w' hS => by (try dsimp only at hS); go_simp; rfl) hS0 ?_
   refine tkL 4 rfl (fun w' hS => by (try dsimp only at hS); go_simp; rfl) hS0 ?_
   refine tkL 5 rfl (fun w' hS => by (try dsimp only at hS); go_simp; rfl) hS0 ?_
   try simp only [Act.put, List.setIfInBounds_toArray, List.set_cons_zero, List.set_cons_succ]
   refine tkL 6 rfl (fun w' hS => by (try dsimp only at hS); go_simp; rfl) hS0 ?_
   refine tkL 7 rfl (fun w' hS => by (try dsimp only at hS); go_simp; rfl) hS0 ?_
   refine tkL 8 rfl (fun w' hS => by (try dsimp only at hS); go_simp; rfl) hS0 ?_
   try simp only [Act.put, List.setIfInBounds_toArray, List.set_cons_zero, List.set_cons_succ]
   refine tkL 10 rfl (fun w' hS => by (try dsimp only at hS); go_simp; rfl) hS0 ?_
   refine tkL 11 rfl (fun w' hS => by (try dsimp only at hS); go_simp; rfl) hS0 ?_
   try simp only [Act.put, List.setIfInBounds_toArray, List.set_cons_zero, List.set_cons_succ]
   refine wpAnyH_oneL (i := 9) rfl (by kernel_rfl) rfl (fun K hK => ?_)
   go_wp2_with fail
   refine hK _ _ hS0 ?_
   clear hK K
   try simp only [Act.put, List.setIfInBounds_toArray, List.set_cons_zero, List.set_cons_succ]
   refine wpAnyH_oneL (i := 12) rfl (by kernel_rfl) rfl (fun K hK => ?_)
   go_wp2_with fail
   refine (devLose_any [.slice A1 (dv a 2).sec.length c1, .slice A2 (dv a 2).lost.length c2] (dv a 2) (n / 2) _ (HD.out.up (Ext.refl _).drew) ⟨by omega, by omega⟩).mono ?_
   rintro e w4 ⟨B1, k1, B2, k2, rfl, hx4, hod⟩
   have HBS := Lib.hid (show base ≤ w2.drew.heap.size by have := HBG.out; simp; omega)
   have HGS := Lib.hid (show g < w2.drew.heap.size by have := HBG.out.2; simp; omega)
   rw [HD2.out] at hod ⊢
   have e4 : Ext w2 w4 := (Ext.refl w2).drew.trans hx4
   have hS5 : (fun W' => W'.cell? ⟨gb, 0, none⟩ = some (.slice (some ⟨g, 0, none⟩) 3 c)) w4 := e4.cell q2
   refine hK _ _ hS5 ?_
   clear hK K
   refine tkL 13 rfl (fun w' hS => by (try dsimp only at hS); go_simp; rfl) hS5 ?_
   refine tkL 14 rfl (fun w' hS => by (try dsimp only at hS); go_simp; rfl) hS5 ?_
   refine tkL 15 rfl (fun w' hS => by (try dsimp only at hS); go_simp; rfl) hS5 ?_
   try simp only [Act.put, List.setIfInBounds_toArray, List.set_cons_zero, List.set_cons_succ]
   refine tkL 16 rfl (fun w' hS => by (try dsimp only at hS); go_simp; rfl) hS5 ?_
   try simp only [Act.put, List.setIfInBounds_toArray, List.set_cons_zero, List.set_cons_succ]
   refine wpAnyH_oneL (i := 17) rfl (by kernel_rfl) rfl (fun K hK => ?_)
   have ho4 := HO2.out.ext e4
   have hfz4 := (ho4.atg H3.out).2.2.1
   have z0 := hfz4 4
   have z1 := hfz4 5
   have r04 := e4.cell r0
   have r14 := e4.cell r1
   have hgw4 : g < w4.heap.size := by have := HBG.out.2; have := e4.size; omega
   have hbase4 : base ≤ w2.drew.heap.size := HBS.out
   have hng := hod.dev.newG hod.new1 hod.new2 (show g < w2.drew.heap.size from HGS.out)
   have hset := ho4.set (i := 2) (by rw [H3.out]; omega) hng (hod.new1.mono hbase4) (hod.new2.mono hbase4)
   have HSET := Lib.hid hset
   have HG2 := Lib.hid ((((HX12.out.trans e4).by_ (some g)).trans ((setRow_by w4 g 4 (.slice B1 (D2).sec.length k1)).trans (setRow_by _ g 5 (.slice B2 (D2).lost.length k2)))))
   have hS4 : ((w4.setCell ⟨g, 4, none⟩ (.slice B1 (D2).sec.length k1)).setCell ⟨g, 5, none⟩ (.slice B2 (D2).lost.length k2)).cell? ⟨gb, 0, none⟩ = some (.slice (some ⟨g, 0, none⟩) 3 c) := by
    rw [World.cell?_setCell_other _ _ _ _ (by simp [hne1, hne2]), World.cell?_setCell_other _ _ _ _ (by simp [hne1, hne2])]
    exact e4.cell q2
   clear ho4 hfz4 hng hset hod
   go_wp2_with fail
   refine hK _ _ hS4 ?_
   clear hK K
   refine wpAnyH_done (by kernel_rfl) ?_ _
   go_wp2_with fail
   go_end0
   refine ⟨rfl, HG2.out, ?_⟩
   rw [HP.out]
   exact HSET.out
theorem setBoth_any (a : List Dev) (n : Int) (s : ByteArray) (w : World) (g c base : Nat) (ho : OArr 35 w base (.slice (some ⟨g, 0, none⟩) 3 c) a) (h3 : a.length = 3) (hn : I64 n) (hs : s.size ≤ 140737488355328) :
  Calls Tryz.prog 87 #[.agg #[.slice (some ⟨g, 0, none⟩) 3 c], .int .i64 n, .string s] w fun e w' => e = .returned (.tuple #[]) ∧ w.grownBy w' (some g) ∧ OArr 35 w' base (.slice (some ⟨g, 0, none⟩) 3 c) (bothS a n s) := by
 have HN := Lib.hid (And.intro hn hs)
 have H3 := Lib.hid h3
 have hgw := (ho.atg h3).2.1
 have hne1 : ¬ (w.heap.size = g) := by omega
 have hne2 : ¬ (g = w.heap.size) := by omega
 clear hn hs h3
 go_enter Tryz.func87, Tryz.ntmps87
 go_wp2_with fail
 refine wp_abs (fun W => w.grownBy W (some g) ∧ Blk_ W w.heap.size 24 #[.slice (some ⟨g, 0, none⟩) 3 c] ∧ OArr 35 W base (.slice (some ⟨g, 0, none⟩) 3 c) a) ⟨((Ext.refl w).alloc _).by_ _, Blk_.new _ _ _, ho.ext ((Ext.refl _).alloc _)⟩ ?_
 rintro W ⟨hgr, hb, ho⟩
 obtain ⟨hbg, hgl, hfz, hat⟩ := ho.atg H3.out
 obtain ⟨A1, c1, A2, c2, r0, r1, hd⟩ := hat 0 (by omega)
 simp at r0 r1
 have q0 := hb.cell 0
 simp at q0
 have HD := Lib.hid hd
 have HO := Lib.hid ho
 have HB := Lib.hid hb
 have HBG := Lib.hid (And.intro hbg hgl)
 have HGR := Lib.hid hgr
 clear hd ho hb hgr hat hfz hbg hgl
 generalize hD2 : (writeS (dv a 0) n n s).1 = D2
 have HD2 := Lib.hid hD2
 clear hD2
 refine wp_region_all (S := fun W' => W'.cell? ⟨w.heap.size, 0, none⟩ = some (.slice (some ⟨g, 0, none⟩) 3 c)) (by kernel_rfl) ?_
 have hS0 : (fun W' => W'.cell? ⟨w.heap.size, 0, none⟩ = some (.slice (some ⟨g, 0, none⟩) 3 c)) W.drew := q0
 refine tkL 0 rfl (fun w' hS => by (try dsimp only at hS); go_simp; rfl) hS0 ?_
 refine tkL 1 rfl (fun w' hS => by (try dsimp only at hS); go_simp; rfl) hS0 ?_
 refine tkL 2 rfl (fun w' hS => by (try dsimp only at hS); go_simp; rfl) hS0 ?_
 try simp only [Act.put, List.setIfInBounds_toArray, List.set_cons_zero, List.set_cons_succ]
 refine tkL 3 rfl (fun w' hS => by (try dsimp only at hS); go_simp; rfl) hS0 ?_
 refine tkL 4 rfl (fun w' hS => by (try dsimp only at hS); go_simp; rfl) hS0 ?_
 refine tkL 6 rfl (fun w' hS => by (try dsimp only at hS); go_simp; rfl) hS0 ?_
 try simp only [Act.put, List.setIfInBounds_toArray, List.set_cons_zero, List.set_cons_succ]
 refine tkL 7 rfl (fun w' hS => by (try dsimp only at hS); go_simp; rfl) hS0 ?_
 refine tkL 8 rfl (fun w' hS => by (try dsimp only at hS); go_simp; rfl) hS0 ?_
 try simp only [Act.put, List.setIfInBounds_toArray, List.set_cons_zero, List.set_cons_succ]
 refine wpAnyH_oneL (i := 5) rfl (by kernel_rfl) rfl (fun K hK => ?_)
 go_wp2_with fail
 refine hK _ _ hS0 ?_
 clear hK K
 try simp only [Act.put, List.setIfInBounds_toArray, List.set_cons_zero, List.set_cons_succ]
 refine wpAnyH_oneL (i := 9) rfl (by kernel_rfl) rfl (fun K hK => ?_)
 go_wp2_with fail
 refine (deviceWritten_any [.slice A1 (dv a 0).sec.length c1, .slice A2 (dv a 0).lost.length c2] (dv a 0) n n s _ (HD.out.up (Ext.refl _).drew) HN.out.1 HN.out.1 HN.out.2).mono ?_
 rintro e w4 ⟨B1, k1, B2, k2, rfl, hx4, hod⟩
 have HBS := Lib.hid (show base ≤ W.drew.heap.size by have := HBG.out; simp; omega)
 have HGS := Lib.hid (show g < W.drew.heap.size by have := HBG.out.2; simp; omega)
 rw [HD2.out] at hod ⊢
 have e4 : Ext W w4 := (Ext.refl W).drew.trans hx4
 have hS5 : (fun W' => W'.cell? ⟨w.heap.size, 0, none⟩ = some (.slice (some ⟨g, 0, none⟩) 3 c)) w4 := e4.cell q0
 refine hK _ _ hS5 ?_
 clear hK K
 refine tkL 10 rfl (fun w' hS => by (try dsimp only at hS); go_simp; rfl) hS5 ?_
 refine tkL 11 rfl (fun w' hS => by (try dsimp only at hS); go_simp; rfl) hS5 ?_
 refine tkL 12 rfl (fun w' hS => by (try dsimp only at hS); go_simp; rfl) hS5 ?_
 try simp only [Act.put, List.setIfInBounds_toArray, List.set_cons_zero, List.set_cons_succ]
 refine tkL 13 rfl (fun w' hS => by (try dsimp only at hS); go_simp; rfl) hS5 ?_
 try simp only [Act.put, List.setIfInBounds_toArray, List.set_cons_zero, List.set_cons_succ]
 refine wpAnyH_oneL (i := 14) rfl (by kernel_rfl) rfl (fun K hK => ?_)
 have ho4 := HO.out.ext e4
 have hfz4 := (ho4.atg H3.out).2.2.1
 have z0 := hfz4 0
 have z1 := hfz4 1
 have r04 := e4.cell r0
 have r14 := e4.cell r1
 have hgw4 : g < w4.heap.size := by have := HBG.out.2; have := e4.size; omega
 have hng := hod.dev.newG hod.new1 hod.new2 (show g < W.drew.heap.size from HGS.out)
 have hset := ho4.set (i := 0) (by rw [H3.out]; omega) hng (hod.new1.mono HBS.out) (hod.new2.mono HBS.out)
 simp only [Nat.zero_mul, Nat.one_mul, Nat.zero_add, Nat.reduceMul, Nat.reduceAdd] at hset
 have HSET := Lib.hid hset
 have HG2 := Lib.hid ((((HGR.out.trans (e4.by_ (some g))).trans ((setRow_by w4 g 0 (.slice B1 D2.sec.length k1)).trans (setRow_by _ g 1 (.slice B2 D2.lost.length k2))))))
 have hB4 := ((HB.out.ext e4).far (p := ⟨g, 0, none⟩) hne1 (.slice B1 D2.sec.length k1)).far (p := ⟨g, 1, none⟩) hne1 (.slice B2 D2.lost.length k2)
 have hS4 := hB4.cell 0
 simp at hS4
 have HB4 := Lib.hid hB4
 clear ho4 hfz4 hng hset hod hB4
 go_wp2_with fail
 refine hK _ _ hS4 ?_
 clear hK K
 refine wpAnyH_done (by kernel_rfl) ?_ _
 go_wp2_with fail
 refine wp_abs (fun W => w.grownBy W (some g) ∧ Blk_ W w.heap.size 24 #[.slice (some ⟨g, 0, none⟩) 3 c] ∧ OArr 35 W base (.slice (some ⟨g, 0, none⟩) 3 c) (a.set 0 D2)) ⟨HG2.out, HB4.out, HSET.out⟩ ?_
 rintro W5 ⟨hgr, hb, ho⟩
 have H31 := Lib.hid (show (a.set 0 D2).length = 3 by simp [H3.out])
 have HDV := Lib.hid (show bothS a n s = (a.set 0 D2).set 1 (writeS (dv (a.set 0 D2) 1) n n s).1 by rw [dv_set_ne _ (by decide)]; unfold bothS; rw [HD2.out])
 clear HG2 HB4 HSET HD2 HGR HB HO HD HBG HBS HGS r0 r1 r04 r14 z0 z1 hgw4 q0 hS0 hS5 hS4 e4 hx4
 generalize a.set 0 D2 = a1 at *
 obtain ⟨hbg, hgl, hfz, hat⟩ := ho.atg H31.out
 obtain ⟨F1, d1, F2, d2, r0, r1, hd⟩ := hat 1 (by omega)
 simp at r0 r1
 have q0 := hb.cell 0
 simp at q0
 have HD := Lib.hid hd
 have HO := Lib.hid ho
 have HB := Lib.hid hb
 have HBG := Lib.hid (And.intro hbg hgl)
 have HGR := Lib.hid hgr
 clear hd ho hb hgr hat hfz hbg hgl
 generalize hE2 : (writeS (dv a1 1) n n s).1 = E2
 have HE2 := Lib.hid hE2
 clear hE2
 refine wp_region_all (S := fun W' => W'.cell? ⟨w.heap.size, 0, none⟩ = some (.slice (some ⟨g, 0, none⟩) 3 c)) (by kernel_rfl) ?_
 have hS0 : (fun W' => W'.cell? ⟨w.heap.size, 0, none⟩ = some (.slice (some ⟨g, 0, none⟩) 3 c)) W5.drew := q0
 refine tkL 0 rfl (fun w' hS => by (try dsimp only at hS); go_simp; rfl) hS0 ?_
 refine tkL 1 rfl (fun w' hS => by (try dsimp only at hS); go_simp; rfl) hS0 ?_
 refine tkL 2 rfl (fun w' hS => by (try dsimp only at hS); go_simp; rfl) hS0 ?_
 try simp only [Act.put, List.setIfInBounds_toArray, List.set_cons_zero, List.set_cons_succ]
 refine tkL 3 rfl (fun w' hS => by (try dsimp only at hS); go_simp; rfl) hS0 ?_
 refine tkL 4 rfl (fun w' hS => by (try dsimp only at hS); go_simp; rfl) hS0 ?_
 refine tkL 6 rfl (fun w' hS => by (try dsimp only at hS); go_simp; rfl) hS0 ?_
 try simp only [Act.put, List.setIfInBounds_toArray, List.set_cons_zero, List.set_cons_succ]
 refine tkL 7 rfl (fun w' hS => by (try dsimp only at hS); go_simp; rfl) hS0 ?_
 refine tkL 8 rfl (fun w' hS => by (try dsimp only at hS); go_simp; rfl) hS0 ?_
 try simp only [Act.put, List.setIfInBounds_toArray, List.set_cons_zero, List.set_cons_succ]
 refine wpAnyH_oneL (i := 5) rfl (by kernel_rfl) rfl (fun K hK => ?_)
 go_wp2_with fail
 refine hK _ _ hS0 ?_
 clear hK K
 try simp only [Act.put, List.setIfInBounds_toArray, List.set_cons_zero, List.set_cons_succ]
 refine wpAnyH_oneL (i := 9) rfl (by kernel_rfl) rfl (fun K hK => ?_)
 go_wp2_with fail
 refine (deviceWritten_any [.slice F1 (dv a1 1).sec.length d1, .slice F2 (dv a1 1).lost.length d2] (dv a1 1) n n s _ (HD.out.up (Ext.refl _).drew) HN.out.1 HN.out.1 HN.out.2).mono ?_
 rintro e w6 ⟨G1, m1, G2, m2, rfl, hx4, hod⟩
 have HBS := Lib.hid (show base ≤ W5.drew.heap.size by have := HBG.out; simp; omega)
 have HGS := Lib.hid (show g < W5.drew.heap.size by have := HBG.out.2; simp; omega)
 rw [HE2.out] at hod ⊢
 have e4 : Ext W5 w6 := (Ext.refl W5).drew.trans hx4
 have hS5 : (fun W' => W'.cell? ⟨w.heap.size, 0, none⟩ = some (.slice (some ⟨g, 0, none⟩) 3 c)) w6 := e4.cell q0
 refine hK _ _ hS5 ?_
 clear hK K
 refine tkL 10 rfl (fun w' hS => by (try dsimp only at hS); go_simp; rfl) hS5 ?_
 refine tkL 11 rfl (fun w' hS => by (try dsimp only at hS); go_simp; rfl) hS5 ?_
 refine tkL 12 rfl (fun w' hS => by (try dsimp only at hS); go_simp; rfl) hS5 ?_
 try simp only [Act.put, List.setIfInBounds_toArray, List.set_cons_zero, List.set_cons_succ]
 refine tkL 13 rfl (fun w' hS => by (try dsimp only at hS); go_simp; rfl) hS5 ?_
 try simp only [Act.put, List.setIfInBounds_toArray, List.set_cons_zero, List.set_cons_succ]
 refine wpAnyH_oneL (i := 14) rfl (by kernel_rfl) rfl (fun K hK => ?_)
 have ho4 := HO.out.ext e4
 have hfz4 := (ho4.atg H31.out).2.2.1
 have z0 := hfz4 2
 have z1 := hfz4 3
 have r04 := e4.cell r0
 have r14 := e4.cell r1
 have hgw6 : g < w6.heap.size := by have := HBG.out.2; have := e4.size; omega
 have hng := hod.dev.newG hod.new1 hod.new2 (show g < W5.drew.heap.size from HGS.out)
 have hset := ho4.set (i := 1) (by rw [H31.out]; omega) hng (hod.new1.mono HBS.out) (hod.new2.mono HBS.out)
 simp only [Nat.zero_mul, Nat.one_mul, Nat.zero_add, Nat.reduceMul, Nat.reduceAdd] at hset
 have HSET := Lib.hid hset
 have HG2 := Lib.hid ((((HGR.out.trans (e4.by_ (some g))).trans ((setRow_by w6 g 2 (.slice G1 E2.sec.length m1)).trans (setRow_by _ g 3 (.slice G2 E2.lost.length m2))))))
 have hB4 := ((HB.out.ext e4).far (p := ⟨g, 2, none⟩) hne1 (.slice G1 E2.sec.length m1)).far (p := ⟨g, 3, none⟩) hne1 (.slice G2 E2.lost.length m2)
 have hS4 := hB4.cell 0
 simp at hS4
 have HB4 := Lib.hid hB4
 clear ho4 hfz4 hng hset hod hB4
 go_wp2_with fail
 refine hK _ _ hS4 ?_
 clear hK K
 refine wpAnyH_done (by kernel_rfl) ?_ _
 go_wp2_with fail
 go_end0
 refine ⟨rfl, HG2.out, ?_⟩
 rw [HDV.out, HE2.out]
 exact HSET.out
theorem bothS_len {a : List Dev} (h : a.length = 3) (n : Int) (s : ByteArray) : (bothS a n s).length = 3 := by simp [bothS, h]
theorem savedS_len {a : List Dev} (h : a.length = 3) (n : Int) : (savedS a n).length = 3 := by
 unfold savedS; split
 ·exact bothS_len h _ _
 ·exact h
theorem parityS_len {a : List Dev} (h : a.length = 3) (n : Int) : (parityS a n).length = 3 := by
 unfold parityS; split <;> simp [h]
theorem write3_len {a : List Dev} (h : a.length = 3) (n : Int) (s : ByteArray) : (arrWrite3 a n s).length = 3 := parityS_len (bothS_len (savedS_len h n) n s) n
theorem aw_touch {a : List Dev} {n : Int} {s : ByteArray} (h : arrTouch a n ≠ 0) : arrWriteS a n s = ([], arrTouch a n) := by unfold arrWriteS; rw [if_pos h]
theorem aw_size {a : List Dev} {n : Int} {s : ByteArray} (h : arrTouch a n = 0) (h2 : 24 < s.size) : arrWriteS a n s = ([], 1) := by unfold arrWriteS; rw [if_neg (by simpa using h), if_pos h2]
theorem aw_ok {a : List Dev} {n : Int} {s : ByteArray} (h : arrTouch a n = 0) (h2 : ¬ 24 < s.size) : arrWriteS a n s = (arrWrite3 a n s, 0) := by unfold arrWriteS; rw [if_neg (by simpa using h), if_neg h2]
theorem arrWrite_any (cs : List Value) (a : List Dev) (n : Int) (s : ByteArray) (w : World) (h : RArr w cs a) (hn : I64 n) (hs : s.size ≤ 140737488355328) :
  Calls Tryz.prog 48 #[.agg cs.toArray, .int .i64 n, .string s] w fun e w' => ∃ A c, e = .returned (.tuple #[.agg #[.slice A (arrWriteS a n s).1.length c], .int .i64 (arrWriteS a n s).2]) ∧ Ext w w' ∧ OArr 35 w' w.heap.size (.slice A (arrWriteS a n s).1.length c) (arrWriteS a n s).1 := by
 obtain ⟨A, c, rfl⟩ := h.form
 go_enter Tryz.func48, Tryz.ntmps48
 go_wp2_with fail
 refine calls_abs (fun W => Ext w W ∧ Blk_ W w.heap.size 24 #[.slice A a.length c] ∧ Blk_ W (w.heap.size + 1) 24 #[.slice none 0 0]) ⟨((Ext.refl _).alloc _).alloc _, (Blk_.new _ _ _).alloc _, Blk_.new1 _ _ _ _⟩ ?_
 rintro W ⟨hx, hb, hr⟩
 refine (arrAt_any [.slice A a.length c] a n W (h.up hx) hn).mono ?_
 rintro e w1 ⟨rfl, hx1⟩
 have hb1 := hb.ext hx1
 have hr1 := hr.ext hx1
 have hxw := hx.trans hx1
 have ha1 := h.up hxw
 have f0 := hb1.cell 0
 simp at f0
 clear h hb hr hx hx1
 by_cases ht : arrTouch a n = 0
 ·by_cases hsz : 24 < s.size
  ·have HF := Lib.hid (aw_size ht hsz)
   rw [ht]
   have y0 := hr1.cell 0
   have x0 := hr1.frozen 0
   simp at y0
   have HB := Lib.hid (hr1.set 0 (.slice none 0 0))
   have HX := Lib.hid hxw
   clear hr1 hb1 ha1 hxw
   have t1 : decide ((24 : Int) < (s.size : Int)) = true := by simp; omega
   clear ht hsz
   go_wp2_with fail
   refine bodyPost_ret (res_cell_tmp rfl rfl HB.out Tryz.underlying24 rfl (by kernel_rfl)) rfl ?_
   rw [HF.out]
   exact ⟨none, 0, rfl, HX.out.setCell (p := ⟨w.heap.size + 1, 0, none⟩) (by simp) _, OArr.nil _ _ _⟩
  ·have HF := Lib.hid (aw_ok ht hsz)
   have t1 : decide ((24 : Int) < (s.size : Int)) = false := by simp; omega
   obtain ⟨p1, p2, p3, p4, p5, p6, p7, n0, n63, p10⟩ := partner_range ht
   have h3 := (arr_parts (arrTouch_zero.1 ht).1).1
   have H3 := Lib.hid h3
   have HPR := Lib.hid (And.intro p6 p7)
   have HNN := Lib.hid (And.intro n0 n63)
   have HPX := Lib.hid (partner_xor n n0 n63)
   have HS24 := Lib.hid hsz
   have HI := Lib.hid (And.intro hn hs)
   rw [ht]
   clear p1 p2 p3 p4 p5 p6 p7 p10 ht hsz hn h3 n0 n63
   go_wp2_with fail
   refine (arrCopy_any [.slice A a.length c] a w1 ha1).mono ?_
   rintro e w2 ⟨A', c', rfl, hx2, ho⟩
   rw [H3.out] at ho ⊢
   obtain ⟨g, rfl, hg1, hg2, hfz, hat⟩ := ho.at_ H3.out
   have hb2 := hb1.ext hx2
   have hr2 := hr1.ext hx2
   have HX2 := Lib.hid (hxw.trans hx2)
   have hlr := hr1.lt
   have g0 := hb2.cell 0
   have z0 := hb2.frozen 0
   simp at g0
   have HB2 := Lib.hid (hb2.set 0 (.slice (some ⟨g, 0, none⟩) 3 c'))
   have HR2 := Lib.hid (hr2.far (p := ⟨w.heap.size, 0, none⟩) (by simp) (.slice (some ⟨g, 0, none⟩) 3 c'))
   have HO2 := Lib.hid (ho.far (p := ⟨w.heap.size, 0, none⟩) (by simp; omega) (.slice (some ⟨g, 0, none⟩) 3 c'))
   have HG := Lib.hid (And.intro hg1 hlr)
   clear hat hfz hb2 hr2 ho ha1 hb1 hr1 hxw hx2 f0 hg2
   go_wp2_with fail
   rw [HPX.out]
   refine calls_abs (fun W => Ext w W ∧ Blk_ W w.heap.size 24 #[.slice (some ⟨g, 0, none⟩) 3 c'] ∧ Blk_ W (w.heap.size + 1) 24 #[.slice none 0 0] ∧ OArr 35 W w1.heap.size (.slice (some ⟨g, 0, none⟩) 3 c') a) ⟨HX2.out.setCell (p := ⟨w.heap.size, 0, none⟩) (Nat.le_refl _) _, HB2.out, HR2.out, HO2.out⟩ ?_
   rintro W3 ⟨hx3, hb3, hr3, ho3⟩
   clear g0 z0 HX2 HB2 HR2 HO2
   refine (arrRead_any [.slice (some ⟨g, 0, none⟩) 3 c'] a (partner n) W3 (ho3.rarr (by rw [H3.out]; decide)) ⟨by have := HPR.out; omega, by have := HPR.out; omega⟩).mono ?_
   rintro e w4 ⟨rfl, hx4⟩
   have hb4 := hb3.ext hx4
   have hr4 := hr3.ext hx4
   have ho4 := ho3.ext hx4
   have hxw4 := hx3.trans hx4
   have hgn : w.heap.size ≠ g := by have := HG.out; omega
   have hgn1 : w.heap.size + 1 ≠ g := by have := HG.out; omega
   have hgw : w.heap.size ≤ g := by have := HG.out; omega
   have f4 := hb4.cell 0
   simp at f4
   clear hx3 hb3 hr3 ho3 hx4
   by_cases hsv : (arrReadS a (partner n)).2.2 = 0 ∧ (arrReadS a (partner n)).2.1 = 3
   ·have hsd : savedS a n = bothS a (partner n) (arrReadS a (partner n)).1 := by unfold savedS; rw [if_pos hsv]
    have hr24 := arrReadS_size hsv.1
    rw [hsv.1, hsv.2]
    have HSD := Lib.hid (And.intro hsd hr24)
    clear hsd hr24 hsv
    generalize (arrReadS a (partner n)).1 = T at *
    go_wp2_with fail
    rw [HPX.out]
    refine (both_any a (partner n) T w4 w.heap.size g c' w1.heap.size hb4 ho4 H3.out hgn ⟨by have := HPR.out; omega, by have := HPR.out; omega⟩ (by rw [HSD.out.2]; decide)).mono ?_
    rintro e w5 ⟨rfl, hgr5, ho5⟩
    have hb5 := hb4.grown hgr5 (fun k hk => by injection hk with hk; omega)
    have hr5 := hr4.grown hgr5 (fun k hk => by injection hk with hk; omega)
    have hx5 := hxw4.grown hgr5 (fun k hk => by injection hk with hk; omega)
    rw [← HSD.out.1] at ho5
    clear hb4 hr4 ho4 hxw4 f4 hgr5
    go_wp2_with fail
    refine (both_any (savedS a n) n s _ w.heap.size g c' w1.heap.size hb5 ho5 (savedS_len H3.out n) hgn HI.out.1 HI.out.2).mono ?_
    rintro e w6 ⟨rfl, hgr6, ho6⟩
    have hb6 := hb5.grown hgr6 (fun k hk => by injection hk with hk; omega)
    have hr6 := hr5.grown hgr6 (fun k hk => by injection hk with hk; omega)
    have hx6 := hx5.grown hgr6 (fun k hk => by injection hk with hk; omega)
    clear hb5 hr5 ho5 hx5 hgr6
    go_wp2_with fail
    refine (parity_any (bothS (savedS a n) n s) n w6 w.heap.size g c' w1.heap.size hb6 ho6 (bothS_len (savedS_len H3.out n) n s) hgn HNN.out.1 HNN.out.2).mono ?_
    rintro e w7 ⟨rfl, hgr7, ho7⟩
    have hb7 := hb6.grown hgr7 (fun k hk => by injection hk with hk; omega)
    have hr7 := hr6.grown hgr7 (fun k hk => by injection hk with hk; omega)
    have hx7 := hx6.grown hgr7 (fun k hk => by injection hk with hk; omega)
    have q0 := hb7.cell 0
    have y0 := hr7.cell 0
    have x0 := hr7.frozen 0
    simp at q0 y0
    have HB7 := Lib.hid (hr7.set 0 (.slice (some ⟨g, 0, none⟩) 3 c'))
    have HO7 := Lib.hid ho7
    clear hb6 hr6 ho6 hx6 hgr7 hb7 hr7 ho7
    go_wp2_with fail
    refine bodyPost_ret (res_cell_tmp rfl rfl HB7.out Tryz.underlying24 rfl (by kernel_rfl)) rfl ?_
    rw [HF.out]
    have hl3 : (arrWrite3 a n s).length = 3 := write3_len H3.out n s
    show ∃ A c, _ = Ending.returned (.tuple #[.agg #[.slice A (arrWrite3 a n s).length c], .int .i64 0]) ∧ _ ∧ OArr _ _ _ (.slice A (arrWrite3 a n s).length c) (arrWrite3 a n s)
    rw [hl3]
    exact ⟨some ⟨g, 0, none⟩, c', rfl, hx7.setCell (p := ⟨w.heap.size + 1, 0, none⟩) (by simp) _, (HO7.out.far (p := ⟨w.heap.size + 1, 0, none⟩) (by have := HG.out; simp; omega) _).base (by have := HG.out; omega)⟩
   ·have hsd : savedS a n = a := by unfold savedS; rw [if_neg hsv]
    have hcs : ((arrReadS a (partner n)).2.2 == 0) = false ∨ (((arrReadS a (partner n)).2.2 == 0) = true ∧ ((arrReadS a (partner n)).2.1 == 3) = false) := by
     by_cases h1 : (arrReadS a (partner n)).2.2 = 0
     ·refine .inr ⟨by simpa using h1, ?_⟩
      have : ¬ (arrReadS a (partner n)).2.1 = 3 := fun h2 => hsv ⟨h1, h2⟩
      simpa using this
     ·exact .inl (by simpa using h1)
    have HSD := Lib.hid hsd
    clear hsd hsv
    have hx5 := hxw4
    have hb5 := hb4
    have hr5 := hr4
    have ho5 := ho4
    rw [← HSD.out] at ho5
    clear hb4 hr4 ho4 hxw4
    generalize (arrReadS a (partner n)).1 = T at *
    generalize (arrReadS a (partner n)).2.1 = T1 at *
    generalize (arrReadS a (partner n)).2.2 = T2 at *
    rcases hcs with t2 | ⟨t2, t3⟩
    ·go_wp2_with fail
     refine (both_any (savedS a n) n s _ w.heap.size g c' w1.heap.size hb5 ho5 (savedS_len H3.out n) hgn HI.out.1 HI.out.2).mono ?_
     rintro e w6 ⟨rfl, hgr6, ho6⟩
     have hb6 := hb5.grown hgr6 (fun k hk => by injection hk with hk; omega)
     have hr6 := hr5.grown hgr6 (fun k hk => by injection hk with hk; omega)
     have hx6 := hx5.grown hgr6 (fun k hk => by injection hk with hk; omega)
     clear hb5 hr5 ho5 hx5 hgr6
     go_wp2_with fail
     refine (parity_any (bothS (savedS a n) n s) n w6 w.heap.size g c' w1.heap.size hb6 ho6 (bothS_len (savedS_len H3.out n) n s) hgn HNN.out.1 HNN.out.2).mono ?_
     rintro e w7 ⟨rfl, hgr7, ho7⟩
     have hb7 := hb6.grown hgr7 (fun k hk => by injection hk with hk; omega)
     have hr7 := hr6.grown hgr7 (fun k hk => by injection hk with hk; omega)
     have hx7 := hx6.grown hgr7 (fun k hk => by injection hk with hk; omega)
     have q0 := hb7.cell 0
     have y0 := hr7.cell 0
     have x0 := hr7.frozen 0
     simp at q0 y0
     have HB7 := Lib.hid (hr7.set 0 (.slice (some ⟨g, 0, none⟩) 3 c'))
     have HO7 := Lib.hid ho7
     clear hb6 hr6 ho6 hx6 hgr7 hb7 hr7 ho7
     go_wp2_with fail
     refine bodyPost_ret (res_cell_tmp rfl rfl HB7.out Tryz.underlying24 rfl (by kernel_rfl)) rfl ?_
     rw [HF.out]
     have hl3 : (arrWrite3 a n s).length = 3 := write3_len H3.out n s
     show ∃ A c, _ = Ending.returned (.tuple #[.agg #[.slice A (arrWrite3 a n s).length c], .int .i64 0]) ∧ _ ∧ OArr _ _ _ (.slice A (arrWrite3 a n s).length c) (arrWrite3 a n s)
     rw [hl3]
     exact ⟨some ⟨g, 0, none⟩, c', rfl, hx7.setCell (p := ⟨w.heap.size + 1, 0, none⟩) (by simp) _, (HO7.out.far (p := ⟨w.heap.size + 1, 0, none⟩) (by have := HG.out; simp; omega) _).base (by have := HG.out; omega)⟩
    ·go_wp2_with fail
     refine (both_any (savedS a n) n s _ w.heap.size g c' w1.heap.size hb5 ho5 (savedS_len H3.out n) hgn HI.out.1 HI.out.2).mono ?_
     rintro e w6 ⟨rfl, hgr6, ho6⟩
     have hb6 := hb5.grown hgr6 (fun k hk => by injection hk with hk; omega)
     have hr6 := hr5.grown hgr6 (fun k hk => by injection hk with hk; omega)
     have hx6 := hx5.grown hgr6 (fun k hk => by injection hk with hk; omega)
     clear hb5 hr5 ho5 hx5 hgr6
     go_wp2_with fail
     refine (parity_any (bothS (savedS a n) n s) n w6 w.heap.size g c' w1.heap.size hb6 ho6 (bothS_len (savedS_len H3.out n) n s) hgn HNN.out.1 HNN.out.2).mono ?_
     rintro e w7 ⟨rfl, hgr7, ho7⟩
     have hb7 := hb6.grown hgr7 (fun k hk => by injection hk with hk; omega)
     have hr7 := hr6.grown hgr7 (fun k hk => by injection hk with hk; omega)
     have hx7 := hx6.grown hgr7 (fun k hk => by injection hk with hk; omega)
     have q0 := hb7.cell 0
     have y0 := hr7.cell 0
     have x0 := hr7.frozen 0
     simp at q0 y0
     have HB7 := Lib.hid (hr7.set 0 (.slice (some ⟨g, 0, none⟩) 3 c'))
     have HO7 := Lib.hid ho7
     clear hb6 hr6 ho6 hx6 hgr7 hb7 hr7 ho7
     go_wp2_with fail
     refine bodyPost_ret (res_cell_tmp rfl rfl HB7.out Tryz.underlying24 rfl (by kernel_rfl)) rfl ?_
     rw [HF.out]
     have hl3 : (arrWrite3 a n s).length = 3 := write3_len H3.out n s
     show ∃ A c, _ = Ending.returned (.tuple #[.agg #[.slice A (arrWrite3 a n s).length c], .int .i64 0]) ∧ _ ∧ OArr _ _ _ (.slice A (arrWrite3 a n s).length c) (arrWrite3 a n s)
     rw [hl3]
     exact ⟨some ⟨g, 0, none⟩, c', rfl, hx7.setCell (p := ⟨w.heap.size + 1, 0, none⟩) (by simp) _, (HO7.out.far (p := ⟨w.heap.size + 1, 0, none⟩) (by have := HG.out; simp; omega) _).base (by have := HG.out; omega)⟩
 ·have HF := Lib.hid (aw_touch (s := s) ht)
  have ht' : (arrTouch a n != 0) = true := by simpa using ht
  have y0 := hr1.cell 0
  have x0 := hr1.frozen 0
  simp at y0
  have HB := Lib.hid (hr1.set 0 (.slice none 0 0))
  have HX := Lib.hid hxw
  clear hr1 hb1 ha1 hxw
  clear ht
  generalize arrTouch a n = t at *
  go_wp2_with fail
  refine bodyPost_ret (res_cell_tmp rfl rfl HB.out Tryz.underlying24 rfl (by kernel_rfl)) rfl ?_
  rw [HF.out]
  exact ⟨none, 0, rfl, HX.out.setCell (p := ⟨w.heap.size + 1, 0, none⟩) (by simp) _, OArr.nil _ _ _⟩
theorem written_ok {a : List Dev} {n : Int} {s : ByteArray} {b : List Dev} {T : ByteArray} (ht : arrTouch a n = 0) (hs : ¬ 24 < s.size) (hb : bothS (savedS a n) n s = b) (h : (arrReadS a (partner n)).2.2 = 0) (hT : (arrReadS a (partner n)).1 = T) :
  arrWriteS a n s = (b.set 2 (writeS (dv b 2) (n / 2) (512 + n / 2) (xorS (padS s) T)).1, 0) := by
 rw [aw_ok ht hs, written_eq ht (by omega)]; unfold writtenS; rw [if_pos h, hb, hT]
theorem written_lost {a : List Dev} {n : Int} {s : ByteArray} {b : List Dev} (ht : arrTouch a n = 0) (hs : ¬ 24 < s.size) (hb : bothS (savedS a n) n s = b) (h : (arrReadS a (partner n)).2.2 ≠ 0) :
  arrWriteS a n s = (b.set 2 (loseS (dv b 2) (n / 2)), 0) := by
 rw [aw_ok ht hs, written_eq ht (by omega)]; unfold writtenS; rw [if_neg h, hb]
theorem pad_join (s : ByteArray) : s ++ bs (List.replicate (24 - s.size) 0) = padS s := by
 rw [bs_append_lst]; rfl
theorem arrayWritten_any (cs : List Value) (a : List Dev) (n : Int) (s : ByteArray) (w : World) (h : RArr w cs a) (hn : I64 n) (hs : s.size ≤ 140737488355328) :
  Calls Tryz.prog 61 #[.agg cs.toArray, .int .i64 n, .string s] w fun e w' => ∃ A c, e = .returned (.tuple #[.agg #[.slice A (arrWriteS a n s).1.length c], .int .i64 (arrWriteS a n s).2]) ∧ Ext w w' ∧ OArr 35 w' w.heap.size (.slice A (arrWriteS a n s).1.length c) (arrWriteS a n s).1 := by
 obtain ⟨A, c, rfl⟩ := h.form
 go_enter Tryz.func61, Tryz.ntmps61
 go_wp2_with fail
 refine calls_abs (fun W => Ext w W ∧ Blk_ W w.heap.size 24 #[.slice A a.length c] ∧ Blk_ W (w.heap.size + 1) 24 #[.slice none 0 0]) ⟨((Ext.refl _).alloc _).alloc _, (Blk_.new _ _ _).alloc _, Blk_.new1 _ _ _ _⟩ ?_
 rintro W ⟨hx, hb, hr⟩
 refine (arrTouched_any [.slice A a.length c] a n W (h.up hx) hn).mono ?_
 rintro e w1 ⟨rfl, hx1⟩
 have hb1 := hb.ext hx1
 have hr1 := hr.ext hx1
 have hxw := hx.trans hx1
 have ha1 := h.up hxw
 have f0 := hb1.cell 0
 simp at f0
 clear h hb hr hx hx1
 by_cases ht : arrTouch a n = 0
 ·by_cases hsz : 24 < s.size
  ·have HF := Lib.hid (aw_size ht hsz)
   rw [ht]
   have y0 := hr1.cell 0
   have x0 := hr1.frozen 0
   simp at y0
   have HB := Lib.hid (hr1.set 0 (.slice none 0 0))
   have HX := Lib.hid hxw
   clear hr1 hb1 ha1 hxw
   have t1 : decide ((24 : Int) < (s.size : Int)) = true := by simp; omega
   clear ht hsz
   go_wp2_with fail
   refine bodyPost_ret (res_cell_tmp rfl rfl HB.out Tryz.underlying24 rfl (by kernel_rfl)) rfl ?_
   rw [HF.out]
   exact ⟨none, 0, rfl, HX.out.setCell (p := ⟨w.heap.size + 1, 0, none⟩) (by simp) _, OArr.nil _ _ _⟩
  ·have HTT := Lib.hid (And.intro ht hsz)
   have t1 : decide ((24 : Int) < (s.size : Int)) = false := by simp; omega
   obtain ⟨p1, p2, p3, p4, p5, p6, p7, n0, n63, p10⟩ := partner_range ht
   have h3 := (arr_parts (arrTouch_zero.1 ht).1).1
   have H3 := Lib.hid h3
   have HPR := Lib.hid (And.intro p6 p7)
   have HNN := Lib.hid (And.intro n0 n63)
   have HI := Lib.hid (And.intro hn hs)
   have HA1 := Lib.hid ha1
   rw [ht]
   clear p1 p2 p3 p4 p5 p6 p7 p10 ht hsz hn h3 n0 n63
   go_wp2_with fail
   refine (arrayCopy_any [.slice A a.length c] a w1 ha1).mono ?_
   rintro e w2 ⟨A', c', rfl, hx2, ho⟩
   have hcell : ∀ x, (.slice A' a.length c' : Value) = x → x = .slice A' 3 c' := fun x h => by rw [← h, H3.out]
   rw [H3.out] at ho
   have e33 : (Value.agg #[.slice A' a.length c']) = .agg #[.slice A' 3 c'] := by rw [H3.out]
   rw [e33]
   clear hcell e33
   obtain ⟨g, rfl, hg1, hg2, hfz, hat⟩ := ho.at_ H3.out
   have hb2 := hb1.ext hx2
   have hr2 := hr1.ext hx2
   have HX2 := Lib.hid (hxw.trans hx2)
   have hlr := hr1.lt
   have hlr2 := hr2.lt
   have hlb2 := hb2.lt
   have HO2 := Lib.hid ho
   have HB2 := Lib.hid hb2
   have HR2 := Lib.hid hr2
   have HRA := Lib.hid (ha1.up hx2)
   have HG := Lib.hid (And.intro hg1 (And.intro hlr hg2))
   have f02 := hb2.cell 0
   simp at f02
   clear hat hfz hb2 hr2 ho ha1 hb1 hr1 hxw hx2 f0 hg2 HA1
   go_wp2_with fail
   refine wp_abs (fun W => Ext w2 W ∧ Blk_ W w2.heap.size 24 #[.slice (some ⟨g, 0, none⟩) 3 c']) ⟨(Ext.refl _).alloc _, Blk_.new _ _ _⟩ ?_
   rintro W3 ⟨e3, b3⟩
   have f03 := e3.cell f02
   have HB3 := Lib.hid (HB2.out.ext e3)
   have HR3 := Lib.hid (HR2.out.ext e3)
   have HO3 := Lib.hid (HO2.out.ext e3)
   have HX3 := Lib.hid (HX2.out.trans e3)
   have HRA3 := Lib.hid (HRA.out.up e3)
   have HC3 := Lib.hid b3
   have gle3 := e3.size
   clear f02 e3 b3 HB2 HR2 HO2 HX2 HRA
   refine wp_region_all (S := fun W' => W'.cell? ⟨w.heap.size, 0, none⟩ = some (.slice A a.length c)) (by kernel_rfl) ?_
   have hS0 : (fun W' => W'.cell? ⟨w.heap.size, 0, none⟩ = some (.slice A a.length c)) W3.drew := f03
   refine tkL 0 rfl (fun w' hS => by (try dsimp only at hS); go_simp; rfl) hS0 ?_
   refine tkL 1 rfl (fun w' hS => by (try dsimp only at hS); go_simp; rfl) hS0 ?_
   try simp only [Act.put, List.setIfInBounds_toArray, List.set_cons_zero, List.set_cons_succ]
   refine wpAnyH_oneL (i := 2) rfl (by kernel_rfl) rfl (fun K hK => ?_)
   go_wp2_with fail
   refine (partner_any n _ HNN.out.1 HNN.out.2).mono ?_
   rintro e w4 ⟨rfl, rfl⟩
   refine hK _ _ hS0 ?_
   clear hK K
   try simp only [Act.put, List.setIfInBounds_toArray, List.set_cons_zero, List.set_cons_succ]
   refine wpAnyH_oneL (i := 3) rfl (by kernel_rfl) rfl (fun K hK => ?_)
   go_wp2_with fail
   refine (arrayRead_any [.slice A a.length c] a (partner n) _ (HRA3.out.up (Ext.refl _).drew) ⟨by have := HPR.out; omega, by have := HPR.out; omega⟩).mono ?_
   rintro e w4 ⟨rfl, hx4⟩
   have e4 : Ext W3 w4 := (Ext.refl W3).drew.trans hx4
   have hS4 : (fun W' => W'.cell? ⟨w.heap.size, 0, none⟩ = some (.slice A a.length c)) w4 := e4.cell f03
   refine hK _ _ hS4 ?_
   clear hK K
   refine tkL 4 rfl (fun w' hS => by (try dsimp only at hS); go_simp; rfl) hS4 ?_
   refine tkL 5 rfl (fun w' hS => by (try dsimp only at hS); go_simp; rfl) hS4 ?_
   refine tkL 6 rfl (fun w' hS => by (try dsimp only at hS); go_simp; rfl) hS4 ?_
   try simp only [Act.put, List.setIfInBounds_toArray, List.set_cons_zero, List.set_cons_succ]
   refine tkL 7 rfl (fun w' hS => by (try dsimp only at hS); go_simp; rfl) hS4 ?_
   refine tkL 8 rfl (fun w' hS => by (try dsimp only at hS); go_simp; rfl) hS4 ?_
   refine tkL 9 rfl (fun w' hS => by (try dsimp only at hS); go_simp; rfl) hS4 ?_
   try simp only [Act.put, List.setIfInBounds_toArray, List.set_cons_zero, List.set_cons_succ]
   refine tkL 10 rfl (fun w' hS => by (try dsimp only at hS); go_simp; rfl) hS4 ?_
   try simp only [Act.put, List.setIfInBounds_toArray, List.set_cons_zero, List.set_cons_succ]
   refine wpAnyH_done (by kernel_rfl) ?_ _
   have hb4 := HC3.out.ext e4
   have hr4 := HR3.out.ext e4
   have ho4 := HO3.out.ext e4
   have hxw4 := HX3.out.trans e4
   have hgn : w2.heap.size ≠ g := by have := HG.out.2.2; omega
   have hgn1 : w.heap.size + 1 ≠ g := by have := HG.out; omega
   have hgw : w.heap.size ≤ g := by have := HG.out; omega
   have f4 := hb4.cell 0
   simp at f4
   clear e4 hx4 hS0 hS4 f03 HB3 HR3 HO3 HX3 HRA3 HC3
   have HRC := Lib.hid (show (arrReadS a (partner n)).2.2 = 0 → (arrReadS a (partner n)).1.size = 24 from fun h => arrReadS_size h)
   by_cases hsv : (arrReadS a (partner n)).2.2 = 0 ∧ (arrReadS a (partner n)).2.1 = 3
   ·have hsd : savedS a n = bothS a (partner n) (arrReadS a (partner n)).1 := by unfold savedS; rw [if_pos hsv]
    have hr24 := HRC.out hsv.1
    have HOK := Lib.hid hsv.1
    have t2 : ((arrReadS a (partner n)).2.2 == 0) = true := by simpa using hsv.1
    have t3 : ((arrReadS a (partner n)).2.1 == 3) = true := by simpa using hsv.2
    have HSD := Lib.hid (And.intro hsd hr24)
    clear hsd hr24 hsv
    generalize hT : (arrReadS a (partner n)).1 = T at *
    have HTE := Lib.hid hT
    clear hT
    generalize hT1 : (arrReadS a (partner n)).2.1 = T1 at *
    generalize hT2 : (arrReadS a (partner n)).2.2 = T2 at *
    have HT2 := Lib.hid hT2
    clear hT1 hT2
    go_wp2_with fail
    refine wp_region_all (S := fun W' => W'.cell? ⟨w2.heap.size, 0, none⟩ = some (.slice (some ⟨g, 0, none⟩) 3 c')) (by kernel_rfl) ?_
    have hS0 : (fun W' => W'.cell? ⟨w2.heap.size, 0, none⟩ = some (.slice (some ⟨g, 0, none⟩) 3 c')) w4.drew := f4
    refine tkL 0 rfl (fun w' hS => by (try dsimp only at hS); go_simp; rfl) hS0 ?_
    refine tkL 1 rfl (fun w' hS => by (try dsimp only at hS); go_simp; rfl) hS0 ?_
    refine tkL 3 rfl (fun w' hS => by (try dsimp only at hS); go_simp; rfl) hS0 ?_
    try simp only [Act.put, List.setIfInBounds_toArray, List.set_cons_zero, List.set_cons_succ]
    refine wpAnyH_oneL (i := 2) rfl (by kernel_rfl) rfl (fun K hK => ?_)
    go_wp2_with fail
    refine (partner_any n _ HNN.out.1 HNN.out.2).mono ?_
    rintro e w5 ⟨rfl, rfl⟩
    refine hK _ _ hS0 ?_
    clear hK K
    try simp only [Act.put, List.setIfInBounds_toArray, List.set_cons_zero, List.set_cons_succ]
    refine wpAnyH_oneL (i := 4) rfl (by kernel_rfl) rfl (fun K hK => ?_)
    go_wp2_with fail
    refine (setBoth_any a (partner n) T w4.drew g c' w1.heap.size (ho4.ext (Ext.refl _).drew) H3.out ⟨by have := HPR.out; omega, by have := HPR.out; omega⟩ (by rw [HSD.out.2]; decide)).mono ?_
    rintro e w5 ⟨rfl, hgr5', ho5⟩
    have hgr5 := ((Ext.refl w4).drew.by_ (some g)).trans hgr5'
    have hb5 := hb4.grown hgr5 (fun k hk => by injection hk with hk; omega)
    have hr5 := hr4.grown hgr5 (fun k hk => by injection hk with hk; omega)
    have hx5 := hxw4.grown hgr5 (fun k hk => by injection hk with hk; omega)
    have hS5 := hb5.cell 0
    simp at hS5
    refine hK _ _ hS5 ?_
    clear hK K
    refine wpAnyH_done (by kernel_rfl) ?_ _
    rw [← HSD.out.1] at ho5
    clear hb4 hr4 ho4 hxw4 f4 hgr5 hgr5' hS0
    try simp only [Act.put, List.setIfInBounds_toArray, List.set_cons_zero, List.set_cons_succ]
    go_wp2_with fail
    refine (setBoth_any (savedS a n) n s _ g c' w1.heap.size ho5 (savedS_len H3.out n) HI.out.1 HI.out.2).mono ?_
    rintro e w6 ⟨rfl, hgr6, ho6⟩
    have hb6 := hb5.grown hgr6 (fun k hk => by injection hk with hk; omega)
    have hr6 := hr5.grown hgr6 (fun k hk => by injection hk with hk; omega)
    have hx6 := hx5.grown hgr6 (fun k hk => by injection hk with hk; omega)
    have q6 := hb6.cell 0
    simp at q6
    have HBL := Lib.hid (bothS_len (savedS_len H3.out n) n s)
    obtain ⟨hbg, hgl, hfz, hat⟩ := ho6.atg HBL.out
    obtain ⟨A1, c1, A2, c2, r0, r1, hd⟩ := hat 2 (by omega)
    simp at r0 r1
    generalize hBB : bothS (savedS a n) n s = bb at *
    have HBB := Lib.hid hBB
    have HD := Lib.hid hd
    have HO6 := Lib.hid ho6
    have HB6 := Lib.hid hb6
    have HR6 := Lib.hid hr6
    have HX6 := Lib.hid hx6
    have HBG := Lib.hid (And.intro hbg hgl)
    have hne1 : ¬ (w2.heap.size = g) := hgn
    have hne2 : ¬ (g = w2.heap.size) := fun e => hgn e.symm
    have hq2 : (0 : Int) ≤ n / 2 := by have := HNN.out; omega
    have hq3 : n / 2 ≤ 31 := by have := HNN.out; omega
    clear hBB hb5 hr5 ho5 hx5 hgr6 hb6 hr6 ho6 hx6 hat hfz hd hbg hgl hS5
    go_wp2_with fail
    refine wp_region_all (S := fun W' => W'.cell? ⟨w2.heap.size, 0, none⟩ = some (.slice (some ⟨g, 0, none⟩) 3 c')) (by kernel_rfl) ?_
    have hS0 : (fun W' => W'.cell? ⟨w2.heap.size, 0, none⟩ = some (.slice (some ⟨g, 0, none⟩) 3 c')) w6.drew := q6
    refine tkL 0 rfl (fun w' hS => by (try dsimp only at hS); go_simp; rfl) hS0 ?_
    refine tkL 1 rfl (fun w' hS => by (try dsimp only at hS); go_simp; rfl) hS0 ?_
    refine tkL 2 rfl (fun w' hS => by (try dsimp only at hS); go_simp; rfl) hS0 ?_
    try simp only [Act.put, List.setIfInBounds_toArray, List.set_cons_zero, List.set_cons_succ]
    refine tkL 3 rfl (fun w' hS => by (try dsimp only at hS); go_simp; rfl) hS0 ?_
    refine tkL 4 rfl (fun w' hS => by (try dsimp only at hS); go_simp; rfl) hS0 ?_
    refine tkL 6 rfl (fun w' hS => by (try dsimp only at hS); go_simp; rfl) hS0 ?_
    try simp only [Act.put, List.setIfInBounds_toArray, List.set_cons_zero, List.set_cons_succ]
    refine tkL 7 rfl (fun w' hS => by (try dsimp only at hS); go_simp; rfl) hS0 ?_
    refine tkL 8 rfl (fun w' hS => by (try dsimp only at hS); go_simp; rfl) hS0 ?_
    refine tkL 9 rfl (fun w' hS => by (try dsimp only at hS); go_simp; rfl) hS0 ?_
    try simp only [Act.put, List.setIfInBounds_toArray, List.set_cons_zero, List.set_cons_succ]
    refine tkL 10 rfl (fun w' hS => by (try dsimp only at hS); go_simp; rfl) hS0 ?_
    refine tkL 11 rfl (fun w' hS => by (try dsimp only at hS); go_simp; rfl) hS0 ?_
    refine tkL 12 rfl (fun w' hS => by (try dsimp only at hS); go_simp; rfl) hS0 ?_
    try simp only [Act.put, List.setIfInBounds_toArray, List.set_cons_zero, List.set_cons_succ]
    refine tkL 13 rfl (fun w' hS => by (try dsimp only at hS); go_simp; rfl) hS0 ?_
    refine tkL 14 rfl (fun w' hS => by (try dsimp only at hS); go_simp; rfl) hS0 ?_
    refine tkL 17 rfl (fun w' hS => by (try dsimp only at hS); go_simp; rfl) hS0 ?_
    try simp only [Act.put, List.setIfInBounds_toArray, List.set_cons_zero, List.set_cons_succ]
    generalize hD2 : (writeS (dv bb 2) (n / 2) (512 + n / 2) (xorS (padS s) T)).1 = D2
    have HD2 := Lib.hid hD2
    clear hD2
    have HT24 := Lib.hid (show T.size = 24 from HRC.out HOK.out)
    have hcc : ¬ (9223372036854775807 < s.size + (24 - s.size)) := by have := HTT.out.2; omega
    have hcd : ¬ (9223372036854775807 < s.size + (24 - (s.size : Int)).toNat) := by have := HTT.out.2; omega
    refine wpAnyH_twoL (i := 5) (j := 15) rfl rfl (by kernel_rfl) rfl rfl (fun K hK => ?_) (fun K hK => ?_)
    ·go_wp2_with fail
     refine hK _ _ hS0 ?_
     clear hK K
     try simp only [Act.put, List.setIfInBounds_toArray, List.set_cons_zero, List.set_cons_succ]
     refine wpAnyH_oneL (i := 15) rfl (by kernel_rfl) rfl (fun K hK => ?_)
     go_wp2_with fail
     refine (noughts_any (24 - (s.size : Int)) _ (by have := HTT.out.2; omega) (by omega)).mono ?_
     rintro e w7 ⟨rfl, hx7⟩
     have e7 : Ext w6 w7 := (Ext.refl w6).drew.trans hx7
     have hS7 : (fun W' => W'.cell? ⟨w2.heap.size, 0, none⟩ = some (.slice (some ⟨g, 0, none⟩) 3 c')) w7 := e7.cell q6
     refine hK _ _ hS7 ?_
     clear hK K
     refine tkL 16 rfl (fun w' hS => by (try dsimp only at hS); go_simp; rfl) hS7 ?_
     try simp only [Act.put, List.setIfInBounds_toArray, List.set_cons_zero, List.set_cons_succ]
     rw [pad_join s]
     refine wpAnyH_oneL (i := 18) rfl (by kernel_rfl) rfl (fun K hK => ?_)
     go_wp2_with fail
     refine (others_any (padS s) T _ (by rw [padS_size (by have := HTT.out.2; omega), HT24.out]) (by rw [padS_size (by have := HTT.out.2; omega)]; decide) (by rw [padS_size (by have := HTT.out.2; omega)]; decide)).mono ?_
     rintro e w8 ⟨rfl, hx8⟩
     have e8 : Ext w6 w8 := e7.trans hx8
     have hS8 : (fun W' => W'.cell? ⟨w2.heap.size, 0, none⟩ = some (.slice (some ⟨g, 0, none⟩) 3 c')) w8 := e8.cell q6
     refine hK _ _ hS8 ?_
     clear hK K
     try simp only [Act.put, List.setIfInBounds_toArray, List.set_cons_zero, List.set_cons_succ]
     refine wpAnyH_oneL (i := 19) rfl (by kernel_rfl) rfl (fun K hK => ?_)
     go_wp2_with fail
     refine (deviceWritten_any [.slice A1 (dv bb 2).sec.length c1, .slice A2 (dv bb 2).lost.length c2] (dv bb 2) (n / 2) (512 + n / 2) (xorS (padS s) T) w8 (HD.out.up e8) ⟨by omega, by omega⟩ ⟨by omega, by omega⟩ (by rw [xorS_size (by rw [padS_size (by have := HTT.out.2; omega), HT24.out]), padS_size (by have := HTT.out.2; omega)]; decide)).mono ?_
     rintro e w9 ⟨B1, k1, B2, k2, rfl, hx9, hod⟩
     have HBS := Lib.hid (show w1.heap.size ≤ w8.heap.size by have := HBG.out; have := e8.size; omega)
     have HGS := Lib.hid (show g < w8.heap.size by have := HBG.out.2; have := e8.size; omega)
     rw [HD2.out] at hod ⊢
     have e9 : Ext w6 w9 := e8.trans hx9
     have hS5 : (fun W' => W'.cell? ⟨w2.heap.size, 0, none⟩ = some (.slice (some ⟨g, 0, none⟩) 3 c')) w9 := e9.cell q6
     refine hK _ _ hS5 ?_
     clear hK K
     refine tkL 20 rfl (fun w' hS => by (try dsimp only at hS); go_simp; rfl) hS5 ?_
     refine tkL 21 rfl (fun w' hS => by (try dsimp only at hS); go_simp; rfl) hS5 ?_
     refine tkL 22 rfl (fun w' hS => by (try dsimp only at hS); go_simp; rfl) hS5 ?_
     try simp only [Act.put, List.setIfInBounds_toArray, List.set_cons_zero, List.set_cons_succ]
     refine tkL 23 rfl (fun w' hS => by (try dsimp only at hS); go_simp; rfl) hS5 ?_
     try simp only [Act.put, List.setIfInBounds_toArray, List.set_cons_zero, List.set_cons_succ]
     refine wpAnyH_oneL (i := 24) rfl (by kernel_rfl) rfl (fun K hK => ?_)
     have ho4 := HO6.out.ext e9
     have hfz4 := (ho4.atg HBL.out).2.2.1
     have z0 := hfz4 4
     have z1 := hfz4 5
     have r09 := e9.cell r0
     have r19 := e9.cell r1
     have hgw4 : g < w9.heap.size := by have := HBG.out.2; have := e9.size; omega
     have hng := hod.dev.newG hod.new1 hod.new2 (show g < w8.heap.size from HGS.out)
     have hset := ho4.set (i := 2) (by rw [HBL.out]; omega) hng (hod.new1.mono HBS.out) (hod.new2.mono HBS.out)
     have HSET := Lib.hid hset
     have hG2 := ((e9.by_ (some g)).trans ((setRow_by w9 g 4 (.slice B1 D2.sec.length k1)).trans (setRow_by _ g 5 (.slice B2 D2.lost.length k2))))
     have hB9 := HB6.out.grown hG2 (fun k hk => by injection hk with hk; omega)
     have hR9 := HR6.out.grown hG2 (fun k hk => by injection hk with hk; omega)
     have HX9 := Lib.hid (HX6.out.grown hG2 (fun k hk => by injection hk with hk; omega))
     have hS9 := hB9.cell 0
     have y0 := hR9.cell 0
     have x0 := hR9.frozen 0
     simp at hS9
     simp at y0
     have HR10 := Lib.hid (hR9.set 0 (.slice (some ⟨g, 0, none⟩) 3 c'))
     clear ho4 hfz4 hng hset hod hB9 hG2 hR9
     go_wp2_with fail
     refine hK _ _ hS9 ?_
     clear hK K
     refine wpAnyH_done (by kernel_rfl) ?_ _
     have hlr9 := HX9.out.size
     go_wp2_with fail
     refine bodyPost_ret (res_cell_tmp rfl rfl HR10.out Tryz.underlying24 rfl (by kernel_rfl)) rfl ?_
     have hf := written_ok HTT.out.1 HTT.out.2 HBB.out (by rw [HT2.out]; exact HOK.out) HTE.out
     rw [hf, HD2.out]
     have hl3 : (bb.set 2 D2).length = 3 := by simp [HBL.out]
     show ∃ A c, _ = Ending.returned (.tuple #[.agg #[.slice A (bb.set 2 D2).length c], .int .i64 0]) ∧ _ ∧ OArr _ _ _ (.slice A (bb.set 2 D2).length c) (bb.set 2 D2)
     rw [hl3]
     exact ⟨some ⟨g, 0, none⟩, c', rfl, HX9.out.setCell (p := ⟨w.heap.size + 1, 0, none⟩) (by simp) _, (HSET.out.far (p := ⟨w.heap.size + 1, 0, none⟩) (by have := HG.out; simp; omega) _).base (by have := HG.out; omega)⟩
    ·go_wp2_with fail
     refine (noughts_any (24 - (s.size : Int)) _ (by have := HTT.out.2; omega) (by omega)).mono ?_
     rintro e w7 ⟨rfl, hx7⟩
     have e7 : Ext w6 w7 := (Ext.refl w6).drew.trans hx7
     have hS7 : (fun W' => W'.cell? ⟨w2.heap.size, 0, none⟩ = some (.slice (some ⟨g, 0, none⟩) 3 c')) w7 := e7.cell q6
     refine hK _ _ hS7 ?_
     clear hK K
     refine tkL 16 rfl (fun w' hS => by (try dsimp only at hS); go_simp; rfl) hS7 ?_
     try simp only [Act.put, List.setIfInBounds_toArray, List.set_cons_zero, List.set_cons_succ]
     rw [pad_join s]
     refine wpAnyH_twoL (i := 5) (j := 18) rfl rfl (by kernel_rfl) rfl rfl (fun K hK => ?_) (fun K hK => ?_)
     ·have r0x := e7.cell r0
      have r1x := e7.cell r1
      go_wp2_with fail
      refine hK _ _ hS7 ?_
      clear hK K
      try simp only [Act.put, List.setIfInBounds_toArray, List.set_cons_zero, List.set_cons_succ]
      refine wpAnyH_oneL (i := 18) rfl (by kernel_rfl) rfl (fun K hK => ?_)
      go_wp2_with fail
      refine (others_any (padS s) T _ (by rw [padS_size (by have := HTT.out.2; omega), HT24.out]) (by rw [padS_size (by have := HTT.out.2; omega)]; decide) (by rw [padS_size (by have := HTT.out.2; omega)]; decide)).mono ?_
      rintro e w8 ⟨rfl, hx8⟩
      have e8 : Ext w6 w8 := e7.trans hx8
      have hS8 : (fun W' => W'.cell? ⟨w2.heap.size, 0, none⟩ = some (.slice (some ⟨g, 0, none⟩) 3 c')) w8 := e8.cell q6
      refine hK _ _ hS8 ?_
      clear hK K
      try simp only [Act.put, List.setIfInBounds_toArray, List.set_cons_zero, List.set_cons_succ]
      refine wpAnyH_oneL (i := 19) rfl (by kernel_rfl) rfl (fun K hK => ?_)
      go_wp2_with fail
      refine (deviceWritten_any [.slice A1 (dv bb 2).sec.length c1, .slice A2 (dv bb 2).lost.length c2] (dv bb 2) (n / 2) (512 + n / 2) (xorS (padS s) T) w8 (HD.out.up e8) ⟨by omega, by omega⟩ ⟨by omega, by omega⟩ (by rw [xorS_size (by rw [padS_size (by have := HTT.out.2; omega), HT24.out]), padS_size (by have := HTT.out.2; omega)]; decide)).mono ?_
      rintro e w9 ⟨B1, k1, B2, k2, rfl, hx9, hod⟩
      have HBS := Lib.hid (show w1.heap.size ≤ w8.heap.size by have := HBG.out; have := e8.size; omega)
      have HGS := Lib.hid (show g < w8.heap.size by have := HBG.out.2; have := e8.size; omega)
      rw [HD2.out] at hod ⊢
      have e9 : Ext w6 w9 := e8.trans hx9
      have hS5 : (fun W' => W'.cell? ⟨w2.heap.size, 0, none⟩ = some (.slice (some ⟨g, 0, none⟩) 3 c')) w9 := e9.cell q6
      refine hK _ _ hS5 ?_
      clear hK K
      refine tkL 20 rfl (fun w' hS => by (try dsimp only at hS); go_simp; rfl) hS5 ?_
      refine tkL 21 rfl (fun w' hS => by (try dsimp only at hS); go_simp; rfl) hS5 ?_
      refine tkL 22 rfl (fun w' hS => by (try dsimp only at hS); go_simp; rfl) hS5 ?_
      try simp only [Act.put, List.setIfInBounds_toArray, List.set_cons_zero, List.set_cons_succ]
      refine tkL 23 rfl (fun w' hS => by (try dsimp only at hS); go_simp; rfl) hS5 ?_
      try simp only [Act.put, List.setIfInBounds_toArray, List.set_cons_zero, List.set_cons_succ]
      refine wpAnyH_oneL (i := 24) rfl (by kernel_rfl) rfl (fun K hK => ?_)
      have ho4 := HO6.out.ext e9
      have hfz4 := (ho4.atg HBL.out).2.2.1
      have z0 := hfz4 4
      have z1 := hfz4 5
      have r09 := e9.cell r0
      have r19 := e9.cell r1
      have hgw4 : g < w9.heap.size := by have := HBG.out.2; have := e9.size; omega
      have hng := hod.dev.newG hod.new1 hod.new2 (show g < w8.heap.size from HGS.out)
      have hset := ho4.set (i := 2) (by rw [HBL.out]; omega) hng (hod.new1.mono HBS.out) (hod.new2.mono HBS.out)
      have HSET := Lib.hid hset
      have hG2 := ((e9.by_ (some g)).trans ((setRow_by w9 g 4 (.slice B1 D2.sec.length k1)).trans (setRow_by _ g 5 (.slice B2 D2.lost.length k2))))
      have hB9 := HB6.out.grown hG2 (fun k hk => by injection hk with hk; omega)
      have hR9 := HR6.out.grown hG2 (fun k hk => by injection hk with hk; omega)
      have HX9 := Lib.hid (HX6.out.grown hG2 (fun k hk => by injection hk with hk; omega))
      have hS9 := hB9.cell 0
      have y0 := hR9.cell 0
      have x0 := hR9.frozen 0
      simp at hS9
      simp at y0
      have HR10 := Lib.hid (hR9.set 0 (.slice (some ⟨g, 0, none⟩) 3 c'))
      clear ho4 hfz4 hng hset hod hB9 hG2 hR9
      go_wp2_with fail
      refine hK _ _ hS9 ?_
      clear hK K
      refine wpAnyH_done (by kernel_rfl) ?_ _
      have hlr9 := HX9.out.size
      go_wp2_with fail
      refine bodyPost_ret (res_cell_tmp rfl rfl HR10.out Tryz.underlying24 rfl (by kernel_rfl)) rfl ?_
      have hf := written_ok HTT.out.1 HTT.out.2 HBB.out (by rw [HT2.out]; exact HOK.out) HTE.out
      rw [hf, HD2.out]
      have hl3 : (bb.set 2 D2).length = 3 := by simp [HBL.out]
      show ∃ A c, _ = Ending.returned (.tuple #[.agg #[.slice A (bb.set 2 D2).length c], .int .i64 0]) ∧ _ ∧ OArr _ _ _ (.slice A (bb.set 2 D2).length c) (bb.set 2 D2)
      rw [hl3]
      exact ⟨some ⟨g, 0, none⟩, c', rfl, HX9.out.setCell (p := ⟨w.heap.size + 1, 0, none⟩) (by simp) _, (HSET.out.far (p := ⟨w.heap.size + 1, 0, none⟩) (by have := HG.out; simp; omega) _).base (by have := HG.out; omega)⟩
     ·go_wp2_with fail
      refine (others_any (padS s) T _ (by rw [padS_size (by have := HTT.out.2; omega), HT24.out]) (by rw [padS_size (by have := HTT.out.2; omega)]; decide) (by rw [padS_size (by have := HTT.out.2; omega)]; decide)).mono ?_
      rintro e w8 ⟨rfl, hx8⟩
      have e8 : Ext w6 w8 := e7.trans hx8
      have hS8 : (fun W' => W'.cell? ⟨w2.heap.size, 0, none⟩ = some (.slice (some ⟨g, 0, none⟩) 3 c')) w8 := e8.cell q6
      refine hK _ _ hS8 ?_
      clear hK K
      try simp only [Act.put, List.setIfInBounds_toArray, List.set_cons_zero, List.set_cons_succ]
      refine wpAnyH_oneL (i := 5) rfl (by kernel_rfl) rfl (fun K hK => ?_)
      have r0x := e8.cell r0
      have r1x := e8.cell r1
      go_wp2_with fail
      refine hK _ _ hS8 ?_
      clear hK K
      try simp only [Act.put, List.setIfInBounds_toArray, List.set_cons_zero, List.set_cons_succ]
      refine wpAnyH_oneL (i := 19) rfl (by kernel_rfl) rfl (fun K hK => ?_)
      go_wp2_with fail
      refine (deviceWritten_any [.slice A1 (dv bb 2).sec.length c1, .slice A2 (dv bb 2).lost.length c2] (dv bb 2) (n / 2) (512 + n / 2) (xorS (padS s) T) w8 (HD.out.up e8) ⟨by omega, by omega⟩ ⟨by omega, by omega⟩ (by rw [xorS_size (by rw [padS_size (by have := HTT.out.2; omega), HT24.out]), padS_size (by have := HTT.out.2; omega)]; decide)).mono ?_
      rintro e w9 ⟨B1, k1, B2, k2, rfl, hx9, hod⟩
      have HBS := Lib.hid (show w1.heap.size ≤ w8.heap.size by have := HBG.out; have := e8.size; omega)
      have HGS := Lib.hid (show g < w8.heap.size by have := HBG.out.2; have := e8.size; omega)
      rw [HD2.out] at hod ⊢
      have e9 : Ext w6 w9 := e8.trans hx9
      have hS5 : (fun W' => W'.cell? ⟨w2.heap.size, 0, none⟩ = some (.slice (some ⟨g, 0, none⟩) 3 c')) w9 := e9.cell q6
      refine hK _ _ hS5 ?_
      clear hK K
      refine tkL 20 rfl (fun w' hS => by (try dsimp only at hS); go_simp; rfl) hS5 ?_
      refine tkL 21 rfl (fun w' hS => by (try dsimp only at hS); go_simp; rfl) hS5 ?_
      refine tkL 22 rfl (fun w' hS => by (try dsimp only at hS); go_simp; rfl) hS5 ?_
      try simp only [Act.put, List.setIfInBounds_toArray, List.set_cons_zero, List.set_cons_succ]
      refine tkL 23 rfl (fun w' hS => by (try dsimp only at hS); go_simp; rfl) hS5 ?_
      try simp only [Act.put, List.setIfInBounds_toArray, List.set_cons_zero, List.set_cons_succ]
      refine wpAnyH_oneL (i := 24) rfl (by kernel_rfl) rfl (fun K hK => ?_)
      have ho4 := HO6.out.ext e9
      have hfz4 := (ho4.atg HBL.out).2.2.1
      have z0 := hfz4 4
      have z1 := hfz4 5
      have r09 := e9.cell r0
      have r19 := e9.cell r1
      have hgw4 : g < w9.heap.size := by have := HBG.out.2; have := e9.size; omega
      have hng := hod.dev.newG hod.new1 hod.new2 (show g < w8.heap.size from HGS.out)
      have hset := ho4.set (i := 2) (by rw [HBL.out]; omega) hng (hod.new1.mono HBS.out) (hod.new2.mono HBS.out)
      have HSET := Lib.hid hset
      have hG2 := ((e9.by_ (some g)).trans ((setRow_by w9 g 4 (.slice B1 D2.sec.length k1)).trans (setRow_by _ g 5 (.slice B2 D2.lost.length k2))))
      have hB9 := HB6.out.grown hG2 (fun k hk => by injection hk with hk; omega)
      have hR9 := HR6.out.grown hG2 (fun k hk => by injection hk with hk; omega)
      have HX9 := Lib.hid (HX6.out.grown hG2 (fun k hk => by injection hk with hk; omega))
      have hS9 := hB9.cell 0
      have y0 := hR9.cell 0
      have x0 := hR9.frozen 0
      simp at hS9
      simp at y0
      have HR10 := Lib.hid (hR9.set 0 (.slice (some ⟨g, 0, none⟩) 3 c'))
      clear ho4 hfz4 hng hset hod hB9 hG2 hR9
      go_wp2_with fail
      refine hK _ _ hS9 ?_
      clear hK K
      refine wpAnyH_done (by kernel_rfl) ?_ _
      have hlr9 := HX9.out.size
      go_wp2_with fail
      refine bodyPost_ret (res_cell_tmp rfl rfl HR10.out Tryz.underlying24 rfl (by kernel_rfl)) rfl ?_
      have hf := written_ok HTT.out.1 HTT.out.2 HBB.out (by rw [HT2.out]; exact HOK.out) HTE.out
      rw [hf, HD2.out]
      have hl3 : (bb.set 2 D2).length = 3 := by simp [HBL.out]
      show ∃ A c, _ = Ending.returned (.tuple #[.agg #[.slice A (bb.set 2 D2).length c], .int .i64 0]) ∧ _ ∧ OArr _ _ _ (.slice A (bb.set 2 D2).length c) (bb.set 2 D2)
      rw [hl3]
      exact ⟨some ⟨g, 0, none⟩, c', rfl, HX9.out.setCell (p := ⟨w.heap.size + 1, 0, none⟩) (by simp) _, (HSET.out.far (p := ⟨w.heap.size + 1, 0, none⟩) (by have := HG.out; simp; omega) _).base (by have := HG.out; omega)⟩
   ·have hsd : savedS a n = a := by unfold savedS; rw [if_neg hsv]
    have hcs : ((arrReadS a (partner n)).2.2 == 0) = false ∨ (((arrReadS a (partner n)).2.2 == 0) = true ∧ ((arrReadS a (partner n)).2.1 == 3) = false) := by
     by_cases h1 : (arrReadS a (partner n)).2.2 = 0
     ·refine .inr ⟨by simpa using h1, ?_⟩
      have : ¬ (arrReadS a (partner n)).2.1 = 3 := fun h2 => hsv ⟨h1, h2⟩
      simpa using this
     ·exact .inl (by simpa using h1)
    have HSD := Lib.hid hsd
    clear hsd hsv
    have hx5 := hxw4
    have hb5 := hb4
    have hr5 := hr4
    have ho5 := ho4
    have hS5 := f4
    rw [← HSD.out] at ho5
    clear hb4 hr4 ho4 hxw4 f4
    generalize hT : (arrReadS a (partner n)).1 = T at *
    have HTE := Lib.hid hT
    clear hT
    generalize (arrReadS a (partner n)).2.1 = T1 at *
    generalize hT2 : (arrReadS a (partner n)).2.2 = T2 at *
    have HT2 := Lib.hid hT2
    clear hT2
    rcases hcs with t2 | ⟨t2, t3⟩
    ·go_wp2_with fail
     refine (setBoth_any (savedS a n) n s _ g c' w1.heap.size ho5 (savedS_len H3.out n) HI.out.1 HI.out.2).mono ?_
     rintro e w6 ⟨rfl, hgr6, ho6⟩
     have hb6 := hb5.grown hgr6 (fun k hk => by injection hk with hk; omega)
     have hr6 := hr5.grown hgr6 (fun k hk => by injection hk with hk; omega)
     have hx6 := hx5.grown hgr6 (fun k hk => by injection hk with hk; omega)
     have q6 := hb6.cell 0
     simp at q6
     have HBL := Lib.hid (bothS_len (savedS_len H3.out n) n s)
     obtain ⟨hbg, hgl, hfz, hat⟩ := ho6.atg HBL.out
     obtain ⟨A1, c1, A2, c2, r0, r1, hd⟩ := hat 2 (by omega)
     simp at r0 r1
     generalize hBB : bothS (savedS a n) n s = bb at *
     have HBB := Lib.hid hBB
     have HD := Lib.hid hd
     have HO6 := Lib.hid ho6
     have HB6 := Lib.hid hb6
     have HR6 := Lib.hid hr6
     have HX6 := Lib.hid hx6
     have HBG := Lib.hid (And.intro hbg hgl)
     have hne1 : ¬ (w2.heap.size = g) := hgn
     have hne2 : ¬ (g = w2.heap.size) := fun e => hgn e.symm
     have hq2 : (0 : Int) ≤ n / 2 := by have := HNN.out; omega
     have hq3 : n / 2 ≤ 31 := by have := HNN.out; omega
     clear hBB hb5 hr5 ho5 hx5 hgr6 hb6 hr6 ho6 hx6 hat hfz hd hbg hgl hS5
     go_wp2_with fail
     refine wp_region_all (S := fun W' => W'.cell? ⟨w2.heap.size, 0, none⟩ = some (.slice (some ⟨g, 0, none⟩) 3 c')) (by kernel_rfl) ?_
     have hS0 : (fun W' => W'.cell? ⟨w2.heap.size, 0, none⟩ = some (.slice (some ⟨g, 0, none⟩) 3 c')) w6.drew := q6
     refine tkL 0 rfl (fun w' hS => by (try dsimp only at hS); go_simp; rfl) hS0 ?_
     refine tkL 1 rfl (fun w' hS => by (try dsimp only at hS); go_simp; rfl) hS0 ?_
     refine tkL 2 rfl (fun w' hS => by (try dsimp only at hS); go_simp; rfl) hS0 ?_
     try simp only [Act.put, List.setIfInBounds_toArray, List.set_cons_zero, List.set_cons_succ]
     refine tkL 3 rfl (fun w' hS => by (try dsimp only at hS); go_simp; rfl) hS0 ?_
     refine tkL 4 rfl (fun w' hS => by (try dsimp only at hS); go_simp; rfl) hS0 ?_
     refine tkL 6 rfl (fun w' hS => by (try dsimp only at hS); go_simp; rfl) hS0 ?_
     try simp only [Act.put, List.setIfInBounds_toArray, List.set_cons_zero, List.set_cons_succ]
     refine tkL 7 rfl (fun w' hS => by (try dsimp only at hS); go_simp; rfl) hS0 ?_
     try simp only [Act.put, List.setIfInBounds_toArray, List.set_cons_zero, List.set_cons_succ]
     generalize hD2 : loseS (dv bb 2) (n / 2) = D2
     have HD2 := Lib.hid hD2
     clear hD2
     refine wpAnyH_oneL (i := 5) rfl (by kernel_rfl) rfl (fun K hK => ?_)
     go_wp2_with fail
     refine hK _ _ hS0 ?_
     clear hK K
     try simp only [Act.put, List.setIfInBounds_toArray, List.set_cons_zero, List.set_cons_succ]
     refine wpAnyH_oneL (i := 8) rfl (by kernel_rfl) rfl (fun K hK => ?_)
     go_wp2_with fail
     refine (deviceLost_any [.slice A1 (dv bb 2).sec.length c1, .slice A2 (dv bb 2).lost.length c2] (dv bb 2) (n / 2) _ (HD.out.up (Ext.refl _).drew) ⟨by omega, by omega⟩).mono ?_
     rintro e w9 ⟨B1, k1, B2, k2, rfl, hx9, hod⟩
     have HBS := Lib.hid (show w1.heap.size ≤ w6.drew.heap.size by have := HBG.out; simp; omega)
     have HGS := Lib.hid (show g < w6.drew.heap.size by have := HBG.out.2; simp; omega)
     rw [HD2.out] at hod ⊢
     have e9 : Ext w6 w9 := (Ext.refl w6).drew.trans hx9
     have hS5 : (fun W' => W'.cell? ⟨w2.heap.size, 0, none⟩ = some (.slice (some ⟨g, 0, none⟩) 3 c')) w9 := e9.cell q6
     refine hK _ _ hS5 ?_
     clear hK K
     refine tkL 9 rfl (fun w' hS => by (try dsimp only at hS); go_simp; rfl) hS5 ?_
     refine tkL 10 rfl (fun w' hS => by (try dsimp only at hS); go_simp; rfl) hS5 ?_
     refine tkL 11 rfl (fun w' hS => by (try dsimp only at hS); go_simp; rfl) hS5 ?_
     try simp only [Act.put, List.setIfInBounds_toArray, List.set_cons_zero, List.set_cons_succ]
     refine tkL 12 rfl (fun w' hS => by (try dsimp only at hS); go_simp; rfl) hS5 ?_
     try simp only [Act.put, List.setIfInBounds_toArray, List.set_cons_zero, List.set_cons_succ]
     refine wpAnyH_oneL (i := 13) rfl (by kernel_rfl) rfl (fun K hK => ?_)
     have ho4 := HO6.out.ext e9
     have hfz4 := (ho4.atg HBL.out).2.2.1
     have z0 := hfz4 4
     have z1 := hfz4 5
     have r09 := e9.cell r0
     have r19 := e9.cell r1
     have hgw4 : g < w9.heap.size := by have := HBG.out.2; have := e9.size; omega
     have hng := hod.dev.newG hod.new1 hod.new2 (show g < w6.drew.heap.size from HGS.out)
     have hset := ho4.set (i := 2) (by rw [HBL.out]; omega) hng (hod.new1.mono HBS.out) (hod.new2.mono HBS.out)
     have HSET := Lib.hid hset
     have hG2 := ((e9.by_ (some g)).trans ((setRow_by w9 g 4 (.slice B1 D2.sec.length k1)).trans (setRow_by _ g 5 (.slice B2 D2.lost.length k2))))
     have hB9 := HB6.out.grown hG2 (fun k hk => by injection hk with hk; omega)
     have hR9 := HR6.out.grown hG2 (fun k hk => by injection hk with hk; omega)
     have HX9 := Lib.hid (HX6.out.grown hG2 (fun k hk => by injection hk with hk; omega))
     have hS9 := hB9.cell 0
     have y0 := hR9.cell 0
     have x0 := hR9.frozen 0
     simp at hS9
     simp at y0
     have HR10 := Lib.hid (hR9.set 0 (.slice (some ⟨g, 0, none⟩) 3 c'))
     clear ho4 hfz4 hng hset hod hB9 hG2 hR9
     go_wp2_with fail
     refine hK _ _ hS9 ?_
     clear hK K
     refine wpAnyH_done (by kernel_rfl) ?_ _
     have hlr9 := HX9.out.size
     go_wp2_with fail
     refine bodyPost_ret (res_cell_tmp rfl rfl HR10.out Tryz.underlying24 rfl (by kernel_rfl)) rfl ?_
     have hf := written_lost HTT.out.1 HTT.out.2 HBB.out (by rw [HT2.out]; simpa using t2)
     rw [hf, HD2.out]
     have hl3 : (bb.set 2 D2).length = 3 := by simp [HBL.out]
     show ∃ A c, _ = Ending.returned (.tuple #[.agg #[.slice A (bb.set 2 D2).length c], .int .i64 0]) ∧ _ ∧ OArr _ _ _ (.slice A (bb.set 2 D2).length c) (bb.set 2 D2)
     rw [hl3]
     exact ⟨some ⟨g, 0, none⟩, c', rfl, HX9.out.setCell (p := ⟨w.heap.size + 1, 0, none⟩) (by simp) _, (HSET.out.far (p := ⟨w.heap.size + 1, 0, none⟩) (by have := HG.out; simp; omega) _).base (by have := HG.out; omega)⟩
    ·have HOK := Lib.hid (show T2 = 0 by simpa using t2)
     go_wp2_with fail
     refine (setBoth_any (savedS a n) n s _ g c' w1.heap.size ho5 (savedS_len H3.out n) HI.out.1 HI.out.2).mono ?_
     rintro e w6 ⟨rfl, hgr6, ho6⟩
     have hb6 := hb5.grown hgr6 (fun k hk => by injection hk with hk; omega)
     have hr6 := hr5.grown hgr6 (fun k hk => by injection hk with hk; omega)
     have hx6 := hx5.grown hgr6 (fun k hk => by injection hk with hk; omega)
     have q6 := hb6.cell 0
     simp at q6
     have HBL := Lib.hid (bothS_len (savedS_len H3.out n) n s)
     obtain ⟨hbg, hgl, hfz, hat⟩ := ho6.atg HBL.out
     obtain ⟨A1, c1, A2, c2, r0, r1, hd⟩ := hat 2 (by omega)
     simp at r0 r1
     generalize hBB : bothS (savedS a n) n s = bb at *
     have HBB := Lib.hid hBB
     have HD := Lib.hid hd
     have HO6 := Lib.hid ho6
     have HB6 := Lib.hid hb6
     have HR6 := Lib.hid hr6
     have HX6 := Lib.hid hx6
     have HBG := Lib.hid (And.intro hbg hgl)
     have hne1 : ¬ (w2.heap.size = g) := hgn
     have hne2 : ¬ (g = w2.heap.size) := fun e => hgn e.symm
     have hq2 : (0 : Int) ≤ n / 2 := by have := HNN.out; omega
     have hq3 : n / 2 ≤ 31 := by have := HNN.out; omega
     clear hBB hb5 hr5 ho5 hx5 hgr6 hb6 hr6 ho6 hx6 hat hfz hd hbg hgl hS5
     go_wp2_with fail
     refine wp_region_all (S := fun W' => W'.cell? ⟨w2.heap.size, 0, none⟩ = some (.slice (some ⟨g, 0, none⟩) 3 c')) (by kernel_rfl) ?_
     have hS0 : (fun W' => W'.cell? ⟨w2.heap.size, 0, none⟩ = some (.slice (some ⟨g, 0, none⟩) 3 c')) w6.drew := q6
     refine tkL 0 rfl (fun w' hS => by (try dsimp only at hS); go_simp; rfl) hS0 ?_
     refine tkL 1 rfl (fun w' hS => by (try dsimp only at hS); go_simp; rfl) hS0 ?_
     refine tkL 2 rfl (fun w' hS => by (try dsimp only at hS); go_simp; rfl) hS0 ?_
     try simp only [Act.put, List.setIfInBounds_toArray, List.set_cons_zero, List.set_cons_succ]
     refine tkL 3 rfl (fun w' hS => by (try dsimp only at hS); go_simp; rfl) hS0 ?_
     refine tkL 4 rfl (fun w' hS => by (try dsimp only at hS); go_simp; rfl) hS0 ?_
     refine tkL 6 rfl (fun w' hS => by (try dsimp only at hS); go_simp; rfl) hS0 ?_
     try simp only [Act.put, List.setIfInBounds_toArray, List.set_cons_zero, List.set_cons_succ]
     refine tkL 7 rfl (fun w' hS => by (try dsimp only at hS); go_simp; rfl) hS0 ?_
     refine tkL 8 rfl (fun w' hS => by (try dsimp only at hS); go_simp; rfl) hS0 ?_
     refine tkL 9 rfl (fun w' hS => by (try dsimp only at hS); go_simp; rfl) hS0 ?_
     try simp only [Act.put, List.setIfInBounds_toArray, List.set_cons_zero, List.set_cons_succ]
     refine tkL 10 rfl (fun w' hS => by (try dsimp only at hS); go_simp; rfl) hS0 ?_
     refine tkL 11 rfl (fun w' hS => by (try dsimp only at hS); go_simp; rfl) hS0 ?_
     refine tkL 12 rfl (fun w' hS => by (try dsimp only at hS); go_simp; rfl) hS0 ?_
     try simp only [Act.put, List.setIfInBounds_toArray, List.set_cons_zero, List.set_cons_succ]
     refine tkL 13 rfl (fun w' hS => by (try dsimp only at hS); go_simp; rfl) hS0 ?_
     refine tkL 14 rfl (fun w' hS => by (try dsimp only at hS); go_simp; rfl) hS0 ?_
     refine tkL 17 rfl (fun w' hS => by (try dsimp only at hS); go_simp; rfl) hS0 ?_
     try simp only [Act.put, List.setIfInBounds_toArray, List.set_cons_zero, List.set_cons_succ]
     generalize hD2 : (writeS (dv bb 2) (n / 2) (512 + n / 2) (xorS (padS s) T)).1 = D2
     have HD2 := Lib.hid hD2
     clear hD2
     have HT24 := Lib.hid (show T.size = 24 from HRC.out HOK.out)
     have hcc : ¬ (9223372036854775807 < s.size + (24 - s.size)) := by have := HTT.out.2; omega
     have hcd : ¬ (9223372036854775807 < s.size + (24 - (s.size : Int)).toNat) := by have := HTT.out.2; omega
     refine wpAnyH_twoL (i := 5) (j := 15) rfl rfl (by kernel_rfl) rfl rfl (fun K hK => ?_) (fun K hK => ?_)
     ·go_wp2_with fail
      refine hK _ _ hS0 ?_
      clear hK K
      try simp only [Act.put, List.setIfInBounds_toArray, List.set_cons_zero, List.set_cons_succ]
      refine wpAnyH_oneL (i := 15) rfl (by kernel_rfl) rfl (fun K hK => ?_)
      go_wp2_with fail
      refine (noughts_any (24 - (s.size : Int)) _ (by have := HTT.out.2; omega) (by omega)).mono ?_
      rintro e w7 ⟨rfl, hx7⟩
      have e7 : Ext w6 w7 := (Ext.refl w6).drew.trans hx7
      have hS7 : (fun W' => W'.cell? ⟨w2.heap.size, 0, none⟩ = some (.slice (some ⟨g, 0, none⟩) 3 c')) w7 := e7.cell q6
      refine hK _ _ hS7 ?_
      clear hK K
      refine tkL 16 rfl (fun w' hS => by (try dsimp only at hS); go_simp; rfl) hS7 ?_
      try simp only [Act.put, List.setIfInBounds_toArray, List.set_cons_zero, List.set_cons_succ]
      rw [pad_join s]
      refine wpAnyH_oneL (i := 18) rfl (by kernel_rfl) rfl (fun K hK => ?_)
      go_wp2_with fail
      refine (others_any (padS s) T _ (by rw [padS_size (by have := HTT.out.2; omega), HT24.out]) (by rw [padS_size (by have := HTT.out.2; omega)]; decide) (by rw [padS_size (by have := HTT.out.2; omega)]; decide)).mono ?_
      rintro e w8 ⟨rfl, hx8⟩
      have e8 : Ext w6 w8 := e7.trans hx8
      have hS8 : (fun W' => W'.cell? ⟨w2.heap.size, 0, none⟩ = some (.slice (some ⟨g, 0, none⟩) 3 c')) w8 := e8.cell q6
      refine hK _ _ hS8 ?_
      clear hK K
      try simp only [Act.put, List.setIfInBounds_toArray, List.set_cons_zero, List.set_cons_succ]
      refine wpAnyH_oneL (i := 19) rfl (by kernel_rfl) rfl (fun K hK => ?_)
      go_wp2_with fail
      refine (deviceWritten_any [.slice A1 (dv bb 2).sec.length c1, .slice A2 (dv bb 2).lost.length c2] (dv bb 2) (n / 2) (512 + n / 2) (xorS (padS s) T) w8 (HD.out.up e8) ⟨by omega, by omega⟩ ⟨by omega, by omega⟩ (by rw [xorS_size (by rw [padS_size (by have := HTT.out.2; omega), HT24.out]), padS_size (by have := HTT.out.2; omega)]; decide)).mono ?_
      rintro e w9 ⟨B1, k1, B2, k2, rfl, hx9, hod⟩
      have HBS := Lib.hid (show w1.heap.size ≤ w8.heap.size by have := HBG.out; have := e8.size; omega)
      have HGS := Lib.hid (show g < w8.heap.size by have := HBG.out.2; have := e8.size; omega)
      rw [HD2.out] at hod ⊢
      have e9 : Ext w6 w9 := e8.trans hx9
      have hS5 : (fun W' => W'.cell? ⟨w2.heap.size, 0, none⟩ = some (.slice (some ⟨g, 0, none⟩) 3 c')) w9 := e9.cell q6
      refine hK _ _ hS5 ?_
      clear hK K
      refine tkL 20 rfl (fun w' hS => by (try dsimp only at hS); go_simp; rfl) hS5 ?_
      refine tkL 21 rfl (fun w' hS => by (try dsimp only at hS); go_simp; rfl) hS5 ?_
      refine tkL 22 rfl (fun w' hS => by (try dsimp only at hS); go_simp; rfl) hS5 ?_
      try simp only [Act.put, List.setIfInBounds_toArray, List.set_cons_zero, List.set_cons_succ]
      refine tkL 23 rfl (fun w' hS => by (try dsimp only at hS); go_simp; rfl) hS5 ?_
      try simp only [Act.put, List.setIfInBounds_toArray, List.set_cons_zero, List.set_cons_succ]
      refine wpAnyH_oneL (i := 24) rfl (by kernel_rfl) rfl (fun K hK => ?_)
      have ho4 := HO6.out.ext e9
      have hfz4 := (ho4.atg HBL.out).2.2.1
      have z0 := hfz4 4
      have z1 := hfz4 5
      have r09 := e9.cell r0
      have r19 := e9.cell r1
      have hgw4 : g < w9.heap.size := by have := HBG.out.2; have := e9.size; omega
      have hng := hod.dev.newG hod.new1 hod.new2 (show g < w8.heap.size from HGS.out)
      have hset := ho4.set (i := 2) (by rw [HBL.out]; omega) hng (hod.new1.mono HBS.out) (hod.new2.mono HBS.out)
      have HSET := Lib.hid hset
      have hG2 := ((e9.by_ (some g)).trans ((setRow_by w9 g 4 (.slice B1 D2.sec.length k1)).trans (setRow_by _ g 5 (.slice B2 D2.lost.length k2))))
      have hB9 := HB6.out.grown hG2 (fun k hk => by injection hk with hk; omega)
      have hR9 := HR6.out.grown hG2 (fun k hk => by injection hk with hk; omega)
      have HX9 := Lib.hid (HX6.out.grown hG2 (fun k hk => by injection hk with hk; omega))
      have hS9 := hB9.cell 0
      have y0 := hR9.cell 0
      have x0 := hR9.frozen 0
      simp at hS9
      simp at y0
      have HR10 := Lib.hid (hR9.set 0 (.slice (some ⟨g, 0, none⟩) 3 c'))
      clear ho4 hfz4 hng hset hod hB9 hG2 hR9
      go_wp2_with fail
      refine hK _ _ hS9 ?_
      clear hK K
      refine wpAnyH_done (by kernel_rfl) ?_ _
      have hlr9 := HX9.out.size
      go_wp2_with fail
      refine bodyPost_ret (res_cell_tmp rfl rfl HR10.out Tryz.underlying24 rfl (by kernel_rfl)) rfl ?_
      have hf := written_ok HTT.out.1 HTT.out.2 HBB.out (by rw [HT2.out]; exact HOK.out) HTE.out
      rw [hf, HD2.out]
      have hl3 : (bb.set 2 D2).length = 3 := by simp [HBL.out]
      show ∃ A c, _ = Ending.returned (.tuple #[.agg #[.slice A (bb.set 2 D2).length c], .int .i64 0]) ∧ _ ∧ OArr _ _ _ (.slice A (bb.set 2 D2).length c) (bb.set 2 D2)
      rw [hl3]
      exact ⟨some ⟨g, 0, none⟩, c', rfl, HX9.out.setCell (p := ⟨w.heap.size + 1, 0, none⟩) (by simp) _, (HSET.out.far (p := ⟨w.heap.size + 1, 0, none⟩) (by have := HG.out; simp; omega) _).base (by have := HG.out; omega)⟩
     ·go_wp2_with fail
      refine (noughts_any (24 - (s.size : Int)) _ (by have := HTT.out.2; omega) (by omega)).mono ?_
      rintro e w7 ⟨rfl, hx7⟩
      have e7 : Ext w6 w7 := (Ext.refl w6).drew.trans hx7
      have hS7 : (fun W' => W'.cell? ⟨w2.heap.size, 0, none⟩ = some (.slice (some ⟨g, 0, none⟩) 3 c')) w7 := e7.cell q6
      refine hK _ _ hS7 ?_
      clear hK K
      refine tkL 16 rfl (fun w' hS => by (try dsimp only at hS); go_simp; rfl) hS7 ?_
      try simp only [Act.put, List.setIfInBounds_toArray, List.set_cons_zero, List.set_cons_succ]
      rw [pad_join s]
      refine wpAnyH_twoL (i := 5) (j := 18) rfl rfl (by kernel_rfl) rfl rfl (fun K hK => ?_) (fun K hK => ?_)
      ·have r0x := e7.cell r0
       have r1x := e7.cell r1
       go_wp2_with fail
       refine hK _ _ hS7 ?_
       clear hK K
       try simp only [Act.put, List.setIfInBounds_toArray, List.set_cons_zero, List.set_cons_succ]
       refine wpAnyH_oneL (i := 18) rfl (by kernel_rfl) rfl (fun K hK => ?_)
       go_wp2_with fail
       refine (others_any (padS s) T _ (by rw [padS_size (by have := HTT.out.2; omega), HT24.out]) (by rw [padS_size (by have := HTT.out.2; omega)]; decide) (by rw [padS_size (by have := HTT.out.2; omega)]; decide)).mono ?_
       rintro e w8 ⟨rfl, hx8⟩
       have e8 : Ext w6 w8 := e7.trans hx8
       have hS8 : (fun W' => W'.cell? ⟨w2.heap.size, 0, none⟩ = some (.slice (some ⟨g, 0, none⟩) 3 c')) w8 := e8.cell q6
       refine hK _ _ hS8 ?_
       clear hK K
       try simp only [Act.put, List.setIfInBounds_toArray, List.set_cons_zero, List.set_cons_succ]
       refine wpAnyH_oneL (i := 19) rfl (by kernel_rfl) rfl (fun K hK => ?_)
       go_wp2_with fail
       refine (deviceWritten_any [.slice A1 (dv bb 2).sec.length c1, .slice A2 (dv bb 2).lost.length c2] (dv bb 2) (n / 2) (512 + n / 2) (xorS (padS s) T) w8 (HD.out.up e8) ⟨by omega, by omega⟩ ⟨by omega, by omega⟩ (by rw [xorS_size (by rw [padS_size (by have := HTT.out.2; omega), HT24.out]), padS_size (by have := HTT.out.2; omega)]; decide)).mono ?_
       rintro e w9 ⟨B1, k1, B2, k2, rfl, hx9, hod⟩
       have HBS := Lib.hid (show w1.heap.size ≤ w8.heap.size by have := HBG.out; have := e8.size; omega)
       have HGS := Lib.hid (show g < w8.heap.size by have := HBG.out.2; have := e8.size; omega)
       rw [HD2.out] at hod ⊢
       have e9 : Ext w6 w9 := e8.trans hx9
       have hS5 : (fun W' => W'.cell? ⟨w2.heap.size, 0, none⟩ = some (.slice (some ⟨g, 0, none⟩) 3 c')) w9 := e9.cell q6
       refine hK _ _ hS5 ?_
       clear hK K
       refine tkL 20 rfl (fun w' hS => by (try dsimp only at hS); go_simp; rfl) hS5 ?_
       refine tkL 21 rfl (fun w' hS => by (try dsimp only at hS); go_simp; rfl) hS5 ?_
       refine tkL 22 rfl (fun w' hS => by (try dsimp only at hS); go_simp; rfl) hS5 ?_
       try simp only [Act.put, List.setIfInBounds_toArray, List.set_cons_zero, List.set_cons_succ]
       refine tkL 23 rfl (fun w' hS => by (try dsimp only at hS); go_simp; rfl) hS5 ?_
       try simp only [Act.put, List.setIfInBounds_toArray, List.set_cons_zero, List.set_cons_succ]
       refine wpAnyH_oneL (i := 24) rfl (by kernel_rfl) rfl (fun K hK => ?_)
       have ho4 := HO6.out.ext e9
       have hfz4 := (ho4.atg HBL.out).2.2.1
       have z0 := hfz4 4
       have z1 := hfz4 5
       have r09 := e9.cell r0
       have r19 := e9.cell r1
       have hgw4 : g < w9.heap.size := by have := HBG.out.2; have := e9.size; omega
       have hng := hod.dev.newG hod.new1 hod.new2 (show g < w8.heap.size from HGS.out)
       have hset := ho4.set (i := 2) (by rw [HBL.out]; omega) hng (hod.new1.mono HBS.out) (hod.new2.mono HBS.out)
       have HSET := Lib.hid hset
       have hG2 := ((e9.by_ (some g)).trans ((setRow_by w9 g 4 (.slice B1 D2.sec.length k1)).trans (setRow_by _ g 5 (.slice B2 D2.lost.length k2))))
       have hB9 := HB6.out.grown hG2 (fun k hk => by injection hk with hk; omega)
       have hR9 := HR6.out.grown hG2 (fun k hk => by injection hk with hk; omega)
       have HX9 := Lib.hid (HX6.out.grown hG2 (fun k hk => by injection hk with hk; omega))
       have hS9 := hB9.cell 0
       have y0 := hR9.cell 0
       have x0 := hR9.frozen 0
       simp at hS9
       simp at y0
       have HR10 := Lib.hid (hR9.set 0 (.slice (some ⟨g, 0, none⟩) 3 c'))
       clear ho4 hfz4 hng hset hod hB9 hG2 hR9
       go_wp2_with fail
       refine hK _ _ hS9 ?_
       clear hK K
       refine wpAnyH_done (by kernel_rfl) ?_ _
       have hlr9 := HX9.out.size
       go_wp2_with fail
       refine bodyPost_ret (res_cell_tmp rfl rfl HR10.out Tryz.underlying24 rfl (by kernel_rfl)) rfl ?_
       have hf := written_ok HTT.out.1 HTT.out.2 HBB.out (by rw [HT2.out]; exact HOK.out) HTE.out
       rw [hf, HD2.out]
       have hl3 : (bb.set 2 D2).length = 3 := by simp [HBL.out]
       show ∃ A c, _ = Ending.returned (.tuple #[.agg #[.slice A (bb.set 2 D2).length c], .int .i64 0]) ∧ _ ∧ OArr _ _ _ (.slice A (bb.set 2 D2).length c) (bb.set 2 D2)
       rw [hl3]
       exact ⟨some ⟨g, 0, none⟩, c', rfl, HX9.out.setCell (p := ⟨w.heap.size + 1, 0, none⟩) (by simp) _, (HSET.out.far (p := ⟨w.heap.size + 1, 0, none⟩) (by have := HG.out; simp; omega) _).base (by have := HG.out; omega)⟩
      ·go_wp2_with fail
       refine (others_any (padS s) T _ (by rw [padS_size (by have := HTT.out.2; omega), HT24.out]) (by rw [padS_size (by have := HTT.out.2; omega)]; decide) (by rw [padS_size (by have := HTT.out.2; omega)]; decide)).mono ?_
       rintro e w8 ⟨rfl, hx8⟩
       have e8 : Ext w6 w8 := e7.trans hx8
       have hS8 : (fun W' => W'.cell? ⟨w2.heap.size, 0, none⟩ = some (.slice (some ⟨g, 0, none⟩) 3 c')) w8 := e8.cell q6
       refine hK _ _ hS8 ?_
       clear hK K
       try simp only [Act.put, List.setIfInBounds_toArray, List.set_cons_zero, List.set_cons_succ]
       refine wpAnyH_oneL (i := 5) rfl (by kernel_rfl) rfl (fun K hK => ?_)
       have r0x := e8.cell r0
       have r1x := e8.cell r1
       go_wp2_with fail
       refine hK _ _ hS8 ?_
       clear hK K
       try simp only [Act.put, List.setIfInBounds_toArray, List.set_cons_zero, List.set_cons_succ]
       refine wpAnyH_oneL (i := 19) rfl (by kernel_rfl) rfl (fun K hK => ?_)
       go_wp2_with fail
       refine (deviceWritten_any [.slice A1 (dv bb 2).sec.length c1, .slice A2 (dv bb 2).lost.length c2] (dv bb 2) (n / 2) (512 + n / 2) (xorS (padS s) T) w8 (HD.out.up e8) ⟨by omega, by omega⟩ ⟨by omega, by omega⟩ (by rw [xorS_size (by rw [padS_size (by have := HTT.out.2; omega), HT24.out]), padS_size (by have := HTT.out.2; omega)]; decide)).mono ?_
       rintro e w9 ⟨B1, k1, B2, k2, rfl, hx9, hod⟩
       have HBS := Lib.hid (show w1.heap.size ≤ w8.heap.size by have := HBG.out; have := e8.size; omega)
       have HGS := Lib.hid (show g < w8.heap.size by have := HBG.out.2; have := e8.size; omega)
       rw [HD2.out] at hod ⊢
       have e9 : Ext w6 w9 := e8.trans hx9
       have hS5 : (fun W' => W'.cell? ⟨w2.heap.size, 0, none⟩ = some (.slice (some ⟨g, 0, none⟩) 3 c')) w9 := e9.cell q6
       refine hK _ _ hS5 ?_
       clear hK K
       refine tkL 20 rfl (fun w' hS => by (try dsimp only at hS); go_simp; rfl) hS5 ?_
       refine tkL 21 rfl (fun w' hS => by (try dsimp only at hS); go_simp; rfl) hS5 ?_
       refine tkL 22 rfl (fun w' hS => by (try dsimp only at hS); go_simp; rfl) hS5 ?_
       try simp only [Act.put, List.setIfInBounds_toArray, List.set_cons_zero, List.set_cons_succ]
       refine tkL 23 rfl (fun w' hS => by (try dsimp only at hS); go_simp; rfl) hS5 ?_
       try simp only [Act.put, List.setIfInBounds_toArray, List.set_cons_zero, List.set_cons_succ]
       refine wpAnyH_oneL (i := 24) rfl (by kernel_rfl) rfl (fun K hK => ?_)
       have ho4 := HO6.out.ext e9
       have hfz4 := (ho4.atg HBL.out).2.2.1
       have z0 := hfz4 4
       have z1 := hfz4 5
       have r09 := e9.cell r0
       have r19 := e9.cell r1
       have hgw4 : g < w9.heap.size := by have := HBG.out.2; have := e9.size; omega
       have hng := hod.dev.newG hod.new1 hod.new2 (show g < w8.heap.size from HGS.out)
       have hset := ho4.set (i := 2) (by rw [HBL.out]; omega) hng (hod.new1.mono HBS.out) (hod.new2.mono HBS.out)
       have HSET := Lib.hid hset
       have hG2 := ((e9.by_ (some g)).trans ((setRow_by w9 g 4 (.slice B1 D2.sec.length k1)).trans (setRow_by _ g 5 (.slice B2 D2.lost.length k2))))
       have hB9 := HB6.out.grown hG2 (fun k hk => by injection hk with hk; omega)
       have hR9 := HR6.out.grown hG2 (fun k hk => by injection hk with hk; omega)
       have HX9 := Lib.hid (HX6.out.grown hG2 (fun k hk => by injection hk with hk; omega))
       have hS9 := hB9.cell 0
       have y0 := hR9.cell 0
       have x0 := hR9.frozen 0
       simp at hS9
       simp at y0
       have HR10 := Lib.hid (hR9.set 0 (.slice (some ⟨g, 0, none⟩) 3 c'))
       clear ho4 hfz4 hng hset hod hB9 hG2 hR9
       go_wp2_with fail
       refine hK _ _ hS9 ?_
       clear hK K
       refine wpAnyH_done (by kernel_rfl) ?_ _
       have hlr9 := HX9.out.size
       go_wp2_with fail
       refine bodyPost_ret (res_cell_tmp rfl rfl HR10.out Tryz.underlying24 rfl (by kernel_rfl)) rfl ?_
       have hf := written_ok HTT.out.1 HTT.out.2 HBB.out (by rw [HT2.out]; exact HOK.out) HTE.out
       rw [hf, HD2.out]
       have hl3 : (bb.set 2 D2).length = 3 := by simp [HBL.out]
       show ∃ A c, _ = Ending.returned (.tuple #[.agg #[.slice A (bb.set 2 D2).length c], .int .i64 0]) ∧ _ ∧ OArr _ _ _ (.slice A (bb.set 2 D2).length c) (bb.set 2 D2)
       rw [hl3]
       exact ⟨some ⟨g, 0, none⟩, c', rfl, HX9.out.setCell (p := ⟨w.heap.size + 1, 0, none⟩) (by simp) _, (HSET.out.far (p := ⟨w.heap.size + 1, 0, none⟩) (by have := HG.out; simp; omega) _).base (by have := HG.out; omega)⟩
 ·have HF := Lib.hid (aw_touch (s := s) ht)
  have ht' : (arrTouch a n != 0) = true := by simpa using ht
  have ht2 : (arrTouch a n == 0) = false := by simpa using ht
  have y0 := hr1.cell 0
  have x0 := hr1.frozen 0
  simp at y0
  have HB := Lib.hid (hr1.set 0 (.slice none 0 0))
  have HX := Lib.hid hxw
  clear hr1 hb1 ha1 hxw
  clear ht
  generalize arrTouch a n = t at *
  go_wp2_with fail
  refine bodyPost_ret (res_cell_tmp rfl rfl HB.out Tryz.underlying24 rfl (by kernel_rfl)) rfl ?_
  rw [HF.out]
  exact ⟨none, 0, rfl, HX.out.setCell (p := ⟨w.heap.size + 1, 0, none⟩) (by simp) _, OArr.nil _ _ _⟩
end Go.Proofs.YtjadmfdlggnlgaaGreatDoor
