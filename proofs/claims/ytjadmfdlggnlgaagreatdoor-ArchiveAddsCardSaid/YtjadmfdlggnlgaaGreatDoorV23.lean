/-
  The law ArchiveAdds: archive.Add answers what the document says. Conditions: the arguments read as an array and a list of files.
-/
import Derived.Test.YtjadmfdlggnlgaaGreatDoorV22
namespace Go.Proofs.YtjadmfdlggnlgaaGreatDoor
set_option linter.unusedSimpArgs false
set_option linter.unusedVariables false
set_option maxRecDepth 100000
set_option maxHeartbeats 8000000
open Go.RowKit
theorem info_fil : (Tryz.prog.info? 51).map (fun i => (i.zero, i.size, i.bytes)) = some (some (.agg #[.string .empty, .string .empty]), 2, 32) := by kernel_rfl
theorem SlR.avBoxA {α : Type} {bytes : Nat} {R : Rd α} {enc : α → List Value} (he : Enc 1 R enc) {w : World} {v : Value} {l : List α} {g : Nat} {t : TypeId} (h : SlR 1 bytes R w v l) (hb : Blk_ w g t #[.slice none 0 0]) (hne : ∀ a, enc a ≠ [.slice none 0 0]) : Av g v := by
 intro b o s n c ev
 by_cases h0 : l.length = 0
 ·left
  obtain ⟨A, cap, e, _⟩ := h
  rw [e] at ev
  injection ev with _ h2 _
  omega
 ·right
  rintro rfl
  obtain ⟨A, cap, e, _, _, p⟩ := h.rowE he
  obtain ⟨b', o', hA, hc⟩ := p 0 (by omega)
  rw [e, hA] at ev
  injection ev with h1 _ _
  injection h1 with h1
  injection h1 with h1 _ _
  subst h1
  have hl := he.len l[0]
  obtain ⟨u, hu⟩ : ∃ u, enc l[0] = [u] := by
   match henc : enc l[0], hl with
   | [u], _ => exact ⟨u, rfl⟩
  have h3 := hc 0 (by omega) 0 u (by rw [hu]; rfl)
  rw [hb.cell] at h3
  have h4 : u = .slice none 0 0 := by
   cases hq : (o' + 0 * 1 + 0) with
   | zero => rw [hq] at h3; simpa using h3.symm
   | succ q => rw [hq] at h3; simp at h3
  exact hne _ (by rw [hu, h4])
theorem RArr.boxA {w : World} {v : Value} {a : List Dev} {g : Nat} {t : TypeId} (h : RArr w [v] a) (hb : Blk_ w g t #[.slice none 0 0]) (x : Value) : RArr (w.setCell ⟨g, 0, none⟩ x) [v] a := by
 obtain ⟨v', e, A, cap, hv, hby, hc, hh⟩ := h
 refine ⟨v', e, A, cap, hv, hby, hc, ?_⟩
 rcases hh with hh | ⟨b, o, hA, hh⟩
 ·exact .inl hh
 ·by_cases h0 : a = []
  ·exact .inl h0
  ·right
   have hlen : 0 < a.length := List.length_pos_iff.2 h0
   have hbg : b ≠ g := by
    rintro rfl
    obtain ⟨cs, hl, hcell, _⟩ := hh 0 hlen
    have h1 := hcell 1 (by decide)
    rw [hb.cell, List.getElem?_eq_getElem (by omega)] at h1
    have : (o + 0 * 2 + 1) = o + 1 := by omega
    rw [this] at h1
    simp at h1
   refine ⟨b, o, hA, fun i hi => ?_⟩
   obtain ⟨cs, hl, hcell, hr⟩ := hh i hi
   refine ⟨cs, hl, fun j hj => (World.cell?_setCell_other w _ _ x (fun e => hbg (by injection e with e1; exact e1.symm))).trans (hcell j hj), ?_⟩
   obtain ⟨v1, v2, e', h1, h2⟩ := hr
   exact ⟨v1, v2, e', h1.far encStr_ok (h1.avBoxA encStr_ok hb (fun a h => by simp [encStr] at h)) x, h2.far encBool_ok (h2.avBoxA encBool_ok hb (fun a h => by simp [encBool] at h)) x⟩
theorem addS_len {a : List Dev} {l : List Fil} : (addS a l).1.length * 48 ≤ 140737488355328 := by
 unfold addS
 split
 ·simp
 ·split
  ·simp
  ·split
   ·simp
   ·split
    ·simp
    ·exact sw_len
theorem lawArchiveAdds_any (cs : List Value) (a : List Dev) (v : Value) (l : List Fil) (w : World) (h : RArr w cs a) (hf : SlR 2 32 RFil w v l) :
  Calls Tryz.prog 3 #[.agg cs.toArray, v] w fun e w' => e = .returned (.bool true) ∧ Ext w w' := by
 obtain ⟨A, c, rfl⟩ := h.form
 have hla := h.bound
 have HLS := Lib.hid (addS_len (a := a) (l := l))
 have HMEM := Lib.hid (fun W y (hy : y ∈ l) => hf.mem encFil_ok W y hy)
 have HLB := Lib.hid (show l.length * 32 ≤ 140737488355328 from hf.len)
 go_enter Tryz.func3, Tryz.ntmps3
 go_wp2_with fail
 refine calls_abs (fun W => Ext w W ∧ Blk_ W w.heap.size 24 #[.slice A a.length c]) ⟨(Ext.refl _).alloc _, Blk_.new _ _ _⟩ ?_
 rintro W ⟨hx, hb⟩
 obtain ⟨g2, hg2⟩ : ∃ b, b = w.heap.size := ⟨_, rfl⟩
 rw [← hg2] at hb ⊢
 refine (arrayCopy_any [.slice A a.length c] a W (h.up hx)).mono ?_
 rintro e w1 ⟨Kk, k, rfl, hx1, hk⟩
 have hkd := hk.rarr hla
 have HB1 := Lib.hid (hb.ext hx1)
 have HA1 := Lib.hid (h.up (hx.trans hx1))
 have HF1 := Lib.hid (hf.ext RFil.stays (hx.trans hx1))
 have HX1 := Lib.hid (hx.trans hx1)
 clear h hf hb hk hx hx1 hla hg2
 go_wp2_with fail
 refine wp_abs (fun W2 => Ext w1 W2 ∧ Blk_ W2 w1.heap.size 24 #[.slice Kk a.length k]) ⟨(Ext.refl _).alloc _, Blk_.new _ _ _⟩ ?_
 rintro w2 ⟨hx2, hb2⟩
 obtain ⟨g5, hg5⟩ : ∃ b, b = w1.heap.size := ⟨_, rfl⟩
 rw [← hg5] at hb2 ⊢
 have HX2 := Lib.hid (HX1.out.trans hx2)
 have HB2 := Lib.hid (HB1.out.ext hx2)
 have HB5 := Lib.hid hb2
 have HA2 := Lib.hid (HA1.out.up hx2)
 have HF := Lib.hid (HF1.out.ext RFil.stays hx2)
 have HK2 := Lib.hid (hkd.up hx2)
 have q5 := hb2.cell 0
 simp at q5
 obtain ⟨i2, hj0, hy0, hy1, hy2⟩ := info_parts info_fil
 have HI2 := Lib.hid (And.intro hj0 (And.intro hy0 (And.intro hy1 hy2)))
 clear hx2 hb2 hkd hg5 HB1 HA1 HF1 hj0 hy0 hy1 hy2
 refine wp_region_all (S := fun W' => W'.cell? ⟨g5, 0, none⟩ = some (.slice Kk a.length k)) (by kernel_rfl) ?_
 have hS0 : (fun W' => W'.cell? ⟨g5, 0, none⟩ = some (.slice Kk a.length k)) w2.drew := q5
 refine tkL 0 rfl (fun w' hS => by (try dsimp only at hS); go_simp; rfl) hS0 ?_
 refine tkL 1 rfl (fun w' hS => by (try dsimp only at hS); go_simp; rfl) hS0 ?_
 try simp only [Act.put, List.setIfInBounds_toArray, List.set_cons_zero, List.set_cons_succ]
 clear hS0
 refine anyH_abs (fun W => Ext w2 W) ((Ext.refl _).drew) ?_
 rintro wp hxp
 refine wpAnyH_twoL (i := 2) (j := 7) rfl rfl (by kernel_rfl) rfl rfl (fun K hK => ?_) (fun K hK => ?_)
 focus
  refine wp_append_copy _ encFil_ok (by decide) (.const (.slice none 0 0)) (.tmp 14) 25 rfl 51 i2 (.agg #[.string .empty, .string .empty]) Tryz.underlying25 HI2.out.1 HI2.out.2.1 HI2.out.2.2.1 HI2.out.2.2.2 rfl rfl v l rfl (HF.out.ext RFil.stays hxp) (by have := HLB.out; unfold maxLen; omega) ?_
  intro A5 k5 w3 o3 f3
  refine hK _ _ ((hxp.trans f3).cell q5) ?_
  clear hK K
  try simp only [Act.put, List.setIfInBounds_toArray, List.set_cons_zero, List.set_cons_succ]
  have hfl := SlR.of_own (bytes := 32) encFil_ok o3 HLB.out (fun y hy => HMEM.out w3 y hy)
  refine anyH_abs (fun W => Ext w2 W ∧ SlR 2 32 RFil W (.slice A5 l.length k5) l) ⟨hxp.trans f3, hfl⟩ ?_
  clear hxp f3 o3 hfl
  rintro wp ⟨hxp, hfl⟩
  refine wpAnyH_twoL (i := 3) (j := 7) rfl rfl (by kernel_rfl) rfl rfl (fun K hK => ?_) (fun K hK => ?_)
  focus
   go_wp2_with fail
   refine (archAddG_any [.slice Kk a.length k] a (.slice A5 l.length k5) l wp (HK2.out.up hxp) hfl).mono ?_
   rintro e w4 ⟨X, x, rfl, hx4, hX⟩
   refine hK _ _ ((hxp.trans hx4).cell q5) ?_
   clear hK K
   try simp only [Act.put, List.setIfInBounds_toArray, List.set_cons_zero, List.set_cons_succ]
   refine anyH_abs (fun W => Ext w2 W ∧ RArr W [.slice X (addS a l).1.length x] (addS a l).1) ⟨hxp.trans hx4, hX.rarr HLS.out⟩ ?_
   clear hxp hx4 hX hfl
   rintro wp ⟨hxp, hX⟩
   have hS1 : (fun W' => W'.cell? ⟨g5, 0, none⟩ = some (.slice Kk a.length k)) wp := hxp.cell q5
   refine tkL 4 rfl (fun w' hS => by (try dsimp only at hS); go_simp; rfl) hS1 ?_
   refine tkL 5 rfl (fun w' hS => by (try dsimp only at hS); go_simp; rfl) hS1 ?_
   refine tkL 6 rfl (fun w' hS => by (try dsimp only at hS); go_simp; rfl) hS1 ?_
   try simp only [Act.put, List.setIfInBounds_toArray, List.set_cons_zero, List.set_cons_succ]
   clear hS1
   refine wpAnyH_oneL (i := 7) rfl (by kernel_rfl) rfl (fun K hK => ?_)
   go_wp2_with fail
   refine hK _ _ ((hxp.alloc _).cell q5) ?_
   clear hK K
   try simp only [Act.put, List.setIfInBounds_toArray, List.set_cons_zero, List.set_cons_succ]
   obtain ⟨g6, hg6⟩ : ∃ b, b = wp.heap.size := ⟨_, rfl⟩
   rw [← hg6]
   have hl6 : w2.heap.size ≤ g6 := by rw [hg6]; exact hxp.size
   refine anyH_abs (fun W => Ext w2 W ∧ RArr W [.slice X (addS a l).1.length x] (addS a l).1 ∧ Blk_ W g6 24 #[.slice none 0 0]) ⟨hxp.alloc _, hX.up ((Ext.refl _).alloc _), by rw [hg6]; exact Blk_.new _ _ _⟩ ?_
   clear hxp hg6 hX
   rintro wp ⟨hxp, hX, hk0⟩
  rotate_left
  focus
   go_wp2_with fail
   refine hK _ _ ((hxp.alloc _).cell q5) ?_
   clear hK K
   try simp only [Act.put, List.setIfInBounds_toArray, List.set_cons_zero, List.set_cons_succ]
   obtain ⟨g6, hg6⟩ : ∃ b, b = wp.heap.size := ⟨_, rfl⟩
   rw [← hg6]
   have hl6 : w2.heap.size ≤ g6 := by rw [hg6]; exact hxp.size
   refine anyH_abs (fun W => Ext w2 W ∧ SlR 2 32 RFil W (.slice A5 l.length k5) l ∧ Blk_ W g6 24 #[.slice none 0 0]) ⟨hxp.alloc _, hfl.ext RFil.stays ((Ext.refl _).alloc _), by rw [hg6]; exact Blk_.new _ _ _⟩ ?_
   clear hxp hg6 hfl
   rintro wp ⟨hxp, hfl, hk0⟩
   refine wpAnyH_oneL (i := 3) rfl (by kernel_rfl) rfl (fun K hK => ?_)
   go_wp2_with fail
   refine (archAddG_any [.slice Kk a.length k] a (.slice A5 l.length k5) l wp (HK2.out.up hxp) hfl).mono ?_
   rintro e w4 ⟨X, x, rfl, hx4, hX⟩
   refine hK _ _ ((hxp.trans hx4).cell q5) ?_
   clear hK K
   try simp only [Act.put, List.setIfInBounds_toArray, List.set_cons_zero, List.set_cons_succ]
   refine anyH_abs (fun W => Ext w2 W ∧ RArr W [.slice X (addS a l).1.length x] (addS a l).1 ∧ Blk_ W g6 24 #[.slice none 0 0]) ⟨hxp.trans hx4, hX.rarr HLS.out, hk0.ext hx4⟩ ?_
   clear hxp hx4 hX hfl hk0
   rintro wp ⟨hxp, hX, hk0⟩
   have hS1 : (fun W' => W'.cell? ⟨g5, 0, none⟩ = some (.slice Kk a.length k)) wp := hxp.cell q5
   refine tkL 4 rfl (fun w' hS => by (try dsimp only at hS); go_simp; rfl) hS1 ?_
   refine tkL 5 rfl (fun w' hS => by (try dsimp only at hS); go_simp; rfl) hS1 ?_
   refine tkL 6 rfl (fun w' hS => by (try dsimp only at hS); go_simp; rfl) hS1 ?_
   try simp only [Act.put, List.setIfInBounds_toArray, List.set_cons_zero, List.set_cons_succ]
   clear hS1
  rotate_left
 rotate_left 2
 focus
  go_wp2_with fail
  refine hK _ _ ((hxp.alloc _).cell q5) ?_
  clear hK K
  try simp only [Act.put, List.setIfInBounds_toArray, List.set_cons_zero, List.set_cons_succ]
  obtain ⟨g6, hg6⟩ : ∃ b, b = wp.heap.size := ⟨_, rfl⟩
  rw [← hg6]
  have hl6 : w2.heap.size ≤ g6 := by rw [hg6]; exact hxp.size
  refine anyH_abs (fun W => Ext w2 W ∧ Blk_ W g6 24 #[.slice none 0 0]) ⟨hxp.alloc _, by rw [hg6]; exact Blk_.new _ _ _⟩ ?_
  clear hxp hg6
  rintro wp ⟨hxp, hk0⟩
  refine wpAnyH_oneL (i := 2) rfl (by kernel_rfl) rfl (fun K hK => ?_)
  refine wp_append_copy _ encFil_ok (by decide) (.const (.slice none 0 0)) (.tmp 14) 25 rfl 51 i2 (.agg #[.string .empty, .string .empty]) Tryz.underlying25 HI2.out.1 HI2.out.2.1 HI2.out.2.2.1 HI2.out.2.2.2 rfl rfl v l rfl (HF.out.ext RFil.stays hxp) (by have := HLB.out; unfold maxLen; omega) ?_
  intro A5 k5 w3 o3 f3
  refine hK _ _ ((hxp.trans f3).cell q5) ?_
  clear hK K
  try simp only [Act.put, List.setIfInBounds_toArray, List.set_cons_zero, List.set_cons_succ]
  have hfl := SlR.of_own (bytes := 32) encFil_ok o3 HLB.out (fun y hy => HMEM.out w3 y hy)
  refine anyH_abs (fun W => Ext w2 W ∧ SlR 2 32 RFil W (.slice A5 l.length k5) l ∧ Blk_ W g6 24 #[.slice none 0 0]) ⟨hxp.trans f3, hfl, hk0.ext f3⟩ ?_
  clear hxp f3 o3 hfl hk0
  rintro wp ⟨hxp, hfl, hk0⟩
  refine wpAnyH_oneL (i := 3) rfl (by kernel_rfl) rfl (fun K hK => ?_)
  go_wp2_with fail
  refine (archAddG_any [.slice Kk a.length k] a (.slice A5 l.length k5) l wp (HK2.out.up hxp) hfl).mono ?_
  rintro e w4 ⟨X, x, rfl, hx4, hX⟩
  refine hK _ _ ((hxp.trans hx4).cell q5) ?_
  clear hK K
  try simp only [Act.put, List.setIfInBounds_toArray, List.set_cons_zero, List.set_cons_succ]
  refine anyH_abs (fun W => Ext w2 W ∧ RArr W [.slice X (addS a l).1.length x] (addS a l).1 ∧ Blk_ W g6 24 #[.slice none 0 0]) ⟨hxp.trans hx4, hX.rarr HLS.out, hk0.ext hx4⟩ ?_
  clear hxp hx4 hX hfl hk0
  rintro wp ⟨hxp, hX, hk0⟩
  have hS1 : (fun W' => W'.cell? ⟨g5, 0, none⟩ = some (.slice Kk a.length k)) wp := hxp.cell q5
  refine tkL 4 rfl (fun w' hS => by (try dsimp only at hS); go_simp; rfl) hS1 ?_
  refine tkL 5 rfl (fun w' hS => by (try dsimp only at hS); go_simp; rfl) hS1 ?_
  refine tkL 6 rfl (fun w' hS => by (try dsimp only at hS); go_simp; rfl) hS1 ?_
  try simp only [Act.put, List.setIfInBounds_toArray, List.set_cons_zero, List.set_cons_succ]
  clear hS1
 rotate_left 2
 all_goals
  have f6 := hk0.cell 0
  have z6 := hk0.frozen 0
  have l6 := hk0.lt
  simp at f6
  refine wpAnyH_oneL (i := 8) rfl (by kernel_rfl) rfl (fun K hK => ?_)
  go_wp2_with fail
  have hxq := hxp.setCell (p := ⟨g6, 0, none⟩) hl6 (.slice X (addS a l).1.length x)
  refine hK _ _ (hxq.cell q5) ?_
  clear hK K
  try simp only [Act.put, List.setIfInBounds_toArray, List.set_cons_zero, List.set_cons_succ]
  refine anyH_abs (fun W => Ext w2 W ∧ RArr W [.slice X (addS a l).1.length x] (addS a l).1 ∧ Blk_ W g6 24 #[.slice X (addS a l).1.length x]) ⟨hxq, hX.boxA hk0 _, hk0.set 0 _⟩ ?_
  clear hxp hxq hX hk0 f6 z6 l6
  rintro w5 ⟨hx5, hX, hk0⟩
  have hS2 : (fun W' => W'.cell? ⟨g5, 0, none⟩ = some (.slice Kk a.length k)) w5 := hx5.cell q5
  refine tkL 9 rfl (fun w' hS => by (try dsimp only at hS); go_simp; rfl) hS2 ?_
  try simp only [Act.put, List.setIfInBounds_toArray, List.set_cons_zero, List.set_cons_succ]
  clear hS2
  refine wpAnyH_done (by kernel_rfl) ?_ _
  have HX5 := Lib.hid hx5
  have HXD := Lib.hid hX
  have HB6 := Lib.hid hk0
  have r2 := (HB2.out.ext hx5).cell 0
  simp at r2
  clear hx5 hX hk0 q5
  go_wp2_with fail
  refine (addedOf_any [.slice A a.length c] a v l w5 (HA2.out.up HX5.out) (HF.out.ext RFil.stays HX5.out)).mono ?_
  rintro e w6 ⟨Y, y, rfl, hx6, hY⟩
  have HX6 := Lib.hid (HX5.out.trans hx6)
  have HX56 := Lib.hid hx6
  have HYD := Lib.hid (hY.rarr HLS.out)
  have p6 := (HB6.out.ext hx6).cell 0
  have p5 := (HB5.out.ext HX6.out).cell 0
  have p2 := (HB2.out.ext HX6.out).cell 0
  have l6a := (HB6.out.ext hx6).lt
  have l5a := (HB5.out.ext HX6.out).lt
  have l2a := (HB2.out.ext HX6.out).lt
  simp at p6 p5 p2
  clear hx6 hY r2
  go_wp2_with fail
  refine calls_abs (fun W => Ext w6 W) ((Ext.refl _).alloc _) ?_
  rintro w7 hx7
  refine (sameArray_true [.slice X (addS a l).1.length x] [.slice Y (addS a l).1.length y] (addS a l).1 w7 (HXD.out.up (HX56.out.trans hx7)) (HYD.out.up hx7)).mono ?_
  rintro e w8 ⟨rfl, hx8⟩
  have hx78 := hx7.trans hx8
  have p5' := hx78.cell p5
  have p2' := hx78.cell p2
  clear p5 p2 p6
  go_wp2_with fail
  refine (sameArray_true [.slice Kk a.length k] [.slice A a.length c] a w8 (HK2.out.up (HX6.out.trans hx78)) (HA2.out.up (HX6.out.trans hx78))).mono ?_
  rintro e w9 ⟨rfl, hx9⟩
  go_wp2_with fail
  go_ret
  exact ⟨rfl, HX2.out.trans (HX6.out.trans (hx78.trans hx9))⟩
end Go.Proofs.YtjadmfdlggnlgaaGreatDoor
