/-
  TopSteps: how far a scrub goes at a time does not matter. Conditions: the arguments read as lists of raw numbers and numbers; the table of powers of ten that the library reads is in place.
-/
import Derived.Test.YtgjijcgkmofaaaaGreatDoorQ26
import Derived.Test.YtgjijcgkmofaaaaGreatDoorKSame
import Derived.Test.YtgjijcgkmofaaaaGreatDoorPTopE
namespace Go.Proofs.YtgjijcgkmofaaaaGreatDoor
set_option linter.unusedSimpArgs false
set_option linter.unusedVariables false
open Go.RowKit
set_option maxRecDepth 100000 in
set_option maxHeartbeats 8000000 in
theorem lawTopSteps_any (v1 : Value) (l : List Raw4) (v2 : Value) (hs : List Raw4) (d nn : Int) (w : World) (h1 : SlR 4 32 RRaw w v1 l) (h2 : SlR 4 32 RRaw w v2 hs) (hd : I64 d) (hn : I64 nn) (ht : Tab w) :
  Calls Tryz.prog 11 #[v1, v2, .int .i64 d, .int .i64 nn] w fun e w' => e = .returned (.bool true) ∧ Ext w w' := by
 have H1 := Lib.hid h1
 have H2 := Lib.hid h2
 have HD := Lib.hid hd
 have HT := Lib.hid ht
 have HNN := Lib.hid hn
 obtain ⟨q, hq, hq2⟩ : ∃ q : Nat, pick nn 49 = (q : Int) ∧ q < 49 := picked_nat_ nn 49 (by decide)
 have HQQ := Lib.hid (And.intro hq hq2)
 obtain ⟨r, hr⟩ : ∃ r, r = 48 - q := ⟨_, rfl⟩
 have HRR := Lib.hid hr
 have hqr : (48 : Int) - (q : Int) = (r : Int) := by omega
 have hqI : (q : Int) ≤ 48 := by omega
 clear h1 h2 hd ht hn hq hq2 hr
 go_enter Tryz.func11, Tryz.ntmps11
 go_wp2_with fail
 refine (adds_any v1 l 6 w H1.out (by decide) (by decide) HT.out).mono ?_
 rintro e w1 ⟨A, c, A', c', La, Ls, rfl, hw, hle⟩
 have HA := Lib.hid (hw.acts (by have := hw.la; omega))
 have HG := Lib.hid hw.g
 have HE := Lib.hid hw.e
 have HFI := Lib.hid (hw.files (by omega))
 have X1 := Lib.hid hw.x
 have hla := hw.la
 obtain ⟨n, hn⟩ : ∃ n, n = Ls.flatten.length := ⟨_, rfl⟩
 rw [← hn] at HFI hle hla ⊢
 have HN := Lib.hid (And.intro hn (And.intro hle hla))
 have hgl := HG.out.len
 have HGL := Lib.hid hgl
 clear hw hle hn hla hgl
 go_wp2_with fail
 refine (both2_any v2 hs d 25 w1 (H2.out.ext RRaw.stays X1.out) HD.out (by decide)).mono ?_
 rintro e w2 ⟨B1, b1, k, j, L1, L2, rfl, hx, hr, hk3, hj3, hjk, hm1, hm2, hok1, hnd1, hok2, hnd2⟩
 have X2 := Lib.hid hx
 have HR1 := Lib.hid hr
 have HK := Lib.hid (And.intro hk3 (And.intro hj3 hjk))
 have HO1 := Lib.hid (And.intro hok1 (And.intro hnd1 (And.intro hok2 hnd2)))
 obtain ⟨nb, hnb⟩ : ∃ z, z = (L1 ++ L2).length := ⟨_, rfl⟩
 rw [← hnb] at HR1 ⊢
 have HB := Lib.hid (And.intro hnb (show nb ≤ 50 by rw [hnb, List.length_append]; omega))
 clear hx hr hk3 hj3 hjk hm1 hm2 hok1 hnd1 hok2 hnd2 hnb
 go_wp2_with fail
 refine calls_abs (fun W => Ext w2 W ∧ Blk_ W w2.heap.size 23 #[.slice A La.length c, .slice B1 nb b1]) ⟨(Ext.refl _).alloc _, Blk_.new _ _ _⟩ ?_
 rintro w3 ⟨hx, hb⟩
 obtain ⟨g3, hg⟩ : ∃ z, z = w2.heap.size := ⟨_, rfl⟩
 rw [← hg] at hb ⊢
 have X3 := Lib.hid hx
 have hfl : [La, (L1 ++ L2).map hurtV].flatten = La ++ (L1 ++ L2).map hurtV := by simp only [List.flatten_cons, List.flatten_nil, List.append_nil]
 have hfn : (La ++ (L1 ++ L2).map hurtV).length = La.length + nb := by simp only [List.length_append, List.length_map, List.length_cons, List.length_nil]; have := HN.out; have := HGL.out; have := HB.out; rw [List.length_append] at this; omega
 have hrun := concat2_any g3 23 [.slice A La.length c, .slice B1 nb b1] [La, (L1 ++ L2).map hurtV] w3 hb
  ⟨HA.out.ext (X2.out.trans X3.out), HR1.out.ext X3.out, trivial⟩ (by rw [hfl, hfn]; have := HN.out; have := HGL.out; have := HB.out; rw [List.length_append] at this; omega) (by simp)
 rw [hfl, hfn] at hrun
 obtain ⟨ncc, hncc⟩ : ∃ z, z = La.length + nb := ⟨_, rfl⟩
 rw [← hncc] at hrun hfn
 refine hrun.mono ?_
 rintro e w4 ⟨Ccc, ccc, rfl, hx', hr⟩
 have X4 := Lib.hid hx'
 have HRcc := Lib.hid hr
 have HNcc := Lib.hid (And.intro hncc hfn)
 have hccI : (ncc : Int) ≤ 1000 := by have := HN.out; have := HB.out; rw [List.length_append] at this; omega
 clear hrun hx' hr hb hg hx hfl hfn hncc
 go_wp2_with fail
 refine (picked1_any nn 49 w4 HNN.out (by decide) (by decide)).mono ?_
 rintro e wz ⟨rfl, hw⟩
 obtain rfl := hw.symm
 rw [HQQ.out.1]
 go_wp2_with fail
 have htp := top_steps (m := 48) (q := q) ⟨by decide, by decide, by decide⟩ HK.out.1 HK.out.2.1 HK.out.2.2 (by have := HQQ.out.2; omega) HG.out (by have := HN.out; omega) HO1.out.1 HO1.out.2.1 HO1.out.2.2.1 HO1.out.2.2.2
 rw [← HRR.out] at htp
 obtain ⟨gs, hg⟩ : ∃ z, z = w4.heap.size := ⟨_, rfl⟩
 obtain ⟨g5, hg2⟩ : ∃ z, z = w4.heap.size + 1 := ⟨_, rfl⟩
 refine calls_abs (fun W => Ext w4 W ∧ Blk_ W w4.heap.size 39 #[.int .i64 7, .slice none 0 0, .string .empty, .int .i64 0, .int .i64 48, .int .i64 0, .int .i64 0] ∧ Blk_ W (w4.heap.size + 1) 23 #[.slice Ccc ncc ccc, .slice (some ⟨w4.heap.size, 0, none⟩) 1 1]) ⟨((Ext.refl _).alloc _).alloc _, (Blk_.new _ _ _).alloc _, Blk_.new1 _ _ _ _⟩ ?_
 rintro w5 ⟨hx, hb0, hb⟩
 rw [← hg2] at hb ⊢
 rw [← hg] at hb0 hb ⊢
 have X5 := Lib.hid hx
 have HRgs := Lib.hid (lits_read [scrubAct 48] hb0 (by simp) (by
  intro x hx
  simp only [List.mem_cons, List.not_mem_nil, or_false] at hx
  subst hx 
  (refine ⟨rfl, Nat.zero_le _, ?_⟩; unfold I64; refine ⟨?_, ?_, ?_, ?_, ?_⟩ <;> first | decide | (simp only [scrubAct]; omega))))
 clear hb0 hg hg2
 have hlen : ((Ls.map addAct ++ (L1 ++ L2).map hurtAct) ++ [scrubAct 48]).length ≤ 200 := by simp only [List.length_append, List.length_map, List.length_cons, List.length_nil]; have := HN.out; have := HGL.out; have := HB.out; rw [List.length_append] at this; omega
 have hrun := run2_any g5 23 [.slice Ccc ncc ccc, .slice (some ⟨gs, 0, none⟩) 1 1] [La ++ (L1 ++ L2).map hurtV, [scrubAct 48].map litV] ((Ls.map addAct ++ (L1 ++ L2).map hurtAct) ++ [scrubAct 48]) w5 hb
  ⟨HRcc.out.ext X5.out, HRgs.out.ext (Ext.refl _), trivial⟩
  (by simp only [List.flatten_cons, List.flatten_nil, List.append_nil, List.map_append, HE.out, map_hurtV, map_getV, List.map_cons, List.map_nil, List.append_assoc, litV_a, List.cons_append, List.nil_append, map_litV])
  hlen (by simp) htp.1
 have hml := runS_length 48 ((Ls.map addAct ++ (L1 ++ L2).map hurtAct) ++ [scrubAct 48]) (sh0 48)
 have hg := trivial
 have hal : ((Ls.map addAct ++ (L1 ++ L2).map hurtAct) ++ [scrubAct 48]).length = ncc + 1 := by simp only [List.length_append, List.length_map, List.length_cons, List.length_nil]; have h0 := congrArg List.length HE.out; rw [List.length_map, List.length_map] at h0; have h1 := HB.out.1; rw [List.length_append] at h1; have := HNcc.out.1; omega
 obtain ⟨ac, hac⟩ : ∃ z, z = (Ls.map addAct ++ (L1 ++ L2).map hurtAct) ++ [scrubAct 48] := ⟨_, rfl⟩
 rw [← hac] at hrun hlen hml htp hal
 refine hrun.mono ?_
 rintro e w6 ⟨D1, d1, D2, d2, rfl, hx, hs5, hr5⟩
 have X6 := Lib.hid hx
 have HRS := Lib.hid hs5
 have HRA := Lib.hid hr5
 have HRL := Lib.hid (And.intro hlen hml)
 have hrI : (ac.length : Int) ≤ 200 := by omega
 have HRC := Lib.hid hac
 clear hrun hx hs5 hr5 hb hg hlen hml hac
 have HAL := Lib.hid hal
 clear hal
 go_wp2_with fail
 obtain ⟨kD, hg1⟩ : ∃ z, z = w6.heap.size := ⟨_, rfl⟩
 obtain ⟨gt, hg⟩ : ∃ z, z = w6.heap.size + 1 := ⟨_, rfl⟩
 obtain ⟨g7, hg2⟩ : ∃ z, z = w6.heap.size + 1 + 1 := ⟨_, rfl⟩
 refine calls_abs (fun W => Ext w6 W ∧ Blk_ W w6.heap.size 30 #[.slice D2 3 d2] ∧ Blk_ W (w6.heap.size + 1) 39 #[.int .i64 7, .slice none 0 0, .string .empty, .int .i64 0, .int .i64 (q : Int), .int .i64 0, .int .i64 0, .int .i64 7, .slice none 0 0, .string .empty, .int .i64 0, .int .i64 (r : Int), .int .i64 0, .int .i64 0] ∧ Blk_ W (w6.heap.size + 1 + 1) 23 #[.slice Ccc ncc ccc, .slice (some ⟨w6.heap.size + 1, 0, none⟩) 2 2]) ⟨(((Ext.refl _).alloc _).alloc _).alloc _, ((Blk_.new _ _ _).alloc _).alloc _, (Blk_.new1 _ _ _ _).alloc _, Blk_.new2 _ _ _ _ _⟩ ?_
 rintro w7 ⟨hx, hb1, hb0, hb⟩
 rw [← hg2] at hb ⊢
 rw [← hg] at hb0 hb ⊢
 rw [← hg1] at hb1 ⊢
 have HBD := Lib.hid hb1
 clear hb1 hg1
 have X7 := Lib.hid hx
 have HRgt := Lib.hid (lits_read [scrubAct q, scrubAct r] hb0 (by simp) (by
  intro x hx
  simp only [List.mem_cons, List.not_mem_nil, or_false] at hx
  rcases hx with rfl | rfl <;>(refine ⟨rfl, Nat.zero_le _, ?_⟩; unfold I64; refine ⟨?_, ?_, ?_, ?_, ?_⟩ <;> first | decide | (simp only [scrubAct]; have := HQQ.out.2; have := HRR.out; omega))))
 clear hb0 hg hg2
 have hlen : ((Ls.map addAct ++ (L1 ++ L2).map hurtAct) ++ [scrubAct q, scrubAct r]).length ≤ 200 := by simp only [List.length_append, List.length_map, List.length_cons, List.length_nil]; have := HN.out; have := HGL.out; have := HB.out; rw [List.length_append] at this; omega
 have hrun := run2_any g7 23 [.slice Ccc ncc ccc, .slice (some ⟨gt, 0, none⟩) 2 2] [La ++ (L1 ++ L2).map hurtV, [scrubAct q, scrubAct r].map litV] ((Ls.map addAct ++ (L1 ++ L2).map hurtAct) ++ [scrubAct q, scrubAct r]) w7 hb
  ⟨HRcc.out.ext (X5.out.trans (X6.out.trans X7.out)), HRgt.out.ext (Ext.refl _), trivial⟩
  (by simp only [List.flatten_cons, List.flatten_nil, List.append_nil, List.map_append, HE.out, map_hurtV, map_getV, List.map_cons, List.map_nil, List.append_assoc, litV_a, List.cons_append, List.nil_append, map_litV])
  hlen (by simp) htp.2.1
 have hml := runS_length 48 ((Ls.map addAct ++ (L1 ++ L2).map hurtAct) ++ [scrubAct q, scrubAct r]) (sh0 48)
 have hg := trivial
 have hal : ((Ls.map addAct ++ (L1 ++ L2).map hurtAct) ++ [scrubAct q, scrubAct r]).length = ncc + 2 := by simp only [List.length_append, List.length_map, List.length_cons, List.length_nil]; have h0 := congrArg List.length HE.out; rw [List.length_map, List.length_map] at h0; have h1 := HB.out.1; rw [List.length_append] at h1; have := HNcc.out.1; omega
 obtain ⟨ad, hac⟩ : ∃ z, z = (Ls.map addAct ++ (L1 ++ L2).map hurtAct) ++ [scrubAct q, scrubAct r] := ⟨_, rfl⟩
 rw [← hac] at hrun hlen hml htp hal
 refine hrun.mono ?_
 rintro e w8 ⟨E1, e1, E2, e2, rfl, hx, hs5, hr5⟩
 have X8 := Lib.hid hx
 have HQS := Lib.hid hs5
 have HQA := Lib.hid hr5
 have HQL := Lib.hid (And.intro hlen hml)
 have hqI : (ad.length : Int) ≤ 200 := by omega
 have HQC := Lib.hid hac
 clear hrun hx hs5 hr5 hb hg hlen hml hac
 obtain ⟨_, _, xx, pp, bb, cc, e1', e2', hcnt, hgone, hbnd, hsame⟩ := htp
 have hxl : xx.length = ncc := by have h := HRL.out.2; rw [e1', List.length_append, HAL.out] at h; simpa using h
 have r1 := HRS.out
 have r2 := HQS.out
 rw [e1', show ac.length = (xx ++ [pp]).length by rw [List.length_append, hxl, HAL.out]; rfl] at r1
 rw [e2', show ad.length = (xx ++ [bb, cc]).length by rw [List.length_append, hxl, hal]; rfl] at r2
 obtain ⟨bD, oD, vn, vg, hD, c0, c1, c2, c3, c4, c5, c6⟩ := ans_cells r1 ncc (by rw [List.length_append, hxl]; show ncc < ncc + 1; omega)
 obtain ⟨bE, oE, un, ug, hE, d0, d1', d2', d3, d4, d5, d6⟩ := ans_cells r2 ncc (by rw [List.length_append, hxl]; show ncc < ncc + 2; omega)
 obtain ⟨bF, oF, tn, tg, hF, f0, f1, f2, f3, f4, f5, f6⟩ := ans_cells r2 (ncc + 1) (by rw [List.length_append, hxl]; show ncc + 1 < ncc + 2; omega)
 have hp : (xx ++ [pp])[ncc]'(by rw [List.length_append, hxl]; show ncc < ncc + 1; omega) = pp := by rw [List.getElem_append_right (by omega)]; simp [hxl]
 have hb : (xx ++ [bb, cc])[ncc]'(by rw [List.length_append, hxl]; show ncc < ncc + 2; omega) = bb := by rw [List.getElem_append_right (by omega)]; simp [hxl]
 have hc : (xx ++ [bb, cc])[ncc + 1]'(by rw [List.length_append, hxl]; show ncc + 1 < ncc + 2; omega) = cc := by rw [List.getElem_append_right (by omega)]; simp [hxl]
 rw [hp] at c0 c1 c3 c5 c6
 rw [hb] at d0 d1' d3 d5 d6
 rw [hc] at f0 f1 f3 f5 f6
 obtain ⟨pc, pd, pn, pk, pg⟩ := pp
 obtain ⟨bc, bd, bn, bk, bg⟩ := bb
 obtain ⟨cc_, cd, cn, ck, cg⟩ := cc
 dsimp only at *
 obtain ⟨N1, m1, rfl, _⟩ := c5.row
 obtain ⟨G1, u1, rfl, _⟩ := c6.row
 obtain ⟨N2, m2, rfl, _⟩ := d5.row
 obtain ⟨G2, u2, rfl, _⟩ := d6.row
 obtain ⟨N3, m3, rfl, _⟩ := f5.row
 obtain ⟨G3, u3, rfl, _⟩ := f6.row
 subst hD
 subst hE
 injection hF with hF
 injection hF with hF1 hF2
 subst hF1 hF2
 have XRQ := Lib.hid (X7.out.trans X8.out)
 have q0 := XRQ.out.cell c0
 have q1 := XRQ.out.cell c1
 have q2 := XRQ.out.cell c2
 have q3 := XRQ.out.cell c3
 have q4 := XRQ.out.cell c4
 have l1 := cell_lt q0
 have l2 := cell_lt d0
 have l3 : bE < w8.heap.size + 1 := by omega
 have l4 : bE < w8.heap.size + 1 + 1 := by omega
 have HGO := Lib.hid (And.intro c6 (And.intro d6 f6))
 have HBND := Lib.hid hbnd
 have HGE := Lib.hid hgone
 have HSA := Lib.hid hsame
 obtain ⟨nd, hnd⟩ : ∃ z, z = ncc + 1 := ⟨_, rfl⟩
 rw [← hnd] at f0 f1 f2 f3 f4
 have hix1 : (ac.length : Int) - 1 = (ncc : Int) := by have := HAL.out; omega
 have hix2 : (ad.length : Int) - 2 = (ncc : Int) := by omega
 have hix3 : (ad.length : Int) - 1 = (nd : Int) := by omega
 have hb1 : (ncc : Int) < (ac.length : Int) := by have := HAL.out; omega
 have hb2 : (ncc : Int) < (ad.length : Int) := by omega
 have hb3 : (nd : Int) < (ad.length : Int) := by omega
 have hck : bk + ck = pk := hcnt.symm
 have hpk : pk ≤ 400 := by omega
 have hpk0 : 0 ≤ pk := by omega
 have hbk0 : 0 ≤ bk := by have := HBND.out; omega
 have hbk1 : bk ≤ 200 := by have := HBND.out; omega
 have hck0 : 0 ≤ ck := by have := HBND.out; omega
 have hck1 : ck ≤ 200 := by have := HBND.out; omega
 clear hp hb hc c0 c1 c2 c3 c4 c5 c6 d5 d6 f5 f6 hbnd hgone hsame hnd hal r1 r2 e1' e2' hxl hcnt
 go_wp2_with fail
 obtain ⟨kE, hkE⟩ : ∃ z, z = w8.heap.size := ⟨_, rfl⟩
 obtain ⟨bp, hbp⟩ : ∃ z, z = w8.heap.size + 1 := ⟨_, rfl⟩
 obtain ⟨bq, hbq⟩ : ∃ z, z = w8.heap.size + 1 + 1 := ⟨_, rfl⟩
 obtain ⟨br, hbr⟩ : ∃ z, z = w8.heap.size + 1 + 1 + 1 := ⟨_, rfl⟩
 refine wp_abs (fun W => Ext w8 W ∧ Blk_ W w8.heap.size 30 #[.slice E2 3 e2] ∧ Blk_ W (w8.heap.size + 1) 46 #[.int .i64 pc, .string pd, .slice N1 pn.length m1, .int .i64 pk, .slice G1 pg.length u1] ∧ Blk_ W (w8.heap.size + 1 + 1) 46 #[.int .i64 bc, .string bd, .slice N2 bn.length m2, .int .i64 bk, .slice G2 bg.length u2] ∧ Blk_ W (w8.heap.size + 1 + 1 + 1) 46 #[.int .i64 cc_, .string cd, .slice N3 cn.length m3, .int .i64 ck, .slice G3 cg.length u3]) ⟨((((Ext.refl _).alloc _).alloc _).alloc _).alloc _, (((Blk_.new _ _ _).alloc _).alloc _).alloc _, ((Blk_.new1 _ _ _ _).alloc _).alloc _, (Blk_.new2 _ _ _ _ _).alloc _, Blk_.new3 _ _ _ _ _ _⟩ ?_
 rintro wa ⟨hxa, ba, bb, bc', bd'⟩
 rw [← hbr] at bd' ⊢
 rw [← hbq] at bc' ⊢
 rw [← hbp] at bb ⊢
 rw [← hkE] at ba ⊢
 have XA := Lib.hid hxa
 have hkd := HBD.out.ext (X8.out.trans hxa)
 have hs0 : (fun W' => (W'.cell? ⟨bp, 3, none⟩ = some (.int .i64 pk) ∧ W'.cell? ⟨bq, 3, none⟩ = some (.int .i64 bk) ∧ W'.cell? ⟨br, 3, none⟩ = some (.int .i64 ck)) ∧ (W'.cell? ⟨kD, 0, none⟩ = some (.slice D2 3 d2) ∧ W'.cell? ⟨kE, 0, none⟩ = some (.slice E2 3 e2)) ∧ W'.cell? ⟨bp, 4, none⟩ = some (.slice G1 pg.length u1) ∧ W'.cell? ⟨bq, 4, none⟩ = some (.slice G2 bg.length u2) ∧ W'.cell? ⟨br, 4, none⟩ = some (.slice G3 cg.length u3)) wa := by
  refine ⟨⟨?_, ?_, ?_⟩, ⟨?_, ?_⟩, ?_, ?_, ?_⟩
  ·rw [bb.cell]; rfl
  ·rw [bc'.cell]; rfl
  ·rw [bd'.cell]; rfl
  ·rw [hkd.cell]; rfl
  ·rw [ba.cell]; rfl
  ·rw [bb.cell]; rfl
  ·rw [bc'.cell]; rfl
  ·rw [bd'.cell]; rfl
 have HS0 := Lib.hid hs0
 clear hxa ba bb bc' bd' hbr hbq hbp hkE hkd q0 q1 q2 q3 q4 d0 d1' d2' d3 d4 f0 f1 f2 f3 f4 l1 l2 l3 l4 hix1 hix2 hix3 hb1 hb2 hb3 hs0
 refine wp_region_all (S := (fun W' => (W'.cell? ⟨bp, 3, none⟩ = some (.int .i64 pk) ∧ W'.cell? ⟨bq, 3, none⟩ = some (.int .i64 bk) ∧ W'.cell? ⟨br, 3, none⟩ = some (.int .i64 ck)) ∧ (W'.cell? ⟨kD, 0, none⟩ = some (.slice D2 3 d2) ∧ W'.cell? ⟨kE, 0, none⟩ = some (.slice E2 3 e2)) ∧ W'.cell? ⟨bp, 4, none⟩ = some (.slice G1 pg.length u1) ∧ W'.cell? ⟨bq, 4, none⟩ = some (.slice G2 bg.length u2) ∧ W'.cell? ⟨br, 4, none⟩ = some (.slice G3 cg.length u3))) (by kernel_rfl) ?_
 have hS0 : (fun W' => (W'.cell? ⟨bp, 3, none⟩ = some (.int .i64 pk) ∧ W'.cell? ⟨bq, 3, none⟩ = some (.int .i64 bk) ∧ W'.cell? ⟨br, 3, none⟩ = some (.int .i64 ck)) ∧ (W'.cell? ⟨kD, 0, none⟩ = some (.slice D2 3 d2) ∧ W'.cell? ⟨kE, 0, none⟩ = some (.slice E2 3 e2)) ∧ W'.cell? ⟨bp, 4, none⟩ = some (.slice G1 pg.length u1) ∧ W'.cell? ⟨bq, 4, none⟩ = some (.slice G2 bg.length u2) ∧ W'.cell? ⟨br, 4, none⟩ = some (.slice G3 cg.length u3)) wa.drew := HS0.out
 refine tkL 0 rfl (fun w' hS => by go_simp; rfl) hS0 ?_
 refine tkL 1 rfl (fun w' hS => by (try dsimp only at hS); obtain ⟨⟨s1, s2, s3⟩, ⟨s4, s5⟩, s6, s7, s8⟩ := hS; go_simp; rfl) hS0 ?_
 refine tkL 2 rfl (fun w' hS => by go_simp; rfl) hS0 ?_
 try simp only [Act.put, List.setIfInBounds_toArray, List.set_cons_zero, List.set_cons_succ]
 refine tkL 3 rfl (fun w' hS => by (try dsimp only at hS); obtain ⟨⟨s1, s2, s3⟩, ⟨s4, s5⟩, s6, s7, s8⟩ := hS; go_simp; rfl) hS0 ?_
 refine tkL 4 rfl (fun w' hS => by go_simp; rfl) hS0 ?_
 refine tkL 5 rfl (fun w' hS => by (try dsimp only at hS); obtain ⟨⟨s1, s2, s3⟩, ⟨s4, s5⟩, s6, s7, s8⟩ := hS; go_simp; rfl) hS0 ?_
 try simp only [Act.put, List.setIfInBounds_toArray, List.set_cons_zero, List.set_cons_succ]
 refine tkL 6 (v := .int .i64 pk) rfl (fun w' hS => by go_simp; rw [IntKind.wrap_i64]; omega) hS0 ?_
 refine tkL 7 rfl (fun w' hS => by go_simp; rfl) hS0 ?_
 refine tkL 8 rfl (fun w' hS => by go_simp; rfl) hS0 ?_
 try simp only [Act.put, List.setIfInBounds_toArray, List.set_cons_zero, List.set_cons_succ]
 refine tkL 9 rfl (fun w' hS => by (try dsimp only at hS); obtain ⟨⟨s1, s2, s3⟩, ⟨s4, s5⟩, s6, s7, s8⟩ := hS; go_simp; rfl) hS0 ?_
 refine tkL 10 rfl (fun w' hS => by (try dsimp only at hS); obtain ⟨⟨s1, s2, s3⟩, ⟨s4, s5⟩, s6, s7, s8⟩ := hS; go_simp; rfl) hS0 ?_
 try simp only [Act.put, List.setIfInBounds_toArray, List.set_cons_zero, List.set_cons_succ]
 clear hS0
 refine anyH_abs (fun W => Ext wa W) ((Ext.refl _).drew) ?_
 rintro wb hxb
 refine wpAnyH_oneL (i := 11) rfl (by kernel_rfl) rfl (fun K hK => ?_)
 go_wp2_with fail
 have hra := HRA.out.up (XRQ.out.trans (XA.out.trans hxb))
 rw [HSA.out] at hra
 refine (sameArr_any (.slice D2 3 d2) (.slice E2 3 e2) _ wb hra (HQA.out.up (XA.out.trans hxb))).mono ?_
 rintro e wc ⟨rfl, hxc⟩
 have hs := HS0.out
 have hxd := hxb.trans hxc
 refine hK _ _ ⟨⟨hxd.cell hs.1.1, hxd.cell hs.1.2.1, hxd.cell hs.1.2.2⟩, ⟨hxd.cell hs.2.1.1, hxd.cell hs.2.1.2⟩, hxd.cell hs.2.2.1, hxd.cell hs.2.2.2.1, hxd.cell hs.2.2.2.2⟩ ?_
 clear hK K hra hxb hxc
 try simp only [Act.put, List.setIfInBounds_toArray, List.set_cons_zero, List.set_cons_succ]
 refine anyH_abs (fun W => Ext wa W) hxd ?_
 clear hxd
 rintro wd hxd
 have hS1 : (fun W' => (W'.cell? ⟨bp, 3, none⟩ = some (.int .i64 pk) ∧ W'.cell? ⟨bq, 3, none⟩ = some (.int .i64 bk) ∧ W'.cell? ⟨br, 3, none⟩ = some (.int .i64 ck)) ∧ (W'.cell? ⟨kD, 0, none⟩ = some (.slice D2 3 d2) ∧ W'.cell? ⟨kE, 0, none⟩ = some (.slice E2 3 e2)) ∧ W'.cell? ⟨bp, 4, none⟩ = some (.slice G1 pg.length u1) ∧ W'.cell? ⟨bq, 4, none⟩ = some (.slice G2 bg.length u2) ∧ W'.cell? ⟨br, 4, none⟩ = some (.slice G3 cg.length u3)) wd := ⟨⟨hxd.cell hs.1.1, hxd.cell hs.1.2.1, hxd.cell hs.1.2.2⟩, ⟨hxd.cell hs.2.1.1, hxd.cell hs.2.1.2⟩, hxd.cell hs.2.2.1, hxd.cell hs.2.2.2.1, hxd.cell hs.2.2.2.2⟩
 clear hs
 refine tkL 12 rfl (fun w' hS => by go_simp; rfl) hS1 ?_
 refine tkL 13 rfl (fun w' hS => by go_simp; rfl) hS1 ?_
 refine tkL 14 rfl (fun w' hS => by go_simp; rfl) hS1 ?_
 try simp only [Act.put, List.setIfInBounds_toArray, List.set_cons_zero, List.set_cons_succ]
 refine tkL 15 rfl (fun w' hS => by (try dsimp only at hS); obtain ⟨⟨s1, s2, s3⟩, ⟨s4, s5⟩, s6, s7, s8⟩ := hS; go_simp; rfl) hS1 ?_
 refine tkL 16 rfl (fun w' hS => by go_simp; rfl) hS1 ?_
 refine tkL 17 rfl (fun w' hS => by (try dsimp only at hS); obtain ⟨⟨s1, s2, s3⟩, ⟨s4, s5⟩, s6, s7, s8⟩ := hS; go_simp; rfl) hS1 ?_
 try simp only [Act.put, List.setIfInBounds_toArray, List.set_cons_zero, List.set_cons_succ]
 refine tkL 19 rfl (fun w' hS => by go_simp; rfl) hS1 ?_
 refine tkL 20 rfl (fun w' hS => by (try dsimp only at hS); obtain ⟨⟨s1, s2, s3⟩, ⟨s4, s5⟩, s6, s7, s8⟩ := hS; go_simp; rfl) hS1 ?_
 try simp only [Act.put, List.setIfInBounds_toArray, List.set_cons_zero, List.set_cons_succ]
 clear hS1
 refine wpAnyH_oneL (i := 18) rfl (by kernel_rfl) rfl (fun K hK => ?_)
 go_wp2_with fail
 refine (clone_ints (.slice G2 bg.length u2) wd bg (HGO.out.2.1.ext RInt.stays (XA.out.trans hxd))).mono ?_
 rintro e we ⟨Bg, ug, rfl, hxe, hoe⟩
 have hs := HS0.out
 have hxf := hxd.trans hxe
 refine hK _ _ ⟨⟨hxf.cell hs.1.1, hxf.cell hs.1.2.1, hxf.cell hs.1.2.2⟩, ⟨hxf.cell hs.2.1.1, hxf.cell hs.2.1.2⟩, hxf.cell hs.2.2.1, hxf.cell hs.2.2.2.1, hxf.cell hs.2.2.2.2⟩ ?_
 clear hK K
 try simp only [Act.put, List.setIfInBounds_toArray, List.set_cons_zero, List.set_cons_succ]
 refine anyH_abs (fun W => Ext wa W ∧ W.ownsRow wd.heap.size 3 1 (.slice Bg bg.length ug) bg.length (bg.flatMap encInt) ∧ wd.heap.size ≤ W.heap.size) ⟨hxf, hoe, hxe.size⟩ ?_
 clear hxf hxe hoe
 rintro wg ⟨hxg, hog, hsg⟩
 refine wpAnyH_oneL (i := 21) rfl (by kernel_rfl) rfl (fun K hK => ?_)
 obtain ⟨i8, hj0, hj1, hj2, hj3⟩ := info_parts info_int8
 have hcl := HGO.out.2.2.len
 have hbl := HGO.out.2.1.len
 refine wp_append_onto wg encInt_ok (by decide) (.tmp 99) (.tmp 101) 44 rfl wd.heap.size 3 i8 (.int .i64 0) Tryz.underlying44 hj0 hj1 hj2 hj3 rfl (.slice Bg bg.length ug) bg.length _ rfl hog (.slice G3 cg.length u3) cg rfl (HGO.out.2.2.ext RInt.stays (XA.out.trans hxg)) (by unfold maxLen; omega) (by have := HGE.out; have hg := HGO.out.1.len; rw [HGE.out, List.length_append] at hg; omega) hsg ?_
 intro Bh uh wh own hg _
 have hxh := hxg.grown hg (fun g hg => by have := (hog.lt g hg).1; have := hxd.size; omega)
 have hs := HS0.out
 refine hK _ _ ⟨⟨hxh.cell hs.1.1, hxh.cell hs.1.2.1, hxh.cell hs.1.2.2⟩, ⟨hxh.cell hs.2.1.1, hxh.cell hs.2.1.2⟩, hxh.cell hs.2.2.1, hxh.cell hs.2.2.2.1, hxh.cell hs.2.2.2.2⟩ ?_
 clear hK K hs
 try simp only [Act.put, List.setIfInBounds_toArray, List.set_cons_zero, List.set_cons_succ]
 have hgl : bg.length + cg.length = pg.length := by rw [HGE.out, List.length_append]
 rw [hgl] at own ⊢
 have hrd : SlR 1 8 RInt wh (.slice Bh pg.length uh) pg := SlR.of_own encInt_ok (by rw [HGE.out, List.flatMap_append, ← HGE.out]; exact own) HGO.out.1.len (fun x hx => by
  rw [HGE.out] at hx
  rcases List.mem_append.1 hx with hx | hx
  ·exact HGO.out.2.1.mem encInt_ok wh x hx
  ·exact HGO.out.2.2.mem encInt_ok wh x hx)
 refine anyH_abs (fun W => Ext wa W ∧ SlR 1 8 RInt W (.slice Bh pg.length uh) pg) ⟨hxh, hrd⟩ ?_
 clear hxh hrd own hg hgl hog hsg hxg hcl hbl hj0 hj1 hj2 hj3 hxd
 rintro wi ⟨hxi, hri⟩
 refine wpAnyH_oneL (i := 22) rfl (by kernel_rfl) rfl (fun K hK => ?_)
 go_wp2_with fail
 refine (eqInts_any (.slice G1 pg.length u1) (.slice Bh pg.length uh) pg wi (HGO.out.1.ext RInt.stays (XRQ.out.trans (XA.out.trans hxi))) hri).mono ?_
 rintro e wj ⟨rfl, hxj⟩
 have hs := HS0.out
 have hxk := hxi.trans hxj
 refine hK _ _ ⟨⟨hxk.cell hs.1.1, hxk.cell hs.1.2.1, hxk.cell hs.1.2.2⟩, ⟨hxk.cell hs.2.1.1, hxk.cell hs.2.1.2⟩, hxk.cell hs.2.2.1, hxk.cell hs.2.2.2.1, hxk.cell hs.2.2.2.2⟩ ?_
 clear hK K hxi hri hxj
 try simp only [Act.put, List.setIfInBounds_toArray, List.set_cons_zero, List.set_cons_succ]
 refine anyH_abs (fun W => Ext wa W) hxk ?_
 clear hxk
 rintro wk hxk
 have hS2 : (fun W' => (W'.cell? ⟨bp, 3, none⟩ = some (.int .i64 pk) ∧ W'.cell? ⟨bq, 3, none⟩ = some (.int .i64 bk) ∧ W'.cell? ⟨br, 3, none⟩ = some (.int .i64 ck)) ∧ (W'.cell? ⟨kD, 0, none⟩ = some (.slice D2 3 d2) ∧ W'.cell? ⟨kE, 0, none⟩ = some (.slice E2 3 e2)) ∧ W'.cell? ⟨bp, 4, none⟩ = some (.slice G1 pg.length u1) ∧ W'.cell? ⟨bq, 4, none⟩ = some (.slice G2 bg.length u2) ∧ W'.cell? ⟨br, 4, none⟩ = some (.slice G3 cg.length u3)) wk := ⟨⟨hxk.cell hs.1.1, hxk.cell hs.1.2.1, hxk.cell hs.1.2.2⟩, ⟨hxk.cell hs.2.1.1, hxk.cell hs.2.1.2⟩, hxk.cell hs.2.2.1, hxk.cell hs.2.2.2.1, hxk.cell hs.2.2.2.2⟩
 clear hs
 refine tkL 23 rfl (fun w' hS => by go_simp; rfl) hS2 ?_
 refine tkL 24 rfl (fun w' hS => by go_simp; rfl) hS2 ?_
 try simp only [Act.put, List.setIfInBounds_toArray, List.set_cons_zero, List.set_cons_succ]
 clear hS2
 refine wpAnyH_done (by kernel_rfl) ?_ _
 have XK := Lib.hid (XA.out.trans hxk)
 clear hxk
 go_wp2_with fail
 go_ret
 exact ⟨rfl, (X1.out.trans (X2.out.trans (X3.out.trans (X4.out.trans (X5.out.trans (X6.out.trans (X7.out.trans X8.out))))))).trans XK.out⟩
end Go.Proofs.YtgjijcgkmofaaaaGreatDoor
