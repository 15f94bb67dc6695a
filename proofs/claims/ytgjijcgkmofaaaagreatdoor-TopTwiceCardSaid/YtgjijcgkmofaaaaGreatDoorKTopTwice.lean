/-
  TopTwice: a script is answered the same, however often; a longer one begins as a shorter one does. Conditions: the arguments read as lists of raw numbers and numbers; the table of powers of ten that the library reads is in place.
-/
import Derived.Test.YtgjijcgkmofaaaaGreatDoorQ26
import Derived.Test.YtgjijcgkmofaaaaGreatDoorKEqT
import Derived.Test.YtgjijcgkmofaaaaGreatDoorPTopE
namespace Go.Proofs.YtgjijcgkmofaaaaGreatDoor
set_option linter.unusedSimpArgs false
set_option linter.unusedVariables false
open Go.RowKit
set_option maxRecDepth 100000 in
set_option maxHeartbeats 8000000 in
theorem lawTopTwice_any (v1 : Value) (l : List Raw4) (v2 : Value) (hs : List Raw4) (d nn : Int) (w : World) (h1 : SlR 4 32 RRaw w v1 l) (h2 : SlR 4 32 RRaw w v2 hs) (hd : I64 d) (hn : I64 nn) (ht : Tab w) :
  Calls Tryz.prog 12 #[v1, v2, .int .i64 d, .int .i64 nn] w fun e w' => e = .returned (.bool true) ∧ Ext w w' := by
 have H1 := Lib.hid h1
 have H2 := Lib.hid h2
 have HD := Lib.hid hd
 have HT := Lib.hid ht
 have HNN := Lib.hid hn
 clear h1 h2 hd ht hn
 go_enter Tryz.func12, Tryz.ntmps12
 go_wp2_with fail
 refine (adds_any v1 l 6 w H1.out (by decide) (by decide) HT.out).mono ?_
 rintro e w1 ⟨A, c, A', c', La, Ls, rfl, hw, hle⟩
 have HA := Lib.hid (hw.acts (by have := hw.la; omega))
 have HG := Lib.hid hw.g
 have HE := Lib.hid hw.e
 have HFI := Lib.hid (hw.files (by omega))
 have X1 := Lib.hid hw.x
 have hla := hw.la
 obtain ⟨n, hn⟩ : ∃ n, n = Ls.flatten.length := ⟨_, rfl⟩
 rw [← hn] at HFI hle hla ⊢
 have HN := Lib.hid (And.intro hn (And.intro hle hla))
 have hgl := HG.out.len
 have HGL := Lib.hid hgl
 clear hw hle hn hla hgl
 go_wp2_with fail
 refine (both2_any v2 hs d 20 w1 (H2.out.ext RRaw.stays X1.out) HD.out (by decide)).mono ?_
 rintro e w2 ⟨B1, b1, k, j, L1, L2, rfl, hx, hr, hk3, hj3, hjk, hm1, hm2, hok1, hnd1, hok2, hnd2⟩
 have X2 := Lib.hid hx
 have HR1 := Lib.hid hr
 have HK := Lib.hid (And.intro hk3 (And.intro hj3 hjk))
 have HO1 := Lib.hid (And.intro hok1 (And.intro hnd1 (And.intro hok2 hnd2)))
 obtain ⟨nb, hnb⟩ : ∃ z, z = (L1 ++ L2).length := ⟨_, rfl⟩
 rw [← hnb] at HR1 ⊢
 have HB := Lib.hid (And.intro hnb (show nb ≤ 40 by rw [hnb, List.length_append]; omega))
 clear hx hr hk3 hj3 hjk hm1 hm2 hok1 hnd1 hok2 hnd2 hnb
 go_wp2_with fail
 refine calls_abs (fun W => Ext w2 W ∧ Blk_ W w2.heap.size 39 #[.int .i64 8, .slice none 0 0, .string .empty, .int .i64 0, .int .i64 0, .int .i64 0, .int .i64 0, .int .i64 7, .slice none 0 0, .string .empty, .int .i64 0, .int .i64 20, .int .i64 0, .int .i64 0]) ⟨(Ext.refl _).alloc _, Blk_.new _ _ _⟩ ?_
 rintro w3 ⟨hx, hb⟩
 obtain ⟨gs, hg⟩ : ∃ z, z = w2.heap.size := ⟨_, rfl⟩
 rw [← hg] at hb ⊢
 have X3 := Lib.hid hx
 have HRgs := Lib.hid (lits_read [healthAct, scrubAct 20] hb (by simp) (by
  intro x hx
  simp only [List.mem_cons, List.not_mem_nil, or_false] at hx
  rcases hx with rfl | rfl <;>(refine ⟨rfl, Nat.zero_le _, ?_⟩; unfold I64; refine ⟨?_, ?_, ?_, ?_, ?_⟩ <;> first | decide | (simp only [healthAct, scrubAct]; omega))))
 clear hx hb hg
 have hgt := gets_any A' c' Ls.flatten w3 (by rw [← HN.out.1]; exact HFI.out.ext RFil.stays (X2.out.trans X3.out)) (by have := HN.out; omega)
 rw [← HN.out.1] at hgt
 refine hgt.mono ?_
 clear hgt
 rintro e w4 ⟨B3, b3, rfl, hx, ho⟩
 have X4 := Lib.hid hx
 have HR3 := Lib.hid (gets_read (own_len HN.out.1 (by rw [HN.out.1] at ho ⊢; exact ho)) (fun f hf => by
  obtain ⟨i, hi, rfl⟩ := List.getElem_of_mem hf
  rw [(groups_rise0 HG.out i hi).1]; show (2 : Nat) ≤ _; decide) (by have := HN.out; omega))
 clear hx ho
 go_wp2_with fail
 refine calls_abs (fun W => Ext w4 W ∧ Blk_ W w4.heap.size 23 #[.slice A La.length c, .slice B1 nb b1, .slice (some ⟨gs, 0, none⟩) 2 2, .slice B3 n b3]) ⟨(Ext.refl _).alloc _, Blk_.new _ _ _⟩ ?_
 rintro w5 ⟨hx, hb⟩
 obtain ⟨g5, hg⟩ : ∃ z, z = w4.heap.size := ⟨_, rfl⟩
 rw [← hg] at hb ⊢
 have X5 := Lib.hid hx
 have hfl : [La, (L1 ++ L2).map hurtV, [healthAct, scrubAct 20].map litV, Ls.flatten.map getV].flatten = La ++ ((L1 ++ L2).map hurtV ++ ([healthAct, scrubAct 20].map litV ++ Ls.flatten.map getV)) := by simp only [List.flatten_cons, List.flatten_nil, List.append_nil]
 have hfn : (La ++ ((L1 ++ L2).map hurtV ++ ([healthAct, scrubAct 20].map litV ++ Ls.flatten.map getV))).length = La.length + nb + 2 + n := by simp only [List.length_append, List.length_map, List.length_cons, List.length_nil]; have := HN.out; have := HGL.out; have := HB.out; rw [List.length_append] at this; omega
 have hrun := concat2_any g5 23 [.slice A La.length c, .slice B1 nb b1, .slice (some ⟨gs, 0, none⟩) 2 2, .slice B3 n b3] [La, (L1 ++ L2).map hurtV, [healthAct, scrubAct 20].map litV, Ls.flatten.map getV] w5 hb
  ⟨HA.out.ext (X2.out.trans (X3.out.trans (X4.out.trans X5.out))), HR1.out.ext (X3.out.trans (X4.out.trans X5.out)), HRgs.out.ext (X4.out.trans X5.out), by rw [HN.out.1]; exact HR3.out.ext X5.out, trivial⟩ (by rw [hfl, hfn]; have := HN.out; have := HGL.out; have := HB.out; rw [List.length_append] at this; omega) (by simp)
 rw [hfl, hfn] at hrun
 obtain ⟨ncc, hncc⟩ : ∃ z, z = La.length + nb + 2 + n := ⟨_, rfl⟩
 rw [← hncc] at hrun hfn
 refine hrun.mono ?_
 rintro e w6 ⟨Ccc, ccc, rfl, hx', hr⟩
 have X6 := Lib.hid hx'
 have HRcc := Lib.hid hr
 have HNcc := Lib.hid (And.intro hncc hfn)
 have hccI : (ncc : Int) ≤ 1000 := by have := HN.out; have := HB.out; rw [List.length_append] at this; omega
 clear hrun hx' hr hb hg hx hfl hfn hncc
 go_wp2_with fail
 have htp := top_twice (m := 48) (q := 20) ⟨by decide, by decide, by decide⟩ HK.out.1 HK.out.2.1 HK.out.2.2 (by decide) HG.out (by have := HN.out; omega) HO1.out.1 HO1.out.2.1 HO1.out.2.2.1 HO1.out.2.2.2
 have hmp : (La ++ ((L1 ++ L2).map hurtV ++ ([healthAct, scrubAct 20].map litV ++ Ls.flatten.map getV))).map (·.a) = Ls.map addAct ++ ((L1 ++ L2).map hurtAct ++ ([healthAct, scrubAct 20] ++ Ls.flatten.map getAct)) := by simp only [List.map_append, HE.out, map_hurtV, map_getV, map_litV]
 obtain ⟨ac, hac⟩ : ∃ z, z = Ls.map addAct ++ ((L1 ++ L2).map hurtAct ++ ([healthAct, scrubAct 20] ++ Ls.flatten.map getAct)) := ⟨_, rfl⟩
 rw [← hac] at htp hmp
 obtain ⟨lv, hlv⟩ : ∃ z, z = La ++ ((L1 ++ L2).map hurtV ++ ([healthAct, scrubAct 20].map litV ++ Ls.flatten.map getV)) := ⟨_, rfl⟩
 rw [← hlv] at hmp HRcc HNcc
 have hal : ac.length = ncc := by rw [← hmp, List.length_map]; exact HNcc.out.2
 obtain ⟨q, hq, hq2⟩ : ∃ q : Nat, pick nn ((ncc : Int) + 1) = (q : Int) ∧ q < ncc + 1 := picked_nat_ nn (ncc + 1) (by omega)
 have hcc : ncc ≤ ccc := by obtain ⟨A0, c0, e, _, h, _⟩ := HRcc.out.1; injection e with _ e1 e2; omega
 have HAL := Lib.hid (show ac.length = ncc ∧ (ac.take q).length = q ∧ q ≤ ncc ∧ ncc ≤ 60 from ⟨hal, by rw [List.length_take]; omega, by omega, by have := HNcc.out.1; have := HN.out; have := HB.out; omega⟩)
 have HMP := Lib.hid hmp
 have HTF := Lib.hid htp
 have HQQ := Lib.hid hq
 have hqI : (q : Int) ≤ (ncc : Int) := by omega
 have hqc : (q : Int) ≤ (ccc : Int) := by omega
 have HTK := Lib.hid (show ActsR w6 (.slice Ccc q ccc) (lv.take q) from ⟨(show SlR 7 80 RActV w6 (.slice Ccc lv.length ccc) lv by rw [HNcc.out.2]; exact HRcc.out.1).take q (by have := HNcc.out.2; omega), fun y hy => HRcc.out.2 y (List.mem_of_mem_take hy)⟩)
 clear htp hmp hac hlv hal hq hq2 hcc
 refine (picked1_any nn ((ncc : Int) + 1) w6 HNN.out (by omega) (by omega)).mono ?_
 rintro e wz ⟨rfl, hw⟩
 obtain rfl := hw.symm
 rw [HQQ.out]
 go_wp2_with fail
 refine calls_abs (fun W => Ext w6 W ∧ Blk_ W w6.heap.size 23 #[.slice Ccc ncc ccc]) ⟨(Ext.refl _).alloc _, Blk_.new _ _ _⟩ ?_
 rintro w7 ⟨hx, hb⟩
 obtain ⟨g7, hg⟩ : ∃ z, z = w6.heap.size := ⟨_, rfl⟩
 rw [← hg] at hb ⊢
 have X7 := Lib.hid hx
 have hrun := run2_any g7 23 [.slice Ccc ncc ccc] [lv] (ac) w7 hb ⟨HRcc.out.ext X7.out, trivial⟩ (by simp only [List.flatten_cons, List.flatten_nil, List.append_nil]; exact HMP.out) (by have := HAL.out; have := HNcc.out; have := HN.out; omega) (by simp) HTF.out
 refine hrun.mono ?_
 rintro e w8 ⟨D1, d1, D2, d2, rfl, hx', hs5, hr5⟩
 have X8 := Lib.hid hx'
 have HRS := Lib.hid hs5
 have HRA := Lib.hid hr5
 clear hrun hx hx' hs5 hr5 hb hg
 rw [HAL.out.1] at HRS ⊢
 go_wp2_with fail
 refine calls_abs (fun W => Ext w8 W ∧ Blk_ W w8.heap.size 30 #[.slice D2 3 d2] ∧ Blk_ W (w8.heap.size + 1) 23 #[.slice Ccc q ccc]) ⟨((Ext.refl _).alloc _).alloc _, (Blk_.new _ _ _).alloc _, Blk_.new1 _ _ _ _⟩ ?_
 rintro w9 ⟨hx, hb1, hb⟩
 obtain ⟨g9, hg⟩ : ∃ z, z = w8.heap.size + 1 := ⟨_, rfl⟩
 obtain ⟨kD, hg1⟩ : ∃ z, z = w8.heap.size := ⟨_, rfl⟩
 rw [← hg] at hb ⊢
 rw [← hg1] at hb1 ⊢
 have HBD := Lib.hid hb1
 have X9 := Lib.hid hx
 clear hb1 hg1
 have hrun := run2_any g9 23 [.slice Ccc q ccc] [lv.take q] (ac.take q) w9 hb ⟨HTK.out.ext (X7.out.trans (X8.out.trans X9.out)), trivial⟩ (by simp only [List.flatten_cons, List.flatten_nil, List.append_nil]; rw [List.map_take, HMP.out]) (by have := HAL.out; have := HNcc.out; have := HN.out; omega) (by simp) (HTF.out.take q)
 refine hrun.mono ?_
 rintro e w10 ⟨E1, e1, E2, e2, rfl, hx', hs5, hr5⟩
 have X10 := Lib.hid hx'
 have HQS := Lib.hid hs5
 have HQA := Lib.hid hr5
 clear hrun hx hx' hs5 hr5 hb hg
 rw [HAL.out.2.1] at HQS ⊢
 go_wp2_with fail
 refine calls_abs (fun W => Ext w10 W ∧ Blk_ W w10.heap.size 30 #[.slice E2 3 e2] ∧ Blk_ W (w10.heap.size + 1) 23 #[.slice Ccc ncc ccc]) ⟨((Ext.refl _).alloc _).alloc _, (Blk_.new _ _ _).alloc _, Blk_.new1 _ _ _ _⟩ ?_
 rintro w11 ⟨hx, hb1, hb⟩
 obtain ⟨g11, hg⟩ : ∃ z, z = w10.heap.size + 1 := ⟨_, rfl⟩
 obtain ⟨kE, hg1⟩ : ∃ z, z = w10.heap.size := ⟨_, rfl⟩
 rw [← hg] at hb ⊢
 rw [← hg1] at hb1 ⊢
 have HBE := Lib.hid hb1
 have X11 := Lib.hid hx
 clear hb1 hg1
 have hrun := run2_any g11 23 [.slice Ccc ncc ccc] [lv] (ac) w11 hb ⟨HRcc.out.ext (X7.out.trans (X8.out.trans (X9.out.trans (X10.out.trans X11.out)))), trivial⟩ (by simp only [List.flatten_cons, List.flatten_nil, List.append_nil]; exact HMP.out) (by have := HAL.out; have := HNcc.out; have := HN.out; omega) (by simp) HTF.out
 refine hrun.mono ?_
 rintro e w12 ⟨F1, f1, F2, f2, rfl, hx', hs5, hr5⟩
 have X12 := Lib.hid hx'
 have HPS := Lib.hid hs5
 have HPA := Lib.hid hr5
 clear hrun hx hx' hs5 hr5 hb hg
 rw [HAL.out.1] at HPS ⊢
 have hnc := HAL.out.2.2.2
 have hql := HAL.out.2.2.1
 have hd1 : ncc ≤ d1 := by obtain ⟨A0, c0, e, _, h, _⟩ := HRS.out; injection e with _ e1 e2; have := HAL.out.1; rw [runS_length] at h; omega
 have hqd : (q : Int) ≤ (d1 : Int) := by omega
 have HTD := Lib.hid ((show SlR 5 80 RAns w8 (.slice D1 (runS 48 ac (sh0 48)).1.length d1) (runS 48 ac (sh0 48)).1 by rw [runS_length, HAL.out.1]; exact HRS.out).take q (by rw [runS_length, HAL.out.1]; omega))
 have HTE := Lib.hid HQS.out
 rw [runS_take] at HTE
 have hbd := HBD.out.ext (X10.out.trans (X11.out.trans X12.out))
 have qd := hbd.cell 0
 have ld := hbd.lt
 simp at qd
 clear hbd hd1 hql hnc
 go_wp2_with fail
 refine calls_abs (fun W => Ext w12 W ∧ Blk_ W w12.heap.size 30 #[.slice F2 3 f2]) ⟨(Ext.refl _).alloc _, Blk_.new _ _ _⟩ ?_
 rintro wa ⟨hxa, hfa⟩
 obtain ⟨kF, hkF⟩ : ∃ z, z = w12.heap.size := ⟨_, rfl⟩
 rw [← hkF] at hfa ⊢
 have XA := Lib.hid hxa
 refine (eqTwice_any (.slice D1 q d1) (.slice E1 q e1) ((runS 48 ac (sh0 48)).1.take q) wa (HTD.out.ext RAns.stays ((X9.out.trans (X10.out.trans (X11.out.trans X12.out))).trans hxa)) (HTE.out.ext RAns.stays ((X11.out.trans X12.out).trans hxa))).mono ?_
 rintro e wb ⟨rfl, hxb⟩
 have XB := Lib.hid (hxa.trans hxb)
 have HFB := Lib.hid (hfa.ext hxb)
 clear hxa hfa hxb hkF qd ld
 go_wp2_with fail
 refine (eqTwice_any (.slice D1 ncc d1) (.slice F1 ncc f1) (runS 48 ac (sh0 48)).1 wb (HRS.out.ext RAns.stays ((X9.out.trans (X10.out.trans (X11.out.trans X12.out))).trans XB.out)) (HPS.out.ext RAns.stays ((Ext.refl _).trans XB.out))).mono ?_
 rintro e wc ⟨rfl, hxc⟩
 have XC := Lib.hid (XB.out.trans hxc)
 have hfc := HFB.out.ext hxc
 have hdc := HBD.out.ext ((X10.out.trans (X11.out.trans X12.out)).trans XC.out)
 have f0 := hfc.cell 0
 have d0 := hdc.cell 0
 simp at f0 d0
 clear hxc hfc hdc
 go_wp2_with fail
 refine (sameArr_any (.slice D2 3 d2) (.slice F2 3 f2) (runS 48 ac (sh0 48)).2.a wc (HRA.out.up ((X9.out.trans (X10.out.trans (X11.out.trans X12.out))).trans XC.out)) (HPA.out.up ((Ext.refl _).trans XC.out))).mono ?_
 rintro e wd ⟨rfl, hxd⟩
 have XD := Lib.hid (XC.out.trans hxd)
 clear hxd f0 d0
 go_wp2_with fail
 go_ret
 exact ⟨rfl, (X1.out.trans (X2.out.trans (X3.out.trans (X4.out.trans (X5.out.trans (X6.out.trans (X7.out.trans (X8.out.trans (X9.out.trans (X10.out.trans (X11.out.trans X12.out))))))))))).trans XD.out⟩
end Go.Proofs.YtgjijcgkmofaaaaGreatDoor
