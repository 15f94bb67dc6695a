/-
  TopScrub: a scrub changes nothing that is told, however far it goes, and whatever is gone. Conditions: the arguments read as lists of raw numbers and numbers; the table of powers of ten that the library reads is in place.
-/
import Derived.Test.YtgjijcgkmofaaaaGreatDoorQ26
import Derived.Test.YtgjijcgkmofaaaaGreatDoorKEqS
import Derived.Test.YtgjijcgkmofaaaaGreatDoorPTopE
namespace Go.Proofs.YtgjijcgkmofaaaaGreatDoor
set_option linter.unusedSimpArgs false
set_option linter.unusedVariables false
open Go.RowKit
set_option maxRecDepth 100000 in
set_option maxHeartbeats 8000000 in
theorem lawTopScrub_any (v1 : Value) (l : List Raw4) (v2 : Value) (hs : List Raw4) (d nn : Int) (w : World) (h1 : SlR 4 32 RRaw w v1 l) (h2 : SlR 4 32 RRaw w v2 hs) (hd : I64 d) (hn : I64 nn) (ht : Tab w) :
  Calls Tryz.prog 10 #[v1, v2, .int .i64 d, .int .i64 nn] w fun e w' => e = .returned (.bool true) ∧ Ext w w' := by
 have H1 := Lib.hid h1
 have H2 := Lib.hid h2
 have HD := Lib.hid hd
 have HT := Lib.hid ht
 have HNN := Lib.hid hn
 obtain ⟨q, hq, hq2⟩ : ∃ q : Nat, pick nn 49 = (q : Int) ∧ q < 49 := picked_nat_ nn 49 (by decide)
 have HQQ := Lib.hid (And.intro hq hq2)
 clear h1 h2 hd ht hn hq hq2
 go_enter Tryz.func10, Tryz.ntmps10
 go_wp2_with fail
 refine (adds_any v1 l 8 w H1.out (by decide) (by decide) HT.out).mono ?_
 rintro e w1 ⟨A, c, A', c', La, Ls, rfl, hw, hle⟩
 have HA := Lib.hid (hw.acts (by have := hw.la; omega))
 have HG := Lib.hid hw.g
 have HE := Lib.hid hw.e
 have HFI := Lib.hid (hw.files (by omega))
 have X1 := Lib.hid hw.x
 have hla := hw.la
 obtain ⟨n, hn⟩ : ∃ n, n = Ls.flatten.length := ⟨_, rfl⟩
 rw [← hn] at HFI hle hla ⊢
 have HN := Lib.hid (And.intro hn (And.intro hle hla))
 have hgl := HG.out.len
 have HGL := Lib.hid hgl
 clear hw hle hn hla hgl
 go_wp2_with fail
 refine (both2_any v2 hs d 25 w1 (H2.out.ext RRaw.stays X1.out) HD.out (by decide)).mono ?_
 rintro e w2 ⟨B1, b1, k, j, L1, L2, rfl, hx, hr, hk3, hj3, hjk, hm1, hm2, hok1, hnd1, hok2, hnd2⟩
 have X2 := Lib.hid hx
 have HR1 := Lib.hid hr
 have HK := Lib.hid (And.intro hk3 (And.intro hj3 hjk))
 have HO1 := Lib.hid (And.intro hok1 (And.intro hnd1 (And.intro hok2 hnd2)))
 obtain ⟨nb, hnb⟩ : ∃ z, z = (L1 ++ L2).length := ⟨_, rfl⟩
 rw [← hnb] at HR1 ⊢
 have HB := Lib.hid (And.intro hnb (show nb ≤ 50 by rw [hnb, List.length_append]; omega))
 clear hx hr hk3 hj3 hjk hm1 hm2 hok1 hnd1 hok2 hnd2 hnb
 go_wp2_with fail
 refine calls_abs (fun W => Ext w2 W ∧ Blk_ W w2.heap.size 23 #[.slice A La.length c, .slice B1 nb b1]) ⟨(Ext.refl _).alloc _, Blk_.new _ _ _⟩ ?_
 rintro w3 ⟨hx, hb⟩
 obtain ⟨g3, hg⟩ : ∃ z, z = w2.heap.size := ⟨_, rfl⟩
 rw [← hg] at hb ⊢
 have X3 := Lib.hid hx
 have hfl : [La, (L1 ++ L2).map hurtV].flatten = La ++ (L1 ++ L2).map hurtV := by simp only [List.flatten_cons, List.flatten_nil, List.append_nil]
 have hfn : (La ++ (L1 ++ L2).map hurtV).length = La.length + nb := by simp only [List.length_append, List.length_map, List.length_cons, List.length_nil]; have := HN.out; have := HGL.out; have := HB.out; rw [List.length_append] at this; omega
 have hrun := concat2_any g3 23 [.slice A La.length c, .slice B1 nb b1] [La, (L1 ++ L2).map hurtV] w3 hb
  ⟨HA.out.ext (X2.out.trans X3.out), HR1.out.ext X3.out, trivial⟩ (by rw [hfl, hfn]; have := HN.out; have := HGL.out; have := HB.out; rw [List.length_append] at this; omega) (by simp)
 rw [hfl, hfn] at hrun
 obtain ⟨ncc, hncc⟩ : ∃ z, z = La.length + nb := ⟨_, rfl⟩
 rw [← hncc] at hrun hfn
 refine hrun.mono ?_
 rintro e w4 ⟨Ccc, ccc, rfl, hx', hr⟩
 have X4 := Lib.hid hx'
 have HRcc := Lib.hid hr
 have HNcc := Lib.hid (And.intro hncc hfn)
 have hccI : (ncc : Int) ≤ 1000 := by have := HN.out; have := HB.out; rw [List.length_append] at this; omega
 clear hrun hx' hr hb hg hx hfl hfn hncc
 go_wp2_with fail
 have hgt := gets_any A' c' Ls.flatten w4 (by rw [← HN.out.1]; exact HFI.out.ext RFil.stays (X2.out.trans (X3.out.trans X4.out))) (by have := HN.out; omega)
 rw [← HN.out.1] at hgt
 refine hgt.mono ?_
 clear hgt
 rintro e w5 ⟨B3, b3, rfl, hx, ho⟩
 have X5 := Lib.hid hx
 have HO3 := Lib.hid ho
 obtain ⟨i1, hi0, hz0, hz1, hz2⟩ := info_parts info_act
 have HIE := Lib.hid (And.intro hi0 (And.intro hz0 (And.intro hz1 hz2)))
 clear hx ho hi0 hz0 hz1 hz2
 go_wp2_with (at_builtin; refine wpList_append_at _ rfl (.tmp 33) (.tmp 35) 23 rfl w4.heap.size 39 i1 (.agg #[.int .i64 0, .slice none 0 0, .string .empty, .int .i64 0, .int .i64 0, .int .i64 0, .int .i64 0]) 7 80 Tryz.underlying23 HIE.out.1 HIE.out.2.1 HIE.out.2.2.1 HIE.out.2.2.2 rfl (by decide) (.slice B3 n b3) n _ rfl (own_ext HO3.out ((Ext.refl _).alloc _)) ⟨w5.heap.size, 0, none⟩ 1 1 [.int .i64 3, .slice none 0 0, .string .empty, .int .i64 0, .int .i64 0, .int .i64 0, .int .i64 0] rfl rfl ?c1 ?c2 ?c3 ?c4 ?c5 ?_)
 case c1 =>
  intro j u hu
  rw [Addr.add_lit, Nat.zero_add, (Blk_.new w5 39 _).cell, List.getElem?_toArray]
  exact hu
 case c2 =>
  intro u hu
  simp only [List.mem_cons, List.not_mem_nil, or_false] at hu
  rcases hu with rfl | rfl | rfl | rfl | rfl | rfl | rfl <;> rfl
 case c3 => have := HN.out; unfold maxLen; omega
 case c4 => have := HN.out; omega
 case c5 => have := X5.out.size; rw [World.size_alloc]; omega
 intro B4 b4 w6 own4 hg4 hV4
 have HR4 := Lib.hid (getsL_read own4 HN.out.1 (fun f hf => by
  obtain ⟨i, hi, rfl⟩ := List.getElem_of_mem hf
  rw [(groups_rise0 HG.out i hi).1]; show (2 : Nat) ≤ _; decide) (by have := HN.out; omega))
 have X6 := Lib.hid ((X5.out.alloc _).grown hg4 (fun g hg => (HO3.out.lt g hg).1))
 obtain ⟨ng, hng⟩ : ∃ z, z = n + 1 := ⟨_, rfl⟩
 rw [← hng] at HR4 ⊢
 have HNG := Lib.hid hng
 have hngI : (ng : Int) ≤ 11 := by have := HN.out; omega
 clear own4 hg4 hV4 hng HO3
 go_wp2_with fail
 have htp := top_scrub (m := 48) (q := q) ⟨by decide, by decide, by decide⟩ HK.out.1 HK.out.2.1 HK.out.2.2 (by have := HQQ.out.2; omega) HG.out (by have := HN.out; omega) HO1.out.1 HO1.out.2.1 HO1.out.2.2.1 HO1.out.2.2.2
 refine calls_abs (fun W => Ext w6 W ∧ Blk_ W w6.heap.size 23 #[.slice Ccc ncc ccc, .slice B4 ng b4]) ⟨(Ext.refl _).alloc _, Blk_.new _ _ _⟩ ?_
 rintro w7 ⟨hx, hb⟩
 obtain ⟨g7, hg⟩ : ∃ z, z = w6.heap.size := ⟨_, rfl⟩
 rw [← hg] at hb ⊢
 have X7 := Lib.hid hx
 have hlen : ((Ls.map addAct ++ (L1 ++ L2).map hurtAct) ++ (Ls.flatten.map getAct ++ [listAct])).length ≤ 200 := by simp only [List.length_append, List.length_map, List.length_cons, List.length_nil]; have := HN.out; have := HGL.out; have := HB.out; rw [List.length_append] at this; omega
 have hrun := run2_any g7 23 [.slice Ccc ncc ccc, .slice B4 ng b4] [La ++ (L1 ++ L2).map hurtV, Ls.flatten.map getV ++ [litV listAct]] ((Ls.map addAct ++ (L1 ++ L2).map hurtAct) ++ (Ls.flatten.map getAct ++ [listAct])) w7 hb
  ⟨HRcc.out.ext (X6.out.trans X7.out), HR4.out.ext X7.out, trivial⟩
  (by simp only [List.flatten_cons, List.flatten_nil, List.append_nil, List.map_append, HE.out, map_hurtV, map_getV, List.map_cons, List.map_nil, List.append_assoc, litV_a, List.cons_append, List.nil_append])
  hlen (by simp) htp.1
 have hml := runS_length 48 ((Ls.map addAct ++ (L1 ++ L2).map hurtAct) ++ (Ls.flatten.map getAct ++ [listAct])) (sh0 48)
 obtain ⟨ac, hac⟩ : ∃ z, z = (Ls.map addAct ++ (L1 ++ L2).map hurtAct) ++ (Ls.flatten.map getAct ++ [listAct]) := ⟨_, rfl⟩
 rw [← hac] at hrun hlen hml htp
 refine hrun.mono ?_
 rintro e w8 ⟨D1, d1, D2, d2, rfl, hx, hs5, hr5⟩
 have X8 := Lib.hid hx
 have HRS := Lib.hid hs5
 have HRA := Lib.hid hr5
 have HRL := Lib.hid (And.intro hlen hml)
 have hrI : (ac.length : Int) ≤ 200 := by omega
 have HRC := Lib.hid hac
 clear hrun hx hs5 hr5 hb hg hlen hml hac
 go_wp2_with fail
 refine calls_abs (fun W => Ext w8 W) ((Ext.refl _).alloc _) ?_
 rintro w9 hx
 have X9 := Lib.hid hx
 clear hx
 refine (picked1_any nn 49 w9 HNN.out (by decide) (by decide)).mono ?_
 rintro e wz ⟨rfl, hw⟩
 obtain rfl := hw.symm
 rw [HQQ.out.1]
 go_wp2_with fail
 obtain ⟨gs, hg⟩ : ∃ z, z = w9.heap.size := ⟨_, rfl⟩
 obtain ⟨g10, hg2⟩ : ∃ z, z = w9.heap.size + 1 := ⟨_, rfl⟩
 refine calls_abs (fun W => Ext w9 W ∧ Blk_ W w9.heap.size 39 #[.int .i64 7, .slice none 0 0, .string .empty, .int .i64 0, .int .i64 (q : Int), .int .i64 0, .int .i64 0] ∧ Blk_ W (w9.heap.size + 1) 23 #[.slice Ccc ncc ccc, .slice (some ⟨w9.heap.size, 0, none⟩) 1 1, .slice B4 ng b4]) ⟨((Ext.refl _).alloc _).alloc _, (Blk_.new _ _ _).alloc _, Blk_.new1 _ _ _ _⟩ ?_
 rintro w10 ⟨hx, hb0, hb⟩
 rw [← hg2] at hb ⊢
 rw [← hg] at hb0 hb ⊢
 have X10 := Lib.hid hx
 have HRgs := Lib.hid (lits_read [scrubAct q] hb0 (by simp) (by
  intro x hx
  simp only [List.mem_cons, List.not_mem_nil, or_false] at hx
  subst hx 
  (refine ⟨rfl, Nat.zero_le _, ?_⟩; unfold I64; refine ⟨?_, ?_, ?_, ?_, ?_⟩ <;> first | decide | (simp only [scrubAct]; have := HQQ.out.2; omega))))
 clear hb0 hg hg2
 have hlen : ((Ls.map addAct ++ (L1 ++ L2).map hurtAct) ++ ([scrubAct q] ++ (Ls.flatten.map getAct ++ [listAct]))).length ≤ 200 := by simp only [List.length_append, List.length_map, List.length_cons, List.length_nil]; have := HN.out; have := HGL.out; have := HB.out; rw [List.length_append] at this; omega
 have hrun := run2_any g10 23 [.slice Ccc ncc ccc, .slice (some ⟨gs, 0, none⟩) 1 1, .slice B4 ng b4] [La ++ (L1 ++ L2).map hurtV, [scrubAct q].map litV, Ls.flatten.map getV ++ [litV listAct]] ((Ls.map addAct ++ (L1 ++ L2).map hurtAct) ++ ([scrubAct q] ++ (Ls.flatten.map getAct ++ [listAct]))) w10 hb
  ⟨HRcc.out.ext (X6.out.trans (X7.out.trans (X8.out.trans (X9.out.trans X10.out)))), HRgs.out.ext (Ext.refl _), HR4.out.ext (X7.out.trans (X8.out.trans (X9.out.trans X10.out))), trivial⟩
  (by simp only [List.flatten_cons, List.flatten_nil, List.append_nil, List.map_append, HE.out, map_hurtV, map_getV, List.map_cons, List.map_nil, List.append_assoc, litV_a, List.cons_append, List.nil_append, map_litV])
  hlen (by simp) htp.2.1
 have hml := runS_length 48 ((Ls.map addAct ++ (L1 ++ L2).map hurtAct) ++ ([scrubAct q] ++ (Ls.flatten.map getAct ++ [listAct]))) (sh0 48)
 have hg := trivial
 obtain ⟨ad, hac⟩ : ∃ z, z = (Ls.map addAct ++ (L1 ++ L2).map hurtAct) ++ ([scrubAct q] ++ (Ls.flatten.map getAct ++ [listAct])) := ⟨_, rfl⟩
 rw [← hac] at hrun hlen hml htp
 refine hrun.mono ?_
 rintro e w11 ⟨E1, e1, E2, e2, rfl, hx, hs5, hr5⟩
 have X11 := Lib.hid hx
 have HQS := Lib.hid hs5
 have HQA := Lib.hid hr5
 have HQL := Lib.hid (And.intro hlen hml)
 have hqI : (ad.length : Int) ≤ 200 := by omega
 have HQC := Lib.hid hac
 clear hrun hx hs5 hr5 hb hg hlen hml hac
 obtain ⟨_, _, xx, yy, zz, hxx, hyy, hzz⟩ := htp
 rw [← HN.out.1, ← HNG.out] at hzz
 have hl1 := HRL.out.2
 have hl2 := HQL.out.2
 rw [hxx, List.length_append, hzz] at hl1
 rw [hyy, List.length_append, hzz] at hl2
 obtain ⟨p, hp⟩ : ∃ z, z = xx.length := ⟨_, rfl⟩
 obtain ⟨r, hr⟩ : ∃ z, z = yy.length := ⟨_, rfl⟩
 have hs1 := HRS.out
 have hs2 := HQS.out
 rw [hxx] at hs1
 rw [hyy] at hs2
 have hd1 := hs1.drop' p (by rw [List.length_append]; omega) (by rw [List.length_append, hzz]; omega)
 have hd2 := hs2.drop' r (by rw [List.length_append]; omega) (by rw [List.length_append, hzz]; omega)
 rw [hp, List.drop_left, ← hp] at hd1
 rw [hr, List.drop_left, ← hr] at hd2
 obtain ⟨A5, hA5⟩ : ∃ A5, (if d1 = p then D1 else D1.map (·.add (p * 5))) = A5 := ⟨_, rfl⟩
 obtain ⟨c5, hc5⟩ : ∃ c5, d1 - p = c5 := ⟨_, rfl⟩
 obtain ⟨A6, hA6⟩ : ∃ A6, (if e1 = r then E1 else E1.map (·.add (r * 5))) = A6 := ⟨_, rfl⟩
 obtain ⟨c6, hc6⟩ : ∃ c6, e1 - r = c6 := ⟨_, rfl⟩
 rw [hA5, hc5, show ac.length - p = ng by omega] at hd1
 rw [hA6, hc6, show ad.length - r = ng by omega] at hd2
 have HD1 := Lib.hid hd1
 have HD2 := Lib.hid hd2
 have HC5 := Lib.hid (And.intro hA5 (And.intro hc5 (And.intro hA6 hc6)))
 have hpI : (ac.length : Int) - (ng : Int) = (p : Int) := by omega
 have hrJ : (ad.length : Int) - (ng : Int) = (r : Int) := by omega
 have hpN : p ≤ ac.length := by omega
 have hrN : r ≤ ad.length := by omega
 have hpn : ac.length - p = ng := by omega
 have hrn : ad.length - r = ng := by omega
 have hng1 : (ng : Int) ≤ (ac.length : Int) := by omega
 have hng2 : (ng : Int) ≤ (ad.length : Int) := by omega
 obtain ⟨i5, hi0, hi1⟩ := info_ans
 have HI := Lib.hid (And.intro hi0 hi1)
 clear hxx hyy hzz hl1 hl2 hp hr hs1 hs2 hd1 hd2 hA5 hc5 hA6 hc6 hi0 hi1
 go_wp2_with (first | (refine wpList_slice_from _ rfl (.tmp 63) (.tmp 68) 27 rfl 5 46 i5 Tryz.underlying27 HI.out.1 HI.out.2 D1 ac.length d1 p rfl (by first | rfl | (rw [← hpI]; rfl)) hpN A5 c5 HC5.out.1 HC5.out.2.1 ?_) | (refine wpList_slice_from _ rfl (.tmp 70) (.tmp 75) 27 rfl 5 46 i5 Tryz.underlying27 HI.out.1 HI.out.2 E1 ad.length e1 r rfl (by first | rfl | (rw [← hrJ]; rfl)) hrN A6 c6 HC5.out.2.2.1 HC5.out.2.2.2 ?_))
 refine calls_abs (fun W => Ext w11 W) ((Ext.refl _).alloc _) ?_
 rintro w12 hx
 have X12 := Lib.hid hx
 clear hx
 refine (eqScrub_any (.slice A5 ng c5) (.slice A6 ng c6) zz w12 (HD1.out.ext RAns.stays (X9.out.trans (X10.out.trans (X11.out.trans X12.out)))) (HD2.out.ext RAns.stays X12.out)).mono ?_
 rintro e wf ⟨rfl, hxf⟩
 have XF := Lib.hid hxf
 clear hxf
 go_wp2_with fail
 go_ret
 exact ⟨rfl, (X1.out.trans (X2.out.trans (X3.out.trans (X4.out.trans (X6.out.trans (X7.out.trans (X8.out.trans (X9.out.trans (X10.out.trans (X11.out.trans X12.out)))))))))).trans XF.out⟩
end Go.Proofs.YtgjijcgkmofaaaaGreatDoor
