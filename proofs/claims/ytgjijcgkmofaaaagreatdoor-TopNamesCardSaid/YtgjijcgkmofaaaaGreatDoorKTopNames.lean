/-
  TopNames: all files are listed, by their names, each once. Conditions: the arguments read as lists of raw numbers and numbers; the table of powers of ten that the library reads is in place.
-/
import Derived.Test.YtgjijcgkmofaaaaGreatDoorKSame
import Derived.Test.YtgjijcgkmofaaaaGreatDoorKSortS
import Derived.Test.YtgjijcgkmofaaaaGreatDoorPTopE
namespace Go.Proofs.YtgjijcgkmofaaaaGreatDoor
set_option linter.unusedSimpArgs false
set_option linter.unusedVariables false
open Go.RowKit
set_option maxRecDepth 100000 in
set_option maxHeartbeats 8000000 in
theorem lawTopNames_any (v1 : Value) (l : List Raw4) (v2 : Value) (hs : List Raw4) (d : Int) (w : World) (h1 : SlR 4 32 RRaw w v1 l) (h2 : SlR 4 32 RRaw w v2 hs) (hd : I64 d) (ht : Tab w) :
  Calls Tryz.prog 9 #[v1, v2, .int .i64 d] w fun e w' => e = .returned (.bool true) ∧ Ext w w' := by
 have H1 := Lib.hid h1
 have H2 := Lib.hid h2
 have HD := Lib.hid hd
 have HT := Lib.hid ht
 obtain ⟨k, hk, hk3⟩ := picked_nat d
 have HK := Lib.hid (And.intro hk hk3)
 have hkI : (k : Int) < 3 := by omega
 clear h1 h2 hd ht hk hk3
 go_enter Tryz.func9, Tryz.ntmps9
 go_wp2_with fail
 refine (adds_any v1 l 10 w H1.out (by decide) (by decide) HT.out).mono ?_
 rintro e w1 ⟨A, c, A', c', La, Ls, rfl, hw, hle⟩
 have HA := Lib.hid (hw.acts (by have := hw.la; omega))
 have HG := Lib.hid hw.g
 have HE := Lib.hid hw.e
 have HFI := Lib.hid (hw.files (by omega))
 have X1 := Lib.hid hw.x
 have hla := hw.la
 obtain ⟨n, hn⟩ : ∃ n, n = Ls.flatten.length := ⟨_, rfl⟩
 rw [← hn] at HFI hle hla ⊢
 have HN := Lib.hid (And.intro hn (And.intro hle hla))
 have hgl := HG.out.len
 have HGL := Lib.hid hgl
 clear hw hle hn hla hgl
 go_wp2_with fail
 refine (picked1_any d 3 w1 HD.out (by decide) (by decide)).mono ?_
 rintro e wz ⟨rfl, hw⟩
 obtain rfl := hw.symm
 rw [HK.out.1]
 go_wp2_with fail
 refine (hurts_any v2 hs k 48 20 w1 (H2.out.ext RRaw.stays X1.out) HK.out.2 (by decide) (by decide) (by decide)).mono ?_
 rintro e w2 ⟨B1, b1, L1, rfl, hx, ho, hok, hnd, hL⟩
 have X2 := Lib.hid hx
 have HO1 := Lib.hid (And.intro hok (And.intro hnd hL))
 have HR1 := Lib.hid (hurts_read ho HK.out.2 (by split <;> decide) hok (by omega))
 clear hx ho hok hnd hL
 go_wp2_with fail
 have htp := top_names (m := 48) ⟨by decide, by decide, by decide⟩ HK.out.2 HG.out (by have := HN.out; omega) HO1.out.1 HO1.out.2.1
 obtain ⟨gs, hg⟩ : ∃ z, z = w2.heap.size := ⟨_, rfl⟩
 obtain ⟨g3, hg2⟩ : ∃ z, z = w2.heap.size + 1 := ⟨_, rfl⟩
 refine calls_abs (fun W => Ext w2 W ∧ Blk_ W w2.heap.size 39 #[.int .i64 3, .slice none 0 0, .string .empty, .int .i64 0, .int .i64 0, .int .i64 0, .int .i64 0] ∧ Blk_ W (w2.heap.size + 1) 23 #[.slice A La.length c, .slice B1 L1.length b1, .slice (some ⟨w2.heap.size, 0, none⟩) 1 1]) ⟨((Ext.refl _).alloc _).alloc _, (Blk_.new _ _ _).alloc _, Blk_.new1 _ _ _ _⟩ ?_
 rintro w3 ⟨hx, hb0, hb⟩
 rw [← hg2] at hb ⊢
 rw [← hg] at hb0 hb ⊢
 have X3 := Lib.hid hx
 have HRgs := Lib.hid (lits_read [listAct] hb0 (by simp) (by
  intro x hx
  simp only [List.mem_cons, List.not_mem_nil, or_false] at hx
  subst hx 
  (refine ⟨rfl, Nat.zero_le _, ?_⟩; unfold I64; refine ⟨?_, ?_, ?_, ?_, ?_⟩ <;> first | decide | (simp only [listAct]; omega))))
 clear hb0 hg hg2
 have hlen : (Ls.map addAct ++ (L1.map hurtAct ++ [listAct])).length ≤ 200 := by simp only [List.length_append, List.length_map, List.length_cons, List.length_nil]; have := HN.out; have := HGL.out; have := HO1.out.2.2; omega
 have hrun := run2_any g3 23 [.slice A La.length c, .slice B1 L1.length b1, .slice (some ⟨gs, 0, none⟩) 1 1] [La, L1.map hurtV, [listAct].map litV] (Ls.map addAct ++ (L1.map hurtAct ++ [listAct])) w3 hb
  ⟨HA.out.ext (X2.out.trans X3.out), HR1.out.ext X3.out, HRgs.out.ext (Ext.refl _), trivial⟩
  (by simp only [List.flatten_cons, List.flatten_nil, List.append_nil, List.map_append, HE.out, map_hurtV, map_getV, List.map_cons, List.map_nil, List.append_assoc, litV_a, List.cons_append, List.nil_append, map_litV])
  hlen (by simp) htp.1
 have hml := runS_length 48 (Ls.map addAct ++ (L1.map hurtAct ++ [listAct])) (sh0 48)
 have hg := trivial
 obtain ⟨ac, hac⟩ : ∃ z, z = Ls.map addAct ++ (L1.map hurtAct ++ [listAct]) := ⟨_, rfl⟩
 rw [← hac] at hrun hlen hml htp
 refine hrun.mono ?_
 rintro e w4 ⟨D1, d1, D2, d2, rfl, hx, hs5, hr5⟩
 have X4 := Lib.hid hx
 have HRS := Lib.hid hs5
 have HRA := Lib.hid hr5
 have HRL := Lib.hid (And.intro hlen hml)
 have hrI : (ac.length : Int) ≤ 200 := by omega
 have HRC := Lib.hid hac
 clear hrun hx hs5 hr5 hb hg hlen hml hac
 obtain ⟨_, xx, yy, ll, hxx, hxl, hlc, hln, hlp⟩ := htp
 obtain ⟨R, hR⟩ : ∃ R, R = (runS 48 ac (sh0 48)).1 := ⟨_, rfl⟩
 have hRl : R.length = ac.length := by rw [hR]; exact HRL.out.2
 rw [← hR] at hxx
 have hs1 : SlR 5 80 RAns w4 (.slice D1 R.length d1) R := by have h := HRS.out; rw [← hR] at h; rw [hRl]; exact h
 have hok : okG R Ls = okG xx Ls := by rw [hxx]; exact okG_app _ hxl
 have hle := ok_le (x := R) HG.out (by have := HN.out; omega)
 rw [← hok] at hln
 have hLL : La.length = Ls.length := by have h := congrArg List.length HE.out; rw [List.length_map, List.length_map] at h; exact h
 have hRb : Ls.length < R.length := by rw [hxx, List.length_append, List.length_append, ← hxl]; show xx.length < xx.length + (yy.length + 1); omega
 have hlast : R[R.length - 1]? = some ll := by
  rw [hxx, ← List.append_assoc]
  rw [List.length_append, List.getElem?_append_right (by show (xx ++ yy).length ≤ (xx ++ yy).length + 1 - 1; omega)]
  show ([ll])[(xx ++ yy).length + 1 - 1 - (xx ++ yy).length]? = some ll
  rw [Nat.add_sub_cancel, Nat.sub_self]; rfl
 have hsn : (okG R Ls).length ≤ n := by rw [HN.out.1]; exact (okG_sub R Ls).length_le
 have HC := Lib.hid (ans_cells hs1)
 have HB := Lib.hid (And.intro hRl (And.intro hLL (And.intro hRb hsn)))
 have HLE := Lib.hid hle
 have HLN := Lib.hid (And.intro hlc (And.intro hln hlast))
 obtain ⟨A0, a0, hA0, _, _, pa⟩ := HA.out.1.rowE encActV_ok
 injection hA0 with hA1 _ hA2
 subst hA1 hA2
 have HPA := Lib.hid pa
 have HFI2 := Lib.hid HA.out.2
 have hlaI : (La.length : Int) ≤ 10 := by have := HN.out; omega
 have hRI : (ac.length : Int) ≤ 200 := by have := HRL.out; omega
 obtain ⟨i1, hi0, hz0, hz1, hz2⟩ := info_parts info_str
 have HIE := Lib.hid (And.intro hi0 (And.intro hz0 (And.intro hz1 hz2)))
 clear hxx hxl hlc hln hlp hR hRl hs1 hok hle hLL hRb hlast hsn pa hi0 hz0 hz1 hz2
 go_wp2_with fail
 go_loopw [12, 40] (fun wv iv wr => ∃ (i : Nat) (A : Option Addr) (c : Nat) (wl : List ByteArray), wv = .slice A wl.length c ∧ iv = .int .i64 (i : Int) ∧ i ≤ La.length ∧ wl = (okG R (Ls.take i)).map (·.name) ∧ wl.length ≤ 10 * i ∧ Ext w4 wr ∧ wr.ownsRow w4.heap.size 9 1 (.slice A wl.length c) wl.length (wl.flatMap encStr)) (fun _ iv _ => La.length - (intOf iv).toNat)
 case atStart => exact ⟨0, none, 0, [], rfl, rfl, Nat.zero_le _, by cases R <;> rfl, by simp, (Ext.refl _).alloc _, World.ownsRow_nil _ _ _ _⟩
 case round =>
  obtain ⟨i, Aw, cw, wl, rfl, rfl, hi, hwl, hwn, hx, ho⟩ := hrel
  have HWN := Lib.hid (And.intro hwn hi)
  have HXR := Lib.hid hx
  have HOW := Lib.hid ho
  have HWL := Lib.hid hwl
  clear hx ho hwl hwn
  by_cases hlt : i < La.length
  ·have hltI : (i : Int) < (La.length : Int) := by omega
   have hiL : i < Ls.length := by have := HB.out.2.1; omega
   have hix : i < R.length := by have := HB.out; omega
   obtain ⟨b, o, hAe, hc⟩ := HPA.out i hlt
   have hf0 := HFI2.out La[i] (List.getElem_mem hlt)
   have hfe : La[i].a.files = Ls[i] := by
    have h1 : (La.map (·.a))[i]'(by simpa using hlt) = (Ls.map addAct)[i]'(by simpa using hiL) := by simp only [HE.out]
    rw [List.getElem_map, List.getElem_map] at h1
    rw [h1]; rfl
   obtain ⟨Y, hY⟩ : ∃ Y, Y = La[i] := ⟨_, rfl⟩
   rw [← hY] at hf0 hfe
   have XIR := Lib.hid ((X2.out.trans (X3.out.trans X4.out)).trans HXR.out)
   have hcc : ∀ (j : Nat) (u : Value), (encActV Y)[j]? = some u → wr.cell? ⟨b, o + i * 7 + j, none⟩ = some u := fun j u hu => XIR.out.cell (hc i hlt j u (by rw [← hY]; exact hu))
   have r0 := hcc 0 _ rfl
   have r1 := hcc 1 _ rfl
   have r2 := hcc 2 _ rfl
   have r3 := hcc 3 _ rfl
   have r4 := hcc 4 _ rfl
   have r5 := hcc 5 _ rfl
   have r6 := hcc 6 _ rfl
   simp only [Nat.add_zero] at r0
   obtain ⟨y0, hy0⟩ : ∃ z, z = Y.a.kind := ⟨_, rfl⟩
   rw [← hy0] at r0
   obtain ⟨y2, hy2⟩ : ∃ z, z = Y.a.name := ⟨_, rfl⟩
   rw [← hy2] at r2
   obtain ⟨y3, hy3⟩ : ∃ z, z = Y.a.d := ⟨_, rfl⟩
   rw [← hy3] at r3
   obtain ⟨y4, hy4⟩ : ∃ z, z = Y.a.n := ⟨_, rfl⟩
   rw [← hy4] at r4
   obtain ⟨y5, hy5⟩ : ∃ z, z = Y.a.at_ := ⟨_, rfl⟩
   rw [← hy5] at r5
   obtain ⟨y6, hy6⟩ : ∃ z, z = Y.a.by_ := ⟨_, rfl⟩
   rw [← hy6] at r6
   obtain ⟨G, hG⟩ : ∃ G, G = Ls[i] := ⟨_, rfl⟩
   have hf1 : SlR 2 32 RFil w1 (.slice Y.A G.length Y.c) G := by have h := hf0; unfold ActV.f at h; rw [hfe, ← hG] at h; exact h
   have r1' : wr.cell? ⟨b, o + i * 7 + 1, none⟩ = some (.slice Y.A G.length Y.c) := by have h := r1; unfold ActV.f at h; rw [hfe, ← hG] at h; exact h
   obtain ⟨Ya, hYa⟩ : ∃ z, z = Y.A := ⟨_, rfl⟩
   obtain ⟨Yc, hYc⟩ : ∃ z, z = Y.c := ⟨_, rfl⟩
   rw [← hYa, ← hYc] at hf1 r1'
   have HF1 := Lib.hid (fil_row hf1)
   have HLT := Lib.hid (And.intro hlt hiL)
   have hgn : G.length ≤ n := by rw [hG, HN.out.1]; have := take_flat_le Ls i hiL; omega
   have hgI : (G.length : Int) ≤ 10 := by have := HN.out; omega
   obtain ⟨bx, ox, vn, vg, hAx, x0, hjunk⟩ := HC.out i hix
   obtain ⟨ci, hci⟩ : ∃ z, z = R[i].code := ⟨_, rfl⟩
   rw [← hci] at x0
   have hsn := okG_snoc hix hiL
   rw [← hci, ← hG] at hsn
   have HSN := Lib.hid hsn
   have HX0 := Lib.hid x0
   have hixI : (i : Int) < (ac.length : Int) := by have := HB.out; omega
   have hAe' := hAe
   have hAx' := hAx
   subst hAe' hAx'
   clear hc hcc r1 hY hy0 hy2 hy3 hy4 hy5 hy6 hf0 hf1 hfe hYa hYc hi hG hci hgn hjunk hsn hlt hiL hix
   go_wp2_with fail
   go_loopw [12, 48] (fun wv jv wq => ∃ (j : Nat) (A : Option Addr) (c : Nat) (wl' : List ByteArray), wv = .slice A wl'.length c ∧ jv = .int .i64 (j : Int) ∧ j ≤ G.length ∧ wl' = wl ++ (if ci = 0 then (G.take j).map (·.name) else []) ∧ wl'.length ≤ wl.length + j ∧ Ext w4 wq ∧ wq.ownsRow w4.heap.size 9 1 (.slice A wl'.length c) wl'.length (wl'.flatMap encStr)) (fun _ jv _ => G.length - (intOf jv).toNat)
   case atStart => exact ⟨0, Aw, cw, wl, rfl, rfl, Nat.zero_le _, by simp, by omega, by first | exact HXR.out.alloc _ | exact (HXR.out.alloc _).drew, own_ext HOW.out (by first | exact (Ext.refl _).alloc _ | exact ((Ext.refl _).alloc _).drew)⟩
   case round =>
    obtain ⟨j, Aq, cq, wl', rfl, rfl, hj, hwl', hwm, hx, ho⟩ := hrel
    have HWM := Lib.hid hwm
    have HXQ := Lib.hid hx
    have HOQ := Lib.hid ho
    have HWQ := Lib.hid hwl'
    clear hx ho hwl' hwm
    by_cases hjl : j < G.length
    ·have hjI : (j : Int) < (G.length : Int) := by omega
     obtain ⟨b2, o2, hAf, hn0, hd0⟩ := HF1.out j hjl
     have XIQ := Lib.hid ((X2.out.trans (X3.out.trans X4.out)).trans HXQ.out)
     have n0 := XIQ.out.cell hn0
     have d0 := XIQ.out.cell hd0
     obtain ⟨fn, hfn⟩ : ∃ z, z = G[j].name := ⟨_, rfl⟩
     obtain ⟨fd, hfd⟩ : ∃ z, z = G[j].data := ⟨_, rfl⟩
     rw [← hfn] at n0
     rw [← hfd] at d0
     have HFN := Lib.hid (And.intro hfn hjl)
     have xq := HXQ.out.cell HX0.out
     have lxq := cell_lt xq
     have lxq2 : bx < wr.heap.size + 1 := by omega
     subst hAf
     clear hfn hfd hn0 hd0 hj
     by_cases hac : ci = 0
     ·rw [hac] at xq
      go_wp2_with (at_builtin; refine wpList_append_at _ rfl (.tmp 58) (.tmp 61) 43 rfl w4.heap.size 9 i1 (.string .empty) 1 16 Tryz.underlying43 HIE.out.1 HIE.out.2.1 HIE.out.2.2.1 HIE.out.2.2.2 rfl (by decide) (.slice Aq wl'.length cq) wl'.length _ rfl (own_ext HOQ.out (((Ext.refl _).alloc _).alloc _)) ⟨wr.heap.size + 1, 0, none⟩ 1 1 [.string fn] rfl rfl ?c1 ?c2 ?c3 ?c4 ?c5 ?_)
      case c1 =>
       intro j u hu
       rw [Addr.add_lit, Nat.zero_add, (Blk_.new1 wr _ 9 _).cell, List.getElem?_toArray]
       exact hu
      case c2 =>
       intro u hu
       obtain rfl := List.mem_singleton.1 hu
       rfl
      case c3 => have := HWM.out; have := HWN.out; have := HN.out; have := HFN.out.2; unfold maxLen; omega
      case c4 => have := HWM.out; have := HWN.out; have := HN.out; have := HFN.out.2; omega
      case c5 => have := HXQ.out.size; rw [World.size_alloc, World.size_alloc]; omega
      intro Az cz wz ownz hgz _
      have HOZ := Lib.hid ownz
      have HXZ := Lib.hid (((HXQ.out.alloc _).alloc _).grown hgz (fun g hg => (HOQ.out.lt g hg).1))
      clear ownz hgz
      go_wp2_with fail
      go_roundw
      case rel =>
       have hwm := HWM.out
       refine ⟨j + 1, Az, cz, wl' ++ [fn], by rw [List.length_append]; rfl, by first | rfl | go_num, HFN.out.2, ?_, by rw [List.length_append]; show wl'.length + 1 ≤ _; omega, HXZ.out, ?_⟩
       ·have hj2 : j < G.length := HFN.out.2
        have hfe2 := HFN.out.1
        rw [HWQ.out, if_pos hac, if_pos hac, List.take_succ_eq_append_getElem hj2, List.map_append, List.append_assoc, hfe2]
        rfl
       ·rw [List.length_append, List.flatMap_append]
        exact HOZ.out
      case measure => have := HFN.out.2; (simp [intOf]; try omega)
     ·have hb1 : (ci == 0) = false := beq_false_of_ne hac
      go_wp2_with fail
      go_roundw
      case rel =>
       have hwm := HWM.out
       refine ⟨j + 1, Aq, cq, wl', rfl, by first | rfl | go_num, HFN.out.2, ?_, by omega, by first | exact HXQ.out.alloc _ | exact (HXQ.out.alloc _).drew, own_ext HOQ.out (by first | exact (Ext.refl _).alloc _ | exact ((Ext.refl _).alloc _).drew)⟩
       rw [HWQ.out, if_neg hac, if_neg hac]
      case measure => have := HFN.out.2; (simp [intOf]; try omega)
    ·have hjI : (G.length : Int) ≤ (j : Int) := by omega
     have hje : j = G.length := by omega
     have HJE := Lib.hid hje
     clear hjl hj hje
     go_wp2_with fail
     go_roundw
     case rel =>
      have hwm := HWM.out
      have hwn := HWN.out
      have hje := HJE.out
      refine ⟨i + 1, Aq, cq, wl', rfl, by first | rfl | go_num, HLT.out.1, ?_, by omega, HXQ.out, HOQ.out⟩
      rw [HWQ.out, HWL.out, HSN.out, List.map_append, hje, List.take_length]
      congr 1
      split <;> rfl
     case measure => have := HLT.out.1; (simp [intOf]; try omega)
  ·have hltI : (La.length : Int) ≤ (i : Int) := by omega
   have hie : i = La.length := by omega
   have hwf : wl = (okG R Ls).map (·.name) := by rw [HWL.out, hie, HB.out.2.1, List.take_length]
   have hwl2 : wl.length ≤ 100 := by have := HWN.out; have := HN.out; omega
   have HWF := Lib.hid hwf
   have HW2 := Lib.hid hwl2
   have hps : wl.Pairwise (fun s t => lst s ≤ lst t) := by rw [hwf]; exact HLE.out
   have HPS := Lib.hid hps
   clear hlt hi hie hwf hwl2 hps
   go_wp2_with fail
   refine (sortStr_any Aw cw w4.heap.size wl wr HOW.out (by have := HW2.out; omega) HPS.out).mono ?_
   rintro e ws ⟨rfl, hgs, hos⟩
   have XS := Lib.hid (HXR.out.grown hgs (fun g hg => (HOW.out.lt g hg).1))
   have HOS := Lib.hid hos
   obtain ⟨q, hq⟩ : ∃ z, z = R.length - 1 := ⟨_, rfl⟩
   have hqR : q < R.length := by have := HB.out.2.2.1; omega
   have hrl := HB.out.1
   have hqI : (ac.length : Int) - 1 = (q : Int) := by have := HB.out.2.2.1; omega
   have hq2 : (q : Int) < (ac.length : Int) := by omega
   obtain ⟨bx, ox, vn, vg, hAx, e0, e1, e2, e3, e4, e5, e6⟩ := HC.out q hqR
   have hll : R[q] = ll := by have h := HLN.out.2.2; rw [← hq, List.getElem?_eq_getElem hqR] at h; exact Option.some.inj h
   rw [hll] at e0 e1 e3 e5 e6
   obtain ⟨pc, pd, pn, pk, pg⟩ := ll
   have hc0 : pc = 0 := HLN.out.1
   have hpn : pn = wl := by rw [HWF.out]; exact HLN.out.2.1
   dsimp only at e0 e1 e3 e5 e6
   subst hc0 hpn
   obtain ⟨Ag, cg, rfl, _⟩ := e6.row
   obtain ⟨An, cn, rfl, _⟩ := e5.row
   have z0 := XS.out.cell e0
   have z1 := XS.out.cell e1
   have z2 := XS.out.cell e2
   have z3 := XS.out.cell e3
   have z4 := XS.out.cell e4
   have hbx := cell_lt z0
   have HE5 := Lib.hid e5
   have hax := hAx
   subst hax
   clear hgs hos hq hll e0 e1 e2 e3 e4 e5 e6 hrl hqR
   go_wp2_with fail
   refine calls_abs (fun W => Ext ws W) ((Ext.refl _).alloc _) ?_
   rintro wt hxt
   have hwr : SlR 1 16 RStr ws (.slice Aw pn.length cw) pn := SlR.of_own encStr_ok HOS.out (by have := HW2.out; omega) (fun x hx => HE5.out.mem encStr_ok ws x hx)
   refine (eqStrs_any (.slice An pn.length cn) (.slice Aw pn.length cw) pn wt (HE5.out.ext RStr.stays (XS.out.trans hxt)) (hwr.ext RStr.stays hxt)).mono ?_
   rintro e wu ⟨rfl, hxu⟩
   have XU := Lib.hid (XS.out.trans (hxt.trans hxu))
   clear hxt hwr hxu
   go_wp2_with fail
   go_ret
   exact ⟨rfl, (X1.out.trans (X2.out.trans (X3.out.trans X4.out))).trans XU.out⟩
end Go.Proofs.YtgjijcgkmofaaaaGreatDoor
