/-
  TopHealth: where no sector is gone all files are there, whatever happened to two devices. Conditions: the arguments read as lists of raw numbers and numbers; the table of powers of ten that the library reads is in place.
-/
import Derived.Test.YtgjijcgkmofaaaaGreatDoorQ26
namespace Go.Proofs.YtgjijcgkmofaaaaGreatDoor
set_option linter.unusedSimpArgs false
set_option linter.unusedVariables false
open Go.RowKit
set_option maxRecDepth 100000 in
set_option maxHeartbeats 8000000 in
theorem lawTopHealth_any (v1 : Value) (l : List Raw4) (v2 : Value) (hs : List Raw4) (d : Int) (w : World) (h1 : SlR 4 32 RRaw w v1 l) (h2 : SlR 4 32 RRaw w v2 hs) (hd : I64 d) (ht : Tab w) :
  Calls Tryz.prog 5 #[v1, v2, .int .i64 d] w fun e w' => e = .returned (.bool true) ∧ Ext w w' := by
 have H1 := Lib.hid h1
 have H2 := Lib.hid h2
 have HD := Lib.hid hd
 have HT := Lib.hid ht
 clear h1 h2 hd ht
 go_enter Tryz.func5, Tryz.ntmps5
 go_wp2_with fail
 refine (adds_any v1 l 8 w H1.out (by decide) (by decide) HT.out).mono ?_
 rintro e w1 ⟨A, c, A', c', La, Ls, rfl, hw, hle⟩
 have HA := Lib.hid (hw.acts (by have := hw.la; omega))
 have HG := Lib.hid hw.g
 have HE := Lib.hid hw.e
 have HFI := Lib.hid (hw.files (by omega))
 have X1 := Lib.hid hw.x
 have hla := hw.la
 obtain ⟨n, hn⟩ : ∃ n, n = Ls.flatten.length := ⟨_, rfl⟩
 rw [← hn] at HFI hle hla ⊢
 have HN := Lib.hid (And.intro hn (And.intro hle hla))
 have hgl := HG.out.len
 have HGL := Lib.hid hgl
 clear hw hle hn hla hgl
 go_wp2_with fail
 refine (both2_any v2 hs d 20 w1 (H2.out.ext RRaw.stays X1.out) HD.out (by decide)).mono ?_
 rintro e w2 ⟨B1, b1, k, j, L1, L2, rfl, hx, hr, hk3, hj3, hjk, hm1, hm2, hok1, hnd1, hok2, hnd2⟩
 have X2 := Lib.hid hx
 have HR1 := Lib.hid hr
 have HK := Lib.hid (And.intro hk3 (And.intro hj3 hjk))
 have HO1 := Lib.hid (And.intro hok1 (And.intro hnd1 (And.intro hok2 hnd2)))
 obtain ⟨nb, hnb⟩ : ∃ z, z = (L1 ++ L2).length := ⟨_, rfl⟩
 rw [← hnb] at HR1 ⊢
 have HB := Lib.hid (And.intro hnb (show nb ≤ 40 by rw [hnb, List.length_append]; omega))
 clear hx hr hk3 hj3 hjk hm1 hm2 hok1 hnd1 hok2 hnd2 hnb
 go_wp2_with fail
 refine calls_abs (fun W => Ext w2 W ∧ Blk_ W w2.heap.size 39 #[.int .i64 8, .slice none 0 0, .string .empty, .int .i64 0, .int .i64 0, .int .i64 0, .int .i64 0]) ⟨(Ext.refl _).alloc _, Blk_.new _ _ _⟩ ?_
 rintro w3 ⟨hx, hb⟩
 obtain ⟨gs, hg⟩ : ∃ z, z = w2.heap.size := ⟨_, rfl⟩
 rw [← hg] at hb ⊢
 have X3 := Lib.hid hx
 have HRgs := Lib.hid (lits_read [healthAct] hb (by simp) (by
  intro x hx
  simp only [List.mem_cons, List.not_mem_nil, or_false] at hx
  subst hx 
  (refine ⟨rfl, Nat.zero_le _, ?_⟩; unfold I64; refine ⟨?_, ?_, ?_, ?_, ?_⟩ <;> first | decide | (simp only [healthAct]; omega))))
 clear hx hb hg
 have hgt := gets_any A' c' Ls.flatten w3 (by rw [← HN.out.1]; exact HFI.out.ext RFil.stays (X2.out.trans X3.out)) (by have := HN.out; omega)
 rw [← HN.out.1] at hgt
 refine hgt.mono ?_
 clear hgt
 rintro e w4 ⟨B3, b3, rfl, hx, ho⟩
 have X4 := Lib.hid hx
 have HR3 := Lib.hid (gets_read (own_len HN.out.1 (by rw [HN.out.1] at ho ⊢; exact ho)) (fun f hf => by
  obtain ⟨i, hi, rfl⟩ := List.getElem_of_mem hf
  rw [(groups_rise0 HG.out i hi).1]; show (2 : Nat) ≤ _; decide) (by have := HN.out; omega))
 clear hx ho
 go_wp2_with fail
 have htp := top_health (m := 48) ⟨by decide, by decide, by decide⟩ HK.out.1 HK.out.2.1 HK.out.2.2 HG.out (by have := HN.out; omega) HO1.out.1 HO1.out.2.1 HO1.out.2.2.1 HO1.out.2.2.2
 have hat : Ls.length + (L1 ++ L2).length = La.length + nb := by have := congrArg List.length HE.out; rw [List.length_map, List.length_map] at this; rw [this, HB.out.1]
 rw [hat] at htp
 clear hat
 refine calls_abs (fun W => Ext w4 W ∧ Blk_ W w4.heap.size 23 #[.slice A La.length c, .slice B1 nb b1, .slice (some ⟨gs, 0, none⟩) 1 1, .slice B3 n b3]) ⟨(Ext.refl _).alloc _, Blk_.new _ _ _⟩ ?_
 rintro w5 ⟨hx, hb⟩
 obtain ⟨g5, hg⟩ : ∃ z, z = w4.heap.size := ⟨_, rfl⟩
 rw [← hg] at hb ⊢
 have X5 := Lib.hid hx
 have hlen : (Ls.map addAct ++ ((L1 ++ L2).map hurtAct ++ ([healthAct] ++ Ls.flatten.map getAct))).length ≤ 200 := by simp only [List.length_append, List.length_map, List.length_cons, List.length_nil]; have := HN.out; have := HGL.out; have := HB.out; rw [List.length_append] at this; omega
 have hrun := run2_any g5 23 [.slice A La.length c, .slice B1 nb b1, .slice (some ⟨gs, 0, none⟩) 1 1, .slice B3 n b3] [La, (L1 ++ L2).map hurtV, [healthAct].map litV, Ls.flatten.map getV] (Ls.map addAct ++ ((L1 ++ L2).map hurtAct ++ ([healthAct] ++ Ls.flatten.map getAct))) w5 hb
  ⟨HA.out.ext (X2.out.trans (X3.out.trans (X4.out.trans X5.out))), HR1.out.ext (X3.out.trans (X4.out.trans X5.out)), HRgs.out.ext (X4.out.trans X5.out), by rw [HN.out.1]; exact HR3.out.ext X5.out, trivial⟩
  (by simp only [List.flatten_cons, List.flatten_nil, List.append_nil, List.map_append, HE.out, map_hurtV, map_getV, List.map_cons, List.map_nil, List.append_assoc, litV_a, List.cons_append, List.nil_append, map_litV])
  hlen (by simp) htp.1
 have hml := runS_length 48 (Ls.map addAct ++ ((L1 ++ L2).map hurtAct ++ ([healthAct] ++ Ls.flatten.map getAct))) (sh0 48)
 have hal : (Ls.map addAct ++ ((L1 ++ L2).map hurtAct ++ ([healthAct] ++ Ls.flatten.map getAct))).length = La.length + nb + 1 + n := by simp only [List.length_append, List.length_map, List.length_cons, List.length_nil]; have h0 := congrArg List.length HE.out; rw [List.length_map, List.length_map] at h0; have h1 := HB.out.1; rw [List.length_append] at h1; have := HN.out.1; omega
 obtain ⟨ac, hac⟩ : ∃ z, z = Ls.map addAct ++ ((L1 ++ L2).map hurtAct ++ ([healthAct] ++ Ls.flatten.map getAct)) := ⟨_, rfl⟩
 rw [← hac] at hrun hlen hml htp hal
 refine hrun.mono ?_
 rintro e w6 ⟨D1, d1, D2, d2, rfl, hx, hs5, hr5⟩
 have X6 := Lib.hid hx
 have HRS := Lib.hid hs5
 have HRA := Lib.hid hr5
 have HRL := Lib.hid (And.intro hlen hml)
 have hrI : (ac.length : Int) ≤ 200 := by omega
 have HRC := Lib.hid hac
 clear hrun hx hs5 hr5 hb hg hlen hml hac
 obtain ⟨_, hh, hat2, hc0, htold⟩ := htp
 obtain ⟨q, hq⟩ : ∃ q, q = La.length + nb := ⟨_, rfl⟩
 rw [← hq] at hat2 hal
 have hqn : q < (runS 48 ac (sh0 48)).1.length := by have := HRL.out.2; omega
 have hrr := HRS.out
 rw [show ac.length = (runS 48 ac (sh0 48)).1.length from HRL.out.2.symm] at hrr
 obtain ⟨bD, oD, vn, vg, hD, e0, e1, e2, e3, e4, e5, e6⟩ := ans_cells hrr q hqn
 have hx : (runS 48 ac (sh0 48)).1[q] = hh := by rw [List.getElem?_eq_getElem hqn] at hat2; exact Option.some.inj hat2
 rw [hx] at e0 e1 e3 e5 e6
 have hidx : (ac.length : Int) - (n : Int) - 1 = (q : Int) := by omega
 have hnI : (n : Int) ≤ 8 := by have := HN.out; omega
 have hqI : (q : Int) < (ac.length : Int) := by omega
 obtain ⟨pc, pd, pn, pk, pg⟩ := hh
 dsimp only at hc0 htold e0 e1 e3 e5 e6
 subst hc0
 obtain ⟨Ag, cg, rfl, _⟩ := e6.row
 obtain ⟨An, cn, rfl, _⟩ := e5.row
 subst hD
 have hgI : (pg.length : Int) ≤ 17592186044416 := by have := e6.len; omega
 have hbD := cell_lt e0
 clear hat2 hx hq hal hqn hrr e5
 by_cases hpg : pg = []
 ·subst hpg
  have HTO := Lib.hid (htold rfl)
  clear e6 htold
  go_wp2_with fail
  refine calls_abs (fun W => Ext w6 W) (((Ext.refl _).alloc _).alloc _) ?_
  rintro w7 hx
  have htl := told_any (.slice (some ⟨bD, oD, none⟩) ac.length d1) (.slice A La.length c) (runS 48 ac (sh0 48)).1 La Ls A' c' w7 (HRS.out.ext RAns.stays hx) (HA.out.ext ((X2.out.trans (X3.out.trans (X4.out.trans (X5.out.trans X6.out)))).trans hx)) HE.out HTO.out (by have := HRL.out; omega)
  rw [← HN.out.1] at htl
  refine htl.mono ?_
  rintro e w8 ⟨rfl, hx'⟩
  have X7 := Lib.hid (hx.trans hx')
  clear htl hx hx'
  go_wp2_with fail
  go_ret
  exact ⟨rfl, (X1.out.trans (X2.out.trans (X3.out.trans (X4.out.trans (X5.out.trans X6.out))))).trans X7.out⟩
 ·obtain ⟨np, hnp⟩ : ∃ z, z = pg.length := ⟨_, rfl⟩
  have hpl : (0 : Int) < (np : Int) := by have := List.length_pos_iff.2 hpg; omega
  rw [← hnp] at e4 hgI
  clear e6 hpg htold hnp
  go_wp2_with fail
  go_ret
  exact ⟨rfl, ((X1.out.trans (X2.out.trans (X3.out.trans (X4.out.trans (X5.out.trans X6.out))))).alloc _).alloc _⟩
end Go.Proofs.YtgjijcgkmofaaaaGreatDoor
