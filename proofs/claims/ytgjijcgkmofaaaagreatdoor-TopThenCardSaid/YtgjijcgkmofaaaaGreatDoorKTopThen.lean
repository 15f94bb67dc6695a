/-
  TopThen: when all was scrubbed it may happen to another device, and all files are there still. Conditions: the arguments read as lists of raw numbers and numbers; the table of powers of ten that the library reads is in place.
-/
import Derived.Test.YtgjijcgkmofaaaaGreatDoorQ26
namespace Go.Proofs.YtgjijcgkmofaaaaGreatDoor
set_option linter.unusedSimpArgs false
set_option linter.unusedVariables false
open Go.RowKit
set_option maxRecDepth 100000 in
set_option maxHeartbeats 8000000 in
theorem lawTopThen_any (v1 : Value) (l : List Raw4) (v2 : Value) (hs : List Raw4) (d : Int) (v3 : Value) (hs' : List Raw4) (d' : Int) (w : World) (h1 : SlR 4 32 RRaw w v1 l) (h2 : SlR 4 32 RRaw w v2 hs) (hd : I64 d) (h3 : SlR 4 32 RRaw w v3 hs') (hd2 : I64 d') (ht : Tab w) :
  Calls Tryz.prog 4 #[v1, v2, .int .i64 d, v3, .int .i64 d'] w fun e w' => e = .returned (.bool true) ∧ Ext w w' := by
 have H1 := Lib.hid h1
 have H2 := Lib.hid h2
 have HD := Lib.hid hd
 have HT := Lib.hid ht
 have H3 := Lib.hid h3
 have HD2 := Lib.hid hd2
 obtain ⟨k, hk, hk3⟩ := picked_nat d
 obtain ⟨j, hj, hj3⟩ := picked_nat d'
 have HK := Lib.hid (And.intro hk hk3)
 have HJ := Lib.hid (And.intro hj hj3)
 have hkI : (k : Int) < 3 := by omega
 have hjI : (j : Int) < 3 := by omega
 clear h1 h2 h3 hd hd2 ht hk hk3 hj hj3
 go_enter Tryz.func4, Tryz.ntmps4
 go_wp2_with fail
 refine (adds_any v1 l 8 w H1.out (by decide) (by decide) HT.out).mono ?_
 rintro e w1 ⟨A, c, A', c', La, Ls, rfl, hw, hle⟩
 have HA := Lib.hid (hw.acts (by have := hw.la; omega))
 have HG := Lib.hid hw.g
 have HE := Lib.hid hw.e
 have HFI := Lib.hid (hw.files (by omega))
 have X1 := Lib.hid hw.x
 have hla := hw.la
 obtain ⟨n, hn⟩ : ∃ n, n = Ls.flatten.length := ⟨_, rfl⟩
 rw [← hn] at HFI hle hla ⊢
 have HN := Lib.hid (And.intro hn (And.intro hle hla))
 have hgl := HG.out.len
 have HGL := Lib.hid hgl
 clear hw hle hn hla hgl
 go_wp2_with fail
 refine calls_abs (fun W => Ext w1 W ∧ Blk_ W w1.heap.size 39 #[.int .i64 7, .slice none 0 0, .string .empty, .int .i64 0, .int .i64 48, .int .i64 0, .int .i64 0]) ⟨(Ext.refl _).alloc _, Blk_.new _ _ _⟩ ?_
 rintro w2 ⟨hx, hb⟩
 obtain ⟨gs, hg⟩ : ∃ z, z = w1.heap.size := ⟨_, rfl⟩
 rw [← hg] at hb ⊢
 have X2 := Lib.hid hx
 have HRgs := Lib.hid (lits_read [scrubAct 48] hb (by simp) (by
  intro x hx
  simp only [List.mem_cons, List.not_mem_nil, or_false] at hx
  subst hx 
  (refine ⟨rfl, Nat.zero_le _, ?_⟩; unfold I64; refine ⟨?_, ?_, ?_, ?_, ?_⟩ <;> first | decide | (simp only [scrubAct]; omega))))
 clear hx hb hg
 refine (picked1_any d 3 w2 HD.out (by decide) (by decide)).mono ?_
 rintro e wz ⟨rfl, hw⟩
 obtain rfl := hw.symm
 rw [HK.out.1]
 go_wp2_with fail
 refine (hurts_any v2 hs k 48 60 w2 (H2.out.ext RRaw.stays (X1.out.trans X2.out)) HK.out.2 (by decide) (by decide) (by decide)).mono ?_
 rintro e w3 ⟨B1, b1, L1, rfl, hx, ho, hok, hnd, hL⟩
 have X3 := Lib.hid hx
 have HO1 := Lib.hid (And.intro hok (And.intro hnd hL))
 have HR1 := Lib.hid (hurts_read ho HK.out.2 (by split <;> decide) hok (by omega))
 clear hx ho hok hnd hL
 go_wp2_with fail
 refine (picked1_any d' 3 w3 HD2.out (by decide) (by decide)).mono ?_
 rintro e wz ⟨rfl, hw⟩
 obtain rfl := hw.symm
 rw [HJ.out.1]
 go_wp2_with fail
 refine (hurts_any v3 hs' j 48 60 w3 (H3.out.ext RRaw.stays (X1.out.trans (X2.out.trans X3.out))) HJ.out.2 (by decide) (by decide) (by decide)).mono ?_
 rintro e w4 ⟨B2, b2, L2, rfl, hx, ho, hok, hnd, hL⟩
 have X4 := Lib.hid hx
 have HO2 := Lib.hid (And.intro hok (And.intro hnd hL))
 have HR2 := Lib.hid (hurts_read ho HJ.out.2 (by split <;> decide) hok (by omega))
 clear hx ho hok hnd hL
 go_wp2_with fail
 have hgt := gets_any A' c' Ls.flatten w4 (by rw [← HN.out.1]; exact HFI.out.ext RFil.stays (X2.out.trans (X3.out.trans X4.out))) (by have := HN.out; omega)
 rw [← HN.out.1] at hgt
 refine hgt.mono ?_
 clear hgt
 rintro e w5 ⟨B3, b3, rfl, hx, ho⟩
 have X5 := Lib.hid hx
 have HR3 := Lib.hid (gets_read (own_len HN.out.1 (by rw [HN.out.1] at ho ⊢; exact ho)) (fun f hf => by
  obtain ⟨i, hi, rfl⟩ := List.getElem_of_mem hf
  rw [(groups_rise0 HG.out i hi).1]; show (2 : Nat) ≤ _; decide) (by have := HN.out; omega))
 clear hx ho
 go_wp2_with fail
 have HT1 := Lib.hid (top_then (m := 48) ⟨by decide, by decide, by decide⟩ HK.out.2 HJ.out.2 HG.out (by have := HN.out; omega) HO1.out.1 HO1.out.2.1 HO2.out.1 HO2.out.2.1)
 refine calls_abs (fun W => Ext w5 W ∧ Blk_ W w5.heap.size 23 #[.slice A La.length c, .slice B1 L1.length b1, .slice (some ⟨gs, 0, none⟩) 1 1, .slice B2 L2.length b2, .slice B3 n b3]) ⟨(Ext.refl _).alloc _, Blk_.new _ _ _⟩ ?_
 rintro w6 ⟨hx, hb⟩
 obtain ⟨g6, hg⟩ : ∃ z, z = w5.heap.size := ⟨_, rfl⟩
 rw [← hg] at hb ⊢
 have X6 := Lib.hid hx
 have hlen : (Ls.map addAct ++ (L1.map hurtAct ++ ([scrubAct 48] ++ (L2.map hurtAct ++ Ls.flatten.map getAct)))).length ≤ 200 := by simp only [List.length_append, List.length_map, List.length_cons, List.length_nil]; have := HN.out; have := HGL.out; have := HO1.out.2.2; have := HO2.out.2.2; omega
 have hrun := run2_any g6 23 [.slice A La.length c, .slice B1 L1.length b1, .slice (some ⟨gs, 0, none⟩) 1 1, .slice B2 L2.length b2, .slice B3 n b3] [La, L1.map hurtV, [scrubAct 48].map litV, L2.map hurtV, Ls.flatten.map getV] (Ls.map addAct ++ (L1.map hurtAct ++ ([scrubAct 48] ++ (L2.map hurtAct ++ Ls.flatten.map getAct)))) w6 hb
  ⟨HA.out.ext (X2.out.trans (X3.out.trans (X4.out.trans (X5.out.trans X6.out)))), HR1.out.ext (X4.out.trans (X5.out.trans X6.out)), HRgs.out.ext (X3.out.trans (X4.out.trans (X5.out.trans X6.out))), HR2.out.ext (X5.out.trans X6.out), by rw [HN.out.1]; exact HR3.out.ext X6.out, trivial⟩
  (by simp only [List.flatten_cons, List.flatten_nil, List.append_nil, List.map_append, HE.out, map_hurtV, map_getV, List.map_cons, List.map_nil, List.append_assoc, litV_a, List.cons_append, List.nil_append, map_litV])
  hlen (by simp) HT1.out.1
 have hml := runS_length 48 (Ls.map addAct ++ (L1.map hurtAct ++ ([scrubAct 48] ++ (L2.map hurtAct ++ Ls.flatten.map getAct)))) (sh0 48)
 obtain ⟨ac, hac⟩ : ∃ z, z = Ls.map addAct ++ (L1.map hurtAct ++ ([scrubAct 48] ++ (L2.map hurtAct ++ Ls.flatten.map getAct))) := ⟨_, rfl⟩
 rw [← hac] at hrun hlen hml HT1
 refine hrun.mono ?_
 rintro e w7 ⟨D1, d1, D2, d2, rfl, hx, hs5, hr5⟩
 have X7 := Lib.hid hx
 have HRS := Lib.hid hs5
 have HRA := Lib.hid hr5
 have HRL := Lib.hid (And.intro hlen hml)
 have hrI : (ac.length : Int) ≤ 200 := by omega
 have HRC := Lib.hid hac
 clear hrun hx hs5 hr5 hb hg hlen hml hac
 go_wp2_with fail
 refine calls_abs (fun W => Ext w7 W) ((Ext.refl _).alloc _) ?_
 rintro w8 hx
 have X8 := Lib.hid hx
 clear hx
 have htl := told_any (.slice D1 ac.length d1) (.slice A La.length c) (runS 48 ac (sh0 48)).1 La Ls A' c' w8 (HRS.out.ext RAns.stays X8.out) (HA.out.ext (X2.out.trans (X3.out.trans (X4.out.trans (X5.out.trans (X6.out.trans (X7.out.trans X8.out))))))) HE.out HT1.out.2 (by have := HRL.out; omega)
 rw [← HN.out.1] at htl
 refine htl.mono ?_
 rintro e w9 ⟨rfl, hx⟩
 have X9 := Lib.hid hx
 clear htl hx
 go_wp2_with fail
 go_ret
 exact ⟨rfl, (X1.out.trans (X2.out.trans (X3.out.trans (X4.out.trans (X5.out.trans (X6.out.trans (X7.out.trans (X8.out.trans X9.out))))))))⟩
end Go.Proofs.YtgjijcgkmofaaaaGreatDoor
