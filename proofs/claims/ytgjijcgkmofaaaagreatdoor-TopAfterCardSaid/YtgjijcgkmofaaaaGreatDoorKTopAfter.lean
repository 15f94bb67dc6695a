/-
  TopAfter: files that are added while a device is hurt are there, and those ahead of them, too. Conditions: the arguments read as lists of raw numbers and numbers; the table of powers of ten that the library reads is in place.
-/
import Derived.Test.YtgjijcgkmofaaaaGreatDoorKAfter
import Derived.Test.YtgjijcgkmofaaaaGreatDoorQ26
import Derived.Test.YtgjijcgkmofaaaaGreatDoorKSame
namespace Go.Proofs.YtgjijcgkmofaaaaGreatDoor
set_option linter.unusedSimpArgs false
set_option linter.unusedVariables false
open Go.RowKit
set_option maxRecDepth 100000 in
set_option maxHeartbeats 8000000 in
theorem lawTopAfter_any (v1 : Value) (l : List Raw4) (v2 : Value) (hs : List Raw4) (d : Int) (w : World) (h1 : SlR 4 32 RRaw w v1 l) (h2 : SlR 4 32 RRaw w v2 hs) (hd : I64 d) (ht : Tab w) :
  Calls Tryz.prog 8 #[v1, v2, .int .i64 d] w fun e w' => e = .returned (.bool true) ∧ Ext w w' := by
 have H1 := Lib.hid h1
 have H2 := Lib.hid h2
 have HD := Lib.hid hd
 have HT := Lib.hid ht
 obtain ⟨k, hk, hk3⟩ := picked_nat d
 have HK := Lib.hid (And.intro hk hk3)
 have hkI : (k : Int) < 3 := by omega
 clear h1 h2 hd ht hk hk3
 go_enter Tryz.func8, Tryz.ntmps8
 go_wp2_with fail
 refine (adds_any v1 l 8 w H1.out (by decide) (by decide) HT.out).mono ?_
 rintro e w1 ⟨A, c, A', c', La, Ls, rfl, hw, hle⟩
 have HA := Lib.hid (hw.acts (by have := hw.la; omega))
 have HG := Lib.hid hw.g
 have HE := Lib.hid hw.e
 have HFI := Lib.hid (hw.files (by omega))
 have X1 := Lib.hid hw.x
 have hla := hw.la
 obtain ⟨n, hn⟩ : ∃ n, n = Ls.flatten.length := ⟨_, rfl⟩
 rw [← hn] at HFI hle hla ⊢
 have HN := Lib.hid (And.intro hn (And.intro hle hla))
 have hgl := HG.out.len
 have HGL := Lib.hid hgl
 clear hw hle hn hla hgl
 go_wp2_with fail
 refine (picked1_any d 3 w1 HD.out (by decide) (by decide)).mono ?_
 rintro e wz ⟨rfl, hw⟩
 obtain rfl := hw.symm
 rw [HK.out.1]
 go_wp2_with fail
 refine (hurts_any v2 hs k 48 40 w1 (H2.out.ext RRaw.stays X1.out) HK.out.2 (by decide) (by decide) (by decide)).mono ?_
 rintro e w2 ⟨B1, b1, L1, rfl, hx, ho, hok, hnd, hL⟩
 have X2 := Lib.hid hx
 have HO1 := Lib.hid (And.intro hok (And.intro hnd hL))
 have HR1 := Lib.hid (hurts_read ho HK.out.2 (by split <;> decide) hok (by omega))
 clear hx ho hok hnd hL
 obtain ⟨i1, hi0, hz0, hz1, hz2⟩ := info_parts info_act
 have HIA := Lib.hid (And.intro hi0 (And.intro hz0 (And.intro hz1 hz2)))
 obtain ⟨i2, hj0, hy0, hy1, hy2⟩ := info_parts info_int8
 have HII := Lib.hid (And.intro hj0 (And.intro hy0 (And.intro hy1 hy2)))
 obtain ⟨A0, a0, hA0, _, _, pa⟩ := HA.out.1.rowE encActV_ok
 injection hA0 with hA1 _ hA2
 subst hA1 hA2
 have HPA := Lib.hid pa
 have hLL : La.length = Ls.length := by have h := congrArg List.length HE.out; rw [List.length_map, List.length_map] at h; exact h
 have HLL := Lib.hid hLL
 have hbc : L1.length ≤ b1 := by obtain ⟨x1, x2, e, _, h, _⟩ := HR1.out.1; injection e with _ _ e2; rw [List.length_map] at h; omega
 have HBC := Lib.hid hbc
 have hlaI : (La.length : Int) ≤ 8 := by have := HN.out; omega
 have hl1I : (L1.length : Int) ≤ 40 := by have := HO1.out.2.2; omega
 clear hi0 hz0 hz1 hz2 hj0 hy0 hy1 hy2 pa hLL hbc
 go_wp2_with fail
 go_loopw [11, 12, 35] (fun av tv iv wr => ∃ (i : Nat) (Ac : Option Addr) (cc : Nat) (LA : List ActV) (At : Option Addr) (ct : Nat) (ps : List Int), av = .slice Ac LA.length cc ∧ tv = .slice At ps.length ct ∧ iv = .int .i64 (i : Int) ∧ i ≤ La.length ∧ LA.map (·.a) = weave L1 Ls i ∧ ps = posL L1 Ls i ∧ TwoRows w1 w2 wr (.slice Ac LA.length cc) (.slice At ps.length ct) LA ps) (fun _ _ iv _ => La.length - (intOf iv).toNat)
 case atStart => exact ⟨0, none, 0, [], none, 0, [], rfl, rfl, rfl, Nat.zero_le _, rfl, rfl, ⟨Ext.refl _, World.ownsRow_nil _ _ _ _, World.ownsRow_nil _ _ _ _, (fun g hg => by cases hg), (fun y hy => by cases hy)⟩⟩
 case round =>
  obtain ⟨i, Ac, cc, LA, At, ct, ps, rfl, rfl, rfl, hi, hmap, hps, hT⟩ := hrel
  have HT2 := Lib.hid hT
  have HMP := Lib.hid (And.intro hmap hps)
  clear hmap hps hT
  by_cases hlt : i < La.length
  ·have hltI : (i : Int) < (La.length : Int) := by omega
   have hiL : i < Ls.length := by have := HLL.out; omega
   obtain ⟨b, o, hAe, hc⟩ := HPA.out i hlt
   obtain ⟨G, hG⟩ : ∃ G, G = Ls[i] := ⟨_, rfl⟩
   have hfe : La[i].a = addAct Ls[i] := by
    have h1 : (La.map (·.a))[i]'(by simpa using hlt) = (Ls.map addAct)[i]'(by simpa using hiL) := by simp only [HE.out]
    rw [List.getElem_map, List.getElem_map] at h1
    exact h1
   have hY : ∃ Ya Yc, La[i] = ⟨addAct G, Ya, Yc⟩ := ⟨La[i].A, La[i].c, by rw [hG, ← hfe]⟩
   obtain ⟨Ya, Yc, hY⟩ := hY
   have hf0 := HA.out.2 La[i] (List.getElem_mem hlt)
   have hr0 := HA.out.1.mem encActV_ok w1 La[i] (List.getElem_mem hlt)
   rw [hY] at hf0 hr0
   have HY := Lib.hid (And.intro hf0 hr0)
   have hcc : ∀ (j : Nat) (u : Value), (encActV ⟨addAct G, Ya, Yc⟩)[j]? = some u → wr.cell? ⟨b, o + i * 7 + j, none⟩ = some u := fun j u hu => (X2.out.trans HT2.out.x).cell (hc i hlt j u (by rw [hY]; exact hu))
   have r0 := hcc 0 (.int .i64 1) rfl
   have r1 := hcc 1 (.slice Ya G.length Yc) rfl
   have r2 := hcc 2 (.string .empty) rfl
   have r3 := hcc 3 (.int .i64 0) rfl
   have r4 := hcc 4 (.int .i64 0) rfl
   have r5 := hcc 5 (.int .i64 0) rfl
   have r6 := hcc 6 (.int .i64 0) rfl
   simp only [Nat.add_zero] at r0
   obtain ⟨p1, hp1⟩ : ∃ z, z = i * L1.length := ⟨_, rfl⟩
   obtain ⟨p2, hp2⟩ : ∃ z, z = (i + 1) * L1.length := ⟨_, rfl⟩
   obtain ⟨f1, hf1⟩ : ∃ z, z = cutAt i L1.length Ls.length := ⟨_, rfl⟩
   obtain ⟨f2, hf2⟩ : ∃ z, z = cutAt (i + 1) L1.length Ls.length := ⟨_, rfl⟩
   have hff : f1 ≤ f2 := by rw [hf1, hf2]; exact cutAt_mono (Nat.le_add_right i 1)
   have hfl : f2 ≤ L1.length := by rw [hf2]; exact cutAt_le hiL (by omega)
   have hm1 : (i : Int) * (L1.length : Int) = (p1 : Int) := by rw [hp1, Int.natCast_mul]
   have hm2 : ((i : Int) + 1) * (L1.length : Int) = (p2 : Int) := by rw [hp2, Int.natCast_mul]; rfl
   have hd1 : (p1 : Int) / (La.length : Int) = (f1 : Int) := by rw [hf1, hp1, HLL.out]; unfold cutAt; rw [Int.natCast_ediv]
   have hd2 : (p2 : Int) / (La.length : Int) = (f2 : Int) := by rw [hf2, hp2, HLL.out]; unfold cutAt; rw [Int.natCast_ediv]
   have hpb1 : p1 ≤ 320 := by rw [hp1]; exact Nat.le_trans (Nat.mul_le_mul (show i ≤ 8 by omega) (show L1.length ≤ 40 by omega)) (by decide)
   have hpb2 : p2 ≤ 320 := by rw [hp2]; exact Nat.le_trans (Nat.mul_le_mul (show i + 1 ≤ 8 by omega) (show L1.length ≤ 40 by omega)) (by decide)
   have hpi1 : (p1 : Int) ≤ 320 := by omega
   have hpi2 : (p2 : Int) ≤ 320 := by omega
   have hla0 : ¬ (La.length : Int) = 0 := by omega
   have hla1 : ¬ (La.length : Int) = -1 := by omega
   have hla2 : (0 : Int) < (La.length : Int) := by omega
   obtain ⟨LB, hLB⟩ : ∃ z, z = (bit L1 Ls.length i).map hurtV := ⟨_, rfl⟩
   obtain ⟨mb, hmb⟩ : ∃ z, z = f2 - f1 := ⟨_, rfl⟩
   have hbl : (bit L1 Ls.length i).length = mb := by rw [bit_len hiL, hmb, hf1, hf2]
   have hlbl : LB.length = mb := by rw [hLB, List.length_map]; exact hbl
   obtain ⟨A5, hA5⟩ : ∃ A5, (if b1 = f1 then B1 else B1.map (·.add (f1 * 7))) = A5 := ⟨_, rfl⟩
   obtain ⟨c5, hc5⟩ : ∃ c5, b1 - f1 = c5 := ⟨_, rfl⟩
   have hsd := HR1.out.1.drop' f1 (by rw [List.length_map]; omega) (by rw [List.length_map])
   rw [hA5, hc5] at hsd
   have hdl : ((L1.map hurtV).drop f1).length = L1.length - f1 := by rw [List.length_drop, List.length_map]
   have hst : SlR 7 80 RActV w2 (.slice A5 mb c5) LB := by
    have h := SlR.take (l := (L1.map hurtV).drop f1) (by rw [hdl]; exact hsd) mb (by rw [hdl]; omega)
    have e : ((L1.map hurtV).drop f1).take mb = LB := by rw [hLB, hmb, hf1, hf2]; unfold bit; rw [List.map_take, List.map_drop]
    rw [e] at h; exact h
   have HST := Lib.hid hst
   have HC5 := Lib.hid (And.intro hA5 hc5)
   have hLBf : ∀ y ∈ LB, SlR 2 32 RFil w1 y.f y.a.files ∧ RActV w1 (encActV y) y := by
    intro y hy
    refine ⟨?_, encActV_ok.w _ _ _ _ (hst.mem encActV_ok w1 y hy)⟩
    rw [hLB] at hy
    obtain ⟨x, hx, rfl⟩ := List.mem_map.1 hy
    exact ⟨none, 0, rfl, Nat.zero_le _, Nat.zero_le _, .inl rfl⟩
   have HLB := Lib.hid hLBf
   have hwl : LA.length = f1 + i := by have h := congrArg List.length HMP.out.1; rw [List.length_map, weave_len i (by omega)] at h; rw [h, hf1]
   have HSZ := Lib.hid (show LA.length ≤ 48 ∧ mb ≤ 40 ∧ LB.length = mb ∧ LB = (bit L1 Ls.length i).map hurtV ∧ (bit L1 Ls.length i).length = mb from ⟨by omega, by omega, hlbl, hLB, hbl⟩)
   have hpl : ps.length = i := by rw [HMP.out.2, posL_len]
   have HPL := Lib.hid (And.intro hpl (And.intro hlt hiL))
   have hmf : f2 - f1 = mb := hmb.symm
   have hbN : f2 ≤ b1 := by have := HBC.out; omega
   have HG1 := Lib.hid (show Ls.getD i [] = G by rw [hG]; simp [List.getD, hiL])
   have hax := hAe
   subst hax
   clear hc hcc hfe hY hf0 hr0 hp1 hp2 hf1 hf2 hpb1 hpb2 hLB hmb hbl hlbl hA5 hc5 hsd hdl hst hLBf hwl hpl hG hlt hiL hi
   go_wp2_with (first | (refine wpList_slice_both _ rfl (.tmp 56) (.tmp 57) (.tmp 58) 23 rfl 7 39 i1 Tryz.underlying23 HIA.out.1 HIA.out.2.2.1 B1 L1.length b1 f1 f2 rfl rfl rfl hff hbN A5 mb c5 HC5.out.1 hmf HC5.out.2 ?_) | (at_builtin; refine wpList_append_onto _ encActV_ok (by decide) rfl (.tmp 55) (.tmp 59) 23 rfl w2.heap.size 39 i1 (.agg #[.int .i64 0, .slice none 0 0, .string .empty, .int .i64 0, .int .i64 0, .int .i64 0, .int .i64 0]) Tryz.underlying23 HIA.out.1 HIA.out.2.1 HIA.out.2.2.1 HIA.out.2.2.2 rfl (.slice Ac LA.length cc) LA.length _ rfl (own_ext HT2.out.a ((Ext.refl _).alloc _)) (.slice A5 mb c5) LB rfl (HST.out.ext RActV.stays (HT2.out.x.alloc _)) ?c1 ?c2 ?c3 ?_))
   case c1 => have := HSZ.out; unfold maxLen; omega
   case c2 => have := HSZ.out; omega
   case c3 => have := HT2.out.x.size; omega
   intro A6 c6 w6 own6 hg6 hV6
   have hT6 := (HT2.out.up ((Ext.refl _).alloc _)).pushA (va' := .slice A6 (LA.length + LB.length) c6) hg6 (by rw [World.size_alloc]; exact hV6) own6 HLB.out
   have hbx6 := (Blk_.new wr 39 #[.int .i64 1, .slice Ya G.length Yc, .string .empty, .int .i64 0, .int .i64 0, .int .i64 0, .int .i64 0]).grown hg6 (fun g hg => by have := (HT2.out.a.lt g hg).2; omega)
   obtain ⟨n6, hn6⟩ : ∃ z, z = LA.length + LB.length := ⟨_, rfl⟩
   rw [← hn6] at hT6 ⊢
   have HT6 := Lib.hid hT6
   have HBX := Lib.hid hbx6
   have HN6 := Lib.hid hn6
   have hn6I : (n6 : Int) ≤ 100 := by have := HSZ.out; omega
   clear own6 hg6 hV6 hT6 hbx6 hn6 r0 r1 r2 r3 r4 r5 r6
   go_wp2_with (at_builtin; refine wpList_append_at _ rfl (.tmp 61) (.tmp 64) 44 rfl w2.heap.size 3 i2 (.int .i64 0) 1 8 Tryz.underlying44 HII.out.1 HII.out.2.1 HII.out.2.2.1 HII.out.2.2.2 rfl (by decide) (.slice At ps.length ct) ps.length _ rfl (own_ext HT6.out.t ((Ext.refl _).alloc _)) ⟨w6.heap.size, 0, none⟩ 1 1 [.int .i64 (n6 : Int)] rfl rfl ?d1 ?d2 ?d3 ?d4 ?d5 ?_)
   case d1 =>
    intro j u hu
    rw [Addr.add_lit, Nat.zero_add, (Blk_.new w6 3 _).cell, List.getElem?_toArray]
    exact hu
   case d2 =>
    intro u hu
    obtain rfl := List.mem_singleton.1 hu
    rfl
   case d3 => have := HPL.out; unfold maxLen; omega
   case d4 => have := HPL.out; omega
   case d5 => have := HT6.out.x.size; first | omega | (rw [World.size_alloc]; omega)
   intro A7 c7 w7 own7 hg7 hV7
   have hT7 := (HT6.out.up ((Ext.refl _).alloc _)).pushT (vt' := .slice A7 (ps.length + 1) c7) (L := [(n6 : Int)]) hg7 (by rw [World.size_alloc]; exact hV7) own7
   have hbx7 := (HBX.out.ext ((Ext.refl _).alloc _)).grown hg7 (fun g hg => by have h2 := (HT2.out.t.lt g hg).2; omega)
   have HT7 := Lib.hid hT7
   have u0 := hbx7.cell 0
   have u1 := hbx7.cell 1
   have u2 := hbx7.cell 2
   have u3 := hbx7.cell 3
   have u4 := hbx7.cell 4
   have u5 := hbx7.cell 5
   have u6 := hbx7.cell 6
   simp at u0 u1 u2 u3 u4 u5 u6
   clear own7 hg7 hV7 hT7 hbx7
   go_wp2_with (at_builtin; refine wpList_append_at _ rfl (.tmp 66) (.tmp 68) 23 rfl w2.heap.size 39 i1 (.agg #[.int .i64 0, .slice none 0 0, .string .empty, .int .i64 0, .int .i64 0, .int .i64 0, .int .i64 0]) 7 80 Tryz.underlying23 HIA.out.1 HIA.out.2.1 HIA.out.2.2.1 HIA.out.2.2.2 rfl (by decide) (.slice A6 n6 c6) n6 _ rfl (own_len (by rw [List.length_append]; exact HN6.out.symm) (own_ext HT7.out.a ((Ext.refl _).alloc _))) ⟨w7.heap.size, 0, none⟩ 1 1 [.int .i64 1, .slice Ya G.length Yc, .string .empty, .int .i64 0, .int .i64 0, .int .i64 0, .int .i64 0] rfl rfl ?e1 ?e2 ?e3 ?e4 ?e5 ?_)
   case e1 =>
    intro j u hu
    rw [Addr.add_lit, Nat.zero_add, (Blk_.new w7 39 _).cell, List.getElem?_toArray]
    exact hu
   case e2 =>
    intro u hu
    simp only [List.mem_cons, List.not_mem_nil, or_false] at hu
    rcases hu with rfl | rfl | rfl | rfl | rfl | rfl | rfl <;> rfl
   case e3 => unfold maxLen; omega
   case e4 => omega
   case e5 => have := HT7.out.x.size; first | omega | (rw [World.size_alloc]; omega)
   intro A8 c8 w8 own8 hg8 hV8
   have hT8 := (HT7.out.up ((Ext.refl _).alloc _)).pushA (va' := .slice A8 (n6 + 1) c8) (L := [⟨addAct G, Ya, Yc⟩]) hg8 (by rw [World.size_alloc]; exact hV8) (by rw [List.length_append, ← HN6.out]; simp only [List.flatMap_append, List.flatMap_cons, List.flatMap_nil, List.append_nil, List.append_assoc, encActV] at own8 ⊢; exact own8) (fun y hy => by obtain rfl := List.mem_singleton.1 hy; exact HY.out)
   have HT8 := Lib.hid hT8
   clear own8 hg8 hV8 hT8 u0 u1 u2 u3 u4 u5 u6
   go_wp2_with fail
   go_roundw
   case rel =>
    refine ⟨i + 1, A8, c8, LA ++ LB ++ [⟨addAct G, Ya, Yc⟩], A7, c7, ps ++ [(n6 : Int)], ?_, ?_, by first | rfl | go_num, HPL.out.2.1, ?_, ?_, ?_⟩
    ·rw [List.length_append, List.length_append, ← HN6.out]; rfl
    ·rw [List.length_append]; rfl
    ·show _ = weave L1 Ls i ++ ((bit L1 Ls.length i).map hurtAct ++ [addAct (Ls.getD i [])])
     rw [List.map_append, List.map_append, HMP.out.1, HSZ.out.2.2.2.1, map_hurtV, HG1.out, List.append_assoc]
     rfl
    ·show _ = posL L1 Ls i ++ [(((weave L1 Ls i).length + (bit L1 Ls.length i).length : Nat) : Int)]
     rw [HMP.out.2, HN6.out, HSZ.out.2.2.1, HSZ.out.2.2.2.2, ← HMP.out.1, List.length_map]
    ·have h := HT8.out
     rw [List.length_append, List.length_append, List.length_append, ← HN6.out]
     exact h
   case measure => have := HPL.out.2.1; (simp [intOf]; try omega)
  ·have hltI : (La.length : Int) ≤ (i : Int) := by omega
   have hie' : i = Ls.length := by have := HLL.out; omega
   clear hlt hi
   go_wp2_with fail
   subst hie'
   have hw48 : LA.length ≤ 48 := by
    have h := congrArg List.length HMP.out.1
    rw [List.length_map, weave_len _ (Nat.le_refl _)] at h
    have h2 : cutAt Ls.length L1.length Ls.length ≤ L1.length := by
     by_cases h0 : Ls.length = 0
     ·rw [h0]; unfold cutAt; simp
     ·exact cutAt_le (Nat.le_refl _) (by omega)
    have := HLL.out
    omega
   have hLr : ActsR wr (.slice Ac LA.length cc) LA := ⟨SlR.of_own (bytes := 80) encActV_ok HT2.out.a (by omega) (fun y hy => encActV_ok.w _ _ _ _ (HT2.out.f y hy).2), fun y hy => (HT2.out.f y hy).1.ext RFil.stays (X2.out.trans HT2.out.x)⟩
   have HLr := Lib.hid hLr
   have HW48 := Lib.hid hw48
   clear hw48 hLr
   have hgt := gets_any A' c' Ls.flatten wr (by rw [← HN.out.1]; exact HFI.out.ext RFil.stays (X2.out.trans HT2.out.x)) (by have := HN.out; omega)
   rw [← HN.out.1] at hgt
   refine hgt.mono ?_
   clear hgt
   rintro e w3 ⟨B3, b3, rfl, hx, ho⟩
   have X3 := Lib.hid hx
   have HR3 := Lib.hid (gets_read (own_len HN.out.1 (by rw [HN.out.1] at ho ⊢; exact ho)) (fun f hf => by
    obtain ⟨i, hi, rfl⟩ := List.getElem_of_mem hf
    rw [(groups_rise0 HG.out i hi).1]; show (2 : Nat) ≤ _; decide) (by have := HN.out; omega))
   clear hx ho
   go_wp2_with fail
   have htp := top_after (m := 48) ⟨by decide, by decide, by decide⟩ HK.out.2 HG.out (by have := HN.out; omega) HO1.out.1 HO1.out.2.1
   refine calls_abs (fun W => Ext w3 W ∧ Blk_ W w3.heap.size 23 #[.slice Ac LA.length cc, .slice B3 n b3]) ⟨(Ext.refl _).alloc _, Blk_.new _ _ _⟩ ?_
   rintro w4 ⟨hx, hb⟩
   obtain ⟨g4, hg⟩ : ∃ z, z = w3.heap.size := ⟨_, rfl⟩
   rw [← hg] at hb ⊢
   have X4 := Lib.hid hx
   have hal : (weave L1 Ls Ls.length ++ Ls.flatten.map getAct).length = LA.length + n := by rw [List.length_append, List.length_map, ← HMP.out.1, List.length_map, HN.out.1]
   have hlen : (weave L1 Ls Ls.length ++ Ls.flatten.map getAct).length ≤ 200 := by rw [hal]; have := HW48.out; have := HN.out; omega
   have hrun := run2_any g4 23 [.slice Ac LA.length cc, .slice B3 n b3] [LA, Ls.flatten.map getV] (weave L1 Ls Ls.length ++ Ls.flatten.map getAct) w4 hb
    ⟨HLr.out.ext (X3.out.trans X4.out), by rw [HN.out.1]; exact HR3.out.ext X4.out, trivial⟩
    (by simp only [List.flatten_cons, List.flatten_nil, List.append_nil, List.map_append, HMP.out.1, map_getV])
    hlen (by simp) htp.1
   have hml := runS_length 48 (weave L1 Ls Ls.length ++ Ls.flatten.map getAct) (sh0 48)
   obtain ⟨ac, hac⟩ : ∃ z, z = weave L1 Ls Ls.length ++ Ls.flatten.map getAct := ⟨_, rfl⟩
   rw [← hac] at hrun hlen hml htp hal
   refine hrun.mono ?_
   rintro e w5 ⟨D1, d1, D2, d2, rfl, hx, hs5, hr5⟩
   have X5 := Lib.hid hx
   obtain ⟨LW, hLa, hLW, hLH⟩ := ansW_of hs5
   have hnl : LW.length = ac.length := by rw [← hml, ← hLa, List.length_map]
   have HLA := Lib.hid (And.intro hLa (And.intro hLW hLH))
   have HAC := Lib.hid (And.intro hac (And.intro hal (And.intro hml hnl)))
   have hrI : (ac.length : Int) ≤ 200 := by omega
   have HTP := Lib.hid htp.2
   obtain ⟨iA, hk0, hx0, hx1, hx2⟩ := info_parts info_answer
   have HIN := Lib.hid (And.intro hk0 (And.intro hx0 (And.intro hx1 hx2)))
   clear hrun hx hs5 hr5 hb hg hlen hml hac hal htp hLa hLW hLH hnl hk0 hx0 hx1 hx2
   go_wp2_with fail
   have hpos : ∀ j (hj : j < ps.length), ∃ p : Nat, ps[j] = (p : Int) ∧ p < ac.length ∧ ∃ a, (runS 48 ac (sh0 48)).1[p]? = some a ∧ firsts 48 L1 Ls (j + 1) = firsts 48 L1 Ls j ++ [a] := by
    intro j hj
    have hj' : j < Ls.length := by have h := congrArg List.length HMP.out.2; rw [posL_len] at h; omega
    have h1 := posL_at L1 Ls Ls.length j hj'
    obtain ⟨a, h2, h3⟩ := firsts_at 48 L1 Ls hj' (Ls.flatten.map getAct)
    rw [← HMP.out.2, List.getElem?_eq_getElem hj] at h1
    rw [← HAC.out.1] at h2
    refine ⟨_, Option.some.inj h1, ?_, a, h2, h3⟩
    have := (List.getElem?_eq_some_iff.1 h2).1
    rw [HAC.out.2.2.1] at this
    exact this
   have hpl8 : ps.length ≤ 8 := by have h := congrArg List.length HMP.out.2; rw [posL_len] at h; have := HLL.out; omega
   have hats : SlR 1 8 RInt wr (.slice At ps.length ct) ps := SlR.of_own encInt_ok HT2.out.t (by omega) (fun x hx => by
    obtain ⟨j, hj, rfl⟩ := List.getElem_of_mem hx
    obtain ⟨p, hp, hp2, _⟩ := hpos j hj
    rw [hp]
    exact ⟨rfl, by unfold I64; omega⟩)
   obtain ⟨A0, a0, hA0, _, _, pt⟩ := hats.rowE encInt_ok
   injection hA0 with hA1 _ hA2
   subst hA1 hA2
   have HPT := Lib.hid pt
   have HPS := Lib.hid hpos
   obtain ⟨A0, a0, hA0, _, _, px⟩ := HLA.out.2.1.rowE encAnsW_ok
   injection hA0 with hA1 hA3 hA2
   subst hA1 hA2
   clear hA3
   have HPX := Lib.hid px
   have hplI : (ps.length : Int) ≤ 8 := by omega
   clear hpos hats pt px hpl8
   have X35 := Lib.hid (X3.out.trans (X4.out.trans X5.out))
   go_loopw [20, 84] (fun fv iv ws => ∃ (j : Nat) (Af : Option Addr) (cf : Nat) (FL : List AnsW), fv = .slice Af FL.length cf ∧ iv = .int .i64 (j : Int) ∧ j ≤ ps.length ∧ FL.map (·.a) = firsts 48 L1 Ls j ∧ Ext w5 ws ∧ ws.ownsRow w5.heap.size 46 5 (.slice Af FL.length cf) FL.length (FL.flatMap encAnsW) ∧ (∀ y ∈ FL, AnsH w5 y)) (fun _ iv _ => ps.length - (intOf iv).toNat)
   case atStart => exact ⟨0, none, 0, [], rfl, rfl, Nat.zero_le _, rfl, (Ext.refl _).alloc _, World.ownsRow_nil _ _ _ _, (fun y hy => by cases hy)⟩
   case round =>
    obtain ⟨j, Af, cf, FL, rfl, rfl, hj, hfm, hx, hown, hfh⟩ := hrel
    have HX := Lib.hid hx
    have HOW := Lib.hid hown
    have HFH := Lib.hid (And.intro hfm hfh)
    have hfl : FL.length = j := by have h := congrArg List.length hfm; rw [List.length_map, firsts_len] at h; exact h
    have HFL := Lib.hid hfl
    clear hfm hx hown hfh hfl
    by_cases hlt : j < ps.length
    ·have hltI : (j : Int) < (ps.length : Int) := by omega
     obtain ⟨p, hp, hpl, z, hz, hzf⟩ := HPS.out j hlt
     obtain ⟨bt, ot, hAt, hct⟩ := HPT.out j hlt
     have rt : wr.cell? ⟨bt, ot + j, none⟩ = some (.int .i64 (p : Int)) := by
      have h := (X35.out.trans HX.out).cell (hct j hlt 0 (.int .i64 (p : Int)) (by rw [hp]; rfl))
      simpa using h
     have hpW : p < LW.length := by have := HAC.out.2.2.2; omega
     obtain ⟨bx, ox, hAx, hcx⟩ := HPX.out p hpW
     have hza : z = LW[p].a := by rw [← HLA.out.1, List.getElem?_map, List.getElem?_eq_getElem hpW] at hz; exact (Option.some.inj hz).symm
     have hYH := HLA.out.2.2 LW[p] (List.getElem_mem hpW)
     have hcc : ∀ (q : Nat) (u : Value), (encAnsW LW[p])[q]? = some u → wr.cell? ⟨bx, ox + p * 5 + q, none⟩ = some u := fun q u hu => HX.out.cell (hcx p hpW q u hu)
     obtain ⟨Y, hY⟩ : ∃ Y, Y = LW[p] := ⟨_, rfl⟩
     rw [← hY] at hza hYH hcc
     obtain ⟨⟨yc, yd, yn, yk, yg⟩, YN, Ye, YG, Yf⟩ := Y
     have r0 := hcc 0 (.int .i64 yc) rfl
     have r1 := hcc 1 (.string yd) rfl
     have r2 := hcc 2 (.slice YN yn.length Ye) rfl
     have r3 := hcc 3 (.int .i64 yk) rfl
     have r4 := hcc 4 (.slice YG yg.length Yf) rfl
     simp only [Nat.add_zero] at r0
     have HZ := Lib.hid (And.intro hzf (And.intro hza hYH))
     have hpI : (p : Int) < (ac.length : Int) := by omega
     have hat2 := hAt
     have hax2 := hAx
     subst hat2 hax2
     obtain ⟨ln, hln⟩ : ∃ q, q = yn.length := ⟨_, rfl⟩
     obtain ⟨lg, hlg⟩ : ∃ q, q = yg.length := ⟨_, rfl⟩
     rw [← hln] at r2
     rw [← hlg] at r4
     have HLN := Lib.hid (And.intro hln (And.intro hlg hlt))
     clear hp hpl hz hzf hct hpW hcx hza hYH hcc hY hln hlg hj hlt hAt hAx
     go_wp2_with (at_builtin; refine wpList_append_at _ rfl (.tmp 88) (.tmp 93) 27 rfl w5.heap.size 46 iA (.agg #[.int .i64 0, .string .empty, .slice none 0 0, .int .i64 0, .slice none 0 0]) 5 80 Tryz.underlying27 HIN.out.1 HIN.out.2.1 HIN.out.2.2.1 HIN.out.2.2.2 rfl (by decide) (.slice Af FL.length cf) FL.length _ rfl (own_ext HOW.out ((Ext.refl _).alloc _)) ⟨wr.heap.size, 0, none⟩ 1 1 [.int .i64 yc, .string yd, .slice YN ln Ye, .int .i64 yk, .slice YG lg Yf] rfl rfl ?m1 ?m2 ?m3 ?m4 ?m5 ?_)
     case m2 => first | exact ⟨rfl, rfl, rfl, rfl, rfl⟩ | (intro u hu; simp only [List.mem_cons, List.not_mem_nil, or_false] at hu; rcases hu with rfl | rfl | rfl | rfl | rfl <;> rfl)
     case m3 => have := HFL.out; unfold maxLen; omega
     case m4 => have := HFL.out; omega
     case m5 => have := HX.out.size; first | omega | (rw [World.size_alloc]; omega)
     intro A8 c8 w8 own8 hg8 hV8
     have hx8 : Ext w5 w8 := (HX.out.alloc _).grown hg8 (fun g hg => (HOW.out.lt g hg).1)
     have HX8 := Lib.hid hx8
     have HO8 := Lib.hid own8
     clear own8 hg8 hV8 hx8 r0 r1 r2 r3 r4 rt
     go_wp2_with fail
     go_roundw
     case rel =>
      refine ⟨j + 1, A8, c8, FL ++ [⟨⟨yc, yd, yn, yk, yg⟩, YN, Ye, YG, Yf⟩], by rw [List.length_append]; rfl, by first | rfl | go_num, HLN.out.2.2, ?_, HX8.out, ?_, ?_⟩
      ·rw [List.map_append, HFH.out.1, HZ.out.1, HZ.out.2.1]; rfl
      ·have h := HO8.out
       rw [HLN.out.1, HLN.out.2.1] at h
       rw [List.length_append, List.flatMap_append]; exact h
      ·intro y hy
       rcases List.mem_append.1 hy with hy | hy
       ·exact HFH.out.2 y hy
       ·obtain rfl := List.mem_singleton.1 hy
        exact HZ.out.2.2
     case measure => have := HLN.out.2.2; (simp [intOf]; try omega)
    ·have hltI : (ps.length : Int) ≤ (j : Int) := by omega
     have hjl : j = Ls.length := by have h := congrArg List.length HMP.out.2; rw [posL_len] at h; omega
     clear hlt hj
     subst hjl
     obtain ⟨pl, hpl⟩ : ∃ z, z = LA.length := ⟨_, rfl⟩
     have hpI : (ac.length : Int) - (n : Int) = (pl : Int) := by have := HAC.out.2.1; omega
     have hpN : pl ≤ ac.length := by have := HAC.out.2.1; omega
     have hpn : ac.length - pl = n := by have := HAC.out.2.1; omega
     have hng1 : (n : Int) ≤ (ac.length : Int) := by have := HAC.out.2.1; omega
     obtain ⟨A5, hA5⟩ : ∃ A5, (if d1 = pl then D1 else D1.map (·.add (pl * 5))) = A5 := ⟨_, rfl⟩
     obtain ⟨c5, hc5⟩ : ∃ c5, d1 - pl = c5 := ⟨_, rfl⟩
     have hsd := HLA.out.2.1.drop' pl (by have := HAC.out.2.2.2; omega) HAC.out.2.2.2.symm
     rw [hA5, hc5, hpn] at hsd
     obtain ⟨LD, hLD⟩ : ∃ z, z = LW.drop pl := ⟨_, rfl⟩
     rw [← hLD] at hsd
     have hdl : LD.length = n := by rw [hLD, List.length_drop, HAC.out.2.2.2]; exact hpn
     have HSD := Lib.hid hsd
     have HC5 := Lib.hid (And.intro hA5 hc5)
     have HDL := Lib.hid (And.intro hdl (And.intro hpl hLD))
     have hnI : (n : Int) ≤ 10 := by have := HN.out; omega
     clear hsd hdl hA5 hc5 hpl hLD
     go_wp2_with (first | (refine wpList_slice_from _ rfl _ _ 27 rfl 5 46 iA Tryz.underlying27 HIN.out.1 HIN.out.2.2.1 D1 ac.length d1 pl rfl (by first | rfl | (rw [← hpI]; rfl)) hpN A5 c5 HC5.out.1 HC5.out.2 ?_) | (at_builtin; refine wpList_append_onto _ encAnsW_ok (by decide) rfl (.tmp 96) (.tmp 103) 27 rfl w5.heap.size 46 iA (.agg #[.int .i64 0, .string .empty, .slice none 0 0, .int .i64 0, .slice none 0 0]) Tryz.underlying27 HIN.out.1 HIN.out.2.1 HIN.out.2.2.1 HIN.out.2.2.2 rfl (.slice Af FL.length cf) FL.length _ rfl HOW.out (.slice A5 n c5) LD (by first | rfl | (rw [← hpn]; rfl)) (HSD.out.ext RAnsW.stays HX.out) ?c1 ?c2 ?c3 ?_))
     case c1 => have := HDL.out.1; have := HFL.out; have := HLL.out; unfold maxLen; omega
     case c2 => have := HDL.out.1; have := HFL.out; have := HLL.out; omega
     case c3 => exact HX.out.size
     intro A9 c9 w9 own9 hg9 hV9
     have hx9 : Ext w5 w9 := HX.out.grown hg9 (fun g hg => (HOW.out.lt g hg).1)
     obtain ⟨LT, hLT⟩ : ∃ z, z = FL ++ LD := ⟨_, rfl⟩
     have hlt2 : FL.length + LD.length = LT.length := by rw [hLT, List.length_append]
     rw [← List.flatMap_append, ← hLT] at own9
     rw [hlt2] at own9 ⊢
     have hl50 : LT.length ≤ 50 := by have := HDL.out.1; have := HFL.out; have := HLL.out; omega
     have hrd := ansW_read (SlR.of_own (bytes := 80) (R := RAnsW) encAnsW_ok own9 (by omega) (fun y hy => rfl)) (fun y hy => by
      rw [hLT] at hy
      rcases List.mem_append.1 hy with hy | hy
      ·exact (HFH.out.2 y hy).ext hx9
      ·exact (HLA.out.2.2 y (List.mem_of_mem_drop (by rw [← HDL.out.2.2]; exact hy))).ext hx9)
     obtain ⟨y, hy1, hy2, hy3⟩ := HTP.out
     have hma : LT.map (·.a) = firsts 48 L1 Ls Ls.length ++ y := by
      rw [hLT, List.map_append, HFH.out.1, HDL.out.2.2, List.map_drop, HLA.out.1, hy1, List.drop_left' (by rw [runS_length, ← HMP.out.1, List.length_map]; exact HDL.out.2.1.symm)]
     have hl9 : (firsts 48 L1 Ls Ls.length ++ y).length ≤ 1000 := by rw [← hma, List.length_map]; omega
     rw [hma] at hrd
     have HRD := Lib.hid (And.intro hrd (And.intro hy3 hl9))
     have HX9 := Lib.hid hx9
     have hl9I : (LT.length : Int) ≤ 50 := by omega
     clear own9 hg9 hV9 hx9 hLT hlt2 hl50 hrd hy1 hy2 hy3 hma hl9
     go_wp2_with fail
     have htl := told_any (.slice A9 LT.length c9) (.slice A La.length c) (firsts 48 L1 Ls Ls.length ++ y) La Ls A' c' w9 HRD.out.1 (HA.out.ext (((X2.out.trans HT2.out.x).trans X35.out).trans HX9.out)) HE.out HRD.out.2.1 HRD.out.2.2
     rw [← HN.out.1] at htl
     refine htl.mono ?_
     rintro e w10 ⟨rfl, hx'⟩
     have X10 := Lib.hid hx'
     clear htl hx'
     go_wp2_with fail
     go_ret
     exact ⟨rfl, X1.out.trans (((X2.out.trans HT2.out.x).trans X35.out).trans (HX9.out.trans X10.out))⟩
end Go.Proofs.YtgjijcgkmofaaaaGreatDoor
