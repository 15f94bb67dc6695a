/-
  ArraysStand: whatever happens to one device, all sectors are told; and where they come from. Conditions: both lists read as lists of raw numbers; the table of powers of ten that the library reads is in place.
-/
import Derived.Test.YtokpjgpdkmimgaaDoorKHurts
import Derived.Test.YtokpjgpdkmimgaaDoorJ12
namespace Go.Proofs.YtokpjgpdkmimgaaDoor
set_option linter.unusedSimpArgs false
set_option linter.unusedVariables false
open Go.RowKit

theorem own_acts {w : World} {b : Nat} {t : TypeId} {A : Option Addr} {c : Nat} {L : List HA} (h : w.ownsRow b t 7 (.slice A L.length c) L.length (L.flatMap encHA)) :
    ∀ (k : Nat) (_ : k < L.length), ∃ b o, A = some ⟨b, o, none⟩ ∧ ∀ (i : Nat) (hi : i < L.length) (j : Nat) (u : Value), (encHA L[i])[j]? = some u → w.cell? ⟨b, o + i * 7 + j, none⟩ = some u := by
  intro k hk
  have h' := h
  rcases h.2 with ⟨_, h0⟩ | ⟨g, cap, cur, hv, _⟩
  · omega
  · injection hv with a1 a2 a3
    subst a1
    refine ⟨g, 0, rfl, fun i hi j u hu => ?_⟩
    have hj : j < 7 := (List.getElem?_eq_some_iff.1 hu).1
    have hc := h'.cellAt (i * 7 + j) (by omega)
    rw [Nat.zero_add, hc, flatMap_at (enc := encHA) (C := 7) (fun _ => rfl) L i j hi hj]
    exact hu
theorem acts_fine {k m : Nat} {L : List HA} (hk : k < 3) (hm : m ≤ 64) (h : ∀ x ∈ L, ActOk k (if k = 2 then m / 2 else m) x) : ∀ x ∈ L, x.d < 3 ∧ (x.kind = 4 ∨ x.kind = 5 ∨ x.kind = 6) ∧ I64 x.n ∧ I64 x.at_ ∧ I64 x.by_ := by
  intro x hx
  obtain ⟨h1, h2, h3, h4, h5, h6, h7, h8⟩ := h x hx
  have : (if k = 2 then m / 2 else m) ≤ 64 := by split <;> omega
  exact ⟨by omega, h2, by unfold I64; omega, by unfold I64; omega, by unfold I64; omega⟩
set_option maxRecDepth 100000 in
theorem keepSectors_any (n : Int) (w : World) (hn : I64 n) :
    Calls Tryd.prog 35 #[.int .i64 n] w fun e w' => ∃ m : Nat, e = .returned (.int .i64 (m : Int)) ∧ w' = w ∧ 24 ≤ m ∧ m ≤ 62 ∧ m % 2 = 0 := by
  have HN := Lib.hid hn
  clear hn
  go_enter Tryd.func35, Tryd.ntmps35
  go_wp2_with fail
  refine (picked_any n 20 w HN.out (by omega) (by omega)).mono ?_
  rintro e w1 ⟨rfl, hw⟩
  obtain rfl := hw.symm
  have hpr := pick_range n 20 (by decide)
  obtain ⟨p, hp⟩ := Int.eq_ofNat_of_zero_le hpr.1
  rw [hp] at hpr ⊢
  obtain ⟨p2, hp2⟩ : ∃ p2 : Nat, p2 = 2 * p := ⟨_, rfl⟩
  obtain ⟨m, hm⟩ : ∃ m : Nat, m = 24 + p2 := ⟨_, rfl⟩
  have y1 : (2 : Int) * (p : Int) = (p2 : Int) := by omega
  have y2 : (24 : Int) + (p2 : Int) = (m : Int) := by omega
  have b1 : (p : Int) < 20 := hpr.2
  have b2 : (p2 : Int) < 40 := by omega
  have b3 : (m : Int) ≤ 62 := by omega
  have HM := Lib.hid (show 24 ≤ m ∧ m ≤ 62 ∧ m % 2 = 0 by omega)
  clear hpr hp hp2 hm
  go_wp2_with fail
  go_ret
  exact ⟨m, rfl, rfl, HM.out⟩
set_option maxRecDepth 100000 in
set_option maxHeartbeats 8000000 in
theorem lawArraysStand_any (v : Value) (l : List Raw4) (d0 : Int) (v2 : Value) (hl : List Raw4) (many : Int) (w : World) (h : SlR 4 32 RRaw w v l) (hd : I64 d0) (h2 : SlR 4 32 RRaw w v2 hl) (hm : I64 many) (ht : Tab w) :
    Calls Tryd.prog 9 #[v, .int .i64 d0, v2, .int .i64 many] w fun e w' => e = .returned (.bool true) ∧ Ext w w' := by
  have HI := Lib.hid (And.intro hd hm)
  have HT := Lib.hid ht
  have HH := Lib.hid h
  have HV := Lib.hid h2
  clear hd hm ht h h2
  go_enter Tryd.func9, Tryd.ntmps9
  go_wp2_with fail
  refine (keepSectors_any many w HI.out.2).mono ?_
  rintro e wz ⟨m, rfl, hw, hm1, hm2, hm3⟩
  obtain rfl := hw.symm
  have HM := Lib.hid (show 24 ≤ m ∧ m ≤ 62 ∧ m % 2 = 0 from ⟨hm1, hm2, hm3⟩)
  have hmI : (m : Int) ≤ 62 := by omega
  clear hm1 hm2 hm3
  go_wp2_with fail
  refine (filled_any v l m w HH.out (by have := HM.out; omega) (by have := HM.out; omega) HM.out.2.2 HT.out).mono ?_
  rintro e w1 ⟨A, c, g, a, all, rfl, hx1, hg1, hs1, hr1, hf1⟩
  have HX1 := Lib.hid hx1
  have HS1 := Lib.hid hs1
  have HR1 := Lib.hid hr1
  have HF := Lib.hid hf1
  clear hx1 hg1 hs1 hr1 hf1
  go_wp2_with fail
  refine calls_abs (fun W => Ext w1 W ∧ Blk_ W w1.heap.size 40 #[.slice A 3 c]) ⟨(Ext.refl _).alloc _, Blk_.new _ _ _⟩ ?_
  rintro w2 ⟨hx2, hb2⟩
  obtain ⟨b10, h10⟩ : ∃ b, b = w1.heap.size := ⟨_, rfl⟩
  rw [← h10] at hb2 ⊢
  have HX2 := Lib.hid (HX1.out.trans hx2)
  have HS2 := Lib.hid (HS1.out.ext hx2)
  have HR10 := Lib.hid (HR1.out.up hx2)
  have HB10 := Lib.hid hb2
  have HV2 := Lib.hid (HV.out.ext RRaw.stays (HX1.out.trans hx2))
  clear hx2 hb2 h10 HX1 HS1 HR1
  refine (picked_any d0 3 w2 HI.out.1 (by omega) (by omega)).mono ?_
  rintro e w3 ⟨rfl, hw⟩
  obtain rfl := hw.symm
  have hpr := pick_range d0 3 (by decide)
  obtain ⟨k, hk⟩ := Int.eq_ofNat_of_zero_le hpr.1
  rw [hk] at hpr ⊢
  have hk3 : (k : Int) < 3 := hpr.2
  have HK := Lib.hid (show k < 3 by omega)
  clear hpr hk
  go_wp2_with fail
  obtain ⟨N0, hN0⟩ : ∃ N, N = w2.heap.size := ⟨_, rfl⟩
  have HN0 := Lib.hid hN0
  clear hN0
  refine wp_region_valsA 99 none (F := ?_) ?_ [(fun (v : Value) (_ : World) => v = .agg #[.slice A 3 c]), (fun (v : Value) (_ : World) => v = v2), (fun (v : Value) (_ : World) => v = .int .i64 (k : Int)), (fun (v : Value) (_ : World) => v = .int .i64 (m : Int)), (fun v u => ∃ b A' c' L, v = .slice A' L.length c' ∧ u.ownsRow b 76 7 (.slice A' L.length c') L.length (L.flatMap encHA) ∧ (∀ x ∈ L, ActOk k (if k = 2 then m / 2 else m) x) ∧ (turned L).Nodup ∧ L.length ≤ 1000), (fun v u => ∃ A' c' L, v = .agg #[.slice A' 3 c'] ∧ RArr u [.slice A' 3 c'] (hurtAll a L) ∧ (∀ x ∈ L, ActOk k (if k = 2 then m / 2 else m) x) ∧ (turned L).Nodup ∧ L.length ≤ 1000), (fun v u => ∃ g, v = .pointer (some ⟨g, 0, none⟩) ∧ Blk_ u g 40 #[.slice none 0 0] ∧ N0 ≤ g)] (by kernel_rfl) rfl (by kernel_rfl) rfl (by kernel_rfl) ?_ ?_ ?_
  rotate_left
  · intro vals
    simp only [putAll, List.dropLast, Act.put, List.setIfInBounds_toArray, List.set_cons_zero, List.set_cons_succ, Nat.zero_add, Nat.reduceAdd]
    rfl
  · intro j p hp v u u' h hr
    match j, hp with
    | 0, hp => obtain rfl := Option.some.inj hp; exact h
    | 1, hp => obtain rfl := Option.some.inj hp; exact h
    | 2, hp => obtain rfl := Option.some.inj hp; exact h
    | 3, hp => obtain rfl := Option.some.inj hp; exact h
    | 4, hp => obtain rfl := Option.some.inj hp; rw [if_neg (by decide)] at hr; exact (by obtain ⟨b, A', c', L, hg, ho, hp⟩ := h; exact ⟨b, A', c', L, hg, own_ext ho ((Ext.refl _).grown hr (fun q hq => by cases hq)), hp⟩)
    | 5, hp => obtain rfl := Option.some.inj hp; rw [if_neg (by decide)] at hr; exact (by obtain ⟨A', c', L, hg, hb, hp⟩ := h; exact ⟨A', c', L, hg, hb.up ((Ext.refl _).grown hr (fun q hq => by cases hq)), hp⟩)
    | 6, hp => obtain rfl := Option.some.inj hp; rw [if_neg (by decide)] at hr; exact (by obtain ⟨g, hg, hb, hn⟩ := h; exact ⟨g, hg, hb.grown hr (fun q hq => by cases hq), hn⟩)
    | n + 7, hp => exact absurd hp (by simp)
  · refine ⟨?_, ?_, ?_, ?_, ?_, ?_, ?_, trivial⟩
    · intro vals W' e hd ho K hK
      have hx : World.grownBy _ W' none := e
      have cc := (HB10.out.drew.grown hx (fun q hq => by cases hq)).cell 0
      simp at cc
      refine st_quiet (v := ?_) ?_ ?_
      rotate_left
      · go_simp
        rfl
      exact hK _ _ _ rfl rfl (Ext.refl _)
    · intro vals W' e hd ho K hK
      have hx : World.grownBy _ W' none := e
      refine st_quiet (v := ?_) ?_ ?_
      rotate_left
      · go_simp
        rfl
      exact hK _ _ _ rfl (by first | exact rfl | exact congrArg (Value.int _) (by first | (rw [IntKind.wrap_i64]; omega) | (rw [IntKind.wrap_u8]; omega) | omega)) (Ext.refl _)
    · intro vals W' e hd ho K hK
      have hx : World.grownBy _ W' none := e
      refine st_quiet (v := ?_) ?_ ?_
      rotate_left
      · go_simp
        rfl
      exact hK _ _ _ rfl (by first | exact rfl | exact congrArg (Value.int _) (by first | (rw [IntKind.wrap_i64]; omega) | (rw [IntKind.wrap_u8]; omega) | omega)) (Ext.refl _)
    · intro vals W' e hd ho K hK
      have hx : World.grownBy _ W' none := e
      refine st_quiet (v := ?_) ?_ ?_
      rotate_left
      · go_simp
        rfl
      exact hK _ _ _ rfl (by first | exact rfl | exact congrArg (Value.int _) (by first | (rw [IntKind.wrap_i64]; omega) | (rw [IntKind.wrap_u8]; omega) | omega)) (Ext.refl _)
    · intro vals W' e hd ho K hK
      have h1 : vals 1 = v2 := hd 1 (by kernel_rfl)
      have h2 : vals 2 = .int .i64 (k : Int) := hd 2 (by kernel_rfl)
      have h3 : vals 3 = .int .i64 (m : Int) := hd 3 (by kernel_rfl)
      have hx : World.grownBy _ W' none := e
      go_wp2_with fail
      refine (hurts_any v2 hl k m 40 W' (HV2.out.ext RRaw.stays ((Ext.refl _).drew.trans ((Ext.refl _).grown hx (fun q hq => by cases hq)))) HK.out (by have := HM.out; omega) (by have := HM.out; omega) (by decide)).mono ?_
      rintro e' u' ⟨A', c', L, rfl, hx', ho', hp', hq', hz'⟩
      exact hK _ _ _ (by first | rfl | (simp only [h1, h2, h3]; rfl)) ⟨_, A', c', L, rfl, ho', hp', hq', hz'⟩ hx'
    · intro vals W' e hd ho K hK
      have h0 : vals 0 = .agg #[.slice A 3 c] := hd 0 (by kernel_rfl)
      obtain ⟨b4, A4, c4, L, h4, o4, p4, q4, z4⟩ := hd 4 (by kernel_rfl)
      have hx : World.grownBy _ W' none := e
      go_wp2_with fail
      refine (hurtGen_any A c a m A4 c4 L W' (HR10.out.up ((Ext.refl _).drew.trans ((Ext.refl _).grown hx (fun q hq => by cases hq)))) HF.out.good (own_acts o4) (by have := HM.out; omega) (by have := HM.out; omega) (by have := HM.out; omega) (acts_fine HK.out (by have := HM.out; omega) p4) (by omega)).mono ?_
      rintro e' u' ⟨A', c', rfl, hx', hr'⟩
      exact hK _ _ _ (by first | rfl | (simp only [h0, h4]; rfl)) ⟨A', c', L, rfl, hr', p4, q4, z4⟩ hx'
    · intro vals W' e hd ho K hK
      have hx : World.grownBy _ W' none := e
      go_wp2_with fail
      exact hK _ _ _ rfl ⟨W'.heap.size, rfl, Blk_.new _ _ _, by have := hx.size; rw [HN0.out]; exact this⟩ ((Ext.refl W').alloc _)
  intro vals W' e hall K hK
  obtain ⟨A14, c14, L, h5, r5, p5, q5, z5⟩ := hall 5 (by decide)
  obtain ⟨g14, h6, b6, n6⟩ := hall 6 (by decide)
  have hxx : Ext w2 W' := (Ext.refl _).drew.trans ((Ext.refl _).grown e (fun q hq => by cases hq))
  have m0 := b6.cell 0
  have z0 := b6.frozen 0
  simp at m0
  have hgn : w2.heap.size ≤ g14 := by rw [← HN0.out]; exact n6
  have hRX := r5.box b6 (.slice A14 3 c14)
  have hBX := b6.set 0 (.slice A14 3 c14)
  have hXX := hxx.setCell (p := ⟨g14, 0, none⟩) hgn (.slice A14 3 c14)
  have hsz : ∀ k, k < 3 → (dv a k).sec.length = if k = 2 then m / 2 else m := by
    intro j hj
    match j, hj with
    | 0, _ => exact HF.out.good.l0
    | 1, _ => exact HF.out.good.l1
    | 2, _ => exact HF.out.good.l2
  obtain ⟨hpart, hrd⟩ := keep_stand HF.out (by have := HM.out; omega) (by have := HM.out; omega) HM.out.2.2 HK.out (by rw [hsz k HK.out]; exact p5) q5
  obtain ⟨x, hx⟩ : ∃ x, x = hurtAll a L := ⟨_, rfl⟩
  rw [← hx] at hRX hpart hrd
  have HRX := Lib.hid hRX
  have HBX := Lib.hid hBX
  have HXX := Lib.hid hXX
  have HPX := Lib.hid hpart
  have HRD := Lib.hid hrd
  clear hall e r5 b6 n6 hxx hgn HN0 p5 q5 hRX hBX hXX hsz hpart hrd hx
  go_wp2_with fail
  refine wp_abs (fun W => Ext w2 W ∧ Blk_ W g14 40 #[.slice A14 3 c14] ∧ RArr W [.slice A14 3 c14] x) ⟨HXX.out, HBX.out, HRX.out⟩ ?_
  clear HXX HBX HRX m0 z0
  try simp only [h5, h6]
  clear h5 h6
  rintro w4 ⟨hx4, hb4, hr4⟩
  have HX4 := Lib.hid (HX2.out.trans hx4)
  have HS4 := Lib.hid (HS2.out.ext hx4)
  have HB10' := Lib.hid (HB10.out.ext hx4)
  have HRA := Lib.hid (HR10.out.up hx4)
  have HB14 := Lib.hid hb4
  have HRX := Lib.hid hr4
  clear hx4 hb4 hr4 HX2 HS2 HB10 HR10
  go_loopw [38] (fun kv wr => ∃ (i : Nat), kv = .int .i64 i ∧ i ≤ m ∧ Ext w4 wr) (fun kv _ => m - (intOf kv).toNat)
  case atStart => exact ⟨0, rfl, Nat.zero_le _, Ext.refl _⟩
  case round =>
    obtain ⟨i, rfl, hi, hx⟩ := hrel
    have HXR := Lib.hid hx
    have f14 := (HB14.out.ext hx).cell 0
    simp at f14
    by_cases hlt : i < m
    · have hki : (i : Int) < (m : Int) := by omega
      have HII := Lib.hid hlt
      obtain ⟨how, he, hhow⟩ := HRD.out i hlt
      have HE := Lib.hid he
      clear hx hi hlt he
      go_wp2_with fail
      refine (arrRead_any [.slice A14 3 c14] x i wr (HRX.out.up HXR.out) (by have := HII.out; have := HM.out; unfold I64; omega)).mono ?_
      rintro e w9 ⟨rfl, hx9⟩
      rw [HE.out]
      have HX9 := Lib.hid (HXR.out.trans hx9)
      clear hx9 f14
      rcases hhow with rfl | ⟨rfl, hk0⟩
      · go_wp2_with fail
        go_roundw
        case rel => exact ⟨i + 1, by first | rfl | go_num, by have := HII.out; omega, HX9.out⟩
        case measure => have := HII.out; (simp [intOf]; try omega)
      · have hkn : ((k : Int) != 0) = false := by rw [hk0]; rfl
        clear hk0
        go_wp2_with fail
        go_roundw
        case rel => exact ⟨i + 1, by first | rfl | go_num, by have := HII.out; omega, HX9.out⟩
        case measure => have := HII.out; (simp [intOf]; try omega)
    · have hki : (m : Int) ≤ (i : Int) := by omega
      have f10 := (HB10'.out.ext hx).cell 0
      simp at f10
      clear hlt hi hx
      go_wp2_with fail
      refine (reads_any (.slice A 3 c) a all g m wr (HRA.out.up HXR.out) (HS4.out.ext HXR.out) HF.out.len (by have := HM.out; omega) (fun n hn => ⟨1, HF.out.read (by have := HM.out; omega) (by have := HM.out; omega) HM.out.2.2 hn⟩)).mono ?_
      rintro e w5 ⟨rfl, hx5⟩
      have g14' := hx5.cell f14
      have HX5 := Lib.hid (HXR.out.trans hx5)
      clear hx5 f14 f10
      go_wp2_with fail
      refine (reads_any (.slice A14 3 c14) x all g m w5 (HRX.out.up HX5.out) (HS4.out.ext HX5.out) HF.out.len (by have := HM.out; omega) (fun n hn => by obtain ⟨how, e, _⟩ := HRD.out n hn; exact ⟨how, e⟩)).mono ?_
      rintro e w6 ⟨rfl, hx6⟩
      have g14'' := hx6.cell g14'
      have HX6 := Lib.hid (HX5.out.trans hx6)
      clear hx6 g14'
      go_wp2_with fail
      refine (arrCheck_any [.slice A14 3 c14] x w6 (HRX.out.up HX6.out)).mono ?_
      rintro e w7 ⟨rfl, hx7⟩
      rw [arrCode_true (HPX.out.good.may (by have := HM.out; omega) HM.out.2.2)]
      have HX7 := Lib.hid (HX6.out.trans hx7)
      clear hx7 g14''
      go_wp2_with fail
      go_ret
      exact ⟨rfl, HX4.out.trans HX7.out⟩
end Go.Proofs.YtokpjgpdkmimgaaDoor
