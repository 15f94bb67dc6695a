/-
  HealsAll: a sector that was made whole has no bad copy, and its two are as they were; again there is nothing to do. Conditions: both lists read as lists of raw numbers; the table of powers of ten that the library reads is in place.
-/
import Derived.Test.YtgjijcgkmofaaaaDoorJ16
namespace Go.Proofs.YtgjijcgkmofaaaaDoor
set_option linter.unusedSimpArgs false
set_option linter.unusedVariables false
open Go.RowKit

set_option maxRecDepth 100000 in
set_option maxHeartbeats 8000000 in
theorem lawHealsAll_any (v : Value) (l : List Raw4) (v2 : Value) (hl : List Raw4) (d0 at0 : Int) (w : World) (h : SlR 4 32 RRaw w v l) (h2 : SlR 4 32 RRaw w v2 hl) (hd : I64 d0) (hat : I64 at0) (ht : Tab w) :
    Calls Tryd.prog 3 #[v, v2, .int .i64 d0, .int .i64 at0] w fun e w' => e = .returned (.bool true) ∧ Ext w w' := by
  have HI := Lib.hid (And.intro hd hat)
  have HT := Lib.hid ht
  have HH := Lib.hid h
  have HV := Lib.hid h2
  clear hd hat ht h h2
  obtain ⟨m, hm⟩ : ∃ m : Nat, m = 24 := ⟨_, rfl⟩
  have HM := Lib.hid (show 24 ≤ m ∧ m ≤ 62 ∧ m % 2 = 0 by omega)
  have HME := Lib.hid (show (24 : Int) = (m : Int) by omega)
  have hmI : (m : Int) ≤ 62 := by omega
  clear hm
  go_enter Tryd.func3, Tryd.ntmps3
  go_wp2_with fail
  rw [HME.out]
  refine (filled_any v l m w HH.out (by have := HM.out; omega) (by have := HM.out; omega) HM.out.2.2 HT.out).mono ?_
  rintro e w1 ⟨A, c, g, a, all, rfl, hx1, hg1, hs1, hr1, hf1⟩
  have HX1 := Lib.hid hx1
  have HS1 := Lib.hid hs1
  have HR1 := Lib.hid hr1
  have HF := Lib.hid hf1
  clear hx1 hg1 hs1 hr1 hf1
  have hpr := pick_range d0 3 (by decide)
  obtain ⟨k, hk⟩ := Int.eq_ofNat_of_zero_le hpr.1
  have HKE := Lib.hid hk
  rw [hk] at hpr
  have hk3 : (k : Int) < 3 := hpr.2
  have HK := Lib.hid (show k < 3 by omega)
  clear hpr hk
  go_wp2_with fail
  refine wp_abs (fun W => Ext w1 W ∧ Blk_ W w1.heap.size 25 #[.slice A 3 c]) ⟨(Ext.refl _).alloc _, Blk_.new _ _ _⟩ ?_
  rintro w2 ⟨hx2, hb2⟩
  obtain ⟨b10, h10⟩ : ∃ b, b = w1.heap.size := ⟨_, rfl⟩
  rw [← h10] at hb2 ⊢
  have HX2 := Lib.hid (HX1.out.trans hx2)
  have HS2 := Lib.hid (HS1.out.ext hx2)
  have HR10 := Lib.hid (HR1.out.up hx2)
  have HB10 := Lib.hid hb2
  have HV2 := Lib.hid (HV.out.ext RRaw.stays (HX1.out.trans hx2))
  clear hx2 hb2 h10 HX1 HS1 HR1
  obtain ⟨N0, hN0⟩ : ∃ N, N = w2.heap.size := ⟨_, rfl⟩
  have HN0 := Lib.hid hN0
  clear hN0
  refine wp_region_valsA 99 none (F := ?_) ?_ [(fun (v : Value) (_ : World) => v = .agg #[.slice A 3 c]), (fun (v : Value) (_ : World) => v = v2), (fun (v : Value) (_ : World) => v = .int .i64 d0), (fun (v : Value) (_ : World) => v = .int .i64 (k : Int)), (fun (v : Value) (_ : World) => v = .int .i64 (m : Int)), (fun v u => ∃ b A' c' L, v = .slice A' L.length c' ∧ u.ownsRow b 59 7 (.slice A' L.length c') L.length (L.flatMap encHA) ∧ (∀ x ∈ L, ActOk k (if k = 2 then m / 2 else m) x) ∧ (turned L).Nodup ∧ L.length ≤ 1000), (fun v u => ∃ A' c' L, v = .agg #[.slice A' 3 c'] ∧ RArr u [.slice A' 3 c'] (hurtAll a L) ∧ (∀ x ∈ L, ActOk k (if k = 2 then m / 2 else m) x) ∧ (turned L).Nodup ∧ L.length ≤ 1000), (fun v u => ∃ g, v = .pointer (some ⟨g, 0, none⟩) ∧ Blk_ u g 25 #[.slice none 0 0] ∧ N0 ≤ g)] (by kernel_rfl) rfl (by kernel_rfl) rfl (by kernel_rfl) ?_ ?_ ?_
  rotate_left
  · intro vals
    simp only [putAll, List.dropLast, Act.put, List.setIfInBounds_toArray, List.set_cons_zero, List.set_cons_succ, Nat.zero_add, Nat.reduceAdd]
    rfl
  · intro j p hp v u u' h hr
    match j, hp with
    | 0, hp => obtain rfl := Option.some.inj hp; exact h
    | 1, hp => obtain rfl := Option.some.inj hp; exact h
    | 2, hp => obtain rfl := Option.some.inj hp; exact h
    | 3, hp => obtain rfl := Option.some.inj hp; exact h
    | 4, hp => obtain rfl := Option.some.inj hp; exact h
    | 5, hp => obtain rfl := Option.some.inj hp; rw [if_neg (by decide)] at hr; exact (by obtain ⟨b, A', c', L, hg, ho, hp⟩ := h; exact ⟨b, A', c', L, hg, own_ext ho ((Ext.refl _).grown hr (fun q hq => by cases hq)), hp⟩)
    | 6, hp => obtain rfl := Option.some.inj hp; rw [if_neg (by decide)] at hr; exact (by obtain ⟨A', c', L, hg, hb, hp⟩ := h; exact ⟨A', c', L, hg, hb.up ((Ext.refl _).grown hr (fun q hq => by cases hq)), hp⟩)
    | 7, hp => obtain rfl := Option.some.inj hp; rw [if_neg (by decide)] at hr; exact (by obtain ⟨g, hg, hb, hn⟩ := h; exact ⟨g, hg, hb.grown hr (fun q hq => by cases hq), hn⟩)
    | n + 8, hp => exact absurd hp (by simp)
  · refine ⟨?_, ?_, ?_, ?_, ?_, ?_, ?_, ?_, trivial⟩
    · intro vals W' e hd ho K hK
      have hx : World.grownBy _ W' none := e
      have cc := (HB10.out.drew.grown hx (fun q hq => by cases hq)).cell 0
      simp at cc
      refine st_quiet (v := ?_) ?_ ?_
      rotate_left
      · go_simp
        rfl
      exact hK _ _ _ rfl rfl (Ext.refl _)
    · intro vals W' e hd ho K hK
      have hx : World.grownBy _ W' none := e
      refine st_quiet (v := ?_) ?_ ?_
      rotate_left
      · go_simp
        rfl
      exact hK _ _ _ rfl (by first | exact rfl | exact congrArg (Value.int _) (by first | (rw [IntKind.wrap_i64]; omega) | (rw [IntKind.wrap_u8]; omega) | omega)) (Ext.refl _)
    · intro vals W' e hd ho K hK
      have hx : World.grownBy _ W' none := e
      refine st_quiet (v := ?_) ?_ ?_
      rotate_left
      · go_simp
        rfl
      exact hK _ _ _ rfl (by first | exact rfl | exact congrArg (Value.int _) (by first | (rw [IntKind.wrap_i64]; omega) | (rw [IntKind.wrap_u8]; omega) | omega)) (Ext.refl _)
    · intro vals W' e hd ho K hK
      have h2 : vals 2 = .int .i64 d0 := hd 2 (by kernel_rfl)
      have hx : World.grownBy _ W' none := e
      go_wp2_with fail
      refine (picked_any d0 3 W' HI.out.1 (by omega) (by omega)).mono ?_
      rintro e' u' ⟨rfl, hw'⟩
      obtain rfl := hw'.symm
      rw [HKE.out]
      exact hK _ _ _ (by first | rfl | (simp only [h2]; rfl)) rfl (Ext.refl _)
    · intro vals W' e hd ho K hK
      have hx : World.grownBy _ W' none := e
      refine st_quiet (v := ?_) ?_ ?_
      rotate_left
      · go_simp
        rfl
      exact hK _ _ _ rfl (by first | exact rfl | exact congrArg (Value.int _) (by first | (rw [IntKind.wrap_i64]; omega) | (rw [IntKind.wrap_u8]; omega) | omega)) (Ext.refl _)
    · intro vals W' e hd ho K hK
      have h1 : vals 1 = v2 := hd 1 (by kernel_rfl)
      have h3 : vals 3 = .int .i64 (k : Int) := hd 3 (by kernel_rfl)
      have h4 : vals 4 = .int .i64 (m : Int) := hd 4 (by kernel_rfl)
      have hx : World.grownBy _ W' none := e
      go_wp2_with fail
      refine (hurts_any v2 hl k m 40 W' (HV2.out.ext RRaw.stays ((Ext.refl _).drew.trans ((Ext.refl _).grown hx (fun q hq => by cases hq)))) HK.out (by have := HM.out; omega) (by have := HM.out; omega) (by decide)).mono ?_
      rintro e' u' ⟨A', c', L, rfl, hx', ho', hp', hq', hz'⟩
      exact hK _ _ _ (by first | rfl | (simp only [h1, h3, h4]; rfl)) ⟨_, A', c', L, rfl, ho', hp', hq', hz'⟩ hx'
    · intro vals W' e hd ho K hK
      have h0 : vals 0 = .agg #[.slice A 3 c] := hd 0 (by kernel_rfl)
      obtain ⟨b5, A5, c5, L, h5, o5, p5, q5, z5⟩ := hd 5 (by kernel_rfl)
      have hx : World.grownBy _ W' none := e
      go_wp2_with fail
      refine (hurtGen_any A c a m A5 c5 L W' (HR10.out.up ((Ext.refl _).drew.trans ((Ext.refl _).grown hx (fun q hq => by cases hq)))) HF.out.good (own_acts o5) (by have := HM.out; omega) (by have := HM.out; omega) (by have := HM.out; omega) (acts_fine HK.out (by have := HM.out; omega) p5) (by omega)).mono ?_
      rintro e' u' ⟨A', c', rfl, hx', hr'⟩
      exact hK _ _ _ (by first | rfl | (simp only [h0, h5]; rfl)) ⟨A', c', L, rfl, hr', p5, q5, z5⟩ hx'
    · intro vals W' e hd ho K hK
      have hx : World.grownBy _ W' none := e
      go_wp2_with fail
      exact hK _ _ _ rfl ⟨W'.heap.size, rfl, Blk_.new _ _ _, by have := hx.size; rw [HN0.out]; exact this⟩ ((Ext.refl W').alloc _)
  intro vals W' e hall K hK
  obtain ⟨A14, c14, L, h6, r6, p6, q6, z6⟩ := hall 6 (by decide)
  obtain ⟨g14, h7, b7, n7⟩ := hall 7 (by decide)
  have hxx : Ext w2 W' := (Ext.refl _).drew.trans ((Ext.refl _).grown e (fun q hq => by cases hq))
  have m0 := b7.cell 0
  have z0 := b7.frozen 0
  simp at m0
  have hgn : w2.heap.size ≤ g14 := by rw [← HN0.out]; exact n7
  have hRX := r6.box b7 (.slice A14 3 c14)
  have hBX := b7.set 0 (.slice A14 3 c14)
  have hXX := hxx.setCell (p := ⟨g14, 0, none⟩) hgn (.slice A14 3 c14)
  have hsz : ∀ k, k < 3 → (dv a k).sec.length = if k = 2 then m / 2 else m := by
    intro j hj
    match j, hj with
    | 0, _ => exact HF.out.good.l0
    | 1, _ => exact HF.out.good.l1
    | 2, _ => exact HF.out.good.l2
  have hpart := (keep_stand HF.out (by have := HM.out; omega) (by have := HM.out; omega) HM.out.2.2 HK.out (by rw [hsz k HK.out]; exact p6) q6).1
  have hones := keep_ones HF.out (by have := HM.out; omega) (by have := HM.out; omega) HM.out.2.2 HK.out (by rw [hsz k HK.out]; exact p6) q6
  obtain ⟨x, hx⟩ : ∃ x, x = hurtAll a L := ⟨_, rfl⟩
  rw [← hx] at hRX hpart hones
  have HRX := Lib.hid hRX
  have HBX := Lib.hid hBX
  have HXX := Lib.hid hXX
  have HPX := Lib.hid hpart
  have HOX := Lib.hid hones
  clear hall e r6 b7 n7 hxx hgn HN0 p6 q6 hRX hBX hXX hsz hpart hones hx
  go_wp2_with fail
  refine calls_abs (fun W => Ext w2 W ∧ Blk_ W g14 25 #[.slice A14 3 c14] ∧ RArr W [.slice A14 3 c14] x) ⟨HXX.out, HBX.out, HRX.out⟩ ?_
  clear HXX HBX HRX m0 z0
  try simp only [h6, h7]
  clear h6 h7
  rintro w4 ⟨hx4, hb4, hr4⟩
  have HX4 := Lib.hid (HX2.out.trans hx4)
  have HS4 := Lib.hid (HS2.out.ext hx4)
  have HB4 := Lib.hid hb4
  have HR4 := Lib.hid hr4
  clear hx4 hb4 hr4 HX2 HS2 HB10 HR10
  refine (picked_any at0 m w4 HI.out.2 (by have := HM.out; omega) (by omega)).mono ?_
  rintro e w5 ⟨rfl, hw⟩
  obtain rfl := hw.symm
  have hpr := pick_range at0 m (by have := HM.out; omega)
  obtain ⟨n, hn⟩ := Int.eq_ofNat_of_zero_le hpr.1
  rw [hn] at hpr ⊢
  have HN := Lib.hid (show n < m by omega)
  have hnI : (n : Int) ≤ 62 := by omega
  clear hpr hn
  -- what is so of the array made whole
  have hcx := HOX.out.code HPX.out (by have := HM.out; omega) (by have := HM.out; omega) HM.out.2.2 HN.out
  have hnear := HOX.out.near HM.out.2.2 HN.out
  obtain ⟨f1, f2, f3, f4, f5, _, _, f8⟩ := heal_facts HPX.out (by have := HM.out; omega) (by have := HM.out; omega) HM.out.2.2 HN.out
  have fo : Ones (healP x all n).1 m k := fun i p hi hik hp => f5 i p (HOX.out i p hi hik hp)
  have fag := heal_again (all := all) f2 f3 (f4 hnear)
  have fcy := fo.code f1 (by have := HM.out; omega) (by have := HM.out; omega) HM.out.2.2 HN.out
  have fbad := bad_whole f1 (by have := HM.out; omega) (by have := HM.out; omega) HM.out.2.2 HN.out ⟨f2, f3, f4 hnear⟩ (by
    have hp := pt_lt HN.out HM.out.2.2
    by_cases hk : k = 0
    · exact .inr (fo 1 _ (by decide) (by omega) (by rw [if_neg (by decide)]; exact hp))
    · exact .inl (fo 0 _ (by decide) (by omega) (by rw [if_neg (by decide)]; exact hp)))
  have frd : ∀ i : Nat, i < m → ∃ how, arrReadS (healP x all n).1 i = (pl all i, how, 0) := by
    intro i hi
    have hci := fo.code f1 (by have := HM.out; omega) (by have := HM.out; omega) HM.out.2.2 hi
    have htd := f1.told0 (by have := HM.out; omega) (by have := HM.out; omega) HM.out.2.2 hi hci
    exact ⟨(arrReadS (healP x all n).1 i).2.1, Prod.ext htd (Prod.ext rfl hci)⟩
  obtain ⟨y, hy⟩ : ∃ y, y = healP x all n := ⟨_, rfl⟩
  have HCX := Lib.hid hcx
  rw [← hy] at f1 f8 fag fcy fbad frd
  have HY := Lib.hid hy
  have HF1 := Lib.hid f1
  have HAG := Lib.hid fag
  have HCY := Lib.hid fcy
  have HBD := Lib.hid fbad
  have HRD := Lib.hid frd
  obtain ⟨y1, y2⟩ := y
  dsimp only at *
  clear hcx hnear f1 f2 f3 f4 f5 fo fag fcy fbad frd hy
  have q0 := HB4.out.cell 0
  simp at q0
  go_wp2_with fail
  refine (healSector_any [.slice A14 3 c14] x m n all w4 HR4.out HPX.out (by have := HM.out; omega) (by have := HM.out; omega) HM.out.2.2 HN.out).mono ?_
  rintro e w6 (⟨_, A6, c6, rfl, hx6, ho6⟩ | ⟨hcn, _⟩)
  case inr => exact absurd HCX.out hcn
  rw [← HY.out] at ho6 ⊢
  dsimp only at ho6 ⊢
  have hr6 := ho6.rarr (by rw [HF1.out.good.len]; decide)
  have HX6 := Lib.hid (HX4.out.trans hx6)
  have HS6 := Lib.hid (HS4.out.ext hx6)
  have HR6 := Lib.hid hr6
  clear hx6 ho6 hr6 q0
  go_wp2_with fail
  refine calls_abs (fun W => Ext w6 W ∧ Blk_ W w6.heap.size 25 #[.slice A6 3 c6]) ⟨(Ext.refl _).alloc _, Blk_.new _ _ _⟩ ?_
  rintro w7 ⟨hx7, hb7⟩
  obtain ⟨b15, h15⟩ : ∃ b, b = w6.heap.size := ⟨_, rfl⟩
  rw [← h15] at hb7 ⊢
  have HX7 := Lib.hid (HX6.out.trans hx7)
  have HS7 := Lib.hid (HS6.out.ext hx7)
  have HR7 := Lib.hid (HR6.out.up hx7)
  have HB7 := Lib.hid hb7
  clear hx7 hb7 h15 HX6 HS6 HR6
  refine (healSector_any [.slice A6 3 c6] y1 m n all w7 HR7.out HF1.out (by have := HM.out; omega) (by have := HM.out; omega) HM.out.2.2 HN.out).mono ?_
  rintro e w8 (⟨_, A8, c8, rfl, hx8, ho8⟩ | ⟨hcn, _⟩)
  case inr => exact absurd HCY.out hcn
  rw [HAG.out] at ho8 ⊢
  dsimp only at ho8 ⊢
  have hr8 := ho8.rarr (by rw [HF1.out.good.len]; decide)
  have q15 := (HB7.out.ext hx8).cell 0
  simp at q15
  have HB8 := Lib.hid (HB7.out.ext hx8)
  have HX8 := Lib.hid (HX7.out.trans hx8)
  have HS8 := Lib.hid (HS7.out.ext hx8)
  have HR8 := Lib.hid (HR7.out.up hx8)
  have HZ8 := Lib.hid hr8
  have l15 := HB8.out.lt
  clear hx8 ho8 hr8 HX7 HS7 HR7 HB7
  go_wp2_with fail
  refine calls_abs (fun W => Ext w8 W ∧ Blk_ W w8.heap.size 25 #[.slice A8 3 c8]) ⟨(Ext.refl _).alloc _, Blk_.new _ _ _⟩ ?_
  rintro w9 ⟨hx9, hb9⟩
  obtain ⟨b18, h18⟩ : ∃ b, b = w8.heap.size := ⟨_, rfl⟩
  rw [← h18] at hb9 ⊢
  have HB9 := Lib.hid hb9
  have HB15 := Lib.hid (HB8.out.ext hx9)
  have HX9 := Lib.hid (HX8.out.trans hx9)
  have HS9 := Lib.hid (HS8.out.ext hx9)
  have HR9 := Lib.hid (HR8.out.up hx9)
  have HZ9 := Lib.hid (HZ8.out.up hx9)
  clear hx9 hb9 h18 HX8 HS8 HR8 HZ8 HB8 q15
  refine (healBad_any [.slice A6 3 c6] y1 m n all w9 HR9.out HF1.out (by have := HM.out; omega) (by have := HM.out; omega) HM.out.2.2 HN.out).mono ?_
  rintro e w10 ⟨rfl, hx10⟩
  rw [HBD.out]
  dsimp only
  have p15 := (HB15.out.ext hx10).cell 0
  have p18 := (HB9.out.ext hx10).cell 0
  simp at p15 p18
  have HX10 := Lib.hid (HX9.out.trans hx10)
  have HS10 := Lib.hid (HS9.out.ext hx10)
  have HR10 := Lib.hid (HR9.out.up hx10)
  have HZ10 := Lib.hid (HZ9.out.up hx10)
  clear hx10
  by_cases hp : (n : Int) % 2 = 0
  · have t1 : ((n : Int) % 2 == 0) = true := by simpa using hp
    clear hp
    go_wp2_with fail
    refine (healBad_any [.slice A8 3 c8] y1 m n all w10 HZ10.out HF1.out (by have := HM.out; omega) (by have := HM.out; omega) HM.out.2.2 HN.out).mono ?_
    rintro e w11 ⟨rfl, hx11⟩
    rw [HBD.out]
    dsimp only
    have s15 := hx11.cell p15
    have HX11 := Lib.hid (HX10.out.trans hx11)
    have HS11 := Lib.hid (HS10.out.ext hx11)
    have HR11 := Lib.hid (HR10.out.up hx11)
    clear hx11 p15 p18
    go_wp2_with fail
    refine (reads_any (.slice A6 3 c6) y1 all g m w11 HR11.out HS11.out HF.out.len (by have := HM.out; omega) HRD.out).mono ?_
    rintro e w12 ⟨rfl, hx12⟩
    have HX12 := Lib.hid (HX11.out.trans hx12)
    clear hx12 s15
    go_wp2_with fail
    go_ret
    exact ⟨rfl, HX12.out⟩
  · have t1 : ((n : Int) % 2 == 0) = false := by simpa using hp
    clear hp
    go_wp2_with fail
    refine (reads_any (.slice A6 3 c6) y1 all g m w10 HR10.out HS10.out HF.out.len (by have := HM.out; omega) HRD.out).mono ?_
    rintro e w12 ⟨rfl, hx12⟩
    have HX12 := Lib.hid (HX10.out.trans hx12)
    clear hx12 p15 p18
    go_wp2_with fail
    go_ret
    exact ⟨rfl, HX12.out⟩
end Go.Proofs.YtgjijcgkmofaaaaDoor
