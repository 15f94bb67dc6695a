/-
  ScrubsAll: when all sectors were looked at nothing is bad, if one device was hurt alone; and the cursor is where it was. Conditions: both lists read as lists of raw numbers; the table of powers of ten that the library reads is in place.
-/
import Derived.Test.YtgjijcgkmofaaaaDoorJ16
import Derived.Test.YtgjijcgkmofaaaaDoorWStep
namespace Go.Proofs.YtgjijcgkmofaaaaDoor
set_option linter.unusedSimpArgs false
set_option linter.unusedVariables false
open Go.RowKit

theorem sortI_nil : sortI (ints []) = [] := List.mergeSort_nil
theorem health_whole {a : List Dev} {m : Nat} {all : List ByteArray} (h : Part a m all) (h16 : 16 ≤ m) (h64 : m ≤ 64) (h2 : m % 2 = 0) (hw : ∀ n, n < m → Whole a n) : (healthS a).1 = 0 ∧ (healthS a).2.1 = [] := by
  have hl : ∀ (j k : Nat), k + j ≤ m → healthLoop a j k 0 [] = (0, []) := by
    intro j
    induction j with
    | zero => intro k _; rfl
    | succ j ih =>
      intro k hk
      have hkm : k < m := by omega
      have hb := bad_whole h h16 h64 h2 hkm (hw k hkm) (.inl (hw _ (pt_lt hkm h2)).1)
      have hc : (arrReadS a k).2.2 = 0 := (h.code h16 h64 h2 hkm).2 (.inl (hw k hkm).1)
      unfold healthLoop
      rw [hb, hc, if_neg (by decide)]
      exact ih (k + 1) (by omega)
  have hl0 : (dv a 0).sec.length = m := h.good.l0
  unfold healthS
  rw [h.good.may h16 h2, hl0, hl m 0 (by omega)]
  exact ⟨rfl, rfl⟩
set_option maxRecDepth 100000 in
set_option maxHeartbeats 8000000 in
theorem lawScrubsAll_any (v : Value) (l : List Raw4) (v2 : Value) (hl : List Raw4) (d0 many from0 : Int) (w : World) (h : SlR 4 32 RRaw w v l) (h2 : SlR 4 32 RRaw w v2 hl) (hd : I64 d0) (hmy : I64 many) (hfr : I64 from0) (ht : Tab w) :
    Calls Tryd.prog 4 #[v, v2, .int .i64 d0, .int .i64 many, .int .i64 from0] w fun e w' => e = .returned (.bool true) ∧ Ext w w' := by
  have HI := Lib.hid (And.intro hd (And.intro hmy hfr))
  have HT := Lib.hid ht
  have HH := Lib.hid h
  have HV := Lib.hid h2
  clear hd hmy hfr ht h h2
  go_enter Tryd.func4, Tryd.ntmps4
  go_wp2_with fail
  refine (keepSectors_any many w HI.out.2.1).mono ?_
  rintro e wz ⟨m, rfl, hw, hm1, hm2, hm3⟩
  obtain rfl := hw.symm
  have HM := Lib.hid (show 24 ≤ m ∧ m ≤ 62 ∧ m % 2 = 0 from ⟨hm1, hm2, hm3⟩)
  have hmI : (m : Int) ≤ 62 := by omega
  clear hm1 hm2 hm3
  go_wp2_with fail
  refine (filled_any v l m w HH.out (by have := HM.out; omega) (by have := HM.out; omega) HM.out.2.2 HT.out).mono ?_
  rintro e w1 ⟨A, c, g, a, all, rfl, hx1, hg1, hs1, hr1, hf1⟩
  have HX1 := Lib.hid hx1
  have HS1 := Lib.hid hs1
  have HR1 := Lib.hid hr1
  have HF := Lib.hid hf1
  clear hx1 hg1 hs1 hr1 hf1
  have hpr := pick_range d0 3 (by decide)
  obtain ⟨k, hk⟩ := Int.eq_ofNat_of_zero_le hpr.1
  have HKE := Lib.hid hk
  rw [hk] at hpr
  have hk3 : (k : Int) < 3 := hpr.2
  have HK := Lib.hid (show k < 3 by omega)
  clear hpr hk
  go_wp2_with fail
  refine wp_abs (fun W => Ext w1 W ∧ Blk_ W w1.heap.size 25 #[.slice A 3 c]) ⟨(Ext.refl _).alloc _, Blk_.new _ _ _⟩ ?_
  rintro w2 ⟨hx2, hb2⟩
  obtain ⟨b10, h10⟩ : ∃ b, b = w1.heap.size := ⟨_, rfl⟩
  rw [← h10] at hb2 ⊢
  have HX2 := Lib.hid (HX1.out.trans hx2)
  have HS2 := Lib.hid (HS1.out.ext hx2)
  have HR10 := Lib.hid (HR1.out.up hx2)
  have HB10 := Lib.hid hb2
  have HV2 := Lib.hid (HV.out.ext RRaw.stays (HX1.out.trans hx2))
  clear hx2 hb2 h10 HX1 HS1 HR1
  obtain ⟨N0, hN0⟩ : ∃ N, N = w2.heap.size := ⟨_, rfl⟩
  have HN0 := Lib.hid hN0
  clear hN0
  refine wp_region_valsA 99 none (F := ?_) ?_ [(fun (v : Value) (_ : World) => v = .agg #[.slice A 3 c]), (fun (v : Value) (_ : World) => v = v2), (fun (v : Value) (_ : World) => v = .int .i64 d0), (fun (v : Value) (_ : World) => v = .int .i64 (k : Int)), (fun (v : Value) (_ : World) => v = .int .i64 (m : Int)), (fun v u => ∃ b A' c' L, v = .slice A' L.length c' ∧ u.ownsRow b 59 7 (.slice A' L.length c') L.length (L.flatMap encHA) ∧ (∀ x ∈ L, ActOk k (if k = 2 then m / 2 else m) x) ∧ (turned L).Nodup ∧ L.length ≤ 1000), (fun v u => ∃ A' c' L, v = .agg #[.slice A' 3 c'] ∧ RArr u [.slice A' 3 c'] (hurtAll a L) ∧ (∀ x ∈ L, ActOk k (if k = 2 then m / 2 else m) x) ∧ (turned L).Nodup ∧ L.length ≤ 1000), (fun v u => ∃ g, v = .pointer (some ⟨g, 0, none⟩) ∧ Blk_ u g 25 #[.slice none 0 0] ∧ N0 ≤ g)] (by kernel_rfl) rfl (by kernel_rfl) rfl (by kernel_rfl) ?_ ?_ ?_
  rotate_left
  · intro vals
    simp only [putAll, List.dropLast, Act.put, List.setIfInBounds_toArray, List.set_cons_zero, List.set_cons_succ, Nat.zero_add, Nat.reduceAdd]
    rfl
  · intro j p hp v u u' h hr
    match j, hp with
    | 0, hp => obtain rfl := Option.some.inj hp; exact h
    | 1, hp => obtain rfl := Option.some.inj hp; exact h
    | 2, hp => obtain rfl := Option.some.inj hp; exact h
    | 3, hp => obtain rfl := Option.some.inj hp; exact h
    | 4, hp => obtain rfl := Option.some.inj hp; exact h
    | 5, hp => obtain rfl := Option.some.inj hp; rw [if_neg (by decide)] at hr; exact (by obtain ⟨b, A', c', L, hg, ho, hp⟩ := h; exact ⟨b, A', c', L, hg, own_ext ho ((Ext.refl _).grown hr (fun q hq => by cases hq)), hp⟩)
    | 6, hp => obtain rfl := Option.some.inj hp; rw [if_neg (by decide)] at hr; exact (by obtain ⟨A', c', L, hg, hb, hp⟩ := h; exact ⟨A', c', L, hg, hb.up ((Ext.refl _).grown hr (fun q hq => by cases hq)), hp⟩)
    | 7, hp => obtain rfl := Option.some.inj hp; rw [if_neg (by decide)] at hr; exact (by obtain ⟨g, hg, hb, hn⟩ := h; exact ⟨g, hg, hb.grown hr (fun q hq => by cases hq), hn⟩)
    | n + 8, hp => exact absurd hp (by simp)
  · refine ⟨?_, ?_, ?_, ?_, ?_, ?_, ?_, ?_, trivial⟩
    · intro vals W' e hd ho K hK
      have hx : World.grownBy _ W' none := e
      have cc := (HB10.out.drew.grown hx (fun q hq => by cases hq)).cell 0
      simp at cc
      refine st_quiet (v := ?_) ?_ ?_
      rotate_left
      · go_simp
        rfl
      exact hK _ _ _ rfl rfl (Ext.refl _)
    · intro vals W' e hd ho K hK
      have hx : World.grownBy _ W' none := e
      refine st_quiet (v := ?_) ?_ ?_
      rotate_left
      · go_simp
        rfl
      exact hK _ _ _ rfl (by first | exact rfl | exact congrArg (Value.int _) (by first | (rw [IntKind.wrap_i64]; omega) | (rw [IntKind.wrap_u8]; omega) | omega)) (Ext.refl _)
    · intro vals W' e hd ho K hK
      have hx : World.grownBy _ W' none := e
      refine st_quiet (v := ?_) ?_ ?_
      rotate_left
      · go_simp
        rfl
      exact hK _ _ _ rfl (by first | exact rfl | exact congrArg (Value.int _) (by first | (rw [IntKind.wrap_i64]; omega) | (rw [IntKind.wrap_u8]; omega) | omega)) (Ext.refl _)
    · intro vals W' e hd ho K hK
      have h2 : vals 2 = .int .i64 d0 := hd 2 (by kernel_rfl)
      have hx : World.grownBy _ W' none := e
      go_wp2_with fail
      refine (picked_any d0 3 W' HI.out.1 (by omega) (by omega)).mono ?_
      rintro e' u' ⟨rfl, hw'⟩
      obtain rfl := hw'.symm
      rw [HKE.out]
      exact hK _ _ _ (by first | rfl | (simp only [h2]; rfl)) rfl (Ext.refl _)
    · intro vals W' e hd ho K hK
      have hx : World.grownBy _ W' none := e
      refine st_quiet (v := ?_) ?_ ?_
      rotate_left
      · go_simp
        rfl
      exact hK _ _ _ rfl (by first | exact rfl | exact congrArg (Value.int _) (by first | (rw [IntKind.wrap_i64]; omega) | (rw [IntKind.wrap_u8]; omega) | omega)) (Ext.refl _)
    · intro vals W' e hd ho K hK
      have h1 : vals 1 = v2 := hd 1 (by kernel_rfl)
      have h3 : vals 3 = .int .i64 (k : Int) := hd 3 (by kernel_rfl)
      have h4 : vals 4 = .int .i64 (m : Int) := hd 4 (by kernel_rfl)
      have hx : World.grownBy _ W' none := e
      go_wp2_with fail
      refine (hurts_any v2 hl k m 60 W' (HV2.out.ext RRaw.stays ((Ext.refl _).drew.trans ((Ext.refl _).grown hx (fun q hq => by cases hq)))) HK.out (by have := HM.out; omega) (by have := HM.out; omega) (by decide)).mono ?_
      rintro e' u' ⟨A', c', L, rfl, hx', ho', hp', hq', hz'⟩
      exact hK _ _ _ (by first | rfl | (simp only [h1, h3, h4]; rfl)) ⟨_, A', c', L, rfl, ho', hp', hq', hz'⟩ hx'
    · intro vals W' e hd ho K hK
      have h0 : vals 0 = .agg #[.slice A 3 c] := hd 0 (by kernel_rfl)
      obtain ⟨b5, A5, c5, L, h5, o5, p5, q5, z5⟩ := hd 5 (by kernel_rfl)
      have hx : World.grownBy _ W' none := e
      go_wp2_with fail
      refine (hurtGen_any A c a m A5 c5 L W' (HR10.out.up ((Ext.refl _).drew.trans ((Ext.refl _).grown hx (fun q hq => by cases hq)))) HF.out.good (own_acts o5) (by have := HM.out; omega) (by have := HM.out; omega) (by have := HM.out; omega) (acts_fine HK.out (by have := HM.out; omega) p5) (by omega)).mono ?_
      rintro e' u' ⟨A', c', rfl, hx', hr'⟩
      exact hK _ _ _ (by first | rfl | (simp only [h0, h5]; rfl)) ⟨A', c', L, rfl, hr', p5, q5, z5⟩ hx'
    · intro vals W' e hd ho K hK
      have hx : World.grownBy _ W' none := e
      go_wp2_with fail
      exact hK _ _ _ rfl ⟨W'.heap.size, rfl, Blk_.new _ _ _, by have := hx.size; rw [HN0.out]; exact this⟩ ((Ext.refl W').alloc _)
  intro vals W' e hall K hK
  obtain ⟨A14, c14, L, h6, r6, p6, q6, z6⟩ := hall 6 (by decide)
  obtain ⟨g14, h7, b7, n7⟩ := hall 7 (by decide)
  have hxx : Ext w2 W' := (Ext.refl _).drew.trans ((Ext.refl _).grown e (fun q hq => by cases hq))
  have m0 := b7.cell 0
  have z0 := b7.frozen 0
  simp at m0
  have hgn : w2.heap.size ≤ g14 := by rw [← HN0.out]; exact n7
  have hRX := r6.box b7 (.slice A14 3 c14)
  have hBX := b7.set 0 (.slice A14 3 c14)
  have hXX := hxx.setCell (p := ⟨g14, 0, none⟩) hgn (.slice A14 3 c14)
  have hsz : ∀ k, k < 3 → (dv a k).sec.length = if k = 2 then m / 2 else m := by
    intro j hj
    match j, hj with
    | 0, _ => exact HF.out.good.l0
    | 1, _ => exact HF.out.good.l1
    | 2, _ => exact HF.out.good.l2
  have hpart := (keep_stand HF.out (by have := HM.out; omega) (by have := HM.out; omega) HM.out.2.2 HK.out (by rw [hsz k HK.out]; exact p6) q6).1
  have hones := keep_ones HF.out (by have := HM.out; omega) (by have := HM.out; omega) HM.out.2.2 HK.out (by rw [hsz k HK.out]; exact p6) q6
  obtain ⟨x, hx⟩ : ∃ x, x = hurtAll a L := ⟨_, rfl⟩
  rw [← hx] at hRX hpart hones
  have HRX := Lib.hid hRX
  have HBX := Lib.hid hBX
  have HXX := Lib.hid hXX
  have HPX := Lib.hid hpart
  have HOX := Lib.hid hones
  clear hall e r6 b7 n7 hxx hgn HN0 p6 q6 hRX hBX hXX hsz hpart hones hx
  go_wp2_with fail
  refine calls_abs (fun W => Ext w2 W ∧ Blk_ W g14 25 #[.slice A14 3 c14] ∧ RArr W [.slice A14 3 c14] x) ⟨HXX.out, HBX.out, HRX.out⟩ ?_
  clear HXX HBX HRX m0 z0
  try simp only [h6, h7]
  clear h6 h7
  rintro w4 ⟨hx4, hb4, hr4⟩
  have HX4 := Lib.hid (HX2.out.trans hx4)
  have HS4 := Lib.hid (HS2.out.ext hx4)
  have HB4 := Lib.hid hb4
  have HR4 := Lib.hid hr4
  clear hx4 hb4 hr4 HX2 HS2 HB10 HR10
  refine (picked_any from0 m w4 HI.out.2.2 (by have := HM.out; omega) (by omega)).mono ?_
  rintro e w5 ⟨rfl, hw⟩
  obtain rfl := hw.symm
  have hpr := pick_range from0 m (by have := HM.out; omega)
  obtain ⟨n, hn⟩ := Int.eq_ofNat_of_zero_le hpr.1
  rw [hn] at hpr ⊢
  have HN := Lib.hid (show n < m by omega)
  have hnI : (n : Int) ≤ 62 := by omega
  clear hpr hn
  -- what is so of the array that was scrubbed
  have h16 : 16 ≤ m := by have := HM.out; omega
  have h64 : m ≤ 64 := by have := HM.out; omega
  have hnx := scrub_next all (⟨x, n, 0, 0, []⟩ : Sc) HN.out m
  have hwh := scrub_whole (s := ⟨x, n, 0, 0, []⟩) HOX.out HPX.out h16 h64 HM.out.2.2 HN.out rfl
  have hgn := (scrub_ones (s := ⟨x, n, 0, 0, []⟩) HOX.out HPX.out h16 h64 HM.out.2.2 HN.out rfl m).1
  have hpt := (scrub_part (s := ⟨x, n, 0, 0, []⟩) (all := all) HPX.out h16 h64 HM.out.2.2 HN.out m).1
  obtain ⟨r, hr⟩ : ∃ r, r = scrubN m all m ⟨x, n, 0, 0, []⟩ := ⟨_, rfl⟩
  rw [← hr] at hnx hwh hgn hpt
  dsimp only at hnx
  have hnx1 : r.next = n := by rw [hnx.1, Nat.add_mod_right, Nat.mod_eq_of_lt HN.out]
  have hnx2 : r.rounds = 1 := by
    rw [hnx.2, Nat.add_div_right _ (by omega), Nat.div_eq_of_lt HN.out]
  have hid := scrub_idle (all := all) (s := ⟨r.a, r.next, r.rounds, 0, []⟩) hwh (by rw [hnx1]; exact HN.out) m
  have hhe := health_whole hpt h16 h64 HM.out.2.2 hwh
  have hrd : ∀ i : Nat, i < m → ∃ how, arrReadS r.a i = (pl all i, how, 0) := by
    intro i hi
    have hci : (arrReadS r.a i).2.2 = 0 := (hpt.code h16 h64 HM.out.2.2 hi).2 (.inl (hwh i hi).1)
    exact ⟨(arrReadS r.a i).2.1, Prod.ext (hpt.told0 h16 h64 HM.out.2.2 hi hci) (Prod.ext rfl hci)⟩
  have HRR := Lib.hid hr
  have HNX := Lib.hid (And.intro hnx1 hnx2)
  have HGN := Lib.hid hgn
  have HPT := Lib.hid hpt
  have HID := Lib.hid hid
  have HHE := Lib.hid hhe
  have HRD := Lib.hid hrd
  clear hnx hwh hgn hpt hr hnx1 hnx2 hid hhe hrd h16 h64
  have q0 := HB4.out.cell 0
  have l0 := HB4.out.lt
  simp at q0
  go_wp2_with fail
  refine calls_abs (fun W => Ext w4 W ∧ Blk_ W w4.heap.size 42 #[.int .i64 n, .int .i64 0]) ⟨(Ext.refl _).alloc _, Blk_.new _ _ _⟩ ?_
  rintro w5 ⟨hx5, hb5⟩
  obtain ⟨b16, h16⟩ : ∃ b, b = w4.heap.size := ⟨_, rfl⟩
  rw [← h16] at hb5 ⊢
  have HB5 := Lib.hid hb5
  have HX5 := Lib.hid (HX4.out.trans hx5)
  have HS5 := Lib.hid (HS4.out.ext hx5)
  have HR5 := Lib.hid (HR4.out.up hx5)
  clear hx5 hb5 h16 q0 l0
  refine (scrubStep_any [.slice A14 3 c14] x m n 0 m all w5 HR5.out HPX.out (by have := HM.out; omega) (by have := HM.out; omega) HM.out.2.2 HN.out (by omega) (by have := HM.out; omega)).mono ?_
  rintro e w6 ⟨A6, c6, A6', c6', r6, hr6, rfl, hx6, hr6a, hz6⟩
  rw [← HRR.out] at hr6
  subst hr6
  have hg0 : (sortI (ints r6.gone)).length = 0 := by rw [HGN.out, sortI_nil]; rfl
  rw [hg0, HNX.out.1, HNX.out.2]
  have p16 := (HB5.out.ext hx6).cell 0
  have l16 := (HB5.out.ext hx6).lt
  simp at p16
  have HB6 := Lib.hid (HB5.out.ext hx6)
  have HX6 := Lib.hid (HX5.out.trans hx6)
  have HS6 := Lib.hid (HS5.out.ext hx6)
  have HR6 := Lib.hid hr6a
  clear hx6 hr6a hz6 hg0
  obtain ⟨cnt1, hcnt1⟩ : ∃ c, c = r6.count := ⟨_, rfl⟩
  rw [← hcnt1]
  clear hcnt1
  go_wp2_with fail
  refine calls_abs (fun W => Ext w6 W ∧ Blk_ W w6.heap.size 25 #[.slice A6 3 c6] ∧ Blk_ W (w6.heap.size + 1) 42 #[.int .i64 n, .int .i64 1]) ⟨((Ext.refl _).alloc _).alloc _, (Blk_.new _ _ _).alloc _, Blk_.new1 _ _ _ _⟩ ?_
  rintro w7 ⟨hx7, hb7, hk7⟩
  obtain ⟨b17, h17⟩ : ∃ b, b = w6.heap.size := ⟨_, rfl⟩
  obtain ⟨b18, h18⟩ : ∃ b, b = b17 + 1 := ⟨_, rfl⟩
  rw [← h17, ← h18] at hk7
  rw [← h17] at hb7
  rw [← h17, ← h18]
  have HB7 := Lib.hid hb7
  have HK7 := Lib.hid hk7
  have HC7 := Lib.hid (HB6.out.ext hx7)
  have HX7 := Lib.hid (HX6.out.trans hx7)
  have HS7 := Lib.hid (HS6.out.ext hx7)
  have HR7 := Lib.hid (HR6.out.up hx7)
  clear hx7 hb7 hk7 h17 h18 p16 l16 HB6 HX6 HS6 HR6
  refine (health_any [.slice A6 3 c6] r6.a m all w7 HR7.out HPT.out (by have := HM.out; omega) (by have := HM.out; omega) HM.out.2.2).mono ?_
  rintro e w8 ⟨A8, c8, rfl, hx8, _⟩
  have hg8 : (healthS r6.a).2.1.length = 0 := by rw [HHE.out.2]; rfl
  rw [HHE.out.1, hg8]
  have p17 := (HB7.out.ext hx8).cell 0
  have p180 := (HK7.out.ext hx8).cell 0
  have p181 := (HK7.out.ext hx8).cell 1
  simp at p17 p180 p181
  have HB8 := Lib.hid (HB7.out.ext hx8)
  have HK8 := Lib.hid (HK7.out.ext hx8)
  have HC8 := Lib.hid (HC7.out.ext hx8)
  have HX8 := Lib.hid (HX7.out.trans hx8)
  have HS8 := Lib.hid (HS7.out.ext hx8)
  have HR8 := Lib.hid (HR7.out.up hx8)
  clear hx8 hg8 HB7 HK7 HC7 HX7 HS7 HR7
  go_wp2_with fail
  refine (scrubStep_any [.slice A6 3 c6] r6.a m n 1 m all w8 HR8.out HPT.out (by have := HM.out; omega) (by have := HM.out; omega) HM.out.2.2 HN.out (by omega) (by have := HM.out; omega)).mono ?_
  rintro e w9 ⟨A9, c9, A9', c9', r9, hr9, rfl, hx9, _, _⟩
  have hid := HID.out.2
  rw [HNX.out.1, HNX.out.2, ← hr9] at hid
  rw [hid]
  have s17 := (HB8.out.ext hx9).cell 0
  have s180 := (HK8.out.ext hx9).cell 0
  have s181 := (HK8.out.ext hx9).cell 1
  have s16 := (HC8.out.ext hx9).cell 0
  have j17 := (HB8.out.ext hx9).lt
  have j18 := (HK8.out.ext hx9).lt
  have j16 := (HC8.out.ext hx9).lt
  simp at s17 s180 s181 s16
  have HX9 := Lib.hid (HX8.out.trans hx9)
  have HS9 := Lib.hid (HS8.out.ext hx9)
  have HR9 := Lib.hid (HR8.out.up hx9)
  clear hx9 hr9 hid p17 p180 p181
  generalize r9.next = nx9
  generalize r9.rounds = rd9
  generalize (sortI (ints r9.gone)).length = gl9
  go_wp2_with fail
  refine calls_abs (fun W => Ext w9 W) (((Ext.refl _).alloc _).alloc _) ?_
  intro w10 hx10
  refine (reads_any (.slice A6 3 c6) r6.a all g m w10 (HR9.out.up hx10) (HS9.out.ext hx10) HF.out.len (by have := HM.out; omega) HRD.out).mono ?_
  rintro e w11 ⟨rfl, hx11⟩
  have HX11 := Lib.hid (HX9.out.trans (hx10.trans hx11))
  clear hx10 hx11 s17 s180 s181 s16 j17 j18 j16
  go_wp2_with fail
  go_ret
  exact ⟨rfl, HX11.out⟩
end Go.Proofs.YtgjijcgkmofaaaaDoor
