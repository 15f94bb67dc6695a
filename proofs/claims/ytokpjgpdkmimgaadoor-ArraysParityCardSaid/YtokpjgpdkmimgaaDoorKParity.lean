/-
  ArraysParity: a sector that both mirrors lost is told by the parity, as long as its partner is there. Conditions: the first argument reads as a list of raw numbers; the table of powers of ten that the library reads is in place.
-/
import Derived.Test.YtokpjgpdkmimgaaDoorJ12
namespace Go.Proofs.YtokpjgpdkmimgaaDoor
set_option linter.unusedSimpArgs false
set_option linter.unusedVariables false
open Go.RowKit

set_option maxRecDepth 100000 in
set_option maxHeartbeats 8000000 in
theorem lawArraysParity_any (v : Value) (l : List Raw4) (at_ more : Int) (w : World) (h : SlR 4 32 RRaw w v l) (ha : I64 at_) (hm : I64 more) (ht : Tab w) :
    Calls Tryd.prog 10 #[v, .int .i64 at_, .int .i64 more] w fun e w' => e = .returned (.bool true) ∧ Ext w w' := by
  have HI := Lib.hid (And.intro ha hm)
  have HT := Lib.hid ht
  have HH := Lib.hid h
  clear ha hm ht h
  go_enter Tryd.func10, Tryd.ntmps10
  go_wp2_with fail
  refine (filled_any v l 16 w HH.out (by decide) (by decide) (by decide) HT.out).mono ?_
  rintro e w1 ⟨A, c, g, a, all, rfl, hx1, hg1, hs1, hr1, hf1⟩
  have HX1 := Lib.hid hx1
  have HS1 := Lib.hid hs1
  have HR1 := Lib.hid hr1
  have HF := Lib.hid hf1
  clear hx1 hg1 hs1 hr1 hf1
  go_wp2_with fail
  refine calls_abs (fun W => Ext w1 W ∧ Blk_ W w1.heap.size 40 #[.slice A 3 c]) ⟨(Ext.refl _).alloc _, Blk_.new _ _ _⟩ ?_
  rintro w2 ⟨hx2, hb2⟩
  obtain ⟨b8, h8⟩ : ∃ b8, b8 = w1.heap.size := ⟨_, rfl⟩
  rw [← h8] at hb2 ⊢
  have HX2 := Lib.hid (HX1.out.trans hx2)
  have HS2 := Lib.hid (HS1.out.ext hx2)
  have HR2 := Lib.hid (HR1.out.up hx2)
  have HB8 := Lib.hid hb2
  clear hx2 hb2 h8 HX1 HS1 HR1
  refine (picked_any at_ 16 w2 HI.out.1 (by omega) (by omega)).mono ?_
  rintro e w3 ⟨rfl, hw⟩
  obtain rfl := hw.symm
  have hpr := pick_range at_ 16 (by decide)
  obtain ⟨k, hk⟩ := Int.eq_ofNat_of_zero_le hpr.1
  rw [hk] at hpr ⊢
  have hk16 : (k : Int) < 16 := hpr.2
  have HK := Lib.hid (show k < 16 by omega)
  clear hpr hk
  have hjr := pick_range more 2 (by decide)
  obtain ⟨j, hj⟩ := Int.eq_ofNat_of_zero_le hjr.1
  have HJ := Lib.hid hj
  have HJ2 := Lib.hid (show j < 2 by omega)
  clear hjr hj
  obtain ⟨t0, t1, e1, tj, hy, t2, e2, how2, e3⟩ := keep_parity HF.out HK.out HJ2.out
  obtain ⟨q, hq⟩ : ∃ q : Nat, q = k / 2 := ⟨_, rfl⟩
  have hq2 : (k : Int) / 2 = (q : Int) := by omega
  have HQ := Lib.hid (show q < 8 by have := HK.out; omega)
  rw [← hq] at t2 e2 e3
  clear hq
  have HPK := Lib.hid (pt_lt HK.out (show 16 % 2 = 0 by decide))
  have HXO := Lib.hid (show bits .xor .i64 (k : Int) 1 = (pt k : Int) by rw [partner_xor k (by omega) (by omega), partner_pt])
  obtain ⟨t0', t1', hpart, _, _⟩ := HF.out.lostBoth (by decide) HK.out
  have HG12 := Lib.hid hpart.good
  have HL2 := Lib.hid (lose_two t0 t1)
  have HL1 := Lib.hid (lose_one tj)
  have HL3 := Lib.hid (lose_one t2)
  have HE1 := Lib.hid e1
  have HE2 := Lib.hid e2
  have HE3 := Lib.hid e3
  have HY := Lib.hid hy
  clear t0 t1 e1 tj hy t2 e2 e3 t0' t1' hpart
  have f8 := HB8.out.cell 0
  simp at f8
  go_wp2_with fail
  refine calls_abs (fun W => Ext w2 W ∧ Blk_ W w2.heap.size 76 ([(⟨4, 0, k, 0, 0⟩ : HA), ⟨4, 1, k, 0, 0⟩].flatMap encHA).toArray) ⟨(Ext.refl _).alloc _, Blk_.new _ _ _⟩ ?_
  rintro w4 ⟨hx4, hb4⟩
  refine (hurt_any A c a 16 (some ⟨w2.heap.size, 0, none⟩) 2 [⟨4, 0, k, 0, 0⟩, ⟨4, 1, k, 0, 0⟩] w4 (HR2.out.up hx4) HF.out.good (acts_row hb4) (by
    intro x hx
    have hkk := HK.out
    simp only [List.mem_cons, List.not_mem_nil, or_false] at hx
    rcases hx with rfl | rfl
    · exact ⟨by show (0 : Nat) < 3; decide, rfl, by unfold I64; dsimp only; omega⟩
    · exact ⟨by show (1 : Nat) < 3; decide, rfl, by unfold I64; dsimp only; omega⟩) (by show (2 : Nat) ≤ 1000000; decide)).mono ?_
  rintro e w5 ⟨A12, c12, rfl, hx5, hr5⟩
  rw [HL2.out] at hr5
  have HX5 := Lib.hid (HX2.out.trans (hx4.trans hx5))
  have HS5 := Lib.hid (HS2.out.ext (hx4.trans hx5))
  have HR5 := Lib.hid hr5
  clear hx4 hx5 hb4 hr5 HX2 HS2 HR2 HB8 f8
  go_wp2_with fail
  refine calls_abs (fun W => Ext w5 W ∧ Blk_ W w5.heap.size 40 #[.slice A12 3 c12]) ⟨(Ext.refl _).alloc _, Blk_.new _ _ _⟩ ?_
  rintro w6 ⟨hx6, hb6⟩
  obtain ⟨b12, h12⟩ : ∃ b12, b12 = w5.heap.size := ⟨_, rfl⟩
  rw [← h12] at hb6 ⊢
  refine (arrRead_any [.slice A12 3 c12] (lostBoth a k) k w6 (HR5.out.up hx6) (by unfold I64; omega)).mono ?_
  rintro e w7 ⟨rfl, hx7⟩
  rw [HE1.out]
  have HX7 := Lib.hid (HX5.out.trans (hx6.trans hx7))
  have HS7 := Lib.hid (HS5.out.ext (hx6.trans hx7))
  have HR12 := Lib.hid (HR5.out.up (hx6.trans hx7))
  have HB12 := Lib.hid (hb6.ext hx7)
  clear hx6 hx7 hb6 h12 HX5 HS5 HR5
  have f12 := HB12.out.cell 0
  simp at f12
  go_wp2_with fail
  obtain ⟨N0, hN0⟩ : ∃ N, N = w7.heap.size := ⟨_, rfl⟩
  have HN0 := Lib.hid hN0
  clear hN0 f12
  refine wp_region_valsA 99 none (F := ?_) ?_ [(fun (v : Value) (_ : World) => v = .agg #[.slice A12 3 c12]), (fun (v : Value) (_ : World) => v = .int .i64 more), (fun (v : Value) (_ : World) => v = .int .i64 (j : Int)), (fun (v : Value) (_ : World) => v = .int .i64 (k : Int)), (fun (v : Value) (_ : World) => v = .int .i64 (pt k : Int)), (fun (v : Value) (_ : World) => v = .agg #[.int .i64 4, .slice none 0 0, .string .empty, .int .i64 (j : Int), .int .i64 (pt k : Int), .int .i64 0, .int .i64 0]), (fun v u => ∃ g, v = .slice (some ⟨g, 0, none⟩) 1 1 ∧ Blk_ u g 76 ([(⟨4, j, pt k, 0, 0⟩ : HA)].flatMap encHA).toArray), (fun v u => ∃ A' c', v = .agg #[.slice A' 3 c'] ∧ RArr u [.slice A' 3 c'] (loseA (lostBoth a k) j (pt k))), (fun v u => ∃ g, v = .pointer (some ⟨g, 0, none⟩) ∧ Blk_ u g 40 #[.slice none 0 0] ∧ N0 ≤ g)] (by kernel_rfl) rfl (by kernel_rfl) rfl (by kernel_rfl) ?_ ?_ ?_
  rotate_left
  · intro vals
    simp only [putAll, List.dropLast, Act.put, List.setIfInBounds_toArray, List.set_cons_zero, List.set_cons_succ, Nat.zero_add, Nat.reduceAdd]
    rfl
  · intro j p hp v u u' h hr
    match j, hp with
    | 0, hp => obtain rfl := Option.some.inj hp; exact h
    | 1, hp => obtain rfl := Option.some.inj hp; exact h
    | 2, hp => obtain rfl := Option.some.inj hp; exact h
    | 3, hp => obtain rfl := Option.some.inj hp; exact h
    | 4, hp => obtain rfl := Option.some.inj hp; exact h
    | 5, hp => obtain rfl := Option.some.inj hp; exact h
    | 6, hp => obtain rfl := Option.some.inj hp; rw [if_neg (by decide)] at hr; exact (by obtain ⟨g, hg, hb⟩ := h; exact ⟨g, hg, hb.grown hr (fun q hq => by cases hq)⟩)
    | 7, hp => obtain rfl := Option.some.inj hp; rw [if_neg (by decide)] at hr; exact (by obtain ⟨A', c', hg, hb⟩ := h; exact ⟨A', c', hg, hb.up ((Ext.refl _).grown hr (fun q hq => by cases hq))⟩)
    | 8, hp => obtain rfl := Option.some.inj hp; rw [if_neg (by decide)] at hr; exact (by obtain ⟨g, hg, hb, hn⟩ := h; exact ⟨g, hg, hb.grown hr (fun q hq => by cases hq), hn⟩)
    | n + 9, hp => exact absurd hp (by simp)
  · refine ⟨?_, ?_, ?_, ?_, ?_, ?_, ?_, ?_, ?_, trivial⟩
    · intro vals W' e hd ho K hK
      have hx : World.grownBy _ W' none := e
      have cc := (HB12.out.drew.grown hx (fun q hq => by cases hq)).cell 0
      simp at cc
      refine st_quiet (v := ?_) ?_ ?_
      rotate_left
      · go_simp
        rfl
      exact hK _ _ _ rfl rfl (Ext.refl _)
    · intro vals W' e hd ho K hK
      have hx : World.grownBy _ W' none := e
      refine st_quiet (v := ?_) ?_ ?_
      rotate_left
      · go_simp
        rfl
      exact hK _ _ _ rfl (by first | exact rfl | exact congrArg (Value.int _) (by first | (rw [IntKind.wrap_i64]; omega) | (rw [IntKind.wrap_u8]; omega) | omega)) (Ext.refl _)
    · intro vals W' e hd ho K hK
      have h1 : vals 1 = .int .i64 more := hd 1 (by kernel_rfl)
      have hx : World.grownBy _ W' none := e
      go_wp2_with fail
      refine (picked_any more 2 _ HI.out.2 (by omega) (by omega)).mono ?_
      rintro e' u' ⟨rfl, rfl⟩
      exact hK _ _ _ (by first | rfl | (simp only [h1]; rfl)) (congrArg (Value.int _) HJ.out) (Ext.refl _)
    · intro vals W' e hd ho K hK
      have hx : World.grownBy _ W' none := e
      refine st_quiet (v := ?_) ?_ ?_
      rotate_left
      · go_simp
        rfl
      exact hK _ _ _ rfl (by first | exact rfl | exact congrArg (Value.int _) (by first | (rw [IntKind.wrap_i64]; omega) | (rw [IntKind.wrap_u8]; omega) | omega)) (Ext.refl _)
    · intro vals W' e hd ho K hK
      have h3 : vals 3 = .int .i64 (k : Int) := hd 3 (by kernel_rfl)
      have hx : World.grownBy _ W' none := e
      refine st_quiet (v := ?_) ?_ ?_
      rotate_left
      · go_simp
        rfl
      exact hK _ _ _ rfl (congrArg (Value.int _) HXO.out) (Ext.refl _)
    · intro vals W' e hd ho K hK
      have h2 : vals 2 = .int .i64 (j : Int) := hd 2 (by kernel_rfl)
      have h4 : vals 4 = .int .i64 (pt k : Int) := hd 4 (by kernel_rfl)
      have hx : World.grownBy _ W' none := e
      refine st_quiet (v := ?_) ?_ ?_
      rotate_left
      · go_simp
        rfl
      exact hK _ _ _ rfl (by first | exact rfl | exact congrArg (Value.int _) (by first | (rw [IntKind.wrap_i64]; omega) | (rw [IntKind.wrap_u8]; omega) | omega)) (Ext.refl _)
    · intro vals W' e hd ho K hK
      have h5 : vals 5 = .agg #[.int .i64 4, .slice none 0 0, .string .empty, .int .i64 (j : Int), .int .i64 (pt k : Int), .int .i64 0, .int .i64 0] := hd 5 (by kernel_rfl)
      have hx : World.grownBy _ W' none := e
      go_wp2_with fail
      exact hK _ _ _ (by first | rfl | (simp only [h5]; rfl)) ⟨W'.heap.size, rfl, Blk_.new _ _ _⟩ ((Ext.refl W').alloc _)
    · intro vals W' e hd ho K hK
      have h0 : vals 0 = .agg #[.slice A12 3 c12] := hd 0 (by kernel_rfl)
      obtain ⟨g6, h6, b6⟩ := hd 6 (by kernel_rfl)
      have hx : World.grownBy _ W' none := e
      go_wp2_with fail
      refine (hurt_any A12 c12 (lostBoth a k) 16 (some ⟨g6, 0, none⟩) 1 [⟨4, j, pt k, 0, 0⟩] W' (HR12.out.up ((Ext.refl _).drew.trans ((Ext.refl _).grown hx (fun q hq => by cases hq)))) HG12.out (acts_row b6) (by intro x hx; obtain rfl := List.mem_singleton.1 hx; exact ⟨by have := HJ2.out; dsimp only; omega, rfl, by have := HPK.out; unfold I64; dsimp only; omega⟩) (by show (1 : Nat) ≤ 1000000; decide)).mono ?_
      rintro e' u' ⟨A', c', rfl, hx', hr'⟩
      rw [HL1.out] at hr'
      exact hK _ _ _ (by first | rfl | (simp only [h0, h6]; rfl)) ⟨A', c', rfl, hr'⟩ hx'
    · intro vals W' e hd ho K hK
      have hx : World.grownBy _ W' none := e
      go_wp2_with fail
      exact hK _ _ _ rfl ⟨W'.heap.size, rfl, Blk_.new _ _ _, by have := hx.size; rw [HN0.out]; exact this⟩ ((Ext.refl W').alloc _)
  intro vals W' e hall K hK
  obtain ⟨A16, c16, h7, r7⟩ := hall 7 (by decide)
  obtain ⟨g16, h8, b8', n8⟩ := hall 8 (by decide)
  have hxx : Ext w7 W' := (Ext.refl _).drew.trans ((Ext.refl _).grown e (fun q hq => by cases hq))
  have m0 := b8'.cell 0
  have z0 := b8'.frozen 0
  simp at m0
  have HRY := Lib.hid (r7.box b8' (.slice A16 3 c16))
  have HBY := Lib.hid (b8'.set 0 (.slice A16 3 c16))
  have hgn : w7.heap.size ≤ g16 := by rw [← HN0.out]; exact n8
  have HXY := Lib.hid (hxx.setCell (p := ⟨g16, 0, none⟩) hgn (.slice A16 3 c16))
  have f12 := HXY.out.cell (show w7.cell? ⟨b12, 0, none⟩ = some (.slice A12 3 c12) by have := HB12.out.cell 0; simpa using this)
  clear hall e r7 b8' n8 hxx hgn HN0
  go_wp2_with fail
  refine calls_abs (fun W => Ext w7 W ∧ Blk_ W g16 40 #[.slice A16 3 c16] ∧ RArr W [.slice A16 3 c16] (loseA (lostBoth a k) j (pt k)) ∧ Blk_ W W'.heap.size 76 ([(⟨4, 2, (q : Nat), 0, 0⟩ : HA)].flatMap encHA).toArray) ⟨HXY.out.alloc _, HBY.out.alloc _, HRY.out.up ((Ext.refl _).alloc _), by have := Blk_.new (W'.setCell ⟨g16, 0, none⟩ (.slice A16 3 c16)) 76 ([(⟨4, 2, (q : Nat), 0, 0⟩ : HA)].flatMap encHA).toArray; rw [World.size_setCell] at this; exact this⟩ ?_
  rintro w8 ⟨hx8, hb16, hr16, hb8⟩
  refine (hurt_any A12 c12 (lostBoth a k) 16 (some ⟨W'.heap.size, 0, none⟩) 1 [⟨4, 2, (q : Nat), 0, 0⟩] w8 (HR12.out.up hx8) HG12.out (acts_row hb8) (by intro x hx; have hkk := HQ.out; obtain rfl := List.mem_singleton.1 hx; exact ⟨by show (2 : Nat) < 3; decide, rfl, by unfold I64; dsimp only; omega⟩) (by show (1 : Nat) ≤ 1000000; decide)).mono ?_
  rintro e w9 ⟨A17, c17, rfl, hx9, hr9⟩
  rw [HL3.out] at hr9
  have HX9 := Lib.hid (HX7.out.trans (hx8.trans hx9))
  have HS9 := Lib.hid (HS7.out.ext (hx8.trans hx9))
  have HB16 := Lib.hid (hb16.ext hx9)
  have HR16 := Lib.hid (hr16.up hx9)
  have HR9 := Lib.hid hr9
  clear hx8 hb16 hr16 hb8 hx9 hr9 HXY HBY HRY f12 HX7 HS7 HR12 HB12
  go_wp2_with fail
  refine calls_abs (fun W => Ext w9 W ∧ Blk_ W w9.heap.size 40 #[.slice A17 3 c17]) ⟨(Ext.refl _).alloc _, Blk_.new _ _ _⟩ ?_
  rintro w10 ⟨hx10, hb10⟩
  obtain ⟨b17, h17⟩ : ∃ b17, b17 = w9.heap.size := ⟨_, rfl⟩
  rw [← h17] at hb10 ⊢
  refine (arrRead_any [.slice A17 3 c17] (loseA (lostBoth a k) 2 q) k w10 (HR9.out.up hx10) (by unfold I64; omega)).mono ?_
  rintro e w11 ⟨rfl, hx11⟩
  rw [HE2.out]
  have HX11 := Lib.hid (HX9.out.trans (hx10.trans hx11))
  have HS11 := Lib.hid (HS9.out.ext (hx10.trans hx11))
  have HB11 := Lib.hid (HB16.out.ext (hx10.trans hx11))
  have HR11 := Lib.hid (HR16.out.up (hx10.trans hx11))
  have HR17 := Lib.hid (HR9.out.up (hx10.trans hx11))
  have HB17 := Lib.hid (hb10.ext hx11)
  clear hx10 hx11 hb10 h17 HX9 HS9 HB16 HR16 HR9
  have f17 := HB17.out.cell 0
  simp at f17
  go_wp2_with fail
  rw [HXO.out]
  refine (arrRead_any [.slice A17 3 c17] (loseA (lostBoth a k) 2 q) (pt k : Nat) w11 HR17.out (by have := HPK.out; unfold I64; omega)).mono ?_
  rintro e w12 ⟨rfl, hx12⟩
  rw [HE3.out]
  have HX12 := Lib.hid (HX11.out.trans hx12)
  have HS12 := Lib.hid (HS11.out.ext hx12)
  have HB12' := Lib.hid (HB11.out.ext hx12)
  have HR12' := Lib.hid (HR11.out.up hx12)
  clear hx12 HX11 HS11 HB11 HR11 HR17 HB17 f17
  have gk := HS12.out.cell (n := k) (by have := HK.out; rw [HF.out.len]; omega)
  have f16 := HB12'.out.cell 0
  simp at f16
  obtain ⟨S, hS⟩ : ∃ S, S = pl all k := ⟨_, rfl⟩
  rw [← hS] at gk ⊢
  clear hS
  go_wp2_with fail
  refine (reads_any (.slice A16 3 c16) (loseA (lostBoth a k) j (pt k)) all g 16 w12 HR12'.out HS12.out HF.out.len (by decide) HY.out).mono ?_
  rintro e w13 ⟨rfl, hx13⟩
  have HX13 := Lib.hid (HX12.out.trans hx13)
  clear hx13 gk f16
  go_wp2_with fail
  go_ret
  exact ⟨rfl, HX13.out⟩
end Go.Proofs.YtokpjgpdkmimgaaDoor
