/-
  The document's ArrayOf: three new devices, each with rows of the call's own; ReplacedOf and the law ArrayReplaces. Conditions: the argument reads as an array.
-/
import Derived.Test.YtokpjgpdkmimgaaWArrRepl
import Derived.Test.YtokpjgpdkmimgaaR4
import Derived.Test.YtokpjgpdkmimgaaWArrCopy
namespace Go.Proofs.Ytokpjgpdkmimgaa
set_option linter.unusedSimpArgs false
set_option linter.unusedVariables false
open Go.RowKit

set_option maxRecDepth 100000 in
set_option maxHeartbeats 800000 in
theorem arrayOfO_any (m : Nat) (w : World) (h1 : 16 ≤ m) (h2 : m ≤ 64) (h3 : m % 2 = 0) :
    Calls Try.prog 51 #[.int .i64 m] w fun e w' => ∃ g, e = .returned (.tuple #[.agg #[.slice (some ⟨g, 0, none⟩) 3 3], .int .i64 0]) ∧ Ext w w' ∧ w.heap.size ≤ g ∧ ∀ d : Nat, d < 3 → ∃ U1 u1 U2 u2,
      w'.cell? ⟨g, d * 2, none⟩ = some (.slice U1 (devAt m d).sec.length u1) ∧ w'.cell? ⟨g, d * 2 + 1, none⟩ = some (.slice U2 (devAt m d).lost.length u2) ∧ ODev 9 4 w' w.heap.size (.slice U1 (devAt m d).sec.length u1) (.slice U2 (devAt m d).lost.length u2) (devAt m d) := by
  have hm : True := trivial
  have HF := Lib.hid (arr_good (m := m) (by omega) (by omega) (by omega))
  have HM := Lib.hid (And.intro (show 16 ≤ m by omega) (show m ≤ 64 by omega))
  have hq : ((m : Int) / 2) = ((m / 2 : Nat) : Int) := by omega
  have HQ := Lib.hid (And.intro hq (And.intro (show newDevS (m : Int) 0 = (freshDev m 0, 0) from new_good (m := m) (f := 0) (by omega) (by omega) (by omega)) (show newDevS ((m / 2 : Nat) : Int) 512 = (freshDev (m / 2) 512, 0) from new_good (m := m / 2) (f := 512) (by omega) (by omega) (by omega))))
  have t1 : inB (m : Int) 16 64 = true := by simp [inB]; omega
  have t3 : ((m : Int) % 2 == 1) = false := by simp; omega
  have b2 : (m : Int) ≤ 64 := by omega
  have b3 : (0 : Int) ≤ (m : Int) / 2 := by omega
  have b4 : (m : Int) / 2 ≤ 64 := by omega
  clear h1 h2 h3 hq hm
  go_enter Try.func51, Try.ntmps51
  go_wp2_with (go_at_call 50; refine (in_any _ _ _ _).mono ?_; rintro e w9 ⟨rfl, rfl⟩; rw [t1])
  refine calls_abs (fun W => Ext w W ∧ Blk_ W w.heap.size 45 #[.slice none 0 0]) ⟨(Ext.refl _).alloc _, Blk_.new _ _ _⟩ ?_
  rintro W1 ⟨hx1, hr1⟩
  have HQ1 := Lib.hid hr1.lt
  refine (deviceOf_any (m : Int) 0 W1 ⟨by omega, by omega⟩ ⟨by decide, by decide⟩).mono ?_
  rintro e w2 ⟨X1, x1, X2, x2, rfl, hx2, hX⟩
  rw [HQ.out.2.1] at hX ⊢
  have hr2 := hr1.ext hx2
  have hxw2 := hx1.trans hx2
  clear hx1 hx2 hr1
  go_wp2_with fail
  refine calls_abs (fun W => Ext w2 W ∧ Blk_ W w2.heap.size 54 #[.slice X1 (freshDev m 0).sec.length x1, .slice X2 (freshDev m 0).lost.length x2]) ⟨(Ext.refl _).alloc _, Blk_.new _ _ _⟩ ?_
  rintro W3 ⟨hx3, hb3⟩
  refine (deviceOf_any (m : Int) 0 W3 ⟨by omega, by omega⟩ ⟨by decide, by decide⟩).mono ?_
  rintro e w4 ⟨Y1, y1, Y2, y2, rfl, hx4, hY⟩
  rw [HQ.out.2.1] at hY ⊢
  have hr4 := hr2.ext (hx3.trans hx4)
  have hX4 := hX.ext (hx3.trans hx4)
  have hb4 := hb3.ext hx4
  have hxw4 := hxw2.trans (hx3.trans hx4)
  have hsz2 := hx3.size
  have hsz4 := hx4.size
  have hlr := hr2.lt
  clear hx3 hx4 hb3 hr2 hX hxw2
  go_wp2_with fail
  refine calls_abs (fun W => Ext w4 W ∧ Blk_ W w4.heap.size 54 #[.slice Y1 (freshDev m 0).sec.length y1, .slice Y2 (freshDev m 0).lost.length y2]) ⟨(Ext.refl _).alloc _, Blk_.new _ _ _⟩ ?_
  rintro W5 ⟨hx5, hb5⟩
  refine (deviceOf_any ((m : Int) / 2) 512 W5 ⟨by omega, by omega⟩ ⟨by decide, by decide⟩).mono ?_
  rintro e w6 ⟨Z1, z1, Z2, z2, rfl, hx6, hZ⟩
  rw [HQ.out.1, HQ.out.2.2] at hZ ⊢
  have hx56 := hx5.trans hx6
  have hr6 := hr4.ext hx56
  have hX6 := hX4.ext hx56
  have hY6 := hY.ext hx56
  have hb46 := hb4.ext hx56
  have hb6 := hb5.ext hx6
  have HXW := Lib.hid (hxw4.trans hx56)
  have hsz5 := hx5.size
  have hsz6 := hx6.size
  have hl46 := hb46.lt
  have hl6 := hb6.lt
  have hl46' := hb4.lt
  have ha0 := hb46.cell 0
  have ha1 := hb46.cell 1
  have hb0 := hb6.cell 0
  have hb1 := hb6.cell 1
  have hr0 := hr6.cell 0
  have hrf := hr6.frozen 0
  simp at ha0 ha1 hb0 hb1 hr0
  have HO := Lib.hid (And.intro hX6 (And.intro hY6 hZ))
  have HB := fun o o' => Lib.hid (((hr6.set 0 (.slice (some ⟨w6.heap.size + 1, 0, none⟩) 3 3)).alloc o).alloc o')
  have HR6 := Lib.hid hr6
  have ne1 : ¬ (w.heap.size = w6.heap.size) := by omega
  have ne2 : ¬ (w6.heap.size = w.heap.size) := by omega
  have ne3 : ¬ (w.heap.size = w6.heap.size + 1) := by omega
  have ne4 : ¬ (w6.heap.size + 1 = w.heap.size) := by omega
  have hlw : w.heap.size < w6.heap.size := by omega
  have HSZ := Lib.hid (And.intro hsz2 (And.intro hsz4 (And.intro hsz5 hsz6)))
  clear hx5 hx6 hx56 hr4 hX4 hY hb4 hb5 hxw4 hX6 hY6 hZ hb46 hb6 hr6 hsz2 hsz4 hsz5 hsz6 t1 t3 b3 b4
  go_wp2_with fail
  refine bodyPost_ret (res_cell_tmp rfl rfl (HB _ _).out Try.underlying45 rfl (by kernel_rfl)) rfl ?_
  obtain ⟨s2, s4, s5, s6⟩ := HSZ.out
  have e1 : w.heap.size < W1.heap.size := HQ1.out
  have hlwz := hlw
  refine ⟨w6.heap.size + 1, rfl, ((HXW.out.setCell (p := ⟨w.heap.size, 0, none⟩) (Nat.le_refl _) _).alloc _).alloc _, by omega, ?_⟩
  have hf := fun (o o' : Obj) => ((Ext.refl (w6.setCell ⟨w.heap.size, 0, none⟩ (.slice (some ⟨w6.heap.size + 1, 0, none⟩) 3 3))).alloc o).alloc o'
  have hbk := fun (o : Obj) (cs : Array Value) => Blk_.new1 (w6.setCell ⟨w.heap.size, 0, none⟩ (.slice (some ⟨w6.heap.size + 1, 0, none⟩) 3 3)) o 54 cs
  simp only [World.size_setCell] at hbk
  intro d hd
  match d, hd with
  | 0, _ => exact ⟨X1, x1, X2, x2, (hbk _ _).cell 0, (hbk _ _).cell 1, ((HO.out.1.far (p := ⟨w.heap.size, 0, none⟩) (by simp; omega) _).ext (hf _ _)).base (by omega)⟩
  | 1, _ => exact ⟨Y1, y1, Y2, y2, (hbk _ _).cell 2, (hbk _ _).cell 3, ((HO.out.2.1.far (p := ⟨w.heap.size, 0, none⟩) (by simp; omega) _).ext (hf _ _)).base (by omega)⟩
  | 2, _ => exact ⟨Z1, z1, Z2, z2, (hbk _ _).cell 4, (hbk _ _).cell 5, ((HO.out.2.2.far (p := ⟨w.heap.size, 0, none⟩) (by simp; omega) _).ext (hf _ _)).base (by omega)⟩
set_option maxRecDepth 100000 in
set_option maxHeartbeats 8000000 in
/-REPL-/
theorem replacedOf_any (A : Option Addr) (c : Nat) (a : List Dev) (d0 : Int) (w : World) (h : RArr w [.slice A a.length c] a) (hd : I64 d0) :
    Calls Try.prog 23 #[.agg #[.slice A a.length c], .int .i64 d0] w fun e w' => ∃ A' c', e = .returned (.tuple #[.agg #[.slice A' (replaceS a d0).1.length c'], .int .i64 (replaceS a d0).2]) ∧ Ext w w' ∧ OArr 54 w' w.heap.size (.slice A' (replaceS a d0).1.length c') (replaceS a d0).1 := by
  have HH := Lib.hid h
  obtain ⟨hd1, hd2⟩ := hd
  clear h
  go_enter Try.func23, Try.ntmps23
  go_wp2_with fail
  refine calls_abs (fun W => Ext w W ∧ Blk_ W w.heap.size 45 #[.slice A a.length c] ∧ Blk_ W (w.heap.size + 1) 45 #[.slice none 0 0]) ⟨((Ext.refl _).alloc _).alloc _, (Blk_.new _ _ _).alloc _, Blk_.new1 _ _ _ _⟩ ?_
  rintro w1 ⟨hx1, hb2, hb4⟩
  obtain ⟨b2, hh2⟩ : ∃ b2, b2 = w.heap.size := ⟨_, rfl⟩
  rw [← hh2] at hb2 hb4 ⊢
  refine (arrMay_any [.slice A a.length c] a w1 (HH.out.up hx1)).mono ?_
  rintro e w2 ⟨rfl, hx2⟩
  have H2 := Lib.hid hh2
  have HX2 := Lib.hid (hx1.trans hx2)
  have HB2 := Lib.hid (hb2.ext hx2)
  have HB4 := Lib.hid (hb4.ext hx2)
  have HR2 := Lib.hid (HH.out.up (hx1.trans hx2))
  clear hx1 hx2 hb2 hb4 hh2
  by_cases hmay : arrMay a = true
  · rw [hmay]
    by_cases hrg : 0 ≤ d0 ∧ d0 ≤ 2
    · obtain ⟨d, rfl⟩ := Int.eq_ofNat_of_zero_le hrg.1
      have hd3 : (d : Int) < 3 := by omega
      obtain ⟨h3, _, _, _, g1, g2, g3, _, _⟩ := arr_parts hmay
      obtain ⟨m, hm⟩ : ∃ m, m = (dv a 0).sec.length := ⟨_, rfl⟩
      rw [← hm] at g1 g2 g3
      obtain ⟨dd, hdd⟩ : ∃ dd, dd = devAt m d := ⟨_, rfl⟩
      have HDD := Lib.hid hdd.symm
      have HRP := Lib.hid (show replaceS a d = (a.set d (lostDev dd), 0) by rw [repl_ok hmay (by omega), ← hm, hdd])
      have HL3 := Lib.hid h3
      have HMM := Lib.hid hm
      have HM := Lib.hid (show 16 ≤ m ∧ m ≤ 64 ∧ d < 3 by omega)
      have HME := Lib.hid g3
      obtain ⟨l1, l2, l3⟩ := devAt_len m d g1
      rw [← hdd] at l1 l2 l3
      have HLL := Lib.hid (And.intro l1 (And.intro l2 l3))
      have hm64 : (m : Int) ≤ 64 := by omega
      have hll : (dd.lost.length : Int) ≤ 64 := by omega
      have hin : inB (d : Int) 0 2 = true := by simp [inB]; omega
      rw [h3]
      rw [h3] at HR2 HB2
      have f2 := HB2.out.cell 0
      simp at f2
      have hrl : RArr w2 [.slice A a.length c] a := by rw [h3]; exact HR2.out
      obtain ⟨ga, oa, hA, hlook⟩ := hrl.look 0 (by omega)
      subst hA
      obtain ⟨A0, c0, B0, e0, q0, q1, hd0⟩ := hlook 0 (by omega)
      rw [← HMM.out] at q0
      simp at q0
      have HQ0 := Lib.hid q0
      clear h3 g1 g2 g3 hm hdd l1 l2 l3 hrg hmay hd1 hd2 hrl hlook q0 q1 hd0
      go_wp2_with (go_at_call 50; refine (in_any _ _ _ _).mono ?_; rintro e w9 ⟨rfl, rfl⟩; rw [hin])
      refine (arrayCopy_any [.slice (some ⟨ga, oa, none⟩) 3 c] a w2 HR2.out).mono ?_
      rintro e w3 ⟨A3, c3, rfl, hx3, ho3⟩
      have h3 := HL3.out
      rw [h3] at ho3 ⊢
      obtain ⟨g, rfl, hgb, hgl, hgf, hgc⟩ := ho3.at_ h3
      have HX3 := Lib.hid (HX2.out.trans hx3)
      have HO3 := Lib.hid ho3
      have HB23 := Lib.hid (HB2.out.ext hx3)
      have HB43 := Lib.hid (HB4.out.ext hx3)
      have HQ3 := Lib.hid (hx3.cell HQ0.out)
      have HGB := Lib.hid (show b2 < w2.heap.size ∧ b2 + 1 < w2.heap.size ∧ w2.heap.size ≤ g ∧ w2.heap.size ≤ w3.heap.size from ⟨HB2.out.lt, HB4.out.lt, hgb, hx3.size⟩)
      have f3 := (HB2.out.ext hx3).cell 0
      simp at f3
      have qq := HQ3.out
      have l3' := (HB2.out.ext hx3).lt
      have lga := World.block_lt_of_cell? w3 _ qq
      simp at lga
      clear f2 hx3 ho3 hgb hgl hgf hgc h3 HX2 HB2 HB4 HR2 hin HQ0
      go_wp2_with fail
      refine calls_abs (fun W => Ext w3 W ∧ Blk_ W w3.heap.size 45 #[.slice (some ⟨g, 0, none⟩) 3 c3]) ⟨(Ext.refl _).alloc _, Blk_.new _ _ _⟩ ?_
      rintro w5 ⟨hx5, hb5⟩
      obtain ⟨b6, h66⟩ : ∃ b6, b6 = w3.heap.size := ⟨_, rfl⟩
      rw [← h66] at hb5 ⊢
      have hlb6 := hb5.lt
      refine (arrayOfO_any m w5 HM.out.1 HM.out.2.1 HME.out).mono ?_
      rintro e w6 ⟨gb, rfl, hx6, hgb6, hdev⟩
      obtain ⟨X1, x1, X2, x2, u1, u2, o6⟩ := hdev d HM.out.2.2
      rw [HDD.out] at u1 u2 o6
      obtain ⟨gL, rfl, hNL0, hLl0, hLf0⟩ := own_form o6.2.1 HLL.out.1
      obtain ⟨N0, hN0⟩ : ∃ N, N = w5.heap.size := ⟨_, rfl⟩
      rw [← hN0] at o6 hNL0 hgb6
      have HN5 := Lib.hid (show b6 < N0 ∧ w3.heap.size ≤ N0 ∧ w3.heap.size = b6 by rw [hN0]; exact ⟨hlb6, hx5.size, h66.symm⟩)
      have HE36 := Lib.hid (hx5.trans hx6)
      have HX6 := Lib.hid (HX3.out.trans (hx5.trans hx6))
      have HO6 := Lib.hid (HO3.out.ext (hx5.trans hx6))
      have HB46 := Lib.hid (HB43.out.ext (hx5.trans hx6))
      have HB66 := Lib.hid (hb5.ext hx6)
      have HU16 := Lib.hid u1
      have HU26 := Lib.hid u2
      have HOD6 := Lib.hid o6
      have HGL3 := Lib.hid (show g < w3.heap.size from (HO3.out.atg HL3.out).2.1)
      clear hx5 hx6 hb5 h66 hlb6 hdev u1 u2 o6 hNL0 hLl0 hLf0 hN0 HX3 HB23 HB43 f3 qq l3' lga
      go_wp2_with fail
      refine wp_abs (fun W => Ext w6 W ∧ Blk_ W w6.heap.size 45 #[.slice (some ⟨gb, 0, none⟩) 3 3]) ⟨(Ext.refl _).alloc _, Blk_.new _ _ _⟩ ?_
      rintro w4 ⟨hx4, hb7⟩
      obtain ⟨b7, h77⟩ : ∃ b7, b7 = w6.heap.size := ⟨_, rfl⟩
      rw [← h77] at hb7 ⊢
      have HE34 := Lib.hid (HE36.out.trans hx4)
      have HX4 := Lib.hid (HX6.out.trans hx4)
      have HO4 := Lib.hid (HO6.out.ext hx4)
      have HB44 := Lib.hid (HB46.out.ext hx4)
      have HB24 := Lib.hid (HB66.out.ext hx4)
      have HU1 := Lib.hid (hx4.cell HU16.out)
      have HU2 := Lib.hid (hx4.cell HU26.out)
      have HODW := Lib.hid (HOD6.out.ext hx4)
      have HQ6 := Lib.hid (show w4.cell? ⟨b6, 0, none⟩ = some (.slice (some ⟨g, 0, none⟩) 3 c3) by have := HB24.out.cell 0; simpa using this)
      have HQ7 := Lib.hid (show w4.cell? ⟨b7, 0, none⟩ = some (.slice (some ⟨gb, 0, none⟩) 3 3) by have := hb7.cell 0; simpa using this)
      clear hx4 hb7 h77 HX6 HO6 HB46 HB66 HU16 HU26 HOD6
      refine wp_region_valsA 99 none (F := ?_) ?_ [(fun (v : Value) (_ : World) => v = .pointer (some ⟨b6, 0, none⟩)), (fun (v : Value) (_ : World) => v = .slice (some ⟨g, 0, none⟩) 3 c3), (fun (v : Value) (_ : World) => v = .int .i64 (d : Int)), (fun (v : Value) (_ : World) => v = .pointer (some ⟨b7, 0, none⟩)), (fun (v : Value) (_ : World) => v = .slice (some ⟨gb, 0, none⟩) 3 3), (fun (v : Value) (_ : World) => v = .int .i64 (d : Int)), (fun (v : Value) (_ : World) => v = .pointer (some ⟨gb, d * 2, none⟩)), (fun (v : Value) (_ : World) => v = .agg #[.slice X1 dd.sec.length x1, .slice (some ⟨gL, 0, none⟩) dd.lost.length x2]), (fun (v : Value) (_ : World) => v = .pointer (some ⟨g, d * 2, none⟩))] (by kernel_rfl) rfl (by kernel_rfl) rfl (by kernel_rfl) ?_ ?_ ?_
      rotate_left
      · intro vals
        simp only [putAll, List.dropLast, Act.put, List.setIfInBounds_toArray, List.set_cons_zero, List.set_cons_succ, Nat.zero_add, Nat.reduceAdd]
        rfl
      · intro j p hp v u u' h hr
        match j, hp with
        | 0, hp => obtain rfl := Option.some.inj hp; exact h
        | 1, hp => obtain rfl := Option.some.inj hp; exact h
        | 2, hp => obtain rfl := Option.some.inj hp; exact h
        | 3, hp => obtain rfl := Option.some.inj hp; exact h
        | 4, hp => obtain rfl := Option.some.inj hp; exact h
        | 5, hp => obtain rfl := Option.some.inj hp; exact h
        | 6, hp => obtain rfl := Option.some.inj hp; exact h
        | 7, hp => obtain rfl := Option.some.inj hp; exact h
        | 8, hp => obtain rfl := Option.some.inj hp; exact h
        | n + 9, hp => exact absurd hp (by simp)
      · refine ⟨?_, ?_, ?_, ?_, ?_, ?_, ?_, ?_, ?_, trivial⟩
        · intro vals W' e hd ho K hK
          have hx : World.grownBy _ W' none := e
          refine st_quiet (v := ?_) ?_ ?_
          rotate_left
          · go_simp
            rfl
          exact hK _ _ _ rfl (by first | exact rfl | exact congrArg (Value.int _) (by first | (rw [IntKind.wrap_i64]; omega) | (rw [IntKind.wrap_u8]; omega) | omega)) (Ext.refl _)
        · intro vals W' e hd ho K hK
          have h0 : vals 0 = .pointer (some ⟨b6, 0, none⟩) := hd 0 (by kernel_rfl)
          have hx : World.grownBy _ W' none := e
          have cc := ((Ext.refl _).drew.trans ((Ext.refl _).grown hx (fun q hq => by cases hq))).cell HQ6.out
          refine st_quiet (v := ?_) ?_ ?_
          rotate_left
          · go_simp
            rfl
          exact hK _ _ _ rfl rfl (Ext.refl _)
        · intro vals W' e hd ho K hK
          have hx : World.grownBy _ W' none := e
          refine st_quiet (v := ?_) ?_ ?_
          rotate_left
          · go_simp
            rfl
          exact hK _ _ _ rfl (by first | exact rfl | exact congrArg (Value.int _) (by first | (rw [IntKind.wrap_i64]; omega) | (rw [IntKind.wrap_u8]; omega) | omega)) (Ext.refl _)
        · intro vals W' e hd ho K hK
          have hx : World.grownBy _ W' none := e
          refine st_quiet (v := ?_) ?_ ?_
          rotate_left
          · go_simp
            rfl
          exact hK _ _ _ rfl (by first | exact rfl | exact congrArg (Value.int _) (by first | (rw [IntKind.wrap_i64]; omega) | (rw [IntKind.wrap_u8]; omega) | omega)) (Ext.refl _)
        · intro vals W' e hd ho K hK
          have h3 : vals 3 = .pointer (some ⟨b7, 0, none⟩) := hd 3 (by kernel_rfl)
          have hx : World.grownBy _ W' none := e
          have cc := ((Ext.refl _).drew.trans ((Ext.refl _).grown hx (fun q hq => by cases hq))).cell HQ7.out
          refine st_quiet (v := ?_) ?_ ?_
          rotate_left
          · go_simp
            rfl
          exact hK _ _ _ rfl rfl (Ext.refl _)
        · intro vals W' e hd ho K hK
          have hx : World.grownBy _ W' none := e
          refine st_quiet (v := ?_) ?_ ?_
          rotate_left
          · go_simp
            rfl
          exact hK _ _ _ rfl (by first | exact rfl | exact congrArg (Value.int _) (by first | (rw [IntKind.wrap_i64]; omega) | (rw [IntKind.wrap_u8]; omega) | omega)) (Ext.refl _)
        · intro vals W' e hd ho K hK
          have h4 : vals 4 = .slice (some ⟨gb, 0, none⟩) 3 3 := hd 4 (by kernel_rfl)
          have h5 : vals 5 = .int .i64 (d : Int) := hd 5 (by kernel_rfl)
          have hx : World.grownBy _ W' none := e
          refine st_quiet (v := ?_) ?_ ?_
          rotate_left
          · go_simp
            rfl
          exact hK _ _ _ rfl (by first | exact rfl | exact congrArg (Value.int _) (by first | (rw [IntKind.wrap_i64]; omega) | (rw [IntKind.wrap_u8]; omega) | omega)) (Ext.refl _)
        · intro vals W' e hd ho K hK
          have h6 : vals 6 = .pointer (some ⟨gb, d * 2, none⟩) := hd 6 (by kernel_rfl)
          have hx : World.grownBy _ W' none := e
          have cc := ((Ext.refl _).drew.trans ((Ext.refl _).grown hx (fun q hq => by cases hq))).cell HU1.out
          have cc' := ((Ext.refl _).drew.trans ((Ext.refl _).grown hx (fun q hq => by cases hq))).cell HU2.out
          refine st_quiet (v := ?_) ?_ ?_
          rotate_left
          · go_simp
            rfl
          exact hK _ _ _ rfl rfl (Ext.refl _)
        · intro vals W' e hd ho K hK
          have h1 : vals 1 = .slice (some ⟨g, 0, none⟩) 3 c3 := hd 1 (by kernel_rfl)
          have h2 : vals 2 = .int .i64 (d : Int) := hd 2 (by kernel_rfl)
          have hx : World.grownBy _ W' none := e
          refine st_quiet (v := ?_) ?_ ?_
          rotate_left
          · go_simp
            rfl
          exact hK _ _ _ rfl (by first | exact rfl | exact congrArg (Value.int _) (by first | (rw [IntKind.wrap_i64]; omega) | (rw [IntKind.wrap_u8]; omega) | omega)) (Ext.refl _)
      intro vals W' e hall K hK
      have h7 : vals 7 = .agg #[.slice X1 dd.sec.length x1, .slice (some ⟨gL, 0, none⟩) dd.lost.length x2] := hall 7 (by decide)
      have h8 : vals 8 = .pointer (some ⟨g, d * 2, none⟩) := hall 8 (by decide)
      have hxx : Ext w4 W' := (Ext.refl _).drew.trans ((Ext.refl _).grown e (fun q hq => by cases hq))
      have o12 := HODW.out.ext hxx
      obtain ⟨gL', hgLe, hNL, hLl, hLf⟩ := own_form o12.2.1 HLL.out.1
      obtain rfl : gL = gL' := by injection hgLe with e1; injection e1
      have hrow := HO4.out.ext hxx
      obtain ⟨_, hgl5, hgf5, hgc5⟩ := hrow.atg HL3.out
      obtain ⟨_, _, _, _, m0, m1, _⟩ := hgc5 d HM.out.2.2
      have z0 := hgf5 (d * 2)
      have z1 := hgf5 (d * 2 + 1)
      have hn5 := HN5.out
      have hgn : g < N0 := by have := HGL3.out; omega
      have hnew := o12.dev.newG o12.new1 o12.new2 hgn
      have hset := hrow.set (i := d) (by rw [HL3.out]; exact HM.out.2.2) hnew (o12.new1.mono (by have := HGB.out; have := HN5.out; omega)) (o12.new2.mono (by have := HGB.out; have := HN5.out; omega))
      have hgg := HGB.out
      have hs4 := HN5.out
      have hg3 := HGL3.out
      have hh2 := H2.out
      have HAV := Lib.hid (show ∀ i, i < (a.set d dd).length → i ≠ d → ∀ y1 y2, (((W'.setCell ⟨g, d * 2, none⟩ (.slice X1 dd.sec.length x1)).setCell ⟨g, d * 2 + 1, none⟩ (.slice (some ⟨gL, 0, none⟩) dd.lost.length x2))).cell? ⟨g, i * 2, none⟩ = some y1 →
          (((W'.setCell ⟨g, d * 2, none⟩ (.slice X1 dd.sec.length x1)).setCell ⟨g, d * 2 + 1, none⟩ (.slice (some ⟨gL, 0, none⟩) dd.lost.length x2))).cell? ⟨g, i * 2 + 1, none⟩ = some y2 → Av gL y1 ∧ Av gL y2 from by
        intro i hi hne y1 y2 hy1 hy2
        rw [List.length_set, HL3.out] at hi
        obtain ⟨_, _, _, hgc4⟩ := HO3.out.atg HL3.out
        obtain ⟨A1, c1, A2, c2, p0, p1, hdv⟩ := hgc4 i hi
        rw [World.cell?_setCell_other _ _ _ _ (by first | (simp; done) | (simp; omega)), World.cell?_setCell_other _ _ _ _ (by first | (simp; done) | (simp; omega)), (HE34.out.trans hxx).cell p0] at hy1
        rw [World.cell?_setCell_other _ _ _ _ (by first | (simp; done) | (simp; omega)), World.cell?_setCell_other _ _ _ _ (by first | (simp; done) | (simp; omega)), (HE34.out.trans hxx).cell p1] at hy2
        injection hy1 with hy1
        injection hy2 with hy2
        subst hy1 hy2
        obtain ⟨B1, k1, B2, k2, e', _, r1, r2⟩ := hdv.old (g := gL) (by omega)
        simp only [List.cons.injEq, and_true] at e'
        rw [e'.1, e'.2]
        exact ⟨r1, r2⟩)
      have c1' := World.cell?_setCell_same _ _ (.slice X1 dd.sec.length x1) m0
      have c2' := World.cell?_setCell_same _ _ (.slice (some ⟨gL, 0, none⟩) dd.lost.length x2) ((World.cell?_setCell_other _ ⟨g, d * 2, none⟩ ⟨g, d * 2 + 1, none⟩ (.slice X1 dd.sec.length x1) (by simp)).trans m1)
      have c1'' := (World.cell?_setCell_other _ ⟨g, d * 2 + 1, none⟩ ⟨g, d * 2, none⟩ (.slice (some ⟨gL, 0, none⟩) dd.lost.length x2) (by simp)).trans c1'
      have HC1 := Lib.hid c1''
      have HC2 := Lib.hid c2'
      have HSET := Lib.hid hset
      have HNEW := Lib.hid (And.intro o12.new1 o12.new2)
      have HOD := Lib.hid ((o12.far (p := ⟨g, d * 2, none⟩) (by dsimp only; omega) (.slice X1 dd.sec.length x1)).far (p := ⟨g, d * 2 + 1, none⟩) (by dsimp only; omega) (.slice (some ⟨gL, 0, none⟩) dd.lost.length x2))
      have HB29 := Lib.hid (((HB24.out.ext hxx).far (p := ⟨g, d * 2, none⟩) (by dsimp only; omega) (.slice X1 dd.sec.length x1)).far (p := ⟨g, d * 2 + 1, none⟩) (by dsimp only; omega) (.slice (some ⟨gL, 0, none⟩) dd.lost.length x2))
      have HB49 := Lib.hid (((HB44.out.ext hxx).far (p := ⟨g, d * 2, none⟩) (by dsimp only; omega) (.slice X1 dd.sec.length x1)).far (p := ⟨g, d * 2 + 1, none⟩) (by dsimp only; omega) (.slice (some ⟨gL, 0, none⟩) dd.lost.length x2))
      have HX9 := Lib.hid (((HX4.out.trans hxx).setCell (p := ⟨g, d * 2, none⟩) (by dsimp only; omega) (.slice X1 dd.sec.length x1)).setCell (p := ⟨g, d * 2 + 1, none⟩) (by dsimp only; omega) (.slice (some ⟨gL, 0, none⟩) dd.lost.length x2))
      have HGL9 := Lib.hid (show N0 ≤ gL ∧ g < N0 ∧ b2 + 1 < N0 from ⟨hNL, hgn, by omega⟩)
      have b29 := HB29.out.cell 0
      simp at b29
      clear hall e o12 hxx hNL hLl hLf hgLe hrow hgl5 hgf5 hgc5 hnew hset hn5 hgn hgg hs4 hg3 hh2
      go_wp2_with fail
      obtain ⟨w9, hw9⟩ : ∃ w9, w9 = ((W'.setCell ⟨g, d * 2, none⟩ (.slice X1 dd.sec.length x1)).setCell ⟨g, d * 2 + 1, none⟩ (.slice (some ⟨gL, 0, none⟩) dd.lost.length x2)) := ⟨_, rfl⟩
      rw [← hw9] at HAV HC1 HC2 HSET HOD HB29 HB49 HX9 ⊢
      clear hw9 b29 m0 m1 z0 z1 c1' c2' c1''
      go_loopw [9] (fun kv wr => ∃ (k : Nat), kv = .int .i64 k ∧ k ≤ dd.lost.length ∧ w9.grownBy wr (some gL) ∧ ODev 9 4 wr N0 (.slice X1 dd.sec.length x1) (.slice (some ⟨gL, 0, none⟩) dd.lost.length x2) ⟨dd.sec, List.replicate k true ++ List.replicate (dd.lost.length - k) false⟩) (fun kv _ => dd.lost.length - (intOf kv).toNat)
      case atStart => exact ⟨0, rfl, Nat.zero_le _, World.grownBy.refl _ _, by rw [List.replicate_zero, List.nil_append, Nat.sub_zero, ← HLL.out.2.2]; exact HOD.out⟩
      case round =>
        obtain ⟨k, rfl, hk, hgr, hod⟩ := hrel
        have hgg := HGB.out
        have hg9 := HGL9.out
        have hn5 := HN5.out
        have b2c := hgr.cell (a := ⟨b6, 0, none⟩) (v := .slice (some ⟨g, 0, none⟩) 3 c3) (by have := HB29.out.cell 0; simpa using this) (by intro e; injection e with e; dsimp only at e; omega)
        have r1c := hgr.cell HC1.out (by intro e; injection e with e; dsimp only at e; omega)
        have r2c := hgr.cell HC2.out (by intro e; injection e with e; dsimp only at e; omega)
        have HGR := Lib.hid hgr
        have HOK := Lib.hid hod
        by_cases hlt : k < dd.lost.length
        · have hki : (k : Int) < (dd.lost.length : Int) := by omega
          have hll2 : (List.replicate k true ++ List.replicate (dd.lost.length - k) false).length = dd.lost.length := by simp; omega
          have h22 := hod.2.1
          simp only at h22
          rw [hll2] at h22
          obtain ⟨bv, ck⟩ : ∃ bv, wr.cell? ⟨gL, k, none⟩ = some (.bool bv) := ⟨_, (h22.cellAt k (by omega)).trans (flat_bool_get _ k (by rw [hll2]; exact hlt))⟩
          have zk := h22.frozenAt k
          have HK := Lib.hid (And.intro hlt hll2)
          clear hgr hod h22 hlt hll2 hk hgg hg9 hn5
          go_wp2_with fail
          go_roundw
          case rel =>
            refine ⟨k + 1, by first | rfl | go_num, by have := HK.out; omega, grown_also HGR.out (setRow_by _ gL k (.bool true)), ?_⟩
            have := HOK.out.setLost (by simp only; rw [HK.out.2]) (by decide) k true
            simp only at this
            rw [fill_step _ _ HK.out.1] at this
            exact this
          case measure => have := HK.out; (simp [intOf]; try omega)
        · obtain rfl : k = dd.lost.length := by omega
          have b4c := hgr.cell (a := ⟨b2 + 1, 0, none⟩) (v := .slice none 0 0) (by have := HB49.out.cell 0; simpa using this) (by intro e; injection e with e; dsimp only at e; omega)
          have hb4r : Blk_ wr (b2 + 1) 45 #[.slice none 0 0] := HB49.out.grown hgr (fun q hq => by obtain rfl := Option.some.inj hq; omega)
          have z4 := hb4r.frozen 0
          have HB4R := Lib.hid (hb4r.set 0 (.slice (some ⟨g, 0, none⟩) 3 c3))
          have hdv : RDev wr [.slice X1 dd.sec.length x1, .slice (some ⟨gL, 0, none⟩) dd.lost.length x2] (lostDev dd) := by
            have := hod.dev
            rw [Nat.sub_self, List.replicate_zero, List.append_nil] at this
            exact this
          have hfill := HSET.out.fill (by rw [List.length_set, HL3.out]; exact HM.out.2.2) hgr (by omega) HAV.out HC1.out HC2.out (hdv.newG HNEW.out.1 HNEW.out.2 hg9.2.1)
          rw [List.set_set] at hfill
          have HFILL := Lib.hid hfill
          have HXF := Lib.hid (HX9.out.grown hgr (fun q hq => by obtain rfl := Option.some.inj hq; have := H2.out; omega))
          clear hgr hod hb4r hdv hfill hlt hk hgg hg9 hn5 r1c
          go_wp2_with fail
          refine bodyPost_ret (res_cell_tmp rfl rfl HB4R.out Try.underlying45 rfl (by kernel_rfl)) rfl ?_
          rw [HRP.out]
          refine ⟨some ⟨g, 0, none⟩, c3, ?_, HXF.out.setCell (by have := H2.out; dsimp only; omega) _, ?_⟩
          · rw [List.length_set, HL3.out]; rfl
          · have h5 := (HFILL.out.far (p := ⟨b2 + 1, 0, none⟩) HGB.out.2.1 (.slice (some ⟨g, 0, none⟩) 3 c3)).base (base' := w.heap.size) (by have := HGB.out; have := H2.out; omega)
            simp only
            rw [List.length_set, HL3.out]
            exact h5
    · have HRP := Lib.hid (repl_range hmay hrg)
      have hin : inB d0 0 2 = false := by simp [inB]; omega
      have b4c := HB4.out.cell 0
      have z4 := HB4.out.frozen 0
      simp at b4c
      have HB4R := Lib.hid (HB4.out.set 0 (.slice none 0 0))
      clear hrg hmay
      go_wp2_with (go_at_call 50; refine (in_any _ _ _ _).mono ?_; rintro e w9 ⟨rfl, rfl⟩; rw [hin])
      refine bodyPost_ret (res_cell_tmp rfl rfl HB4R.out Try.underlying45 rfl (by kernel_rfl)) rfl ?_
      rw [HRP.out]
      exact ⟨none, 0, rfl, HX2.out.setCell (by have := H2.out; dsimp only; omega) _, OArr.nil _ _ _⟩
  · have hmf : arrMay a = false := by simpa using hmay
    rw [hmf]
    have HRP := Lib.hid (repl_state (d := d0) hmf)
    have b4c := HB4.out.cell 0
    have z4 := HB4.out.frozen 0
    simp at b4c
    have HB4R := Lib.hid (HB4.out.set 0 (.slice none 0 0))
    clear hmay hmf
    go_wp2_with fail
    refine bodyPost_ret (res_cell_tmp rfl rfl HB4R.out Try.underlying45 rfl (by kernel_rfl)) rfl ?_
    rw [HRP.out]
    exact ⟨none, 0, rfl, HX2.out.setCell (by have := H2.out; dsimp only; omega) _, OArr.nil _ _ _⟩
end Go.Proofs.Ytokpjgpdkmimgaa
