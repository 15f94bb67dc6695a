/-
  array.Check and the document's ArrayMay: both tell whether an array may be; the law ArrayChecks. Conditions: the argument reads as an array.
-/
import Derived.Test.YtokpjgpdkmimgaaWDevCheck
namespace Go.Proofs.Ytokpjgpdkmimgaa
set_option linter.unusedSimpArgs false
set_option linter.unusedVariables false
open Go.RowKit

/-- An array that may be. -/
def arrMay : List Dev → Bool
  | [x, y, z] => devMay x && devMay y && devMay z && decide (16 ≤ x.sec.length) && decide (x.sec.length % 2 = 0) && decide (y.sec.length = x.sec.length) && decide (z.sec.length = x.sec.length / 2)
  | _ => false
theorem arrMay_len {a : List Dev} (h : a.length ≠ 3) : arrMay a = false := by
  match a, h with
  | [], _ => rfl
  | [_], _ => rfl
  | [_, _], _ => rfl
  | [_, _, _], h => exact absurd rfl h
  | _ :: _ :: _ :: _ :: _, _ => rfl
theorem arrMay_all {a : List Dev} {k : Nat} (hk : k < a.length) (h : devMay a[k] = false) : arrMay a = false := by
  match a, hk with
  | [x, y, z], hk =>
    match k, hk with
    | 0, _ => have h' : devMay x = false := h
              simp [arrMay, h']
    | 1, _ => have h' : devMay y = false := h
              simp [arrMay, h']
    | 2, _ => have h' : devMay z = false := h
              simp [arrMay, h']
  | [_], _ => rfl
  | [_, _], _ => rfl
  | _ :: _ :: _ :: _ :: _, _ => rfl
def arrCode (a : List Dev) : Int := if arrMay a then 0 else 9
theorem arrCode_false {a : List Dev} (h : arrMay a = false) : arrCode a = 9 := by unfold arrCode; rw [h]; rfl
theorem arrCode_true {a : List Dev} (h : arrMay a = true) : arrCode a = 0 := by unfold arrCode; rw [h]; rfl
theorem three {α : Type} {l : List α} (h : l.length = 3) : ∃ a b c, l = [a, b, c] := by
  match l, h with
  | [a, b, c], _ => exact ⟨a, b, c, rfl⟩

theorem arrMay_eq {a : List Dev} (h : a.length = 3) : arrMay a = (devMay (a[0]'(by omega)) && devMay (a[1]'(by omega)) && devMay (a[2]'(by omega)) && decide (16 ≤ (a[0]'(by omega)).sec.length) && decide ((a[0]'(by omega)).sec.length % 2 = 0) &&
    decide ((a[1]'(by omega)).sec.length = (a[0]'(by omega)).sec.length) && decide ((a[2]'(by omega)).sec.length = (a[0]'(by omega)).sec.length / 2)) := by
  obtain ⟨x, y, z, rfl⟩ := three h
  rfl

set_option maxRecDepth 100000 in
set_option maxHeartbeats 1000000 in
theorem arrCheck_any (cs : List Value) (a : List Dev) (w : World) (h : RArr w cs a) :
    Calls Try.prog 46 #[.agg cs.toArray] w fun e w' => e = .returned (.int .i64 (arrCode a)) ∧ Ext w w' := by
  obtain ⟨v, rfl, h1⟩ := h
  obtain ⟨A0, c0, rfl, hb0, hc0, hr⟩ := h1.rowR
  clear h1
  by_cases h3 : a.length = 3
  · have hr0 := hr
    have H3 := Lib.hid h3
    have h3i : ((a.length : Int) != 3) = false := by simp; omega
    clear h3
    go_enter Try.func46, Try.ntmps46
    go_wp2
    refine wp_abs (fun W => Ext w W ∧ Blk_ W w.heap.size 45 #[.slice A0 a.length c0]) ⟨(Ext.refl _).alloc _, Blk_.new _ _ _⟩ ?_
    rintro W ⟨hx, hb⟩
    go_loopw [14] (fun i wr => ∃ k : Nat, i = .int .i64 k ∧ k ≤ a.length ∧ Ext w wr ∧ Blk_ wr w.heap.size 45 #[.slice A0 a.length c0] ∧ ∀ j, (hj : j < a.length) → j < k → devMay a[j] = true) (fun i _ => a.length - (intOf i).toNat)
    case atStart => exact ⟨0, rfl, Nat.zero_le _, hx, hb, fun j _ h => absurd h (by omega)⟩
    case round =>
      clear hx hb
      obtain ⟨k, rfl, hk, hx, hb, hall⟩ := hrel
      have HA := Lib.hid hall
      clear hall
      have f0 := hb.cell 0
      simp at f0
      by_cases hlt : k < a.length
      · obtain ⟨b, o, rfl, g⟩ := hr k hlt
        obtain ⟨cs1, n1, q1, d1⟩ := g k hlt
        obtain ⟨B1, k1, B2, k2, rfl⟩ := d1.form
        have r0 := hx.cell (q1 0 _ rfl)
        have r1 := hx.cell (q1 1 _ rfl)
        simp only [Nat.add_zero] at r0
        have HR := Lib.hid hr
        have HR0 := Lib.hid hr0
        clear g q1 n1 hr hr0
        go_wp2_with fail
        refine calls_abs (fun W => Ext wr W) ((Ext.refl _).alloc _) ?_
        intro W1 hx1
        refine (devCheck_any [.slice B1 a[k].sec.length k1, .slice B2 a[k].lost.length k2] a[k] W1 (d1.up (hx.trans hx1))).mono ?_
        rintro e w2 ⟨rfl, hx2⟩
        cases hm : devMay a[k] with
        | false =>
          have hf : devCode a[k] = 9 := by unfold devCode; rw [hm]; rfl
          have hfin := arrCode_false (arrMay_all hlt hm)
          have HF := Lib.hid hfin
          rw [hf]
          clear hm hf hfin d1
          go_wp2
          go_ret
          exact ⟨ret_int HF.out.symm, (hx.trans hx1).trans hx2⟩
        | true =>
          have hf : devCode a[k] = 0 := by unfold devCode; rw [hm]; rfl
          rw [hf]
          have HM := Lib.hid hm
          clear hm hf d1
          go_wp2
          go_roundw
          case rel =>
            refine ⟨k + 1, by go_num, by omega, (hx.trans hx1).trans hx2, (hb.ext hx1).ext hx2, fun j hj hjk => ?_⟩
            by_cases hje : j = k
            · subst hje; exact HM.out
            · exact HA.out j hj (by omega)
          case measure => simp [intOf]; omega
      · have hk' : k = a.length := by omega
        have HK := Lib.hid hk'
        clear hk'
        have l0 : 0 < a.length := by have := H3.out; omega
        have l1 : 1 < a.length := by have := H3.out; omega
        have l2 : 2 < a.length := by have := H3.out; omega
        obtain ⟨b, o, rfl, g⟩ := hr 0 l0
        obtain ⟨cs0, n0, q0, d0⟩ := g 0 l0
        obtain ⟨cs1, n1, q1, d1⟩ := g 1 l1
        obtain ⟨cs2, n2, q2, d2⟩ := g 2 l2
        obtain ⟨B1, k1, B2, k2, rfl⟩ := d0.form
        obtain ⟨B3, k3, B4, k4, rfl⟩ := d1.form
        obtain ⟨B5, k5, B6, k6, rfl⟩ := d2.form
        have r0 := hx.cell (q0 0 _ rfl)
        have r1 := hx.cell (q1 0 _ rfl)
        have r2 := hx.cell (q2 0 _ rfl)
        simp only [Nat.add_zero, Nat.zero_mul, Nat.one_mul] at r0 r1 r2
        have m0 : devMay a[0] = true := HA.out 0 l0 (by have := HK.out; omega)
        have m1 : devMay a[1] = true := HA.out 1 l1 (by have := HK.out; omega)
        have m2 : devMay a[2] = true := HA.out 2 l2 (by have := HK.out; omega)
        have hdef := arrMay_eq H3.out
        rw [m0, m1, m2] at hdef
        have hxl := (devMay_len m0).2.1
        clear m0 m1 m2 q0 q1 q2 n0 n1 n2 d0 d1 d2 g hr hr0 HA
        generalize a[0] = x at *
        generalize a[1] = y at *
        generalize a[2] = z at *
        have HD := Lib.hid hdef
        clear hdef
        by_cases e1 : x.sec.length < 16
        · have e1' : decide ((x.sec.length : Int) < 16) = true := by simp; omega
          have hfin : arrCode a = 9 := arrCode_false (by rw [HD.out, decide_eq_false (by omega : ¬ 16 ≤ x.sec.length)]; rfl)
          have HF := Lib.hid hfin
          clear hfin e1
          go_wp2
          go_ret
          exact ⟨ret_int HF.out.symm, hx⟩
        · have e1' : decide ((x.sec.length : Int) < 16) = false := by simp; omega
          by_cases e2 : x.sec.length % 2 = 0
          · have e2' : ((x.sec.length : Int) % 2 != 0) = false := by simp; omega
            by_cases e3 : y.sec.length = x.sec.length
            · have e3' : ((y.sec.length : Int) != (x.sec.length : Int)) = false := by simp; omega
              by_cases e4 : z.sec.length = x.sec.length / 2
              · have e4' : ((z.sec.length : Int) != (x.sec.length : Int) / 2) = false := by simp; omega
                have hfin : arrCode a = 0 := arrCode_true (by rw [HD.out, decide_eq_true (by omega : 16 ≤ x.sec.length), decide_eq_true e2, decide_eq_true e3, decide_eq_true e4]; rfl)
                have HF := Lib.hid hfin
                clear hfin e1 e2 e3 e4
                go_wp2
                go_ret
                exact ⟨ret_int HF.out.symm, hx⟩
              · have e4' : ((z.sec.length : Int) != (x.sec.length : Int) / 2) = true := by simp; omega
                have hfin : arrCode a = 9 := arrCode_false (by rw [HD.out, decide_eq_false e4]; simp)
                have HF := Lib.hid hfin
                clear hfin e1 e2 e3 e4
                go_wp2
                go_ret
                exact ⟨ret_int HF.out.symm, hx⟩
            · have e3' : ((y.sec.length : Int) != (x.sec.length : Int)) = true := by simp; omega
              have hfin : arrCode a = 9 := arrCode_false (by rw [HD.out, decide_eq_false e3]; simp)
              have HF := Lib.hid hfin
              clear hfin e1 e2 e3
              go_wp2
              go_ret
              exact ⟨ret_int HF.out.symm, hx⟩
          · have e2' : ((x.sec.length : Int) % 2 != 0) = true := by simp; omega
            have hfin : arrCode a = 9 := arrCode_false (by rw [HD.out, decide_eq_false e2]; simp)
            have HF := Lib.hid hfin
            clear hfin e1 e2
            go_wp2
            go_ret
            exact ⟨ret_int HF.out.symm, hx⟩
  · have hfin := arrCode_false (arrMay_len h3)
    have h3i : ((a.length : Int) != 3) = true := by simp; omega
    rw [hfin]
    clear hfin hr h3
    go_enter Try.func46, Try.ntmps46
    go_wp2
    go_ret
    exact ⟨rfl, (Ext.refl _).alloc _⟩
set_option maxRecDepth 100000 in
set_option maxHeartbeats 1000000 in
theorem arrMay_any (cs : List Value) (a : List Dev) (w : World) (h : RArr w cs a) :
    Calls Try.prog 49 #[.agg cs.toArray] w fun e w' => e = .returned (.bool (arrMay a)) ∧ Ext w w' := by
  obtain ⟨v, rfl, h1⟩ := h
  obtain ⟨A0, c0, rfl, hb0, hc0, hr⟩ := h1.rowR
  clear h1
  by_cases h3 : a.length = 3
  · have hr0 := hr
    have H3 := Lib.hid h3
    have h3i : ((a.length : Int) != 3) = false := by simp; omega
    clear h3
    go_enter Try.func49, Try.ntmps49
    go_wp2
    refine wp_abs (fun W => Ext w W ∧ Blk_ W w.heap.size 45 #[.slice A0 a.length c0]) ⟨(Ext.refl _).alloc _, Blk_.new _ _ _⟩ ?_
    rintro W ⟨hx, hb⟩
    go_loopw [3] (fun i wr => ∃ k : Nat, i = .int .i64 k ∧ k ≤ 3 ∧ Ext w wr ∧ Blk_ wr w.heap.size 45 #[.slice A0 a.length c0] ∧ ∀ j, (hj : j < a.length) → j < k → devMay a[j] = true) (fun i _ => 3 - (intOf i).toNat)
    case atStart => exact ⟨0, rfl, Nat.zero_le _, hx, hb, fun j _ h => absurd h (by omega)⟩
    case round =>
      clear hx hb
      obtain ⟨k, rfl, hk, hx, hb, hall⟩ := hrel
      have HA := Lib.hid hall
      clear hall
      have f0 := hb.cell 0
      simp at f0
      have hl3 : a.length = 3 := H3.out
      by_cases hlt3 : k < 3
      · have hlt : k < a.length := by omega
        clear hl3
        obtain ⟨b, o, rfl, g⟩ := hr k hlt
        obtain ⟨cs1, n1, q1, d1⟩ := g k hlt
        obtain ⟨B1, k1, B2, k2, rfl⟩ := d1.form
        have r0 := hx.cell (q1 0 _ rfl)
        have r1 := hx.cell (q1 1 _ rfl)
        simp only [Nat.add_zero] at r0
        have HR := Lib.hid hr
        have HR0 := Lib.hid hr0
        clear g q1 n1 hr hr0
        go_wp2_with fail
        refine (devMay_any [.slice B1 a[k].sec.length k1, .slice B2 a[k].lost.length k2] a[k] wr (d1.up hx)).mono ?_
        rintro e w2 ⟨rfl, hx2⟩
        cases hm : devMay a[k] with
        | false =>
          have hfin := arrMay_all hlt hm
          have HF := Lib.hid hfin
          clear hm hfin d1
          go_wp2
          go_ret
          exact ⟨ret_bool HF.out.symm, hx.trans hx2⟩
        | true =>
          have HM := Lib.hid hm
          clear hm d1
          go_wp2
          go_roundw
          case rel =>
            refine ⟨k + 1, by go_num, by omega, hx.trans hx2, hb.ext hx2, fun j hj hjk => ?_⟩
            by_cases hje : j = k
            · subst hje; exact HM.out
            · exact HA.out j hj (by omega)
          case measure => simp [intOf]; omega
      · have hk' : k = a.length := by omega
        clear hl3
        have HK := Lib.hid hk'
        clear hk'
        have l0 : 0 < a.length := by have := H3.out; omega
        have l1 : 1 < a.length := by have := H3.out; omega
        have l2 : 2 < a.length := by have := H3.out; omega
        obtain ⟨b, o, rfl, g⟩ := hr 0 l0
        obtain ⟨cs0, n0, q0, d0⟩ := g 0 l0
        obtain ⟨cs1, n1, q1, d1⟩ := g 1 l1
        obtain ⟨cs2, n2, q2, d2⟩ := g 2 l2
        obtain ⟨B1, k1, B2, k2, rfl⟩ := d0.form
        obtain ⟨B3, k3, B4, k4, rfl⟩ := d1.form
        obtain ⟨B5, k5, B6, k6, rfl⟩ := d2.form
        have r0 := hx.cell (q0 0 _ rfl)
        have r1 := hx.cell (q1 0 _ rfl)
        have r2 := hx.cell (q2 0 _ rfl)
        simp only [Nat.add_zero, Nat.zero_mul, Nat.one_mul] at r0 r1 r2
        have m0 : devMay a[0] = true := HA.out 0 l0 (by have := HK.out; omega)
        have m1 : devMay a[1] = true := HA.out 1 l1 (by have := HK.out; omega)
        have m2 : devMay a[2] = true := HA.out 2 l2 (by have := HK.out; omega)
        have hdef := arrMay_eq H3.out
        rw [m0, m1, m2] at hdef
        have hxl := (devMay_len m0).2.1
        clear m0 m1 m2 q0 q1 q2 n0 n1 n2 d0 d1 d2 g hr hr0 HA
        generalize a[0] = x at *
        generalize a[1] = y at *
        generalize a[2] = z at *
        have HD := Lib.hid hdef
        clear hdef
        have hIn : ∀ (b : Bool), inB x.sec.length 16 64 = b → b = decide (16 ≤ x.sec.length) := by
          intro b hb; rw [← hb]; unfold inB; rw [Bool.eq_iff_iff]; simp; omega
        by_cases e1 : 16 ≤ x.sec.length
        · have n1 : (16 : Int) ≤ (x.sec.length : Int) := by omega
          have n2 : (x.sec.length : Int) ≤ 64 := by omega
          by_cases e2 : x.sec.length % 2 = 0
          · have e2' : ((x.sec.length : Int) % 2 == 0) = true := by simp; omega
            by_cases e3 : y.sec.length = x.sec.length
            · have e3' : ((y.sec.length : Int) == (x.sec.length : Int)) = true := by simp; omega
              have hfin : arrMay a = decide (z.sec.length = x.sec.length / 2) := by rw [HD.out, decide_eq_true e1, decide_eq_true e2, decide_eq_true e3]; simp
              have HF := Lib.hid hfin
              clear hfin e1 e2 e3 hIn
              go_wp2_with (go_at_call 50; refine (in_true _ _ _ _ n1 n2).mono ?_; rintro e w1 ⟨rfl, rfl⟩)
              go_ret
              exact ⟨ret_bool (by rw [HF.out, Bool.eq_iff_iff]; simp; omega), hx⟩
            · have e3' : ((y.sec.length : Int) == (x.sec.length : Int)) = false := by simp; omega
              have hfin : arrMay a = false := by rw [HD.out, decide_eq_false e3]; simp
              have HF := Lib.hid hfin
              clear hfin e1 e2 e3 hIn
              go_wp2_with (go_at_call 50; refine (in_true _ _ _ _ n1 n2).mono ?_; rintro e w1 ⟨rfl, rfl⟩)
              go_ret
              exact ⟨ret_bool HF.out.symm, hx⟩
          · have e2' : ((x.sec.length : Int) % 2 == 0) = false := by simp; omega
            have hfin : arrMay a = false := by rw [HD.out, decide_eq_false e2]; simp
            have HF := Lib.hid hfin
            clear hfin e1 e2 hIn
            go_wp2_with (go_at_call 50; refine (in_true _ _ _ _ n1 n2).mono ?_; rintro e w1 ⟨rfl, rfl⟩)
            go_ret
            exact ⟨ret_bool HF.out.symm, hx⟩
        · have n1 : (x.sec.length : Int) < 16 ∨ (64 : Int) < (x.sec.length : Int) := by omega
          have hfin : arrMay a = false := by rw [HD.out, decide_eq_false e1]; rfl
          have HF := Lib.hid hfin
          clear hfin e1 hIn
          go_wp2_with (go_at_call 50; refine (in_false _ _ _ _ n1).mono ?_; rintro e w1 ⟨rfl, rfl⟩)
          go_ret
          exact ⟨ret_bool HF.out.symm, hx⟩
  · have hfin := arrMay_len h3
    have h3i : ((a.length : Int) != 3) = true := by simp; omega
    rw [hfin]
    clear hfin hr h3
    go_enter Try.func49, Try.ntmps49
    go_wp2
    go_ret
    exact ⟨rfl, (Ext.refl _).alloc _⟩

end Go.Proofs.Ytokpjgpdkmimgaa
