/-
  array.Read and the document's ArrayRead: what the mirrors tell of a sector, or the parity and its partner; the law ArrayReads. Conditions: the argument reads as an array.
-/
import Derived.Test.YtokpjgpdkmimgaaDoorG6
namespace Go.Proofs.YtokpjgpdkmimgaaDoor
set_option linter.unusedSimpArgs false
set_option linter.unusedVariables false
open Go.RowKit

theorem RArr.form {w : World} {cs : List Value} {a : List Dev} (h : RArr w cs a) : ∃ A c, cs = [.slice A a.length c] := by
  obtain ⟨v, rfl, h1⟩ := h
  obtain ⟨A, c, rfl, _⟩ := h1.rowR
  exact ⟨A, c, rfl⟩
/-- The cells of a device of an array. -/
theorem RArr.look {w : World} {A : Option Addr} {c : Nat} {a : List Dev} (h : RArr w [.slice A a.length c] a) : ∀ k0, k0 < a.length → ∃ b o, A = some ⟨b, o, none⟩ ∧ ∀ k, k < a.length → ∃ A1 c1 A2 c2,
    w.cell? ⟨b, o + k * 2, none⟩ = some (.slice A1 (dv a k).sec.length c1) ∧ w.cell? ⟨b, o + k * 2 + 1, none⟩ = some (.slice A2 (dv a k).lost.length c2) ∧ RDev w [.slice A1 (dv a k).sec.length c1, .slice A2 (dv a k).lost.length c2] (dv a k) := by
  obtain ⟨v, e, h1⟩ := h
  obtain ⟨A', c', rfl, _, _, hr⟩ := h1.rowR
  simp only [List.cons.injEq, Value.slice.injEq, and_true, true_and] at e
  obtain ⟨rfl, rfl⟩ := e
  intro k0 hk0
  obtain ⟨b, o, rfl, hcell⟩ := hr k0 hk0
  refine ⟨b, o, rfl, fun k hk => ?_⟩
  have hd : dv a k = a[k] := by unfold dv; rw [List.getD_eq_getElem?_getD, List.getElem?_eq_getElem hk]; rfl
  rw [hd]
  obtain ⟨cs, hl, hcs, hdd⟩ := hcell k hk
  obtain ⟨A1, c1, A2, c2, rfl⟩ := hdd.form
  exact ⟨A1, c1, A2, c2, hcs 0 _ rfl, hcs 1 _ rfl, hdd⟩
theorem n2_of {a : List Dev} {n : Int} (h : arrTouch a n = 0) : 0 ≤ n ∧ n ≤ 63 := by
  have := partner_range h
  exact ⟨this.2.2.2.2.2.2.2.1, this.2.2.2.2.2.2.2.2.1⟩

set_option maxRecDepth 100000 in
set_option maxHeartbeats 800000 in
theorem arrAt_any (cs : List Value) (a : List Dev) (n : Int) (w : World) (h : RArr w cs a) (hn : I64 n) :
    Calls Tryd.prog 79 #[.agg cs.toArray, .int .i64 n] w fun e w' => e = .returned (.int .i64 (arrTouch a n)) ∧ Ext w w' := by
  obtain ⟨A, c, rfl⟩ := h.form
  go_enter Tryd.func79, Tryd.ntmps79
  go_wp2_with fail
  refine calls_abs (fun W => Ext w W ∧ Blk_ W w.heap.size 40 #[.slice A a.length c]) ⟨(Ext.refl _).alloc _, Blk_.new _ _ _⟩ ?_
  rintro W ⟨hx, hb⟩
  refine (arrCheck_any [.slice A a.length c] a W (h.up hx)).mono ?_
  rintro e w1 ⟨rfl, hx1⟩
  have hb1 := hb.ext hx1
  have f0 := hb1.cell 0
  simp at f0
  have hr1 := h.up (hx.trans hx1)
  have HX := Lib.hid (hx.trans hx1)
  clear h hb hx hx1
  cases hm : arrMay a with
  | false =>
    have hf : arrTouch a n = 9 := by unfold arrTouch; rw [hm]; rfl
    have HF := Lib.hid hf
    rw [arrCode_false hm]
    clear hm hf hr1
    go_wp2_with fail
    go_ret
    exact ⟨ret_int HF.out.symm, HX.out⟩
  | true =>
    obtain ⟨p1, p2, _⟩ := arr_parts hm
    rw [arrCode_true hm]
    obtain ⟨b, o, rfl, hl⟩ := hr1.look 0 (by omega)
    obtain ⟨A1, c1, A2, c2, q0, q1, hd⟩ := hl 0 (by omega)
    simp only [Nat.zero_mul, Nat.add_zero] at q0 q1
    have h3 : (0 : Int) < (a.length : Int) := by omega
    have hlen := (devMay_len p2).2.1
    have hf2 : arrTouch a n = if inB n 0 (((dv a 0).sec.length : Int) - 1) then 0 else 6 := by unfold arrTouch; rw [hm]; rfl
    clear hm hl hr1 p1 p2 hb1
    generalize (dv a 0).sec.length = L at *
    by_cases k1 : n < 0
    · have hr : inB n 0 ((L : Int) - 1) = false := by simp [inB]; omega
      rw [hr] at hf2
      have HF := Lib.hid hf2
      have t1 : decide (n < 0) = true := by simpa using k1
      clear hr hf2 k1
      go_wp2_with fail
      go_ret
      exact ⟨ret_int HF.out.symm, HX.out⟩
    · have t1 : decide (n < 0) = false := by simpa using k1
      by_cases k2 : (L : Int) ≤ n
      · have t2 : decide ((L : Int) ≤ n) = true := by simpa using k2
        have hr : inB n 0 ((L : Int) - 1) = false := by simp [inB]; omega
        rw [hr] at hf2
        have HF := Lib.hid hf2
        clear hr hf2 k1 k2
        go_wp2_with fail
        go_ret
        exact ⟨ret_int HF.out.symm, HX.out⟩
      · have t2 : decide ((L : Int) ≤ n) = false := by simpa using k2
        have hr : inB n 0 ((L : Int) - 1) = true := by simp [inB]; omega
        rw [hr] at hf2
        have HF := Lib.hid hf2
        clear hr hf2 k1 k2
        go_wp2_with fail
        go_ret
        exact ⟨ret_int HF.out.symm, HX.out⟩

set_option maxRecDepth 100000 in
set_option maxHeartbeats 800000 in
theorem arrTouched_any (cs : List Value) (a : List Dev) (n : Int) (w : World) (h : RArr w cs a) (hn : I64 n) :
    Calls Tryd.prog 116 #[.agg cs.toArray, .int .i64 n] w fun e w' => e = .returned (.int .i64 (arrTouch a n)) ∧ Ext w w' := by
  obtain ⟨A, c, rfl⟩ := h.form
  go_enter Tryd.func116, Tryd.ntmps116
  go_wp2_with fail
  refine calls_abs (fun W => Ext w W ∧ Blk_ W w.heap.size 40 #[.slice A a.length c]) ⟨(Ext.refl _).alloc _, Blk_.new _ _ _⟩ ?_
  rintro W ⟨hx, hb⟩
  refine (arrMay_any [.slice A a.length c] a W (h.up hx)).mono ?_
  rintro e w1 ⟨rfl, hx1⟩
  have hb1 := hb.ext hx1
  have f0 := hb1.cell 0
  simp at f0
  have hr1 := h.up (hx.trans hx1)
  have HX := Lib.hid (hx.trans hx1)
  clear h hb hx hx1
  cases hm : arrMay a with
  | false =>
    have hf : arrTouch a n = 9 := by unfold arrTouch; rw [hm]; rfl
    have HF := Lib.hid hf
    clear hm hf hr1
    go_wp2_with fail
    go_ret
    exact ⟨ret_int HF.out.symm, HX.out⟩
  | true =>
    obtain ⟨p1, p2, _⟩ := arr_parts hm
    obtain ⟨b, o, rfl, hl⟩ := hr1.look 0 (by omega)
    obtain ⟨A1, c1, A2, c2, q0, q1, hd⟩ := hl 0 (by omega)
    simp only [Nat.zero_mul, Nat.add_zero] at q0 q1
    have h3 : (0 : Int) < (a.length : Int) := by omega
    have hlen := (devMay_len p2).2.1
    have hlen' : ((dv a 0).sec.length : Int) ≤ 64 := by omega
    have hlen1 : (1 : Int) ≤ ((dv a 0).sec.length : Int) := by have := (devMay_len p2).1; omega
    have hf2 : arrTouch a n = if inB n 0 (((dv a 0).sec.length : Int) - 1) then 0 else 6 := by unfold arrTouch; rw [hm]; rfl
    clear hm hl hr1 p1 p2 hb1
    generalize (dv a 0).sec.length = L at *
    cases hr : inB n 0 ((L : Int) - 1) with
    | true =>
      rw [hr] at hf2
      have HF := Lib.hid hf2
      clear hf2
      go_wp2_with (go_at_call 87; refine (in_any _ _ _ _).mono ?_; rintro e w9 ⟨rfl, rfl⟩; rw [hr])
      go_ret
      exact ⟨ret_int HF.out.symm, HX.out⟩
    | false =>
      rw [hr] at hf2
      have HF := Lib.hid hf2
      clear hf2
      go_wp2_with (go_at_call 87; refine (in_any _ _ _ _).mono ?_; rintro e w9 ⟨rfl, rfl⟩; rw [hr])
      go_ret
      exact ⟨ret_int HF.out.symm, HX.out⟩

/-! What the mirrors tell. -/
def okB (p : ByteArray × Int) : Bool := decide (p.2 ≠ 0)
theorem mirror_hit {a : List Dev} {n : Int} (k : Nat) (hk : k < 2) (hall : ∀ j, j < k → (readS (dv a j) n n).2 ≠ 0) (h : (readS (dv a k) n n).2 = 0) : mirrorS a n = ((readS (dv a k) n n).1, (k : Int) + 1) := by
  unfold mirrorS
  match k, hk with
  | 0, _ => rw [if_pos h]; rfl
  | 1, _ => rw [if_neg (hall 0 (by omega)), if_pos h]; rfl
theorem mirror_miss {a : List Dev} {n : Int} (hall : ∀ j, j < 2 → (readS (dv a j) n n).2 ≠ 0) : mirrorS a n = (.empty, 0) := by
  unfold mirrorS
  rw [if_neg (hall 0 (by omega)), if_neg (hall 1 (by omega))]
set_option maxRecDepth 100000 in
set_option maxHeartbeats 800000 in
theorem mirror_any (cs : List Value) (a : List Dev) (n : Int) (w : World) (h : RArr w cs a) (h3 : a.length = 3) (hn : I64 n) :
    Calls Tryd.prog 80 #[.agg cs.toArray, .int .i64 n] w fun e w' => e = .returned (.tuple #[.string (mirrorS a n).1, .int .i64 (mirrorS a n).2, .bool (okB (mirrorS a n))]) ∧ Ext w w' := by
  obtain ⟨A, c, rfl⟩ := h.form
  have H3 := Lib.hid h3
  have h3i : (3 : Int) = (a.length : Int) := by omega
  have HN := Lib.hid hn
  clear h3
  go_enter Tryd.func80, Tryd.ntmps80
  go_wp2_with fail
  refine wp_abs (fun W => Ext w W ∧ Blk_ W w.heap.size 40 #[.slice A a.length c]) ⟨(Ext.refl _).alloc _, Blk_.new _ _ _⟩ ?_
  rintro W ⟨hx, hb⟩
  go_loopw [10] (fun i wr => ∃ k : Nat, i = .int .i64 k ∧ k ≤ 2 ∧ Ext w wr ∧ Blk_ wr w.heap.size 40 #[.slice A a.length c] ∧ ∀ j, j < k → (readS (dv a j) n n).2 ≠ 0) (fun i _ => 2 - (intOf i).toNat)
  case atStart => exact ⟨0, rfl, Nat.zero_le _, hx, hb, fun j hj => by omega⟩
  case round =>
    clear hx hb
    obtain ⟨k, rfl, hk, hx, hb, hall⟩ := hrel
    by_cases hlt : k < 2
    · obtain ⟨b, o, rfl, hl⟩ := h.look 0 (by have := H3.out; omega)
      obtain ⟨A1, c1, A2, c2, q0, q1, hd⟩ := hl k (by have := H3.out; omega)
      have q0' := hx.cell q0
      have q1' := hx.cell q1
      have f0 := hb.cell 0
      simp at f0
      have hk2 : (k : Int) < 2 := by omega
      have hk3 : (k : Int) < (a.length : Int) := by have := H3.out; omega
      have HALL := Lib.hid hall
      have HH := Lib.hid h
      have HD := Lib.hid hd
      clear hl q0 q1 hall hd h
      go_wp2_with fail
      refine calls_abs (fun W => Ext wr W) (by first | exact Ext.refl _ | exact (Ext.refl _).alloc _) ?_
      intro W1 hx1
      refine (devRead_any [.slice A1 (dv a k).sec.length c1, .slice A2 (dv a k).lost.length c2] (dv a k) n n W1 (HD.out.up (hx.trans hx1)) HN.out HN.out).mono ?_
      rintro e w2 ⟨rfl, hx2⟩
      have HX2 := Lib.hid ((hx.trans hx1).trans hx2)
      have HB2 := Lib.hid ((hb.ext hx1).ext hx2)
      clear f0 q0' q1' hx hx1 hx2 hb HD
      by_cases hc : (readS (dv a k) n n).2 = 0
      · have HM := Lib.hid (mirror_hit k hlt HALL.out hc)
        rw [hc]
        clear hc
        generalize (readS (dv a k) n n).1 = s at *
        go_wp2_with fail
        go_ret3
        refine ⟨?_, HX2.out⟩
        rw [HM.out]
        have : okB (s, (k : Int) + 1) = true := by unfold okB; simp; omega
        rw [this]
        rfl
      · have hc' : ((readS (dv a k) n n).2 == 0) = false := by simpa using hc
        have HC := Lib.hid hc
        clear hc
        generalize ht : (readS (dv a k) n n).2 = t at *
        have HT := Lib.hid ht
        clear ht
        go_wp2_with fail
        go_roundw
        case rel =>
          refine ⟨k + 1, by go_num, by omega, HX2.out, HB2.out, fun j hj => ?_⟩
          by_cases hje : j = k
          · subst hje; rw [HT.out]; exact HC.out
          · exact HALL.out j (by omega)
        case measure => simp [intOf]; omega
    · obtain rfl : k = 2 := by omega
      have HM := Lib.hid (mirror_miss hall)
      clear hall hb
      go_wp2_with fail
      go_ret3
      rw [HM.out]
      exact ⟨rfl, hx⟩

set_option maxRecDepth 100000 in
set_option maxHeartbeats 800000 in
theorem partner_any (n : Int) (w : World) (h0 : 0 ≤ n) (h1 : n ≤ 63) :
    Calls Tryd.prog 118 #[.int .i64 n] w fun e w' => e = .returned (.int .i64 (partner n)) ∧ w = w' := by
  by_cases hp : n % 2 = 0
  · have hf : partner n = n + 1 := by unfold partner; rw [if_pos hp]
    have HF := Lib.hid hf
    have t1 : (n % 2 == 0) = true := by simpa using hp
    clear hf hp
    go_enter Tryd.func118, Tryd.ntmps118
    go_wp2_with fail
    go_ret
    exact ⟨ret_int HF.out.symm, rfl⟩
  · have hf : partner n = n - 1 := by unfold partner; rw [if_neg hp]
    have HF := Lib.hid hf
    have t1 : (n % 2 == 0) = false := by simpa using hp
    clear hf hp
    go_enter Tryd.func118, Tryd.ntmps118
    go_wp2_with fail
    go_ret
    exact ⟨ret_int HF.out.symm, rfl⟩
theorem partner_xor (n : Int) (h0 : 0 ≤ n) (h1 : n ≤ 63) : bits .xor .i64 n 1 = partner n := by
  obtain ⟨k, rfl⟩ := Int.eq_ofNat_of_zero_le h0
  have hk : k < 64 := by omega
  clear h0 h1
  revert k
  decide +kernel
set_option maxRecDepth 100000 in
set_option maxHeartbeats 800000 in
theorem mirrored_any (cs : List Value) (a : List Dev) (n : Int) (w : World) (h : RArr w cs a) (h3 : a.length = 3) (hn : I64 n) :
    Calls Tryd.prog 117 #[.agg cs.toArray, .int .i64 n] w fun e w' => e = .returned (.tuple #[.string (mirrorS a n).1, .int .i64 (mirrorS a n).2]) ∧ Ext w w' := by
  obtain ⟨A, c, rfl⟩ := h.form
  obtain ⟨b, o, rfl, hl⟩ := h.look 0 (by omega)
  obtain ⟨A1, c1, A2, c2, q0, q1, hd0⟩ := hl 0 (by omega)
  obtain ⟨A3, c3, A4, c4, q2, q3, hd1⟩ := hl 1 (by omega)
  simp only [Nat.zero_mul, Nat.add_zero, Nat.one_mul] at q0 q1 q2 q3
  have h3i : (0 : Int) < (a.length : Int) := by omega
  have h3j : (1 : Int) < (a.length : Int) := by omega
  have HN := Lib.hid hn
  have H3 := Lib.hid h3
  clear hl h3 hn
  go_enter Tryd.func117, Tryd.ntmps117
  have e1 : Ext w (w.alloc (.cells #[.slice (some ⟨b, o, none⟩) a.length c] 40)) := (Ext.refl _).alloc _
  have q0' := e1.cell q0
  have q1' := e1.cell q1
  have q2' := e1.cell q2
  have q3' := e1.cell q3
  have HQ := Lib.hid (And.intro q2 q3)
  clear e1 q0 q1 q2 q3
  go_wp2_with fail
  refine calls_abs (fun W => Ext w W ∧ Blk_ W w.heap.size 40 #[.slice (some ⟨b, o, none⟩) a.length c]) ⟨(Ext.refl _).alloc _, Blk_.new _ _ _⟩ ?_
  rintro W ⟨hx, hb⟩
  clear q0' q1' q2' q3'
  refine (deviceRead_any [.slice A1 (dv a 0).sec.length c1, .slice A2 (dv a 0).lost.length c2] (dv a 0) n n W (hd0.up hx) HN.out HN.out).mono ?_
  rintro e w1 ⟨rfl, hx1⟩
  have hb1 := hb.ext hx1
  have hxw := hx.trans hx1
  have f0 := hb1.cell 0
  simp at f0
  have q2 := hxw.cell HQ.out.1
  have q3 := hxw.cell HQ.out.2
  have HX := Lib.hid hxw
  have HD1 := Lib.hid hd1
  clear hb hb1 hx hx1 hxw hd0 hd1
  by_cases hc : (readS (dv a 0) n n).2 = 0
  · have hm : mirrorS a n = ((readS (dv a 0) n n).1, 1) := by unfold mirrorS; rw [if_pos hc]
    have HM := Lib.hid hm
    rw [hc]
    clear hc hm
    generalize (readS (dv a 0) n n).1 = s at *
    go_wp2_with fail
    go_ret2
    rw [HM.out]
    exact ⟨rfl, HX.out⟩
  · have hm : mirrorS a n = if (readS (dv a 1) n n).2 = 0 then ((readS (dv a 1) n n).1, 2) else (.empty, 0) := by unfold mirrorS; rw [if_neg hc]
    have hc' : ((readS (dv a 0) n n).2 == 0) = false := by simpa using hc
    clear hc
    generalize (readS (dv a 0) n n).2 = t at *
    have HM := Lib.hid hm
    clear hm
    go_wp2_with fail
    refine (deviceRead_any [.slice A3 (dv a 1).sec.length c3, .slice A4 (dv a 1).lost.length c4] (dv a 1) n n _ (HD1.out.up HX.out) HN.out HN.out).mono ?_
    rintro e w2 ⟨rfl, hx2⟩
    have HX2 := Lib.hid (HX.out.trans hx2)
    clear hx2 f0 q2 q3
    have hm := HM.out
    by_cases hc : (readS (dv a 1) n n).2 = 0
    · rw [if_pos hc] at hm
      have HM2 := Lib.hid hm
      rw [hc]
      clear hc hm HM
      generalize (readS (dv a 1) n n).1 = s at *
      go_wp2_with fail
      go_ret2
      rw [HM2.out]
      exact ⟨rfl, HX2.out⟩
    · rw [if_neg hc] at hm
      have HM2 := Lib.hid hm
      have hc2 : ((readS (dv a 1) n n).2 == 0) = false := by simpa using hc
      clear hc hm HM
      generalize (readS (dv a 1) n n).2 = t2 at *
      go_wp2_with fail
      go_ret2
      rw [HM2.out]
      exact ⟨rfl, HX2.out⟩

theorem read_bad {a : List Dev} {n : Int} (h : arrTouch a n ≠ 0) : arrReadS a n = (.empty, 0, arrTouch a n) := by unfold arrReadS; rw [if_pos h]
theorem read_mir {a : List Dev} {n : Int} (h : arrTouch a n = 0) (h2 : (mirrorS a n).2 ≠ 0) : arrReadS a n = ((mirrorS a n).1, (mirrorS a n).2, 0) := by unfold arrReadS; rw [if_neg (by simpa using h), if_pos h2]
theorem read_lost {a : List Dev} {n : Int} (h : arrTouch a n = 0) (h2 : (mirrorS a n).2 = 0) (h3 : (mirrorS a (partner n)).2 = 0 ∨ (parS a n).2 ≠ 0) : arrReadS a n = (.empty, 0, 11) := by
  unfold arrReadS; rw [if_neg (by simpa using h), if_neg (by simpa using h2), if_pos h3]
theorem read_par {a : List Dev} {n : Int} (h : arrTouch a n = 0) (h2 : (mirrorS a n).2 = 0) (h3 : (mirrorS a (partner n)).2 ≠ 0) (h4 : (parS a n).2 = 0) : arrReadS a n = (xorS (parS a n).1 (mirrorS a (partner n)).1, 3, 0) := by
  unfold arrReadS; rw [if_neg (by simpa using h), if_neg (by simpa using h2), if_neg (by rintro (h | h); exact h3 h; exact h h4)]
theorem okB_true {p : ByteArray × Int} (h : p.2 ≠ 0) : okB p = true := by unfold okB; simpa using h
theorem okB_false {p : ByteArray × Int} (h : p.2 = 0) : okB p = false := by unfold okB; simpa using h
theorem mirror_range (a : List Dev) (n : Int) : (mirrorS a n).2 = 0 ∨ (mirrorS a n).2 = 1 ∨ (mirrorS a n).2 = 2 := by
  unfold mirrorS
  split
  · exact .inr (.inl rfl)
  · split
    · exact .inr (.inr rfl)
    · exact .inl rfl
set_option maxRecDepth 100000 in
set_option maxHeartbeats 800000 in
theorem arrRead_any (cs : List Value) (a : List Dev) (n : Int) (w : World) (h : RArr w cs a) (hn : I64 n) :
    Calls Tryd.prog 39 #[.agg cs.toArray, .int .i64 n] w fun e w' => e = .returned (.tuple #[.string (arrReadS a n).1, .int .i64 (arrReadS a n).2.1, .int .i64 (arrReadS a n).2.2]) ∧ Ext w w' := by
  obtain ⟨A, c, rfl⟩ := h.form
  go_enter Tryd.func39, Tryd.ntmps39
  go_wp2_with fail
  refine calls_abs (fun W => Ext w W ∧ Blk_ W w.heap.size 40 #[.slice A a.length c]) ⟨(Ext.refl _).alloc _, Blk_.new _ _ _⟩ ?_
  rintro W ⟨hx, hb⟩
  refine (arrAt_any [.slice A a.length c] a n W (h.up hx) hn).mono ?_
  rintro e w1 ⟨rfl, hx1⟩
  have hb1 := hb.ext hx1
  have f0 := hb1.cell 0
  simp at f0
  have hr1 := h.up (hx.trans hx1)
  have hxw := hx.trans hx1
  clear h hb hx hx1
  by_cases ht : arrTouch a n = 0
  · obtain ⟨n0, n63⟩ := n2_of ht
    have h3 := (arr_parts (arrTouch_zero.1 ht).1).1
    rw [ht]
    have HT := Lib.hid ht
    have HN := Lib.hid hn
    have H3 := Lib.hid h3
    have HNN := Lib.hid (And.intro n0 n63)
    clear ht hn h3 n0 n63
    go_wp2_with fail
    refine (mirror_any [.slice A a.length c] a n _ hr1 H3.out HN.out).mono ?_
    rintro e w2 ⟨rfl, hx2⟩
    by_cases hm : (mirrorS a n).2 = 0
    · rw [okB_false hm]
      have hb2 := hb1.ext hx2
      have f02 := hb2.cell 0
      simp at f02
      have hr2 := hr1.up hx2
      have hxw2 := hxw.trans hx2
      obtain ⟨b, o, rfl, hl⟩ := hr2.look 0 (by have := H3.out; omega)
      obtain ⟨A1, c1, A2, c2, q0, q1, hd⟩ := hl 2 (by have := H3.out; omega)
      simp at q0 q1
      have h3i : (2 : Int) < (a.length : Int) := by have := H3.out; omega
      obtain ⟨n0, n63⟩ := HNN.out
      have HM := Lib.hid hm
      have HX2 := Lib.hid hxw2
      have HR2 := Lib.hid hr2
      have HB2 := Lib.hid hb2
      have HD := Lib.hid hd
      clear hb1 f0 hr1 hxw hx2 hl hm hxw2 hr2 hb2 hd
      have HM2 := Lib.hid (show (mirrorS a n).2 = 0 from HM.out)
      generalize (mirrorS a n).1 = s1
      generalize (mirrorS a n).2 = s2
      go_wp2_with fail
      refine calls_abs (fun W => Ext w2 W) (by first | exact Ext.refl _ | exact (Ext.refl _).alloc _) ?_
      intro W3 hx3
      refine (devRead_any [.slice A1 (dv a 2).sec.length c1, .slice A2 (dv a 2).lost.length c2] (dv a 2) (n / 2) (512 + n / 2) W3 (HD.out.up hx3) ⟨by omega, by omega⟩ ⟨by omega, by omega⟩).mono ?_
      rintro e w4 ⟨rfl, hx4⟩
      have hb4 := (HB2.out.ext hx3).ext hx4
      have f04 := hb4.cell 0
      simp at f04
      have HX4 := Lib.hid (HX2.out.trans (hx3.trans hx4))
      have HR4 := Lib.hid (HR2.out.up (hx3.trans hx4))
      have HPX := Lib.hid (partner_xor n n0 n63)
      clear q0 q1 f02 hx3 hx4 hb4
      go_wp2_with fail
      rw [HPX.out]
      refine (mirror_any [.slice (some ⟨b, o, none⟩) a.length c] a (partner n) _ HR4.out H3.out ⟨by have := partner_range HT.out; omega, by have := partner_range HT.out; omega⟩).mono ?_
      rintro e w5 ⟨rfl, hx5⟩
      have HX5 := Lib.hid (HX4.out.trans hx5)
      clear hx5 f04
      by_cases hp : (readS (dv a 2) (n / 2) (512 + n / 2)).2 = 0
      · rw [hp]
        by_cases hq : (mirrorS a (partner n)).2 = 0
        · rw [okB_false hq]
          have HF := Lib.hid (read_lost HT.out HM2.out (.inl hq))
          clear hp hq
          go_wp2_with fail
          go_ret3
          rw [HF.out]
          exact ⟨rfl, HX5.out⟩
        · rw [okB_true hq]
          have HF := Lib.hid (read_par HT.out HM2.out hq hp)
          have hsz : (parS a n).1.size = (mirrorS a (partner n)).1.size := by rw [mirrorS_size hq, show (parS a n).1.size = 24 from readS_size hp]
          have hs24 : (parS a n).1.size = 24 := readS_size hp
          have HZ := Lib.hid (And.intro hsz hs24)
          have hpar : readS (dv a 2) (n / 2) (512 + n / 2) = parS a n := rfl
          rw [hpar]
          clear hp hq hsz hs24 hpar
          generalize hP : (parS a n).1 = P at *
          generalize hQ : (mirrorS a (partner n)).1 = Q at *
          clear hP hQ
          go_wp2_with fail
          refine (xor_any P Q _ HZ.out.1 (by have := HZ.out.2; omega)).mono ?_
          rintro e w6 ⟨rfl, hx6⟩
          have HX6 := Lib.hid (HX5.out.trans hx6)
          clear hx6
          go_wp2_with fail
          go_ret3
          rw [HF.out]
          exact ⟨rfl, HX6.out⟩
      · have hp' : ((readS (dv a 2) (n / 2) (512 + n / 2)).2 != 0) = true := by simpa using hp
        have HF := Lib.hid (read_lost HT.out HM2.out (.inr hp))
        clear hp
        generalize (readS (dv a 2) (n / 2) (512 + n / 2)).2 = tp at *
        go_wp2_with fail
        go_ret3
        rw [HF.out]
        exact ⟨rfl, HX5.out⟩
    · rw [okB_true hm]
      have HF := Lib.hid (read_mir HT.out hm)
      clear hm hb1 hr1 f0
      have HX2 := Lib.hid (hxw.trans hx2)
      clear hxw hx2
      generalize (mirrorS a n).1 = s1 at *
      generalize (mirrorS a n).2 = s2 at *
      go_wp2_with fail
      go_ret3
      rw [HF.out]
      exact ⟨rfl, HX2.out⟩
  · have HF := Lib.hid (read_bad ht)
    have ht' : (arrTouch a n != 0) = true := by simpa using ht
    clear ht hr1 hb1
    generalize arrTouch a n = t at *
    go_wp2_with fail
    go_ret3
    rw [HF.out]
    exact ⟨rfl, hxw⟩

set_option maxRecDepth 100000 in
set_option maxHeartbeats 800000 in
theorem arrayRead_any (cs : List Value) (a : List Dev) (n : Int) (w : World) (h : RArr w cs a) (hn : I64 n) :
    Calls Tryd.prog 94 #[.agg cs.toArray, .int .i64 n] w fun e w' => e = .returned (.tuple #[.string (arrReadS a n).1, .int .i64 (arrReadS a n).2.1, .int .i64 (arrReadS a n).2.2]) ∧ Ext w w' := by
  obtain ⟨A, c, rfl⟩ := h.form
  go_enter Tryd.func94, Tryd.ntmps94
  go_wp2_with fail
  refine calls_abs (fun W => Ext w W ∧ Blk_ W w.heap.size 40 #[.slice A a.length c]) ⟨(Ext.refl _).alloc _, Blk_.new _ _ _⟩ ?_
  rintro W ⟨hx, hb⟩
  refine (arrTouched_any [.slice A a.length c] a n W (h.up hx) hn).mono ?_
  rintro e w1 ⟨rfl, hx1⟩
  have hb1 := hb.ext hx1
  have f0 := hb1.cell 0
  simp at f0
  have hr1 := h.up (hx.trans hx1)
  have hxw := hx.trans hx1
  clear h hb hx hx1
  by_cases ht : arrTouch a n = 0
  · obtain ⟨n0, n63⟩ := n2_of ht
    have h3 := (arr_parts (arrTouch_zero.1 ht).1).1
    rw [ht]
    have HT := Lib.hid ht
    have HN := Lib.hid hn
    have H3 := Lib.hid h3
    have HNN := Lib.hid (And.intro n0 n63)
    clear ht hn h3 n0 n63
    go_wp2_with fail
    refine (mirrored_any [.slice A a.length c] a n _ hr1 H3.out HN.out).mono ?_
    rintro e w2 ⟨rfl, hx2⟩
    by_cases hm : (mirrorS a n).2 = 0
    · have hm' : decide (0 < (mirrorS a n).2) = false := by simp; omega
      have hb2 := hb1.ext hx2
      have f02 := hb2.cell 0
      simp at f02
      have hr2 := hr1.up hx2
      have hxw2 := hxw.trans hx2
      obtain ⟨b, o, rfl, hl⟩ := hr2.look 0 (by have := H3.out; omega)
      obtain ⟨A1, c1, A2, c2, q0, q1, hd⟩ := hl 2 (by have := H3.out; omega)
      simp at q0 q1
      have h3i : (2 : Int) < (a.length : Int) := by have := H3.out; omega
      obtain ⟨n0, n63⟩ := HNN.out
      have HM2 := Lib.hid hm
      have HX2 := Lib.hid hxw2
      have HR2 := Lib.hid hr2
      have HB2 := Lib.hid hb2
      have HD := Lib.hid hd
      have HQ := Lib.hid (And.intro q0 q1)
      clear hb1 f0 hr1 hxw hx2 hl hm hxw2 hr2 hb2 hd q0 q1
      generalize (mirrorS a n).1 = s1
      generalize (mirrorS a n).2 = s2 at hm' ⊢
      go_wp2_with fail
      refine wp_region_begin (S := fun W' => W'.cell? ⟨w.heap.size, 0, none⟩ = some (.slice (some ⟨b, o, none⟩) a.length c)) (n := 8) (by kernel_rfl) rfl (by kernel_rfl) rfl ?_
      have hS0 : (fun W' => W'.cell? ⟨w.heap.size, 0, none⟩ = some (.slice (some ⟨b, o, none⟩) a.length c)) w2.drew := f02
      refine wpAnyH_takeL (i := 0) (v := ?_) rfl (by kernel_rfl) (fun _ _ _ h => h) rfl ?_ hS0 ?_
      rotate_left
      · intro w' hS
        try dsimp only at hS
        go_simp
        rfl
      try simp only [Act.put, List.setIfInBounds_toArray, List.set_cons_zero, List.set_cons_succ]
      refine wpAnyH_takeL (i := 1) (v := ?_) rfl (by kernel_rfl) (fun _ _ _ h => h) rfl ?_ hS0 ?_
      rotate_left
      · intro w' hS
        try dsimp only at hS
        go_simp
        rfl
      try simp only [Act.put, List.setIfInBounds_toArray, List.set_cons_zero, List.set_cons_succ]
      refine wpAnyH_oneL (i := 2) rfl (by kernel_rfl) rfl (fun K hK => ?_)
      go_wp2_with fail
      refine (partner_any n _ n0 n63).mono ?_
      rintro e w3 ⟨rfl, rfl⟩
      refine hK _ _ hS0 ?_
      clear hK K
      try simp only [Act.put, List.setIfInBounds_toArray, List.set_cons_zero, List.set_cons_succ]
      refine wpAnyH_oneL (i := 3) rfl (by kernel_rfl) rfl (fun K hK => ?_)
      go_wp2_with fail
      refine (mirrored_any [.slice (some ⟨b, o, none⟩) a.length c] a (partner n) _ (HR2.out.up (Ext.refl _).drew) H3.out ⟨by have := partner_range HT.out; omega, by have := partner_range HT.out; omega⟩).mono ?_
      rintro e w4 ⟨rfl, hx4⟩
      have e4 : Ext w2 w4 := (Ext.refl w2).drew.trans hx4
      have f04 := e4.cell f02
      refine hK _ _ f04 ?_
      clear hK K
      try simp only [Act.put, List.setIfInBounds_toArray, List.set_cons_zero, List.set_cons_succ]
      refine wpAnyH_takeL (i := 4) (v := ?_) rfl (by kernel_rfl) (fun _ _ _ h => h) rfl ?_ f04 ?_
      rotate_left
      · intro w' hS
        try dsimp only at hS
        go_simp
        rfl
      try simp only [Act.put, List.setIfInBounds_toArray, List.set_cons_zero, List.set_cons_succ]
      refine wpAnyH_takeL (i := 5) (v := ?_) rfl (by kernel_rfl) (fun _ _ _ h => h) rfl ?_ f04 ?_
      rotate_left
      · intro w' hS
        try dsimp only at hS
        go_simp
        rfl
      try simp only [Act.put, List.setIfInBounds_toArray, List.set_cons_zero, List.set_cons_succ]
      refine wpAnyH_takeL (i := 6) (v := ?_) rfl (by kernel_rfl) (fun _ _ _ h => h) rfl ?_ f04 ?_
      rotate_left
      · intro w' hS
        try dsimp only at hS
        go_simp
        rfl
      try simp only [Act.put, List.setIfInBounds_toArray, List.set_cons_zero, List.set_cons_succ]
      refine wpAnyH_takeL (i := 7) (v := ?_) rfl (by kernel_rfl) (fun _ _ _ h => h) rfl ?_ f04 ?_
      rotate_left
      · intro w' hS
        try dsimp only at hS
        go_simp
        rfl
      try simp only [Act.put, List.setIfInBounds_toArray, List.set_cons_zero, List.set_cons_succ]
      refine wpAnyH_endL (by kernel_rfl) (fun K hK => ?_)
      have q0 := e4.cell HQ.out.1
      have q1 := e4.cell HQ.out.2
      have HX4 := Lib.hid (HX2.out.trans e4)
      have HD4 := Lib.hid (HD.out.up e4)
      clear e4 hx4 hS0 f02 HD HR2 HB2
      go_wp2_with fail
      refine calls_abs (fun W => Ext w4 W) (by first | exact Ext.refl _ | exact (Ext.refl _).alloc _) ?_
      intro W5 hx5
      refine (deviceRead_any [.slice A1 (dv a 2).sec.length c1, .slice A2 (dv a 2).lost.length c2] (dv a 2) (n / 2) (512 + n / 2) W5 (HD4.out.up hx5) ⟨by omega, by omega⟩ ⟨by omega, by omega⟩).mono ?_
      rintro e w6 ⟨rfl, hx6⟩
      have HX6 := Lib.hid (HX4.out.trans (hx5.trans hx6))
      clear hx5 hx6 q0 q1 f04 HD4 HX4
      by_cases hq : (mirrorS a (partner n)).2 = 0
      · have HF := Lib.hid (read_lost HT.out HM2.out (.inl hq))
        have hq' : ((mirrorS a (partner n)).2 == 0) = true := by simpa using hq
        clear hq
        generalize (mirrorS a (partner n)).2 = tq at *
        go_wp2_with fail
        go_ret3
        rw [HF.out]
        exact ⟨rfl, HX6.out⟩
      · have hq' : ((mirrorS a (partner n)).2 == 0) = false := by simpa using hq
        by_cases hp : (readS (dv a 2) (n / 2) (512 + n / 2)).2 = 0
        · rw [hp]
          have HF := Lib.hid (read_par HT.out HM2.out hq hp)
          have hsz : (parS a n).1.size = (mirrorS a (partner n)).1.size := by rw [mirrorS_size hq, show (parS a n).1.size = 24 from readS_size hp]
          have hs24 : (parS a n).1.size = 24 := readS_size hp
          have HZ := Lib.hid (And.intro hsz hs24)
          have hpar : readS (dv a 2) (n / 2) (512 + n / 2) = parS a n := rfl
          rw [hpar]
          clear hp hq hsz hs24 hpar
          generalize hP : (parS a n).1 = P at *
          generalize hQ : (mirrorS a (partner n)).1 = Q at *
          generalize (mirrorS a (partner n)).2 = tq at *
          clear hP hQ
          go_wp2_with fail
          refine (others_any P Q _ HZ.out.1 (by have := HZ.out.2; omega) (by have := HZ.out.2; omega)).mono ?_
          rintro e w7 ⟨rfl, hx7⟩
          have HX7 := Lib.hid (HX6.out.trans hx7)
          clear hx7
          go_wp2_with fail
          go_ret3
          rw [HF.out]
          exact ⟨rfl, HX7.out⟩
        · have hp' : ((readS (dv a 2) (n / 2) (512 + n / 2)).2 != 0) = true := by simpa using hp
          have HF := Lib.hid (read_lost HT.out HM2.out (.inr hp))
          clear hp hq
          generalize (mirrorS a (partner n)).2 = tq at *
          generalize (readS (dv a 2) (n / 2) (512 + n / 2)).2 = tp at *
          go_wp2_with fail
          go_ret3
          rw [HF.out]
          exact ⟨rfl, HX6.out⟩
    · have hm' : decide (0 < (mirrorS a n).2) = true := by have := mirror_range a n; simp; omega
      have HF := Lib.hid (read_mir HT.out hm)
      clear hm hb1 hr1 f0
      have HX2 := Lib.hid (hxw.trans hx2)
      clear hxw hx2
      generalize (mirrorS a n).1 = s1 at *
      generalize (mirrorS a n).2 = s2 at *
      go_wp2_with fail
      go_ret3
      rw [HF.out]
      exact ⟨rfl, HX2.out⟩
  · have HF := Lib.hid (read_bad ht)
    have ht' : (arrTouch a n != 0) = true := by simpa using ht
    clear ht hr1 hb1
    generalize arrTouch a n = t at *
    go_wp2_with fail
    go_ret3
    rw [HF.out]
    exact ⟨rfl, hxw⟩

end Go.Proofs.YtokpjgpdkmimgaaDoor

/-
  stream.Read and the document's StreamRead: bytes over sectors, one behind the other; the law StreamReads. Conditions: the argument reads as an array.
-/
namespace Go.Proofs.YtokpjgpdkmimgaaDoor
set_option linter.unusedSimpArgs false
set_option linter.unusedVariables false
open Go.RowKit

theorem fault_state {a : List Dev} {first n : Int} (h : arrMay a = false) : streamFaultS a first n = 9 := by unfold streamFaultS; rw [h]; rfl
theorem fault_size {a : List Dev} {first n : Int} (h : arrMay a = true) (h2 : ¬ (0 ≤ n ∧ n ≤ 1536)) : streamFaultS a first n = 1 := by
  unfold streamFaultS; rw [h, if_neg (by decide), if_pos (by simp [inB]; omega)]
theorem fault_range {a : List Dev} {first n : Int} (h : arrMay a = true) (h2 : 0 ≤ n ∧ n ≤ 1536) (h3 : first < 0 ∨ ((dv a 0).sec.length : Int) < first ∨ ((dv a 0).sec.length : Int) - first < (n + 23) / 24) : streamFaultS a first n = 2 := by
  unfold streamFaultS; rw [h, if_neg (by decide), if_neg (by simp [inB]; omega), if_pos (by simp [inB]; omega)]
theorem fault_none {a : List Dev} {first n : Int} (h : arrMay a = true) (h2 : 0 ≤ n ∧ n ≤ 1536) (h3 : ¬ (first < 0 ∨ ((dv a 0).sec.length : Int) < first ∨ ((dv a 0).sec.length : Int) - first < (n + 23) / 24)) : streamFaultS a first n = 0 := by
  unfold streamFaultS; rw [h, if_neg (by decide), if_neg (by simp [inB]; omega), if_neg (by simp [inB]; omega)]
theorem fault_zero {a : List Dev} {first n : Int} (h : streamFaultS a first n = 0) : arrMay a = true ∧ 0 ≤ n ∧ n ≤ 1536 ∧ 0 ≤ first ∧ first + (n + 23) / 24 ≤ (dv a 0).sec.length := by
  cases hm : arrMay a with
  | false => rw [fault_state hm] at h; exact absurd h (by decide)
  | true =>
    by_cases h2 : 0 ≤ n ∧ n ≤ 1536
    · by_cases h3 : first < 0 ∨ ((dv a 0).sec.length : Int) < first ∨ ((dv a 0).sec.length : Int) - first < (n + 23) / 24
      · rw [fault_range hm h2 h3] at h; exact absurd h (by decide)
      · exact ⟨rfl, h2.1, h2.2, by omega, by omega⟩
    · rw [fault_size hm h2] at h; exact absurd h (by decide)

theorem sectors_quiet (n : Int) (w : World) (h0 : 0 ≤ n) (h1 : n ≤ 140737488355328) :
    Calls Tryd.prog 45 #[.int .i64 n] w fun e w' => e = .returned (.int .i64 ((n + 23) / 24)) ∧ w' = w := (sectors_any n w h0 h1).mono fun _ _ h => ⟨h.1, h.2.symm⟩
set_option maxRecDepth 100000 in
set_option maxHeartbeats 8000000 in
theorem streamIn_any (cs : List Value) (a : List Dev) (first n : Int) (w : World) (h : RArr w cs a) (hf : I64 first) (hn : I64 n) :
    Calls Tryd.prog 86 #[.agg cs.toArray, .int .i64 first, .int .i64 n] w fun e w' => e = .returned (.int .i64 (streamFaultS a first n)) ∧ Ext w w' := by
  obtain ⟨A, c, rfl⟩ := h.form
  go_enter Tryd.func86, Tryd.ntmps86
  go_wp2_with fail
  refine calls_abs (fun W => Ext w W ∧ Blk_ W w.heap.size 40 #[.slice A a.length c]) ⟨(Ext.refl _).alloc _, Blk_.new _ _ _⟩ ?_
  rintro W ⟨hx, hb⟩
  refine (arrCheck_any [.slice A a.length c] a W (h.up hx)).mono ?_
  rintro e w1 ⟨rfl, hx1⟩
  have hb1 := hb.ext hx1
  have f0 := hb1.cell 0
  simp at f0
  have hr1 := h.up (hx.trans hx1)
  have HX := Lib.hid (hx.trans hx1)
  clear h hb hx hx1
  cases hm : arrMay a with
  | false =>
    have HF := Lib.hid (fault_state (first := first) (n := n) hm)
    rw [arrCode_false hm]
    clear hm hr1
    go_wp2_with fail
    go_ret
    exact ⟨ret_int HF.out.symm, HX.out⟩
  | true =>
    obtain ⟨p1, p2, _⟩ := arr_parts hm
    rw [arrCode_true hm]
    obtain ⟨b, o, rfl, hl⟩ := hr1.look 0 (by omega)
    obtain ⟨A1, c1, A2, c2, q0, q1, hd⟩ := hl 0 (by omega)
    simp only [Nat.zero_mul, Nat.add_zero] at q0 q1
    have h3 : (0 : Int) < (a.length : Int) := by omega
    have hlen := (devMay_len p2).2.1
    by_cases h2 : 0 ≤ n ∧ n ≤ 1536
    · have hcs : (decide (first < 0) = true ∧ streamFaultS a first n = 2) ∨ (decide (first < 0) = false ∧ decide (((dv a 0).sec.length : Int) < first) = true ∧ streamFaultS a first n = 2) ∨
          (decide (first < 0) = false ∧ decide (((dv a 0).sec.length : Int) < first) = false ∧ decide (((dv a 0).sec.length : Int) - first < (n + 23) / 24) = true ∧ streamFaultS a first n = 2) ∨
          (decide (first < 0) = false ∧ decide (((dv a 0).sec.length : Int) < first) = false ∧ decide (((dv a 0).sec.length : Int) - first < (n + 23) / 24) = false ∧ streamFaultS a first n = 0) := by
        simp only [decide_eq_true_eq, decide_eq_false_iff_not]
        by_cases k1 : first < 0
        · exact .inl ⟨k1, fault_range hm h2 (.inl k1)⟩
        · by_cases k2 : ((dv a 0).sec.length : Int) < first
          · exact .inr (.inl ⟨k1, k2, fault_range hm h2 (.inr (.inl k2))⟩)
          · by_cases k3 : ((dv a 0).sec.length : Int) - first < (n + 23) / 24
            · exact .inr (.inr (.inl ⟨k1, k2, k3, fault_range hm h2 (.inr (.inr k3))⟩))
            · exact .inr (.inr (.inr ⟨k1, k2, k3, fault_none hm h2 (by omega)⟩))
      obtain ⟨n0, n1⟩ := h2
      have u1 : decide (n < 0) = false := by simp; omega
      have u2 : decide ((1536 : Int) < n) = false := by simp; omega
      have HN := Lib.hid (And.intro n0 n1)
      have HL := Lib.hid hlen
      clear hm hl hr1 p1 p2 hb1 hf hn hlen n0 n1
      generalize hLe : (dv a 0).sec.length = L at *
      clear hLe
      have hL64 := HL.out
      rcases hcs with ⟨t1, hfin⟩ | ⟨t1, t2, hfin⟩ | ⟨t1, t2, t3, hfin⟩ | ⟨t1, t2, t3, hfin⟩
      · have HF := Lib.hid hfin
        clear hfin
        go_wp2_with fail
        go_quiet (fail)
        go_wp2_with fail
        go_ret
        exact ⟨ret_int HF.out.symm, by first | exact HX.out | exact HX.out.drew | exact HX.out.drewN _⟩
      · have HF := Lib.hid hfin
        clear hfin
        go_wp2_with fail
        go_quiet (fail)
        go_wp2_with fail
        go_ret
        exact ⟨ret_int HF.out.symm, by first | exact HX.out | exact HX.out.drew | exact HX.out.drewN _⟩
      · have HF := Lib.hid hfin
        clear hfin
        have t1' := of_decide_eq_false t1
        have t2' := of_decide_eq_false t2
        have hf0 : 0 ≤ first := by omega
        have hf1 : first ≤ (L : Int) := by omega
        clear t1' t2'
        go_wp2_with fail
        go_quiet (first | (go_at_call 45; refine Calls.quiet_of_same (sectors_quiet n _ HN.out.1 (by have := HN.out.2; omega))))
        go_wp2_with fail
        go_ret
        exact ⟨ret_int HF.out.symm, by first | exact HX.out | exact HX.out.drew | exact HX.out.drewN _⟩
      · have HF := Lib.hid hfin
        clear hfin
        have t1' := of_decide_eq_false t1
        have t2' := of_decide_eq_false t2
        have hf0 : 0 ≤ first := by omega
        have hf1 : first ≤ (L : Int) := by omega
        clear t1' t2'
        go_wp2_with fail
        go_quiet (first | (go_at_call 45; refine Calls.quiet_of_same (sectors_quiet n _ HN.out.1 (by have := HN.out.2; omega))))
        go_wp2_with fail
        go_ret
        exact ⟨ret_int HF.out.symm, by first | exact HX.out | exact HX.out.drew | exact HX.out.drewN _⟩
    · have HF := Lib.hid (fault_size (first := first) hm h2)
      have hcs : decide (n < 0) = true ∨ (decide (n < 0) = false ∧ decide ((1536 : Int) < n) = true) := by
        simp only [decide_eq_true_eq, decide_eq_false_iff_not]; omega
      clear hm h2 hl hr1 p1 p2 hn hf hlen
      rcases hcs with t1 | ⟨t1, t2⟩
      · go_wp2_with fail
        go_ret
        exact ⟨ret_int HF.out.symm, HX.out⟩
      · go_wp2_with fail
        go_ret
        exact ⟨ret_int HF.out.symm, HX.out⟩

set_option maxRecDepth 100000 in
set_option maxHeartbeats 8000000 in
theorem refFault_any (cs : List Value) (a : List Dev) (first n : Int) (w : World) (h : RArr w cs a) (hf : I64 first) (hn : I64 n) :
    Calls Tryd.prog 93 #[.agg cs.toArray, .int .i64 first, .int .i64 n] w fun e w' => e = .returned (.int .i64 (streamFaultS a first n)) ∧ Ext w w' := by
  obtain ⟨A, c, rfl⟩ := h.form
  go_enter Tryd.func93, Tryd.ntmps93
  go_wp2_with fail
  refine calls_abs (fun W => Ext w W ∧ Blk_ W w.heap.size 40 #[.slice A a.length c]) ⟨(Ext.refl _).alloc _, Blk_.new _ _ _⟩ ?_
  rintro W ⟨hx, hb⟩
  refine (arrMay_any [.slice A a.length c] a W (h.up hx)).mono ?_
  rintro e w1 ⟨rfl, hx1⟩
  have hb1 := hb.ext hx1
  have f0 := hb1.cell 0
  simp at f0
  have hr1 := h.up (hx.trans hx1)
  have HX := Lib.hid (hx.trans hx1)
  clear h hb hx hx1
  cases hm : arrMay a with
  | false =>
    have HF := Lib.hid (fault_state (first := first) (n := n) hm)
    clear hm hr1
    go_wp2_with fail
    go_ret
    exact ⟨ret_int HF.out.symm, HX.out⟩
  | true =>
    obtain ⟨p1, p2, _⟩ := arr_parts hm
    obtain ⟨b, o, rfl, hl⟩ := hr1.look 0 (by omega)
    obtain ⟨A1, c1, A2, c2, q0, q1, hd⟩ := hl 0 (by omega)
    simp only [Nat.zero_mul, Nat.add_zero] at q0 q1
    have h3 : (0 : Int) < (a.length : Int) := by omega
    have hlen := (devMay_len p2).2.1
    cases h2 : inB n 0 1536 with
    | true =>
      have h2' := inB_true h2
      have hcs : (inB first 0 ((dv a 0).sec.length : Int) = false ∧ streamFaultS a first n = 2) ∨ (inB first 0 ((dv a 0).sec.length : Int) = true ∧ decide (((dv a 0).sec.length : Int) < first + (n + 23) / 24) = true ∧ streamFaultS a first n = 2) ∨
          (inB first 0 ((dv a 0).sec.length : Int) = true ∧ decide (((dv a 0).sec.length : Int) < first + (n + 23) / 24) = false ∧ streamFaultS a first n = 0) := by
        simp only [decide_eq_true_eq, decide_eq_false_iff_not]
        cases k1 : inB first 0 ((dv a 0).sec.length : Int) with
        | false =>
          have k1' := inB_false k1
          exact .inl ⟨rfl, fault_range hm h2' (by omega)⟩
        | true =>
          have k1' := inB_true k1
          by_cases k3 : ((dv a 0).sec.length : Int) < first + (n + 23) / 24
          · exact .inr (.inl ⟨rfl, k3, fault_range hm h2' (by omega)⟩)
          · exact .inr (.inr ⟨rfl, k3, fault_none hm h2' (by omega)⟩)
      obtain ⟨n0, n1⟩ := h2'
      have HN := Lib.hid (And.intro n0 n1)
      have HL := Lib.hid hlen
      clear hm hl hr1 p1 p2 hb1 hf hn hlen
      generalize hLe : (dv a 0).sec.length = L at *
      clear hLe
      have hL64 : (L : Int) ≤ 64 := by have := HL.out; omega
      rcases hcs with ⟨t1, hfin⟩ | ⟨t1, t2, hfin⟩ | ⟨t1, t2, hfin⟩
      · have HF := Lib.hid hfin
        clear hfin
        go_wp2_with (first | (go_at_call 87; refine (in_any _ _ _ _).mono ?_; rintro e w9 ⟨rfl, rfl⟩; rw [h2]) | (go_at_call 87; refine (in_any _ _ _ _).mono ?_; rintro e w9 ⟨rfl, rfl⟩; rw [t1]) | (go_at_call 49; refine (sectorsOf_any n _ HN.out.1 (by have := HN.out.2; omega)).mono ?_; rintro e w9 ⟨rfl, rfl⟩))
        go_ret
        exact ⟨ret_int HF.out.symm, HX.out⟩
      · have HF := Lib.hid hfin
        clear hfin
        have hf01 := inB_true t1
        obtain ⟨hf0, hf1⟩ := hf01
        have hsb1 : (n + 23) / 24 ≤ 64 := by omega
        have hsb0 : 0 ≤ (n + 23) / 24 := by omega
        go_wp2_with (first | (go_at_call 87; refine (in_any _ _ _ _).mono ?_; rintro e w9 ⟨rfl, rfl⟩; rw [h2]) | (go_at_call 87; refine (in_any _ _ _ _).mono ?_; rintro e w9 ⟨rfl, rfl⟩; rw [t1]) | (go_at_call 49; refine (sectorsOf_any n _ HN.out.1 (by have := HN.out.2; omega)).mono ?_; rintro e w9 ⟨rfl, rfl⟩))
        go_ret
        exact ⟨ret_int HF.out.symm, HX.out⟩
      · have HF := Lib.hid hfin
        clear hfin
        have hf01 := inB_true t1
        obtain ⟨hf0, hf1⟩ := hf01
        have hsb1 : (n + 23) / 24 ≤ 64 := by omega
        have hsb0 : 0 ≤ (n + 23) / 24 := by omega
        go_wp2_with (first | (go_at_call 87; refine (in_any _ _ _ _).mono ?_; rintro e w9 ⟨rfl, rfl⟩; rw [h2]) | (go_at_call 87; refine (in_any _ _ _ _).mono ?_; rintro e w9 ⟨rfl, rfl⟩; rw [t1]) | (go_at_call 49; refine (sectorsOf_any n _ HN.out.1 (by have := HN.out.2; omega)).mono ?_; rintro e w9 ⟨rfl, rfl⟩))
        go_ret
        exact ⟨ret_int HF.out.symm, HX.out⟩
    | false =>
      have h2' := inB_false h2
      have HF := Lib.hid (fault_size (first := first) hm (by omega : ¬ (0 ≤ n ∧ n ≤ 1536)))
      clear hm hl hr1 p1 p2 hn hf hlen h2'
      go_wp2_with (go_at_call 87; refine (in_any _ _ _ _).mono ?_; rintro e w9 ⟨rfl, rfl⟩; rw [h2])
      go_ret
      exact ⟨ret_int HF.out.symm, HX.out⟩

theorem sread_bad {a : List Dev} {first n : Int} (h : streamFaultS a first n ≠ 0) : streamReadS a first n = (.empty, streamFaultS a first n) := by unfold streamReadS; rw [if_pos h]
theorem sread_lost {a : List Dev} {first n : Int} {e : Int} (h : streamFaultS a first n = 0) (h2 : streamReadLoop a ((n + 23) / 24).toNat first .empty = (.empty, e)) (h3 : e ≠ 0) : streamReadS a first n = (.empty, e) := by
  unfold streamReadS; rw [if_neg (by simpa using h), h2, if_pos h3]
theorem sread_good {a : List Dev} {first n : Int} {s : ByteArray} (h : streamFaultS a first n = 0) (h2 : streamReadLoop a ((n + 23) / 24).toNat first .empty = (s, 0)) : streamReadS a first n = (s.extract 0 n.toNat, 0) := by
  unfold streamReadS; rw [if_neg (by simpa using h), h2, if_neg (by simp)]
theorem loop_lost {a : List Dev} {m : Nat} {k : Int} {s : ByteArray} (h : (arrReadS a k).2.2 ≠ 0) : streamReadLoop a (m + 1) k s = (.empty, (arrReadS a k).2.2) := by
  unfold streamReadLoop; rw [if_pos h]
theorem loop_next {a : List Dev} {m : Nat} {k : Int} {s : ByteArray} (h : (arrReadS a k).2.2 = 0) : streamReadLoop a (m + 1) k s = streamReadLoop a m (k + 1) (s ++ (arrReadS a k).1) := by
  rw [streamReadLoop, if_neg (by simpa using h)]

set_option maxRecDepth 100000 in
set_option maxHeartbeats 4000000 in
theorem streamRead_any (cs : List Value) (a : List Dev) (first n : Int) (w : World) (h : RArr w cs a) (hf : I64 first) (hn : I64 n) :
    Calls Tryd.prog 44 #[.agg cs.toArray, .int .i64 first, .int .i64 n] w fun e w' => e = .returned (.tuple #[.string (streamReadS a first n).1, .int .i64 (streamReadS a first n).2]) ∧ Ext w w' := by
  obtain ⟨A, c, rfl⟩ := h.form
  go_enter Tryd.func44, Tryd.ntmps44
  go_wp2_with fail
  refine calls_abs (fun W => Ext w W ∧ Blk_ W w.heap.size 40 #[.slice A a.length c]) ⟨(Ext.refl _).alloc _, Blk_.new _ _ _⟩ ?_
  rintro W ⟨hx, hb⟩
  refine (streamIn_any [.slice A a.length c] a first n W (h.up hx) hf hn).mono ?_
  rintro e w1 ⟨rfl, hx1⟩
  have hb1 := hb.ext hx1
  have hxw := hx.trans hx1
  have HH := Lib.hid h
  clear h hb hx hx1
  by_cases hs : streamFaultS a first n = 0
  · obtain ⟨hm, n0, n1, f0, f1⟩ := fault_zero hs
    have hlen := (devMay_len (arr_parts hm).2.1).2.1
    have hf64 : first ≤ 64 := by omega
    obtain ⟨m, hmm⟩ := Int.eq_ofNat_of_zero_le (show 0 ≤ (n + 23) / 24 by omega)
    have hm64 : m ≤ 64 := by omega
    have hfm : first + (m : Int) ≤ 64 := by omega
    have hmt : ((n + 23) / 24).toNat = m := by rw [hmm]; rfl
    have HSZ := Lib.hid (show n ≤ 24 * (m : Int) by omega)
    have hgood := fun (s : ByteArray) (h : streamReadLoop a m first .empty = (s, 0)) => sread_good hs (by rw [hmt]; exact h)
    have hlost := fun (e : Int) (h : streamReadLoop a m first .empty = (.empty, e)) (h3 : e ≠ 0) => sread_lost hs (by rw [hmt]; exact h) h3
    have HG := Lib.hid hgood
    have HLO := Lib.hid hlost
    rw [hs]
    have HNN := Lib.hid (And.intro n0 n1)
    have HMM := Lib.hid hmm
    have HM64 := Lib.hid (And.intro hm64 hfm)
    clear hgood hlost hs hm hlen hmt f1 hmm hf
    go_wp2_with (first | (go_at_call 45; refine (sectors_any n _ HNN.out.1 (by have := HNN.out.2; omega)).mono ?_; rintro e w9 ⟨rfl, rfl⟩))
    go_loopw [9, 23] (fun s i wr => ∃ (k : Nat) (t : ByteArray), i = .int .i64 k ∧ s = .string t ∧ k ≤ m ∧ t.size = 24 * k ∧ Ext w wr ∧ Blk_ wr w.heap.size 40 #[.slice A a.length c] ∧ streamReadLoop a (m - k) (first + k) t = streamReadLoop a m first .empty) (fun _ i _ => m - (intOf i).toNat)
    case atStart => exact ⟨0, .empty, rfl, rfl, Nat.zero_le _, rfl, hxw, hb1, by simp⟩
    case round =>
      clear hxw hb1
      obtain ⟨k, t, rfl, rfl, hk, htz, hx, hb, heq⟩ := hrel
      have g0 := hb.cell 0
      simp at g0
      have HEQ := Lib.hid heq
      have HTZ := Lib.hid htz
      have hsm : (m : Int) ≤ 64 := by have := HM64.out.1; omega
      clear heq
      by_cases hlt : k < m
      · have hk64 : (k : Int) < 64 := by omega
        have hkm : decide ((k : Int) < (n + 23) / 24) = true := by rw [HMM.out]; simp; omega
        go_wp2_with (first | (go_at_call 45; refine (sectors_any n _ HNN.out.1 (by have := HNN.out.2; omega)).mono ?_; rintro e w9 ⟨rfl, rfl⟩))
        refine (arrRead_any [.slice A a.length c] a (first + k) _ (HH.out.up hx) ⟨by omega, by omega⟩).mono ?_
        rintro e w2 ⟨rfl, hx2⟩
        have HX2 := Lib.hid (hx.trans hx2)
        have HB2 := Lib.hid (hb.ext hx2)
        clear hx hx2 hb g0
        have hsub : m - k = (m - (k + 1)) + 1 := by omega
        by_cases hc : (arrReadS a (first + k)).2.2 = 0
        · have hsz := arrReadS_size hc
          have hnext : streamReadLoop a (m - (k + 1)) (first + ((k + 1 : Nat) : Int)) (t ++ (arrReadS a (first + k)).1) = streamReadLoop a m first .empty := by
            rw [← HEQ.out, hsub, loop_next hc]
            congr 1
            omega
          rw [hc]
          have HNX := Lib.hid hnext
          have hszb : ¬ (9223372036854775807 < t.size + (arrReadS a (first + k)).1.size) := by omega
          have HSS := Lib.hid hsz
          clear hc hnext hsz hsub htz
          generalize (arrReadS a (first + k)).1 = T at *
          go_wp2_with fail
          go_roundw
          case rel => exact ⟨k + 1, t ++ T, by go_num, rfl, by omega, by rw [ByteArray.size_append, HTZ.out, HSS.out]; omega, HX2.out, HB2.out, HNX.out⟩
          case measure => simp [intOf]; omega
        · have hlo := HLO.out _ (by rw [← HEQ.out, hsub, loop_lost hc]) hc
          have HF := Lib.hid hlo
          have hc' : ((arrReadS a (first + k)).2.2 != 0) = true := by simpa using hc
          clear hc hlo hsub htz
          generalize (arrReadS a (first + k)).2.2 = tc at *
          go_wp2_with fail
          go_ret2
          rw [HF.out]
          exact ⟨rfl, HX2.out⟩
      · obtain rfl : k = m := by omega
        have hkm : decide ((k : Int) < (n + 23) / 24) = false := by rw [HMM.out]; simp
        have hgo := HG.out t (by rw [← HEQ.out, Nat.sub_self]; rfl)
        have HF := Lib.hid hgo
        obtain ⟨n, rfl⟩ := Int.eq_ofNat_of_zero_le HNN.out.1
        have hn1 : n ≤ t.size := by have := HSZ.out; omega
        have hn2 : (n : Int) ≤ (t.size : Int) := by omega
        clear hgo htz g0 hn
        go_wp2_with (first | (go_at_call 45; refine (sectors_any n _ HNN.out.1 (by have := HNN.out.2; omega)).mono ?_; rintro e w9 ⟨rfl, rfl⟩))
        go_ret2
        rw [HF.out]
        exact ⟨rfl, hx⟩
  · have HF := Lib.hid (sread_bad hs)
    have hs' : (streamFaultS a first n != 0) = true := by simpa using hs
    clear hs hb1
    generalize streamFaultS a first n = t at *
    go_wp2_with fail
    go_ret2
    rw [HF.out]
    exact ⟨rfl, hxw⟩

set_option maxRecDepth 100000 in
set_option maxHeartbeats 4000000 in
theorem refStreamRead_any (cs : List Value) (a : List Dev) (first n : Int) (w : World) (h : RArr w cs a) (hf : I64 first) (hn : I64 n) :
    Calls Tryd.prog 60 #[.agg cs.toArray, .int .i64 first, .int .i64 n] w fun e w' => e = .returned (.tuple #[.string (streamReadS a first n).1, .int .i64 (streamReadS a first n).2]) ∧ Ext w w' := by
  obtain ⟨A, c, rfl⟩ := h.form
  go_enter Tryd.func60, Tryd.ntmps60
  go_wp2_with fail
  refine calls_abs (fun W => Ext w W ∧ Blk_ W w.heap.size 40 #[.slice A a.length c]) ⟨(Ext.refl _).alloc _, Blk_.new _ _ _⟩ ?_
  rintro W ⟨hx, hb⟩
  refine (refFault_any [.slice A a.length c] a first n W (h.up hx) hf hn).mono ?_
  rintro e w1 ⟨rfl, hx1⟩
  have hb1 := hb.ext hx1
  have hxw := hx.trans hx1
  have HH := Lib.hid h
  clear h hb hx hx1
  by_cases hs : streamFaultS a first n = 0
  · obtain ⟨hm, n0, n1, f0, f1⟩ := fault_zero hs
    have hlen := (devMay_len (arr_parts hm).2.1).2.1
    have hf64 : first ≤ 64 := by omega
    obtain ⟨m, hmm⟩ := Int.eq_ofNat_of_zero_le (show 0 ≤ (n + 23) / 24 by omega)
    have hm64 : m ≤ 64 := by omega
    have hfm : first + (m : Int) ≤ 64 := by omega
    have hmt : ((n + 23) / 24).toNat = m := by rw [hmm]; rfl
    have HSZ := Lib.hid (show n ≤ 24 * (m : Int) by omega)
    have hgood := fun (s : ByteArray) (h : streamReadLoop a m first .empty = (s, 0)) => sread_good hs (by rw [hmt]; exact h)
    have hlost := fun (e : Int) (h : streamReadLoop a m first .empty = (.empty, e)) (h3 : e ≠ 0) => sread_lost hs (by rw [hmt]; exact h) h3
    have HG := Lib.hid hgood
    have HLO := Lib.hid hlost
    rw [hs]
    have HNN := Lib.hid (And.intro n0 n1)
    have HMM := Lib.hid hmm
    have HM64 := Lib.hid (And.intro hm64 hfm)
    clear hgood hlost hs hm hlen hmt f1 hmm hf
    go_wp2_with (first | (go_at_call 49; refine (sectorsOf_any n _ HNN.out.1 (by have := HNN.out.2; omega)).mono ?_; rintro e w9 ⟨rfl, rfl⟩))
    go_loopw [9, 10] (fun s i wr => ∃ (k : Nat) (t : ByteArray), i = .int .i64 k ∧ s = .string t ∧ k ≤ m ∧ t.size = 24 * k ∧ Ext w wr ∧ Blk_ wr w.heap.size 40 #[.slice A a.length c] ∧ streamReadLoop a (m - k) (first + k) t = streamReadLoop a m first .empty) (fun _ i _ => m - (intOf i).toNat)
    case atStart => exact ⟨0, .empty, rfl, rfl, Nat.zero_le _, rfl, hxw, hb1, by simp⟩
    case round =>
      clear hxw hb1
      obtain ⟨k, t, rfl, rfl, hk, htz, hx, hb, heq⟩ := hrel
      have g0 := hb.cell 0
      simp at g0
      have HEQ := Lib.hid heq
      have HTZ := Lib.hid htz
      have hsm : (m : Int) ≤ 64 := by have := HM64.out.1; omega
      clear heq
      by_cases hlt : k < m
      · have hk64 : (k : Int) < 64 := by omega
        have hkm : decide ((k : Int) < (n + 23) / 24) = true := by rw [HMM.out]; simp; omega
        go_wp2_with (first | (go_at_call 49; refine (sectorsOf_any n _ HNN.out.1 (by have := HNN.out.2; omega)).mono ?_; rintro e w9 ⟨rfl, rfl⟩))
        refine (arrayRead_any [.slice A a.length c] a (first + k) _ (HH.out.up hx) ⟨by omega, by omega⟩).mono ?_
        rintro e w2 ⟨rfl, hx2⟩
        have HX2 := Lib.hid (hx.trans hx2)
        have HB2 := Lib.hid (hb.ext hx2)
        clear hx hx2 hb g0
        have hsub : m - k = (m - (k + 1)) + 1 := by omega
        by_cases hc : (arrReadS a (first + k)).2.2 = 0
        · have hsz := arrReadS_size hc
          have hnext : streamReadLoop a (m - (k + 1)) (first + ((k + 1 : Nat) : Int)) (t ++ (arrReadS a (first + k)).1) = streamReadLoop a m first .empty := by
            rw [← HEQ.out, hsub, loop_next hc]
            congr 1
            omega
          rw [hc]
          have HNX := Lib.hid hnext
          have hszb : ¬ (9223372036854775807 < t.size + (arrReadS a (first + k)).1.size) := by omega
          have HSS := Lib.hid hsz
          clear hc hnext hsz hsub htz
          generalize (arrReadS a (first + k)).1 = T at *
          go_wp2_with fail
          go_roundw
          case rel => exact ⟨k + 1, t ++ T, by go_num, rfl, by omega, by rw [ByteArray.size_append, HTZ.out, HSS.out]; omega, HX2.out, HB2.out, HNX.out⟩
          case measure => simp [intOf]; omega
        · have hlo := HLO.out _ (by rw [← HEQ.out, hsub, loop_lost hc]) hc
          have HF := Lib.hid hlo
          have hc' : ((arrReadS a (first + k)).2.2 != 0) = true := by simpa using hc
          clear hc hlo hsub htz
          generalize (arrReadS a (first + k)).2.2 = tc at *
          go_wp2_with fail
          go_ret2
          rw [HF.out]
          exact ⟨rfl, HX2.out⟩
      · obtain rfl : k = m := by omega
        have hkm : decide ((k : Int) < (n + 23) / 24) = false := by rw [HMM.out]; simp
        have hgo := HG.out t (by rw [← HEQ.out, Nat.sub_self]; rfl)
        have HF := Lib.hid hgo
        obtain ⟨n, rfl⟩ := Int.eq_ofNat_of_zero_le HNN.out.1
        have hn1 : n ≤ t.size := by have := HSZ.out; omega
        have hn2 : (n : Int) ≤ (t.size : Int) := by omega
        clear hgo htz g0 hn
        go_wp2_with (first | (go_at_call 49; refine (sectorsOf_any n _ HNN.out.1 (by have := HNN.out.2; omega)).mono ?_; rintro e w9 ⟨rfl, rfl⟩))
        go_ret2
        rw [HF.out]
        exact ⟨rfl, hx⟩
  · have HF := Lib.hid (sread_bad hs)
    have hs' : (streamFaultS a first n != 0) = true := by simpa using hs
    clear hs hb1
    generalize streamFaultS a first n = t at *
    go_wp2_with fail
    go_ret2
    rw [HF.out]
    exact ⟨rfl, hxw⟩

end Go.Proofs.YtokpjgpdkmimgaaDoor
