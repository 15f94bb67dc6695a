/-
  array.Read and the document's ArrayRead: what the mirrors tell of a sector, or the parity and its partner; the law ArrayReads. Conditions: the argument reads as an array.
-/
import Derived.Test.YtgjijcgkmofaaaaGreatDoorK4
namespace Go.Proofs.YtgjijcgkmofaaaaGreatDoor
set_option linter.unusedSimpArgs false
set_option linter.unusedVariables false
open Go.RowKit

theorem RArr.form {w : World} {cs : List Value} {a : List Dev} (h : RArr w cs a) : ∃ A c, cs = [.slice A a.length c] := by
  obtain ⟨v, rfl, h1⟩ := h
  obtain ⟨A, c, rfl, _⟩ := h1.rowR
  exact ⟨A, c, rfl⟩
/-- The cells of a device of an array. -/
theorem RArr.look {w : World} {A : Option Addr} {c : Nat} {a : List Dev} (h : RArr w [.slice A a.length c] a) : ∀ k0, k0 < a.length → ∃ b o, A = some ⟨b, o, none⟩ ∧ ∀ k, k < a.length → ∃ A1 c1 A2 c2,
    w.cell? ⟨b, o + k * 2, none⟩ = some (.slice A1 (dv a k).sec.length c1) ∧ w.cell? ⟨b, o + k * 2 + 1, none⟩ = some (.slice A2 (dv a k).lost.length c2) ∧ RDev w [.slice A1 (dv a k).sec.length c1, .slice A2 (dv a k).lost.length c2] (dv a k) := by
  obtain ⟨v, e, h1⟩ := h
  obtain ⟨A', c', rfl, _, _, hr⟩ := h1.rowR
  simp only [List.cons.injEq, Value.slice.injEq, and_true, true_and] at e
  obtain ⟨rfl, rfl⟩ := e
  intro k0 hk0
  obtain ⟨b, o, rfl, hcell⟩ := hr k0 hk0
  refine ⟨b, o, rfl, fun k hk => ?_⟩
  have hd : dv a k = a[k] := by unfold dv; rw [List.getD_eq_getElem?_getD, List.getElem?_eq_getElem hk]; rfl
  rw [hd]
  obtain ⟨cs, hl, hcs, hdd⟩ := hcell k hk
  obtain ⟨A1, c1, A2, c2, rfl⟩ := hdd.form
  exact ⟨A1, c1, A2, c2, hcs 0 _ rfl, hcs 1 _ rfl, hdd⟩
theorem n2_of {a : List Dev} {n : Int} (h : arrTouch a n = 0) : 0 ≤ n ∧ n ≤ 63 := by
  have := partner_range h
  exact ⟨this.2.2.2.2.2.2.2.1, this.2.2.2.2.2.2.2.2.1⟩

set_option maxRecDepth 100000 in
set_option maxHeartbeats 800000 in
theorem arrAt_any (cs : List Value) (a : List Dev) (n : Int) (w : World) (h : RArr w cs a) (hn : I64 n) :
    Calls Tryz.prog 129 #[.agg cs.toArray, .int .i64 n] w fun e w' => e = .returned (.int .i64 (arrTouch a n)) ∧ Ext w w' := by
  obtain ⟨A, c, rfl⟩ := h.form
  go_enter Tryz.func129, Tryz.ntmps129
  go_wp2_with fail
  refine calls_abs (fun W => Ext w W ∧ Blk_ W w.heap.size 30 #[.slice A a.length c]) ⟨(Ext.refl _).alloc _, Blk_.new _ _ _⟩ ?_
  rintro W ⟨hx, hb⟩
  refine (arrCheck_any [.slice A a.length c] a W (h.up hx)).mono ?_
  rintro e w1 ⟨rfl, hx1⟩
  have hb1 := hb.ext hx1
  have f0 := hb1.cell 0
  simp at f0
  have hr1 := h.up (hx.trans hx1)
  have HX := Lib.hid (hx.trans hx1)
  clear h hb hx hx1
  cases hm : arrMay a with
  | false =>
    have hf : arrTouch a n = 9 := by unfold arrTouch; rw [hm]; rfl
    have HF := Lib.hid hf
    rw [arrCode_false hm]
    clear hm hf hr1
    go_wp2_with fail
    go_ret
    exact ⟨ret_int HF.out.symm, HX.out⟩
  | true =>
    obtain ⟨p1, p2, _⟩ := arr_parts hm
    rw [arrCode_true hm]
    obtain ⟨b, o, rfl, hl⟩ := hr1.look 0 (by omega)
    obtain ⟨A1, c1, A2, c2, q0, q1, hd⟩ := hl 0 (by omega)
    simp only [Nat.zero_mul, Nat.add_zero] at q0 q1
    have h3 : (0 : Int) < (a.length : Int) := by omega
    have hlen := (devMay_len p2).2.1
    have hf2 : arrTouch a n = if inB n 0 (((dv a 0).sec.length : Int) - 1) then 0 else 6 := by unfold arrTouch; rw [hm]; rfl
    clear hm hl hr1 p1 p2 hb1
    generalize (dv a 0).sec.length = L at *
    by_cases k1 : n < 0
    · have hr : inB n 0 ((L : Int) - 1) = false := by simp [inB]; omega
      rw [hr] at hf2
      have HF := Lib.hid hf2
      have t1 : decide (n < 0) = true := by simpa using k1
      clear hr hf2 k1
      go_wp2_with fail
      go_ret
      exact ⟨ret_int HF.out.symm, HX.out⟩
    · have t1 : decide (n < 0) = false := by simpa using k1
      by_cases k2 : (L : Int) ≤ n
      · have t2 : decide ((L : Int) ≤ n) = true := by simpa using k2
        have hr : inB n 0 ((L : Int) - 1) = false := by simp [inB]; omega
        rw [hr] at hf2
        have HF := Lib.hid hf2
        clear hr hf2 k1 k2
        go_wp2_with fail
        go_ret
        exact ⟨ret_int HF.out.symm, HX.out⟩
      · have t2 : decide ((L : Int) ≤ n) = false := by simpa using k2
        have hr : inB n 0 ((L : Int) - 1) = true := by simp [inB]; omega
        rw [hr] at hf2
        have HF := Lib.hid hf2
        clear hr hf2 k1 k2
        go_wp2_with fail
        go_ret
        exact ⟨ret_int HF.out.symm, HX.out⟩

/-! What the mirrors tell. -/
def okB (p : ByteArray × Int) : Bool := decide (p.2 ≠ 0)
theorem mirror_hit {a : List Dev} {n : Int} (k : Nat) (hk : k < 2) (hall : ∀ j, j < k → (readS (dv a j) n n).2 ≠ 0) (h : (readS (dv a k) n n).2 = 0) : mirrorS a n = ((readS (dv a k) n n).1, (k : Int) + 1) := by
  unfold mirrorS
  match k, hk with
  | 0, _ => rw [if_pos h]; rfl
  | 1, _ => rw [if_neg (hall 0 (by omega)), if_pos h]; rfl
theorem mirror_miss {a : List Dev} {n : Int} (hall : ∀ j, j < 2 → (readS (dv a j) n n).2 ≠ 0) : mirrorS a n = (.empty, 0) := by
  unfold mirrorS
  rw [if_neg (hall 0 (by omega)), if_neg (hall 1 (by omega))]
set_option maxRecDepth 100000 in
set_option maxHeartbeats 800000 in
theorem mirror_any (cs : List Value) (a : List Dev) (n : Int) (w : World) (h : RArr w cs a) (h3 : a.length = 3) (hn : I64 n) :
    Calls Tryz.prog 136 #[.agg cs.toArray, .int .i64 n] w fun e w' => e = .returned (.tuple #[.string (mirrorS a n).1, .int .i64 (mirrorS a n).2, .bool (okB (mirrorS a n))]) ∧ Ext w w' := by
  obtain ⟨A, c, rfl⟩ := h.form
  have H3 := Lib.hid h3
  have h3i : (3 : Int) = (a.length : Int) := by omega
  have HN := Lib.hid hn
  clear h3
  go_enter Tryz.func136, Tryz.ntmps136
  go_wp2_with fail
  refine wp_abs (fun W => Ext w W ∧ Blk_ W w.heap.size 30 #[.slice A a.length c]) ⟨(Ext.refl _).alloc _, Blk_.new _ _ _⟩ ?_
  rintro W ⟨hx, hb⟩
  go_loopw [10] (fun i wr => ∃ k : Nat, i = .int .i64 k ∧ k ≤ 2 ∧ Ext w wr ∧ Blk_ wr w.heap.size 30 #[.slice A a.length c] ∧ ∀ j, j < k → (readS (dv a j) n n).2 ≠ 0) (fun i _ => 2 - (intOf i).toNat)
  case atStart => exact ⟨0, rfl, Nat.zero_le _, hx, hb, fun j hj => by omega⟩
  case round =>
    clear hx hb
    obtain ⟨k, rfl, hk, hx, hb, hall⟩ := hrel
    by_cases hlt : k < 2
    · obtain ⟨b, o, rfl, hl⟩ := h.look 0 (by have := H3.out; omega)
      obtain ⟨A1, c1, A2, c2, q0, q1, hd⟩ := hl k (by have := H3.out; omega)
      have q0' := hx.cell q0
      have q1' := hx.cell q1
      have f0 := hb.cell 0
      simp at f0
      have hk2 : (k : Int) < 2 := by omega
      have hk3 : (k : Int) < (a.length : Int) := by have := H3.out; omega
      have HALL := Lib.hid hall
      have HH := Lib.hid h
      have HD := Lib.hid hd
      clear hl q0 q1 hall hd h
      go_wp2_with fail
      refine calls_abs (fun W => Ext wr W) (by first | exact Ext.refl _ | exact (Ext.refl _).alloc _) ?_
      intro W1 hx1
      refine (devRead_any [.slice A1 (dv a k).sec.length c1, .slice A2 (dv a k).lost.length c2] (dv a k) n n W1 (HD.out.up (hx.trans hx1)) HN.out HN.out).mono ?_
      rintro e w2 ⟨rfl, hx2⟩
      have HX2 := Lib.hid ((hx.trans hx1).trans hx2)
      have HB2 := Lib.hid ((hb.ext hx1).ext hx2)
      clear f0 q0' q1' hx hx1 hx2 hb HD
      by_cases hc : (readS (dv a k) n n).2 = 0
      · have HM := Lib.hid (mirror_hit k hlt HALL.out hc)
        rw [hc]
        clear hc
        generalize (readS (dv a k) n n).1 = s at *
        go_wp2_with fail
        go_ret3
        refine ⟨?_, HX2.out⟩
        rw [HM.out]
        have : okB (s, (k : Int) + 1) = true := by unfold okB; simp; omega
        rw [this]
        rfl
      · have hc' : ((readS (dv a k) n n).2 == 0) = false := by simpa using hc
        have HC := Lib.hid hc
        clear hc
        generalize ht : (readS (dv a k) n n).2 = t at *
        have HT := Lib.hid ht
        clear ht
        go_wp2_with fail
        go_roundw
        case rel =>
          refine ⟨k + 1, by go_num, by omega, HX2.out, HB2.out, fun j hj => ?_⟩
          by_cases hje : j = k
          · subst hje; rw [HT.out]; exact HC.out
          · exact HALL.out j (by omega)
        case measure => simp [intOf]; omega
    · obtain rfl : k = 2 := by omega
      have HM := Lib.hid (mirror_miss hall)
      clear hall hb
      go_wp2_with fail
      go_ret3
      rw [HM.out]
      exact ⟨rfl, hx⟩

theorem partner_xor (n : Int) (h0 : 0 ≤ n) (h1 : n ≤ 63) : bits .xor .i64 n 1 = partner n := by
  obtain ⟨k, rfl⟩ := Int.eq_ofNat_of_zero_le h0
  have hk : k < 64 := by omega
  clear h0 h1
  revert k
  decide +kernel
theorem read_bad {a : List Dev} {n : Int} (h : arrTouch a n ≠ 0) : arrReadS a n = (.empty, 0, arrTouch a n) := by unfold arrReadS; rw [if_pos h]
theorem read_mir {a : List Dev} {n : Int} (h : arrTouch a n = 0) (h2 : (mirrorS a n).2 ≠ 0) : arrReadS a n = ((mirrorS a n).1, (mirrorS a n).2, 0) := by unfold arrReadS; rw [if_neg (by simpa using h), if_pos h2]
theorem read_lost {a : List Dev} {n : Int} (h : arrTouch a n = 0) (h2 : (mirrorS a n).2 = 0) (h3 : (mirrorS a (partner n)).2 = 0 ∨ (parS a n).2 ≠ 0) : arrReadS a n = (.empty, 0, 11) := by
  unfold arrReadS; rw [if_neg (by simpa using h), if_neg (by simpa using h2), if_pos h3]
theorem read_par {a : List Dev} {n : Int} (h : arrTouch a n = 0) (h2 : (mirrorS a n).2 = 0) (h3 : (mirrorS a (partner n)).2 ≠ 0) (h4 : (parS a n).2 = 0) : arrReadS a n = (xorS (parS a n).1 (mirrorS a (partner n)).1, 3, 0) := by
  unfold arrReadS; rw [if_neg (by simpa using h), if_neg (by simpa using h2), if_neg (by rintro (h | h); exact h3 h; exact h h4)]
theorem okB_true {p : ByteArray × Int} (h : p.2 ≠ 0) : okB p = true := by unfold okB; simpa using h
theorem okB_false {p : ByteArray × Int} (h : p.2 = 0) : okB p = false := by unfold okB; simpa using h
theorem mirror_range (a : List Dev) (n : Int) : (mirrorS a n).2 = 0 ∨ (mirrorS a n).2 = 1 ∨ (mirrorS a n).2 = 2 := by
  unfold mirrorS
  split
  · exact .inr (.inl rfl)
  · split
    · exact .inr (.inr rfl)
    · exact .inl rfl
set_option maxRecDepth 100000 in
set_option maxHeartbeats 800000 in
theorem arrRead_any (cs : List Value) (a : List Dev) (n : Int) (w : World) (h : RArr w cs a) (hn : I64 n) :
    Calls Tryz.prog 93 #[.agg cs.toArray, .int .i64 n] w fun e w' => e = .returned (.tuple #[.string (arrReadS a n).1, .int .i64 (arrReadS a n).2.1, .int .i64 (arrReadS a n).2.2]) ∧ Ext w w' := by
  obtain ⟨A, c, rfl⟩ := h.form
  go_enter Tryz.func93, Tryz.ntmps93
  go_wp2_with fail
  refine calls_abs (fun W => Ext w W ∧ Blk_ W w.heap.size 30 #[.slice A a.length c]) ⟨(Ext.refl _).alloc _, Blk_.new _ _ _⟩ ?_
  rintro W ⟨hx, hb⟩
  refine (arrAt_any [.slice A a.length c] a n W (h.up hx) hn).mono ?_
  rintro e w1 ⟨rfl, hx1⟩
  have hb1 := hb.ext hx1
  have f0 := hb1.cell 0
  simp at f0
  have hr1 := h.up (hx.trans hx1)
  have hxw := hx.trans hx1
  clear h hb hx hx1
  by_cases ht : arrTouch a n = 0
  · obtain ⟨n0, n63⟩ := n2_of ht
    have h3 := (arr_parts (arrTouch_zero.1 ht).1).1
    rw [ht]
    have HT := Lib.hid ht
    have HN := Lib.hid hn
    have H3 := Lib.hid h3
    have HNN := Lib.hid (And.intro n0 n63)
    clear ht hn h3 n0 n63
    go_wp2_with fail
    refine (mirror_any [.slice A a.length c] a n _ hr1 H3.out HN.out).mono ?_
    rintro e w2 ⟨rfl, hx2⟩
    by_cases hm : (mirrorS a n).2 = 0
    · rw [okB_false hm]
      have hb2 := hb1.ext hx2
      have f02 := hb2.cell 0
      simp at f02
      have hr2 := hr1.up hx2
      have hxw2 := hxw.trans hx2
      obtain ⟨b, o, rfl, hl⟩ := hr2.look 0 (by have := H3.out; omega)
      obtain ⟨A1, c1, A2, c2, q0, q1, hd⟩ := hl 2 (by have := H3.out; omega)
      simp at q0 q1
      have h3i : (2 : Int) < (a.length : Int) := by have := H3.out; omega
      obtain ⟨n0, n63⟩ := HNN.out
      have HM := Lib.hid hm
      have HX2 := Lib.hid hxw2
      have HR2 := Lib.hid hr2
      have HB2 := Lib.hid hb2
      have HD := Lib.hid hd
      clear hb1 f0 hr1 hxw hx2 hl hm hxw2 hr2 hb2 hd
      have HM2 := Lib.hid (show (mirrorS a n).2 = 0 from HM.out)
      generalize (mirrorS a n).1 = s1
      generalize (mirrorS a n).2 = s2
      go_wp2_with fail
      refine calls_abs (fun W => Ext w2 W) (by first | exact Ext.refl _ | exact (Ext.refl _).alloc _) ?_
      intro W3 hx3
      refine (devRead_any [.slice A1 (dv a 2).sec.length c1, .slice A2 (dv a 2).lost.length c2] (dv a 2) (n / 2) (512 + n / 2) W3 (HD.out.up hx3) ⟨by omega, by omega⟩ ⟨by omega, by omega⟩).mono ?_
      rintro e w4 ⟨rfl, hx4⟩
      have hb4 := (HB2.out.ext hx3).ext hx4
      have f04 := hb4.cell 0
      simp at f04
      have HX4 := Lib.hid (HX2.out.trans (hx3.trans hx4))
      have HR4 := Lib.hid (HR2.out.up (hx3.trans hx4))
      have HPX := Lib.hid (partner_xor n n0 n63)
      clear q0 q1 f02 hx3 hx4 hb4
      go_wp2_with fail
      rw [HPX.out]
      refine (mirror_any [.slice (some ⟨b, o, none⟩) a.length c] a (partner n) _ HR4.out H3.out ⟨by have := partner_range HT.out; omega, by have := partner_range HT.out; omega⟩).mono ?_
      rintro e w5 ⟨rfl, hx5⟩
      have HX5 := Lib.hid (HX4.out.trans hx5)
      clear hx5 f04
      by_cases hp : (readS (dv a 2) (n / 2) (512 + n / 2)).2 = 0
      · rw [hp]
        by_cases hq : (mirrorS a (partner n)).2 = 0
        · rw [okB_false hq]
          have HF := Lib.hid (read_lost HT.out HM2.out (.inl hq))
          clear hp hq
          go_wp2_with fail
          go_ret3
          rw [HF.out]
          exact ⟨rfl, HX5.out⟩
        · rw [okB_true hq]
          have HF := Lib.hid (read_par HT.out HM2.out hq hp)
          have hsz : (parS a n).1.size = (mirrorS a (partner n)).1.size := by rw [mirrorS_size hq, show (parS a n).1.size = 24 from readS_size hp]
          have hs24 : (parS a n).1.size = 24 := readS_size hp
          have HZ := Lib.hid (And.intro hsz hs24)
          have hpar : readS (dv a 2) (n / 2) (512 + n / 2) = parS a n := rfl
          rw [hpar]
          clear hp hq hsz hs24 hpar
          generalize hP : (parS a n).1 = P at *
          generalize hQ : (mirrorS a (partner n)).1 = Q at *
          clear hP hQ
          go_wp2_with fail
          refine (xor_any P Q _ HZ.out.1 (by have := HZ.out.2; omega)).mono ?_
          rintro e w6 ⟨rfl, hx6⟩
          have HX6 := Lib.hid (HX5.out.trans hx6)
          clear hx6
          go_wp2_with fail
          go_ret3
          rw [HF.out]
          exact ⟨rfl, HX6.out⟩
      · have hp' : ((readS (dv a 2) (n / 2) (512 + n / 2)).2 != 0) = true := by simpa using hp
        have HF := Lib.hid (read_lost HT.out HM2.out (.inr hp))
        clear hp
        generalize (readS (dv a 2) (n / 2) (512 + n / 2)).2 = tp at *
        go_wp2_with fail
        go_ret3
        rw [HF.out]
        exact ⟨rfl, HX5.out⟩
    · rw [okB_true hm]
      have HF := Lib.hid (read_mir HT.out hm)
      clear hm hb1 hr1 f0
      have HX2 := Lib.hid (hxw.trans hx2)
      clear hxw hx2
      generalize (mirrorS a n).1 = s1 at *
      generalize (mirrorS a n).2 = s2 at *
      go_wp2_with fail
      go_ret3
      rw [HF.out]
      exact ⟨rfl, HX2.out⟩
  · have HF := Lib.hid (read_bad ht)
    have ht' : (arrTouch a n != 0) = true := by simpa using ht
    clear ht hr1 hb1
    generalize arrTouch a n = t at *
    go_wp2_with fail
    go_ret3
    rw [HF.out]
    exact ⟨rfl, hxw⟩

end Go.Proofs.YtgjijcgkmofaaaaGreatDoor

/-
  A row of devices of the call's own, as it stands in memory: its cells, what may be stored, and what stays. Conditions: none.
-/
namespace Go.Proofs.YtgjijcgkmofaaaaGreatDoor
set_option linter.unusedSimpArgs false
set_option linter.unusedVariables false
open Go.RowKit

theorem Ext.by_ {w w' : World} (h : Ext w w') (row : Option Nat) : w.grownBy w' row := ⟨h.below.os, h.below.tape, h.below.output, h.below.size, fun k hk _ => Below.block h.below k hk⟩
theorem setRow_by (w : World) (g i : Nat) (u : Value) : w.grownBy (w.setCell ⟨g, i, none⟩ u) (some g) :=
  ⟨rfl, rfl, rfl, by simp, fun k hk hne => Below.heap_setCell w ⟨g, i, none⟩ u k (fun e => hne (by rw [e]))⟩
/-- Three devices of the call's own: what stands in the row. -/
theorem OArr.at_ {E : TypeId} {w : World} {base : Nat} {A : Option Addr} {n c : Nat} {a : List Dev} (h : OArr E w base (.slice A n c) a) (hl : a.length = 3) :
    ∃ g, A = some ⟨g, 0, none⟩ ∧ base ≤ g ∧ g < w.heap.size ∧ (∀ k, w.frozen? ⟨g, k, none⟩ = false) ∧ ∀ k, k < 3 → ∃ A1 c1 A2 c2,
      w.cell? ⟨g, k * 2, none⟩ = some (.slice A1 (dv a k).sec.length c1) ∧ w.cell? ⟨g, k * 2 + 1, none⟩ = some (.slice A2 (dv a k).lost.length c2) ∧ RDev w [.slice A1 (dv a k).sec.length c1, .slice A2 (dv a k).lost.length c2] (dv a k) := by
  have hn : n = a.length := by
    obtain ⟨vs, _, ho, _⟩ := h
    have := ho.2
    rcases this with ⟨hv, h0⟩ | ⟨g, cap, cur, hv, _⟩
    · omega
    · injection hv
  subst hn
  have hr := h.rarr (by omega)
  obtain ⟨b, o, hA, hlook⟩ := hr.look 0 (by omega)
  obtain ⟨vs, hvl, ho, _⟩ := h
  have ho' := ho
  rcases ho.2 with ⟨hv, h0⟩ | ⟨g, cap, cur, hv, hb, hg, _⟩
  · omega
  · injection hv with a1 a2 a3
    subst a1
    have hbo : b = g ∧ o = 0 := by injection hA with hA; injection hA with x1 x2; exact ⟨x1.symm, x2.symm⟩
    obtain ⟨rfl, rfl⟩ := hbo
    refine ⟨b, rfl, hb, (ho'.lt b rfl).2, fun k => ho'.frozenAt k, fun k hk => ?_⟩
    obtain ⟨A1, c1, A2, c2, q0, q1, hd⟩ := hlook k (by omega)
    rw [Nat.zero_add] at q0 q1
    exact ⟨A1, c1, A2, c2, q0, q1, hd⟩
theorem OArr.atg {E : TypeId} {w : World} {base g n c : Nat} {a : List Dev} (h : OArr E w base (.slice (some ⟨g, 0, none⟩) n c) a) (hl : a.length = 3) :
    base ≤ g ∧ g < w.heap.size ∧ (∀ k, w.frozen? ⟨g, k, none⟩ = false) ∧ ∀ k, k < 3 → ∃ A1 c1 A2 c2,
      w.cell? ⟨g, k * 2, none⟩ = some (.slice A1 (dv a k).sec.length c1) ∧ w.cell? ⟨g, k * 2 + 1, none⟩ = some (.slice A2 (dv a k).lost.length c2) ∧ RDev w [.slice A1 (dv a k).sec.length c1, .slice A2 (dv a k).lost.length c2] (dv a k) := by
  obtain ⟨g', hg, r⟩ := h.at_ hl
  obtain rfl : g = g' := by injection hg with hg; injection hg
  exact r
theorem dv_len3 {a : List Dev} {k : Nat} {d : Dev} (h : a.length = 3) : (a.set k d).length = 3 := by simp [h]
end Go.Proofs.YtgjijcgkmofaaaaGreatDoor

/-
  press.Pack and the document's PackedOf: bytes, with what stands there already made short; the law PressPacks. Conditions: the text is no longer than a text may be.
-/
namespace Go.Proofs.YtgjijcgkmofaaaaGreatDoor
set_option linter.unusedSimpArgs false
set_option linter.unusedVariables false
open Go.RowKit

theorem alike_go {s : ByteArray} {k i n : Nat} (h1 : n < 131) (h2 : i + n < s.size) (h3 : at_ s (k + n) = at_ s (i + n)) : alikeF s k i n = alikeF s k i (n + 1) := by
  rw [alikeF, if_pos ⟨h1, h2, h3⟩]
theorem alike_stop {s : ByteArray} {k i n : Nat} (h : ¬ (n < 131 ∧ i + n < s.size ∧ at_ s (k + n) = at_ s (i + n))) : alikeF s k i n = n := by
  rw [alikeF, if_neg h]
theorem piece_more {s : ByteArray} {i d best back : Nat} (h : d ≤ 255 ∧ d ≤ i) (h2 : best < alikeF s (i - d) i 0) : pieceF s i d best back = pieceF s i (d + 1) (alikeF s (i - d) i 0) d := by
  rw [pieceF, if_pos h, if_pos h2]
theorem piece_less {s : ByteArray} {i d best back : Nat} (h : d ≤ 255 ∧ d ≤ i) (h2 : ¬ best < alikeF s (i - d) i 0) : pieceF s i d best back = pieceF s i (d + 1) best back := by
  rw [pieceF, if_pos h, if_neg h2]
theorem piece_end {s : ByteArray} {i d best back : Nat} (h : ¬ (d ≤ 255 ∧ d ≤ i)) : pieceF s i d best back = (best, back) := by
  rw [pieceF, if_neg h]
set_option maxRecDepth 100000 in
set_option maxHeartbeats 8000000 in
theorem piece_any (s : ByteArray) (i : Nat) (w : World) (hi : i < s.size) (hs : s.size ≤ 600) :
    Calls Tryz.prog 83 #[.string s, .int .i64 i] w fun e w' => e = .returned (.tuple #[.int .i64 (pieceF s i 1 0 0).1, .int .i64 (pieceF s i 1 0 0).2]) ∧ Ext w w' := by
  have hs' : (s.size : Int) ≤ 600 := by omega
  have hii : (i : Int) < 600 := by omega
  go_enter Tryz.func83, Tryz.ntmps83
  go_wp2_with fail
  go_loopw [6, 7, 8] (fun b f k wr => ∃ (d best back : Nat), k = .int .i64 ((i : Int) - (d : Int)) ∧ b = .int .i64 best ∧ f = .int .i64 back ∧ 1 ≤ d ∧ d ≤ 256 ∧ d ≤ i + 1 ∧ best ≤ 131 ∧ back ≤ 256 ∧ Ext w wr ∧ pieceF s i d best back = pieceF s i 1 0 0) (fun _ _ k _ => ((intOf k) + 1).toNat)
  case atStart => exact ⟨1, 0, 0, by go_num, rfl, rfl, by omega, by omega, by omega, by omega, by omega, Ext.refl _, rfl⟩
  case round =>
    obtain ⟨d, best, back, rfl, rfl, rfl, hd1, hd2, hd3, hb1, hb2, hx, heq⟩ := hrel
    have HEQ := Lib.hid heq
    clear heq
    by_cases hc : d ≤ 255 ∧ d ≤ i
    · have t1 : decide ((0 : Int) ≤ (i : Int) - (d : Int)) = true := by simp; omega
      have hsb : IntKind.i64.wrap ((i : Int) - ((i : Int) - (d : Int))) = (d : Int) := by rw [IntKind.wrap_i64]; omega
      have hsb2 : (i : Int) - ((i : Int) - (d : Int)) = (d : Int) := by omega
      have t2 : decide ((d : Int) ≤ 255) = true := by simp; omega
      obtain ⟨k, hk⟩ : ∃ k : Nat, k = i - d := ⟨_, rfl⟩
      have hki : (i : Int) - (d : Int) = (k : Int) := by omega
      have hklt : k < i := by omega
      have HK := Lib.hid (And.intro hk (And.intro hki hc))
      have hdk : (i : Int) - (k : Int) = (d : Int) := by omega
      have hdkw : IntKind.i64.wrap ((i : Int) - (k : Int)) = (d : Int) := by rw [IntKind.wrap_i64]; omega
      rw [hki] at *
      have t1' : decide ((0 : Int) ≤ (k : Int)) = true := by simp
      have t2' : decide ((i : Int) - (k : Int) ≤ 255) = true := by rw [hdk]; simpa using t2
      have hd255 : d ≤ 255 := hc.1
      have hdi : d ≤ i := hc.2
      clear hsb hsb2 hki hk hc t1
      go_wp2_with fail
      go_loopw [9] (fun n wq => ∃ j : Nat, n = .int .i64 j ∧ j ≤ 131 ∧ Ext wr wq ∧ alikeF s k i j = alikeF s k i 0) (fun n _ => 131 - (intOf n).toNat)
      case atStart => exact ⟨0, rfl, by omega, Ext.refl _, rfl⟩
      case round =>
        obtain ⟨j, rfl, hj, hxq, heqj⟩ := hrel
        have HEJ := Lib.hid heqj
        clear heqj
        by_cases h2 : i + j < s.size
        · have t3 : decide ((i : Int) + (j : Int) < (s.size : Int)) = true := by simp; omega
          by_cases h1 : j < 131
          · have t4 : decide ((j : Int) < 131) = true := by simp; omega
            have hi2 : i + j < s.size := h2
            have hk2 : k + j < s.size := by omega
            have hi2' : (i : Int) + (j : Int) < (s.size : Int) := by omega
            have hk2' : (k : Int) + (j : Int) < (s.size : Int) := by omega
            have hkt : ((k : Int) + (j : Int)).toNat = k + j := by omega
            have hit : ((i : Int) + (j : Int)).toNat = i + j := by omega
            have hz1 : (0 : Int) ≤ (k : Int) + (j : Int) := by omega
            have hz2 : (0 : Int) ≤ (i : Int) + (j : Int) := by omega
            by_cases h3 : at_ s (k + j) = at_ s (i + j)
            · have HGO := Lib.hid (alike_go h1 h2 h3)
              have hb : ((s[k + j].toNat : Int) == (s[i + j].toNat : Int)) = true := by
                rw [at_eq s _ hk2, at_eq s _ hi2] at h3
                rw [h3]; simp
              clear h3 h2
              go_wp2_with fail
              go_quiet (fail)
              go_wp2_with fail
              go_roundw
              case rel => exact ⟨j + 1, by go_num, by omega, hxq.drewN _, by rw [← HGO.out, HEJ.out]⟩
              case measure => simp [intOf]; omega
            · have HST := Lib.hid (show alikeF s k i j = j from alike_stop (fun h => h3 h.2.2))
              have hb : ((s[k + j].toNat : Int) == (s[i + j].toNat : Int)) = false := by
                rw [at_eq s _ hk2, at_eq s _ hi2] at h3
                have : ¬ (s[k + j].toNat : Int) = (s[i + j].toNat : Int) := fun e => h3 (UInt8.toNat_inj.1 (by omega))
                simpa using this
              clear h3 h2
              have HAL := Lib.hid (show alikeF s k i 0 = j by rw [← HEJ.out, HST.out])
              by_cases hbt : best < j
              · have HNX := Lib.hid (show pieceF s i (d + 1) j d = pieceF s i 1 0 0 by rw [← HEQ.out, piece_more HK.out.2.2 (by rw [← HK.out.1, HAL.out]; exact hbt), ← HK.out.1, HAL.out])
                go_wp2_with fail
                go_quiet (fail)
                go_wp2_with fail
                go_roundw
                case rel => exact ⟨d + 1, j, d, by have := HK.out.2.1; go_num, rfl, by first | rfl | go_num, by omega, by omega, by omega, by omega, by omega, (hx.trans hxq).drewN _, HNX.out⟩
                case measure => (simp [intOf]; try omega)
              · have HNX := Lib.hid (show pieceF s i (d + 1) best back = pieceF s i 1 0 0 by rw [← HEQ.out, piece_less HK.out.2.2 (by rw [← HK.out.1, HAL.out]; exact hbt)])
                go_wp2_with fail
                go_quiet (fail)
                go_wp2_with fail
                go_roundw
                case rel => exact ⟨d + 1, best, back, by have := HK.out.2.1; go_num, rfl, rfl, by omega, by omega, by omega, by omega, by omega, (hx.trans hxq).drewN _, HNX.out⟩
                case measure => (simp [intOf]; try omega)
          · have HST := Lib.hid (show alikeF s k i j = j from alike_stop (fun h => h1 h.1))
            have t4 : decide ((j : Int) < 131) = false := by simp; omega
            clear h1 h2
            have HAL := Lib.hid (show alikeF s k i 0 = j by rw [← HEJ.out, HST.out])
            by_cases hbt : best < j
            · have HNX := Lib.hid (show pieceF s i (d + 1) j d = pieceF s i 1 0 0 by rw [← HEQ.out, piece_more HK.out.2.2 (by rw [← HK.out.1, HAL.out]; exact hbt), ← HK.out.1, HAL.out])
              go_wp2_with fail
              go_quiet (fail)
              go_wp2_with fail
              go_roundw
              case rel => exact ⟨d + 1, j, d, by have := HK.out.2.1; go_num, rfl, by first | rfl | go_num, by omega, by omega, by omega, by omega, by omega, (hx.trans hxq).drewN _, HNX.out⟩
              case measure => (simp [intOf]; try omega)
            · have HNX := Lib.hid (show pieceF s i (d + 1) best back = pieceF s i 1 0 0 by rw [← HEQ.out, piece_less HK.out.2.2 (by rw [← HK.out.1, HAL.out]; exact hbt)])
              go_wp2_with fail
              go_quiet (fail)
              go_wp2_with fail
              go_roundw
              case rel => exact ⟨d + 1, best, back, by have := HK.out.2.1; go_num, rfl, rfl, by omega, by omega, by omega, by omega, by omega, (hx.trans hxq).drewN _, HNX.out⟩
              case measure => (simp [intOf]; try omega)
        · have HST := Lib.hid (show alikeF s k i j = j from alike_stop (fun h => h2 h.2.1))
          have t3 : decide ((i : Int) + (j : Int) < (s.size : Int)) = false := by simp; omega
          clear h2
          have HAL := Lib.hid (show alikeF s k i 0 = j by rw [← HEJ.out, HST.out])
          by_cases hbt : best < j
          · have HNX := Lib.hid (show pieceF s i (d + 1) j d = pieceF s i 1 0 0 by rw [← HEQ.out, piece_more HK.out.2.2 (by rw [← HK.out.1, HAL.out]; exact hbt), ← HK.out.1, HAL.out])
            go_wp2_with fail
            go_quiet (fail)
            go_wp2_with fail
            go_roundw
            case rel => exact ⟨d + 1, j, d, by have := HK.out.2.1; go_num, rfl, by first | rfl | go_num, by omega, by omega, by omega, by omega, by omega, (hx.trans hxq).drewN _, HNX.out⟩
            case measure => (simp [intOf]; try omega)
          · have HNX := Lib.hid (show pieceF s i (d + 1) best back = pieceF s i 1 0 0 by rw [← HEQ.out, piece_less HK.out.2.2 (by rw [← HK.out.1, HAL.out]; exact hbt)])
            go_wp2_with fail
            go_quiet (fail)
            go_wp2_with fail
            go_roundw
            case rel => exact ⟨d + 1, best, back, by have := HK.out.2.1; go_num, rfl, rfl, by omega, by omega, by omega, by omega, by omega, (hx.trans hxq).drewN _, HNX.out⟩
            case measure => (simp [intOf]; try omega)
    · have HPE := Lib.hid (show (best, back) = pieceF s i 1 0 0 by rw [← HEQ.out, piece_end hc])
      have hcs : ¬ d ≤ i ∨ (d ≤ i ∧ ¬ d ≤ 255) := by omega
      have hsb : IntKind.i64.wrap ((i : Int) - ((i : Int) - (d : Int))) = (d : Int) := by rw [IntKind.wrap_i64]; omega
      clear hc HEQ
      rcases hcs with hA | ⟨hA, hB⟩
      · have t1 : decide ((0 : Int) ≤ (i : Int) - (d : Int)) = false := by simp; omega
        go_wp2_with fail
        go_ret2
        rw [← HPE.out]
        exact ⟨rfl, hx⟩
      · have t1 : decide ((0 : Int) ≤ (i : Int) - (d : Int)) = true := by simp; omega
        have hB' : ¬ (d : Int) ≤ 255 := by omega
        go_wp2_with fail
        go_ret2
        rw [← HPE.out]
        exact ⟨rfl, hx⟩
end Go.Proofs.YtgjijcgkmofaaaaGreatDoor

/-
  Regions that draw their order, told by what each operation yields: each operation is walked once, whatever order is drawn. Conditions: what is told of a value stays as the world grows.
-/
namespace Go.Proofs.YtgjijcgkmofaaaaGreatDoor
set_option linter.unusedSimpArgs false
set_option linter.unusedVariables false
open Go.RowKit

/-- The operations that it waits for. -/
def waits (x : Oper) : List Nat := (x.after.toList.filter (Region.binds .any)).map (·.on)
def waitsAt (L : List Oper) (i : Nat) : List Nat := ((L[i]?).map waits).getD []
def upd (vals : Nat → Value) (i : Nat) (v : Value) : Nat → Value := fun j => if j = i then v else vals j
theorem upd_same (vals : Nat → Value) (i : Nat) (v : Value) : upd vals i v i = v := if_pos rfl
theorem upd_other (vals : Nat → Value) {i j : Nat} (v : Value) (h : j ≠ i) : upd vals i v j = vals j := if_neg h
/-- The frame with the operations' values. -/
def putAll (a : Act) (vals : Nat → Value) : Nat → List Oper → Act
  | _, [] => a
  | n, x :: l => putAll (a.put x.dst (vals n)) vals (n + 1) l
def apart : List (Option Tmp) → Bool
  | [] => true
  | d :: l => (d.isNone || !l.contains d) && apart l
theorem put_comm (a : Act) {d e : Option Tmp} (u v : Value) (h : d = none ∨ d ≠ e) : (a.put d u).put e v = (a.put e v).put d u := by
  cases d with
  | none => rfl
  | some d =>
    cases e with
    | none => rfl
    | some e =>
      have hde : d ≠ e := by
        rcases h with h | h
        · cases h
        · intro hh; exact h (by rw [hh])
      unfold Act.put
      simp only [Act.mk.injEq, and_true]
      exact Array.setIfInBounds_comm _ _ hde
theorem put_put (a : Act) (d : Option Tmp) (u v : Value) : (a.put d u).put d v = a.put d v := by
  cases d with
  | none => rfl
  | some d => unfold Act.put; simp
theorem put_own (a : Act) (d : Tmp) : a.put (some d) (a.tmps.getD d undef) = a := by
  unfold Act.put
  obtain ⟨t, ds⟩ := a
  simp only [Act.mk.injEq, and_true]
  apply Array.ext_getElem?
  intro k
  rw [Array.getElem?_setIfInBounds]
  by_cases h : d = k
  · subst h
    rw [if_pos rfl]
    by_cases h2 : d < t.size
    · simp [h2]
    · simp [h2]
  · rw [if_neg h]
theorem putAll_put (a : Act) (vals : Nat → Value) (d : Option Tmp) (v : Value) : ∀ (l : List Oper) (n : Nat), (d = none ∨ ¬ d ∈ l.map (·.dst)) → putAll (a.put d v) vals n l = (putAll a vals n l).put d v := by
  intro l
  induction l generalizing a with
  | nil => intro n _; rfl
  | cons x l ih =>
    intro n h
    unfold putAll
    have h1 : d = none ∨ d ≠ x.dst := by
      rcases h with h | h
      · exact .inl h
      · right; intro hh; exact h (by simp [hh])
    have h2 : d = none ∨ ¬ d ∈ l.map (·.dst) := by
      rcases h with h | h
      · exact .inl h
      · right; intro hh; exact h (by rw [List.map_cons]; exact List.mem_cons_of_mem _ hh)
    rw [put_comm a v (vals n) h1, ih _ _ h2]
theorem putAll_upd_lt (a : Act) (vals : Nat → Value) (i : Nat) (v : Value) : ∀ (l : List Oper) (n : Nat), i < n → putAll a (upd vals i v) n l = putAll a vals n l := by
  intro l
  induction l generalizing a with
  | nil => intro n _; rfl
  | cons x l ih =>
    intro n h
    unfold putAll
    rw [upd_other _ _ (by omega), ih _ _ (by omega)]
theorem putAll_upd (a : Act) (vals : Nat → Value) (v : Value) : ∀ (l : List Oper) (n i : Nat) (x : Oper), apart (l.map (·.dst)) = true → l[i]? = some x → putAll a (upd vals (n + i) v) n l = (putAll a vals n l).put x.dst v := by
  intro l
  induction l generalizing a with
  | nil => intro n i x _ h; simp at h
  | cons y l ih =>
    intro n i x hap h
    rw [List.map_cons] at hap
    unfold apart at hap
    rw [Bool.and_eq_true] at hap
    unfold putAll
    cases i with
    | zero =>
      simp only [List.getElem?_cons_zero, Option.some.injEq] at h
      subst h
      rw [Nat.add_zero, upd_same, putAll_upd_lt _ _ _ _ _ _ (by omega), ← put_put a y.dst (vals n) v]
      refine putAll_put _ _ _ _ _ _ ?_
      have h1 := hap.1
      rw [Bool.or_eq_true] at h1
      rcases h1 with h1 | h1
      · left; simpa using h1
      · right; simpa using h1
    | succ i =>
      rw [List.getElem?_cons_succ] at h
      rw [upd_other _ _ (by omega), show n + (i + 1) = n + 1 + i by omega]
      exact ih _ _ _ _ hap.2 h
def oldAt (a : Act) (L : List Oper) (i : Nat) : Value := match L[i]? with
  | some x => match x.dst with
    | some d => a.tmps.getD d undef
    | none => undef
  | none => undef
theorem putAll_old (a : Act) (vals : Nat → Value) : ∀ (l : List Oper) (n : Nat), (∀ i x d, l[i]? = some x → x.dst = some d → vals (n + i) = a.tmps.getD d undef) → putAll a vals n l = a := by
  intro l
  induction l with
  | nil => intro n _; rfl
  | cons x l ih =>
    intro n h
    unfold putAll
    have h0 : a.put x.dst (vals n) = a := by
      cases hd : x.dst with
      | none => rfl
      | some d =>
        have := h 0 x d rfl hd
        rw [Nat.add_zero] at this
        rw [this, put_own]
    rw [h0]
    refine ih (n + 1) (fun i x d h1 h2 => ?_)
    have := h (i + 1) x d (by rw [List.getElem?_cons_succ]; exact h1) h2
    rw [← this]
    congr 1
    omega
/-- What is told of the value at a place. -/
def At (V : List (Value → World → Prop)) (i : Nat) (v : Value) (w : World) : Prop := match V[i]? with
  | some p => p v w
  | none => False
def valsOk (L : List Oper) : Bool := apart (L.map (·.dst)) && L.all (fun x => x.guard.isNone) && (List.range L.length).all (fun i => (waitsAt L i).all (fun j => decide (j < i)))

section
variable {P : Program} {Q : Exit → Act → World → Prop}
/-- One operation's walk. -/
def St (P : Program) (Q : Exit → Act → World → Prop) (L : List Oper) (a0 : Act) (F : (Nat → Value) → Act) (V : List (Value → World → Prop)) (w0 : World) (i : Nat) (x : Oper) : Prop :=
  ∀ vals w, Ext w0 w → (∀ j, (waits x).contains j = true → At V j (vals j) w) → (∀ j, (waitsAt L j).contains i = true → vals j = oldAt a0 L j) →
    ∀ K : Act → World → Prop, (∀ a' v w', a' = (F vals).put x.dst v → At V i v w' → Ext w w' → K a' w') → x.wp P (F vals) w K Q
def Steps (f : Nat → Oper → Prop) : Nat → List Oper → Prop
  | _, [] => True
  | n, x :: l => f n x ∧ Steps f (n + 1) l
theorem Steps.at {f : Nat → Oper → Prop} : ∀ {l : List Oper} {n i : Nat} {x : Oper}, Steps f n l → l[i]? = some x → f (n + i) x := by
  intro l
  induction l with
  | nil => intro n i x _ h; simp at h
  | cons y l ih =>
    intro n i x hs h
    cases i with
    | zero => simp only [List.getElem?_cons_zero, Option.some.injEq] at h; subst h; exact hs.1
    | succ i =>
      rw [List.getElem?_cons_succ] at h
      have := ih hs.2 h
      rwa [show n + (i + 1) = n + 1 + i by omega]
theorem mem_waits {x : Oper} {j : Nat} : (waits x).contains j = true ↔ ∃ e ∈ x.after, Region.binds .any e = true ∧ e.on = j := by
  unfold waits
  rw [List.contains_iff_mem, List.mem_map]
  constructor
  · rintro ⟨e, h1, h2⟩
    rw [List.mem_filter] at h1
    exact ⟨e, by simpa using h1.1, h1.2, h2⟩
  · rintro ⟨e, h1, h2, h3⟩
    exact ⟨e, by rw [List.mem_filter]; exact ⟨by simpa using h1, h2⟩, h3⟩
theorem getD_set_same {b : Array Bool} {i : Nat} (h : i < b.size) (d : Bool) : (b.setIfInBounds i true).getD i d = true := by
  simp [Array.getD_eq_getD_getElem?, h]
theorem getD_set_other {b : Array Bool} {i k : Nat} (h : i ≠ k) (d : Bool) : (b.setIfInBounds i true).getD k d = b.getD k d := by
  simp [Array.getD_eq_getD_getElem?, Array.getElem?_setIfInBounds, h]
/-- How many have not come up yet. -/
def left_ (b : Array Bool) : Nat := b.toList.count false
theorem left_set {b : Array Bool} {i : Nat} (h : i < b.size) (hb : b.getD i true = false) : left_ (b.setIfInBounds i true) + 1 = left_ b := by
  unfold left_
  obtain ⟨l⟩ := b
  simp only [List.setIfInBounds_toArray] at *
  have hb' : l[i]? = some false := by
    simp only [List.size_toArray] at h
    rw [Array.getD_eq_getD_getElem?] at hb
    simp [h] at hb
    simp [h, hb]
  clear hb
  induction l generalizing i with
  | nil => simp at hb'
  | cons x l ih =>
    cases i with
    | zero =>
      simp only [List.getElem?_cons_zero, Option.some.injEq] at hb'
      subst hb'
      simp
    | succ i =>
      rw [List.getElem?_cons_succ] at hb'
      simp only [List.set_cons_succ, List.count_cons]
      have := ih (i := i) (by simp only [List.size_toArray, List.length_cons] at h ⊢; omega) hb'
      omega
theorem wpAny_vals_go {L : List Oper} {a0 : Act} {w0 : World} {F : (Nat → Value) → Act} (hF : ∀ vals, putAll a0 vals 0 L = F vals) (V : List (Value → World → Prop)) (hok : valsOk L = true)
    (hV : ∀ p ∈ V, ∀ v w w', p v w → Ext w w' → p v w') (hs : Steps (St P Q L a0 F V w0) 0 L)
    (done : ∀ vals w, Ext w0 w → (∀ i, i < L.length → At V i (vals i) w) → Q .normal (F vals) w) :
    ∀ (fuel : Nat) (listed : Array Bool) (vals : Nat → Value) (w : World), listed.size = L.length → left_ listed ≤ fuel → Ext w0 w →
      (∀ i, i < L.length → listed.getD i true = true → At V i (vals i) w ∧ ∀ j, (waitsAt L i).contains j = true → listed.getD j false = true) →
      (∀ i, listed.getD i true = false → vals i = oldAt a0 L i) →
      wpAny P .any L.toArray Q fuel listed (F vals) w := by
  unfold valsOk at hok
  rw [Bool.and_eq_true, Bool.and_eq_true] at hok
  obtain ⟨⟨hap, hgu⟩, hord⟩ := hok
  have hAt : ∀ i v w w', At V i v w → Ext w w' → At V i v w' := by
    intro i v w w' h e
    unfold At at *
    cases hp : V[i]? with
    | none => rw [hp] at h; exact h
    | some p => rw [hp] at h; exact hV p (List.mem_of_getElem? hp) _ _ _ h e
  have hall : ∀ (listed : Array Bool), listed.size = L.length → Region.ready .any L.toArray listed = [] → ∀ i, i < L.length → listed.getD i true = true := by
    intro listed hsz hr i
    induction i using Nat.strongRecOn with
    | ind i ih =>
      intro hi
      cases hb : listed.getD i true with
      | true => rfl
      | false =>
        have : i ∈ Region.ready .any L.toArray listed := by
          rw [ready_mem]
          refine ⟨by simpa using hi, hb, L[i], by simp [hi], fun e he hbd => ?_⟩
          have hlt : e.on < i := by
            have h1 := List.all_eq_true.1 hord i (List.mem_range.2 hi)
            have h2 := List.all_eq_true.1 h1 e.on (by
              unfold waitsAt
              rw [List.getElem?_eq_getElem hi]
              exact List.contains_iff_mem.1 (mem_waits.2 ⟨e, he, hbd, rfl⟩))
            simpa using h2
          have := ih e.on hlt (by omega)
          have hin : e.on < listed.size := by omega
          simpa [Array.getD_eq_getD_getElem?, hin] using this
        rw [hr] at this
        cases this
  intro fuel
  induction fuel with
  | zero =>
    intro listed vals w hsz hl e hv ho
    have hno : Region.ready .any L.toArray listed = [] := by
      apply List.eq_nil_iff_forall_not_mem.2
      intro i hi
      obtain ⟨h1, h2, _⟩ := ready_mem.1 hi
      have := left_set (b := listed) (i := i) (by simpa [hsz] using h1) h2
      omega
    exact ⟨hno, done vals w e fun i hi => (hv i hi (hall listed hsz hno i hi)).1⟩
  | succ fuel ih =>
    intro listed vals w hsz hl e hv ho
    refine ⟨fun hno => done vals w e fun i hi => (hv i hi (hall listed hsz hno i hi)).1, fun i hi => ?_⟩
    obtain ⟨h1, h2, x, hx, h3⟩ := ready_mem.1 hi
    have hil : i < L.length := by simpa using h1
    have hxL : L[i]? = some x := by simpa using hx
    have hg : x.guard = none := by
      have := List.all_eq_true.1 hgu x (List.mem_of_getElem? hxL)
      simpa using this
    unfold wpOp
    rw [hx]
    simp only
    rw [if_pos (by simp [Region.wanted, hg])]
    left
    have hst := hs.at hxL
    rw [Nat.zero_add] at hst
    have hwait : ∀ j, (waits x).contains j = true → listed.getD j false = true := by
      intro j hj
      obtain ⟨ed, he1, he2, rfl⟩ := mem_waits.1 hj
      exact h3 ed he1 he2
    refine hst vals w e (fun j hj => ?_) (fun j hj => ?_) _ ?_
    · have hlj := hwait j hj
      have hjs : j < L.length := by
        by_cases h : j < listed.size
        · omega
        · simp [Array.getD_eq_getD_getElem?, h] at hlj
      refine (hv j hjs ?_).1
      have hin : j < listed.size := by omega
      simpa [Array.getD_eq_getD_getElem?, hin] using hlj
    · refine ho j ?_
      cases hb : listed.getD j true with
      | false => rfl
      | true =>
        by_cases hjl : j < L.length
        · have := (hv j hjl hb).2 i hj
          have hin : i < listed.size := by omega
          simp [Array.getD_eq_getD_getElem?, hin] at this h2
          rw [this] at h2
          cases h2
        · unfold waitsAt at hj
          rw [List.getElem?_eq_none (by omega)] at hj
          simp at hj
    · intro a' v w' ha' hv' e'
      subst ha'
      have hput : (F vals).put x.dst v = F (upd vals i v) := by
        rw [← hF, ← hF, ← putAll_upd a0 vals v L 0 i x hap hxL, Nat.zero_add]
      rw [hput]
      refine ih _ _ _ (by simpa using hsz) (by have := left_set (b := listed) (i := i) (by omega) h2; omega) (e.trans e') (fun k hk hkl => ?_) (fun k hk => ?_)
      · by_cases hki : k = i
        · subst hki
          rw [upd_same]
          refine ⟨hv', fun j hj => ?_⟩
          have hj' : (waits x).contains j = true := by
            unfold waitsAt at hj
            rw [hxL] at hj
            exact hj
          have hlj := hwait j hj'
          by_cases hjk : k = j
          · subst hjk; exact getD_set_same (by omega) _
          · rw [getD_set_other hjk]; exact hlj
        · rw [upd_other _ _ hki]
          rw [getD_set_other (Ne.symm hki)] at hkl
          obtain ⟨g1, g2⟩ := hv k hk hkl
          refine ⟨hAt _ _ _ _ g1 e', fun j hj => ?_⟩
          have hlj := g2 j hj
          by_cases hji : i = j
          · subst hji; exact getD_set_same (by omega) _
          · rw [getD_set_other hji]; exact hlj
      · by_cases hki : k = i
        · subst hki
          rw [getD_set_same (by omega)] at hk
          cases hk
        · rw [upd_other _ _ hki]
          rw [getD_set_other (Ne.symm hki)] at hk
          exact ho k hk
/-- THE REGION: each operation is walked once. -/
theorem wp_region_vals {id : Nat} {L : List Oper} {a0 : Act} {w : World} {F : (Nat → Value) → Act} (hF : ∀ vals, putAll a0 vals 0 L = F vals) (V : List (Value → World → Prop)) (hm : P.follows .mixedOrders = true) (hok : valsOk L = true)
    (hV : ∀ p ∈ V, ∀ v w w', p v w → Ext w w' → p v w') (hs : Steps (St P Q L a0 F V w.drew) 0 L)
    (done : ∀ vals w', Ext w.drew w' → (∀ i, i < L.length → At V i (vals i) w') → Q .normal (F vals) w') : (Code.region id L.toArray true).wp P Q a0 w := by
  refine wp_region_any hm ?_
  have h0 : F (oldAt a0 L) = a0 := by
    rw [← hF]
    refine putAll_old _ _ _ _ (fun i x d h1 h2 => ?_)
    rw [Nat.zero_add]
    unfold oldAt
    rw [h1]
    simp only
    rw [h2]
  have := wpAny_vals_go hF V hok hV hs done L.toArray.size (Array.replicate L.toArray.size false) (oldAt a0 L) w.drew (by simp) (by simp [left_]) (Ext.refl _)
    (fun i hi h => by
      exfalso
      simp [Array.getD_eq_getD_getElem?, Array.getElem?_replicate, hi] at h)
    (fun i _ => rfl)
  rw [h0] at this
  exact this
theorem st_quiet {x : Oper} {a : Act} {w : World} {K : Act → World → Prop} (v : Value) (hy : (execOp a.eval x).run P w = .ok (.value v) w) (h : K (a.put x.dst v) w) : x.wp P a w K Q := by
  unfold Oper.wp
  rw [hy]
  exact h
/-- Two texts, one behind the other. -/
theorem st_concat {x : Oper} {a : Act} {w : World} {K : Act → World → Prop} (p q : Operand) (t t' : TypeId) (s u : ByteArray) (ho : x.op = .binOp .add t p q t') (hp : a.eval p = .string s) (hq : a.eval q = .string u) (hn : s.size + u.size ≤ 9223372036854775807) (h : K (a.put x.dst (.string (s ++ u))) w) : x.wp P a w K Q := by
  refine st_quiet (.string (s ++ u)) ?_ h
  unfold execOp
  rw [ho]
  simp only
  rw [hp, hq]
  have hn' : ¬ ((s.size + u.size : Nat) : Int) > IntKind.i64.max := by
    rw [show IntKind.i64.max = 9223372036854775807 from rfl]; omega
  simp only [eqGuard, binOp, Op.stringOp, Sem.run_bind]
  rw [if_neg hn']
  rfl
/-- The bounds of a part of a text. -/
def boundOf (a : Act) (lo : Option Operand) (d : Nat) (l : Nat) : Prop := match lo with
  | none => l = d
  | some p => a.eval p = .int .i64 (l : Int)
/-- A part of a text. -/
theorem st_slice {x : Oper} {a : Act} {w : World} {K : Act → World → Prop} (t : TypeId) (p : Operand) (lo hi : Option Operand) (s : ByteArray) (l h : Nat) (ho : x.op = .slice t p lo hi none) (ht : P.underlying t = some .string) (hp : a.eval p = .string s) (hlo : boundOf a lo 0 l) (hhi : boundOf a hi s.size h) (h1 : l ≤ h) (h2 : h ≤ s.size)
    (hK : K (a.put x.dst (.string (s.extract l h))) w) : x.wp P a w K Q := by
  refine st_quiet (.string (s.extract l h)) ?_ hK
  have hb : (Instr.sliceBounds false s.size s.size (lo.map a.eval) (hi.map a.eval) none).run P w = .ok (l, h, s.size) w := by
    unfold Instr.sliceBounds
    have i1 : (0 : Int) ≤ (h : Int) ∧ (h : Int) ≤ (s.size : Int) := ⟨by omega, by omega⟩
    have i2 : (0 : Int) ≤ (l : Int) ∧ (l : Int) ≤ (h : Int) := ⟨by omega, by omega⟩
    cases lo with
    | none =>
      cases hi with
      | none => simp only [boundOf] at hlo hhi; subst hlo hhi; simp
      | some q => simp only [boundOf] at hlo hhi; subst hlo; simp [Instr.sliceBound, hhi, asIntOf, i1, h2]
    | some q =>
      cases hi with
      | none => simp only [boundOf] at hlo hhi; subst hhi; simp [Instr.sliceBound, hlo, asIntOf, i2, h1]
      | some r => simp only [boundOf] at hlo hhi; simp [Instr.sliceBound, hlo, hhi, asIntOf, i1, i2, h1, h2]
  unfold execOp
  rw [ho]
  simp only [Sem.run_bind, Instr.sliceAt, hp, Option.map_none]
  simp [Instr.slice, ht, hb, underlying]
end
end Go.Proofs.YtgjijcgkmofaaaaGreatDoor

/-
  The document's plainly and PackedOf: bytes as they are, and packed. Conditions: the text is short.
-/
namespace Go.Proofs.YtgjijcgkmofaaaaGreatDoor
set_option linter.unusedSimpArgs false
set_option linter.unusedVariables false
open Go.RowKit

theorem lst_ext0 (s : ByteArray) (n : Nat) : lst (s.extract 0 n) = (lst s).take n := by
  unfold lst; rw [ByteArray.data_extract, Array.toList_extract]; simp [List.extract]
theorem lst_ext (s : ByteArray) (a b : Nat) : lst (s.extract a b) = sub_ s a b := by
  unfold lst sub_
  rw [ByteArray.data_extract, Array.toList_extract]
  simp [List.extract, List.drop_take, lst]
theorem plain_join (s : ByteArray) (n : Nat) (hn : n = min s.size 128) (h0 : 0 < s.size) : bs [byte ((n : Int) - 1)] ++ s.extract 0 n ++ bs (plainF (lst (s.extract n s.size))) = bs (plainF (lst s)) := by
  apply lst_inj
  rw [lst_append, lst_append, lst_bs, lst_bs, lst_bs, lst_ext0, lst_ext]
  have hne : lst s ≠ [] := by intro h; have := length_lst s; rw [h] at this; simp at this; omega
  have hn1 : 1 ≤ n := by omega
  rw [plainF.eq_def (lst s), dif_neg hne, length_lst, ← hn]
  have hb : byte ((n : Int) - 1) = UInt8.ofNat (n - 1) := by
    unfold byte; congr 1; show ((n : Int) - 1).toNat = n - 1; omega
  have ht : (lst s).take n = (lst s).take 128 := by
    by_cases h : s.size ≤ 128
    · rw [List.take_of_length_le (by rw [length_lst]; omega), List.take_of_length_le (by rw [length_lst]; omega)]
    · rw [show n = 128 by omega]
  have hd : sub_ s n s.size = (lst s).drop 128 := by
    unfold sub_
    rw [List.take_of_length_le (by rw [length_lst]; omega)]
    by_cases h : s.size ≤ 128
    · rw [List.drop_of_length_le (by rw [length_lst]; omega), List.drop_of_length_le (by rw [length_lst]; omega)]
    · rw [show n = 128 by omega]
  rw [hb, ht, hd]
  simp
theorem plain_size (l : List UInt8) : (bs (plainF l)).size = l.length + (l.length + 127) / 128 := by rw [size_bs, plain_len]
end Go.Proofs.YtgjijcgkmofaaaaGreatDoor

/-
  The document's PackedOf: a text, with what stands there already made short. Conditions: none.
-/
namespace Go.Proofs.YtgjijcgkmofaaaaGreatDoor
set_option linter.unusedSimpArgs false
set_option linter.unusedVariables false
open Go.RowKit

theorem pack_plain {s : ByteArray} {o : List UInt8} {f i : Nat} (h : i < s.size) (h2 : (pieceF s i 1 0 0).1 < 4) : packF s o f i = packF s o f (i + 1) := by
  rw [packF, dif_pos h, dif_pos h2]
theorem pack_piece {s : ByteArray} {o : List UInt8} {f i n d : Nat} (h : i < s.size) (hp : pieceF s i 1 0 0 = (n, d)) (h2 : ¬ n < 4) : packF s o f i = packF s (o ++ plainF (sub_ s f i) ++ [UInt8.ofNat (124 + n), UInt8.ofNat d]) (i + n) (i + n) := by
  rw [packF, dif_pos h, hp, dif_neg h2]
theorem pack_stop {s : ByteArray} {o : List UInt8} {f i : Nat} (h : ¬ i < s.size) : packF s o f i = o ++ plainF (sub_ s f s.size) := by
  rw [packF, dif_neg h]
theorem bs_app (a b : List UInt8) : bs a ++ bs b = bs (a ++ b) := by apply lst_inj; rw [lst_append, lst_bs, lst_bs, lst_bs]
theorem plain_len2 (l : List UInt8) : (plainF l).length ≤ 2 * l.length := by rw [plain_len]; omega
theorem byte_124 (n : Nat) : byte (124 + (n : Int)) = UInt8.ofNat (124 + n) := by unfold byte; congr 1
theorem byte_cast (n : Nat) : byte (n : Int) = UInt8.ofNat n := by unfold byte; congr 1
end Go.Proofs.YtgjijcgkmofaaaaGreatDoor
