/-
  Answers, devices and arrays that read alike: the harness's ways to compare them say so. Conditions: they do.
-/
import Derived.Test.YtgjijcgkmofaaaaGreatDoorQ26
namespace Go.Proofs.YtgjijcgkmofaaaaGreatDoor
set_option linter.unusedSimpArgs false
set_option linter.unusedVariables false
open Go.RowKit
theorem eqStrs_any (v1 v2 : Value) (l : List ByteArray) (w : World) (h1 : SlR 1 16 RStr w v1 l) (h2 : SlR 1 16 RStr w v2 l) :
  Calls Tryz.prog 32 #[v1, v2] w fun e w' => e = .returned (.bool true) ∧ Ext w w' := by
 obtain ⟨A1, c1, rfl, hl, hc1, r1⟩ := h1.row
 obtain ⟨A2, c2, rfl, _, hc2, r2⟩ := h2.row
 by_cases h0 : l = []
 ·subst h0
  refine (Tryz.slices_Equal_string_empty A1 A2 c1 0 c2 w (by decide)).mono ?_
  rintro e w' ⟨rfl, hw⟩
  obtain rfl := hw
  exact ⟨by simp, Ext.refl _⟩
 ·have hpos : 0 < l.length := List.length_pos_iff.2 h0
  obtain ⟨b1, o1, rfl, g1⟩ := r1 0 hpos
  obtain ⟨b2, o2, rfl, g2⟩ := r2 0 hpos
  refine (Tryz.slices_Equal_string b1 o1 l.length c1 b2 o2 l.length c2 l l w (Nat.le_refl _) (Nat.le_refl _) (by omega) (by omega) (fun j hj => ?_) (fun j hj => ?_)).mono ?_
  ·obtain ⟨u, hu, hr⟩ := g1 j hj
   obtain rfl := hr.val
   rw [hu, List.getD_eq_getElem?_getD, List.getElem?_eq_getElem hj]
   rfl
  ·obtain ⟨u, hu, hr⟩ := g2 j hj
   obtain rfl := hr.val
   rw [hu, List.getD_eq_getElem?_getD, List.getElem?_eq_getElem hj]
   rfl
  ·rintro e w' ⟨rfl, q, rfl⟩
   exact ⟨by simp, (Ext.refl _).drewN q⟩
theorem eqInts_any (v1 v2 : Value) (l : List Int) (w : World) (h1 : SlR 1 8 RInt w v1 l) (h2 : SlR 1 8 RInt w v2 l) :
  Calls Tryz.prog 39 #[v1, v2] w fun e w' => e = .returned (.bool true) ∧ Ext w w' := by
 obtain ⟨A1, c1, rfl, hl, hc1, r1⟩ := h1.row
 obtain ⟨A2, c2, rfl, _, hc2, r2⟩ := h2.row
 by_cases h0 : l = []
 ·subst h0
  refine (Tryz.slices_Equal_int_empty A1 A2 c1 0 c2 w (by decide)).mono ?_
  rintro e w' ⟨rfl, hw⟩
  obtain rfl := hw
  exact ⟨by simp, Ext.refl _⟩
 ·have hpos : 0 < l.length := List.length_pos_iff.2 h0
  obtain ⟨b1, o1, rfl, g1⟩ := r1 0 hpos
  obtain ⟨b2, o2, rfl, g2⟩ := r2 0 hpos
  refine (Tryz.slices_Equal_int b1 o1 l.length c1 b2 o2 l.length c2 l l w (Nat.le_refl _) (Nat.le_refl _) (by omega) (by omega) (fun j hj => ?_) (fun j hj => ?_)).mono ?_
  ·obtain ⟨u, hu, hr⟩ := g1 j hj
   obtain rfl := hr.val
   rw [hu, List.getD_eq_getElem?_getD, List.getElem?_eq_getElem hj]
   rfl
  ·obtain ⟨u, hu, hr⟩ := g2 j hj
   obtain rfl := hr.val
   rw [hu, List.getD_eq_getElem?_getD, List.getElem?_eq_getElem hj]
   rfl
  ·rintro e w' ⟨rfl, q, rfl⟩
   exact ⟨by simp, (Ext.refl _).drewN q⟩
set_option maxRecDepth 100000 in
set_option maxHeartbeats 2000000 in
theorem eqBools_any (v1 v2 : Value) (l : List Bool) (w : World) (h1 : SlR 1 1 RBool w v1 l) (h2 : SlR 1 1 RBool w v2 l) :
  Calls Tryz.prog 33 #[v1, v2] w fun e w' => e = .returned (.bool true) ∧ Ext w w' := by
 obtain ⟨A1, c1, rfl, hb1, hc1, p1⟩ := h1.rowE encBool_ok
 obtain ⟨A2, c2, rfl, hb2, hc2, p2⟩ := h2.rowE encBool_ok
 have P1 := Lib.hid p1
 have P2 := Lib.hid p2
 have hl : (l.length : Int) ≤ 140737488355328 := by omega
 have hne : (((l.length : Int)) != (l.length : Int)) = false := by simp
 clear h1 h2 p1 p2 hb1 hb2
 go_enter Tryz.func33, Tryz.ntmps33
 go_wp2
 go_loopw [13] (fun kv wr => ∃ (k : Nat), kv = .int .i64 k ∧ k ≤ l.length ∧ Ext w wr) (fun kv _ => l.length - (intOf kv).toNat)
 case atStart => exact ⟨0, rfl, Nat.zero_le _, Ext.refl _⟩
 case round =>
  obtain ⟨k, rfl, hk, hx⟩ := hrel
  have HX := Lib.hid hx
  by_cases hlt : k < l.length
  ·obtain ⟨b, o, rfl, g1⟩ := P1.out k hlt
   obtain ⟨b', o', rfl, g2⟩ := P2.out k hlt
   have q0 := hx.cell (g1 k hlt 0 _ rfl)
   have y0 := hx.cell (g2 k hlt 0 _ rfl)
   obtain ⟨x, hxx⟩ : ∃ x, x = l[k] := ⟨_, rfl⟩
   rw [← hxx] at q0 y0
   simp only [Nat.mul_one, Nat.add_zero] at q0 y0
   have hltI : (k : Int) < (l.length : Int) := by omega
   have HK := Lib.hid hlt
   clear g1 g2 hxx hlt hk hx
   go_wp2_with fail
   go_quiet (fail)
   go_wp2_with fail
   go_roundw
   case rel => exact ⟨k + 1, by first | rfl | go_num, HK.out, by first | exact HX.out | exact HX.out.drew | exact HX.out.drewN _⟩
   case measure => have := HK.out; (simp [intOf]; try omega)
  ·have hltI : (l.length : Int) ≤ (k : Int) := by omega
   clear hlt
   go_wp2_with fail
   go_ret
   exact ⟨rfl, HX.out⟩
set_option maxRecDepth 100000 in
set_option maxHeartbeats 2000000 in
theorem sameDev_any (A1 A2 B1 B2 : Option Addr) (a1 a2 b1 b2 : Nat) (d : Dev) (w : World) (h1 : SlR 1 16 RStr w (.slice A1 d.sec.length a1) d.sec) (h2 : SlR 1 1 RBool w (.slice A2 d.lost.length a2) d.lost) (k1 : SlR 1 16 RStr w (.slice B1 d.sec.length b1) d.sec) (k2 : SlR 1 1 RBool w (.slice B2 d.lost.length b2) d.lost) :
  Calls Tryz.prog 69 #[.agg #[.slice A1 d.sec.length a1, .slice A2 d.lost.length a2], .agg #[.slice B1 d.sec.length b1, .slice B2 d.lost.length b2]] w fun e w' => e = .returned (.bool true) ∧ Ext w w' := by
 have H1 := Lib.hid h1
 have H2 := Lib.hid h2
 have K1 := Lib.hid k1
 have K2 := Lib.hid k2
 clear h1 h2 k1 k2
 go_enter Tryz.func69, Tryz.ntmps69
 go_wp2_with fail
 refine calls_abs (fun W => Ext w W ∧ Blk_ W w.heap.size 68 #[.slice A1 d.sec.length a1, .slice A2 d.lost.length a2] ∧ Blk_ W (w.heap.size + 1) 68 #[.slice B1 d.sec.length b1, .slice B2 d.lost.length b2]) ⟨((Ext.refl _).alloc _).alloc _, (Blk_.new _ _ _).alloc _, Blk_.new1 _ _ _ _⟩ ?_
 rintro w1 ⟨hx1, ha1, hb1⟩
 refine (eqStrs_any _ _ d.sec w1 (H1.out.ext RStr.stays hx1) (K1.out.ext RStr.stays hx1)).mono ?_
 rintro e w2 ⟨rfl, hx2⟩
 have HX2 := Lib.hid (hx1.trans hx2)
 have ga := ha1.ext hx2
 have gb := hb1.ext hx2
 have e1 := ga.cell 1
 have f1 := gb.cell 1
 simp at e1 f1
 clear hx1 ha1 hb1 hx2 ga gb
 go_wp2_with fail
 refine (eqBools_any _ _ d.lost w2 (H2.out.ext RBool.stays HX2.out) (K2.out.ext RBool.stays HX2.out)).mono ?_
 rintro e w3 ⟨rfl, hx3⟩
 have HX3 := Lib.hid (HX2.out.trans hx3)
 clear hx3 e1 f1
 go_wp2_with fail
 go_ret
 exact ⟨rfl, HX3.out⟩
theorem dev_cells {w : World} {A : Option Addr} {c : Nat} {a : List Dev} (h : SlR 2 48 RDev w (.slice A a.length c) a) : ∀ i (hi : i < a.length), ∃ b o A1 c1 A2 c2, A = some ⟨b, o, none⟩ ∧ w.cell? ⟨b, o + i * 2, none⟩ = some (.slice A1 a[i].sec.length c1) ∧ w.cell? ⟨b, o + i * 2 + 1, none⟩ = some (.slice A2 a[i].lost.length c2) ∧
  SlR 1 16 RStr w (.slice A1 a[i].sec.length c1) a[i].sec ∧ SlR 1 1 RBool w (.slice A2 a[i].lost.length c2) a[i].lost := by
 intro i hi
 obtain ⟨A', c', he, _, _, hrow⟩ := h.rowR
 injection he with he1 he2 he3
 subst he1
 obtain ⟨b, o, rfl, hc⟩ := hrow i hi
 obtain ⟨cs, hl, hcell, hd⟩ := hc i hi
 obtain ⟨A1, c1, A2, c2, rfl, h1, h2⟩ := hd.split
 exact ⟨b, o, A1, c1, A2, c2, rfl, hcell 0 _ rfl, hcell 1 _ rfl, h1, h2⟩
set_option maxRecDepth 100000 in
set_option maxHeartbeats 4000000 in
theorem eqDevs_any (v1 v2 : Value) (a : List Dev) (w : World) (h1 : SlR 2 48 RDev w v1 a) (h2 : SlR 2 48 RDev w v2 a) :
  Calls Tryz.prog 68 #[v1, v2, .func (.func 69) #[] #[]] w fun e w' => e = .returned (.bool true) ∧ Ext w w' := by
 obtain ⟨A1, c1, rfl, hb1, hc1, _⟩ := h1.rowR
 obtain ⟨A2, c2, rfl, hb2, hc2, _⟩ := h2.rowR
 have P1 := Lib.hid (dev_cells h1)
 have P2 := Lib.hid (dev_cells h2)
 have hl : (a.length : Int) ≤ 140737488355328 := by omega
 have hne : (((a.length : Int)) != (a.length : Int)) = false := by simp
 clear h1 h2 hb1 hb2
 go_enter Tryz.func68, Tryz.ntmps68
 go_wp2
 go_loopw [17] (fun kv wr => ∃ (k : Nat), kv = .int .i64 k ∧ k ≤ a.length ∧ Ext w wr) (fun kv _ => a.length - (intOf kv).toNat)
 case atStart => exact ⟨0, rfl, Nat.zero_le _, Ext.refl _⟩
 case round =>
  obtain ⟨k, rfl, hk, hx⟩ := hrel
  have HX := Lib.hid hx
  by_cases hlt : k < a.length
  ·obtain ⟨b, o, E1, f1, E2, f2, rfl, p0, p1, r1, r2⟩ := P1.out k hlt
   obtain ⟨b', o', G1, g1, G2, g2, rfl, z0, z1, s1, s2⟩ := P2.out k hlt
   have q0 := hx.cell p0
   have q1 := hx.cell p1
   have y0 := hx.cell z0
   have y1 := hx.cell z1
   have hbl := cell_lt y0
   obtain ⟨x, hxx⟩ : ∃ x, x = a[k] := ⟨_, rfl⟩
   rw [← hxx] at q0 q1 y0 y1 r1 r2 s1 s2
   have HR := Lib.hid (And.intro r1 (And.intro r2 (And.intro s1 s2)))
   have hltI : (k : Int) < (a.length : Int) := by omega
   have HK := Lib.hid hlt
   clear hxx p0 p1 z0 z1 hlt hk hx r1 r2 s1 s2
   go_wp2_with fail
   refine calls_abs (fun W => Ext wr W) (((Ext.refl _).alloc _).alloc _) ?_
   rintro w1 hx1
   refine (sameDev_any E1 E2 G1 G2 f1 f2 g1 g2 x w1 (HR.out.1.ext RStr.stays (HX.out.trans hx1)) (HR.out.2.1.ext RBool.stays (HX.out.trans hx1)) (HR.out.2.2.1.ext RStr.stays (HX.out.trans hx1)) (HR.out.2.2.2.ext RBool.stays (HX.out.trans hx1))).mono ?_
   rintro e w2 ⟨rfl, hx2⟩
   have HX2 := Lib.hid (HX.out.trans (hx1.trans hx2))
   clear hx1 hx2 q0 q1 y0 y1 hbl
   go_wp2_with fail
   go_roundw
   case rel => exact ⟨k + 1, by first | rfl | go_num, HK.out, HX2.out⟩
   case measure => have := HK.out; (simp [intOf]; try omega)
  ·have hltI : (a.length : Int) ≤ (k : Int) := by omega
   clear hlt
   go_wp2_with fail
   go_ret
   exact ⟨rfl, HX.out⟩
set_option maxRecDepth 100000 in
set_option maxHeartbeats 2000000 in
theorem sameArr_any (v1 v2 : Value) (a : List Dev) (w : World) (h1 : RArr w [v1] a) (h2 : RArr w [v2] a) :
  Calls Tryz.prog 38 #[.agg #[v1], .agg #[v2]] w fun e w' => e = .returned (.bool true) ∧ Ext w w' := by
 obtain ⟨x1, e1, h1⟩ := h1
 obtain ⟨x2, e2, h2⟩ := h2
 obtain rfl : v1 = x1 := by simpa using e1
 obtain rfl : v2 = x2 := by simpa using e2
 have H1 := Lib.hid h1
 have H2 := Lib.hid h2
 obtain ⟨A1, c1, rfl, _⟩ := h1
 obtain ⟨A2, c2, rfl, _⟩ := h2
 clear e1 e2
 go_enter Tryz.func38, Tryz.ntmps38
 go_wp2_with fail
 refine calls_abs (fun W => Ext w W) (((Ext.refl _).alloc _).alloc _) ?_
 rintro w1 hx1
 refine (eqDevs_any _ _ a w1 (H1.out.ext RDev.stays hx1) (H2.out.ext RDev.stays hx1)).mono ?_
 rintro e w2 ⟨rfl, hx2⟩
 have HX2 := Lib.hid (hx1.trans hx2)
 clear hx1 hx2
 go_wp2_with fail
 go_ret
 exact ⟨rfl, HX2.out⟩
end Go.Proofs.YtgjijcgkmofaaaaGreatDoor
