/-
  Two lists of answers that read alike: the comparison in TopTwice says so. Conditions: they do.
-/
import Derived.Test.YtgjijcgkmofaaaaGreatDoorKSame
namespace Go.Proofs.YtgjijcgkmofaaaaGreatDoor
set_option linter.unusedSimpArgs false
set_option linter.unusedVariables false
open Go.RowKit
set_option maxRecDepth 100000 in
set_option maxHeartbeats 4000000 in
theorem sameTwice_any (x : Ans) (N1 N2 G1 G2 : Option Addr) (e1 e2 f1 f2 : Nat) (w : World) (h1 : SlR 1 16 RStr w (.slice N1 x.names.length e1) x.names) (h2 : SlR 1 8 RInt w (.slice G1 x.gone.length f1) x.gone) (k1 : SlR 1 16 RStr w (.slice N2 x.names.length e2) x.names) (k2 : SlR 1 8 RInt w (.slice G2 x.gone.length f2) x.gone) :
  Calls Tryz.prog 41 #[.agg #[.int .i64 x.code, .string x.data, .slice N1 x.names.length e1, .int .i64 x.count, .slice G1 x.gone.length f1], .agg #[.int .i64 x.code, .string x.data, .slice N2 x.names.length e2, .int .i64 x.count, .slice G2 x.gone.length f2]] w fun e w' => e = .returned (.bool true) ∧ Ext w w' := by
 have H1 := Lib.hid h1
 have H2 := Lib.hid h2
 have K1 := Lib.hid k1
 have K2 := Lib.hid k2
 obtain ⟨xc, xd, xn, xk, xg⟩ := x
 dsimp only at *
 clear h1 h2 k1 k2
 go_enter Tryz.func41, Tryz.ntmps41
 go_wp2_with fail
 refine calls_abs (fun W => Ext w W ∧ Blk_ W w.heap.size 46 #[.int .i64 xc, .string xd, .slice N1 xn.length e1, .int .i64 xk, .slice G1 xg.length f1] ∧ Blk_ W (w.heap.size + 1) 46 #[.int .i64 xc, .string xd, .slice N2 xn.length e2, .int .i64 xk, .slice G2 xg.length f2]) ⟨((Ext.refl _).alloc _).alloc _, (Blk_.new _ _ _).alloc _, Blk_.new1 _ _ _ _⟩ ?_
 rintro w1 ⟨hx1, ha1, hb1⟩
 refine (eqInts_any _ _ xg w1 (H2.out.ext RInt.stays hx1) (K2.out.ext RInt.stays hx1)).mono ?_
 rintro e w2 ⟨rfl, hx2⟩
 have HX2 := Lib.hid (hx1.trans hx2)
 have ga := ha1.ext hx2
 have gb := hb1.ext hx2
 have a2 := ga.cell 2
 have b2 := gb.cell 2
 simp at a2 b2
 clear hx1 ha1 hb1 hx2 ga gb
 go_wp2_with fail
 refine (eqStrs_any _ _ xn w2 (H1.out.ext RStr.stays HX2.out) (K1.out.ext RStr.stays HX2.out)).mono ?_
 rintro e w3 ⟨rfl, hx3⟩
 have HX3 := Lib.hid (HX2.out.trans hx3)
 clear hx3 a2 b2
 go_wp2_with fail
 go_ret
 exact ⟨rfl, HX3.out⟩
set_option maxRecDepth 100000 in
set_option maxHeartbeats 4000000 in
theorem eqTwice_any (v1 v2 : Value) (a : List Ans) (w : World) (h1 : SlR 5 80 RAns w v1 a) (h2 : SlR 5 80 RAns w v2 a) :
  Calls Tryz.prog 36 #[v1, v2, .func (.func 41) #[] #[]] w fun e w' => e = .returned (.bool true) ∧ Ext w w' := by
 obtain ⟨A1, c1, rfl, hb1, hc1, _⟩ := h1.rowR
 obtain ⟨A2, c2, rfl, hb2, hc2, _⟩ := h2.rowR
 have P1 := Lib.hid (ans_cells h1)
 have P2 := Lib.hid (ans_cells h2)
 have hl : (a.length : Int) ≤ 140737488355328 := by omega
 have hne : (((a.length : Int)) != (a.length : Int)) = false := by simp
 clear h1 h2 hb1 hb2
 go_enter Tryz.func36, Tryz.ntmps36
 go_wp2
 go_loopw [17] (fun kv wr => ∃ (k : Nat), kv = .int .i64 k ∧ k ≤ a.length ∧ Ext w wr) (fun kv _ => a.length - (intOf kv).toNat)
 case atStart => exact ⟨0, rfl, Nat.zero_le _, Ext.refl _⟩
 case round =>
  obtain ⟨k, rfl, hk, hx⟩ := hrel
  have HX := Lib.hid hx
  by_cases hlt : k < a.length
  ·obtain ⟨b, o, n1, g1, rfl, p0, p1, p2, p3, p4, r1, r2⟩ := P1.out k hlt
   obtain ⟨b', o', n2, g2, rfl, z0, z1, z2, z3, z4, s1, s2⟩ := P2.out k hlt
   have q0 := hx.cell p0
   have q1 := hx.cell p1
   have q2 := hx.cell p2
   have q3 := hx.cell p3
   have q4 := hx.cell p4
   have y0 := hx.cell z0
   have y1 := hx.cell z1
   have y2 := hx.cell z2
   have y3 := hx.cell z3
   have y4 := hx.cell z4
   have hbl := cell_lt y0
   obtain ⟨x, hxx⟩ : ∃ x, x = a[k] := ⟨_, rfl⟩
   rw [← hxx] at q0 q1 q3 y0 y1 y3 r1 r2 s1 s2
   obtain ⟨xc, xd, xn, xk, xg⟩ := x
   dsimp only at q0 q1 q3 y0 y1 y3 r1 r2 s1 s2
   have HR := Lib.hid (And.intro r1 (And.intro r2 (And.intro s1 s2)))
   obtain ⟨N1, e1, rfl, _⟩ := r1.row
   obtain ⟨G1, f1, rfl, _⟩ := r2.row
   obtain ⟨N2, e2, rfl, _⟩ := s1.row
   obtain ⟨G2, f2, rfl, _⟩ := s2.row
   have hltI : (k : Int) < (a.length : Int) := by omega
   have HK := Lib.hid hlt
   clear hxx p0 p1 p2 p3 p4 z0 z1 z2 z3 z4 hlt hk hx r1 r2 s1 s2
   go_wp2_with fail
   refine calls_abs (fun W => Ext wr W) (((Ext.refl _).alloc _).alloc _) ?_
   rintro w1 hx1
   refine (sameTwice_any ⟨xc, xd, xn, xk, xg⟩ N1 N2 G1 G2 e1 e2 f1 f2 w1 (HR.out.1.ext RStr.stays (HX.out.trans hx1)) (HR.out.2.1.ext RInt.stays (HX.out.trans hx1)) (HR.out.2.2.1.ext RStr.stays (HX.out.trans hx1)) (HR.out.2.2.2.ext RInt.stays (HX.out.trans hx1))).mono ?_
   rintro e w2 ⟨rfl, hx2⟩
   have HX2 := Lib.hid (HX.out.trans (hx1.trans hx2))
   clear hx1 hx2 q0 q1 q2 q3 q4 y0 y1 y2 y3 y4 hbl
   go_wp2_with fail
   go_roundw
   case rel => exact ⟨k + 1, by first | rfl | go_num, HK.out, HX2.out⟩
   case measure => have := HK.out; (simp [intOf]; try omega)
  ·have hltI : (a.length : Int) ≤ (k : Int) := by omega
   clear hlt
   go_wp2_with fail
   go_ret
   exact ⟨rfl, HX.out⟩
end Go.Proofs.YtgjijcgkmofaaaaGreatDoor
