/-
  CatalogsBack: a catalog is read as it was written, with 0s behind it, but with nothing else; cut short it is not. Conditions: the first argument reads as a list of raw numbers.
-/
import Derived.Test.YtokpjgpdkmimgaaDoorG12
namespace Go.Proofs.YtokpjgpdkmimgaaDoor
set_option linter.unusedSimpArgs false
set_option linter.unusedVariables false
open Go.RowKit

theorem RCat.parts {w : World} {v1 v2 : Value} {c : Cat} (h : RCat w [v1, v2] c) : SlR 2 16 RBlk w v1 c.blocks ∧ SlR 4 40 REnt w v2 c.entries := by
  obtain ⟨u1, u2, e, h1, h2⟩ := h
  injection e with e1 e2
  injection e2 with e2 _
  subst e1 e2
  exact ⟨h1, h2⟩
set_option maxRecDepth 100000 in
set_option maxHeartbeats 4000000 in
theorem lawCatalogsBack_any (v : Value) (l : List Raw4) (n cut : Int) (w : World) (h : SlR 4 32 RRaw w v l) (hn : I64 n) (hc : I64 cut) :
    Calls Tryd.prog 7 #[v, .int .i64 n, .int .i64 cut] w fun e w' => e = .returned (.bool true) ∧ Ext w w' := by
  have HIN := Lib.hid (And.intro hn hc)
  clear hn hc
  go_enter Tryd.func7, Tryd.ntmps7
  go_wp2_with fail
  refine (catalog_any v l w h).mono ?_
  rintro e w1 ⟨A1, c1, A2, c2, k, rfl, hx1, hk9, hr1⟩
  have hok := cCat_ok l k hk9
  obtain ⟨C, hC⟩ : ∃ C, C = cCat l k := ⟨_, rfl⟩
  rw [← hC] at hr1 hok ⊢
  have HX1 := Lib.hid hx1
  have HR1 := Lib.hid hr1
  have HOK := Lib.hid hok
  have hlen := catBytes_len hok
  have hsz : (encCatS C).1.size = (catBytes C).length := by rw [enc_good hok]; exact size_bs _
  have hen : (encCatS C).2 = 0 := by rw [enc_good hok]
  have D1 := Lib.hid (fun m => dec_zeros hok m)
  have D2 := Lib.hid (dec_more hok)
  have D3 := Lib.hid (fun m hm => dec_short hok m hm)
  obtain ⟨S, hS⟩ : ∃ S, S = (encCatS C).1 := ⟨_, rfl⟩
  have hs2 : 2 ≤ S.size ∧ S.size ≤ 200 := by rw [hS, hsz]; exact hlen
  rw [← hS] at D1 D2 D3
  have HSS := Lib.hid hS
  clear hC hx1 hr1 hok hlen hsz hS h
  obtain ⟨hs20, hs21⟩ := hs2
  go_wp2_with fail
  refine calls_abs (fun W => Ext w1 W ∧ Blk_ W w1.heap.size 25 #[.slice A1 C.blocks.length c1, .slice A2 C.entries.length c2]) ⟨(Ext.refl _).alloc _, Blk_.new _ _ _⟩ ?_
  rintro w2 ⟨hx2, hb2⟩
  refine (catEncode_any _ C w2 (HR1.out.up hx2)).mono ?_
  rintro e w3 ⟨rfl, hx3⟩
  rw [hen, ← HSS.out]
  have HX3 := Lib.hid (HX1.out.trans (hx2.trans hx3))
  have HR3 := Lib.hid (HR1.out.up (hx2.trans hx3))
  have HB3 := Lib.hid (hb2.ext hx3)
  clear hx2 hb2 hx3 hen HX1 HR1
  obtain ⟨g, hg⟩ : ∃ g, g = w1.heap.size := ⟨_, rfl⟩
  rw [← hg] at HB3 ⊢
  clear hg
  go_wp2_with (first | (go_at_call 16; refine (picked_any n 50 _ HIN.out.1 (by omega) (by omega)).mono ?_; rintro en w9 ⟨rfl, rfl⟩))
  have hm := pick_range n 50 (by decide)
  obtain ⟨m, hmm⟩ := Int.eq_ofNat_of_zero_le hm.1
  rw [hmm] at hm ⊢
  obtain ⟨hm0, hm1⟩ := hm
  have hm2 : m < 50 := by omega
  clear hmm
  refine (repeat_any (m : Int) _ (by omega) (by omega)).mono ?_
  rintro e w4 ⟨rfl, hx4⟩
  rw [Int.toNat_natCast]
  have HX4 := Lib.hid (HX3.out.trans hx4)
  have HR4 := Lib.hid (HR3.out.up hx4)
  have HB4 := Lib.hid (HB3.out.ext hx4)
  obtain ⟨Z, hZ⟩ : ∃ Z, Z = bs (List.replicate m (0 : UInt8)) := ⟨_, rfl⟩
  rw [← hZ]
  have hz : Z.size = m := by rw [hZ, size_bs, List.length_replicate]
  have HD1 := Lib.hid (show decCatS (S ++ Z) = (C, 0) by rw [hZ]; exact D1.out m)
  have hsum : S.size + Z.size ≤ 9223372036854775807 := by omega
  clear hZ hx4 HX3 HR3 HB3 D1
  go_wp2_with fail
  refine (catDecode_any (S ++ Z) w4 (by rw [ByteArray.size_append]; omega)).mono ?_
  rintro e w5 ⟨B1, d1, B2, d2, rfl, hx5, hr5⟩
  rw [HD1.out] at hr5 ⊢
  have HX5 := Lib.hid (HX4.out.trans hx5)
  have HR5 := Lib.hid (HR4.out.up hx5)
  have HB5 := Lib.hid (HB4.out.ext hx5)
  have HQ5 := Lib.hid hr5
  clear hx5 hr5 HX4 HR4 HB4 HD1 hz hsum
  dsimp only
  go_wp2_with fail
  refine calls_abs (fun W => Ext w5 W ∧ Blk_ W w5.heap.size 25 #[.slice B1 C.blocks.length d1, .slice B2 C.entries.length d2]) ⟨(Ext.refl _).alloc _, Blk_.new _ _ _⟩ ?_
  rintro w6 ⟨hx6, hb6⟩
  obtain ⟨Y, hY⟩ : ∃ Y, Y = S ++ (⟨#[0, 120]⟩ : ByteArray) := ⟨_, rfl⟩
  have hW : Y.size ≤ 140737488355328 := by rw [hY, ByteArray.size_append]; have : (⟨#[0, 120]⟩ : ByteArray).size = 2 := rfl; omega
  have hlit : (⟨#[0, 120]⟩ : ByteArray) = bs [0, 120] := rfl
  have hd2 : decCatS Y = (noCat, 4) := by rw [hY, hlit]; exact D2.out
  rw [← hY]
  clear hlit hY
  refine (catDecode_any Y w6 hW).mono ?_
  rintro e w7 ⟨E1, e1, E2, e2, rfl, hx7, hr7⟩
  rw [hd2]
  have HX7 := Lib.hid (HX5.out.trans (hx6.trans hx7))
  have HR7 := Lib.hid (HR5.out.up (hx6.trans hx7))
  have HB7 := Lib.hid (HB5.out.ext (hx6.trans hx7))
  have HQ7 := Lib.hid (HQ5.out.up (hx6.trans hx7))
  have HD7 := Lib.hid (hb6.ext hx7)
  obtain ⟨g2, hg2⟩ : ∃ g, g = w5.heap.size := ⟨_, rfl⟩
  rw [← hg2] at HD7 ⊢
  clear hx6 hb6 hx7 hr7 hd2 HX5 HR5 HB5 HQ5 hW D2 hg2
  dsimp only
  go_wp2_with fail
  have hmx : max (S.size : Int) 1 = (S.size : Int) := by omega
  rw [hmx]
  clear hmx
  refine calls_abs (fun W => Ext w7 W) ((Ext.refl _).alloc _) ?_
  intro w8 hx8
  refine (picked_any cut (S.size : Int) _ HIN.out.2 (by omega) (by omega)).mono ?_
  rintro e w9 ⟨rfl, hw⟩
  obtain rfl := hw.symm
  have hm := pick_range cut (S.size : Int) (by omega)
  obtain ⟨q, hq⟩ := Int.eq_ofNat_of_zero_le hm.1
  rw [hq] at hm ⊢
  obtain ⟨hq0, hq1⟩ := hm
  have hqs : q < S.size := by omega
  obtain ⟨X, hX⟩ : ∃ X, X = S.extract 0 q := ⟨_, rfl⟩
  have hXs : X.size ≤ 140737488355328 := by rw [hX, ByteArray.size_extract]; omega
  have hd3 : decCatS X = (noCat, 5) := by rw [hX]; exact D3.out q hqs
  have HXX := Lib.hid hX
  have HXs := Lib.hid hXs
  have HD3 := Lib.hid hd3
  clear hq hqs hX hXs hd3 D3
  go_wp2_with fail
  rw [← HXX.out]
  refine (catDecode_any X _ HXs.out).mono ?_
  rintro e w10 ⟨G1, i1, G2, i2, rfl, hx10, hr10⟩
  rw [HD3.out]
  dsimp only
  have HX10 := Lib.hid (HX7.out.trans (hx8.trans hx10))
  have HR10 := Lib.hid (HR7.out.up (hx8.trans hx10))
  have HB10 := Lib.hid (HB7.out.ext (hx8.trans hx10))
  have HQ10 := Lib.hid (HQ7.out.up (hx8.trans hx10))
  have HD10 := Lib.hid (HD7.out.ext (hx8.trans hx10))
  clear hx8 hx10 hr10 HX7 HR7 HB7 HQ7 HD7 HXX HXs HD3 hq0 hq1
  have f0 := HB10.out.cell 0
  have f1 := HB10.out.cell 1
  simp at f0 f1
  have l0 := HB10.out.lt
  go_wp2_with fail
  clear f0 f1 l0
  refine calls_abs (fun W => Ext w10 W) ((Ext.refl _).alloc _) ?_
  intro w11 hx11
  have HX11 := Lib.hid (HX10.out.trans hx11)
  have HR11 := Lib.hid (HR10.out.up hx11)
  have HB11 := Lib.hid (HB10.out.ext hx11)
  have HQ11 := Lib.hid (HQ10.out.up hx11)
  have HD11 := Lib.hid (HD10.out.ext hx11)
  clear hx11 HX10 HR10 HB10 HQ10 HD10
  obtain ⟨hn0, hn8⟩ := next_ge HOK.out
  refine (catNext_any _ C w11 HR11.out).mono ?_
  rintro e w12 ⟨rfl, hx12⟩
  rw [hn0]
  obtain ⟨nx, hnx⟩ : ∃ nx, nx = (nextS C).1 := ⟨_, rfl⟩
  rw [← hnx] at hn8 ⊢
  have HX12 := Lib.hid (HX11.out.trans hx12)
  have HR12 := Lib.hid (HR11.out.up hx12)
  have HB12 := Lib.hid (HB11.out.ext hx12)
  have HQ12 := Lib.hid (HQ11.out.up hx12)
  have HD12 := Lib.hid (HD11.out.ext hx12)
  clear hx12 hn0 hnx HX11 HR11 HB11 HQ11 HD11
  have f0 := HB12.out.cell 0
  have f1 := HB12.out.cell 1
  have d0 := HD12.out.cell 0
  have d1' := HD12.out.cell 1
  simp at f0 f1 d0 d1'
  go_wp2_with fail
  have HE1 := Lib.hid (RCat.parts HR12.out)
  have HE2 := Lib.hid (RCat.parts HQ12.out)
  refine (eqBlks_any _ _ C.blocks _ HE1.out.1 HE2.out.1).mono ?_
  rintro e w13 ⟨rfl, hx13⟩
  have g0 := hx13.cell f0
  have g1 := hx13.cell f1
  have j0 := hx13.cell d0
  have j1 := hx13.cell d1'
  have HX13 := Lib.hid (HX12.out.trans hx13)
  have HR13 := Lib.hid (HR12.out.up hx13)
  have HE3 := Lib.hid (HE1.out.2.ext REnt.stays hx13)
  have HE4 := Lib.hid (HE2.out.2.ext REnt.stays hx13)
  clear f0 f1 d0 d1' hx13 HX12 HR12 HB12 HD12 HQ12 HE1 HE2
  go_wp2_with fail
  refine (eqEnts_any _ _ C.entries _ HE3.out HE4.out).mono ?_
  rintro e w14 ⟨rfl, hx14⟩
  have f0 := hx14.cell g0
  have f1 := hx14.cell g1
  have HX14 := Lib.hid (HX13.out.trans hx14)
  have HR14 := Lib.hid (HR13.out.up hx14)
  clear g0 g1 j0 j1 hx14 HX13 HR13 HE3 HE4
  go_wp2_with fail
  refine (catCheck_any _ C w14 HR14.out).mono ?_
  rintro e w15 ⟨rfl, hx15⟩
  rw [HOK.out]
  have HX15 := Lib.hid (HX14.out.trans hx15)
  clear hx15 HX14 HR14 f0 f1
  go_wp2_with fail
  go_ret
  exact ⟨rfl, HX15.out⟩
end Go.Proofs.YtokpjgpdkmimgaaDoor

/-
  The laws' arguments, opened by their types: lists of raw numbers. Conditions: none.
-/
namespace Go.Proofs.YtokpjgpdkmimgaaDoor
set_option linter.unusedSimpArgs false
set_option linter.unusedVariables false
open Go.RowKit Go.ChangeShapes Go.WideShapes Go.ChangeAt Go.Deep
section
variable {H : Type} {enc : TypeId × Value → H} {w : World} {spare : Nat → Bool}

theorem opensRaw : Opens H enc Tryd.prog w spare 96 RRaw := by
  intro fuel cs x h hz
  obtain ⟨hlen, hf⟩ := opens_fields Tryd.underlying96 h hz
  rw [show Tryd.prog.cellsOf 96 = 4 by kernel_rfl] at hlen
  obtain ⟨n0, y0, t0', z0'⟩ := hf 0 _ rfl
  have t0 : DataW.trod enc Tryd.prog w 0 spare true n0 3 ((cs.drop 0).take (Tryd.prog.cellsOf 3)) = some y0 := t0'
  have z0 : ∀ k ∈ y0.1.weights Tryd.prog 3, k ≤ reachBytes := z0'
  clear t0' z0'
  rw [show Tryd.prog.cellsOf 3 = 1 by kernel_rfl] at t0
  obtain ⟨n1, y1, t1', z1'⟩ := hf 1 _ rfl
  have t1 : DataW.trod enc Tryd.prog w 0 spare true n1 3 ((cs.drop 1).take (Tryd.prog.cellsOf 3)) = some y1 := t1'
  have z1 : ∀ k ∈ y1.1.weights Tryd.prog 3, k ≤ reachBytes := z1'
  clear t1' z1'
  rw [show Tryd.prog.cellsOf 3 = 1 by kernel_rfl] at t1
  obtain ⟨n2, y2, t2', z2'⟩ := hf 2 _ rfl
  have t2 : DataW.trod enc Tryd.prog w 0 spare true n2 3 ((cs.drop 2).take (Tryd.prog.cellsOf 3)) = some y2 := t2'
  have z2 : ∀ k ∈ y2.1.weights Tryd.prog 3, k ≤ reachBytes := z2'
  clear t2' z2'
  rw [show Tryd.prog.cellsOf 3 = 1 by kernel_rfl] at t2
  obtain ⟨n3, y3, t3', z3'⟩ := hf 3 _ rfl
  have t3 : DataW.trod enc Tryd.prog w 0 spare true n3 3 ((cs.drop 3).take (Tryd.prog.cellsOf 3)) = some y3 := t3'
  have z3 : ∀ k ∈ y3.1.weights Tryd.prog 3, k ≤ reachBytes := z3'
  clear t3' z3'
  rw [show Tryd.prog.cellsOf 3 = 1 by kernel_rfl] at t3
  obtain ⟨u0, u1, u2, u3, rfl⟩ := len4 hlen
  clear hf h hz
  obtain ⟨a0, r0⟩ := (opens_int Tryd.underlying3) n0 _ y0 t0 z0
  obtain ⟨a1, r1⟩ := (opens_int Tryd.underlying3) n1 _ y1 t1 z1
  obtain ⟨a2, r2⟩ := (opens_int Tryd.underlying3) n2 _ y2 t2 z2
  obtain ⟨a3, r3⟩ := (opens_int Tryd.underlying3) n3 _ y3 t3 z3
  obtain ⟨e0, r0⟩ := r0
  obtain ⟨e1, r1⟩ := r1
  obtain ⟨e2, r2⟩ := r2
  obtain ⟨e3, r3⟩ := r3
  refine ⟨⟨a0, a1, a2, a3⟩, ?_, r0, r1, r2, r3⟩
  have e0' : u0 = .int .i64 a0 := by simpa using e0
  have e1' : u1 = .int .i64 a1 := by simpa using e1
  have e2' : u2 = .int .i64 a2 := by simpa using e2
  have e3' : u3 = .int .i64 a3 := by simpa using e3
  rw [e0', e1', e2', e3']

theorem opensRaws : Opens H enc Tryd.prog w spare 47 (fun w cs (l : List Raw4) => ∃ v, cs = [v] ∧ SlR 4 32 RRaw w v l) :=
  opens_slice Tryd.underlying47 (by kernel_rfl) (by decide) (by kernel_rfl) opensRaw

end
end Go.Proofs.YtokpjgpdkmimgaaDoor
