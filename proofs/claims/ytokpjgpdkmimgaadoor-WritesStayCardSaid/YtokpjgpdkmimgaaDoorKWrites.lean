/-
  WritesStay: who writes a sector changes no other one, though its partner be told by the parity alone. Conditions: the first argument reads as a list of raw numbers; the table of powers of ten that the library reads is in place.
-/
import Derived.Test.YtokpjgpdkmimgaaDoorJ12
namespace Go.Proofs.YtokpjgpdkmimgaaDoor
set_option linter.unusedSimpArgs false
set_option linter.unusedVariables false
open Go.RowKit

set_option maxRecDepth 100000 in
set_option maxHeartbeats 8000000 in
theorem lawWritesStay_any (v : Value) (l : List Raw4) (at_ : Int) (s : ByteArray) (w : World) (h : SlR 4 32 RRaw w v l) (ha : I64 at_) (hsz : s.size ≤ 140737488355328) (ht : Tab w) :
    Calls Tryd.prog 11 #[v, .int .i64 at_, .string s] w fun e w' => e = .returned (.bool true) ∧ Ext w w' := by
  have HI := Lib.hid ha
  have HT := Lib.hid ht
  have HH := Lib.hid h
  have hszI : (s.size : Int) ≤ 140737488355328 := by omega
  clear ha ht h
  obtain ⟨u, hu⟩ : ∃ u, u = min s.size 24 := ⟨_, rfl⟩
  have hu1I : (u : Int) ≤ (s.size : Int) := by omega
  have hu4 : (u : Int) ≤ 24 := by omega
  have hmin : min (s.size : Int) 24 = (u : Int) := by omega
  obtain ⟨q, hq⟩ : ∃ q, q = s.extract 0 u := ⟨_, rfl⟩
  have HQ6 := Lib.hid (show q.size ≤ 24 by rw [hq, ByteArray.size_extract]; omega)
  have hq24 : (q.size : Int) ≤ 24 := by have := HQ6.out; omega
  have HQ := Lib.hid hq
  clear hu hq hsz
  go_enter Tryd.func11, Tryd.ntmps11
  go_wp2_with fail
  refine (filled_any v l 16 w HH.out (by decide) (by decide) (by decide) HT.out).mono ?_
  rintro e w1 ⟨A, c, g, a, all, rfl, hx1, hg1, hs1, hr1, hf1⟩
  have HX1 := Lib.hid hx1
  have HS1 := Lib.hid hs1
  have HR1 := Lib.hid hr1
  have HF := Lib.hid hf1
  have HG1 := Lib.hid hg1
  clear hx1 hg1 hs1 hr1 hf1
  go_wp2_with fail
  refine calls_abs (fun W => Ext w1 W ∧ Blk_ W w1.heap.size 40 #[.slice A 3 c]) ⟨(Ext.refl _).alloc _, Blk_.new _ _ _⟩ ?_
  rintro w2 ⟨hx2, hb2⟩
  obtain ⟨b8, h8⟩ : ∃ b8, b8 = w1.heap.size := ⟨_, rfl⟩
  rw [← h8] at hb2 ⊢
  have HX2 := Lib.hid (HX1.out.trans hx2)
  have HS2 := Lib.hid (HS1.out.ext hx2)
  have HR2 := Lib.hid (HR1.out.up hx2)
  have HB8 := Lib.hid hb2
  clear hx2 hb2 h8 HX1 HS1 HR1
  refine (picked_any at_ 16 w2 HI.out (by omega) (by omega)).mono ?_
  rintro e w3 ⟨rfl, hw⟩
  obtain rfl := hw.symm
  have hpr := pick_range at_ 16 (by decide)
  obtain ⟨k, hk⟩ := Int.eq_ofNat_of_zero_le hpr.1
  rw [hk] at hpr ⊢
  have hk16 : (k : Int) < 16 := hpr.2
  have HK := Lib.hid (show k < 16 by omega)
  clear hpr hk
  obtain ⟨t0, t1, d, e1, hfd⟩ := keep_write HF.out HK.out HQ6.out
  have hpk := pt_lt HK.out (show 16 % 2 = 0 by decide)
  obtain ⟨q2, hq2⟩ : ∃ p, p = pt k := ⟨_, rfl⟩
  rw [← hq2] at t0 t1 e1 hpk
  have HXO := Lib.hid (show bits .xor .i64 (k : Int) 1 = (q2 : Int) by rw [partner_xor k (by omega) (by omega), partner_pt, hq2])
  have HPK := Lib.hid hpk
  obtain ⟨_, _, hpart, _, _⟩ := HF.out.lostBoth (by decide) hpk
  have HG12 := Lib.hid hpart.good
  have HL2 := Lib.hid (lose_two t0 t1)
  have HE1 := Lib.hid e1
  have HFD := Lib.hid hfd
  clear t0 t1 e1 hfd hpk hpart hq2
  have f8 := HB8.out.cell 0
  simp at f8
  have hxo := HXO.out
  go_wp2_with fail
  clear hxo
  refine calls_abs (fun W => Ext w2 W ∧ Blk_ W w2.heap.size 76 ([(⟨4, 0, q2, 0, 0⟩ : HA), ⟨4, 1, q2, 0, 0⟩].flatMap encHA).toArray) ⟨(Ext.refl _).alloc _, Blk_.new _ _ _⟩ ?_
  rintro w4 ⟨hx4, hb4⟩
  refine (hurt_any A c a 16 (some ⟨w2.heap.size, 0, none⟩) 2 [⟨4, 0, q2, 0, 0⟩, ⟨4, 1, q2, 0, 0⟩] w4 (HR2.out.up hx4) HF.out.good (acts_row hb4) (by
    intro x hx
    have hkk := HPK.out
    simp only [List.mem_cons, List.not_mem_nil, or_false] at hx
    rcases hx with rfl | rfl
    · exact ⟨by show (0 : Nat) < 3; decide, rfl, by unfold I64; dsimp only; omega⟩
    · exact ⟨by show (1 : Nat) < 3; decide, rfl, by unfold I64; dsimp only; omega⟩) (by show (2 : Nat) ≤ 1000000; decide)).mono ?_
  rintro e w5 ⟨A12, c12, rfl, hx5, hr5⟩
  rw [HL2.out] at hr5
  have HX5 := Lib.hid (HX2.out.trans (hx4.trans hx5))
  have HS5 := Lib.hid (HS2.out.ext (hx4.trans hx5))
  have HR5 := Lib.hid hr5
  clear hx4 hx5 hb4 hr5 HX2 HS2 HR2 HB8 f8
  go_wp2_with fail
  rw [← HQ.out]
  refine calls_abs (fun W => Ext w5 W) ((Ext.refl _).alloc _) ?_
  intro w6 hx6
  refine (arrWrite_any [.slice A12 3 c12] (lostBoth a q2) k q w6 (HR5.out.up hx6) (by unfold I64; omega) (by have := HQ6.out; omega)).mono ?_
  rintro e w7 ⟨A14, c14, rfl, hx7, ho7⟩
  have hd3 := HFD.out.good.len
  rw [HE1.out] at ho7 ⊢
  simp only at ho7 ⊢
  rw [hd3] at ho7 ⊢
  have HO7 := Lib.hid ho7
  have HX7 := Lib.hid (HX5.out.trans (hx6.trans hx7))
  have HS7 := Lib.hid (HS5.out.ext (hx6.trans hx7))
  have HG7 := Lib.hid (show g < w6.heap.size from Blk_.lt (HS5.out.ext hx6))
  clear hd3 ho7 hx6 hx7 HX5 HS5 HR5
  go_wp2_with fail
  refine calls_abs (fun W => Ext w7 W ∧ Blk_ W w7.heap.size 40 #[.slice A14 3 c14]) ⟨(Ext.refl _).alloc _, Blk_.new _ _ _⟩ ?_
  rintro w8 ⟨hx8, hb8⟩
  obtain ⟨b14, h14⟩ : ∃ b14, b14 = w7.heap.size := ⟨_, rfl⟩
  rw [← h14] at hb8 ⊢
  refine (repeat_any (24 - (q.size : Int)) w8 (by omega) (by omega)).mono ?_
  rintro e w9 ⟨rfl, hx9⟩
  obtain ⟨P, hP⟩ : ∃ P, P = padS q := ⟨_, rfl⟩
  have HPD := Lib.hid hP
  rw [show (24 - (q.size : Int)).toNat = 24 - q.size by omega]
  obtain ⟨Y, hY⟩ : ∃ Y, Y = bs (List.replicate (24 - q.size) (0 : UInt8)) := ⟨_, rfl⟩
  rw [← hY]
  have hYP : q ++ Y = P := by rw [hP, hY]; exact pad_join q
  have hYs : q.size + Y.size ≤ 9223372036854775807 := by rw [hY, size_bs, List.length_replicate]; omega
  have HX9 := Lib.hid (HX7.out.trans (hx8.trans hx9))
  have HS9 := Lib.hid (HS7.out.ext (hx8.trans hx9))
  have HO9 := Lib.hid (HO7.out.ext (hx8.trans hx9))
  have HB14 := Lib.hid (hb8.ext hx9)
  have HG14 := Lib.hid (show g < b14 by rw [h14]; exact Blk_.lt HS7.out)
  have gc := HS9.out.cell (n := k) (by have := HK.out; rw [HF.out.len]; omega)
  have gz := Blk_.frozen HS9.out k
  have f14 := (HB14.out.far (p := ⟨g, k, none⟩) (by have := HG14.out; dsimp only; omega) (.string P)).cell 0
  simp at f14
  clear hP hY hx8 hx9 hb8 h14 HX7 HS7 HO7
  go_wp2_with fail
  refine calls_abs (fun W => Ext w W ∧ RArr W [.slice A14 3 c14] d ∧ Strs W g (all.set k P)) ⟨HX9.out.setCell (by have := HG1.out; dsimp only; omega) _, (HO9.out.far (p := ⟨g, k, none⟩) (by have := HG7.out; dsimp only; omega) _).rarr (by rw [HFD.out.good.len]; decide), HS9.out.set k P⟩ ?_
  rintro w10 ⟨hx10, hr10, hs10⟩
  rw [HPD.out] at hs10
  refine (reads_any (.slice A14 3 c14) d (all.set k (padS q)) g 16 w10 hr10 hs10 HFD.out.len (by decide) (fun n hn => ⟨1, HFD.out.read (by decide) (by decide) (by decide) hn⟩)).mono ?_
  rintro e w11 ⟨rfl, hx11⟩
  have HX11 := Lib.hid (hx10.trans hx11)
  clear hx10 hr10 hs10 hx11 gc gz f14
  go_wp2_with fail
  go_ret
  exact ⟨rfl, HX11.out⟩
end Go.Proofs.YtokpjgpdkmimgaaDoor
