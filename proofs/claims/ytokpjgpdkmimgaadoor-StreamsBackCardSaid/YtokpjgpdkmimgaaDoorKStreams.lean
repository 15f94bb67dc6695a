/-
  StreamsBack: bytes are read as they were written, and what stands around them stays. Conditions: the first argument reads as a list of raw numbers; the table of powers of ten that the library reads is in place.
-/
import Derived.Test.YtokpjgpdkmimgaaDoorJ12
import Derived.Test.YtokpjgpdkmimgaaDoorPKeepStr
import Derived.Test.YtokpjgpdkmimgaaDoorWStreamW
namespace Go.Proofs.YtokpjgpdkmimgaaDoor
set_option linter.unusedSimpArgs false
set_option linter.unusedVariables false
open Go.RowKit

set_option maxRecDepth 100000 in
set_option maxHeartbeats 8000000 in
theorem lawStreamsBack_any (v : Value) (l : List Raw4) (at_ : Int) (s : ByteArray) (w : World) (h : SlR 4 32 RRaw w v l) (ha : I64 at_) (hsz : s.size ≤ 140737488355328) (ht : Tab w) :
    Calls Tryd.prog 12 #[v, .int .i64 at_, .string s] w fun e w' => e = .returned (.bool true) ∧ Ext w w' := by
  have HI := Lib.hid ha
  have HT := Lib.hid ht
  have HH := Lib.hid h
  have hszI : (s.size : Int) ≤ 140737488355328 := by omega
  have HSZ := Lib.hid hsz
  clear ha ht h hsz
  go_enter Tryd.func12, Tryd.ntmps12
  go_wp2_with fail
  refine (filled_any v l 40 w HH.out (by decide) (by decide) (by decide) HT.out).mono ?_
  rintro e w1 ⟨A, c, g, a, all, rfl, hx1, hg1, hs1, hr1, hf1⟩
  have HX1 := Lib.hid hx1
  have HS1 := Lib.hid hs1
  have HR1 := Lib.hid hr1
  have HF := Lib.hid hf1
  clear hx1 hg1 hs1 hr1 hf1
  go_wp2_with fail
  refine calls_abs (fun W => Ext w1 W ∧ Blk_ W w1.heap.size 40 #[.slice A 3 c]) ⟨(Ext.refl _).alloc _, Blk_.new _ _ _⟩ ?_
  rintro w2 ⟨hx2, hb2⟩
  obtain ⟨b8, h8⟩ : ∃ b8, b8 = w1.heap.size := ⟨_, rfl⟩
  rw [← h8] at hb2 ⊢
  have HX2 := Lib.hid (HX1.out.trans hx2)
  have HS2 := Lib.hid (HS1.out.ext hx2)
  have HR2 := Lib.hid (HR1.out.up hx2)
  have HB8 := Lib.hid hb2
  clear hx2 hb2 h8 HX1 HS1 HR1
  refine (picked_any at_ 40 w2 HI.out (by omega) (by omega)).mono ?_
  rintro e w3 ⟨rfl, hw⟩
  obtain rfl := hw.symm
  have hpr := pick_range at_ 40 (by decide)
  obtain ⟨k, hk⟩ := Int.eq_ofNat_of_zero_le hpr.1
  rw [hk] at hpr ⊢
  have hk40 : (k : Int) < 40 := hpr.2
  have HK := Lib.hid (show k < 40 by omega)
  clear hpr hk
  obtain ⟨r, hr⟩ : ∃ r, r = 40 - k := ⟨_, rfl⟩
  have y1 : (40 : Int) - (k : Int) = (r : Int) := by omega
  obtain ⟨r24, hr24⟩ : ∃ r24, r24 = r * 24 := ⟨_, rfl⟩
  have y2 : (r : Int) * 24 = (r24 : Int) := by omega
  obtain ⟨r25, hr25⟩ : ∃ r25, r25 = r24 + 1 := ⟨_, rfl⟩
  have y3 : (r24 : Int) + 1 = (r25 : Int) := by omega
  have b1 : (r : Int) ≤ 40 := by omega
  have b2 : (r24 : Int) ≤ 960 := by omega
  obtain ⟨u, hu⟩ : ∃ u, u = min s.size r24 := ⟨_, rfl⟩
  have hu1I : (u : Int) ≤ (s.size : Int) := by omega
  have hu4 : (u : Int) ≤ 960 := by omega
  have hmin : min (s.size : Int) (r24 : Int) = (u : Int) := by omega
  obtain ⟨q, hq⟩ : ∃ q, q = s.extract 0 u := ⟨_, rfl⟩
  have hqs : q.size = u := by rw [hq, ByteArray.size_extract]; omega
  have HQS := Lib.hid (show q.size ≤ (40 - k) * 24 by omega)
  have HQ := Lib.hid hq
  have hq960 : (q.size : Int) ≤ 960 := by omega
  obtain ⟨d, all', e1, hfd, e2, e3, hrd⟩ := keep_stream HF.out HK.out HQS.out
  rw [show ((40 - k) * 24 + 1 : Nat) = r25 by omega] at e3
  obtain ⟨sc, hsc⟩ : ∃ sc, sc = (q.size + 23) / 24 := ⟨_, rfl⟩
  have y4 : ((q.size : Int) + 23) / 24 = (sc : Int) := by omega
  have hsc40 : (sc : Int) ≤ 40 := by omega
  rw [← hsc] at hrd
  have HE1 := Lib.hid e1
  have HE2 := Lib.hid e2
  have HE3 := Lib.hid e3
  have HFD := Lib.hid hfd
  have HRD := Lib.hid hrd
  have HY4 := Lib.hid y4
  have HR25 := Lib.hid (show r25 ≤ 1000 by omega)
  clear hr hr24 hr25 hu hq hqs e1 hfd e2 e3 hrd hsc y4
  have f8 := HB8.out.cell 0
  simp at f8
  go_wp2_with fail
  rw [← HQ.out]
  refine (streamWrite_any [.slice A 3 c] a k q w2 HR2.out (by unfold I64; omega) (by omega)).mono ?_
  rintro e w5 ⟨A13, c13, rfl, hx5, ho5⟩
  have hd3 := HFD.out.good.len
  rw [HE1.out] at ho5 ⊢
  simp only at ho5 ⊢
  rw [hd3] at ho5 ⊢
  have HR5 := Lib.hid (ho5.rarr (by rw [hd3]; decide))
  have HX5 := Lib.hid (HX2.out.trans hx5)
  have HS5 := Lib.hid (HS2.out.ext hx5)
  clear hd3 ho5 hx5 HX2 HS2 HR2 HB8 f8 hmin hu1I hu4
  go_wp2_with fail
  refine calls_abs (fun W => Ext w5 W ∧ Blk_ W w5.heap.size 40 #[.slice A13 3 c13]) ⟨(Ext.refl _).alloc _, Blk_.new _ _ _⟩ ?_
  rintro w6 ⟨hx6, hb6⟩
  obtain ⟨b13, h13⟩ : ∃ b13, b13 = w5.heap.size := ⟨_, rfl⟩
  rw [← h13] at hb6 ⊢
  refine (streamRead_any [.slice A13 3 c13] d k q.size w6 (HR5.out.up hx6) (by unfold I64; omega) (by unfold I64; omega)).mono ?_
  rintro e w7 ⟨rfl, hx7⟩
  rw [HE2.out]
  have HX7 := Lib.hid (HX5.out.trans (hx6.trans hx7))
  have HS7 := Lib.hid (HS5.out.ext (hx6.trans hx7))
  have HR7 := Lib.hid (HR5.out.up (hx6.trans hx7))
  have HB7 := Lib.hid (hb6.ext hx7)
  clear hx6 hx7 hb6 h13 HX5 HS5 HR5
  have f13 := HB7.out.cell 0
  simp at f13
  go_wp2_with fail
  refine (streamRead_any [.slice A13 3 c13] d k r25 w7 HR7.out (by unfold I64; omega) (by have := HR25.out; unfold I64; omega)).mono ?_
  rintro e w8 ⟨rfl, hx8⟩
  rw [HE3.out]
  have HX8 := Lib.hid (HX7.out.trans hx8)
  have HS8 := Lib.hid (HS7.out.ext hx8)
  have HR8 := Lib.hid (HR7.out.up hx8)
  have HB8 := Lib.hid (HB7.out.ext hx8)
  clear hx8 f13 HX7 HS7 HR7 HB7
  go_wp2_with fail
  go_loopw [69] (fun kv wr => ∃ (i : Nat), kv = .int .i64 i ∧ i ≤ 40 ∧ Ext w8 wr) (fun kv _ => 40 - (intOf kv).toNat)
  case atStart => exact ⟨0, rfl, Nat.zero_le _, Ext.refl _⟩
  case round =>
    obtain ⟨i, rfl, hi, hx⟩ := hrel
    have HXR := Lib.hid hx
    by_cases hlt : i < 40
    · have hki : (i : Int) < 40 := by omega
      have HII := Lib.hid hlt
      clear hx hi hlt
      by_cases hge : k ≤ i
      · have hgeI : (k : Int) ≤ (i : Int) := by omega
        by_cases hin : i < k + sc
        · have hinI : (i : Int) < (k : Int) + (sc : Int) := by omega
          clear hge hin
          go_wp2_with (go_at_call 45; refine (sectors_any (q.size : Int) _ (by omega) (by omega)).mono ?_; rintro en w9 ⟨rfl, rfl⟩; rw [HY4.out])
          go_roundw
          case rel => exact ⟨i + 1, by first | rfl | go_num, by have := HII.out; omega, HXR.out⟩
          case measure => have := HII.out; (simp [intOf]; try omega)
        · have hinI : (k : Int) + (sc : Int) ≤ (i : Int) := by omega
          have HE := Lib.hid (HRD.out i HII.out (fun h => hin h.2))
          have f13 := (HB8.out.ext HXR.out).cell 0
          have gc := (HS8.out.ext HXR.out).cell (n := i) (by have := HII.out; rw [HF.out.len]; exact this)
          simp at f13
          clear hge hin
          go_wp2_with (go_at_call 45; refine (sectors_any (q.size : Int) _ (by omega) (by omega)).mono ?_; rintro en w9 ⟨rfl, rfl⟩; rw [HY4.out])
          refine (arrRead_any [.slice A13 3 c13] d i wr (HR8.out.up HXR.out) (by unfold I64; omega)).mono ?_
          rintro e w9 ⟨rfl, hx9⟩
          rw [HE.out]
          have gd := hx9.cell gc
          have HX9 := Lib.hid (HXR.out.trans hx9)
          obtain ⟨S, hS⟩ : ∃ S, S = pl all i := ⟨_, rfl⟩
          rw [← hS] at gd ⊢
          clear hS gc f13 hx9
          go_wp2_with fail
          go_roundw
          case rel => exact ⟨i + 1, by first | rfl | go_num, by have := HII.out; omega, HX9.out⟩
          case measure => have := HII.out; (simp [intOf]; try omega)
      · have hgeI : (i : Int) < (k : Int) := by omega
        have HE := Lib.hid (HRD.out i HII.out (fun h => hge h.1))
        have f13 := (HB8.out.ext HXR.out).cell 0
        have gc := (HS8.out.ext HXR.out).cell (n := i) (by have := HII.out; rw [HF.out.len]; exact this)
        simp at f13
        clear hge
        go_wp2_with fail
        refine (arrRead_any [.slice A13 3 c13] d i wr (HR8.out.up HXR.out) (by unfold I64; omega)).mono ?_
        rintro e w9 ⟨rfl, hx9⟩
        rw [HE.out]
        have gd := hx9.cell gc
        have HX9 := Lib.hid (HXR.out.trans hx9)
        obtain ⟨S, hS⟩ : ∃ S, S = pl all i := ⟨_, rfl⟩
        rw [← hS] at gd ⊢
        clear hS gc f13 hx9
        go_wp2_with fail
        go_roundw
        case rel => exact ⟨i + 1, by first | rfl | go_num, by have := HII.out; omega, HX9.out⟩
        case measure => have := HII.out; (simp [intOf]; try omega)
    · have hki : (40 : Int) ≤ (i : Int) := by omega
      clear hlt hi hx
      go_wp2_with fail
      go_ret
      exact ⟨rfl, HX8.out.trans HXR.out⟩
end Go.Proofs.YtokpjgpdkmimgaaDoor
