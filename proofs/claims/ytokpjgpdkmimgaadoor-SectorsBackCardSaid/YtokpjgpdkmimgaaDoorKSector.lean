/-
  A sector is read as it was written; spoilt, or with another number, it is not: the law SectorsBack. Conditions: none.
-/
import Derived.Test.YtokpjgpdkmimgaaDoorKDevices
import Derived.Test.YtokpjgpdkmimgaaDoorWTrim
import Derived.Test.YtokpjgpdkmimgaaDoorWDecode
namespace Go.Proofs.YtokpjgpdkmimgaaDoor
set_option linter.unusedSimpArgs false
set_option linter.unusedVariables false
open Go.RowKit

theorem encode_code (n : Int) (s : ByteArray) (h0 : 0 ≤ n) (h1 : n ≤ 65535) (h2 : s.size ≤ 24) : (encodeS n s).2 = 0 := by
  unfold encodeS
  rw [if_neg (by omega), if_neg (by omega)]
theorem zeros_pad {p : ByteArray} (h : p.size ≤ 24) : zeros ((padS p).extract p.size (padS p).size) = true := by
  unfold zeros
  rw [lst_extract]
  unfold sub_
  rw [List.take_of_length_le (by rw [length_lst]; exact Nat.le_refl _)]
  unfold padS
  rw [lst_bs, List.drop_left' (by rw [length_lst])]
  simp
set_option maxRecDepth 100000 in
set_option maxHeartbeats 4000000 in
theorem lawSectorsBack_any (no : Int) (s : ByteArray) (atn by_ : Int) (w : World) (hno : I64 no) (hs : s.size ≤ 140737488355328) (ha : I64 atn) (hb : 0 ≤ by_ ∧ by_ < 256) :
    Calls Tryd.prog 4 #[.int .i64 no, .string s, .int .i64 atn, .int .u8 by_] w fun e w' => e = .returned (.bool true) ∧ Ext w w' := by
  have hsI : (s.size : Int) ≤ 140737488355328 := by omega
  obtain ⟨hb0, hb1⟩ := hb
  obtain ⟨u, hu⟩ : ∃ u, u = min s.size 24 := ⟨_, rfl⟩
  have hu1I : (u : Int) ≤ (s.size : Int) := by omega
  have hu4 : (u : Int) ≤ 24 := by omega
  have hmin : min (s.size : Int) 24 = (u : Int) := by omega
  obtain ⟨q, hq⟩ : ∃ q, q = s.extract 0 u := ⟨_, rfl⟩
  have HQ6 := Lib.hid (show q.size ≤ 24 by rw [hq, ByteArray.size_extract]; omega)
  have HQ := Lib.hid hq
  clear hu hq
  go_enter Tryd.func4, Tryd.ntmps4
  go_wp2_with fail
  refine (picked_any no 65535 _ hno (by omega) (by omega)).mono ?_
  rintro e w1 ⟨rfl, rfl⟩
  obtain ⟨r0, r1⟩ := pick_range no 65535 (by omega)
  obtain ⟨n, hn⟩ : ∃ n, n = pick no 65535 := ⟨_, rfl⟩
  rw [← hn] at r0 r1 ⊢
  have IN : I64 n := by unfold I64; omega
  have IN1 : I64 (n + 1) := by unfold I64; omega
  have hn65 : n ≤ 65535 := by omega
  clear hn
  go_wp2_with fail
  rw [← HQ.out]
  obtain ⟨E, hE⟩ : ∃ E, E = (encodeS n q).1 := ⟨_, rfl⟩
  have HES := Lib.hid (show E.size = 30 by rw [hE]; exact encodeS_size r0 hn65 HQ6.out)
  have D1 := Lib.hid (show decodeS n E = (padS q, 0) by rw [hE, decode_encode n n q r0 hn65 HQ6.out, if_pos rfl])
  have D2 := Lib.hid (show decodeS (n + 1) E = (.empty, 4) by rw [hE, decode_encode n (n + 1) q r0 hn65 HQ6.out, if_neg (by omega)])
  have D3 := Lib.hid (show ∀ (k : Nat), k < 30 → ∀ c : UInt8, c ≠ at_ E k → decodeS n (bs ((lst E).set k c)) = (.empty, 10) by rw [hE]; exact fun k hk c hc => decode_spoilt n n q r0 hn65 HQ6.out k hk c hc)
  refine (encode_any n q _ IN (by have := HQ6.out; omega)).mono ?_
  rintro e w2 ⟨rfl, hx2⟩
  rw [encode_code n q r0 hn65 HQ6.out, ← hE]
  have HX := Lib.hid hx2
  clear hE hx2
  go_wp2_with fail
  refine (decode_any n E _ (by rw [HES.out]; omega) IN).mono ?_
  rintro e w3 ⟨rfl, hx⟩
  rw [D1.out]
  obtain ⟨T, hT⟩ : ∃ T, T = padS q := ⟨_, rfl⟩
  have HT := Lib.hid hT
  rw [← hT]
  have HX3 := Lib.hid (HX.out.trans hx)
  clear hT hx HX
  go_wp2_with fail
  refine (decode_any (n + 1) E _ (by rw [HES.out]; omega) IN1).mono ?_
  rintro e w4 ⟨rfl, hx⟩
  rw [D2.out]
  have HX4 := Lib.hid (HX3.out.trans hx)
  clear hx HX3
  go_wp2_with (refine wpList_tobytes (.tmp 46) 9 34 5 rfl rfl Tryd.underlying9 Tryd.underlying34 Tryd.underlying5 E rfl ?_)
  intro gb cap w5 hgb e5 hbuf hcap
  have HX5 := Lib.hid (HX4.out.trans e5)
  have HBF := Lib.hid hbuf
  have HGB := Lib.hid (show w1.heap.size ≤ gb from Nat.le_trans HX4.out.size hgb)
  have hE30 : (E.size : Int) = 30 := by have := HES.out; omega
  clear e5 hbuf hgb hcap HX4
  go_wp2_with fail
  refine (picked_any atn 30 _ ha (by omega) (by omega)).mono ?_
  rintro e w6 ⟨rfl, hw⟩
  subst hw
  obtain ⟨k0, k1⟩ := pick_range atn 30 (by omega)
  obtain ⟨k, hk⟩ := Int.eq_ofNat_of_zero_le k0
  rw [hk] at k0 k1 ⊢
  have hk30 : (k : Int) < 30 := k1
  have hk30n : k < 30 := by omega
  have hkl : k < (lst E).length := by rw [length_lst, HES.out]; exact hk30n
  have bp := HBF.out.cell k hkl
  have bz := HBF.out.frozen k hkl
  obtain ⟨c0, hc0⟩ : ∃ c0, c0 = (lst E).getD k 0 := ⟨_, rfl⟩
  rw [← hc0] at bp
  have hcb := u8_hi c0
  obtain ⟨v, hv⟩ : ∃ v, v = ((c0.toNat : Int) + by_) % 256 := ⟨_, rfl⟩
  have hv0 : 0 ≤ v ∧ v < 256 := by omega
  have y1 : IntKind.u8.wrap ((c0.toNat : Int) + by_) = v := by rw [IntKind.wrap_u8]; omega
  have HL := Lib.hid (show E.size = ((lst E).set k (byte v)).length by rw [List.length_set, length_lst])
  have HD3 := Lib.hid (show by_ ≠ 0 → decodeS n (bs ((lst E).set k (byte v))) = (.empty, 10) from fun hne => D3.out k hk30n (byte v) (by
    rw [at_lst, ← hc0]
    intro h
    have h2 := byte_nat_ v hv0.1 hv0.2
    rw [h] at h2
    omega))
  have HBF2 := Lib.hid (HBF.out.set k v hv0.1 hv0.2)
  have hgl := HBF.out.lt
  clear hc0 hv hk
  go_wp2_with (refine wpList_frombytes (.tmp 63) 34 9 5 rfl rfl Tryd.underlying34 Tryd.underlying5 Tryd.underlying9 gb _ _ _ HBF2.out HL.out rfl ?_)
  go_wp2_with fail
  have HX6 := Lib.hid (HX5.out.setCell (p := ⟨gb, k, none⟩) HGB.out (.int .u8 v))
  obtain ⟨l', hl'⟩ : ∃ l', l' = (lst E).set k (byte v) := ⟨_, rfl⟩
  rw [← hl'] at HL HD3 ⊢
  clear bp bz hl'
  refine (decode_any n (bs l') _ (by rw [size_bs, ← HL.out, HES.out]; omega) IN).mono ?_
  rintro e w7 ⟨rfl, hx⟩
  have HX7 := Lib.hid (HX6.out.trans hx)
  obtain ⟨t7, ht7⟩ : ∃ v, v = (decodeS n (bs l')).1 := ⟨_, rfl⟩
  obtain ⟨u7, hu7⟩ : ∃ v, v = (decodeS n (bs l')).2 := ⟨_, rfl⟩
  have HU := Lib.hid hu7
  rw [← ht7, ← hu7]
  clear ht7 hu7 hx
  have HPF := Lib.hid (show T.extract 0 q.size = q ∧ q.size ≤ T.size ∧ T.size = 24 by rw [HT.out]; exact ⟨take_padS HQ6.out, by rw [padS_size HQ6.out]; exact HQ6.out, padS_size HQ6.out⟩)
  have HZ := Lib.hid (show zeros (T.extract q.size T.size) = true by rw [HT.out]; exact zeros_pad HQ6.out)
  have hT24 : (T.size : Int) = 24 := by have := HPF.out.2.2; omega
  have hqT : (q.size : Int) ≤ (T.size : Int) := by have := HPF.out.2.1; omega
  have hq0 : (0 : Int) ≤ (q.size : Int) := by omega
  have hq24 : (q.size : Int) ≤ 24 := by have := HQ6.out; omega
  have HBY := Lib.hid (show (by_ == 0) = true ∨ ((by_ == 0) = false ∧ u7 = 10) by
    by_cases h : by_ = 0
    · left; rw [h]; rfl
    · right; exact ⟨beq_false_of_ne h, by rw [HU.out, HD3.out h]⟩)
  clear HU HD3
  rcases HBY.out with t1 | ⟨t1, rfl⟩
  · go_wp2_with fail
    refine (hasPrefix_any T q _ HPF.out.1 HPF.out.2.1 (by rw [HPF.out.2.2]; omega)).mono ?_
    rintro e w9 ⟨rfl, hw9⟩
    subst hw9
    go_wp2_with fail
    refine (trim_any _ _ (by rw [ByteArray.size_extract]; have := HPF.out.2.2; omega)).mono ?_
    rintro e w10 ⟨hx, v1, rfl, htr⟩
    have hv1 : v1 = .empty := htr.all (by first | exact HZ.out | (have := HPF.out.2.2; rw [this] at HZ; exact HZ.out))
    subst hv1
    have HX8 := Lib.hid (HX7.out.trans hx)
    clear hx htr
    go_wp2_with fail
    go_ret
    exact ⟨rfl, HX8.out⟩
  · go_wp2_with fail
    refine (hasPrefix_any T q _ HPF.out.1 HPF.out.2.1 (by rw [HPF.out.2.2]; omega)).mono ?_
    rintro e w9 ⟨rfl, hw9⟩
    subst hw9
    go_wp2_with fail
    refine (trim_any _ _ (by rw [ByteArray.size_extract]; have := HPF.out.2.2; omega)).mono ?_
    rintro e w10 ⟨hx, v1, rfl, htr⟩
    have hv1 : v1 = .empty := htr.all (by first | exact HZ.out | (have := HPF.out.2.2; rw [this] at HZ; exact HZ.out))
    subst hv1
    have HX8 := Lib.hid (HX7.out.trans hx)
    clear hx htr
    go_wp2_with fail
    go_ret
    exact ⟨rfl, HX8.out⟩
end Go.Proofs.YtokpjgpdkmimgaaDoor
