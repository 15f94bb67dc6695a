/-
  What is packed comes back, and is never much longer; what comes again takes few bytes: the laws PacksBack and PacksShort. Conditions: none.
-/
import Derived.Test.YtokpjgpdkmimgaaKPick
import Derived.Test.YtokpjgpdkmimgaaPPack
import Derived.Test.YtokpjgpdkmimgaaWPack3
import Derived.Test.YtokpjgpdkmimgaaWUnpack
import Derived.Test.YtokpjgpdkmimgaaSRepeat
import Derived.Test.YtokpjgpdkmimgaaWEncode
namespace Go.Proofs.Ytokpjgpdkmimgaa
set_option linter.unusedSimpArgs false
set_option linter.unusedVariables false
open Go.RowKit

theorem repx_any (w : World) :
    Calls Try.prog 20 #[.string ⟨#[120]⟩, .int .i64 601] w fun e w' => e = .returned (.string (bs (List.replicate 601 120))) ∧ Ext w w' := by
  refine (Try.strings_Repeat ⟨#[120]⟩ 601 w (by omega) (by show 1 * 601 ≤ _; omega)).mono ?_
  rintro e w' ⟨rfl, h⟩
  refine ⟨?_, h⟩
  have : Lib.repeatL ([120] : List UInt8) 601 = List.replicate 601 120 := repeat_one 120 601
  exact ret_str (by show (⟨(Lib.repeatL ([120] : List UInt8) 601).toArray⟩ : ByteArray) = _; rw [this]; rfl)
theorem packS_some {s : ByteArray} (hs : s.size ≤ 600) (h0 : 0 < s.size) : 0 < (packS s).1.size := by
  refine Nat.pos_of_ne_zero fun h => ?_
  have h1 := packS_back s hs
  have h2 : lst (packS s).1 = [] := List.eq_nil_of_length_eq_zero (by rw [length_lst]; exact h)
  unfold unpackS at h1
  rw [h2, unpackF_nil] at h1
  injection h1 with h4 _
  rw [← h4] at h0
  exact absurd h0 (by decide)
set_option maxRecDepth 100000 in
set_option maxHeartbeats 2000000 in
theorem lawPacksBack_any (s : ByteArray) (w : World) (hs : s.size ≤ 140737488355328) :
    Calls Try.prog 8 #[.string s] w fun e w' => e = .returned (.bool true) ∧ Ext w w' := by
  have hsI : (s.size : Int) ≤ 140737488355328 := by omega
  obtain ⟨n, hn⟩ : ∃ n, n = min s.size 600 := ⟨_, rfl⟩
  have hn1 : n ≤ s.size := by omega
  have hn1I : (n : Int) ≤ (s.size : Int) := by omega
  have hn6 : (n : Int) ≤ 600 := by omega
  have hmin : min (s.size : Int) 600 = (n : Int) := by omega
  obtain ⟨q, hq⟩ : ∃ q, q = s.extract 0 n := ⟨_, rfl⟩
  have hqs : q.size = n := by rw [hq, ByteArray.size_extract]; omega
  have hQ6 := Lib.hid (show q.size ≤ 600 by omega)
  have HQ := Lib.hid hq
  go_enter Try.func8, Try.ntmps8
  clear hn hq hqs
  go_wp2_with fail
  rw [← HQ.out]
  refine (pack_any q _).mono ?_
  rintro e w1 ⟨rfl, hx1⟩
  rw [packS_code q hQ6.out]
  obtain ⟨p, hp⟩ : ∃ p, p = (packS q).1 := ⟨_, rfl⟩
  have HPL := Lib.hid (show p.size ≤ q.size + (q.size + 127) / 128 by rw [hp]; exact packS_len q hQ6.out)
  have HB := Lib.hid (show unpackS p = (q, 0) by rw [hp]; exact packS_back q hQ6.out)
  rw [← hp]
  clear hp
  go_wp2_with fail
  refine (unpack_any p _ (by have := HPL.out; have := hQ6.out; omega)).mono ?_
  rintro e w2 ⟨rfl, hx2⟩
  rw [HB.out]
  have HX2 := Lib.hid (hx1.trans hx2)
  clear hx1 hx2
  go_wp2_with fail
  refine (repx_any _).mono ?_
  rintro e w3 ⟨rfl, hx3⟩
  have HX3 := Lib.hid (HX2.out.trans hx3)
  obtain ⟨X, hX⟩ : ∃ X, X = bs (List.replicate 601 (120 : UInt8)) := ⟨_, rfl⟩
  have HXS := Lib.hid (show 600 < X.size by rw [hX, size_bs, List.length_replicate]; omega)
  rw [← hX]
  clear hx3 hX
  go_wp2_with fail
  refine (pack_any X _).mono ?_
  rintro e w4 ⟨rfl, hx4⟩
  rw [packS_big X HXS.out]
  have HX4 := Lib.hid (HX3.out.trans hx4)
  have hq6 : (q.size : Int) ≤ 600 := by have := hQ6.out; omega
  obtain ⟨m, hm⟩ : ∃ m, m = (q.size + 127) / 128 := ⟨_, rfl⟩
  have y1 : ((q.size : Int) + 127) / 128 = (m : Int) := by omega
  have hm5 : (m : Int) ≤ 5 := by omega
  have hle : decide ((p.size : Int) ≤ (q.size : Int) + (m : Int)) = true := by have := HPL.out; simp; omega
  have hle2 : (p.size : Int) ≤ (q.size : Int) + (m : Int) := by have := HPL.out; omega
  clear hx4 hm
  go_wp2_with fail
  go_ret
  exact ⟨rfl, HX4.out⟩
theorem at_left (a b : ByteArray) (j : Nat) (h : j < a.size) : at_ (a ++ b) j = at_ a j := by
  rw [at_lst, at_lst, lst_append, List.getD_eq_getElem?_getD, List.getD_eq_getElem?_getD, List.getElem?_append_left (by rw [length_lst]; exact h)]
theorem at_right (a b : ByteArray) (j : Nat) : at_ (a ++ b) (a.size + j) = at_ b j := by
  rw [at_lst, at_lst, lst_append, List.getD_eq_getElem?_getD, List.getD_eq_getElem?_getD, List.getElem?_append_right (by rw [length_lst]; omega), length_lst, Nat.add_sub_cancel_left]
theorem at_extract (a : ByteArray) (n j : Nat) (h : j < n) : at_ (a.extract 0 n) j = at_ a j := by
  rw [at_lst, at_lst, lst_extract]
  unfold sub_
  rw [List.drop_zero, List.getD_eq_getElem?_getD, List.getD_eq_getElem?_getD, List.getElem?_take, if_pos h]
theorem packS_more (a : ByteArray) (k : Nat) (h4 : 4 ≤ k) (hk : k ≤ a.size) (hm : a.size + k ≤ 131) : (packS (a ++ a.extract 0 k)).1.size ≤ (packS a).1.size + 6 := by
  have hs : (a ++ a.extract 0 k).size = a.size + k := by rw [ByteArray.size_append, ByteArray.size_extract]; omega
  unfold packS
  rw [if_neg (by rw [hs]; omega), if_neg (by omega)]
  show (bs _).size ≤ (bs _).size + 6
  rw [size_bs, size_bs]
  exact pack_more rfl hs hk h4 hm (fun j hj => at_left a _ j hj) (fun j hj => (at_right a _ j).trans (at_extract a k j hj)) [] [] 0 0 rfl (Nat.le_refl _) (Nat.zero_le _)
set_option maxRecDepth 100000 in
set_option maxHeartbeats 2000000 in
theorem lawPacksShort_any (s : ByteArray) (n : Int) (w : World) (hs : s.size ≤ 140737488355328) (hn : I64 n) :
    Calls Try.prog 4 #[.string s, .int .i64 n] w fun e w' => e = .returned (.bool true) ∧ Ext w w' := by
  have hsI : (s.size : Int) ≤ 140737488355328 := by omega
  obtain ⟨u, hu⟩ : ∃ u, u = min s.size 40 := ⟨_, rfl⟩
  have hu1I : (u : Int) ≤ (s.size : Int) := by omega
  have hu4 : (u : Int) ≤ 40 := by omega
  have hmin : min (s.size : Int) 40 = (u : Int) := by omega
  obtain ⟨q, hq⟩ : ∃ q, q = s.extract 0 u := ⟨_, rfl⟩
  have hqs : q.size = u := by rw [hq, ByteArray.size_extract]; omega
  have HQ6 := Lib.hid (show q.size ≤ 40 by omega)
  have HQ := Lib.hid hq
  have hc1 : ¬ 9223372036854775807 < 10 + (s.extract 0 u).size := by rw [← hq]; omega
  go_enter Try.func4, Try.ntmps4
  clear hu hq hqs
  go_wp2_with fail
  rw [← HQ.out]
  obtain ⟨A, hA⟩ : ∃ A, A = ({ data := #[48, 49, 50, 51, 52, 53, 54, 55, 56, 57] } : ByteArray) ++ q := ⟨_, rfl⟩
  have HAS := Lib.hid (show 10 ≤ A.size ∧ A.size ≤ 50 by
    have h1 : A.size = 10 + q.size := by rw [hA, ByteArray.size_append]; rfl
    have := HQ6.out; omega)
  rw [← hA]
  clear hA hc1 HQ6
  refine (pack_any A _).mono ?_
  rintro e w1 ⟨rfl, hx1⟩
  rw [packS_code A (by have := HAS.out; omega)]
  obtain ⟨p, hp⟩ : ∃ p, p = (packS A).1 := ⟨_, rfl⟩
  have HPP := Lib.hid (show 0 < p.size by rw [hp]; exact packS_some (by have := HAS.out; omega) (by have := HAS.out; omega))
  have HPL := Lib.hid (show p.size ≤ 100 by have h1 := packS_len A (by have := HAS.out; omega); rw [← hp] at h1; have := HAS.out; omega)
  rw [← hp]
  have HP := Lib.hid hp
  clear hp
  go_wp2_with fail
  refine (picked_any n 6 _ hn (by omega) (by omega)).mono ?_
  rintro e w2 ⟨rfl, rfl⟩
  obtain ⟨r0, r1⟩ := pick_range n 6 (by omega)
  obtain ⟨k, hk⟩ := Int.eq_ofNat_of_zero_le r0
  rw [hk] at r0 r1 ⊢
  have hk6 : (k : Int) < 6 := r1
  have y1 : (4 : Int) + (k : Int) ≤ (A.size : Int) := by have := HAS.out.1; omega
  have y2 : ((4 : Int) + (k : Int)).toNat = 4 + k := by omega
  have y3 : (0 : Int) ≤ 4 + (k : Int) := by omega
  have hA50 : (A.size : Int) ≤ 50 := by have := HAS.out; omega
  obtain ⟨r, hr⟩ : ∃ r, r = A.extract 0 (4 + k) := ⟨_, rfl⟩
  have hrs : r.size = 4 + k := by rw [hr, ByteArray.size_extract]; have := HAS.out; omega
  have hc1 : ¬ 9223372036854775807 < A.size + (A.extract 0 (4 + k)).size := by rw [← hr]; have := HAS.out; omega
  have HR := Lib.hid hr
  have HLE := Lib.hid (show (packS (A ++ r)).1.size ≤ p.size + 6 by rw [hr, HP.out]; exact packS_more A (4 + k) (by omega) (by have := HAS.out; omega) (by have := HAS.out; omega))
  have HS2 := Lib.hid (show (A ++ r).size ≤ 600 by rw [ByteArray.size_append]; have := HAS.out; omega)
  clear hk hr hrs r0 r1
  go_wp2_with fail
  rw [← HR.out]
  obtain ⟨C, hC⟩ : ∃ C, C = A ++ r := ⟨_, rfl⟩
  rw [← hC] at HLE HS2 ⊢
  clear hc1 hC
  refine (pack_any C _).mono ?_
  rintro e w3 ⟨rfl, hx3⟩
  rw [packS_code C HS2.out]
  obtain ⟨z, hz⟩ : ∃ z, z = (packS C).1 := ⟨_, rfl⟩
  rw [← hz] at HLE ⊢
  have hp0 : (0 : Int) < (p.size : Int) := by have := HPP.out; omega
  have hp100 : (p.size : Int) ≤ 100 := by have := HPL.out; omega
  have hz6 : (z.size : Int) ≤ (p.size : Int) + 6 := by have := HLE.out; omega
  clear hz HP HR
  go_wp2_with fail
  go_ret
  exact ⟨rfl, hx1.trans hx3⟩
end Go.Proofs.Ytokpjgpdkmimgaa
