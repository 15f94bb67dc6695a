/-
  Bytes of which one is another one have another seal: the law SumsTell. Conditions: none.
-/
import Derived.Test.YtokpjgpdkmimgaaKPick
import Derived.Test.YtokpjgpdkmimgaaPTell
import Derived.Test.YtokpjgpdkmimgaaWSeal
import Derived.Test.YtokpjgpdkmimgaaB
import Derived.Test.YtokpjgpdkmimgaaWXor
namespace Go.Proofs.Ytokpjgpdkmimgaa
set_option linter.unusedSimpArgs false
set_option linter.unusedVariables false
open Go.RowKit

theorem seal_size (l : List UInt8) : (bs (sealOf l)).size = 4 := by rw [size_bs, length_sealOf]
set_option maxRecDepth 100000 in
set_option maxHeartbeats 2000000 in
theorem lawSumsTell_any (s : ByteArray) (at_ by_ : Int) (w : World) (hs : s.size ≤ 140737488355328) (ha : I64 at_) (hb : 0 ≤ by_ ∧ by_ < 256) :
    Calls Try.prog 3 #[.string s, .int .i64 at_, .int .u8 by_] w fun e w' => e = .returned (.bool true) ∧ Ext w w' := by
  have hsI : (s.size : Int) ≤ 140737488355328 := by omega
  obtain ⟨hb0, hb1⟩ := hb
  go_enter Try.func3, Try.ntmps3
  go_wp2_with (refine wpList_tobytes (.tmp 8) 9 22 5 rfl rfl Try.underlying9 Try.underlying22 Try.underlying5 s rfl ?_)
  intro gb cap w1 hgb e1 hbuf hcap
  have HX1 := Lib.hid e1
  have HBF := Lib.hid hbuf
  have HGB := Lib.hid hgb
  clear e1 hbuf hgb hcap
  by_cases h0 : s.size = 0 ∨ by_ = 0
  · have hcs : ((s.size : Int) == 0) = true ∨ (((s.size : Int) == 0) = false ∧ (by_ == 0) = true) := by
      rcases h0 with h | h
      · left; rw [h]; rfl
      · by_cases h1 : s.size = 0
        · left; rw [h1]; rfl
        · right; exact ⟨beq_false_of_ne (by omega), by rw [h]; rfl⟩
    obtain ⟨q, hq⟩ : ∃ q, q = bs (sealOf (lst s)) := ⟨_, rfl⟩
    have hq4 : (q.size : Int) = 4 := by rw [hq, seal_size]; rfl
    clear h0
    rcases hcs with t1 | ⟨t1, t2⟩
    · go_wp2_with fail
      refine (sumOf_any s _ hs).mono ?_
      rintro e w2 ⟨rfl, hx2⟩
      rw [← hq]
      clear hq
      go_wp2_with fail
      go_ret
      exact ⟨rfl, HX1.out.trans hx2⟩
    · go_wp2_with fail
      refine (sumOf_any s _ hs).mono ?_
      rintro e w2 ⟨rfl, hx2⟩
      rw [← hq]
      clear hq
      go_wp2_with fail
      go_ret
      exact ⟨rfl, HX1.out.trans hx2⟩
  · have hs0 : 0 < s.size := by omega
    have t1 : ((s.size : Int) == 0) = false := beq_false_of_ne (by omega)
    have t2 : (by_ == 0) = false := beq_false_of_ne (by omega)
    have HN0 := Lib.hid h0
    clear h0
    go_wp2_with fail
    refine (picked_any at_ s.size _ ha (by omega) hsI).mono ?_
    rintro e w2 ⟨rfl, rfl⟩
    obtain ⟨r0, r1⟩ := pick_range at_ s.size (by omega)
    obtain ⟨k, hk⟩ := Int.eq_ofNat_of_zero_le r0
    rw [hk] at r0 r1 ⊢
    have hks : k < s.size := by omega
    have hkl : k < (lst s).length := by rw [length_lst]; exact hks
    have bp := HBF.out.cell k hkl
    have bz := HBF.out.frozen k hkl
    obtain ⟨c0, hc0⟩ : ∃ c0, c0 = (lst s).getD k 0 := ⟨_, rfl⟩
    rw [← hc0] at bp
    have hcb := u8_hi c0
    have hk47 : (k : Int) < 140737488355328 := by omega
    obtain ⟨v, hv⟩ : ∃ v, v = ((c0.toNat : Int) + by_) % 256 := ⟨_, rfl⟩
    have hv0 : 0 ≤ v ∧ v < 256 := by omega
    have y1 : IntKind.u8.wrap ((c0.toNat : Int) + by_) = v := by rw [IntKind.wrap_u8]; omega
    have HL := Lib.hid (show s.size = ((lst s).set k (byte v)).length by rw [List.length_set, length_lst])
    have HNE := Lib.hid (show sealOf ((lst s).set k (byte v)) ≠ sealOf (lst s) from seal_tells (lst s) k hkl (byte v) (by
      have e1 : c0 = (lst s)[k] := by rw [hc0, List.getD_eq_getElem?_getD, List.getElem?_eq_getElem hkl]; rfl
      rw [← e1]
      intro h
      have h2 := byte_nat_ v hv0.1 hv0.2
      rw [h] at h2
      have := HN0.out
      omega))
    have HGB2 := Lib.hid (show w.heap.size ≤ gb from HGB.out)
    have HBF2 := Lib.hid (HBF.out.set k v hv0.1 hv0.2)
    have hgl := HBF.out.lt
    clear hc0 hv hk
    go_wp2_with (refine wpList_frombytes (.tmp 31) 22 9 5 rfl rfl Try.underlying22 Try.underlying5 Try.underlying9 gb _ _ _ HBF2.out HL.out rfl ?_)
    go_wp2_with fail
    have HX2 := Lib.hid (HX1.out.setCell (p := ⟨gb, k, none⟩) HGB2.out (.int .u8 v))
    obtain ⟨l', hl'⟩ : ∃ l', l' = (lst s).set k (byte v) := ⟨_, rfl⟩
    rw [← hl'] at HL HNE ⊢
    clear bp bz hl'
    refine (sumOf_any (bs l') _ (by rw [size_bs, ← HL.out]; exact hs)).mono ?_
    rintro e w3 ⟨rfl, hx3⟩
    rw [lst_bs]
    have HX3 := Lib.hid (HX2.out.trans hx3)
    obtain ⟨p, hp⟩ : ∃ p, p = bs (sealOf l') := ⟨_, rfl⟩
    have HP := Lib.hid hp
    rw [← hp]
    clear hp hx3
    go_wp2_with fail
    refine (sumOf_any s _ hs).mono ?_
    rintro e w4 ⟨rfl, hx4⟩
    obtain ⟨q, hq⟩ : ∃ q, q = bs (sealOf (lst s)) := ⟨_, rfl⟩
    have hne : (p.toList == q.toList) = false := by
      rw [toList_lst, toList_lst, HP.out, hq, lst_bs, lst_bs]
      exact beq_false_of_ne HNE.out
    rw [← hq]
    clear hq
    go_wp2_with fail
    go_ret
    exact ⟨rfl, HX3.out.trans hx4⟩
end Go.Proofs.Ytokpjgpdkmimgaa
