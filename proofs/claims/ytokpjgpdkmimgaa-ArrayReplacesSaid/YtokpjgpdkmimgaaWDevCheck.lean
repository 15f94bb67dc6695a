/-
  device.Check and the document's DeviceMay: both tell whether a device may be; the law DeviceChecks. Conditions: the argument reads as a device.
-/
import Derived.Test.YtokpjgpdkmimgaaWContains
import Derived.Test.YtokpjgpdkmimgaaWNum
namespace Go.Proofs.Ytokpjgpdkmimgaa
set_option linter.unusedSimpArgs false
set_option linter.unusedVariables false
open Go.RowKit

/-- A device that may be. -/
def devMay (d : Dev) : Bool := decide (1 ≤ d.sec.length) && decide (d.sec.length ≤ 64) && decide (d.lost.length = d.sec.length) && !(d.sec.any badRaw)
theorem devMay_len {d : Dev} (h : devMay d = true) : 1 ≤ d.sec.length ∧ d.sec.length ≤ 64 ∧ d.lost.length = d.sec.length ∧ ∀ s ∈ d.sec, s.size = 30 := by
  unfold devMay at h
  simp only [Bool.and_eq_true, decide_eq_true_eq, Bool.not_eq_true', List.any_eq_false] at h
  obtain ⟨⟨⟨h1, h2⟩, h3⟩, h4⟩ := h
  refine ⟨h1, h2, h3, fun s hs => ?_⟩
  have := h4 s hs
  unfold badRaw at this
  simp at this
  omega
def devCode (d : Dev) : Int := if devMay d then 0 else 9

set_option maxRecDepth 100000 in
set_option maxHeartbeats 400000 in
theorem devCheck_any (cs : List Value) (d : Dev) (w : World) (h : RDev w cs d) :
    Calls Try.prog 67 #[.agg cs.toArray] w fun e w' => e = .returned (.int .i64 (devCode d)) ∧ Ext w w' := by
  obtain ⟨A1, c1, A2, c2, rfl, h1, h2⟩ := h.split
  clear h
  by_cases k1 : d.sec.length < 1
  · have hm : devMay d = false := by unfold devMay; simp; omega
    have k1' : decide ((d.sec.length : Int) < 1) = true := by simp; omega
    have hf : devCode d = 9 := by unfold devCode; rw [hm]; rfl
    rw [hf]
    clear hm hf h1 h2
    go_enter Try.func67, Try.ntmps67
    go_wp2
    go_ret
    exact ⟨rfl, (Ext.refl _).alloc _⟩
  · have k1' : decide ((d.sec.length : Int) < 1) = false := by simp; omega
    by_cases k2 : 64 < d.sec.length
    · have hm : devMay d = false := by unfold devMay; simp; omega
      have k2' : decide ((64 : Int) < (d.sec.length : Int)) = true := by simp; omega
      have hf : devCode d = 9 := by unfold devCode; rw [hm]; rfl
      rw [hf]
      clear hm hf h1 h2
      go_enter Try.func67, Try.ntmps67
      go_wp2
      go_ret
      exact ⟨rfl, (Ext.refl _).alloc _⟩
    · have k2' : decide ((64 : Int) < (d.sec.length : Int)) = false := by simp; omega
      by_cases k3 : d.lost.length = d.sec.length
      · have k3' : ((d.lost.length : Int) != (d.sec.length : Int)) = false := by simp; omega
        have hm : devMay d = !(d.sec.any badRaw) := by
          unfold devMay
          rw [decide_eq_true (by omega : 1 ≤ d.sec.length), decide_eq_true (by omega : d.sec.length ≤ 64), decide_eq_true k3]
          simp
        have hf : ∀ b, d.sec.any badRaw = b → devCode d = if b then 9 else 0 := by
          intro b hb; unfold devCode; rw [hm, hb]; cases b <;> rfl
        have HF := Lib.hid hf
        clear hm hf k3
        have hcon := contains_str _ d.sec (w.alloc (.cells #[.slice A1 d.sec.length c1, .slice A2 d.lost.length c2] 54)) (h1.ext RStr.stays ((Ext.refl w).alloc _))
        clear h1 h2
        cases hb : d.sec.any badRaw with
        | true =>
          rw [hb] at hcon
          have HC := Lib.hid hcon
          have HB := Lib.hid hb
          clear hcon hb
          go_enter Try.func67, Try.ntmps67
          go_wp2_with (go_at_call 77; refine HC.out.mono ?_; rintro e w1 ⟨rfl, rfl⟩)
          go_ret
          exact ⟨ret_int (by rw [HF.out true HB.out]; rfl), (Ext.refl _).alloc _⟩
        | false =>
          rw [hb] at hcon
          have HC := Lib.hid hcon
          have HB := Lib.hid hb
          clear hcon hb
          go_enter Try.func67, Try.ntmps67
          go_wp2_with (go_at_call 77; refine HC.out.mono ?_; rintro e w1 ⟨rfl, rfl⟩)
          go_ret
          exact ⟨ret_int (by rw [HF.out false HB.out]; rfl), (Ext.refl _).alloc _⟩
      · have hm : devMay d = false := by unfold devMay; rw [decide_eq_false k3]; simp
        have k3' : ((d.lost.length : Int) != (d.sec.length : Int)) = true := by simp; omega
        have hf : devCode d = 9 := by unfold devCode; rw [hm]; rfl
        rw [hf]
        clear hm hf h1 h2
        go_enter Try.func67, Try.ntmps67
        go_wp2
        go_ret
        exact ⟨rfl, (Ext.refl _).alloc _⟩

set_option maxRecDepth 100000 in
set_option maxHeartbeats 400000 in
theorem devMay_any (cs : List Value) (d : Dev) (w : World) (h : RDev w cs d) :
    Calls Try.prog 68 #[.agg cs.toArray] w fun e w' => e = .returned (.bool (devMay d)) ∧ Ext w w' := by
  obtain ⟨v1, v2, rfl, h1, h2⟩ := h
  obtain ⟨A1, c1, rfl, l1, hc1, r1⟩ := h1.row
  obtain ⟨A2, c2, rfl, l2, hc2, _⟩ := h2.row
  clear h1 h2
  go_enter Try.func68, Try.ntmps68
  go_wp2
  refine wp_abs (fun W => Ext w W ∧ Blk_ W w.heap.size 54 #[.slice A1 d.sec.length c1, .slice A2 d.lost.length c2]) ⟨(Ext.refl _).alloc _, Blk_.new _ _ _⟩ ?_
  rintro W ⟨hx, hb⟩
  have f0 := hb.cell 0
  have f1 := hb.cell 1
  simp at f0 f1
  go_loop [3] (fun i => ∃ k : Nat, i = .int .i64 k ∧ k ≤ d.sec.length ∧ (d.sec.take k).any badRaw = false) (fun i => d.sec.length - (intOf i).toNat)
  case atStart => exact ⟨0, rfl, Nat.zero_le _, rfl⟩
  case round =>
    obtain ⟨k, rfl, hk, hno⟩ := hrel
    have HN := Lib.hid hno
    clear hno
    by_cases hlt : k < d.sec.length
    · obtain ⟨b1, o1, rfl, g1⟩ := r1 k hlt
      obtain ⟨u1, q1, t1⟩ := g1 k hlt
      obtain rfl := t1.val
      have q1' := hx.cell q1
      have HR := Lib.hid r1
      clear g1 r1 t1 q1
      have htk : (d.sec.take (k + 1)).any badRaw = badRaw d.sec[k] := by
        rw [← List.take_append_getElem hlt, List.any_append, HN.out]; simp
      have HT := Lib.hid htk
      clear htk
      by_cases hp : badRaw d.sec[k] = true
      · have hm : devMay d = false := by
          have : d.sec.any badRaw = true := List.any_eq_true.2 ⟨d.sec[k], List.getElem_mem hlt, hp⟩
          unfold devMay; rw [this]; simp
        have hs : (((d.sec[k]).size : Int) != 30) = true := by unfold badRaw at hp; simpa [bne] using hp
        have HM := Lib.hid hm
        clear hm hp
        go_wp2
        go_ret
        exact ⟨ret_bool HM.out.symm, hx⟩
      · rw [Bool.not_eq_true] at hp
        have hs : (((d.sec[k]).size : Int) != 30) = false := by unfold badRaw at hp; simpa [bne] using hp
        have HP := Lib.hid hp
        clear hp
        go_wp2
        go_round
        case rel => exact ⟨k + 1, by go_num, by omega, by rw [HT.out, HP.out]⟩
        case measure => simp [intOf]; omega
    · obtain rfl : k = d.sec.length := by omega
      rw [List.take_length] at HN
      clear r1
      by_cases k1 : inB d.sec.length 1 64 = true
      · obtain ⟨k2, k3⟩ := inB_true k1
        clear k1
        go_wp2_with (go_at_call 50; refine (in_true _ _ _ _ k2 k3).mono ?_; rintro e w1 ⟨rfl, rfl⟩)
        go_ret
        refine ⟨ret_bool ?_, hx⟩
        unfold devMay
        rw [HN.out, decide_eq_true (by omega : 1 ≤ d.sec.length), decide_eq_true (by omega : d.sec.length ≤ 64)]
        simp
        rw [Bool.eq_iff_iff]
        simp
        omega
      · rw [Bool.not_eq_true] at k1
        have k2 := inB_false k1
        clear k1
        go_wp2_with (go_at_call 50; refine (in_false _ _ _ _ k2).mono ?_; rintro e w1 ⟨rfl, rfl⟩)
        go_ret
        refine ⟨ret_bool ?_, hx⟩
        have : devMay d = false := by
          unfold devMay
          simp
          omega
        rw [this]

end Go.Proofs.Ytokpjgpdkmimgaa
