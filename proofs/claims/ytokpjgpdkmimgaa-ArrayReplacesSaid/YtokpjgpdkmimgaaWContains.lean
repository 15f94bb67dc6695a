/-
  slices.ContainsFunc with the closures of catalog.Name and device.Check: whether an element is met. Conditions: the slice reads as a list.
-/
import Derived.Test.YtokpjgpdkmimgaaRows
import Derived.Test.YtokpjgpdkmimgaaM
import Derived.Test.YtokpjgpdkmimgaaWSame
namespace Go.Proofs.Ytokpjgpdkmimgaa
set_option linter.unusedSimpArgs false
set_option linter.unusedVariables false
open Go.RowKit
def RByte : Rd UInt8 := fun _ cs c => cs = [.int .u8 c.toNat]
theorem RByte.val {w : World} {u : Value} {c : UInt8} (h : RByte w [u] c) : u = .int .u8 c.toNat := by have : [u] = _ := h; simpa using this
/-- No byte of a name. -/
def badByte (c : UInt8) : Bool := (decide ((c.toNat : Int) < 97) || decide (122 < (c.toNat : Int))) && (decide ((c.toNat : Int) < 48) || decide (57 < (c.toNat : Int)))
def badRaw (s : ByteArray) : Bool := !((s.size : Int) == 30)

set_option maxRecDepth 100000 in
set_option maxHeartbeats 400000 in
theorem badByte_any (c : UInt8) (w : World) : Calls Try.prog 73 #[.int .u8 c.toNat] w fun e w' => w = w' ∧ e = .returned (.bool (badByte c)) := by
  unfold badByte
  by_cases h1 : (c.toNat : Int) < 97
  · by_cases h3 : (c.toNat : Int) < 48
    · go_enter Try.func73, Try.ntmps73
      go_wp2
      go_ret
      exact ⟨rfl, ret_bool (by simp [h1, h3])⟩
    · have h3' : decide ((c.toNat : Int) < 48) = false := by simpa using h3
      go_enter Try.func73, Try.ntmps73
      go_wp2
      go_ret
      exact ⟨rfl, ret_bool (by simp [h1, h3'])⟩
  · by_cases h2 : 122 < (c.toNat : Int)
    · by_cases h3 : (c.toNat : Int) < 48
      · omega
      · have h1' : decide ((c.toNat : Int) < 97) = false := by simpa using h1
        have h3' : decide ((c.toNat : Int) < 48) = false := by simpa using h3
        go_enter Try.func73, Try.ntmps73
        go_wp2
        go_ret
        exact ⟨rfl, ret_bool (by simp [h1', h2, h3'])⟩
    · have h1' : decide ((c.toNat : Int) < 97) = false := by simpa using h1
      have h2' : decide (122 < (c.toNat : Int)) = false := by simpa using h2
      go_enter Try.func73, Try.ntmps73
      go_wp2
      go_ret
      exact ⟨rfl, ret_bool (by simp [h1', h2'])⟩
set_option maxRecDepth 100000 in
set_option maxHeartbeats 400000 in
theorem badRaw_any (s : ByteArray) (w : World) : Calls Try.prog 78 #[.string s] w fun e w' => w = w' ∧ e = .returned (.bool (badRaw s)) := by
  unfold badRaw
  go_enter Try.func78, Try.ntmps78
  go_wp2
  go_ret
  exact ⟨rfl, ret_bool (by simp [bne])⟩

set_option maxRecDepth 100000 in
set_option maxHeartbeats 400000 in
theorem index_byte (v : Value) (l : List UInt8) (w : World) (h : SlR 1 1 RByte w v l) :
    Calls Try.prog 80 #[v, .func (.func 73) #[] #[]] w fun e w' => w = w' ∧ ∃ r : Int, e = .returned (.int .i64 r) ∧ decide (0 ≤ r) = l.any badByte := by
  obtain ⟨A, c, rfl, hl, hc, r1⟩ := h.row
  clear h
  go_enter Try.func80, Try.ntmps80
  go_wp2
  go_loop [8] (fun i => ∃ k : Nat, i = .int .i64 k ∧ k ≤ l.length ∧ (l.take k).any badByte = false) (fun i => l.length - (intOf i).toNat)
  case atStart => exact ⟨0, rfl, Nat.zero_le _, rfl⟩
  case round =>
    obtain ⟨k, rfl, hk, hno⟩ := hrel
    have HN := Lib.hid hno
    clear hno
    by_cases hlt : k < l.length
    · obtain ⟨b1, o1, rfl, g1⟩ := r1 k hlt
      obtain ⟨u1, q1, t1⟩ := g1 k hlt
      obtain rfl := t1.val
      have HR := Lib.hid r1
      clear g1 r1 t1
      have hcon := badByte_any l[k] w
      have htk : (l.take (k + 1)).any badByte = badByte l[k] := by
        rw [← List.take_append_getElem hlt, List.any_append, HN.out]; simp
      have HT := Lib.hid htk
      clear htk
      by_cases hp : badByte l[k] = true
      · rw [hp] at hcon
        have HC := Lib.hid hcon
        have HP := Lib.hid hp
        clear hcon hp
        go_wp2_with fail
        refine HC.out.mono ?_
        rintro e w1 ⟨rfl, rfl⟩
        go_wp2
        go_ret
        refine ⟨rfl, _, rfl, ?_⟩
        have : l.any badByte = true := List.any_eq_true.2 ⟨l[k], List.getElem_mem hlt, HP.out⟩
        rw [this]
        simp
      · rw [Bool.not_eq_true] at hp
        rw [hp] at hcon
        have HC := Lib.hid hcon
        have HP := Lib.hid hp
        clear hcon hp
        go_wp2_with fail
        refine HC.out.mono ?_
        rintro e w1 ⟨rfl, rfl⟩
        go_wp2
        go_round
        case rel => exact ⟨k + 1, by go_num, by omega, by rw [HT.out, HP.out]⟩
        case measure => simp [intOf]; omega
    · obtain rfl : k = l.length := by omega
      go_wp2
      go_ret
      refine ⟨rfl, _, rfl, ?_⟩
      rw [List.take_length] at HN
      rw [HN.out]
      simp
set_option maxRecDepth 100000 in
set_option maxHeartbeats 400000 in
theorem contains_byte (v : Value) (l : List UInt8) (w : World) (h : SlR 1 1 RByte w v l) :
    Calls Try.prog 72 #[v, .func (.func 73) #[] #[]] w fun e w' => w = w' ∧ e = .returned (.bool (l.any badByte)) := by
  go_enter Try.func72, Try.ntmps72
  go_wp2_with fail
  refine (index_byte v l w h).mono ?_
  rintro e w1 ⟨rfl, r, rfl, hr⟩
  have HR := Lib.hid hr
  clear hr h
  go_wp2
  go_ret
  exact ⟨rfl, ret_bool HR.out⟩

set_option maxRecDepth 100000 in
set_option maxHeartbeats 400000 in
theorem index_str (v : Value) (l : List ByteArray) (w : World) (h : SlR 1 16 RStr w v l) :
    Calls Try.prog 81 #[v, .func (.func 78) #[] #[]] w fun e w' => w = w' ∧ ∃ r : Int, e = .returned (.int .i64 r) ∧ decide (0 ≤ r) = l.any badRaw := by
  obtain ⟨A, c, rfl, hl, hc, r1⟩ := h.row
  clear h
  go_enter Try.func81, Try.ntmps81
  go_wp2
  go_loop [8] (fun i => ∃ k : Nat, i = .int .i64 k ∧ k ≤ l.length ∧ (l.take k).any badRaw = false) (fun i => l.length - (intOf i).toNat)
  case atStart => exact ⟨0, rfl, Nat.zero_le _, rfl⟩
  case round =>
    obtain ⟨k, rfl, hk, hno⟩ := hrel
    have HN := Lib.hid hno
    clear hno
    by_cases hlt : k < l.length
    · obtain ⟨b1, o1, rfl, g1⟩ := r1 k hlt
      obtain ⟨u1, q1, t1⟩ := g1 k hlt
      obtain rfl := t1.val
      have HR := Lib.hid r1
      clear g1 r1 t1
      have hcon := badRaw_any l[k] w
      have htk : (l.take (k + 1)).any badRaw = badRaw l[k] := by
        rw [← List.take_append_getElem hlt, List.any_append, HN.out]; simp
      have HT := Lib.hid htk
      clear htk
      by_cases hp : badRaw l[k] = true
      · rw [hp] at hcon
        have HC := Lib.hid hcon
        have HP := Lib.hid hp
        clear hcon hp
        go_wp2_with fail
        refine HC.out.mono ?_
        rintro e w1 ⟨rfl, rfl⟩
        go_wp2
        go_ret
        refine ⟨rfl, _, rfl, ?_⟩
        have : l.any badRaw = true := List.any_eq_true.2 ⟨l[k], List.getElem_mem hlt, HP.out⟩
        rw [this]
        simp
      · rw [Bool.not_eq_true] at hp
        rw [hp] at hcon
        have HC := Lib.hid hcon
        have HP := Lib.hid hp
        clear hcon hp
        go_wp2_with fail
        refine HC.out.mono ?_
        rintro e w1 ⟨rfl, rfl⟩
        go_wp2
        go_round
        case rel => exact ⟨k + 1, by go_num, by omega, by rw [HT.out, HP.out]⟩
        case measure => simp [intOf]; omega
    · obtain rfl : k = l.length := by omega
      go_wp2
      go_ret
      refine ⟨rfl, _, rfl, ?_⟩
      rw [List.take_length] at HN
      rw [HN.out]
      simp
set_option maxRecDepth 100000 in
set_option maxHeartbeats 400000 in
theorem contains_str (v : Value) (l : List ByteArray) (w : World) (h : SlR 1 16 RStr w v l) :
    Calls Try.prog 77 #[v, .func (.func 78) #[] #[]] w fun e w' => w = w' ∧ e = .returned (.bool (l.any badRaw)) := by
  go_enter Try.func77, Try.ntmps77
  go_wp2_with fail
  refine (index_str v l w h).mono ?_
  rintro e w1 ⟨rfl, r, rfl, hr⟩
  have HR := Lib.hid hr
  clear hr h
  go_wp2
  go_ret
  exact ⟨rfl, ret_bool HR.out⟩

end Go.Proofs.Ytokpjgpdkmimgaa
