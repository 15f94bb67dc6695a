/-
  strings.Trim of zero bytes: what is left is empty just where all bytes are zero. Conditions: the text fits Go's limits.
-/
import Derived.Test.YtokpjgpdkmimgaaDoorK
import Derived.Test.YtokpjgpdkmimgaaDoorR3
import Derived.Test.YtokpjgpdkmimgaaDoorPTell
namespace Go.Proofs.YtokpjgpdkmimgaaDoor
set_option linter.unusedSimpArgs false
set_option linter.unusedVariables false
open Go.RowKit

def zeros (s : ByteArray) : Bool := (lst s).all (· == 0)
/-- v is what is left of s. -/
def Trims (s v : ByteArray) : Prop := zeros v = zeros s ∧ v.size ≤ s.size
theorem zeros_left (s : ByteArray) (h : 0 < s.size) (h0 : s[0] = 0) : zeros (s.extract 1 s.size) = zeros s := by
  unfold zeros
  rw [lst_extract]
  have h1 : lst s = s[0] :: (lst s).drop 1 := by
    have := List.drop_eq_getElem_cons (l := lst s) (i := 0) (by rw [length_lst]; exact h)
    rw [List.drop_zero] at this
    exact this
  have h2 : sub_ s 1 s.size = (lst s).drop 1 := by unfold sub_; rw [List.take_of_length_le (by rw [length_lst]; exact Nat.le_refl _)]
  rw [h2]
  conv => rhs; rw [h1]
  rw [List.all_cons, h0]
  rfl
theorem zeros_left_no (s : ByteArray) (h : 0 < s.size) (h0 : s[0] ≠ 0) : zeros s = false := by
  unfold zeros
  have h1 : lst s = s[0] :: (lst s).drop 1 := by
    have := List.drop_eq_getElem_cons (l := lst s) (i := 0) (by rw [length_lst]; exact h)
    rw [List.drop_zero] at this
    exact this
  rw [h1, List.all_cons, beq_false_of_ne h0]
  rfl
theorem take_last (s : ByteArray) (n : Nat) (h : s.size = n + 1) : lst s = sub_ s 0 n ++ [s[n]] := by
  have h1 := List.take_append_getElem (l := lst s) (i := n) (by rw [length_lst]; omega)
  unfold sub_
  rw [List.drop_zero]
  rw [List.take_of_length_le (i := n + 1) (by rw [length_lst]; omega)] at h1
  exact h1.symm
theorem zeros_right (s : ByteArray) (n : Nat) (h : s.size = n + 1) (h0 : s[n] = 0) : zeros (s.extract 0 n) = zeros s := by
  unfold zeros
  rw [lst_extract]
  conv => rhs; rw [take_last s n h]
  rw [List.all_append, h0]
  simp
theorem zeros_right_no (s : ByteArray) (n : Nat) (h : s.size = n + 1) (h0 : s[n] ≠ 0) : zeros s = false := by
  unfold zeros
  rw [take_last s n h, List.all_append]
  have : ([s[n]].all (· == 0)) = false := by simp [h0]
  rw [this, Bool.and_false]
theorem zeros_empty (s : ByteArray) (h : s.size = 0) : zeros s = true := by
  unfold zeros
  rw [List.eq_nil_of_length_eq_zero (l := lst s) (by rw [length_lst]; exact h)]
  rfl
set_option maxRecDepth 100000 in
set_option maxHeartbeats 1000000 in
theorem trimLeft_any (s : ByteArray) (w : World) (hs : s.size ≤ 140737488355328) :
    Calls Tryd.prog 53 #[.string s, .int .u8 0] w fun e w' => w' = w ∧ ∃ v, e = .returned (.string v) ∧ zeros v = zeros s ∧ v.size ≤ s.size ∧ (zeros v = true → v.size = 0) := by
  go_enter Tryd.func53, Tryd.ntmps53
  go_wp2_with fail
  go_loop [0] (fun sv => ∃ v : ByteArray, sv = .string v ∧ zeros v = zeros s ∧ v.size ≤ s.size) (fun sv => match sv with | .string v => v.size | _ => 0)
  case atStart => exact ⟨s, rfl, rfl, Nat.le_refl _⟩
  case round =>
    obtain ⟨v, rfl, hz, hl⟩ := hrel
    have HZ := Lib.hid (And.intro hz hl)
    have hvI : (v.size : Int) ≤ 140737488355328 := by omega
    clear hz
    by_cases h0 : v.size = 0
    · have h0I : (v.size : Int) = 0 := by omega
      have hgt : decide ((0 : Int) < (v.size : Int)) = false := by rw [h0I]; rfl
      have HZ0 := Lib.hid h0
      have hng : ¬ 0 < v.size := by omega
      have hng2 : ¬ (0 : Int) < (v.size : Int) := by omega
      clear h0 h0I
      go_wp2_with fail
      go_ret
      exact ⟨rfl, v, rfl, HZ.out.1, HZ.out.2, fun _ => by first | exact HZ0.out | simpa using HZ0.out⟩
    · have hp : 0 < v.size := by omega
      have hpI : (0 : Int) < (v.size : Int) := by omega
      have hp1 : (1 : Int) ≤ (v.size : Int) := by omega
      obtain ⟨c, hc⟩ : ∃ c, c = v[0] := ⟨_, rfl⟩
      have hcI : ((v[0].toNat : Nat) : Int) = (c.toNat : Int) := by rw [hc]
      by_cases hc0 : c = 0
      · have HNX := Lib.hid (show zeros (v.extract 1 v.size) = zeros s by rw [zeros_left v hp (by rw [← hc]; exact hc0)]; exact HZ.out.1)
        have hct : ((c.toNat : Int) == 0) = true := by rw [hc0]; rfl
        have hcz : (c.toNat : Int) = 0 := by rw [hc0]; rfl
        have HSZ := Lib.hid (show (v.extract 1 v.size).size = v.size - 1 by rw [ByteArray.size_extract]; omega)
        have HP := Lib.hid hp
        clear hc hc0 h0
        go_wp2_with fail
        go_round
        case rel => exact ⟨v.extract 1 v.size, rfl, HNX.out, by rw [HSZ.out]; have := HZ.out.2; omega⟩
        case measure => show (v.extract 1 v.size).size < v.size; rw [HSZ.out]; have := HP.out; omega
      · have HNO := Lib.hid (zeros_left_no v hp (by rw [← hc]; exact hc0))
        have hct : ((c.toNat : Int) == 0) = false := beq_false_of_ne (fun h => hc0 (UInt8.toNat_inj.1 (by show c.toNat = 0; omega)))
        have hcz : ¬ (c.toNat : Int) = 0 := fun h => hc0 (UInt8.toNat_inj.1 (by show c.toNat = 0; omega))
        clear hc hc0 h0
        go_wp2_with fail
        go_ret
        exact ⟨rfl, v, rfl, HZ.out.1, HZ.out.2, fun h => by rw [HNO.out] at h; cases h⟩
set_option maxRecDepth 100000 in
set_option maxHeartbeats 1000000 in
theorem trimRight_any (s : ByteArray) (w : World) (hs : s.size ≤ 140737488355328) :
    Calls Tryd.prog 54 #[.string s, .int .u8 0] w fun e w' => w' = w ∧ ∃ v, e = .returned (.string v) ∧ zeros v = zeros s ∧ v.size ≤ s.size ∧ (zeros v = true → v.size = 0) := by
  go_enter Tryd.func54, Tryd.ntmps54
  go_wp2_with fail
  go_loop [0] (fun sv => ∃ v : ByteArray, sv = .string v ∧ zeros v = zeros s ∧ v.size ≤ s.size) (fun sv => match sv with | .string v => v.size | _ => 0)
  case atStart => exact ⟨s, rfl, rfl, Nat.le_refl _⟩
  case round =>
    obtain ⟨v, rfl, hz, hl⟩ := hrel
    have HZ := Lib.hid (And.intro hz hl)
    have hvI : (v.size : Int) ≤ 140737488355328 := by omega
    clear hz
    by_cases h0 : v.size = 0
    · have h0I : (v.size : Int) = 0 := by omega
      have hgt : decide ((0 : Int) < (v.size : Int)) = false := by rw [h0I]; rfl
      have HZ0 := Lib.hid h0
      have hng : ¬ 0 < v.size := by omega
      have hng2 : ¬ (0 : Int) < (v.size : Int) := by omega
      clear h0 h0I
      go_wp2_with fail
      go_ret
      exact ⟨rfl, v, rfl, HZ.out.1, HZ.out.2, fun _ => by first | exact HZ0.out | simpa using HZ0.out⟩
    · obtain ⟨n, hn⟩ : ∃ n, v.size = n + 1 := ⟨v.size - 1, by omega⟩
      have hp : 0 < v.size := by omega
      have hpI : (0 : Int) < (v.size : Int) := by omega
      have y1 : (v.size : Int) - 1 = (n : Int) := by omega
      have hnv : n < v.size := by omega
      have hnvI : (n : Int) < (v.size : Int) := by omega
      have hnvI2 : (n : Int) ≤ (v.size : Int) := by omega
      have hn47 : (n : Int) ≤ 140737488355328 := by omega
      obtain ⟨c, hc⟩ : ∃ c, c = v[n] := ⟨_, rfl⟩
      have hcI : ((v[n].toNat : Nat) : Int) = (c.toNat : Int) := by rw [hc]
      by_cases hc0 : c = 0
      · have HNX := Lib.hid (show zeros (v.extract 0 n) = zeros s by rw [zeros_right v n hn (by rw [← hc]; exact hc0)]; exact HZ.out.1)
        have hct : ((c.toNat : Int) == 0) = true := by rw [hc0]; rfl
        have hcz : (c.toNat : Int) = 0 := by rw [hc0]; rfl
        have HSZ := Lib.hid (show (v.extract 0 n).size = n by rw [ByteArray.size_extract]; omega)
        have HP := Lib.hid hn
        clear hc hc0 h0 hn
        go_wp2_with fail
        go_round
        case rel => exact ⟨v.extract 0 n, rfl, HNX.out, by rw [HSZ.out]; have := HZ.out.2; have := HP.out; omega⟩
        case measure => show (v.extract 0 n).size < v.size; rw [HSZ.out]; have := HP.out; omega
      · have HNO := Lib.hid (zeros_right_no v n hn (by rw [← hc]; exact hc0))
        have hct : ((c.toNat : Int) == 0) = false := beq_false_of_ne (fun h => hc0 (UInt8.toNat_inj.1 (by show c.toNat = 0; omega)))
        have hcz : ¬ (c.toNat : Int) = 0 := fun h => hc0 (UInt8.toNat_inj.1 (by show c.toNat = 0; omega))
        clear hc hc0 h0 hn
        go_wp2_with fail
        go_ret
        exact ⟨rfl, v, rfl, HZ.out.1, HZ.out.2, fun h => by rw [HNO.out] at h; cases h⟩
theorem size0_empty {s : ByteArray} (h : s.size = 0) : s = .empty := by
  have h1 : s = bs (lst s) := (bs_lst s).symm
  rw [h1, List.eq_nil_of_length_eq_zero (l := lst s) (by rw [length_lst]; exact h)]
  rfl
/-- What is left of a text: empty just where all its bytes are zero. -/
def Trimmed (v s : ByteArray) : Prop := zeros v = zeros s ∧ (zeros v = true → v = .empty)
theorem Trimmed.all {v s : ByteArray} (h : Trimmed v s) (hz : zeros s = true) : v = .empty := h.2 (h.1.trans hz)
theorem Trimmed.some {v s : ByteArray} (h : Trimmed v s) (hz : zeros s = false) : ¬ v = .empty := by
  rintro rfl
  have := h.1
  rw [hz] at this
  cases this
set_option maxRecDepth 100000 in
set_option maxHeartbeats 1000000 in
theorem trim_any (s : ByteArray) (w : World) (hs : s.size ≤ 140737488355328) :
    Calls Tryd.prog 20 #[.string s, .string ⟨#[0]⟩] w fun e w' => Ext w w' ∧ ∃ v, e = .returned (.string v) ∧ Trimmed v s := by
  by_cases h0 : s.size = 0
  · obtain rfl := size0_empty h0
    go_enter Tryd.func20, Tryd.ntmps20
    go_wp2_with fail
    go_ret
    exact ⟨Ext.refl _, _, rfl, rfl, fun _ => rfl⟩
  · have hne : (s.toList == []) = false := by
      rw [toList_lst]
      refine beq_false_of_ne (fun h => h0 ?_)
      rw [← length_lst, h]; rfl
    have hne2 : (lst s == []) = false := by rw [← toList_lst]; exact hne
    have hne3 : ¬ s = .empty := fun h => h0 (by rw [h]; rfl)
    have hne4 : ¬ s = ⟨#[]⟩ := fun h => h0 (by rw [h]; rfl)
    clear h0
    go_enter Tryd.func20, Tryd.ntmps20
    go_wp2_with fail
    refine wp_region_vals (F := ?_) ?_ [(fun (v : Value) (_ : World) => v = .string s), (fun (v : Value) (_ : World) => v = .string ⟨#[0]⟩), (fun (v : Value) (_ : World) => v = .int .u8 0), (fun v _ => ∃ u : ByteArray, v = .string u ∧ zeros u = zeros s ∧ u.size ≤ s.size), (fun (v : Value) (_ : World) => v = .string ⟨#[0]⟩), (fun (v : Value) (_ : World) => v = .int .u8 0), (fun v _ => ∃ u : ByteArray, v = .string u ∧ zeros u = zeros s ∧ u.size ≤ s.size ∧ (zeros u = true → u.size = 0)), (fun v _ => ∃ u : ByteArray, v = .string u ∧ zeros u = zeros s ∧ u.size ≤ s.size ∧ (zeros u = true → u.size = 0))] (by kernel_rfl) (by kernel_rfl) ?_ ?_ ?_
    rotate_left
    · intro vals
      simp only [putAll, Act.put, List.setIfInBounds_toArray, List.set_cons_zero, List.set_cons_succ, Nat.zero_add, Nat.reduceAdd]
      rfl
    · simp only [List.forall_mem_cons]
      exact ⟨fun _ _ _ h _ => h, fun _ _ _ h _ => h, fun _ _ _ h _ => h, fun _ _ _ h _ => h, fun _ _ _ h _ => h, fun _ _ _ h _ => h, fun _ _ _ h _ => h, fun _ _ _ h _ => h, fun _ h => (by cases h)⟩
    · refine ⟨?_, ?_, ?_, ?_, ?_, ?_, ?_, ?_, trivial⟩
      · intro vals W e hd ho K hK
        refine st_quiet (v := ?_) ?_ ?_
        rotate_left
        · go_simp
          rfl
        exact hK _ _ _ rfl (by first | exact rfl | exact congrArg (Value.int _) (by first | (rw [IntKind.wrap_i64]; omega) | (rw [IntKind.wrap_u8]; omega) | omega)) (Ext.refl _)
      · intro vals W e hd ho K hK
        refine st_quiet (v := ?_) ?_ ?_
        rotate_left
        · go_simp
          rfl
        exact hK _ _ _ rfl (by first | exact rfl | exact congrArg (Value.int _) (by first | (rw [IntKind.wrap_i64]; omega) | (rw [IntKind.wrap_u8]; omega) | omega)) (Ext.refl _)
      · intro vals W e hd ho K hK
        have h1 : vals 1 = .string ⟨#[0]⟩ := hd 1 (by kernel_rfl)
        refine st_quiet (v := ?_) ?_ ?_
        rotate_left
        · go_simp
          rfl
        exact hK _ _ _ rfl (by first | exact rfl | exact congrArg (Value.int _) (by first | (rw [IntKind.wrap_i64]; omega) | (rw [IntKind.wrap_u8]; omega) | omega)) (Ext.refl _)
      · intro vals W e hd ho K hK
        have h0 : vals 0 = .string s := hd 0 (by kernel_rfl)
        have h2 : vals 2 = .int .u8 0 := hd 2 (by kernel_rfl)
        go_wp2_with fail
        refine (trimRight_any s _ hs).mono ?_
        rintro e' W' ⟨hw', u, rfl, hz, hl, hn⟩
        subst hw'
        exact hK _ _ _ (by first | rfl | (simp only [h0, h2]; rfl)) ⟨u, rfl, hz, hl⟩ (Ext.refl _)
      · intro vals W e hd ho K hK
        refine st_quiet (v := ?_) ?_ ?_
        rotate_left
        · go_simp
          rfl
        exact hK _ _ _ rfl (by first | exact rfl | exact congrArg (Value.int _) (by first | (rw [IntKind.wrap_i64]; omega) | (rw [IntKind.wrap_u8]; omega) | omega)) (Ext.refl _)
      · intro vals W e hd ho K hK
        have h4 : vals 4 = .string ⟨#[0]⟩ := hd 4 (by kernel_rfl)
        refine st_quiet (v := ?_) ?_ ?_
        rotate_left
        · go_simp
          rfl
        exact hK _ _ _ rfl (by first | exact rfl | exact congrArg (Value.int _) (by first | (rw [IntKind.wrap_i64]; omega) | (rw [IntKind.wrap_u8]; omega) | omega)) (Ext.refl _)
      · intro vals W e hd ho K hK
        obtain ⟨u3, h3, z3, l3⟩ := hd 3 (by kernel_rfl)
        have h5 : vals 5 = .int .u8 0 := hd 5 (by kernel_rfl)
        go_wp2_with fail
        refine (trimLeft_any u3 _ (by omega)).mono ?_
        rintro e' W' ⟨hw', u, rfl, hz, hl, hn⟩
        subst hw'
        exact hK _ _ _ (by first | rfl | (simp only [h3, h5]; rfl)) ⟨u, rfl, by rw [hz, z3], by omega, hn⟩ (Ext.refl _)
      · intro vals W e hd ho K hK
        obtain ⟨u6, h6, z6, l6, n6⟩ := hd 6 (by kernel_rfl)
        refine st_quiet (v := .string u6) ?_ ?_
        · go_simp
          try rfl
        exact hK _ _ _ rfl ⟨u6, rfl, z6, l6, n6⟩ (Ext.refl _)
    intro vals W e hall
    obtain ⟨u7, h7, z7, l7, n7⟩ := hall 7 (by decide)
    clear hne hne2 hne3 hne4
    go_wp2_with fail
    go_ret
    exact ⟨(Ext.refl w).drew.trans e, u7, by first | rfl | (rw [h7]), z7, fun h => size0_empty (n7 h)⟩
end Go.Proofs.YtokpjgpdkmimgaaDoor
