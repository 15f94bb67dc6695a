/-
  A number from 0 to many - 1, out of any number. Conditions: many is more than 0.
-/
import Derived.Test.YtgjijcgkmofaaaaGreatDoorU10
namespace Go.Proofs.YtgjijcgkmofaaaaGreatDoor
set_option linter.unusedSimpArgs false
set_option linter.unusedVariables false
set_option maxRecDepth 100000
set_option maxHeartbeats 8000000
open Go.RowKit
def pick (n many : Int) : Int := (if n < 0 then -(n + 1) else n) % many
theorem pick_range (n many : Int) (h : 0 < many) : 0 ≤ pick n many ∧ pick n many < many := ⟨Int.emod_nonneg _ (by omega), Int.emod_lt_of_pos _ h⟩
theorem picked_any (n many : Int) (w : World) (hn : I64 n) (h0 : 0 < many) (h1 : many ≤ 140737488355328) :
  Calls Tryz.prog 28 #[.int .i64 n, .int .i64 many] w fun e w' => e = .returned (.int .i64 (pick n many)) ∧ w' = w := by
 have hne : (many == 0) = false := beq_false_of_ne (by omega)
 have hne2 : ¬ many = 0 := by omega
 have hnm : ¬ many = -1 := by omega
 have hr := pick_range n many h0
 unfold I64 at hn
 by_cases h : n < 0
 ·have hp : pick n many = (-(n + 1)) % many := by unfold pick; rw [if_pos h]
  have t1 : decide (n < 0) = true := decide_eq_true h
  obtain ⟨m, hm⟩ : ∃ m, m = -(n + 1) := ⟨_, rfl⟩
  have y1 : IntKind.i64.wrap (n + 1) = -m := by rw [IntKind.wrap_i64]; omega
  have y2 : IntKind.i64.wrap (- -m) = m := by rw [IntKind.wrap_i64]; omega
  have y2' : IntKind.i64.wrap m = m := by rw [IntKind.wrap_i64]; omega
  have hm0 : 0 ≤ m := by omega
  have y3 : IntKind.i64.wrap (m % many) = m % many := by rw [IntKind.wrap_i64]; rw [hp, ← hm] at hr; omega
  have y4 : Int.tmod m many = m % many := Int.tmod_eq_emod_of_nonneg hm0
  rw [hp, ← hm]
  rw [hp, ← hm] at hr
  have y5 : n + 1 = -m := by omega
  have hb1 : m ≤ 9223372036854775807 := by omega
  have hb2 : -9223372036854775808 ≤ n + 1 := by omega
  have hb3 : n + 1 ≤ 9223372036854775807 := by omega
  clear hm hp h
  go_enter Tryz.func28, Tryz.ntmps28
  go_wp2_with fail
  go_ret
  exact ⟨by first | rfl | (rw [y4, y3]) | (congr 3; omega), rfl⟩
 ·have hp : pick n many = n % many := by unfold pick; rw [if_neg h]
  have t1 : decide (n < 0) = false := decide_eq_false h
  have hn0 : 0 ≤ n := by omega
  have y3 : IntKind.i64.wrap (n % many) = n % many := by rw [IntKind.wrap_i64]; rw [hp] at hr; omega
  have y4 : Int.tmod n many = n % many := Int.tmod_eq_emod_of_nonneg hn0
  rw [hp]
  rw [hp] at hr
  go_enter Tryz.func28, Tryz.ntmps28
  go_wp2_with fail
  go_ret
  exact ⟨by first | rfl | (rw [y4, y3]), rfl⟩
def zeros (s : ByteArray) : Bool := (lst s).all (· == 0)
theorem zeros_left (s : ByteArray) (h : 0 < s.size) (h0 : s[0] = 0) : zeros (s.extract 1 s.size) = zeros s := by
 unfold zeros
 rw [lst_extract]
 have h1 : lst s = s[0] :: (lst s).drop 1 := by
  have := List.drop_eq_getElem_cons (l := lst s) (i := 0) (by rw [length_lst]; exact h)
  rw [List.drop_zero] at this
  exact this
 have h2 : sub_ s 1 s.size = (lst s).drop 1 := by unfold sub_; rw [List.take_of_length_le (by rw [length_lst]; exact Nat.le_refl _)]
 rw [h2]
 conv => rhs; rw [h1]
 rw [List.all_cons, h0]
 rfl
theorem zeros_left_no (s : ByteArray) (h : 0 < s.size) (h0 : s[0] ≠ 0) : zeros s = false := by
 unfold zeros
 have h1 : lst s = s[0] :: (lst s).drop 1 := by
  have := List.drop_eq_getElem_cons (l := lst s) (i := 0) (by rw [length_lst]; exact h)
  rw [List.drop_zero] at this
  exact this
 rw [h1, List.all_cons, beq_false_of_ne h0]
 rfl
theorem take_last (s : ByteArray) (n : Nat) (h : s.size = n + 1) : lst s = sub_ s 0 n ++ [s[n]] := by
 have h1 := List.take_append_getElem (l := lst s) (i := n) (by rw [length_lst]; omega)
 unfold sub_
 rw [List.drop_zero]
 rw [List.take_of_length_le (i := n + 1) (by rw [length_lst]; omega)] at h1
 exact h1.symm
theorem zeros_right (s : ByteArray) (n : Nat) (h : s.size = n + 1) (h0 : s[n] = 0) : zeros (s.extract 0 n) = zeros s := by
 unfold zeros
 rw [lst_extract]
 conv => rhs; rw [take_last s n h]
 rw [List.all_append, h0]
 simp
theorem zeros_right_no (s : ByteArray) (n : Nat) (h : s.size = n + 1) (h0 : s[n] ≠ 0) : zeros s = false := by
 unfold zeros
 rw [take_last s n h, List.all_append]
 have : ([s[n]].all (· == 0)) = false := by simp [h0]
 rw [this, Bool.and_false]
theorem trimLeft_any (s : ByteArray) (w : World) (hs : s.size ≤ 140737488355328) :
  Calls Tryz.prog 157 #[.string s, .int .u8 0] w fun e w' => w' = w ∧ ∃ v, e = .returned (.string v) ∧ zeros v = zeros s ∧ v.size ≤ s.size ∧ (zeros v = true → v.size = 0) := by
 go_enter Tryz.func157, Tryz.ntmps157
 go_wp2_with fail
 go_loop [0] (fun sv => ∃ v : ByteArray, sv = .string v ∧ zeros v = zeros s ∧ v.size ≤ s.size) (fun sv => match sv with | .string v => v.size | _ => 0)
 case atStart => exact ⟨s, rfl, rfl, Nat.le_refl _⟩
 case round =>
  obtain ⟨v, rfl, hz, hl⟩ := hrel
  have HZ := Lib.hid (And.intro hz hl)
  have hvI : (v.size : Int) ≤ 140737488355328 := by omega
  clear hz
  by_cases h0 : v.size = 0
  ·have h0I : (v.size : Int) = 0 := by omega
   have hgt : decide ((0 : Int) < (v.size : Int)) = false := by rw [h0I]; rfl
   have HZ0 := Lib.hid h0
   have hng : ¬ 0 < v.size := by omega
   have hng2 : ¬ (0 : Int) < (v.size : Int) := by omega
   clear h0 h0I
   go_wp2_with fail
   go_ret
   exact ⟨rfl, v, rfl, HZ.out.1, HZ.out.2, fun _ => by first | exact HZ0.out | simpa using HZ0.out⟩
  ·have hp : 0 < v.size := by omega
   have hpI : (0 : Int) < (v.size : Int) := by omega
   have hp1 : (1 : Int) ≤ (v.size : Int) := by omega
   obtain ⟨c, hc⟩ : ∃ c, c = v[0] := ⟨_, rfl⟩
   have hcI : ((v[0].toNat : Nat) : Int) = (c.toNat : Int) := by rw [hc]
   by_cases hc0 : c = 0
   ·have HNX := Lib.hid (show zeros (v.extract 1 v.size) = zeros s by rw [zeros_left v hp (by rw [← hc]; exact hc0)]; exact HZ.out.1)
    have hct : ((c.toNat : Int) == 0) = true := by rw [hc0]; rfl
    have hcz : (c.toNat : Int) = 0 := by rw [hc0]; rfl
    have HSZ := Lib.hid (show (v.extract 1 v.size).size = v.size - 1 by rw [ByteArray.size_extract]; omega)
    have HP := Lib.hid hp
    clear hc hc0 h0
    go_wp2_with fail
    go_round
    case rel => exact ⟨v.extract 1 v.size, rfl, HNX.out, by rw [HSZ.out]; have := HZ.out.2; omega⟩
    case measure => show (v.extract 1 v.size).size < v.size; rw [HSZ.out]; have := HP.out; omega
   ·have HNO := Lib.hid (zeros_left_no v hp (by rw [← hc]; exact hc0))
    have hct : ((c.toNat : Int) == 0) = false := beq_false_of_ne (fun h => hc0 (UInt8.toNat_inj.1 (by show c.toNat = 0; omega)))
    have hcz : ¬ (c.toNat : Int) = 0 := fun h => hc0 (UInt8.toNat_inj.1 (by show c.toNat = 0; omega))
    clear hc hc0 h0
    go_wp2_with fail
    go_ret
    exact ⟨rfl, v, rfl, HZ.out.1, HZ.out.2, fun h => by rw [HNO.out] at h; cases h⟩
theorem trimRight_any (s : ByteArray) (w : World) (hs : s.size ≤ 140737488355328) :
  Calls Tryz.prog 158 #[.string s, .int .u8 0] w fun e w' => w' = w ∧ ∃ v, e = .returned (.string v) ∧ zeros v = zeros s ∧ v.size ≤ s.size ∧ (zeros v = true → v.size = 0) := by
 go_enter Tryz.func158, Tryz.ntmps158
 go_wp2_with fail
 go_loop [0] (fun sv => ∃ v : ByteArray, sv = .string v ∧ zeros v = zeros s ∧ v.size ≤ s.size) (fun sv => match sv with | .string v => v.size | _ => 0)
 case atStart => exact ⟨s, rfl, rfl, Nat.le_refl _⟩
 case round =>
  obtain ⟨v, rfl, hz, hl⟩ := hrel
  have HZ := Lib.hid (And.intro hz hl)
  have hvI : (v.size : Int) ≤ 140737488355328 := by omega
  clear hz
  by_cases h0 : v.size = 0
  ·have h0I : (v.size : Int) = 0 := by omega
   have hgt : decide ((0 : Int) < (v.size : Int)) = false := by rw [h0I]; rfl
   have HZ0 := Lib.hid h0
   have hng : ¬ 0 < v.size := by omega
   have hng2 : ¬ (0 : Int) < (v.size : Int) := by omega
   clear h0 h0I
   go_wp2_with fail
   go_ret
   exact ⟨rfl, v, rfl, HZ.out.1, HZ.out.2, fun _ => by first | exact HZ0.out | simpa using HZ0.out⟩
  ·obtain ⟨n, hn⟩ : ∃ n, v.size = n + 1 := ⟨v.size - 1, by omega⟩
   have hp : 0 < v.size := by omega
   have hpI : (0 : Int) < (v.size : Int) := by omega
   have y1 : (v.size : Int) - 1 = (n : Int) := by omega
   have hnv : n < v.size := by omega
   have hnvI : (n : Int) < (v.size : Int) := by omega
   have hnvI2 : (n : Int) ≤ (v.size : Int) := by omega
   have hn47 : (n : Int) ≤ 140737488355328 := by omega
   obtain ⟨c, hc⟩ : ∃ c, c = v[n] := ⟨_, rfl⟩
   have hcI : ((v[n].toNat : Nat) : Int) = (c.toNat : Int) := by rw [hc]
   by_cases hc0 : c = 0
   ·have HNX := Lib.hid (show zeros (v.extract 0 n) = zeros s by rw [zeros_right v n hn (by rw [← hc]; exact hc0)]; exact HZ.out.1)
    have hct : ((c.toNat : Int) == 0) = true := by rw [hc0]; rfl
    have hcz : (c.toNat : Int) = 0 := by rw [hc0]; rfl
    have HSZ := Lib.hid (show (v.extract 0 n).size = n by rw [ByteArray.size_extract]; omega)
    have HP := Lib.hid hn
    clear hc hc0 h0 hn
    go_wp2_with fail
    go_round
    case rel => exact ⟨v.extract 0 n, rfl, HNX.out, by rw [HSZ.out]; have := HZ.out.2; have := HP.out; omega⟩
    case measure => show (v.extract 0 n).size < v.size; rw [HSZ.out]; have := HP.out; omega
   ·have HNO := Lib.hid (zeros_right_no v n hn (by rw [← hc]; exact hc0))
    have hct : ((c.toNat : Int) == 0) = false := beq_false_of_ne (fun h => hc0 (UInt8.toNat_inj.1 (by show c.toNat = 0; omega)))
    have hcz : ¬ (c.toNat : Int) = 0 := fun h => hc0 (UInt8.toNat_inj.1 (by show c.toNat = 0; omega))
    clear hc hc0 h0 hn
    go_wp2_with fail
    go_ret
    exact ⟨rfl, v, rfl, HZ.out.1, HZ.out.2, fun h => by rw [HNO.out] at h; cases h⟩
theorem size0_empty {s : ByteArray} (h : s.size = 0) : s = .empty := by
 have h1 : s = bs (lst s) := (bs_lst s).symm
 rw [h1, List.eq_nil_of_length_eq_zero (l := lst s) (by rw [length_lst]; exact h)]
 rfl
def Trimmed (v s : ByteArray) : Prop := zeros v = zeros s ∧ (zeros v = true → v = .empty)
theorem Trimmed.all {v s : ByteArray} (h : Trimmed v s) (hz : zeros s = true) : v = .empty := h.2 (h.1.trans hz)
theorem Trimmed.some {v s : ByteArray} (h : Trimmed v s) (hz : zeros s = false) : ¬ v = .empty := by
 rintro rfl
 have := h.1
 rw [hz] at this
 cases this
theorem trim_any (s : ByteArray) (w : World) (hs : s.size ≤ 140737488355328) :
  Calls Tryz.prog 121 #[.string s, .string ⟨#[0]⟩] w fun e w' => Ext w w' ∧ ∃ v, e = .returned (.string v) ∧ Trimmed v s := by
 by_cases h0 : s.size = 0
 ·obtain rfl := size0_empty h0
  go_enter Tryz.func121, Tryz.ntmps121
  go_wp2_with fail
  go_ret
  exact ⟨Ext.refl _, _, rfl, rfl, fun _ => rfl⟩
 ·have hne : (s.toList == []) = false := by
   rw [toList_lst]
   refine beq_false_of_ne (fun h => h0 ?_)
   rw [← length_lst, h]; rfl
  have hne2 : (lst s == []) = false := by rw [← toList_lst]; exact hne
  have hne3 : ¬ s = .empty := fun h => h0 (by rw [h]; rfl)
  have hne4 : ¬ s = ⟨#[]⟩ := fun h => h0 (by rw [h]; rfl)
  clear h0
  go_enter Tryz.func121, Tryz.ntmps121
  go_wp2_with fail
  refine wp_region_vals (F := ?_) ?_ [(fun (v : Value) (_ : World) => v = .string s), (fun (v : Value) (_ : World) => v = .string ⟨#[0]⟩), (fun (v : Value) (_ : World) => v = .int .u8 0), (fun v _ => ∃ u : ByteArray, v = .string u ∧ zeros u = zeros s ∧ u.size ≤ s.size), (fun (v : Value) (_ : World) => v = .string ⟨#[0]⟩), (fun (v : Value) (_ : World) => v = .int .u8 0), (fun v _ => ∃ u : ByteArray, v = .string u ∧ zeros u = zeros s ∧ u.size ≤ s.size ∧ (zeros u = true → u.size = 0)), (fun v _ => ∃ u : ByteArray, v = .string u ∧ zeros u = zeros s ∧ u.size ≤ s.size ∧ (zeros u = true → u.size = 0))] (by kernel_rfl) (by kernel_rfl) ?_ ?_ ?_
  rotate_left
  ·intro vals
   simp only [putAll, Act.put, List.setIfInBounds_toArray, List.set_cons_zero, List.set_cons_succ, Nat.zero_add, Nat.reduceAdd]
   rfl
  ·simp only [List.forall_mem_cons]
   exact ⟨fun _ _ _ h _ => h, fun _ _ _ h _ => h, fun _ _ _ h _ => h, fun _ _ _ h _ => h, fun _ _ _ h _ => h, fun _ _ _ h _ => h, fun _ _ _ h _ => h, fun _ _ _ h _ => h, fun _ h => (by cases h)⟩
  ·refine ⟨?_, ?_, ?_, ?_, ?_, ?_, ?_, ?_, trivial⟩
   ·intro vals W e hd ho K hK
    exact st_q hK (by go_simp; rfl)
   ·intro vals W e hd ho K hK
    exact st_q hK (by go_simp; rfl)
   ·intro vals W e hd ho K hK
    have h1 : vals 1 = .string ⟨#[0]⟩ := hd 1 (by kernel_rfl)
    exact st_q hK (by go_simp; rfl)
   ·intro vals W e hd ho K hK
    have h0 : vals 0 = .string s := hd 0 (by kernel_rfl)
    have h2 : vals 2 = .int .u8 0 := hd 2 (by kernel_rfl)
    go_wp2_with fail
    refine (trimRight_any s _ hs).mono ?_
    rintro e' W' ⟨hw', u, rfl, hz, hl, hn⟩
    subst hw'
    exact hK _ _ _ (by first | rfl | (simp only [h0, h2]; rfl)) ⟨u, rfl, hz, hl⟩ (Ext.refl _)
   ·intro vals W e hd ho K hK
    exact st_q hK (by go_simp; rfl)
   ·intro vals W e hd ho K hK
    have h4 : vals 4 = .string ⟨#[0]⟩ := hd 4 (by kernel_rfl)
    exact st_q hK (by go_simp; rfl)
   ·intro vals W e hd ho K hK
    obtain ⟨u3, h3, z3, l3⟩ := hd 3 (by kernel_rfl)
    have h5 : vals 5 = .int .u8 0 := hd 5 (by kernel_rfl)
    go_wp2_with fail
    refine (trimLeft_any u3 _ (by omega)).mono ?_
    rintro e' W' ⟨hw', u, rfl, hz, hl, hn⟩
    subst hw'
    exact hK _ _ _ (by first | rfl | (simp only [h3, h5]; rfl)) ⟨u, rfl, by rw [hz, z3], by omega, hn⟩ (Ext.refl _)
   ·intro vals W e hd ho K hK
    obtain ⟨u6, h6, z6, l6, n6⟩ := hd 6 (by kernel_rfl)
    refine st_quiet (v := .string u6) ?_ ?_
    ·go_simp
     try rfl
    exact hK _ _ _ rfl ⟨u6, rfl, z6, l6, n6⟩ (Ext.refl _)
  intro vals W e hall
  obtain ⟨u7, h7, z7, l7, n7⟩ := hall 7 (by decide)
  clear hne hne2 hne3 hne4
  go_wp2_with fail
  go_ret
  exact ⟨(Ext.refl w).drew.trans e, u7, by first | rfl | (rw [h7]), z7, fun h => size0_empty (n7 h)⟩
def takeR (r : ByteArray) (e : Int) (n : Nat) : ByteArray × ByteArray × Int := if e = 0 then (if r.size < n then (.empty, r, 5) else (r.extract 0 n, r.extract n r.size, 0)) else (.empty, r, e)
def foldV (l : List UInt8) : Int := l.foldl (fun a c => 256 * a + (c.toNat : Int)) 0
def numR (r : ByteArray) (e : Int) (n : Nat) : Int × ByteArray × Int := (foldV (lst (takeR r e n).1), (takeR r e n).2.1, (takeR r e n).2.2)
theorem take_err {r : ByteArray} {e : Int} (n : Nat) (h : ¬ e = 0) : takeR r e n = (.empty, r, e) := by unfold takeR; rw [if_neg h]
theorem take_short {r : ByteArray} {n : Nat} (h : r.size < n) : takeR r 0 n = (.empty, r, 5) := by unfold takeR; rw [if_pos rfl, if_pos h]
theorem take_ok {r : ByteArray} {n : Nat} (h : ¬ r.size < n) : takeR r 0 n = (r.extract 0 n, r.extract n r.size, 0) := by unfold takeR; rw [if_pos rfl, if_neg h]
theorem take_len (r : ByteArray) (e : Int) (n : Nat) : (takeR r e n).1.size ≤ n ∧ (takeR r e n).2.1.size ≤ r.size := by
 unfold takeR
 split
 ·split
  ·exact ⟨Nat.zero_le _, Nat.le_refl _⟩
  ·refine ⟨?_, ?_⟩
   ·show (r.extract 0 n).size ≤ n
    rw [ByteArray.size_extract]; omega
   ·show (r.extract n r.size).size ≤ r.size
    rw [ByteArray.size_extract]; omega
 ·exact ⟨Nat.zero_le _, Nat.le_refl _⟩
theorem grownBy_trans {a b c : World} {row : Option Nat} (h : a.grownBy b row) (k : b.grownBy c row) : a.grownBy c row :=
 ⟨k.os.trans h.os, k.tape.trans h.tape, k.output.trans h.output, Nat.le_trans h.size k.size, fun i hi hne => (k.block i (Nat.lt_of_lt_of_le hi h.size) hne).trans (h.block i hi hne)⟩
theorem grownBy_refl (w : World) (row : Option Nat) : w.grownBy w row := (Ext.refl w).by_ row
theorem take_any (w : World) (br : Nat) (r : ByteArray) (e : Int) (n : Nat) (h : Blk_ w br 182 #[.string r, .int .i64 e]) (hr : r.size ≤ 140737488355328) (hn : n ≤ 255) :
  Calls Tryz.prog 120 #[.pointer (some ⟨br, 0, none⟩), .int .i64 n] w fun en w' => en = .returned (.string (takeR r e n).1) ∧ w.grownBy w' (some br) ∧ Blk_ w' br 182 #[.string (takeR r e n).2.1, .int .i64 (takeR r e n).2.2] := by
 have f0 := h.cell 0
 have f1 := h.cell 1
 have z0 := h.frozen 0
 have z1 := h.frozen 1
 simp at f0 f1
 have HB := Lib.hid h
 have hrI : (r.size : Int) ≤ 140737488355328 := by omega
 have hnI : (n : Int) ≤ 255 := by omega
 have hn0 : (0 : Int) ≤ (n : Int) := by omega
 clear h
 by_cases he : e = 0
 ·subst he
  by_cases hs : r.size < n
  ·have HT := Lib.hid (take_short hs)
   rw [HT.out]
   have hsI : (r.size : Int) < (n : Int) := by omega
   have hst : decide ((r.size : Int) < (n : Int)) = true := decide_eq_true hsI
   have HB2 := Lib.hid (HB.out.set 1 (.int .i64 5))
   go_enter Tryz.func120, Tryz.ntmps120
   go_wp2_with fail
   go_ret
   exact ⟨rfl, setRow_by w br 1 _, HB2.out⟩
  ·have HT := Lib.hid (take_ok hs)
   rw [HT.out]
   have hsI : (n : Int) ≤ (r.size : Int) := by omega
   have hst : decide ((r.size : Int) < (n : Int)) = false := decide_eq_false (by omega)
   have hsn : n ≤ r.size := by omega
   obtain ⟨q, hq⟩ : ∃ q, q = r.extract 0 n := ⟨_, rfl⟩
   obtain ⟨x, hx⟩ : ∃ x, x = r.extract n r.size := ⟨_, rfl⟩
   rw [← hq, ← hx]
   have HQ := Lib.hid (And.intro hq hx)
   have HB2 := Lib.hid (HB.out.set 0 (.string x))
   clear hq hx hs
   go_enter Tryz.func120, Tryz.ntmps120
   go_wp2_with fail
   go_ret
   rw [← HQ.out.1, ← HQ.out.2]
   exact ⟨rfl, setRow_by w br 0 _, HB2.out⟩
 ·have HT := Lib.hid (take_err (r := r) n he)
  rw [HT.out]
  have he1 : (e == 0) = false := beq_false_of_ne he
  have he2 : (e != 0) = true := by simp [bne, he1]
  clear he
  go_enter Tryz.func120, Tryz.ntmps120
  go_wp2_with fail
  go_ret
  exact ⟨rfl, grownBy_refl w _, HB.out⟩
theorem foldV_snoc (l : List UInt8) (c : UInt8) : foldV (l ++ [c]) = 256 * foldV l + (c.toNat : Int) := by simp [foldV]
theorem number_any (w : World) (br : Nat) (r : ByteArray) (e : Int) (n : Nat) (h : Blk_ w br 182 #[.string r, .int .i64 e]) (hr : r.size ≤ 140737488355328) (hn : n ≤ 2) :
  Calls Tryz.prog 119 #[.pointer (some ⟨br, 0, none⟩), .int .i64 n] w fun en w' => en = .returned (.int .i64 (numR r e n).1) ∧ w.grownBy w' (some br) ∧ Blk_ w' br 182 #[.string (numR r e n).2.1, .int .i64 (numR r e n).2.2] := by
 unfold numR
 have HB := Lib.hid h
 clear h
 go_enter Tryz.func119, Tryz.ntmps119
 go_wp2_with fail
 refine (take_any w br r e n HB.out hr (by omega)).mono ?_
 rintro en w1 ⟨rfl, hg, hb⟩
 have hsz := (take_len r e n).1
 obtain ⟨T, hT⟩ : ∃ T, T = takeR r e n := ⟨_, rfl⟩
 rw [← hT] at hb hsz ⊢
 obtain ⟨t, x, e'⟩ := T
 dsimp only at hb hsz ⊢
 have HG := Lib.hid hg
 have HB1 := Lib.hid hb
 have HT := Lib.hid hT
 have ht2 : t.size ≤ 2 := by omega
 have ht2I : (t.size : Int) ≤ 2 := by omega
 clear hT hg hb hsz
 go_wp2_with (refine wpList_tobytes (.tmp 10) 9 95 5 rfl rfl Tryz.underlying9 Tryz.underlying95 Tryz.underlying5 t rfl ?_)
 intro gb cap w2 hgb e2 hbuf hcap
 have HG2 := Lib.hid (grownBy_trans HG.out (e2.by_ (some br)))
 have HB2 := Lib.hid (HB1.out.ext e2)
 have HBF := Lib.hid hbuf
 clear hgb e2 hbuf hcap
 go_wp2_with fail
 go_loop [5, 13] (fun nv iv => ∃ i : Nat, nv = .int .i64 (foldV ((lst t).take i)) ∧ iv = .int .i64 i ∧ i ≤ t.size) (fun _ iv => t.size - (intOf iv).toNat)
 case atStart => exact ⟨0, rfl, rfl, Nat.zero_le _⟩
 case round =>
  obtain ⟨i, rfl, rfl, hi⟩ := hrel
  by_cases hlt : i < t.size
  ·have hil : i < (lst t).length := by rw [length_lst]; exact hlt
   have bp := HBF.out.cell i hil
   obtain ⟨c, hc⟩ : ∃ c, c = (lst t).getD i 0 := ⟨_, rfl⟩
   rw [← hc] at bp
   have hcb := u8_hi c
   have hst : foldV ((lst t).take (i + 1)) = 256 * foldV ((lst t).take i) + (c.toNat : Int) := by
    rw [← foldV_snoc]
    congr 1
    rw [List.take_succ_eq_append_getElem hil, hc, List.getD_eq_getElem?_getD, List.getElem?_eq_getElem hil]
    rfl
   have hv : ∃ a : Nat, a < 256 ∧ foldV ((lst t).take i) = (a : Int) := by
    match i with
    | 0 => exact ⟨0, by omega, rfl⟩
    | 1 =>
     refine ⟨((lst t).getD 0 0).toNat, UInt8.toNat_lt _, ?_⟩
     rw [show (1 : Nat) = 0 + 1 from rfl, List.take_succ_eq_append_getElem (by omega)]
     simp [foldV, List.getD_eq_getElem?_getD, List.getElem?_eq_getElem (show 0 < (lst t).length by omega)]
    | j + 2 => omega
   obtain ⟨a, ha, hv⟩ := hv
   rw [hv] at hst ⊢
   have hbits := sector_bits a c.toNat ha (by omega)
   have haI : (a : Int) < 256 := by omega
   have hwr : IntKind.i64.wrap ((a : Int) * 256) = (a : Int) * 256 := by rw [IntKind.wrap_i64]; omega
   have HST := Lib.hid hst
   have hltI : (i : Int) < (t.size : Int) := by omega
   have hi2 : (i : Int) < 2 := by omega
   clear hst hc hv
   go_wp2_with fail
   go_round
   case rel => exact ⟨i + 1, by rw [HST.out], by go_num, by omega⟩
   case measure => simp [intOf]; omega
  ·have HF := Lib.hid (show foldV ((lst t).take i) = foldV (lst t) by rw [List.take_of_length_le (by rw [length_lst]; omega)])
   have hge : ¬ (i : Int) < (t.size : Int) := by omega
   obtain ⟨v, hv⟩ : ∃ v, v = foldV (lst t) := ⟨_, rfl⟩
   have HV := Lib.hid hv
   rw [HF.out, ← hv]
   clear hv HF
   go_wp2_with fail
   go_ret
   rw [← HT.out]
   exact ⟨by rw [HV.out]; rfl, HG2.out, HB2.out⟩
theorem bs_size (l : List UInt8) : (bs l).size = l.length := size_bs l
theorem bs_ext (l : List UInt8) (a b : Nat) : (bs l).extract a b = bs ((l.take b).drop a) := by
 have h : lst ((bs l).extract a b) = (l.take b).drop a := by rw [lst_extract]; unfold sub_; rw [lst_bs]
 rw [← h, bs_lst]
theorem tk_ok {l : List UInt8} {n : Nat} (h : n ≤ l.length) : takeR (bs l) 0 n = (bs (l.take n), bs (l.drop n), 0) := by
 rw [take_ok (by rw [bs_size]; omega), bs_ext, bs_ext, bs_size, List.take_length, List.drop_zero]
theorem tk_no {l : List UInt8} {n : Nat} (h : l.length < n) : takeR (bs l) 0 n = (.empty, bs l, 5) := take_short (by rw [bs_size]; exact h)
theorem tk_err (r : ByteArray) (n : Nat) : takeR r 5 n = (.empty, r, 5) := take_err n (by decide)
theorem nu_err (r : ByteArray) (n : Nat) : numR r 5 n = (0, r, 5) := by unfold numR; rw [tk_err]; rfl
theorem n1_ok (a : UInt8) (t : List UInt8) : numR (bs (a :: t)) 0 1 = ((a.toNat : Int), bs t, 0) := by
 unfold numR
 rw [tk_ok (by simp)]
 simp [foldV]
theorem n1_no : numR (bs []) 0 1 = (0, bs [], 5) := by
 unfold numR
 rw [tk_no (by simp)]
 rfl
theorem n2_ok (a b : UInt8) (t : List UInt8) : numR (bs (a :: b :: t)) 0 2 = (256 * (a.toNat : Int) + (b.toNat : Int), bs t, 0) := by
 unfold numR
 rw [tk_ok (by simp)]
 simp [foldV]
theorem n2_no {l : List UInt8} (h : l.length < 2) : numR (bs l) 0 2 = (0, bs l, 5) := by
 unfold numR
 rw [tk_no h]
 rfl
theorem num_bound (r : ByteArray) (e : Int) (n : Nat) (hn : n ≤ 2) : 0 ≤ (numR r e n).1 ∧ (numR r e n).1 ≤ 65535 ∧ (n ≤ 1 → (numR r e n).1 ≤ 255) ∧ (numR r e n).2.1.size ≤ r.size := by
 have hl := take_len r e n
 unfold numR
 generalize takeR r e n = T at *
 obtain ⟨t, x, e'⟩ := T
 dsimp only at hl ⊢
 have hlen : (lst t).length ≤ n := by rw [length_lst]; exact hl.1
 match h : lst t with
 | [] => exact ⟨by decide, by decide, fun _ => by decide, hl.2⟩
 | [a] =>
  have := u8_bd a
  refine ⟨?_, ?_, fun _ => ?_, hl.2⟩ <;> (simp only [foldV, List.foldl]; omega)
 | [a, b] =>
  have := u8_bd a
  have := u8_bd b
  rw [h] at hlen
  simp only [List.length_cons, List.length_nil] at hlen
  refine ⟨?_, ?_, fun _ => by omega, hl.2⟩ <;> (simp only [foldV, List.foldl]; omega)
 | a :: b :: c :: l =>
  rw [h] at hlen
  simp only [List.length_cons] at hlen
  omega
theorem num_e (r : ByteArray) (e : Int) (n : Nat) (h : e = 0 ∨ e = 5) : (numR r e n).2.2 = 0 ∨ (numR r e n).2.2 = 5 := by
 unfold numR takeR
 dsimp only
 rcases h with rfl | rfl
 ·rw [if_pos rfl]
  split
  ·exact .inr rfl
  ·exact .inl rfl
 ·exact .inr rfl
theorem take_e (r : ByteArray) (e : Int) (n : Nat) (h : e = 0 ∨ e = 5) : (takeR r e n).2.2 = 0 ∨ (takeR r e n).2.2 = 5 := num_e r e n h
theorem blk_step (r : ByteArray) (j : Nat) (p : Int) :
  ((numR r 0 2).2.2 = 0 ∧ decBlocks (j + 1) p (lst r) = (decBlocks j (p + secs (numR r 0 2).1) (lst (numR r 0 2).2.1)).map (fun y => (⟨p, (numR r 0 2).1⟩ :: y.1, y.2))) ∨
  ((numR r 0 2).2.2 = 5 ∧ decBlocks (j + 1) p (lst r) = none) := by
 obtain ⟨l, rfl⟩ : ∃ l, r = bs l := ⟨lst r, (bs_lst r).symm⟩
 rw [lst_bs]
 match l with
 | [] => right; rw [n2_no (by simp)]; exact ⟨rfl, rfl⟩
 | [a] => right; rw [n2_no (by simp)]; exact ⟨rfl, rfl⟩
 | a :: b :: t => left; rw [n2_ok, lst_bs]; exact ⟨rfl, rfl⟩
theorem getD_at (l : List UInt8) (m i : Nat) : l.getD (m + i) 0 = (l.drop m).getD i 0 := by
 rw [List.getD_eq_getElem?_getD, List.getD_eq_getElem?_getD, List.getElem?_drop]
theorem ent_step (r : ByteArray) (j m : Nat) (hm : (numR r 0 1).1 = (m : Int)) (x2 : ByteArray × ByteArray × Int) (h2 : x2 = takeR (numR r 0 1).2.1 (numR r 0 1).2.2 m) (x3 x4 x5 : Int × ByteArray × Int) (h3 : x3 = numR x2.2.1 x2.2.2 1) (h4 : x4 = numR x3.2.1 x3.2.2 2) (h5 : x5 = numR x4.2.1 x4.2.2 1) :
  (x5.2.2 = 0 ∧ decEnts (j + 1) (lst r) = (decEnts j (lst x5.2.1)).map (fun y => (⟨x2.1, x3.1, x4.1, x5.1⟩ :: y.1, y.2))) ∨ (x5.2.2 = 5 ∧ decEnts (j + 1) (lst r) = none) := by
 obtain ⟨l, rfl⟩ : ∃ l, r = bs l := ⟨lst r, (bs_lst r).symm⟩
 rw [lst_bs]
 match l with
 | [] =>
  rw [n1_no] at h2
  dsimp only at h2
  rw [tk_err] at h2; subst h2
  dsimp only at h3
  rw [nu_err] at h3; subst h3
  dsimp only at h4
  rw [nu_err] at h4; subst h4
  dsimp only at h5
  rw [nu_err] at h5; subst h5
  exact .inr ⟨rfl, rfl⟩
 | c :: l =>
  rw [n1_ok] at h2 hm
  dsimp only at h2 hm
  obtain rfl : m = c.toNat := by omega
  by_cases hlm : l.length < c.toNat
  ·rw [tk_no hlm] at h2; subst h2
   dsimp only at h3
   rw [nu_err] at h3; subst h3
   dsimp only at h4
   rw [nu_err] at h4; subst h4
   dsimp only at h5
   rw [nu_err] at h5; subst h5
   refine .inr ⟨rfl, ?_⟩
   rw [decEnts, if_pos (by omega)]
  ·rw [tk_ok (by omega)] at h2; subst h2
   dsimp only at h3 ⊢
   have hd : (l.drop c.toNat).length = l.length - c.toNat := List.length_drop
   have g0 := getD_at l c.toNat 0
   have g1 := getD_at l c.toNat 1
   have g2 := getD_at l c.toNat 2
   have g3 := getD_at l c.toNat 3
   have gd : l.drop (c.toNat + 4) = (l.drop c.toNat).drop 4 := by rw [List.drop_drop]
   have ht : entAt c.toNat l = ⟨bs (l.take c.toNat), (l.getD (c.toNat + 0) 0).toNat, 256 * ((l.getD (c.toNat + 1) 0).toNat : Int) + (l.getD (c.toNat + 2) 0).toNat, (l.getD (c.toNat + 3) 0).toNat⟩ := rfl
   generalize l.drop c.toNat = D at *
   match D with
   | [] =>
    rw [n1_no] at h3; subst h3
    dsimp only at h4
    rw [nu_err] at h4; subst h4
    dsimp only at h5
    rw [nu_err] at h5; subst h5
    refine .inr ⟨rfl, ?_⟩
    rw [decEnts, if_pos (by simp at hd; omega)]
   | [b] =>
    rw [n1_ok] at h3; subst h3
    dsimp only at h4
    rw [n2_no (by simp)] at h4; subst h4
    dsimp only at h5
    rw [nu_err] at h5; subst h5
    refine .inr ⟨rfl, ?_⟩
    rw [decEnts, if_pos (by simp at hd; omega)]
   | [b, a1] =>
    rw [n1_ok] at h3; subst h3
    dsimp only at h4
    rw [n2_no (by simp)] at h4; subst h4
    dsimp only at h5
    rw [nu_err] at h5; subst h5
    refine .inr ⟨rfl, ?_⟩
    rw [decEnts, if_pos (by simp at hd; omega)]
   | [b, a1, a2] =>
    rw [n1_ok] at h3; subst h3
    dsimp only at h4
    rw [n2_ok] at h4; subst h4
    dsimp only at h5
    rw [n1_no] at h5; subst h5
    refine .inr ⟨rfl, ?_⟩
    rw [decEnts, if_pos (by simp at hd; omega)]
   | b :: a1 :: a2 :: y :: t =>
    rw [n1_ok] at h3; subst h3
    dsimp only at h4
    rw [n2_ok] at h4; subst h4
    dsimp only at h5
    rw [n1_ok] at h5; subst h5
    refine .inl ⟨rfl, ?_⟩
    rw [decEnts, if_neg (by simp at hd; omega), gd, ht, g0, g1, g2, g3, lst_bs]
    rfl
def MM (bl : List Blk) (o : Option (List Ent × List UInt8)) : Cat × Int := match o with | none => (noCat, 5) | some (es, r) => endCat bl es r
def KK (o : Option (List Blk × List UInt8)) : Cat × Int := match o with | none => (noCat, 5) | some (_, []) => (noCat, 5) | some (bl, k :: r) => MM bl (decEnts k.toNat r)
theorem cat_start (s : ByteArray) : ((numR s 0 1).2.2 = 0 ∧ decCatS s = KK (decBlocks (numR s 0 1).1.toNat 8 (lst (numR s 0 1).2.1))) ∨ ((numR s 0 1).2.2 = 5 ∧ (numR s 0 1).1 = 0 ∧ decCatS s = (noCat, 5)) := by
 obtain ⟨l, rfl⟩ : ∃ l, s = bs l := ⟨lst s, (bs_lst s).symm⟩
 unfold decCatS
 rw [lst_bs]
 match l with
 | [] => right; rw [n1_no]; exact ⟨rfl, rfl, rfl⟩
 | c :: t =>
  left
  rw [n1_ok, lst_bs]
  refine ⟨rfl, ?_⟩
  dsimp only
  unfold decCatL KK MM
  rw [Int.toNat_natCast]
  rfl
theorem cat_mid (bl : List Blk) (r : ByteArray) : ((numR r 0 1).2.2 = 0 ∧ KK (some (bl, lst r)) = MM bl (decEnts (numR r 0 1).1.toNat (lst (numR r 0 1).2.1))) ∨ ((numR r 0 1).2.2 = 5 ∧ (numR r 0 1).1 = 0 ∧ KK (some (bl, lst r)) = (noCat, 5)) := by
 obtain ⟨l, rfl⟩ : ∃ l, r = bs l := ⟨lst r, (bs_lst r).symm⟩
 rw [lst_bs]
 match l with
 | [] => right; rw [n1_no]; exact ⟨rfl, rfl, rfl⟩
 | c :: t =>
  left
  rw [n1_ok, lst_bs]
  refine ⟨rfl, ?_⟩
  dsimp only
  unfold KK
  rw [Int.toNat_natCast]
def BSt (R : Cat × Int) (j : Nat) (p : Int) (bl : List Blk) (r : ByteArray) (e : Int) : Prop := (e = 0 ∧ R = KK ((decBlocks j p (lst r)).map (fun y => (bl ++ y.1, y.2)))) ∨ (e = 5 ∧ R = (noCat, 5))
def ESt (R : Cat × Int) (j : Nat) (bl : List Blk) (es : List Ent) (r : ByteArray) (e : Int) : Prop := (e = 0 ∧ R = MM bl ((decEnts j (lst r)).map (fun y => (es ++ y.1, y.2)))) ∨ (e = 5 ∧ R = (noCat, 5))
theorem BSt.start (s : ByteArray) : BSt (decCatS s) (numR s 0 1).1.toNat 8 [] (numR s 0 1).2.1 (numR s 0 1).2.2 := by
 rcases cat_start s with ⟨h1, h2⟩ | ⟨h1, _, h2⟩
 ·left
  refine ⟨h1, ?_⟩
  rw [h2]
  congr 1
  cases decBlocks (numR s 0 1).1.toNat 8 (lst (numR s 0 1).2.1) <;> rfl
 ·exact .inr ⟨h1, h2⟩
theorem BSt.step {R : Cat × Int} {j : Nat} {p : Int} {bl : List Blk} {r : ByteArray} (h : BSt R (j + 1) p bl r 0) : BSt R j (p + secs (numR r 0 2).1) (bl ++ [⟨p, (numR r 0 2).1⟩]) (numR r 0 2).2.1 (numR r 0 2).2.2 := by
 rcases h with ⟨_, h⟩ | ⟨h0, _⟩
 ·rcases blk_step r j p with ⟨h1, h2⟩ | ⟨h1, h2⟩
  ·left
   refine ⟨h1, ?_⟩
   rw [h, h2, Option.map_map]
   congr 2
   funext y
   simp
  ·right
   refine ⟨h1, ?_⟩
   rw [h, h2]
   rfl
 ·exact absurd h0 (by decide)
theorem BSt.mid {R : Cat × Int} {p : Int} {bl : List Blk} {r : ByteArray} {e : Int} (h : BSt R 0 p bl r e ∨ (e = 5 ∧ R = (noCat, 5))) : ESt R (numR r e 1).1.toNat bl [] (numR r e 1).2.1 (numR r e 1).2.2 ∧ (e = 5 → (numR r e 1).1 = 0) := by
 have key : (e = 0 ∧ R = KK (some (bl, lst r))) ∨ (e = 5 ∧ R = (noCat, 5)) := by
  rcases h with (⟨h1, h2⟩ | h) | h
  ·left
   refine ⟨h1, ?_⟩
   rw [h2]
   simp [decBlocks]
  ·exact .inr h
  ·exact .inr h
 clear h
 rcases key with ⟨rfl, h⟩ | ⟨rfl, h⟩
 ·refine ⟨?_, fun h => absurd h (by decide)⟩
  rcases cat_mid bl r with ⟨h1, h2⟩ | ⟨h1, _, h2⟩
  ·left
   refine ⟨h1, ?_⟩
   rw [h, h2]
   congr 1
   cases decEnts (numR r 0 1).1.toNat (lst (numR r 0 1).2.1) <;> rfl
  ·exact .inr ⟨h1, h.trans h2⟩
 ·rw [nu_err]
  exact ⟨.inr ⟨rfl, h⟩, fun _ => rfl⟩
theorem ESt.step {R : Cat × Int} {j m : Nat} {bl : List Blk} {es : List Ent} {r : ByteArray} (h : ESt R (j + 1) bl es r 0) (hm : (numR r 0 1).1 = (m : Int)) (x2 : ByteArray × ByteArray × Int) (h2 : x2 = takeR (numR r 0 1).2.1 (numR r 0 1).2.2 m) (x3 x4 x5 : Int × ByteArray × Int) (h3 : x3 = numR x2.2.1 x2.2.2 1) (h4 : x4 = numR x3.2.1 x3.2.2 2) (h5 : x5 = numR x4.2.1 x4.2.2 1) :
  ESt R j bl (es ++ [⟨x2.1, x3.1, x4.1, x5.1⟩]) x5.2.1 x5.2.2 := by
 rcases h with ⟨_, h⟩ | ⟨h0, _⟩
 ·rcases ent_step r j m hm x2 h2 x3 x4 x5 h3 h4 h5 with ⟨k1, k2⟩ | ⟨k1, k2⟩
  ·left
   refine ⟨k1, ?_⟩
   rw [h, k2, Option.map_map]
   congr 2
   funext y
   simp
  ·right
   refine ⟨k1, ?_⟩
   rw [h, k2]
   rfl
 ·exact absurd h0 (by decide)
theorem ESt.fin {R : Cat × Int} {bl : List Blk} {es : List Ent} {r : ByteArray} (h : ESt R 0 bl es r 0) : R = endCat bl es (lst r) := by
 rcases h with ⟨_, h⟩ | ⟨h0, _⟩
 ·rw [h]
  simp [decEnts, MM]
 ·exact absurd h0 (by decide)
theorem ESt.bad {R : Cat × Int} {j : Nat} {bl : List Blk} {es : List Ent} {r : ByteArray} (h : ESt R j bl es r 5) : R = (noCat, 5) := by
 rcases h with ⟨h0, _⟩ | ⟨_, h⟩
 ·exact absurd h0 (by decide)
 ·exact h
theorem own_two {w : World} {b b' : Nat} {e e' : TypeId} {z z' n n' : Nat} {v v' : Value} {xs xs' : List Value} (h : w.ownsRow b e z v n xs) (h' : w.ownsRow b' e' z' v' n' xs') (he : e ≠ e') : ∀ g, v.ownBlock = some g → v'.ownBlock ≠ some g := by
 intro g hg hg'
 rcases h.2 with ⟨hv, _⟩ | ⟨g1, cap, cur, hv, _, hg1, _⟩
 ·rw [hv] at hg; cases hg
 ·rcases h'.2 with ⟨hv2, _⟩ | ⟨g2, cap2, cur2, hv2, _, hg2, _⟩
  ·rw [hv2] at hg'; cases hg'
  ·have e1 : g1 = g := by rw [hv] at hg; simpa [Value.ownBlock] using hg
   have e2 : g2 = g := by rw [hv2] at hg'; simpa [Value.ownBlock] using hg'
   subst e1
   rw [e2, hg1] at hg2
   injection hg2 with hg2
   injection hg2 with b1 b2 b3
   exact he b2
def EntOk (x : Ent) : Prop := x.name.size ≤ 140737488355328 ∧ I64 x.block ∧ I64 x.at_ ∧ I64 x.bytes
structure CX (w W : World) (bc base : Nat) (V1 V2 : Value) (bl : List Blk) (es : List Ent) : Prop where
 ext : Ext w W
 low : w.heap.size ≤ bc
 far : bc < base
 cat : Blk_ W bc 88 #[V1, V2]
 o1 : W.ownsRow base 108 2 V1 bl.length (bl.flatMap encBlk)
 o2 : W.ownsRow base 113 4 V2 es.length (es.flatMap encEnt)
 hb : ∀ b ∈ bl, I64 b.first ∧ I64 b.bytes
 he : ∀ x ∈ es, EntOk x
theorem CX.up {w W W' : World} {bc base : Nat} {V1 V2 : Value} {bl : List Blk} {es : List Ent} (h : CX w W bc base V1 V2 bl es) (k : Ext W W') : CX w W' bc base V1 V2 bl es where
 ext := h.ext.trans k
 low := h.low
 far := h.far
 cat := h.cat.ext k
 o1 := own_ext h.o1 k
 o2 := own_ext h.o2 k
 hb := h.hb
 he := h.he
theorem CX.by_ {w W W' : World} {bc base g : Nat} {V1 V2 : Value} {bl : List Blk} {es : List Ent} (h : CX w W bc base V1 V2 bl es) (hg : W.grownBy W' (some g)) (h0 : w.heap.size ≤ g) (h1 : g ≠ bc) (h2 : g < base) : CX w W' bc base V1 V2 bl es where
 ext := h.ext.grown hg (fun k hk => by injection hk; omega)
 low := h.low
 far := h.far
 cat := h.cat.grown hg (fun k hk => by injection hk with hk; omega)
 o1 := own_grown h.o1 hg (fun k hk e => by have := (h.o1.lt k hk).1; injection e; omega)
 o2 := own_grown h.o2 hg (fun k hk e => by have := (h.o2.lt k hk).1; injection e; omega)
 hb := h.hb
 he := h.he
theorem CX.off {w W W' : World} {bc base g : Nat} {V1 V2 : Value} {bl : List Blk} {es : List Ent} (h : CX w W bc base V1 V2 bl es) (hg : W.grownBy W' (some g)) (h0 : w.heap.size ≤ g) (h1 : g ≠ bc) (h2 : V1.ownBlock ≠ some g) (h3 : V2.ownBlock ≠ some g) : CX w W' bc base V1 V2 bl es where
 ext := h.ext.grown hg (fun k hk => by injection hk; omega)
 low := h.low
 far := h.far
 cat := h.cat.grown hg (fun k hk => by injection hk with hk; omega)
 o1 := own_grown h.o1 hg (fun k hk e => h2 (by injection e with e; rw [hk, e]))
 o2 := own_grown h.o2 hg (fun k hk e => h3 (by injection e with e; rw [hk, e]))
 hb := h.hb
 he := h.he
theorem CX.pushB {w W W' : World} {bc base : Nat} {V1 V2 V1' : Value} {bl : List Blk} {es : List Ent} {b : Blk} (h : CX w W bc base V1 V2 bl es) (hg : W.grownBy W' V1.ownBlock) (ho : W'.ownsRow base 108 2 V1' (bl.length + 1) (bl.flatMap encBlk ++ [.int .i64 b.first, .int .i64 b.bytes]))
  (h1 : I64 b.first) (h2 : I64 b.bytes) : CX w (W'.setCell ⟨bc, 0, none⟩ V1') bc base V1' V2 (bl ++ [b]) es where
 ext := (h.ext.grown hg (fun k hk => by have := (h.o1.lt k hk).1; have := h.low; have := h.far; omega)).setCell h.low _
 low := h.low
 far := h.far
 cat := (h.cat.grown hg (fun k hk => by have := (h.o1.lt k hk).1; have := h.far; omega)).set 0 V1'
 o1 := by
  refine ownsRow_setCell_below ?_ h.far V1'
  rw [List.length_append, List.flatMap_append]
  exact ho
 o2 := ownsRow_setCell_below (own_grown h.o2 hg (fun k hk => own_two h.o2 h.o1 (by decide) k hk)) h.far V1'
 hb := fun x hx => by
  rcases List.mem_append.1 hx with hx | hx
  ·exact h.hb x hx
  ·obtain rfl := List.mem_singleton.1 hx; exact ⟨h1, h2⟩
 he := h.he
theorem CX.pushE {w W W' : World} {bc base : Nat} {V1 V2 V2' : Value} {bl : List Blk} {es : List Ent} {x : Ent} (h : CX w W bc base V1 V2 bl es) (hg : W.grownBy W' V2.ownBlock) (ho : W'.ownsRow base 113 4 V2' (es.length + 1) (es.flatMap encEnt ++ [.string x.name, .int .i64 x.block, .int .i64 x.at_, .int .i64 x.bytes]))
  (hx : EntOk x) : CX w (W'.setCell ⟨bc, 1, none⟩ V2') bc base V1 V2' bl (es ++ [x]) where
 ext := (h.ext.grown hg (fun k hk => by have := (h.o2.lt k hk).1; have := h.low; have := h.far; omega)).setCell h.low _
 low := h.low
 far := h.far
 cat := (h.cat.grown hg (fun k hk => by have := (h.o2.lt k hk).1; have := h.far; omega)).set 1 V2'
 o1 := ownsRow_setCell_below (own_grown h.o1 hg (fun k hk => own_two h.o1 h.o2 (by decide) k hk)) h.far V2'
 o2 := by
  refine ownsRow_setCell_below ?_ h.far V2'
  rw [List.length_append, List.flatMap_append]
  exact ho
 hb := h.hb
 he := fun y hy => by
  rcases List.mem_append.1 hy with hy | hy
  ·exact h.he y hy
  ·obtain rfl := List.mem_singleton.1 hy; exact hx
theorem CX.rcat {w W : World} {bc base : Nat} {V1 V2 : Value} {bl : List Blk} {es : List Ent} (h : CX w W bc base V1 V2 bl es) (h1 : bl.length ≤ 1000) (h2 : es.length ≤ 1000) : RCat W [V1, V2] ⟨bl, es⟩ :=
 ⟨V1, V2, rfl, SlR.of_own encBlk_ok h.o1 (by show bl.length * 16 ≤ _; omega) (fun b hb => ⟨rfl, h.hb b hb⟩), SlR.of_own encEnt_ok h.o2 (by show es.length * 40 ≤ _; omega) (fun x hx => ⟨rfl, h.he x hx⟩)⟩
end Go.Proofs.YtgjijcgkmofaaaaGreatDoor
