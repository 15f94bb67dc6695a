/-
  The catalog's reader: so many bytes, and the number of one byte or two. Conditions: the reader's box stands in memory.
-/
import Derived.Test.YtokpjgpdkmimgaaDoorH
import Derived.Test.YtokpjgpdkmimgaaDoorWDecode
import Derived.Test.YtokpjgpdkmimgaaDoorB
import Derived.Test.YtokpjgpdkmimgaaDoorPTell
namespace Go.Proofs.YtokpjgpdkmimgaaDoor
set_option linter.unusedSimpArgs false
set_option linter.unusedVariables false
open Go.RowKit

def takeR (r : ByteArray) (e : Int) (n : Nat) : ByteArray × ByteArray × Int := if e = 0 then (if r.size < n then (.empty, r, 5) else (r.extract 0 n, r.extract n r.size, 0)) else (.empty, r, e)
def foldV (l : List UInt8) : Int := l.foldl (fun a c => 256 * a + (c.toNat : Int)) 0
def numR (r : ByteArray) (e : Int) (n : Nat) : Int × ByteArray × Int := (foldV (lst (takeR r e n).1), (takeR r e n).2.1, (takeR r e n).2.2)
theorem take_err {r : ByteArray} {e : Int} (n : Nat) (h : ¬ e = 0) : takeR r e n = (.empty, r, e) := by unfold takeR; rw [if_neg h]
theorem take_short {r : ByteArray} {n : Nat} (h : r.size < n) : takeR r 0 n = (.empty, r, 5) := by unfold takeR; rw [if_pos rfl, if_pos h]
theorem take_ok {r : ByteArray} {n : Nat} (h : ¬ r.size < n) : takeR r 0 n = (r.extract 0 n, r.extract n r.size, 0) := by unfold takeR; rw [if_pos rfl, if_neg h]
theorem take_len (r : ByteArray) (e : Int) (n : Nat) : (takeR r e n).1.size ≤ n ∧ (takeR r e n).2.1.size ≤ r.size := by
  unfold takeR
  split
  · split
    · exact ⟨Nat.zero_le _, Nat.le_refl _⟩
    · refine ⟨?_, ?_⟩
      · show (r.extract 0 n).size ≤ n
        rw [ByteArray.size_extract]; omega
      · show (r.extract n r.size).size ≤ r.size
        rw [ByteArray.size_extract]; omega
  · exact ⟨Nat.zero_le _, Nat.le_refl _⟩
theorem grownBy_trans {a b c : World} {row : Option Nat} (h : a.grownBy b row) (k : b.grownBy c row) : a.grownBy c row :=
  ⟨k.os.trans h.os, k.tape.trans h.tape, k.output.trans h.output, Nat.le_trans h.size k.size, fun i hi hne => (k.block i (Nat.lt_of_lt_of_le hi h.size) hne).trans (h.block i hi hne)⟩
theorem grownBy_refl (w : World) (row : Option Nat) : w.grownBy w row := (Ext.refl w).by_ row
set_option maxRecDepth 100000 in
set_option maxHeartbeats 1000000 in
theorem take_any (w : World) (br : Nat) (r : ByteArray) (e : Int) (n : Nat) (h : Blk_ w br 83 #[.string r, .int .i64 e]) (hr : r.size ≤ 140737488355328) (hn : n ≤ 255) :
    Calls Tryd.prog 47 #[.pointer (some ⟨br, 0, none⟩), .int .i64 n] w fun en w' => en = .returned (.string (takeR r e n).1) ∧ w.grownBy w' (some br) ∧ Blk_ w' br 83 #[.string (takeR r e n).2.1, .int .i64 (takeR r e n).2.2] := by
  have f0 := h.cell 0
  have f1 := h.cell 1
  have z0 := h.frozen 0
  have z1 := h.frozen 1
  simp at f0 f1
  have HB := Lib.hid h
  have hrI : (r.size : Int) ≤ 140737488355328 := by omega
  have hnI : (n : Int) ≤ 255 := by omega
  have hn0 : (0 : Int) ≤ (n : Int) := by omega
  clear h
  by_cases he : e = 0
  · subst he
    by_cases hs : r.size < n
    · have HT := Lib.hid (take_short hs)
      rw [HT.out]
      have hsI : (r.size : Int) < (n : Int) := by omega
      have hst : decide ((r.size : Int) < (n : Int)) = true := decide_eq_true hsI
      have HB2 := Lib.hid (HB.out.set 1 (.int .i64 5))
      go_enter Tryd.func47, Tryd.ntmps47
      go_wp2_with fail
      go_ret
      exact ⟨rfl, setRow_by w br 1 _, HB2.out⟩
    · have HT := Lib.hid (take_ok hs)
      rw [HT.out]
      have hsI : (n : Int) ≤ (r.size : Int) := by omega
      have hst : decide ((r.size : Int) < (n : Int)) = false := decide_eq_false (by omega)
      have hsn : n ≤ r.size := by omega
      obtain ⟨q, hq⟩ : ∃ q, q = r.extract 0 n := ⟨_, rfl⟩
      obtain ⟨x, hx⟩ : ∃ x, x = r.extract n r.size := ⟨_, rfl⟩
      rw [← hq, ← hx]
      have HQ := Lib.hid (And.intro hq hx)
      have HB2 := Lib.hid (HB.out.set 0 (.string x))
      clear hq hx hs
      go_enter Tryd.func47, Tryd.ntmps47
      go_wp2_with fail
      go_ret
      rw [← HQ.out.1, ← HQ.out.2]
      exact ⟨rfl, setRow_by w br 0 _, HB2.out⟩
  · have HT := Lib.hid (take_err (r := r) n he)
    rw [HT.out]
    have he1 : (e == 0) = false := beq_false_of_ne he
    have he2 : (e != 0) = true := by simp [bne, he1]
    clear he
    go_enter Tryd.func47, Tryd.ntmps47
    go_wp2_with fail
    go_ret
    exact ⟨rfl, grownBy_refl w _, HB.out⟩
theorem foldV_snoc (l : List UInt8) (c : UInt8) : foldV (l ++ [c]) = 256 * foldV l + (c.toNat : Int) := by simp [foldV]
theorem foldV_nil : foldV [] = 0 := rfl
set_option maxRecDepth 100000 in
set_option maxHeartbeats 1000000 in
theorem number_any (w : World) (br : Nat) (r : ByteArray) (e : Int) (n : Nat) (h : Blk_ w br 83 #[.string r, .int .i64 e]) (hr : r.size ≤ 140737488355328) (hn : n ≤ 2) :
    Calls Tryd.prog 46 #[.pointer (some ⟨br, 0, none⟩), .int .i64 n] w fun en w' => en = .returned (.int .i64 (numR r e n).1) ∧ w.grownBy w' (some br) ∧ Blk_ w' br 83 #[.string (numR r e n).2.1, .int .i64 (numR r e n).2.2] := by
  unfold numR
  have HB := Lib.hid h
  clear h
  go_enter Tryd.func46, Tryd.ntmps46
  go_wp2_with fail
  refine (take_any w br r e n HB.out hr (by omega)).mono ?_
  rintro en w1 ⟨rfl, hg, hb⟩
  have hsz := (take_len r e n).1
  obtain ⟨T, hT⟩ : ∃ T, T = takeR r e n := ⟨_, rfl⟩
  rw [← hT] at hb hsz ⊢
  obtain ⟨t, x, e'⟩ := T
  dsimp only at hb hsz ⊢
  have HG := Lib.hid hg
  have HB1 := Lib.hid hb
  have HT := Lib.hid hT
  have ht2 : t.size ≤ 2 := by omega
  have ht2I : (t.size : Int) ≤ 2 := by omega
  clear hT hg hb hsz
  go_wp2_with (refine wpList_tobytes (.tmp 10) 9 34 5 rfl rfl Tryd.underlying9 Tryd.underlying34 Tryd.underlying5 t rfl ?_)
  intro gb cap w2 hgb e2 hbuf hcap
  have HG2 := Lib.hid (grownBy_trans HG.out (e2.by_ (some br)))
  have HB2 := Lib.hid (HB1.out.ext e2)
  have HBF := Lib.hid hbuf
  clear hgb e2 hbuf hcap
  go_wp2_with fail
  go_loop [5, 13] (fun nv iv => ∃ i : Nat, nv = .int .i64 (foldV ((lst t).take i)) ∧ iv = .int .i64 i ∧ i ≤ t.size) (fun _ iv => t.size - (intOf iv).toNat)
  case atStart => exact ⟨0, rfl, rfl, Nat.zero_le _⟩
  case round =>
    obtain ⟨i, rfl, rfl, hi⟩ := hrel
    by_cases hlt : i < t.size
    · have hil : i < (lst t).length := by rw [length_lst]; exact hlt
      have bp := HBF.out.cell i hil
      obtain ⟨c, hc⟩ : ∃ c, c = (lst t).getD i 0 := ⟨_, rfl⟩
      rw [← hc] at bp
      have hcb := u8_hi c
      have hst : foldV ((lst t).take (i + 1)) = 256 * foldV ((lst t).take i) + (c.toNat : Int) := by
        rw [← foldV_snoc]
        congr 1
        rw [List.take_succ_eq_append_getElem hil, hc, List.getD_eq_getElem?_getD, List.getElem?_eq_getElem hil]
        rfl
      have hv : ∃ a : Nat, a < 256 ∧ foldV ((lst t).take i) = (a : Int) := by
        match i with
        | 0 => exact ⟨0, by omega, rfl⟩
        | 1 =>
          refine ⟨((lst t).getD 0 0).toNat, UInt8.toNat_lt _, ?_⟩
          rw [show (1 : Nat) = 0 + 1 from rfl, List.take_succ_eq_append_getElem (by omega)]
          simp [foldV, List.getD_eq_getElem?_getD, List.getElem?_eq_getElem (show 0 < (lst t).length by omega)]
        | j + 2 => omega
      obtain ⟨a, ha, hv⟩ := hv
      rw [hv] at hst ⊢
      have hbits := sector_bits a c.toNat ha (by omega)
      have haI : (a : Int) < 256 := by omega
      have hwr : IntKind.i64.wrap ((a : Int) * 256) = (a : Int) * 256 := by rw [IntKind.wrap_i64]; omega
      have HST := Lib.hid hst
      have hltI : (i : Int) < (t.size : Int) := by omega
      have hi2 : (i : Int) < 2 := by omega
      clear hst hc hv
      go_wp2_with fail
      go_round
      case rel => exact ⟨i + 1, by rw [HST.out], by go_num, by omega⟩
      case measure => simp [intOf]; omega
    · have HF := Lib.hid (show foldV ((lst t).take i) = foldV (lst t) by rw [List.take_of_length_le (by rw [length_lst]; omega)])
      have hge : ¬ (i : Int) < (t.size : Int) := by omega
      obtain ⟨v, hv⟩ : ∃ v, v = foldV (lst t) := ⟨_, rfl⟩
      have HV := Lib.hid hv
      rw [HF.out, ← hv]
      clear hv HF
      go_wp2_with fail
      go_ret
      rw [← HT.out]
      exact ⟨by rw [HV.out]; rfl, HG2.out, HB2.out⟩
end Go.Proofs.YtokpjgpdkmimgaaDoor
