/-
  An array that is written stays one that may be, of as many sectors; streams of writes. In plain Lean. Conditions: none.
-/
import Derived.Test.YtdogkekeccbpnaaPArr3
namespace Go.Proofs.Ytdogkekeccbpnaa
set_option linter.unusedSimpArgs false
set_option linter.unusedVariables false
open Go.RowKit

theorem Good.may {a : List Dev} {m : Nat} (h : Good a m) (h1 : 16 ≤ m) (h2 : m % 2 = 0) : arrMay a = true :=
  arr_made h.len h.m0 h.m1 h.m2 (by rw [h.l0]; exact h1) (by rw [h.l0]; exact h2) (by rw [h.l1, h.l0]) (by rw [h.l2, h.l0])
theorem Good.third {a : List Dev} {m : Nat} (h : Good a m) {d : Dev} (hd : devMay d = true) (hl : d.sec.length = m / 2) : Good (a.set 2 d) m := by
  refine ⟨by simp [h.len], ?_, ?_, ?_, ?_, ?_, ?_⟩
  · rw [dv_set_ne _ (by decide)]; exact h.m0
  · rw [dv_set_ne _ (by decide)]; exact h.m1
  · rw [dv_set_self (by rw [h.len]; decide)]; exact hd
  · rw [dv_set_ne _ (by decide)]; exact h.l0
  · rw [dv_set_ne _ (by decide)]; exact h.l1
  · rw [dv_set_self (by rw [h.len]; decide)]; exact hl
theorem Good.parity {a : List Dev} {m : Nat} (h : Good a m) {n : Int} (h0 : 0 ≤ n) (h1 : n < m) (hm : m ≤ 64) (h2 : m % 2 = 0) : Good (parityS a n) m := by
  have ht : touchCode (dv a 2) (n / 2) = 0 := touch_iff.2 ⟨h.m2, by omega, by rw [h.l2]; omega⟩
  unfold parityS
  split
  · rename_i hc
    have hx : (xorS (mirrorS a n).1 (mirrorS a (partner n)).1).size ≤ 24 := by
      rw [xorS_size (by rw [mirrorS_size hc.1, mirrorS_size hc.2]), mirrorS_size hc.1]
      exact Nat.le_refl _
    have hw := write_may (no := 512 + n / 2) (s := xorS (mirrorS a n).1 (mirrorS a (partner n)).1) ht (by omega) (by omega) hx
    exact h.third hw.1 (by show (writeP a n _).sec.length = _; unfold writeP; rw [hw.2, h.l2])
  · exact h.third (lose_may ht) (by rw [lose_len ht, h.l2])
theorem Good.written {a : List Dev} {m : Nat} (h : Good a m) {n : Int} {s : ByteArray} (ht : arrTouch a n = 0) (hs : s.size ≤ 24) (hm : (dv a 0).sec.length = m) : Good (arrWrite3 a n s) m := by
  obtain ⟨hmay, h0, h1⟩ := arrTouch_zero.1 ht
  obtain ⟨_, _, _, _, g1, g2, g3, _, _⟩ := arr_parts hmay
  obtain ⟨p1, p2, p3, p4, p5, p6, p7, p8, p9, p10⟩ := partner_range ht
  have hpm := (arrTouch_zero.1 p1).2.2
  subst hm
  unfold arrWrite3 savedS
  split
  · rename_i hc
    have hr : (arrReadS a (partner n)).1.size ≤ 24 := by rw [arrReadS_size hc.1]; exact Nat.le_refl _
    exact ((h.both p6 hpm g2 hr).both h0 h1 g2 hs).parity h0 h1 g2 g3
  · exact (h.both h0 h1 g2 hs).parity h0 h1 g2 g3
/-- What a write in range does. -/
theorem write_step {a : List Dev} {m : Nat} (h : Good a m) (h16 : 16 ≤ m) (h64 : m ≤ 64) (h2 : m % 2 = 0) {n : Int} {s : ByteArray} (n0 : 0 ≤ n) (n1 : n < m) (hs : s.size ≤ 24) :
    arrWriteS a n s = (arrWrite3 a n s, 0) ∧ Good (arrWrite3 a n s) m := by
  have ht : arrTouch a n = 0 := arrTouch_zero.2 ⟨h.may h16 h2, n0, by rw [h.l0]; exact n1⟩
  refine ⟨?_, h.written ht hs h.l0⟩
  unfold arrWriteS
  rw [if_neg (by simpa using ht), if_neg (by omega)]
def chunk (s : ByteArray) (i : Nat) : ByteArray := s.extract (24 * i) (min (24 * i + 24) s.size)
theorem chunk_size (s : ByteArray) (i : Nat) : (chunk s i).size ≤ 24 := by unfold chunk; rw [ByteArray.size_extract]; omega
theorem swl_succ (m i : Nat) (a : List Dev) (first : Int) (s : ByteArray) : streamWriteLoop (m + 1) i a first s = streamWriteLoop m (i + 1) (arrWriteS a (first + i) (chunk s i)).1 first s := rfl
theorem sw_bad {a : List Dev} {first : Int} {s : ByteArray} (h : streamFaultS a first s.size ≠ 0) : streamWriteS a first s = ([], streamFaultS a first s.size) := by unfold streamWriteS; rw [if_pos h]
theorem sw_good {a : List Dev} {first : Int} {s : ByteArray} (h : streamFaultS a first s.size = 0) : streamWriteS a first s = (streamWriteLoop ((s.size + 23) / 24) 0 a first s, 0) := by unfold streamWriteS; rw [if_neg (by simpa using h)]
end Go.Proofs.Ytdogkekeccbpnaa
