/-
  sector.Decode and the document's PayloadOf: the payload of a sector, or why there is none; the law SectorDecodes. Conditions: the text is no longer than a text may be.
-/
import Derived.Test.YtokpjgpdkmimgaaWSeal
import Derived.Test.YtokpjgpdkmimgaaM
import Derived.Laws.BitsAllLaws
import Derived.Laws.Bits128
namespace Go.Proofs.Ytokpjgpdkmimgaa
set_option linter.unusedSimpArgs false
set_option linter.unusedVariables false
open Go.RowKit

/-- The number that stands ahead. -/
def sectorNo (s : ByteArray) (h : 2 ≤ s.size) : Int := (256 : Int) * ((s[0]'(by omega)).toNat : Int) + ((s[1]'(by omega)).toNat : Int)
def decodeS (no : Int) (s : ByteArray) : ByteArray × Int :=
  if h : s.size = 30 then
    if (bs (sealOf (lst (s.extract 0 26)))).toList == (s.extract 26 s.size).toList then (if sectorNo s (by omega) = no then (s.extract 2 26, 0) else (.empty, 4)) else (.empty, 10)
  else (.empty, 1)

theorem sector_bits (a b : Nat) (ha : a < 256) (hb : b < 256) : bits .or .i64 ((a : Int) * 256) (b : Int) = 256 * (a : Int) + (b : Int) := by
  have e : ((a : Int) * 256) = ((a * 256 : Nat) : Int) := by omega
  show IntKind.i64.wrap ((BitVec.ofInt 64 ((a : Int) * 256) ||| BitVec.ofInt 64 (b : Int)).toNat : Int) = _
  rw [BitVec.toNat_or, e, ofInt_u64 _ (by omega), ofInt_u64 _ (by omega), nat_join 8 _ _ (by omega) (by omega), IntKind.wrap_i64]
  omega

set_option maxRecDepth 100000 in
set_option maxHeartbeats 400000 in
theorem decode_any (no : Int) (s : ByteArray) (w : World) (hs : s.size ≤ 140737488355328) (hn : I64 no) :
    Calls Try.prog 56 #[.int .i64 no, .string s] w fun e w' => e = .returned (.tuple #[.string (decodeS no s).1, .int .i64 (decodeS no s).2]) ∧ Ext w w' := by
  by_cases h30 : s.size = 30
  · have b1 : 30 ≤ s.size := by omega
    have b2 : s.size ≤ 30 := by omega
    have h30' : ((s.size : Int) != 30) = false := by simp; omega
    have H30 := Lib.hid h30
    have hsz : (s.extract 0 26).size ≤ 140737488355328 := by simp; omega
    have HZ := Lib.hid hsz
    have i1 : (26 : Int) ≤ (s.size : Int) := by omega
    have i2 : (0 : Int) < (s.size : Int) := by omega
    have i3 : (1 : Int) < (s.size : Int) := by omega
    have i4 : 0 < s.size := by omega
    have i5 : 1 < s.size := by omega
    clear h30 hsz hs
    cases hseal : ((bs (sealOf (lst (s.extract 0 26)))).toList == (s.extract 26 s.size).toList) with
    | false =>
      have hfin : decodeS no s = (.empty, 10) := by unfold decodeS; rw [dif_pos H30.out, hseal]; rfl
      have HF := Lib.hid hfin
      clear hfin
      go_enter Try.func56, Try.ntmps56
      go_wp2
      go_region_held3 (fun _ => True) (trivial) (first | (go_at_call 11; refine (sumOf_any _ _ HZ.out).mono ?_; rintro _ w1 ⟨rfl, f1⟩))
      go_wp2
      go_ret2
      rw [HF.out]
      exact ⟨rfl, (Ext.refl w).drew.trans f1⟩
    | true =>
      have c0 := u8_hi (s[0]'(by omega))
      have c1 := u8_hi (s[1]'(by omega))
      have hdef : decodeS no s = (if sectorNo s (by omega) = no then (s.extract 2 26, 0) else (.empty, 4)) := by unfold decodeS; rw [dif_pos H30.out, hseal]; rfl
      have HD := Lib.hid hdef
      clear hdef
      go_enter Try.func56, Try.ntmps56
      go_wp2
      go_region_held3 (fun _ => True) (trivial) (first | (go_at_call 11; refine (sumOf_any _ _ HZ.out).mono ?_; rintro _ w1 ⟨rfl, f1⟩))
      go_wp2
      go_quiet (fail)
      have hbits := sector_bits (s[0]'i4).toNat (s[1]'i5).toNat (UInt8.toNat_lt _) (UInt8.toNat_lt _)
      have HB := Lib.hid hbits
      clear hbits
      go_wp2
      · go_ret2
        rename_i hno
        have hno' : sectorNo s (by omega) ≠ no := by unfold sectorNo; rw [← HB.out]; simpa using hno
        rw [HD.out, if_neg hno']
        exact ⟨rfl, ((Ext.refl w).drew.trans f1).drewN _⟩
      · go_ret2
        rename_i hno
        have hno' : sectorNo s (by omega) = no := by unfold sectorNo; rw [← HB.out]; simpa using hno
        rw [HD.out, if_pos hno']
        exact ⟨rfl, ((Ext.refl w).drew.trans f1).drewN _⟩
  · have h30' : ((s.size : Int) != 30) = true := by simp; omega
    have hfin : decodeS no s = (.empty, 1) := by unfold decodeS; rw [dif_neg h30]
    rw [hfin]
    clear hfin h30
    go_enter Try.func56, Try.ntmps56
    go_wp2
    go_ret2
    exact ⟨rfl, Ext.refl _⟩
end Go.Proofs.Ytokpjgpdkmimgaa
