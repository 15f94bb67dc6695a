/-
  Arrays in plain Lean: writing a sector, replacing a device, bad copies, healing; both ways of writing the parity are one. Conditions: none.
-/
import Derived.Test.YtokpjgpdkmimgaaPDev
namespace Go.Proofs.Ytokpjgpdkmimgaa
set_option linter.unusedSimpArgs false
set_option linter.unusedVariables false
open Go.RowKit

def writeP (a : List Dev) (n : Int) (s : ByteArray) : Dev := (writeS (dv a 2) (n / 2) (512 + n / 2) s).1
def parityS (a : List Dev) (n : Int) : List Dev :=
  if (mirrorS a n).2 ≠ 0 ∧ (mirrorS a (partner n)).2 ≠ 0 then a.set 2 (writeP a n (xorS (mirrorS a n).1 (mirrorS a (partner n)).1)) else a.set 2 (loseS (dv a 2) (n / 2))
/-- The other one of the two is written first, where the parity alone tells it. -/
def savedS (a : List Dev) (n : Int) : List Dev := if (arrReadS a (partner n)).2.2 = 0 ∧ (arrReadS a (partner n)).2.1 = 3 then bothS a (partner n) (arrReadS a (partner n)).1 else a
def arrWrite3 (a : List Dev) (n : Int) (s : ByteArray) : List Dev := parityS (bothS (savedS a n) n s) n
def arrWriteS (a : List Dev) (n : Int) (s : ByteArray) : List Dev × Int :=
  if arrTouch a n ≠ 0 then ([], arrTouch a n) else if 24 < s.size then ([], 1) else (arrWrite3 a n s, 0)
def lostDev (d : Dev) : Dev := ⟨d.sec, List.replicate d.lost.length true⟩
def replaceS (a : List Dev) (d : Int) : List Dev × Int :=
  if !arrMay a then ([], 9) else if !inB d 0 2 then ([], 2) else (a.set d.toNat (lostDev (if d = 2 then freshDev ((dv a 0).sec.length / 2) 512 else freshDev (dv a 0).sec.length 0)), 0)
def parRightS (a : List Dev) (n : Int) : Bool × Bool :=
  if (arrReadS a n).2.2 ≠ 0 ∨ (arrReadS a (partner n)).2.2 ≠ 0 then (false, false)
  else (decide ((parS a n).2 = 0) && decide (lst (parS a n).1 = lst (xorS (arrReadS a n).1 (arrReadS a (partner n)).1)), true)
def b2i (b : Bool) : Int := if b then 1 else 0
def badS (a : List Dev) (n : Int) : Int × Int :=
  if arrTouch a n ≠ 0 then (0, arrTouch a n)
  else (b2i (decide ((readS (dv a 0) n n).2 ≠ 0)) + b2i (decide ((readS (dv a 1) n n).2 ≠ 0)) + b2i (decide (n % 2 = 0) && !(parRightS a n).1), 0)
def healOne (a : List Dev) (k : Nat) (n : Int) (s : ByteArray) (how : Int) : List Dev × Int :=
  if (readS (dv a k) n n).2 = 0 ∧ (lst (readS (dv a k) n n).1 = lst s ∨ how ≠ 1) then (a, 0) else (a.set k (writeS (dv a k) n n s).1, 1)
def healPar (a : List Dev) (n : Int) (s : ByteArray) : List Dev × Int :=
  if (parRightS a n).2 = true ∧ (parRightS a n).1 = false then (a.set 2 (writeP a n (xorS s (arrReadS a (partner n)).1)), 1) else (a, 0)
def healS (a : List Dev) (n : Int) : List Dev × Int × Int :=
  if (arrReadS a n).2.2 ≠ 0 then ([], 0, (arrReadS a n).2.2)
  else
    let r := arrReadS a n
    let x := healOne a 0 n r.1 r.2.1
    let y := healOne x.1 1 n r.1 r.2.1
    let z := healPar y.1 n r.1
    (z.1, x.2 + y.2 + z.2, 0)
def healthLoop (a : List Dev) : Nat → Nat → Int → List Int → Int × List Int
  | 0, _, bad, gone => (bad, gone)
  | m + 1, k, bad, gone => healthLoop a m (k + 1) (bad + (badS a k).1) (if (arrReadS a k).2.2 ≠ 0 then gone ++ [(k : Int)] else gone)
def healthS (a : List Dev) : Int × List Int × Int :=
  if !arrMay a then (0, [], 9) else ((healthLoop a (dv a 0).sec.length 0 0 []).1, (healthLoop a (dv a 0).sec.length 0 0 []).2, 0)
/-- Streams. -/
def streamFaultS (a : List Dev) (first n : Int) : Int :=
  if !arrMay a then 9 else if !inB n 0 1536 then 1 else if !inB first 0 (dv a 0).sec.length || decide (((dv a 0).sec.length : Int) < first + (n + 23) / 24) then 2 else 0
def streamReadLoop (a : List Dev) : Nat → Int → ByteArray → ByteArray × Int
  | 0, _, s => (s, 0)
  | m + 1, k, s => if (arrReadS a k).2.2 ≠ 0 then (.empty, (arrReadS a k).2.2) else streamReadLoop a m (k + 1) (s ++ (arrReadS a k).1)
def streamReadS (a : List Dev) (first n : Int) : ByteArray × Int :=
  if streamFaultS a first n ≠ 0 then (.empty, streamFaultS a first n)
  else if (streamReadLoop a ((n + 23) / 24).toNat first .empty).2 ≠ 0 then (.empty, (streamReadLoop a ((n + 23) / 24).toNat first .empty).2)
  else ((streamReadLoop a ((n + 23) / 24).toNat first .empty).1.extract 0 n.toNat, 0)
def streamWriteLoop : Nat → Nat → List Dev → Int → ByteArray → List Dev
  | 0, _, a, _, _ => a
  | m + 1, i, a, first, s => streamWriteLoop m (i + 1) (arrWriteS a (first + i) (s.extract (24 * i) (min (24 * i + 24) s.size))).1 first s
def streamWriteS (a : List Dev) (first : Int) (s : ByteArray) : List Dev × Int :=
  if streamFaultS a first s.size ≠ 0 then ([], streamFaultS a first s.size) else (streamWriteLoop ((s.size + 23) / 24) 0 a first s, 0)

/-! An array that may be. -/
theorem arr_three {a : List Dev} (h : arrMay a = true) : ∃ d0 d1 d2, a = [d0, d1, d2] := by
  by_cases h3 : a.length = 3
  · exact three h3
  · rw [arrMay_len h3] at h; cases h
theorem arr_parts {a : List Dev} (h : arrMay a = true) : a.length = 3 ∧ devMay (dv a 0) = true ∧ devMay (dv a 1) = true ∧ devMay (dv a 2) = true ∧ 16 ≤ (dv a 0).sec.length ∧ (dv a 0).sec.length ≤ 64 ∧ (dv a 0).sec.length % 2 = 0 ∧
    (dv a 1).sec.length = (dv a 0).sec.length ∧ (dv a 2).sec.length = (dv a 0).sec.length / 2 := by
  obtain ⟨d0, d1, d2, rfl⟩ := arr_three h
  have h3 : [d0, d1, d2].length = 3 := rfl
  rw [arrMay_eq h3] at h
  simp only [Bool.and_eq_true, decide_eq_true_eq, List.getElem_cons_zero, List.getElem_cons_succ] at h
  obtain ⟨⟨⟨⟨⟨⟨g0, g1⟩, g2⟩, g3⟩, g4⟩, g5⟩, g6⟩ := h
  have := (devMay_len g0).2.1
  exact ⟨rfl, g0, g1, g2, g3, this, g4, g5, g6⟩
theorem arr_made {a : List Dev} (h3 : a.length = 3) (h0 : devMay (dv a 0) = true) (h1 : devMay (dv a 1) = true) (h2 : devMay (dv a 2) = true) (g1 : 16 ≤ (dv a 0).sec.length) (g2 : (dv a 0).sec.length % 2 = 0)
    (g3 : (dv a 1).sec.length = (dv a 0).sec.length) (g4 : (dv a 2).sec.length = (dv a 0).sec.length / 2) : arrMay a = true := by
  obtain ⟨d0, d1, d2, rfl⟩ := three h3
  rw [arrMay_eq h3]
  simp only [Bool.and_eq_true, decide_eq_true_eq, List.getElem_cons_zero, List.getElem_cons_succ]
  exact ⟨⟨⟨⟨⟨⟨h0, h1⟩, h2⟩, g1⟩, g2⟩, g3⟩, g4⟩
theorem arrTouch_zero {a : List Dev} {n : Int} : arrTouch a n = 0 ↔ arrMay a = true ∧ 0 ≤ n ∧ n < (dv a 0).sec.length := by
  unfold arrTouch
  constructor
  · intro h
    split at h
    · rename_i h1
      split at h
      · rename_i h2; have := inB_true h2; exact ⟨h1, this.1, by omega⟩
      · exact absurd h (by decide)
    · exact absurd h (by decide)
  · rintro ⟨h1, h2, h3⟩
    rw [if_pos h1, if_pos (by simp [inB]; omega)]
theorem partner_range {a : List Dev} {n : Int} (h : arrTouch a n = 0) : arrTouch a (partner n) = 0 ∧ 0 ≤ n / 2 ∧ n / 2 < (dv a 2).sec.length ∧ partner n ≠ n ∧ partner n / 2 = n / 2 ∧ 0 ≤ partner n ∧ partner n ≤ 63 ∧ 0 ≤ n ∧ n ≤ 63 ∧ partner (partner n) = n := by
  obtain ⟨hm, h0, h1⟩ := arrTouch_zero.1 h
  obtain ⟨_, _, _, _, g1, g2, g3, g4, g5⟩ := arr_parts hm
  have hp : partner n = n + 1 ∨ partner n = n - 1 := by unfold partner; split <;> omega
  have hr : 0 ≤ partner n ∧ partner n < (dv a 0).sec.length ∧ partner n ≠ n ∧ partner n / 2 = n / 2 := by unfold partner; split <;> omega
  refine ⟨arrTouch_zero.2 ⟨hm, hr.1, hr.2.1⟩, by omega, by omega, hr.2.2.1, hr.2.2.2, hr.1, by omega, h0, by omega, ?_⟩
  unfold partner
  split <;> split <;> omega
theorem arr_touches {a : List Dev} {n : Int} (h : arrTouch a n = 0) : touchCode (dv a 0) n = 0 ∧ touchCode (dv a 1) n = 0 ∧ touchCode (dv a 2) (n / 2) = 0 := by
  obtain ⟨hm, h0, h1⟩ := arrTouch_zero.1 h
  obtain ⟨_, m0, m1, m2, g1, g2, g3, g4, g5⟩ := arr_parts hm
  exact ⟨touch_iff.2 ⟨m0, h0, h1⟩, touch_iff.2 ⟨m1, h0, by omega⟩, touch_iff.2 ⟨m2, by omega, by omega⟩⟩
theorem dv_set_self {a : List Dev} {k : Nat} (h : k < a.length) (d : Dev) : dv (a.set k d) k = d := getD_set_self _ _ _ _ h
theorem dv_set_ne (a : List Dev) {k j : Nat} (h : k ≠ j) (d : Dev) : dv (a.set k d) j = dv a j := getD_set_ne _ _ _ _ _ h
end Go.Proofs.Ytokpjgpdkmimgaa
