/-
  array.Write and the document's ArrayWritten: a sector is written on both mirrors, and the parity anew; the law ArrayWrites. Conditions: the argument reads as an array.
-/
import Derived.Test.YtokpjgpdkmimgaaH
import Derived.Test.YtokpjgpdkmimgaaPArr3
import Derived.Test.YtokpjgpdkmimgaaWArrCopy
import Derived.Test.YtokpjgpdkmimgaaWDevWrite
import Derived.Test.YtokpjgpdkmimgaaR2
namespace Go.Proofs.Ytokpjgpdkmimgaa
set_option linter.unusedSimpArgs false
set_option linter.unusedVariables false
open Go.RowKit

section
variable {P : Program} {Q : Exit → Act → World → Prop}
theorem wp_region_all {id : Nat} {L : List Oper} {S : World → Prop} {a : Act} {w : World} (hm : P.follows .mixedOrders = true) (h : wpAnyH P .any L.toArray Q S L.toArray.size (Array.replicate L.toArray.size false) a w.drew) : (Code.region id L.toArray true).wp P Q a w :=
  wp_region_any hm (wpAny_of_held _ _ _ _ h)
end
/-- Both mirrors, the first k of them written. -/
def bothTo (a : List Dev) (n : Int) (s : ByteArray) : Nat → List Dev
  | 0 => a
  | 1 => a.set 0 (writeS (dv a 0) n n s).1
  | _ => bothS a n s
theorem bothTo_len {a : List Dev} (h : a.length = 3) (n : Int) (s : ByteArray) (k : Nat) : (bothTo a n s k).length = 3 := by
  match k with
  | 0 => exact h
  | 1 => simp [bothTo, h]
  | k + 2 => simp [bothTo, bothS, h]
theorem bothTo_succ {a : List Dev} (h : a.length = 3) (n : Int) (s : ByteArray) (k : Nat) (hk : k < 2) : (bothTo a n s k).set k (writeS (dv (bothTo a n s k) k) n n s).1 = bothTo a n s (k + 1) := by
  match k, hk with
  | 0, _ => rfl
  | 1, _ =>
    show (a.set 0 _).set 1 (writeS (dv (a.set 0 _) 1) n n s).1 = bothS a n s
    rw [dv_set_ne _ (by decide)]
    rfl
theorem parity_both {a : List Dev} {n : Int} (h1 : (mirrorS a n).2 ≠ 0) (h2 : (mirrorS a (partner n)).2 ≠ 0) : parityS a n = a.set 2 (writeS (dv a 2) (n / 2) (512 + n / 2) (xorS (mirrorS a n).1 (mirrorS a (partner n)).1)).1 := by
  unfold parityS writeP; rw [if_pos ⟨h1, h2⟩]
theorem parity_lost {a : List Dev} {n : Int} (h : ¬ ((mirrorS a n).2 ≠ 0 ∧ (mirrorS a (partner n)).2 ≠ 0)) : parityS a n = a.set 2 (loseS (dv a 2) (n / 2)) := by
  unfold parityS; rw [if_neg h]
theorem okB_eq (p : ByteArray × Int) : okB p = decide (p.2 ≠ 0) := rfl
theorem bothS_len {a : List Dev} (h : a.length = 3) (n : Int) (s : ByteArray) : (bothS a n s).length = 3 := by simp [bothS, h]
theorem savedS_len {a : List Dev} (h : a.length = 3) (n : Int) : (savedS a n).length = 3 := by
  unfold savedS; split
  · exact bothS_len h _ _
  · exact h
theorem parityS_len {a : List Dev} (h : a.length = 3) (n : Int) : (parityS a n).length = 3 := by
  unfold parityS; split <;> simp [h]
theorem write3_len {a : List Dev} (h : a.length = 3) (n : Int) (s : ByteArray) : (arrWrite3 a n s).length = 3 := parityS_len (bothS_len (savedS_len h n) n s) n
theorem aw_touch {a : List Dev} {n : Int} {s : ByteArray} (h : arrTouch a n ≠ 0) : arrWriteS a n s = ([], arrTouch a n) := by unfold arrWriteS; rw [if_pos h]
theorem aw_size {a : List Dev} {n : Int} {s : ByteArray} (h : arrTouch a n = 0) (h2 : 24 < s.size) : arrWriteS a n s = ([], 1) := by unfold arrWriteS; rw [if_neg (by simpa using h), if_pos h2]
theorem aw_ok {a : List Dev} {n : Int} {s : ByteArray} (h : arrTouch a n = 0) (h2 : ¬ 24 < s.size) : arrWriteS a n s = (arrWrite3 a n s, 0) := by unfold arrWriteS; rw [if_neg (by simpa using h), if_neg h2]

theorem written_ok {a : List Dev} {n : Int} {s : ByteArray} {b : List Dev} {T : ByteArray} (ht : arrTouch a n = 0) (hs : ¬ 24 < s.size) (hb : bothS (savedS a n) n s = b) (h : (arrReadS a (partner n)).2.2 = 0) (hT : (arrReadS a (partner n)).1 = T) :
    arrWriteS a n s = (b.set 2 (writeS (dv b 2) (n / 2) (512 + n / 2) (xorS (padS s) T)).1, 0) := by
  rw [aw_ok ht hs, written_eq ht (by omega)]; unfold writtenS; rw [if_pos h, hb, hT]
theorem written_lost {a : List Dev} {n : Int} {s : ByteArray} {b : List Dev} (ht : arrTouch a n = 0) (hs : ¬ 24 < s.size) (hb : bothS (savedS a n) n s = b) (h : (arrReadS a (partner n)).2.2 ≠ 0) :
    arrWriteS a n s = (b.set 2 (loseS (dv b 2) (n / 2)), 0) := by
  rw [aw_ok ht hs, written_eq ht (by omega)]; unfold writtenS; rw [if_neg h, hb]
theorem pad_join (s : ByteArray) : s ++ bs (List.replicate (24 - s.size) 0) = padS s := by
  rw [bs_append_lst]; rfl

end Go.Proofs.Ytokpjgpdkmimgaa
