/-
  The press in plain Lean: what stands further back, pieces, bytes as they are, packing and unpacking. Conditions: none.
-/
import Derived.Test.YtokpjgpdkmimgaaK
namespace Go.Proofs.Ytokpjgpdkmimgaa
set_option linter.unusedSimpArgs false
set_option linter.unusedVariables false
open Go.RowKit

/-- The byte at a place; 0 where there is none. -/
def at_ (s : ByteArray) (k : Nat) : UInt8 := if h : k < s.size then s[k] else 0
theorem at_eq (s : ByteArray) (k : Nat) (h : k < s.size) : at_ s k = s[k] := dif_pos h
/-- How many bytes from k on are those from i on, when n are known to be. -/
def alikeF (s : ByteArray) (k i n : Nat) : Nat := if n < 131 ∧ i + n < s.size ∧ at_ s (k + n) = at_ s (i + n) then alikeF s k i (n + 1) else n
termination_by 131 - n
/-- The longest piece further back, from the distance d on. -/
def pieceF (s : ByteArray) (i d best back : Nat) : Nat × Nat :=
  if d ≤ 255 ∧ d ≤ i then (if best < alikeF s (i - d) i 0 then pieceF s i (d + 1) (alikeF s (i - d) i 0) d else pieceF s i (d + 1) best back) else (best, back)
termination_by 256 - d
/-- Bytes as they are. -/
def plainF (l : List UInt8) : List UInt8 := if h : l = [] then [] else UInt8.ofNat (min l.length 128 - 1) :: (l.take 128 ++ plainF (l.drop 128))
termination_by l.length
decreasing_by
  have : 0 < l.length := List.length_pos_iff.2 h
  simp only [List.length_drop]; omega
def sub_ (s : ByteArray) (a b : Nat) : List UInt8 := ((lst s).take b).drop a
theorem length_sub_ (s : ByteArray) (a b : Nat) (h : b ≤ s.size) : (sub_ s a b).length = b - a := by
  unfold sub_; rw [List.length_drop, List.length_take, length_lst]; omega
def packF (s : ByteArray) (out : List UInt8) (from_ i : Nat) : List UInt8 :=
  if h : i < s.size then
    (if h2 : (pieceF s i 1 0 0).1 < 4 then packF s out from_ (i + 1)
     else packF s (out ++ plainF (sub_ s from_ i) ++ [UInt8.ofNat (124 + (pieceF s i 1 0 0).1), UInt8.ofNat (pieceF s i 1 0 0).2]) (i + (pieceF s i 1 0 0).1) (i + (pieceF s i 1 0 0).1))
  else out ++ plainF (sub_ s from_ s.size)
termination_by s.size - i
def packS (s : ByteArray) : ByteArray × Int := if 600 < s.size then (.empty, 1) else (bs (packF s [] 0 0), 0)

theorem alikeF_le (s : ByteArray) (k i n : Nat) (h : n ≤ 131) : n ≤ alikeF s k i n ∧ alikeF s k i n ≤ 131 := by
  induction hm : 131 - n generalizing n with
  | zero => rw [alikeF, if_neg (by omega)]; omega
  | succ m ih =>
    rw [alikeF]
    split
    · have := ih (n + 1) (by omega) (by omega); omega
    · omega
theorem alikeF_size (s : ByteArray) (k i n : Nat) (h : i + n ≤ s.size) : i + alikeF s k i n ≤ s.size := by
  induction hm : 131 - n generalizing n with
  | zero => rw [alikeF, if_neg (by omega)]; omega
  | succ m ih =>
    rw [alikeF]
    split
    · exact ih (n + 1) (by omega) (by omega)
    · omega
theorem alikeF_at (s : ByteArray) (k i n j : Nat) (h1 : n ≤ j) (h2 : j < alikeF s k i n) : at_ s (k + j) = at_ s (i + j) := by
  induction hm : 131 - n generalizing n with
  | zero => rw [alikeF, if_neg (by omega)] at h2; omega
  | succ m ih =>
    rw [alikeF] at h2
    split at h2
    · rename_i hc
      by_cases he : j = n
      · subst he; exact hc.2.2
      · exact ih (n + 1) (by omega) h2 (by omega)
    · omega
/-- What a piece is: so long, so far back, and alike. -/
def PieceOk (s : ByteArray) (i : Nat) (p : Nat × Nat) : Prop := p.1 = 0 ∨ (1 ≤ p.2 ∧ p.2 ≤ 255 ∧ p.2 ≤ i ∧ p.1 ≤ 131 ∧ i + p.1 ≤ s.size ∧ ∀ j, j < p.1 → at_ s (i - p.2 + j) = at_ s (i + j))
theorem pieceF_ok (s : ByteArray) (i d best back : Nat) (hd : 1 ≤ d) (hi : i ≤ s.size) (h : PieceOk s i (best, back)) : PieceOk s i (pieceF s i d best back) := by
  induction hm : 256 - d generalizing d best back with
  | zero => rw [pieceF, if_neg (by omega)]; exact h
  | succ m ih =>
    rw [pieceF]
    split
    · rename_i hc
      split
      · refine ih (d + 1) _ _ (by omega) ?_ (by omega)
        right
        have h1 := alikeF_le s (i - d) i 0 (by omega)
        have h2 := alikeF_size s (i - d) i 0 (by omega)
        exact ⟨hd, hc.1, hc.2, h1.2, h2, fun j hj => alikeF_at s (i - d) i 0 j (by omega) hj⟩
      · exact ih (d + 1) _ _ (by omega) h (by omega)
    · exact h
theorem piece_ok (s : ByteArray) (i : Nat) (hi : i ≤ s.size) : PieceOk s i (pieceF s i 1 0 0) := pieceF_ok s i 1 0 0 (by omega) hi (.inl rfl)
theorem piece_le (s : ByteArray) (i : Nat) (hi : i ≤ s.size) : (pieceF s i 1 0 0).1 ≤ 131 ∧ i + (pieceF s i 1 0 0).1 ≤ s.size := by
  rcases piece_ok s i hi with h | h
  · omega
  · exact ⟨h.2.2.2.1, h.2.2.2.2.1⟩

/-- Bytes that stood there, once more. -/
def copyB (d : Nat) : Nat → List UInt8 → List UInt8
  | 0, out => out
  | k + 1, out => copyB d k (out ++ [out.getD (out.length - d) 0])
theorem length_copyB (d k : Nat) (out : List UInt8) : (copyB d k out).length = out.length + k := by
  induction k generalizing out with
  | zero => rfl
  | succ k ih => unfold copyB; rw [ih]; simp; omega
def unpackF (l out : List UInt8) : ByteArray × Int :=
  match l with
  | [] => (bs out, 0)
  | c :: r =>
    if c.toNat < 128 then (if r.length < c.toNat + 1 then (.empty, 5) else if 600 < (out ++ r.take (c.toNat + 1)).length then (.empty, 1) else unpackF (r.drop (c.toNat + 1)) (out ++ r.take (c.toNat + 1)))
    else match r with
      | [] => (.empty, 5)
      | d :: r' => if d.toNat = 0 ∨ out.length < d.toNat then (.empty, 4) else if 600 < (copyB d.toNat (c.toNat - 124) out).length then (.empty, 1) else unpackF r' (copyB d.toNat (c.toNat - 124) out)
termination_by l.length
decreasing_by
  · simp only [List.length_drop, List.length_cons]; omega
  · simp only [List.length_cons]; omega
theorem unpackF_nil (out : List UInt8) : unpackF [] out = (bs out, 0) := by rw [unpackF.eq_def]
theorem unpackF_plain {c : UInt8} (r out : List UInt8) (h : c.toNat < 128) : unpackF (c :: r) out = if r.length < c.toNat + 1 then (.empty, 5) else if 600 < (out ++ r.take (c.toNat + 1)).length then (.empty, 1) else unpackF (r.drop (c.toNat + 1)) (out ++ r.take (c.toNat + 1)) := by
  rw [unpackF.eq_def]
  simp only
  rw [if_pos h]
theorem unpackF_end {c : UInt8} (out : List UInt8) (h : ¬ c.toNat < 128) : unpackF [c] out = (.empty, 5) := by
  rw [unpackF.eq_def]
  simp only
  rw [if_neg h]
theorem unpackF_piece {c d : UInt8} (r out : List UInt8) (h : ¬ c.toNat < 128) : unpackF (c :: d :: r) out = if d.toNat = 0 ∨ out.length < d.toNat then (.empty, 4) else if 600 < (copyB d.toNat (c.toNat - 124) out).length then (.empty, 1) else unpackF r (copyB d.toNat (c.toNat - 124) out) := by
  rw [unpackF.eq_def]
  simp only
  rw [if_neg h]
def unpackS (s : ByteArray) : ByteArray × Int := unpackF (lst s) []
end Go.Proofs.Ytokpjgpdkmimgaa
