/-
  Sectors, devices and arrays in plain Lean: what is written, read, lost, turned, replaced and healed. Conditions: none.
-/
import Derived.Test.YtokpjgpdkmimgaaWDevRead
import Derived.Test.YtokpjgpdkmimgaaWArrCheck
import Derived.Test.YtokpjgpdkmimgaaPPress
namespace Go.Proofs.Ytokpjgpdkmimgaa
set_option linter.unusedSimpArgs false
set_option linter.unusedVariables false
open Go.RowKit

theorem lst_append (a b : ByteArray) : lst (a ++ b) = lst a ++ lst b := by
  unfold lst
  rw [ByteArray.data_append, Array.toList_append]
theorem bs_append (a b : List UInt8) : bs a ++ bs b = bs (a ++ b) := lst_inj (by rw [lst_append, lst_bs, lst_bs, lst_bs])
theorem bs_append_lst (a : ByteArray) (l : List UInt8) : a ++ bs l = bs (lst a ++ l) := lst_inj (by rw [lst_append, lst_bs, lst_bs])
theorem lst_append_bs (l : List UInt8) (a : ByteArray) : bs l ++ a = bs (l ++ lst a) := lst_inj (by rw [lst_append, lst_bs, lst_bs])
theorem lst_empty : lst .empty = [] := rfl

/-- A sector without its seal. -/
def rawS (no : Int) (s : ByteArray) : List UInt8 := byte (no / 256) :: byte (no % 256) :: (lst s ++ List.replicate (24 - s.size) 0)
def encodeS (no : Int) (s : ByteArray) : ByteArray × Int :=
  if no < 0 ∨ 65535 < no then (.empty, 2) else if 24 < s.size then (.empty, 1) else (bs (rawS no s ++ sealOf (rawS no s)), 0)
theorem encodeS_ok {no : Int} {s : ByteArray} (h0 : 0 ≤ no) (h1 : no ≤ 65535) (h2 : s.size ≤ 24) : encodeS no s = (bs (rawS no s ++ sealOf (rawS no s)), 0) := by
  unfold encodeS; rw [if_neg (by omega), if_neg (by omega)]
theorem rawS_length {no : Int} {s : ByteArray} (h2 : s.size ≤ 24) : (rawS no s).length = 26 := by
  unfold rawS; simp only [List.length_cons, List.length_append, List.length_replicate, length_lst]; omega
theorem encodeS_size {no : Int} {s : ByteArray} (h0 : 0 ≤ no) (h1 : no ≤ 65535) (h2 : s.size ≤ 24) : (encodeS no s).1.size = 30 := by
  rw [encodeS_ok h0 h1 h2]
  show (bs _).size = 30
  rw [size_bs, List.length_append, rawS_length h2, length_sealOf]
theorem encodeS_small (no : Int) (s : ByteArray) : (encodeS no s).1.size ≤ 30 := by
  by_cases h : no < 0 ∨ 65535 < no
  · unfold encodeS; rw [if_pos h]; decide
  · by_cases h2 : 24 < s.size
    · unfold encodeS; rw [if_neg h, if_pos h2]; decide
    · rw [encodeS_size (by omega) (by omega) (by omega)]; omega
theorem encodeS_code (no : Int) (s : ByteArray) : (encodeS no s).2 = 0 ∨ (encodeS no s).2 = 1 ∨ (encodeS no s).2 = 2 := by
  unfold encodeS
  split
  · exact .inr (.inr rfl)
  · split
    · exact .inr (.inl rfl)
    · exact .inl rfl

/-- A sector of a device is written. -/
def writeS (d : Dev) (n no : Int) (s : ByteArray) : Dev × Int :=
  if touchCode d n = 0 then (if (encodeS no s).2 = 0 then (⟨d.sec.set n.toNat (encodeS no s).1, d.lost.set n.toNat false⟩, 0) else (⟨[], []⟩, (encodeS no s).2)) else (⟨[], []⟩, touchCode d n)
/-- A byte of a text is turned. -/
def turnB (s : ByteArray) (place by_ : Int) : ByteArray := bs ((lst s).set place.toNat (byte (((at_ s place.toNat).toNat + by_) % 256)))
def turnS (d : Dev) (n place by_ : Int) : Dev × Int :=
  if touchCode d n = 0 then (if inB place 0 29 && inB by_ 0 255 then (⟨d.sec.set n.toNat (turnB (d.sec.getD n.toNat .empty) place by_), d.lost⟩, 0) else (⟨[], []⟩, 2)) else (⟨[], []⟩, touchCode d n)
theorem turnB_size (s : ByteArray) (place by_ : Int) : (turnB s place by_).size = s.size := by
  unfold turnB; rw [size_bs, List.length_set, length_lst]

/-- A new device. -/
def freshDev (many : Nat) (from_ : Int) : Dev := ⟨(List.range many).map (fun (i : Nat) => (encodeS (from_ + i) .empty).1), List.replicate many false⟩
def newDevS (many from_ : Int) : Dev × Int := if inB many 1 64 && inB from_ 0 512 then (freshDev many.toNat from_, 0) else (⟨[], []⟩, 2)

/-- Arrays. -/
def dv (a : List Dev) (k : Nat) : Dev := a.getD k ⟨[], []⟩
def arrTouch (a : List Dev) (n : Int) : Int := if arrMay a then (if inB n 0 (((dv a 0).sec.length : Int) - 1) then 0 else 6) else 9
def partner (n : Int) : Int := if n % 2 = 0 then n + 1 else n - 1
def mirrorS (a : List Dev) (n : Int) : ByteArray × Int :=
  if (readS (dv a 0) n n).2 = 0 then ((readS (dv a 0) n n).1, 1) else if (readS (dv a 1) n n).2 = 0 then ((readS (dv a 1) n n).1, 2) else (.empty, 0)
def xorS (s t : ByteArray) : ByteArray := bs (List.zipWith (fun a b => a ^^^ b) (lst s) (lst t))
def parS (a : List Dev) (n : Int) : ByteArray × Int := readS (dv a 2) (n / 2) (512 + n / 2)
/-- What reading a sector of an array answers: the payload, how it was read, the code. -/
def arrReadS (a : List Dev) (n : Int) : ByteArray × Int × Int :=
  if arrTouch a n ≠ 0 then (.empty, 0, arrTouch a n)
  else if (mirrorS a n).2 ≠ 0 then ((mirrorS a n).1, (mirrorS a n).2, 0)
  else if (mirrorS a (partner n)).2 = 0 ∨ (parS a n).2 ≠ 0 then (.empty, 0, 11)
  else (xorS (parS a n).1 (mirrorS a (partner n)).1, 3, 0)
/-- A device of an array is another one. -/
def bothS (a : List Dev) (n : Int) (s : ByteArray) : List Dev := (a.set 0 (writeS (dv a 0) n n s).1).set 1 (writeS (dv a 1) n n s).1
def newArrS (many : Int) : List Dev × Int :=
  if inB many 16 64 && decide (many % 2 = 0) then ([freshDev many.toNat 0, freshDev many.toNat 0, freshDev (many / 2).toNat 512], 0) else ([], 2)
/-- What a sector that is read is like. -/
theorem decodeS_size {no : Int} {s : ByteArray} (h : (decodeS no s).2 = 0) : (decodeS no s).1.size = 24 := by
  unfold decodeS at h ⊢
  split at h
  · rename_i h30
    split at h
    · split at h
      · rename_i h1 h2
        rw [dif_pos h30, if_pos h1, if_pos h2]
        simp only [ByteArray.size_extract]; omega
      · exact absurd h (by decide)
    · exact absurd h (by decide)
  · exact absurd h (by decide)
theorem readS_size {d : Dev} {n no : Int} (h : (readS d n no).2 = 0) : (readS d n no).1.size = 24 := by
  unfold readS at h ⊢
  split at h
  · rename_i h1
    split at h
    · exact absurd h (by decide)
    · rename_i h2
      rw [if_pos h1, if_neg h2]
      exact decodeS_size h
  · rename_i h1
    exact absurd h h1
theorem mirrorS_size {a : List Dev} {n : Int} (h : (mirrorS a n).2 ≠ 0) : (mirrorS a n).1.size = 24 := by
  unfold mirrorS at h ⊢
  split at h
  · rename_i h1
    rw [if_pos h1]
    exact readS_size h1
  · rename_i h1
    split at h
    · rename_i h2
      rw [if_neg h1, if_pos h2]
      exact readS_size h2
    · exact absurd rfl h
theorem xorS_size {s t : ByteArray} (h : s.size = t.size) : (xorS s t).size = s.size := by
  unfold xorS; rw [size_bs, List.length_zipWith, length_lst, length_lst, h]; omega
theorem arrReadS_size {a : List Dev} {n : Int} (h : (arrReadS a n).2.2 = 0) : (arrReadS a n).1.size = 24 := by
  unfold arrReadS at h ⊢
  split at h
  · rename_i h1
    exact absurd h h1
  · rename_i h1
    rw [if_neg h1]
    split at h
    · rename_i h2
      rw [if_pos h2]
      exact mirrorS_size h2
    · rename_i h2
      rw [if_neg h2]
      split at h
      · exact absurd h (by decide)
      · rename_i h3
        rw [if_neg h3]
        have h4 : (mirrorS a (partner n)).2 ≠ 0 := fun e => h3 (.inl e)
        have h5 : (parS a n).2 = 0 := by
          by_cases h : (parS a n).2 = 0
          · exact h
          · exact absurd (.inr h) h3
        have e1 := mirrorS_size h4
        have e2 : (parS a n).1.size = 24 := readS_size h5
        show (xorS _ _).size = 24
        rw [xorS_size (by rw [e1, e2]), e2]
end Go.Proofs.Ytokpjgpdkmimgaa
