/-
  Devices in plain Lean: what is read after a sector was written, lost or turned, and that other sectors stay. Conditions: none.
-/
import Derived.Test.YtokpjgpdkmimgaaPTell
import Derived.Test.YtokpjgpdkmimgaaWDevSet
namespace Go.Proofs.Ytokpjgpdkmimgaa
set_option linter.unusedSimpArgs false
set_option linter.unusedVariables false
open Go.RowKit

theorem devMay_iff {d : Dev} : devMay d = true ↔ 1 ≤ d.sec.length ∧ d.sec.length ≤ 64 ∧ d.lost.length = d.sec.length ∧ ∀ s ∈ d.sec, s.size = 30 := by
  constructor
  · exact devMay_len
  · rintro ⟨h1, h2, h3, h4⟩
    unfold devMay
    have h5 : d.sec.any badRaw = false := by
      rw [List.any_eq_false]
      intro s hs
      unfold badRaw
      have := h4 s hs
      simp [this]
    simp [h1, h2, h3, h5]
theorem touch_iff {d : Dev} {n : Int} : touchCode d n = 0 ↔ devMay d = true ∧ 0 ≤ n ∧ n < d.sec.length := by
  constructor
  · exact touch_zero
  · rintro ⟨h1, h2, h3⟩
    unfold touchCode
    rw [if_pos h1, if_pos (by simp [inB]; omega)]
theorem touchCode_congr {d e : Dev} (h1 : devMay d = devMay e) (h2 : d.sec.length = e.sec.length) (n : Int) : touchCode d n = touchCode e n := by
  unfold touchCode; rw [h1, h2]
theorem devMay_set {d : Dev} (h : devMay d = true) (k : Nat) (s : ByteArray) (hs : s.size = 30) (l : List Bool) (hl : l.length = d.lost.length) : devMay ⟨d.sec.set k s, l⟩ = true := by
  obtain ⟨h1, h2, h3, h4⟩ := devMay_len h
  refine devMay_iff.2 ⟨by simpa using h1, by simpa using h2, by simp only [List.length_set]; omega, fun x hx => ?_⟩
  rcases List.mem_or_eq_of_mem_set hx with hx | rfl
  · exact h4 x hx
  · exact hs
theorem devMay_lost {d : Dev} (h : devMay d = true) (l : List Bool) (hl : l.length = d.lost.length) : devMay ⟨d.sec, l⟩ = true := by
  obtain ⟨h1, h2, h3, h4⟩ := devMay_len h
  exact devMay_iff.2 ⟨h1, h2, by show l.length = d.sec.length; omega, h4⟩
theorem writeS_ok {d : Dev} {n no : Int} {s : ByteArray} (h : touchCode d n = 0) (h0 : 0 ≤ no) (h1 : no ≤ 65535) (h2 : s.size ≤ 24) : writeS d n no s = (⟨d.sec.set n.toNat (encodeS no s).1, d.lost.set n.toNat false⟩, 0) := by
  unfold writeS
  rw [if_pos h, if_pos (by rw [encodeS_ok h0 h1 h2])]
theorem write_may {d : Dev} {n no : Int} {s : ByteArray} (h : touchCode d n = 0) (h0 : 0 ≤ no) (h1 : no ≤ 65535) (h2 : s.size ≤ 24) : devMay (writeS d n no s).1 = true ∧ (writeS d n no s).1.sec.length = d.sec.length := by
  rw [writeS_ok h h0 h1 h2]
  exact ⟨devMay_set (touch_zero h).1 _ _ (encodeS_size h0 h1 h2) _ (by simp), by simp⟩
theorem write_touch {d : Dev} {n no : Int} {s : ByteArray} (h : touchCode d n = 0) (h0 : 0 ≤ no) (h1 : no ≤ 65535) (h2 : s.size ≤ 24) (m : Int) : touchCode (writeS d n no s).1 m = touchCode d m := by
  have := write_may h h0 h1 h2
  exact touchCode_congr (by rw [this.1, (touch_zero h).1]) this.2 m
theorem read_eq {d : Dev} {n : Int} (no : Int) (h : touchCode d n = 0) : readS d n no = if d.lost.getD n.toNat false then (.empty, 11) else decodeS no (d.sec.getD n.toNat .empty) := by
  unfold readS; rw [if_pos h]
theorem getD_set_self {α : Type} (l : List α) (k : Nat) (a b : α) (h : k < l.length) : (l.set k a).getD k b = a := by
  rw [List.getD_eq_getElem?_getD, List.getElem?_set_self h]; rfl
theorem getD_set_ne {α : Type} (l : List α) (k j : Nat) (a b : α) (h : k ≠ j) : (l.set k a).getD j b = l.getD j b := by
  rw [List.getD_eq_getElem?_getD, List.getElem?_set_ne h, List.getD_eq_getElem?_getD]
theorem read_write {d : Dev} {n no : Int} {s : ByteArray} (h : touchCode d n = 0) (h0 : 0 ≤ no) (h1 : no ≤ 65535) (h2 : s.size ≤ 24) (no' : Int) :
    readS (writeS d n no s).1 n no' = if no = no' then (padS s, 0) else (.empty, 4) := by
  obtain ⟨hm, hn, hl⟩ := touch_zero h
  obtain ⟨m1, m2, m3, _⟩ := devMay_len hm
  rw [read_eq no' (by rw [write_touch h h0 h1 h2]; exact h), writeS_ok h h0 h1 h2]
  simp only
  rw [getD_set_self _ _ _ _ (by omega), getD_set_self _ _ _ _ (by omega), if_neg (by decide)]
  exact decode_encode no no' s h0 h1 h2
theorem read_write_other {d : Dev} {n no : Int} {s : ByteArray} (h : touchCode d n = 0) (h0 : 0 ≤ no) (h1 : no ≤ 65535) (h2 : s.size ≤ 24) (m no' : Int) (hm : 0 ≤ m) (hne : m ≠ n) :
    readS (writeS d n no s).1 m no' = readS d m no' := by
  have hn := (touch_zero h).2.1
  unfold readS
  rw [write_touch h h0 h1 h2, writeS_ok h h0 h1 h2]
  simp only
  rw [getD_set_ne _ _ _ _ _ (by omega), getD_set_ne _ _ _ _ _ (by omega)]
theorem loseS_ok {d : Dev} {n : Int} (h : touchCode d n = 0) : loseS d n = ⟨d.sec, d.lost.set n.toNat true⟩ := by unfold loseS; rw [if_pos h]
theorem lose_may {d : Dev} {n : Int} (h : touchCode d n = 0) : devMay (loseS d n) = true := by
  rw [loseS_ok h]; exact devMay_lost (touch_zero h).1 _ (by simp)
theorem lose_len {d : Dev} {n : Int} (h : touchCode d n = 0) : (loseS d n).sec.length = d.sec.length := by rw [loseS_ok h]
theorem lose_touch {d : Dev} {n : Int} (h : touchCode d n = 0) (m : Int) : touchCode (loseS d n) m = touchCode d m := touchCode_congr (by rw [lose_may h, (touch_zero h).1]) (lose_len h) m
theorem read_lose {d : Dev} {n : Int} (h : touchCode d n = 0) (no : Int) : readS (loseS d n) n no = (.empty, 11) := by
  obtain ⟨hm, hn, hl⟩ := touch_zero h
  obtain ⟨m1, m2, m3, _⟩ := devMay_len hm
  rw [read_eq no (by rw [lose_touch h]; exact h), loseS_ok h]
  simp only
  rw [getD_set_self _ _ _ _ (by omega), if_pos rfl]
theorem read_lose_other {d : Dev} {n : Int} (h : touchCode d n = 0) (m no : Int) (hm : 0 ≤ m) (hne : m ≠ n) : readS (loseS d n) m no = readS d m no := by
  have hn := (touch_zero h).2.1
  unfold readS
  rw [lose_touch h, loseS_ok h]
  simp only
  rw [getD_set_ne _ _ _ _ _ (by omega)]
theorem turnS_ok {d : Dev} {n place by_ : Int} (h : touchCode d n = 0) (hp : 0 ≤ place ∧ place ≤ 29) (hb : 0 ≤ by_ ∧ by_ ≤ 255) : turnS d n place by_ = (⟨d.sec.set n.toNat (turnB (d.sec.getD n.toNat .empty) place by_), d.lost⟩, 0) := by
  unfold turnS
  rw [if_pos h, if_pos (by simp [inB]; omega)]
theorem getD_mem {α : Type} (l : List α) (k : Nat) (a : α) (h : k < l.length) : l.getD k a ∈ l := by
  rw [List.getD_eq_getElem?_getD, List.getElem?_eq_getElem h]; exact List.getElem_mem h
theorem turn_may {d : Dev} {n place by_ : Int} (h : touchCode d n = 0) (hp : 0 ≤ place ∧ place ≤ 29) (hb : 0 ≤ by_ ∧ by_ ≤ 255) : devMay (turnS d n place by_).1 = true ∧ (turnS d n place by_).1.sec.length = d.sec.length := by
  obtain ⟨hm, hn, hl⟩ := touch_zero h
  obtain ⟨m1, m2, m3, m4⟩ := devMay_len hm
  rw [turnS_ok h hp hb]
  refine ⟨devMay_set hm _ _ ?_ _ rfl, by simp⟩
  rw [turnB_size]
  exact m4 _ (getD_mem _ _ _ (by omega))
theorem turn_touch {d : Dev} {n place by_ : Int} (h : touchCode d n = 0) (hp : 0 ≤ place ∧ place ≤ 29) (hb : 0 ≤ by_ ∧ by_ ≤ 255) (m : Int) : touchCode (turnS d n place by_).1 m = touchCode d m := by
  have := turn_may h hp hb
  exact touchCode_congr (by rw [this.1, (touch_zero h).1]) this.2 m
theorem read_turn_other {d : Dev} {n place by_ : Int} (h : touchCode d n = 0) (hp : 0 ≤ place ∧ place ≤ 29) (hb : 0 ≤ by_ ∧ by_ ≤ 255) (m no : Int) (hm : 0 ≤ m) (hne : m ≠ n) : readS (turnS d n place by_).1 m no = readS d m no := by
  have hn := (touch_zero h).2.1
  unfold readS
  rw [turn_touch h hp hb, turnS_ok h hp hb]
  simp only
  rw [getD_set_ne _ _ _ _ _ (by omega)]
/-- A byte of a sound sector that is turned: the seal tells. -/
theorem read_turn {d : Dev} {n place by_ : Int} (h : touchCode d n = 0) (hp : 0 ≤ place ∧ place ≤ 29) (hb : 1 ≤ by_ ∧ by_ ≤ 255) (no no' : Int) (s : ByteArray) (h0 : 0 ≤ no) (h1 : no ≤ 65535) (h2 : s.size ≤ 24)
    (hs : d.sec.getD n.toNat .empty = (encodeS no s).1) (hl : d.lost.getD n.toNat false = false) : readS (turnS d n place by_).1 n no' = (.empty, 10) := by
  obtain ⟨hm, hn, hln⟩ := touch_zero h
  rw [read_eq no' (by rw [turn_touch h hp ⟨by omega, hb.2⟩]; exact h), turnS_ok h hp ⟨by omega, hb.2⟩]
  simp only
  rw [hl, if_neg (by decide), getD_set_self _ _ _ _ (by omega), hs]
  unfold turnB
  refine decode_spoilt no no' s h0 h1 h2 place.toNat (by omega) _ ?_
  intro he
  have := byte_toNat ((((at_ (encodeS no s).1 place.toNat).toNat : Int) + by_) % 256) (by omega) (by omega)
  rw [he] at this
  have hb2 := u8_bd (at_ (encodeS no s).1 place.toNat)
  omega
/-- A new device. -/
theorem fresh_len (many : Nat) (from_ : Int) : (freshDev many from_).sec.length = many := by unfold freshDev; simp
theorem fresh_sec (many : Nat) (from_ : Int) (k : Nat) (h : k < many) : (freshDev many from_).sec.getD k .empty = (encodeS (from_ + k) .empty).1 := by
  unfold freshDev
  simp only
  rw [List.getD_eq_getElem?_getD, List.getElem?_map, List.getElem?_range h]; rfl
theorem fresh_lost (many : Nat) (from_ : Int) (k : Nat) : (freshDev many from_).lost.getD k false = false := by
  unfold freshDev
  simp only
  rw [List.getD_eq_getElem?_getD, List.getElem?_replicate]
  split <;> rfl
theorem fresh_may (many : Nat) (from_ : Int) (h1 : 1 ≤ many) (h2 : many ≤ 64) (h3 : 0 ≤ from_) (h4 : from_ ≤ 512) : devMay (freshDev many from_) = true := by
  refine devMay_iff.2 ⟨by rw [fresh_len]; exact h1, by rw [fresh_len]; exact h2, by rw [fresh_len]; simp [freshDev], fun s hs => ?_⟩
  unfold freshDev at hs
  obtain ⟨i, hi, rfl⟩ := List.mem_map.1 hs
  have := List.mem_range.1 hi
  exact encodeS_size (by omega) (by omega) (by decide)
end Go.Proofs.Ytokpjgpdkmimgaa
