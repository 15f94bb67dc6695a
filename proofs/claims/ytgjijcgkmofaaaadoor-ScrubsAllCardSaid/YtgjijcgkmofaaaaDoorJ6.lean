/-
  Bytes of which one is another one have another seal; a sector is read as it was written; spoilt it is not. In plain Lean. Conditions: none.
-/
import Derived.Test.YtgjijcgkmofaaaaDoorJ5
namespace Go.Proofs.YtgjijcgkmofaaaaDoor
set_option linter.unusedSimpArgs false
set_option linter.unusedVariables false
open Go.RowKit

def sumB : List UInt8 → Int
  | [] => 0
  | c :: l => (c.toNat : Int) + sumB l
theorem sealFold_fst (l : List UInt8) (p : Int × Int) : (l.foldl sealStep p).1 % 65521 = (p.1 + sumB l) % 65521 := by
  induction l generalizing p with
  | nil => simp [sumB]
  | cons c l ih =>
    rw [List.foldl_cons, ih]
    simp only [sealStep, sumB]
    omega
theorem sealXY_fst (l : List UInt8) : (sealXY l).1 = (1 + sumB l) % 65521 := by
  have h := sealXY_range l
  have := sealFold_fst l (1, 0)
  unfold sealXY at h ⊢
  unfold InRange at h
  omega
theorem byte_toNat (n : Int) (h0 : 0 ≤ n) (h1 : n < 256) : ((byte n).toNat : Int) = n := by
  unfold byte
  rw [UInt8.toNat_ofNat']
  omega
theorem sumB_set (l : List UInt8) (k : Nat) (hk : k < l.length) (c : UInt8) : sumB (l.set k c) = sumB l - (l[k].toNat : Int) + (c.toNat : Int) := by
  induction l generalizing k with
  | nil => simp at hk
  | cons a l ih =>
    cases k with
    | zero => simp only [List.set_cons_zero, sumB, List.getElem_cons_zero]; omega
    | succ k =>
      have := ih k (by simpa using hk)
      simp only [List.set_cons_succ, sumB, List.getElem_cons_succ, this]; omega
theorem seal_fst {l l' : List UInt8} (h : sealOf l = sealOf l') : (sealXY l).1 = (sealXY l').1 := by
  unfold sealOf sealBytes at h
  simp only [List.cons.injEq, and_true] at h
  obtain ⟨_, _, h1, h2⟩ := h
  have r := sealXY_range l
  have r' := sealXY_range l'
  unfold InRange at r r'
  have e1 := byte_toNat ((sealXY l).1 / 256) (by omega) (by omega)
  have e2 := byte_toNat ((sealXY l').1 / 256) (by omega) (by omega)
  have e3 := byte_toNat ((sealXY l).1 % 256) (by omega) (by omega)
  have e4 := byte_toNat ((sealXY l').1 % 256) (by omega) (by omega)
  rw [h1] at e1
  rw [h2] at e3
  omega
theorem seal_tells (l : List UInt8) (k : Nat) (hk : k < l.length) (c : UInt8) (hc : c ≠ l[k]) : sealOf (l.set k c) ≠ sealOf l := by
  intro h
  have h1 := seal_fst h
  rw [sealXY_fst, sealXY_fst, sumB_set l k hk c] at h1
  have b1 := u8_bd c
  have b2 := u8_bd l[k]
  apply hc
  apply UInt8.toNat_inj.1
  omega

/-- The payload as it is read again. -/
def padS (s : ByteArray) : ByteArray := bs (lst s ++ List.replicate (24 - s.size) 0)
theorem padS_size {s : ByteArray} (h : s.size ≤ 24) : (padS s).size = 24 := by
  unfold padS; rw [size_bs, List.length_append, List.length_replicate, length_lst]; omega
theorem lst_extract (s : ByteArray) (a b : Nat) : lst (s.extract a b) = sub_ s a b := by
  unfold lst sub_
  rw [ByteArray.data_extract, Array.toList_extract]
  simp [List.extract, List.drop_take, lst]
theorem sectorNo_at (s : ByteArray) (h : 2 ≤ s.size) : sectorNo s h = 256 * ((at_ s 0).toNat : Int) + ((at_ s 1).toNat : Int) := by
  unfold sectorNo; rw [at_eq s 0 (by omega), at_eq s 1 (by omega)]
/-- decode, told by lists. -/
theorem decodeS_eq (no : Int) (s : ByteArray) : decodeS no s = if s.size = 30 then (if sealOf ((lst s).take 26) = (lst s).drop 26 then (if 256 * ((at_ s 0).toNat : Int) + ((at_ s 1).toNat : Int) = no then (bs (((lst s).take 26).drop 2), 0) else (.empty, 4)) else (.empty, 10)) else (.empty, 1) := by
  unfold decodeS
  by_cases h : s.size = 30
  · rw [dif_pos h, if_pos h, sectorNo_at]
    have e1 : lst (s.extract 0 26) = (lst s).take 26 := by rw [lst_extract]; rfl
    have e2 : (s.extract 26 s.size).toList = (lst s).drop 26 := by rw [toList_lst, lst_extract]; unfold sub_; rw [take_all]
    have e3 : s.extract 2 26 = bs (((lst s).take 26).drop 2) := lst_inj (by rw [lst_extract, lst_bs]; rfl)
    rw [e1, e2, e3, toList_lst, lst_bs]
    by_cases h2 : sealOf ((lst s).take 26) = (lst s).drop 26
    · rw [if_pos (by simpa using h2), if_pos h2]
    · rw [if_neg (by simpa using h2), if_neg h2]
  · rw [dif_neg h, if_neg h]
theorem lst_enc {no : Int} {s : ByteArray} (h0 : 0 ≤ no) (h1 : no ≤ 65535) (h2 : s.size ≤ 24) : lst (encodeS no s).1 = rawS no s ++ sealOf (rawS no s) := by
  rw [encodeS_ok h0 h1 h2]; exact lst_bs _
theorem at_lst (s : ByteArray) (k : Nat) : at_ s k = (lst s).getD k 0 := by
  unfold at_
  split
  · rename_i h
    rw [List.getD_eq_getElem?_getD, List.getElem?_eq_getElem (by rw [length_lst]; exact h)]
    rfl
  · rename_i h
    rw [List.getD_eq_getElem?_getD, List.getElem?_eq_none (by rw [length_lst]; omega)]
    rfl
theorem decode_encode (no no' : Int) (s : ByteArray) (h0 : 0 ≤ no) (h1 : no ≤ 65535) (h2 : s.size ≤ 24) : decodeS no' (encodeS no s).1 = if no = no' then (padS s, 0) else (.empty, 4) := by
  have hl := lst_enc h0 h1 h2
  have hr := rawS_length (no := no) h2
  rw [decodeS_eq, if_pos (encodeS_size h0 h1 h2), hl, List.take_left' hr, List.drop_left' hr, if_pos rfl, at_lst, at_lst, hl]
  have e1 := byte_toNat (no / 256) (by omega) (by omega)
  have e2 := byte_toNat (no % 256) (by omega) (by omega)
  have e3 : (rawS no s ++ sealOf (rawS no s)).getD 0 0 = byte (no / 256) := rfl
  have e4 : (rawS no s ++ sealOf (rawS no s)).getD 1 0 = byte (no % 256) := rfl
  rw [e3, e4, e1, e2, show 256 * (no / 256) + no % 256 = no from by omega]
  rfl
/-- A byte of a sound sector is another one: the seal tells. -/
theorem decode_spoilt (no no' : Int) (s : ByteArray) (h0 : 0 ≤ no) (h1 : no ≤ 65535) (h2 : s.size ≤ 24) (k : Nat) (hk : k < 30) (c : UInt8) (hc : c ≠ at_ (encodeS no s).1 k) :
    decodeS no' (bs ((lst (encodeS no s).1).set k c)) = (.empty, 10) := by
  have hl := lst_enc h0 h1 h2
  have hr := rawS_length (no := no) h2
  have hsz := encodeS_size h0 h1 h2
  have hz : (bs ((lst (encodeS no s).1).set k c)).size = 30 := by rw [size_bs, List.length_set, length_lst, hsz]
  rw [decodeS_eq, if_pos hz, lst_bs]
  have ha : at_ (encodeS no s).1 k = (rawS no s ++ sealOf (rawS no s)).getD k 0 := by rw [at_lst, hl]
  rw [ha] at hc
  rw [hl]
  by_cases h26 : k < 26
  · have e1 : ((rawS no s ++ sealOf (rawS no s)).set k c) = (rawS no s).set k c ++ sealOf (rawS no s) := by rw [List.set_append_left _ _ (by omega)]
    rw [e1, List.take_left' (by rw [List.length_set, hr]), List.drop_left' (by rw [List.length_set, hr])]
    rw [if_neg]
    refine seal_tells _ k (by omega) c ?_
    rw [List.getD_eq_getElem?_getD, List.getElem?_append_left (by omega), List.getElem?_eq_getElem (by omega)] at hc
    exact hc
  · have e1 : ((rawS no s ++ sealOf (rawS no s)).set k c) = rawS no s ++ (sealOf (rawS no s)).set (k - 26) c := by rw [List.set_append_right _ _ (by omega), hr]
    rw [e1, List.take_left' hr, List.drop_left' hr]
    rw [if_neg]
    intro he
    have hk4 : k - 26 < (sealOf (rawS no s)).length := by rw [length_sealOf]; omega
    have := congrArg (fun l => l[k - 26]?) he
    simp only [List.getElem?_set_self hk4] at this
    rw [List.getD_eq_getElem?_getD, List.getElem?_append_right (by omega), hr, this] at hc
    exact hc rfl
end Go.Proofs.YtgjijcgkmofaaaaDoor

/-
  Devices in plain Lean: what is read after a sector was written, lost or turned, and that other sectors stay. Conditions: none.
-/
namespace Go.Proofs.YtgjijcgkmofaaaaDoor
set_option linter.unusedSimpArgs false
set_option linter.unusedVariables false
open Go.RowKit

theorem devMay_iff {d : Dev} : devMay d = true ↔ 1 ≤ d.sec.length ∧ d.sec.length ≤ 64 ∧ d.lost.length = d.sec.length ∧ ∀ s ∈ d.sec, s.size = 30 := by
  constructor
  · exact devMay_len
  · rintro ⟨h1, h2, h3, h4⟩
    unfold devMay
    have h5 : d.sec.any badRaw = false := by
      rw [List.any_eq_false]
      intro s hs
      unfold badRaw
      have := h4 s hs
      simp [this]
    simp [h1, h2, h3, h5]
theorem touch_iff {d : Dev} {n : Int} : touchCode d n = 0 ↔ devMay d = true ∧ 0 ≤ n ∧ n < d.sec.length := by
  constructor
  · exact touch_zero
  · rintro ⟨h1, h2, h3⟩
    unfold touchCode
    rw [if_pos h1, if_pos (by simp [inB]; omega)]
theorem touchCode_congr {d e : Dev} (h1 : devMay d = devMay e) (h2 : d.sec.length = e.sec.length) (n : Int) : touchCode d n = touchCode e n := by
  unfold touchCode; rw [h1, h2]
theorem devMay_set {d : Dev} (h : devMay d = true) (k : Nat) (s : ByteArray) (hs : s.size = 30) (l : List Bool) (hl : l.length = d.lost.length) : devMay ⟨d.sec.set k s, l⟩ = true := by
  obtain ⟨h1, h2, h3, h4⟩ := devMay_len h
  refine devMay_iff.2 ⟨by simpa using h1, by simpa using h2, by simp only [List.length_set]; omega, fun x hx => ?_⟩
  rcases List.mem_or_eq_of_mem_set hx with hx | rfl
  · exact h4 x hx
  · exact hs
theorem devMay_lost {d : Dev} (h : devMay d = true) (l : List Bool) (hl : l.length = d.lost.length) : devMay ⟨d.sec, l⟩ = true := by
  obtain ⟨h1, h2, h3, h4⟩ := devMay_len h
  exact devMay_iff.2 ⟨h1, h2, by show l.length = d.sec.length; omega, h4⟩
theorem writeS_ok {d : Dev} {n no : Int} {s : ByteArray} (h : touchCode d n = 0) (h0 : 0 ≤ no) (h1 : no ≤ 65535) (h2 : s.size ≤ 24) : writeS d n no s = (⟨d.sec.set n.toNat (encodeS no s).1, d.lost.set n.toNat false⟩, 0) := by
  unfold writeS
  rw [if_pos h, if_pos (by rw [encodeS_ok h0 h1 h2])]
theorem write_may {d : Dev} {n no : Int} {s : ByteArray} (h : touchCode d n = 0) (h0 : 0 ≤ no) (h1 : no ≤ 65535) (h2 : s.size ≤ 24) : devMay (writeS d n no s).1 = true ∧ (writeS d n no s).1.sec.length = d.sec.length := by
  rw [writeS_ok h h0 h1 h2]
  exact ⟨devMay_set (touch_zero h).1 _ _ (encodeS_size h0 h1 h2) _ (by simp), by simp⟩
theorem write_touch {d : Dev} {n no : Int} {s : ByteArray} (h : touchCode d n = 0) (h0 : 0 ≤ no) (h1 : no ≤ 65535) (h2 : s.size ≤ 24) (m : Int) : touchCode (writeS d n no s).1 m = touchCode d m := by
  have := write_may h h0 h1 h2
  exact touchCode_congr (by rw [this.1, (touch_zero h).1]) this.2 m
theorem read_eq {d : Dev} {n : Int} (no : Int) (h : touchCode d n = 0) : readS d n no = if d.lost.getD n.toNat false then (.empty, 11) else decodeS no (d.sec.getD n.toNat .empty) := by
  unfold readS; rw [if_pos h]
theorem getD_set_self {α : Type} (l : List α) (k : Nat) (a b : α) (h : k < l.length) : (l.set k a).getD k b = a := by
  rw [List.getD_eq_getElem?_getD, List.getElem?_set_self h]; rfl
theorem getD_set_ne {α : Type} (l : List α) (k j : Nat) (a b : α) (h : k ≠ j) : (l.set k a).getD j b = l.getD j b := by
  rw [List.getD_eq_getElem?_getD, List.getElem?_set_ne h, List.getD_eq_getElem?_getD]
theorem read_write {d : Dev} {n no : Int} {s : ByteArray} (h : touchCode d n = 0) (h0 : 0 ≤ no) (h1 : no ≤ 65535) (h2 : s.size ≤ 24) (no' : Int) :
    readS (writeS d n no s).1 n no' = if no = no' then (padS s, 0) else (.empty, 4) := by
  obtain ⟨hm, hn, hl⟩ := touch_zero h
  obtain ⟨m1, m2, m3, _⟩ := devMay_len hm
  rw [read_eq no' (by rw [write_touch h h0 h1 h2]; exact h), writeS_ok h h0 h1 h2]
  simp only
  rw [getD_set_self _ _ _ _ (by omega), getD_set_self _ _ _ _ (by omega), if_neg (by decide)]
  exact decode_encode no no' s h0 h1 h2
theorem read_write_other {d : Dev} {n no : Int} {s : ByteArray} (h : touchCode d n = 0) (h0 : 0 ≤ no) (h1 : no ≤ 65535) (h2 : s.size ≤ 24) (m no' : Int) (hm : 0 ≤ m) (hne : m ≠ n) :
    readS (writeS d n no s).1 m no' = readS d m no' := by
  have hn := (touch_zero h).2.1
  unfold readS
  rw [write_touch h h0 h1 h2, writeS_ok h h0 h1 h2]
  simp only
  rw [getD_set_ne _ _ _ _ _ (by omega), getD_set_ne _ _ _ _ _ (by omega)]
theorem loseS_ok {d : Dev} {n : Int} (h : touchCode d n = 0) : loseS d n = ⟨d.sec, d.lost.set n.toNat true⟩ := by unfold loseS; rw [if_pos h]
theorem lose_may {d : Dev} {n : Int} (h : touchCode d n = 0) : devMay (loseS d n) = true := by
  rw [loseS_ok h]; exact devMay_lost (touch_zero h).1 _ (by simp)
theorem lose_len {d : Dev} {n : Int} (h : touchCode d n = 0) : (loseS d n).sec.length = d.sec.length := by rw [loseS_ok h]
theorem lose_touch {d : Dev} {n : Int} (h : touchCode d n = 0) (m : Int) : touchCode (loseS d n) m = touchCode d m := touchCode_congr (by rw [lose_may h, (touch_zero h).1]) (lose_len h) m
theorem read_lose {d : Dev} {n : Int} (h : touchCode d n = 0) (no : Int) : readS (loseS d n) n no = (.empty, 11) := by
  obtain ⟨hm, hn, hl⟩ := touch_zero h
  obtain ⟨m1, m2, m3, _⟩ := devMay_len hm
  rw [read_eq no (by rw [lose_touch h]; exact h), loseS_ok h]
  simp only
  rw [getD_set_self _ _ _ _ (by omega), if_pos rfl]
theorem read_lose_other {d : Dev} {n : Int} (h : touchCode d n = 0) (m no : Int) (hm : 0 ≤ m) (hne : m ≠ n) : readS (loseS d n) m no = readS d m no := by
  have hn := (touch_zero h).2.1
  unfold readS
  rw [lose_touch h, loseS_ok h]
  simp only
  rw [getD_set_ne _ _ _ _ _ (by omega)]
theorem turnS_ok {d : Dev} {n place by_ : Int} (h : touchCode d n = 0) (hp : 0 ≤ place ∧ place ≤ 29) (hb : 0 ≤ by_ ∧ by_ ≤ 255) : turnS d n place by_ = (⟨d.sec.set n.toNat (turnB (d.sec.getD n.toNat .empty) place by_), d.lost⟩, 0) := by
  unfold turnS
  rw [if_pos h, if_pos (by simp [inB]; omega)]
theorem getD_mem {α : Type} (l : List α) (k : Nat) (a : α) (h : k < l.length) : l.getD k a ∈ l := by
  rw [List.getD_eq_getElem?_getD, List.getElem?_eq_getElem h]; exact List.getElem_mem h
theorem turn_may {d : Dev} {n place by_ : Int} (h : touchCode d n = 0) (hp : 0 ≤ place ∧ place ≤ 29) (hb : 0 ≤ by_ ∧ by_ ≤ 255) : devMay (turnS d n place by_).1 = true ∧ (turnS d n place by_).1.sec.length = d.sec.length := by
  obtain ⟨hm, hn, hl⟩ := touch_zero h
  obtain ⟨m1, m2, m3, m4⟩ := devMay_len hm
  rw [turnS_ok h hp hb]
  refine ⟨devMay_set hm _ _ ?_ _ rfl, by simp⟩
  rw [turnB_size]
  exact m4 _ (getD_mem _ _ _ (by omega))
theorem turn_touch {d : Dev} {n place by_ : Int} (h : touchCode d n = 0) (hp : 0 ≤ place ∧ place ≤ 29) (hb : 0 ≤ by_ ∧ by_ ≤ 255) (m : Int) : touchCode (turnS d n place by_).1 m = touchCode d m := by
  have := turn_may h hp hb
  exact touchCode_congr (by rw [this.1, (touch_zero h).1]) this.2 m
theorem read_turn_other {d : Dev} {n place by_ : Int} (h : touchCode d n = 0) (hp : 0 ≤ place ∧ place ≤ 29) (hb : 0 ≤ by_ ∧ by_ ≤ 255) (m no : Int) (hm : 0 ≤ m) (hne : m ≠ n) : readS (turnS d n place by_).1 m no = readS d m no := by
  have hn := (touch_zero h).2.1
  unfold readS
  rw [turn_touch h hp hb, turnS_ok h hp hb]
  simp only
  rw [getD_set_ne _ _ _ _ _ (by omega)]
/-- A byte of a sound sector that is turned: the seal tells. -/
theorem read_turn {d : Dev} {n place by_ : Int} (h : touchCode d n = 0) (hp : 0 ≤ place ∧ place ≤ 29) (hb : 1 ≤ by_ ∧ by_ ≤ 255) (no no' : Int) (s : ByteArray) (h0 : 0 ≤ no) (h1 : no ≤ 65535) (h2 : s.size ≤ 24)
    (hs : d.sec.getD n.toNat .empty = (encodeS no s).1) (hl : d.lost.getD n.toNat false = false) : readS (turnS d n place by_).1 n no' = (.empty, 10) := by
  obtain ⟨hm, hn, hln⟩ := touch_zero h
  rw [read_eq no' (by rw [turn_touch h hp ⟨by omega, hb.2⟩]; exact h), turnS_ok h hp ⟨by omega, hb.2⟩]
  simp only
  rw [hl, if_neg (by decide), getD_set_self _ _ _ _ (by omega), hs]
  unfold turnB
  refine decode_spoilt no no' s h0 h1 h2 place.toNat (by omega) _ ?_
  intro he
  have := byte_toNat ((((at_ (encodeS no s).1 place.toNat).toNat : Int) + by_) % 256) (by omega) (by omega)
  rw [he] at this
  have hb2 := u8_bd (at_ (encodeS no s).1 place.toNat)
  omega
/-- A new device. -/
theorem fresh_len (many : Nat) (from_ : Int) : (freshDev many from_).sec.length = many := by unfold freshDev; simp
theorem fresh_sec (many : Nat) (from_ : Int) (k : Nat) (h : k < many) : (freshDev many from_).sec.getD k .empty = (encodeS (from_ + k) .empty).1 := by
  unfold freshDev
  simp only
  rw [List.getD_eq_getElem?_getD, List.getElem?_map, List.getElem?_range h]; rfl
theorem fresh_lost (many : Nat) (from_ : Int) (k : Nat) : (freshDev many from_).lost.getD k false = false := by
  unfold freshDev
  simp only
  rw [List.getD_eq_getElem?_getD, List.getElem?_replicate]
  split <;> rfl
theorem fresh_may (many : Nat) (from_ : Int) (h1 : 1 ≤ many) (h2 : many ≤ 64) (h3 : 0 ≤ from_) (h4 : from_ ≤ 512) : devMay (freshDev many from_) = true := by
  refine devMay_iff.2 ⟨by rw [fresh_len]; exact h1, by rw [fresh_len]; exact h2, by rw [fresh_len]; simp [freshDev], fun s hs => ?_⟩
  unfold freshDev at hs
  obtain ⟨i, hi, rfl⟩ := List.mem_map.1 hs
  have := List.mem_range.1 hi
  exact encodeS_size (by omega) (by omega) (by decide)
end Go.Proofs.YtgjijcgkmofaaaaDoor

/-
  Arrays in plain Lean: writing a sector, replacing a device, bad copies, healing; both ways of writing the parity are one. Conditions: none.
-/
namespace Go.Proofs.YtgjijcgkmofaaaaDoor
set_option linter.unusedSimpArgs false
set_option linter.unusedVariables false
open Go.RowKit

def writeP (a : List Dev) (n : Int) (s : ByteArray) : Dev := (writeS (dv a 2) (n / 2) (512 + n / 2) s).1
def parityS (a : List Dev) (n : Int) : List Dev :=
  if (mirrorS a n).2 ≠ 0 ∧ (mirrorS a (partner n)).2 ≠ 0 then a.set 2 (writeP a n (xorS (mirrorS a n).1 (mirrorS a (partner n)).1)) else a.set 2 (loseS (dv a 2) (n / 2))
/-- The other one of the two is written first, where the parity alone tells it. -/
def savedS (a : List Dev) (n : Int) : List Dev := if (arrReadS a (partner n)).2.2 = 0 ∧ (arrReadS a (partner n)).2.1 = 3 then bothS a (partner n) (arrReadS a (partner n)).1 else a
def arrWrite3 (a : List Dev) (n : Int) (s : ByteArray) : List Dev := parityS (bothS (savedS a n) n s) n
def arrWriteS (a : List Dev) (n : Int) (s : ByteArray) : List Dev × Int :=
  if arrTouch a n ≠ 0 then ([], arrTouch a n) else if 24 < s.size then ([], 1) else (arrWrite3 a n s, 0)
def lostDev (d : Dev) : Dev := ⟨d.sec, List.replicate d.lost.length true⟩
def replaceS (a : List Dev) (d : Int) : List Dev × Int :=
  if !arrMay a then ([], 9) else if !inB d 0 2 then ([], 2) else (a.set d.toNat (lostDev (if d = 2 then freshDev ((dv a 0).sec.length / 2) 512 else freshDev (dv a 0).sec.length 0)), 0)
def parRightS (a : List Dev) (n : Int) : Bool × Bool :=
  if (arrReadS a n).2.2 ≠ 0 ∨ (arrReadS a (partner n)).2.2 ≠ 0 then (false, false)
  else (decide ((parS a n).2 = 0) && decide (lst (parS a n).1 = lst (xorS (arrReadS a n).1 (arrReadS a (partner n)).1)), true)
def b2i (b : Bool) : Int := if b then 1 else 0
def badS (a : List Dev) (n : Int) : Int × Int :=
  if arrTouch a n ≠ 0 then (0, arrTouch a n)
  else (b2i (decide ((readS (dv a 0) n n).2 ≠ 0)) + b2i (decide ((readS (dv a 1) n n).2 ≠ 0)) + b2i (decide (n % 2 = 0) && !(parRightS a n).1), 0)
def healOne (a : List Dev) (k : Nat) (n : Int) (s : ByteArray) (how : Int) : List Dev × Int :=
  if (readS (dv a k) n n).2 = 0 ∧ (lst (readS (dv a k) n n).1 = lst s ∨ how ≠ 1) then (a, 0) else (a.set k (writeS (dv a k) n n s).1, 1)
def healPar (a : List Dev) (n : Int) (s : ByteArray) : List Dev × Int :=
  if (parRightS a n).2 = true ∧ (parRightS a n).1 = false then (a.set 2 (writeP a n (xorS s (arrReadS a (partner n)).1)), 1) else (a, 0)
def healS (a : List Dev) (n : Int) : List Dev × Int × Int :=
  if (arrReadS a n).2.2 ≠ 0 then ([], 0, (arrReadS a n).2.2)
  else
    let r := arrReadS a n
    let x := healOne a 0 n r.1 r.2.1
    let y := healOne x.1 1 n r.1 r.2.1
    let z := healPar y.1 n r.1
    (z.1, x.2 + y.2 + z.2, 0)
def healthLoop (a : List Dev) : Nat → Nat → Int → List Int → Int × List Int
  | 0, _, bad, gone => (bad, gone)
  | m + 1, k, bad, gone => healthLoop a m (k + 1) (bad + (badS a k).1) (if (arrReadS a k).2.2 ≠ 0 then gone ++ [(k : Int)] else gone)
def healthS (a : List Dev) : Int × List Int × Int :=
  if !arrMay a then (0, [], 9) else ((healthLoop a (dv a 0).sec.length 0 0 []).1, (healthLoop a (dv a 0).sec.length 0 0 []).2, 0)
/-- Streams. -/
def streamFaultS (a : List Dev) (first n : Int) : Int :=
  if !arrMay a then 9 else if !inB n 0 1536 then 1 else if !inB first 0 (dv a 0).sec.length || decide (((dv a 0).sec.length : Int) < first + (n + 23) / 24) then 2 else 0
def streamReadLoop (a : List Dev) : Nat → Int → ByteArray → ByteArray × Int
  | 0, _, s => (s, 0)
  | m + 1, k, s => if (arrReadS a k).2.2 ≠ 0 then (.empty, (arrReadS a k).2.2) else streamReadLoop a m (k + 1) (s ++ (arrReadS a k).1)
def streamReadS (a : List Dev) (first n : Int) : ByteArray × Int :=
  if streamFaultS a first n ≠ 0 then (.empty, streamFaultS a first n)
  else if (streamReadLoop a ((n + 23) / 24).toNat first .empty).2 ≠ 0 then (.empty, (streamReadLoop a ((n + 23) / 24).toNat first .empty).2)
  else ((streamReadLoop a ((n + 23) / 24).toNat first .empty).1.extract 0 n.toNat, 0)
def streamWriteLoop : Nat → Nat → List Dev → Int → ByteArray → List Dev
  | 0, _, a, _, _ => a
  | m + 1, i, a, first, s => streamWriteLoop m (i + 1) (arrWriteS a (first + i) (s.extract (24 * i) (min (24 * i + 24) s.size))).1 first s
def streamWriteS (a : List Dev) (first : Int) (s : ByteArray) : List Dev × Int :=
  if streamFaultS a first s.size ≠ 0 then ([], streamFaultS a first s.size) else (streamWriteLoop ((s.size + 23) / 24) 0 a first s, 0)

/-! An array that may be. -/
theorem arr_three {a : List Dev} (h : arrMay a = true) : ∃ d0 d1 d2, a = [d0, d1, d2] := by
  by_cases h3 : a.length = 3
  · exact three h3
  · rw [arrMay_len h3] at h; cases h
theorem arr_parts {a : List Dev} (h : arrMay a = true) : a.length = 3 ∧ devMay (dv a 0) = true ∧ devMay (dv a 1) = true ∧ devMay (dv a 2) = true ∧ 16 ≤ (dv a 0).sec.length ∧ (dv a 0).sec.length ≤ 64 ∧ (dv a 0).sec.length % 2 = 0 ∧
    (dv a 1).sec.length = (dv a 0).sec.length ∧ (dv a 2).sec.length = (dv a 0).sec.length / 2 := by
  obtain ⟨d0, d1, d2, rfl⟩ := arr_three h
  have h3 : [d0, d1, d2].length = 3 := rfl
  rw [arrMay_eq h3] at h
  simp only [Bool.and_eq_true, decide_eq_true_eq, List.getElem_cons_zero, List.getElem_cons_succ] at h
  obtain ⟨⟨⟨⟨⟨⟨g0, g1⟩, g2⟩, g3⟩, g4⟩, g5⟩, g6⟩ := h
  have := (devMay_len g0).2.1
  exact ⟨rfl, g0, g1, g2, g3, this, g4, g5, g6⟩
theorem arr_made {a : List Dev} (h3 : a.length = 3) (h0 : devMay (dv a 0) = true) (h1 : devMay (dv a 1) = true) (h2 : devMay (dv a 2) = true) (g1 : 16 ≤ (dv a 0).sec.length) (g2 : (dv a 0).sec.length % 2 = 0)
    (g3 : (dv a 1).sec.length = (dv a 0).sec.length) (g4 : (dv a 2).sec.length = (dv a 0).sec.length / 2) : arrMay a = true := by
  obtain ⟨d0, d1, d2, rfl⟩ := three h3
  rw [arrMay_eq h3]
  simp only [Bool.and_eq_true, decide_eq_true_eq, List.getElem_cons_zero, List.getElem_cons_succ]
  exact ⟨⟨⟨⟨⟨⟨h0, h1⟩, h2⟩, g1⟩, g2⟩, g3⟩, g4⟩
theorem arrTouch_zero {a : List Dev} {n : Int} : arrTouch a n = 0 ↔ arrMay a = true ∧ 0 ≤ n ∧ n < (dv a 0).sec.length := by
  unfold arrTouch
  constructor
  · intro h
    split at h
    · rename_i h1
      split at h
      · rename_i h2; have := inB_true h2; exact ⟨h1, this.1, by omega⟩
      · exact absurd h (by decide)
    · exact absurd h (by decide)
  · rintro ⟨h1, h2, h3⟩
    rw [if_pos h1, if_pos (by simp [inB]; omega)]
theorem partner_range {a : List Dev} {n : Int} (h : arrTouch a n = 0) : arrTouch a (partner n) = 0 ∧ 0 ≤ n / 2 ∧ n / 2 < (dv a 2).sec.length ∧ partner n ≠ n ∧ partner n / 2 = n / 2 ∧ 0 ≤ partner n ∧ partner n ≤ 63 ∧ 0 ≤ n ∧ n ≤ 63 ∧ partner (partner n) = n := by
  obtain ⟨hm, h0, h1⟩ := arrTouch_zero.1 h
  obtain ⟨_, _, _, _, g1, g2, g3, g4, g5⟩ := arr_parts hm
  have hp : partner n = n + 1 ∨ partner n = n - 1 := by unfold partner; split <;> omega
  have hr : 0 ≤ partner n ∧ partner n < (dv a 0).sec.length ∧ partner n ≠ n ∧ partner n / 2 = n / 2 := by unfold partner; split <;> omega
  refine ⟨arrTouch_zero.2 ⟨hm, hr.1, hr.2.1⟩, by omega, by omega, hr.2.2.1, hr.2.2.2, hr.1, by omega, h0, by omega, ?_⟩
  unfold partner
  split <;> split <;> omega
theorem arr_touches {a : List Dev} {n : Int} (h : arrTouch a n = 0) : touchCode (dv a 0) n = 0 ∧ touchCode (dv a 1) n = 0 ∧ touchCode (dv a 2) (n / 2) = 0 := by
  obtain ⟨hm, h0, h1⟩ := arrTouch_zero.1 h
  obtain ⟨_, m0, m1, m2, g1, g2, g3, g4, g5⟩ := arr_parts hm
  exact ⟨touch_iff.2 ⟨m0, h0, h1⟩, touch_iff.2 ⟨m1, h0, by omega⟩, touch_iff.2 ⟨m2, by omega, by omega⟩⟩
theorem dv_set_self {a : List Dev} {k : Nat} (h : k < a.length) (d : Dev) : dv (a.set k d) k = d := getD_set_self _ _ _ _ h
theorem dv_set_ne (a : List Dev) {k j : Nat} (h : k ≠ j) (d : Dev) : dv (a.set k d) j = dv a j := getD_set_ne _ _ _ _ _ h
end Go.Proofs.YtgjijcgkmofaaaaDoor

/-
  array.Read and the document's ArrayRead: what the mirrors tell of a sector, or the parity and its partner; the law ArrayReads. Conditions: the argument reads as an array.
-/
namespace Go.Proofs.YtgjijcgkmofaaaaDoor
set_option linter.unusedSimpArgs false
set_option linter.unusedVariables false
open Go.RowKit

theorem RArr.form {w : World} {cs : List Value} {a : List Dev} (h : RArr w cs a) : ∃ A c, cs = [.slice A a.length c] := by
  obtain ⟨v, rfl, h1⟩ := h
  obtain ⟨A, c, rfl, _⟩ := h1.rowR
  exact ⟨A, c, rfl⟩
/-- The cells of a device of an array. -/
theorem RArr.look {w : World} {A : Option Addr} {c : Nat} {a : List Dev} (h : RArr w [.slice A a.length c] a) : ∀ k0, k0 < a.length → ∃ b o, A = some ⟨b, o, none⟩ ∧ ∀ k, k < a.length → ∃ A1 c1 A2 c2,
    w.cell? ⟨b, o + k * 2, none⟩ = some (.slice A1 (dv a k).sec.length c1) ∧ w.cell? ⟨b, o + k * 2 + 1, none⟩ = some (.slice A2 (dv a k).lost.length c2) ∧ RDev w [.slice A1 (dv a k).sec.length c1, .slice A2 (dv a k).lost.length c2] (dv a k) := by
  obtain ⟨v, e, h1⟩ := h
  obtain ⟨A', c', rfl, _, _, hr⟩ := h1.rowR
  simp only [List.cons.injEq, Value.slice.injEq, and_true, true_and] at e
  obtain ⟨rfl, rfl⟩ := e
  intro k0 hk0
  obtain ⟨b, o, rfl, hcell⟩ := hr k0 hk0
  refine ⟨b, o, rfl, fun k hk => ?_⟩
  have hd : dv a k = a[k] := by unfold dv; rw [List.getD_eq_getElem?_getD, List.getElem?_eq_getElem hk]; rfl
  rw [hd]
  obtain ⟨cs, hl, hcs, hdd⟩ := hcell k hk
  obtain ⟨A1, c1, A2, c2, rfl⟩ := hdd.form
  exact ⟨A1, c1, A2, c2, hcs 0 _ rfl, hcs 1 _ rfl, hdd⟩
theorem n2_of {a : List Dev} {n : Int} (h : arrTouch a n = 0) : 0 ≤ n ∧ n ≤ 63 := by
  have := partner_range h
  exact ⟨this.2.2.2.2.2.2.2.1, this.2.2.2.2.2.2.2.2.1⟩

set_option maxRecDepth 100000 in
set_option maxHeartbeats 800000 in
theorem arrAt_any (cs : List Value) (a : List Dev) (n : Int) (w : World) (h : RArr w cs a) (hn : I64 n) :
    Calls Tryd.prog 39 #[.agg cs.toArray, .int .i64 n] w fun e w' => e = .returned (.int .i64 (arrTouch a n)) ∧ Ext w w' := by
  obtain ⟨A, c, rfl⟩ := h.form
  go_enter Tryd.func39, Tryd.ntmps39
  go_wp2_with fail
  refine calls_abs (fun W => Ext w W ∧ Blk_ W w.heap.size 25 #[.slice A a.length c]) ⟨(Ext.refl _).alloc _, Blk_.new _ _ _⟩ ?_
  rintro W ⟨hx, hb⟩
  refine (arrCheck_any [.slice A a.length c] a W (h.up hx)).mono ?_
  rintro e w1 ⟨rfl, hx1⟩
  have hb1 := hb.ext hx1
  have f0 := hb1.cell 0
  simp at f0
  have hr1 := h.up (hx.trans hx1)
  have HX := Lib.hid (hx.trans hx1)
  clear h hb hx hx1
  cases hm : arrMay a with
  | false =>
    have hf : arrTouch a n = 9 := by unfold arrTouch; rw [hm]; rfl
    have HF := Lib.hid hf
    rw [arrCode_false hm]
    clear hm hf hr1
    go_wp2_with fail
    go_ret
    exact ⟨ret_int HF.out.symm, HX.out⟩
  | true =>
    obtain ⟨p1, p2, _⟩ := arr_parts hm
    rw [arrCode_true hm]
    obtain ⟨b, o, rfl, hl⟩ := hr1.look 0 (by omega)
    obtain ⟨A1, c1, A2, c2, q0, q1, hd⟩ := hl 0 (by omega)
    simp only [Nat.zero_mul, Nat.add_zero] at q0 q1
    have h3 : (0 : Int) < (a.length : Int) := by omega
    have hlen := (devMay_len p2).2.1
    have hf2 : arrTouch a n = if inB n 0 (((dv a 0).sec.length : Int) - 1) then 0 else 6 := by unfold arrTouch; rw [hm]; rfl
    clear hm hl hr1 p1 p2 hb1
    generalize (dv a 0).sec.length = L at *
    by_cases k1 : n < 0
    · have hr : inB n 0 ((L : Int) - 1) = false := by simp [inB]; omega
      rw [hr] at hf2
      have HF := Lib.hid hf2
      have t1 : decide (n < 0) = true := by simpa using k1
      clear hr hf2 k1
      go_wp2_with fail
      go_ret
      exact ⟨ret_int HF.out.symm, HX.out⟩
    · have t1 : decide (n < 0) = false := by simpa using k1
      by_cases k2 : (L : Int) ≤ n
      · have t2 : decide ((L : Int) ≤ n) = true := by simpa using k2
        have hr : inB n 0 ((L : Int) - 1) = false := by simp [inB]; omega
        rw [hr] at hf2
        have HF := Lib.hid hf2
        clear hr hf2 k1 k2
        go_wp2_with fail
        go_ret
        exact ⟨ret_int HF.out.symm, HX.out⟩
      · have t2 : decide ((L : Int) ≤ n) = false := by simpa using k2
        have hr : inB n 0 ((L : Int) - 1) = true := by simp [inB]; omega
        rw [hr] at hf2
        have HF := Lib.hid hf2
        clear hr hf2 k1 k2
        go_wp2_with fail
        go_ret
        exact ⟨ret_int HF.out.symm, HX.out⟩

/-! What the mirrors tell. -/
def okB (p : ByteArray × Int) : Bool := decide (p.2 ≠ 0)
theorem mirror_hit {a : List Dev} {n : Int} (k : Nat) (hk : k < 2) (hall : ∀ j, j < k → (readS (dv a j) n n).2 ≠ 0) (h : (readS (dv a k) n n).2 = 0) : mirrorS a n = ((readS (dv a k) n n).1, (k : Int) + 1) := by
  unfold mirrorS
  match k, hk with
  | 0, _ => rw [if_pos h]; rfl
  | 1, _ => rw [if_neg (hall 0 (by omega)), if_pos h]; rfl
theorem mirror_miss {a : List Dev} {n : Int} (hall : ∀ j, j < 2 → (readS (dv a j) n n).2 ≠ 0) : mirrorS a n = (.empty, 0) := by
  unfold mirrorS
  rw [if_neg (hall 0 (by omega)), if_neg (hall 1 (by omega))]
set_option maxRecDepth 100000 in
set_option maxHeartbeats 800000 in
theorem mirror_any (cs : List Value) (a : List Dev) (n : Int) (w : World) (h : RArr w cs a) (h3 : a.length = 3) (hn : I64 n) :
    Calls Tryd.prog 44 #[.agg cs.toArray, .int .i64 n] w fun e w' => e = .returned (.tuple #[.string (mirrorS a n).1, .int .i64 (mirrorS a n).2, .bool (okB (mirrorS a n))]) ∧ Ext w w' := by
  obtain ⟨A, c, rfl⟩ := h.form
  have H3 := Lib.hid h3
  have h3i : (3 : Int) = (a.length : Int) := by omega
  have HN := Lib.hid hn
  clear h3
  go_enter Tryd.func44, Tryd.ntmps44
  go_wp2_with fail
  refine wp_abs (fun W => Ext w W ∧ Blk_ W w.heap.size 25 #[.slice A a.length c]) ⟨(Ext.refl _).alloc _, Blk_.new _ _ _⟩ ?_
  rintro W ⟨hx, hb⟩
  go_loopw [10] (fun i wr => ∃ k : Nat, i = .int .i64 k ∧ k ≤ 2 ∧ Ext w wr ∧ Blk_ wr w.heap.size 25 #[.slice A a.length c] ∧ ∀ j, j < k → (readS (dv a j) n n).2 ≠ 0) (fun i _ => 2 - (intOf i).toNat)
  case atStart => exact ⟨0, rfl, Nat.zero_le _, hx, hb, fun j hj => by omega⟩
  case round =>
    clear hx hb
    obtain ⟨k, rfl, hk, hx, hb, hall⟩ := hrel
    by_cases hlt : k < 2
    · obtain ⟨b, o, rfl, hl⟩ := h.look 0 (by have := H3.out; omega)
      obtain ⟨A1, c1, A2, c2, q0, q1, hd⟩ := hl k (by have := H3.out; omega)
      have q0' := hx.cell q0
      have q1' := hx.cell q1
      have f0 := hb.cell 0
      simp at f0
      have hk2 : (k : Int) < 2 := by omega
      have hk3 : (k : Int) < (a.length : Int) := by have := H3.out; omega
      have HALL := Lib.hid hall
      have HH := Lib.hid h
      have HD := Lib.hid hd
      clear hl q0 q1 hall hd h
      go_wp2_with fail
      refine calls_abs (fun W => Ext wr W) (by first | exact Ext.refl _ | exact (Ext.refl _).alloc _) ?_
      intro W1 hx1
      refine (devRead_any [.slice A1 (dv a k).sec.length c1, .slice A2 (dv a k).lost.length c2] (dv a k) n n W1 (HD.out.up (hx.trans hx1)) HN.out HN.out).mono ?_
      rintro e w2 ⟨rfl, hx2⟩
      have HX2 := Lib.hid ((hx.trans hx1).trans hx2)
      have HB2 := Lib.hid ((hb.ext hx1).ext hx2)
      clear f0 q0' q1' hx hx1 hx2 hb HD
      by_cases hc : (readS (dv a k) n n).2 = 0
      · have HM := Lib.hid (mirror_hit k hlt HALL.out hc)
        rw [hc]
        clear hc
        generalize (readS (dv a k) n n).1 = s at *
        go_wp2_with fail
        go_ret3
        refine ⟨?_, HX2.out⟩
        rw [HM.out]
        have : okB (s, (k : Int) + 1) = true := by unfold okB; simp; omega
        rw [this]
        rfl
      · have hc' : ((readS (dv a k) n n).2 == 0) = false := by simpa using hc
        have HC := Lib.hid hc
        clear hc
        generalize ht : (readS (dv a k) n n).2 = t at *
        have HT := Lib.hid ht
        clear ht
        go_wp2_with fail
        go_roundw
        case rel =>
          refine ⟨k + 1, by go_num, by omega, HX2.out, HB2.out, fun j hj => ?_⟩
          by_cases hje : j = k
          · subst hje; rw [HT.out]; exact HC.out
          · exact HALL.out j (by omega)
        case measure => simp [intOf]; omega
    · obtain rfl : k = 2 := by omega
      have HM := Lib.hid (mirror_miss hall)
      clear hall hb
      go_wp2_with fail
      go_ret3
      rw [HM.out]
      exact ⟨rfl, hx⟩

theorem partner_xor (n : Int) (h0 : 0 ≤ n) (h1 : n ≤ 63) : bits .xor .i64 n 1 = partner n := by
  obtain ⟨k, rfl⟩ := Int.eq_ofNat_of_zero_le h0
  have hk : k < 64 := by omega
  clear h0 h1
  revert k
  decide +kernel
theorem read_bad {a : List Dev} {n : Int} (h : arrTouch a n ≠ 0) : arrReadS a n = (.empty, 0, arrTouch a n) := by unfold arrReadS; rw [if_pos h]
theorem read_mir {a : List Dev} {n : Int} (h : arrTouch a n = 0) (h2 : (mirrorS a n).2 ≠ 0) : arrReadS a n = ((mirrorS a n).1, (mirrorS a n).2, 0) := by unfold arrReadS; rw [if_neg (by simpa using h), if_pos h2]
theorem read_lost {a : List Dev} {n : Int} (h : arrTouch a n = 0) (h2 : (mirrorS a n).2 = 0) (h3 : (mirrorS a (partner n)).2 = 0 ∨ (parS a n).2 ≠ 0) : arrReadS a n = (.empty, 0, 11) := by
  unfold arrReadS; rw [if_neg (by simpa using h), if_neg (by simpa using h2), if_pos h3]
theorem read_par {a : List Dev} {n : Int} (h : arrTouch a n = 0) (h2 : (mirrorS a n).2 = 0) (h3 : (mirrorS a (partner n)).2 ≠ 0) (h4 : (parS a n).2 = 0) : arrReadS a n = (xorS (parS a n).1 (mirrorS a (partner n)).1, 3, 0) := by
  unfold arrReadS; rw [if_neg (by simpa using h), if_neg (by simpa using h2), if_neg (by rintro (h | h); exact h3 h; exact h h4)]
theorem okB_true {p : ByteArray × Int} (h : p.2 ≠ 0) : okB p = true := by unfold okB; simpa using h
theorem okB_false {p : ByteArray × Int} (h : p.2 = 0) : okB p = false := by unfold okB; simpa using h
theorem mirror_range (a : List Dev) (n : Int) : (mirrorS a n).2 = 0 ∨ (mirrorS a n).2 = 1 ∨ (mirrorS a n).2 = 2 := by
  unfold mirrorS
  split
  · exact .inr (.inl rfl)
  · split
    · exact .inr (.inr rfl)
    · exact .inl rfl
set_option maxRecDepth 100000 in
set_option maxHeartbeats 800000 in
theorem arrRead_any (cs : List Value) (a : List Dev) (n : Int) (w : World) (h : RArr w cs a) (hn : I64 n) :
    Calls Tryd.prog 24 #[.agg cs.toArray, .int .i64 n] w fun e w' => e = .returned (.tuple #[.string (arrReadS a n).1, .int .i64 (arrReadS a n).2.1, .int .i64 (arrReadS a n).2.2]) ∧ Ext w w' := by
  obtain ⟨A, c, rfl⟩ := h.form
  go_enter Tryd.func24, Tryd.ntmps24
  go_wp2_with fail
  refine calls_abs (fun W => Ext w W ∧ Blk_ W w.heap.size 25 #[.slice A a.length c]) ⟨(Ext.refl _).alloc _, Blk_.new _ _ _⟩ ?_
  rintro W ⟨hx, hb⟩
  refine (arrAt_any [.slice A a.length c] a n W (h.up hx) hn).mono ?_
  rintro e w1 ⟨rfl, hx1⟩
  have hb1 := hb.ext hx1
  have f0 := hb1.cell 0
  simp at f0
  have hr1 := h.up (hx.trans hx1)
  have hxw := hx.trans hx1
  clear h hb hx hx1
  by_cases ht : arrTouch a n = 0
  · obtain ⟨n0, n63⟩ := n2_of ht
    have h3 := (arr_parts (arrTouch_zero.1 ht).1).1
    rw [ht]
    have HT := Lib.hid ht
    have HN := Lib.hid hn
    have H3 := Lib.hid h3
    have HNN := Lib.hid (And.intro n0 n63)
    clear ht hn h3 n0 n63
    go_wp2_with fail
    refine (mirror_any [.slice A a.length c] a n _ hr1 H3.out HN.out).mono ?_
    rintro e w2 ⟨rfl, hx2⟩
    by_cases hm : (mirrorS a n).2 = 0
    · rw [okB_false hm]
      have hb2 := hb1.ext hx2
      have f02 := hb2.cell 0
      simp at f02
      have hr2 := hr1.up hx2
      have hxw2 := hxw.trans hx2
      obtain ⟨b, o, rfl, hl⟩ := hr2.look 0 (by have := H3.out; omega)
      obtain ⟨A1, c1, A2, c2, q0, q1, hd⟩ := hl 2 (by have := H3.out; omega)
      simp at q0 q1
      have h3i : (2 : Int) < (a.length : Int) := by have := H3.out; omega
      obtain ⟨n0, n63⟩ := HNN.out
      have HM := Lib.hid hm
      have HX2 := Lib.hid hxw2
      have HR2 := Lib.hid hr2
      have HB2 := Lib.hid hb2
      have HD := Lib.hid hd
      clear hb1 f0 hr1 hxw hx2 hl hm hxw2 hr2 hb2 hd
      have HM2 := Lib.hid (show (mirrorS a n).2 = 0 from HM.out)
      generalize (mirrorS a n).1 = s1
      generalize (mirrorS a n).2 = s2
      go_wp2_with fail
      refine calls_abs (fun W => Ext w2 W) (by first | exact Ext.refl _ | exact (Ext.refl _).alloc _) ?_
      intro W3 hx3
      refine (devRead_any [.slice A1 (dv a 2).sec.length c1, .slice A2 (dv a 2).lost.length c2] (dv a 2) (n / 2) (512 + n / 2) W3 (HD.out.up hx3) ⟨by omega, by omega⟩ ⟨by omega, by omega⟩).mono ?_
      rintro e w4 ⟨rfl, hx4⟩
      have hb4 := (HB2.out.ext hx3).ext hx4
      have f04 := hb4.cell 0
      simp at f04
      have HX4 := Lib.hid (HX2.out.trans (hx3.trans hx4))
      have HR4 := Lib.hid (HR2.out.up (hx3.trans hx4))
      have HPX := Lib.hid (partner_xor n n0 n63)
      clear q0 q1 f02 hx3 hx4 hb4
      go_wp2_with fail
      rw [HPX.out]
      refine (mirror_any [.slice (some ⟨b, o, none⟩) a.length c] a (partner n) _ HR4.out H3.out ⟨by have := partner_range HT.out; omega, by have := partner_range HT.out; omega⟩).mono ?_
      rintro e w5 ⟨rfl, hx5⟩
      have HX5 := Lib.hid (HX4.out.trans hx5)
      clear hx5 f04
      by_cases hp : (readS (dv a 2) (n / 2) (512 + n / 2)).2 = 0
      · rw [hp]
        by_cases hq : (mirrorS a (partner n)).2 = 0
        · rw [okB_false hq]
          have HF := Lib.hid (read_lost HT.out HM2.out (.inl hq))
          clear hp hq
          go_wp2_with fail
          go_ret3
          rw [HF.out]
          exact ⟨rfl, HX5.out⟩
        · rw [okB_true hq]
          have HF := Lib.hid (read_par HT.out HM2.out hq hp)
          have hsz : (parS a n).1.size = (mirrorS a (partner n)).1.size := by rw [mirrorS_size hq, show (parS a n).1.size = 24 from readS_size hp]
          have hs24 : (parS a n).1.size = 24 := readS_size hp
          have HZ := Lib.hid (And.intro hsz hs24)
          have hpar : readS (dv a 2) (n / 2) (512 + n / 2) = parS a n := rfl
          rw [hpar]
          clear hp hq hsz hs24 hpar
          generalize hP : (parS a n).1 = P at *
          generalize hQ : (mirrorS a (partner n)).1 = Q at *
          clear hP hQ
          go_wp2_with fail
          refine (xor_any P Q _ HZ.out.1 (by have := HZ.out.2; omega)).mono ?_
          rintro e w6 ⟨rfl, hx6⟩
          have HX6 := Lib.hid (HX5.out.trans hx6)
          clear hx6
          go_wp2_with fail
          go_ret3
          rw [HF.out]
          exact ⟨rfl, HX6.out⟩
      · have hp' : ((readS (dv a 2) (n / 2) (512 + n / 2)).2 != 0) = true := by simpa using hp
        have HF := Lib.hid (read_lost HT.out HM2.out (.inr hp))
        clear hp
        generalize (readS (dv a 2) (n / 2) (512 + n / 2)).2 = tp at *
        go_wp2_with fail
        go_ret3
        rw [HF.out]
        exact ⟨rfl, HX5.out⟩
    · rw [okB_true hm]
      have HF := Lib.hid (read_mir HT.out hm)
      clear hm hb1 hr1 f0
      have HX2 := Lib.hid (hxw.trans hx2)
      clear hxw hx2
      generalize (mirrorS a n).1 = s1 at *
      generalize (mirrorS a n).2 = s2 at *
      go_wp2_with fail
      go_ret3
      rw [HF.out]
      exact ⟨rfl, HX2.out⟩
  · have HF := Lib.hid (read_bad ht)
    have ht' : (arrTouch a n != 0) = true := by simpa using ht
    clear ht hr1 hb1
    generalize arrTouch a n = t at *
    go_wp2_with fail
    go_ret3
    rw [HF.out]
    exact ⟨rfl, hxw⟩

end Go.Proofs.YtgjijcgkmofaaaaDoor

/-
  stream.Read and the document's StreamRead: bytes over sectors, one behind the other; the law StreamReads. Conditions: the argument reads as an array.
-/
namespace Go.Proofs.YtgjijcgkmofaaaaDoor
set_option linter.unusedSimpArgs false
set_option linter.unusedVariables false
open Go.RowKit

theorem fault_state {a : List Dev} {first n : Int} (h : arrMay a = false) : streamFaultS a first n = 9 := by unfold streamFaultS; rw [h]; rfl
theorem fault_size {a : List Dev} {first n : Int} (h : arrMay a = true) (h2 : ¬ (0 ≤ n ∧ n ≤ 1536)) : streamFaultS a first n = 1 := by
  unfold streamFaultS; rw [h, if_neg (by decide), if_pos (by simp [inB]; omega)]
theorem fault_range {a : List Dev} {first n : Int} (h : arrMay a = true) (h2 : 0 ≤ n ∧ n ≤ 1536) (h3 : first < 0 ∨ ((dv a 0).sec.length : Int) < first ∨ ((dv a 0).sec.length : Int) - first < (n + 23) / 24) : streamFaultS a first n = 2 := by
  unfold streamFaultS; rw [h, if_neg (by decide), if_neg (by simp [inB]; omega), if_pos (by simp [inB]; omega)]
theorem fault_none {a : List Dev} {first n : Int} (h : arrMay a = true) (h2 : 0 ≤ n ∧ n ≤ 1536) (h3 : ¬ (first < 0 ∨ ((dv a 0).sec.length : Int) < first ∨ ((dv a 0).sec.length : Int) - first < (n + 23) / 24)) : streamFaultS a first n = 0 := by
  unfold streamFaultS; rw [h, if_neg (by decide), if_neg (by simp [inB]; omega), if_neg (by simp [inB]; omega)]
theorem fault_zero {a : List Dev} {first n : Int} (h : streamFaultS a first n = 0) : arrMay a = true ∧ 0 ≤ n ∧ n ≤ 1536 ∧ 0 ≤ first ∧ first + (n + 23) / 24 ≤ (dv a 0).sec.length := by
  cases hm : arrMay a with
  | false => rw [fault_state hm] at h; exact absurd h (by decide)
  | true =>
    by_cases h2 : 0 ≤ n ∧ n ≤ 1536
    · by_cases h3 : first < 0 ∨ ((dv a 0).sec.length : Int) < first ∨ ((dv a 0).sec.length : Int) - first < (n + 23) / 24
      · rw [fault_range hm h2 h3] at h; exact absurd h (by decide)
      · exact ⟨rfl, h2.1, h2.2, by omega, by omega⟩
    · rw [fault_size hm h2] at h; exact absurd h (by decide)

theorem sread_bad {a : List Dev} {first n : Int} (h : streamFaultS a first n ≠ 0) : streamReadS a first n = (.empty, streamFaultS a first n) := by unfold streamReadS; rw [if_pos h]
theorem sread_lost {a : List Dev} {first n : Int} {e : Int} (h : streamFaultS a first n = 0) (h2 : streamReadLoop a ((n + 23) / 24).toNat first .empty = (.empty, e)) (h3 : e ≠ 0) : streamReadS a first n = (.empty, e) := by
  unfold streamReadS; rw [if_neg (by simpa using h), h2, if_pos h3]
theorem sread_good {a : List Dev} {first n : Int} {s : ByteArray} (h : streamFaultS a first n = 0) (h2 : streamReadLoop a ((n + 23) / 24).toNat first .empty = (s, 0)) : streamReadS a first n = (s.extract 0 n.toNat, 0) := by
  unfold streamReadS; rw [if_neg (by simpa using h), h2, if_neg (by simp)]
theorem loop_lost {a : List Dev} {m : Nat} {k : Int} {s : ByteArray} (h : (arrReadS a k).2.2 ≠ 0) : streamReadLoop a (m + 1) k s = (.empty, (arrReadS a k).2.2) := by
  unfold streamReadLoop; rw [if_pos h]
theorem loop_next {a : List Dev} {m : Nat} {k : Int} {s : ByteArray} (h : (arrReadS a k).2.2 = 0) : streamReadLoop a (m + 1) k s = streamReadLoop a m (k + 1) (s ++ (arrReadS a k).1) := by
  rw [streamReadLoop, if_neg (by simpa using h)]

end Go.Proofs.YtgjijcgkmofaaaaDoor

/-
  Both ways of writing the parity are one: what the mirrors tell after they were written. In plain Lean. Conditions: the sector may be touched, the payload is no longer than a payload may be.
-/
namespace Go.Proofs.YtgjijcgkmofaaaaDoor
set_option linter.unusedSimpArgs false
set_option linter.unusedVariables false
open Go.RowKit

theorem padS_full {s : ByteArray} (h : s.size = 24) : padS s = s := by
  unfold padS; rw [h]; simp
/-- An array that may be, and stays one. -/
structure Good (a : List Dev) (m : Nat) : Prop where
  len : a.length = 3
  m0 : devMay (dv a 0) = true
  m1 : devMay (dv a 1) = true
  m2 : devMay (dv a 2) = true
  l0 : (dv a 0).sec.length = m
  l1 : (dv a 1).sec.length = m
  l2 : (dv a 2).sec.length = m / 2
theorem Good.of {a : List Dev} (h : arrMay a = true) : Good a (dv a 0).sec.length := by
  obtain ⟨h1, h2, h3, h4, _, _, _, h5, h6⟩ := arr_parts h
  exact ⟨h1, h2, h3, h4, rfl, h5, h6⟩
theorem Good.touch {a : List Dev} {m : Nat} (h : Good a m) {n : Int} (h0 : 0 ≤ n) (h1 : n < m) : touchCode (dv a 0) n = 0 ∧ touchCode (dv a 1) n = 0 :=
  ⟨touch_iff.2 ⟨h.m0, h0, by rw [h.l0]; exact h1⟩, touch_iff.2 ⟨h.m1, h0, by rw [h.l1]; exact h1⟩⟩
theorem bothS_dv {a : List Dev} (h : a.length = 3) (n : Int) (s : ByteArray) : dv (bothS a n s) 0 = (writeS (dv a 0) n n s).1 ∧ dv (bothS a n s) 1 = (writeS (dv a 1) n n s).1 ∧ dv (bothS a n s) 2 = dv a 2 ∧ (bothS a n s).length = 3 := by
  unfold bothS
  refine ⟨?_, ?_, ?_, by simp [h]⟩
  · rw [dv_set_ne _ (by decide), dv_set_self (by omega)]
  · rw [dv_set_self (by simp; omega)]
  · rw [dv_set_ne _ (by decide), dv_set_ne _ (by decide)]
theorem Good.both {a : List Dev} {m : Nat} (h : Good a m) {n : Int} (h0 : 0 ≤ n) (h1 : n < m) {s : ByteArray} (hm : m ≤ 64) (hs : s.size ≤ 24) : Good (bothS a n s) m := by
  obtain ⟨t0, t1⟩ := h.touch h0 h1
  obtain ⟨e0, e1, e2, e3⟩ := bothS_dv h.len n s
  have w0 := write_may (no := n) t0 (by omega) (by omega) hs
  have w1 := write_may (no := n) t1 (by omega) (by omega) hs
  exact ⟨e3, by rw [e0]; exact w0.1, by rw [e1]; exact w1.1, by rw [e2]; exact h.m2, by rw [e0, w0.2, h.l0], by rw [e1, w1.2, h.l1], by rw [e2, h.l2]⟩
/-- What the mirrors tell of a sector that was written. -/
theorem mirror_both {a : List Dev} {m : Nat} (h : Good a m) {n : Int} (h0 : 0 ≤ n) (h1 : n < m) {s : ByteArray} (hm : m ≤ 64) (hs : s.size ≤ 24) : mirrorS (bothS a n s) n = (padS s, 1) := by
  obtain ⟨t0, t1⟩ := h.touch h0 h1
  obtain ⟨e0, e1, e2, e3⟩ := bothS_dv h.len n s
  unfold mirrorS
  rw [e0, read_write t0 (by omega) (by omega) hs, if_pos rfl]
  rfl
/-- And of another one. -/
theorem mirror_both_other {a : List Dev} {m : Nat} (h : Good a m) {n p : Int} (h0 : 0 ≤ n) (h1 : n < m) {s : ByteArray} (hm : m ≤ 64) (hs : s.size ≤ 24) (hp : 0 ≤ p) (hne : p ≠ n) : mirrorS (bothS a n s) p = mirrorS a p := by
  obtain ⟨t0, t1⟩ := h.touch h0 h1
  obtain ⟨e0, e1, e2, e3⟩ := bothS_dv h.len n s
  unfold mirrorS
  rw [e0, e1, read_write_other t0 (by omega) (by omega) hs p p hp hne, read_write_other t1 (by omega) (by omega) hs p p hp hne]
theorem mirror_two (a : List Dev) (n : Int) : (mirrorS a n).2 = 0 ∨ (mirrorS a n).2 = 1 ∨ (mirrorS a n).2 = 2 := by
  unfold mirrorS
  split
  · exact .inr (.inl rfl)
  · split
    · exact .inr (.inr rfl)
    · exact .inl rfl
theorem arrRead_cases {a : List Dev} {n : Int} (h : arrTouch a n = 0) :
    ((mirrorS a n).2 ≠ 0 ∧ arrReadS a n = ((mirrorS a n).1, (mirrorS a n).2, 0)) ∨ ((mirrorS a n).2 = 0 ∧ arrReadS a n = (.empty, 0, 11)) ∨ ((mirrorS a n).2 = 0 ∧ arrReadS a n = (xorS (parS a n).1 (mirrorS a (partner n)).1, 3, 0)) := by
  unfold arrReadS
  rw [if_neg (by simpa using h)]
  by_cases h1 : (mirrorS a n).2 = 0
  · right
    rw [if_neg (by simpa using h1)]
    split
    · exact .inl ⟨h1, rfl⟩
    · exact .inr ⟨h1, rfl⟩
  · left
    rw [if_pos h1]
    exact ⟨h1, rfl⟩
def writtenS (a : List Dev) (n : Int) (s : ByteArray) : List Dev :=
  (bothS (savedS a n) n s).set 2 (if (arrReadS a (partner n)).2.2 = 0 then (writeS (dv (bothS (savedS a n) n s) 2) (n / 2) (512 + n / 2) (xorS (padS s) (arrReadS a (partner n)).1)).1 else loseS (dv (bothS (savedS a n) n s) 2) (n / 2))
theorem written_eq {a : List Dev} {n : Int} {s : ByteArray} (h : arrTouch a n = 0) (hs : s.size ≤ 24) : arrWrite3 a n s = writtenS a n s := by
  obtain ⟨hm, h0, h1⟩ := arrTouch_zero.1 h
  obtain ⟨p1, p2, p3, p4, p5, p6, p7, p8, p9, p10⟩ := partner_range h
  have hg := Good.of hm
  have h64 := (arr_parts hm).2.2.2.2.2.1
  have hpm : partner n < (dv a 0).sec.length := (arrTouch_zero.1 p1).2.2
  unfold arrWrite3 writtenS
  have key : ∀ b : List Dev, Good b (dv a 0).sec.length → mirrorS b (partner n) = (if (arrReadS a (partner n)).2.2 = 0 then ((arrReadS a (partner n)).1, (mirrorS b (partner n)).2) else (.empty, 0)) → ((arrReadS a (partner n)).2.2 = 0 → (mirrorS b (partner n)).2 ≠ 0) →
      parityS (bothS b n s) n = (bothS b n s).set 2 (if (arrReadS a (partner n)).2.2 = 0 then (writeS (dv (bothS b n s) 2) (n / 2) (512 + n / 2) (xorS (padS s) (arrReadS a (partner n)).1)).1 else loseS (dv (bothS b n s) 2) (n / 2)) := by
    intro b hb hmb hne
    have e1 := mirror_both hb h0 h1 h64 hs
    have e2 := mirror_both_other hb h0 h1 h64 hs p6 p4
    unfold parityS writeP
    rw [e1, e2]
    by_cases hc : (arrReadS a (partner n)).2.2 = 0
    · rw [if_pos hc] at hmb
      rw [if_pos ⟨by show (1 : Int) ≠ 0; decide, hne hc⟩, if_pos hc, hmb]
    · rw [if_neg hc] at hmb
      rw [if_neg (by rw [hmb]; rintro ⟨_, h⟩; exact h rfl), if_neg hc]
  unfold savedS
  rcases arrRead_cases p1 with ⟨c1, c2⟩ | ⟨c1, c2⟩ | ⟨c1, c2⟩
  · have h3 : ¬ ((arrReadS a (partner n)).2.2 = 0 ∧ (arrReadS a (partner n)).2.1 = 3) := by
      rw [c2]
      rintro ⟨_, h⟩
      simp only at h
      rcases mirror_two a (partner n) with h' | h' | h' <;> omega
    rw [if_neg h3]
    refine key a hg ?_ (fun _ => c1)
    rw [c2, if_pos rfl]
  · have h3 : ¬ ((arrReadS a (partner n)).2.2 = 0 ∧ (arrReadS a (partner n)).2.1 = 3) := by rw [c2]; rintro ⟨h, _⟩; exact absurd h (by decide)
    rw [if_neg h3]
    refine key a hg ?_ (fun h => by rw [c2] at h; exact absurd h (by decide))
    rw [c2, if_neg (by decide)]
    unfold mirrorS at c1 ⊢
    split
    · rename_i hh; rw [if_pos hh] at c1; exact absurd c1 (by show ¬ (1 : Int) = 0; decide)
    · rename_i hh
      rw [if_neg hh] at c1
      split
      · rename_i hh2; rw [if_pos hh2] at c1; exact absurd c1 (by show ¬ (2 : Int) = 0; decide)
      · rfl
  · have h24 : (arrReadS a (partner n)).1.size = 24 := arrReadS_size (by rw [c2])
    have hr0 : (arrReadS a (partner n)).2.2 = 0 := by rw [c2]
    have hr3 : (arrReadS a (partner n)).2.1 = 3 := by rw [c2]
    rw [if_pos ⟨hr0, hr3⟩]
    have hgb := hg.both p6 hpm h64 (s := (arrReadS a (partner n)).1) (by omega)
    have e := mirror_both hg p6 hpm h64 (s := (arrReadS a (partner n)).1) (by omega)
    refine key _ hgb ?_ (fun _ => by rw [e]; show (1 : Int) ≠ 0; decide)
    rw [if_pos hr0, e, padS_full h24]
theorem arrTouch_good {a : List Dev} {n : Int} (h : arrTouch a n = 0) : Good a (dv a 0).sec.length := Good.of (arrTouch_zero.1 h).1
end Go.Proofs.YtgjijcgkmofaaaaDoor

/-
  A row of devices of the call's own, as it stands in memory: its cells, what may be stored, and what stays. Conditions: none.
-/
namespace Go.Proofs.YtgjijcgkmofaaaaDoor
set_option linter.unusedSimpArgs false
set_option linter.unusedVariables false
open Go.RowKit

theorem Ext.by_ {w w' : World} (h : Ext w w') (row : Option Nat) : w.grownBy w' row := ⟨h.below.os, h.below.tape, h.below.output, h.below.size, fun k hk _ => Below.block h.below k hk⟩
theorem setRow_by (w : World) (g i : Nat) (u : Value) : w.grownBy (w.setCell ⟨g, i, none⟩ u) (some g) :=
  ⟨rfl, rfl, rfl, by simp, fun k hk hne => Below.heap_setCell w ⟨g, i, none⟩ u k (fun e => hne (by rw [e]))⟩
/-- Three devices of the call's own: what stands in the row. -/
theorem OArr.at_ {E : TypeId} {w : World} {base : Nat} {A : Option Addr} {n c : Nat} {a : List Dev} (h : OArr E w base (.slice A n c) a) (hl : a.length = 3) :
    ∃ g, A = some ⟨g, 0, none⟩ ∧ base ≤ g ∧ g < w.heap.size ∧ (∀ k, w.frozen? ⟨g, k, none⟩ = false) ∧ ∀ k, k < 3 → ∃ A1 c1 A2 c2,
      w.cell? ⟨g, k * 2, none⟩ = some (.slice A1 (dv a k).sec.length c1) ∧ w.cell? ⟨g, k * 2 + 1, none⟩ = some (.slice A2 (dv a k).lost.length c2) ∧ RDev w [.slice A1 (dv a k).sec.length c1, .slice A2 (dv a k).lost.length c2] (dv a k) := by
  have hn : n = a.length := by
    obtain ⟨vs, _, ho, _⟩ := h
    have := ho.2
    rcases this with ⟨hv, h0⟩ | ⟨g, cap, cur, hv, _⟩
    · omega
    · injection hv
  subst hn
  have hr := h.rarr (by omega)
  obtain ⟨b, o, hA, hlook⟩ := hr.look 0 (by omega)
  obtain ⟨vs, hvl, ho, _⟩ := h
  have ho' := ho
  rcases ho.2 with ⟨hv, h0⟩ | ⟨g, cap, cur, hv, hb, hg, _⟩
  · omega
  · injection hv with a1 a2 a3
    subst a1
    have hbo : b = g ∧ o = 0 := by injection hA with hA; injection hA with x1 x2; exact ⟨x1.symm, x2.symm⟩
    obtain ⟨rfl, rfl⟩ := hbo
    refine ⟨b, rfl, hb, (ho'.lt b rfl).2, fun k => ho'.frozenAt k, fun k hk => ?_⟩
    obtain ⟨A1, c1, A2, c2, q0, q1, hd⟩ := hlook k (by omega)
    rw [Nat.zero_add] at q0 q1
    exact ⟨A1, c1, A2, c2, q0, q1, hd⟩
theorem OArr.atg {E : TypeId} {w : World} {base g n c : Nat} {a : List Dev} (h : OArr E w base (.slice (some ⟨g, 0, none⟩) n c) a) (hl : a.length = 3) :
    base ≤ g ∧ g < w.heap.size ∧ (∀ k, w.frozen? ⟨g, k, none⟩ = false) ∧ ∀ k, k < 3 → ∃ A1 c1 A2 c2,
      w.cell? ⟨g, k * 2, none⟩ = some (.slice A1 (dv a k).sec.length c1) ∧ w.cell? ⟨g, k * 2 + 1, none⟩ = some (.slice A2 (dv a k).lost.length c2) ∧ RDev w [.slice A1 (dv a k).sec.length c1, .slice A2 (dv a k).lost.length c2] (dv a k) := by
  obtain ⟨g', hg, r⟩ := h.at_ hl
  obtain rfl : g = g' := by injection hg with hg; injection hg
  exact r
theorem dv_len3 {a : List Dev} {k : Nat} {d : Dev} (h : a.length = 3) : (a.set k d).length = 3 := by simp [h]
end Go.Proofs.YtgjijcgkmofaaaaDoor
