/-
  Bytes of which one is another one have another seal; a sector is read as it was written; spoilt it is not. In plain Lean. Conditions: none.
-/
import Derived.Test.YtjadmfdlggnlgaaGreatDoorV5
namespace Go.Proofs.YtjadmfdlggnlgaaGreatDoor
set_option linter.unusedSimpArgs false
set_option linter.unusedVariables false
set_option maxRecDepth 100000
set_option maxHeartbeats 8000000
open Go.RowKit
theorem byte_toNat (n : Int) (h0 : 0 ≤ n) (h1 : n < 256) : ((byte n).toNat : Int) = n := by
 unfold byte
 rw [UInt8.toNat_ofNat']
 omega
def padS (s : ByteArray) : ByteArray := bs (lst s ++ List.replicate (24 - s.size) 0)
theorem padS_size {s : ByteArray} (h : s.size ≤ 24) : (padS s).size = 24 := by
 unfold padS; rw [size_bs, List.length_append, List.length_replicate, length_lst]; omega
theorem lst_extract (s : ByteArray) (a b : Nat) : lst (s.extract a b) = sub_ s a b := by
 unfold lst sub_
 rw [ByteArray.data_extract, Array.toList_extract]
 simp [List.extract, List.drop_take, lst]
theorem sectorNo_at (s : ByteArray) (h : 2 ≤ s.size) : sectorNo s h = 256 * ((at_ s 0).toNat : Int) + ((at_ s 1).toNat : Int) := by
 unfold sectorNo; rw [at_eq s 0 (by omega), at_eq s 1 (by omega)]
theorem decodeS_eq (no : Int) (s : ByteArray) : decodeS no s = if s.size = 30 then (if sealOf ((lst s).take 26) = (lst s).drop 26 then (if 256 * ((at_ s 0).toNat : Int) + ((at_ s 1).toNat : Int) = no then (bs (((lst s).take 26).drop 2), 0) else (.empty, 4)) else (.empty, 10)) else (.empty, 1) := by
 unfold decodeS
 by_cases h : s.size = 30
 ·rw [dif_pos h, if_pos h, sectorNo_at]
  have e1 : lst (s.extract 0 26) = (lst s).take 26 := by rw [lst_extract]; rfl
  have e2 : (s.extract 26 s.size).toList = (lst s).drop 26 := by rw [toList_lst, lst_extract]; unfold sub_; rw [take_all]
  have e3 : s.extract 2 26 = bs (((lst s).take 26).drop 2) := lst_inj (by rw [lst_extract, lst_bs]; rfl)
  rw [e1, e2, e3, toList_lst, lst_bs]
  by_cases h2 : sealOf ((lst s).take 26) = (lst s).drop 26
  ·rw [if_pos (by simpa using h2), if_pos h2]
  ·rw [if_neg (by simpa using h2), if_neg h2]
 ·rw [dif_neg h, if_neg h]
theorem lst_enc {no : Int} {s : ByteArray} (h0 : 0 ≤ no) (h1 : no ≤ 65535) (h2 : s.size ≤ 24) : lst (encodeS no s).1 = rawS no s ++ sealOf (rawS no s) := by
 rw [encodeS_ok h0 h1 h2]; exact lst_bs _
theorem at_lst (s : ByteArray) (k : Nat) : at_ s k = (lst s).getD k 0 := by
 unfold at_
 split
 ·rename_i h
  rw [List.getD_eq_getElem?_getD, List.getElem?_eq_getElem (by rw [length_lst]; exact h)]
  rfl
 ·rename_i h
  rw [List.getD_eq_getElem?_getD, List.getElem?_eq_none (by rw [length_lst]; omega)]
  rfl
theorem decode_encode (no no' : Int) (s : ByteArray) (h0 : 0 ≤ no) (h1 : no ≤ 65535) (h2 : s.size ≤ 24) : decodeS no' (encodeS no s).1 = if no = no' then (padS s, 0) else (.empty, 4) := by
 have hl := lst_enc h0 h1 h2
 have hr := rawS_length (no := no) h2
 rw [decodeS_eq, if_pos (encodeS_size h0 h1 h2), hl, List.take_left' hr, List.drop_left' hr, if_pos rfl, at_lst, at_lst, hl]
 have e1 := byte_toNat (no / 256) (by omega) (by omega)
 have e2 := byte_toNat (no % 256) (by omega) (by omega)
 have e3 : (rawS no s ++ sealOf (rawS no s)).getD 0 0 = byte (no / 256) := rfl
 have e4 : (rawS no s ++ sealOf (rawS no s)).getD 1 0 = byte (no % 256) := rfl
 rw [e3, e4, e1, e2, show 256 * (no / 256) + no % 256 = no from by omega]
 rfl
theorem devMay_iff {d : Dev} : devMay d = true ↔ 1 ≤ d.sec.length ∧ d.sec.length ≤ 64 ∧ d.lost.length = d.sec.length ∧ ∀ s ∈ d.sec, s.size = 30 := by
 constructor
 ·exact devMay_len
 ·rintro ⟨h1, h2, h3, h4⟩
  unfold devMay
  have h5 : d.sec.any badRaw = false := by
   rw [List.any_eq_false]
   intro s hs
   unfold badRaw
   have := h4 s hs
   simp [this]
  simp [h1, h2, h3, h5]
theorem touch_iff {d : Dev} {n : Int} : touchCode d n = 0 ↔ devMay d = true ∧ 0 ≤ n ∧ n < d.sec.length := by
 constructor
 ·exact touch_zero
 ·rintro ⟨h1, h2, h3⟩
  unfold touchCode
  rw [if_pos h1, if_pos (by simp [inB]; omega)]
theorem touchCode_congr {d e : Dev} (h1 : devMay d = devMay e) (h2 : d.sec.length = e.sec.length) (n : Int) : touchCode d n = touchCode e n := by
 unfold touchCode; rw [h1, h2]
theorem devMay_set {d : Dev} (h : devMay d = true) (k : Nat) (s : ByteArray) (hs : s.size = 30) (l : List Bool) (hl : l.length = d.lost.length) : devMay ⟨d.sec.set k s, l⟩ = true := by
 obtain ⟨h1, h2, h3, h4⟩ := devMay_len h
 refine devMay_iff.2 ⟨by simpa using h1, by simpa using h2, by simp only [List.length_set]; omega, fun x hx => ?_⟩
 rcases List.mem_or_eq_of_mem_set hx with hx | rfl
 ·exact h4 x hx
 ·exact hs
theorem devMay_lost {d : Dev} (h : devMay d = true) (l : List Bool) (hl : l.length = d.lost.length) : devMay ⟨d.sec, l⟩ = true := by
 obtain ⟨h1, h2, h3, h4⟩ := devMay_len h
 exact devMay_iff.2 ⟨h1, h2, by show l.length = d.sec.length; omega, h4⟩
theorem writeS_ok {d : Dev} {n no : Int} {s : ByteArray} (h : touchCode d n = 0) (h0 : 0 ≤ no) (h1 : no ≤ 65535) (h2 : s.size ≤ 24) : writeS d n no s = (⟨d.sec.set n.toNat (encodeS no s).1, d.lost.set n.toNat false⟩, 0) := by
 unfold writeS
 rw [if_pos h, if_pos (by rw [encodeS_ok h0 h1 h2])]
theorem write_may {d : Dev} {n no : Int} {s : ByteArray} (h : touchCode d n = 0) (h0 : 0 ≤ no) (h1 : no ≤ 65535) (h2 : s.size ≤ 24) : devMay (writeS d n no s).1 = true ∧ (writeS d n no s).1.sec.length = d.sec.length := by
 rw [writeS_ok h h0 h1 h2]
 exact ⟨devMay_set (touch_zero h).1 _ _ (encodeS_size h0 h1 h2) _ (by simp), by simp⟩
theorem write_touch {d : Dev} {n no : Int} {s : ByteArray} (h : touchCode d n = 0) (h0 : 0 ≤ no) (h1 : no ≤ 65535) (h2 : s.size ≤ 24) (m : Int) : touchCode (writeS d n no s).1 m = touchCode d m := by
 have := write_may h h0 h1 h2
 exact touchCode_congr (by rw [this.1, (touch_zero h).1]) this.2 m
theorem read_eq {d : Dev} {n : Int} (no : Int) (h : touchCode d n = 0) : readS d n no = if d.lost.getD n.toNat false then (.empty, 11) else decodeS no (d.sec.getD n.toNat .empty) := by
 unfold readS; rw [if_pos h]
theorem getD_set_self {α : Type} (l : List α) (k : Nat) (a b : α) (h : k < l.length) : (l.set k a).getD k b = a := by
 rw [List.getD_eq_getElem?_getD, List.getElem?_set_self h]; rfl
theorem getD_set_ne {α : Type} (l : List α) (k j : Nat) (a b : α) (h : k ≠ j) : (l.set k a).getD j b = l.getD j b := by
 rw [List.getD_eq_getElem?_getD, List.getElem?_set_ne h, List.getD_eq_getElem?_getD]
theorem read_write {d : Dev} {n no : Int} {s : ByteArray} (h : touchCode d n = 0) (h0 : 0 ≤ no) (h1 : no ≤ 65535) (h2 : s.size ≤ 24) (no' : Int) :
  readS (writeS d n no s).1 n no' = if no = no' then (padS s, 0) else (.empty, 4) := by
 obtain ⟨hm, hn, hl⟩ := touch_zero h
 obtain ⟨m1, m2, m3, _⟩ := devMay_len hm
 rw [read_eq no' (by rw [write_touch h h0 h1 h2]; exact h), writeS_ok h h0 h1 h2]
 simp only
 rw [getD_set_self _ _ _ _ (by omega), getD_set_self _ _ _ _ (by omega), if_neg (by decide)]
 exact decode_encode no no' s h0 h1 h2
theorem read_write_other {d : Dev} {n no : Int} {s : ByteArray} (h : touchCode d n = 0) (h0 : 0 ≤ no) (h1 : no ≤ 65535) (h2 : s.size ≤ 24) (m no' : Int) (hm : 0 ≤ m) (hne : m ≠ n) :
  readS (writeS d n no s).1 m no' = readS d m no' := by
 have hn := (touch_zero h).2.1
 unfold readS
 rw [write_touch h h0 h1 h2, writeS_ok h h0 h1 h2]
 simp only
 rw [getD_set_ne _ _ _ _ _ (by omega), getD_set_ne _ _ _ _ _ (by omega)]
theorem loseS_ok {d : Dev} {n : Int} (h : touchCode d n = 0) : loseS d n = ⟨d.sec, d.lost.set n.toNat true⟩ := by unfold loseS; rw [if_pos h]
theorem lose_may {d : Dev} {n : Int} (h : touchCode d n = 0) : devMay (loseS d n) = true := by
 rw [loseS_ok h]; exact devMay_lost (touch_zero h).1 _ (by simp)
theorem lose_len {d : Dev} {n : Int} (h : touchCode d n = 0) : (loseS d n).sec.length = d.sec.length := by rw [loseS_ok h]
def writeP (a : List Dev) (n : Int) (s : ByteArray) : Dev := (writeS (dv a 2) (n / 2) (512 + n / 2) s).1
def parityS (a : List Dev) (n : Int) : List Dev :=
 if (mirrorS a n).2 ≠ 0 ∧ (mirrorS a (partner n)).2 ≠ 0 then a.set 2 (writeP a n (xorS (mirrorS a n).1 (mirrorS a (partner n)).1)) else a.set 2 (loseS (dv a 2) (n / 2))
def savedS (a : List Dev) (n : Int) : List Dev := if (arrReadS a (partner n)).2.2 = 0 ∧ (arrReadS a (partner n)).2.1 = 3 then bothS a (partner n) (arrReadS a (partner n)).1 else a
def arrWrite3 (a : List Dev) (n : Int) (s : ByteArray) : List Dev := parityS (bothS (savedS a n) n s) n
def arrWriteS (a : List Dev) (n : Int) (s : ByteArray) : List Dev × Int :=
 if arrTouch a n ≠ 0 then ([], arrTouch a n) else if 24 < s.size then ([], 1) else (arrWrite3 a n s, 0)
def streamFaultS (a : List Dev) (first n : Int) : Int :=
 if !arrMay a then 9 else if !inB n 0 1536 then 1 else if !inB first 0 (dv a 0).sec.length || decide (((dv a 0).sec.length : Int) < first + (n + 23) / 24) then 2 else 0
def streamReadLoop (a : List Dev) : Nat → Int → ByteArray → ByteArray × Int
 | 0, _, s => (s, 0)
 | m + 1, k, s => if (arrReadS a k).2.2 ≠ 0 then (.empty, (arrReadS a k).2.2) else streamReadLoop a m (k + 1) (s ++ (arrReadS a k).1)
def streamReadS (a : List Dev) (first n : Int) : ByteArray × Int :=
 if streamFaultS a first n ≠ 0 then (.empty, streamFaultS a first n)
 else if (streamReadLoop a ((n + 23) / 24).toNat first .empty).2 ≠ 0 then (.empty, (streamReadLoop a ((n + 23) / 24).toNat first .empty).2)
 else ((streamReadLoop a ((n + 23) / 24).toNat first .empty).1.extract 0 n.toNat, 0)
def streamWriteLoop : Nat → Nat → List Dev → Int → ByteArray → List Dev
 | 0, _, a, _, _ => a
 | m + 1, i, a, first, s => streamWriteLoop m (i + 1) (arrWriteS a (first + i) (s.extract (24 * i) (min (24 * i + 24) s.size))).1 first s
def streamWriteS (a : List Dev) (first : Int) (s : ByteArray) : List Dev × Int :=
 if streamFaultS a first s.size ≠ 0 then ([], streamFaultS a first s.size) else (streamWriteLoop ((s.size + 23) / 24) 0 a first s, 0)
theorem arr_three {a : List Dev} (h : arrMay a = true) : ∃ d0 d1 d2, a = [d0, d1, d2] := by
 by_cases h3 : a.length = 3
 ·exact three h3
 ·rw [arrMay_len h3] at h; cases h
theorem arr_parts {a : List Dev} (h : arrMay a = true) : a.length = 3 ∧ devMay (dv a 0) = true ∧ devMay (dv a 1) = true ∧ devMay (dv a 2) = true ∧ 16 ≤ (dv a 0).sec.length ∧ (dv a 0).sec.length ≤ 64 ∧ (dv a 0).sec.length % 2 = 0 ∧
  (dv a 1).sec.length = (dv a 0).sec.length ∧ (dv a 2).sec.length = (dv a 0).sec.length / 2 := by
 obtain ⟨d0, d1, d2, rfl⟩ := arr_three h
 have h3 : [d0, d1, d2].length = 3 := rfl
 rw [arrMay_eq h3] at h
 simp only [Bool.and_eq_true, decide_eq_true_eq, List.getElem_cons_zero, List.getElem_cons_succ] at h
 obtain ⟨⟨⟨⟨⟨⟨g0, g1⟩, g2⟩, g3⟩, g4⟩, g5⟩, g6⟩ := h
 have := (devMay_len g0).2.1
 exact ⟨rfl, g0, g1, g2, g3, this, g4, g5, g6⟩
theorem arr_made {a : List Dev} (h3 : a.length = 3) (h0 : devMay (dv a 0) = true) (h1 : devMay (dv a 1) = true) (h2 : devMay (dv a 2) = true) (g1 : 16 ≤ (dv a 0).sec.length) (g2 : (dv a 0).sec.length % 2 = 0)
  (g3 : (dv a 1).sec.length = (dv a 0).sec.length) (g4 : (dv a 2).sec.length = (dv a 0).sec.length / 2) : arrMay a = true := by
 obtain ⟨d0, d1, d2, rfl⟩ := three h3
 rw [arrMay_eq h3]
 simp only [Bool.and_eq_true, decide_eq_true_eq, List.getElem_cons_zero, List.getElem_cons_succ]
 exact ⟨⟨⟨⟨⟨⟨h0, h1⟩, h2⟩, g1⟩, g2⟩, g3⟩, g4⟩
theorem arrTouch_zero {a : List Dev} {n : Int} : arrTouch a n = 0 ↔ arrMay a = true ∧ 0 ≤ n ∧ n < (dv a 0).sec.length := by
 unfold arrTouch
 constructor
 ·intro h
  split at h
  ·rename_i h1
   split at h
   ·rename_i h2; have := inB_true h2; exact ⟨h1, this.1, by omega⟩
   ·exact absurd h (by decide)
  ·exact absurd h (by decide)
 ·rintro ⟨h1, h2, h3⟩
  rw [if_pos h1, if_pos (by simp [inB]; omega)]
theorem partner_range {a : List Dev} {n : Int} (h : arrTouch a n = 0) : arrTouch a (partner n) = 0 ∧ 0 ≤ n / 2 ∧ n / 2 < (dv a 2).sec.length ∧ partner n ≠ n ∧ partner n / 2 = n / 2 ∧ 0 ≤ partner n ∧ partner n ≤ 63 ∧ 0 ≤ n ∧ n ≤ 63 ∧ partner (partner n) = n := by
 obtain ⟨hm, h0, h1⟩ := arrTouch_zero.1 h
 obtain ⟨_, _, _, _, g1, g2, g3, g4, g5⟩ := arr_parts hm
 have hp : partner n = n + 1 ∨ partner n = n - 1 := by unfold partner; split <;> omega
 have hr : 0 ≤ partner n ∧ partner n < (dv a 0).sec.length ∧ partner n ≠ n ∧ partner n / 2 = n / 2 := by unfold partner; split <;> omega
 refine ⟨arrTouch_zero.2 ⟨hm, hr.1, hr.2.1⟩, by omega, by omega, hr.2.2.1, hr.2.2.2, hr.1, by omega, h0, by omega, ?_⟩
 unfold partner
 split <;> split <;> omega
theorem dv_set_self {a : List Dev} {k : Nat} (h : k < a.length) (d : Dev) : dv (a.set k d) k = d := getD_set_self _ _ _ _ h
theorem dv_set_ne (a : List Dev) {k j : Nat} (h : k ≠ j) (d : Dev) : dv (a.set k d) j = dv a j := getD_set_ne _ _ _ _ _ h
theorem RArr.form {w : World} {cs : List Value} {a : List Dev} (h : RArr w cs a) : ∃ A c, cs = [.slice A a.length c] := by
 obtain ⟨v, rfl, h1⟩ := h
 obtain ⟨A, c, rfl, _⟩ := h1.rowR
 exact ⟨A, c, rfl⟩
theorem RArr.look {w : World} {A : Option Addr} {c : Nat} {a : List Dev} (h : RArr w [.slice A a.length c] a) : ∀ k0, k0 < a.length → ∃ b o, A = some ⟨b, o, none⟩ ∧ ∀ k, k < a.length → ∃ A1 c1 A2 c2,
  w.cell? ⟨b, o + k * 2, none⟩ = some (.slice A1 (dv a k).sec.length c1) ∧ w.cell? ⟨b, o + k * 2 + 1, none⟩ = some (.slice A2 (dv a k).lost.length c2) ∧ RDev w [.slice A1 (dv a k).sec.length c1, .slice A2 (dv a k).lost.length c2] (dv a k) := by
 obtain ⟨v, e, h1⟩ := h
 obtain ⟨A', c', rfl, _, _, hr⟩ := h1.rowR
 simp only [List.cons.injEq, Value.slice.injEq, and_true, true_and] at e
 obtain ⟨rfl, rfl⟩ := e
 intro k0 hk0
 obtain ⟨b, o, rfl, hcell⟩ := hr k0 hk0
 refine ⟨b, o, rfl, fun k hk => ?_⟩
 have hd : dv a k = a[k] := by unfold dv; rw [List.getD_eq_getElem?_getD, List.getElem?_eq_getElem hk]; rfl
 rw [hd]
 obtain ⟨cs, hl, hcs, hdd⟩ := hcell k hk
 obtain ⟨A1, c1, A2, c2, rfl⟩ := hdd.form
 exact ⟨A1, c1, A2, c2, hcs 0 _ rfl, hcs 1 _ rfl, hdd⟩
theorem n2_of {a : List Dev} {n : Int} (h : arrTouch a n = 0) : 0 ≤ n ∧ n ≤ 63 := by
 have := partner_range h
 exact ⟨this.2.2.2.2.2.2.2.1, this.2.2.2.2.2.2.2.2.1⟩
theorem arrAt_any (cs : List Value) (a : List Dev) (n : Int) (w : World) (h : RArr w cs a) (hn : I64 n) :
  Calls Tryz.prog 75 #[.agg cs.toArray, .int .i64 n] w fun e w' => e = .returned (.int .i64 (arrTouch a n)) ∧ Ext w w' := by
 obtain ⟨A, c, rfl⟩ := h.form
 go_enter Tryz.func75, Tryz.ntmps75
 go_wp2_with fail
 refine calls_abs (fun W => Ext w W ∧ Blk_ W w.heap.size 24 #[.slice A a.length c]) ⟨(Ext.refl _).alloc _, Blk_.new _ _ _⟩ ?_
 rintro W ⟨hx, hb⟩
 refine (arrCheck_any [.slice A a.length c] a W (h.up hx)).mono ?_
 rintro e w1 ⟨rfl, hx1⟩
 have hb1 := hb.ext hx1
 have f0 := hb1.cell 0
 simp at f0
 have hr1 := h.up (hx.trans hx1)
 have HX := Lib.hid (hx.trans hx1)
 clear h hb hx hx1
 cases hm : arrMay a with
 | false =>
  have hf : arrTouch a n = 9 := by unfold arrTouch; rw [hm]; rfl
  have HF := Lib.hid hf
  rw [arrCode_false hm]
  clear hm hf hr1
  go_wp2_with fail
  go_ret
  exact ⟨ret_int HF.out.symm, HX.out⟩
 | true =>
  obtain ⟨p1, p2, _⟩ := arr_parts hm
  rw [arrCode_true hm]
  obtain ⟨b, o, rfl, hl⟩ := hr1.look 0 (by omega)
  obtain ⟨A1, c1, A2, c2, q0, q1, hd⟩ := hl 0 (by omega)
  simp only [Nat.zero_mul, Nat.add_zero] at q0 q1
  have h3 : (0 : Int) < (a.length : Int) := by omega
  have hlen := (devMay_len p2).2.1
  have hf2 : arrTouch a n = if inB n 0 (((dv a 0).sec.length : Int) - 1) then 0 else 6 := by unfold arrTouch; rw [hm]; rfl
  clear hm hl hr1 p1 p2 hb1
  generalize (dv a 0).sec.length = L at *
  by_cases k1 : n < 0
  ·have hr : inB n 0 ((L : Int) - 1) = false := by simp [inB]; omega
   rw [hr] at hf2
   have HF := Lib.hid hf2
   have t1 : decide (n < 0) = true := by simpa using k1
   clear hr hf2 k1
   go_wp2_with fail
   go_ret
   exact ⟨ret_int HF.out.symm, HX.out⟩
  ·have t1 : decide (n < 0) = false := by simpa using k1
   by_cases k2 : (L : Int) ≤ n
   ·have t2 : decide ((L : Int) ≤ n) = true := by simpa using k2
    have hr : inB n 0 ((L : Int) - 1) = false := by simp [inB]; omega
    rw [hr] at hf2
    have HF := Lib.hid hf2
    clear hr hf2 k1 k2
    go_wp2_with fail
    go_ret
    exact ⟨ret_int HF.out.symm, HX.out⟩
   ·have t2 : decide ((L : Int) ≤ n) = false := by simpa using k2
    have hr : inB n 0 ((L : Int) - 1) = true := by simp [inB]; omega
    rw [hr] at hf2
    have HF := Lib.hid hf2
    clear hr hf2 k1 k2
    go_wp2_with fail
    go_ret
    exact ⟨ret_int HF.out.symm, HX.out⟩
theorem arrTouched_any (cs : List Value) (a : List Dev) (n : Int) (w : World) (h : RArr w cs a) (hn : I64 n) :
  Calls Tryz.prog 85 #[.agg cs.toArray, .int .i64 n] w fun e w' => e = .returned (.int .i64 (arrTouch a n)) ∧ Ext w w' := by
 obtain ⟨A, c, rfl⟩ := h.form
 go_enter Tryz.func85, Tryz.ntmps85
 go_wp2_with fail
 refine calls_abs (fun W => Ext w W ∧ Blk_ W w.heap.size 24 #[.slice A a.length c]) ⟨(Ext.refl _).alloc _, Blk_.new _ _ _⟩ ?_
 rintro W ⟨hx, hb⟩
 refine (arrMay_any [.slice A a.length c] a W (h.up hx)).mono ?_
 rintro e w1 ⟨rfl, hx1⟩
 have hb1 := hb.ext hx1
 have f0 := hb1.cell 0
 simp at f0
 have hr1 := h.up (hx.trans hx1)
 have HX := Lib.hid (hx.trans hx1)
 clear h hb hx hx1
 cases hm : arrMay a with
 | false =>
  have hf : arrTouch a n = 9 := by unfold arrTouch; rw [hm]; rfl
  have HF := Lib.hid hf
  clear hm hf hr1
  go_wp2_with fail
  go_ret
  exact ⟨ret_int HF.out.symm, HX.out⟩
 | true =>
  obtain ⟨p1, p2, _⟩ := arr_parts hm
  obtain ⟨b, o, rfl, hl⟩ := hr1.look 0 (by omega)
  obtain ⟨A1, c1, A2, c2, q0, q1, hd⟩ := hl 0 (by omega)
  simp only [Nat.zero_mul, Nat.add_zero] at q0 q1
  have h3 : (0 : Int) < (a.length : Int) := by omega
  have hlen := (devMay_len p2).2.1
  have hlen' : ((dv a 0).sec.length : Int) ≤ 64 := by omega
  have hlen1 : (1 : Int) ≤ ((dv a 0).sec.length : Int) := by have := (devMay_len p2).1; omega
  have hf2 : arrTouch a n = if inB n 0 (((dv a 0).sec.length : Int) - 1) then 0 else 6 := by unfold arrTouch; rw [hm]; rfl
  clear hm hl hr1 p1 p2 hb1
  generalize (dv a 0).sec.length = L at *
  cases hr : inB n 0 ((L : Int) - 1) with
  | true =>
   rw [hr] at hf2
   have HF := Lib.hid hf2
   clear hf2
   go_wp2_with (go_at_call 55; refine (in_any _ _ _ _).mono ?_; rintro e w9 ⟨rfl, rfl⟩; rw [hr])
   go_ret
   exact ⟨ret_int HF.out.symm, HX.out⟩
  | false =>
   rw [hr] at hf2
   have HF := Lib.hid hf2
   clear hf2
   go_wp2_with (go_at_call 55; refine (in_any _ _ _ _).mono ?_; rintro e w9 ⟨rfl, rfl⟩; rw [hr])
   go_ret
   exact ⟨ret_int HF.out.symm, HX.out⟩
def okB (p : ByteArray × Int) : Bool := decide (p.2 ≠ 0)
theorem mirror_hit {a : List Dev} {n : Int} (k : Nat) (hk : k < 2) (hall : ∀ j, j < k → (readS (dv a j) n n).2 ≠ 0) (h : (readS (dv a k) n n).2 = 0) : mirrorS a n = ((readS (dv a k) n n).1, (k : Int) + 1) := by
 unfold mirrorS
 match k, hk with
 | 0, _ => rw [if_pos h]; rfl
 | 1, _ => rw [if_neg (hall 0 (by omega)), if_pos h]; rfl
theorem mirror_miss {a : List Dev} {n : Int} (hall : ∀ j, j < 2 → (readS (dv a j) n n).2 ≠ 0) : mirrorS a n = (.empty, 0) := by
 unfold mirrorS
 rw [if_neg (hall 0 (by omega)), if_neg (hall 1 (by omega))]
theorem mirror_any (cs : List Value) (a : List Dev) (n : Int) (w : World) (h : RArr w cs a) (h3 : a.length = 3) (hn : I64 n) :
  Calls Tryz.prog 91 #[.agg cs.toArray, .int .i64 n] w fun e w' => e = .returned (.tuple #[.string (mirrorS a n).1, .int .i64 (mirrorS a n).2, .bool (okB (mirrorS a n))]) ∧ Ext w w' := by
 obtain ⟨A, c, rfl⟩ := h.form
 have H3 := Lib.hid h3
 have h3i : (3 : Int) = (a.length : Int) := by omega
 have HN := Lib.hid hn
 clear h3
 go_enter Tryz.func91, Tryz.ntmps91
 go_wp2_with fail
 refine wp_abs (fun W => Ext w W ∧ Blk_ W w.heap.size 24 #[.slice A a.length c]) ⟨(Ext.refl _).alloc _, Blk_.new _ _ _⟩ ?_
 rintro W ⟨hx, hb⟩
 go_loopw [10] (fun i wr => ∃ k : Nat, i = .int .i64 k ∧ k ≤ 2 ∧ Ext w wr ∧ Blk_ wr w.heap.size 24 #[.slice A a.length c] ∧ ∀ j, j < k → (readS (dv a j) n n).2 ≠ 0) (fun i _ => 2 - (intOf i).toNat)
 case atStart => exact ⟨0, rfl, Nat.zero_le _, hx, hb, fun j hj => by omega⟩
 case round =>
  clear hx hb
  obtain ⟨k, rfl, hk, hx, hb, hall⟩ := hrel
  by_cases hlt : k < 2
  ·obtain ⟨b, o, rfl, hl⟩ := h.look 0 (by have := H3.out; omega)
   obtain ⟨A1, c1, A2, c2, q0, q1, hd⟩ := hl k (by have := H3.out; omega)
   have q0' := hx.cell q0
   have q1' := hx.cell q1
   have f0 := hb.cell 0
   simp at f0
   have hk2 : (k : Int) < 2 := by omega
   have hk3 : (k : Int) < (a.length : Int) := by have := H3.out; omega
   have HALL := Lib.hid hall
   have HH := Lib.hid h
   have HD := Lib.hid hd
   clear hl q0 q1 hall hd h
   go_wp2_with fail
   refine calls_abs (fun W => Ext wr W) (by first | exact Ext.refl _ | exact (Ext.refl _).alloc _) ?_
   intro W1 hx1
   refine (devRead_any [.slice A1 (dv a k).sec.length c1, .slice A2 (dv a k).lost.length c2] (dv a k) n n W1 (HD.out.up (hx.trans hx1)) HN.out HN.out).mono ?_
   rintro e w2 ⟨rfl, hx2⟩
   have HX2 := Lib.hid ((hx.trans hx1).trans hx2)
   have HB2 := Lib.hid ((hb.ext hx1).ext hx2)
   clear f0 q0' q1' hx hx1 hx2 hb HD
   by_cases hc : (readS (dv a k) n n).2 = 0
   ·have HM := Lib.hid (mirror_hit k hlt HALL.out hc)
    rw [hc]
    clear hc
    generalize (readS (dv a k) n n).1 = s at *
    go_wp2_with fail
    go_ret3
    refine ⟨?_, HX2.out⟩
    rw [HM.out]
    have : okB (s, (k : Int) + 1) = true := by unfold okB; simp; omega
    rw [this]
    rfl
   ·have hc' : ((readS (dv a k) n n).2 == 0) = false := by simpa using hc
    have HC := Lib.hid hc
    clear hc
    generalize ht : (readS (dv a k) n n).2 = t at *
    have HT := Lib.hid ht
    clear ht
    go_wp2_with fail
    go_roundw
    case rel =>
     refine ⟨k + 1, by go_num, by omega, HX2.out, HB2.out, fun j hj => ?_⟩
     by_cases hje : j = k
     ·subst hje; rw [HT.out]; exact HC.out
     ·exact HALL.out j (by omega)
    case measure => simp [intOf]; omega
  ·obtain rfl : k = 2 := by omega
   have HM := Lib.hid (mirror_miss hall)
   clear hall hb
   go_wp2_with fail
   go_ret3
   rw [HM.out]
   exact ⟨rfl, hx⟩
theorem partner_any (n : Int) (w : World) (h0 : 0 ≤ n) (h1 : n ≤ 63) :
  Calls Tryz.prog 86 #[.int .i64 n] w fun e w' => e = .returned (.int .i64 (partner n)) ∧ w = w' := by
 by_cases hp : n % 2 = 0
 ·have hf : partner n = n + 1 := by unfold partner; rw [if_pos hp]
  have HF := Lib.hid hf
  have t1 : (n % 2 == 0) = true := by simpa using hp
  clear hf hp
  go_enter Tryz.func86, Tryz.ntmps86
  go_wp2_with fail
  go_ret
  exact ⟨ret_int HF.out.symm, rfl⟩
 ·have hf : partner n = n - 1 := by unfold partner; rw [if_neg hp]
  have HF := Lib.hid hf
  have t1 : (n % 2 == 0) = false := by simpa using hp
  clear hf hp
  go_enter Tryz.func86, Tryz.ntmps86
  go_wp2_with fail
  go_ret
  exact ⟨ret_int HF.out.symm, rfl⟩
theorem partner_xor (n : Int) (h0 : 0 ≤ n) (h1 : n ≤ 63) : bits .xor .i64 n 1 = partner n := by
 obtain ⟨k, rfl⟩ := Int.eq_ofNat_of_zero_le h0
 have hk : k < 64 := by omega
 clear h0 h1
 revert k
 decide +kernel
theorem mirrored_any (cs : List Value) (a : List Dev) (n : Int) (w : World) (h : RArr w cs a) (h3 : a.length = 3) (hn : I64 n) :
  Calls Tryz.prog 110 #[.agg cs.toArray, .int .i64 n] w fun e w' => e = .returned (.tuple #[.string (mirrorS a n).1, .int .i64 (mirrorS a n).2]) ∧ Ext w w' := by
 obtain ⟨A, c, rfl⟩ := h.form
 obtain ⟨b, o, rfl, hl⟩ := h.look 0 (by omega)
 obtain ⟨A1, c1, A2, c2, q0, q1, hd0⟩ := hl 0 (by omega)
 obtain ⟨A3, c3, A4, c4, q2, q3, hd1⟩ := hl 1 (by omega)
 simp only [Nat.zero_mul, Nat.add_zero, Nat.one_mul] at q0 q1 q2 q3
 have h3i : (0 : Int) < (a.length : Int) := by omega
 have h3j : (1 : Int) < (a.length : Int) := by omega
 have HN := Lib.hid hn
 have H3 := Lib.hid h3
 clear hl h3 hn
 go_enter Tryz.func110, Tryz.ntmps110
 have e1 : Ext w (w.alloc (.cells #[.slice (some ⟨b, o, none⟩) a.length c] 24)) := (Ext.refl _).alloc _
 have q0' := e1.cell q0
 have q1' := e1.cell q1
 have q2' := e1.cell q2
 have q3' := e1.cell q3
 have HQ := Lib.hid (And.intro q2 q3)
 clear e1 q0 q1 q2 q3
 go_wp2_with fail
 refine calls_abs (fun W => Ext w W ∧ Blk_ W w.heap.size 24 #[.slice (some ⟨b, o, none⟩) a.length c]) ⟨(Ext.refl _).alloc _, Blk_.new _ _ _⟩ ?_
 rintro W ⟨hx, hb⟩
 clear q0' q1' q2' q3'
 refine (deviceRead_any [.slice A1 (dv a 0).sec.length c1, .slice A2 (dv a 0).lost.length c2] (dv a 0) n n W (hd0.up hx) HN.out HN.out).mono ?_
 rintro e w1 ⟨rfl, hx1⟩
 have hb1 := hb.ext hx1
 have hxw := hx.trans hx1
 have f0 := hb1.cell 0
 simp at f0
 have q2 := hxw.cell HQ.out.1
 have q3 := hxw.cell HQ.out.2
 have HX := Lib.hid hxw
 have HD1 := Lib.hid hd1
 clear hb hb1 hx hx1 hxw hd0 hd1
 by_cases hc : (readS (dv a 0) n n).2 = 0
 ·have hm : mirrorS a n = ((readS (dv a 0) n n).1, 1) := by unfold mirrorS; rw [if_pos hc]
  have HM := Lib.hid hm
  rw [hc]
  clear hc hm
  generalize (readS (dv a 0) n n).1 = s at *
  go_wp2_with fail
  go_ret2
  rw [HM.out]
  exact ⟨rfl, HX.out⟩
 ·have hm : mirrorS a n = if (readS (dv a 1) n n).2 = 0 then ((readS (dv a 1) n n).1, 2) else (.empty, 0) := by unfold mirrorS; rw [if_neg hc]
  have hc' : ((readS (dv a 0) n n).2 == 0) = false := by simpa using hc
  clear hc
  generalize (readS (dv a 0) n n).2 = t at *
  have HM := Lib.hid hm
  clear hm
  go_wp2_with fail
  refine (deviceRead_any [.slice A3 (dv a 1).sec.length c3, .slice A4 (dv a 1).lost.length c4] (dv a 1) n n _ (HD1.out.up HX.out) HN.out HN.out).mono ?_
  rintro e w2 ⟨rfl, hx2⟩
  have HX2 := Lib.hid (HX.out.trans hx2)
  clear hx2 f0 q2 q3
  have hm := HM.out
  by_cases hc : (readS (dv a 1) n n).2 = 0
  ·rw [if_pos hc] at hm
   have HM2 := Lib.hid hm
   rw [hc]
   clear hc hm HM
   generalize (readS (dv a 1) n n).1 = s at *
   go_wp2_with fail
   go_ret2
   rw [HM2.out]
   exact ⟨rfl, HX2.out⟩
  ·rw [if_neg hc] at hm
   have HM2 := Lib.hid hm
   have hc2 : ((readS (dv a 1) n n).2 == 0) = false := by simpa using hc
   clear hc hm HM
   generalize (readS (dv a 1) n n).2 = t2 at *
   go_wp2_with fail
   go_ret2
   rw [HM2.out]
   exact ⟨rfl, HX2.out⟩
theorem read_bad {a : List Dev} {n : Int} (h : arrTouch a n ≠ 0) : arrReadS a n = (.empty, 0, arrTouch a n) := by unfold arrReadS; rw [if_pos h]
theorem read_mir {a : List Dev} {n : Int} (h : arrTouch a n = 0) (h2 : (mirrorS a n).2 ≠ 0) : arrReadS a n = ((mirrorS a n).1, (mirrorS a n).2, 0) := by unfold arrReadS; rw [if_neg (by simpa using h), if_pos h2]
theorem read_lost {a : List Dev} {n : Int} (h : arrTouch a n = 0) (h2 : (mirrorS a n).2 = 0) (h3 : (mirrorS a (partner n)).2 = 0 ∨ (parS a n).2 ≠ 0) : arrReadS a n = (.empty, 0, 11) := by
 unfold arrReadS; rw [if_neg (by simpa using h), if_neg (by simpa using h2), if_pos h3]
theorem read_par {a : List Dev} {n : Int} (h : arrTouch a n = 0) (h2 : (mirrorS a n).2 = 0) (h3 : (mirrorS a (partner n)).2 ≠ 0) (h4 : (parS a n).2 = 0) : arrReadS a n = (xorS (parS a n).1 (mirrorS a (partner n)).1, 3, 0) := by
 unfold arrReadS; rw [if_neg (by simpa using h), if_neg (by simpa using h2), if_neg (by rintro (h | h); exact h3 h; exact h h4)]
theorem okB_true {p : ByteArray × Int} (h : p.2 ≠ 0) : okB p = true := by unfold okB; simpa using h
theorem okB_false {p : ByteArray × Int} (h : p.2 = 0) : okB p = false := by unfold okB; simpa using h
theorem mirror_range (a : List Dev) (n : Int) : (mirrorS a n).2 = 0 ∨ (mirrorS a n).2 = 1 ∨ (mirrorS a n).2 = 2 := by
 unfold mirrorS
 split
 ·exact .inr (.inl rfl)
 ·split
  ·exact .inr (.inr rfl)
  ·exact .inl rfl
theorem arrRead_any (cs : List Value) (a : List Dev) (n : Int) (w : World) (h : RArr w cs a) (hn : I64 n) :
  Calls Tryz.prog 62 #[.agg cs.toArray, .int .i64 n] w fun e w' => e = .returned (.tuple #[.string (arrReadS a n).1, .int .i64 (arrReadS a n).2.1, .int .i64 (arrReadS a n).2.2]) ∧ Ext w w' := by
 obtain ⟨A, c, rfl⟩ := h.form
 go_enter Tryz.func62, Tryz.ntmps62
 go_wp2_with fail
 refine calls_abs (fun W => Ext w W ∧ Blk_ W w.heap.size 24 #[.slice A a.length c]) ⟨(Ext.refl _).alloc _, Blk_.new _ _ _⟩ ?_
 rintro W ⟨hx, hb⟩
 refine (arrAt_any [.slice A a.length c] a n W (h.up hx) hn).mono ?_
 rintro e w1 ⟨rfl, hx1⟩
 have hb1 := hb.ext hx1
 have f0 := hb1.cell 0
 simp at f0
 have hr1 := h.up (hx.trans hx1)
 have hxw := hx.trans hx1
 clear h hb hx hx1
 by_cases ht : arrTouch a n = 0
 ·obtain ⟨n0, n63⟩ := n2_of ht
  have h3 := (arr_parts (arrTouch_zero.1 ht).1).1
  rw [ht]
  have HT := Lib.hid ht
  have HN := Lib.hid hn
  have H3 := Lib.hid h3
  have HNN := Lib.hid (And.intro n0 n63)
  clear ht hn h3 n0 n63
  go_wp2_with fail
  refine (mirror_any [.slice A a.length c] a n _ hr1 H3.out HN.out).mono ?_
  rintro e w2 ⟨rfl, hx2⟩
  by_cases hm : (mirrorS a n).2 = 0
  ·rw [okB_false hm]
   have hb2 := hb1.ext hx2
   have f02 := hb2.cell 0
   simp at f02
   have hr2 := hr1.up hx2
   have hxw2 := hxw.trans hx2
   obtain ⟨b, o, rfl, hl⟩ := hr2.look 0 (by have := H3.out; omega)
   obtain ⟨A1, c1, A2, c2, q0, q1, hd⟩ := hl 2 (by have := H3.out; omega)
   simp at q0 q1
   have h3i : (2 : Int) < (a.length : Int) := by have := H3.out; omega
   obtain ⟨n0, n63⟩ := HNN.out
   have HM := Lib.hid hm
   have HX2 := Lib.hid hxw2
   have HR2 := Lib.hid hr2
   have HB2 := Lib.hid hb2
   have HD := Lib.hid hd
   clear hb1 f0 hr1 hxw hx2 hl hm hxw2 hr2 hb2 hd
   have HM2 := Lib.hid (show (mirrorS a n).2 = 0 from HM.out)
   generalize (mirrorS a n).1 = s1
   generalize (mirrorS a n).2 = s2
   go_wp2_with fail
   refine calls_abs (fun W => Ext w2 W) (by first | exact Ext.refl _ | exact (Ext.refl _).alloc _) ?_
   intro W3 hx3
   refine (devRead_any [.slice A1 (dv a 2).sec.length c1, .slice A2 (dv a 2).lost.length c2] (dv a 2) (n / 2) (512 + n / 2) W3 (HD.out.up hx3) ⟨by omega, by omega⟩ ⟨by omega, by omega⟩).mono ?_
   rintro e w4 ⟨rfl, hx4⟩
   have hb4 := (HB2.out.ext hx3).ext hx4
   have f04 := hb4.cell 0
   simp at f04
   have HX4 := Lib.hid (HX2.out.trans (hx3.trans hx4))
   have HR4 := Lib.hid (HR2.out.up (hx3.trans hx4))
   have HPX := Lib.hid (partner_xor n n0 n63)
   clear q0 q1 f02 hx3 hx4 hb4
   go_wp2_with fail
   rw [HPX.out]
   refine (mirror_any [.slice (some ⟨b, o, none⟩) a.length c] a (partner n) _ HR4.out H3.out ⟨by have := partner_range HT.out; omega, by have := partner_range HT.out; omega⟩).mono ?_
   rintro e w5 ⟨rfl, hx5⟩
   have HX5 := Lib.hid (HX4.out.trans hx5)
   clear hx5 f04
   by_cases hp : (readS (dv a 2) (n / 2) (512 + n / 2)).2 = 0
   ·rw [hp]
    by_cases hq : (mirrorS a (partner n)).2 = 0
    ·rw [okB_false hq]
     have HF := Lib.hid (read_lost HT.out HM2.out (.inl hq))
     clear hp hq
     go_wp2_with fail
     go_ret3
     rw [HF.out]
     exact ⟨rfl, HX5.out⟩
    ·rw [okB_true hq]
     have HF := Lib.hid (read_par HT.out HM2.out hq hp)
     have hsz : (parS a n).1.size = (mirrorS a (partner n)).1.size := by rw [mirrorS_size hq, show (parS a n).1.size = 24 from readS_size hp]
     have hs24 : (parS a n).1.size = 24 := readS_size hp
     have HZ := Lib.hid (And.intro hsz hs24)
     have hpar : readS (dv a 2) (n / 2) (512 + n / 2) = parS a n := rfl
     rw [hpar]
     clear hp hq hsz hs24 hpar
     generalize hP : (parS a n).1 = P at *
     generalize hQ : (mirrorS a (partner n)).1 = Q at *
     clear hP hQ
     go_wp2_with fail
     refine (xor_any P Q _ HZ.out.1 (by have := HZ.out.2; omega)).mono ?_
     rintro e w6 ⟨rfl, hx6⟩
     have HX6 := Lib.hid (HX5.out.trans hx6)
     clear hx6
     go_wp2_with fail
     go_ret3
     rw [HF.out]
     exact ⟨rfl, HX6.out⟩
   ·have hp' : ((readS (dv a 2) (n / 2) (512 + n / 2)).2 != 0) = true := by simpa using hp
    have HF := Lib.hid (read_lost HT.out HM2.out (.inr hp))
    clear hp
    generalize (readS (dv a 2) (n / 2) (512 + n / 2)).2 = tp at *
    go_wp2_with fail
    go_ret3
    rw [HF.out]
    exact ⟨rfl, HX5.out⟩
  ·rw [okB_true hm]
   have HF := Lib.hid (read_mir HT.out hm)
   clear hm hb1 hr1 f0
   have HX2 := Lib.hid (hxw.trans hx2)
   clear hxw hx2
   generalize (mirrorS a n).1 = s1 at *
   generalize (mirrorS a n).2 = s2 at *
   go_wp2_with fail
   go_ret3
   rw [HF.out]
   exact ⟨rfl, HX2.out⟩
 ·have HF := Lib.hid (read_bad ht)
  have ht' : (arrTouch a n != 0) = true := by simpa using ht
  clear ht hr1 hb1
  generalize arrTouch a n = t at *
  go_wp2_with fail
  go_ret3
  rw [HF.out]
  exact ⟨rfl, hxw⟩
theorem arrayRead_any (cs : List Value) (a : List Dev) (n : Int) (w : World) (h : RArr w cs a) (hn : I64 n) :
  Calls Tryz.prog 82 #[.agg cs.toArray, .int .i64 n] w fun e w' => e = .returned (.tuple #[.string (arrReadS a n).1, .int .i64 (arrReadS a n).2.1, .int .i64 (arrReadS a n).2.2]) ∧ Ext w w' := by
 obtain ⟨A, c, rfl⟩ := h.form
 go_enter Tryz.func82, Tryz.ntmps82
 go_wp2_with fail
 refine calls_abs (fun W => Ext w W ∧ Blk_ W w.heap.size 24 #[.slice A a.length c]) ⟨(Ext.refl _).alloc _, Blk_.new _ _ _⟩ ?_
 rintro W ⟨hx, hb⟩
 refine (arrTouched_any [.slice A a.length c] a n W (h.up hx) hn).mono ?_
 rintro e w1 ⟨rfl, hx1⟩
 have hb1 := hb.ext hx1
 have f0 := hb1.cell 0
 simp at f0
 have hr1 := h.up (hx.trans hx1)
 have hxw := hx.trans hx1
 clear h hb hx hx1
 by_cases ht : arrTouch a n = 0
 ·obtain ⟨n0, n63⟩ := n2_of ht
  have h3 := (arr_parts (arrTouch_zero.1 ht).1).1
  rw [ht]
  have HT := Lib.hid ht
  have HN := Lib.hid hn
  have H3 := Lib.hid h3
  have HNN := Lib.hid (And.intro n0 n63)
  clear ht hn h3 n0 n63
  go_wp2_with fail
  refine (mirrored_any [.slice A a.length c] a n _ hr1 H3.out HN.out).mono ?_
  rintro e w2 ⟨rfl, hx2⟩
  by_cases hm : (mirrorS a n).2 = 0
  ·have hm' : decide (0 < (mirrorS a n).2) = false := by simp; omega
   have hb2 := hb1.ext hx2
   have f02 := hb2.cell 0
   simp at f02
   have hr2 := hr1.up hx2
   have hxw2 := hxw.trans hx2
   obtain ⟨b, o, rfl, hl⟩ := hr2.look 0 (by have := H3.out; omega)
   obtain ⟨A1, c1, A2, c2, q0, q1, hd⟩ := hl 2 (by have := H3.out; omega)
   simp at q0 q1
   have h3i : (2 : Int) < (a.length : Int) := by have := H3.out; omega
   obtain ⟨n0, n63⟩ := HNN.out
   have HM2 := Lib.hid hm
   have HX2 := Lib.hid hxw2
   have HR2 := Lib.hid hr2
   have HB2 := Lib.hid hb2
   have HD := Lib.hid hd
   have HQ := Lib.hid (And.intro q0 q1)
   clear hb1 f0 hr1 hxw hx2 hl hm hxw2 hr2 hb2 hd q0 q1
   generalize (mirrorS a n).1 = s1
   generalize (mirrorS a n).2 = s2 at hm' ⊢
   go_wp2_with fail
   refine wp_region_begin (S := fun W' => W'.cell? ⟨w.heap.size, 0, none⟩ = some (.slice (some ⟨b, o, none⟩) a.length c)) (n := 8) (by kernel_rfl) rfl (by kernel_rfl) rfl ?_
   have hS0 : (fun W' => W'.cell? ⟨w.heap.size, 0, none⟩ = some (.slice (some ⟨b, o, none⟩) a.length c)) w2.drew := f02
   refine tkL 0 rfl (fun w' hS => by (try dsimp only at hS); go_simp; rfl) hS0 ?_
   refine tkL 1 rfl (fun w' hS => by (try dsimp only at hS); go_simp; rfl) hS0 ?_
   try simp only [Act.put, List.setIfInBounds_toArray, List.set_cons_zero, List.set_cons_succ]
   refine wpAnyH_oneL (i := 2) rfl (by kernel_rfl) rfl (fun K hK => ?_)
   go_wp2_with fail
   refine (partner_any n _ n0 n63).mono ?_
   rintro e w3 ⟨rfl, rfl⟩
   refine hK _ _ hS0 ?_
   clear hK K
   try simp only [Act.put, List.setIfInBounds_toArray, List.set_cons_zero, List.set_cons_succ]
   refine wpAnyH_oneL (i := 3) rfl (by kernel_rfl) rfl (fun K hK => ?_)
   go_wp2_with fail
   refine (mirrored_any [.slice (some ⟨b, o, none⟩) a.length c] a (partner n) _ (HR2.out.up (Ext.refl _).drew) H3.out ⟨by have := partner_range HT.out; omega, by have := partner_range HT.out; omega⟩).mono ?_
   rintro e w4 ⟨rfl, hx4⟩
   have e4 : Ext w2 w4 := (Ext.refl w2).drew.trans hx4
   have f04 := e4.cell f02
   refine hK _ _ f04 ?_
   clear hK K
   refine tkL 4 rfl (fun w' hS => by (try dsimp only at hS); go_simp; rfl) f04 ?_
   refine tkL 5 rfl (fun w' hS => by (try dsimp only at hS); go_simp; rfl) f04 ?_
   refine tkL 6 rfl (fun w' hS => by (try dsimp only at hS); go_simp; rfl) f04 ?_
   try simp only [Act.put, List.setIfInBounds_toArray, List.set_cons_zero, List.set_cons_succ]
   refine tkL 7 rfl (fun w' hS => by (try dsimp only at hS); go_simp; rfl) f04 ?_
   try simp only [Act.put, List.setIfInBounds_toArray, List.set_cons_zero, List.set_cons_succ]
   refine wpAnyH_endL (by kernel_rfl) (fun K hK => ?_)
   have q0 := e4.cell HQ.out.1
   have q1 := e4.cell HQ.out.2
   have HX4 := Lib.hid (HX2.out.trans e4)
   have HD4 := Lib.hid (HD.out.up e4)
   clear e4 hx4 hS0 f02 HD HR2 HB2
   go_wp2_with fail
   refine calls_abs (fun W => Ext w4 W) (by first | exact Ext.refl _ | exact (Ext.refl _).alloc _) ?_
   intro W5 hx5
   refine (deviceRead_any [.slice A1 (dv a 2).sec.length c1, .slice A2 (dv a 2).lost.length c2] (dv a 2) (n / 2) (512 + n / 2) W5 (HD4.out.up hx5) ⟨by omega, by omega⟩ ⟨by omega, by omega⟩).mono ?_
   rintro e w6 ⟨rfl, hx6⟩
   have HX6 := Lib.hid (HX4.out.trans (hx5.trans hx6))
   clear hx5 hx6 q0 q1 f04 HD4 HX4
   by_cases hq : (mirrorS a (partner n)).2 = 0
   ·have HF := Lib.hid (read_lost HT.out HM2.out (.inl hq))
    have hq' : ((mirrorS a (partner n)).2 == 0) = true := by simpa using hq
    clear hq
    generalize (mirrorS a (partner n)).2 = tq at *
    go_wp2_with fail
    go_ret3
    rw [HF.out]
    exact ⟨rfl, HX6.out⟩
   ·have hq' : ((mirrorS a (partner n)).2 == 0) = false := by simpa using hq
    by_cases hp : (readS (dv a 2) (n / 2) (512 + n / 2)).2 = 0
    ·rw [hp]
     have HF := Lib.hid (read_par HT.out HM2.out hq hp)
     have hsz : (parS a n).1.size = (mirrorS a (partner n)).1.size := by rw [mirrorS_size hq, show (parS a n).1.size = 24 from readS_size hp]
     have hs24 : (parS a n).1.size = 24 := readS_size hp
     have HZ := Lib.hid (And.intro hsz hs24)
     have hpar : readS (dv a 2) (n / 2) (512 + n / 2) = parS a n := rfl
     rw [hpar]
     clear hp hq hsz hs24 hpar
     generalize hP : (parS a n).1 = P at *
     generalize hQ : (mirrorS a (partner n)).1 = Q at *
     generalize (mirrorS a (partner n)).2 = tq at *
     clear hP hQ
     go_wp2_with fail
     refine (others_any P Q _ HZ.out.1 (by have := HZ.out.2; omega) (by have := HZ.out.2; omega)).mono ?_
     rintro e w7 ⟨rfl, hx7⟩
     have HX7 := Lib.hid (HX6.out.trans hx7)
     clear hx7
     go_wp2_with fail
     go_ret3
     rw [HF.out]
     exact ⟨rfl, HX7.out⟩
    ·have hp' : ((readS (dv a 2) (n / 2) (512 + n / 2)).2 != 0) = true := by simpa using hp
     have HF := Lib.hid (read_lost HT.out HM2.out (.inr hp))
     clear hp hq
     generalize (mirrorS a (partner n)).2 = tq at *
     generalize (readS (dv a 2) (n / 2) (512 + n / 2)).2 = tp at *
     go_wp2_with fail
     go_ret3
     rw [HF.out]
     exact ⟨rfl, HX6.out⟩
  ·have hm' : decide (0 < (mirrorS a n).2) = true := by have := mirror_range a n; simp; omega
   have HF := Lib.hid (read_mir HT.out hm)
   clear hm hb1 hr1 f0
   have HX2 := Lib.hid (hxw.trans hx2)
   clear hxw hx2
   generalize (mirrorS a n).1 = s1 at *
   generalize (mirrorS a n).2 = s2 at *
   go_wp2_with fail
   go_ret3
   rw [HF.out]
   exact ⟨rfl, HX2.out⟩
 ·have HF := Lib.hid (read_bad ht)
  have ht' : (arrTouch a n != 0) = true := by simpa using ht
  clear ht hr1 hb1
  generalize arrTouch a n = t at *
  go_wp2_with fail
  go_ret3
  rw [HF.out]
  exact ⟨rfl, hxw⟩
end Go.Proofs.YtjadmfdlggnlgaaGreatDoor
