/-
  sector.Decode and the document's PayloadOf: the payload of a sector, or why there is none; the law SectorDecodes. Conditions: the text is no longer than a text may be.
-/
import Derived.Test.YtokpjgpdkmimgaaDoorJ3
import Derived.Laws.BitsAllLaws
import Derived.Laws.Bits128
import Derived.Laws.OwnMore
import Derived.OneCell
import Derived.Shelf.Strings.Repeat
import Derived.Test.YtokpjgpdkmimgaaDoorProg
namespace Go.Proofs.YtokpjgpdkmimgaaDoor
set_option linter.unusedSimpArgs false
set_option linter.unusedVariables false
open Go.RowKit

/-- The number that stands ahead. -/
def sectorNo (s : ByteArray) (h : 2 ≤ s.size) : Int := (256 : Int) * ((s[0]'(by omega)).toNat : Int) + ((s[1]'(by omega)).toNat : Int)
def decodeS (no : Int) (s : ByteArray) : ByteArray × Int :=
  if h : s.size = 30 then
    if (bs (sealOf (lst (s.extract 0 26)))).toList == (s.extract 26 s.size).toList then (if sectorNo s (by omega) = no then (s.extract 2 26, 0) else (.empty, 4)) else (.empty, 10)
  else (.empty, 1)

theorem sector_bits (a b : Nat) (ha : a < 256) (hb : b < 256) : bits .or .i64 ((a : Int) * 256) (b : Int) = 256 * (a : Int) + (b : Int) := by
  have e : ((a : Int) * 256) = ((a * 256 : Nat) : Int) := by omega
  show IntKind.i64.wrap ((BitVec.ofInt 64 ((a : Int) * 256) ||| BitVec.ofInt 64 (b : Int)).toNat : Int) = _
  rw [BitVec.toNat_or, e, ofInt_u64 _ (by omega), ofInt_u64 _ (by omega), nat_join 8 _ _ (by omega) (by omega), IntKind.wrap_i64]
  omega

set_option maxRecDepth 100000 in
set_option maxHeartbeats 400000 in
theorem decode_any (no : Int) (s : ByteArray) (w : World) (hs : s.size ≤ 140737488355328) (hn : I64 no) :
    Calls Tryd.prog 18 #[.int .i64 no, .string s] w fun e w' => e = .returned (.tuple #[.string (decodeS no s).1, .int .i64 (decodeS no s).2]) ∧ Ext w w' := by
  by_cases h30 : s.size = 30
  · have b1 : 30 ≤ s.size := by omega
    have b2 : s.size ≤ 30 := by omega
    have h30' : ((s.size : Int) != 30) = false := by simp; omega
    have H30 := Lib.hid h30
    have hsz : (s.extract 0 26).size ≤ 140737488355328 := by simp; omega
    have HZ := Lib.hid hsz
    have i1 : (26 : Int) ≤ (s.size : Int) := by omega
    have i2 : (0 : Int) < (s.size : Int) := by omega
    have i3 : (1 : Int) < (s.size : Int) := by omega
    have i4 : 0 < s.size := by omega
    have i5 : 1 < s.size := by omega
    clear h30 hsz hs
    cases hseal : ((bs (sealOf (lst (s.extract 0 26)))).toList == (s.extract 26 s.size).toList) with
    | false =>
      have hfin : decodeS no s = (.empty, 10) := by unfold decodeS; rw [dif_pos H30.out, hseal]; rfl
      have HF := Lib.hid hfin
      clear hfin
      go_enter Tryd.func18, Tryd.ntmps18
      go_wp2
      go_region_held3 (fun _ => True) (trivial) (first | (go_at_call 51; refine (sumOf_any _ _ HZ.out).mono ?_; rintro _ w1 ⟨rfl, f1⟩))
      go_wp2
      go_ret2
      rw [HF.out]
      exact ⟨rfl, (Ext.refl w).drew.trans f1⟩
    | true =>
      have c0 := u8_hi (s[0]'(by omega))
      have c1 := u8_hi (s[1]'(by omega))
      have hdef : decodeS no s = (if sectorNo s (by omega) = no then (s.extract 2 26, 0) else (.empty, 4)) := by unfold decodeS; rw [dif_pos H30.out, hseal]; rfl
      have HD := Lib.hid hdef
      clear hdef
      go_enter Tryd.func18, Tryd.ntmps18
      go_wp2
      go_region_held3 (fun _ => True) (trivial) (first | (go_at_call 51; refine (sumOf_any _ _ HZ.out).mono ?_; rintro _ w1 ⟨rfl, f1⟩))
      go_wp2
      go_quiet (fail)
      have hbits := sector_bits (s[0]'i4).toNat (s[1]'i5).toNat (UInt8.toNat_lt _) (UInt8.toNat_lt _)
      have HB := Lib.hid hbits
      clear hbits
      go_wp2
      · go_ret2
        rename_i hno
        have hno' : sectorNo s (by omega) ≠ no := by unfold sectorNo; rw [← HB.out]; simpa using hno
        rw [HD.out, if_neg hno']
        exact ⟨rfl, ((Ext.refl w).drew.trans f1).drewN _⟩
      · go_ret2
        rename_i hno
        have hno' : sectorNo s (by omega) = no := by unfold sectorNo; rw [← HB.out]; simpa using hno
        rw [HD.out, if_pos hno']
        exact ⟨rfl, ((Ext.refl w).drew.trans f1).drewN _⟩
  · have h30' : ((s.size : Int) != 30) = true := by simp; omega
    have hfin : decodeS no s = (.empty, 1) := by unfold decodeS; rw [dif_neg h30]
    rw [hfin]
    clear hfin h30
    go_enter Tryd.func18, Tryd.ntmps18
    go_wp2
    go_ret2
    exact ⟨rfl, Ext.refl _⟩
set_option maxRecDepth 100000 in
set_option maxHeartbeats 400000 in
theorem payloadOf_any (no : Int) (s : ByteArray) (w : World) (hs : s.size ≤ 140737488355328) (hn : I64 no) :
    Calls Tryd.prog 136 #[.int .i64 no, .string s] w fun e w' => e = .returned (.tuple #[.string (decodeS no s).1, .int .i64 (decodeS no s).2]) ∧ Ext w w' := by
  by_cases h30 : s.size = 30
  · have b1 : 30 ≤ s.size := by omega
    have b2 : s.size ≤ 30 := by omega
    have h30' : ((s.size : Int) != 30) = false := by simp; omega
    have H30 := Lib.hid h30
    have hsz : (s.extract 0 26).size ≤ 140737488355328 := by simp; omega
    have HZ := Lib.hid hsz
    have i1 : (26 : Int) ≤ (s.size : Int) := by omega
    have i2 : (0 : Int) < (s.size : Int) := by omega
    have i3 : (1 : Int) < (s.size : Int) := by omega
    have i4 : 0 < s.size := by omega
    have i5 : 1 < s.size := by omega
    clear h30 hsz hs
    cases hseal : ((bs (sealOf (lst (s.extract 0 26)))).toList == (s.extract 26 s.size).toList) with
    | false =>
      have hfin : decodeS no s = (.empty, 10) := by unfold decodeS; rw [dif_pos H30.out, hseal]; rfl
      have HF := Lib.hid hfin
      clear hfin
      go_enter Tryd.func136, Tryd.ntmps136
      go_wp2
      go_region_held3 (fun _ => True) (trivial) (first | (go_at_call 140; refine (sealOf_any _ _ HZ.out).mono ?_; rintro _ w1 ⟨rfl, f1⟩))
      go_wp2
      go_ret2
      rw [HF.out]
      exact ⟨rfl, (Ext.refl w).drew.trans f1⟩
    | true =>
      have c0 := u8_hi (s[0]'(by omega))
      have c1 := u8_hi (s[1]'(by omega))
      have hdef : decodeS no s = (if sectorNo s (by omega) = no then (s.extract 2 26, 0) else (.empty, 4)) := by unfold decodeS; rw [dif_pos H30.out, hseal]; rfl
      have HD := Lib.hid hdef
      clear hdef
      go_enter Tryd.func136, Tryd.ntmps136
      go_wp2
      go_region_held3 (fun _ => True) (trivial) (first | (go_at_call 140; refine (sealOf_any _ _ HZ.out).mono ?_; rintro _ w1 ⟨rfl, f1⟩))
      go_wp2
      go_quiet (fail)
      go_wp2
      · go_ret2
        rename_i hno
        have hno' : sectorNo s (by omega) ≠ no := by unfold sectorNo; simpa using hno
        rw [HD.out, if_neg hno']
        exact ⟨rfl, ((Ext.refl w).drew.trans f1).drewN _⟩
      · go_ret2
        rename_i hno
        have hno' : sectorNo s (by omega) = no := by unfold sectorNo; simpa using hno
        rw [HD.out, if_pos hno']
        exact ⟨rfl, ((Ext.refl w).drew.trans f1).drewN _⟩
  · have h30' : ((s.size : Int) != 30) = true := by simp; omega
    have hfin : decodeS no s = (.empty, 1) := by unfold decodeS; rw [dif_neg h30]
    rw [hfin]
    clear hfin h30
    go_enter Tryd.func136, Tryd.ntmps136
    go_wp2
    go_ret2
    exact ⟨rfl, Ext.refl _⟩

end Go.Proofs.YtokpjgpdkmimgaaDoor

/-
  device.at and the document's touched: may a sector be touched? device.Read and the document's DeviceRead; the law DeviceReads. Conditions: the argument reads as a device.
-/
namespace Go.Proofs.YtokpjgpdkmimgaaDoor
set_option linter.unusedSimpArgs false
set_option linter.unusedVariables false
open Go.RowKit

/-- The sector and the mark of a device, in memory. -/
theorem RDev.look {w : World} {A1 A2 : Option Addr} {c1 c2 : Nat} {d : Dev} (h : RDev w [.slice A1 d.sec.length c1, .slice A2 d.lost.length c2] d) (k : Nat) (h1 : k < d.sec.length) (h2 : k < d.lost.length) :
    ∃ b1 o1 b2 o2, A1 = some ⟨b1, o1, none⟩ ∧ A2 = some ⟨b2, o2, none⟩ ∧ w.cell? ⟨b1, o1 + k, none⟩ = some (.string (d.sec.getD k .empty)) ∧ w.cell? ⟨b2, o2 + k, none⟩ = some (.bool (d.lost.getD k false)) ∧ (d.sec.getD k .empty).size ≤ 140737488355328 := by
  obtain ⟨v1, v2, e, r1, r2⟩ := h
  obtain ⟨A, cc, rfl, _, _, g1⟩ := r1.row
  obtain ⟨B, cd, rfl, _, _, g2⟩ := r2.row
  obtain ⟨b1, o1, rfl, p1⟩ := g1 k h1
  obtain ⟨b2, o2, rfl, p2⟩ := g2 k h2
  obtain ⟨u1, q1, t1⟩ := p1 k h1
  obtain ⟨u2, q2, t2⟩ := p2 k h2
  simp only [List.cons.injEq, Value.slice.injEq, and_true, true_and] at e
  obtain ⟨⟨rfl, _⟩, rfl, _⟩ := e
  have e1 : d.sec.getD k .empty = d.sec[k] := by simp [h1]
  have e2 : d.lost.getD k false = d.lost[k] := by simp [h2]
  rw [e1, e2]
  have s1 := t1.2
  obtain rfl : u1 = .string d.sec[k] := by have := t1.1; simpa using this
  obtain rfl : u2 = .bool d.lost[k] := by have : [u2] = [Value.bool d.lost[k]] := t2; simpa using this
  exact ⟨b1, o1, b2, o2, rfl, rfl, q1, q2, s1⟩

def touchCode (d : Dev) (n : Int) : Int := if devMay d then (if inB n 0 ((d.sec.length : Int) - 1) then 0 else 6) else 9

set_option maxRecDepth 100000 in
set_option maxHeartbeats 400000 in
theorem devAt_any (cs : List Value) (d : Dev) (n : Int) (w : World) (h : RDev w cs d) (hn : I64 n) :
    Calls Tryd.prog 107 #[.agg cs.toArray, .int .i64 n] w fun e w' => e = .returned (.int .i64 (touchCode d n)) ∧ Ext w w' := by
  obtain ⟨A1, c1, A2, c2, rfl⟩ := h.form
  go_enter Tryd.func107, Tryd.ntmps107
  go_wp2_with fail
  refine calls_abs (fun W => Ext w W ∧ Blk_ W w.heap.size 117 #[.slice A1 d.sec.length c1, .slice A2 d.lost.length c2]) ⟨(Ext.refl _).alloc _, Blk_.new _ _ _⟩ ?_
  rintro W ⟨hx, hb⟩
  refine (devCheck_any [.slice A1 d.sec.length c1, .slice A2 d.lost.length c2] d W (h.up hx)).mono ?_
  rintro e w1 ⟨rfl, hx1⟩
  have hb1 := hb.ext hx1
  have f0 := hb1.cell 0
  have f1 := hb1.cell 1
  simp at f0 f1
  clear h
  cases hm : devMay d with
  | false =>
    have hf : devCode d = 9 := by unfold devCode; rw [hm]; rfl
    have hf2 : touchCode d n = 9 := by unfold touchCode; rw [hm]; rfl
    have HF := Lib.hid hf2
    rw [hf]
    clear hm hf hf2
    go_wp2
    go_ret
    exact ⟨ret_int HF.out.symm, hx.trans hx1⟩
  | true =>
    have hf : devCode d = 0 := by unfold devCode; rw [hm]; rfl
    have hf2 : touchCode d n = if inB n 0 ((d.sec.length : Int) - 1) then 0 else 6 := by unfold touchCode; rw [hm]; rfl
    rw [hf]
    clear hm hf
    by_cases k1 : n < 0
    · have k1' : decide (n < 0) = true := by simp; omega
      have hr : inB n 0 ((d.sec.length : Int) - 1) = false := by simp [inB]; omega
      rw [hr] at hf2
      have HF := Lib.hid hf2
      clear hr hf2
      go_wp2
      go_ret
      exact ⟨ret_int HF.out.symm, hx.trans hx1⟩
    · have k1' : decide (n < 0) = false := by simp; omega
      by_cases k2 : (d.sec.length : Int) ≤ n
      · have k2' : decide ((d.sec.length : Int) ≤ n) = true := by simp; omega
        have hr : inB n 0 ((d.sec.length : Int) - 1) = false := by simp [inB]; omega
        rw [hr] at hf2
        have HF := Lib.hid hf2
        clear hr hf2
        go_wp2
        go_ret
        exact ⟨ret_int HF.out.symm, hx.trans hx1⟩
      · have k2' : decide ((d.sec.length : Int) ≤ n) = false := by simp; omega
        have hr : inB n 0 ((d.sec.length : Int) - 1) = true := by simp [inB]; omega
        rw [hr] at hf2
        have HF := Lib.hid hf2
        clear hr hf2
        go_wp2
        go_ret
        exact ⟨ret_int HF.out.symm, hx.trans hx1⟩

set_option maxRecDepth 100000 in
set_option maxHeartbeats 400000 in
theorem touched_any (cs : List Value) (d : Dev) (n : Int) (w : World) (h : RDev w cs d) (hn : I64 n) :
    Calls Tryd.prog 135 #[.agg cs.toArray, .int .i64 n] w fun e w' => e = .returned (.int .i64 (touchCode d n)) ∧ Ext w w' := by
  obtain ⟨A1, c1, A2, c2, rfl⟩ := h.form
  go_enter Tryd.func135, Tryd.ntmps135
  go_wp2_with fail
  refine calls_abs (fun W => Ext w W ∧ Blk_ W w.heap.size 117 #[.slice A1 d.sec.length c1, .slice A2 d.lost.length c2]) ⟨(Ext.refl _).alloc _, Blk_.new _ _ _⟩ ?_
  rintro W ⟨hx, hb⟩
  refine (devMay_any [.slice A1 d.sec.length c1, .slice A2 d.lost.length c2] d W (h.up hx)).mono ?_
  rintro e w1 ⟨rfl, hx1⟩
  have hb1 := hb.ext hx1
  have f0 := hb1.cell 0
  have f1 := hb1.cell 1
  simp at f0 f1
  clear h
  cases hm : devMay d with
  | false =>
    have hf2 : touchCode d n = 9 := by unfold touchCode; rw [hm]; rfl
    have HF := Lib.hid hf2
    clear hm hf2
    go_wp2
    go_ret
    exact ⟨ret_int HF.out.symm, hx.trans hx1⟩
  | true =>
    have hf2 : touchCode d n = if inB n 0 ((d.sec.length : Int) - 1) then 0 else 6 := by unfold touchCode; rw [hm]; rfl
    obtain ⟨m1, m2, _, _⟩ := devMay_len hm
    clear hm
    cases hr : inB n 0 ((d.sec.length : Int) - 1) with
    | true =>
      obtain ⟨k2, k3⟩ := inB_true hr
      rw [hr] at hf2
      have HF := Lib.hid hf2
      clear hr hf2
      go_wp2_with (go_at_call 87; refine (in_true _ _ _ _ k2 k3).mono ?_; rintro e w1 ⟨rfl, rfl⟩)
      go_ret
      exact ⟨ret_int HF.out.symm, hx.trans hx1⟩
    | false =>
      have k2 := inB_false hr
      rw [hr] at hf2
      have HF := Lib.hid hf2
      clear hr hf2
      go_wp2_with (go_at_call 87; refine (in_false _ _ _ _ k2).mono ?_; rintro e w1 ⟨rfl, rfl⟩)
      go_ret
      exact ⟨ret_int HF.out.symm, hx.trans hx1⟩

/-- What reading a sector answers. -/
def readS (d : Dev) (n no : Int) : ByteArray × Int :=
  if touchCode d n = 0 then (if d.lost.getD n.toNat false then (.empty, 11) else decodeS no (d.sec.getD n.toNat .empty)) else (.empty, touchCode d n)
theorem touch_zero {d : Dev} {n : Int} (h : touchCode d n = 0) : devMay d = true ∧ 0 ≤ n ∧ n < d.sec.length := by
  unfold touchCode at h
  split at h
  · rename_i hm
    split at h
    · rename_i hr
      obtain ⟨a, b⟩ := inB_true hr
      exact ⟨hm, a, by omega⟩
    · omega
  · omega
theorem touch_cases (d : Dev) (n : Int) : touchCode d n = 0 ∨ touchCode d n = 6 ∨ touchCode d n = 9 := by
  unfold touchCode
  split
  · split
    · exact .inl rfl
    · exact .inr (.inl rfl)
  · exact .inr (.inr rfl)

set_option maxRecDepth 100000 in
set_option maxHeartbeats 400000 in
theorem devRead_any (cs : List Value) (d : Dev) (n no : Int) (w : World) (h : RDev w cs d) (hn : I64 n) (ho : I64 no) :
    Calls Tryd.prog 81 #[.agg cs.toArray, .int .i64 n, .int .i64 no] w fun e w' => e = .returned (.tuple #[.string (readS d n no).1, .int .i64 (readS d n no).2]) ∧ Ext w w' := by
  obtain ⟨A1, c1, A2, c2, rfl⟩ := h.form
  go_enter Tryd.func81, Tryd.ntmps81
  go_wp2_with fail
  refine calls_abs (fun W => Ext w W ∧ Blk_ W w.heap.size 117 #[.slice A1 d.sec.length c1, .slice A2 d.lost.length c2]) ⟨(Ext.refl _).alloc _, Blk_.new _ _ _⟩ ?_
  rintro W ⟨hx, hb⟩
  refine (devAt_any [.slice A1 d.sec.length c1, .slice A2 d.lost.length c2] d n W (h.up hx) hn).mono ?_
  rintro e w1 ⟨rfl, hx1⟩
  have hb1 := hb.ext hx1
  have f0 := hb1.cell 0
  have f1 := hb1.cell 1
  simp at f0 f1
  have hr1 := h.up (hx.trans hx1)
  clear h
  by_cases hc : touchCode d n = 0
  · obtain ⟨hm, n0, n1⟩ := touch_zero hc
    obtain ⟨m1, m2, m3, m4⟩ := devMay_len hm
    obtain ⟨k, rfl⟩ := Int.eq_ofNat_of_zero_le n0
    have hk : k < d.sec.length := by omega
    have hk2 : k < d.lost.length := by omega
    have hk2' : (k : Int) < (d.lost.length : Int) := by omega
    obtain ⟨b1, o1, b2, o2, rfl, rfl, q1, q2, s1⟩ := hr1.look k hk hk2
    have hf : readS d k no = if d.lost.getD k false then (.empty, 11) else decodeS no (d.sec.getD k .empty) := by unfold readS; rw [if_pos hc]; rfl
    rw [hc]
    clear hc m4 m3 hm hr1
    cases hl : d.lost.getD k false with
    | true =>
      rw [hl] at q2 hf
      have HF := Lib.hid hf
      clear hf hl
      go_wp2_with fail
      go_ret2
      exact ⟨by rw [HF.out]; rfl, hx.trans hx1⟩
    | false =>
      rw [hl] at q2 hf
      have HF := Lib.hid hf
      clear hf hl
      generalize d.sec.getD k .empty = s at *
      go_wp2_with fail
      refine (decode_any no s _ s1 ho).mono ?_
      rintro e w2 ⟨rfl, hx2⟩
      go_wp2_with fail
      go_ret2
      exact ⟨by rw [HF.out]; rfl, (hx.trans hx1).trans hx2⟩
  · have hf : readS d n no = (.empty, touchCode d n) := by unfold readS; rw [if_neg hc]
    have hc' : (touchCode d n != 0) = true := by simpa using hc
    have HF := Lib.hid hf
    clear hf hc hr1
    generalize touchCode d n = t at *
    go_wp2_with fail
    go_ret2
    exact ⟨by rw [HF.out]; rfl, hx.trans hx1⟩

set_option maxRecDepth 100000 in
set_option maxHeartbeats 400000 in
theorem deviceRead_any (cs : List Value) (d : Dev) (n no : Int) (w : World) (h : RDev w cs d) (hn : I64 n) (ho : I64 no) :
    Calls Tryd.prog 119 #[.agg cs.toArray, .int .i64 n, .int .i64 no] w fun e w' => e = .returned (.tuple #[.string (readS d n no).1, .int .i64 (readS d n no).2]) ∧ Ext w w' := by
  obtain ⟨A1, c1, A2, c2, rfl⟩ := h.form
  go_enter Tryd.func119, Tryd.ntmps119
  go_wp2_with fail
  refine calls_abs (fun W => Ext w W ∧ Blk_ W w.heap.size 117 #[.slice A1 d.sec.length c1, .slice A2 d.lost.length c2]) ⟨(Ext.refl _).alloc _, Blk_.new _ _ _⟩ ?_
  rintro W ⟨hx, hb⟩
  refine (touched_any [.slice A1 d.sec.length c1, .slice A2 d.lost.length c2] d n W (h.up hx) hn).mono ?_
  rintro e w1 ⟨rfl, hx1⟩
  have hb1 := hb.ext hx1
  have f0 := hb1.cell 0
  have f1 := hb1.cell 1
  simp at f0 f1
  have hr1 := h.up (hx.trans hx1)
  clear h
  by_cases hc : touchCode d n = 0
  · obtain ⟨hm, n0, n1⟩ := touch_zero hc
    obtain ⟨m1, m2, m3, m4⟩ := devMay_len hm
    obtain ⟨k, rfl⟩ := Int.eq_ofNat_of_zero_le n0
    have hk : k < d.sec.length := by omega
    have hk2 : k < d.lost.length := by omega
    have hk2' : (k : Int) < (d.lost.length : Int) := by omega
    obtain ⟨b1, o1, b2, o2, rfl, rfl, q1, q2, s1⟩ := hr1.look k hk hk2
    have hf : readS d k no = if d.lost.getD k false then (.empty, 11) else decodeS no (d.sec.getD k .empty) := by unfold readS; rw [if_pos hc]; rfl
    rw [hc]
    clear hc m4 m3 hm hr1
    cases hl : d.lost.getD k false with
    | true =>
      rw [hl] at q2 hf
      have HF := Lib.hid hf
      clear hf hl
      go_wp2_with fail
      go_ret2
      exact ⟨by rw [HF.out]; rfl, hx.trans hx1⟩
    | false =>
      rw [hl] at q2 hf
      have HF := Lib.hid hf
      clear hf hl
      generalize d.sec.getD k .empty = s at *
      go_wp2_with fail
      refine (payloadOf_any no s _ s1 ho).mono ?_
      rintro e w2 ⟨rfl, hx2⟩
      go_wp2_with fail
      go_ret2
      exact ⟨by rw [HF.out]; rfl, (hx.trans hx1).trans hx2⟩
  · have hf : readS d n no = (.empty, touchCode d n) := by unfold readS; rw [if_neg hc]
    have hc' : (touchCode d n != 0) = true := by simpa using hc
    have hc2 : (touchCode d n == 0) = false := by simpa using hc
    have HF := Lib.hid hf
    clear hf hc hr1
    generalize touchCode d n = t at *
    go_wp2_with fail
    go_ret2
    exact ⟨by rw [HF.out]; rfl, hx.trans hx1⟩

end Go.Proofs.YtokpjgpdkmimgaaDoor

/-
  A device of the call's own, in memory: both rows new; a sector or a mark may be stored into it. Conditions: none.
-/
namespace Go.Proofs.YtokpjgpdkmimgaaDoor
set_option linter.unusedSimpArgs false
set_option linter.unusedVariables false
open Go.RowKit

/-- Both rows of the device lie in blocks of the call's own. -/
def ODev (S L : TypeId) (w : World) (base : Nat) (v1 v2 : Value) (d : Dev) : Prop :=
  w.ownsRow base S 1 v1 d.sec.length (d.sec.flatMap encStr) ∧ w.ownsRow base L 1 v2 d.lost.length (d.lost.flatMap encBool) ∧ d.sec.length * 16 ≤ 140737488355328 ∧ d.lost.length ≤ 140737488355328 ∧ ∀ s ∈ d.sec, s.size ≤ 140737488355328
theorem ODev.ext {S L : TypeId} {w w' : World} {base : Nat} {v1 v2 : Value} {d : Dev} (h : ODev S L w base v1 v2 d) (k : Ext w w') : ODev S L w' base v1 v2 d := ⟨own_ext h.1 k, own_ext h.2.1 k, h.2.2⟩
theorem ODev.base {S L : TypeId} {w : World} {base base' : Nat} {v1 v2 : Value} {d : Dev} (h : ODev S L w base v1 v2 d) (hb : base' ≤ base) : ODev S L w base' v1 v2 d := ⟨own_base h.1 hb, own_base h.2.1 hb, h.2.2⟩
theorem ODev.far {S L : TypeId} {w : World} {base : Nat} {v1 v2 : Value} {d : Dev} (h : ODev S L w base v1 v2 d) {p : Addr} (hp : p.block < base) (u : Value) : ODev S L (w.setCell p u) base v1 v2 d :=
  ⟨ownsRow_setCell_below h.1 hp u, ownsRow_setCell_below h.2.1 hp u, h.2.2⟩
theorem ODev.new1 {S L : TypeId} {w : World} {base : Nat} {v1 v2 : Value} {d : Dev} (h : ODev S L w base v1 v2 d) : New base v1 := New.own h.1
theorem ODev.new2 {S L : TypeId} {w : World} {base : Nat} {v1 v2 : Value} {d : Dev} (h : ODev S L w base v1 v2 d) : New base v2 := New.own h.2.1
theorem ODev.dev {S L : TypeId} {w : World} {base : Nat} {v1 v2 : Value} {d : Dev} (h : ODev S L w base v1 v2 d) : RDev w [v1, v2] d :=
  ⟨v1, v2, rfl, SlR.of_own encStr_ok h.1 h.2.2.1 (fun a ha => ⟨rfl, h.2.2.2.2 a ha⟩), SlR.of_own encBool_ok h.2.1 (by have := h.2.2.2.1; omega) (fun a ha => rfl)⟩
theorem flat_str_set (l : List ByteArray) (k : Nat) (s : ByteArray) : (l.set k s).flatMap encStr = (l.flatMap encStr).set k (.string s) := by
  induction l generalizing k with
  | nil => rfl
  | cons a l ih =>
    cases k with
    | zero => rfl
    | succ k => simp only [List.set_cons_succ, List.flatMap_cons]; rw [ih]; rfl
theorem flat_bool_set (l : List Bool) (k : Nat) (s : Bool) : (l.set k s).flatMap encBool = (l.flatMap encBool).set k (.bool s) := by
  induction l generalizing k with
  | nil => rfl
  | cons a l ih =>
    cases k with
    | zero => rfl
    | succ k => simp only [List.set_cons_succ, List.flatMap_cons]; rw [ih]; rfl
theorem flat_bool_get (l : List Bool) (k : Nat) (h : k < l.length) : (l.flatMap encBool)[k]? = some (.bool l[k]) := by
  induction l generalizing k with
  | nil => cases h
  | cons a l ih =>
    cases k with
    | zero => rfl
    | succ k => exact ih k (by simpa using h)
theorem flat_str_get (l : List ByteArray) (k : Nat) (h : k < l.length) : (l.flatMap encStr)[k]? = some (.string l[k]) := by
  induction l generalizing k with
  | nil => cases h
  | cons a l ih =>
    cases k with
    | zero => rfl
    | succ k => exact ih k (by simpa using h)
theorem own_other {w : World} {base : Nat} {e e' : TypeId} {v : Value} {n n' c : Nat} {g : Nat} {xs xs' : List Value} (h : w.ownsRow base e 1 v n xs) (h' : w.ownsRow base e' 1 (.slice (some ⟨g, 0, none⟩) n' c) n' xs') (he : e ≠ e') : v.ownBlock ≠ some g := by
  intro hv
  rcases h.2 with ⟨hv', _⟩ | ⟨g1, cap, cur, hv', _, hg, _⟩
  · rw [hv'] at hv; cases hv
  · rw [hv'] at hv
    have : g1 = g := by simpa [Value.ownBlock] using hv
    subst this
    rcases h'.2 with ⟨hv2, _⟩ | ⟨g2, cap2, cur2, hv2, _, hg2, _⟩
    · cases hv2
    · injection hv2 with a1 a2 a3
      injection a1 with a1
      injection a1 with a1
      subst a1
      rw [hg] at hg2
      injection hg2 with hg2
      injection hg2 with b1 b2 b3
      exact he b2
theorem ODev.setLost {S L : TypeId} {w : World} {base g n c : Nat} {v1 : Value} {d : Dev} (h : ODev S L w base v1 (.slice (some ⟨g, 0, none⟩) n c) d) (hn : n = d.lost.length) (hSL : S ≠ L) (k : Nat) (b : Bool) :
    ODev S L (w.setCell ⟨g, k, none⟩ (.bool b)) base v1 (.slice (some ⟨g, 0, none⟩) n c) ⟨d.sec, d.lost.set k b⟩ := by
  subst hn
  obtain ⟨h1, h2, h3, h4, h5⟩ := h
  refine ⟨ownsRow_setCell_other h1 (own_other h1 h2 hSL) _, ?_, h3, by simpa using h4, h5⟩
  have := (h2.stored k (.bool b)).1
  rw [flat_bool_set]
  simpa using this
theorem ODev.setSec {S L : TypeId} {w : World} {base g n c : Nat} {v2 : Value} {d : Dev} (h : ODev S L w base (.slice (some ⟨g, 0, none⟩) n c) v2 d) (hn : n = d.sec.length) (hSL : S ≠ L) (k : Nat) (s : ByteArray) (hs : s.size ≤ 140737488355328) :
    ODev S L (w.setCell ⟨g, k, none⟩ (.string s)) base (.slice (some ⟨g, 0, none⟩) n c) v2 ⟨d.sec.set k s, d.lost⟩ := by
  subst hn
  obtain ⟨h1, h2, h3, h4, h5⟩ := h
  refine ⟨?_, ownsRow_setCell_other h2 (own_other h2 h1 (Ne.symm hSL)) _, by simpa using h3, h4, fun x hx => ?_⟩
  · have := (h1.stored k (.string s)).1
    rw [flat_str_set]
    simpa using this
  · rcases List.mem_or_eq_of_mem_set hx with hx | rfl
    · exact h5 x hx
    · exact hs
/-- What it is that owns a row that is not empty. -/
theorem own_form {w : World} {base : Nat} {e : TypeId} {A : Option Addr} {n c : Nat} {xs : List Value} (h : w.ownsRow base e 1 (.slice A n c) n xs) (hn : 0 < n) : ∃ g, A = some ⟨g, 0, none⟩ ∧ base ≤ g ∧ g < w.heap.size ∧ ∀ k, w.frozen? ⟨g, k, none⟩ = false := by
  have h' := h
  rcases h.2 with ⟨hv, h0⟩ | ⟨g, cap, cur, hv, hb, hg, _⟩
  · omega
  · injection hv with a1 a2 a3
    subst a1
    subst a3
    exact ⟨g, rfl, hb, (h'.lt g rfl).2, fun k => h'.frozenAt k⟩
/-- The rows of a copy are a device of the call's own. -/
theorem RDev.own {S L : TypeId} {w w' : World} {cs : List Value} {d : Dev} (h : RDev w cs d) {base : Nat} {v1 v2 : Value} (o1 : w'.ownsRow base S 1 v1 d.sec.length (d.sec.flatMap encStr))
    (o2 : w'.ownsRow base L 1 v2 d.lost.length (d.lost.flatMap encBool)) : ODev S L w' base v1 v2 d := by
  obtain ⟨_, _, _, h1, h2⟩ := h
  refine ⟨o1, o2, h1.len, by have := h2.len; omega, fun s hs => (h1.mem encStr_ok w s hs).2⟩

section
variable {P : Program} (w : World)
theorem run_append_nil_none (t ty e : TypeId) (i : TypeInfo) (c : Nat) (ht : P.underlying t = some (.slice e)) (hi : P.info? e = some i) :
    (Builtin.append_ #[t, t] ty #[.slice none 0 0, .slice none 0 c]).run P w = .ok (.slice none 0 0) w := by
  simp [Builtin.append_, run_underlying ht, sizeOf, typeInfo, hi, Builtin.lenOf, Builtin.firstCells]
/-- append(nil, l..): a copy in new memory. -/
theorem wp_append_copy {α : Type} {C bytes : Nat} {R : Rd α} {enc : α → List Value} (he : Enc C R enc) (hC : 0 < C) {o : Oper} {a : Act} {K : Act → World → Prop} {Q : Exit → Act → World → Prop} (s x : Operand) (t : TypeId)
    (ho : o.op = .call { callee := .builtin .append, args := #[s, x], argTypes := #[t, t] })
    (e : TypeId) (i : TypeInfo) (z : Value) (ht : P.underlying t = some (.slice e)) (hi : P.info? e = some i) (hz : i.zero = some z)
    (hsize : i.size = C) (hby : i.bytes = bytes) (hzs : z.cells.size = C)
    (hs : a.eval s = .slice none 0 0) (v : Value) (l : List α) (hx : a.eval x = v) (hv : SlR C bytes R w v l) (h63 : l.length ≤ maxLen)
    (h : ∀ A' c' w', w'.ownsRow w.heap.size e C (.slice A' l.length c') l.length (l.flatMap enc) → Ext w w' → K (a.put o.dst (.slice A' l.length c')) w') : o.wp P a w K Q := by
  obtain ⟨A, cap, rfl, hb, hc, hl⟩ := hv.cells he hC
  clear hv
  cases A with
  | none =>
    have hl0 : l = [] := by rcases hl with h | ⟨b, o, h, _⟩; exact h; cases h
    subst hl0
    have hrun := run_append_nil_none (P := P) w t o.type e i cap ht hi
    unfold Oper.wp execOp
    simp only [ho, resolve, invoke, builtin, Sem.run_bind, Sem.run_pure, Result.andThen_ok, List.map_toArray, List.map_cons, List.map_nil, hs, hx, List.length_nil, hrun]
    exact h none 0 w (World.ownsRow_nil _ _ _ _) (Ext.refl _)
  | some ad =>
    have hcells : ∀ (j : Nat) (u : Value), (l.flatMap enc)[j]? = some u → w.cell? (ad.add j) = some u := by
      rcases hl with h | ⟨b, o, h, hc, _⟩
      · subst h; intro j u hu; simp at hu
      · cases h; exact hc
    refine wp_append_at w s x t ho w.heap.size e i z C bytes ht hi hz hsize hby hzs hC _ 0 [] hs (World.ownsRow_nil _ _ _ _) ad l.length cap (l.flatMap enc) hx (length_flatMap he.len l) hcells
      (fun u hu => by obtain ⟨y, _, hy⟩ := List.mem_flatMap.1 hu; exact he.one y u hy) (by omega) (by rw [Nat.zero_add]; exact hb) (Nat.le_refl _) ?_
    intro A' c' w' h1 h2 h3
    rw [Nat.zero_add, List.nil_append] at h1
    rw [Nat.zero_add]
    exact h A' c' w' h1 ((Ext.refl w).grown h2 (fun k hk => by cases hk))
end
end Go.Proofs.YtokpjgpdkmimgaaDoor

/-
  The document's DeviceCopy: both rows in new memory. device.Lose and DeviceLost: a mark is set in a copy; the law DeviceLoses. Conditions: the argument reads as a device.
-/
namespace Go.Proofs.YtokpjgpdkmimgaaDoor
set_option linter.unusedSimpArgs false
set_option linter.unusedVariables false
open Go.RowKit

def loseS (d : Dev) (n : Int) : Dev := if touchCode d n = 0 then ⟨d.sec, d.lost.set n.toNat true⟩ else ⟨[], []⟩

set_option maxRecDepth 100000 in
set_option maxHeartbeats 400000 in
theorem devLose_any (cs : List Value) (d : Dev) (n : Int) (w : World) (h : RDev w cs d) (hn : I64 n) :
    Calls Tryd.prog 76 #[.agg cs.toArray, .int .i64 n] w fun e w' => ∃ A1 c1 A2 c2, e = .returned (.tuple #[.agg #[.slice A1 (loseS d n).sec.length c1, .slice A2 (loseS d n).lost.length c2], .int .i64 (touchCode d n)]) ∧ Ext w w' ∧
      ODev 9 4 w' w.heap.size (.slice A1 (loseS d n).sec.length c1) (.slice A2 (loseS d n).lost.length c2) (loseS d n) := by
  obtain ⟨A1, c1, A2, c2, rfl⟩ := h.form
  go_enter Tryd.func76, Tryd.ntmps76
  go_wp2_with fail
  refine calls_abs (fun W => Ext w W ∧ Blk_ W w.heap.size 117 #[.slice A1 d.sec.length c1, .slice A2 d.lost.length c2] ∧ Blk_ W (w.heap.size + 1) 117 #[.slice none 0 0, .slice none 0 0]) ⟨((Ext.refl _).alloc _).alloc _, (Blk_.new _ _ _).alloc _, Blk_.new1 _ _ _ _⟩ ?_
  rintro W ⟨hx, hb, hbr⟩
  refine (devAt_any [.slice A1 d.sec.length c1, .slice A2 d.lost.length c2] d n W (h.up hx) hn).mono ?_
  rintro e w1 ⟨rfl, hx1⟩
  have hb1 := hb.ext hx1
  have hbr1 := hbr.ext hx1
  have f0 := hb1.cell 0
  have f1 := hb1.cell 1
  simp at f0 f1
  have hr1 := h.up (hx.trans hx1)
  have hx0 := hx.trans hx1
  clear h hb hbr hx hx1
  by_cases hc : touchCode d n = 0
  · obtain ⟨hm, n0, n1⟩ := touch_zero hc
    obtain ⟨m1, m2, m3, m4⟩ := devMay_len hm
    obtain ⟨k, rfl⟩ := Int.eq_ofNat_of_zero_le n0
    have hk2' : (k : Int) < (d.lost.length : Int) := by omega
    have hf : loseS d k = ⟨d.sec, d.lost.set k true⟩ := by unfold loseS; rw [if_pos hc]; rfl
    have hlp : 0 < d.lost.length := by omega
    have HC := Lib.hid hc
    have HF := Lib.hid hf
    rw [hc]
    clear hc m4 m3 hm hf
    go_wp2_with fail
    refine (devCopy_any [.slice A1 d.sec.length c1, .slice A2 d.lost.length c2] d _ hr1).mono ?_
    rintro e w2 ⟨B1, k1, B2, k2, rfl, hx2, o1, o2⟩
    have hod := hr1.own o1 o2
    have hb2 := hb1.ext hx2
    have hbr2 := hbr1.ext hx2
    obtain ⟨g, rfl, hg1, hg2, hg3⟩ := own_form o2 hlp
    have g0 := hb2.cell 0
    have g1 := hb2.cell 1
    have z0 := hb2.frozen 0
    have z1 := hb2.frozen 1
    have y0 := hbr2.cell 0
    have y1 := hbr2.cell 1
    have x0 := hbr2.frozen 0
    have x1 := hbr2.frozen 1
    simp at g0 g1 y0 y1
    have zk := hg3 k
    have ck := (o2.cellAt k (by omega)).trans (flat_bool_get d.lost k (by omega))
    have hlt := hbr1.lt
    have ne1 : ¬ (w.heap.size = g) := by omega
    have ne2 : ¬ (g = w.heap.size) := by omega
    have ne3 : ¬ (w.heap.size + 1 = g) := by omega
    have ne4 : ¬ (g = w.heap.size + 1) := by omega
    have hgw : w.heap.size ≤ g := by omega
    have HO := Lib.hid hod
    have HX := Lib.hid ((hx0.trans hx2))
    have HB := Lib.hid ((((((hbr2.far (p := ⟨w.heap.size, 0, none⟩) (by simp) (.slice B1 d.sec.length k1)).far (p := ⟨w.heap.size, 1, none⟩) (by simp) (.slice (some ⟨g, 0, none⟩) d.lost.length k2)).far (p := ⟨g, k, none⟩) ne3 (.bool true)).set 0 (.slice B1 d.sec.length k1)).set 1 (.slice (some ⟨g, 0, none⟩) d.lost.length k2)))
    clear hr1 f0 f1 o1 o2 hg3 hod hx0 hx2 hb1 hbr1 hb2 hg1 hg2 n1 hlp
    go_wp2_with fail
    refine bodyPost_ret (res_cell_tmp rfl rfl HB.out Tryd.underlying117 rfl (by kernel_rfl)) rfl ?_
    rw [HF.out, HC.out]
    refine ⟨B1, k1, some ⟨g, 0, none⟩, k2, ?_, ?_, ?_⟩
    · rw [List.length_set]; rfl
    · exact ((((HX.out.setCell (by simp) _).setCell (by simp) _).setCell (by simp; omega) _).setCell (by simp) _).setCell (by simp) _
    · have := (((((HO.out.far (p := ⟨w.heap.size, 0, none⟩) (by simp; omega) (.slice B1 d.sec.length k1)).far (p := ⟨w.heap.size, 1, none⟩) (by simp; omega) (.slice (some ⟨g, 0, none⟩) d.lost.length k2)).setLost rfl (by decide) k true).far (p := ⟨w.heap.size + 1, 0, none⟩) (by simp; omega) (.slice B1 d.sec.length k1)).far (p := ⟨w.heap.size + 1, 1, none⟩) (by simp; omega) (.slice (some ⟨g, 0, none⟩) d.lost.length k2)).base (base' := w.heap.size) (by omega)
      rw [List.length_set]
      exact this
  · have hf : loseS d n = ⟨[], []⟩ := by unfold loseS; rw [if_neg hc]
    have hc' : (touchCode d n != 0) = true := by simpa using hc
    have HF := Lib.hid hf
    clear hf hc hr1
    have y0 := hbr1.cell 0
    have y1 := hbr1.cell 1
    have x0 := hbr1.frozen 0
    have x1 := hbr1.frozen 1
    simp at y0 y1
    have HB := Lib.hid ((hbr1.set 0 (.slice none 0 0)).set 1 (.slice none 0 0))
    go_wp2_with fail
    refine bodyPost_ret (res_cell_tmp rfl rfl HB.out Tryd.underlying117 rfl (by kernel_rfl)) rfl ?_
    rw [HF.out]
    refine ⟨none, 0, none, 0, rfl, (hx0.setCell (by simp) _).setCell (by simp) _, ?_⟩
    exact ⟨World.ownsRow_nil _ _ _ _, World.ownsRow_nil _ _ _ _, by simp, by simp, fun s hs => by cases hs⟩
end Go.Proofs.YtokpjgpdkmimgaaDoor

/-
  The press in plain Lean: what stands further back, pieces, bytes as they are, packing and unpacking. Conditions: none.
-/
namespace Go.Proofs.YtokpjgpdkmimgaaDoor
set_option linter.unusedSimpArgs false
set_option linter.unusedVariables false
open Go.RowKit

/-- The byte at a place; 0 where there is none. -/
def at_ (s : ByteArray) (k : Nat) : UInt8 := if h : k < s.size then s[k] else 0
theorem at_eq (s : ByteArray) (k : Nat) (h : k < s.size) : at_ s k = s[k] := dif_pos h
/-- How many bytes from k on are those from i on, when n are known to be. -/
def alikeF (s : ByteArray) (k i n : Nat) : Nat := if n < 131 ∧ i + n < s.size ∧ at_ s (k + n) = at_ s (i + n) then alikeF s k i (n + 1) else n
termination_by 131 - n
/-- The longest piece further back, from the distance d on. -/
def pieceF (s : ByteArray) (i d best back : Nat) : Nat × Nat :=
  if d ≤ 255 ∧ d ≤ i then (if best < alikeF s (i - d) i 0 then pieceF s i (d + 1) (alikeF s (i - d) i 0) d else pieceF s i (d + 1) best back) else (best, back)
termination_by 256 - d
/-- Bytes as they are. -/
def plainF (l : List UInt8) : List UInt8 := if h : l = [] then [] else UInt8.ofNat (min l.length 128 - 1) :: (l.take 128 ++ plainF (l.drop 128))
termination_by l.length
decreasing_by
  have : 0 < l.length := List.length_pos_iff.2 h
  simp only [List.length_drop]; omega
def sub_ (s : ByteArray) (a b : Nat) : List UInt8 := ((lst s).take b).drop a
theorem length_sub_ (s : ByteArray) (a b : Nat) (h : b ≤ s.size) : (sub_ s a b).length = b - a := by
  unfold sub_; rw [List.length_drop, List.length_take, length_lst]; omega
def packF (s : ByteArray) (out : List UInt8) (from_ i : Nat) : List UInt8 :=
  if h : i < s.size then
    (if h2 : (pieceF s i 1 0 0).1 < 4 then packF s out from_ (i + 1)
     else packF s (out ++ plainF (sub_ s from_ i) ++ [UInt8.ofNat (124 + (pieceF s i 1 0 0).1), UInt8.ofNat (pieceF s i 1 0 0).2]) (i + (pieceF s i 1 0 0).1) (i + (pieceF s i 1 0 0).1))
  else out ++ plainF (sub_ s from_ s.size)
termination_by s.size - i
def packS (s : ByteArray) : ByteArray × Int := if 600 < s.size then (.empty, 1) else (bs (packF s [] 0 0), 0)

theorem alikeF_le (s : ByteArray) (k i n : Nat) (h : n ≤ 131) : n ≤ alikeF s k i n ∧ alikeF s k i n ≤ 131 := by
  induction hm : 131 - n generalizing n with
  | zero => rw [alikeF, if_neg (by omega)]; omega
  | succ m ih =>
    rw [alikeF]
    split
    · have := ih (n + 1) (by omega) (by omega); omega
    · omega
theorem alikeF_size (s : ByteArray) (k i n : Nat) (h : i + n ≤ s.size) : i + alikeF s k i n ≤ s.size := by
  induction hm : 131 - n generalizing n with
  | zero => rw [alikeF, if_neg (by omega)]; omega
  | succ m ih =>
    rw [alikeF]
    split
    · exact ih (n + 1) (by omega) (by omega)
    · omega
theorem alikeF_at (s : ByteArray) (k i n j : Nat) (h1 : n ≤ j) (h2 : j < alikeF s k i n) : at_ s (k + j) = at_ s (i + j) := by
  induction hm : 131 - n generalizing n with
  | zero => rw [alikeF, if_neg (by omega)] at h2; omega
  | succ m ih =>
    rw [alikeF] at h2
    split at h2
    · rename_i hc
      by_cases he : j = n
      · subst he; exact hc.2.2
      · exact ih (n + 1) (by omega) h2 (by omega)
    · omega
/-- What a piece is: so long, so far back, and alike. -/
def PieceOk (s : ByteArray) (i : Nat) (p : Nat × Nat) : Prop := p.1 = 0 ∨ (1 ≤ p.2 ∧ p.2 ≤ 255 ∧ p.2 ≤ i ∧ p.1 ≤ 131 ∧ i + p.1 ≤ s.size ∧ ∀ j, j < p.1 → at_ s (i - p.2 + j) = at_ s (i + j))
theorem pieceF_ok (s : ByteArray) (i d best back : Nat) (hd : 1 ≤ d) (hi : i ≤ s.size) (h : PieceOk s i (best, back)) : PieceOk s i (pieceF s i d best back) := by
  induction hm : 256 - d generalizing d best back with
  | zero => rw [pieceF, if_neg (by omega)]; exact h
  | succ m ih =>
    rw [pieceF]
    split
    · rename_i hc
      split
      · refine ih (d + 1) _ _ (by omega) ?_ (by omega)
        right
        have h1 := alikeF_le s (i - d) i 0 (by omega)
        have h2 := alikeF_size s (i - d) i 0 (by omega)
        exact ⟨hd, hc.1, hc.2, h1.2, h2, fun j hj => alikeF_at s (i - d) i 0 j (by omega) hj⟩
      · exact ih (d + 1) _ _ (by omega) h (by omega)
    · exact h
theorem piece_ok (s : ByteArray) (i : Nat) (hi : i ≤ s.size) : PieceOk s i (pieceF s i 1 0 0) := pieceF_ok s i 1 0 0 (by omega) hi (.inl rfl)
theorem piece_le (s : ByteArray) (i : Nat) (hi : i ≤ s.size) : (pieceF s i 1 0 0).1 ≤ 131 ∧ i + (pieceF s i 1 0 0).1 ≤ s.size := by
  rcases piece_ok s i hi with h | h
  · omega
  · exact ⟨h.2.2.2.1, h.2.2.2.2.1⟩

/-- Bytes that stood there, once more. -/
def copyB (d : Nat) : Nat → List UInt8 → List UInt8
  | 0, out => out
  | k + 1, out => copyB d k (out ++ [out.getD (out.length - d) 0])
theorem length_copyB (d k : Nat) (out : List UInt8) : (copyB d k out).length = out.length + k := by
  induction k generalizing out with
  | zero => rfl
  | succ k ih => unfold copyB; rw [ih]; simp; omega
def unpackF (l out : List UInt8) : ByteArray × Int :=
  match l with
  | [] => (bs out, 0)
  | c :: r =>
    if c.toNat < 128 then (if r.length < c.toNat + 1 then (.empty, 5) else if 600 < (out ++ r.take (c.toNat + 1)).length then (.empty, 1) else unpackF (r.drop (c.toNat + 1)) (out ++ r.take (c.toNat + 1)))
    else match r with
      | [] => (.empty, 5)
      | d :: r' => if d.toNat = 0 ∨ out.length < d.toNat then (.empty, 4) else if 600 < (copyB d.toNat (c.toNat - 124) out).length then (.empty, 1) else unpackF r' (copyB d.toNat (c.toNat - 124) out)
termination_by l.length
decreasing_by
  · simp only [List.length_drop, List.length_cons]; omega
  · simp only [List.length_cons]; omega
theorem unpackF_nil (out : List UInt8) : unpackF [] out = (bs out, 0) := by rw [unpackF.eq_def]
theorem unpackF_plain {c : UInt8} (r out : List UInt8) (h : c.toNat < 128) : unpackF (c :: r) out = if r.length < c.toNat + 1 then (.empty, 5) else if 600 < (out ++ r.take (c.toNat + 1)).length then (.empty, 1) else unpackF (r.drop (c.toNat + 1)) (out ++ r.take (c.toNat + 1)) := by
  rw [unpackF.eq_def]
  simp only
  rw [if_pos h]
theorem unpackF_end {c : UInt8} (out : List UInt8) (h : ¬ c.toNat < 128) : unpackF [c] out = (.empty, 5) := by
  rw [unpackF.eq_def]
  simp only
  rw [if_neg h]
theorem unpackF_piece {c d : UInt8} (r out : List UInt8) (h : ¬ c.toNat < 128) : unpackF (c :: d :: r) out = if d.toNat = 0 ∨ out.length < d.toNat then (.empty, 4) else if 600 < (copyB d.toNat (c.toNat - 124) out).length then (.empty, 1) else unpackF r (copyB d.toNat (c.toNat - 124) out) := by
  rw [unpackF.eq_def]
  simp only
  rw [if_neg h]
def unpackS (s : ByteArray) : ByteArray × Int := unpackF (lst s) []
end Go.Proofs.YtokpjgpdkmimgaaDoor

/-
  strings.Repeat in this seat: the library's contract, laid (printed by the kit's lay-shelf and lay-plain). Conditions: none.
-/
namespace Go.Proofs.YtokpjgpdkmimgaaDoor
open Go.Shelf
def Tryd.lays105_ren : Go.Shelf.Ren := ⟨fun | 105 => 28 | 212 => 62 | 99 => 19 | 165 => 63 | 166 => 64 | 170 => 65 | 169 => 66 | 263 => 95 | 264 => 96 | 206 => 52 | 240 => 97 | 241 => 98 | 276 => 121 | 277 => 122 | n => n, fun | 9 => 9 | 3 => 3 | 4 => 4 | 20 => 20 | 0 => 0 | 46 => 86 | 109 => 97 | 5 => 5 | 72 => 101 | 76 => 105 | 51 => 137 | 146 => 138 | 53 => 140 | 148 => 141 | 70 => 99 | 37 => 34 | 75 => 104 | 127 => 143 | 164 => 158 | 80 => 107 | n => n, fun | n => n⟩
theorem Tryd.lays105 : Go.Proofs.Lays.n105 Tryd.prog Tryd.lays105_ren := {
  mixed := by kernel_rfl
  f99 := Tryd.func19.trans (congrArg some (by kernel_rfl))
  f105 := Tryd.func28.trans (congrArg some (by kernel_rfl))
  f165 := Tryd.func63.trans (congrArg some (by kernel_rfl))
  f166 := Tryd.func64.trans (congrArg some (by kernel_rfl))
  f169 := Tryd.func66.trans (congrArg some (by kernel_rfl))
  f170 := Tryd.func65.trans (congrArg some (by kernel_rfl))
  f206 := Tryd.func52.trans (congrArg some (by kernel_rfl))
  f212 := Tryd.func62.trans (congrArg some (by kernel_rfl))
  f240 := Tryd.func97.trans (congrArg some (by kernel_rfl))
  f241 := Tryd.func98.trans (congrArg some (by kernel_rfl))
  f263 := Tryd.func95.trans (congrArg some (by kernel_rfl))
  f264 := Tryd.func96.trans (congrArg some (by kernel_rfl))
  f276 := Tryd.func121.trans (congrArg some (by kernel_rfl))
  f277 := Tryd.func122.trans (congrArg some (by kernel_rfl))
  t0 := Tryd.underlying0
  a0 := Tryd.isAgg0
  z0 := Tryd.sizeOf0
  v0 := Tryd.zeroValue0
  t3 := Tryd.underlying3
  a3 := Tryd.isAgg3
  z3 := Tryd.sizeOf3
  v3 := Tryd.zeroValue3
  t4 := Tryd.underlying4
  a4 := Tryd.isAgg4
  z4 := Tryd.sizeOf4
  v4 := Tryd.zeroValue4
  t5 := Tryd.underlying5
  a5 := Tryd.isAgg5
  z5 := Tryd.sizeOf5
  v5 := Tryd.zeroValue5
  t9 := Tryd.underlying9
  a9 := Tryd.isAgg9
  z9 := Tryd.sizeOf9
  v9 := Tryd.zeroValue9
  t20 := Tryd.underlying20
  a20 := Tryd.isAgg20
  z20 := Tryd.sizeOf20
  v20 := Tryd.zeroValue20
  t37 := Tryd.underlying34
  a37 := Tryd.isAgg34
  z37 := Tryd.sizeOf34
  v37 := Tryd.zeroValue34
  t46 := Tryd.underlying86
  a46 := Tryd.isAgg86
  z46 := Tryd.sizeOf86
  v46 := Tryd.zeroValue86
  t51 := Tryd.underlying137
  a51 := Tryd.isAgg137
  z51 := Tryd.sizeOf137
  v51 := Tryd.zeroValue137
  t53 := Tryd.underlying140
  a53 := Tryd.isAgg140
  z53 := Tryd.sizeOf140
  v53 := Tryd.zeroValue140
  t70 := Tryd.underlying99
  a70 := Tryd.isAgg99
  z70 := Tryd.sizeOf99
  v70 := Tryd.zeroValue99
  t72 := Tryd.underlying101
  a72 := Tryd.isAgg101
  z72 := Tryd.sizeOf101
  v72 := Tryd.zeroValue101
  t75 := Tryd.underlying104
  a75 := Tryd.isAgg104
  z75 := Tryd.sizeOf104
  v75 := Tryd.zeroValue104
  t76 := Tryd.underlying105
  a76 := Tryd.isAgg105
  z76 := Tryd.sizeOf105
  v76 := Tryd.zeroValue105
  t109 := Tryd.underlying97
  a109 := Tryd.isAgg97
  z109 := Tryd.sizeOf97
  v109 := Tryd.zeroValue97
  t127 := Tryd.underlying143
  a127 := Tryd.isAgg143
  z127 := Tryd.sizeOf143
  v127 := Tryd.zeroValue143
  t146 := Tryd.underlying138
  a146 := Tryd.isAgg138
  z146 := Tryd.sizeOf138
  v146 := Tryd.zeroValue138
  t148 := Tryd.underlying141
  a148 := Tryd.isAgg141
  z148 := Tryd.sizeOf141
  v148 := Tryd.zeroValue141
  t164 := Tryd.underlying158
  a164 := Tryd.isAgg158
  z164 := Tryd.sizeOf158
  v164 := Tryd.zeroValue158 }
theorem Tryd.Builder_Extra_105 : Builder.Extra Tryd.prog Tryd.lays105_ren := {
  sizeBuilder := by kernel_rfl
  liesBuilder := by kernel_rfl
  t5 := Tryd.underlying5
  a5 := Tryd.isAgg5
  z5 := Tryd.sizeOf5
  v5 := Tryd.zeroValue5
  infoByte := by kernel_rfl
  cellsByte := by kernel_rfl
  sizeByte := by kernel_rfl
  neB5 := by decide }
open Go.RowKit Go.Lib in
/-- **strings.Repeat: count ≥ 0, the result within one allocation: count copies of s.** (LAID: no walk: one application.) -/
theorem Tryd.strings_Repeat (s : ByteArray) (c : Nat) (w : World) (hc : c ≤ 9223372036854775807) (hlen : s.size * c ≤ 140737488355328) :
    Calls Tryd.prog 28 #[.string s, .int .i64 c] w fun e w' => e = .returned (.string ⟨(Lib.repeatL s.data.toList c).toArray⟩) ∧ Below w.heap.size w w' := Any.strings_Repeat Tryd.lays105 Tryd.Builder_Extra_105 s c w hc hlen
end Go.Proofs.YtokpjgpdkmimgaaDoor

/-
  Sectors, devices and arrays in plain Lean: what is written, read, lost, turned, replaced and healed. Conditions: none.
-/
namespace Go.Proofs.YtokpjgpdkmimgaaDoor
set_option linter.unusedSimpArgs false
set_option linter.unusedVariables false
open Go.RowKit

theorem lst_append (a b : ByteArray) : lst (a ++ b) = lst a ++ lst b := by
  unfold lst
  rw [ByteArray.data_append, Array.toList_append]
theorem bs_append (a b : List UInt8) : bs a ++ bs b = bs (a ++ b) := lst_inj (by rw [lst_append, lst_bs, lst_bs, lst_bs])
theorem bs_append_lst (a : ByteArray) (l : List UInt8) : a ++ bs l = bs (lst a ++ l) := lst_inj (by rw [lst_append, lst_bs, lst_bs])
theorem lst_append_bs (l : List UInt8) (a : ByteArray) : bs l ++ a = bs (l ++ lst a) := lst_inj (by rw [lst_append, lst_bs, lst_bs])
theorem lst_empty : lst .empty = [] := rfl

/-- A sector without its seal. -/
def rawS (no : Int) (s : ByteArray) : List UInt8 := byte (no / 256) :: byte (no % 256) :: (lst s ++ List.replicate (24 - s.size) 0)
def encodeS (no : Int) (s : ByteArray) : ByteArray × Int :=
  if no < 0 ∨ 65535 < no then (.empty, 2) else if 24 < s.size then (.empty, 1) else (bs (rawS no s ++ sealOf (rawS no s)), 0)
theorem encodeS_ok {no : Int} {s : ByteArray} (h0 : 0 ≤ no) (h1 : no ≤ 65535) (h2 : s.size ≤ 24) : encodeS no s = (bs (rawS no s ++ sealOf (rawS no s)), 0) := by
  unfold encodeS; rw [if_neg (by omega), if_neg (by omega)]
theorem rawS_length {no : Int} {s : ByteArray} (h2 : s.size ≤ 24) : (rawS no s).length = 26 := by
  unfold rawS; simp only [List.length_cons, List.length_append, List.length_replicate, length_lst]; omega
theorem encodeS_size {no : Int} {s : ByteArray} (h0 : 0 ≤ no) (h1 : no ≤ 65535) (h2 : s.size ≤ 24) : (encodeS no s).1.size = 30 := by
  rw [encodeS_ok h0 h1 h2]
  show (bs _).size = 30
  rw [size_bs, List.length_append, rawS_length h2, length_sealOf]
theorem encodeS_small (no : Int) (s : ByteArray) : (encodeS no s).1.size ≤ 30 := by
  by_cases h : no < 0 ∨ 65535 < no
  · unfold encodeS; rw [if_pos h]; decide
  · by_cases h2 : 24 < s.size
    · unfold encodeS; rw [if_neg h, if_pos h2]; decide
    · rw [encodeS_size (by omega) (by omega) (by omega)]; omega
theorem encodeS_code (no : Int) (s : ByteArray) : (encodeS no s).2 = 0 ∨ (encodeS no s).2 = 1 ∨ (encodeS no s).2 = 2 := by
  unfold encodeS
  split
  · exact .inr (.inr rfl)
  · split
    · exact .inr (.inl rfl)
    · exact .inl rfl

/-- A sector of a device is written. -/
def writeS (d : Dev) (n no : Int) (s : ByteArray) : Dev × Int :=
  if touchCode d n = 0 then (if (encodeS no s).2 = 0 then (⟨d.sec.set n.toNat (encodeS no s).1, d.lost.set n.toNat false⟩, 0) else (⟨[], []⟩, (encodeS no s).2)) else (⟨[], []⟩, touchCode d n)
/-- A byte of a text is turned. -/
def turnB (s : ByteArray) (place by_ : Int) : ByteArray := bs ((lst s).set place.toNat (byte (((at_ s place.toNat).toNat + by_) % 256)))
def turnS (d : Dev) (n place by_ : Int) : Dev × Int :=
  if touchCode d n = 0 then (if inB place 0 29 && inB by_ 0 255 then (⟨d.sec.set n.toNat (turnB (d.sec.getD n.toNat .empty) place by_), d.lost⟩, 0) else (⟨[], []⟩, 2)) else (⟨[], []⟩, touchCode d n)
theorem turnB_size (s : ByteArray) (place by_ : Int) : (turnB s place by_).size = s.size := by
  unfold turnB; rw [size_bs, List.length_set, length_lst]

/-- A new device. -/
def freshDev (many : Nat) (from_ : Int) : Dev := ⟨(List.range many).map (fun (i : Nat) => (encodeS (from_ + i) .empty).1), List.replicate many false⟩
def newDevS (many from_ : Int) : Dev × Int := if inB many 1 64 && inB from_ 0 512 then (freshDev many.toNat from_, 0) else (⟨[], []⟩, 2)

/-- Arrays. -/
def dv (a : List Dev) (k : Nat) : Dev := a.getD k ⟨[], []⟩
def arrTouch (a : List Dev) (n : Int) : Int := if arrMay a then (if inB n 0 (((dv a 0).sec.length : Int) - 1) then 0 else 6) else 9
def partner (n : Int) : Int := if n % 2 = 0 then n + 1 else n - 1
def mirrorS (a : List Dev) (n : Int) : ByteArray × Int :=
  if (readS (dv a 0) n n).2 = 0 then ((readS (dv a 0) n n).1, 1) else if (readS (dv a 1) n n).2 = 0 then ((readS (dv a 1) n n).1, 2) else (.empty, 0)
def xorS (s t : ByteArray) : ByteArray := bs (List.zipWith (fun a b => a ^^^ b) (lst s) (lst t))
def parS (a : List Dev) (n : Int) : ByteArray × Int := readS (dv a 2) (n / 2) (512 + n / 2)
/-- What reading a sector of an array answers: the payload, how it was read, the code. -/
def arrReadS (a : List Dev) (n : Int) : ByteArray × Int × Int :=
  if arrTouch a n ≠ 0 then (.empty, 0, arrTouch a n)
  else if (mirrorS a n).2 ≠ 0 then ((mirrorS a n).1, (mirrorS a n).2, 0)
  else if (mirrorS a (partner n)).2 = 0 ∨ (parS a n).2 ≠ 0 then (.empty, 0, 11)
  else (xorS (parS a n).1 (mirrorS a (partner n)).1, 3, 0)
/-- A device of an array is another one. -/
def bothS (a : List Dev) (n : Int) (s : ByteArray) : List Dev := (a.set 0 (writeS (dv a 0) n n s).1).set 1 (writeS (dv a 1) n n s).1
def newArrS (many : Int) : List Dev × Int :=
  if inB many 16 64 && decide (many % 2 = 0) then ([freshDev many.toNat 0, freshDev many.toNat 0, freshDev (many / 2).toNat 512], 0) else ([], 2)
/-- What a sector that is read is like. -/
theorem decodeS_size {no : Int} {s : ByteArray} (h : (decodeS no s).2 = 0) : (decodeS no s).1.size = 24 := by
  unfold decodeS at h ⊢
  split at h
  · rename_i h30
    split at h
    · split at h
      · rename_i h1 h2
        rw [dif_pos h30, if_pos h1, if_pos h2]
        simp only [ByteArray.size_extract]; omega
      · exact absurd h (by decide)
    · exact absurd h (by decide)
  · exact absurd h (by decide)
theorem readS_size {d : Dev} {n no : Int} (h : (readS d n no).2 = 0) : (readS d n no).1.size = 24 := by
  unfold readS at h ⊢
  split at h
  · rename_i h1
    split at h
    · exact absurd h (by decide)
    · rename_i h2
      rw [if_pos h1, if_neg h2]
      exact decodeS_size h
  · rename_i h1
    exact absurd h h1
theorem mirrorS_size {a : List Dev} {n : Int} (h : (mirrorS a n).2 ≠ 0) : (mirrorS a n).1.size = 24 := by
  unfold mirrorS at h ⊢
  split at h
  · rename_i h1
    rw [if_pos h1]
    exact readS_size h1
  · rename_i h1
    split at h
    · rename_i h2
      rw [if_neg h1, if_pos h2]
      exact readS_size h2
    · exact absurd rfl h
theorem xorS_size {s t : ByteArray} (h : s.size = t.size) : (xorS s t).size = s.size := by
  unfold xorS; rw [size_bs, List.length_zipWith, length_lst, length_lst, h]; omega
theorem arrReadS_size {a : List Dev} {n : Int} (h : (arrReadS a n).2.2 = 0) : (arrReadS a n).1.size = 24 := by
  unfold arrReadS at h ⊢
  split at h
  · rename_i h1
    exact absurd h h1
  · rename_i h1
    rw [if_neg h1]
    split at h
    · rename_i h2
      rw [if_pos h2]
      exact mirrorS_size h2
    · rename_i h2
      rw [if_neg h2]
      split at h
      · exact absurd h (by decide)
      · rename_i h3
        rw [if_neg h3]
        have h4 : (mirrorS a (partner n)).2 ≠ 0 := fun e => h3 (.inl e)
        have h5 : (parS a n).2 = 0 := by
          by_cases h : (parS a n).2 = 0
          · exact h
          · exact absurd (.inr h) h3
        have e1 := mirrorS_size h4
        have e2 : (parS a n).1.size = 24 := readS_size h5
        show (xorS _ _).size = 24
        rw [xorS_size (by rw [e1, e2]), e2]
end Go.Proofs.YtokpjgpdkmimgaaDoor

/-
  More words for regions that draw their order: one of two operations comes up; a short row of bytes as a text. Conditions: none.
-/
namespace Go.Proofs.YtokpjgpdkmimgaaDoor
set_option linter.unusedSimpArgs false
set_option linter.unusedVariables false
open Go.RowKit

theorem Blk_.drew {w : World} {g : Nat} {t : TypeId} {cs : Array Value} (h : Blk_ w g t cs) : Blk_ w.drew g t cs := h
theorem anyH_abs {P : Program} {md : Region.Mode} {ops : Array Oper} {Q : Exit → Act → World → Prop} {S : World → Prop} {fuel : Nat} {listed : Array Bool} {a : Act} {w : World} (p : World → Prop) (hp : p w)
    (h : ∀ W, p W → wpAnyH P md ops Q S fuel listed a W) : wpAnyH P md ops Q S fuel listed a w := h w hp
section
variable {P : Program} {Q : Exit → Act → World → Prop}
/-- One of two operations comes up next. -/
theorem wpAnyH_twoL {L tl tl' : List Oper} {S : World → Prop} {i j : Nat} {x y : Oper} {fuel : Nat} {listed : Array Bool} {a : Act} {w : World} (hi : L.drop i = x :: tl) (hj : L.drop j = y :: tl')
    (hr : Region.ready .any L.toArray listed = [i, j]) (hw : Region.wanted x (yielded L.toArray a.tmps) = true) (hw' : Region.wanted y (yielded L.toArray a.tmps) = true)
    (h : ∀ K : Act → World → Prop, (∀ a' w', S w' → wpAnyH P .any L.toArray Q S fuel (listed.setIfInBounds i true) a' w' → K a' w') → x.wp P a w K Q)
    (h' : ∀ K : Act → World → Prop, (∀ a' w', S w' → wpAnyH P .any L.toArray Q S fuel (listed.setIfInBounds j true) a' w' → K a' w') → y.wp P a w K Q) : wpAnyH P .any L.toArray Q S (fuel + 1) listed a w := by
  refine wpAnyH_all hr (by simp) (fun k hk => ?_)
  rcases List.mem_cons.1 hk with rfl | hk
  · unfold wpOp
    rw [at_of_drop hi]
    simp only
    rw [if_pos hw]
    exact .inl (h _ fun _ _ h1 h2 => ⟨h1, h2⟩)
  · obtain rfl := List.mem_singleton.1 hk
    unfold wpOp
    rw [at_of_drop hj]
    simp only
    rw [if_pos hw']
    exact .inl (h' _ fun _ _ h1 h2 => ⟨h1, h2⟩)
/-- Two bytes of a block of the call's own, as a text. -/
theorem wp_conv2 {o : Oper} {a : Act} {w : World} {K : Act → World → Prop} (s : Operand) (src dst e : TypeId) (ho : o.op = .convert src dst s) (hs : P.underlying src = some (.slice e)) (he : P.underlying e = some (.int .u8)) (hd : P.underlying dst = some .string)
    (g : Nat) (x y : Int) (hv : a.eval s = .slice (some ⟨g, 0, none⟩) 2 2) (hb : Blk_ w g e #[.int .u8 x, .int .u8 y]) (h : K (a.put o.dst (.string (bs [byte x, byte y]))) w) : o.wp P a w K Q := by
  have hr := run_conv_lit (P := P) w src dst e hs he hd ⟨g, 0, none⟩ 2 [x, y] (fun j u hu => by rw [Addr.add_lit, Nat.zero_add, hb.cell]; simpa using hu)
  unfold Oper.wp execOp
  simp only [ho, Sem.run_bind, hv]
  simp only [List.length_cons, List.length_nil, List.map_cons, List.map_nil, Nat.zero_add, Nat.reduceAdd] at hr
  simp only [hr, Result.andThen_ok, Sem.run_pure, Oper.upon]
  exact h
/-- One byte of a block of the call's own, as a text. -/
theorem wp_conv1 {o : Oper} {a : Act} {w : World} {K : Act → World → Prop} (s : Operand) (src dst e : TypeId) (ho : o.op = .convert src dst s) (hs : P.underlying src = some (.slice e)) (he : P.underlying e = some (.int .u8)) (hd : P.underlying dst = some .string)
    (g : Nat) (x : Int) (hv : a.eval s = .slice (some ⟨g, 0, none⟩) 1 1) (hb : Blk_ w g e #[.int .u8 x]) (h : K (a.put o.dst (.string (bs [byte x]))) w) : o.wp P a w K Q := by
  have hr := run_conv_lit (P := P) w src dst e hs he hd ⟨g, 0, none⟩ 1 [x] (fun j u hu => by rw [Addr.add_lit, Nat.zero_add, hb.cell]; simpa using hu)
  unfold Oper.wp execOp
  simp only [ho, Sem.run_bind, hv]
  simp only [List.length_cons, List.length_nil, List.map_cons, List.map_nil, Nat.zero_add] at hr
  simp only [hr, Result.andThen_ok, Sem.run_pure, Oper.upon]
  exact h
end
end Go.Proofs.YtokpjgpdkmimgaaDoor
