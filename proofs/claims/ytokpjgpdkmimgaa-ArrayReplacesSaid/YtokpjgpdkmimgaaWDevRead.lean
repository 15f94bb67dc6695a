/-
  device.at and the document's touched: may a sector be touched? device.Read and the document's DeviceRead; the law DeviceReads. Conditions: the argument reads as a device.
-/
import Derived.Test.YtokpjgpdkmimgaaWDevCheck
import Derived.Test.YtokpjgpdkmimgaaWDecode
import Derived.Test.YtokpjgpdkmimgaaM
namespace Go.Proofs.Ytokpjgpdkmimgaa
set_option linter.unusedSimpArgs false
set_option linter.unusedVariables false
open Go.RowKit

/-- The sector and the mark of a device, in memory. -/
theorem RDev.look {w : World} {A1 A2 : Option Addr} {c1 c2 : Nat} {d : Dev} (h : RDev w [.slice A1 d.sec.length c1, .slice A2 d.lost.length c2] d) (k : Nat) (h1 : k < d.sec.length) (h2 : k < d.lost.length) :
    ∃ b1 o1 b2 o2, A1 = some ⟨b1, o1, none⟩ ∧ A2 = some ⟨b2, o2, none⟩ ∧ w.cell? ⟨b1, o1 + k, none⟩ = some (.string (d.sec.getD k .empty)) ∧ w.cell? ⟨b2, o2 + k, none⟩ = some (.bool (d.lost.getD k false)) ∧ (d.sec.getD k .empty).size ≤ 140737488355328 := by
  obtain ⟨v1, v2, e, r1, r2⟩ := h
  obtain ⟨A, cc, rfl, _, _, g1⟩ := r1.row
  obtain ⟨B, cd, rfl, _, _, g2⟩ := r2.row
  obtain ⟨b1, o1, rfl, p1⟩ := g1 k h1
  obtain ⟨b2, o2, rfl, p2⟩ := g2 k h2
  obtain ⟨u1, q1, t1⟩ := p1 k h1
  obtain ⟨u2, q2, t2⟩ := p2 k h2
  simp only [List.cons.injEq, Value.slice.injEq, and_true, true_and] at e
  obtain ⟨⟨rfl, _⟩, rfl, _⟩ := e
  have e1 : d.sec.getD k .empty = d.sec[k] := by simp [h1]
  have e2 : d.lost.getD k false = d.lost[k] := by simp [h2]
  rw [e1, e2]
  have s1 := t1.2
  obtain rfl : u1 = .string d.sec[k] := by have := t1.1; simpa using this
  obtain rfl : u2 = .bool d.lost[k] := by have : [u2] = [Value.bool d.lost[k]] := t2; simpa using this
  exact ⟨b1, o1, b2, o2, rfl, rfl, q1, q2, s1⟩

def touchCode (d : Dev) (n : Int) : Int := if devMay d then (if inB n 0 ((d.sec.length : Int) - 1) then 0 else 6) else 9

set_option maxRecDepth 100000 in
set_option maxHeartbeats 400000 in
theorem devAt_any (cs : List Value) (d : Dev) (n : Int) (w : World) (h : RDev w cs d) (hn : I64 n) :
    Calls Try.prog 54 #[.agg cs.toArray, .int .i64 n] w fun e w' => e = .returned (.int .i64 (touchCode d n)) ∧ Ext w w' := by
  obtain ⟨A1, c1, A2, c2, rfl⟩ := h.form
  go_enter Try.func54, Try.ntmps54
  go_wp2_with fail
  refine calls_abs (fun W => Ext w W ∧ Blk_ W w.heap.size 54 #[.slice A1 d.sec.length c1, .slice A2 d.lost.length c2]) ⟨(Ext.refl _).alloc _, Blk_.new _ _ _⟩ ?_
  rintro W ⟨hx, hb⟩
  refine (devCheck_any [.slice A1 d.sec.length c1, .slice A2 d.lost.length c2] d W (h.up hx)).mono ?_
  rintro e w1 ⟨rfl, hx1⟩
  have hb1 := hb.ext hx1
  have f0 := hb1.cell 0
  have f1 := hb1.cell 1
  simp at f0 f1
  clear h
  cases hm : devMay d with
  | false =>
    have hf : devCode d = 9 := by unfold devCode; rw [hm]; rfl
    have hf2 : touchCode d n = 9 := by unfold touchCode; rw [hm]; rfl
    have HF := Lib.hid hf2
    rw [hf]
    clear hm hf hf2
    go_wp2
    go_ret
    exact ⟨ret_int HF.out.symm, hx.trans hx1⟩
  | true =>
    have hf : devCode d = 0 := by unfold devCode; rw [hm]; rfl
    have hf2 : touchCode d n = if inB n 0 ((d.sec.length : Int) - 1) then 0 else 6 := by unfold touchCode; rw [hm]; rfl
    rw [hf]
    clear hm hf
    by_cases k1 : n < 0
    · have k1' : decide (n < 0) = true := by simp; omega
      have hr : inB n 0 ((d.sec.length : Int) - 1) = false := by simp [inB]; omega
      rw [hr] at hf2
      have HF := Lib.hid hf2
      clear hr hf2
      go_wp2
      go_ret
      exact ⟨ret_int HF.out.symm, hx.trans hx1⟩
    · have k1' : decide (n < 0) = false := by simp; omega
      by_cases k2 : (d.sec.length : Int) ≤ n
      · have k2' : decide ((d.sec.length : Int) ≤ n) = true := by simp; omega
        have hr : inB n 0 ((d.sec.length : Int) - 1) = false := by simp [inB]; omega
        rw [hr] at hf2
        have HF := Lib.hid hf2
        clear hr hf2
        go_wp2
        go_ret
        exact ⟨ret_int HF.out.symm, hx.trans hx1⟩
      · have k2' : decide ((d.sec.length : Int) ≤ n) = false := by simp; omega
        have hr : inB n 0 ((d.sec.length : Int) - 1) = true := by simp [inB]; omega
        rw [hr] at hf2
        have HF := Lib.hid hf2
        clear hr hf2
        go_wp2
        go_ret
        exact ⟨ret_int HF.out.symm, hx.trans hx1⟩

/-- What reading a sector answers. -/
def readS (d : Dev) (n no : Int) : ByteArray × Int :=
  if touchCode d n = 0 then (if d.lost.getD n.toNat false then (.empty, 11) else decodeS no (d.sec.getD n.toNat .empty)) else (.empty, touchCode d n)
theorem touch_zero {d : Dev} {n : Int} (h : touchCode d n = 0) : devMay d = true ∧ 0 ≤ n ∧ n < d.sec.length := by
  unfold touchCode at h
  split at h
  · rename_i hm
    split at h
    · rename_i hr
      obtain ⟨a, b⟩ := inB_true hr
      exact ⟨hm, a, by omega⟩
    · omega
  · omega
theorem touch_cases (d : Dev) (n : Int) : touchCode d n = 0 ∨ touchCode d n = 6 ∨ touchCode d n = 9 := by
  unfold touchCode
  split
  · split
    · exact .inl rfl
    · exact .inr (.inl rfl)
  · exact .inr (.inr rfl)

set_option maxRecDepth 100000 in
set_option maxHeartbeats 400000 in
theorem devRead_any (cs : List Value) (d : Dev) (n no : Int) (w : World) (h : RDev w cs d) (hn : I64 n) (ho : I64 no) :
    Calls Try.prog 27 #[.agg cs.toArray, .int .i64 n, .int .i64 no] w fun e w' => e = .returned (.tuple #[.string (readS d n no).1, .int .i64 (readS d n no).2]) ∧ Ext w w' := by
  obtain ⟨A1, c1, A2, c2, rfl⟩ := h.form
  go_enter Try.func27, Try.ntmps27
  go_wp2_with fail
  refine calls_abs (fun W => Ext w W ∧ Blk_ W w.heap.size 54 #[.slice A1 d.sec.length c1, .slice A2 d.lost.length c2]) ⟨(Ext.refl _).alloc _, Blk_.new _ _ _⟩ ?_
  rintro W ⟨hx, hb⟩
  refine (devAt_any [.slice A1 d.sec.length c1, .slice A2 d.lost.length c2] d n W (h.up hx) hn).mono ?_
  rintro e w1 ⟨rfl, hx1⟩
  have hb1 := hb.ext hx1
  have f0 := hb1.cell 0
  have f1 := hb1.cell 1
  simp at f0 f1
  have hr1 := h.up (hx.trans hx1)
  clear h
  by_cases hc : touchCode d n = 0
  · obtain ⟨hm, n0, n1⟩ := touch_zero hc
    obtain ⟨m1, m2, m3, m4⟩ := devMay_len hm
    obtain ⟨k, rfl⟩ := Int.eq_ofNat_of_zero_le n0
    have hk : k < d.sec.length := by omega
    have hk2 : k < d.lost.length := by omega
    have hk2' : (k : Int) < (d.lost.length : Int) := by omega
    obtain ⟨b1, o1, b2, o2, rfl, rfl, q1, q2, s1⟩ := hr1.look k hk hk2
    have hf : readS d k no = if d.lost.getD k false then (.empty, 11) else decodeS no (d.sec.getD k .empty) := by unfold readS; rw [if_pos hc]; rfl
    rw [hc]
    clear hc m4 m3 hm hr1
    cases hl : d.lost.getD k false with
    | true =>
      rw [hl] at q2 hf
      have HF := Lib.hid hf
      clear hf hl
      go_wp2_with fail
      go_ret2
      exact ⟨by rw [HF.out]; rfl, hx.trans hx1⟩
    | false =>
      rw [hl] at q2 hf
      have HF := Lib.hid hf
      clear hf hl
      generalize d.sec.getD k .empty = s at *
      go_wp2_with fail
      refine (decode_any no s _ s1 ho).mono ?_
      rintro e w2 ⟨rfl, hx2⟩
      go_wp2_with fail
      go_ret2
      exact ⟨by rw [HF.out]; rfl, (hx.trans hx1).trans hx2⟩
  · have hf : readS d n no = (.empty, touchCode d n) := by unfold readS; rw [if_neg hc]
    have hc' : (touchCode d n != 0) = true := by simpa using hc
    have HF := Lib.hid hf
    clear hf hc hr1
    generalize touchCode d n = t at *
    go_wp2_with fail
    go_ret2
    exact ⟨by rw [HF.out]; rfl, hx.trans hx1⟩

end Go.Proofs.Ytokpjgpdkmimgaa
