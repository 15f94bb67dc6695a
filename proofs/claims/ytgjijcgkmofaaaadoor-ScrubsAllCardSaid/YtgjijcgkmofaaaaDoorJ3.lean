/-
  slices.ContainsFunc with the closures of catalog.Name and device.Check: whether an element is met. Conditions: the slice reads as a list.
-/
import Derived.Test.YtgjijcgkmofaaaaDoorJ2
import Derived.Laws.BitsAllLaws
import Derived.Laws.Bits128
import Derived.Laws.OwnMore
import Derived.OneCell
import Derived.Shelf.Strings.Repeat
import Derived.Test.YtgjijcgkmofaaaaDoorProg
namespace Go.Proofs.YtgjijcgkmofaaaaDoor
set_option linter.unusedSimpArgs false
set_option linter.unusedVariables false
open Go.RowKit
def RByte : Rd UInt8 := fun _ cs c => cs = [.int .u8 c.toNat]
theorem RByte.val {w : World} {u : Value} {c : UInt8} (h : RByte w [u] c) : u = .int .u8 c.toNat := by have : [u] = _ := h; simpa using this
/-- No byte of a name. -/
def badByte (c : UInt8) : Bool := (decide ((c.toNat : Int) < 97) || decide (122 < (c.toNat : Int))) && (decide ((c.toNat : Int) < 48) || decide (57 < (c.toNat : Int)))
def badRaw (s : ByteArray) : Bool := !((s.size : Int) == 30)

set_option maxRecDepth 100000 in
set_option maxHeartbeats 400000 in
theorem badRaw_any (s : ByteArray) (w : World) : Calls Tryd.prog 63 #[.string s] w fun e w' => w = w' ∧ e = .returned (.bool (badRaw s)) := by
  unfold badRaw
  go_enter Tryd.func63, Tryd.ntmps63
  go_wp2
  go_ret
  exact ⟨rfl, ret_bool (by simp [bne])⟩

set_option maxRecDepth 100000 in
set_option maxHeartbeats 400000 in
theorem index_str (v : Value) (l : List ByteArray) (w : World) (h : SlR 1 16 RStr w v l) :
    Calls Tryd.prog 78 #[v, .func (.func 63) #[] #[]] w fun e w' => w = w' ∧ ∃ r : Int, e = .returned (.int .i64 r) ∧ decide (0 ≤ r) = l.any badRaw := by
  obtain ⟨A, c, rfl, hl, hc, r1⟩ := h.row
  clear h
  go_enter Tryd.func78, Tryd.ntmps78
  go_wp2
  go_loop [8] (fun i => ∃ k : Nat, i = .int .i64 k ∧ k ≤ l.length ∧ (l.take k).any badRaw = false) (fun i => l.length - (intOf i).toNat)
  case atStart => exact ⟨0, rfl, Nat.zero_le _, rfl⟩
  case round =>
    obtain ⟨k, rfl, hk, hno⟩ := hrel
    have HN := Lib.hid hno
    clear hno
    by_cases hlt : k < l.length
    · obtain ⟨b1, o1, rfl, g1⟩ := r1 k hlt
      obtain ⟨u1, q1, t1⟩ := g1 k hlt
      obtain rfl := t1.val
      have HR := Lib.hid r1
      clear g1 r1 t1
      have hcon := badRaw_any l[k] w
      have htk : (l.take (k + 1)).any badRaw = badRaw l[k] := by
        rw [← List.take_append_getElem hlt, List.any_append, HN.out]; simp
      have HT := Lib.hid htk
      clear htk
      by_cases hp : badRaw l[k] = true
      · rw [hp] at hcon
        have HC := Lib.hid hcon
        have HP := Lib.hid hp
        clear hcon hp
        go_wp2_with fail
        refine HC.out.mono ?_
        rintro e w1 ⟨rfl, rfl⟩
        go_wp2
        go_ret
        refine ⟨rfl, _, rfl, ?_⟩
        have : l.any badRaw = true := List.any_eq_true.2 ⟨l[k], List.getElem_mem hlt, HP.out⟩
        rw [this]
        simp
      · rw [Bool.not_eq_true] at hp
        rw [hp] at hcon
        have HC := Lib.hid hcon
        have HP := Lib.hid hp
        clear hcon hp
        go_wp2_with fail
        refine HC.out.mono ?_
        rintro e w1 ⟨rfl, rfl⟩
        go_wp2
        go_round
        case rel => exact ⟨k + 1, by go_num, by omega, by rw [HT.out, HP.out]⟩
        case measure => simp [intOf]; omega
    · obtain rfl : k = l.length := by omega
      go_wp2
      go_ret
      refine ⟨rfl, _, rfl, ?_⟩
      rw [List.take_length] at HN
      rw [HN.out]
      simp
set_option maxRecDepth 100000 in
set_option maxHeartbeats 400000 in
theorem contains_str (v : Value) (l : List ByteArray) (w : World) (h : SlR 1 16 RStr w v l) :
    Calls Tryd.prog 62 #[v, .func (.func 63) #[] #[]] w fun e w' => w = w' ∧ e = .returned (.bool (l.any badRaw)) := by
  go_enter Tryd.func62, Tryd.ntmps62
  go_wp2_with fail
  refine (index_str v l w h).mono ?_
  rintro e w1 ⟨rfl, r, rfl, hr⟩
  have HR := Lib.hid hr
  clear hr h
  go_wp2
  go_ret
  exact ⟨rfl, ret_bool HR.out⟩

end Go.Proofs.YtgjijcgkmofaaaaDoor

/-
  device.Check and the document's DeviceMay: both tell whether a device may be; the law DeviceChecks. Conditions: the argument reads as a device.
-/
namespace Go.Proofs.YtgjijcgkmofaaaaDoor
set_option linter.unusedSimpArgs false
set_option linter.unusedVariables false
open Go.RowKit

/-- A device that may be. -/
def devMay (d : Dev) : Bool := decide (1 ≤ d.sec.length) && decide (d.sec.length ≤ 64) && decide (d.lost.length = d.sec.length) && !(d.sec.any badRaw)
theorem devMay_len {d : Dev} (h : devMay d = true) : 1 ≤ d.sec.length ∧ d.sec.length ≤ 64 ∧ d.lost.length = d.sec.length ∧ ∀ s ∈ d.sec, s.size = 30 := by
  unfold devMay at h
  simp only [Bool.and_eq_true, decide_eq_true_eq, Bool.not_eq_true', List.any_eq_false] at h
  obtain ⟨⟨⟨h1, h2⟩, h3⟩, h4⟩ := h
  refine ⟨h1, h2, h3, fun s hs => ?_⟩
  have := h4 s hs
  unfold badRaw at this
  simp at this
  omega
def devCode (d : Dev) : Int := if devMay d then 0 else 9

set_option maxRecDepth 100000 in
set_option maxHeartbeats 400000 in
theorem devCheck_any (cs : List Value) (d : Dev) (w : World) (h : RDev w cs d) :
    Calls Tryd.prog 48 #[.agg cs.toArray] w fun e w' => e = .returned (.int .i64 (devCode d)) ∧ Ext w w' := by
  obtain ⟨A1, c1, A2, c2, rfl, h1, h2⟩ := h.split
  clear h
  by_cases k1 : d.sec.length < 1
  · have hm : devMay d = false := by unfold devMay; simp; omega
    have k1' : decide ((d.sec.length : Int) < 1) = true := by simp; omega
    have hf : devCode d = 9 := by unfold devCode; rw [hm]; rfl
    rw [hf]
    clear hm hf h1 h2
    go_enter Tryd.func48, Tryd.ntmps48
    go_wp2
    go_ret
    exact ⟨rfl, (Ext.refl _).alloc _⟩
  · have k1' : decide ((d.sec.length : Int) < 1) = false := by simp; omega
    by_cases k2 : 64 < d.sec.length
    · have hm : devMay d = false := by unfold devMay; simp; omega
      have k2' : decide ((64 : Int) < (d.sec.length : Int)) = true := by simp; omega
      have hf : devCode d = 9 := by unfold devCode; rw [hm]; rfl
      rw [hf]
      clear hm hf h1 h2
      go_enter Tryd.func48, Tryd.ntmps48
      go_wp2
      go_ret
      exact ⟨rfl, (Ext.refl _).alloc _⟩
    · have k2' : decide ((64 : Int) < (d.sec.length : Int)) = false := by simp; omega
      by_cases k3 : d.lost.length = d.sec.length
      · have k3' : ((d.lost.length : Int) != (d.sec.length : Int)) = false := by simp; omega
        have hm : devMay d = !(d.sec.any badRaw) := by
          unfold devMay
          rw [decide_eq_true (by omega : 1 ≤ d.sec.length), decide_eq_true (by omega : d.sec.length ≤ 64), decide_eq_true k3]
          simp
        have hf : ∀ b, d.sec.any badRaw = b → devCode d = if b then 9 else 0 := by
          intro b hb; unfold devCode; rw [hm, hb]; cases b <;> rfl
        have HF := Lib.hid hf
        clear hm hf k3
        have hcon := contains_str _ d.sec (w.alloc (.cells #[.slice A1 d.sec.length c1, .slice A2 d.lost.length c2] 63)) (h1.ext RStr.stays ((Ext.refl w).alloc _))
        clear h1 h2
        cases hb : d.sec.any badRaw with
        | true =>
          rw [hb] at hcon
          have HC := Lib.hid hcon
          have HB := Lib.hid hb
          clear hcon hb
          go_enter Tryd.func48, Tryd.ntmps48
          go_wp2_with (go_at_call 62; refine HC.out.mono ?_; rintro e w1 ⟨rfl, rfl⟩)
          go_ret
          exact ⟨ret_int (by rw [HF.out true HB.out]; rfl), (Ext.refl _).alloc _⟩
        | false =>
          rw [hb] at hcon
          have HC := Lib.hid hcon
          have HB := Lib.hid hb
          clear hcon hb
          go_enter Tryd.func48, Tryd.ntmps48
          go_wp2_with (go_at_call 62; refine HC.out.mono ?_; rintro e w1 ⟨rfl, rfl⟩)
          go_ret
          exact ⟨ret_int (by rw [HF.out false HB.out]; rfl), (Ext.refl _).alloc _⟩
      · have hm : devMay d = false := by unfold devMay; rw [decide_eq_false k3]; simp
        have k3' : ((d.lost.length : Int) != (d.sec.length : Int)) = true := by simp; omega
        have hf : devCode d = 9 := by unfold devCode; rw [hm]; rfl
        rw [hf]
        clear hm hf h1 h2
        go_enter Tryd.func48, Tryd.ntmps48
        go_wp2
        go_ret
        exact ⟨rfl, (Ext.refl _).alloc _⟩

end Go.Proofs.YtgjijcgkmofaaaaDoor

/-
  array.Check and the document's ArrayMay: both tell whether an array may be; the law ArrayChecks. Conditions: the argument reads as an array.
-/
namespace Go.Proofs.YtgjijcgkmofaaaaDoor
set_option linter.unusedSimpArgs false
set_option linter.unusedVariables false
open Go.RowKit

/-- An array that may be. -/
def arrMay : List Dev → Bool
  | [x, y, z] => devMay x && devMay y && devMay z && decide (16 ≤ x.sec.length) && decide (x.sec.length % 2 = 0) && decide (y.sec.length = x.sec.length) && decide (z.sec.length = x.sec.length / 2)
  | _ => false
theorem arrMay_len {a : List Dev} (h : a.length ≠ 3) : arrMay a = false := by
  match a, h with
  | [], _ => rfl
  | [_], _ => rfl
  | [_, _], _ => rfl
  | [_, _, _], h => exact absurd rfl h
  | _ :: _ :: _ :: _ :: _, _ => rfl
theorem arrMay_all {a : List Dev} {k : Nat} (hk : k < a.length) (h : devMay a[k] = false) : arrMay a = false := by
  match a, hk with
  | [x, y, z], hk =>
    match k, hk with
    | 0, _ => have h' : devMay x = false := h
              simp [arrMay, h']
    | 1, _ => have h' : devMay y = false := h
              simp [arrMay, h']
    | 2, _ => have h' : devMay z = false := h
              simp [arrMay, h']
  | [_], _ => rfl
  | [_, _], _ => rfl
  | _ :: _ :: _ :: _ :: _, _ => rfl
def arrCode (a : List Dev) : Int := if arrMay a then 0 else 9
theorem arrCode_false {a : List Dev} (h : arrMay a = false) : arrCode a = 9 := by unfold arrCode; rw [h]; rfl
theorem arrCode_true {a : List Dev} (h : arrMay a = true) : arrCode a = 0 := by unfold arrCode; rw [h]; rfl
theorem three {α : Type} {l : List α} (h : l.length = 3) : ∃ a b c, l = [a, b, c] := by
  match l, h with
  | [a, b, c], _ => exact ⟨a, b, c, rfl⟩

theorem arrMay_eq {a : List Dev} (h : a.length = 3) : arrMay a = (devMay (a[0]'(by omega)) && devMay (a[1]'(by omega)) && devMay (a[2]'(by omega)) && decide (16 ≤ (a[0]'(by omega)).sec.length) && decide ((a[0]'(by omega)).sec.length % 2 = 0) &&
    decide ((a[1]'(by omega)).sec.length = (a[0]'(by omega)).sec.length) && decide ((a[2]'(by omega)).sec.length = (a[0]'(by omega)).sec.length / 2)) := by
  obtain ⟨x, y, z, rfl⟩ := three h
  rfl

set_option maxRecDepth 100000 in
set_option maxHeartbeats 1000000 in
theorem arrCheck_any (cs : List Value) (a : List Dev) (w : World) (h : RArr w cs a) :
    Calls Tryd.prog 28 #[.agg cs.toArray] w fun e w' => e = .returned (.int .i64 (arrCode a)) ∧ Ext w w' := by
  obtain ⟨v, rfl, h1⟩ := h
  obtain ⟨A0, c0, rfl, hb0, hc0, hr⟩ := h1.rowR
  clear h1
  by_cases h3 : a.length = 3
  · have hr0 := hr
    have H3 := Lib.hid h3
    have h3i : ((a.length : Int) != 3) = false := by simp; omega
    clear h3
    go_enter Tryd.func28, Tryd.ntmps28
    go_wp2
    refine wp_abs (fun W => Ext w W ∧ Blk_ W w.heap.size 25 #[.slice A0 a.length c0]) ⟨(Ext.refl _).alloc _, Blk_.new _ _ _⟩ ?_
    rintro W ⟨hx, hb⟩
    go_loopw [14] (fun i wr => ∃ k : Nat, i = .int .i64 k ∧ k ≤ a.length ∧ Ext w wr ∧ Blk_ wr w.heap.size 25 #[.slice A0 a.length c0] ∧ ∀ j, (hj : j < a.length) → j < k → devMay a[j] = true) (fun i _ => a.length - (intOf i).toNat)
    case atStart => exact ⟨0, rfl, Nat.zero_le _, hx, hb, fun j _ h => absurd h (by omega)⟩
    case round =>
      clear hx hb
      obtain ⟨k, rfl, hk, hx, hb, hall⟩ := hrel
      have HA := Lib.hid hall
      clear hall
      have f0 := hb.cell 0
      simp at f0
      by_cases hlt : k < a.length
      · obtain ⟨b, o, rfl, g⟩ := hr k hlt
        obtain ⟨cs1, n1, q1, d1⟩ := g k hlt
        obtain ⟨B1, k1, B2, k2, rfl⟩ := d1.form
        have r0 := hx.cell (q1 0 _ rfl)
        have r1 := hx.cell (q1 1 _ rfl)
        simp only [Nat.add_zero] at r0
        have HR := Lib.hid hr
        have HR0 := Lib.hid hr0
        clear g q1 n1 hr hr0
        go_wp2_with fail
        refine calls_abs (fun W => Ext wr W) ((Ext.refl _).alloc _) ?_
        intro W1 hx1
        refine (devCheck_any [.slice B1 a[k].sec.length k1, .slice B2 a[k].lost.length k2] a[k] W1 (d1.up (hx.trans hx1))).mono ?_
        rintro e w2 ⟨rfl, hx2⟩
        cases hm : devMay a[k] with
        | false =>
          have hf : devCode a[k] = 9 := by unfold devCode; rw [hm]; rfl
          have hfin := arrCode_false (arrMay_all hlt hm)
          have HF := Lib.hid hfin
          rw [hf]
          clear hm hf hfin d1
          go_wp2
          go_ret
          exact ⟨ret_int HF.out.symm, (hx.trans hx1).trans hx2⟩
        | true =>
          have hf : devCode a[k] = 0 := by unfold devCode; rw [hm]; rfl
          rw [hf]
          have HM := Lib.hid hm
          clear hm hf d1
          go_wp2
          go_roundw
          case rel =>
            refine ⟨k + 1, by go_num, by omega, (hx.trans hx1).trans hx2, (hb.ext hx1).ext hx2, fun j hj hjk => ?_⟩
            by_cases hje : j = k
            · subst hje; exact HM.out
            · exact HA.out j hj (by omega)
          case measure => simp [intOf]; omega
      · have hk' : k = a.length := by omega
        have HK := Lib.hid hk'
        clear hk'
        have l0 : 0 < a.length := by have := H3.out; omega
        have l1 : 1 < a.length := by have := H3.out; omega
        have l2 : 2 < a.length := by have := H3.out; omega
        obtain ⟨b, o, rfl, g⟩ := hr 0 l0
        obtain ⟨cs0, n0, q0, d0⟩ := g 0 l0
        obtain ⟨cs1, n1, q1, d1⟩ := g 1 l1
        obtain ⟨cs2, n2, q2, d2⟩ := g 2 l2
        obtain ⟨B1, k1, B2, k2, rfl⟩ := d0.form
        obtain ⟨B3, k3, B4, k4, rfl⟩ := d1.form
        obtain ⟨B5, k5, B6, k6, rfl⟩ := d2.form
        have r0 := hx.cell (q0 0 _ rfl)
        have r1 := hx.cell (q1 0 _ rfl)
        have r2 := hx.cell (q2 0 _ rfl)
        simp only [Nat.add_zero, Nat.zero_mul, Nat.one_mul] at r0 r1 r2
        have m0 : devMay a[0] = true := HA.out 0 l0 (by have := HK.out; omega)
        have m1 : devMay a[1] = true := HA.out 1 l1 (by have := HK.out; omega)
        have m2 : devMay a[2] = true := HA.out 2 l2 (by have := HK.out; omega)
        have hdef := arrMay_eq H3.out
        rw [m0, m1, m2] at hdef
        have hxl := (devMay_len m0).2.1
        clear m0 m1 m2 q0 q1 q2 n0 n1 n2 d0 d1 d2 g hr hr0 HA
        generalize a[0] = x at *
        generalize a[1] = y at *
        generalize a[2] = z at *
        have HD := Lib.hid hdef
        clear hdef
        by_cases e1 : x.sec.length < 16
        · have e1' : decide ((x.sec.length : Int) < 16) = true := by simp; omega
          have hfin : arrCode a = 9 := arrCode_false (by rw [HD.out, decide_eq_false (by omega : ¬ 16 ≤ x.sec.length)]; rfl)
          have HF := Lib.hid hfin
          clear hfin e1
          go_wp2
          go_ret
          exact ⟨ret_int HF.out.symm, hx⟩
        · have e1' : decide ((x.sec.length : Int) < 16) = false := by simp; omega
          by_cases e2 : x.sec.length % 2 = 0
          · have e2' : ((x.sec.length : Int) % 2 != 0) = false := by simp; omega
            by_cases e3 : y.sec.length = x.sec.length
            · have e3' : ((y.sec.length : Int) != (x.sec.length : Int)) = false := by simp; omega
              by_cases e4 : z.sec.length = x.sec.length / 2
              · have e4' : ((z.sec.length : Int) != (x.sec.length : Int) / 2) = false := by simp; omega
                have hfin : arrCode a = 0 := arrCode_true (by rw [HD.out, decide_eq_true (by omega : 16 ≤ x.sec.length), decide_eq_true e2, decide_eq_true e3, decide_eq_true e4]; rfl)
                have HF := Lib.hid hfin
                clear hfin e1 e2 e3 e4
                go_wp2
                go_ret
                exact ⟨ret_int HF.out.symm, hx⟩
              · have e4' : ((z.sec.length : Int) != (x.sec.length : Int) / 2) = true := by simp; omega
                have hfin : arrCode a = 9 := arrCode_false (by rw [HD.out, decide_eq_false e4]; simp)
                have HF := Lib.hid hfin
                clear hfin e1 e2 e3 e4
                go_wp2
                go_ret
                exact ⟨ret_int HF.out.symm, hx⟩
            · have e3' : ((y.sec.length : Int) != (x.sec.length : Int)) = true := by simp; omega
              have hfin : arrCode a = 9 := arrCode_false (by rw [HD.out, decide_eq_false e3]; simp)
              have HF := Lib.hid hfin
              clear hfin e1 e2 e3
              go_wp2
              go_ret
              exact ⟨ret_int HF.out.symm, hx⟩
          · have e2' : ((x.sec.length : Int) % 2 != 0) = true := by simp; omega
            have hfin : arrCode a = 9 := arrCode_false (by rw [HD.out, decide_eq_false e2]; simp)
            have HF := Lib.hid hfin
            clear hfin e1 e2
            go_wp2
            go_ret
            exact ⟨ret_int HF.out.symm, hx⟩
  · have hfin := arrCode_false (arrMay_len h3)
    have h3i : ((a.length : Int) != 3) = true := by simp; omega
    rw [hfin]
    clear hfin hr h3
    go_enter Tryd.func28, Tryd.ntmps28
    go_wp2
    go_ret
    exact ⟨rfl, (Ext.refl _).alloc _⟩
end Go.Proofs.YtgjijcgkmofaaaaDoor

/-
  sector.Decode and the document's PayloadOf: the payload of a sector, or why there is none; the law SectorDecodes. Conditions: the text is no longer than a text may be.
-/
namespace Go.Proofs.YtgjijcgkmofaaaaDoor
set_option linter.unusedSimpArgs false
set_option linter.unusedVariables false
open Go.RowKit

/-- The number that stands ahead. -/
def sectorNo (s : ByteArray) (h : 2 ≤ s.size) : Int := (256 : Int) * ((s[0]'(by omega)).toNat : Int) + ((s[1]'(by omega)).toNat : Int)
def decodeS (no : Int) (s : ByteArray) : ByteArray × Int :=
  if h : s.size = 30 then
    if (bs (sealOf (lst (s.extract 0 26)))).toList == (s.extract 26 s.size).toList then (if sectorNo s (by omega) = no then (s.extract 2 26, 0) else (.empty, 4)) else (.empty, 10)
  else (.empty, 1)

theorem sector_bits (a b : Nat) (ha : a < 256) (hb : b < 256) : bits .or .i64 ((a : Int) * 256) (b : Int) = 256 * (a : Int) + (b : Int) := by
  have e : ((a : Int) * 256) = ((a * 256 : Nat) : Int) := by omega
  show IntKind.i64.wrap ((BitVec.ofInt 64 ((a : Int) * 256) ||| BitVec.ofInt 64 (b : Int)).toNat : Int) = _
  rw [BitVec.toNat_or, e, ofInt_u64 _ (by omega), ofInt_u64 _ (by omega), nat_join 8 _ _ (by omega) (by omega), IntKind.wrap_i64]
  omega

set_option maxRecDepth 100000 in
set_option maxHeartbeats 400000 in
theorem decode_any (no : Int) (s : ByteArray) (w : World) (hs : s.size ≤ 140737488355328) (hn : I64 no) :
    Calls Tryd.prog 46 #[.int .i64 no, .string s] w fun e w' => e = .returned (.tuple #[.string (decodeS no s).1, .int .i64 (decodeS no s).2]) ∧ Ext w w' := by
  by_cases h30 : s.size = 30
  · have b1 : 30 ≤ s.size := by omega
    have b2 : s.size ≤ 30 := by omega
    have h30' : ((s.size : Int) != 30) = false := by simp; omega
    have H30 := Lib.hid h30
    have hsz : (s.extract 0 26).size ≤ 140737488355328 := by simp; omega
    have HZ := Lib.hid hsz
    have i1 : (26 : Int) ≤ (s.size : Int) := by omega
    have i2 : (0 : Int) < (s.size : Int) := by omega
    have i3 : (1 : Int) < (s.size : Int) := by omega
    have i4 : 0 < s.size := by omega
    have i5 : 1 < s.size := by omega
    clear h30 hsz hs
    cases hseal : ((bs (sealOf (lst (s.extract 0 26)))).toList == (s.extract 26 s.size).toList) with
    | false =>
      have hfin : decodeS no s = (.empty, 10) := by unfold decodeS; rw [dif_pos H30.out, hseal]; rfl
      have HF := Lib.hid hfin
      clear hfin
      go_enter Tryd.func46, Tryd.ntmps46
      go_wp2
      go_region_held3 (fun _ => True) (trivial) (first | (go_at_call 61; refine (sumOf_any _ _ HZ.out).mono ?_; rintro _ w1 ⟨rfl, f1⟩))
      go_wp2
      go_ret2
      rw [HF.out]
      exact ⟨rfl, (Ext.refl w).drew.trans f1⟩
    | true =>
      have c0 := u8_hi (s[0]'(by omega))
      have c1 := u8_hi (s[1]'(by omega))
      have hdef : decodeS no s = (if sectorNo s (by omega) = no then (s.extract 2 26, 0) else (.empty, 4)) := by unfold decodeS; rw [dif_pos H30.out, hseal]; rfl
      have HD := Lib.hid hdef
      clear hdef
      go_enter Tryd.func46, Tryd.ntmps46
      go_wp2
      go_region_held3 (fun _ => True) (trivial) (first | (go_at_call 61; refine (sumOf_any _ _ HZ.out).mono ?_; rintro _ w1 ⟨rfl, f1⟩))
      go_wp2
      go_quiet (fail)
      have hbits := sector_bits (s[0]'i4).toNat (s[1]'i5).toNat (UInt8.toNat_lt _) (UInt8.toNat_lt _)
      have HB := Lib.hid hbits
      clear hbits
      go_wp2
      · go_ret2
        rename_i hno
        have hno' : sectorNo s (by omega) ≠ no := by unfold sectorNo; rw [← HB.out]; simpa using hno
        rw [HD.out, if_neg hno']
        exact ⟨rfl, ((Ext.refl w).drew.trans f1).drewN _⟩
      · go_ret2
        rename_i hno
        have hno' : sectorNo s (by omega) = no := by unfold sectorNo; rw [← HB.out]; simpa using hno
        rw [HD.out, if_pos hno']
        exact ⟨rfl, ((Ext.refl w).drew.trans f1).drewN _⟩
  · have h30' : ((s.size : Int) != 30) = true := by simp; omega
    have hfin : decodeS no s = (.empty, 1) := by unfold decodeS; rw [dif_neg h30]
    rw [hfin]
    clear hfin h30
    go_enter Tryd.func46, Tryd.ntmps46
    go_wp2
    go_ret2
    exact ⟨rfl, Ext.refl _⟩
end Go.Proofs.YtgjijcgkmofaaaaDoor

/-
  device.at and the document's touched: may a sector be touched? device.Read and the document's DeviceRead; the law DeviceReads. Conditions: the argument reads as a device.
-/
namespace Go.Proofs.YtgjijcgkmofaaaaDoor
set_option linter.unusedSimpArgs false
set_option linter.unusedVariables false
open Go.RowKit

/-- The sector and the mark of a device, in memory. -/
theorem RDev.look {w : World} {A1 A2 : Option Addr} {c1 c2 : Nat} {d : Dev} (h : RDev w [.slice A1 d.sec.length c1, .slice A2 d.lost.length c2] d) (k : Nat) (h1 : k < d.sec.length) (h2 : k < d.lost.length) :
    ∃ b1 o1 b2 o2, A1 = some ⟨b1, o1, none⟩ ∧ A2 = some ⟨b2, o2, none⟩ ∧ w.cell? ⟨b1, o1 + k, none⟩ = some (.string (d.sec.getD k .empty)) ∧ w.cell? ⟨b2, o2 + k, none⟩ = some (.bool (d.lost.getD k false)) ∧ (d.sec.getD k .empty).size ≤ 140737488355328 := by
  obtain ⟨v1, v2, e, r1, r2⟩ := h
  obtain ⟨A, cc, rfl, _, _, g1⟩ := r1.row
  obtain ⟨B, cd, rfl, _, _, g2⟩ := r2.row
  obtain ⟨b1, o1, rfl, p1⟩ := g1 k h1
  obtain ⟨b2, o2, rfl, p2⟩ := g2 k h2
  obtain ⟨u1, q1, t1⟩ := p1 k h1
  obtain ⟨u2, q2, t2⟩ := p2 k h2
  simp only [List.cons.injEq, Value.slice.injEq, and_true, true_and] at e
  obtain ⟨⟨rfl, _⟩, rfl, _⟩ := e
  have e1 : d.sec.getD k .empty = d.sec[k] := by simp [h1]
  have e2 : d.lost.getD k false = d.lost[k] := by simp [h2]
  rw [e1, e2]
  have s1 := t1.2
  obtain rfl : u1 = .string d.sec[k] := by have := t1.1; simpa using this
  obtain rfl : u2 = .bool d.lost[k] := by have : [u2] = [Value.bool d.lost[k]] := t2; simpa using this
  exact ⟨b1, o1, b2, o2, rfl, rfl, q1, q2, s1⟩

def touchCode (d : Dev) (n : Int) : Int := if devMay d then (if inB n 0 ((d.sec.length : Int) - 1) then 0 else 6) else 9

set_option maxRecDepth 100000 in
set_option maxHeartbeats 400000 in
theorem devAt_any (cs : List Value) (d : Dev) (n : Int) (w : World) (h : RDev w cs d) (hn : I64 n) :
    Calls Tryd.prog 42 #[.agg cs.toArray, .int .i64 n] w fun e w' => e = .returned (.int .i64 (touchCode d n)) ∧ Ext w w' := by
  obtain ⟨A1, c1, A2, c2, rfl⟩ := h.form
  go_enter Tryd.func42, Tryd.ntmps42
  go_wp2_with fail
  refine calls_abs (fun W => Ext w W ∧ Blk_ W w.heap.size 63 #[.slice A1 d.sec.length c1, .slice A2 d.lost.length c2]) ⟨(Ext.refl _).alloc _, Blk_.new _ _ _⟩ ?_
  rintro W ⟨hx, hb⟩
  refine (devCheck_any [.slice A1 d.sec.length c1, .slice A2 d.lost.length c2] d W (h.up hx)).mono ?_
  rintro e w1 ⟨rfl, hx1⟩
  have hb1 := hb.ext hx1
  have f0 := hb1.cell 0
  have f1 := hb1.cell 1
  simp at f0 f1
  clear h
  cases hm : devMay d with
  | false =>
    have hf : devCode d = 9 := by unfold devCode; rw [hm]; rfl
    have hf2 : touchCode d n = 9 := by unfold touchCode; rw [hm]; rfl
    have HF := Lib.hid hf2
    rw [hf]
    clear hm hf hf2
    go_wp2
    go_ret
    exact ⟨ret_int HF.out.symm, hx.trans hx1⟩
  | true =>
    have hf : devCode d = 0 := by unfold devCode; rw [hm]; rfl
    have hf2 : touchCode d n = if inB n 0 ((d.sec.length : Int) - 1) then 0 else 6 := by unfold touchCode; rw [hm]; rfl
    rw [hf]
    clear hm hf
    by_cases k1 : n < 0
    · have k1' : decide (n < 0) = true := by simp; omega
      have hr : inB n 0 ((d.sec.length : Int) - 1) = false := by simp [inB]; omega
      rw [hr] at hf2
      have HF := Lib.hid hf2
      clear hr hf2
      go_wp2
      go_ret
      exact ⟨ret_int HF.out.symm, hx.trans hx1⟩
    · have k1' : decide (n < 0) = false := by simp; omega
      by_cases k2 : (d.sec.length : Int) ≤ n
      · have k2' : decide ((d.sec.length : Int) ≤ n) = true := by simp; omega
        have hr : inB n 0 ((d.sec.length : Int) - 1) = false := by simp [inB]; omega
        rw [hr] at hf2
        have HF := Lib.hid hf2
        clear hr hf2
        go_wp2
        go_ret
        exact ⟨ret_int HF.out.symm, hx.trans hx1⟩
      · have k2' : decide ((d.sec.length : Int) ≤ n) = false := by simp; omega
        have hr : inB n 0 ((d.sec.length : Int) - 1) = true := by simp [inB]; omega
        rw [hr] at hf2
        have HF := Lib.hid hf2
        clear hr hf2
        go_wp2
        go_ret
        exact ⟨ret_int HF.out.symm, hx.trans hx1⟩

/-- What reading a sector answers. -/
def readS (d : Dev) (n no : Int) : ByteArray × Int :=
  if touchCode d n = 0 then (if d.lost.getD n.toNat false then (.empty, 11) else decodeS no (d.sec.getD n.toNat .empty)) else (.empty, touchCode d n)
theorem touch_zero {d : Dev} {n : Int} (h : touchCode d n = 0) : devMay d = true ∧ 0 ≤ n ∧ n < d.sec.length := by
  unfold touchCode at h
  split at h
  · rename_i hm
    split at h
    · rename_i hr
      obtain ⟨a, b⟩ := inB_true hr
      exact ⟨hm, a, by omega⟩
    · omega
  · omega
theorem touch_cases (d : Dev) (n : Int) : touchCode d n = 0 ∨ touchCode d n = 6 ∨ touchCode d n = 9 := by
  unfold touchCode
  split
  · split
    · exact .inl rfl
    · exact .inr (.inl rfl)
  · exact .inr (.inr rfl)

set_option maxRecDepth 100000 in
set_option maxHeartbeats 400000 in
theorem devRead_any (cs : List Value) (d : Dev) (n no : Int) (w : World) (h : RDev w cs d) (hn : I64 n) (ho : I64 no) :
    Calls Tryd.prog 25 #[.agg cs.toArray, .int .i64 n, .int .i64 no] w fun e w' => e = .returned (.tuple #[.string (readS d n no).1, .int .i64 (readS d n no).2]) ∧ Ext w w' := by
  obtain ⟨A1, c1, A2, c2, rfl⟩ := h.form
  go_enter Tryd.func25, Tryd.ntmps25
  go_wp2_with fail
  refine calls_abs (fun W => Ext w W ∧ Blk_ W w.heap.size 63 #[.slice A1 d.sec.length c1, .slice A2 d.lost.length c2]) ⟨(Ext.refl _).alloc _, Blk_.new _ _ _⟩ ?_
  rintro W ⟨hx, hb⟩
  refine (devAt_any [.slice A1 d.sec.length c1, .slice A2 d.lost.length c2] d n W (h.up hx) hn).mono ?_
  rintro e w1 ⟨rfl, hx1⟩
  have hb1 := hb.ext hx1
  have f0 := hb1.cell 0
  have f1 := hb1.cell 1
  simp at f0 f1
  have hr1 := h.up (hx.trans hx1)
  clear h
  by_cases hc : touchCode d n = 0
  · obtain ⟨hm, n0, n1⟩ := touch_zero hc
    obtain ⟨m1, m2, m3, m4⟩ := devMay_len hm
    obtain ⟨k, rfl⟩ := Int.eq_ofNat_of_zero_le n0
    have hk : k < d.sec.length := by omega
    have hk2 : k < d.lost.length := by omega
    have hk2' : (k : Int) < (d.lost.length : Int) := by omega
    obtain ⟨b1, o1, b2, o2, rfl, rfl, q1, q2, s1⟩ := hr1.look k hk hk2
    have hf : readS d k no = if d.lost.getD k false then (.empty, 11) else decodeS no (d.sec.getD k .empty) := by unfold readS; rw [if_pos hc]; rfl
    rw [hc]
    clear hc m4 m3 hm hr1
    cases hl : d.lost.getD k false with
    | true =>
      rw [hl] at q2 hf
      have HF := Lib.hid hf
      clear hf hl
      go_wp2_with fail
      go_ret2
      exact ⟨by rw [HF.out]; rfl, hx.trans hx1⟩
    | false =>
      rw [hl] at q2 hf
      have HF := Lib.hid hf
      clear hf hl
      generalize d.sec.getD k .empty = s at *
      go_wp2_with fail
      refine (decode_any no s _ s1 ho).mono ?_
      rintro e w2 ⟨rfl, hx2⟩
      go_wp2_with fail
      go_ret2
      exact ⟨by rw [HF.out]; rfl, (hx.trans hx1).trans hx2⟩
  · have hf : readS d n no = (.empty, touchCode d n) := by unfold readS; rw [if_neg hc]
    have hc' : (touchCode d n != 0) = true := by simpa using hc
    have HF := Lib.hid hf
    clear hf hc hr1
    generalize touchCode d n = t at *
    go_wp2_with fail
    go_ret2
    exact ⟨by rw [HF.out]; rfl, hx.trans hx1⟩

end Go.Proofs.YtgjijcgkmofaaaaDoor

/-
  A device of the call's own, in memory: both rows new; a sector or a mark may be stored into it. Conditions: none.
-/
namespace Go.Proofs.YtgjijcgkmofaaaaDoor
set_option linter.unusedSimpArgs false
set_option linter.unusedVariables false
open Go.RowKit

/-- Both rows of the device lie in blocks of the call's own. -/
def ODev (S L : TypeId) (w : World) (base : Nat) (v1 v2 : Value) (d : Dev) : Prop :=
  w.ownsRow base S 1 v1 d.sec.length (d.sec.flatMap encStr) ∧ w.ownsRow base L 1 v2 d.lost.length (d.lost.flatMap encBool) ∧ d.sec.length * 16 ≤ 140737488355328 ∧ d.lost.length ≤ 140737488355328 ∧ ∀ s ∈ d.sec, s.size ≤ 140737488355328
theorem ODev.ext {S L : TypeId} {w w' : World} {base : Nat} {v1 v2 : Value} {d : Dev} (h : ODev S L w base v1 v2 d) (k : Ext w w') : ODev S L w' base v1 v2 d := ⟨own_ext h.1 k, own_ext h.2.1 k, h.2.2⟩
theorem ODev.base {S L : TypeId} {w : World} {base base' : Nat} {v1 v2 : Value} {d : Dev} (h : ODev S L w base v1 v2 d) (hb : base' ≤ base) : ODev S L w base' v1 v2 d := ⟨own_base h.1 hb, own_base h.2.1 hb, h.2.2⟩
theorem ODev.far {S L : TypeId} {w : World} {base : Nat} {v1 v2 : Value} {d : Dev} (h : ODev S L w base v1 v2 d) {p : Addr} (hp : p.block < base) (u : Value) : ODev S L (w.setCell p u) base v1 v2 d :=
  ⟨ownsRow_setCell_below h.1 hp u, ownsRow_setCell_below h.2.1 hp u, h.2.2⟩
theorem ODev.new1 {S L : TypeId} {w : World} {base : Nat} {v1 v2 : Value} {d : Dev} (h : ODev S L w base v1 v2 d) : New base v1 := New.own h.1
theorem ODev.new2 {S L : TypeId} {w : World} {base : Nat} {v1 v2 : Value} {d : Dev} (h : ODev S L w base v1 v2 d) : New base v2 := New.own h.2.1
theorem ODev.dev {S L : TypeId} {w : World} {base : Nat} {v1 v2 : Value} {d : Dev} (h : ODev S L w base v1 v2 d) : RDev w [v1, v2] d :=
  ⟨v1, v2, rfl, SlR.of_own encStr_ok h.1 h.2.2.1 (fun a ha => ⟨rfl, h.2.2.2.2 a ha⟩), SlR.of_own encBool_ok h.2.1 (by have := h.2.2.2.1; omega) (fun a ha => rfl)⟩
theorem flat_str_set (l : List ByteArray) (k : Nat) (s : ByteArray) : (l.set k s).flatMap encStr = (l.flatMap encStr).set k (.string s) := by
  induction l generalizing k with
  | nil => rfl
  | cons a l ih =>
    cases k with
    | zero => rfl
    | succ k => simp only [List.set_cons_succ, List.flatMap_cons]; rw [ih]; rfl
theorem flat_bool_set (l : List Bool) (k : Nat) (s : Bool) : (l.set k s).flatMap encBool = (l.flatMap encBool).set k (.bool s) := by
  induction l generalizing k with
  | nil => rfl
  | cons a l ih =>
    cases k with
    | zero => rfl
    | succ k => simp only [List.set_cons_succ, List.flatMap_cons]; rw [ih]; rfl
theorem flat_bool_get (l : List Bool) (k : Nat) (h : k < l.length) : (l.flatMap encBool)[k]? = some (.bool l[k]) := by
  induction l generalizing k with
  | nil => cases h
  | cons a l ih =>
    cases k with
    | zero => rfl
    | succ k => exact ih k (by simpa using h)
theorem flat_str_get (l : List ByteArray) (k : Nat) (h : k < l.length) : (l.flatMap encStr)[k]? = some (.string l[k]) := by
  induction l generalizing k with
  | nil => cases h
  | cons a l ih =>
    cases k with
    | zero => rfl
    | succ k => exact ih k (by simpa using h)
theorem own_other {w : World} {base : Nat} {e e' : TypeId} {v : Value} {n n' c : Nat} {g : Nat} {xs xs' : List Value} (h : w.ownsRow base e 1 v n xs) (h' : w.ownsRow base e' 1 (.slice (some ⟨g, 0, none⟩) n' c) n' xs') (he : e ≠ e') : v.ownBlock ≠ some g := by
  intro hv
  rcases h.2 with ⟨hv', _⟩ | ⟨g1, cap, cur, hv', _, hg, _⟩
  · rw [hv'] at hv; cases hv
  · rw [hv'] at hv
    have : g1 = g := by simpa [Value.ownBlock] using hv
    subst this
    rcases h'.2 with ⟨hv2, _⟩ | ⟨g2, cap2, cur2, hv2, _, hg2, _⟩
    · cases hv2
    · injection hv2 with a1 a2 a3
      injection a1 with a1
      injection a1 with a1
      subst a1
      rw [hg] at hg2
      injection hg2 with hg2
      injection hg2 with b1 b2 b3
      exact he b2
theorem ODev.setLost {S L : TypeId} {w : World} {base g n c : Nat} {v1 : Value} {d : Dev} (h : ODev S L w base v1 (.slice (some ⟨g, 0, none⟩) n c) d) (hn : n = d.lost.length) (hSL : S ≠ L) (k : Nat) (b : Bool) :
    ODev S L (w.setCell ⟨g, k, none⟩ (.bool b)) base v1 (.slice (some ⟨g, 0, none⟩) n c) ⟨d.sec, d.lost.set k b⟩ := by
  subst hn
  obtain ⟨h1, h2, h3, h4, h5⟩ := h
  refine ⟨ownsRow_setCell_other h1 (own_other h1 h2 hSL) _, ?_, h3, by simpa using h4, h5⟩
  have := (h2.stored k (.bool b)).1
  rw [flat_bool_set]
  simpa using this
theorem ODev.setSec {S L : TypeId} {w : World} {base g n c : Nat} {v2 : Value} {d : Dev} (h : ODev S L w base (.slice (some ⟨g, 0, none⟩) n c) v2 d) (hn : n = d.sec.length) (hSL : S ≠ L) (k : Nat) (s : ByteArray) (hs : s.size ≤ 140737488355328) :
    ODev S L (w.setCell ⟨g, k, none⟩ (.string s)) base (.slice (some ⟨g, 0, none⟩) n c) v2 ⟨d.sec.set k s, d.lost⟩ := by
  subst hn
  obtain ⟨h1, h2, h3, h4, h5⟩ := h
  refine ⟨?_, ownsRow_setCell_other h2 (own_other h2 h1 (Ne.symm hSL)) _, by simpa using h3, h4, fun x hx => ?_⟩
  · have := (h1.stored k (.string s)).1
    rw [flat_str_set]
    simpa using this
  · rcases List.mem_or_eq_of_mem_set hx with hx | rfl
    · exact h5 x hx
    · exact hs
/-- What it is that owns a row that is not empty. -/
theorem own_form {w : World} {base : Nat} {e : TypeId} {A : Option Addr} {n c : Nat} {xs : List Value} (h : w.ownsRow base e 1 (.slice A n c) n xs) (hn : 0 < n) : ∃ g, A = some ⟨g, 0, none⟩ ∧ base ≤ g ∧ g < w.heap.size ∧ ∀ k, w.frozen? ⟨g, k, none⟩ = false := by
  have h' := h
  rcases h.2 with ⟨hv, h0⟩ | ⟨g, cap, cur, hv, hb, hg, _⟩
  · omega
  · injection hv with a1 a2 a3
    subst a1
    subst a3
    exact ⟨g, rfl, hb, (h'.lt g rfl).2, fun k => h'.frozenAt k⟩
/-- The rows of a copy are a device of the call's own. -/
theorem RDev.own {S L : TypeId} {w w' : World} {cs : List Value} {d : Dev} (h : RDev w cs d) {base : Nat} {v1 v2 : Value} (o1 : w'.ownsRow base S 1 v1 d.sec.length (d.sec.flatMap encStr))
    (o2 : w'.ownsRow base L 1 v2 d.lost.length (d.lost.flatMap encBool)) : ODev S L w' base v1 v2 d := by
  obtain ⟨_, _, _, h1, h2⟩ := h
  refine ⟨o1, o2, h1.len, by have := h2.len; omega, fun s hs => (h1.mem encStr_ok w s hs).2⟩

section
variable {P : Program} (w : World)
theorem run_append_nil_none (t ty e : TypeId) (i : TypeInfo) (c : Nat) (ht : P.underlying t = some (.slice e)) (hi : P.info? e = some i) :
    (Builtin.append_ #[t, t] ty #[.slice none 0 0, .slice none 0 c]).run P w = .ok (.slice none 0 0) w := by
  simp [Builtin.append_, run_underlying ht, sizeOf, typeInfo, hi, Builtin.lenOf, Builtin.firstCells]
/-- append(nil, l..): a copy in new memory. -/
theorem wp_append_copy {α : Type} {C bytes : Nat} {R : Rd α} {enc : α → List Value} (he : Enc C R enc) (hC : 0 < C) {o : Oper} {a : Act} {K : Act → World → Prop} {Q : Exit → Act → World → Prop} (s x : Operand) (t : TypeId)
    (ho : o.op = .call { callee := .builtin .append, args := #[s, x], argTypes := #[t, t] })
    (e : TypeId) (i : TypeInfo) (z : Value) (ht : P.underlying t = some (.slice e)) (hi : P.info? e = some i) (hz : i.zero = some z)
    (hsize : i.size = C) (hby : i.bytes = bytes) (hzs : z.cells.size = C)
    (hs : a.eval s = .slice none 0 0) (v : Value) (l : List α) (hx : a.eval x = v) (hv : SlR C bytes R w v l) (h63 : l.length ≤ maxLen)
    (h : ∀ A' c' w', w'.ownsRow w.heap.size e C (.slice A' l.length c') l.length (l.flatMap enc) → Ext w w' → K (a.put o.dst (.slice A' l.length c')) w') : o.wp P a w K Q := by
  obtain ⟨A, cap, rfl, hb, hc, hl⟩ := hv.cells he hC
  clear hv
  cases A with
  | none =>
    have hl0 : l = [] := by rcases hl with h | ⟨b, o, h, _⟩; exact h; cases h
    subst hl0
    have hrun := run_append_nil_none (P := P) w t o.type e i cap ht hi
    unfold Oper.wp execOp
    simp only [ho, resolve, invoke, builtin, Sem.run_bind, Sem.run_pure, Result.andThen_ok, List.map_toArray, List.map_cons, List.map_nil, hs, hx, List.length_nil, hrun]
    exact h none 0 w (World.ownsRow_nil _ _ _ _) (Ext.refl _)
  | some ad =>
    have hcells : ∀ (j : Nat) (u : Value), (l.flatMap enc)[j]? = some u → w.cell? (ad.add j) = some u := by
      rcases hl with h | ⟨b, o, h, hc, _⟩
      · subst h; intro j u hu; simp at hu
      · cases h; exact hc
    refine wp_append_at w s x t ho w.heap.size e i z C bytes ht hi hz hsize hby hzs hC _ 0 [] hs (World.ownsRow_nil _ _ _ _) ad l.length cap (l.flatMap enc) hx (length_flatMap he.len l) hcells
      (fun u hu => by obtain ⟨y, _, hy⟩ := List.mem_flatMap.1 hu; exact he.one y u hy) (by omega) (by rw [Nat.zero_add]; exact hb) (Nat.le_refl _) ?_
    intro A' c' w' h1 h2 h3
    rw [Nat.zero_add, List.nil_append] at h1
    rw [Nat.zero_add]
    exact h A' c' w' h1 ((Ext.refl w).grown h2 (fun k hk => by cases hk))
end
end Go.Proofs.YtgjijcgkmofaaaaDoor

/-
  The document's DeviceCopy: both rows in new memory. device.Lose and DeviceLost: a mark is set in a copy; the law DeviceLoses. Conditions: the argument reads as a device.
-/
namespace Go.Proofs.YtgjijcgkmofaaaaDoor
set_option linter.unusedSimpArgs false
set_option linter.unusedVariables false
open Go.RowKit

def loseS (d : Dev) (n : Int) : Dev := if touchCode d n = 0 then ⟨d.sec, d.lost.set n.toNat true⟩ else ⟨[], []⟩

set_option maxRecDepth 100000 in
set_option maxHeartbeats 400000 in
theorem devLose_any (cs : List Value) (d : Dev) (n : Int) (w : World) (h : RDev w cs d) (hn : I64 n) :
    Calls Tryd.prog 21 #[.agg cs.toArray, .int .i64 n] w fun e w' => ∃ A1 c1 A2 c2, e = .returned (.tuple #[.agg #[.slice A1 (loseS d n).sec.length c1, .slice A2 (loseS d n).lost.length c2], .int .i64 (touchCode d n)]) ∧ Ext w w' ∧
      ODev 9 4 w' w.heap.size (.slice A1 (loseS d n).sec.length c1) (.slice A2 (loseS d n).lost.length c2) (loseS d n) := by
  obtain ⟨A1, c1, A2, c2, rfl⟩ := h.form
  go_enter Tryd.func21, Tryd.ntmps21
  go_wp2_with fail
  refine calls_abs (fun W => Ext w W ∧ Blk_ W w.heap.size 63 #[.slice A1 d.sec.length c1, .slice A2 d.lost.length c2] ∧ Blk_ W (w.heap.size + 1) 63 #[.slice none 0 0, .slice none 0 0]) ⟨((Ext.refl _).alloc _).alloc _, (Blk_.new _ _ _).alloc _, Blk_.new1 _ _ _ _⟩ ?_
  rintro W ⟨hx, hb, hbr⟩
  refine (devAt_any [.slice A1 d.sec.length c1, .slice A2 d.lost.length c2] d n W (h.up hx) hn).mono ?_
  rintro e w1 ⟨rfl, hx1⟩
  have hb1 := hb.ext hx1
  have hbr1 := hbr.ext hx1
  have f0 := hb1.cell 0
  have f1 := hb1.cell 1
  simp at f0 f1
  have hr1 := h.up (hx.trans hx1)
  have hx0 := hx.trans hx1
  clear h hb hbr hx hx1
  by_cases hc : touchCode d n = 0
  · obtain ⟨hm, n0, n1⟩ := touch_zero hc
    obtain ⟨m1, m2, m3, m4⟩ := devMay_len hm
    obtain ⟨k, rfl⟩ := Int.eq_ofNat_of_zero_le n0
    have hk2' : (k : Int) < (d.lost.length : Int) := by omega
    have hf : loseS d k = ⟨d.sec, d.lost.set k true⟩ := by unfold loseS; rw [if_pos hc]; rfl
    have hlp : 0 < d.lost.length := by omega
    have HC := Lib.hid hc
    have HF := Lib.hid hf
    rw [hc]
    clear hc m4 m3 hm hf
    go_wp2_with fail
    refine (devCopy_any [.slice A1 d.sec.length c1, .slice A2 d.lost.length c2] d _ hr1).mono ?_
    rintro e w2 ⟨B1, k1, B2, k2, rfl, hx2, o1, o2⟩
    have hod := hr1.own o1 o2
    have hb2 := hb1.ext hx2
    have hbr2 := hbr1.ext hx2
    obtain ⟨g, rfl, hg1, hg2, hg3⟩ := own_form o2 hlp
    have g0 := hb2.cell 0
    have g1 := hb2.cell 1
    have z0 := hb2.frozen 0
    have z1 := hb2.frozen 1
    have y0 := hbr2.cell 0
    have y1 := hbr2.cell 1
    have x0 := hbr2.frozen 0
    have x1 := hbr2.frozen 1
    simp at g0 g1 y0 y1
    have zk := hg3 k
    have ck := (o2.cellAt k (by omega)).trans (flat_bool_get d.lost k (by omega))
    have hlt := hbr1.lt
    have ne1 : ¬ (w.heap.size = g) := by omega
    have ne2 : ¬ (g = w.heap.size) := by omega
    have ne3 : ¬ (w.heap.size + 1 = g) := by omega
    have ne4 : ¬ (g = w.heap.size + 1) := by omega
    have hgw : w.heap.size ≤ g := by omega
    have HO := Lib.hid hod
    have HX := Lib.hid ((hx0.trans hx2))
    have HB := Lib.hid ((((((hbr2.far (p := ⟨w.heap.size, 0, none⟩) (by simp) (.slice B1 d.sec.length k1)).far (p := ⟨w.heap.size, 1, none⟩) (by simp) (.slice (some ⟨g, 0, none⟩) d.lost.length k2)).far (p := ⟨g, k, none⟩) ne3 (.bool true)).set 0 (.slice B1 d.sec.length k1)).set 1 (.slice (some ⟨g, 0, none⟩) d.lost.length k2)))
    clear hr1 f0 f1 o1 o2 hg3 hod hx0 hx2 hb1 hbr1 hb2 hg1 hg2 n1 hlp
    go_wp2_with fail
    refine bodyPost_ret (res_cell_tmp rfl rfl HB.out Tryd.underlying63 rfl (by kernel_rfl)) rfl ?_
    rw [HF.out, HC.out]
    refine ⟨B1, k1, some ⟨g, 0, none⟩, k2, ?_, ?_, ?_⟩
    · rw [List.length_set]; rfl
    · exact ((((HX.out.setCell (by simp) _).setCell (by simp) _).setCell (by simp; omega) _).setCell (by simp) _).setCell (by simp) _
    · have := (((((HO.out.far (p := ⟨w.heap.size, 0, none⟩) (by simp; omega) (.slice B1 d.sec.length k1)).far (p := ⟨w.heap.size, 1, none⟩) (by simp; omega) (.slice (some ⟨g, 0, none⟩) d.lost.length k2)).setLost rfl (by decide) k true).far (p := ⟨w.heap.size + 1, 0, none⟩) (by simp; omega) (.slice B1 d.sec.length k1)).far (p := ⟨w.heap.size + 1, 1, none⟩) (by simp; omega) (.slice (some ⟨g, 0, none⟩) d.lost.length k2)).base (base' := w.heap.size) (by omega)
      rw [List.length_set]
      exact this
  · have hf : loseS d n = ⟨[], []⟩ := by unfold loseS; rw [if_neg hc]
    have hc' : (touchCode d n != 0) = true := by simpa using hc
    have HF := Lib.hid hf
    clear hf hc hr1
    have y0 := hbr1.cell 0
    have y1 := hbr1.cell 1
    have x0 := hbr1.frozen 0
    have x1 := hbr1.frozen 1
    simp at y0 y1
    have HB := Lib.hid ((hbr1.set 0 (.slice none 0 0)).set 1 (.slice none 0 0))
    go_wp2_with fail
    refine bodyPost_ret (res_cell_tmp rfl rfl HB.out Tryd.underlying63 rfl (by kernel_rfl)) rfl ?_
    rw [HF.out]
    refine ⟨none, 0, none, 0, rfl, (hx0.setCell (by simp) _).setCell (by simp) _, ?_⟩
    exact ⟨World.ownsRow_nil _ _ _ _, World.ownsRow_nil _ _ _ _, by simp, by simp, fun s hs => by cases hs⟩
end Go.Proofs.YtgjijcgkmofaaaaDoor

/-
  The press in plain Lean: what stands further back, pieces, bytes as they are, packing and unpacking. Conditions: none.
-/
namespace Go.Proofs.YtgjijcgkmofaaaaDoor
set_option linter.unusedSimpArgs false
set_option linter.unusedVariables false
open Go.RowKit

/-- The byte at a place; 0 where there is none. -/
def at_ (s : ByteArray) (k : Nat) : UInt8 := if h : k < s.size then s[k] else 0
theorem at_eq (s : ByteArray) (k : Nat) (h : k < s.size) : at_ s k = s[k] := dif_pos h
/-- How many bytes from k on are those from i on, when n are known to be. -/
def alikeF (s : ByteArray) (k i n : Nat) : Nat := if n < 131 ∧ i + n < s.size ∧ at_ s (k + n) = at_ s (i + n) then alikeF s k i (n + 1) else n
termination_by 131 - n
/-- The longest piece further back, from the distance d on. -/
def pieceF (s : ByteArray) (i d best back : Nat) : Nat × Nat :=
  if d ≤ 255 ∧ d ≤ i then (if best < alikeF s (i - d) i 0 then pieceF s i (d + 1) (alikeF s (i - d) i 0) d else pieceF s i (d + 1) best back) else (best, back)
termination_by 256 - d
/-- Bytes as they are. -/
def plainF (l : List UInt8) : List UInt8 := if h : l = [] then [] else UInt8.ofNat (min l.length 128 - 1) :: (l.take 128 ++ plainF (l.drop 128))
termination_by l.length
decreasing_by
  have : 0 < l.length := List.length_pos_iff.2 h
  simp only [List.length_drop]; omega
def sub_ (s : ByteArray) (a b : Nat) : List UInt8 := ((lst s).take b).drop a
theorem length_sub_ (s : ByteArray) (a b : Nat) (h : b ≤ s.size) : (sub_ s a b).length = b - a := by
  unfold sub_; rw [List.length_drop, List.length_take, length_lst]; omega
def packF (s : ByteArray) (out : List UInt8) (from_ i : Nat) : List UInt8 :=
  if h : i < s.size then
    (if h2 : (pieceF s i 1 0 0).1 < 4 then packF s out from_ (i + 1)
     else packF s (out ++ plainF (sub_ s from_ i) ++ [UInt8.ofNat (124 + (pieceF s i 1 0 0).1), UInt8.ofNat (pieceF s i 1 0 0).2]) (i + (pieceF s i 1 0 0).1) (i + (pieceF s i 1 0 0).1))
  else out ++ plainF (sub_ s from_ s.size)
termination_by s.size - i
def packS (s : ByteArray) : ByteArray × Int := if 600 < s.size then (.empty, 1) else (bs (packF s [] 0 0), 0)

theorem alikeF_le (s : ByteArray) (k i n : Nat) (h : n ≤ 131) : n ≤ alikeF s k i n ∧ alikeF s k i n ≤ 131 := by
  induction hm : 131 - n generalizing n with
  | zero => rw [alikeF, if_neg (by omega)]; omega
  | succ m ih =>
    rw [alikeF]
    split
    · have := ih (n + 1) (by omega) (by omega); omega
    · omega
theorem alikeF_size (s : ByteArray) (k i n : Nat) (h : i + n ≤ s.size) : i + alikeF s k i n ≤ s.size := by
  induction hm : 131 - n generalizing n with
  | zero => rw [alikeF, if_neg (by omega)]; omega
  | succ m ih =>
    rw [alikeF]
    split
    · exact ih (n + 1) (by omega) (by omega)
    · omega
theorem alikeF_at (s : ByteArray) (k i n j : Nat) (h1 : n ≤ j) (h2 : j < alikeF s k i n) : at_ s (k + j) = at_ s (i + j) := by
  induction hm : 131 - n generalizing n with
  | zero => rw [alikeF, if_neg (by omega)] at h2; omega
  | succ m ih =>
    rw [alikeF] at h2
    split at h2
    · rename_i hc
      by_cases he : j = n
      · subst he; exact hc.2.2
      · exact ih (n + 1) (by omega) h2 (by omega)
    · omega
/-- What a piece is: so long, so far back, and alike. -/
def PieceOk (s : ByteArray) (i : Nat) (p : Nat × Nat) : Prop := p.1 = 0 ∨ (1 ≤ p.2 ∧ p.2 ≤ 255 ∧ p.2 ≤ i ∧ p.1 ≤ 131 ∧ i + p.1 ≤ s.size ∧ ∀ j, j < p.1 → at_ s (i - p.2 + j) = at_ s (i + j))
theorem pieceF_ok (s : ByteArray) (i d best back : Nat) (hd : 1 ≤ d) (hi : i ≤ s.size) (h : PieceOk s i (best, back)) : PieceOk s i (pieceF s i d best back) := by
  induction hm : 256 - d generalizing d best back with
  | zero => rw [pieceF, if_neg (by omega)]; exact h
  | succ m ih =>
    rw [pieceF]
    split
    · rename_i hc
      split
      · refine ih (d + 1) _ _ (by omega) ?_ (by omega)
        right
        have h1 := alikeF_le s (i - d) i 0 (by omega)
        have h2 := alikeF_size s (i - d) i 0 (by omega)
        exact ⟨hd, hc.1, hc.2, h1.2, h2, fun j hj => alikeF_at s (i - d) i 0 j (by omega) hj⟩
      · exact ih (d + 1) _ _ (by omega) h (by omega)
    · exact h
theorem piece_ok (s : ByteArray) (i : Nat) (hi : i ≤ s.size) : PieceOk s i (pieceF s i 1 0 0) := pieceF_ok s i 1 0 0 (by omega) hi (.inl rfl)
theorem piece_le (s : ByteArray) (i : Nat) (hi : i ≤ s.size) : (pieceF s i 1 0 0).1 ≤ 131 ∧ i + (pieceF s i 1 0 0).1 ≤ s.size := by
  rcases piece_ok s i hi with h | h
  · omega
  · exact ⟨h.2.2.2.1, h.2.2.2.2.1⟩

/-- Bytes that stood there, once more. -/
def copyB (d : Nat) : Nat → List UInt8 → List UInt8
  | 0, out => out
  | k + 1, out => copyB d k (out ++ [out.getD (out.length - d) 0])
theorem length_copyB (d k : Nat) (out : List UInt8) : (copyB d k out).length = out.length + k := by
  induction k generalizing out with
  | zero => rfl
  | succ k ih => unfold copyB; rw [ih]; simp; omega
def unpackF (l out : List UInt8) : ByteArray × Int :=
  match l with
  | [] => (bs out, 0)
  | c :: r =>
    if c.toNat < 128 then (if r.length < c.toNat + 1 then (.empty, 5) else if 600 < (out ++ r.take (c.toNat + 1)).length then (.empty, 1) else unpackF (r.drop (c.toNat + 1)) (out ++ r.take (c.toNat + 1)))
    else match r with
      | [] => (.empty, 5)
      | d :: r' => if d.toNat = 0 ∨ out.length < d.toNat then (.empty, 4) else if 600 < (copyB d.toNat (c.toNat - 124) out).length then (.empty, 1) else unpackF r' (copyB d.toNat (c.toNat - 124) out)
termination_by l.length
decreasing_by
  · simp only [List.length_drop, List.length_cons]; omega
  · simp only [List.length_cons]; omega
theorem unpackF_nil (out : List UInt8) : unpackF [] out = (bs out, 0) := by rw [unpackF.eq_def]
theorem unpackF_plain {c : UInt8} (r out : List UInt8) (h : c.toNat < 128) : unpackF (c :: r) out = if r.length < c.toNat + 1 then (.empty, 5) else if 600 < (out ++ r.take (c.toNat + 1)).length then (.empty, 1) else unpackF (r.drop (c.toNat + 1)) (out ++ r.take (c.toNat + 1)) := by
  rw [unpackF.eq_def]
  simp only
  rw [if_pos h]
theorem unpackF_end {c : UInt8} (out : List UInt8) (h : ¬ c.toNat < 128) : unpackF [c] out = (.empty, 5) := by
  rw [unpackF.eq_def]
  simp only
  rw [if_neg h]
theorem unpackF_piece {c d : UInt8} (r out : List UInt8) (h : ¬ c.toNat < 128) : unpackF (c :: d :: r) out = if d.toNat = 0 ∨ out.length < d.toNat then (.empty, 4) else if 600 < (copyB d.toNat (c.toNat - 124) out).length then (.empty, 1) else unpackF r (copyB d.toNat (c.toNat - 124) out) := by
  rw [unpackF.eq_def]
  simp only
  rw [if_neg h]
def unpackS (s : ByteArray) : ByteArray × Int := unpackF (lst s) []
end Go.Proofs.YtgjijcgkmofaaaaDoor

/-
  strings.Repeat in this seat: the library's contract, laid (printed by the kit's lay-shelf and lay-plain). Conditions: none.
-/
namespace Go.Proofs.YtgjijcgkmofaaaaDoor
open Go.Shelf
def Tryd.lays105_ren : Go.Shelf.Ren := ⟨fun | 105 => 17 | 212 => 32 | 99 => 33 | 165 => 34 | 166 => 35 | 170 => 36 | 169 => 37 | 263 => 53 | 264 => 54 | 206 => 55 | 240 => 56 | 241 => 57 | 276 => 75 | 277 => 76 | n => n, fun | 9 => 9 | 3 => 3 | 4 => 4 | 20 => 20 | 0 => 0 | 46 => 81 | 109 => 82 | 5 => 5 | 72 => 87 | 76 => 91 | 51 => 110 | 146 => 111 | 53 => 113 | 148 => 114 | 70 => 85 | 37 => 76 | 75 => 90 | 127 => 116 | 164 => 133 | 80 => 94 | n => n, fun | n => n⟩
theorem Tryd.lays105 : Go.Proofs.Lays.n105 Tryd.prog Tryd.lays105_ren := {
  mixed := by kernel_rfl
  f99 := Tryd.func33.trans (congrArg some (by kernel_rfl))
  f105 := Tryd.func17.trans (congrArg some (by kernel_rfl))
  f165 := Tryd.func34.trans (congrArg some (by kernel_rfl))
  f166 := Tryd.func35.trans (congrArg some (by kernel_rfl))
  f169 := Tryd.func37.trans (congrArg some (by kernel_rfl))
  f170 := Tryd.func36.trans (congrArg some (by kernel_rfl))
  f206 := Tryd.func55.trans (congrArg some (by kernel_rfl))
  f212 := Tryd.func32.trans (congrArg some (by kernel_rfl))
  f240 := Tryd.func56.trans (congrArg some (by kernel_rfl))
  f241 := Tryd.func57.trans (congrArg some (by kernel_rfl))
  f263 := Tryd.func53.trans (congrArg some (by kernel_rfl))
  f264 := Tryd.func54.trans (congrArg some (by kernel_rfl))
  f276 := Tryd.func75.trans (congrArg some (by kernel_rfl))
  f277 := Tryd.func76.trans (congrArg some (by kernel_rfl))
  t0 := Tryd.underlying0
  a0 := Tryd.isAgg0
  z0 := Tryd.sizeOf0
  v0 := Tryd.zeroValue0
  t3 := Tryd.underlying3
  a3 := Tryd.isAgg3
  z3 := Tryd.sizeOf3
  v3 := Tryd.zeroValue3
  t4 := Tryd.underlying4
  a4 := Tryd.isAgg4
  z4 := Tryd.sizeOf4
  v4 := Tryd.zeroValue4
  t5 := Tryd.underlying5
  a5 := Tryd.isAgg5
  z5 := Tryd.sizeOf5
  v5 := Tryd.zeroValue5
  t9 := Tryd.underlying9
  a9 := Tryd.isAgg9
  z9 := Tryd.sizeOf9
  v9 := Tryd.zeroValue9
  t20 := Tryd.underlying20
  a20 := Tryd.isAgg20
  z20 := Tryd.sizeOf20
  v20 := Tryd.zeroValue20
  t37 := Tryd.underlying76
  a37 := Tryd.isAgg76
  z37 := Tryd.sizeOf76
  v37 := Tryd.zeroValue76
  t46 := Tryd.underlying81
  a46 := Tryd.isAgg81
  z46 := Tryd.sizeOf81
  v46 := Tryd.zeroValue81
  t51 := Tryd.underlying110
  a51 := Tryd.isAgg110
  z51 := Tryd.sizeOf110
  v51 := Tryd.zeroValue110
  t53 := Tryd.underlying113
  a53 := Tryd.isAgg113
  z53 := Tryd.sizeOf113
  v53 := Tryd.zeroValue113
  t70 := Tryd.underlying85
  a70 := Tryd.isAgg85
  z70 := Tryd.sizeOf85
  v70 := Tryd.zeroValue85
  t72 := Tryd.underlying87
  a72 := Tryd.isAgg87
  z72 := Tryd.sizeOf87
  v72 := Tryd.zeroValue87
  t75 := Tryd.underlying90
  a75 := Tryd.isAgg90
  z75 := Tryd.sizeOf90
  v75 := Tryd.zeroValue90
  t76 := Tryd.underlying91
  a76 := Tryd.isAgg91
  z76 := Tryd.sizeOf91
  v76 := Tryd.zeroValue91
  t109 := Tryd.underlying82
  a109 := Tryd.isAgg82
  z109 := Tryd.sizeOf82
  v109 := Tryd.zeroValue82
  t127 := Tryd.underlying116
  a127 := Tryd.isAgg116
  z127 := Tryd.sizeOf116
  v127 := Tryd.zeroValue116
  t146 := Tryd.underlying111
  a146 := Tryd.isAgg111
  z146 := Tryd.sizeOf111
  v146 := Tryd.zeroValue111
  t148 := Tryd.underlying114
  a148 := Tryd.isAgg114
  z148 := Tryd.sizeOf114
  v148 := Tryd.zeroValue114
  t164 := Tryd.underlying133
  a164 := Tryd.isAgg133
  z164 := Tryd.sizeOf133
  v164 := Tryd.zeroValue133 }
theorem Tryd.Builder_Extra_105 : Builder.Extra Tryd.prog Tryd.lays105_ren := {
  sizeBuilder := by kernel_rfl
  liesBuilder := by kernel_rfl
  t5 := Tryd.underlying5
  a5 := Tryd.isAgg5
  z5 := Tryd.sizeOf5
  v5 := Tryd.zeroValue5
  infoByte := by kernel_rfl
  cellsByte := by kernel_rfl
  sizeByte := by kernel_rfl
  neB5 := by decide }
open Go.RowKit Go.Lib in
/-- **strings.Repeat: count ≥ 0, the result within one allocation: count copies of s.** (LAID: no walk: one application.) -/
theorem Tryd.strings_Repeat (s : ByteArray) (c : Nat) (w : World) (hc : c ≤ 9223372036854775807) (hlen : s.size * c ≤ 140737488355328) :
    Calls Tryd.prog 17 #[.string s, .int .i64 c] w fun e w' => e = .returned (.string ⟨(Lib.repeatL s.data.toList c).toArray⟩) ∧ Below w.heap.size w w' := Any.strings_Repeat Tryd.lays105 Tryd.Builder_Extra_105 s c w hc hlen
end Go.Proofs.YtgjijcgkmofaaaaDoor
