/-
  stream.Read and the document's StreamRead: bytes over sectors, one behind the other; the law StreamReads. Conditions: the argument reads as an array.
-/
import Derived.Test.YtgjijcgkmofaaaaGreatDoorU5
namespace Go.Proofs.YtgjijcgkmofaaaaGreatDoor
set_option linter.unusedSimpArgs false
set_option linter.unusedVariables false
set_option maxRecDepth 100000
set_option maxHeartbeats 8000000
open Go.RowKit
theorem fault_state {a : List Dev} {first n : Int} (h : arrMay a = false) : streamFaultS a first n = 9 := by unfold streamFaultS; rw [h]; rfl
theorem fault_size {a : List Dev} {first n : Int} (h : arrMay a = true) (h2 : ¬ (0 ≤ n ∧ n ≤ 1536)) : streamFaultS a first n = 1 := by
 unfold streamFaultS; rw [h, if_neg (by decide), if_pos (by simp [inB]; omega)]
theorem fault_range {a : List Dev} {first n : Int} (h : arrMay a = true) (h2 : 0 ≤ n ∧ n ≤ 1536) (h3 : first < 0 ∨ ((dv a 0).sec.length : Int) < first ∨ ((dv a 0).sec.length : Int) - first < (n + 23) / 24) : streamFaultS a first n = 2 := by
 unfold streamFaultS; rw [h, if_neg (by decide), if_neg (by simp [inB]; omega), if_pos (by simp [inB]; omega)]
theorem fault_none {a : List Dev} {first n : Int} (h : arrMay a = true) (h2 : 0 ≤ n ∧ n ≤ 1536) (h3 : ¬ (first < 0 ∨ ((dv a 0).sec.length : Int) < first ∨ ((dv a 0).sec.length : Int) - first < (n + 23) / 24)) : streamFaultS a first n = 0 := by
 unfold streamFaultS; rw [h, if_neg (by decide), if_neg (by simp [inB]; omega), if_neg (by simp [inB]; omega)]
theorem fault_zero {a : List Dev} {first n : Int} (h : streamFaultS a first n = 0) : arrMay a = true ∧ 0 ≤ n ∧ n ≤ 1536 ∧ 0 ≤ first ∧ first + (n + 23) / 24 ≤ (dv a 0).sec.length := by
 cases hm : arrMay a with
 | false => rw [fault_state hm] at h; exact absurd h (by decide)
 | true =>
  by_cases h2 : 0 ≤ n ∧ n ≤ 1536
  ·by_cases h3 : first < 0 ∨ ((dv a 0).sec.length : Int) < first ∨ ((dv a 0).sec.length : Int) - first < (n + 23) / 24
   ·rw [fault_range hm h2 h3] at h; exact absurd h (by decide)
   ·exact ⟨rfl, h2.1, h2.2, by omega, by omega⟩
  ·rw [fault_size hm h2] at h; exact absurd h (by decide)
theorem sectors_quiet (n : Int) (w : World) (h0 : 0 ≤ n) (h1 : n ≤ 140737488355328) :
  Calls Tryz.prog 52 #[.int .i64 n] w fun e w' => e = .returned (.int .i64 ((n + 23) / 24)) ∧ w' = w := (sectors_any n w h0 h1).mono fun _ _ h => ⟨h.1, h.2.symm⟩
theorem streamIn_any (cs : List Value) (a : List Dev) (first n : Int) (w : World) (h : RArr w cs a) (hf : I64 first) (hn : I64 n) :
  Calls Tryz.prog 86 #[.agg cs.toArray, .int .i64 first, .int .i64 n] w fun e w' => e = .returned (.int .i64 (streamFaultS a first n)) ∧ Ext w w' := by
 obtain ⟨A, c, rfl⟩ := h.form
 go_enter Tryz.func86, Tryz.ntmps86
 go_wp2_with fail
 refine calls_abs (fun W => Ext w W ∧ Blk_ W w.heap.size 30 #[.slice A a.length c]) ⟨(Ext.refl _).alloc _, Blk_.new _ _ _⟩ ?_
 rintro W ⟨hx, hb⟩
 refine (arrCheck_any [.slice A a.length c] a W (h.up hx)).mono ?_
 rintro e w1 ⟨rfl, hx1⟩
 have hb1 := hb.ext hx1
 have f0 := hb1.cell 0
 simp at f0
 have hr1 := h.up (hx.trans hx1)
 have HX := Lib.hid (hx.trans hx1)
 clear h hb hx hx1
 cases hm : arrMay a with
 | false =>
  have HF := Lib.hid (fault_state (first := first) (n := n) hm)
  rw [arrCode_false hm]
  clear hm hr1
  go_wp2_with fail
  go_ret
  exact ⟨ret_int HF.out.symm, HX.out⟩
 | true =>
  obtain ⟨p1, p2, _⟩ := arr_parts hm
  rw [arrCode_true hm]
  obtain ⟨b, o, rfl, hl⟩ := hr1.look 0 (by omega)
  obtain ⟨A1, c1, A2, c2, q0, q1, hd⟩ := hl 0 (by omega)
  simp only [Nat.zero_mul, Nat.add_zero] at q0 q1
  have h3 : (0 : Int) < (a.length : Int) := by omega
  have hlen := (devMay_len p2).2.1
  by_cases h2 : 0 ≤ n ∧ n ≤ 1536
  ·have hcs : (decide (first < 0) = true ∧ streamFaultS a first n = 2) ∨ (decide (first < 0) = false ∧ decide (((dv a 0).sec.length : Int) < first) = true ∧ streamFaultS a first n = 2) ∨
     (decide (first < 0) = false ∧ decide (((dv a 0).sec.length : Int) < first) = false ∧ decide (((dv a 0).sec.length : Int) - first < (n + 23) / 24) = true ∧ streamFaultS a first n = 2) ∨
     (decide (first < 0) = false ∧ decide (((dv a 0).sec.length : Int) < first) = false ∧ decide (((dv a 0).sec.length : Int) - first < (n + 23) / 24) = false ∧ streamFaultS a first n = 0) := by
    simp only [decide_eq_true_eq, decide_eq_false_iff_not]
    by_cases k1 : first < 0
    ·exact .inl ⟨k1, fault_range hm h2 (.inl k1)⟩
    ·by_cases k2 : ((dv a 0).sec.length : Int) < first
     ·exact .inr (.inl ⟨k1, k2, fault_range hm h2 (.inr (.inl k2))⟩)
     ·by_cases k3 : ((dv a 0).sec.length : Int) - first < (n + 23) / 24
      ·exact .inr (.inr (.inl ⟨k1, k2, k3, fault_range hm h2 (.inr (.inr k3))⟩))
      ·exact .inr (.inr (.inr ⟨k1, k2, k3, fault_none hm h2 (by omega)⟩))
   obtain ⟨n0, n1⟩ := h2
   have u1 : decide (n < 0) = false := by simp; omega
   have u2 : decide ((1536 : Int) < n) = false := by simp; omega
   have HN := Lib.hid (And.intro n0 n1)
   have HL := Lib.hid hlen
   clear hm hl hr1 p1 p2 hb1 hf hn hlen n0 n1
   generalize hLe : (dv a 0).sec.length = L at *
   clear hLe
   have hL64 := HL.out
   rcases hcs with ⟨t1, hfin⟩ | ⟨t1, t2, hfin⟩ | ⟨t1, t2, t3, hfin⟩ | ⟨t1, t2, t3, hfin⟩
   ·have HF := Lib.hid hfin
    clear hfin
    go_wp2_with fail
    go_quiet (fail)
    go_wp2_with fail
    go_ret
    exact ⟨ret_int HF.out.symm, by first | exact HX.out | exact HX.out.drew | exact HX.out.drewN _⟩
   ·have HF := Lib.hid hfin
    clear hfin
    go_wp2_with fail
    go_quiet (fail)
    go_wp2_with fail
    go_ret
    exact ⟨ret_int HF.out.symm, by first | exact HX.out | exact HX.out.drew | exact HX.out.drewN _⟩
   ·have HF := Lib.hid hfin
    clear hfin
    have t1' := of_decide_eq_false t1
    have t2' := of_decide_eq_false t2
    have hf0 : 0 ≤ first := by omega
    have hf1 : first ≤ (L : Int) := by omega
    clear t1' t2'
    go_wp2_with fail
    go_quiet (first | (go_at_call 52; refine Calls.quiet_of_same (sectors_quiet n _ HN.out.1 (by have := HN.out.2; omega))))
    go_wp2_with fail
    go_ret
    exact ⟨ret_int HF.out.symm, by first | exact HX.out | exact HX.out.drew | exact HX.out.drewN _⟩
   ·have HF := Lib.hid hfin
    clear hfin
    have t1' := of_decide_eq_false t1
    have t2' := of_decide_eq_false t2
    have hf0 : 0 ≤ first := by omega
    have hf1 : first ≤ (L : Int) := by omega
    clear t1' t2'
    go_wp2_with fail
    go_quiet (first | (go_at_call 52; refine Calls.quiet_of_same (sectors_quiet n _ HN.out.1 (by have := HN.out.2; omega))))
    go_wp2_with fail
    go_ret
    exact ⟨ret_int HF.out.symm, by first | exact HX.out | exact HX.out.drew | exact HX.out.drewN _⟩
  ·have HF := Lib.hid (fault_size (first := first) hm h2)
   have hcs : decide (n < 0) = true ∨ (decide (n < 0) = false ∧ decide ((1536 : Int) < n) = true) := by
    simp only [decide_eq_true_eq, decide_eq_false_iff_not]; omega
   clear hm h2 hl hr1 p1 p2 hn hf hlen
   rcases hcs with t1 | ⟨t1, t2⟩
   ·go_wp2_with fail
    go_ret
    exact ⟨ret_int HF.out.symm, HX.out⟩
   ·go_wp2_with fail
    go_ret
    exact ⟨ret_int HF.out.symm, HX.out⟩
theorem sread_bad {a : List Dev} {first n : Int} (h : streamFaultS a first n ≠ 0) : streamReadS a first n = (.empty, streamFaultS a first n) := by unfold streamReadS; rw [if_pos h]
theorem sread_lost {a : List Dev} {first n : Int} {e : Int} (h : streamFaultS a first n = 0) (h2 : streamReadLoop a ((n + 23) / 24).toNat first .empty = (.empty, e)) (h3 : e ≠ 0) : streamReadS a first n = (.empty, e) := by
 unfold streamReadS; rw [if_neg (by simpa using h), h2, if_pos h3]
theorem sread_good {a : List Dev} {first n : Int} {s : ByteArray} (h : streamFaultS a first n = 0) (h2 : streamReadLoop a ((n + 23) / 24).toNat first .empty = (s, 0)) : streamReadS a first n = (s.extract 0 n.toNat, 0) := by
 unfold streamReadS; rw [if_neg (by simpa using h), h2, if_neg (by simp)]
theorem loop_lost {a : List Dev} {m : Nat} {k : Int} {s : ByteArray} (h : (arrReadS a k).2.2 ≠ 0) : streamReadLoop a (m + 1) k s = (.empty, (arrReadS a k).2.2) := by
 unfold streamReadLoop; rw [if_pos h]
theorem loop_next {a : List Dev} {m : Nat} {k : Int} {s : ByteArray} (h : (arrReadS a k).2.2 = 0) : streamReadLoop a (m + 1) k s = streamReadLoop a m (k + 1) (s ++ (arrReadS a k).1) := by
 rw [streamReadLoop, if_neg (by simpa using h)]
theorem streamRead_any (cs : List Value) (a : List Dev) (first n : Int) (w : World) (h : RArr w cs a) (hf : I64 first) (hn : I64 n) :
  Calls Tryz.prog 58 #[.agg cs.toArray, .int .i64 first, .int .i64 n] w fun e w' => e = .returned (.tuple #[.string (streamReadS a first n).1, .int .i64 (streamReadS a first n).2]) ∧ Ext w w' := by
 obtain ⟨A, c, rfl⟩ := h.form
 go_enter Tryz.func58, Tryz.ntmps58
 go_wp2_with fail
 refine calls_abs (fun W => Ext w W ∧ Blk_ W w.heap.size 30 #[.slice A a.length c]) ⟨(Ext.refl _).alloc _, Blk_.new _ _ _⟩ ?_
 rintro W ⟨hx, hb⟩
 refine (streamIn_any [.slice A a.length c] a first n W (h.up hx) hf hn).mono ?_
 rintro e w1 ⟨rfl, hx1⟩
 have hb1 := hb.ext hx1
 have hxw := hx.trans hx1
 have HH := Lib.hid h
 clear h hb hx hx1
 by_cases hs : streamFaultS a first n = 0
 ·obtain ⟨hm, n0, n1, f0, f1⟩ := fault_zero hs
  have hlen := (devMay_len (arr_parts hm).2.1).2.1
  have hf64 : first ≤ 64 := by omega
  obtain ⟨m, hmm⟩ := Int.eq_ofNat_of_zero_le (show 0 ≤ (n + 23) / 24 by omega)
  have hm64 : m ≤ 64 := by omega
  have hfm : first + (m : Int) ≤ 64 := by omega
  have hmt : ((n + 23) / 24).toNat = m := by rw [hmm]; rfl
  have HSZ := Lib.hid (show n ≤ 24 * (m : Int) by omega)
  have hgood := fun (s : ByteArray) (h : streamReadLoop a m first .empty = (s, 0)) => sread_good hs (by rw [hmt]; exact h)
  have hlost := fun (e : Int) (h : streamReadLoop a m first .empty = (.empty, e)) (h3 : e ≠ 0) => sread_lost hs (by rw [hmt]; exact h) h3
  have HG := Lib.hid hgood
  have HLO := Lib.hid hlost
  rw [hs]
  have HNN := Lib.hid (And.intro n0 n1)
  have HMM := Lib.hid hmm
  have HM64 := Lib.hid (And.intro hm64 hfm)
  clear hgood hlost hs hm hlen hmt f1 hmm hf
  go_wp2_with (first | (go_at_call 52; refine (sectors_any n _ HNN.out.1 (by have := HNN.out.2; omega)).mono ?_; rintro e w9 ⟨rfl, rfl⟩))
  go_loopw [9, 23] (fun s i wr => ∃ (k : Nat) (t : ByteArray), i = .int .i64 k ∧ s = .string t ∧ k ≤ m ∧ t.size = 24 * k ∧ Ext w wr ∧ Blk_ wr w.heap.size 30 #[.slice A a.length c] ∧ streamReadLoop a (m - k) (first + k) t = streamReadLoop a m first .empty) (fun _ i _ => m - (intOf i).toNat)
  case atStart => exact ⟨0, .empty, rfl, rfl, Nat.zero_le _, rfl, hxw, hb1, by simp⟩
  case round =>
   clear hxw hb1
   obtain ⟨k, t, rfl, rfl, hk, htz, hx, hb, heq⟩ := hrel
   have g0 := hb.cell 0
   simp at g0
   have HEQ := Lib.hid heq
   have HTZ := Lib.hid htz
   have hsm : (m : Int) ≤ 64 := by have := HM64.out.1; omega
   clear heq
   by_cases hlt : k < m
   ·have hk64 : (k : Int) < 64 := by omega
    have hkm : decide ((k : Int) < (n + 23) / 24) = true := by rw [HMM.out]; simp; omega
    go_wp2_with (first | (go_at_call 52; refine (sectors_any n _ HNN.out.1 (by have := HNN.out.2; omega)).mono ?_; rintro e w9 ⟨rfl, rfl⟩))
    refine (arrRead_any [.slice A a.length c] a (first + k) _ (HH.out.up hx) ⟨by omega, by omega⟩).mono ?_
    rintro e w2 ⟨rfl, hx2⟩
    have HX2 := Lib.hid (hx.trans hx2)
    have HB2 := Lib.hid (hb.ext hx2)
    clear hx hx2 hb g0
    have hsub : m - k = (m - (k + 1)) + 1 := by omega
    by_cases hc : (arrReadS a (first + k)).2.2 = 0
    ·have hsz := arrReadS_size hc
     have hnext : streamReadLoop a (m - (k + 1)) (first + ((k + 1 : Nat) : Int)) (t ++ (arrReadS a (first + k)).1) = streamReadLoop a m first .empty := by
      rw [← HEQ.out, hsub, loop_next hc]
      congr 1
      omega
     rw [hc]
     have HNX := Lib.hid hnext
     have hszb : ¬ (9223372036854775807 < t.size + (arrReadS a (first + k)).1.size) := by omega
     have HSS := Lib.hid hsz
     clear hc hnext hsz hsub htz
     generalize (arrReadS a (first + k)).1 = T at *
     go_wp2_with fail
     go_roundw
     case rel => exact ⟨k + 1, t ++ T, by go_num, rfl, by omega, by rw [ByteArray.size_append, HTZ.out, HSS.out]; omega, HX2.out, HB2.out, HNX.out⟩
     case measure => simp [intOf]; omega
    ·have hlo := HLO.out _ (by rw [← HEQ.out, hsub, loop_lost hc]) hc
     have HF := Lib.hid hlo
     have hc' : ((arrReadS a (first + k)).2.2 != 0) = true := by simpa using hc
     clear hc hlo hsub htz
     generalize (arrReadS a (first + k)).2.2 = tc at *
     go_wp2_with fail
     go_ret2
     rw [HF.out]
     exact ⟨rfl, HX2.out⟩
   ·obtain rfl : k = m := by omega
    have hkm : decide ((k : Int) < (n + 23) / 24) = false := by rw [HMM.out]; simp
    have hgo := HG.out t (by rw [← HEQ.out, Nat.sub_self]; rfl)
    have HF := Lib.hid hgo
    obtain ⟨n, rfl⟩ := Int.eq_ofNat_of_zero_le HNN.out.1
    have hn1 : n ≤ t.size := by have := HSZ.out; omega
    have hn2 : (n : Int) ≤ (t.size : Int) := by omega
    clear hgo htz g0 hn
    go_wp2_with (first | (go_at_call 52; refine (sectors_any n _ HNN.out.1 (by have := HNN.out.2; omega)).mono ?_; rintro e w9 ⟨rfl, rfl⟩))
    go_ret2
    rw [HF.out]
    exact ⟨rfl, hx⟩
 ·have HF := Lib.hid (sread_bad hs)
  have hs' : (streamFaultS a first n != 0) = true := by simpa using hs
  clear hs hb1
  generalize streamFaultS a first n = t at *
  go_wp2_with fail
  go_ret2
  rw [HF.out]
  exact ⟨rfl, hxw⟩
theorem bl_total : ∀ x y : List UInt8, (Op.bytesLess y x || y == x) = !(Op.bytesLess x y)
 | [], [] => rfl
 | [], _ :: _ => rfl
 | _ :: _, [] => rfl
 | a :: x, b :: y => by
  have ih := bl_total x y
  have hlt : ∀ c d : UInt8, (decide (c < d)) = decide (c.toNat < d.toNat) := fun c d => by simp [UInt8.lt_iff_toNat_lt]
  have heq : ∀ c d : UInt8, (c == d) = decide (c.toNat = d.toNat) := fun c d => by
   by_cases h : c = d
   ·subst h; simp
   ·have : c.toNat ≠ d.toNat := fun e => h (UInt8.toNat_inj.1 e)
    simp [h, this]
  simp only [Op.bytesLess, List.cons_beq_cons, hlt, heq]
  rcases Nat.lt_trichotomy a.toNat b.toNat with h | h | h
  ·have h1 : ¬ b.toNat < a.toNat := by omega
   have h2 : ¬ b.toNat = a.toNat := by omega
   simp [h, h1, h2]
  ·simp [h, ih]
  ·have h1 : ¬ a.toNat < b.toNat := by omega
   have h2 : ¬ a.toNat = b.toNat := by omega
   simp [h, h1, h2]
def secs (n : Int) : Int := (n + 23) / 24
def blockBad (p : Int) (b : Blk) : Bool := decide (b.first ≠ p) || !(inB b.bytes 0 1200) || decide (64 < p + secs b.bytes)
def blocksF (p : Int) : List Blk → Int
 | [] => 0
 | b :: l => if blockBad p b then 4 else blocksF (p + secs b.bytes) l
def entBad (nb : Nat) (x : Ent) : Bool := !(nameMay x.name) || !(inB x.block 0 ((nb : Int) - 1)) || !(inB x.at_ 0 600) || !(inB x.bytes 0 200)
def orderBad (p : Option ByteArray) (s : ByteArray) : Bool := match p with | none => false | some q => !(Op.bytesLess q.toList s.toList)
def entsF (nb : Nat) (p : Option ByteArray) : List Ent → Int
 | [] => 0
 | x :: l => if entBad nb x then 4 else if orderBad p x.name then 12 else entsF nb (some x.name) l
def catFault (c : Cat) : Int :=
 if 10 < c.blocks.length ∨ 10 < c.entries.length then 1 else if blocksF 8 c.blocks = 0 then entsF c.blocks.length none c.entries else 4
def nextAt (p : Int) : List Blk → Int
 | [] => p
 | b :: l => nextAt (p + secs b.bytes) l
def nextS (c : Cat) : Int × Int := if catFault c = 0 then (nextAt 8 c.blocks, 0) else (0, catFault c)
def noEnt : Ent := ⟨.empty, 0, 0, 0⟩
def findS (c : Cat) (name : ByteArray) : Ent × Int :=
 if catFault c = 0 then (match c.entries.find? (fun x => decide (lst x.name = lst name)) with | some x => (x, 0) | none => (noEnt, 6)) else (noEnt, catFault c)
def twoB (n : Int) : List UInt8 := [byte (n / 256), byte (n % 256)]
def entBytes (x : Ent) : List UInt8 := byte x.name.size :: (lst x.name ++ [byte x.block, byte (x.at_ / 256), byte (x.at_ % 256), byte x.bytes])
def catBytes (c : Cat) : List UInt8 := byte c.blocks.length :: (c.blocks.flatMap (fun b => twoB b.bytes) ++ byte c.entries.length :: c.entries.flatMap entBytes)
def encCatS (c : Cat) : ByteArray × Int := if catFault c = 0 then (bs (catBytes c), 0) else (.empty, catFault c)
def decBlocks : Nat → Int → List UInt8 → Option (List Blk × List UInt8)
 | 0, _, l => some ([], l)
 | n + 1, p, a :: b :: l => (decBlocks n (p + secs (256 * (a.toNat : Int) + b.toNat)) l).map fun x => (⟨p, 256 * (a.toNat : Int) + b.toNat⟩ :: x.1, x.2)
 | _ + 1, _, _ => none
def entAt (m : Nat) (l : List UInt8) : Ent := ⟨bs (l.take m), (l.getD m 0).toNat, 256 * ((l.getD (m + 1) 0).toNat : Int) + (l.getD (m + 2) 0).toNat, (l.getD (m + 3) 0).toNat⟩
def decEnts : Nat → List UInt8 → Option (List Ent × List UInt8)
 | 0, l => some ([], l)
 | n + 1, m :: l => if l.length < m.toNat + 4 then none else (decEnts n (l.drop (m.toNat + 4))).map fun x => (entAt m.toNat l :: x.1, x.2)
 | _ + 1, [] => none
def noCat : Cat := ⟨[], []⟩
def endCat (bl : List Blk) (es : List Ent) (r : List UInt8) : Cat × Int :=
 if r.all (· == 0) then (if catFault ⟨bl, es⟩ = 0 then (⟨bl, es⟩, 0) else (noCat, catFault ⟨bl, es⟩)) else (noCat, 4)
def decCatL (l : List UInt8) : Cat × Int :=
 match l with
 | [] => (noCat, 5)
 | n :: l => match decBlocks n.toNat 8 l with
  | none => (noCat, 5)
  | some (_, []) => (noCat, 5)
  | some (bl, k :: r) => match decEnts k.toNat r with
   | none => (noCat, 5)
   | some (es, r') => endCat bl es r'
def decCatS (s : ByteArray) : Cat × Int := decCatL (lst s)
def prevOf (l : List Ent) (k : Nat) : Option ByteArray := match k with | 0 => none | j + 1 => some (l.getD j noEnt).name
theorem drop_at {α : Type} (l : List α) (k : Nat) (h : k < l.length) : l.drop k = l[k] :: l.drop (k + 1) := List.drop_eq_getElem_cons h
theorem blocks_stop {p : Int} {b : Blk} {l : List Blk} (h : blockBad p b = true) : blocksF p (b :: l) = 4 := by unfold blocksF; rw [if_pos h]
theorem blocks_go {p : Int} {b : Blk} {l : List Blk} (h : blockBad p b = false) : blocksF p (b :: l) = blocksF (p + secs b.bytes) l := by rw [blocksF, if_neg (by simp [h])]
theorem ents_stop {nb : Nat} {p : Option ByteArray} {x : Ent} {l : List Ent} (h : entBad nb x = true) : entsF nb p (x :: l) = 4 := by unfold entsF; rw [if_pos h]
theorem ents_order {nb : Nat} {p : Option ByteArray} {x : Ent} {l : List Ent} (h : entBad nb x = false) (h2 : orderBad p x.name = true) : entsF nb p (x :: l) = 12 := by unfold entsF; rw [if_neg (by simp [h]), if_pos h2]
theorem ents_go {nb : Nat} {p : Option ByteArray} {x : Ent} {l : List Ent} (h : entBad nb x = false) (h2 : orderBad p x.name = false) : entsF nb p (x :: l) = entsF nb (some x.name) l := by rw [entsF, if_neg (by simp [h]), if_neg (by simp [h2])]
theorem prev_next (l : List Ent) (k : Nat) (h : k < l.length) : prevOf l (k + 1) = some l[k].name := by
 unfold prevOf; simp only; rw [List.getD_eq_getElem?_getD, List.getElem?_eq_getElem h]; rfl
theorem fault_long {c : Cat} (h : 10 < c.blocks.length ∨ 10 < c.entries.length) : catFault c = 1 := by unfold catFault; rw [if_pos h]
theorem fault_blocks {c : Cat} (h : ¬ (10 < c.blocks.length ∨ 10 < c.entries.length)) (h2 : blocksF 8 c.blocks ≠ 0) : catFault c = 4 := by unfold catFault; rw [if_neg h, if_neg h2]
theorem fault_ents {c : Cat} (h : ¬ (10 < c.blocks.length ∨ 10 < c.entries.length)) (h2 : blocksF 8 c.blocks = 0) : catFault c = entsF c.blocks.length none c.entries := by unfold catFault; rw [if_neg h, if_pos h2]
theorem blocksF_range : ∀ (l : List Blk) (p : Int), 0 ≤ p → blocksF p l = 0 → ∀ b ∈ l, 0 ≤ b.bytes ∧ b.bytes ≤ 1200
 | [], _, _, _, b, hb => by cases hb
 | x :: l, p, h0, h, b, hb => by
  unfold blocksF at h
  split at h
  ·exact absurd h (by decide)
  ·rename_i hx
   unfold blockBad at hx
   simp only [Bool.not_eq_true, Bool.or_eq_false_iff, Bool.not_eq_false', decide_eq_false_iff_not] at hx
   obtain ⟨⟨h1, h2⟩, h3⟩ := hx
   obtain ⟨h4, h5⟩ := inB_true h2
   rcases List.mem_cons.1 hb with rfl | hb
   ·exact ⟨h4, h5⟩
   ·exact blocksF_range l _ (by unfold secs; omega) h b hb
theorem catFault_ok {c : Cat} (h : catFault c = 0) : c.blocks.length ≤ 10 ∧ c.entries.length ≤ 10 ∧ blocksF 8 c.blocks = 0 ∧ entsF c.blocks.length none c.entries = 0 := by
 unfold catFault at h
 split at h
 ·exact absurd h (by decide)
 ·split at h
  ·rename_i h1 h2; exact ⟨by omega, by omega, h2, h⟩
  ·exact absurd h (by decide)
theorem entsF_ok (nb : Nat) : ∀ (l : List Ent) (p : Option ByteArray), entsF nb p l = 0 → ∀ x ∈ l, entBad nb x = false
 | [], _, _, x, hx => by cases hx
 | y :: l, p, h, x, hx => by
  unfold entsF at h
  split at h
  ·exact absurd h (by decide)
  ·rename_i h1
   split at h
   ·exact absurd h (by decide)
   ·rcases List.mem_cons.1 hx with rfl | hx
    ·simpa using h1
    ·exact entsF_ok nb l _ h x hx
theorem entBad_false {nb : Nat} {x : Ent} (h : entBad nb x = false) : nameMay x.name = true ∧ 0 ≤ x.block ∧ x.block < nb ∧ 0 ≤ x.at_ ∧ x.at_ ≤ 600 ∧ 0 ≤ x.bytes ∧ x.bytes ≤ 200 := by
 unfold entBad at h
 simp only [Bool.or_eq_false_iff, Bool.not_eq_false'] at h
 obtain ⟨⟨⟨h1, h2⟩, h3⟩, h4⟩ := h
 have a := inB_true h2
 have b := inB_true h3
 have c := inB_true h4
 exact ⟨h1, a.1, by omega, b.1, b.2, c.1, c.2⟩
theorem nameMay_size {s : ByteArray} (h : nameMay s = true) : 1 ≤ s.size ∧ s.size ≤ 8 := by
 unfold nameMay at h
 simp only [Bool.and_eq_true, decide_eq_true_eq] at h
 exact ⟨h.1.1, h.1.2⟩
theorem byte_nat (n : Int) (h0 : 0 ≤ n) (h1 : n < 256) : (byte n).toNat = n.toNat := by
 have := byte_toNat n h0 h1; omega
theorem two_back (n : Int) (h0 : 0 ≤ n) (h1 : n ≤ 65535) : 256 * ((byte (n / 256)).toNat : Int) + ((byte (n % 256)).toNat : Int) = n := by
 rw [byte_toNat _ (by omega) (by omega), byte_toNat _ (by omega) (by omega)]; omega
theorem blocks_back : ∀ (l : List Blk) (p : Int) (r : List UInt8), 0 ≤ p → blocksF p l = 0 → decBlocks l.length p (l.flatMap (fun b => twoB b.bytes) ++ r) = some (l, r)
 | [], _, _, _, _ => rfl
 | b :: l, p, r, h0, h => by
  have hr := blocksF_range (b :: l) p h0 h b (List.mem_cons_self ..)
  unfold blocksF at h
  split at h
  ·exact absurd h (by decide)
  ·rename_i hb
   unfold blockBad at hb
   simp only [Bool.not_eq_true, Bool.or_eq_false_iff, decide_eq_false_iff_not, Decidable.not_not] at hb
   have ih := blocks_back l (p + secs b.bytes) r (by unfold secs; omega) h
   rw [List.flatMap_cons, List.append_assoc]
   show decBlocks (l.length + 1) p (byte (b.bytes / 256) :: byte (b.bytes % 256) :: (l.flatMap (fun b => twoB b.bytes) ++ r)) = _
   rw [decBlocks, two_back _ (by omega) (by omega), ih]
   obtain ⟨f, n⟩ := b
   simp only at hb
   rw [hb.1.1]
   rfl
theorem ent_back (x : Ent) (nb : Nat) (hn : nb ≤ 10) (h : entBad nb x = false) (r : List UInt8) :
  entAt x.name.size ((lst x.name ++ [byte x.block, byte (x.at_ / 256), byte (x.at_ % 256), byte x.bytes]) ++ r) = x := by
 obtain ⟨h1, h2, h3, h4, h5, h6, h7⟩ := entBad_false h
 have hl : (lst x.name).length = x.name.size := length_lst _
 unfold entAt
 rw [List.append_assoc, List.take_left' hl, bs_lst]
 have g : ∀ j, j < 4 → (lst x.name ++ ([byte x.block, byte (x.at_ / 256), byte (x.at_ % 256), byte x.bytes] ++ r)).getD (x.name.size + j) 0 = [byte x.block, byte (x.at_ / 256), byte (x.at_ % 256), byte x.bytes].getD j 0 := by
  intro j hj
  rw [List.getD_eq_getElem?_getD, List.getElem?_append_right (by omega), hl, Nat.add_sub_cancel_left, List.getElem?_append_left (by simpa using hj), ← List.getD_eq_getElem?_getD]
 have g0 := g 0 (by omega)
 have g1 := g 1 (by omega)
 have g2 := g 2 (by omega)
 have g3 := g 3 (by omega)
 rw [Nat.add_zero] at g0
 rw [g0, g1, g2, g3]
 show (⟨x.name, ((byte x.block).toNat : Int), 256 * ((byte (x.at_ / 256)).toNat : Int) + ((byte (x.at_ % 256)).toNat : Int), ((byte x.bytes).toNat : Int)⟩ : Ent) = x
 rw [two_back _ (by omega) (by omega), byte_toNat _ (by omega) (by omega), byte_toNat _ (by omega) (by omega)]
theorem ents_back (nb : Nat) (hn : nb ≤ 10) : ∀ (l : List Ent) (r : List UInt8), (∀ x ∈ l, entBad nb x = false) → decEnts l.length (l.flatMap entBytes ++ r) = some (l, r)
 | [], _, _ => rfl
 | x :: l, r, h => by
  have hx := h x (List.mem_cons_self ..)
  have ih := ents_back nb hn l r (fun y hy => h y (List.mem_cons_of_mem _ hy))
  obtain ⟨h1, _⟩ := entBad_false hx
  have hs := nameMay_size h1
  rw [List.flatMap_cons, List.append_assoc]
  show decEnts (l.length + 1) (byte x.name.size :: ((lst x.name ++ [byte x.block, byte (x.at_ / 256), byte (x.at_ % 256), byte x.bytes]) ++ (l.flatMap entBytes ++ r))) = _
  rw [decEnts, byte_nat _ (by omega) (by omega)]
  have hl : (lst x.name ++ [byte x.block, byte (x.at_ / 256), byte (x.at_ % 256), byte x.bytes]).length = x.name.size + 4 := by rw [List.length_append, length_lst]; rfl
  rw [show ((x.name.size : Int)).toNat = x.name.size from rfl, if_neg (by rw [List.length_append, hl]; omega), ent_back x nb hn hx, List.drop_left' hl, ih]
  rfl
theorem cat_back (c : Cat) (h : catFault c = 0) (r : List UInt8) : decCatL (catBytes c ++ r) = if r.all (· == 0) then (c, 0) else (noCat, 4) := by
 obtain ⟨h1, h2, h3, h4⟩ := catFault_ok h
 have he := entsF_ok _ _ _ h4
 unfold catBytes
 rw [List.cons_append, List.append_assoc, List.cons_append]
 unfold decCatL
 simp only [byte_nat (c.blocks.length : Int) (by omega) (by omega), Int.toNat_natCast, blocks_back c.blocks 8 _ (by omega) h3, byte_nat (c.entries.length : Int) (by omega) (by omega), ents_back _ h1 c.entries r he]
 unfold endCat
 split
 ·first | rfl | rw [if_pos h]
 ·rfl
theorem catCheck_any (cs : List Value) (d : Cat) (w : World) (h : RCat w cs d) :
  Calls Tryz.prog 84 #[.agg cs.toArray] w fun e w' => e = .returned (.int .i64 (catFault d)) ∧ Ext w w' := by
 obtain ⟨v1, v2, rfl, h1, h2'⟩ := h
 have hnames := h2'.mem encEnt_ok w
 have hbnums := h1.mem encBlk_ok w
 obtain ⟨A1, c1, rfl, l1, hc1, p1⟩ := h1.rowE encBlk_ok
 obtain ⟨A2, c2, rfl, l2, hc2, s1⟩ := h2'.rowE encEnt_ok
 clear h1 h2' l1 l2 hc1 hc2
 have HNM := Lib.hid hnames
 have HP := Lib.hid p1
 have HS := Lib.hid s1
 clear hnames p1 s1 hbnums
 go_enter Tryz.func84, Tryz.ntmps84
 by_cases hlong : 10 < d.blocks.length ∨ 10 < d.entries.length
 ·have HF := Lib.hid (fault_long hlong)
  have hcs : decide ((10 : Int) < (d.blocks.length : Int)) = true ∨ (decide ((10 : Int) < (d.blocks.length : Int)) = false ∧ decide ((10 : Int) < (d.entries.length : Int)) = true) := by
   simp only [decide_eq_true_eq, decide_eq_false_iff_not]; omega
  clear hlong
  rcases hcs with t1 | ⟨t1, t2⟩
  ·go_wp2_with fail
   go_ret
   exact ⟨ret_int HF.out.symm, (Ext.refl _).alloc _⟩
  ·go_wp2_with fail
   go_ret
   exact ⟨ret_int HF.out.symm, (Ext.refl _).alloc _⟩
 ·have t1 : decide ((10 : Int) < (d.blocks.length : Int)) = false := by simp; omega
  have t2 : decide ((10 : Int) < (d.entries.length : Int)) = false := by simp; omega
  have HL := Lib.hid hlong
  have HN := Lib.hid (And.intro (show d.blocks.length ≤ 10 by omega) (show d.entries.length ≤ 10 by omega))
  clear hlong
  go_wp2_with fail
  refine wp_abs (fun W => Ext w W ∧ Blk_ W w.heap.size 88 #[.slice A1 d.blocks.length c1, .slice A2 d.entries.length c2]) ⟨(Ext.refl _).alloc _, Blk_.new _ _ _⟩ ?_
  rintro W ⟨hx, hb⟩
  go_loopw [3, 21] (fun pv i wr => ∃ (k : Nat) (p : Int), i = .int .i64 k ∧ pv = .int .i64 p ∧ k ≤ d.blocks.length ∧ 8 ≤ p ∧ p ≤ 64 ∧ Ext w wr ∧ Blk_ wr w.heap.size 88 #[.slice A1 d.blocks.length c1, .slice A2 d.entries.length c2] ∧ blocksF p (d.blocks.drop k) = blocksF 8 d.blocks) (fun _ i _ => d.blocks.length - (intOf i).toNat)
  case atStart => exact ⟨0, 8, rfl, rfl, Nat.zero_le _, by omega, by omega, hx, hb, rfl⟩
  case round =>
   clear hx hb t1 t2
   obtain ⟨k, p, rfl, rfl, hk, hp8, hp64, hx, hb, heq⟩ := hrel
   have f0 := hb.cell 0
   have f1 := hb.cell 1
   simp at f0 f1
   have HEQ := Lib.hid heq
   clear heq
   by_cases hlt : k < d.blocks.length
   ·obtain ⟨b1, o1, rfl, g1⟩ := HP.out k hlt
    have q0 := hx.cell (g1 k hlt 0 _ rfl)
    have q1 := hx.cell (g1 k hlt 1 _ rfl)
    simp only [Nat.add_zero] at q0
    have HG := Lib.hid (show blocksF p (d.blocks[k] :: d.blocks.drop (k + 1)) = blocksF 8 d.blocks by rw [← drop_at d.blocks k hlt]; exact HEQ.out)
    obtain ⟨B, hB⟩ : ∃ B, B = d.blocks[k] := ⟨_, rfl⟩
    rw [← hB] at q0 q1 HG
    clear g1 hB HEQ
    have hki : (k : Int) < (d.blocks.length : Int) := by omega
    have hk10 : (k : Int) < 10 := by have := HN.out.1; omega
    have hcs : ((B.first != p) = true ∧ blockBad p B = true) ∨ ((B.first != p) = false ∧ decide (B.bytes < 0) = true ∧ blockBad p B = true) ∨ ((B.first != p) = false ∧ decide (B.bytes < 0) = false ∧ decide ((1200 : Int) < B.bytes) = true ∧ blockBad p B = true) ∨
      ((B.first != p) = false ∧ decide (B.bytes < 0) = false ∧ decide ((1200 : Int) < B.bytes) = false ∧ 0 ≤ B.bytes ∧ B.bytes ≤ 1200 ∧ decide (64 < p + (B.bytes + 23) / 24) = true ∧ blockBad p B = true) ∨
      ((B.first != p) = false ∧ decide (B.bytes < 0) = false ∧ decide ((1200 : Int) < B.bytes) = false ∧ 0 ≤ B.bytes ∧ B.bytes ≤ 1200 ∧ decide (64 < p + (B.bytes + 23) / 24) = false ∧ blockBad p B = false) := by
     unfold blockBad secs inB
     by_cases k1 : B.first = p
     ·by_cases k2 : B.bytes < 0
      ·simp [k1, k2] <;> omega
      ·by_cases k3 : 1200 < B.bytes
       ·simp [k1, k2, k3] <;> omega
       ·by_cases k4 : 64 < p + (B.bytes + 23) / 24
        ·simp [k1, k2, k3, k4] <;> omega
        ·simp [k1, k2, k3, k4] <;> omega
     ·simp [k1]
    rcases hcs with ⟨t1, hbad⟩ | ⟨t1, t2, hbad⟩ | ⟨t1, t2, t3, hbad⟩ | ⟨t1, t2, t3, u1, u2, t4, hbad⟩ | ⟨t1, t2, t3, u1, u2, t4, hbad⟩
    ·have HF := Lib.hid (fault_blocks HL.out (by rw [← HG.out, blocks_stop hbad]; decide))
     clear hbad
     go_wp2_with fail
     go_ret
     exact ⟨ret_int HF.out.symm, hx.alloc _⟩
    ·have HF := Lib.hid (fault_blocks HL.out (by rw [← HG.out, blocks_stop hbad]; decide))
     clear hbad
     go_wp2_with fail
     go_ret
     exact ⟨ret_int HF.out.symm, hx.alloc _⟩
    ·have HF := Lib.hid (fault_blocks HL.out (by rw [← HG.out, blocks_stop hbad]; decide))
     clear hbad
     go_wp2_with fail
     go_ret
     exact ⟨ret_int HF.out.symm, hx.alloc _⟩
    ·have HF := Lib.hid (fault_blocks HL.out (by rw [← HG.out, blocks_stop hbad]; decide))
     clear hbad
     go_wp2_with (first | (go_at_call 52; refine (sectors_any _ _ u1 (by omega)).mono ?_; rintro e w9 ⟨rfl, rfl⟩))
     go_ret
     exact ⟨ret_int HF.out.symm, hx.alloc _⟩
    ·have HST := Lib.hid (show blocksF (p + (B.bytes + 23) / 24) (d.blocks.drop (k + 1)) = blocksF 8 d.blocks by rw [← HG.out, blocks_go hbad]; rfl)
     have hp64' : p + (B.bytes + 23) / 24 ≤ 64 := by simpa using t4
     clear hbad HG
     go_wp2_with (first | (go_at_call 52; refine (sectors_any _ _ u1 (by omega)).mono ?_; rintro e w9 ⟨rfl, rfl⟩))
     go_roundw
     case rel => exact ⟨k + 1, p + (B.bytes + 23) / 24, by go_num, by go_num, by omega, by omega, hp64', hx.alloc _, hb.alloc _, HST.out⟩
     case measure => simp [intOf]; omega
   ·have hz : blocksF 8 d.blocks = 0 := by rw [← HEQ.out, List.drop_of_length_le (by omega)]; rfl
    have HFE := Lib.hid (fault_ents HL.out hz)
    clear hz HEQ
    have hk10 : (k : Int) ≤ 10 := by have := HN.out.1; omega
    go_wp2_with fail
    go_loopw [50] (fun i wr => ∃ k : Nat, i = .int .i64 k ∧ k ≤ d.entries.length ∧ Ext w wr ∧ Blk_ wr w.heap.size 88 #[.slice A1 d.blocks.length c1, .slice A2 d.entries.length c2] ∧ entsF d.blocks.length (prevOf d.entries k) (d.entries.drop k) = entsF d.blocks.length none d.entries) (fun i _ => d.entries.length - (intOf i).toNat)
    case atStart => exact ⟨0, rfl, Nat.zero_le _, hx, hb, rfl⟩
    case round =>
     clear hx hb f0 f1 hlt hk hk10 hp8 hp64
     obtain ⟨k, rfl, hk, hx, hb, heq⟩ := hrel
     have f0 := hb.cell 0
     have f1 := hb.cell 1
     simp at f0 f1
     have HEQ := Lib.hid heq
     clear heq
     have hnb10 : (d.blocks.length : Int) ≤ 10 := by have := HN.out.1; omega
     by_cases hlt : k < d.entries.length
     ·obtain ⟨b2, o2, rfl, g1⟩ := HS.out k hlt
      have q0 := hx.cell (g1 k hlt 0 _ rfl)
      have q1 := hx.cell (g1 k hlt 1 _ rfl)
      have q2 := hx.cell (g1 k hlt 2 _ rfl)
      have q3 := hx.cell (g1 k hlt 3 _ rfl)
      simp only [Nat.add_zero] at q0
      have HG := Lib.hid (show entsF d.blocks.length (prevOf d.entries k) (d.entries[k] :: d.entries.drop (k + 1)) = entsF d.blocks.length none d.entries by rw [← drop_at d.entries k hlt]; exact HEQ.out)
      have HNX := Lib.hid (prev_next d.entries k hlt)
      have hsz := (HNM.out d.entries[k] (List.getElem_mem hlt)).2.1
      obtain ⟨X, hX⟩ : ∃ X, X = d.entries[k] := ⟨_, rfl⟩
      rw [← hX] at q0 q1 q2 q3 HG hsz HNX
      have HSZ := Lib.hid hsz
      have HCELL := Lib.hid g1
      clear g1 hX HEQ hsz
      have hki : (k : Int) < (d.entries.length : Int) := by omega
      have hk10 : (k : Int) < 10 := by have := HN.out.2; omega
      go_wp2_with fail
      refine calls_abs (fun W => Ext wr W ∧ Blk_ W wr.heap.size 113 #[.string X.name, .int .i64 X.block, .int .i64 X.at_, .int .i64 X.bytes]) ⟨(Ext.refl _).alloc _, Blk_.new _ _ _⟩ ?_
      rintro W1 ⟨hx1, hbx⟩
      refine (name_any X.name W1 HSZ.out).mono ?_
      rintro e w2 ⟨rfl, hx2⟩
      have hx12 := hx1.trans hx2
      have e0 := (hbx.ext hx2).cell 0
      have e1 := (hbx.ext hx2).cell 1
      have e2 := (hbx.ext hx2).cell 2
      have e3 := (hbx.ext hx2).cell 3
      simp at e0 e1 e2 e3
      have f0' := hx12.cell f0
      have f1' := hx12.cell f1
      have HX2 := Lib.hid (hx.trans hx12)
      have HB2 := Lib.hid (hb.ext hx12)
      clear f0 f1 q0 q1 q2 q3 hbx hx1 hx2 hx12 hb
      have hcs : (nameMay X.name = false ∧ entBad d.blocks.length X = true) ∨ (nameMay X.name = true ∧ decide (X.block < 0) = true ∧ entBad d.blocks.length X = true) ∨ (nameMay X.name = true ∧ decide (X.block < 0) = false ∧ decide ((d.blocks.length : Int) ≤ X.block) = true ∧ entBad d.blocks.length X = true) ∨
        (nameMay X.name = true ∧ decide (X.block < 0) = false ∧ decide ((d.blocks.length : Int) ≤ X.block) = false ∧ decide (X.at_ < 0) = true ∧ entBad d.blocks.length X = true) ∨
        (nameMay X.name = true ∧ decide (X.block < 0) = false ∧ decide ((d.blocks.length : Int) ≤ X.block) = false ∧ decide (X.at_ < 0) = false ∧ decide ((600 : Int) < X.at_) = true ∧ entBad d.blocks.length X = true) ∨
        (nameMay X.name = true ∧ decide (X.block < 0) = false ∧ decide ((d.blocks.length : Int) ≤ X.block) = false ∧ decide (X.at_ < 0) = false ∧ decide ((600 : Int) < X.at_) = false ∧ decide (X.bytes < 0) = true ∧ entBad d.blocks.length X = true) ∨
        (nameMay X.name = true ∧ decide (X.block < 0) = false ∧ decide ((d.blocks.length : Int) ≤ X.block) = false ∧ decide (X.at_ < 0) = false ∧ decide ((600 : Int) < X.at_) = false ∧ decide (X.bytes < 0) = false ∧ decide ((200 : Int) < X.bytes) = true ∧ entBad d.blocks.length X = true) ∨
        (nameMay X.name = true ∧ decide (X.block < 0) = false ∧ decide ((d.blocks.length : Int) ≤ X.block) = false ∧ decide (X.at_ < 0) = false ∧ decide ((600 : Int) < X.at_) = false ∧ decide (X.bytes < 0) = false ∧ decide ((200 : Int) < X.bytes) = false ∧ entBad d.blocks.length X = false) := by
       unfold entBad inB
       cases k0 : nameMay X.name with
       | false => simp
       | true =>
        by_cases k1 : X.block < 0
        ·simp [k1] <;> omega
        ·by_cases k2 : (d.blocks.length : Int) ≤ X.block
         ·simp [k1, k2] <;> omega
         ·by_cases k3 : X.at_ < 0
          ·simp [k1, k2, k3] <;> omega
          ·by_cases k4 : (600 : Int) < X.at_
           ·simp [k1, k2, k3, k4] <;> omega
           ·by_cases k5 : X.bytes < 0
            ·simp [k1, k2, k3, k4, k5] <;> omega
            ·by_cases k6 : (200 : Int) < X.bytes
             ·simp [k1, k2, k3, k4, k5, k6] <;> omega
             ·simp [k1, k2, k3, k4, k5, k6] <;> omega
      rcases hcs with ⟨t0, hbad⟩ | ⟨t0, t1, hbad⟩ | ⟨t0, t1, t2, hbad⟩ | ⟨t0, t1, t2, t3, hbad⟩ | ⟨t0, t1, t2, t3, t4, hbad⟩ | ⟨t0, t1, t2, t3, t4, t5, hbad⟩ | ⟨t0, t1, t2, t3, t4, t5, t6, hbad⟩ | ⟨t0, t1, t2, t3, t4, t5, t6, hbad⟩
      ·have HF := Lib.hid (show catFault d = 4 by rw [HFE.out, ← HG.out, ents_stop hbad])
       rw [t0]
       clear hbad t0
       go_wp2_with fail
       go_ret
       exact ⟨ret_int HF.out.symm, HX2.out⟩
      ·have HF := Lib.hid (show catFault d = 4 by rw [HFE.out, ← HG.out, ents_stop hbad])
       rw [t0]
       clear hbad t0
       go_wp2_with fail
       go_ret
       exact ⟨ret_int HF.out.symm, HX2.out⟩
      ·have HF := Lib.hid (show catFault d = 4 by rw [HFE.out, ← HG.out, ents_stop hbad])
       rw [t0]
       clear hbad t0
       go_wp2_with fail
       go_ret
       exact ⟨ret_int HF.out.symm, HX2.out⟩
      ·have HF := Lib.hid (show catFault d = 4 by rw [HFE.out, ← HG.out, ents_stop hbad])
       rw [t0]
       clear hbad t0
       go_wp2_with fail
       go_ret
       exact ⟨ret_int HF.out.symm, HX2.out⟩
      ·have HF := Lib.hid (show catFault d = 4 by rw [HFE.out, ← HG.out, ents_stop hbad])
       rw [t0]
       clear hbad t0
       go_wp2_with fail
       go_ret
       exact ⟨ret_int HF.out.symm, HX2.out⟩
      ·have HF := Lib.hid (show catFault d = 4 by rw [HFE.out, ← HG.out, ents_stop hbad])
       rw [t0]
       clear hbad t0
       go_wp2_with fail
       go_ret
       exact ⟨ret_int HF.out.symm, HX2.out⟩
      ·have HF := Lib.hid (show catFault d = 4 by rw [HFE.out, ← HG.out, ents_stop hbad])
       rw [t0]
       clear hbad t0
       go_wp2_with fail
       go_ret
       exact ⟨ret_int HF.out.symm, HX2.out⟩
      ·rw [t0]
       cases k with
       | zero =>
        have HGO := Lib.hid (show entsF d.blocks.length (prevOf d.entries (0 + 1)) (d.entries.drop (0 + 1)) = entsF d.blocks.length none d.entries by rw [← HG.out, ents_go hbad rfl, HNX.out])
        clear hbad t0 HG HNX
        go_wp2_with fail
        go_quiet (fail)
        go_wp2_with fail
        go_roundw
        case rel => exact ⟨0 + 1, rfl, by omega, HX2.out.drewN _, HB2.out, HGO.out⟩
        case measure => simp [intOf]; omega
       | succ j =>
        have hj : j < d.entries.length := by omega
        have qp := HX2.out.cell (HCELL.out j hj 0 _ rfl)
        simp only [Nat.add_zero] at qp
        have hpv : prevOf d.entries (j + 1) = some d.entries[j].name := prev_next d.entries j hj
        obtain ⟨Y, hY⟩ : ∃ Y, Y = d.entries[j].name := ⟨_, rfl⟩
        rw [← hY] at qp hpv
        have HG2 := Lib.hid (show entsF d.blocks.length (some Y) (X :: d.entries.drop (j + 1 + 1)) = entsF d.blocks.length none d.entries by rw [← hpv]; exact HG.out)
        have hji : (j : Int) + 1 < (d.entries.length : Int) := by omega
        have hji2 : (j : Int) < (d.entries.length : Int) := by omega
        have hj10 : (j : Int) < 10 := by omega
        clear hY hpv HG hki hk10
        cases hor : Op.bytesLess Y.toList X.name.toList with
        | false =>
         have HF := Lib.hid (show catFault d = 12 by rw [HFE.out, ← HG2.out, ents_order hbad (by show (!Op.bytesLess Y.toList X.name.toList) = true; rw [hor]; rfl)])

         clear hbad t0 HG2 HNX
         go_wp2_with fail
         go_quiet (fail)
         go_wp2_with fail
         go_ret
         exact ⟨ret_int HF.out.symm, HX2.out.drewN _⟩
        | true =>
         have HGO := Lib.hid (show entsF d.blocks.length (prevOf d.entries (j + 1 + 1)) (d.entries.drop (j + 1 + 1)) = entsF d.blocks.length none d.entries by rw [← HG2.out, ents_go hbad (by show (!Op.bytesLess Y.toList X.name.toList) = false; rw [hor]; rfl), HNX.out])

         clear hbad t0 HG2 HNX
         go_wp2_with fail
         go_quiet (fail)
         go_wp2_with fail
         go_roundw
         case rel => exact ⟨j + 1 + 1, by go_num, by omega, HX2.out.drewN _, HB2.out, HGO.out⟩
         case measure => simp [intOf]; omega
     ·have HF := Lib.hid (show catFault d = 0 by rw [HFE.out, ← HEQ.out, List.drop_of_length_le (by omega)]; rfl)
      clear HEQ HFE
      go_wp2_with fail
      go_ret
      exact ⟨ret_int HF.out.symm, hx⟩
theorem next_good {c : Cat} (h : catFault c = 0) : nextS c = (nextAt 8 c.blocks, 0) := by unfold nextS; rw [if_pos h]
theorem next_bad {c : Cat} (h : ¬ catFault c = 0) : nextS c = (0, catFault c) := by unfold nextS; rw [if_neg h]
theorem block_ok {p : Int} {b : Blk} {l : List Blk} (h : blocksF p (b :: l) = 0) : 0 ≤ b.bytes ∧ b.bytes ≤ 1200 ∧ p + secs b.bytes ≤ 64 ∧ blocksF (p + secs b.bytes) l = 0 := by
 cases hb : blockBad p b with
 | true => rw [blocks_stop hb] at h; exact absurd h (by decide)
 | false =>
  rw [blocks_go hb] at h
  unfold blockBad at hb
  simp only [Bool.or_eq_false_iff, Bool.not_eq_false', decide_eq_false_iff_not] at hb
  have := inB_true hb.1.2
  exact ⟨this.1, this.2, by omega, h⟩
theorem catNext_any (cs : List Value) (d : Cat) (w : World) (h : RCat w cs d) :
  Calls Tryz.prog 51 #[.agg cs.toArray] w fun e w' => e = .returned (.tuple #[.int .i64 (nextS d).1, .int .i64 (nextS d).2]) ∧ Ext w w' := by
 have h' := h
 obtain ⟨v1, v2, rfl, h1, h2'⟩ := h'
 obtain ⟨A1, c1, rfl, l1, hc1, p1⟩ := h1.rowE encBlk_ok
 have HP := Lib.hid p1
 have HH := Lib.hid h
 clear h1 h2' l1 hc1 p1 h
 go_enter Tryz.func51, Tryz.ntmps51
 go_wp2_with fail
 refine calls_abs (fun W => Ext w W ∧ Blk_ W w.heap.size 88 #[.slice A1 d.blocks.length c1, v2]) ⟨(Ext.refl _).alloc _, Blk_.new _ _ _⟩ ?_
 rintro W ⟨hx, hb⟩
 refine (catCheck_any [.slice A1 d.blocks.length c1, v2] d W (HH.out.up hx)).mono ?_
 rintro e w1 ⟨rfl, hx1⟩
 have hb1 := hb.ext hx1
 have hxw := hx.trans hx1
 have f0 := hb1.cell 0
 simp at f0
 clear hb hx hx1
 by_cases hc : catFault d = 0
 ·have HF := Lib.hid (next_good hc)
  have hok := catFault_ok hc
  have HN := Lib.hid hok.1
  have HB0 := Lib.hid hok.2.2.1
  rw [hc]
  clear hc hok
  go_wp2_with fail
  go_loopw [5, 16] (fun pv i wr => ∃ (k : Nat) (p : Int), i = .int .i64 k ∧ pv = .int .i64 p ∧ k ≤ d.blocks.length ∧ 8 ≤ p ∧ p ≤ 64 ∧ Ext w wr ∧ Blk_ wr w.heap.size 88 #[.slice A1 d.blocks.length c1, v2] ∧ blocksF p (d.blocks.drop k) = 0 ∧ nextAt p (d.blocks.drop k) = nextAt 8 d.blocks) (fun _ i _ => d.blocks.length - (intOf i).toNat)
  case atStart => exact ⟨0, 8, rfl, rfl, Nat.zero_le _, by omega, by omega, hxw, hb1, HB0.out, rfl⟩
  case round =>
   clear hxw hb1 f0
   obtain ⟨k, p, rfl, rfl, hk, hp8, hp64, hx, hb, hz, heq⟩ := hrel
   have f0 := hb.cell 0
   simp at f0
   have HEQ := Lib.hid heq
   have HZ := Lib.hid hz
   clear heq hz
   by_cases hlt : k < d.blocks.length
   ·obtain ⟨b1, o1, rfl, g1⟩ := HP.out k hlt
    have q0 := hx.cell (g1 k hlt 0 _ rfl)
    have q1 := hx.cell (g1 k hlt 1 _ rfl)
    simp only [Nat.add_zero] at q0
    have hz := HZ.out
    have heq := HEQ.out
    rw [drop_at d.blocks k hlt] at hz heq
    obtain ⟨B, hB⟩ : ∃ B, B = d.blocks[k] := ⟨_, rfl⟩
    rw [← hB] at q0 q1 hz heq
    obtain ⟨u1, u2, u3, u4⟩ := block_ok hz
    have u3' : p + (B.bytes + 23) / 24 ≤ 64 := u3
    have HST := Lib.hid (And.intro u4 (show nextAt (p + secs B.bytes) (d.blocks.drop (k + 1)) = nextAt 8 d.blocks from heq))
    clear g1 hB HEQ HZ hz heq u3 u4
    have hki : (k : Int) < (d.blocks.length : Int) := by omega
    have hk10 : (k : Int) < 10 := by have := HN.out; omega
    go_wp2_with (first | (go_at_call 52; refine (sectors_any _ _ u1 (by omega)).mono ?_; rintro e w9 ⟨rfl, rfl⟩))
    go_roundw
    case rel => exact ⟨k + 1, p + (B.bytes + 23) / 24, by go_num, by go_num, by omega, by omega, u3', by first | exact hx | exact hx.alloc _, by first | exact hb | exact hb.alloc _, HST.out.1, HST.out.2⟩
    case measure => simp [intOf]; omega
   ·have HFE := Lib.hid (show p = nextAt 8 d.blocks by rw [← HEQ.out, List.drop_of_length_le (by omega)]; rfl)
    clear HEQ HZ
    have hk10 : (k : Int) ≤ 10 := by have := HN.out; omega
    go_wp2_with fail
    go_ret2
    rw [HF.out, ← HFE.out]
    exact ⟨rfl, hx⟩
 ·have HF := Lib.hid (next_bad hc)
  have hc' : (catFault d != 0) = true := by simpa using hc
  clear hc hb1
  generalize catFault d = t at *
  go_wp2_with fail
  go_ret2
  rw [HF.out]
  exact ⟨rfl, hxw⟩
theorem padS_full {s : ByteArray} (h : s.size = 24) : padS s = s := by
 unfold padS; rw [h]; simp
structure Good (a : List Dev) (m : Nat) : Prop where
 len : a.length = 3
 m0 : devMay (dv a 0) = true
 m1 : devMay (dv a 1) = true
 m2 : devMay (dv a 2) = true
 l0 : (dv a 0).sec.length = m
 l1 : (dv a 1).sec.length = m
 l2 : (dv a 2).sec.length = m / 2
theorem Good.of {a : List Dev} (h : arrMay a = true) : Good a (dv a 0).sec.length := by
 obtain ⟨h1, h2, h3, h4, _, _, _, h5, h6⟩ := arr_parts h
 exact ⟨h1, h2, h3, h4, rfl, h5, h6⟩
theorem Good.touch {a : List Dev} {m : Nat} (h : Good a m) {n : Int} (h0 : 0 ≤ n) (h1 : n < m) : touchCode (dv a 0) n = 0 ∧ touchCode (dv a 1) n = 0 :=
 ⟨touch_iff.2 ⟨h.m0, h0, by rw [h.l0]; exact h1⟩, touch_iff.2 ⟨h.m1, h0, by rw [h.l1]; exact h1⟩⟩
theorem bothS_dv {a : List Dev} (h : a.length = 3) (n : Int) (s : ByteArray) : dv (bothS a n s) 0 = (writeS (dv a 0) n n s).1 ∧ dv (bothS a n s) 1 = (writeS (dv a 1) n n s).1 ∧ dv (bothS a n s) 2 = dv a 2 ∧ (bothS a n s).length = 3 := by
 unfold bothS
 refine ⟨?_, ?_, ?_, by simp [h]⟩
 ·rw [dv_set_ne _ (by decide), dv_set_self (by omega)]
 ·rw [dv_set_self (by simp; omega)]
 ·rw [dv_set_ne _ (by decide), dv_set_ne _ (by decide)]
theorem Good.both {a : List Dev} {m : Nat} (h : Good a m) {n : Int} (h0 : 0 ≤ n) (h1 : n < m) {s : ByteArray} (hm : m ≤ 64) (hs : s.size ≤ 24) : Good (bothS a n s) m := by
 obtain ⟨t0, t1⟩ := h.touch h0 h1
 obtain ⟨e0, e1, e2, e3⟩ := bothS_dv h.len n s
 have w0 := write_may (no := n) t0 (by omega) (by omega) hs
 have w1 := write_may (no := n) t1 (by omega) (by omega) hs
 exact ⟨e3, by rw [e0]; exact w0.1, by rw [e1]; exact w1.1, by rw [e2]; exact h.m2, by rw [e0, w0.2, h.l0], by rw [e1, w1.2, h.l1], by rw [e2, h.l2]⟩
theorem Ext.by_ {w w' : World} (h : Ext w w') (row : Option Nat) : w.grownBy w' row := ⟨h.below.os, h.below.tape, h.below.output, h.below.size, fun k hk _ => Below.block h.below k hk⟩
theorem setRow_by (w : World) (g i : Nat) (u : Value) : w.grownBy (w.setCell ⟨g, i, none⟩ u) (some g) :=
 ⟨rfl, rfl, rfl, by simp, fun k hk hne => Below.heap_setCell w ⟨g, i, none⟩ u k (fun e => hne (by rw [e]))⟩
theorem OArr.at_ {E : TypeId} {w : World} {base : Nat} {A : Option Addr} {n c : Nat} {a : List Dev} (h : OArr E w base (.slice A n c) a) (hl : a.length = 3) :
  ∃ g, A = some ⟨g, 0, none⟩ ∧ base ≤ g ∧ g < w.heap.size ∧ (∀ k, w.frozen? ⟨g, k, none⟩ = false) ∧ ∀ k, k < 3 → ∃ A1 c1 A2 c2,
   w.cell? ⟨g, k * 2, none⟩ = some (.slice A1 (dv a k).sec.length c1) ∧ w.cell? ⟨g, k * 2 + 1, none⟩ = some (.slice A2 (dv a k).lost.length c2) ∧ RDev w [.slice A1 (dv a k).sec.length c1, .slice A2 (dv a k).lost.length c2] (dv a k) := by
 have hn : n = a.length := by
  obtain ⟨vs, _, ho, _⟩ := h
  have := ho.2
  rcases this with ⟨hv, h0⟩ | ⟨g, cap, cur, hv, _⟩
  ·omega
  ·injection hv
 subst hn
 have hr := h.rarr (by omega)
 obtain ⟨b, o, hA, hlook⟩ := hr.look 0 (by omega)
 obtain ⟨vs, hvl, ho, _⟩ := h
 have ho' := ho
 rcases ho.2 with ⟨hv, h0⟩ | ⟨g, cap, cur, hv, hb, hg, _⟩
 ·omega
 ·injection hv with a1 a2 a3
  subst a1
  have hbo : b = g ∧ o = 0 := by injection hA with hA; injection hA with x1 x2; exact ⟨x1.symm, x2.symm⟩
  obtain ⟨rfl, rfl⟩ := hbo
  refine ⟨b, rfl, hb, (ho'.lt b rfl).2, fun k => ho'.frozenAt k, fun k hk => ?_⟩
  obtain ⟨A1, c1, A2, c2, q0, q1, hd⟩ := hlook k (by omega)
  rw [Nat.zero_add] at q0 q1
  exact ⟨A1, c1, A2, c2, q0, q1, hd⟩
theorem OArr.atg {E : TypeId} {w : World} {base g n c : Nat} {a : List Dev} (h : OArr E w base (.slice (some ⟨g, 0, none⟩) n c) a) (hl : a.length = 3) :
  base ≤ g ∧ g < w.heap.size ∧ (∀ k, w.frozen? ⟨g, k, none⟩ = false) ∧ ∀ k, k < 3 → ∃ A1 c1 A2 c2,
   w.cell? ⟨g, k * 2, none⟩ = some (.slice A1 (dv a k).sec.length c1) ∧ w.cell? ⟨g, k * 2 + 1, none⟩ = some (.slice A2 (dv a k).lost.length c2) ∧ RDev w [.slice A1 (dv a k).sec.length c1, .slice A2 (dv a k).lost.length c2] (dv a k) := by
 obtain ⟨g', hg, r⟩ := h.at_ hl
 obtain rfl : g = g' := by injection hg with hg; injection hg
 exact r
end Go.Proofs.YtgjijcgkmofaaaaGreatDoor
