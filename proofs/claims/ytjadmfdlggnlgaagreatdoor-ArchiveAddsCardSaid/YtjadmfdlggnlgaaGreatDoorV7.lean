/-
  stream.Read and the document's StreamRead: bytes over sectors, one behind the other; the law StreamReads. Conditions: the argument reads as an array.
-/
import Derived.Test.YtjadmfdlggnlgaaGreatDoorV6
namespace Go.Proofs.YtjadmfdlggnlgaaGreatDoor
set_option linter.unusedSimpArgs false
set_option linter.unusedVariables false
set_option maxRecDepth 100000
set_option maxHeartbeats 8000000
open Go.RowKit
theorem fault_state {a : List Dev} {first n : Int} (h : arrMay a = false) : streamFaultS a first n = 9 := by unfold streamFaultS; rw [h]; rfl
theorem fault_size {a : List Dev} {first n : Int} (h : arrMay a = true) (h2 : ¬ (0 ≤ n ∧ n ≤ 1536)) : streamFaultS a first n = 1 := by
 unfold streamFaultS; rw [h, if_neg (by decide), if_pos (by simp [inB]; omega)]
theorem fault_range {a : List Dev} {first n : Int} (h : arrMay a = true) (h2 : 0 ≤ n ∧ n ≤ 1536) (h3 : first < 0 ∨ ((dv a 0).sec.length : Int) < first ∨ ((dv a 0).sec.length : Int) - first < (n + 23) / 24) : streamFaultS a first n = 2 := by
 unfold streamFaultS; rw [h, if_neg (by decide), if_neg (by simp [inB]; omega), if_pos (by simp [inB]; omega)]
theorem fault_none {a : List Dev} {first n : Int} (h : arrMay a = true) (h2 : 0 ≤ n ∧ n ≤ 1536) (h3 : ¬ (first < 0 ∨ ((dv a 0).sec.length : Int) < first ∨ ((dv a 0).sec.length : Int) - first < (n + 23) / 24)) : streamFaultS a first n = 0 := by
 unfold streamFaultS; rw [h, if_neg (by decide), if_neg (by simp [inB]; omega), if_neg (by simp [inB]; omega)]
theorem fault_zero {a : List Dev} {first n : Int} (h : streamFaultS a first n = 0) : arrMay a = true ∧ 0 ≤ n ∧ n ≤ 1536 ∧ 0 ≤ first ∧ first + (n + 23) / 24 ≤ (dv a 0).sec.length := by
 cases hm : arrMay a with
 | false => rw [fault_state hm] at h; exact absurd h (by decide)
 | true =>
  by_cases h2 : 0 ≤ n ∧ n ≤ 1536
  ·by_cases h3 : first < 0 ∨ ((dv a 0).sec.length : Int) < first ∨ ((dv a 0).sec.length : Int) - first < (n + 23) / 24
   ·rw [fault_range hm h2 h3] at h; exact absurd h (by decide)
   ·exact ⟨rfl, h2.1, h2.2, by omega, by omega⟩
  ·rw [fault_size hm h2] at h; exact absurd h (by decide)
theorem sectors_quiet (n : Int) (w : World) (h0 : 0 ≤ n) (h1 : n ≤ 140737488355328) :
  Calls Tryz.prog 16 #[.int .i64 n] w fun e w' => e = .returned (.int .i64 ((n + 23) / 24)) ∧ w' = w := (sectors_any n w h0 h1).mono fun _ _ h => ⟨h.1, h.2.symm⟩
theorem streamIn_any (cs : List Value) (a : List Dev) (first n : Int) (w : World) (h : RArr w cs a) (hf : I64 first) (hn : I64 n) :
  Calls Tryz.prog 46 #[.agg cs.toArray, .int .i64 first, .int .i64 n] w fun e w' => e = .returned (.int .i64 (streamFaultS a first n)) ∧ Ext w w' := by
 obtain ⟨A, c, rfl⟩ := h.form
 go_enter Tryz.func46, Tryz.ntmps46
 go_wp2_with fail
 refine calls_abs (fun W => Ext w W ∧ Blk_ W w.heap.size 24 #[.slice A a.length c]) ⟨(Ext.refl _).alloc _, Blk_.new _ _ _⟩ ?_
 rintro W ⟨hx, hb⟩
 refine (arrCheck_any [.slice A a.length c] a W (h.up hx)).mono ?_
 rintro e w1 ⟨rfl, hx1⟩
 have hb1 := hb.ext hx1
 have f0 := hb1.cell 0
 simp at f0
 have hr1 := h.up (hx.trans hx1)
 have HX := Lib.hid (hx.trans hx1)
 clear h hb hx hx1
 cases hm : arrMay a with
 | false =>
  have HF := Lib.hid (fault_state (first := first) (n := n) hm)
  rw [arrCode_false hm]
  clear hm hr1
  go_wp2_with fail
  go_ret
  exact ⟨ret_int HF.out.symm, HX.out⟩
 | true =>
  obtain ⟨p1, p2, _⟩ := arr_parts hm
  rw [arrCode_true hm]
  obtain ⟨b, o, rfl, hl⟩ := hr1.look 0 (by omega)
  obtain ⟨A1, c1, A2, c2, q0, q1, hd⟩ := hl 0 (by omega)
  simp only [Nat.zero_mul, Nat.add_zero] at q0 q1
  have h3 : (0 : Int) < (a.length : Int) := by omega
  have hlen := (devMay_len p2).2.1
  by_cases h2 : 0 ≤ n ∧ n ≤ 1536
  ·have hcs : (decide (first < 0) = true ∧ streamFaultS a first n = 2) ∨ (decide (first < 0) = false ∧ decide (((dv a 0).sec.length : Int) < first) = true ∧ streamFaultS a first n = 2) ∨
     (decide (first < 0) = false ∧ decide (((dv a 0).sec.length : Int) < first) = false ∧ decide (((dv a 0).sec.length : Int) - first < (n + 23) / 24) = true ∧ streamFaultS a first n = 2) ∨
     (decide (first < 0) = false ∧ decide (((dv a 0).sec.length : Int) < first) = false ∧ decide (((dv a 0).sec.length : Int) - first < (n + 23) / 24) = false ∧ streamFaultS a first n = 0) := by
    simp only [decide_eq_true_eq, decide_eq_false_iff_not]
    by_cases k1 : first < 0
    ·exact .inl ⟨k1, fault_range hm h2 (.inl k1)⟩
    ·by_cases k2 : ((dv a 0).sec.length : Int) < first
     ·exact .inr (.inl ⟨k1, k2, fault_range hm h2 (.inr (.inl k2))⟩)
     ·by_cases k3 : ((dv a 0).sec.length : Int) - first < (n + 23) / 24
      ·exact .inr (.inr (.inl ⟨k1, k2, k3, fault_range hm h2 (.inr (.inr k3))⟩))
      ·exact .inr (.inr (.inr ⟨k1, k2, k3, fault_none hm h2 (by omega)⟩))
   obtain ⟨n0, n1⟩ := h2
   have u1 : decide (n < 0) = false := by simp; omega
   have u2 : decide ((1536 : Int) < n) = false := by simp; omega
   have HN := Lib.hid (And.intro n0 n1)
   have HL := Lib.hid hlen
   clear hm hl hr1 p1 p2 hb1 hf hn hlen n0 n1
   generalize hLe : (dv a 0).sec.length = L at *
   clear hLe
   have hL64 := HL.out
   rcases hcs with ⟨t1, hfin⟩ | ⟨t1, t2, hfin⟩ | ⟨t1, t2, t3, hfin⟩ | ⟨t1, t2, t3, hfin⟩
   ·have HF := Lib.hid hfin
    clear hfin
    go_wp2_with fail
    go_quiet (fail)
    go_wp2_with fail
    go_ret
    exact ⟨ret_int HF.out.symm, by first | exact HX.out | exact HX.out.drew | exact HX.out.drewN _⟩
   ·have HF := Lib.hid hfin
    clear hfin
    go_wp2_with fail
    go_quiet (fail)
    go_wp2_with fail
    go_ret
    exact ⟨ret_int HF.out.symm, by first | exact HX.out | exact HX.out.drew | exact HX.out.drewN _⟩
   ·have HF := Lib.hid hfin
    clear hfin
    have t1' := of_decide_eq_false t1
    have t2' := of_decide_eq_false t2
    have hf0 : 0 ≤ first := by omega
    have hf1 : first ≤ (L : Int) := by omega
    clear t1' t2'
    go_wp2_with fail
    go_quiet (first | (go_at_call 16; refine Calls.quiet_of_same (sectors_quiet n _ HN.out.1 (by have := HN.out.2; omega))))
    go_wp2_with fail
    go_ret
    exact ⟨ret_int HF.out.symm, by first | exact HX.out | exact HX.out.drew | exact HX.out.drewN _⟩
   ·have HF := Lib.hid hfin
    clear hfin
    have t1' := of_decide_eq_false t1
    have t2' := of_decide_eq_false t2
    have hf0 : 0 ≤ first := by omega
    have hf1 : first ≤ (L : Int) := by omega
    clear t1' t2'
    go_wp2_with fail
    go_quiet (first | (go_at_call 16; refine Calls.quiet_of_same (sectors_quiet n _ HN.out.1 (by have := HN.out.2; omega))))
    go_wp2_with fail
    go_ret
    exact ⟨ret_int HF.out.symm, by first | exact HX.out | exact HX.out.drew | exact HX.out.drewN _⟩
  ·have HF := Lib.hid (fault_size (first := first) hm h2)
   have hcs : decide (n < 0) = true ∨ (decide (n < 0) = false ∧ decide ((1536 : Int) < n) = true) := by
    simp only [decide_eq_true_eq, decide_eq_false_iff_not]; omega
   clear hm h2 hl hr1 p1 p2 hn hf hlen
   rcases hcs with t1 | ⟨t1, t2⟩
   ·go_wp2_with fail
    go_ret
    exact ⟨ret_int HF.out.symm, HX.out⟩
   ·go_wp2_with fail
    go_ret
    exact ⟨ret_int HF.out.symm, HX.out⟩
theorem refFault_any (cs : List Value) (a : List Dev) (first n : Int) (w : World) (h : RArr w cs a) (hf : I64 first) (hn : I64 n) :
  Calls Tryz.prog 60 #[.agg cs.toArray, .int .i64 first, .int .i64 n] w fun e w' => e = .returned (.int .i64 (streamFaultS a first n)) ∧ Ext w w' := by
 obtain ⟨A, c, rfl⟩ := h.form
 go_enter Tryz.func60, Tryz.ntmps60
 go_wp2_with fail
 refine calls_abs (fun W => Ext w W ∧ Blk_ W w.heap.size 24 #[.slice A a.length c]) ⟨(Ext.refl _).alloc _, Blk_.new _ _ _⟩ ?_
 rintro W ⟨hx, hb⟩
 refine (arrMay_any [.slice A a.length c] a W (h.up hx)).mono ?_
 rintro e w1 ⟨rfl, hx1⟩
 have hb1 := hb.ext hx1
 have f0 := hb1.cell 0
 simp at f0
 have hr1 := h.up (hx.trans hx1)
 have HX := Lib.hid (hx.trans hx1)
 clear h hb hx hx1
 cases hm : arrMay a with
 | false =>
  have HF := Lib.hid (fault_state (first := first) (n := n) hm)
  clear hm hr1
  go_wp2_with fail
  go_ret
  exact ⟨ret_int HF.out.symm, HX.out⟩
 | true =>
  obtain ⟨p1, p2, _⟩ := arr_parts hm
  obtain ⟨b, o, rfl, hl⟩ := hr1.look 0 (by omega)
  obtain ⟨A1, c1, A2, c2, q0, q1, hd⟩ := hl 0 (by omega)
  simp only [Nat.zero_mul, Nat.add_zero] at q0 q1
  have h3 : (0 : Int) < (a.length : Int) := by omega
  have hlen := (devMay_len p2).2.1
  cases h2 : inB n 0 1536 with
  | true =>
   have h2' := inB_true h2
   have hcs : (inB first 0 ((dv a 0).sec.length : Int) = false ∧ streamFaultS a first n = 2) ∨ (inB first 0 ((dv a 0).sec.length : Int) = true ∧ decide (((dv a 0).sec.length : Int) < first + (n + 23) / 24) = true ∧ streamFaultS a first n = 2) ∨
     (inB first 0 ((dv a 0).sec.length : Int) = true ∧ decide (((dv a 0).sec.length : Int) < first + (n + 23) / 24) = false ∧ streamFaultS a first n = 0) := by
    simp only [decide_eq_true_eq, decide_eq_false_iff_not]
    cases k1 : inB first 0 ((dv a 0).sec.length : Int) with
    | false =>
     have k1' := inB_false k1
     exact .inl ⟨rfl, fault_range hm h2' (by omega)⟩
    | true =>
     have k1' := inB_true k1
     by_cases k3 : ((dv a 0).sec.length : Int) < first + (n + 23) / 24
     ·exact .inr (.inl ⟨rfl, k3, fault_range hm h2' (by omega)⟩)
     ·exact .inr (.inr ⟨rfl, k3, fault_none hm h2' (by omega)⟩)
   obtain ⟨n0, n1⟩ := h2'
   have HN := Lib.hid (And.intro n0 n1)
   have HL := Lib.hid hlen
   clear hm hl hr1 p1 p2 hb1 hf hn hlen
   generalize hLe : (dv a 0).sec.length = L at *
   clear hLe
   have hL64 : (L : Int) ≤ 64 := by have := HL.out; omega
   rcases hcs with ⟨t1, hfin⟩ | ⟨t1, t2, hfin⟩ | ⟨t1, t2, hfin⟩
   ·have HF := Lib.hid hfin
    clear hfin
    go_wp2_with (first | (go_at_call 55; refine (in_any _ _ _ _).mono ?_; rintro e w9 ⟨rfl, rfl⟩; rw [h2]) | (go_at_call 55; refine (in_any _ _ _ _).mono ?_; rintro e w9 ⟨rfl, rfl⟩; rw [t1]) | (go_at_call 26; refine (sectorsOf_any n _ HN.out.1 (by have := HN.out.2; omega)).mono ?_; rintro e w9 ⟨rfl, rfl⟩))
    go_ret
    exact ⟨ret_int HF.out.symm, HX.out⟩
   ·have HF := Lib.hid hfin
    clear hfin
    have hf01 := inB_true t1
    obtain ⟨hf0, hf1⟩ := hf01
    have hsb1 : (n + 23) / 24 ≤ 64 := by omega
    have hsb0 : 0 ≤ (n + 23) / 24 := by omega
    go_wp2_with (first | (go_at_call 55; refine (in_any _ _ _ _).mono ?_; rintro e w9 ⟨rfl, rfl⟩; rw [h2]) | (go_at_call 55; refine (in_any _ _ _ _).mono ?_; rintro e w9 ⟨rfl, rfl⟩; rw [t1]) | (go_at_call 26; refine (sectorsOf_any n _ HN.out.1 (by have := HN.out.2; omega)).mono ?_; rintro e w9 ⟨rfl, rfl⟩))
    go_ret
    exact ⟨ret_int HF.out.symm, HX.out⟩
   ·have HF := Lib.hid hfin
    clear hfin
    have hf01 := inB_true t1
    obtain ⟨hf0, hf1⟩ := hf01
    have hsb1 : (n + 23) / 24 ≤ 64 := by omega
    have hsb0 : 0 ≤ (n + 23) / 24 := by omega
    go_wp2_with (first | (go_at_call 55; refine (in_any _ _ _ _).mono ?_; rintro e w9 ⟨rfl, rfl⟩; rw [h2]) | (go_at_call 55; refine (in_any _ _ _ _).mono ?_; rintro e w9 ⟨rfl, rfl⟩; rw [t1]) | (go_at_call 26; refine (sectorsOf_any n _ HN.out.1 (by have := HN.out.2; omega)).mono ?_; rintro e w9 ⟨rfl, rfl⟩))
    go_ret
    exact ⟨ret_int HF.out.symm, HX.out⟩
  | false =>
   have h2' := inB_false h2
   have HF := Lib.hid (fault_size (first := first) hm (by omega : ¬ (0 ≤ n ∧ n ≤ 1536)))
   clear hm hl hr1 p1 p2 hn hf hlen h2'
   go_wp2_with (go_at_call 55; refine (in_any _ _ _ _).mono ?_; rintro e w9 ⟨rfl, rfl⟩; rw [h2])
   go_ret
   exact ⟨ret_int HF.out.symm, HX.out⟩
theorem sread_bad {a : List Dev} {first n : Int} (h : streamFaultS a first n ≠ 0) : streamReadS a first n = (.empty, streamFaultS a first n) := by unfold streamReadS; rw [if_pos h]
theorem sread_lost {a : List Dev} {first n : Int} {e : Int} (h : streamFaultS a first n = 0) (h2 : streamReadLoop a ((n + 23) / 24).toNat first .empty = (.empty, e)) (h3 : e ≠ 0) : streamReadS a first n = (.empty, e) := by
 unfold streamReadS; rw [if_neg (by simpa using h), h2, if_pos h3]
theorem sread_good {a : List Dev} {first n : Int} {s : ByteArray} (h : streamFaultS a first n = 0) (h2 : streamReadLoop a ((n + 23) / 24).toNat first .empty = (s, 0)) : streamReadS a first n = (s.extract 0 n.toNat, 0) := by
 unfold streamReadS; rw [if_neg (by simpa using h), h2, if_neg (by simp)]
theorem loop_lost {a : List Dev} {m : Nat} {k : Int} {s : ByteArray} (h : (arrReadS a k).2.2 ≠ 0) : streamReadLoop a (m + 1) k s = (.empty, (arrReadS a k).2.2) := by
 unfold streamReadLoop; rw [if_pos h]
theorem loop_next {a : List Dev} {m : Nat} {k : Int} {s : ByteArray} (h : (arrReadS a k).2.2 = 0) : streamReadLoop a (m + 1) k s = streamReadLoop a m (k + 1) (s ++ (arrReadS a k).1) := by
 rw [streamReadLoop, if_neg (by simpa using h)]
theorem streamRead_any (cs : List Value) (a : List Dev) (first n : Int) (w : World) (h : RArr w cs a) (hf : I64 first) (hn : I64 n) :
  Calls Tryz.prog 31 #[.agg cs.toArray, .int .i64 first, .int .i64 n] w fun e w' => e = .returned (.tuple #[.string (streamReadS a first n).1, .int .i64 (streamReadS a first n).2]) ∧ Ext w w' := by
 obtain ⟨A, c, rfl⟩ := h.form
 go_enter Tryz.func31, Tryz.ntmps31
 go_wp2_with fail
 refine calls_abs (fun W => Ext w W ∧ Blk_ W w.heap.size 24 #[.slice A a.length c]) ⟨(Ext.refl _).alloc _, Blk_.new _ _ _⟩ ?_
 rintro W ⟨hx, hb⟩
 refine (streamIn_any [.slice A a.length c] a first n W (h.up hx) hf hn).mono ?_
 rintro e w1 ⟨rfl, hx1⟩
 have hb1 := hb.ext hx1
 have hxw := hx.trans hx1
 have HH := Lib.hid h
 clear h hb hx hx1
 by_cases hs : streamFaultS a first n = 0
 ·obtain ⟨hm, n0, n1, f0, f1⟩ := fault_zero hs
  have hlen := (devMay_len (arr_parts hm).2.1).2.1
  have hf64 : first ≤ 64 := by omega
  obtain ⟨m, hmm⟩ := Int.eq_ofNat_of_zero_le (show 0 ≤ (n + 23) / 24 by omega)
  have hm64 : m ≤ 64 := by omega
  have hfm : first + (m : Int) ≤ 64 := by omega
  have hmt : ((n + 23) / 24).toNat = m := by rw [hmm]; rfl
  have HSZ := Lib.hid (show n ≤ 24 * (m : Int) by omega)
  have hgood := fun (s : ByteArray) (h : streamReadLoop a m first .empty = (s, 0)) => sread_good hs (by rw [hmt]; exact h)
  have hlost := fun (e : Int) (h : streamReadLoop a m first .empty = (.empty, e)) (h3 : e ≠ 0) => sread_lost hs (by rw [hmt]; exact h) h3
  have HG := Lib.hid hgood
  have HLO := Lib.hid hlost
  rw [hs]
  have HNN := Lib.hid (And.intro n0 n1)
  have HMM := Lib.hid hmm
  have HM64 := Lib.hid (And.intro hm64 hfm)
  clear hgood hlost hs hm hlen hmt f1 hmm hf
  go_wp2_with (first | (go_at_call 16; refine (sectors_any n _ HNN.out.1 (by have := HNN.out.2; omega)).mono ?_; rintro e w9 ⟨rfl, rfl⟩))
  go_loopw [9, 23] (fun s i wr => ∃ (k : Nat) (t : ByteArray), i = .int .i64 k ∧ s = .string t ∧ k ≤ m ∧ t.size = 24 * k ∧ Ext w wr ∧ Blk_ wr w.heap.size 24 #[.slice A a.length c] ∧ streamReadLoop a (m - k) (first + k) t = streamReadLoop a m first .empty) (fun _ i _ => m - (intOf i).toNat)
  case atStart => exact ⟨0, .empty, rfl, rfl, Nat.zero_le _, rfl, hxw, hb1, by simp⟩
  case round =>
   clear hxw hb1
   obtain ⟨k, t, rfl, rfl, hk, htz, hx, hb, heq⟩ := hrel
   have g0 := hb.cell 0
   simp at g0
   have HEQ := Lib.hid heq
   have HTZ := Lib.hid htz
   have hsm : (m : Int) ≤ 64 := by have := HM64.out.1; omega
   clear heq
   by_cases hlt : k < m
   ·have hk64 : (k : Int) < 64 := by omega
    have hkm : decide ((k : Int) < (n + 23) / 24) = true := by rw [HMM.out]; simp; omega
    go_wp2_with (first | (go_at_call 16; refine (sectors_any n _ HNN.out.1 (by have := HNN.out.2; omega)).mono ?_; rintro e w9 ⟨rfl, rfl⟩))
    refine (arrRead_any [.slice A a.length c] a (first + k) _ (HH.out.up hx) ⟨by omega, by omega⟩).mono ?_
    rintro e w2 ⟨rfl, hx2⟩
    have HX2 := Lib.hid (hx.trans hx2)
    have HB2 := Lib.hid (hb.ext hx2)
    clear hx hx2 hb g0
    have hsub : m - k = (m - (k + 1)) + 1 := by omega
    by_cases hc : (arrReadS a (first + k)).2.2 = 0
    ·have hsz := arrReadS_size hc
     have hnext : streamReadLoop a (m - (k + 1)) (first + ((k + 1 : Nat) : Int)) (t ++ (arrReadS a (first + k)).1) = streamReadLoop a m first .empty := by
      rw [← HEQ.out, hsub, loop_next hc]
      congr 1
      omega
     rw [hc]
     have HNX := Lib.hid hnext
     have hszb : ¬ (9223372036854775807 < t.size + (arrReadS a (first + k)).1.size) := by omega
     have HSS := Lib.hid hsz
     clear hc hnext hsz hsub htz
     generalize (arrReadS a (first + k)).1 = T at *
     go_wp2_with fail
     go_roundw
     case rel => exact ⟨k + 1, t ++ T, by go_num, rfl, by omega, by rw [ByteArray.size_append, HTZ.out, HSS.out]; omega, HX2.out, HB2.out, HNX.out⟩
     case measure => simp [intOf]; omega
    ·have hlo := HLO.out _ (by rw [← HEQ.out, hsub, loop_lost hc]) hc
     have HF := Lib.hid hlo
     have hc' : ((arrReadS a (first + k)).2.2 != 0) = true := by simpa using hc
     clear hc hlo hsub htz
     generalize (arrReadS a (first + k)).2.2 = tc at *
     go_wp2_with fail
     go_ret2
     rw [HF.out]
     exact ⟨rfl, HX2.out⟩
   ·obtain rfl : k = m := by omega
    have hkm : decide ((k : Int) < (n + 23) / 24) = false := by rw [HMM.out]; simp
    have hgo := HG.out t (by rw [← HEQ.out, Nat.sub_self]; rfl)
    have HF := Lib.hid hgo
    obtain ⟨n, rfl⟩ := Int.eq_ofNat_of_zero_le HNN.out.1
    have hn1 : n ≤ t.size := by have := HSZ.out; omega
    have hn2 : (n : Int) ≤ (t.size : Int) := by omega
    clear hgo htz g0 hn
    go_wp2_with (first | (go_at_call 16; refine (sectors_any n _ HNN.out.1 (by have := HNN.out.2; omega)).mono ?_; rintro e w9 ⟨rfl, rfl⟩))
    go_ret2
    rw [HF.out]
    exact ⟨rfl, hx⟩
 ·have HF := Lib.hid (sread_bad hs)
  have hs' : (streamFaultS a first n != 0) = true := by simpa using hs
  clear hs hb1
  generalize streamFaultS a first n = t at *
  go_wp2_with fail
  go_ret2
  rw [HF.out]
  exact ⟨rfl, hxw⟩
theorem refStreamRead_any (cs : List Value) (a : List Dev) (first n : Int) (w : World) (h : RArr w cs a) (hf : I64 first) (hn : I64 n) :
  Calls Tryz.prog 53 #[.agg cs.toArray, .int .i64 first, .int .i64 n] w fun e w' => e = .returned (.tuple #[.string (streamReadS a first n).1, .int .i64 (streamReadS a first n).2]) ∧ Ext w w' := by
 obtain ⟨A, c, rfl⟩ := h.form
 go_enter Tryz.func53, Tryz.ntmps53
 go_wp2_with fail
 refine calls_abs (fun W => Ext w W ∧ Blk_ W w.heap.size 24 #[.slice A a.length c]) ⟨(Ext.refl _).alloc _, Blk_.new _ _ _⟩ ?_
 rintro W ⟨hx, hb⟩
 refine (refFault_any [.slice A a.length c] a first n W (h.up hx) hf hn).mono ?_
 rintro e w1 ⟨rfl, hx1⟩
 have hb1 := hb.ext hx1
 have hxw := hx.trans hx1
 have HH := Lib.hid h
 clear h hb hx hx1
 by_cases hs : streamFaultS a first n = 0
 ·obtain ⟨hm, n0, n1, f0, f1⟩ := fault_zero hs
  have hlen := (devMay_len (arr_parts hm).2.1).2.1
  have hf64 : first ≤ 64 := by omega
  obtain ⟨m, hmm⟩ := Int.eq_ofNat_of_zero_le (show 0 ≤ (n + 23) / 24 by omega)
  have hm64 : m ≤ 64 := by omega
  have hfm : first + (m : Int) ≤ 64 := by omega
  have hmt : ((n + 23) / 24).toNat = m := by rw [hmm]; rfl
  have HSZ := Lib.hid (show n ≤ 24 * (m : Int) by omega)
  have hgood := fun (s : ByteArray) (h : streamReadLoop a m first .empty = (s, 0)) => sread_good hs (by rw [hmt]; exact h)
  have hlost := fun (e : Int) (h : streamReadLoop a m first .empty = (.empty, e)) (h3 : e ≠ 0) => sread_lost hs (by rw [hmt]; exact h) h3
  have HG := Lib.hid hgood
  have HLO := Lib.hid hlost
  rw [hs]
  have HNN := Lib.hid (And.intro n0 n1)
  have HMM := Lib.hid hmm
  have HM64 := Lib.hid (And.intro hm64 hfm)
  clear hgood hlost hs hm hlen hmt f1 hmm hf
  go_wp2_with (first | (go_at_call 26; refine (sectorsOf_any n _ HNN.out.1 (by have := HNN.out.2; omega)).mono ?_; rintro e w9 ⟨rfl, rfl⟩))
  go_loopw [9, 10] (fun s i wr => ∃ (k : Nat) (t : ByteArray), i = .int .i64 k ∧ s = .string t ∧ k ≤ m ∧ t.size = 24 * k ∧ Ext w wr ∧ Blk_ wr w.heap.size 24 #[.slice A a.length c] ∧ streamReadLoop a (m - k) (first + k) t = streamReadLoop a m first .empty) (fun _ i _ => m - (intOf i).toNat)
  case atStart => exact ⟨0, .empty, rfl, rfl, Nat.zero_le _, rfl, hxw, hb1, by simp⟩
  case round =>
   clear hxw hb1
   obtain ⟨k, t, rfl, rfl, hk, htz, hx, hb, heq⟩ := hrel
   have g0 := hb.cell 0
   simp at g0
   have HEQ := Lib.hid heq
   have HTZ := Lib.hid htz
   have hsm : (m : Int) ≤ 64 := by have := HM64.out.1; omega
   clear heq
   by_cases hlt : k < m
   ·have hk64 : (k : Int) < 64 := by omega
    have hkm : decide ((k : Int) < (n + 23) / 24) = true := by rw [HMM.out]; simp; omega
    go_wp2_with (first | (go_at_call 26; refine (sectorsOf_any n _ HNN.out.1 (by have := HNN.out.2; omega)).mono ?_; rintro e w9 ⟨rfl, rfl⟩))
    refine (arrayRead_any [.slice A a.length c] a (first + k) _ (HH.out.up hx) ⟨by omega, by omega⟩).mono ?_
    rintro e w2 ⟨rfl, hx2⟩
    have HX2 := Lib.hid (hx.trans hx2)
    have HB2 := Lib.hid (hb.ext hx2)
    clear hx hx2 hb g0
    have hsub : m - k = (m - (k + 1)) + 1 := by omega
    by_cases hc : (arrReadS a (first + k)).2.2 = 0
    ·have hsz := arrReadS_size hc
     have hnext : streamReadLoop a (m - (k + 1)) (first + ((k + 1 : Nat) : Int)) (t ++ (arrReadS a (first + k)).1) = streamReadLoop a m first .empty := by
      rw [← HEQ.out, hsub, loop_next hc]
      congr 1
      omega
     rw [hc]
     have HNX := Lib.hid hnext
     have hszb : ¬ (9223372036854775807 < t.size + (arrReadS a (first + k)).1.size) := by omega
     have HSS := Lib.hid hsz
     clear hc hnext hsz hsub htz
     generalize (arrReadS a (first + k)).1 = T at *
     go_wp2_with fail
     go_roundw
     case rel => exact ⟨k + 1, t ++ T, by go_num, rfl, by omega, by rw [ByteArray.size_append, HTZ.out, HSS.out]; omega, HX2.out, HB2.out, HNX.out⟩
     case measure => simp [intOf]; omega
    ·have hlo := HLO.out _ (by rw [← HEQ.out, hsub, loop_lost hc]) hc
     have HF := Lib.hid hlo
     have hc' : ((arrReadS a (first + k)).2.2 != 0) = true := by simpa using hc
     clear hc hlo hsub htz
     generalize (arrReadS a (first + k)).2.2 = tc at *
     go_wp2_with fail
     go_ret2
     rw [HF.out]
     exact ⟨rfl, HX2.out⟩
   ·obtain rfl : k = m := by omega
    have hkm : decide ((k : Int) < (n + 23) / 24) = false := by rw [HMM.out]; simp
    have hgo := HG.out t (by rw [← HEQ.out, Nat.sub_self]; rfl)
    have HF := Lib.hid hgo
    obtain ⟨n, rfl⟩ := Int.eq_ofNat_of_zero_le HNN.out.1
    have hn1 : n ≤ t.size := by have := HSZ.out; omega
    have hn2 : (n : Int) ≤ (t.size : Int) := by omega
    clear hgo htz g0 hn
    go_wp2_with (first | (go_at_call 26; refine (sectorsOf_any n _ HNN.out.1 (by have := HNN.out.2; omega)).mono ?_; rintro e w9 ⟨rfl, rfl⟩))
    go_ret2
    rw [HF.out]
    exact ⟨rfl, hx⟩
 ·have HF := Lib.hid (sread_bad hs)
  have hs' : (streamFaultS a first n != 0) = true := by simpa using hs
  clear hs hb1
  generalize streamFaultS a first n = t at *
  go_wp2_with fail
  go_ret2
  rw [HF.out]
  exact ⟨rfl, hxw⟩
theorem bl_total : ∀ x y : List UInt8, (Op.bytesLess y x || y == x) = !(Op.bytesLess x y)
 | [], [] => rfl
 | [], _ :: _ => rfl
 | _ :: _, [] => rfl
 | a :: x, b :: y => by
  have ih := bl_total x y
  have hlt : ∀ c d : UInt8, (decide (c < d)) = decide (c.toNat < d.toNat) := fun c d => by simp [UInt8.lt_iff_toNat_lt]
  have heq : ∀ c d : UInt8, (c == d) = decide (c.toNat = d.toNat) := fun c d => by
   by_cases h : c = d
   ·subst h; simp
   ·have : c.toNat ≠ d.toNat := fun e => h (UInt8.toNat_inj.1 e)
    simp [h, this]
  simp only [Op.bytesLess, List.cons_beq_cons, hlt, heq]
  rcases Nat.lt_trichotomy a.toNat b.toNat with h | h | h
  ·have h1 : ¬ b.toNat < a.toNat := by omega
   have h2 : ¬ b.toNat = a.toNat := by omega
   simp [h, h1, h2]
  ·simp [h, ih]
  ·have h1 : ¬ a.toNat < b.toNat := by omega
   have h2 : ¬ a.toNat = b.toNat := by omega
   simp [h, h1, h2]
def secs (n : Int) : Int := (n + 23) / 24
def blockBad (p : Int) (b : Blk) : Bool := decide (b.first ≠ p) || !(inB b.bytes 0 1200) || decide (64 < p + secs b.bytes)
def blocksF (p : Int) : List Blk → Int
 | [] => 0
 | b :: l => if blockBad p b then 4 else blocksF (p + secs b.bytes) l
def entBad (nb : Nat) (x : Ent) : Bool := !(nameMay x.name) || !(inB x.block 0 ((nb : Int) - 1)) || !(inB x.at_ 0 600) || !(inB x.bytes 0 200)
def orderBad (p : Option ByteArray) (s : ByteArray) : Bool := match p with | none => false | some q => !(Op.bytesLess q.toList s.toList)
def entsF (nb : Nat) (p : Option ByteArray) : List Ent → Int
 | [] => 0
 | x :: l => if entBad nb x then 4 else if orderBad p x.name then 12 else entsF nb (some x.name) l
def catFault (c : Cat) : Int :=
 if 10 < c.blocks.length ∨ 10 < c.entries.length then 1 else if blocksF 8 c.blocks = 0 then entsF c.blocks.length none c.entries else 4
def nextAt (p : Int) : List Blk → Int
 | [] => p
 | b :: l => nextAt (p + secs b.bytes) l
def nextS (c : Cat) : Int × Int := if catFault c = 0 then (nextAt 8 c.blocks, 0) else (0, catFault c)
def noEnt : Ent := ⟨.empty, 0, 0, 0⟩
def twoB (n : Int) : List UInt8 := [byte (n / 256), byte (n % 256)]
def entBytes (x : Ent) : List UInt8 := byte x.name.size :: (lst x.name ++ [byte x.block, byte (x.at_ / 256), byte (x.at_ % 256), byte x.bytes])
def catBytes (c : Cat) : List UInt8 := byte c.blocks.length :: (c.blocks.flatMap (fun b => twoB b.bytes) ++ byte c.entries.length :: c.entries.flatMap entBytes)
def encCatS (c : Cat) : ByteArray × Int := if catFault c = 0 then (bs (catBytes c), 0) else (.empty, catFault c)
def decBlocks : Nat → Int → List UInt8 → Option (List Blk × List UInt8)
 | 0, _, l => some ([], l)
 | n + 1, p, a :: b :: l => (decBlocks n (p + secs (256 * (a.toNat : Int) + b.toNat)) l).map fun x => (⟨p, 256 * (a.toNat : Int) + b.toNat⟩ :: x.1, x.2)
 | _ + 1, _, _ => none
def entAt (m : Nat) (l : List UInt8) : Ent := ⟨bs (l.take m), (l.getD m 0).toNat, 256 * ((l.getD (m + 1) 0).toNat : Int) + (l.getD (m + 2) 0).toNat, (l.getD (m + 3) 0).toNat⟩
def decEnts : Nat → List UInt8 → Option (List Ent × List UInt8)
 | 0, l => some ([], l)
 | n + 1, m :: l => if l.length < m.toNat + 4 then none else (decEnts n (l.drop (m.toNat + 4))).map fun x => (entAt m.toNat l :: x.1, x.2)
 | _ + 1, [] => none
def noCat : Cat := ⟨[], []⟩
def endCat (bl : List Blk) (es : List Ent) (r : List UInt8) : Cat × Int :=
 if r.all (· == 0) then (if catFault ⟨bl, es⟩ = 0 then (⟨bl, es⟩, 0) else (noCat, catFault ⟨bl, es⟩)) else (noCat, 4)
def decCatL (l : List UInt8) : Cat × Int :=
 match l with
 | [] => (noCat, 5)
 | n :: l => match decBlocks n.toNat 8 l with
  | none => (noCat, 5)
  | some (_, []) => (noCat, 5)
  | some (bl, k :: r) => match decEnts k.toNat r with
   | none => (noCat, 5)
   | some (es, r') => endCat bl es r'
def decCatS (s : ByteArray) : Cat × Int := decCatL (lst s)
def prevOf (l : List Ent) (k : Nat) : Option ByteArray := match k with | 0 => none | j + 1 => some (l.getD j noEnt).name
theorem drop_at {α : Type} (l : List α) (k : Nat) (h : k < l.length) : l.drop k = l[k] :: l.drop (k + 1) := List.drop_eq_getElem_cons h
theorem blocks_stop {p : Int} {b : Blk} {l : List Blk} (h : blockBad p b = true) : blocksF p (b :: l) = 4 := by unfold blocksF; rw [if_pos h]
theorem blocks_go {p : Int} {b : Blk} {l : List Blk} (h : blockBad p b = false) : blocksF p (b :: l) = blocksF (p + secs b.bytes) l := by rw [blocksF, if_neg (by simp [h])]
theorem ents_stop {nb : Nat} {p : Option ByteArray} {x : Ent} {l : List Ent} (h : entBad nb x = true) : entsF nb p (x :: l) = 4 := by unfold entsF; rw [if_pos h]
theorem ents_order {nb : Nat} {p : Option ByteArray} {x : Ent} {l : List Ent} (h : entBad nb x = false) (h2 : orderBad p x.name = true) : entsF nb p (x :: l) = 12 := by unfold entsF; rw [if_neg (by simp [h]), if_pos h2]
theorem ents_go {nb : Nat} {p : Option ByteArray} {x : Ent} {l : List Ent} (h : entBad nb x = false) (h2 : orderBad p x.name = false) : entsF nb p (x :: l) = entsF nb (some x.name) l := by rw [entsF, if_neg (by simp [h]), if_neg (by simp [h2])]
theorem prev_next (l : List Ent) (k : Nat) (h : k < l.length) : prevOf l (k + 1) = some l[k].name := by
 unfold prevOf; simp only; rw [List.getD_eq_getElem?_getD, List.getElem?_eq_getElem h]; rfl
theorem fault_long {c : Cat} (h : 10 < c.blocks.length ∨ 10 < c.entries.length) : catFault c = 1 := by unfold catFault; rw [if_pos h]
theorem fault_blocks {c : Cat} (h : ¬ (10 < c.blocks.length ∨ 10 < c.entries.length)) (h2 : blocksF 8 c.blocks ≠ 0) : catFault c = 4 := by unfold catFault; rw [if_neg h, if_neg h2]
theorem fault_ents {c : Cat} (h : ¬ (10 < c.blocks.length ∨ 10 < c.entries.length)) (h2 : blocksF 8 c.blocks = 0) : catFault c = entsF c.blocks.length none c.entries := by unfold catFault; rw [if_neg h, if_pos h2]
theorem blocksF_range : ∀ (l : List Blk) (p : Int), 0 ≤ p → blocksF p l = 0 → ∀ b ∈ l, 0 ≤ b.bytes ∧ b.bytes ≤ 1200
 | [], _, _, _, b, hb => by cases hb
 | x :: l, p, h0, h, b, hb => by
  unfold blocksF at h
  split at h
  ·exact absurd h (by decide)
  ·rename_i hx
   unfold blockBad at hx
   simp only [Bool.not_eq_true, Bool.or_eq_false_iff, Bool.not_eq_false', decide_eq_false_iff_not] at hx
   obtain ⟨⟨h1, h2⟩, h3⟩ := hx
   obtain ⟨h4, h5⟩ := inB_true h2
   rcases List.mem_cons.1 hb with rfl | hb
   ·exact ⟨h4, h5⟩
   ·exact blocksF_range l _ (by unfold secs; omega) h b hb
theorem catFault_ok {c : Cat} (h : catFault c = 0) : c.blocks.length ≤ 10 ∧ c.entries.length ≤ 10 ∧ blocksF 8 c.blocks = 0 ∧ entsF c.blocks.length none c.entries = 0 := by
 unfold catFault at h
 split at h
 ·exact absurd h (by decide)
 ·split at h
  ·rename_i h1 h2; exact ⟨by omega, by omega, h2, h⟩
  ·exact absurd h (by decide)
theorem entsF_ok (nb : Nat) : ∀ (l : List Ent) (p : Option ByteArray), entsF nb p l = 0 → ∀ x ∈ l, entBad nb x = false
 | [], _, _, x, hx => by cases hx
 | y :: l, p, h, x, hx => by
  unfold entsF at h
  split at h
  ·exact absurd h (by decide)
  ·rename_i h1
   split at h
   ·exact absurd h (by decide)
   ·rcases List.mem_cons.1 hx with rfl | hx
    ·simpa using h1
    ·exact entsF_ok nb l _ h x hx
theorem entBad_false {nb : Nat} {x : Ent} (h : entBad nb x = false) : nameMay x.name = true ∧ 0 ≤ x.block ∧ x.block < nb ∧ 0 ≤ x.at_ ∧ x.at_ ≤ 600 ∧ 0 ≤ x.bytes ∧ x.bytes ≤ 200 := by
 unfold entBad at h
 simp only [Bool.or_eq_false_iff, Bool.not_eq_false'] at h
 obtain ⟨⟨⟨h1, h2⟩, h3⟩, h4⟩ := h
 have a := inB_true h2
 have b := inB_true h3
 have c := inB_true h4
 exact ⟨h1, a.1, by omega, b.1, b.2, c.1, c.2⟩
theorem nameMay_size {s : ByteArray} (h : nameMay s = true) : 1 ≤ s.size ∧ s.size ≤ 8 := by
 unfold nameMay at h
 simp only [Bool.and_eq_true, decide_eq_true_eq] at h
 exact ⟨h.1.1, h.1.2⟩

end Go.Proofs.YtjadmfdlggnlgaaGreatDoor
