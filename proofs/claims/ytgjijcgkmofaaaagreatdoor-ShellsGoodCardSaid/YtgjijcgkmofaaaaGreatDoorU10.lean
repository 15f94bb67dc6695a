/-
  press.Unpack: bytes of which some stand for what stood there. Conditions: none.
-/
import Derived.Test.YtgjijcgkmofaaaaGreatDoorU9
import Derived.Shelf.Small.Strs
import Derived.Lib.Bytealg
namespace Go.Proofs.YtgjijcgkmofaaaaGreatDoor
set_option linter.unusedSimpArgs false
set_option linter.unusedVariables false
set_option maxRecDepth 100000
set_option maxHeartbeats 8000000
open Go.RowKit
theorem copyB_succ (d k : Nat) (out : List UInt8) : copyB d (k + 1) out = copyB d k out ++ [(copyB d k out).getD ((copyB d k out).length - d) 0] := by
 induction k generalizing out with
 | zero => rfl
 | succ k ih => rw [copyB, ih]; rfl
theorem dropB_at (s : ByteArray) (i : Nat) (h : i < s.size) : (lst s).drop i = s[i] :: (lst s).drop (i + 1) := by
 rw [List.drop_eq_getElem_cons (by rw [length_lst]; exact h)]; rfl
theorem unp_end (s : ByteArray) (i : Nat) (out : List UInt8) (h : ¬ i < s.size) : unpackF ((lst s).drop i) out = (bs out, 0) := by
 rw [List.drop_of_length_le (by rw [length_lst]; omega), unpackF_nil]
theorem unp_short {s : ByteArray} {i : Nat} {out : List UInt8} (h : i < s.size) (hc : s[i].toNat < 128) (h2 : s.size < i + 2 + s[i].toNat) : unpackF ((lst s).drop i) out = (.empty, 5) := by
 rw [dropB_at s i h, unpackF_plain _ _ hc, if_pos (by rw [List.length_drop, length_lst]; omega)]
theorem take_drop (s : ByteArray) (i n : Nat) : ((lst s).drop i).take n = lst (s.extract i (i + n)) := by
 rw [lst_ext]; unfold sub_; rw [List.take_drop]
theorem unp_long {s : ByteArray} {i : Nat} {out : List UInt8} (h : i < s.size) (hc : s[i].toNat < 128) (h2 : ¬ s.size < i + 2 + s[i].toNat) (h3 : 600 < (out ++ lst (s.extract (i + 1) (i + 2 + s[i].toNat))).length) : unpackF ((lst s).drop i) out = (.empty, 1) := by
 rw [dropB_at s i h, unpackF_plain _ _ hc, if_neg (by rw [List.length_drop, length_lst]; omega), take_drop, show i + 1 + (s[i].toNat + 1) = i + 2 + s[i].toNat by omega, if_pos h3]
theorem unp_more {s : ByteArray} {i : Nat} {out : List UInt8} (h : i < s.size) (hc : s[i].toNat < 128) (h2 : ¬ s.size < i + 2 + s[i].toNat) (h3 : ¬ 600 < (out ++ lst (s.extract (i + 1) (i + 2 + s[i].toNat))).length) : unpackF ((lst s).drop i) out = unpackF ((lst s).drop (i + 2 + s[i].toNat)) (out ++ lst (s.extract (i + 1) (i + 2 + s[i].toNat))) := by
 rw [dropB_at s i h, unpackF_plain _ _ hc, if_neg (by rw [List.length_drop, length_lst]; omega), take_drop, show i + 1 + (s[i].toNat + 1) = i + 2 + s[i].toNat by omega, if_neg h3, List.drop_drop, show i + 1 + (s[i].toNat + 1) = i + 2 + s[i].toNat by omega]
theorem unp_pshort {s : ByteArray} {i : Nat} {out : List UInt8} (h : i < s.size) (hc : ¬ s[i].toNat < 128) (h2 : s.size < i + 2) : unpackF ((lst s).drop i) out = (.empty, 5) := by
 rw [dropB_at s i h, List.drop_of_length_le (i := i + 1) (by rw [length_lst]; omega), unpackF_end _ hc]
theorem unp_form {s : ByteArray} {i : Nat} {out : List UInt8} (h : i < s.size) (hc : ¬ s[i].toNat < 128) (h2 : i + 1 < s.size) (h3 : s[i + 1].toNat = 0 ∨ out.length < s[i + 1].toNat) : unpackF ((lst s).drop i) out = (.empty, 4) := by
 rw [dropB_at s i h, dropB_at s (i + 1) h2, unpackF_piece _ _ hc, if_pos h3]
theorem unp_plong {s : ByteArray} {i : Nat} {out : List UInt8} (h : i < s.size) (hc : ¬ s[i].toNat < 128) (h2 : i + 1 < s.size) (h3 : ¬ (s[i + 1].toNat = 0 ∨ out.length < s[i + 1].toNat)) (h4 : 600 < (copyB s[i + 1].toNat (s[i].toNat - 124) out).length) : unpackF ((lst s).drop i) out = (.empty, 1) := by
 rw [dropB_at s i h, dropB_at s (i + 1) h2, unpackF_piece _ _ hc, if_neg h3, if_pos h4]
theorem unp_pmore {s : ByteArray} {i : Nat} {out : List UInt8} (h : i < s.size) (hc : ¬ s[i].toNat < 128) (h2 : i + 1 < s.size) (h3 : ¬ (s[i + 1].toNat = 0 ∨ out.length < s[i + 1].toNat)) (h4 : ¬ 600 < (copyB s[i + 1].toNat (s[i].toNat - 124) out).length) : unpackF ((lst s).drop i) out = unpackF ((lst s).drop (i + 2)) (copyB s[i + 1].toNat (s[i].toNat - 124) out) := by
 rw [dropB_at s i h, dropB_at s (i + 1) h2, unpackF_piece _ _ hc, if_neg h3, if_neg h4]
theorem unp_plong' {s : ByteArray} {i c d : Nat} {out : List UInt8} (h : i < s.size) (hc : c = s[i].toNat) (h1 : ¬ c < 128) (h2 : i + 1 < s.size) (hd : d = s[i + 1].toNat) (h3 : ¬ (d = 0 ∨ out.length < d)) (h4 : 600 < (copyB d (c - 124) out).length) : unpackF ((lst s).drop i) out = (.empty, 1) := by
 subst hc hd; exact unp_plong h h1 h2 h3 h4
theorem unp_pmore' {s : ByteArray} {i c d : Nat} {out : List UInt8} (h : i < s.size) (hc : c = s[i].toNat) (h1 : ¬ c < 128) (h2 : i + 1 < s.size) (hd : d = s[i + 1].toNat) (h3 : ¬ (d = 0 ∨ out.length < d)) (h4 : ¬ 600 < (copyB d (c - 124) out).length) : unpackF ((lst s).drop i) out = unpackF ((lst s).drop (i + 2)) (copyB d (c - 124) out) := by
 subst hc hd; exact unp_pmore h h1 h2 h3 h4
theorem Bld.init (w : World) : Bld w.heap.size w.heap.size [] (w.alloc (.cells #[.pointer none, .slice none 0 0] 97)) :=
 .inl ⟨Nat.le_refl _, .slice none 0 0, heap_alloc_new w _, ⟨rfl, .inl ⟨rfl, rfl⟩⟩, by simp [Value.ownBlock]⟩
theorem unpack_any (s : ByteArray) (w : World) (hs : s.size ≤ 140737488355328) :
  Calls Tryz.prog 59 #[.string s] w fun e w' => e = .returned (.tuple #[.string (unpackS s).1, .int .i64 (unpackS s).2]) ∧ Ext w w' := by
 obtain ⟨R, hR⟩ : ∃ R, R = unpackS s := ⟨_, rfl⟩
 rw [← hR]
 have HR := Lib.hid (show unpackF ((lst s).drop 0) [] = R by rw [hR]; rfl)
 have hsI : (s.size : Int) ≤ 140737488355328 := by omega
 clear hR
 go_enter Tryz.func59, Tryz.ntmps59
 go_wp2_with fail
 refine wp_abs (fun W => Ext w W ∧ Bld w.heap.size w.heap.size [] W) ⟨(Ext.refl w).alloc _, Bld.init w⟩ ?_
 rintro W ⟨hW, hB⟩
 have HW := Lib.hid (And.intro hW hB)
 clear hW hB
 revert HW
 obtain ⟨b, hb⟩ : ∃ b, b = w.heap.size := ⟨_, rfl⟩
 rw [← hb]
 intro HW
 have HBB := Lib.hid hb
 clear hb
 go_loopw [5] (fun iv wr => ∃ (out : List UInt8) (i : Nat), iv = .int .i64 i ∧ Ext w wr ∧ Bld b b out wr ∧ i ≤ s.size ∧ out.length ≤ 600 ∧ unpackF ((lst s).drop i) out = R) (fun iv _ => s.size - (intOf iv).toNat)
 case atStart => exact ⟨[], 0, rfl, HW.out.1, HW.out.2, Nat.zero_le _, by simp, HR.out⟩
 case round =>
  clear HW HR
  obtain ⟨out, i, rfl, hx, hbl, his, hol, heq⟩ := hrel
  have HBL := Lib.hid hbl
  have HEQ := Lib.hid heq
  have HX := Lib.hid hx
  have hol2 : (out.length : Int) ≤ 600 := by omega
  have HSZ := Lib.hid (show b ≤ wr.heap.size by rw [HBB.out]; exact hx.size)
  clear hbl heq hx
  by_cases hi : i < s.size
  ·have hiI : (i : Int) < (s.size : Int) := by omega
   have hitn : ((i : Int)).toNat = i := by omega
   obtain ⟨c, hc⟩ : ∃ c, c = s[i].toNat := ⟨_, rfl⟩
   have hc255 : c < 256 := by rw [hc]; exact UInt8.toNat_lt _
   have hcI : ((s[i].toNat : Nat) : Int) = (c : Int) := by rw [hc]
   have HC := Lib.hid hc
   have HI := Lib.hid hi
   have cz1 : (0 : Int) ≤ (c : Int) := by omega
   have cz2 : (c : Int) ≤ 255 := by omega
   clear hc
   by_cases h128 : c < 128
   ·have H128 := Lib.hid h128
    have t1 : decide ((c : Int) < 128) = true := by simp; omega
    by_cases hsh : s.size < i + 2 + c
    ·have HR := Lib.hid (show ((.empty, 5) : ByteArray × Int) = R by rw [← HEQ.out]; exact (unp_short hi (by rw [← HC.out]; exact H128.out) (by rw [← HC.out]; exact hsh)).symm)
     have t2 : decide ((s.size : Int) < (i : Int) + 2 + (c : Int)) = true := by simp; omega
     have t2' : (s.size : Int) < (i : Int) + 2 + (c : Int) := by omega
     clear hsh h128
     go_wp2_with fail
     go_ret2
     rw [← HR.out]
     exact ⟨rfl, HX.out⟩
    ·have t2' : ¬ (s.size : Int) < (i : Int) + 2 + (c : Int) := by omega
     have t3 : (i : Int) + 2 + (c : Int) ≤ (s.size : Int) := by omega
     have HSH := Lib.hid hsh
     have x1 : ((i : Int) + 1).toNat = i + 1 := by omega
     have x2 : ((i : Int) + 2 + (c : Int)).toNat = i + 2 + c := by omega
     have x3 : (i : Int) + 1 ≤ (i : Int) + 2 + (c : Int) := by omega
     have x4 : (0 : Int) ≤ (i : Int) + 2 + (c : Int) := by omega
     have x5 : (0 : Int) ≤ (i : Int) + 1 := by omega
     have HOL := Lib.hid hol
     obtain ⟨q, hq⟩ : ∃ q, q = s.extract (i + 1) (i + 2 + c) := ⟨_, rfl⟩
     have HQS := Lib.hid (show q.size = c + 1 by rw [hq, ByteArray.size_extract]; omega)
     have HQ := Lib.hid hq
     clear hsh h128 hq hol
     go_wp2_with fail
     rw [← HQ.out]
     refine (bld_text b b out q _ HBL.out (by have := HQS.out; have := HOL.out; omega) HSZ.out).mono ?_
     rintro e w1 ⟨rfl, hb1, hB1⟩
     have HX1 := Lib.hid (show Ext w w1 from Below.trans HX.out (by rw [← HBB.out]; exact hB1))
     have HB1 := Lib.hid hb1
     have HSZ1 := Lib.hid (show b ≤ w1.heap.size from Nat.le_trans HSZ.out hB1.size)
     clear hb1 hB1
     go_wp2_with fail
     refine (bld_len b b (out ++ q.data.toList) _ HB1.out).mono ?_
     rintro e w2 ⟨rfl, rfl⟩
     have HL := Lib.hid (show (out ++ q.data.toList).length = out.length + (c + 1) by rw [List.length_append, ← HQS.out]; congr 1)
     rw [HL.out]
     by_cases hlong : 600 < out.length + (c + 1)
     ·have t4 : (600 : Int) < (out.length : Int) + ((c : Int) + 1) := by omega
      have HR := Lib.hid (show ((.empty, 1) : ByteArray × Int) = R by rw [← HEQ.out]; exact (unp_long hi (by rw [← HC.out]; exact H128.out) (by rw [← HC.out]; exact HSH.out) (by rw [← HC.out, ← HQ.out]; show 600 < (out ++ q.data.toList).length; rw [HL.out]; exact hlong)).symm)
      clear HL
      go_wp2_with fail
      go_ret2
      rw [← HR.out]
      exact ⟨rfl, HX1.out⟩
     ·have t4 : ¬ (600 : Int) < (out.length : Int) + ((c : Int) + 1) := by omega
      have HR := Lib.hid (show unpackF ((lst s).drop (i + 2 + c)) (out ++ q.data.toList) = R by
       rw [← HEQ.out, unp_more hi (by rw [← HC.out]; exact H128.out) (by rw [← HC.out]; exact HSH.out) (by rw [← HC.out, ← HQ.out]; show ¬ 600 < (out ++ q.data.toList).length; rw [HL.out]; exact hlong), ← HC.out, ← HQ.out]; rfl)
      have HLEN := Lib.hid (show (out ++ q.data.toList).length ≤ 600 by rw [HL.out]; omega)
      clear HL
      go_wp2_with fail
      go_roundw
      case rel => exact ⟨out ++ q.data.toList, i + 2 + c, by first | rfl | go_num, HX1.out, HB1.out, by have := HSH.out; omega, HLEN.out, HR.out⟩
      case measure => (simp [intOf]; try omega)
   ·have H128 := Lib.hid h128
    have t1 : decide ((c : Int) < 128) = false := by simp; omega
    by_cases hsh : s.size < i + 2
    ·have HR := Lib.hid (show ((.empty, 5) : ByteArray × Int) = R by rw [← HEQ.out]; exact (unp_pshort hi (by rw [← HC.out]; exact H128.out) hsh).symm)
     have t2' : (s.size : Int) < (i : Int) + 2 := by omega
     clear hsh h128
     go_wp2_with fail
     go_ret2
     rw [← HR.out]
     exact ⟨rfl, HX.out⟩
    ·have t2' : ¬ (s.size : Int) < (i : Int) + 2 := by omega
     have hi2 : i + 1 < s.size := by omega
     have hi2I : (i : Int) + 1 < (s.size : Int) := by omega
     have x1 : ((i : Int) + 1).toNat = i + 1 := by omega
     have x5 : (0 : Int) ≤ (i : Int) + 1 := by omega
     obtain ⟨d, hd⟩ : ∃ d, d = s[i + 1].toNat := ⟨_, rfl⟩
     have hd255 : d < 256 := by rw [hd]; exact UInt8.toNat_lt _
     have hdI : ((s[i + 1].toNat : Nat) : Int) = (d : Int) := by rw [hd]
     have HD := Lib.hid hd
     have HOL := Lib.hid hol
     have HI2 := Lib.hid hi2
     clear hd hsh h128
     by_cases h0 : d = 0
     ·have HR := Lib.hid (show ((.empty, 4) : ByteArray × Int) = R by rw [← HEQ.out]; exact (unp_form hi (by rw [← HC.out]; exact H128.out) hi2 (.inl (by rw [← HD.out]; exact h0))).symm)
      subst h0
      have hd0 : ((s[i + 1].toNat : Nat) : Int) = 0 := hdI
      clear hdI
      go_wp2_with fail
      go_ret2
      rw [← HR.out]
      exact ⟨rfl, HX.out⟩
     ·have h0b : ((d : Int) == 0) = false := beq_false_of_ne (by omega)
      have H0 := Lib.hid h0
      clear h0
      by_cases hdl : out.length < d
      ·have HR := Lib.hid (show ((.empty, 4) : ByteArray × Int) = R by rw [← HEQ.out]; exact (unp_form hi (by rw [← HC.out]; exact H128.out) hi2 (.inr (by rw [← HD.out]; exact hdl))).symm)
       go_wp2_with fail
       refine (bld_len b b out _ HBL.out).mono ?_
       rintro e w2 ⟨rfl, rfl⟩
       go_wp2_with fail
       go_ret2
       rw [← HR.out]
       exact ⟨rfl, HX.out⟩
      ·have HDL := Lib.hid hdl
       go_wp2_with fail
       refine (bld_len b b out _ HBL.out).mono ?_
       rintro e w2 ⟨rfl, rfl⟩
       have y1 : IntKind.i64.wrap ((c : Int) - 128) = (c : Int) - 128 := by rw [IntKind.wrap_i64]; omega
       obtain ⟨m, hm⟩ : ∃ m : Nat, m = c - 124 := ⟨_, rfl⟩
       have y2 : IntKind.i64.wrap ((c : Int) - 128 + 4) = (m : Int) := by rw [IntKind.wrap_i64]; have := H128.out; omega
       have y2' : (c : Int) - 128 + 4 = (m : Int) := by have := H128.out; omega
       have hm131 : (m : Int) ≤ 131 := by omega
       have HM := Lib.hid hm
       clear hm hdl hol hiI hi2I
       go_wp2_with fail
       rw [decide_eq_false HDL.out]
       go_loopw [58] (fun kv wq => ∃ k : Nat, kv = .int .i64 k ∧ k ≤ m ∧ Below b w2 wq ∧ Bld b b (copyB d k out) wq) (fun kv _ => m - (intOf kv).toNat)
       case atStart => exact ⟨0, rfl, Nat.zero_le _, Below.refl _ _, HBL.out⟩
       case round =>
        obtain ⟨k, rfl, hkm, hBq, hblq⟩ := hrel
        obtain ⟨o, ho⟩ : ∃ o, o = copyB d k out := ⟨_, rfl⟩
        have hoL : o.length = out.length + k := by rw [ho]; exact length_copyB d k out
        have HNX := Lib.hid (show copyB d (k + 1) out = o ++ [o.getD (o.length - d) 0] by rw [ho]; exact copyB_succ d k out)
        rw [← ho] at hblq
        have HBQ := Lib.hid (And.intro hBq hblq)
        have HSQ := Lib.hid (show b ≤ wr.heap.size from Nat.le_trans HSZ.out hBq.size)
        have HO := Lib.hid ho
        clear ho hBq hblq
        by_cases hkl : k < m
        ·have hkI : (k : Int) < (m : Int) := by omega
         have hkt : decide ((k : Int) < (m : Int)) = true := by simp; omega
         go_wp2_with fail
         refine (bld_string b b o _ HBQ.out.2 HSQ.out).mono ?_
         rintro e w3 ⟨rfl, hb3, hB3⟩
         go_wp2_with fail
         refine (bld_len b b o _ hb3).mono ?_
         rintro e w4 ⟨rfl, rfl⟩
         have hdo : d ≤ o.length := by have := HDL.out; omega
         have hd1 : 0 < d := by have := H0.out; omega
         have z1 : IntKind.i64.wrap ((o.length : Int) - (d : Int)) = ((o.length - d : Nat) : Int) := by rw [IntKind.wrap_i64]; have := HOL.out; omega
         have z1' : (o.length : Int) - (d : Int) = ((o.length - d : Nat) : Int) := by omega
         obtain ⟨j, hj⟩ : ∃ j : Nat, j = o.length - d := ⟨_, rfl⟩
         rw [← hj] at z1 z1'
         have hjl : j < o.length := by omega
         have hjs : j < (⟨o.toArray⟩ : ByteArray).size := by show j < o.toArray.size; simpa using hjl
         obtain ⟨S, hS⟩ : ∃ S, S = (⟨o.toArray⟩ : ByteArray) := ⟨_, rfl⟩
         rw [← hS] at hjs ⊢
         have hjI : (j : Int) < (S.size : Int) := by omega
         have hj8 : (j : Int) ≤ 800 := by have := HOL.out; omega
         have HG := Lib.hid (show S[j] = o.getD (o.length - d) 0 by
          subst hS
          rw [← hj, List.getD_eq_getElem?_getD, List.getElem?_eq_getElem hjl]
          show o.toArray[j]'_ = _
          simp)
         have HB4 := Lib.hid (And.intro hb3 (HBQ.out.1.trans hB3))
         have HOB := Lib.hid (show o.length ≤ 800 ∧ b ≤ w4.heap.size from ⟨by have := HOL.out; omega, Nat.le_trans HSQ.out hB3.size⟩)
         clear hS hj hb3 hB3 hdo hd1 hoL hjl
         go_wp2_with fail
         refine (bld_byte b b o (S[j]) _ HB4.out.1 (by have := HOB.out.1; omega) HOB.out.2).mono ?_
         rintro e w5 ⟨rfl, hb5, hB5⟩
         go_wp2_with fail
         go_roundw
         case rel => exact ⟨k + 1, by first | rfl | go_num, by omega, HB4.out.2.trans hB5, by rw [HNX.out, ← HG.out]; exact hb5⟩
         case measure => (simp [intOf]; try omega)
        ·obtain rfl : k = m := by omega
         go_wp2_with fail
         refine (bld_len b b o _ HBQ.out.2).mono ?_
         rintro e w4 ⟨rfl, rfl⟩
         have HX4 := Lib.hid (show Ext w w4 from Below.trans HX.out (by rw [← HBB.out]; exact HBQ.out.1))
         have HO2 := Lib.hid (show o = copyB d (c - 124) out by rw [HO.out, HM.out])
         have HN := Lib.hid (show ¬ (d = 0 ∨ out.length < d) by have := H0.out; have := HDL.out; omega)
         by_cases hlong : 600 < o.length
         ·have HR := Lib.hid (show ((.empty, 1) : ByteArray × Int) = R by rw [← HEQ.out]; exact (unp_plong' HI.out HC.out H128.out HI2.out HD.out HN.out (by rw [← HO2.out]; exact hlong)).symm)
          clear hoL
          go_wp2_with fail
          go_ret2
          rw [← HR.out]
          exact ⟨rfl, HX4.out⟩
         ·have HR := Lib.hid (show unpackF ((lst s).drop (i + 2)) o = R by rw [← HEQ.out, unp_pmore' HI.out HC.out H128.out HI2.out HD.out HN.out (by rw [← HO2.out]; exact hlong), ← HO2.out])
          clear hoL
          go_wp2_with fail
          go_roundw
          case rel => exact ⟨o, i + 2, by first | rfl | go_num, HX4.out, HBQ.out.2, by have := HI2.out; omega, by omega, HR.out⟩
          case measure => have := HI2.out; (simp [intOf]; try omega)
  ·have HR := Lib.hid (show (bs out, (0 : Int)) = R by rw [← HEQ.out, unp_end s i out hi])
   go_wp2_with fail
   refine (bld_string b b out _ HBL.out HSZ.out).mono ?_
   rintro e w2 ⟨rfl, hb2, hB2⟩
   go_wp2_with fail
   go_ret2
   rw [← HR.out]
   exact ⟨rfl, Below.trans HX.out (by rw [← HBB.out]; exact hB2)⟩
theorem enc_good {c : Cat} (h : catFault c = 0) : encCatS c = (bs (catBytes c), 0) := by unfold encCatS; rw [if_pos h]
theorem enc_bad {c : Cat} (h : ¬ catFault c = 0) : encCatS c = (.empty, catFault c) := by unfold encCatS; rw [if_neg h]
theorem ent_join (x : Ent) : bs [byte (x.name.size : Int)] ++ x.name ++ bs [byte x.block] ++ bs (twoB x.at_) ++ bs [byte x.bytes] = bs (entBytes x) := by
 obtain ⟨nm, b, a, n⟩ := x
 obtain ⟨q, rfl⟩ : ∃ q, nm = bs q := ⟨lst nm, (bs_lst nm).symm⟩
 unfold entBytes twoB
 simp only [lst_bs, bs_append]
 congr 1
 simp
theorem ent_len {nb : Nat} {x : Ent} (h : entBad nb x = false) : (entBytes x).length ≤ 13 := by
 have h1 := nameMay_size (entBad_false h).1
 unfold entBytes
 rw [List.length_cons, List.length_append, length_lst]
 simp only [List.length_cons, List.length_nil]
 omega
theorem two_any (n : Int) (w : World) (h0 : 0 ≤ n) (h1 : n ≤ 65535) :
  Calls Tryz.prog 85 #[.int .i64 n] w fun e w' => e = .returned (.string (bs (twoB n))) ∧ Ext w w' := by
 have hq : (0 : Int) ≤ n / 256 := by omega
 have hq2 : n / 256 ≤ 255 := by omega
 go_enter Tryz.func85, Tryz.ntmps85
 go_wp2_with fail
 go_ret
 refine ⟨?_, by first | exact ((Ext.refl _).alloc _) | exact ((Ext.refl _).alloc _).drew⟩
 rfl
theorem catEncode_any (cs : List Value) (d : Cat) (w : World) (h : RCat w cs d) :
  Calls Tryz.prog 54 #[.agg cs.toArray] w fun e w' => e = .returned (.tuple #[.string (encCatS d).1, .int .i64 (encCatS d).2]) ∧ Ext w w' := by
 have h' := h
 obtain ⟨v1, v2, rfl, h1, h2'⟩ := h'
 obtain ⟨A1, c1, rfl, l1, hc1, p1⟩ := h1.rowE encBlk_ok
 obtain ⟨A2, c2, rfl, l2, hc2, s1⟩ := h2'.rowE encEnt_ok
 have HP := Lib.hid p1
 have HS := Lib.hid s1
 have HH := Lib.hid h
 clear h1 h2' l1 hc1 p1 h l2 hc2 s1
 go_enter Tryz.func54, Tryz.ntmps54
 go_wp2_with fail
 refine calls_abs (fun W => Ext w W ∧ Blk_ W w.heap.size 88 #[.slice A1 d.blocks.length c1, .slice A2 d.entries.length c2]) ⟨(Ext.refl _).alloc _, Blk_.new _ _ _⟩ ?_
 rintro W ⟨hx, hb⟩
 refine (catCheck_any [.slice A1 d.blocks.length c1, .slice A2 d.entries.length c2] d W (HH.out.up hx)).mono ?_
 rintro e w1 ⟨rfl, hx1⟩
 have hb1 := hb.ext hx1
 have hxw := hx.trans hx1
 have f0 := hb1.cell 0
 have f1 := hb1.cell 1
 simp at f0 f1
 clear hb hx hx1
 by_cases hc : catFault d = 0
 ·have HF := Lib.hid (enc_good hc)
  have hok := catFault_ok hc
  have HN := Lib.hid (And.intro hok.1 hok.2.1)
  have HBR := Lib.hid (blocksF_range d.blocks 8 (by omega) hok.2.2.1)
  have HER := Lib.hid (entsF_ok _ _ _ hok.2.2.2)
  rw [hc]
  have hn1 : (d.blocks.length : Int) ≤ 10 := by have := hok.1; omega
  have hn2 : (d.entries.length : Int) ≤ 10 := by have := hok.2.1; omega
  have hu1 : IntKind.u8.wrap (d.blocks.length : Int) = (d.blocks.length : Int) := by rw [IntKind.wrap_u8]; omega
  have hu2 : IntKind.u8.wrap (d.entries.length : Int) = (d.entries.length : Int) := by rw [IntKind.wrap_u8]; omega
  obtain ⟨T, hT⟩ : ∃ T, T = catBytes d := ⟨_, rfl⟩
  obtain ⟨REST, hREST⟩ : ∃ r, r = byte d.entries.length :: d.entries.flatMap entBytes := ⟨_, rfl⟩
  have HT := Lib.hid hT
  have HRE := Lib.hid hREST
  have HT0 := Lib.hid (show [byte (d.blocks.length : Int)] ++ ((d.blocks.drop 0).flatMap (fun b => twoB b.bytes) ++ REST) = T by rw [hT, hREST]; rfl)
  clear hc hok hT hREST
  have hl1 := hb1.lt
  go_wp2_with fail
  go_loopw [5, 24] (fun sv i wr => ∃ (k : Nat) (t : List UInt8), sv = .string (bs t) ∧ i = .int .i64 k ∧ k ≤ d.blocks.length ∧ t.length ≤ 1 + 2 * k ∧ Ext w wr ∧ Blk_ wr w.heap.size 88 #[.slice A1 d.blocks.length c1, .slice A2 d.entries.length c2] ∧ t ++ ((d.blocks.drop k).flatMap (fun b => twoB b.bytes) ++ REST) = T) (fun _ i _ => d.blocks.length - (intOf i).toNat)
  case atStart => exact ⟨0, [byte (d.blocks.length : Int)], rfl, rfl, Nat.zero_le _, by simp, by first | exact hxw | exact hxw.alloc _ | exact (hxw.alloc _).drew, by first | exact hb1 | exact hb1.alloc _ | exact (hb1.alloc _).drew, HT0.out⟩
  case round =>
   clear hxw hb1 f0 f1 HT0 hl1
   obtain ⟨k, t, rfl, rfl, hk, htl, hx, hb, heq⟩ := hrel
   have f0 := hb.cell 0
   have f1 := hb.cell 1
   simp at f0 f1
   have HEQ := Lib.hid heq
   clear heq
   obtain ⟨S, hS⟩ : ∃ S, S = bs t := ⟨_, rfl⟩
   have HSS := Lib.hid (show S.size = t.length by rw [hS, size_bs])
   rw [← hS]
   have HSE := Lib.hid hS
   clear hS
   by_cases hlt : k < d.blocks.length
   ·obtain ⟨b1, o1, rfl, g1⟩ := HP.out k hlt
    have q0 := hx.cell (g1 k hlt 0 _ rfl)
    have q1 := hx.cell (g1 k hlt 1 _ rfl)
    simp only [Nat.add_zero] at q0
    have hB0 := HBR.out d.blocks[k] (List.getElem_mem hlt)
    have heq := HEQ.out
    rw [List.drop_eq_getElem_cons hlt, List.flatMap_cons] at heq
    obtain ⟨B, hB⟩ : ∃ B, B = d.blocks[k] := ⟨_, rfl⟩
    rw [← hB] at q0 q1 hB0 heq
    have HNX := Lib.hid (show (t ++ twoB B.bytes) ++ ((d.blocks.drop (k + 1)).flatMap (fun b => twoB b.bytes) ++ REST) = T by rw [List.append_assoc, ← List.append_assoc (twoB B.bytes)]; exact heq)
    clear g1 hB HEQ heq
    have hki : (k : Int) < (d.blocks.length : Int) := by omega
    have hk10 : (k : Int) < 10 := by have := HN.out.1; omega
    go_wp2_with fail
    refine (two_any B.bytes _ hB0.1 (by omega)).mono ?_
    rintro e w9 ⟨rfl, hx9⟩
    have HX9 := Lib.hid (hx.trans (((Ext.refl wr).alloc _).trans hx9))
    have HB9 := Lib.hid (hb.ext (((Ext.refl wr).alloc _).trans hx9))
    obtain ⟨Q, hQ⟩ : ∃ Q, Q = bs (twoB B.bytes) := ⟨_, rfl⟩
    rw [← hQ]
    have HQ := Lib.hid hQ
    have hcc : ¬ (9223372036854775807 < S.size + Q.size) := by rw [HSS.out, hQ, size_bs]; show ¬ (9223372036854775807 < t.length + 2); omega
    clear hx hb hx9 hQ f0 f1 q0 q1
    go_wp2_with fail
    go_roundw
    case rel => exact ⟨k + 1, t ++ twoB B.bytes, by rw [HSE.out, HQ.out, bs_append], by go_num, by omega, by rw [List.length_append]; show t.length + 2 ≤ _; omega, HX9.out, HB9.out, HNX.out⟩
    case measure => simp [intOf]; omega
   ·have HE1 := Lib.hid (show t ++ REST = T by have := HEQ.out; rw [List.drop_of_length_le (by omega)] at this; exact this)
    clear HEQ
    have hk10 : (k : Int) ≤ 10 := by have := HN.out.1; omega
    have hcc : ¬ (9223372036854775807 < S.size + 1) := by rw [HSS.out]; omega
    have hcc' : ¬ (9223372036854775807 < S.size + (bs [byte (d.entries.length : Int)]).size) := by rw [size_bs]; exact hcc
    have HX0 := Lib.hid hx
    have HBL0 := Lib.hid hb
    have hl0 := hb.lt
    go_wp2_with fail
    go_loopw [5, 45] (fun sv i wr => ∃ (k : Nat) (t : List UInt8), sv = .string (bs t) ∧ i = .int .i64 k ∧ k ≤ d.entries.length ∧ t.length ≤ 22 + 13 * k ∧ Ext w wr ∧ Blk_ wr w.heap.size 88 #[.slice A1 d.blocks.length c1, .slice A2 d.entries.length c2] ∧ t ++ (d.entries.drop k).flatMap entBytes = T) (fun _ i _ => d.entries.length - (intOf i).toNat)
    case atStart => exact ⟨0, t ++ [byte (d.entries.length : Int)], by rw [HSE.out, bs_append], rfl, Nat.zero_le _, by rw [List.length_append]; show t.length + 1 ≤ _; have := HN.out.1; omega, by first | exact HX0.out | exact HX0.out.alloc _ | exact (HX0.out.alloc _).drew, by first | exact HBL0.out | exact HBL0.out.alloc _ | exact (HBL0.out.alloc _).drew, by have := HE1.out; rw [HRE.out] at this; rw [List.append_assoc]; exact this⟩
    case round =>
     clear hx hb hl0 f0 f1 hlt hk hk10 htl hcc hcc' HSS HSE HE1 HX0 HBL0
     obtain ⟨k, t, rfl, rfl, hk, htl, hx, hb, heq⟩ := hrel
     have f0 := hb.cell 0
     have f1 := hb.cell 1
     simp at f0 f1
     have HEQ := Lib.hid heq
     clear heq
     obtain ⟨S, hS⟩ : ∃ S, S = bs t := ⟨_, rfl⟩
     have HSS := Lib.hid (show S.size = t.length by rw [hS, size_bs])
     rw [← hS]
     have HSE := Lib.hid hS
     clear hS
     by_cases hlt : k < d.entries.length
     ·obtain ⟨b2, o2, rfl, g1⟩ := HS.out k hlt
      have q0 := hx.cell (g1 k hlt 0 _ rfl)
      have q1 := hx.cell (g1 k hlt 1 _ rfl)
      have q2 := hx.cell (g1 k hlt 2 _ rfl)
      have q3 := hx.cell (g1 k hlt 3 _ rfl)
      simp only [Nat.add_zero] at q0
      have hX0 := HER.out d.entries[k] (List.getElem_mem hlt)
      have heq := HEQ.out
      rw [List.drop_eq_getElem_cons hlt, List.flatMap_cons] at heq
      obtain ⟨X, hX⟩ : ∃ X, X = d.entries[k] := ⟨_, rfl⟩
      rw [← hX] at q0 q1 q2 q3 hX0 heq
      have hXL := ent_len hX0
      have hXB := entBad_false hX0
      have hXN := nameMay_size hXB.1
      have HNX := Lib.hid (show (t ++ entBytes X) ++ (d.entries.drop (k + 1)).flatMap entBytes = T by rw [List.append_assoc]; exact heq)
      have HXL := Lib.hid hXL
      have hb10 : X.block < 10 := by have := hXB.2.2.1; have := HN.out.1; omega
      obtain ⟨_, hb0, _, ha0, ha1, hn0, hn1'⟩ := hXB
      clear g1 hX HEQ heq hX0 hXL
      have hki : (k : Int) < (d.entries.length : Int) := by omega
      have hk10 : (k : Int) < 10 := by have := HN.out.2; omega
      obtain ⟨Q, hQ⟩ : ∃ Q, Q = bs (twoB X.at_) := ⟨_, rfl⟩
      have HQS := Lib.hid (show Q.size = 2 by rw [hQ, size_bs]; rfl)
      have HQ := Lib.hid hQ
      have HJ := Lib.hid (show S ++ (bs [byte (X.name.size : Int)] ++ X.name ++ bs [byte X.block] ++ Q ++ bs [byte X.bytes]) = bs (t ++ entBytes X) by rw [hQ, ent_join, HSE.out, bs_append])
      clear hQ
      have hk10' : k < 10 := by omega
      go_wp2_with fail
      refine wp_abs (fun W => Ext wr W ∧ Blk_ W wr.heap.size 113 #[.string X.name, .int .i64 X.block, .int .i64 X.at_, .int .i64 X.bytes]) ⟨(Ext.refl _).alloc _, Blk_.new _ _ _⟩ ?_
      rintro W1 ⟨hx1, hbx⟩
      have e0 := hbx.cell 0
      have e1 := hbx.cell 1
      have e2 := hbx.cell 2
      have e3 := hbx.cell 3
      simp at e0 e1 e2 e3
      have HX1 := Lib.hid (hx.trans hx1)
      have HB1 := Lib.hid (hb.ext hx1)
      clear hx hb hx1 hbx f0 f1 q0 q1 q2 q3
      refine wp_region_vals (F := ?_) ?_ [(fun (v : Value) (_ : World) => v = .string S), (fun (v : Value) (_ : World) => v = .pointer (some ⟨wr.heap.size, 0, none⟩)), (fun (v : Value) (_ : World) => v = .string X.name), (fun (v : Value) (_ : World) => v = .int .i64 (X.name.size : Int)), (fun (v : Value) (_ : World) => v = .int .u8 (X.name.size : Int)), (fun v w => ∃ g, v = .slice (some ⟨g, 0, none⟩) 1 1 ∧ Blk_ w g 5 #[.int .u8 (X.name.size : Int)]), (fun (v : Value) (_ : World) => v = .string (bs [byte (X.name.size : Int)])), (fun (v : Value) (_ : World) => v = .pointer (some ⟨wr.heap.size, 0, none⟩)), (fun (v : Value) (_ : World) => v = .string X.name), (fun (v : Value) (_ : World) => v = .string (bs [byte (X.name.size : Int)] ++ X.name)), (fun (v : Value) (_ : World) => v = .pointer (some ⟨wr.heap.size, 1, none⟩)), (fun (v : Value) (_ : World) => v = .int .i64 X.block), (fun (v : Value) (_ : World) => v = .int .u8 X.block), (fun v w => ∃ g, v = .slice (some ⟨g, 0, none⟩) 1 1 ∧ Blk_ w g 5 #[.int .u8 X.block]), (fun (v : Value) (_ : World) => v = .string (bs [byte X.block])), (fun (v : Value) (_ : World) => v = .string (bs [byte (X.name.size : Int)] ++ X.name ++ bs [byte X.block])), (fun (v : Value) (_ : World) => v = .pointer (some ⟨wr.heap.size, 2, none⟩)), (fun (v : Value) (_ : World) => v = .int .i64 X.at_), (fun (v : Value) (_ : World) => v = .string Q), (fun (v : Value) (_ : World) => v = .string (bs [byte (X.name.size : Int)] ++ X.name ++ bs [byte X.block] ++ Q)), (fun (v : Value) (_ : World) => v = .pointer (some ⟨wr.heap.size, 3, none⟩)), (fun (v : Value) (_ : World) => v = .int .i64 X.bytes), (fun (v : Value) (_ : World) => v = .int .u8 X.bytes), (fun v w => ∃ g, v = .slice (some ⟨g, 0, none⟩) 1 1 ∧ Blk_ w g 5 #[.int .u8 X.bytes]), (fun (v : Value) (_ : World) => v = .string (bs [byte X.bytes])), (fun (v : Value) (_ : World) => v = .string (bs [byte (X.name.size : Int)] ++ X.name ++ bs [byte X.block] ++ Q ++ bs [byte X.bytes])), (fun (v : Value) (_ : World) => v = .string (S ++ (bs [byte (X.name.size : Int)] ++ X.name ++ bs [byte X.block] ++ Q ++ bs [byte X.bytes]))), (fun (v : Value) (_ : World) => v = .string (S ++ (bs [byte (X.name.size : Int)] ++ X.name ++ bs [byte X.block] ++ Q ++ bs [byte X.bytes])))] (by kernel_rfl) (by kernel_rfl) ?_ ?_ ?_
      rotate_left
      ·intro vals
       simp only [putAll, Act.put, List.setIfInBounds_toArray, List.set_cons_zero, List.set_cons_succ, Nat.zero_add, Nat.reduceAdd]
       rfl
      ·simp only [List.forall_mem_cons]
       exact ⟨fun _ _ _ h _ => h, fun _ _ _ h _ => h, fun _ _ _ h _ => h, fun _ _ _ h _ => h, fun _ _ _ h _ => h, fun _ _ _ h e => (by obtain ⟨g, hg, hb⟩ := h; exact ⟨g, hg, hb.ext e⟩), fun _ _ _ h _ => h, fun _ _ _ h _ => h, fun _ _ _ h _ => h, fun _ _ _ h _ => h, fun _ _ _ h _ => h, fun _ _ _ h _ => h, fun _ _ _ h _ => h, fun _ _ _ h e => (by obtain ⟨g, hg, hb⟩ := h; exact ⟨g, hg, hb.ext e⟩), fun _ _ _ h _ => h, fun _ _ _ h _ => h, fun _ _ _ h _ => h, fun _ _ _ h _ => h, fun _ _ _ h _ => h, fun _ _ _ h _ => h, fun _ _ _ h _ => h, fun _ _ _ h _ => h, fun _ _ _ h _ => h, fun _ _ _ h e => (by obtain ⟨g, hg, hb⟩ := h; exact ⟨g, hg, hb.ext e⟩), fun _ _ _ h _ => h, fun _ _ _ h _ => h, fun _ _ _ h _ => h, fun _ _ _ h _ => h, fun _ h => (by cases h)⟩
      ·refine ⟨?_, ?_, ?_, ?_, ?_, ?_, ?_, ?_, ?_, ?_, ?_, ?_, ?_, ?_, ?_, ?_, ?_, ?_, ?_, ?_, ?_, ?_, ?_, ?_, ?_, ?_, ?_, ?_, trivial⟩
       ·intro vals W e hd ho K hK
        have o27 : vals 27 = .string S := ho 27 (by kernel_rfl)
        exact st_q hK (by go_simp; rfl)
       ·intro vals W e hd ho K hK
        exact st_q hK (by go_simp; rfl)
       ·intro vals W e hd ho K hK
        have h1 : vals 1 = .pointer (some ⟨wr.heap.size, 0, none⟩) := hd 1 (by kernel_rfl)
        have cc := e.cell e0
        refine st_quiet (v := ?_) ?_ ?_
        rotate_left
        ·go_simp
         rfl
        exact hK _ _ _ rfl rfl (Ext.refl _)
       ·intro vals W e hd ho K hK
        have h2 : vals 2 = .string X.name := hd 2 (by kernel_rfl)
        exact st_q hK (by go_simp; rfl)
       ·intro vals W e hd ho K hK
        have h3 : vals 3 = .int .i64 (X.name.size : Int) := hd 3 (by kernel_rfl)
        exact st_q hK (by go_simp; rfl)
       ·intro vals W e hd ho K hK
        have h4 : vals 4 = .int .u8 (X.name.size : Int) := hd 4 (by kernel_rfl)
        go_wp2_with fail
        exact hK _ _ _ (by first | rfl | (simp only [h4]; rfl)) ⟨W.heap.size, rfl, Blk_.new _ _ _⟩ ((Ext.refl W).alloc _)
       ·intro vals W e hd ho K hK
        obtain ⟨g5, h5, b5⟩ := hd 5 (by kernel_rfl)
        refine wp_conv1 (.tmp 54) 95 9 5 rfl Tryz.underlying95 Tryz.underlying5 Tryz.underlying9 g5 _ (by go_simp; try rfl) b5 ?_
        exact hK _ _ _ rfl rfl (Ext.refl _)
       ·intro vals W e hd ho K hK
        exact st_q hK (by go_simp; rfl)
       ·intro vals W e hd ho K hK
        have h7 : vals 7 = .pointer (some ⟨wr.heap.size, 0, none⟩) := hd 7 (by kernel_rfl)
        have cc := e.cell e0
        refine st_quiet (v := ?_) ?_ ?_
        rotate_left
        ·go_simp
         rfl
        exact hK _ _ _ rfl rfl (Ext.refl _)
       ·intro vals W e hd ho K hK
        have h6 : vals 6 = .string (bs [byte (X.name.size : Int)]) := hd 6 (by kernel_rfl)
        have h8 : vals 8 = .string X.name := hd 8 (by kernel_rfl)
        refine st_concat (.tmp 55) (.tmp 57) _ _ _ _ rfl h6 h8 (by rw [size_bs]; simp only [List.length_cons, List.length_nil]; omega) ?_
        exact hK _ _ _ rfl rfl (Ext.refl _)
       ·intro vals W e hd ho K hK
        exact st_q hK (by go_simp; rfl)
       ·intro vals W e hd ho K hK
        have h10 : vals 10 = .pointer (some ⟨wr.heap.size, 1, none⟩) := hd 10 (by kernel_rfl)
        have cc := e.cell e1
        refine st_quiet (v := ?_) ?_ ?_
        rotate_left
        ·go_simp
         rfl
        exact hK _ _ _ rfl rfl (Ext.refl _)
       ·intro vals W e hd ho K hK
        have h11 : vals 11 = .int .i64 X.block := hd 11 (by kernel_rfl)
        exact st_q hK (by go_simp; rfl)
       ·intro vals W e hd ho K hK
        have h12 : vals 12 = .int .u8 X.block := hd 12 (by kernel_rfl)
        go_wp2_with fail
        exact hK _ _ _ (by first | rfl | (simp only [h12]; rfl)) ⟨W.heap.size, rfl, Blk_.new _ _ _⟩ ((Ext.refl W).alloc _)
       ·intro vals W e hd ho K hK
        obtain ⟨g13, h13, b13⟩ := hd 13 (by kernel_rfl)
        refine wp_conv1 (.tmp 62) 95 9 5 rfl Tryz.underlying95 Tryz.underlying5 Tryz.underlying9 g13 _ (by go_simp; try rfl) b13 ?_
        exact hK _ _ _ rfl rfl (Ext.refl _)
       ·intro vals W e hd ho K hK
        have h9 : vals 9 = .string (bs [byte (X.name.size : Int)] ++ X.name) := hd 9 (by kernel_rfl)
        have h14 : vals 14 = .string (bs [byte X.block]) := hd 14 (by kernel_rfl)
        refine st_concat (.tmp 58) (.tmp 63) _ _ _ _ rfl h9 h14 (by rw [ByteArray.size_append, size_bs, size_bs]; simp only [List.length_cons, List.length_nil]; omega) ?_
        exact hK _ _ _ rfl rfl (Ext.refl _)
       ·intro vals W e hd ho K hK
        exact st_q hK (by go_simp; rfl)
       ·intro vals W e hd ho K hK
        have h16 : vals 16 = .pointer (some ⟨wr.heap.size, 2, none⟩) := hd 16 (by kernel_rfl)
        have cc := e.cell e2
        refine st_quiet (v := ?_) ?_ ?_
        rotate_left
        ·go_simp
         rfl
        exact hK _ _ _ rfl rfl (Ext.refl _)
       ·intro vals W e hd ho K hK
        have h17 : vals 17 = .int .i64 X.at_ := hd 17 (by kernel_rfl)
        go_wp2_with fail
        refine (two_any X.at_ _ ha0 (by omega)).mono ?_
        rintro e' W' ⟨rfl, h'⟩
        exact hK _ _ _ (by first | rfl | (simp only [h17]; rfl)) (congrArg Value.string HQ.out.symm) h'
       ·intro vals W e hd ho K hK
        have h15 : vals 15 = .string (bs [byte (X.name.size : Int)] ++ X.name ++ bs [byte X.block]) := hd 15 (by kernel_rfl)
        have h18 : vals 18 = .string Q := hd 18 (by kernel_rfl)
        refine st_concat (.tmp 64) (.tmp 67) _ _ _ _ rfl h15 h18 (by have := HQS.out; rw [ByteArray.size_append, ByteArray.size_append, size_bs, size_bs]; simp only [List.length_cons, List.length_nil]; omega) ?_
        exact hK _ _ _ rfl rfl (Ext.refl _)
       ·intro vals W e hd ho K hK
        exact st_q hK (by go_simp; rfl)
       ·intro vals W e hd ho K hK
        have h20 : vals 20 = .pointer (some ⟨wr.heap.size, 3, none⟩) := hd 20 (by kernel_rfl)
        have cc := e.cell e3
        refine st_quiet (v := ?_) ?_ ?_
        rotate_left
        ·go_simp
         rfl
        exact hK _ _ _ rfl rfl (Ext.refl _)
       ·intro vals W e hd ho K hK
        have h21 : vals 21 = .int .i64 X.bytes := hd 21 (by kernel_rfl)
        exact st_q hK (by go_simp; rfl)
       ·intro vals W e hd ho K hK
        have h22 : vals 22 = .int .u8 X.bytes := hd 22 (by kernel_rfl)
        go_wp2_with fail
        exact hK _ _ _ (by first | rfl | (simp only [h22]; rfl)) ⟨W.heap.size, rfl, Blk_.new _ _ _⟩ ((Ext.refl W).alloc _)
       ·intro vals W e hd ho K hK
        obtain ⟨g23, h23, b23⟩ := hd 23 (by kernel_rfl)
        refine wp_conv1 (.tmp 72) 95 9 5 rfl Tryz.underlying95 Tryz.underlying5 Tryz.underlying9 g23 _ (by go_simp; try rfl) b23 ?_
        exact hK _ _ _ rfl rfl (Ext.refl _)
       ·intro vals W e hd ho K hK
        have h19 : vals 19 = .string (bs [byte (X.name.size : Int)] ++ X.name ++ bs [byte X.block] ++ Q) := hd 19 (by kernel_rfl)
        have h24 : vals 24 = .string (bs [byte X.bytes]) := hd 24 (by kernel_rfl)
        refine st_concat (.tmp 68) (.tmp 73) _ _ _ _ rfl h19 h24 (by have := HQS.out; rw [ByteArray.size_append, ByteArray.size_append, ByteArray.size_append, size_bs, size_bs, size_bs]; simp only [List.length_cons, List.length_nil]; omega) ?_
        exact hK _ _ _ rfl rfl (Ext.refl _)
       ·intro vals W e hd ho K hK
        have h0 : vals 0 = .string S := hd 0 (by kernel_rfl)
        have h25 : vals 25 = .string (bs [byte (X.name.size : Int)] ++ X.name ++ bs [byte X.block] ++ Q ++ bs [byte X.bytes]) := hd 25 (by kernel_rfl)
        refine st_concat (.tmp 49) (.tmp 74) _ _ _ _ rfl h0 h25 (by have := HQS.out; have := HSS.out; have := HN.out.2; rw [ByteArray.size_append, ByteArray.size_append, ByteArray.size_append, ByteArray.size_append, size_bs, size_bs, size_bs]; simp only [List.length_cons, List.length_nil]; omega) ?_
        exact hK _ _ _ rfl rfl (Ext.refl _)
       ·intro vals W e hd ho K hK
        have h26 : vals 26 = .string (S ++ (bs [byte (X.name.size : Int)] ++ X.name ++ bs [byte X.block] ++ Q ++ bs [byte X.bytes])) := hd 26 (by kernel_rfl)
        exact st_q hK (by go_simp; rfl)
      intro vals W e hall
      have h27 : vals 27 = .string (S ++ (bs [byte (X.name.size : Int)] ++ X.name ++ bs [byte X.block] ++ Q ++ bs [byte X.bytes])) := hall 27 (by decide)
      rw [HJ.out] at h27
      go_wp2_with fail
      go_roundw
      case rel => exact ⟨k + 1, t ++ entBytes X, h27, by go_num, by omega, by rw [List.length_append]; have := HXL.out; omega, HX1.out.trans ((Ext.refl _).drew.trans e), HB1.out.ext ((Ext.refl _).drew.trans e), HNX.out⟩
      case measure => simp [intOf]; omega
     ·have HE2 := Lib.hid (show t = T by have := HEQ.out; rw [List.drop_of_length_le (by omega)] at this; simpa using this)
      clear HEQ
      have hk10 : (k : Int) ≤ 10 := by have := HN.out.2; omega
      go_wp2_with fail
      go_ret2
      rw [HF.out, HSE.out, HE2.out, HT.out]
      exact ⟨rfl, hx⟩
 ·have HF := Lib.hid (enc_bad hc)
  have hc' : (catFault d != 0) = true := by simpa using hc
  clear hc hb1
  generalize catFault d = t at *
  go_wp2_with fail
  go_ret2
  rw [HF.out]
  exact ⟨rfl, hxw⟩
theorem own_ne {w : World} {base : Nat} {e e' : TypeId} {size n g : Nat} {v : Value} {xs : List Value} {cs : Array Value} (h : w.ownsRow base e size v n xs) (hb : Blk_ w g e' cs) (hne : e ≠ e') : ∀ k, v.ownBlock = some k → k ≠ g := by
 rintro k hk rfl
 rcases h.2 with ⟨hv, _⟩ | ⟨g', cap, cur, hv, _, hg, _⟩
 ·rw [hv] at hk; cases hk
 ·rw [hv] at hk
  obtain rfl : g' = k := by injection hk
  unfold Blk_ at hb
  rw [hg] at hb
  injection hb with hb
  injection hb with _ h2 _
  exact hne h2
end Go.Proofs.YtgjijcgkmofaaaaGreatDoor
namespace Go.Proofs.YtgjijcgkmofaaaaGreatDoor
set_option linter.unusedSimpArgs false
set_option linter.unusedVariables false
set_option maxRecDepth 100000
set_option maxHeartbeats 8000000
open Go.Shelf
def Tryz.laysC_ren : Go.Shelf.Ren := ⟨fun | 106 => 79 | 213 => 125 | 265 => 165 | n => n, fun | 3 => 3 | 9 => 9 | n => n, fun | n => n⟩
theorem Tryz.laysC106 : Go.Proofs.Lays.n106 Tryz.prog Tryz.laysC_ren := {
 mixed := by kernel_rfl
 f106 := Tryz.func79.trans (congrArg some (by kernel_rfl))
 f213 := Tryz.func125.trans (congrArg some (by kernel_rfl))
 f265 := Tryz.func165.trans (congrArg some (by kernel_rfl))
 t3 := Tryz.underlying3
 a3 := Tryz.isAgg3
 z3 := Tryz.sizeOf3
 v3 := Tryz.zeroValue3
 t9 := Tryz.underlying9
 a9 := Tryz.isAgg9
 z9 := Tryz.sizeOf9
 v9 := Tryz.zeroValue9 }
open Go.RowKit Go.Lib
theorem compare_any (a b : ByteArray) (w : World) :
  Calls Tryz.prog 79 #[.string a, .string b] w fun e w' => e = .returned (.int .i64 (Lib.compareBytes a.data.toList b.data.toList)) ∧ w' = w := Any.strings_Compare Tryz.laysC106 a b w
end Go.Proofs.YtgjijcgkmofaaaaGreatDoor
namespace Go.Proofs.YtgjijcgkmofaaaaGreatDoor
set_option linter.unusedSimpArgs false
set_option linter.unusedVariables false
set_option maxRecDepth 100000
set_option maxHeartbeats 8000000
open Go.RowKit
theorem cmp_neg : ∀ a b : List UInt8, decide (Lib.compareBytes a b < 0) = Op.bytesLess a b
 | [], [] => rfl
 | [], _ :: _ => rfl
 | _ :: _, [] => rfl
 | a :: x, b :: y => by
  have ih := cmp_neg x y
  unfold Lib.compareBytes Op.bytesLess
  by_cases h1 : a < b
  ·simp [h1]
  ·by_cases h2 : b < a
   ·have hne : (a == b) = false := by
     apply beq_false_of_ne
     rintro rfl
     exact UInt8.lt_irrefl a h2
    simp [h1, h2, hne]
   ·have he : a = b := by
     have h1' : ¬ a.toNat < b.toNat := h1
     have h2' : ¬ b.toNat < a.toNat := h2
     exact UInt8.toNat_inj.1 (by omega)
    subst he
    simp only [h1, if_false, ih, decide_false, Bool.false_or, beq_self_eq_true, Bool.true_and]
theorem cmp_zero : ∀ a b : List UInt8, Lib.compareBytes a b = 0 ↔ a = b
 | [], [] => by simp [Lib.compareBytes]
 | [], _ :: _ => by simp [Lib.compareBytes]
 | _ :: _, [] => by simp [Lib.compareBytes]
 | a :: x, b :: y => by
  have ih := cmp_zero x y
  unfold Lib.compareBytes
  by_cases h1 : a < b
  ·rw [if_pos h1]
   constructor
   ·intro h; exact absurd h (by decide)
   ·intro h; injection h with h3 h4; subst h3; exact absurd h1 (UInt8.lt_irrefl a)
  ·rw [if_neg h1]
   by_cases h2 : b < a
   ·rw [if_pos h2]
    constructor
    ·intro h; exact absurd h (by decide)
    ·intro h; injection h with h3 h4; subst h3; exact absurd h2 (UInt8.lt_irrefl a)
   ·rw [if_neg h2, ih]
    have he : a = b := by
     have h1' : ¬ a.toNat < b.toNat := h1
     have h2' : ¬ b.toNat < a.toNat := h2
     exact UInt8.toNat_inj.1 (by omega)
    subst he
    simp
theorem bl_irrefl : ∀ a : List UInt8, Op.bytesLess a a = false
 | [] => rfl
 | a :: x => by
  unfold Op.bytesLess
  rw [bl_irrefl x]
  have : (decide (a < a)) = false := decide_eq_false (UInt8.lt_irrefl a)
  simp [this]
theorem bl_trans : ∀ a b c : List UInt8, Op.bytesLess a b = true → Op.bytesLess b c = true → Op.bytesLess a c = true
 | _, _, [], _, h => by rename_i b _; cases b <;> cases h
 | [], _, _ :: _, _, _ => rfl
 | a :: x, [], _ :: _, h, _ => by cases h
 | a :: x, b :: y, c :: z, h1, h2 => by
  have ih := bl_trans x y z
  unfold Op.bytesLess at h1 h2 ⊢
  have hlt : ∀ c d : UInt8, (decide (c < d)) = decide (c.toNat < d.toNat) := fun c d => by simp [UInt8.lt_iff_toNat_lt]
  have heq : ∀ c d : UInt8, (c == d) = decide (c.toNat = d.toNat) := fun c d => by
   by_cases h : c = d
   ·subst h; simp
   ·have : c.toNat ≠ d.toNat := fun e => h (UInt8.toNat_inj.1 e)
    simp [h, this]
  simp only [hlt, heq, Bool.or_eq_true, Bool.and_eq_true, decide_eq_true_eq] at h1 h2 ⊢
  rcases h1 with h1 | ⟨h1, h1'⟩ <;> rcases h2 with h2 | ⟨h2, h2'⟩
  ·left; omega
  ·left; omega
  ·left; omega
  ·right; exact ⟨by omega, ih h1' h2'⟩
def Rising (l : List Ent) : Prop := ∀ i j (hi : i < l.length) (hj : j < l.length), i < j → Op.bytesLess (lst l[i].name) (lst l[j].name) = true
theorem ents_rising (nb : Nat) : ∀ (l : List Ent) (p : Option ByteArray), entsF nb p l = 0 → Rising l ∧ ∀ q, p = some q → ∀ x ∈ l, Op.bytesLess (lst q) (lst x.name) = true
 | [], _, _ => ⟨fun i j hi => by simp at hi, fun _ _ x hx => by cases hx⟩
 | y :: l, p, h => by
  unfold entsF at h
  split at h
  ·exact absurd h (by decide)
  ·split at h
   ·exact absurd h (by decide)
   ·rename_i h2
    obtain ⟨h3, h4⟩ := ents_rising nb l _ h
    have h5 := h4 y.name rfl
    refine ⟨?_, ?_⟩
    ·intro i j hi hj hij
     match i, j with
     | 0, j + 1 =>
      rw [List.getElem_cons_zero, List.getElem_cons_succ]
      exact h5 _ (List.getElem_mem _)
     | i + 1, j + 1 =>
      rw [List.getElem_cons_succ, List.getElem_cons_succ]
      exact h3 i j (by simpa using hi) (by simpa using hj) (by omega)
    ·rintro q rfl x hx
     have h6 : Op.bytesLess (lst q) (lst y.name) = true := by
      unfold orderBad at h2
      simp only [Bool.not_eq_true, Bool.not_eq_false'] at h2
      rwa [toList_lst, toList_lst] at h2
     rcases List.mem_cons.1 hx with rfl | hx
     ·exact h6
     ·exact bl_trans _ _ _ h6 (h5 x hx)
theorem find_first {l : List Ent} {p : Ent → Bool} {i : Nat} (hi : i < l.length) (h1 : ∀ k (hk : k < l.length), k < i → p l[k] = false) (h2 : p l[i] = true) : l.find? p = some l[i] := by
 induction l generalizing i with
 | nil => simp at hi
 | cons a l ih =>
  cases i with
  | zero => rw [List.find?_cons, List.getElem_cons_zero] at *; rw [h2]
  | succ i =>
   have h0 := h1 0 (by simp) (by omega)
   rw [List.getElem_cons_zero] at h0
   rw [List.find?_cons, h0, List.getElem_cons_succ]
   rw [List.getElem_cons_succ] at h2
   exact ih (by simpa using hi) (fun k hk hki => by have := h1 (k + 1) (by simpa using hk) (by omega); rwa [List.getElem_cons_succ] at this) h2
theorem find_never {l : List Ent} {p : Ent → Bool} (h1 : ∀ k (hk : k < l.length), p l[k] = false) : l.find? p = none := by
 rw [List.find?_eq_none]
 intro x hx
 obtain ⟨k, hk, rfl⟩ := List.getElem_of_mem hx
 rw [h1 k hk]; decide
def Cut_ (l : List Ent) (t : ByteArray) (i j : Nat) : Prop := (∀ k (hk : k < l.length), k < i → Op.bytesLess (lst l[k].name) (lst t) = true) ∧ ∀ k (hk : k < l.length), j ≤ k → Op.bytesLess (lst l[k].name) (lst t) = false
theorem cut_start (l : List Ent) (t : ByteArray) : Cut_ l t 0 l.length := ⟨fun k _ h => by omega, fun k hk h => by omega⟩
theorem cut_up {l : List Ent} {t : ByteArray} {i j h : Nat} (hs : Rising l) (hc : Cut_ l t i j) (hh : h < l.length) (hl : Op.bytesLess (lst l[h].name) (lst t) = true) : Cut_ l t (h + 1) j := by
 refine ⟨fun k hk hkh => ?_, hc.2⟩
 by_cases he : k = h
 ·subst he; exact hl
 ·exact bl_trans _ _ _ (hs k h hk hh (by omega)) hl
theorem cut_down {l : List Ent} {t : ByteArray} {i j h : Nat} (hs : Rising l) (hc : Cut_ l t i j) (hh : h < l.length) (hl : Op.bytesLess (lst l[h].name) (lst t) = false) : Cut_ l t i h := by
 refine ⟨hc.1, fun k hk hkh => ?_⟩
 by_cases he : k = h
 ·subst he; exact hl
 ·cases hb : Op.bytesLess (lst l[k].name) (lst t) with
  | false => rfl
  | true => rw [bl_trans _ _ _ (hs h k hh hk (by omega)) hb] at hl; cases hl
theorem cut_found {l : List Ent} {t : ByteArray} {i : Nat} (hc : Cut_ l t i i) (hi : i < l.length) (he : lst l[i].name = lst t) : l.find? (fun x => decide (lst x.name = lst t)) = some l[i] := by
 refine find_first hi (fun k hk hki => ?_) (decide_eq_true he)
 apply decide_eq_false
 intro h
 have := hc.1 k hk hki
 rw [h, bl_irrefl] at this
 cases this
theorem cut_not {l : List Ent} {t : ByteArray} {i : Nat} (hs : Rising l) (hc : Cut_ l t i i) (h : ∀ hi : i < l.length, lst l[i].name ≠ lst t) : l.find? (fun x => decide (lst x.name = lst t)) = none := by
 refine find_never (fun k hk => decide_eq_false fun he => ?_)
 by_cases h1 : k < i
 ·have := hc.1 k hk h1
  rw [he, bl_irrefl] at this
  cases this
 ·by_cases h2 : k = i
  ·subst h2; exact h hk he
  ·have h3 := hs i k (by omega) hk (by omega)
   rw [he] at h3
   have h4 := hc.2 i (by omega) (Nat.le_refl _)
   rw [h3] at h4
   cases h4
def entV (x : Ent) : Value := .agg #[.string x.name, .int .i64 x.block, .int .i64 x.at_, .int .i64 x.bytes]
theorem find_bad {c : Cat} {t : ByteArray} (h : ¬ catFault c = 0) : findS c t = (noEnt, catFault c) := by unfold findS; rw [if_neg h]
theorem find_none {c : Cat} {t : ByteArray} (h : catFault c = 0) (hf : c.entries.find? (fun x => decide (lst x.name = lst t)) = none) : findS c t = (noEnt, 6) := by unfold findS; rw [if_pos h, hf]
theorem find_some {c : Cat} {t : ByteArray} {x : Ent} (h : catFault c = 0) (hf : c.entries.find? (fun x => decide (lst x.name = lst t)) = some x) : findS c t = (x, 0) := by unfold findS; rw [if_pos h, hf]
theorem cmp1_any (x : Ent) (t : ByteArray) (w : World) :
  Calls Tryz.prog 92 #[entV x, .string t] w fun e w' => e = .returned (.int .i64 (Lib.compareBytes (lst x.name) (lst t))) ∧ Ext w w' := by
 unfold entV
 go_enter Tryz.func92, Tryz.ntmps92
 go_wp2_with fail
 refine (compare_any x.name t _).mono ?_
 rintro e w1 ⟨rfl, rfl⟩
 go_wp2_with fail
 go_ret
 exact ⟨rfl, (Ext.refl w).alloc _⟩
theorem search_any (A2 : Option Addr) (c2 : Nat) (l : List Ent) (t : ByteArray) (w : World)
  (hS : ∀ k, k < l.length → ∃ b o, A2 = some ⟨b, o, none⟩ ∧ ∀ (i : Nat) (hi : i < l.length) (j : Nat) (u : Value), (encEnt l[i])[j]? = some u → w.cell? ⟨b, o + i * 4 + j, none⟩ = some u)
  (hr : Rising l) (hn : l.length ≤ 10) :
  Calls Tryz.prog 77 #[.slice A2 l.length c2, .string t, .func (.func 92) #[] #[]] w fun e w' => ∃ (i : Nat) (b : Bool), e = .returned (.tuple #[.int .i64 i, .bool b]) ∧ Ext w w' ∧
   (b = true → ∃ h : i < l.length, l.find? (fun x => decide (lst x.name = lst t)) = some l[i]) ∧ (b = false → l.find? (fun x => decide (lst x.name = lst t)) = none) := by
 have HS := Lib.hid hS
 have HR := Lib.hid hr
 have hn10 : (l.length : Int) ≤ 10 := by omega
 clear hS hr
 go_enter Tryz.func77, Tryz.ntmps77
 go_wp2_with fail
 go_loopw [9, 10] (fun iv jv wr => ∃ i j : Nat, iv = .int .i64 i ∧ jv = .int .i64 j ∧ i ≤ j ∧ j ≤ l.length ∧ Ext w wr ∧ Cut_ l t i j) (fun iv jv _ => (intOf jv).toNat - (intOf iv).toNat)
 case atStart => exact ⟨0, l.length, rfl, rfl, Nat.zero_le _, Nat.le_refl _, Ext.refl _, cut_start l t⟩
 case round =>
  obtain ⟨i, j, rfl, rfl, hij, hj, hx, hc⟩ := hrel
  have HC := Lib.hid hc
  clear hc
  by_cases hlt : i < j
  ·obtain ⟨h, hh⟩ : ∃ h, h = (i + j) / 2 := ⟨_, rfl⟩
   have hhl : h < l.length := by omega
   have hih : i ≤ h ∧ h < j := by omega
   have y1 : IntKind.u64.wrap ((i : Int) + (j : Int)) = (i : Int) + (j : Int) := by rw [IntKind.wrap_u64]; omega
   have y2 : ((i : Int) + (j : Int)) / 2 = (h : Int) := by omega
   have y3 : IntKind.i64.wrap (h : Int) = (h : Int) := by rw [IntKind.wrap_i64]; omega
   have hh10 : (h : Int) < 10 := by omega
   have hhI : (h : Int) < (l.length : Int) := by omega
   obtain ⟨b2, o2, rfl, g1⟩ := HS.out h hhl
   have q0 := hx.cell (g1 h hhl 0 _ rfl)
   have q1 := hx.cell (g1 h hhl 1 _ rfl)
   have q2 := hx.cell (g1 h hhl 2 _ rfl)
   have q3 := hx.cell (g1 h hhl 3 _ rfl)
   simp only [Nat.add_zero] at q0
   have HUP := Lib.hid (fun hl => cut_up HR.out HC.out hhl hl)
   have HDN := Lib.hid (fun hl => cut_down HR.out HC.out hhl hl)
   obtain ⟨X, hX⟩ : ∃ X, X = l[h] := ⟨_, rfl⟩
   rw [← hX] at q0 q1 q2 q3 HUP HDN
   have HIH := Lib.hid (And.intro hih (And.intro hij hj))
   have HX := Lib.hid hx
   have hltI : (i : Int) < (j : Int) := by omega
   have hj10 : (j : Int) ≤ 10 := by omega
   clear g1 hX hh hih hx HC hij hj
   go_wp2_with fail
   refine (cmp1_any X t _).mono ?_
   rintro e w1 ⟨rfl, hx1⟩
   have HX1 := Lib.hid (HX.out.trans hx1)
   have hcn := cmp_neg (lst X.name) (lst t)
   obtain ⟨r, hrr⟩ : ∃ r, r = Lib.compareBytes (lst X.name) (lst t) := ⟨_, rfl⟩
   rw [← hrr] at hcn ⊢
   clear hx1 hrr q0 q1 q2 q3
   cases hb : Op.bytesLess (lst X.name) (lst t) with
   | true =>
    have HU := Lib.hid (HUP.out hb)
    rw [hb] at hcn
    clear hb
    go_wp2_with fail
    go_roundw
    case rel => exact ⟨h + 1, j, by go_num, rfl, by have := HIH.out; omega, HIH.out.2.2, HX1.out, HU.out⟩
    case measure => have := HIH.out; simp [intOf]; omega
   | false =>
    have HD := Lib.hid (HDN.out hb)
    rw [hb] at hcn
    clear hb
    go_wp2_with fail
    go_roundw
    case rel => exact ⟨i, h, rfl, by go_num, HIH.out.1.1, by omega, HX1.out, HD.out⟩
    case measure => have := HIH.out; simp [intOf]; omega
  ·obtain rfl : i = j := by omega
   have HX := Lib.hid hx
   by_cases hi : i < l.length
   ·have hiI : (i : Int) < (l.length : Int) := by omega
    have hi10 : (i : Int) < 10 := by omega
    obtain ⟨b2, o2, rfl, g1⟩ := HS.out i hi
    have q0 := hx.cell (g1 i hi 0 _ rfl)
    have q1 := hx.cell (g1 i hi 1 _ rfl)
    have q2 := hx.cell (g1 i hi 2 _ rfl)
    have q3 := hx.cell (g1 i hi 3 _ rfl)
    simp only [Nat.add_zero] at q0
    have HF := Lib.hid (fun he => cut_found HC.out hi he)
    have HNF := Lib.hid (fun (he : lst l[i].name ≠ lst t) => cut_not HR.out HC.out (fun _ => he))
    have HLX := Lib.hid (show l[i] = l[i] from rfl)
    obtain ⟨X, hX⟩ : ∃ X, X = l[i] := ⟨_, rfl⟩
    rw [← hX] at q0 q1 q2 q3
    have HXE := Lib.hid hX
    clear g1 hX hij hj hx HC
    go_wp2_with fail
    refine (cmp1_any X t _).mono ?_
    rintro e w1 ⟨rfl, hx1⟩
    have HX1 := Lib.hid (HX.out.trans hx1)
    have hcz := cmp_zero (lst X.name) (lst t)
    obtain ⟨r, hrr⟩ : ∃ r, r = Lib.compareBytes (lst X.name) (lst t) := ⟨_, rfl⟩
    rw [← hrr] at hcz ⊢
    clear hx1 hrr q0 q1 q2 q3
    have HI := Lib.hid hi
    by_cases he : lst X.name = lst t
    ·have hr0 : r = 0 := hcz.2 he
     subst hr0
     have HF1 := Lib.hid (HF.out (by rw [← HXE.out]; exact he))
     clear hcz he HF HNF
     go_wp2_with fail
     go_ret2
     exact ⟨i, true, rfl, HX1.out, fun _ => ⟨HI.out, HF1.out⟩, fun h => by cases h⟩
    ·have hr0 : (r == 0) = false := beq_false_of_ne (fun h => he (hcz.1 h))
     have HF1 := Lib.hid (HNF.out (by rw [← HXE.out]; exact he))
     clear hcz he HF HNF
     go_wp2_with fail
     go_ret2
     exact ⟨i, false, rfl, HX1.out, (fun h => by cases h), fun _ => HF1.out⟩
   ·have HNF := Lib.hid (cut_not HR.out HC.out (fun h => absurd h hi))
    have hi10 : (i : Int) ≤ 10 := by omega
    clear hx HC
    go_wp2_with fail
    go_ret2
    exact ⟨i, false, rfl, HX.out, (fun h => by cases h), fun _ => HNF.out⟩
theorem catFind_any (cs : List Value) (d : Cat) (t : ByteArray) (w : World) (h : RCat w cs d) :
  Calls Tryz.prog 57 #[.agg cs.toArray, .string t] w fun e w' => e = .returned (.tuple #[entV (findS d t).1, .int .i64 (findS d t).2]) ∧ Ext w w' := by
 have h' := h
 obtain ⟨v1, v2, rfl, h1, h2'⟩ := h'
 obtain ⟨A1, c1, rfl, l1, hc1, p1⟩ := h1.rowE encBlk_ok
 obtain ⟨A2, c2, rfl, l2, hc2, s1⟩ := h2'.rowE encEnt_ok
 have HS := Lib.hid s1
 have HH := Lib.hid h
 clear h1 h2' l1 hc1 p1 h l2 hc2 s1
 go_enter Tryz.func57, Tryz.ntmps57
 go_wp2_with fail
 refine calls_abs (fun W => Ext w W ∧ Blk_ W w.heap.size 88 #[.slice A1 d.blocks.length c1, .slice A2 d.entries.length c2] ∧ Blk_ W (w.heap.size + 1) 113 #[.string .empty, .int .i64 0, .int .i64 0, .int .i64 0]) ⟨((Ext.refl _).alloc _).alloc _, (Blk_.new _ _ _).alloc _, Blk_.new1 _ _ _ _⟩ ?_
 rintro W ⟨hx, hb, hr⟩
 refine (catCheck_any [.slice A1 d.blocks.length c1, .slice A2 d.entries.length c2] d W (HH.out.up hx)).mono ?_
 rintro e w1 ⟨rfl, hx1⟩
 have hb1 := hb.ext hx1
 have hr1 := hr.ext hx1
 have hxw := hx.trans hx1
 have f1 := hb1.cell 1
 simp at f1
 have HR1 := Lib.hid hr1
 have HX1 := Lib.hid hxw
 have hl1 := hr1.lt
 have HB1 := Lib.hid hb1
 clear hb hr hx hx1 hb1 hr1 hxw
 by_cases hc : catFault d = 0
 ·have HC := Lib.hid hc
  have hok := catFault_ok hc
  have HN := Lib.hid hok.2.1
  have HRI := Lib.hid (ents_rising _ _ _ hok.2.2.2).1
  have hn2 : (d.entries.length : Int) ≤ 10 := by have := hok.2.1; omega
  rw [hc]
  clear hc hok
  go_wp2_with fail
  refine (search_any A2 c2 d.entries t w1 (fun k hk => by
   obtain ⟨b, o, hA, g⟩ := HS.out k hk
   exact ⟨b, o, hA, fun i hi j u hu => HX1.out.cell (g i hi j u hu)⟩) HRI.out HN.out).mono ?_
  rintro e w2 ⟨i, b, rfl, hx2, hy, hn⟩
  have HX2 := Lib.hid (HX1.out.trans hx2)
  have HR2 := Lib.hid (HR1.out.ext hx2)
  have HB2 := Lib.hid (HB1.out.ext hx2)
  have f2 := HB2.out.cell 1
  simp at f2
  have hl2 := HR2.out.lt
  have z0 := HR2.out.frozen 0
  have z1 := HR2.out.frozen 1
  have z2 := HR2.out.frozen 2
  have z3 := HR2.out.frozen 3
  have m0 := HR2.out.cell 0
  have m1 := HR2.out.cell 1
  have m2 := HR2.out.cell 2
  have m3 := HR2.out.cell 3
  simp at m0 m1 m2 m3
  clear hx2 f1 hl1
  cases b with
  | true =>
   obtain ⟨hi, hf⟩ := hy rfl
   obtain ⟨b2, o2, rfl, g1⟩ := HS.out i hi
   have q0 := HX2.out.cell (g1 i hi 0 _ rfl)
   have q1 := HX2.out.cell (g1 i hi 1 _ rfl)
   have q2 := HX2.out.cell (g1 i hi 2 _ rfl)
   have q3 := HX2.out.cell (g1 i hi 3 _ rfl)
   simp only [Nat.add_zero] at q0
   obtain ⟨X, hX⟩ : ∃ X, X = d.entries[i] := ⟨_, rfl⟩
   rw [← hX] at q0 q1 q2 q3 hf
   have HF := Lib.hid (find_some (t := t) HC.out hf)
   have hiI : (i : Int) < (d.entries.length : Int) := by omega
   have hi10 : (i : Int) < 10 := by omega
   clear hy hn hf g1 hX
   go_wp2_with fail
   have HB := Lib.hid ((((HR2.out.set 0 (.string X.name)).set 1 (.int .i64 X.block)).set 2 (.int .i64 X.at_)).set 3 (.int .i64 X.bytes))
   refine bodyPost_ret (res_cell_tmp rfl rfl HB.out Tryz.underlying113 rfl (by kernel_rfl)) rfl ?_
   rw [HF.out]
   exact ⟨rfl, (((HX2.out.setCell (by dsimp only; omega) _).setCell (by dsimp only; omega) _).setCell (by dsimp only; omega) _).setCell (by dsimp only; omega) _⟩
  | false =>
   have HF := Lib.hid (find_none (t := t) HC.out (hn rfl))
   clear hy hn
   go_wp2_with fail
   have HB := Lib.hid ((((HR2.out.set 0 (.string .empty)).set 1 (.int .i64 0)).set 2 (.int .i64 0)).set 3 (.int .i64 0))
   refine bodyPost_ret (res_cell_tmp rfl rfl HB.out Tryz.underlying113 rfl (by kernel_rfl)) rfl ?_
   rw [HF.out]
   exact ⟨rfl, (((HX2.out.setCell (by dsimp only; omega) _).setCell (by dsimp only; omega) _).setCell (by dsimp only; omega) _).setCell (by dsimp only; omega) _⟩
 ·have HF := Lib.hid (find_bad (t := t) hc)
  have hc' : (catFault d != 0) = true := by simpa using hc
  have z0 := HR1.out.frozen 0
  have z1 := HR1.out.frozen 1
  have z2 := HR1.out.frozen 2
  have z3 := HR1.out.frozen 3
  have m0 := HR1.out.cell 0
  have m1 := HR1.out.cell 1
  have m2 := HR1.out.cell 2
  have m3 := HR1.out.cell 3
  simp at m0 m1 m2 m3
  clear hc
  generalize catFault d = u at *
  go_wp2_with fail
  have HB := Lib.hid ((((HR1.out.set 0 (.string .empty)).set 1 (.int .i64 0)).set 2 (.int .i64 0)).set 3 (.int .i64 0))
  refine bodyPost_ret (res_cell_tmp rfl rfl HB.out Tryz.underlying113 rfl (by kernel_rfl)) rfl ?_
  rw [HF.out]
  exact ⟨rfl, (((HX1.out.setCell (by dsimp only; omega) _).setCell (by dsimp only; omega) _).setCell (by dsimp only; omega) _).setCell (by dsimp only; omega) _⟩
end Go.Proofs.YtgjijcgkmofaaaaGreatDoor
