/-
  press.Unpack: bytes of which some stand for what stood there. Conditions: none.
-/
import Derived.Test.YtokpjgpdkmimgaaWPack3
import Derived.Test.YtokpjgpdkmimgaaSBuilder
namespace Go.Proofs.Ytokpjgpdkmimgaa
set_option linter.unusedSimpArgs false
set_option linter.unusedVariables false
open Go.RowKit

theorem copyB_succ (d k : Nat) (out : List UInt8) : copyB d (k + 1) out = copyB d k out ++ [(copyB d k out).getD ((copyB d k out).length - d) 0] := by
  induction k generalizing out with
  | zero => rfl
  | succ k ih => rw [copyB, ih]; rfl
theorem dropB_at (s : ByteArray) (i : Nat) (h : i < s.size) : (lst s).drop i = s[i] :: (lst s).drop (i + 1) := by
  rw [List.drop_eq_getElem_cons (by rw [length_lst]; exact h)]; rfl
theorem unp_end (s : ByteArray) (i : Nat) (out : List UInt8) (h : ¬ i < s.size) : unpackF ((lst s).drop i) out = (bs out, 0) := by
  rw [List.drop_of_length_le (by rw [length_lst]; omega), unpackF_nil]
theorem unp_short {s : ByteArray} {i : Nat} {out : List UInt8} (h : i < s.size) (hc : s[i].toNat < 128) (h2 : s.size < i + 2 + s[i].toNat) : unpackF ((lst s).drop i) out = (.empty, 5) := by
  rw [dropB_at s i h, unpackF_plain _ _ hc, if_pos (by rw [List.length_drop, length_lst]; omega)]
theorem take_drop (s : ByteArray) (i n : Nat) : ((lst s).drop i).take n = lst (s.extract i (i + n)) := by
  rw [lst_ext]; unfold sub_; rw [List.take_drop]
theorem unp_long {s : ByteArray} {i : Nat} {out : List UInt8} (h : i < s.size) (hc : s[i].toNat < 128) (h2 : ¬ s.size < i + 2 + s[i].toNat) (h3 : 600 < (out ++ lst (s.extract (i + 1) (i + 2 + s[i].toNat))).length) : unpackF ((lst s).drop i) out = (.empty, 1) := by
  rw [dropB_at s i h, unpackF_plain _ _ hc, if_neg (by rw [List.length_drop, length_lst]; omega), take_drop, show i + 1 + (s[i].toNat + 1) = i + 2 + s[i].toNat by omega, if_pos h3]
theorem unp_more {s : ByteArray} {i : Nat} {out : List UInt8} (h : i < s.size) (hc : s[i].toNat < 128) (h2 : ¬ s.size < i + 2 + s[i].toNat) (h3 : ¬ 600 < (out ++ lst (s.extract (i + 1) (i + 2 + s[i].toNat))).length) : unpackF ((lst s).drop i) out = unpackF ((lst s).drop (i + 2 + s[i].toNat)) (out ++ lst (s.extract (i + 1) (i + 2 + s[i].toNat))) := by
  rw [dropB_at s i h, unpackF_plain _ _ hc, if_neg (by rw [List.length_drop, length_lst]; omega), take_drop, show i + 1 + (s[i].toNat + 1) = i + 2 + s[i].toNat by omega, if_neg h3, List.drop_drop, show i + 1 + (s[i].toNat + 1) = i + 2 + s[i].toNat by omega]
theorem unp_pshort {s : ByteArray} {i : Nat} {out : List UInt8} (h : i < s.size) (hc : ¬ s[i].toNat < 128) (h2 : s.size < i + 2) : unpackF ((lst s).drop i) out = (.empty, 5) := by
  rw [dropB_at s i h, List.drop_of_length_le (i := i + 1) (by rw [length_lst]; omega), unpackF_end _ hc]
theorem unp_form {s : ByteArray} {i : Nat} {out : List UInt8} (h : i < s.size) (hc : ¬ s[i].toNat < 128) (h2 : i + 1 < s.size) (h3 : s[i + 1].toNat = 0 ∨ out.length < s[i + 1].toNat) : unpackF ((lst s).drop i) out = (.empty, 4) := by
  rw [dropB_at s i h, dropB_at s (i + 1) h2, unpackF_piece _ _ hc, if_pos h3]
theorem unp_plong {s : ByteArray} {i : Nat} {out : List UInt8} (h : i < s.size) (hc : ¬ s[i].toNat < 128) (h2 : i + 1 < s.size) (h3 : ¬ (s[i + 1].toNat = 0 ∨ out.length < s[i + 1].toNat)) (h4 : 600 < (copyB s[i + 1].toNat (s[i].toNat - 124) out).length) : unpackF ((lst s).drop i) out = (.empty, 1) := by
  rw [dropB_at s i h, dropB_at s (i + 1) h2, unpackF_piece _ _ hc, if_neg h3, if_pos h4]
theorem unp_pmore {s : ByteArray} {i : Nat} {out : List UInt8} (h : i < s.size) (hc : ¬ s[i].toNat < 128) (h2 : i + 1 < s.size) (h3 : ¬ (s[i + 1].toNat = 0 ∨ out.length < s[i + 1].toNat)) (h4 : ¬ 600 < (copyB s[i + 1].toNat (s[i].toNat - 124) out).length) : unpackF ((lst s).drop i) out = unpackF ((lst s).drop (i + 2)) (copyB s[i + 1].toNat (s[i].toNat - 124) out) := by
  rw [dropB_at s i h, dropB_at s (i + 1) h2, unpackF_piece _ _ hc, if_neg h3, if_neg h4]
theorem unp_plong' {s : ByteArray} {i c d : Nat} {out : List UInt8} (h : i < s.size) (hc : c = s[i].toNat) (h1 : ¬ c < 128) (h2 : i + 1 < s.size) (hd : d = s[i + 1].toNat) (h3 : ¬ (d = 0 ∨ out.length < d)) (h4 : 600 < (copyB d (c - 124) out).length) : unpackF ((lst s).drop i) out = (.empty, 1) := by
  subst hc hd; exact unp_plong h h1 h2 h3 h4
theorem unp_pmore' {s : ByteArray} {i c d : Nat} {out : List UInt8} (h : i < s.size) (hc : c = s[i].toNat) (h1 : ¬ c < 128) (h2 : i + 1 < s.size) (hd : d = s[i + 1].toNat) (h3 : ¬ (d = 0 ∨ out.length < d)) (h4 : ¬ 600 < (copyB d (c - 124) out).length) : unpackF ((lst s).drop i) out = unpackF ((lst s).drop (i + 2)) (copyB d (c - 124) out) := by
  subst hc hd; exact unp_pmore h h1 h2 h3 h4
theorem Bld.init (w : World) : Bld w.heap.size w.heap.size [] (w.alloc (.cells #[.pointer none, .slice none 0 0] 73)) :=
  .inl ⟨Nat.le_refl _, .slice none 0 0, heap_alloc_new w _, ⟨rfl, .inl ⟨rfl, rfl⟩⟩, by simp [Value.ownBlock]⟩
set_option maxRecDepth 100000 in
set_option maxHeartbeats 8000000 in
theorem unpack_any (s : ByteArray) (w : World) (hs : s.size ≤ 140737488355328) :
    Calls Try.prog 16 #[.string s] w fun e w' => e = .returned (.tuple #[.string (unpackS s).1, .int .i64 (unpackS s).2]) ∧ Ext w w' := by
  obtain ⟨R, hR⟩ : ∃ R, R = unpackS s := ⟨_, rfl⟩
  rw [← hR]
  have HR := Lib.hid (show unpackF ((lst s).drop 0) [] = R by rw [hR]; rfl)
  have hsI : (s.size : Int) ≤ 140737488355328 := by omega
  clear hR
  go_enter Try.func16, Try.ntmps16
  go_wp2_with fail
  refine wp_abs (fun W => Ext w W ∧ Bld w.heap.size w.heap.size [] W) ⟨(Ext.refl w).alloc _, Bld.init w⟩ ?_
  rintro W ⟨hW, hB⟩
  have HW := Lib.hid (And.intro hW hB)
  clear hW hB
  revert HW
  obtain ⟨b, hb⟩ : ∃ b, b = w.heap.size := ⟨_, rfl⟩
  rw [← hb]
  intro HW
  have HBB := Lib.hid hb
  clear hb
  go_loopw [5] (fun iv wr => ∃ (out : List UInt8) (i : Nat), iv = .int .i64 i ∧ Ext w wr ∧ Bld b b out wr ∧ i ≤ s.size ∧ out.length ≤ 600 ∧ unpackF ((lst s).drop i) out = R) (fun iv _ => s.size - (intOf iv).toNat)
  case atStart => exact ⟨[], 0, rfl, HW.out.1, HW.out.2, Nat.zero_le _, by simp, HR.out⟩
  case round =>
    clear HW HR
    obtain ⟨out, i, rfl, hx, hbl, his, hol, heq⟩ := hrel
    have HBL := Lib.hid hbl
    have HEQ := Lib.hid heq
    have HX := Lib.hid hx
    have hol2 : (out.length : Int) ≤ 600 := by omega
    have HSZ := Lib.hid (show b ≤ wr.heap.size by rw [HBB.out]; exact hx.size)
    clear hbl heq hx
    by_cases hi : i < s.size
    · have hiI : (i : Int) < (s.size : Int) := by omega
      have hitn : ((i : Int)).toNat = i := by omega
      obtain ⟨c, hc⟩ : ∃ c, c = s[i].toNat := ⟨_, rfl⟩
      have hc255 : c < 256 := by rw [hc]; exact UInt8.toNat_lt _
      have hcI : ((s[i].toNat : Nat) : Int) = (c : Int) := by rw [hc]
      have HC := Lib.hid hc
      have HI := Lib.hid hi
      have cz1 : (0 : Int) ≤ (c : Int) := by omega
      have cz2 : (c : Int) ≤ 255 := by omega
      clear hc
      by_cases h128 : c < 128
      · have H128 := Lib.hid h128
        have t1 : decide ((c : Int) < 128) = true := by simp; omega
        by_cases hsh : s.size < i + 2 + c
        · have HR := Lib.hid (show ((.empty, 5) : ByteArray × Int) = R by rw [← HEQ.out]; exact (unp_short hi (by rw [← HC.out]; exact H128.out) (by rw [← HC.out]; exact hsh)).symm)
          have t2 : decide ((s.size : Int) < (i : Int) + 2 + (c : Int)) = true := by simp; omega
          have t2' : (s.size : Int) < (i : Int) + 2 + (c : Int) := by omega
          clear hsh h128
          go_wp2_with fail
          go_ret2
          rw [← HR.out]
          exact ⟨rfl, HX.out⟩
        · have t2' : ¬ (s.size : Int) < (i : Int) + 2 + (c : Int) := by omega
          have t3 : (i : Int) + 2 + (c : Int) ≤ (s.size : Int) := by omega
          have HSH := Lib.hid hsh
          have x1 : ((i : Int) + 1).toNat = i + 1 := by omega
          have x2 : ((i : Int) + 2 + (c : Int)).toNat = i + 2 + c := by omega
          have x3 : (i : Int) + 1 ≤ (i : Int) + 2 + (c : Int) := by omega
          have x4 : (0 : Int) ≤ (i : Int) + 2 + (c : Int) := by omega
          have x5 : (0 : Int) ≤ (i : Int) + 1 := by omega
          have HOL := Lib.hid hol
          obtain ⟨q, hq⟩ : ∃ q, q = s.extract (i + 1) (i + 2 + c) := ⟨_, rfl⟩
          have HQS := Lib.hid (show q.size = c + 1 by rw [hq, ByteArray.size_extract]; omega)
          have HQ := Lib.hid hq
          clear hsh h128 hq hol
          go_wp2_with fail
          rw [← HQ.out]
          refine (bld_text b b out q _ HBL.out (by have := HQS.out; have := HOL.out; omega) HSZ.out).mono ?_
          rintro e w1 ⟨rfl, hb1, hB1⟩
          have HX1 := Lib.hid (show Ext w w1 from Below.trans HX.out (by rw [← HBB.out]; exact hB1))
          have HB1 := Lib.hid hb1
          have HSZ1 := Lib.hid (show b ≤ w1.heap.size from Nat.le_trans HSZ.out hB1.size)
          clear hb1 hB1
          go_wp2_with fail
          refine (bld_len b b (out ++ q.data.toList) _ HB1.out).mono ?_
          rintro e w2 ⟨rfl, rfl⟩
          have HL := Lib.hid (show (out ++ q.data.toList).length = out.length + (c + 1) by rw [List.length_append, ← HQS.out]; congr 1)
          rw [HL.out]
          by_cases hlong : 600 < out.length + (c + 1)
          · have t4 : (600 : Int) < (out.length : Int) + ((c : Int) + 1) := by omega
            have HR := Lib.hid (show ((.empty, 1) : ByteArray × Int) = R by rw [← HEQ.out]; exact (unp_long hi (by rw [← HC.out]; exact H128.out) (by rw [← HC.out]; exact HSH.out) (by rw [← HC.out, ← HQ.out]; show 600 < (out ++ q.data.toList).length; rw [HL.out]; exact hlong)).symm)
            clear HL
            go_wp2_with fail
            go_ret2
            rw [← HR.out]
            exact ⟨rfl, HX1.out⟩
          · have t4 : ¬ (600 : Int) < (out.length : Int) + ((c : Int) + 1) := by omega
            have HR := Lib.hid (show unpackF ((lst s).drop (i + 2 + c)) (out ++ q.data.toList) = R by
              rw [← HEQ.out, unp_more hi (by rw [← HC.out]; exact H128.out) (by rw [← HC.out]; exact HSH.out) (by rw [← HC.out, ← HQ.out]; show ¬ 600 < (out ++ q.data.toList).length; rw [HL.out]; exact hlong), ← HC.out, ← HQ.out]; rfl)
            have HLEN := Lib.hid (show (out ++ q.data.toList).length ≤ 600 by rw [HL.out]; omega)
            clear HL
            go_wp2_with fail
            go_roundw
            case rel => exact ⟨out ++ q.data.toList, i + 2 + c, by first | rfl | go_num, HX1.out, HB1.out, by have := HSH.out; omega, HLEN.out, HR.out⟩
            case measure => (simp [intOf]; try omega)
      · have H128 := Lib.hid h128
        have t1 : decide ((c : Int) < 128) = false := by simp; omega
        by_cases hsh : s.size < i + 2
        · have HR := Lib.hid (show ((.empty, 5) : ByteArray × Int) = R by rw [← HEQ.out]; exact (unp_pshort hi (by rw [← HC.out]; exact H128.out) hsh).symm)
          have t2' : (s.size : Int) < (i : Int) + 2 := by omega
          clear hsh h128
          go_wp2_with fail
          go_ret2
          rw [← HR.out]
          exact ⟨rfl, HX.out⟩
        · have t2' : ¬ (s.size : Int) < (i : Int) + 2 := by omega
          have hi2 : i + 1 < s.size := by omega
          have hi2I : (i : Int) + 1 < (s.size : Int) := by omega
          have x1 : ((i : Int) + 1).toNat = i + 1 := by omega
          have x5 : (0 : Int) ≤ (i : Int) + 1 := by omega
          obtain ⟨d, hd⟩ : ∃ d, d = s[i + 1].toNat := ⟨_, rfl⟩
          have hd255 : d < 256 := by rw [hd]; exact UInt8.toNat_lt _
          have hdI : ((s[i + 1].toNat : Nat) : Int) = (d : Int) := by rw [hd]
          have HD := Lib.hid hd
          have HOL := Lib.hid hol
          have HI2 := Lib.hid hi2
          clear hd hsh h128
          by_cases h0 : d = 0
          · have HR := Lib.hid (show ((.empty, 4) : ByteArray × Int) = R by rw [← HEQ.out]; exact (unp_form hi (by rw [← HC.out]; exact H128.out) hi2 (.inl (by rw [← HD.out]; exact h0))).symm)
            subst h0
            have hd0 : ((s[i + 1].toNat : Nat) : Int) = 0 := hdI
            clear hdI
            go_wp2_with fail
            go_ret2
            rw [← HR.out]
            exact ⟨rfl, HX.out⟩
          · have h0b : ((d : Int) == 0) = false := beq_false_of_ne (by omega)
            have H0 := Lib.hid h0
            clear h0
            by_cases hdl : out.length < d
            · have HR := Lib.hid (show ((.empty, 4) : ByteArray × Int) = R by rw [← HEQ.out]; exact (unp_form hi (by rw [← HC.out]; exact H128.out) hi2 (.inr (by rw [← HD.out]; exact hdl))).symm)
              go_wp2_with fail
              refine (bld_len b b out _ HBL.out).mono ?_
              rintro e w2 ⟨rfl, rfl⟩
              go_wp2_with fail
              go_ret2
              rw [← HR.out]
              exact ⟨rfl, HX.out⟩
            · have HDL := Lib.hid hdl
              go_wp2_with fail
              refine (bld_len b b out _ HBL.out).mono ?_
              rintro e w2 ⟨rfl, rfl⟩
              have y1 : IntKind.i64.wrap ((c : Int) - 128) = (c : Int) - 128 := by rw [IntKind.wrap_i64]; omega
              obtain ⟨m, hm⟩ : ∃ m : Nat, m = c - 124 := ⟨_, rfl⟩
              have y2 : IntKind.i64.wrap ((c : Int) - 128 + 4) = (m : Int) := by rw [IntKind.wrap_i64]; have := H128.out; omega
              have y2' : (c : Int) - 128 + 4 = (m : Int) := by have := H128.out; omega
              have hm131 : (m : Int) ≤ 131 := by omega
              have HM := Lib.hid hm
              clear hm hdl hol hiI hi2I
              go_wp2_with fail
              rw [decide_eq_false HDL.out]
              go_loopw [58] (fun kv wq => ∃ k : Nat, kv = .int .i64 k ∧ k ≤ m ∧ Below b w2 wq ∧ Bld b b (copyB d k out) wq) (fun kv _ => m - (intOf kv).toNat)
              case atStart => exact ⟨0, rfl, Nat.zero_le _, Below.refl _ _, HBL.out⟩
              case round =>
                obtain ⟨k, rfl, hkm, hBq, hblq⟩ := hrel
                obtain ⟨o, ho⟩ : ∃ o, o = copyB d k out := ⟨_, rfl⟩
                have hoL : o.length = out.length + k := by rw [ho]; exact length_copyB d k out
                have HNX := Lib.hid (show copyB d (k + 1) out = o ++ [o.getD (o.length - d) 0] by rw [ho]; exact copyB_succ d k out)
                rw [← ho] at hblq
                have HBQ := Lib.hid (And.intro hBq hblq)
                have HSQ := Lib.hid (show b ≤ wr.heap.size from Nat.le_trans HSZ.out hBq.size)
                have HO := Lib.hid ho
                clear ho hBq hblq
                by_cases hkl : k < m
                · have hkI : (k : Int) < (m : Int) := by omega
                  have hkt : decide ((k : Int) < (m : Int)) = true := by simp; omega
                  go_wp2_with fail
                  refine (bld_string b b o _ HBQ.out.2 HSQ.out).mono ?_
                  rintro e w3 ⟨rfl, hb3, hB3⟩
                  go_wp2_with fail
                  refine (bld_len b b o _ hb3).mono ?_
                  rintro e w4 ⟨rfl, rfl⟩
                  have hdo : d ≤ o.length := by have := HDL.out; omega
                  have hd1 : 0 < d := by have := H0.out; omega
                  have z1 : IntKind.i64.wrap ((o.length : Int) - (d : Int)) = ((o.length - d : Nat) : Int) := by rw [IntKind.wrap_i64]; have := HOL.out; omega
                  have z1' : (o.length : Int) - (d : Int) = ((o.length - d : Nat) : Int) := by omega
                  obtain ⟨j, hj⟩ : ∃ j : Nat, j = o.length - d := ⟨_, rfl⟩
                  rw [← hj] at z1 z1'
                  have hjl : j < o.length := by omega
                  have hjs : j < (⟨o.toArray⟩ : ByteArray).size := by show j < o.toArray.size; simpa using hjl
                  obtain ⟨S, hS⟩ : ∃ S, S = (⟨o.toArray⟩ : ByteArray) := ⟨_, rfl⟩
                  rw [← hS] at hjs ⊢
                  have hjI : (j : Int) < (S.size : Int) := by omega
                  have hj8 : (j : Int) ≤ 800 := by have := HOL.out; omega
                  have HG := Lib.hid (show S[j] = o.getD (o.length - d) 0 by
                    subst hS
                    rw [← hj, List.getD_eq_getElem?_getD, List.getElem?_eq_getElem hjl]
                    show o.toArray[j]'_ = _
                    simp)
                  have HB4 := Lib.hid (And.intro hb3 (HBQ.out.1.trans hB3))
                  have HOB := Lib.hid (show o.length ≤ 800 ∧ b ≤ w4.heap.size from ⟨by have := HOL.out; omega, Nat.le_trans HSQ.out hB3.size⟩)
                  clear hS hj hb3 hB3 hdo hd1 hoL hjl
                  go_wp2_with fail
                  refine (bld_byte b b o (S[j]) _ HB4.out.1 (by have := HOB.out.1; omega) HOB.out.2).mono ?_
                  rintro e w5 ⟨rfl, hb5, hB5⟩
                  go_wp2_with fail
                  go_roundw
                  case rel => exact ⟨k + 1, by first | rfl | go_num, by omega, HB4.out.2.trans hB5, by rw [HNX.out, ← HG.out]; exact hb5⟩
                  case measure => (simp [intOf]; try omega)
                · obtain rfl : k = m := by omega
                  go_wp2_with fail
                  refine (bld_len b b o _ HBQ.out.2).mono ?_
                  rintro e w4 ⟨rfl, rfl⟩
                  have HX4 := Lib.hid (show Ext w w4 from Below.trans HX.out (by rw [← HBB.out]; exact HBQ.out.1))
                  have HO2 := Lib.hid (show o = copyB d (c - 124) out by rw [HO.out, HM.out])
                  have HN := Lib.hid (show ¬ (d = 0 ∨ out.length < d) by have := H0.out; have := HDL.out; omega)
                  by_cases hlong : 600 < o.length
                  · have HR := Lib.hid (show ((.empty, 1) : ByteArray × Int) = R by rw [← HEQ.out]; exact (unp_plong' HI.out HC.out H128.out HI2.out HD.out HN.out (by rw [← HO2.out]; exact hlong)).symm)
                    clear hoL
                    go_wp2_with fail
                    go_ret2
                    rw [← HR.out]
                    exact ⟨rfl, HX4.out⟩
                  · have HR := Lib.hid (show unpackF ((lst s).drop (i + 2)) o = R by rw [← HEQ.out, unp_pmore' HI.out HC.out H128.out HI2.out HD.out HN.out (by rw [← HO2.out]; exact hlong), ← HO2.out])
                    clear hoL
                    go_wp2_with fail
                    go_roundw
                    case rel => exact ⟨o, i + 2, by first | rfl | go_num, HX4.out, HBQ.out.2, by have := HI2.out; omega, by omega, HR.out⟩
                    case measure => have := HI2.out; (simp [intOf]; try omega)
    · have HR := Lib.hid (show (bs out, (0 : Int)) = R by rw [← HEQ.out, unp_end s i out hi])
      go_wp2_with fail
      refine (bld_string b b out _ HBL.out HSZ.out).mono ?_
      rintro e w2 ⟨rfl, hb2, hB2⟩
      go_wp2_with fail
      go_ret2
      rw [← HR.out]
      exact ⟨rfl, Below.trans HX.out (by rw [← HBB.out]; exact hB2)⟩
end Go.Proofs.Ytokpjgpdkmimgaa
