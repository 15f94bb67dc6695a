/-
  The document's unpacking, and the law: press.Unpack answers as it does. Conditions: none.
-/
import Derived.Test.YtokpjgpdkmimgaaWUnpack
import Derived.Test.YtokpjgpdkmimgaaWXor
import Derived.Lib.AppendStr
namespace Go.Proofs.Ytokpjgpdkmimgaa
set_option linter.unusedSimpArgs false
set_option linter.unusedVariables false
open Go.RowKit

set_option maxRecDepth 100000 in
set_option maxHeartbeats 8000000 in
theorem unpackedOf_any (s : ByteArray) (w : World) (hs : s.size ≤ 140737488355328) :
    Calls Try.prog 17 #[.string s] w fun e w' => e = .returned (.tuple #[.string (unpackS s).1, .int .i64 (unpackS s).2]) ∧ Ext w w' := by
  obtain ⟨R, hR⟩ : ∃ R, R = unpackS s := ⟨_, rfl⟩
  rw [← hR]
  have HR := Lib.hid (show unpackF ((lst s).drop 0) [] = R by rw [hR]; rfl)
  have hsI : (s.size : Int) ≤ 140737488355328 := by omega
  obtain ⟨i0, hi0, hz0, hz1, hz2⟩ := info_parts info_byte
  have HI0 := Lib.hid (And.intro hi0 (And.intro hz0 (And.intro hz1 hz2)))
  clear hR hi0 hz0 hz1 hz2
  go_enter Try.func17, Try.ntmps17
  go_wp2_with fail
  go_loopw [4, 5] (fun ov iv wr => ∃ (out : List UInt8) (i : Nat) (A : Option Addr) (cp : Nat), ov = .slice A out.length cp ∧ iv = .int .i64 i ∧ Ext w wr ∧ wr.ownsRow w.heap.size 5 1 (.slice A out.length cp) out.length (cells out) ∧ i ≤ s.size ∧ out.length ≤ 600 ∧ unpackF ((lst s).drop i) out = R) (fun ov iv _ => s.size - (intOf iv).toNat)
  case atStart => exact ⟨[], 0, none, 0, rfl, rfl, Ext.refl _, World.ownsRow_nil _ _ _ _, Nat.zero_le _, by simp, HR.out⟩
  case round =>
    clear HR
    obtain ⟨out, i, A, cp, rfl, rfl, hx, hown, his, hol, heq⟩ := hrel
    have HO := Lib.hid hown
    have HEQ := Lib.hid heq
    have HX := Lib.hid hx
    have hol2 : (out.length : Int) ≤ 600 := by omega
    have HSZ := Lib.hid (show w.heap.size ≤ wr.heap.size from hx.size)
    clear hown heq hx
    by_cases hi : i < s.size
    · have hiI : (i : Int) < (s.size : Int) := by omega
      have hitn : ((i : Int)).toNat = i := by omega
      obtain ⟨c, hc⟩ : ∃ c, c = s[i].toNat := ⟨_, rfl⟩
      have hc255 : c < 256 := by rw [hc]; exact UInt8.toNat_lt _
      have hcI : ((s[i].toNat : Nat) : Int) = (c : Int) := by rw [hc]
      have HC := Lib.hid hc
      have HI := Lib.hid hi
      have cz1 : (0 : Int) ≤ (c : Int) := by omega
      have cz2 : (c : Int) ≤ 255 := by omega
      clear hc
      by_cases h128 : c < 128
      · have H128 := Lib.hid h128
        have t1 : decide ((c : Int) < 128) = true := by simp; omega
        by_cases hsh : s.size < i + 2 + c
        · have HR := Lib.hid (show ((.empty, 5) : ByteArray × Int) = R by rw [← HEQ.out]; exact (unp_short hi (by rw [← HC.out]; exact H128.out) (by rw [← HC.out]; exact hsh)).symm)
          have t2 : decide ((s.size : Int) < (i : Int) + 2 + (c : Int)) = true := by simp; omega
          have t2' : (s.size : Int) < (i : Int) + 2 + (c : Int) := by omega
          clear hsh h128
          go_wp2_with fail
          go_ret2
          rw [← HR.out]
          exact ⟨rfl, HX.out⟩
        · have t2' : ¬ (s.size : Int) < (i : Int) + 2 + (c : Int) := by omega
          have t3 : (i : Int) + 2 + (c : Int) ≤ (s.size : Int) := by omega
          have HSH := Lib.hid hsh
          have x1 : ((i : Int) + 1).toNat = i + 1 := by omega
          have x2 : ((i : Int) + 2 + (c : Int)).toNat = i + 2 + c := by omega
          have x3 : (i : Int) + 1 ≤ (i : Int) + 2 + (c : Int) := by omega
          have x4 : (0 : Int) ≤ (i : Int) + 2 + (c : Int) := by omega
          have x5 : (0 : Int) ≤ (i : Int) + 1 := by omega
          have HOL := Lib.hid hol
          obtain ⟨q, hq⟩ : ∃ q, q = s.extract (i + 1) (i + 2 + c) := ⟨_, rfl⟩
          have HQS := Lib.hid (show q.size = c + 1 by rw [hq, ByteArray.size_extract]; omega)
          have HQ := Lib.hid hq
          clear hsh h128 hq hol
          go_wp2_with (at_builtin; refine Lib.wpList_append_own_string _ rfl (.tmp 26) (.tmp 34) 22 9 rfl w.heap.size 5 i0 Try.underlying22 Try.underlying9 HI0.out.1 HI0.out.2.1 HI0.out.2.2.1 HI0.out.2.2.2 _ _ _ rfl HO.out q (by rw [HQ.out]; rfl) ?c1 ?c2 HSZ.out ?_)
          case c1 => have := HQS.out; have := HOL.out; unfold maxLen; omega
          case c2 => have := HQS.out; have := HOL.out; omega
          intro B' w1 own1 hg1 _
          obtain ⟨A1, cp1, rfl⟩ := own_slice own1
          obtain ⟨o1, ho1⟩ : ∃ o1, o1 = out ++ lst q := ⟨_, rfl⟩
          have hl1 : out.length + q.size = o1.length := by rw [ho1, List.length_append, length_lst]
          have HL := Lib.hid (show o1.length = out.length + (c + 1) by rw [← hl1, HQS.out])
          have HX1 := Lib.hid (show Ext w w1 from HX.out.grown hg1 (fun k hk => (HO.out.lt k hk).1))
          rw [hl1, strCells_eq q, ← cells_append, ← ho1] at own1
          rw [hl1]
          have HO1 := Lib.hid own1
          have HO1E := Lib.hid ho1
          clear own1 hg1 ho1 hl1
          have z0 : (o1.length : Int) ≤ 1000 := by have := HL.out; omega
          by_cases hlong : 600 < o1.length
          · have HR := Lib.hid (show ((.empty, 1) : ByteArray × Int) = R by rw [← HEQ.out]; exact (unp_long hi (by rw [← HC.out]; exact H128.out) (by rw [← HC.out]; exact HSH.out) (by rw [← HC.out, ← HQ.out, ← HO1E.out]; exact hlong)).symm)
            have t4 : (600 : Int) < (o1.length : Int) := by omega
            clear HL
            go_wp2_with fail
            go_ret2
            rw [← HR.out]
            exact ⟨rfl, HX1.out⟩
          · have HR := Lib.hid (show unpackF ((lst s).drop (i + 2 + c)) o1 = R by
              rw [← HEQ.out, unp_more hi (by rw [← HC.out]; exact H128.out) (by rw [← HC.out]; exact HSH.out) (by rw [← HC.out, ← HQ.out, ← HO1E.out]; exact hlong), ← HC.out, ← HQ.out, ← HO1E.out])
            have t4 : ¬ (600 : Int) < (o1.length : Int) := by omega
            clear HL
            go_wp2_with fail
            go_roundw
            case rel => exact ⟨o1, i + 2 + c, A1, cp1, rfl, by first | rfl | go_num, HX1.out, HO1.out, by have := HSH.out; omega, by omega, HR.out⟩
            case measure => (simp [intOf]; try omega)
      · have H128 := Lib.hid h128
        have t1 : decide ((c : Int) < 128) = false := by simp; omega
        by_cases hsh : s.size < i + 2
        · have HR := Lib.hid (show ((.empty, 5) : ByteArray × Int) = R by rw [← HEQ.out]; exact (unp_pshort hi (by rw [← HC.out]; exact H128.out) hsh).symm)
          have t2' : (s.size : Int) < (i : Int) + 2 := by omega
          clear hsh h128
          go_wp2_with fail
          go_ret2
          rw [← HR.out]
          exact ⟨rfl, HX.out⟩
        · have t2' : ¬ (s.size : Int) < (i : Int) + 2 := by omega
          have hi2 : i + 1 < s.size := by omega
          have hi2I : (i : Int) + 1 < (s.size : Int) := by omega
          have x1 : ((i : Int) + 1).toNat = i + 1 := by omega
          have x5 : (0 : Int) ≤ (i : Int) + 1 := by omega
          obtain ⟨d, hd⟩ : ∃ d, d = s[i + 1].toNat := ⟨_, rfl⟩
          have hd255 : d < 256 := by rw [hd]; exact UInt8.toNat_lt _
          have hdI : ((s[i + 1].toNat : Nat) : Int) = (d : Int) := by rw [hd]
          have HD := Lib.hid hd
          have HOL := Lib.hid hol
          have HI2 := Lib.hid hi2
          clear hd hsh h128
          by_cases h0 : d = 0
          · have HR := Lib.hid (show ((.empty, 4) : ByteArray × Int) = R by rw [← HEQ.out]; exact (unp_form hi (by rw [← HC.out]; exact H128.out) hi2 (.inl (by rw [← HD.out]; exact h0))).symm)
            subst h0
            have hd0 : ((s[i + 1].toNat : Nat) : Int) = 0 := hdI
            clear hdI
            go_wp2_with fail
            go_ret2
            rw [← HR.out]
            exact ⟨rfl, HX.out⟩
          · have h0b : ((d : Int) == 0) = false := beq_false_of_ne (by omega)
            have H0 := Lib.hid h0
            clear h0
            by_cases hdl : out.length < d
            · have HR := Lib.hid (show ((.empty, 4) : ByteArray × Int) = R by rw [← HEQ.out]; exact (unp_form hi (by rw [← HC.out]; exact H128.out) hi2 (.inr (by rw [← HD.out]; exact hdl))).symm)
              go_wp2_with fail
              go_ret2
              rw [← HR.out]
              exact ⟨rfl, HX.out⟩
            · have HDL := Lib.hid hdl
              have y1 : IntKind.i64.wrap ((c : Int) - 124) = (c : Int) - 124 := by rw [IntKind.wrap_i64]; omega
              obtain ⟨m, hm⟩ : ∃ m : Nat, m = c - 124 := ⟨_, rfl⟩
              have y2' : (c : Int) - 124 = (m : Int) := by have := H128.out; omega
              have hm131 : (m : Int) ≤ 131 := by omega
              have HM := Lib.hid hm
              clear hm hdl hol hiI hi2I
              go_wp2_with fail
              try rw [decide_eq_false HDL.out]
              go_loopw [4, 8] (fun ov kv wq => ∃ (k : Nat) (o : List UInt8) (A : Option Addr) (cp : Nat), ov = .slice A o.length cp ∧ kv = .int .i64 k ∧ k ≤ m ∧ Ext w wq ∧ o = copyB d k out ∧ wq.ownsRow w.heap.size 5 1 (.slice A o.length cp) o.length (cells o)) (fun ov kv _ => m - (intOf kv).toNat)
              case atStart => exact ⟨0, out, A, cp, rfl, rfl, Nat.zero_le _, HX.out, rfl, HO.out⟩
              case round =>
                clear HO HX HSZ
                obtain ⟨k, o, A, cp, rfl, rfl, hkm, hXq, ho, hoq⟩ := hrel
                have hoL : o.length = out.length + k := by rw [ho]; exact length_copyB d k out
                have HNX := Lib.hid (show copyB d (k + 1) out = o ++ [o.getD (o.length - d) 0] by rw [ho]; exact copyB_succ d k out)
                have HBQ := Lib.hid (And.intro hXq hoq)
                have HO := Lib.hid ho
                clear ho
                by_cases hkl : k < m
                · have hkI : (k : Int) < (m : Int) := by omega
                  have hkt : decide ((k : Int) < (m : Int)) = true := by simp; omega
                  have hdo : d ≤ o.length := by have := HDL.out; omega
                  have hd1 : 0 < d := by have := H0.out; omega
                  have hoq' := hoq
                  rw [cells_flat] at hoq'
                  obtain ⟨g, rfl, hg1, hbf, hln⟩ := own_buf hoq' (by omega)
                  obtain ⟨j, hj⟩ : ∃ j : Nat, j = o.length - d := ⟨_, rfl⟩
                  have hjl : j < o.length := by omega
                  have r0 := hbf.cell j hjl
                  obtain ⟨x, hxx⟩ : ∃ x, x = o.getD j 0 := ⟨_, rfl⟩
                  rw [← hxx] at r0
                  have z1 : IntKind.i64.wrap ((o.length : Int) - (d : Int)) = (j : Int) := by rw [IntKind.wrap_i64]; have := HOL.out; omega
                  have z1' : (o.length : Int) - (d : Int) = (j : Int) := by omega
                  have HNX2 := Lib.hid (show copyB d (k + 1) out = o ++ [x] by rw [HNX.out, hxx, hj])
                  have hj8 : (j : Int) ≤ 800 := by have := HOL.out; omega
                  have ho8 : (o.length : Int) ≤ 800 := by have := HOL.out; omega
                  have HO8 := Lib.hid (show o.length ≤ 800 by omega)
                  have HG1 := Lib.hid hg1
                  have hgl := hbf.lt
                  clear hoq hoq' hbf hln hg1 hj hxx hdo hd1 hoL hXq HNX HO
                  go_wp2_with (at_builtin; refine wpList_push (.tmp 64) (.tmp 72) 22 rfl rfl w.heap.size 5 i0 (.int .u8 0) 1 Try.underlying22 HI0.out.1 HI0.out.2.1 HI0.out.2.2.1 HI0.out.2.2.2 rfl _ _ _ rfl (own_ext HBQ.out.2 ((Ext.refl _).alloc _)) _ 1 (.int .u8 (x.toNat : Int)) rfl ?c1 rfl ?c2 ?c3 ?c4 ?_)
                  case c1 => exact (Blk_.new _ _ _).cell 0
                  case c2 => unfold maxLen; have := HO8.out; omega
                  case c3 => have := HO8.out; omega
                  case c4 => have := HBQ.out.1.size; rw [World.size_alloc]; omega
                  intro A5 cp5 w5 own5 hg5 _
                  have HX5 := Lib.hid (show Ext w w5 from (HBQ.out.1.trans ((Ext.refl _).alloc _)).grown hg5 (fun k hk => (HBQ.out.2.lt k hk).1))
                  have HO5 := Lib.hid (show w5.ownsRow w.heap.size 5 1 (.slice A5 (o ++ [x]).length cp5) (o ++ [x]).length (cells (o ++ [x])) by
                    rw [cells_append, List.length_append, List.length_singleton]; exact own5)
                  have hl5 : o.length + 1 = (o ++ [x]).length := by rw [List.length_append, List.length_singleton]
                  rw [hl5]
                  clear own5 hg5 r0 hl5
                  go_wp2_with fail
                  go_roundw
                  case rel => exact ⟨k + 1, o ++ [x], A5, cp5, rfl, by first | rfl | go_num, by omega, HX5.out, HNX2.out.symm, HO5.out⟩
                  case measure => (simp [intOf]; try omega)
                · obtain rfl : k = m := by omega
                  have ho8 : (o.length : Int) ≤ 800 := by have := HOL.out; omega
                  have HO2 := Lib.hid (show o = copyB d (c - 124) out by rw [HO.out, HM.out])
                  have HN := Lib.hid (show ¬ (d = 0 ∨ out.length < d) by have := H0.out; have := HDL.out; omega)
                  clear hoq hXq
                  by_cases hlong : 600 < o.length
                  · have HR := Lib.hid (show ((.empty, 1) : ByteArray × Int) = R by rw [← HEQ.out]; exact (unp_plong' HI.out HC.out H128.out HI2.out HD.out HN.out (by rw [← HO2.out]; exact hlong)).symm)
                    have t4 : (600 : Int) < (o.length : Int) := by omega
                    clear hoL
                    go_wp2_with fail
                    go_ret2
                    rw [← HR.out]
                    exact ⟨rfl, HBQ.out.1⟩
                  · have HR := Lib.hid (show unpackF ((lst s).drop (i + 2)) o = R by rw [← HEQ.out, unp_pmore' HI.out HC.out H128.out HI2.out HD.out HN.out (by rw [← HO2.out]; exact hlong), ← HO2.out])
                    have t4 : ¬ (600 : Int) < (o.length : Int) := by omega
                    clear hoL
                    go_wp2_with fail
                    go_roundw
                    case rel => exact ⟨o, i + 2, A, cp, rfl, by first | rfl | go_num, HBQ.out.1, HBQ.out.2, by have := HI2.out; omega, by omega, HR.out⟩
                    case measure => have := HI2.out; (simp [intOf]; try omega)
    · have HR := Lib.hid (show (bs out, (0 : Int)) = R by rw [← HEQ.out, unp_end s i out hi])
      by_cases h0 : out.length = 0
      · have hR0 : out = [] := List.eq_nil_of_length_eq_zero h0
        subst hR0
        have ho2 := HO.out
        rcases ho2.2 with ⟨hv, _⟩ | ⟨g, cap, cur, hv, hbg, hg, _⟩
        · injection hv with e1 e2 e3
          subst e1 e3
          clear ho2 HO h0
          go_wp2_with (refine wpList_fromnil (.tmp 79) 22 9 5 rfl rfl Try.underlying22 Try.underlying5 Try.underlying9 rfl ?_)
          go_wp2_with fail
          go_ret2
          exact ⟨by rw [← HR.out]; rfl, HX.out⟩
        · injection hv with e1 e2 e3
          subst e1 e3
          have HBF := Lib.hid (show Buf 5 wr g [] from ⟨cur, (0, 0), hg, fun i hi => by simp at hi, fun i hi => by simp at hi⟩)
          clear ho2 HO h0 hg
          go_wp2_with (refine wpList_frombytes (.tmp 79) 22 9 5 rfl rfl Try.underlying22 Try.underlying5 Try.underlying9 g _ _ _ HBF.out rfl rfl ?_)
          go_wp2_with fail
          go_ret2
          exact ⟨by rw [← HR.out]; rfl, HX.out⟩
      · have ho2 := HO.out
        rw [cells_flat] at ho2
        obtain ⟨g, rfl, hg1, hbf, hln⟩ := own_buf ho2 (by omega)
        have HBF := Lib.hid hbf
        clear ho2 hbf hln HO h0
        go_wp2_with (refine wpList_frombytes (.tmp 79) 22 9 5 rfl rfl Try.underlying22 Try.underlying5 Try.underlying9 g _ _ _ HBF.out rfl rfl ?_)
        go_wp2_with fail
        go_ret2
        exact ⟨by rw [← HR.out]; rfl, HX.out⟩
set_option maxRecDepth 100000 in
theorem lawPressUnpacks_any (s : ByteArray) (w : World) (hs : s.size ≤ 140737488355328) :
    Calls Try.prog 6 #[.string s] w fun e w' => e = .returned (.bool true) ∧ Ext w w' := by
  go_enter Try.func6, Try.ntmps6
  go_wp2_with fail
  refine (unpack_any s _ hs).mono ?_
  rintro e w1 ⟨rfl, e1⟩
  go_wp2_with fail
  refine (unpackedOf_any s _ hs).mono ?_
  rintro e w2 ⟨rfl, e2⟩
  go_wp2_with fail
  go_ret
  exact ⟨rfl, e1.trans e2⟩
end Go.Proofs.Ytokpjgpdkmimgaa
