/-
  press.Pack: a text, with what stands there already made short. Conditions: none.
-/
import Derived.Test.YtokpjgpdkmimgaaWPack2
import Derived.Test.YtokpjgpdkmimgaaB
namespace Go.Proofs.Ytokpjgpdkmimgaa
set_option linter.unusedSimpArgs false
set_option linter.unusedVariables false
open Go.RowKit

theorem cells_flat (l : List UInt8) : cells l = l.flatMap encByte := by
  unfold cells
  induction l with
  | nil => rfl
  | cons a l ih => rw [List.map_cons, List.flatMap_cons, ih]; rfl
section
variable {P : Program} {Q : Exit → Act → World → Prop}
/-- No bytes are made a text. -/
theorem wpList_fromnil {ops : Array Oper} {rest : List Oper} {o : Oper} {a : Act} {w : World} (x : Operand) (src dst e : TypeId) (ho : o.op = .convert src dst x) (hgd : o.guard = none) (hs : P.underlying src = some (.slice e)) (he : P.underlying e = some (.int .u8)) (hd : P.underlying dst = some .string)
    (hx : a.eval x = .slice none 0 0) (h : wpList P ops Q rest (a.put o.dst (.string (bs []))) w) : wpList P ops Q (o :: rest) a w := by
  refine wpList_plain hgd fun K hK => ?_
  have hr : (convert src dst (.slice none 0 0)).run P w = .ok (.string (bs [])) w := by
    rw [run_convert_bytes_string w src dst e none 0 0 hs he hd]
    rfl
  unfold Oper.wp execOp
  simp only [ho, Sem.run_bind, hx, hr, Result.andThen_ok, Sem.run_pure, Oper.upon]
  exact hK _ _ h
end
theorem PBx.init (w : World) (s : ByteArray) : PBx w (((w.alloc (.cells #[.string s] 9)).alloc (.cells #[.slice none 0 0] 22)).alloc (.cells #[.int .i64 0] 3))
    w.heap.size (w.heap.size + 1) (w.heap.size + 1 + 1) (w.heap.size + 1 + 1 + 1) s (.slice none 0 0) 0 where
  ext := (((Ext.refl w).alloc _).alloc _).alloc _
  ls := by omega
  lb := by omega
  lp := by omega
  bs_ := by omega
  bb := by omega
  bp := by omega
  nbs := by omega
  nps := by omega
  nbp := by omega
  sz := by rw [World.size_alloc, World.size_alloc, World.size_alloc]; omega
  box := ((Blk_.new w _ _).alloc _).alloc _
  buf := (Blk_.new1 w _ _ _).alloc _
  pl := Blk_.new2 w _ _ _ _
theorem piece_pair (s : ByteArray) (i : Nat) : pieceF s i 1 0 0 = ((pieceF s i 1 0 0).1, (pieceF s i 1 0 0).2) := rfl
theorem pieceF_back (s : ByteArray) (i d best back : Nat) (h : back ≤ 255) : (pieceF s i d best back).2 ≤ 255 := by
  induction hm : 256 - d generalizing d best back with
  | zero => rw [pieceF, if_neg (by omega)]; exact h
  | succ m ih =>
    rw [pieceF]
    split
    · rename_i hc
      split
      · exact ih _ _ _ hc.1 (by omega)
      · exact ih _ _ _ h (by omega)
    · exact h

set_option maxRecDepth 100000 in
set_option maxHeartbeats 8000000 in
theorem pack_any (s : ByteArray) (w : World) :
    Calls Try.prog 13 #[.string s] w fun e w' => e = .returned (.tuple #[.string (packS s).1, .int .i64 (packS s).2]) ∧ Ext w w' := by
  by_cases hs : 600 < s.size
  · have hf : packS s = (.empty, 1) := by unfold packS; rw [if_pos hs]
    rw [hf]
    clear hf
    go_enter Try.func13, Try.ntmps13
    go_wp2_with fail
    go_ret2
    exact ⟨rfl, (Ext.refl _).alloc _⟩
  · have hf : packS s = (bs (packF s [] 0 0), 0) := by unfold packS; rw [if_neg hs]
    rw [hf]
    have hs' : s.size ≤ 600 := by omega
    have hsI : (s.size : Int) ≤ 600 := by omega
    obtain ⟨i0, hi0, hz0, hz1, hz2⟩ := info_parts info_byte
    have HI := Lib.hid (And.intro hi0 (And.intro hz0 (And.intro hz1 hz2)))
    clear hf hi0 hz0 hz1 hz2
    go_enter Try.func13, Try.ntmps13
    go_wp2_with fail
    refine wp_abs (fun W => PBx w W w.heap.size (w.heap.size + 1) (w.heap.size + 1 + 1) (w.heap.size + 1 + 1 + 1) s (.slice none 0 0) 0) (PBx.init w s) ?_
    intro W hW
    have HW := Lib.hid hW
    clear hW
    revert HW
    generalize w.heap.size + 1 + 1 + 1 = base
    generalize w.heap.size + 1 + 1 = gp
    generalize w.heap.size + 1 = gb
    generalize w.heap.size = gs
    intro HW
    go_loopw [7] (fun iv wr => ∃ (B : Value) (o : List UInt8) (p i : Nat), iv = .int .i64 i ∧ PBx w wr gs gb gp base s B p ∧ wr.ownsRow base 5 1 B o.length (cells o) ∧ p ≤ i ∧ i ≤ s.size ∧ o.length ≤ 2 * (i - p) ∧ packF s o (i - p) i = packF s [] 0 0) (fun iv _ => s.size - (intOf iv).toNat)
    case atStart => exact ⟨.slice none 0 0, [], 0, 0, rfl, HW.out, World.ownsRow_nil _ _ _ _, by omega, by omega, by simp, rfl⟩
    case round =>
      clear HW
      obtain ⟨B, o, p, i, rfl, hb, ho, hpi, his, hol, heq⟩ := hrel
      have HEQ := Lib.hid heq
      have HO := Lib.hid ho
      have HB := Lib.hid hb
      have q2 := hb.box.cell 0
      simp at q2
      clear heq ho hb
      by_cases hi : i < s.size
      · have HI2 := Lib.hid hi
        go_wp2_with fail
        refine (piece_any s i _ hi hs').mono ?_
        rintro e' w1 ⟨rfl, hx1⟩
        have hb1 := HB.out.grown (hx1.by_ none) (fun k hk => by cases hk)
        have HO1 := Lib.hid (own_ext HO.out hx1)
        have HB1 := Lib.hid hb1
        have r0 := hb1.pl.cell 0
        simp at r0
        have r1 := hb1.buf.cell 0
        simp at r1
        have r2 := hb1.box.cell 0
        simp at r2
        have z0 := hb1.pl.frozen 0
        have z1 := hb1.buf.frozen 0
        obtain ⟨n, hn⟩ : ∃ n, n = (pieceF s i 1 0 0).1 := ⟨_, rfl⟩
        obtain ⟨d, hd⟩ : ∃ d, d = (pieceF s i 1 0 0).2 := ⟨_, rfl⟩
        rw [← hn, ← hd]
        have HPP := Lib.hid (show pieceF s i 1 0 0 = (n, d) by rw [hn, hd])
        have HPL := Lib.hid (show n ≤ 131 ∧ i + n ≤ s.size by rw [hn]; exact piece_le s i his)
        have hd255 : (d : Int) ≤ 255 := by have := pieceF_back s i 1 0 0 (by omega); omega
        have hn131 : (n : Int) ≤ 131 := by have := HPL.out.1; omega
        have hi6 : (i : Int) < 600 := by omega
        have hp6 : (p : Int) < 600 := by omega
        clear hb1 hn hd q2 hx1
        by_cases h4 : n < 4
        · have HNX := Lib.hid (show packF s o (i - p) (i + 1) = packF s [] 0 0 by rw [← HEQ.out]; exact (pack_plain HI2.out (by rw [HPP.out]; exact h4)).symm)
          go_wp2_with fail
          go_roundw
          case rel =>
            refine ⟨B, o, p + 1, i + 1, by first | rfl | go_num, ?_, ?_, by omega, by omega, by omega, by rw [show i + 1 - (p + 1) = i - p by omega]; exact HNX.out⟩
            · have := HB1.out.setPl (p + 1)
              simpa using this
            · refine ownsRow_setCell_other HO1.out ?_ _
              intro e; have h1 : base ≤ gp := (HO1.out.lt _ e).1; have := HB1.out.bp; omega
          case measure => (simp [intOf]; try omega)
        · have HN4 := Lib.hid h4
          have HPI := Lib.hid (And.intro hpi hol)
          have HOL := Lib.hid (show (o ++ plainF (sub_ s (i - p) i)).length ≤ 2 * i by
            have h1 := plain_len2 (sub_ s (i - p) i)
            rw [length_sub_ s _ _ his] at h1
            rw [List.length_append]; omega)
          have HNX := Lib.hid (show packF s (o ++ plainF (sub_ s (i - p) i) ++ [UInt8.ofNat (124 + n), UInt8.ofNat d]) (i + n) (i + n) = packF s [] 0 0 by rw [← HEQ.out]; exact (pack_piece HI2.out HPP.out h4).symm)
          have t3 : decide ((n : Int) < 4) = false := by simp; omega
          go_wp2_with fail
          refine (flush_any w w1 gs gb gp base s B o p i HB1.out HO1.out hpi his hs' (by omega)).mono ?_
          rintro e' w2 ⟨rfl, B2, hb2, ho2⟩
          obtain ⟨A2, c2, rfl⟩ := own_slice ho2
          generalize hO2 : o ++ plainF (sub_ s (i - p) i) = O2 at *
          have HO2 := Lib.hid ho2
          have HB2 := Lib.hid hb2
          have hln : (O2.length : Int) ≤ 1200 := by have := HOL.out; omega
          have hx128 : IntKind.i64.wrap (128 + (n : Int)) = 128 + (n : Int) := by rw [IntKind.wrap_i64]; omega
          have hx124 : IntKind.i64.wrap (128 + (n : Int) - 4) = 124 + (n : Int) := by rw [IntKind.wrap_i64]; omega
          have hx124' : 128 + (n : Int) - 4 = 124 + (n : Int) := by omega
          have hxu : IntKind.u8.wrap (124 + (n : Int)) = 124 + (n : Int) := by rw [IntKind.wrap_u8]; omega
          have hxd : IntKind.u8.wrap (d : Int) = (d : Int) := by rw [IntKind.wrap_u8]; omega
          have m1 := hb2.buf.cell 0
          simp at m1
          have y1 := hb2.buf.frozen 0
          clear hO2 ho2 hb2 r0 r1 r2 z0 z1 h4 hpi hol t3
          go_wp2_with (at_builtin; refine wpList_append_at _ rfl (.tmp 33) (.tmp 40) 22 rfl base 5 i0 (.int .u8 0) 1 1 Try.underlying22 HI.out.1 HI.out.2.1 HI.out.2.2.1 HI.out.2.2.2 rfl (by decide) _ _ _ rfl (own_ext HO2.out ((Ext.refl _).alloc _)) ⟨w2.heap.size, 0, none⟩ 2 2 [.int .u8 (124 + (n : Int)), .int .u8 (d : Int)] rfl rfl ?c1 ?c2 ?c3 ?c4 ?c5 ?_)
          case c1 =>
            intro j u hu
            rw [Addr.add_lit, Nat.zero_add, (Blk_.new _ _ _).cell]
            simpa using hu
          case c2 =>
            intro u hu
            simp only [List.mem_cons, List.not_mem_nil, or_false] at hu
            rcases hu with rfl | rfl <;> rfl
          case c3 => unfold maxLen; omega
          case c4 => omega
          case c5 => have := HB2.out.sz; rw [World.size_alloc]; omega
          intro A4 c4 w4 own4 hg4 hb4
          have hb4' := (HB2.out.grown (((Ext.refl w2).alloc _).by_ none) (fun k hk => by cases hk)).grown hg4 (fun k hk => (HO2.out.lt k hk).1)
          have HO4 := Lib.hid (show w4.ownsRow base 5 1 (.slice A4 (O2.length + 2) c4) (O2 ++ [UInt8.ofNat (124 + n), UInt8.ofNat d]).length (cells (O2 ++ [UInt8.ofNat (124 + n), UInt8.ofNat d])) by
            rw [cells_append, List.length_append]
            rw [show cells [UInt8.ofNat (124 + n), UInt8.ofNat d] = [.int .u8 (124 + (n : Int)), .int .u8 (d : Int)] by
              unfold cells
              rw [List.map_cons, List.map_cons, List.map_nil, ← byte_124, ← byte_cast, byte_nat_ _ (by omega) (by omega), byte_nat_ _ (by omega) (by omega)]]
            exact own4)
          have HB4 := Lib.hid hb4'
          have r1 := hb4'.buf.cell 0
          simp at r1
          have z1 := hb4'.buf.frozen 0
          clear own4 hg4 hb4 hb4' m1 y1
          go_wp2_with fail
          go_roundw
          case rel =>
            refine ⟨_, O2 ++ [UInt8.ofNat (124 + n), UInt8.ofNat d], 0, i + n, by first | rfl | go_num, HB4.out.setBuf _, ?_, by omega, HPL.out.2, ?_, HNX.out⟩
            · refine ownsRow_setCell_other HO4.out ?_ _
              intro e; have h1 : base ≤ gb := (HO4.out.lt _ e).1; have := HB4.out.bb; omega
            · have := HOL.out; have := HN4.out; rw [List.length_append]; simp only [List.length_cons, List.length_nil]; omega
          case measure => have := HN4.out; (simp [intOf]; try omega)
      · obtain rfl : i = s.size := by omega
        have HFIN := Lib.hid (show o ++ plainF (sub_ s (s.size - p) s.size) = packF s [] 0 0 by rw [← HEQ.out, pack_stop hi])
        have HPI := Lib.hid hpi
        have HOL := Lib.hid hol
        clear hpi hol hi HEQ
        go_wp2_with fail
        refine (flush_any w wr gs gb gp base s B o p s.size HB.out HO.out HPI.out his hs' (by have := HOL.out; omega)).mono ?_
        rintro e' w2 ⟨rfl, B2, hb2, ho2⟩
        rw [HFIN.out] at ho2
        obtain ⟨A2, c2, rfl⟩ := own_slice ho2
        have HX := Lib.hid hb2.ext
        have m1 := hb2.buf.cell 0
        simp at m1
        generalize hRR : packF s [] 0 0 = R at *
        have HRR := Lib.hid hRR
        clear hRR
        by_cases hR : R.length = 0
        · have hR0 : R = [] := List.eq_nil_of_length_eq_zero hR
          subst hR0
          rcases ho2.2 with ⟨hv, _⟩ | ⟨g, cap, cur, hv, hbg, hg, _⟩
          · injection hv with e1 e2 e3
            subst e1 e3
            clear ho2 hb2 HFIN HB HO hR
            go_wp2_with (refine wpList_fromnil (.tmp 48) 22 9 5 rfl rfl Try.underlying22 Try.underlying5 Try.underlying9 rfl ?_)
            go_wp2_with fail
            go_ret2
            exact ⟨by rw [HRR.out]; rfl, HX.out⟩
          · injection hv with e1 e2 e3
            subst e1 e3
            have HBF := Lib.hid (show Buf 5 w2 g [] from ⟨cur, (0, 0), hg, fun i hi => by simp at hi, fun i hi => by simp at hi⟩)
            clear ho2 hb2 HFIN HB HO hR hg
            go_wp2_with (refine wpList_frombytes (.tmp 48) 22 9 5 rfl rfl Try.underlying22 Try.underlying5 Try.underlying9 g _ _ _ HBF.out rfl rfl ?_)
            go_wp2_with fail
            go_ret2
            exact ⟨by rw [HRR.out]; rfl, HX.out⟩
        · rw [cells_flat] at ho2
          obtain ⟨g, rfl, hg1, hbf, hln⟩ := own_buf ho2 (by omega)
          have HBF := Lib.hid hbf
          clear ho2 hb2 hbf hln HFIN HB HO
          go_wp2_with (refine wpList_frombytes (.tmp 48) 22 9 5 rfl rfl Try.underlying22 Try.underlying5 Try.underlying9 g _ c2 _ HBF.out rfl rfl ?_)
          go_wp2_with fail
          go_ret2
          exact ⟨by rw [HRR.out]; rfl, HX.out⟩
end Go.Proofs.Ytokpjgpdkmimgaa
