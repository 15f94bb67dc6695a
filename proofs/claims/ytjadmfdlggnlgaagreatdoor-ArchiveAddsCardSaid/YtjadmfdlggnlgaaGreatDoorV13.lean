/-
  press.Pack: a text, with what stands there already made short. Conditions: none.
-/
import Derived.Test.YtjadmfdlggnlgaaGreatDoorV12
import Derived.Shelf.Strings.BuilderK
namespace Go.Proofs.YtjadmfdlggnlgaaGreatDoor
set_option linter.unusedSimpArgs false
set_option linter.unusedVariables false
set_option maxRecDepth 100000
set_option maxHeartbeats 8000000
open Go.RowKit
theorem cells_flat (l : List UInt8) : cells l = l.flatMap encByte := by
 unfold cells
 induction l with
 | nil => rfl
 | cons a l ih => rw [List.map_cons, List.flatMap_cons, ih]; rfl
section
variable {P : Program} {Q : Exit → Act → World → Prop}
theorem wpList_fromnil {ops : Array Oper} {rest : List Oper} {o : Oper} {a : Act} {w : World} (x : Operand) (src dst e : TypeId) (ho : o.op = .convert src dst x) (hgd : o.guard = none) (hs : P.underlying src = some (.slice e)) (he : P.underlying e = some (.int .u8)) (hd : P.underlying dst = some .string)
  (hx : a.eval x = .slice none 0 0) (h : wpList P ops Q rest (a.put o.dst (.string (bs []))) w) : wpList P ops Q (o :: rest) a w := by
 refine wpList_plain hgd fun K hK => ?_
 have hr : (convert src dst (.slice none 0 0)).run P w = .ok (.string (bs [])) w := by
  rw [run_convert_bytes_string w src dst e none 0 0 hs he hd]
  rfl
 unfold Oper.wp execOp
 simp only [ho, Sem.run_bind, hx, hr, Result.andThen_ok, Sem.run_pure, Oper.upon]
 exact hK _ _ h
end
theorem PBx.init (w : World) (s : ByteArray) : PBx w (((w.alloc (.cells #[.string s] 9)).alloc (.cells #[.slice none 0 0] 47)).alloc (.cells #[.int .i64 0] 3))
  w.heap.size (w.heap.size + 1) (w.heap.size + 1 + 1) (w.heap.size + 1 + 1 + 1) s (.slice none 0 0) 0 where
 ext := (((Ext.refl w).alloc _).alloc _).alloc _
 ls := by omega
 lb := by omega
 lp := by omega
 bs_ := by omega
 bb := by omega
 bp := by omega
 nbs := by omega
 nps := by omega
 nbp := by omega
 sz := by rw [World.size_alloc, World.size_alloc, World.size_alloc]; omega
 box := ((Blk_.new w _ _).alloc _).alloc _
 buf := (Blk_.new1 w _ _ _).alloc _
 pl := Blk_.new2 w _ _ _ _
theorem pieceF_back (s : ByteArray) (i d best back : Nat) (h : back ≤ 255) : (pieceF s i d best back).2 ≤ 255 := by
 induction hm : 256 - d generalizing d best back with
 | zero => rw [pieceF, if_neg (by omega)]; exact h
 | succ m ih =>
  rw [pieceF]
  split
  ·rename_i hc
   split
   ·exact ih _ _ _ hc.1 (by omega)
   ·exact ih _ _ _ h (by omega)
  ·exact h
theorem pack_any (s : ByteArray) (w : World) :
  Calls Tryz.prog 13 #[.string s] w fun e w' => e = .returned (.tuple #[.string (packS s).1, .int .i64 (packS s).2]) ∧ Ext w w' := by
 by_cases hs : 600 < s.size
 ·have hf : packS s = (.empty, 1) := by unfold packS; rw [if_pos hs]
  rw [hf]
  clear hf
  go_enter Tryz.func13, Tryz.ntmps13
  go_wp2_with fail
  go_ret2
  exact ⟨rfl, (Ext.refl _).alloc _⟩
 ·have hf : packS s = (bs (packF s [] 0 0), 0) := by unfold packS; rw [if_neg hs]
  rw [hf]
  have hs' : s.size ≤ 600 := by omega
  have hsI : (s.size : Int) ≤ 600 := by omega
  obtain ⟨i0, hi0, hz0, hz1, hz2⟩ := info_parts info_byte
  have HI := Lib.hid (And.intro hi0 (And.intro hz0 (And.intro hz1 hz2)))
  clear hf hi0 hz0 hz1 hz2
  go_enter Tryz.func13, Tryz.ntmps13
  go_wp2_with fail
  refine wp_abs (fun W => PBx w W w.heap.size (w.heap.size + 1) (w.heap.size + 1 + 1) (w.heap.size + 1 + 1 + 1) s (.slice none 0 0) 0) (PBx.init w s) ?_
  intro W hW
  have HW := Lib.hid hW
  clear hW
  revert HW
  generalize w.heap.size + 1 + 1 + 1 = base
  generalize w.heap.size + 1 + 1 = gp
  generalize w.heap.size + 1 = gb
  generalize w.heap.size = gs
  intro HW
  go_loopw [7] (fun iv wr => ∃ (B : Value) (o : List UInt8) (p i : Nat), iv = .int .i64 i ∧ PBx w wr gs gb gp base s B p ∧ wr.ownsRow base 5 1 B o.length (cells o) ∧ p ≤ i ∧ i ≤ s.size ∧ o.length ≤ 2 * (i - p) ∧ packF s o (i - p) i = packF s [] 0 0) (fun iv _ => s.size - (intOf iv).toNat)
  case atStart => exact ⟨.slice none 0 0, [], 0, 0, rfl, HW.out, World.ownsRow_nil _ _ _ _, by omega, by omega, by simp, rfl⟩
  case round =>
   clear HW
   obtain ⟨B, o, p, i, rfl, hb, ho, hpi, his, hol, heq⟩ := hrel
   have HEQ := Lib.hid heq
   have HO := Lib.hid ho
   have HB := Lib.hid hb
   have q2 := hb.box.cell 0
   simp at q2
   clear heq ho hb
   by_cases hi : i < s.size
   ·have HI2 := Lib.hid hi
    go_wp2_with fail
    refine (piece_any s i _ hi hs').mono ?_
    rintro e' w1 ⟨rfl, hx1⟩
    have hb1 := HB.out.grown (hx1.by_ none) (fun k hk => by cases hk)
    have HO1 := Lib.hid (own_ext HO.out hx1)
    have HB1 := Lib.hid hb1
    have r0 := hb1.pl.cell 0
    simp at r0
    have r1 := hb1.buf.cell 0
    simp at r1
    have r2 := hb1.box.cell 0
    simp at r2
    have z0 := hb1.pl.frozen 0
    have z1 := hb1.buf.frozen 0
    obtain ⟨n, hn⟩ : ∃ n, n = (pieceF s i 1 0 0).1 := ⟨_, rfl⟩
    obtain ⟨d, hd⟩ : ∃ d, d = (pieceF s i 1 0 0).2 := ⟨_, rfl⟩
    rw [← hn, ← hd]
    have HPP := Lib.hid (show pieceF s i 1 0 0 = (n, d) by rw [hn, hd])
    have HPL := Lib.hid (show n ≤ 131 ∧ i + n ≤ s.size by rw [hn]; exact piece_le s i his)
    have hd255 : (d : Int) ≤ 255 := by have := pieceF_back s i 1 0 0 (by omega); omega
    have hn131 : (n : Int) ≤ 131 := by have := HPL.out.1; omega
    have hi6 : (i : Int) < 600 := by omega
    have hp6 : (p : Int) < 600 := by omega
    clear hb1 hn hd q2 hx1
    by_cases h4 : n < 4
    ·have HNX := Lib.hid (show packF s o (i - p) (i + 1) = packF s [] 0 0 by rw [← HEQ.out]; exact (pack_plain HI2.out (by rw [HPP.out]; exact h4)).symm)
     go_wp2_with fail
     go_roundw
     case rel =>
      refine ⟨B, o, p + 1, i + 1, by first | rfl | go_num, ?_, ?_, by omega, by omega, by omega, by rw [show i + 1 - (p + 1) = i - p by omega]; exact HNX.out⟩
      ·have := HB1.out.setPl (p + 1)
       simpa using this
      ·refine ownsRow_setCell_other HO1.out ?_ _
       intro e; have h1 : base ≤ gp := (HO1.out.lt _ e).1; have := HB1.out.bp; omega
     case measure => (simp [intOf]; try omega)
    ·have HN4 := Lib.hid h4
     have HPI := Lib.hid (And.intro hpi hol)
     have HOL := Lib.hid (show (o ++ plainF (sub_ s (i - p) i)).length ≤ 2 * i by
      have h1 := plain_len2 (sub_ s (i - p) i)
      rw [length_sub_ s _ _ his] at h1
      rw [List.length_append]; omega)
     have HNX := Lib.hid (show packF s (o ++ plainF (sub_ s (i - p) i) ++ [UInt8.ofNat (124 + n), UInt8.ofNat d]) (i + n) (i + n) = packF s [] 0 0 by rw [← HEQ.out]; exact (pack_piece HI2.out HPP.out h4).symm)
     have t3 : decide ((n : Int) < 4) = false := by simp; omega
     go_wp2_with fail
     refine (flush_any w w1 gs gb gp base s B o p i HB1.out HO1.out hpi his hs' (by omega)).mono ?_
     rintro e' w2 ⟨rfl, B2, hb2, ho2⟩
     obtain ⟨A2, c2, rfl⟩ := own_slice ho2
     generalize hO2 : o ++ plainF (sub_ s (i - p) i) = O2 at *
     have HO2 := Lib.hid ho2
     have HB2 := Lib.hid hb2
     have hln : (O2.length : Int) ≤ 1200 := by have := HOL.out; omega
     have hx128 : IntKind.i64.wrap (128 + (n : Int)) = 128 + (n : Int) := by rw [IntKind.wrap_i64]; omega
     have hx124 : IntKind.i64.wrap (128 + (n : Int) - 4) = 124 + (n : Int) := by rw [IntKind.wrap_i64]; omega
     have hx124' : 128 + (n : Int) - 4 = 124 + (n : Int) := by omega
     have hxu : IntKind.u8.wrap (124 + (n : Int)) = 124 + (n : Int) := by rw [IntKind.wrap_u8]; omega
     have hxd : IntKind.u8.wrap (d : Int) = (d : Int) := by rw [IntKind.wrap_u8]; omega
     have m1 := hb2.buf.cell 0
     simp at m1
     have y1 := hb2.buf.frozen 0
     clear hO2 ho2 hb2 r0 r1 r2 z0 z1 h4 hpi hol t3
     go_wp2_with (at_builtin; refine wpList_append_at _ rfl (.tmp 33) (.tmp 40) 47 rfl base 5 i0 (.int .u8 0) 1 1 Tryz.underlying47 HI.out.1 HI.out.2.1 HI.out.2.2.1 HI.out.2.2.2 rfl (by decide) _ _ _ rfl (own_ext HO2.out ((Ext.refl _).alloc _)) ⟨w2.heap.size, 0, none⟩ 2 2 [.int .u8 (124 + (n : Int)), .int .u8 (d : Int)] rfl rfl ?c1 ?c2 ?c3 ?c4 ?c5 ?_)
     case c1 =>
      intro j u hu
      rw [Addr.add_lit, Nat.zero_add, (Blk_.new _ _ _).cell]
      simpa using hu
     case c2 =>
      intro u hu
      simp only [List.mem_cons, List.not_mem_nil, or_false] at hu
      rcases hu with rfl | rfl <;> rfl
     case c3 => unfold maxLen; omega
     case c4 => omega
     case c5 => have := HB2.out.sz; rw [World.size_alloc]; omega
     intro A4 c4 w4 own4 hg4 hb4
     have hb4' := (HB2.out.grown (((Ext.refl w2).alloc _).by_ none) (fun k hk => by cases hk)).grown hg4 (fun k hk => (HO2.out.lt k hk).1)
     have HO4 := Lib.hid (show w4.ownsRow base 5 1 (.slice A4 (O2.length + 2) c4) (O2 ++ [UInt8.ofNat (124 + n), UInt8.ofNat d]).length (cells (O2 ++ [UInt8.ofNat (124 + n), UInt8.ofNat d])) by
      rw [cells_append, List.length_append]
      rw [show cells [UInt8.ofNat (124 + n), UInt8.ofNat d] = [.int .u8 (124 + (n : Int)), .int .u8 (d : Int)] by
       unfold cells
       rw [List.map_cons, List.map_cons, List.map_nil, ← byte_124, ← byte_cast, byte_nat_ _ (by omega) (by omega), byte_nat_ _ (by omega) (by omega)]]
      exact own4)
     have HB4 := Lib.hid hb4'
     have r1 := hb4'.buf.cell 0
     simp at r1
     have z1 := hb4'.buf.frozen 0
     clear own4 hg4 hb4 hb4' m1 y1
     go_wp2_with fail
     go_roundw
     case rel =>
      refine ⟨_, O2 ++ [UInt8.ofNat (124 + n), UInt8.ofNat d], 0, i + n, by first | rfl | go_num, HB4.out.setBuf _, ?_, by omega, HPL.out.2, ?_, HNX.out⟩
      ·refine ownsRow_setCell_other HO4.out ?_ _
       intro e; have h1 : base ≤ gb := (HO4.out.lt _ e).1; have := HB4.out.bb; omega
      ·have := HOL.out; have := HN4.out; rw [List.length_append]; simp only [List.length_cons, List.length_nil]; omega
     case measure => have := HN4.out; (simp [intOf]; try omega)
   ·obtain rfl : i = s.size := by omega
    have HFIN := Lib.hid (show o ++ plainF (sub_ s (s.size - p) s.size) = packF s [] 0 0 by rw [← HEQ.out, pack_stop hi])
    have HPI := Lib.hid hpi
    have HOL := Lib.hid hol
    clear hpi hol hi HEQ
    go_wp2_with fail
    refine (flush_any w wr gs gb gp base s B o p s.size HB.out HO.out HPI.out his hs' (by have := HOL.out; omega)).mono ?_
    rintro e' w2 ⟨rfl, B2, hb2, ho2⟩
    rw [HFIN.out] at ho2
    obtain ⟨A2, c2, rfl⟩ := own_slice ho2
    have HX := Lib.hid hb2.ext
    have m1 := hb2.buf.cell 0
    simp at m1
    generalize hRR : packF s [] 0 0 = R at *
    have HRR := Lib.hid hRR
    clear hRR
    by_cases hR : R.length = 0
    ·have hR0 : R = [] := List.eq_nil_of_length_eq_zero hR
     subst hR0
     rcases ho2.2 with ⟨hv, _⟩ | ⟨g, cap, cur, hv, hbg, hg, _⟩
     ·injection hv with e1 e2 e3
      subst e1 e3
      clear ho2 hb2 HFIN HB HO hR
      go_wp2_with (refine wpList_fromnil (.tmp 48) 47 9 5 rfl rfl Tryz.underlying47 Tryz.underlying5 Tryz.underlying9 rfl ?_)
      go_wp2_with fail
      go_ret2
      exact ⟨by rw [HRR.out]; rfl, HX.out⟩
     ·injection hv with e1 e2 e3
      subst e1 e3
      have HBF := Lib.hid (show Buf 5 w2 g [] from ⟨cur, (0, 0), hg, fun i hi => by simp at hi, fun i hi => by simp at hi⟩)
      clear ho2 hb2 HFIN HB HO hR hg
      go_wp2_with (refine wpList_frombytes (.tmp 48) 47 9 5 rfl rfl Tryz.underlying47 Tryz.underlying5 Tryz.underlying9 g _ _ _ HBF.out rfl rfl ?_)
      go_wp2_with fail
      go_ret2
      exact ⟨by rw [HRR.out]; rfl, HX.out⟩
    ·rw [cells_flat] at ho2
     obtain ⟨g, rfl, hg1, hbf, hln⟩ := own_buf ho2 (by omega)
     have HBF := Lib.hid hbf
     clear ho2 hb2 hbf hln HFIN HB HO
     go_wp2_with (refine wpList_frombytes (.tmp 48) 47 9 5 rfl rfl Tryz.underlying47 Tryz.underlying5 Tryz.underlying9 g _ c2 _ HBF.out rfl rfl ?_)
     go_wp2_with fail
     go_ret2
     exact ⟨by rw [HRR.out]; rfl, HX.out⟩
end Go.Proofs.YtjadmfdlggnlgaaGreatDoor
namespace Go.Proofs.YtjadmfdlggnlgaaGreatDoor
set_option linter.unusedSimpArgs false
set_option linter.unusedVariables false
set_option maxRecDepth 100000
set_option maxHeartbeats 8000000
open Go.Shelf
def Tryz.laysB_ren : Go.Shelf.Ren := ⟨fun | 166 => 12 | 169 => 14 | 170 => 52 | 240 => 41 | 276 => 72 | n => n, fun | 9 => 9 | 3 => 3 | 4 => 4 | 20 => 20 | 0 => 0 | 46 => 90 | 109 => 91 | 5 => 5 | 72 => 49 | 76 => 54 | 51 => 116 | 146 => 117 | 53 => 119 | 148 => 120 | 70 => 46 | 37 => 47 | 75 => 53 | 127 => 87 | 164 => 109 | 80 => 58 | n => n, fun | n => n⟩
theorem Tryz.laysB166 : Go.Proofs.Lays.n166 Tryz.prog Tryz.laysB_ren := {
 mixed := by kernel_rfl
 f166 := Tryz.func12.trans (congrArg some (by kernel_rfl))
 f240 := Tryz.func41.trans (congrArg some (by kernel_rfl))
 f276 := Tryz.func72.trans (congrArg some (by kernel_rfl))
 t0 := Tryz.underlying0
 a0 := Tryz.isAgg0
 z0 := Tryz.sizeOf0
 v0 := Tryz.zeroValue0
 t3 := Tryz.underlying3
 a3 := Tryz.isAgg3
 z3 := Tryz.sizeOf3
 v3 := Tryz.zeroValue3
 t4 := Tryz.underlying4
 a4 := Tryz.isAgg4
 z4 := Tryz.sizeOf4
 v4 := Tryz.zeroValue4
 t9 := Tryz.underlying9
 a9 := Tryz.isAgg9
 z9 := Tryz.sizeOf9
 v9 := Tryz.zeroValue9
 t20 := Tryz.underlying20
 a20 := Tryz.isAgg20
 z20 := Tryz.sizeOf20
 v20 := Tryz.zeroValue20
 t37 := Tryz.underlying47
 a37 := Tryz.isAgg47
 z37 := Tryz.sizeOf47
 v37 := Tryz.zeroValue47
 t70 := Tryz.underlying46
 a70 := Tryz.isAgg46
 z70 := Tryz.sizeOf46
 v70 := Tryz.zeroValue46
 t72 := Tryz.underlying49
 a72 := Tryz.isAgg49
 z72 := Tryz.sizeOf49
 v72 := Tryz.zeroValue49
 t75 := Tryz.underlying53
 a75 := Tryz.isAgg53
 z75 := Tryz.sizeOf53
 v75 := Tryz.zeroValue53
 t164 := Tryz.underlying109
 a164 := Tryz.isAgg109
 z164 := Tryz.sizeOf109
 v164 := Tryz.zeroValue109 }
theorem Tryz.laysB169 : Go.Proofs.Lays.n169 Tryz.prog Tryz.laysB_ren := {
 mixed := by kernel_rfl
 f169 := Tryz.func14.trans (congrArg some (by kernel_rfl))
 t0 := Tryz.underlying0
 a0 := Tryz.isAgg0
 z0 := Tryz.sizeOf0
 v0 := Tryz.zeroValue0
 t3 := Tryz.underlying3
 a3 := Tryz.isAgg3
 z3 := Tryz.sizeOf3
 v3 := Tryz.zeroValue3
 t9 := Tryz.underlying9
 a9 := Tryz.isAgg9
 z9 := Tryz.sizeOf9
 v9 := Tryz.zeroValue9
 t37 := Tryz.underlying47
 a37 := Tryz.isAgg47
 z37 := Tryz.sizeOf47
 v37 := Tryz.zeroValue47
 t70 := Tryz.underlying46
 a70 := Tryz.isAgg46
 z70 := Tryz.sizeOf46
 v70 := Tryz.zeroValue46
 t72 := Tryz.underlying49
 a72 := Tryz.isAgg49
 z72 := Tryz.sizeOf49
 v72 := Tryz.zeroValue49
 t127 := Tryz.underlying87
 a127 := Tryz.isAgg87
 z127 := Tryz.sizeOf87
 v127 := Tryz.zeroValue87 }
theorem Tryz.laysB_Extra : Builder.Extra Tryz.prog Tryz.laysB_ren := {
 sizeBuilder := by kernel_rfl
 liesBuilder := by kernel_rfl
 t5 := Tryz.underlying5
 a5 := Tryz.isAgg5
 z5 := Tryz.sizeOf5
 v5 := Tryz.zeroValue5
 infoByte := by kernel_rfl
 cellsByte := by kernel_rfl
 sizeByte := by kernel_rfl
 neB5 := by decide }
open Go.RowKit Go.Lib
def Bld (B b : Nat) (l : List UInt8) (w : World) : Prop := Lib.IsBuilderF 49 5 B b (Lib.byteCells l) w
theorem bld_string (B b : Nat) (l : List UInt8) (w : World) (h : Bld B b l w) (hB : B ≤ w.heap.size) : Calls Tryz.prog 14 #[.pointer (some ⟨b, 0, none⟩)] w fun e w' => e = .returned (.string ⟨l.toArray⟩) ∧ Bld B b l w' ∧ Below B w w' := by
 refine (Any.Builder_String_any_f Tryz.laysB169 Tryz.laysB_Extra B b l w h hB).mono ?_
 rintro e w' ⟨rfl, h1, h2⟩
 exact ⟨rfl, h1, h2⟩
theorem bld_text (B b : Nat) (l : List UInt8) (s : ByteArray) (w : World) (h : Bld B b l w) (hl : l.length + s.size ≤ 140737488355328) (hB : B ≤ w.heap.size) : Calls Tryz.prog 12 #[.pointer (some ⟨b, 0, none⟩), .string s] w fun e w' => e = .returned (.tuple #[.int .i64 s.size, .nilIface]) ∧ Bld B b (l ++ s.data.toList) w' ∧ Below B w w' := by
 refine (Any.Builder_WriteString_f Tryz.laysB166 Tryz.laysB_Extra B b (Lib.byteCells l) s w h (by simpa [Lib.byteCells] using hl) hB).mono ?_
 rintro e w' ⟨rfl, h1, h2⟩
 refine ⟨rfl, .inr ?_, h2⟩
 have : Lib.byteCells (l ++ s.data.toList) = Lib.byteCells l ++ Lib.strCells s := by simp [Lib.byteCells, Lib.strCells]
 rw [this]
 exact h1
end Go.Proofs.YtjadmfdlggnlgaaGreatDoor
namespace Go.Proofs.YtjadmfdlggnlgaaGreatDoor
set_option linter.unusedSimpArgs false
set_option linter.unusedVariables false
set_option maxRecDepth 100000
set_option maxHeartbeats 8000000
open Go.RowKit
theorem Bld.init (w : World) : Bld w.heap.size w.heap.size [] (w.alloc (.cells #[.pointer none, .slice none 0 0] 49)) :=
 .inl ⟨Nat.le_refl _, .slice none 0 0, heap_alloc_new w _, ⟨rfl, .inl ⟨rfl, rfl⟩⟩, by simp [Value.ownBlock]⟩
theorem enc_good {c : Cat} (h : catFault c = 0) : encCatS c = (bs (catBytes c), 0) := by unfold encCatS; rw [if_pos h]
theorem enc_bad {c : Cat} (h : ¬ catFault c = 0) : encCatS c = (.empty, catFault c) := by unfold encCatS; rw [if_neg h]
theorem ent_join (x : Ent) : bs [byte (x.name.size : Int)] ++ x.name ++ bs [byte x.block] ++ bs (twoB x.at_) ++ bs [byte x.bytes] = bs (entBytes x) := by
 obtain ⟨nm, b, a, n⟩ := x
 obtain ⟨q, rfl⟩ : ∃ q, nm = bs q := ⟨lst nm, (bs_lst nm).symm⟩
 unfold entBytes twoB
 simp only [lst_bs, bs_append]
 congr 1
 simp
theorem ent_len {nb : Nat} {x : Ent} (h : entBad nb x = false) : (entBytes x).length ≤ 13 := by
 have h1 := nameMay_size (entBad_false h).1
 unfold entBytes
 rw [List.length_cons, List.length_append, length_lst]
 simp only [List.length_cons, List.length_nil]
 omega
theorem two_any (n : Int) (w : World) (h0 : 0 ≤ n) (h1 : n ≤ 65535) :
  Calls Tryz.prog 45 #[.int .i64 n] w fun e w' => e = .returned (.string (bs (twoB n))) ∧ Ext w w' := by
 have hq : (0 : Int) ≤ n / 256 := by omega
 have hq2 : n / 256 ≤ 255 := by omega
 go_enter Tryz.func45, Tryz.ntmps45
 go_wp2_with fail
 go_ret
 refine ⟨?_, by first | exact ((Ext.refl _).alloc _) | exact ((Ext.refl _).alloc _).drew⟩
 rfl
theorem catEncode_any (cs : List Value) (d : Cat) (w : World) (h : RCat w cs d) :
  Calls Tryz.prog 18 #[.agg cs.toArray] w fun e w' => e = .returned (.tuple #[.string (encCatS d).1, .int .i64 (encCatS d).2]) ∧ Ext w w' := by
 have h' := h
 obtain ⟨v1, v2, rfl, h1, h2'⟩ := h'
 obtain ⟨A1, c1, rfl, l1, hc1, p1⟩ := h1.rowE encBlk_ok
 obtain ⟨A2, c2, rfl, l2, hc2, s1⟩ := h2'.rowE encEnt_ok
 have HP := Lib.hid p1
 have HS := Lib.hid s1
 have HH := Lib.hid h
 clear h1 h2' l1 hc1 p1 h l2 hc2 s1
 go_enter Tryz.func18, Tryz.ntmps18
 go_wp2_with fail
 refine calls_abs (fun W => Ext w W ∧ Blk_ W w.heap.size 40 #[.slice A1 d.blocks.length c1, .slice A2 d.entries.length c2]) ⟨(Ext.refl _).alloc _, Blk_.new _ _ _⟩ ?_
 rintro W ⟨hx, hb⟩
 refine (catCheck_any [.slice A1 d.blocks.length c1, .slice A2 d.entries.length c2] d W (HH.out.up hx)).mono ?_
 rintro e w1 ⟨rfl, hx1⟩
 have hb1 := hb.ext hx1
 have hxw := hx.trans hx1
 have f0 := hb1.cell 0
 have f1 := hb1.cell 1
 simp at f0 f1
 clear hb hx hx1
 by_cases hc : catFault d = 0
 ·have HF := Lib.hid (enc_good hc)
  have hok := catFault_ok hc
  have HN := Lib.hid (And.intro hok.1 hok.2.1)
  have HBR := Lib.hid (blocksF_range d.blocks 8 (by omega) hok.2.2.1)
  have HER := Lib.hid (entsF_ok _ _ _ hok.2.2.2)
  rw [hc]
  have hn1 : (d.blocks.length : Int) ≤ 10 := by have := hok.1; omega
  have hn2 : (d.entries.length : Int) ≤ 10 := by have := hok.2.1; omega
  have hu1 : IntKind.u8.wrap (d.blocks.length : Int) = (d.blocks.length : Int) := by rw [IntKind.wrap_u8]; omega
  have hu2 : IntKind.u8.wrap (d.entries.length : Int) = (d.entries.length : Int) := by rw [IntKind.wrap_u8]; omega
  obtain ⟨T, hT⟩ : ∃ T, T = catBytes d := ⟨_, rfl⟩
  obtain ⟨REST, hREST⟩ : ∃ r, r = byte d.entries.length :: d.entries.flatMap entBytes := ⟨_, rfl⟩
  have HT := Lib.hid hT
  have HRE := Lib.hid hREST
  have HT0 := Lib.hid (show [byte (d.blocks.length : Int)] ++ ((d.blocks.drop 0).flatMap (fun b => twoB b.bytes) ++ REST) = T by rw [hT, hREST]; rfl)
  clear hc hok hT hREST
  have hl1 := hb1.lt
  go_wp2_with fail
  go_loopw [5, 24] (fun sv i wr => ∃ (k : Nat) (t : List UInt8), sv = .string (bs t) ∧ i = .int .i64 k ∧ k ≤ d.blocks.length ∧ t.length ≤ 1 + 2 * k ∧ Ext w wr ∧ Blk_ wr w.heap.size 40 #[.slice A1 d.blocks.length c1, .slice A2 d.entries.length c2] ∧ t ++ ((d.blocks.drop k).flatMap (fun b => twoB b.bytes) ++ REST) = T) (fun _ i _ => d.blocks.length - (intOf i).toNat)
  case atStart => exact ⟨0, [byte (d.blocks.length : Int)], rfl, rfl, Nat.zero_le _, by simp, by first | exact hxw | exact hxw.alloc _ | exact (hxw.alloc _).drew, by first | exact hb1 | exact hb1.alloc _ | exact (hb1.alloc _).drew, HT0.out⟩
  case round =>
   clear hxw hb1 f0 f1 HT0 hl1
   obtain ⟨k, t, rfl, rfl, hk, htl, hx, hb, heq⟩ := hrel
   have f0 := hb.cell 0
   have f1 := hb.cell 1
   simp at f0 f1
   have HEQ := Lib.hid heq
   clear heq
   obtain ⟨S, hS⟩ : ∃ S, S = bs t := ⟨_, rfl⟩
   have HSS := Lib.hid (show S.size = t.length by rw [hS, size_bs])
   rw [← hS]
   have HSE := Lib.hid hS
   clear hS
   by_cases hlt : k < d.blocks.length
   ·obtain ⟨b1, o1, rfl, g1⟩ := HP.out k hlt
    have q0 := hx.cell (g1 k hlt 0 _ rfl)
    have q1 := hx.cell (g1 k hlt 1 _ rfl)
    simp only [Nat.add_zero] at q0
    have hB0 := HBR.out d.blocks[k] (List.getElem_mem hlt)
    have heq := HEQ.out
    rw [List.drop_eq_getElem_cons hlt, List.flatMap_cons] at heq
    obtain ⟨B, hB⟩ : ∃ B, B = d.blocks[k] := ⟨_, rfl⟩
    rw [← hB] at q0 q1 hB0 heq
    have HNX := Lib.hid (show (t ++ twoB B.bytes) ++ ((d.blocks.drop (k + 1)).flatMap (fun b => twoB b.bytes) ++ REST) = T by rw [List.append_assoc, ← List.append_assoc (twoB B.bytes)]; exact heq)
    clear g1 hB HEQ heq
    have hki : (k : Int) < (d.blocks.length : Int) := by omega
    have hk10 : (k : Int) < 10 := by have := HN.out.1; omega
    go_wp2_with fail
    refine (two_any B.bytes _ hB0.1 (by omega)).mono ?_
    rintro e w9 ⟨rfl, hx9⟩
    have HX9 := Lib.hid (hx.trans (((Ext.refl wr).alloc _).trans hx9))
    have HB9 := Lib.hid (hb.ext (((Ext.refl wr).alloc _).trans hx9))
    obtain ⟨Q, hQ⟩ : ∃ Q, Q = bs (twoB B.bytes) := ⟨_, rfl⟩
    rw [← hQ]
    have HQ := Lib.hid hQ
    have hcc : ¬ (9223372036854775807 < S.size + Q.size) := by rw [HSS.out, hQ, size_bs]; show ¬ (9223372036854775807 < t.length + 2); omega
    clear hx hb hx9 hQ f0 f1 q0 q1
    go_wp2_with fail
    go_roundw
    case rel => exact ⟨k + 1, t ++ twoB B.bytes, by rw [HSE.out, HQ.out, bs_append], by go_num, by omega, by rw [List.length_append]; show t.length + 2 ≤ _; omega, HX9.out, HB9.out, HNX.out⟩
    case measure => simp [intOf]; omega
   ·have HE1 := Lib.hid (show t ++ REST = T by have := HEQ.out; rw [List.drop_of_length_le (by omega)] at this; exact this)
    clear HEQ
    have hk10 : (k : Int) ≤ 10 := by have := HN.out.1; omega
    have hcc : ¬ (9223372036854775807 < S.size + 1) := by rw [HSS.out]; omega
    have hcc' : ¬ (9223372036854775807 < S.size + (bs [byte (d.entries.length : Int)]).size) := by rw [size_bs]; exact hcc
    have HX0 := Lib.hid hx
    have HBL0 := Lib.hid hb
    have hl0 := hb.lt
    go_wp2_with fail
    go_loopw [5, 45] (fun sv i wr => ∃ (k : Nat) (t : List UInt8), sv = .string (bs t) ∧ i = .int .i64 k ∧ k ≤ d.entries.length ∧ t.length ≤ 22 + 13 * k ∧ Ext w wr ∧ Blk_ wr w.heap.size 40 #[.slice A1 d.blocks.length c1, .slice A2 d.entries.length c2] ∧ t ++ (d.entries.drop k).flatMap entBytes = T) (fun _ i _ => d.entries.length - (intOf i).toNat)
    case atStart => exact ⟨0, t ++ [byte (d.entries.length : Int)], by rw [HSE.out, bs_append], rfl, Nat.zero_le _, by rw [List.length_append]; show t.length + 1 ≤ _; have := HN.out.1; omega, by first | exact HX0.out | exact HX0.out.alloc _ | exact (HX0.out.alloc _).drew, by first | exact HBL0.out | exact HBL0.out.alloc _ | exact (HBL0.out.alloc _).drew, by have := HE1.out; rw [HRE.out] at this; rw [List.append_assoc]; exact this⟩
    case round =>
     clear hx hb hl0 f0 f1 hlt hk hk10 htl hcc hcc' HSS HSE HE1 HX0 HBL0
     obtain ⟨k, t, rfl, rfl, hk, htl, hx, hb, heq⟩ := hrel
     have f0 := hb.cell 0
     have f1 := hb.cell 1
     simp at f0 f1
     have HEQ := Lib.hid heq
     clear heq
     obtain ⟨S, hS⟩ : ∃ S, S = bs t := ⟨_, rfl⟩
     have HSS := Lib.hid (show S.size = t.length by rw [hS, size_bs])
     rw [← hS]
     have HSE := Lib.hid hS
     clear hS
     by_cases hlt : k < d.entries.length
     ·obtain ⟨b2, o2, rfl, g1⟩ := HS.out k hlt
      have q0 := hx.cell (g1 k hlt 0 _ rfl)
      have q1 := hx.cell (g1 k hlt 1 _ rfl)
      have q2 := hx.cell (g1 k hlt 2 _ rfl)
      have q3 := hx.cell (g1 k hlt 3 _ rfl)
      simp only [Nat.add_zero] at q0
      have hX0 := HER.out d.entries[k] (List.getElem_mem hlt)
      have heq := HEQ.out
      rw [List.drop_eq_getElem_cons hlt, List.flatMap_cons] at heq
      obtain ⟨X, hX⟩ : ∃ X, X = d.entries[k] := ⟨_, rfl⟩
      rw [← hX] at q0 q1 q2 q3 hX0 heq
      have hXL := ent_len hX0
      have hXB := entBad_false hX0
      have hXN := nameMay_size hXB.1
      have HNX := Lib.hid (show (t ++ entBytes X) ++ (d.entries.drop (k + 1)).flatMap entBytes = T by rw [List.append_assoc]; exact heq)
      have HXL := Lib.hid hXL
      have hb10 : X.block < 10 := by have := hXB.2.2.1; have := HN.out.1; omega
      obtain ⟨_, hb0, _, ha0, ha1, hn0, hn1'⟩ := hXB
      clear g1 hX HEQ heq hX0 hXL
      have hki : (k : Int) < (d.entries.length : Int) := by omega
      have hk10 : (k : Int) < 10 := by have := HN.out.2; omega
      obtain ⟨Q, hQ⟩ : ∃ Q, Q = bs (twoB X.at_) := ⟨_, rfl⟩
      have HQS := Lib.hid (show Q.size = 2 by rw [hQ, size_bs]; rfl)
      have HQ := Lib.hid hQ
      have HJ := Lib.hid (show S ++ (bs [byte (X.name.size : Int)] ++ X.name ++ bs [byte X.block] ++ Q ++ bs [byte X.bytes]) = bs (t ++ entBytes X) by rw [hQ, ent_join, HSE.out, bs_append])
      clear hQ
      have hk10' : k < 10 := by omega
      go_wp2_with fail
      refine wp_abs (fun W => Ext wr W ∧ Blk_ W wr.heap.size 70 #[.string X.name, .int .i64 X.block, .int .i64 X.at_, .int .i64 X.bytes]) ⟨(Ext.refl _).alloc _, Blk_.new _ _ _⟩ ?_
      rintro W1 ⟨hx1, hbx⟩
      have e0 := hbx.cell 0
      have e1 := hbx.cell 1
      have e2 := hbx.cell 2
      have e3 := hbx.cell 3
      simp at e0 e1 e2 e3
      have HX1 := Lib.hid (hx.trans hx1)
      have HB1 := Lib.hid (hb.ext hx1)
      clear hx hb hx1 hbx f0 f1 q0 q1 q2 q3
      refine wp_region_vals (F := ?_) ?_ [(fun (v : Value) (_ : World) => v = .string S), (fun (v : Value) (_ : World) => v = .pointer (some ⟨wr.heap.size, 0, none⟩)), (fun (v : Value) (_ : World) => v = .string X.name), (fun (v : Value) (_ : World) => v = .int .i64 (X.name.size : Int)), (fun (v : Value) (_ : World) => v = .int .u8 (X.name.size : Int)), (fun v w => ∃ g, v = .slice (some ⟨g, 0, none⟩) 1 1 ∧ Blk_ w g 5 #[.int .u8 (X.name.size : Int)]), (fun (v : Value) (_ : World) => v = .string (bs [byte (X.name.size : Int)])), (fun (v : Value) (_ : World) => v = .pointer (some ⟨wr.heap.size, 0, none⟩)), (fun (v : Value) (_ : World) => v = .string X.name), (fun (v : Value) (_ : World) => v = .string (bs [byte (X.name.size : Int)] ++ X.name)), (fun (v : Value) (_ : World) => v = .pointer (some ⟨wr.heap.size, 1, none⟩)), (fun (v : Value) (_ : World) => v = .int .i64 X.block), (fun (v : Value) (_ : World) => v = .int .u8 X.block), (fun v w => ∃ g, v = .slice (some ⟨g, 0, none⟩) 1 1 ∧ Blk_ w g 5 #[.int .u8 X.block]), (fun (v : Value) (_ : World) => v = .string (bs [byte X.block])), (fun (v : Value) (_ : World) => v = .string (bs [byte (X.name.size : Int)] ++ X.name ++ bs [byte X.block])), (fun (v : Value) (_ : World) => v = .pointer (some ⟨wr.heap.size, 2, none⟩)), (fun (v : Value) (_ : World) => v = .int .i64 X.at_), (fun (v : Value) (_ : World) => v = .string Q), (fun (v : Value) (_ : World) => v = .string (bs [byte (X.name.size : Int)] ++ X.name ++ bs [byte X.block] ++ Q)), (fun (v : Value) (_ : World) => v = .pointer (some ⟨wr.heap.size, 3, none⟩)), (fun (v : Value) (_ : World) => v = .int .i64 X.bytes), (fun (v : Value) (_ : World) => v = .int .u8 X.bytes), (fun v w => ∃ g, v = .slice (some ⟨g, 0, none⟩) 1 1 ∧ Blk_ w g 5 #[.int .u8 X.bytes]), (fun (v : Value) (_ : World) => v = .string (bs [byte X.bytes])), (fun (v : Value) (_ : World) => v = .string (bs [byte (X.name.size : Int)] ++ X.name ++ bs [byte X.block] ++ Q ++ bs [byte X.bytes])), (fun (v : Value) (_ : World) => v = .string (S ++ (bs [byte (X.name.size : Int)] ++ X.name ++ bs [byte X.block] ++ Q ++ bs [byte X.bytes]))), (fun (v : Value) (_ : World) => v = .string (S ++ (bs [byte (X.name.size : Int)] ++ X.name ++ bs [byte X.block] ++ Q ++ bs [byte X.bytes])))] (by kernel_rfl) (by kernel_rfl) ?_ ?_ ?_
      rotate_left
      ·intro vals
       simp only [putAll, Act.put, List.setIfInBounds_toArray, List.set_cons_zero, List.set_cons_succ, Nat.zero_add, Nat.reduceAdd]
       rfl
      ·simp only [List.forall_mem_cons]
       exact ⟨fun _ _ _ h _ => h, fun _ _ _ h _ => h, fun _ _ _ h _ => h, fun _ _ _ h _ => h, fun _ _ _ h _ => h, fun _ _ _ h e => (by obtain ⟨g, hg, hb⟩ := h; exact ⟨g, hg, hb.ext e⟩), fun _ _ _ h _ => h, fun _ _ _ h _ => h, fun _ _ _ h _ => h, fun _ _ _ h _ => h, fun _ _ _ h _ => h, fun _ _ _ h _ => h, fun _ _ _ h _ => h, fun _ _ _ h e => (by obtain ⟨g, hg, hb⟩ := h; exact ⟨g, hg, hb.ext e⟩), fun _ _ _ h _ => h, fun _ _ _ h _ => h, fun _ _ _ h _ => h, fun _ _ _ h _ => h, fun _ _ _ h _ => h, fun _ _ _ h _ => h, fun _ _ _ h _ => h, fun _ _ _ h _ => h, fun _ _ _ h _ => h, fun _ _ _ h e => (by obtain ⟨g, hg, hb⟩ := h; exact ⟨g, hg, hb.ext e⟩), fun _ _ _ h _ => h, fun _ _ _ h _ => h, fun _ _ _ h _ => h, fun _ _ _ h _ => h, fun _ h => (by cases h)⟩
      ·refine ⟨?_, ?_, ?_, ?_, ?_, ?_, ?_, ?_, ?_, ?_, ?_, ?_, ?_, ?_, ?_, ?_, ?_, ?_, ?_, ?_, ?_, ?_, ?_, ?_, ?_, ?_, ?_, ?_, trivial⟩
       ·intro vals W e hd ho K hK
        have o27 : vals 27 = .string S := ho 27 (by kernel_rfl)
        exact st_q hK (by go_simp; rfl)
       ·intro vals W e hd ho K hK
        exact st_q hK (by go_simp; rfl)
       ·intro vals W e hd ho K hK
        have h1 : vals 1 = .pointer (some ⟨wr.heap.size, 0, none⟩) := hd 1 (by kernel_rfl)
        have cc := e.cell e0
        refine st_quiet (v := ?_) ?_ ?_
        rotate_left
        ·go_simp
         rfl
        exact hK _ _ _ rfl rfl (Ext.refl _)
       ·intro vals W e hd ho K hK
        have h2 : vals 2 = .string X.name := hd 2 (by kernel_rfl)
        exact st_q hK (by go_simp; rfl)
       ·intro vals W e hd ho K hK
        have h3 : vals 3 = .int .i64 (X.name.size : Int) := hd 3 (by kernel_rfl)
        exact st_q hK (by go_simp; rfl)
       ·intro vals W e hd ho K hK
        have h4 : vals 4 = .int .u8 (X.name.size : Int) := hd 4 (by kernel_rfl)
        go_wp2_with fail
        exact hK _ _ _ (by first | rfl | (simp only [h4]; rfl)) ⟨W.heap.size, rfl, Blk_.new _ _ _⟩ ((Ext.refl W).alloc _)
       ·intro vals W e hd ho K hK
        obtain ⟨g5, h5, b5⟩ := hd 5 (by kernel_rfl)
        refine wp_conv1 (.tmp 54) 47 9 5 rfl Tryz.underlying47 Tryz.underlying5 Tryz.underlying9 g5 _ (by go_simp; try rfl) b5 ?_
        exact hK _ _ _ rfl rfl (Ext.refl _)
       ·intro vals W e hd ho K hK
        exact st_q hK (by go_simp; rfl)
       ·intro vals W e hd ho K hK
        have h7 : vals 7 = .pointer (some ⟨wr.heap.size, 0, none⟩) := hd 7 (by kernel_rfl)
        have cc := e.cell e0
        refine st_quiet (v := ?_) ?_ ?_
        rotate_left
        ·go_simp
         rfl
        exact hK _ _ _ rfl rfl (Ext.refl _)
       ·intro vals W e hd ho K hK
        have h6 : vals 6 = .string (bs [byte (X.name.size : Int)]) := hd 6 (by kernel_rfl)
        have h8 : vals 8 = .string X.name := hd 8 (by kernel_rfl)
        refine st_concat (.tmp 55) (.tmp 57) _ _ _ _ rfl h6 h8 (by rw [size_bs]; simp only [List.length_cons, List.length_nil]; omega) ?_
        exact hK _ _ _ rfl rfl (Ext.refl _)
       ·intro vals W e hd ho K hK
        exact st_q hK (by go_simp; rfl)
       ·intro vals W e hd ho K hK
        have h10 : vals 10 = .pointer (some ⟨wr.heap.size, 1, none⟩) := hd 10 (by kernel_rfl)
        have cc := e.cell e1
        refine st_quiet (v := ?_) ?_ ?_
        rotate_left
        ·go_simp
         rfl
        exact hK _ _ _ rfl rfl (Ext.refl _)
       ·intro vals W e hd ho K hK
        have h11 : vals 11 = .int .i64 X.block := hd 11 (by kernel_rfl)
        exact st_q hK (by go_simp; rfl)
       ·intro vals W e hd ho K hK
        have h12 : vals 12 = .int .u8 X.block := hd 12 (by kernel_rfl)
        go_wp2_with fail
        exact hK _ _ _ (by first | rfl | (simp only [h12]; rfl)) ⟨W.heap.size, rfl, Blk_.new _ _ _⟩ ((Ext.refl W).alloc _)
       ·intro vals W e hd ho K hK
        obtain ⟨g13, h13, b13⟩ := hd 13 (by kernel_rfl)
        refine wp_conv1 (.tmp 62) 47 9 5 rfl Tryz.underlying47 Tryz.underlying5 Tryz.underlying9 g13 _ (by go_simp; try rfl) b13 ?_
        exact hK _ _ _ rfl rfl (Ext.refl _)
       ·intro vals W e hd ho K hK
        have h9 : vals 9 = .string (bs [byte (X.name.size : Int)] ++ X.name) := hd 9 (by kernel_rfl)
        have h14 : vals 14 = .string (bs [byte X.block]) := hd 14 (by kernel_rfl)
        refine st_concat (.tmp 58) (.tmp 63) _ _ _ _ rfl h9 h14 (by rw [ByteArray.size_append, size_bs, size_bs]; simp only [List.length_cons, List.length_nil]; omega) ?_
        exact hK _ _ _ rfl rfl (Ext.refl _)
       ·intro vals W e hd ho K hK
        exact st_q hK (by go_simp; rfl)
       ·intro vals W e hd ho K hK
        have h16 : vals 16 = .pointer (some ⟨wr.heap.size, 2, none⟩) := hd 16 (by kernel_rfl)
        have cc := e.cell e2
        refine st_quiet (v := ?_) ?_ ?_
        rotate_left
        ·go_simp
         rfl
        exact hK _ _ _ rfl rfl (Ext.refl _)
       ·intro vals W e hd ho K hK
        have h17 : vals 17 = .int .i64 X.at_ := hd 17 (by kernel_rfl)
        go_wp2_with fail
        refine (two_any X.at_ _ ha0 (by omega)).mono ?_
        rintro e' W' ⟨rfl, h'⟩
        exact hK _ _ _ (by first | rfl | (simp only [h17]; rfl)) (congrArg Value.string HQ.out.symm) h'
       ·intro vals W e hd ho K hK
        have h15 : vals 15 = .string (bs [byte (X.name.size : Int)] ++ X.name ++ bs [byte X.block]) := hd 15 (by kernel_rfl)
        have h18 : vals 18 = .string Q := hd 18 (by kernel_rfl)
        refine st_concat (.tmp 64) (.tmp 67) _ _ _ _ rfl h15 h18 (by have := HQS.out; rw [ByteArray.size_append, ByteArray.size_append, size_bs, size_bs]; simp only [List.length_cons, List.length_nil]; omega) ?_
        exact hK _ _ _ rfl rfl (Ext.refl _)
       ·intro vals W e hd ho K hK
        exact st_q hK (by go_simp; rfl)
       ·intro vals W e hd ho K hK
        have h20 : vals 20 = .pointer (some ⟨wr.heap.size, 3, none⟩) := hd 20 (by kernel_rfl)
        have cc := e.cell e3
        refine st_quiet (v := ?_) ?_ ?_
        rotate_left
        ·go_simp
         rfl
        exact hK _ _ _ rfl rfl (Ext.refl _)
       ·intro vals W e hd ho K hK
        have h21 : vals 21 = .int .i64 X.bytes := hd 21 (by kernel_rfl)
        exact st_q hK (by go_simp; rfl)
       ·intro vals W e hd ho K hK
        have h22 : vals 22 = .int .u8 X.bytes := hd 22 (by kernel_rfl)
        go_wp2_with fail
        exact hK _ _ _ (by first | rfl | (simp only [h22]; rfl)) ⟨W.heap.size, rfl, Blk_.new _ _ _⟩ ((Ext.refl W).alloc _)
       ·intro vals W e hd ho K hK
        obtain ⟨g23, h23, b23⟩ := hd 23 (by kernel_rfl)
        refine wp_conv1 (.tmp 72) 47 9 5 rfl Tryz.underlying47 Tryz.underlying5 Tryz.underlying9 g23 _ (by go_simp; try rfl) b23 ?_
        exact hK _ _ _ rfl rfl (Ext.refl _)
       ·intro vals W e hd ho K hK
        have h19 : vals 19 = .string (bs [byte (X.name.size : Int)] ++ X.name ++ bs [byte X.block] ++ Q) := hd 19 (by kernel_rfl)
        have h24 : vals 24 = .string (bs [byte X.bytes]) := hd 24 (by kernel_rfl)
        refine st_concat (.tmp 68) (.tmp 73) _ _ _ _ rfl h19 h24 (by have := HQS.out; rw [ByteArray.size_append, ByteArray.size_append, ByteArray.size_append, size_bs, size_bs, size_bs]; simp only [List.length_cons, List.length_nil]; omega) ?_
        exact hK _ _ _ rfl rfl (Ext.refl _)
       ·intro vals W e hd ho K hK
        have h0 : vals 0 = .string S := hd 0 (by kernel_rfl)
        have h25 : vals 25 = .string (bs [byte (X.name.size : Int)] ++ X.name ++ bs [byte X.block] ++ Q ++ bs [byte X.bytes]) := hd 25 (by kernel_rfl)
        refine st_concat (.tmp 49) (.tmp 74) _ _ _ _ rfl h0 h25 (by have := HQS.out; have := HSS.out; have := HN.out.2; rw [ByteArray.size_append, ByteArray.size_append, ByteArray.size_append, ByteArray.size_append, size_bs, size_bs, size_bs]; simp only [List.length_cons, List.length_nil]; omega) ?_
        exact hK _ _ _ rfl rfl (Ext.refl _)
       ·intro vals W e hd ho K hK
        have h26 : vals 26 = .string (S ++ (bs [byte (X.name.size : Int)] ++ X.name ++ bs [byte X.block] ++ Q ++ bs [byte X.bytes])) := hd 26 (by kernel_rfl)
        exact st_q hK (by go_simp; rfl)
      intro vals W e hall
      have h27 : vals 27 = .string (S ++ (bs [byte (X.name.size : Int)] ++ X.name ++ bs [byte X.block] ++ Q ++ bs [byte X.bytes])) := hall 27 (by decide)
      rw [HJ.out] at h27
      go_wp2_with fail
      go_roundw
      case rel => exact ⟨k + 1, t ++ entBytes X, h27, by go_num, by omega, by rw [List.length_append]; have := HXL.out; omega, HX1.out.trans ((Ext.refl _).drew.trans e), HB1.out.ext ((Ext.refl _).drew.trans e), HNX.out⟩
      case measure => simp [intOf]; omega
     ·have HE2 := Lib.hid (show t = T by have := HEQ.out; rw [List.drop_of_length_le (by omega)] at this; simpa using this)
      clear HEQ
      have hk10 : (k : Int) ≤ 10 := by have := HN.out.2; omega
      go_wp2_with fail
      go_ret2
      rw [HF.out, HSE.out, HE2.out, HT.out]
      exact ⟨rfl, hx⟩
 ·have HF := Lib.hid (enc_bad hc)
  have hc' : (catFault d != 0) = true := by simpa using hc
  clear hc hb1
  generalize catFault d = t at *
  go_wp2_with fail
  go_ret2
  rw [HF.out]
  exact ⟨rfl, hxw⟩
end Go.Proofs.YtjadmfdlggnlgaaGreatDoor
