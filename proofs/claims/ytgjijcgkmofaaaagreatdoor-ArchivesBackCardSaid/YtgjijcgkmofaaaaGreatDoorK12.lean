/-
  strings.Builder in this seat: the library's contracts (copyCheck, Len, WriteByte, WriteString, String), laid. Conditions: as they say.
-/
import Derived.Test.YtgjijcgkmofaaaaGreatDoorK11
import Derived.Shelf.Strings.BuilderK
import Derived.Shelf.Small.Strs
namespace Go.Proofs.YtgjijcgkmofaaaaGreatDoor
open Go.Shelf
def Tryz.laysB_ren : Go.Shelf.Ren := ⟨fun | 166 => 48 | 167 => 94 | 169 => 50 | 170 => 91 | 240 => 81 | 276 => 128 | n => n, fun | 9 => 9 | 3 => 3 | 4 => 4 | 20 => 20 | 0 => 0 | 46 => 129 | 109 => 151 | 5 => 5 | 72 => 97 | 76 => 100 | 51 => 176 | 146 => 195 | 53 => 178 | 148 => 197 | 70 => 94 | 37 => 95 | 75 => 99 | 127 => 148 | 164 => 189 | 80 => 103 | n => n, fun | n => n⟩
theorem Tryz.laysB166 : Go.Proofs.Lays.n166 Tryz.prog Tryz.laysB_ren := {
  mixed := by kernel_rfl
  f166 := Tryz.func48.trans (congrArg some (by kernel_rfl))
  f240 := Tryz.func81.trans (congrArg some (by kernel_rfl))
  f276 := Tryz.func128.trans (congrArg some (by kernel_rfl))
  t0 := Tryz.underlying0
  a0 := Tryz.isAgg0
  z0 := Tryz.sizeOf0
  v0 := Tryz.zeroValue0
  t3 := Tryz.underlying3
  a3 := Tryz.isAgg3
  z3 := Tryz.sizeOf3
  v3 := Tryz.zeroValue3
  t4 := Tryz.underlying4
  a4 := Tryz.isAgg4
  z4 := Tryz.sizeOf4
  v4 := Tryz.zeroValue4
  t9 := Tryz.underlying9
  a9 := Tryz.isAgg9
  z9 := Tryz.sizeOf9
  v9 := Tryz.zeroValue9
  t20 := Tryz.underlying20
  a20 := Tryz.isAgg20
  z20 := Tryz.sizeOf20
  v20 := Tryz.zeroValue20
  t37 := Tryz.underlying95
  a37 := Tryz.isAgg95
  z37 := Tryz.sizeOf95
  v37 := Tryz.zeroValue95
  t70 := Tryz.underlying94
  a70 := Tryz.isAgg94
  z70 := Tryz.sizeOf94
  v70 := Tryz.zeroValue94
  t72 := Tryz.underlying97
  a72 := Tryz.isAgg97
  z72 := Tryz.sizeOf97
  v72 := Tryz.zeroValue97
  t75 := Tryz.underlying99
  a75 := Tryz.isAgg99
  z75 := Tryz.sizeOf99
  v75 := Tryz.zeroValue99
  t164 := Tryz.underlying189
  a164 := Tryz.isAgg189
  z164 := Tryz.sizeOf189
  v164 := Tryz.zeroValue189 }
theorem Tryz.laysB167 : Go.Proofs.Lays.n167 Tryz.prog Tryz.laysB_ren := {
  mixed := by kernel_rfl
  f167 := Tryz.func94.trans (congrArg some (by kernel_rfl))
  f240 := Tryz.func81.trans (congrArg some (by kernel_rfl))
  f276 := Tryz.func128.trans (congrArg some (by kernel_rfl))
  t0 := Tryz.underlying0
  a0 := Tryz.isAgg0
  z0 := Tryz.sizeOf0
  v0 := Tryz.zeroValue0
  t4 := Tryz.underlying4
  a4 := Tryz.isAgg4
  z4 := Tryz.sizeOf4
  v4 := Tryz.zeroValue4
  t5 := Tryz.underlying5
  a5 := Tryz.isAgg5
  z5 := Tryz.sizeOf5
  v5 := Tryz.zeroValue5
  t9 := Tryz.underlying9
  a9 := Tryz.isAgg9
  z9 := Tryz.sizeOf9
  v9 := Tryz.zeroValue9
  t20 := Tryz.underlying20
  a20 := Tryz.isAgg20
  z20 := Tryz.sizeOf20
  v20 := Tryz.zeroValue20
  t37 := Tryz.underlying95
  a37 := Tryz.isAgg95
  z37 := Tryz.sizeOf95
  v37 := Tryz.zeroValue95
  t70 := Tryz.underlying94
  a70 := Tryz.isAgg94
  z70 := Tryz.sizeOf94
  v70 := Tryz.zeroValue94
  t72 := Tryz.underlying97
  a72 := Tryz.isAgg97
  z72 := Tryz.sizeOf97
  v72 := Tryz.zeroValue97
  t75 := Tryz.underlying99
  a75 := Tryz.isAgg99
  z75 := Tryz.sizeOf99
  v75 := Tryz.zeroValue99
  t164 := Tryz.underlying189
  a164 := Tryz.isAgg189
  z164 := Tryz.sizeOf189
  v164 := Tryz.zeroValue189 }
theorem Tryz.laysB169 : Go.Proofs.Lays.n169 Tryz.prog Tryz.laysB_ren := {
  mixed := by kernel_rfl
  f169 := Tryz.func50.trans (congrArg some (by kernel_rfl))
  t0 := Tryz.underlying0
  a0 := Tryz.isAgg0
  z0 := Tryz.sizeOf0
  v0 := Tryz.zeroValue0
  t3 := Tryz.underlying3
  a3 := Tryz.isAgg3
  z3 := Tryz.sizeOf3
  v3 := Tryz.zeroValue3
  t9 := Tryz.underlying9
  a9 := Tryz.isAgg9
  z9 := Tryz.sizeOf9
  v9 := Tryz.zeroValue9
  t37 := Tryz.underlying95
  a37 := Tryz.isAgg95
  z37 := Tryz.sizeOf95
  v37 := Tryz.zeroValue95
  t70 := Tryz.underlying94
  a70 := Tryz.isAgg94
  z70 := Tryz.sizeOf94
  v70 := Tryz.zeroValue94
  t72 := Tryz.underlying97
  a72 := Tryz.isAgg97
  z72 := Tryz.sizeOf97
  v72 := Tryz.zeroValue97
  t127 := Tryz.underlying148
  a127 := Tryz.isAgg148
  z127 := Tryz.sizeOf148
  v127 := Tryz.zeroValue148 }
theorem Tryz.laysB170 : Go.Proofs.Lays.n170 Tryz.prog Tryz.laysB_ren := {
  mixed := by kernel_rfl
  f170 := Tryz.func91.trans (congrArg some (by kernel_rfl))
  t0 := Tryz.underlying0
  a0 := Tryz.isAgg0
  z0 := Tryz.sizeOf0
  v0 := Tryz.zeroValue0
  t3 := Tryz.underlying3
  a3 := Tryz.isAgg3
  z3 := Tryz.sizeOf3
  v3 := Tryz.zeroValue3
  t37 := Tryz.underlying95
  a37 := Tryz.isAgg95
  z37 := Tryz.sizeOf95
  v37 := Tryz.zeroValue95
  t70 := Tryz.underlying94
  a70 := Tryz.isAgg94
  z70 := Tryz.sizeOf94
  v70 := Tryz.zeroValue94
  t72 := Tryz.underlying97
  a72 := Tryz.isAgg97
  z72 := Tryz.sizeOf97
  v72 := Tryz.zeroValue97 }
theorem Tryz.laysB_Extra : Builder.Extra Tryz.prog Tryz.laysB_ren := {
  sizeBuilder := by kernel_rfl
  liesBuilder := by kernel_rfl
  t5 := Tryz.underlying5
  a5 := Tryz.isAgg5
  z5 := Tryz.sizeOf5
  v5 := Tryz.zeroValue5
  infoByte := by kernel_rfl
  cellsByte := by kernel_rfl
  sizeByte := by kernel_rfl
  neB5 := by decide }
open Go.RowKit Go.Lib
/-- A builder that holds these bytes. -/
def Bld (B b : Nat) (l : List UInt8) (w : World) : Prop := Lib.IsBuilderF 97 5 B b (Lib.byteCells l) w
theorem bld_len (B b : Nat) (l : List UInt8) (w : World) (h : Bld B b l w) : Calls Tryz.prog 91 #[.pointer (some ⟨b, 0, none⟩)] w fun e w' => e = .returned (.int .i64 l.length) ∧ w' = w := by
  refine (Any.Builder_Len_f Tryz.laysB170 B b (Lib.byteCells l) w h).mono ?_
  rintro e w' ⟨rfl, rfl⟩
  exact ⟨by simp [Lib.byteCells], rfl⟩
theorem bld_string (B b : Nat) (l : List UInt8) (w : World) (h : Bld B b l w) (hB : B ≤ w.heap.size) : Calls Tryz.prog 50 #[.pointer (some ⟨b, 0, none⟩)] w fun e w' => e = .returned (.string ⟨l.toArray⟩) ∧ Bld B b l w' ∧ Below B w w' := by
  refine (Any.Builder_String_any_f Tryz.laysB169 Tryz.laysB_Extra B b l w h hB).mono ?_
  rintro e w' ⟨rfl, h1, h2⟩
  exact ⟨rfl, h1, h2⟩
theorem bld_byte (B b : Nat) (l : List UInt8) (c : UInt8) (w : World) (h : Bld B b l w) (hl : l.length + 1 ≤ 140737488355328) (hB : B ≤ w.heap.size) : Calls Tryz.prog 94 #[.pointer (some ⟨b, 0, none⟩), .int .u8 (c.toNat : Int)] w fun e w' => e = .returned .nilIface ∧ Bld B b (l ++ [c]) w' ∧ Below B w w' := by
  refine (Any.Builder_WriteByte_k Tryz.laysB167 Tryz.laysB_Extra B b (Lib.byteCells l) (c.toNat : Int) w h (by simpa [Lib.byteCells] using hl) hB).mono ?_
  rintro e w' ⟨rfl, h1, h2, _⟩
  refine ⟨rfl, .inr ?_, h2⟩
  have : Lib.byteCells (l ++ [c]) = Lib.byteCells l ++ [.int .u8 (c.toNat : Int)] := by simp [Lib.byteCells]
  rw [this]
  exact h1
theorem bld_text (B b : Nat) (l : List UInt8) (s : ByteArray) (w : World) (h : Bld B b l w) (hl : l.length + s.size ≤ 140737488355328) (hB : B ≤ w.heap.size) : Calls Tryz.prog 48 #[.pointer (some ⟨b, 0, none⟩), .string s] w fun e w' => e = .returned (.tuple #[.int .i64 s.size, .nilIface]) ∧ Bld B b (l ++ s.data.toList) w' ∧ Below B w w' := by
  refine (Any.Builder_WriteString_f Tryz.laysB166 Tryz.laysB_Extra B b (Lib.byteCells l) s w h (by simpa [Lib.byteCells] using hl) hB).mono ?_
  rintro e w' ⟨rfl, h1, h2⟩
  refine ⟨rfl, .inr ?_, h2⟩
  have : Lib.byteCells (l ++ s.data.toList) = Lib.byteCells l ++ Lib.strCells s := by simp [Lib.byteCells, Lib.strCells]
  rw [this]
  exact h1
end Go.Proofs.YtgjijcgkmofaaaaGreatDoor

/-
  press.Unpack: bytes of which some stand for what stood there. Conditions: none.
-/
namespace Go.Proofs.YtgjijcgkmofaaaaGreatDoor
set_option linter.unusedSimpArgs false
set_option linter.unusedVariables false
open Go.RowKit

theorem copyB_succ (d k : Nat) (out : List UInt8) : copyB d (k + 1) out = copyB d k out ++ [(copyB d k out).getD ((copyB d k out).length - d) 0] := by
  induction k generalizing out with
  | zero => rfl
  | succ k ih => rw [copyB, ih]; rfl
theorem dropB_at (s : ByteArray) (i : Nat) (h : i < s.size) : (lst s).drop i = s[i] :: (lst s).drop (i + 1) := by
  rw [List.drop_eq_getElem_cons (by rw [length_lst]; exact h)]; rfl
theorem unp_end (s : ByteArray) (i : Nat) (out : List UInt8) (h : ¬ i < s.size) : unpackF ((lst s).drop i) out = (bs out, 0) := by
  rw [List.drop_of_length_le (by rw [length_lst]; omega), unpackF_nil]
theorem unp_short {s : ByteArray} {i : Nat} {out : List UInt8} (h : i < s.size) (hc : s[i].toNat < 128) (h2 : s.size < i + 2 + s[i].toNat) : unpackF ((lst s).drop i) out = (.empty, 5) := by
  rw [dropB_at s i h, unpackF_plain _ _ hc, if_pos (by rw [List.length_drop, length_lst]; omega)]
theorem take_drop (s : ByteArray) (i n : Nat) : ((lst s).drop i).take n = lst (s.extract i (i + n)) := by
  rw [lst_ext]; unfold sub_; rw [List.take_drop]
theorem unp_long {s : ByteArray} {i : Nat} {out : List UInt8} (h : i < s.size) (hc : s[i].toNat < 128) (h2 : ¬ s.size < i + 2 + s[i].toNat) (h3 : 600 < (out ++ lst (s.extract (i + 1) (i + 2 + s[i].toNat))).length) : unpackF ((lst s).drop i) out = (.empty, 1) := by
  rw [dropB_at s i h, unpackF_plain _ _ hc, if_neg (by rw [List.length_drop, length_lst]; omega), take_drop, show i + 1 + (s[i].toNat + 1) = i + 2 + s[i].toNat by omega, if_pos h3]
theorem unp_more {s : ByteArray} {i : Nat} {out : List UInt8} (h : i < s.size) (hc : s[i].toNat < 128) (h2 : ¬ s.size < i + 2 + s[i].toNat) (h3 : ¬ 600 < (out ++ lst (s.extract (i + 1) (i + 2 + s[i].toNat))).length) : unpackF ((lst s).drop i) out = unpackF ((lst s).drop (i + 2 + s[i].toNat)) (out ++ lst (s.extract (i + 1) (i + 2 + s[i].toNat))) := by
  rw [dropB_at s i h, unpackF_plain _ _ hc, if_neg (by rw [List.length_drop, length_lst]; omega), take_drop, show i + 1 + (s[i].toNat + 1) = i + 2 + s[i].toNat by omega, if_neg h3, List.drop_drop, show i + 1 + (s[i].toNat + 1) = i + 2 + s[i].toNat by omega]
theorem unp_pshort {s : ByteArray} {i : Nat} {out : List UInt8} (h : i < s.size) (hc : ¬ s[i].toNat < 128) (h2 : s.size < i + 2) : unpackF ((lst s).drop i) out = (.empty, 5) := by
  rw [dropB_at s i h, List.drop_of_length_le (i := i + 1) (by rw [length_lst]; omega), unpackF_end _ hc]
theorem unp_form {s : ByteArray} {i : Nat} {out : List UInt8} (h : i < s.size) (hc : ¬ s[i].toNat < 128) (h2 : i + 1 < s.size) (h3 : s[i + 1].toNat = 0 ∨ out.length < s[i + 1].toNat) : unpackF ((lst s).drop i) out = (.empty, 4) := by
  rw [dropB_at s i h, dropB_at s (i + 1) h2, unpackF_piece _ _ hc, if_pos h3]
theorem unp_plong {s : ByteArray} {i : Nat} {out : List UInt8} (h : i < s.size) (hc : ¬ s[i].toNat < 128) (h2 : i + 1 < s.size) (h3 : ¬ (s[i + 1].toNat = 0 ∨ out.length < s[i + 1].toNat)) (h4 : 600 < (copyB s[i + 1].toNat (s[i].toNat - 124) out).length) : unpackF ((lst s).drop i) out = (.empty, 1) := by
  rw [dropB_at s i h, dropB_at s (i + 1) h2, unpackF_piece _ _ hc, if_neg h3, if_pos h4]
theorem unp_pmore {s : ByteArray} {i : Nat} {out : List UInt8} (h : i < s.size) (hc : ¬ s[i].toNat < 128) (h2 : i + 1 < s.size) (h3 : ¬ (s[i + 1].toNat = 0 ∨ out.length < s[i + 1].toNat)) (h4 : ¬ 600 < (copyB s[i + 1].toNat (s[i].toNat - 124) out).length) : unpackF ((lst s).drop i) out = unpackF ((lst s).drop (i + 2)) (copyB s[i + 1].toNat (s[i].toNat - 124) out) := by
  rw [dropB_at s i h, dropB_at s (i + 1) h2, unpackF_piece _ _ hc, if_neg h3, if_neg h4]
theorem unp_plong' {s : ByteArray} {i c d : Nat} {out : List UInt8} (h : i < s.size) (hc : c = s[i].toNat) (h1 : ¬ c < 128) (h2 : i + 1 < s.size) (hd : d = s[i + 1].toNat) (h3 : ¬ (d = 0 ∨ out.length < d)) (h4 : 600 < (copyB d (c - 124) out).length) : unpackF ((lst s).drop i) out = (.empty, 1) := by
  subst hc hd; exact unp_plong h h1 h2 h3 h4
theorem unp_pmore' {s : ByteArray} {i c d : Nat} {out : List UInt8} (h : i < s.size) (hc : c = s[i].toNat) (h1 : ¬ c < 128) (h2 : i + 1 < s.size) (hd : d = s[i + 1].toNat) (h3 : ¬ (d = 0 ∨ out.length < d)) (h4 : ¬ 600 < (copyB d (c - 124) out).length) : unpackF ((lst s).drop i) out = unpackF ((lst s).drop (i + 2)) (copyB d (c - 124) out) := by
  subst hc hd; exact unp_pmore h h1 h2 h3 h4
theorem Bld.init (w : World) : Bld w.heap.size w.heap.size [] (w.alloc (.cells #[.pointer none, .slice none 0 0] 97)) :=
  .inl ⟨Nat.le_refl _, .slice none 0 0, heap_alloc_new w _, ⟨rfl, .inl ⟨rfl, rfl⟩⟩, by simp [Value.ownBlock]⟩
set_option maxRecDepth 100000 in
set_option maxHeartbeats 8000000 in
theorem unpack_any (s : ByteArray) (w : World) (hs : s.size ≤ 140737488355328) :
    Calls Tryz.prog 59 #[.string s] w fun e w' => e = .returned (.tuple #[.string (unpackS s).1, .int .i64 (unpackS s).2]) ∧ Ext w w' := by
  obtain ⟨R, hR⟩ : ∃ R, R = unpackS s := ⟨_, rfl⟩
  rw [← hR]
  have HR := Lib.hid (show unpackF ((lst s).drop 0) [] = R by rw [hR]; rfl)
  have hsI : (s.size : Int) ≤ 140737488355328 := by omega
  clear hR
  go_enter Tryz.func59, Tryz.ntmps59
  go_wp2_with fail
  refine wp_abs (fun W => Ext w W ∧ Bld w.heap.size w.heap.size [] W) ⟨(Ext.refl w).alloc _, Bld.init w⟩ ?_
  rintro W ⟨hW, hB⟩
  have HW := Lib.hid (And.intro hW hB)
  clear hW hB
  revert HW
  obtain ⟨b, hb⟩ : ∃ b, b = w.heap.size := ⟨_, rfl⟩
  rw [← hb]
  intro HW
  have HBB := Lib.hid hb
  clear hb
  go_loopw [5] (fun iv wr => ∃ (out : List UInt8) (i : Nat), iv = .int .i64 i ∧ Ext w wr ∧ Bld b b out wr ∧ i ≤ s.size ∧ out.length ≤ 600 ∧ unpackF ((lst s).drop i) out = R) (fun iv _ => s.size - (intOf iv).toNat)
  case atStart => exact ⟨[], 0, rfl, HW.out.1, HW.out.2, Nat.zero_le _, by simp, HR.out⟩
  case round =>
    clear HW HR
    obtain ⟨out, i, rfl, hx, hbl, his, hol, heq⟩ := hrel
    have HBL := Lib.hid hbl
    have HEQ := Lib.hid heq
    have HX := Lib.hid hx
    have hol2 : (out.length : Int) ≤ 600 := by omega
    have HSZ := Lib.hid (show b ≤ wr.heap.size by rw [HBB.out]; exact hx.size)
    clear hbl heq hx
    by_cases hi : i < s.size
    · have hiI : (i : Int) < (s.size : Int) := by omega
      have hitn : ((i : Int)).toNat = i := by omega
      obtain ⟨c, hc⟩ : ∃ c, c = s[i].toNat := ⟨_, rfl⟩
      have hc255 : c < 256 := by rw [hc]; exact UInt8.toNat_lt _
      have hcI : ((s[i].toNat : Nat) : Int) = (c : Int) := by rw [hc]
      have HC := Lib.hid hc
      have HI := Lib.hid hi
      have cz1 : (0 : Int) ≤ (c : Int) := by omega
      have cz2 : (c : Int) ≤ 255 := by omega
      clear hc
      by_cases h128 : c < 128
      · have H128 := Lib.hid h128
        have t1 : decide ((c : Int) < 128) = true := by simp; omega
        by_cases hsh : s.size < i + 2 + c
        · have HR := Lib.hid (show ((.empty, 5) : ByteArray × Int) = R by rw [← HEQ.out]; exact (unp_short hi (by rw [← HC.out]; exact H128.out) (by rw [← HC.out]; exact hsh)).symm)
          have t2 : decide ((s.size : Int) < (i : Int) + 2 + (c : Int)) = true := by simp; omega
          have t2' : (s.size : Int) < (i : Int) + 2 + (c : Int) := by omega
          clear hsh h128
          go_wp2_with fail
          go_ret2
          rw [← HR.out]
          exact ⟨rfl, HX.out⟩
        · have t2' : ¬ (s.size : Int) < (i : Int) + 2 + (c : Int) := by omega
          have t3 : (i : Int) + 2 + (c : Int) ≤ (s.size : Int) := by omega
          have HSH := Lib.hid hsh
          have x1 : ((i : Int) + 1).toNat = i + 1 := by omega
          have x2 : ((i : Int) + 2 + (c : Int)).toNat = i + 2 + c := by omega
          have x3 : (i : Int) + 1 ≤ (i : Int) + 2 + (c : Int) := by omega
          have x4 : (0 : Int) ≤ (i : Int) + 2 + (c : Int) := by omega
          have x5 : (0 : Int) ≤ (i : Int) + 1 := by omega
          have HOL := Lib.hid hol
          obtain ⟨q, hq⟩ : ∃ q, q = s.extract (i + 1) (i + 2 + c) := ⟨_, rfl⟩
          have HQS := Lib.hid (show q.size = c + 1 by rw [hq, ByteArray.size_extract]; omega)
          have HQ := Lib.hid hq
          clear hsh h128 hq hol
          go_wp2_with fail
          rw [← HQ.out]
          refine (bld_text b b out q _ HBL.out (by have := HQS.out; have := HOL.out; omega) HSZ.out).mono ?_
          rintro e w1 ⟨rfl, hb1, hB1⟩
          have HX1 := Lib.hid (show Ext w w1 from Below.trans HX.out (by rw [← HBB.out]; exact hB1))
          have HB1 := Lib.hid hb1
          have HSZ1 := Lib.hid (show b ≤ w1.heap.size from Nat.le_trans HSZ.out hB1.size)
          clear hb1 hB1
          go_wp2_with fail
          refine (bld_len b b (out ++ q.data.toList) _ HB1.out).mono ?_
          rintro e w2 ⟨rfl, rfl⟩
          have HL := Lib.hid (show (out ++ q.data.toList).length = out.length + (c + 1) by rw [List.length_append, ← HQS.out]; congr 1)
          rw [HL.out]
          by_cases hlong : 600 < out.length + (c + 1)
          · have t4 : (600 : Int) < (out.length : Int) + ((c : Int) + 1) := by omega
            have HR := Lib.hid (show ((.empty, 1) : ByteArray × Int) = R by rw [← HEQ.out]; exact (unp_long hi (by rw [← HC.out]; exact H128.out) (by rw [← HC.out]; exact HSH.out) (by rw [← HC.out, ← HQ.out]; show 600 < (out ++ q.data.toList).length; rw [HL.out]; exact hlong)).symm)
            clear HL
            go_wp2_with fail
            go_ret2
            rw [← HR.out]
            exact ⟨rfl, HX1.out⟩
          · have t4 : ¬ (600 : Int) < (out.length : Int) + ((c : Int) + 1) := by omega
            have HR := Lib.hid (show unpackF ((lst s).drop (i + 2 + c)) (out ++ q.data.toList) = R by
              rw [← HEQ.out, unp_more hi (by rw [← HC.out]; exact H128.out) (by rw [← HC.out]; exact HSH.out) (by rw [← HC.out, ← HQ.out]; show ¬ 600 < (out ++ q.data.toList).length; rw [HL.out]; exact hlong), ← HC.out, ← HQ.out]; rfl)
            have HLEN := Lib.hid (show (out ++ q.data.toList).length ≤ 600 by rw [HL.out]; omega)
            clear HL
            go_wp2_with fail
            go_roundw
            case rel => exact ⟨out ++ q.data.toList, i + 2 + c, by first | rfl | go_num, HX1.out, HB1.out, by have := HSH.out; omega, HLEN.out, HR.out⟩
            case measure => (simp [intOf]; try omega)
      · have H128 := Lib.hid h128
        have t1 : decide ((c : Int) < 128) = false := by simp; omega
        by_cases hsh : s.size < i + 2
        · have HR := Lib.hid (show ((.empty, 5) : ByteArray × Int) = R by rw [← HEQ.out]; exact (unp_pshort hi (by rw [← HC.out]; exact H128.out) hsh).symm)
          have t2' : (s.size : Int) < (i : Int) + 2 := by omega
          clear hsh h128
          go_wp2_with fail
          go_ret2
          rw [← HR.out]
          exact ⟨rfl, HX.out⟩
        · have t2' : ¬ (s.size : Int) < (i : Int) + 2 := by omega
          have hi2 : i + 1 < s.size := by omega
          have hi2I : (i : Int) + 1 < (s.size : Int) := by omega
          have x1 : ((i : Int) + 1).toNat = i + 1 := by omega
          have x5 : (0 : Int) ≤ (i : Int) + 1 := by omega
          obtain ⟨d, hd⟩ : ∃ d, d = s[i + 1].toNat := ⟨_, rfl⟩
          have hd255 : d < 256 := by rw [hd]; exact UInt8.toNat_lt _
          have hdI : ((s[i + 1].toNat : Nat) : Int) = (d : Int) := by rw [hd]
          have HD := Lib.hid hd
          have HOL := Lib.hid hol
          have HI2 := Lib.hid hi2
          clear hd hsh h128
          by_cases h0 : d = 0
          · have HR := Lib.hid (show ((.empty, 4) : ByteArray × Int) = R by rw [← HEQ.out]; exact (unp_form hi (by rw [← HC.out]; exact H128.out) hi2 (.inl (by rw [← HD.out]; exact h0))).symm)
            subst h0
            have hd0 : ((s[i + 1].toNat : Nat) : Int) = 0 := hdI
            clear hdI
            go_wp2_with fail
            go_ret2
            rw [← HR.out]
            exact ⟨rfl, HX.out⟩
          · have h0b : ((d : Int) == 0) = false := beq_false_of_ne (by omega)
            have H0 := Lib.hid h0
            clear h0
            by_cases hdl : out.length < d
            · have HR := Lib.hid (show ((.empty, 4) : ByteArray × Int) = R by rw [← HEQ.out]; exact (unp_form hi (by rw [← HC.out]; exact H128.out) hi2 (.inr (by rw [← HD.out]; exact hdl))).symm)
              go_wp2_with fail
              refine (bld_len b b out _ HBL.out).mono ?_
              rintro e w2 ⟨rfl, rfl⟩
              go_wp2_with fail
              go_ret2
              rw [← HR.out]
              exact ⟨rfl, HX.out⟩
            · have HDL := Lib.hid hdl
              go_wp2_with fail
              refine (bld_len b b out _ HBL.out).mono ?_
              rintro e w2 ⟨rfl, rfl⟩
              have y1 : IntKind.i64.wrap ((c : Int) - 128) = (c : Int) - 128 := by rw [IntKind.wrap_i64]; omega
              obtain ⟨m, hm⟩ : ∃ m : Nat, m = c - 124 := ⟨_, rfl⟩
              have y2 : IntKind.i64.wrap ((c : Int) - 128 + 4) = (m : Int) := by rw [IntKind.wrap_i64]; have := H128.out; omega
              have y2' : (c : Int) - 128 + 4 = (m : Int) := by have := H128.out; omega
              have hm131 : (m : Int) ≤ 131 := by omega
              have HM := Lib.hid hm
              clear hm hdl hol hiI hi2I
              go_wp2_with fail
              rw [decide_eq_false HDL.out]
              go_loopw [58] (fun kv wq => ∃ k : Nat, kv = .int .i64 k ∧ k ≤ m ∧ Below b w2 wq ∧ Bld b b (copyB d k out) wq) (fun kv _ => m - (intOf kv).toNat)
              case atStart => exact ⟨0, rfl, Nat.zero_le _, Below.refl _ _, HBL.out⟩
              case round =>
                obtain ⟨k, rfl, hkm, hBq, hblq⟩ := hrel
                obtain ⟨o, ho⟩ : ∃ o, o = copyB d k out := ⟨_, rfl⟩
                have hoL : o.length = out.length + k := by rw [ho]; exact length_copyB d k out
                have HNX := Lib.hid (show copyB d (k + 1) out = o ++ [o.getD (o.length - d) 0] by rw [ho]; exact copyB_succ d k out)
                rw [← ho] at hblq
                have HBQ := Lib.hid (And.intro hBq hblq)
                have HSQ := Lib.hid (show b ≤ wr.heap.size from Nat.le_trans HSZ.out hBq.size)
                have HO := Lib.hid ho
                clear ho hBq hblq
                by_cases hkl : k < m
                · have hkI : (k : Int) < (m : Int) := by omega
                  have hkt : decide ((k : Int) < (m : Int)) = true := by simp; omega
                  go_wp2_with fail
                  refine (bld_string b b o _ HBQ.out.2 HSQ.out).mono ?_
                  rintro e w3 ⟨rfl, hb3, hB3⟩
                  go_wp2_with fail
                  refine (bld_len b b o _ hb3).mono ?_
                  rintro e w4 ⟨rfl, rfl⟩
                  have hdo : d ≤ o.length := by have := HDL.out; omega
                  have hd1 : 0 < d := by have := H0.out; omega
                  have z1 : IntKind.i64.wrap ((o.length : Int) - (d : Int)) = ((o.length - d : Nat) : Int) := by rw [IntKind.wrap_i64]; have := HOL.out; omega
                  have z1' : (o.length : Int) - (d : Int) = ((o.length - d : Nat) : Int) := by omega
                  obtain ⟨j, hj⟩ : ∃ j : Nat, j = o.length - d := ⟨_, rfl⟩
                  rw [← hj] at z1 z1'
                  have hjl : j < o.length := by omega
                  have hjs : j < (⟨o.toArray⟩ : ByteArray).size := by show j < o.toArray.size; simpa using hjl
                  obtain ⟨S, hS⟩ : ∃ S, S = (⟨o.toArray⟩ : ByteArray) := ⟨_, rfl⟩
                  rw [← hS] at hjs ⊢
                  have hjI : (j : Int) < (S.size : Int) := by omega
                  have hj8 : (j : Int) ≤ 800 := by have := HOL.out; omega
                  have HG := Lib.hid (show S[j] = o.getD (o.length - d) 0 by
                    subst hS
                    rw [← hj, List.getD_eq_getElem?_getD, List.getElem?_eq_getElem hjl]
                    show o.toArray[j]'_ = _
                    simp)
                  have HB4 := Lib.hid (And.intro hb3 (HBQ.out.1.trans hB3))
                  have HOB := Lib.hid (show o.length ≤ 800 ∧ b ≤ w4.heap.size from ⟨by have := HOL.out; omega, Nat.le_trans HSQ.out hB3.size⟩)
                  clear hS hj hb3 hB3 hdo hd1 hoL hjl
                  go_wp2_with fail
                  refine (bld_byte b b o (S[j]) _ HB4.out.1 (by have := HOB.out.1; omega) HOB.out.2).mono ?_
                  rintro e w5 ⟨rfl, hb5, hB5⟩
                  go_wp2_with fail
                  go_roundw
                  case rel => exact ⟨k + 1, by first | rfl | go_num, by omega, HB4.out.2.trans hB5, by rw [HNX.out, ← HG.out]; exact hb5⟩
                  case measure => (simp [intOf]; try omega)
                · obtain rfl : k = m := by omega
                  go_wp2_with fail
                  refine (bld_len b b o _ HBQ.out.2).mono ?_
                  rintro e w4 ⟨rfl, rfl⟩
                  have HX4 := Lib.hid (show Ext w w4 from Below.trans HX.out (by rw [← HBB.out]; exact HBQ.out.1))
                  have HO2 := Lib.hid (show o = copyB d (c - 124) out by rw [HO.out, HM.out])
                  have HN := Lib.hid (show ¬ (d = 0 ∨ out.length < d) by have := H0.out; have := HDL.out; omega)
                  by_cases hlong : 600 < o.length
                  · have HR := Lib.hid (show ((.empty, 1) : ByteArray × Int) = R by rw [← HEQ.out]; exact (unp_plong' HI.out HC.out H128.out HI2.out HD.out HN.out (by rw [← HO2.out]; exact hlong)).symm)
                    clear hoL
                    go_wp2_with fail
                    go_ret2
                    rw [← HR.out]
                    exact ⟨rfl, HX4.out⟩
                  · have HR := Lib.hid (show unpackF ((lst s).drop (i + 2)) o = R by rw [← HEQ.out, unp_pmore' HI.out HC.out H128.out HI2.out HD.out HN.out (by rw [← HO2.out]; exact hlong), ← HO2.out])
                    clear hoL
                    go_wp2_with fail
                    go_roundw
                    case rel => exact ⟨o, i + 2, by first | rfl | go_num, HX4.out, HBQ.out.2, by have := HI2.out; omega, by omega, HR.out⟩
                    case measure => have := HI2.out; (simp [intOf]; try omega)
    · have HR := Lib.hid (show (bs out, (0 : Int)) = R by rw [← HEQ.out, unp_end s i out hi])
      go_wp2_with fail
      refine (bld_string b b out _ HBL.out HSZ.out).mono ?_
      rintro e w2 ⟨rfl, hb2, hB2⟩
      go_wp2_with fail
      go_ret2
      rw [← HR.out]
      exact ⟨rfl, Below.trans HX.out (by rw [← HBB.out]; exact hB2)⟩
end Go.Proofs.YtgjijcgkmofaaaaGreatDoor

/-
  catalog.Encode: a catalog as bytes. Conditions: the argument reads as a catalog.
-/
namespace Go.Proofs.YtgjijcgkmofaaaaGreatDoor
set_option linter.unusedSimpArgs false
set_option linter.unusedVariables false
open Go.RowKit

theorem enc_good {c : Cat} (h : catFault c = 0) : encCatS c = (bs (catBytes c), 0) := by unfold encCatS; rw [if_pos h]
theorem enc_bad {c : Cat} (h : ¬ catFault c = 0) : encCatS c = (.empty, catFault c) := by unfold encCatS; rw [if_neg h]
theorem ent_join (x : Ent) : bs [byte (x.name.size : Int)] ++ x.name ++ bs [byte x.block] ++ bs (twoB x.at_) ++ bs [byte x.bytes] = bs (entBytes x) := by
  obtain ⟨nm, b, a, n⟩ := x
  obtain ⟨q, rfl⟩ : ∃ q, nm = bs q := ⟨lst nm, (bs_lst nm).symm⟩
  unfold entBytes twoB
  simp only [lst_bs, bs_append]
  congr 1
  simp
theorem ent_len {nb : Nat} {x : Ent} (h : entBad nb x = false) : (entBytes x).length ≤ 13 := by
  have h1 := nameMay_size (entBad_false h).1
  unfold entBytes
  rw [List.length_cons, List.length_append, length_lst]
  simp only [List.length_cons, List.length_nil]
  omega
set_option maxRecDepth 100000 in
theorem two_any (n : Int) (w : World) (h0 : 0 ≤ n) (h1 : n ≤ 65535) :
    Calls Tryz.prog 85 #[.int .i64 n] w fun e w' => e = .returned (.string (bs (twoB n))) ∧ Ext w w' := by
  have hq : (0 : Int) ≤ n / 256 := by omega
  have hq2 : n / 256 ≤ 255 := by omega
  go_enter Tryz.func85, Tryz.ntmps85
  go_wp2_with fail
  go_ret
  refine ⟨?_, by first | exact ((Ext.refl _).alloc _) | exact ((Ext.refl _).alloc _).drew⟩
  rfl

set_option maxRecDepth 100000 in
set_option maxHeartbeats 8000000 in
theorem catEncode_any (cs : List Value) (d : Cat) (w : World) (h : RCat w cs d) :
    Calls Tryz.prog 54 #[.agg cs.toArray] w fun e w' => e = .returned (.tuple #[.string (encCatS d).1, .int .i64 (encCatS d).2]) ∧ Ext w w' := by
  have h' := h
  obtain ⟨v1, v2, rfl, h1, h2'⟩ := h'
  obtain ⟨A1, c1, rfl, l1, hc1, p1⟩ := h1.rowE encBlk_ok
  obtain ⟨A2, c2, rfl, l2, hc2, s1⟩ := h2'.rowE encEnt_ok
  have HP := Lib.hid p1
  have HS := Lib.hid s1
  have HH := Lib.hid h
  clear h1 h2' l1 hc1 p1 h l2 hc2 s1
  go_enter Tryz.func54, Tryz.ntmps54
  go_wp2_with fail
  refine calls_abs (fun W => Ext w W ∧ Blk_ W w.heap.size 88 #[.slice A1 d.blocks.length c1, .slice A2 d.entries.length c2]) ⟨(Ext.refl _).alloc _, Blk_.new _ _ _⟩ ?_
  rintro W ⟨hx, hb⟩
  refine (catCheck_any [.slice A1 d.blocks.length c1, .slice A2 d.entries.length c2] d W (HH.out.up hx)).mono ?_
  rintro e w1 ⟨rfl, hx1⟩
  have hb1 := hb.ext hx1
  have hxw := hx.trans hx1
  have f0 := hb1.cell 0
  have f1 := hb1.cell 1
  simp at f0 f1
  clear hb hx hx1
  by_cases hc : catFault d = 0
  · have HF := Lib.hid (enc_good hc)
    have hok := catFault_ok hc
    have HN := Lib.hid (And.intro hok.1 hok.2.1)
    have HBR := Lib.hid (blocksF_range d.blocks 8 (by omega) hok.2.2.1)
    have HER := Lib.hid (entsF_ok _ _ _ hok.2.2.2)
    rw [hc]
    have hn1 : (d.blocks.length : Int) ≤ 10 := by have := hok.1; omega
    have hn2 : (d.entries.length : Int) ≤ 10 := by have := hok.2.1; omega
    have hu1 : IntKind.u8.wrap (d.blocks.length : Int) = (d.blocks.length : Int) := by rw [IntKind.wrap_u8]; omega
    have hu2 : IntKind.u8.wrap (d.entries.length : Int) = (d.entries.length : Int) := by rw [IntKind.wrap_u8]; omega
    obtain ⟨T, hT⟩ : ∃ T, T = catBytes d := ⟨_, rfl⟩
    obtain ⟨REST, hREST⟩ : ∃ r, r = byte d.entries.length :: d.entries.flatMap entBytes := ⟨_, rfl⟩
    have HT := Lib.hid hT
    have HRE := Lib.hid hREST
    have HT0 := Lib.hid (show [byte (d.blocks.length : Int)] ++ ((d.blocks.drop 0).flatMap (fun b => twoB b.bytes) ++ REST) = T by rw [hT, hREST]; rfl)
    clear hc hok hT hREST
    have hl1 := hb1.lt
    go_wp2_with fail
    go_loopw [5, 24] (fun sv i wr => ∃ (k : Nat) (t : List UInt8), sv = .string (bs t) ∧ i = .int .i64 k ∧ k ≤ d.blocks.length ∧ t.length ≤ 1 + 2 * k ∧ Ext w wr ∧ Blk_ wr w.heap.size 88 #[.slice A1 d.blocks.length c1, .slice A2 d.entries.length c2] ∧ t ++ ((d.blocks.drop k).flatMap (fun b => twoB b.bytes) ++ REST) = T) (fun _ i _ => d.blocks.length - (intOf i).toNat)
    case atStart => exact ⟨0, [byte (d.blocks.length : Int)], rfl, rfl, Nat.zero_le _, by simp, by first | exact hxw | exact hxw.alloc _ | exact (hxw.alloc _).drew, by first | exact hb1 | exact hb1.alloc _ | exact (hb1.alloc _).drew, HT0.out⟩
    case round =>
      clear hxw hb1 f0 f1 HT0 hl1
      obtain ⟨k, t, rfl, rfl, hk, htl, hx, hb, heq⟩ := hrel
      have f0 := hb.cell 0
      have f1 := hb.cell 1
      simp at f0 f1
      have HEQ := Lib.hid heq
      clear heq
      obtain ⟨S, hS⟩ : ∃ S, S = bs t := ⟨_, rfl⟩
      have HSS := Lib.hid (show S.size = t.length by rw [hS, size_bs])
      rw [← hS]
      have HSE := Lib.hid hS
      clear hS
      by_cases hlt : k < d.blocks.length
      · obtain ⟨b1, o1, rfl, g1⟩ := HP.out k hlt
        have q0 := hx.cell (g1 k hlt 0 _ rfl)
        have q1 := hx.cell (g1 k hlt 1 _ rfl)
        simp only [Nat.add_zero] at q0
        have hB0 := HBR.out d.blocks[k] (List.getElem_mem hlt)
        have heq := HEQ.out
        rw [List.drop_eq_getElem_cons hlt, List.flatMap_cons] at heq
        obtain ⟨B, hB⟩ : ∃ B, B = d.blocks[k] := ⟨_, rfl⟩
        rw [← hB] at q0 q1 hB0 heq
        have HNX := Lib.hid (show (t ++ twoB B.bytes) ++ ((d.blocks.drop (k + 1)).flatMap (fun b => twoB b.bytes) ++ REST) = T by rw [List.append_assoc, ← List.append_assoc (twoB B.bytes)]; exact heq)
        clear g1 hB HEQ heq
        have hki : (k : Int) < (d.blocks.length : Int) := by omega
        have hk10 : (k : Int) < 10 := by have := HN.out.1; omega
        go_wp2_with fail
        refine (two_any B.bytes _ hB0.1 (by omega)).mono ?_
        rintro e w9 ⟨rfl, hx9⟩
        have HX9 := Lib.hid (hx.trans (((Ext.refl wr).alloc _).trans hx9))
        have HB9 := Lib.hid (hb.ext (((Ext.refl wr).alloc _).trans hx9))
        obtain ⟨Q, hQ⟩ : ∃ Q, Q = bs (twoB B.bytes) := ⟨_, rfl⟩
        rw [← hQ]
        have HQ := Lib.hid hQ
        have hcc : ¬ (9223372036854775807 < S.size + Q.size) := by rw [HSS.out, hQ, size_bs]; show ¬ (9223372036854775807 < t.length + 2); omega
        clear hx hb hx9 hQ f0 f1 q0 q1
        go_wp2_with fail
        go_roundw
        case rel => exact ⟨k + 1, t ++ twoB B.bytes, by rw [HSE.out, HQ.out, bs_append], by go_num, by omega, by rw [List.length_append]; show t.length + 2 ≤ _; omega, HX9.out, HB9.out, HNX.out⟩
        case measure => simp [intOf]; omega
      · have HE1 := Lib.hid (show t ++ REST = T by have := HEQ.out; rw [List.drop_of_length_le (by omega)] at this; exact this)
        clear HEQ
        have hk10 : (k : Int) ≤ 10 := by have := HN.out.1; omega
        have hcc : ¬ (9223372036854775807 < S.size + 1) := by rw [HSS.out]; omega
        have hcc' : ¬ (9223372036854775807 < S.size + (bs [byte (d.entries.length : Int)]).size) := by rw [size_bs]; exact hcc
        have HX0 := Lib.hid hx
        have HBL0 := Lib.hid hb
        have hl0 := hb.lt
        go_wp2_with fail
        go_loopw [5, 45] (fun sv i wr => ∃ (k : Nat) (t : List UInt8), sv = .string (bs t) ∧ i = .int .i64 k ∧ k ≤ d.entries.length ∧ t.length ≤ 22 + 13 * k ∧ Ext w wr ∧ Blk_ wr w.heap.size 88 #[.slice A1 d.blocks.length c1, .slice A2 d.entries.length c2] ∧ t ++ (d.entries.drop k).flatMap entBytes = T) (fun _ i _ => d.entries.length - (intOf i).toNat)
        case atStart => exact ⟨0, t ++ [byte (d.entries.length : Int)], by rw [HSE.out, bs_append], rfl, Nat.zero_le _, by rw [List.length_append]; show t.length + 1 ≤ _; have := HN.out.1; omega, by first | exact HX0.out | exact HX0.out.alloc _ | exact (HX0.out.alloc _).drew, by first | exact HBL0.out | exact HBL0.out.alloc _ | exact (HBL0.out.alloc _).drew, by have := HE1.out; rw [HRE.out] at this; rw [List.append_assoc]; exact this⟩
        case round =>
          clear hx hb hl0 f0 f1 hlt hk hk10 htl hcc hcc' HSS HSE HE1 HX0 HBL0
          obtain ⟨k, t, rfl, rfl, hk, htl, hx, hb, heq⟩ := hrel
          have f0 := hb.cell 0
          have f1 := hb.cell 1
          simp at f0 f1
          have HEQ := Lib.hid heq
          clear heq
          obtain ⟨S, hS⟩ : ∃ S, S = bs t := ⟨_, rfl⟩
          have HSS := Lib.hid (show S.size = t.length by rw [hS, size_bs])
          rw [← hS]
          have HSE := Lib.hid hS
          clear hS
          by_cases hlt : k < d.entries.length
          · obtain ⟨b2, o2, rfl, g1⟩ := HS.out k hlt
            have q0 := hx.cell (g1 k hlt 0 _ rfl)
            have q1 := hx.cell (g1 k hlt 1 _ rfl)
            have q2 := hx.cell (g1 k hlt 2 _ rfl)
            have q3 := hx.cell (g1 k hlt 3 _ rfl)
            simp only [Nat.add_zero] at q0
            have hX0 := HER.out d.entries[k] (List.getElem_mem hlt)
            have heq := HEQ.out
            rw [List.drop_eq_getElem_cons hlt, List.flatMap_cons] at heq
            obtain ⟨X, hX⟩ : ∃ X, X = d.entries[k] := ⟨_, rfl⟩
            rw [← hX] at q0 q1 q2 q3 hX0 heq
            have hXL := ent_len hX0
            have hXB := entBad_false hX0
            have hXN := nameMay_size hXB.1
            have HNX := Lib.hid (show (t ++ entBytes X) ++ (d.entries.drop (k + 1)).flatMap entBytes = T by rw [List.append_assoc]; exact heq)
            have HXL := Lib.hid hXL
            have hb10 : X.block < 10 := by have := hXB.2.2.1; have := HN.out.1; omega
            obtain ⟨_, hb0, _, ha0, ha1, hn0, hn1'⟩ := hXB
            clear g1 hX HEQ heq hX0 hXL
            have hki : (k : Int) < (d.entries.length : Int) := by omega
            have hk10 : (k : Int) < 10 := by have := HN.out.2; omega
            obtain ⟨Q, hQ⟩ : ∃ Q, Q = bs (twoB X.at_) := ⟨_, rfl⟩
            have HQS := Lib.hid (show Q.size = 2 by rw [hQ, size_bs]; rfl)
            have HQ := Lib.hid hQ
            have HJ := Lib.hid (show S ++ (bs [byte (X.name.size : Int)] ++ X.name ++ bs [byte X.block] ++ Q ++ bs [byte X.bytes]) = bs (t ++ entBytes X) by rw [hQ, ent_join, HSE.out, bs_append])
            clear hQ
            have hk10' : k < 10 := by omega
            go_wp2_with fail
            refine wp_abs (fun W => Ext wr W ∧ Blk_ W wr.heap.size 113 #[.string X.name, .int .i64 X.block, .int .i64 X.at_, .int .i64 X.bytes]) ⟨(Ext.refl _).alloc _, Blk_.new _ _ _⟩ ?_
            rintro W1 ⟨hx1, hbx⟩
            have e0 := hbx.cell 0
            have e1 := hbx.cell 1
            have e2 := hbx.cell 2
            have e3 := hbx.cell 3
            simp at e0 e1 e2 e3
            have HX1 := Lib.hid (hx.trans hx1)
            have HB1 := Lib.hid (hb.ext hx1)
            clear hx hb hx1 hbx f0 f1 q0 q1 q2 q3
            refine wp_region_vals (F := ?_) ?_ [(fun (v : Value) (_ : World) => v = .string S), (fun (v : Value) (_ : World) => v = .pointer (some ⟨wr.heap.size, 0, none⟩)), (fun (v : Value) (_ : World) => v = .string X.name), (fun (v : Value) (_ : World) => v = .int .i64 (X.name.size : Int)), (fun (v : Value) (_ : World) => v = .int .u8 (X.name.size : Int)), (fun v w => ∃ g, v = .slice (some ⟨g, 0, none⟩) 1 1 ∧ Blk_ w g 5 #[.int .u8 (X.name.size : Int)]), (fun (v : Value) (_ : World) => v = .string (bs [byte (X.name.size : Int)])), (fun (v : Value) (_ : World) => v = .pointer (some ⟨wr.heap.size, 0, none⟩)), (fun (v : Value) (_ : World) => v = .string X.name), (fun (v : Value) (_ : World) => v = .string (bs [byte (X.name.size : Int)] ++ X.name)), (fun (v : Value) (_ : World) => v = .pointer (some ⟨wr.heap.size, 1, none⟩)), (fun (v : Value) (_ : World) => v = .int .i64 X.block), (fun (v : Value) (_ : World) => v = .int .u8 X.block), (fun v w => ∃ g, v = .slice (some ⟨g, 0, none⟩) 1 1 ∧ Blk_ w g 5 #[.int .u8 X.block]), (fun (v : Value) (_ : World) => v = .string (bs [byte X.block])), (fun (v : Value) (_ : World) => v = .string (bs [byte (X.name.size : Int)] ++ X.name ++ bs [byte X.block])), (fun (v : Value) (_ : World) => v = .pointer (some ⟨wr.heap.size, 2, none⟩)), (fun (v : Value) (_ : World) => v = .int .i64 X.at_), (fun (v : Value) (_ : World) => v = .string Q), (fun (v : Value) (_ : World) => v = .string (bs [byte (X.name.size : Int)] ++ X.name ++ bs [byte X.block] ++ Q)), (fun (v : Value) (_ : World) => v = .pointer (some ⟨wr.heap.size, 3, none⟩)), (fun (v : Value) (_ : World) => v = .int .i64 X.bytes), (fun (v : Value) (_ : World) => v = .int .u8 X.bytes), (fun v w => ∃ g, v = .slice (some ⟨g, 0, none⟩) 1 1 ∧ Blk_ w g 5 #[.int .u8 X.bytes]), (fun (v : Value) (_ : World) => v = .string (bs [byte X.bytes])), (fun (v : Value) (_ : World) => v = .string (bs [byte (X.name.size : Int)] ++ X.name ++ bs [byte X.block] ++ Q ++ bs [byte X.bytes])), (fun (v : Value) (_ : World) => v = .string (S ++ (bs [byte (X.name.size : Int)] ++ X.name ++ bs [byte X.block] ++ Q ++ bs [byte X.bytes]))), (fun (v : Value) (_ : World) => v = .string (S ++ (bs [byte (X.name.size : Int)] ++ X.name ++ bs [byte X.block] ++ Q ++ bs [byte X.bytes])))] (by kernel_rfl) (by kernel_rfl) ?_ ?_ ?_
            rotate_left
            · intro vals
              simp only [putAll, Act.put, List.setIfInBounds_toArray, List.set_cons_zero, List.set_cons_succ, Nat.zero_add, Nat.reduceAdd]
              rfl
            · simp only [List.forall_mem_cons]
              exact ⟨fun _ _ _ h _ => h, fun _ _ _ h _ => h, fun _ _ _ h _ => h, fun _ _ _ h _ => h, fun _ _ _ h _ => h, fun _ _ _ h e => (by obtain ⟨g, hg, hb⟩ := h; exact ⟨g, hg, hb.ext e⟩), fun _ _ _ h _ => h, fun _ _ _ h _ => h, fun _ _ _ h _ => h, fun _ _ _ h _ => h, fun _ _ _ h _ => h, fun _ _ _ h _ => h, fun _ _ _ h _ => h, fun _ _ _ h e => (by obtain ⟨g, hg, hb⟩ := h; exact ⟨g, hg, hb.ext e⟩), fun _ _ _ h _ => h, fun _ _ _ h _ => h, fun _ _ _ h _ => h, fun _ _ _ h _ => h, fun _ _ _ h _ => h, fun _ _ _ h _ => h, fun _ _ _ h _ => h, fun _ _ _ h _ => h, fun _ _ _ h _ => h, fun _ _ _ h e => (by obtain ⟨g, hg, hb⟩ := h; exact ⟨g, hg, hb.ext e⟩), fun _ _ _ h _ => h, fun _ _ _ h _ => h, fun _ _ _ h _ => h, fun _ _ _ h _ => h, fun _ h => (by cases h)⟩
            · refine ⟨?_, ?_, ?_, ?_, ?_, ?_, ?_, ?_, ?_, ?_, ?_, ?_, ?_, ?_, ?_, ?_, ?_, ?_, ?_, ?_, ?_, ?_, ?_, ?_, ?_, ?_, ?_, ?_, trivial⟩
              · intro vals W e hd ho K hK
                have o27 : vals 27 = .string S := ho 27 (by kernel_rfl)
                refine st_quiet (v := ?_) ?_ ?_
                rotate_left
                · go_simp
                  rfl
                exact hK _ _ _ rfl (by first | exact rfl | exact congrArg (Value.int _) (by first | (rw [IntKind.wrap_i64]; omega) | (rw [IntKind.wrap_u8]; omega) | omega)) (Ext.refl _)
              · intro vals W e hd ho K hK
                refine st_quiet (v := ?_) ?_ ?_
                rotate_left
                · go_simp
                  rfl
                exact hK _ _ _ rfl (by first | exact rfl | exact congrArg (Value.int _) (by first | (rw [IntKind.wrap_i64]; omega) | (rw [IntKind.wrap_u8]; omega) | omega)) (Ext.refl _)
              · intro vals W e hd ho K hK
                have h1 : vals 1 = .pointer (some ⟨wr.heap.size, 0, none⟩) := hd 1 (by kernel_rfl)
                have cc := e.cell e0
                refine st_quiet (v := ?_) ?_ ?_
                rotate_left
                · go_simp
                  rfl
                exact hK _ _ _ rfl rfl (Ext.refl _)
              · intro vals W e hd ho K hK
                have h2 : vals 2 = .string X.name := hd 2 (by kernel_rfl)
                refine st_quiet (v := ?_) ?_ ?_
                rotate_left
                · go_simp
                  rfl
                exact hK _ _ _ rfl (by first | exact rfl | exact congrArg (Value.int _) (by first | (rw [IntKind.wrap_i64]; omega) | (rw [IntKind.wrap_u8]; omega) | omega)) (Ext.refl _)
              · intro vals W e hd ho K hK
                have h3 : vals 3 = .int .i64 (X.name.size : Int) := hd 3 (by kernel_rfl)
                refine st_quiet (v := ?_) ?_ ?_
                rotate_left
                · go_simp
                  rfl
                exact hK _ _ _ rfl (by first | exact rfl | exact congrArg (Value.int _) (by first | (rw [IntKind.wrap_i64]; omega) | (rw [IntKind.wrap_u8]; omega) | omega)) (Ext.refl _)
              · intro vals W e hd ho K hK
                have h4 : vals 4 = .int .u8 (X.name.size : Int) := hd 4 (by kernel_rfl)
                go_wp2_with fail
                exact hK _ _ _ (by first | rfl | (simp only [h4]; rfl)) ⟨W.heap.size, rfl, Blk_.new _ _ _⟩ ((Ext.refl W).alloc _)
              · intro vals W e hd ho K hK
                obtain ⟨g5, h5, b5⟩ := hd 5 (by kernel_rfl)
                refine wp_conv1 (.tmp 54) 95 9 5 rfl Tryz.underlying95 Tryz.underlying5 Tryz.underlying9 g5 _ (by go_simp; try rfl) b5 ?_
                exact hK _ _ _ rfl rfl (Ext.refl _)
              · intro vals W e hd ho K hK
                refine st_quiet (v := ?_) ?_ ?_
                rotate_left
                · go_simp
                  rfl
                exact hK _ _ _ rfl (by first | exact rfl | exact congrArg (Value.int _) (by first | (rw [IntKind.wrap_i64]; omega) | (rw [IntKind.wrap_u8]; omega) | omega)) (Ext.refl _)
              · intro vals W e hd ho K hK
                have h7 : vals 7 = .pointer (some ⟨wr.heap.size, 0, none⟩) := hd 7 (by kernel_rfl)
                have cc := e.cell e0
                refine st_quiet (v := ?_) ?_ ?_
                rotate_left
                · go_simp
                  rfl
                exact hK _ _ _ rfl rfl (Ext.refl _)
              · intro vals W e hd ho K hK
                have h6 : vals 6 = .string (bs [byte (X.name.size : Int)]) := hd 6 (by kernel_rfl)
                have h8 : vals 8 = .string X.name := hd 8 (by kernel_rfl)
                refine st_concat (.tmp 55) (.tmp 57) _ _ _ _ rfl h6 h8 (by rw [size_bs]; simp only [List.length_cons, List.length_nil]; omega) ?_
                exact hK _ _ _ rfl rfl (Ext.refl _)
              · intro vals W e hd ho K hK
                refine st_quiet (v := ?_) ?_ ?_
                rotate_left
                · go_simp
                  rfl
                exact hK _ _ _ rfl (by first | exact rfl | exact congrArg (Value.int _) (by first | (rw [IntKind.wrap_i64]; omega) | (rw [IntKind.wrap_u8]; omega) | omega)) (Ext.refl _)
              · intro vals W e hd ho K hK
                have h10 : vals 10 = .pointer (some ⟨wr.heap.size, 1, none⟩) := hd 10 (by kernel_rfl)
                have cc := e.cell e1
                refine st_quiet (v := ?_) ?_ ?_
                rotate_left
                · go_simp
                  rfl
                exact hK _ _ _ rfl rfl (Ext.refl _)
              · intro vals W e hd ho K hK
                have h11 : vals 11 = .int .i64 X.block := hd 11 (by kernel_rfl)
                refine st_quiet (v := ?_) ?_ ?_
                rotate_left
                · go_simp
                  rfl
                exact hK _ _ _ rfl (by first | exact rfl | exact congrArg (Value.int _) (by first | (rw [IntKind.wrap_i64]; omega) | (rw [IntKind.wrap_u8]; omega) | omega)) (Ext.refl _)
              · intro vals W e hd ho K hK
                have h12 : vals 12 = .int .u8 X.block := hd 12 (by kernel_rfl)
                go_wp2_with fail
                exact hK _ _ _ (by first | rfl | (simp only [h12]; rfl)) ⟨W.heap.size, rfl, Blk_.new _ _ _⟩ ((Ext.refl W).alloc _)
              · intro vals W e hd ho K hK
                obtain ⟨g13, h13, b13⟩ := hd 13 (by kernel_rfl)
                refine wp_conv1 (.tmp 62) 95 9 5 rfl Tryz.underlying95 Tryz.underlying5 Tryz.underlying9 g13 _ (by go_simp; try rfl) b13 ?_
                exact hK _ _ _ rfl rfl (Ext.refl _)
              · intro vals W e hd ho K hK
                have h9 : vals 9 = .string (bs [byte (X.name.size : Int)] ++ X.name) := hd 9 (by kernel_rfl)
                have h14 : vals 14 = .string (bs [byte X.block]) := hd 14 (by kernel_rfl)
                refine st_concat (.tmp 58) (.tmp 63) _ _ _ _ rfl h9 h14 (by rw [ByteArray.size_append, size_bs, size_bs]; simp only [List.length_cons, List.length_nil]; omega) ?_
                exact hK _ _ _ rfl rfl (Ext.refl _)
              · intro vals W e hd ho K hK
                refine st_quiet (v := ?_) ?_ ?_
                rotate_left
                · go_simp
                  rfl
                exact hK _ _ _ rfl (by first | exact rfl | exact congrArg (Value.int _) (by first | (rw [IntKind.wrap_i64]; omega) | (rw [IntKind.wrap_u8]; omega) | omega)) (Ext.refl _)
              · intro vals W e hd ho K hK
                have h16 : vals 16 = .pointer (some ⟨wr.heap.size, 2, none⟩) := hd 16 (by kernel_rfl)
                have cc := e.cell e2
                refine st_quiet (v := ?_) ?_ ?_
                rotate_left
                · go_simp
                  rfl
                exact hK _ _ _ rfl rfl (Ext.refl _)
              · intro vals W e hd ho K hK
                have h17 : vals 17 = .int .i64 X.at_ := hd 17 (by kernel_rfl)
                go_wp2_with fail
                refine (two_any X.at_ _ ha0 (by omega)).mono ?_
                rintro e' W' ⟨rfl, h'⟩
                exact hK _ _ _ (by first | rfl | (simp only [h17]; rfl)) (congrArg Value.string HQ.out.symm) h'
              · intro vals W e hd ho K hK
                have h15 : vals 15 = .string (bs [byte (X.name.size : Int)] ++ X.name ++ bs [byte X.block]) := hd 15 (by kernel_rfl)
                have h18 : vals 18 = .string Q := hd 18 (by kernel_rfl)
                refine st_concat (.tmp 64) (.tmp 67) _ _ _ _ rfl h15 h18 (by have := HQS.out; rw [ByteArray.size_append, ByteArray.size_append, size_bs, size_bs]; simp only [List.length_cons, List.length_nil]; omega) ?_
                exact hK _ _ _ rfl rfl (Ext.refl _)
              · intro vals W e hd ho K hK
                refine st_quiet (v := ?_) ?_ ?_
                rotate_left
                · go_simp
                  rfl
                exact hK _ _ _ rfl (by first | exact rfl | exact congrArg (Value.int _) (by first | (rw [IntKind.wrap_i64]; omega) | (rw [IntKind.wrap_u8]; omega) | omega)) (Ext.refl _)
              · intro vals W e hd ho K hK
                have h20 : vals 20 = .pointer (some ⟨wr.heap.size, 3, none⟩) := hd 20 (by kernel_rfl)
                have cc := e.cell e3
                refine st_quiet (v := ?_) ?_ ?_
                rotate_left
                · go_simp
                  rfl
                exact hK _ _ _ rfl rfl (Ext.refl _)
              · intro vals W e hd ho K hK
                have h21 : vals 21 = .int .i64 X.bytes := hd 21 (by kernel_rfl)
                refine st_quiet (v := ?_) ?_ ?_
                rotate_left
                · go_simp
                  rfl
                exact hK _ _ _ rfl (by first | exact rfl | exact congrArg (Value.int _) (by first | (rw [IntKind.wrap_i64]; omega) | (rw [IntKind.wrap_u8]; omega) | omega)) (Ext.refl _)
              · intro vals W e hd ho K hK
                have h22 : vals 22 = .int .u8 X.bytes := hd 22 (by kernel_rfl)
                go_wp2_with fail
                exact hK _ _ _ (by first | rfl | (simp only [h22]; rfl)) ⟨W.heap.size, rfl, Blk_.new _ _ _⟩ ((Ext.refl W).alloc _)
              · intro vals W e hd ho K hK
                obtain ⟨g23, h23, b23⟩ := hd 23 (by kernel_rfl)
                refine wp_conv1 (.tmp 72) 95 9 5 rfl Tryz.underlying95 Tryz.underlying5 Tryz.underlying9 g23 _ (by go_simp; try rfl) b23 ?_
                exact hK _ _ _ rfl rfl (Ext.refl _)
              · intro vals W e hd ho K hK
                have h19 : vals 19 = .string (bs [byte (X.name.size : Int)] ++ X.name ++ bs [byte X.block] ++ Q) := hd 19 (by kernel_rfl)
                have h24 : vals 24 = .string (bs [byte X.bytes]) := hd 24 (by kernel_rfl)
                refine st_concat (.tmp 68) (.tmp 73) _ _ _ _ rfl h19 h24 (by have := HQS.out; rw [ByteArray.size_append, ByteArray.size_append, ByteArray.size_append, size_bs, size_bs, size_bs]; simp only [List.length_cons, List.length_nil]; omega) ?_
                exact hK _ _ _ rfl rfl (Ext.refl _)
              · intro vals W e hd ho K hK
                have h0 : vals 0 = .string S := hd 0 (by kernel_rfl)
                have h25 : vals 25 = .string (bs [byte (X.name.size : Int)] ++ X.name ++ bs [byte X.block] ++ Q ++ bs [byte X.bytes]) := hd 25 (by kernel_rfl)
                refine st_concat (.tmp 49) (.tmp 74) _ _ _ _ rfl h0 h25 (by have := HQS.out; have := HSS.out; have := HN.out.2; rw [ByteArray.size_append, ByteArray.size_append, ByteArray.size_append, ByteArray.size_append, size_bs, size_bs, size_bs]; simp only [List.length_cons, List.length_nil]; omega) ?_
                exact hK _ _ _ rfl rfl (Ext.refl _)
              · intro vals W e hd ho K hK
                have h26 : vals 26 = .string (S ++ (bs [byte (X.name.size : Int)] ++ X.name ++ bs [byte X.block] ++ Q ++ bs [byte X.bytes])) := hd 26 (by kernel_rfl)
                refine st_quiet (v := ?_) ?_ ?_
                rotate_left
                · go_simp
                  rfl
                exact hK _ _ _ rfl (by first | exact rfl | exact congrArg (Value.int _) (by first | (rw [IntKind.wrap_i64]; omega) | (rw [IntKind.wrap_u8]; omega) | omega)) (Ext.refl _)
            intro vals W e hall
            have h27 : vals 27 = .string (S ++ (bs [byte (X.name.size : Int)] ++ X.name ++ bs [byte X.block] ++ Q ++ bs [byte X.bytes])) := hall 27 (by decide)
            rw [HJ.out] at h27
            go_wp2_with fail
            go_roundw
            case rel => exact ⟨k + 1, t ++ entBytes X, h27, by go_num, by omega, by rw [List.length_append]; have := HXL.out; omega, HX1.out.trans ((Ext.refl _).drew.trans e), HB1.out.ext ((Ext.refl _).drew.trans e), HNX.out⟩
            case measure => simp [intOf]; omega
          · have HE2 := Lib.hid (show t = T by have := HEQ.out; rw [List.drop_of_length_le (by omega)] at this; simpa using this)
            clear HEQ
            have hk10 : (k : Int) ≤ 10 := by have := HN.out.2; omega
            go_wp2_with fail
            go_ret2
            rw [HF.out, HSE.out, HE2.out, HT.out]
            exact ⟨rfl, hx⟩
  · have HF := Lib.hid (enc_bad hc)
    have hc' : (catFault d != 0) = true := by simpa using hc
    clear hc hb1
    generalize catFault d = t at *
    go_wp2_with fail
    go_ret2
    rw [HF.out]
    exact ⟨rfl, hxw⟩
end Go.Proofs.YtgjijcgkmofaaaaGreatDoor

/-
  The document's bytes of a catalog, and the law: catalog.Encode answers as it does. Conditions: the argument reads as a catalog.
-/
namespace Go.Proofs.YtgjijcgkmofaaaaGreatDoor
set_option linter.unusedSimpArgs false
set_option linter.unusedVariables false
open Go.RowKit

theorem own_ne {w : World} {base : Nat} {e e' : TypeId} {size n g : Nat} {v : Value} {xs : List Value} {cs : Array Value} (h : w.ownsRow base e size v n xs) (hb : Blk_ w g e' cs) (hne : e ≠ e') : ∀ k, v.ownBlock = some k → k ≠ g := by
  rintro k hk rfl
  rcases h.2 with ⟨hv, _⟩ | ⟨g', cap, cur, hv, _, hg, _⟩
  · rw [hv] at hk; cases hk
  · rw [hv] at hk
    obtain rfl : g' = k := by injection hk
    unfold Blk_ at hb
    rw [hg] at hb
    injection hb with hb
    injection hb with _ h2 _
    exact hne h2
theorem own_one (w : World) (base : Nat) (e : TypeId) (u : Value) (hb : base ≤ w.heap.size) : (w.alloc (.cells #[u] e)).ownsRow base e 1 (.slice (some ⟨w.heap.size, 0, none⟩) 1 1) 1 [u] :=
  ⟨rfl, .inr ⟨w.heap.size, 1, #[u], rfl, hb, heap_alloc_new w _, Nat.le_refl 1, by decide, rfl, rfl⟩⟩
theorem cells_one (n : Int) (h0 : 0 ≤ n) (h1 : n < 256) : cells [byte n] = [.int .u8 n] := by
  unfold cells; rw [List.map_cons, List.map_nil, byte_nat_ _ h0 h1]
theorem cells_two (n : Int) (h0 : 0 ≤ n) (h1 : n ≤ 65535) : cells (twoB n) = [.int .u8 (n / 256), .int .u8 (n % 256)] := by
  unfold cells twoB; rw [List.map_cons, List.map_cons, List.map_nil, byte_nat_ _ (by omega) (by omega), byte_nat_ _ (by omega) (by omega)]
theorem cells_four (a n b : Int) (h0 : 0 ≤ a) (h1 : a < 256) (h2 : 0 ≤ n) (h3 : n ≤ 65535) (h4 : 0 ≤ b) (h5 : b < 256) : cells [byte a, byte (n / 256), byte (n % 256), byte b] = [.int .u8 a, .int .u8 (n / 256), .int .u8 (n % 256), .int .u8 b] := by
  unfold cells; rw [List.map_cons, List.map_cons, List.map_cons, List.map_cons, List.map_nil, byte_nat_ _ h0 h1, byte_nat_ _ (by omega) (by omega), byte_nat_ _ (by omega) (by omega), byte_nat_ _ h4 h5]

end Go.Proofs.YtgjijcgkmofaaaaGreatDoor

/-
  strings.Compare in this seat: the library's contract, laid. Conditions: none.
-/
namespace Go.Proofs.YtgjijcgkmofaaaaGreatDoor
open Go.Shelf
def Tryz.laysC_ren : Go.Shelf.Ren := ⟨fun | 106 => 79 | 213 => 125 | 265 => 165 | n => n, fun | 3 => 3 | 9 => 9 | n => n, fun | n => n⟩
theorem Tryz.laysC106 : Go.Proofs.Lays.n106 Tryz.prog Tryz.laysC_ren := {
  mixed := by kernel_rfl
  f106 := Tryz.func79.trans (congrArg some (by kernel_rfl))
  f213 := Tryz.func125.trans (congrArg some (by kernel_rfl))
  f265 := Tryz.func165.trans (congrArg some (by kernel_rfl))
  t3 := Tryz.underlying3
  a3 := Tryz.isAgg3
  z3 := Tryz.sizeOf3
  v3 := Tryz.zeroValue3
  t9 := Tryz.underlying9
  a9 := Tryz.isAgg9
  z9 := Tryz.sizeOf9
  v9 := Tryz.zeroValue9 }
open Go.RowKit Go.Lib
theorem compare_any (a b : ByteArray) (w : World) :
    Calls Tryz.prog 79 #[.string a, .string b] w fun e w' => e = .returned (.int .i64 (Lib.compareBytes a.data.toList b.data.toList)) ∧ w' = w := Any.strings_Compare Tryz.laysC106 a b w
end Go.Proofs.YtgjijcgkmofaaaaGreatDoor
