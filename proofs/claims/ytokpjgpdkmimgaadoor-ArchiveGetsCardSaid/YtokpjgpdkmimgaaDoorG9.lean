/-
  The document's plainly and PackedOf: bytes as they are, and packed. Conditions: the text is short.
-/
import Derived.Test.YtokpjgpdkmimgaaDoorG8
import Derived.Lib.AppendStr
import Derived.Shelf.Strings.BuilderK
import Derived.Test.YtokpjgpdkmimgaaDoorProg
import Derived.Shelf.Small.Strs
namespace Go.Proofs.YtokpjgpdkmimgaaDoor
set_option linter.unusedSimpArgs false
set_option linter.unusedVariables false
open Go.RowKit

theorem lst_ext0 (s : ByteArray) (n : Nat) : lst (s.extract 0 n) = (lst s).take n := by
  unfold lst; rw [ByteArray.data_extract, Array.toList_extract]; simp [List.extract]
theorem lst_ext (s : ByteArray) (a b : Nat) : lst (s.extract a b) = sub_ s a b := by
  unfold lst sub_
  rw [ByteArray.data_extract, Array.toList_extract]
  simp [List.extract, List.drop_take, lst]
theorem plain_join (s : ByteArray) (n : Nat) (hn : n = min s.size 128) (h0 : 0 < s.size) : bs [byte ((n : Int) - 1)] ++ s.extract 0 n ++ bs (plainF (lst (s.extract n s.size))) = bs (plainF (lst s)) := by
  apply lst_inj
  rw [lst_append, lst_append, lst_bs, lst_bs, lst_bs, lst_ext0, lst_ext]
  have hne : lst s ≠ [] := by intro h; have := length_lst s; rw [h] at this; simp at this; omega
  have hn1 : 1 ≤ n := by omega
  rw [plainF.eq_def (lst s), dif_neg hne, length_lst, ← hn]
  have hb : byte ((n : Int) - 1) = UInt8.ofNat (n - 1) := by
    unfold byte; congr 1; show ((n : Int) - 1).toNat = n - 1; omega
  have ht : (lst s).take n = (lst s).take 128 := by
    by_cases h : s.size ≤ 128
    · rw [List.take_of_length_le (by rw [length_lst]; omega), List.take_of_length_le (by rw [length_lst]; omega)]
    · rw [show n = 128 by omega]
  have hd : sub_ s n s.size = (lst s).drop 128 := by
    unfold sub_
    rw [List.take_of_length_le (by rw [length_lst]; omega)]
    by_cases h : s.size ≤ 128
    · rw [List.drop_of_length_le (by rw [length_lst]; omega), List.drop_of_length_le (by rw [length_lst]; omega)]
    · rw [show n = 128 by omega]
  rw [hb, ht, hd]
  simp
theorem plain_size (l : List UInt8) : (bs (plainF l)).size = l.length + (l.length + 127) / 128 := by rw [size_bs, plain_len]
end Go.Proofs.YtokpjgpdkmimgaaDoor

/-
  The document's PackedOf: a text, with what stands there already made short. Conditions: none.
-/
namespace Go.Proofs.YtokpjgpdkmimgaaDoor
set_option linter.unusedSimpArgs false
set_option linter.unusedVariables false
open Go.RowKit

theorem pack_plain {s : ByteArray} {o : List UInt8} {f i : Nat} (h : i < s.size) (h2 : (pieceF s i 1 0 0).1 < 4) : packF s o f i = packF s o f (i + 1) := by
  rw [packF, dif_pos h, dif_pos h2]
theorem pack_piece {s : ByteArray} {o : List UInt8} {f i n d : Nat} (h : i < s.size) (hp : pieceF s i 1 0 0 = (n, d)) (h2 : ¬ n < 4) : packF s o f i = packF s (o ++ plainF (sub_ s f i) ++ [UInt8.ofNat (124 + n), UInt8.ofNat d]) (i + n) (i + n) := by
  rw [packF, dif_pos h, hp, dif_neg h2]
theorem pack_stop {s : ByteArray} {o : List UInt8} {f i : Nat} (h : ¬ i < s.size) : packF s o f i = o ++ plainF (sub_ s f s.size) := by
  rw [packF, dif_neg h]
theorem bs_app (a b : List UInt8) : bs a ++ bs b = bs (a ++ b) := by apply lst_inj; rw [lst_append, lst_bs, lst_bs, lst_bs]
theorem plain_len2 (l : List UInt8) : (plainF l).length ≤ 2 * l.length := by rw [plain_len]; omega
theorem byte_124 (n : Nat) : byte (124 + (n : Int)) = UInt8.ofNat (124 + n) := by unfold byte; congr 1
theorem byte_cast (n : Nat) : byte (n : Int) = UInt8.ofNat n := by unfold byte; congr 1
end Go.Proofs.YtokpjgpdkmimgaaDoor

/-
  press.Pack: a text, with what stands there already made short. Conditions: none.
-/
namespace Go.Proofs.YtokpjgpdkmimgaaDoor
set_option linter.unusedSimpArgs false
set_option linter.unusedVariables false
open Go.RowKit

/-- The boxes that the packing works on: the text, the bytes so far, how many are to be told as they are. -/
structure PBx (w0 w : World) (gs gb gp base : Nat) (s : ByteArray) (B : Value) (p : Nat) : Prop where
  ext : Ext w0 w
  ls : w0.heap.size ≤ gs
  lb : w0.heap.size ≤ gb
  lp : w0.heap.size ≤ gp
  bs_ : gs < base
  bb : gb < base
  bp : gp < base
  nbs : gb ≠ gs
  nps : gp ≠ gs
  nbp : gb ≠ gp
  sz : base ≤ w.heap.size
  box : Blk_ w gs 9 #[.string s]
  buf : Blk_ w gb 34 #[B]
  pl : Blk_ w gp 3 #[.int .i64 (p : Int)]
theorem PBx.grown {w0 w w' : World} {gs gb gp base : Nat} {s : ByteArray} {B : Value} {p : Nat} (h : PBx w0 w gs gb gp base s B p) {row : Option Nat} (hg : w.grownBy w' row) (hr : ∀ k, row = some k → base ≤ k) : PBx w0 w' gs gb gp base s B p where
  ext := h.ext.grown hg (fun k hk => by have := hr k hk; have := h.ls; have := h.bs_; omega)
  ls := h.ls
  lb := h.lb
  lp := h.lp
  bs_ := h.bs_
  bb := h.bb
  bp := h.bp
  nbs := h.nbs
  nps := h.nps
  nbp := h.nbp
  sz := Nat.le_trans h.sz hg.size
  box := h.box.grown hg (fun k hk => by have := hr k hk; have := h.bs_; omega)
  buf := h.buf.grown hg (fun k hk => by have := hr k hk; have := h.bb; omega)
  pl := h.pl.grown hg (fun k hk => by have := hr k hk; have := h.bp; omega)
theorem PBx.setPl {w0 w : World} {gs gb gp base : Nat} {s : ByteArray} {B : Value} {p : Nat} (h : PBx w0 w gs gb gp base s B p) (q : Nat) : PBx w0 (w.setCell ⟨gp, 0, none⟩ (.int .i64 (q : Int))) gs gb gp base s B q where
  ext := h.ext.setCell h.lp _
  ls := h.ls
  lb := h.lb
  lp := h.lp
  bs_ := h.bs_
  bb := h.bb
  bp := h.bp
  nbs := h.nbs
  nps := h.nps
  nbp := h.nbp
  sz := by rw [World.size_setCell]; exact h.sz
  box := h.box.far (fun e => h.nps e.symm) _
  buf := h.buf.far (fun e => h.nbp e) _
  pl := h.pl.set 0 _
theorem PBx.setBuf {w0 w : World} {gs gb gp base : Nat} {s : ByteArray} {B : Value} {p : Nat} (h : PBx w0 w gs gb gp base s B p) (B' : Value) : PBx w0 (w.setCell ⟨gb, 0, none⟩ B') gs gb gp base s B' p where
  ext := h.ext.setCell h.lb _
  ls := h.ls
  lb := h.lb
  lp := h.lp
  bs_ := h.bs_
  bb := h.bb
  bp := h.bp
  nbs := h.nbs
  nps := h.nps
  nbp := h.nbp
  sz := by rw [World.size_setCell]; exact h.sz
  box := h.box.far (fun e => h.nbs e.symm) _
  buf := h.buf.set 0 _
  pl := h.pl.far (fun e => h.nbp e.symm) _
/-- Bytes as cells. -/
def cells (o : List UInt8) : List Value := o.map fun b => Value.int .u8 (b.toNat : Int)
theorem cells_append (a b : List UInt8) : cells (a ++ b) = cells a ++ cells b := by unfold cells; exact List.map_append
theorem strCells_eq (s : ByteArray) : Lib.strCells s = cells (lst s) := rfl
section
variable {P : Program}
/-- append(b, s...): a text's bytes onto a row of the call's own. -/
theorem wp_append_str {o : Oper} {a : Act} {w : World} {K : Act → World → Prop} {Q : Exit → Act → World → Prop} (sl x : Operand) (t u : TypeId)
    (ho : o.op = .call { callee := .builtin .append, args := #[sl, x], argTypes := #[t, u] })
    (base : Nat) (e : TypeId) (i : TypeInfo) (ht : P.underlying t = some (.slice e)) (hu : P.underlying u = some .string) (hi : P.info? e = some i) (hz : i.zero = some (.int .u8 0))
    (hsize : i.size = 1) (hby : i.bytes = 1)
    (v : Value) (n : Nat) (xs : List Value) (hs : a.eval sl = v) (hown : w.ownsRow base e 1 v n xs) (s : ByteArray) (hx : a.eval x = .string s)
    (h63 : n + s.size ≤ maxLen) (hbytes : n + s.size ≤ 140737488355328) (hbase : base ≤ w.heap.size)
    (h : ∀ v' w', w'.ownsRow base e 1 v' (n + s.size) (xs ++ cells (lst s)) → w.grownBy w' v.ownBlock → K (a.put o.dst v') w') : o.wp P a w K Q := by
  obtain ⟨v', w', hr, h2, h3, h4⟩ := Lib.run_append_own_string (P := P) w base t u o.type e i ht hu hi hz hsize hby v n xs hown s h63 hbytes hbase
  unfold Oper.wp execOp
  simp only [ho, resolve, invoke, builtin, Sem.run_bind, Sem.run_pure, Result.andThen_ok, List.map_toArray, List.map_cons, List.map_nil, hs, hx, hr]
  exact h v' w' h2 h3
end
theorem plain_cons (s : ByteArray) (a b n : Nat) (hab : a < b) (hb : b ≤ s.size) (hn : n = min (b - a) 128) : plainF (sub_ s a b) = [byte ((n : Int) - 1)] ++ lst (s.extract a (a + n)) ++ plainF (sub_ s (a + n) b) := by
  have hl : (sub_ s a b).length = b - a := length_sub_ s a b hb
  have hne : sub_ s a b ≠ [] := by intro h; rw [h] at hl; simp at hl; omega
  rw [plainF.eq_def (sub_ s a b), dif_neg hne, hl, ← hn]
  have hb' : byte ((n : Int) - 1) = UInt8.ofNat (n - 1) := by
    unfold byte; congr 1; show ((n : Int) - 1).toNat = n - 1; omega
  have ht : (sub_ s a b).take 128 = lst (s.extract a (a + n)) := by
    rw [lst_ext]
    unfold sub_
    rw [List.take_drop, List.take_take]
    by_cases h : b - a ≤ 128
    · rw [show min (a + 128) b = b by omega, show a + n = b by omega]
    · rw [show min (a + 128) b = a + 128 by omega, show n = 128 by omega]
  have hd : (sub_ s a b).drop 128 = sub_ s (a + n) b := by
    unfold sub_
    rw [List.drop_drop]
    by_cases h : b - a ≤ 128
    · rw [List.drop_of_length_le (by rw [List.length_take, length_lst]; omega), List.drop_of_length_le (by rw [List.length_take, length_lst]; omega)]
    · rw [show n = 128 by omega]
  rw [hb', ht, hd]
  simp
theorem plain_none (s : ByteArray) (a b : Nat) (h : b ≤ a) : plainF (sub_ s a b) = [] := by
  have : sub_ s a b = [] := by unfold sub_; exact List.drop_of_length_le (by rw [List.length_take]; omega)
  rw [this, plain_nil]
end Go.Proofs.YtokpjgpdkmimgaaDoor

/-
  press.Pack: a text, with what stands there already made short. Conditions: none.
-/
namespace Go.Proofs.YtokpjgpdkmimgaaDoor
set_option linter.unusedSimpArgs false
set_option linter.unusedVariables false
open Go.RowKit

theorem cells_flat (l : List UInt8) : cells l = l.flatMap encByte := by
  unfold cells
  induction l with
  | nil => rfl
  | cons a l ih => rw [List.map_cons, List.flatMap_cons, ih]; rfl
section
variable {P : Program} {Q : Exit → Act → World → Prop}
/-- No bytes are made a text. -/
theorem wpList_fromnil {ops : Array Oper} {rest : List Oper} {o : Oper} {a : Act} {w : World} (x : Operand) (src dst e : TypeId) (ho : o.op = .convert src dst x) (hgd : o.guard = none) (hs : P.underlying src = some (.slice e)) (he : P.underlying e = some (.int .u8)) (hd : P.underlying dst = some .string)
    (hx : a.eval x = .slice none 0 0) (h : wpList P ops Q rest (a.put o.dst (.string (bs []))) w) : wpList P ops Q (o :: rest) a w := by
  refine wpList_plain hgd fun K hK => ?_
  have hr : (convert src dst (.slice none 0 0)).run P w = .ok (.string (bs [])) w := by
    rw [run_convert_bytes_string w src dst e none 0 0 hs he hd]
    rfl
  unfold Oper.wp execOp
  simp only [ho, Sem.run_bind, hx, hr, Result.andThen_ok, Sem.run_pure, Oper.upon]
  exact hK _ _ h
end
theorem PBx.init (w : World) (s : ByteArray) : PBx w (((w.alloc (.cells #[.string s] 9)).alloc (.cells #[.slice none 0 0] 34)).alloc (.cells #[.int .i64 0] 3))
    w.heap.size (w.heap.size + 1) (w.heap.size + 1 + 1) (w.heap.size + 1 + 1 + 1) s (.slice none 0 0) 0 where
  ext := (((Ext.refl w).alloc _).alloc _).alloc _
  ls := by omega
  lb := by omega
  lp := by omega
  bs_ := by omega
  bb := by omega
  bp := by omega
  nbs := by omega
  nps := by omega
  nbp := by omega
  sz := by rw [World.size_alloc, World.size_alloc, World.size_alloc]; omega
  box := ((Blk_.new w _ _).alloc _).alloc _
  buf := (Blk_.new1 w _ _ _).alloc _
  pl := Blk_.new2 w _ _ _ _
theorem piece_pair (s : ByteArray) (i : Nat) : pieceF s i 1 0 0 = ((pieceF s i 1 0 0).1, (pieceF s i 1 0 0).2) := rfl
theorem pieceF_back (s : ByteArray) (i d best back : Nat) (h : back ≤ 255) : (pieceF s i d best back).2 ≤ 255 := by
  induction hm : 256 - d generalizing d best back with
  | zero => rw [pieceF, if_neg (by omega)]; exact h
  | succ m ih =>
    rw [pieceF]
    split
    · rename_i hc
      split
      · exact ih _ _ _ hc.1 (by omega)
      · exact ih _ _ _ h (by omega)
    · exact h

end Go.Proofs.YtokpjgpdkmimgaaDoor

/-
  strings.Builder in this seat: the library's contracts (copyCheck, Len, WriteByte, WriteString, String), laid. Conditions: as they say.
-/
namespace Go.Proofs.YtokpjgpdkmimgaaDoor
open Go.Shelf
def Tryd.laysB_ren : Go.Shelf.Ren := ⟨fun | 166 => 64 | 167 => 104 | 169 => 66 | 170 => 65 | 240 => 97 | 276 => 121 | n => n, fun | 9 => 9 | 3 => 3 | 4 => 4 | 20 => 20 | 0 => 0 | 46 => 86 | 109 => 97 | 5 => 5 | 72 => 101 | 76 => 105 | 51 => 137 | 146 => 138 | 53 => 140 | 148 => 141 | 70 => 99 | 37 => 34 | 75 => 104 | 127 => 143 | 164 => 158 | 80 => 107 | n => n, fun | n => n⟩
theorem Tryd.laysB166 : Go.Proofs.Lays.n166 Tryd.prog Tryd.laysB_ren := {
  mixed := by kernel_rfl
  f166 := Tryd.func64.trans (congrArg some (by kernel_rfl))
  f240 := Tryd.func97.trans (congrArg some (by kernel_rfl))
  f276 := Tryd.func121.trans (congrArg some (by kernel_rfl))
  t0 := Tryd.underlying0
  a0 := Tryd.isAgg0
  z0 := Tryd.sizeOf0
  v0 := Tryd.zeroValue0
  t3 := Tryd.underlying3
  a3 := Tryd.isAgg3
  z3 := Tryd.sizeOf3
  v3 := Tryd.zeroValue3
  t4 := Tryd.underlying4
  a4 := Tryd.isAgg4
  z4 := Tryd.sizeOf4
  v4 := Tryd.zeroValue4
  t9 := Tryd.underlying9
  a9 := Tryd.isAgg9
  z9 := Tryd.sizeOf9
  v9 := Tryd.zeroValue9
  t20 := Tryd.underlying20
  a20 := Tryd.isAgg20
  z20 := Tryd.sizeOf20
  v20 := Tryd.zeroValue20
  t37 := Tryd.underlying34
  a37 := Tryd.isAgg34
  z37 := Tryd.sizeOf34
  v37 := Tryd.zeroValue34
  t70 := Tryd.underlying99
  a70 := Tryd.isAgg99
  z70 := Tryd.sizeOf99
  v70 := Tryd.zeroValue99
  t72 := Tryd.underlying101
  a72 := Tryd.isAgg101
  z72 := Tryd.sizeOf101
  v72 := Tryd.zeroValue101
  t75 := Tryd.underlying104
  a75 := Tryd.isAgg104
  z75 := Tryd.sizeOf104
  v75 := Tryd.zeroValue104
  t164 := Tryd.underlying158
  a164 := Tryd.isAgg158
  z164 := Tryd.sizeOf158
  v164 := Tryd.zeroValue158 }
theorem Tryd.laysB167 : Go.Proofs.Lays.n167 Tryd.prog Tryd.laysB_ren := {
  mixed := by kernel_rfl
  f167 := Tryd.func104.trans (congrArg some (by kernel_rfl))
  f240 := Tryd.func97.trans (congrArg some (by kernel_rfl))
  f276 := Tryd.func121.trans (congrArg some (by kernel_rfl))
  t0 := Tryd.underlying0
  a0 := Tryd.isAgg0
  z0 := Tryd.sizeOf0
  v0 := Tryd.zeroValue0
  t4 := Tryd.underlying4
  a4 := Tryd.isAgg4
  z4 := Tryd.sizeOf4
  v4 := Tryd.zeroValue4
  t5 := Tryd.underlying5
  a5 := Tryd.isAgg5
  z5 := Tryd.sizeOf5
  v5 := Tryd.zeroValue5
  t9 := Tryd.underlying9
  a9 := Tryd.isAgg9
  z9 := Tryd.sizeOf9
  v9 := Tryd.zeroValue9
  t20 := Tryd.underlying20
  a20 := Tryd.isAgg20
  z20 := Tryd.sizeOf20
  v20 := Tryd.zeroValue20
  t37 := Tryd.underlying34
  a37 := Tryd.isAgg34
  z37 := Tryd.sizeOf34
  v37 := Tryd.zeroValue34
  t70 := Tryd.underlying99
  a70 := Tryd.isAgg99
  z70 := Tryd.sizeOf99
  v70 := Tryd.zeroValue99
  t72 := Tryd.underlying101
  a72 := Tryd.isAgg101
  z72 := Tryd.sizeOf101
  v72 := Tryd.zeroValue101
  t75 := Tryd.underlying104
  a75 := Tryd.isAgg104
  z75 := Tryd.sizeOf104
  v75 := Tryd.zeroValue104
  t164 := Tryd.underlying158
  a164 := Tryd.isAgg158
  z164 := Tryd.sizeOf158
  v164 := Tryd.zeroValue158 }
theorem Tryd.laysB169 : Go.Proofs.Lays.n169 Tryd.prog Tryd.laysB_ren := {
  mixed := by kernel_rfl
  f169 := Tryd.func66.trans (congrArg some (by kernel_rfl))
  t0 := Tryd.underlying0
  a0 := Tryd.isAgg0
  z0 := Tryd.sizeOf0
  v0 := Tryd.zeroValue0
  t3 := Tryd.underlying3
  a3 := Tryd.isAgg3
  z3 := Tryd.sizeOf3
  v3 := Tryd.zeroValue3
  t9 := Tryd.underlying9
  a9 := Tryd.isAgg9
  z9 := Tryd.sizeOf9
  v9 := Tryd.zeroValue9
  t37 := Tryd.underlying34
  a37 := Tryd.isAgg34
  z37 := Tryd.sizeOf34
  v37 := Tryd.zeroValue34
  t70 := Tryd.underlying99
  a70 := Tryd.isAgg99
  z70 := Tryd.sizeOf99
  v70 := Tryd.zeroValue99
  t72 := Tryd.underlying101
  a72 := Tryd.isAgg101
  z72 := Tryd.sizeOf101
  v72 := Tryd.zeroValue101
  t127 := Tryd.underlying143
  a127 := Tryd.isAgg143
  z127 := Tryd.sizeOf143
  v127 := Tryd.zeroValue143 }
theorem Tryd.laysB170 : Go.Proofs.Lays.n170 Tryd.prog Tryd.laysB_ren := {
  mixed := by kernel_rfl
  f170 := Tryd.func65.trans (congrArg some (by kernel_rfl))
  t0 := Tryd.underlying0
  a0 := Tryd.isAgg0
  z0 := Tryd.sizeOf0
  v0 := Tryd.zeroValue0
  t3 := Tryd.underlying3
  a3 := Tryd.isAgg3
  z3 := Tryd.sizeOf3
  v3 := Tryd.zeroValue3
  t37 := Tryd.underlying34
  a37 := Tryd.isAgg34
  z37 := Tryd.sizeOf34
  v37 := Tryd.zeroValue34
  t70 := Tryd.underlying99
  a70 := Tryd.isAgg99
  z70 := Tryd.sizeOf99
  v70 := Tryd.zeroValue99
  t72 := Tryd.underlying101
  a72 := Tryd.isAgg101
  z72 := Tryd.sizeOf101
  v72 := Tryd.zeroValue101 }
theorem Tryd.laysB_Extra : Builder.Extra Tryd.prog Tryd.laysB_ren := {
  sizeBuilder := by kernel_rfl
  liesBuilder := by kernel_rfl
  t5 := Tryd.underlying5
  a5 := Tryd.isAgg5
  z5 := Tryd.sizeOf5
  v5 := Tryd.zeroValue5
  infoByte := by kernel_rfl
  cellsByte := by kernel_rfl
  sizeByte := by kernel_rfl
  neB5 := by decide }
open Go.RowKit Go.Lib
/-- A builder that holds these bytes. -/
def Bld (B b : Nat) (l : List UInt8) (w : World) : Prop := Lib.IsBuilderF 101 5 B b (Lib.byteCells l) w
theorem bld_len (B b : Nat) (l : List UInt8) (w : World) (h : Bld B b l w) : Calls Tryd.prog 65 #[.pointer (some ⟨b, 0, none⟩)] w fun e w' => e = .returned (.int .i64 l.length) ∧ w' = w := by
  refine (Any.Builder_Len_f Tryd.laysB170 B b (Lib.byteCells l) w h).mono ?_
  rintro e w' ⟨rfl, rfl⟩
  exact ⟨by simp [Lib.byteCells], rfl⟩
theorem bld_string (B b : Nat) (l : List UInt8) (w : World) (h : Bld B b l w) (hB : B ≤ w.heap.size) : Calls Tryd.prog 66 #[.pointer (some ⟨b, 0, none⟩)] w fun e w' => e = .returned (.string ⟨l.toArray⟩) ∧ Bld B b l w' ∧ Below B w w' := by
  refine (Any.Builder_String_any_f Tryd.laysB169 Tryd.laysB_Extra B b l w h hB).mono ?_
  rintro e w' ⟨rfl, h1, h2⟩
  exact ⟨rfl, h1, h2⟩
theorem bld_byte (B b : Nat) (l : List UInt8) (c : UInt8) (w : World) (h : Bld B b l w) (hl : l.length + 1 ≤ 140737488355328) (hB : B ≤ w.heap.size) : Calls Tryd.prog 104 #[.pointer (some ⟨b, 0, none⟩), .int .u8 (c.toNat : Int)] w fun e w' => e = .returned .nilIface ∧ Bld B b (l ++ [c]) w' ∧ Below B w w' := by
  refine (Any.Builder_WriteByte_k Tryd.laysB167 Tryd.laysB_Extra B b (Lib.byteCells l) (c.toNat : Int) w h (by simpa [Lib.byteCells] using hl) hB).mono ?_
  rintro e w' ⟨rfl, h1, h2, _⟩
  refine ⟨rfl, .inr ?_, h2⟩
  have : Lib.byteCells (l ++ [c]) = Lib.byteCells l ++ [.int .u8 (c.toNat : Int)] := by simp [Lib.byteCells]
  rw [this]
  exact h1
theorem bld_text (B b : Nat) (l : List UInt8) (s : ByteArray) (w : World) (h : Bld B b l w) (hl : l.length + s.size ≤ 140737488355328) (hB : B ≤ w.heap.size) : Calls Tryd.prog 64 #[.pointer (some ⟨b, 0, none⟩), .string s] w fun e w' => e = .returned (.tuple #[.int .i64 s.size, .nilIface]) ∧ Bld B b (l ++ s.data.toList) w' ∧ Below B w w' := by
  refine (Any.Builder_WriteString_f Tryd.laysB166 Tryd.laysB_Extra B b (Lib.byteCells l) s w h (by simpa [Lib.byteCells] using hl) hB).mono ?_
  rintro e w' ⟨rfl, h1, h2⟩
  refine ⟨rfl, .inr ?_, h2⟩
  have : Lib.byteCells (l ++ s.data.toList) = Lib.byteCells l ++ Lib.strCells s := by simp [Lib.byteCells, Lib.strCells]
  rw [this]
  exact h1
end Go.Proofs.YtokpjgpdkmimgaaDoor

/-
  press.Unpack: bytes of which some stand for what stood there. Conditions: none.
-/
namespace Go.Proofs.YtokpjgpdkmimgaaDoor
set_option linter.unusedSimpArgs false
set_option linter.unusedVariables false
open Go.RowKit

theorem copyB_succ (d k : Nat) (out : List UInt8) : copyB d (k + 1) out = copyB d k out ++ [(copyB d k out).getD ((copyB d k out).length - d) 0] := by
  induction k generalizing out with
  | zero => rfl
  | succ k ih => rw [copyB, ih]; rfl
theorem dropB_at (s : ByteArray) (i : Nat) (h : i < s.size) : (lst s).drop i = s[i] :: (lst s).drop (i + 1) := by
  rw [List.drop_eq_getElem_cons (by rw [length_lst]; exact h)]; rfl
theorem unp_end (s : ByteArray) (i : Nat) (out : List UInt8) (h : ¬ i < s.size) : unpackF ((lst s).drop i) out = (bs out, 0) := by
  rw [List.drop_of_length_le (by rw [length_lst]; omega), unpackF_nil]
theorem unp_short {s : ByteArray} {i : Nat} {out : List UInt8} (h : i < s.size) (hc : s[i].toNat < 128) (h2 : s.size < i + 2 + s[i].toNat) : unpackF ((lst s).drop i) out = (.empty, 5) := by
  rw [dropB_at s i h, unpackF_plain _ _ hc, if_pos (by rw [List.length_drop, length_lst]; omega)]
theorem take_drop (s : ByteArray) (i n : Nat) : ((lst s).drop i).take n = lst (s.extract i (i + n)) := by
  rw [lst_ext]; unfold sub_; rw [List.take_drop]
theorem unp_long {s : ByteArray} {i : Nat} {out : List UInt8} (h : i < s.size) (hc : s[i].toNat < 128) (h2 : ¬ s.size < i + 2 + s[i].toNat) (h3 : 600 < (out ++ lst (s.extract (i + 1) (i + 2 + s[i].toNat))).length) : unpackF ((lst s).drop i) out = (.empty, 1) := by
  rw [dropB_at s i h, unpackF_plain _ _ hc, if_neg (by rw [List.length_drop, length_lst]; omega), take_drop, show i + 1 + (s[i].toNat + 1) = i + 2 + s[i].toNat by omega, if_pos h3]
theorem unp_more {s : ByteArray} {i : Nat} {out : List UInt8} (h : i < s.size) (hc : s[i].toNat < 128) (h2 : ¬ s.size < i + 2 + s[i].toNat) (h3 : ¬ 600 < (out ++ lst (s.extract (i + 1) (i + 2 + s[i].toNat))).length) : unpackF ((lst s).drop i) out = unpackF ((lst s).drop (i + 2 + s[i].toNat)) (out ++ lst (s.extract (i + 1) (i + 2 + s[i].toNat))) := by
  rw [dropB_at s i h, unpackF_plain _ _ hc, if_neg (by rw [List.length_drop, length_lst]; omega), take_drop, show i + 1 + (s[i].toNat + 1) = i + 2 + s[i].toNat by omega, if_neg h3, List.drop_drop, show i + 1 + (s[i].toNat + 1) = i + 2 + s[i].toNat by omega]
theorem unp_pshort {s : ByteArray} {i : Nat} {out : List UInt8} (h : i < s.size) (hc : ¬ s[i].toNat < 128) (h2 : s.size < i + 2) : unpackF ((lst s).drop i) out = (.empty, 5) := by
  rw [dropB_at s i h, List.drop_of_length_le (i := i + 1) (by rw [length_lst]; omega), unpackF_end _ hc]
theorem unp_form {s : ByteArray} {i : Nat} {out : List UInt8} (h : i < s.size) (hc : ¬ s[i].toNat < 128) (h2 : i + 1 < s.size) (h3 : s[i + 1].toNat = 0 ∨ out.length < s[i + 1].toNat) : unpackF ((lst s).drop i) out = (.empty, 4) := by
  rw [dropB_at s i h, dropB_at s (i + 1) h2, unpackF_piece _ _ hc, if_pos h3]
theorem unp_plong {s : ByteArray} {i : Nat} {out : List UInt8} (h : i < s.size) (hc : ¬ s[i].toNat < 128) (h2 : i + 1 < s.size) (h3 : ¬ (s[i + 1].toNat = 0 ∨ out.length < s[i + 1].toNat)) (h4 : 600 < (copyB s[i + 1].toNat (s[i].toNat - 124) out).length) : unpackF ((lst s).drop i) out = (.empty, 1) := by
  rw [dropB_at s i h, dropB_at s (i + 1) h2, unpackF_piece _ _ hc, if_neg h3, if_pos h4]
theorem unp_pmore {s : ByteArray} {i : Nat} {out : List UInt8} (h : i < s.size) (hc : ¬ s[i].toNat < 128) (h2 : i + 1 < s.size) (h3 : ¬ (s[i + 1].toNat = 0 ∨ out.length < s[i + 1].toNat)) (h4 : ¬ 600 < (copyB s[i + 1].toNat (s[i].toNat - 124) out).length) : unpackF ((lst s).drop i) out = unpackF ((lst s).drop (i + 2)) (copyB s[i + 1].toNat (s[i].toNat - 124) out) := by
  rw [dropB_at s i h, dropB_at s (i + 1) h2, unpackF_piece _ _ hc, if_neg h3, if_neg h4]
theorem unp_plong' {s : ByteArray} {i c d : Nat} {out : List UInt8} (h : i < s.size) (hc : c = s[i].toNat) (h1 : ¬ c < 128) (h2 : i + 1 < s.size) (hd : d = s[i + 1].toNat) (h3 : ¬ (d = 0 ∨ out.length < d)) (h4 : 600 < (copyB d (c - 124) out).length) : unpackF ((lst s).drop i) out = (.empty, 1) := by
  subst hc hd; exact unp_plong h h1 h2 h3 h4
theorem unp_pmore' {s : ByteArray} {i c d : Nat} {out : List UInt8} (h : i < s.size) (hc : c = s[i].toNat) (h1 : ¬ c < 128) (h2 : i + 1 < s.size) (hd : d = s[i + 1].toNat) (h3 : ¬ (d = 0 ∨ out.length < d)) (h4 : ¬ 600 < (copyB d (c - 124) out).length) : unpackF ((lst s).drop i) out = unpackF ((lst s).drop (i + 2)) (copyB d (c - 124) out) := by
  subst hc hd; exact unp_pmore h h1 h2 h3 h4
theorem Bld.init (w : World) : Bld w.heap.size w.heap.size [] (w.alloc (.cells #[.pointer none, .slice none 0 0] 101)) :=
  .inl ⟨Nat.le_refl _, .slice none 0 0, heap_alloc_new w _, ⟨rfl, .inl ⟨rfl, rfl⟩⟩, by simp [Value.ownBlock]⟩
set_option maxRecDepth 100000 in
set_option maxHeartbeats 8000000 in
theorem unpack_any (s : ByteArray) (w : World) (hs : s.size ≤ 140737488355328) :
    Calls Tryd.prog 69 #[.string s] w fun e w' => e = .returned (.tuple #[.string (unpackS s).1, .int .i64 (unpackS s).2]) ∧ Ext w w' := by
  obtain ⟨R, hR⟩ : ∃ R, R = unpackS s := ⟨_, rfl⟩
  rw [← hR]
  have HR := Lib.hid (show unpackF ((lst s).drop 0) [] = R by rw [hR]; rfl)
  have hsI : (s.size : Int) ≤ 140737488355328 := by omega
  clear hR
  go_enter Tryd.func69, Tryd.ntmps69
  go_wp2_with fail
  refine wp_abs (fun W => Ext w W ∧ Bld w.heap.size w.heap.size [] W) ⟨(Ext.refl w).alloc _, Bld.init w⟩ ?_
  rintro W ⟨hW, hB⟩
  have HW := Lib.hid (And.intro hW hB)
  clear hW hB
  revert HW
  obtain ⟨b, hb⟩ : ∃ b, b = w.heap.size := ⟨_, rfl⟩
  rw [← hb]
  intro HW
  have HBB := Lib.hid hb
  clear hb
  go_loopw [5] (fun iv wr => ∃ (out : List UInt8) (i : Nat), iv = .int .i64 i ∧ Ext w wr ∧ Bld b b out wr ∧ i ≤ s.size ∧ out.length ≤ 600 ∧ unpackF ((lst s).drop i) out = R) (fun iv _ => s.size - (intOf iv).toNat)
  case atStart => exact ⟨[], 0, rfl, HW.out.1, HW.out.2, Nat.zero_le _, by simp, HR.out⟩
  case round =>
    clear HW HR
    obtain ⟨out, i, rfl, hx, hbl, his, hol, heq⟩ := hrel
    have HBL := Lib.hid hbl
    have HEQ := Lib.hid heq
    have HX := Lib.hid hx
    have hol2 : (out.length : Int) ≤ 600 := by omega
    have HSZ := Lib.hid (show b ≤ wr.heap.size by rw [HBB.out]; exact hx.size)
    clear hbl heq hx
    by_cases hi : i < s.size
    · have hiI : (i : Int) < (s.size : Int) := by omega
      have hitn : ((i : Int)).toNat = i := by omega
      obtain ⟨c, hc⟩ : ∃ c, c = s[i].toNat := ⟨_, rfl⟩
      have hc255 : c < 256 := by rw [hc]; exact UInt8.toNat_lt _
      have hcI : ((s[i].toNat : Nat) : Int) = (c : Int) := by rw [hc]
      have HC := Lib.hid hc
      have HI := Lib.hid hi
      have cz1 : (0 : Int) ≤ (c : Int) := by omega
      have cz2 : (c : Int) ≤ 255 := by omega
      clear hc
      by_cases h128 : c < 128
      · have H128 := Lib.hid h128
        have t1 : decide ((c : Int) < 128) = true := by simp; omega
        by_cases hsh : s.size < i + 2 + c
        · have HR := Lib.hid (show ((.empty, 5) : ByteArray × Int) = R by rw [← HEQ.out]; exact (unp_short hi (by rw [← HC.out]; exact H128.out) (by rw [← HC.out]; exact hsh)).symm)
          have t2 : decide ((s.size : Int) < (i : Int) + 2 + (c : Int)) = true := by simp; omega
          have t2' : (s.size : Int) < (i : Int) + 2 + (c : Int) := by omega
          clear hsh h128
          go_wp2_with fail
          go_ret2
          rw [← HR.out]
          exact ⟨rfl, HX.out⟩
        · have t2' : ¬ (s.size : Int) < (i : Int) + 2 + (c : Int) := by omega
          have t3 : (i : Int) + 2 + (c : Int) ≤ (s.size : Int) := by omega
          have HSH := Lib.hid hsh
          have x1 : ((i : Int) + 1).toNat = i + 1 := by omega
          have x2 : ((i : Int) + 2 + (c : Int)).toNat = i + 2 + c := by omega
          have x3 : (i : Int) + 1 ≤ (i : Int) + 2 + (c : Int) := by omega
          have x4 : (0 : Int) ≤ (i : Int) + 2 + (c : Int) := by omega
          have x5 : (0 : Int) ≤ (i : Int) + 1 := by omega
          have HOL := Lib.hid hol
          obtain ⟨q, hq⟩ : ∃ q, q = s.extract (i + 1) (i + 2 + c) := ⟨_, rfl⟩
          have HQS := Lib.hid (show q.size = c + 1 by rw [hq, ByteArray.size_extract]; omega)
          have HQ := Lib.hid hq
          clear hsh h128 hq hol
          go_wp2_with fail
          rw [← HQ.out]
          refine (bld_text b b out q _ HBL.out (by have := HQS.out; have := HOL.out; omega) HSZ.out).mono ?_
          rintro e w1 ⟨rfl, hb1, hB1⟩
          have HX1 := Lib.hid (show Ext w w1 from Below.trans HX.out (by rw [← HBB.out]; exact hB1))
          have HB1 := Lib.hid hb1
          have HSZ1 := Lib.hid (show b ≤ w1.heap.size from Nat.le_trans HSZ.out hB1.size)
          clear hb1 hB1
          go_wp2_with fail
          refine (bld_len b b (out ++ q.data.toList) _ HB1.out).mono ?_
          rintro e w2 ⟨rfl, rfl⟩
          have HL := Lib.hid (show (out ++ q.data.toList).length = out.length + (c + 1) by rw [List.length_append, ← HQS.out]; congr 1)
          rw [HL.out]
          by_cases hlong : 600 < out.length + (c + 1)
          · have t4 : (600 : Int) < (out.length : Int) + ((c : Int) + 1) := by omega
            have HR := Lib.hid (show ((.empty, 1) : ByteArray × Int) = R by rw [← HEQ.out]; exact (unp_long hi (by rw [← HC.out]; exact H128.out) (by rw [← HC.out]; exact HSH.out) (by rw [← HC.out, ← HQ.out]; show 600 < (out ++ q.data.toList).length; rw [HL.out]; exact hlong)).symm)
            clear HL
            go_wp2_with fail
            go_ret2
            rw [← HR.out]
            exact ⟨rfl, HX1.out⟩
          · have t4 : ¬ (600 : Int) < (out.length : Int) + ((c : Int) + 1) := by omega
            have HR := Lib.hid (show unpackF ((lst s).drop (i + 2 + c)) (out ++ q.data.toList) = R by
              rw [← HEQ.out, unp_more hi (by rw [← HC.out]; exact H128.out) (by rw [← HC.out]; exact HSH.out) (by rw [← HC.out, ← HQ.out]; show ¬ 600 < (out ++ q.data.toList).length; rw [HL.out]; exact hlong), ← HC.out, ← HQ.out]; rfl)
            have HLEN := Lib.hid (show (out ++ q.data.toList).length ≤ 600 by rw [HL.out]; omega)
            clear HL
            go_wp2_with fail
            go_roundw
            case rel => exact ⟨out ++ q.data.toList, i + 2 + c, by first | rfl | go_num, HX1.out, HB1.out, by have := HSH.out; omega, HLEN.out, HR.out⟩
            case measure => (simp [intOf]; try omega)
      · have H128 := Lib.hid h128
        have t1 : decide ((c : Int) < 128) = false := by simp; omega
        by_cases hsh : s.size < i + 2
        · have HR := Lib.hid (show ((.empty, 5) : ByteArray × Int) = R by rw [← HEQ.out]; exact (unp_pshort hi (by rw [← HC.out]; exact H128.out) hsh).symm)
          have t2' : (s.size : Int) < (i : Int) + 2 := by omega
          clear hsh h128
          go_wp2_with fail
          go_ret2
          rw [← HR.out]
          exact ⟨rfl, HX.out⟩
        · have t2' : ¬ (s.size : Int) < (i : Int) + 2 := by omega
          have hi2 : i + 1 < s.size := by omega
          have hi2I : (i : Int) + 1 < (s.size : Int) := by omega
          have x1 : ((i : Int) + 1).toNat = i + 1 := by omega
          have x5 : (0 : Int) ≤ (i : Int) + 1 := by omega
          obtain ⟨d, hd⟩ : ∃ d, d = s[i + 1].toNat := ⟨_, rfl⟩
          have hd255 : d < 256 := by rw [hd]; exact UInt8.toNat_lt _
          have hdI : ((s[i + 1].toNat : Nat) : Int) = (d : Int) := by rw [hd]
          have HD := Lib.hid hd
          have HOL := Lib.hid hol
          have HI2 := Lib.hid hi2
          clear hd hsh h128
          by_cases h0 : d = 0
          · have HR := Lib.hid (show ((.empty, 4) : ByteArray × Int) = R by rw [← HEQ.out]; exact (unp_form hi (by rw [← HC.out]; exact H128.out) hi2 (.inl (by rw [← HD.out]; exact h0))).symm)
            subst h0
            have hd0 : ((s[i + 1].toNat : Nat) : Int) = 0 := hdI
            clear hdI
            go_wp2_with fail
            go_ret2
            rw [← HR.out]
            exact ⟨rfl, HX.out⟩
          · have h0b : ((d : Int) == 0) = false := beq_false_of_ne (by omega)
            have H0 := Lib.hid h0
            clear h0
            by_cases hdl : out.length < d
            · have HR := Lib.hid (show ((.empty, 4) : ByteArray × Int) = R by rw [← HEQ.out]; exact (unp_form hi (by rw [← HC.out]; exact H128.out) hi2 (.inr (by rw [← HD.out]; exact hdl))).symm)
              go_wp2_with fail
              refine (bld_len b b out _ HBL.out).mono ?_
              rintro e w2 ⟨rfl, rfl⟩
              go_wp2_with fail
              go_ret2
              rw [← HR.out]
              exact ⟨rfl, HX.out⟩
            · have HDL := Lib.hid hdl
              go_wp2_with fail
              refine (bld_len b b out _ HBL.out).mono ?_
              rintro e w2 ⟨rfl, rfl⟩
              have y1 : IntKind.i64.wrap ((c : Int) - 128) = (c : Int) - 128 := by rw [IntKind.wrap_i64]; omega
              obtain ⟨m, hm⟩ : ∃ m : Nat, m = c - 124 := ⟨_, rfl⟩
              have y2 : IntKind.i64.wrap ((c : Int) - 128 + 4) = (m : Int) := by rw [IntKind.wrap_i64]; have := H128.out; omega
              have y2' : (c : Int) - 128 + 4 = (m : Int) := by have := H128.out; omega
              have hm131 : (m : Int) ≤ 131 := by omega
              have HM := Lib.hid hm
              clear hm hdl hol hiI hi2I
              go_wp2_with fail
              rw [decide_eq_false HDL.out]
              go_loopw [58] (fun kv wq => ∃ k : Nat, kv = .int .i64 k ∧ k ≤ m ∧ Below b w2 wq ∧ Bld b b (copyB d k out) wq) (fun kv _ => m - (intOf kv).toNat)
              case atStart => exact ⟨0, rfl, Nat.zero_le _, Below.refl _ _, HBL.out⟩
              case round =>
                obtain ⟨k, rfl, hkm, hBq, hblq⟩ := hrel
                obtain ⟨o, ho⟩ : ∃ o, o = copyB d k out := ⟨_, rfl⟩
                have hoL : o.length = out.length + k := by rw [ho]; exact length_copyB d k out
                have HNX := Lib.hid (show copyB d (k + 1) out = o ++ [o.getD (o.length - d) 0] by rw [ho]; exact copyB_succ d k out)
                rw [← ho] at hblq
                have HBQ := Lib.hid (And.intro hBq hblq)
                have HSQ := Lib.hid (show b ≤ wr.heap.size from Nat.le_trans HSZ.out hBq.size)
                have HO := Lib.hid ho
                clear ho hBq hblq
                by_cases hkl : k < m
                · have hkI : (k : Int) < (m : Int) := by omega
                  have hkt : decide ((k : Int) < (m : Int)) = true := by simp; omega
                  go_wp2_with fail
                  refine (bld_string b b o _ HBQ.out.2 HSQ.out).mono ?_
                  rintro e w3 ⟨rfl, hb3, hB3⟩
                  go_wp2_with fail
                  refine (bld_len b b o _ hb3).mono ?_
                  rintro e w4 ⟨rfl, rfl⟩
                  have hdo : d ≤ o.length := by have := HDL.out; omega
                  have hd1 : 0 < d := by have := H0.out; omega
                  have z1 : IntKind.i64.wrap ((o.length : Int) - (d : Int)) = ((o.length - d : Nat) : Int) := by rw [IntKind.wrap_i64]; have := HOL.out; omega
                  have z1' : (o.length : Int) - (d : Int) = ((o.length - d : Nat) : Int) := by omega
                  obtain ⟨j, hj⟩ : ∃ j : Nat, j = o.length - d := ⟨_, rfl⟩
                  rw [← hj] at z1 z1'
                  have hjl : j < o.length := by omega
                  have hjs : j < (⟨o.toArray⟩ : ByteArray).size := by show j < o.toArray.size; simpa using hjl
                  obtain ⟨S, hS⟩ : ∃ S, S = (⟨o.toArray⟩ : ByteArray) := ⟨_, rfl⟩
                  rw [← hS] at hjs ⊢
                  have hjI : (j : Int) < (S.size : Int) := by omega
                  have hj8 : (j : Int) ≤ 800 := by have := HOL.out; omega
                  have HG := Lib.hid (show S[j] = o.getD (o.length - d) 0 by
                    subst hS
                    rw [← hj, List.getD_eq_getElem?_getD, List.getElem?_eq_getElem hjl]
                    show o.toArray[j]'_ = _
                    simp)
                  have HB4 := Lib.hid (And.intro hb3 (HBQ.out.1.trans hB3))
                  have HOB := Lib.hid (show o.length ≤ 800 ∧ b ≤ w4.heap.size from ⟨by have := HOL.out; omega, Nat.le_trans HSQ.out hB3.size⟩)
                  clear hS hj hb3 hB3 hdo hd1 hoL hjl
                  go_wp2_with fail
                  refine (bld_byte b b o (S[j]) _ HB4.out.1 (by have := HOB.out.1; omega) HOB.out.2).mono ?_
                  rintro e w5 ⟨rfl, hb5, hB5⟩
                  go_wp2_with fail
                  go_roundw
                  case rel => exact ⟨k + 1, by first | rfl | go_num, by omega, HB4.out.2.trans hB5, by rw [HNX.out, ← HG.out]; exact hb5⟩
                  case measure => (simp [intOf]; try omega)
                · obtain rfl : k = m := by omega
                  go_wp2_with fail
                  refine (bld_len b b o _ HBQ.out.2).mono ?_
                  rintro e w4 ⟨rfl, rfl⟩
                  have HX4 := Lib.hid (show Ext w w4 from Below.trans HX.out (by rw [← HBB.out]; exact HBQ.out.1))
                  have HO2 := Lib.hid (show o = copyB d (c - 124) out by rw [HO.out, HM.out])
                  have HN := Lib.hid (show ¬ (d = 0 ∨ out.length < d) by have := H0.out; have := HDL.out; omega)
                  by_cases hlong : 600 < o.length
                  · have HR := Lib.hid (show ((.empty, 1) : ByteArray × Int) = R by rw [← HEQ.out]; exact (unp_plong' HI.out HC.out H128.out HI2.out HD.out HN.out (by rw [← HO2.out]; exact hlong)).symm)
                    clear hoL
                    go_wp2_with fail
                    go_ret2
                    rw [← HR.out]
                    exact ⟨rfl, HX4.out⟩
                  · have HR := Lib.hid (show unpackF ((lst s).drop (i + 2)) o = R by rw [← HEQ.out, unp_pmore' HI.out HC.out H128.out HI2.out HD.out HN.out (by rw [← HO2.out]; exact hlong), ← HO2.out])
                    clear hoL
                    go_wp2_with fail
                    go_roundw
                    case rel => exact ⟨o, i + 2, by first | rfl | go_num, HX4.out, HBQ.out.2, by have := HI2.out; omega, by omega, HR.out⟩
                    case measure => have := HI2.out; (simp [intOf]; try omega)
    · have HR := Lib.hid (show (bs out, (0 : Int)) = R by rw [← HEQ.out, unp_end s i out hi])
      go_wp2_with fail
      refine (bld_string b b out _ HBL.out HSZ.out).mono ?_
      rintro e w2 ⟨rfl, hb2, hB2⟩
      go_wp2_with fail
      go_ret2
      rw [← HR.out]
      exact ⟨rfl, Below.trans HX.out (by rw [← HBB.out]; exact hB2)⟩
end Go.Proofs.YtokpjgpdkmimgaaDoor

/-
  The document's unpacking, and the law: press.Unpack answers as it does. Conditions: none.
-/
namespace Go.Proofs.YtokpjgpdkmimgaaDoor
set_option linter.unusedSimpArgs false
set_option linter.unusedVariables false
open Go.RowKit

set_option maxRecDepth 100000 in
set_option maxHeartbeats 8000000 in
theorem unpackedOf_any (s : ByteArray) (w : World) (hs : s.size ≤ 140737488355328) :
    Calls Tryd.prog 71 #[.string s] w fun e w' => e = .returned (.tuple #[.string (unpackS s).1, .int .i64 (unpackS s).2]) ∧ Ext w w' := by
  obtain ⟨R, hR⟩ : ∃ R, R = unpackS s := ⟨_, rfl⟩
  rw [← hR]
  have HR := Lib.hid (show unpackF ((lst s).drop 0) [] = R by rw [hR]; rfl)
  have hsI : (s.size : Int) ≤ 140737488355328 := by omega
  obtain ⟨i0, hi0, hz0, hz1, hz2⟩ := info_parts info_byte
  have HI0 := Lib.hid (And.intro hi0 (And.intro hz0 (And.intro hz1 hz2)))
  clear hR hi0 hz0 hz1 hz2
  go_enter Tryd.func71, Tryd.ntmps71
  go_wp2_with fail
  go_loopw [4, 5] (fun ov iv wr => ∃ (out : List UInt8) (i : Nat) (A : Option Addr) (cp : Nat), ov = .slice A out.length cp ∧ iv = .int .i64 i ∧ Ext w wr ∧ wr.ownsRow w.heap.size 5 1 (.slice A out.length cp) out.length (cells out) ∧ i ≤ s.size ∧ out.length ≤ 600 ∧ unpackF ((lst s).drop i) out = R) (fun ov iv _ => s.size - (intOf iv).toNat)
  case atStart => exact ⟨[], 0, none, 0, rfl, rfl, Ext.refl _, World.ownsRow_nil _ _ _ _, Nat.zero_le _, by simp, HR.out⟩
  case round =>
    clear HR
    obtain ⟨out, i, A, cp, rfl, rfl, hx, hown, his, hol, heq⟩ := hrel
    have HO := Lib.hid hown
    have HEQ := Lib.hid heq
    have HX := Lib.hid hx
    have hol2 : (out.length : Int) ≤ 600 := by omega
    have HSZ := Lib.hid (show w.heap.size ≤ wr.heap.size from hx.size)
    clear hown heq hx
    by_cases hi : i < s.size
    · have hiI : (i : Int) < (s.size : Int) := by omega
      have hitn : ((i : Int)).toNat = i := by omega
      obtain ⟨c, hc⟩ : ∃ c, c = s[i].toNat := ⟨_, rfl⟩
      have hc255 : c < 256 := by rw [hc]; exact UInt8.toNat_lt _
      have hcI : ((s[i].toNat : Nat) : Int) = (c : Int) := by rw [hc]
      have HC := Lib.hid hc
      have HI := Lib.hid hi
      have cz1 : (0 : Int) ≤ (c : Int) := by omega
      have cz2 : (c : Int) ≤ 255 := by omega
      clear hc
      by_cases h128 : c < 128
      · have H128 := Lib.hid h128
        have t1 : decide ((c : Int) < 128) = true := by simp; omega
        by_cases hsh : s.size < i + 2 + c
        · have HR := Lib.hid (show ((.empty, 5) : ByteArray × Int) = R by rw [← HEQ.out]; exact (unp_short hi (by rw [← HC.out]; exact H128.out) (by rw [← HC.out]; exact hsh)).symm)
          have t2 : decide ((s.size : Int) < (i : Int) + 2 + (c : Int)) = true := by simp; omega
          have t2' : (s.size : Int) < (i : Int) + 2 + (c : Int) := by omega
          clear hsh h128
          go_wp2_with fail
          go_ret2
          rw [← HR.out]
          exact ⟨rfl, HX.out⟩
        · have t2' : ¬ (s.size : Int) < (i : Int) + 2 + (c : Int) := by omega
          have t3 : (i : Int) + 2 + (c : Int) ≤ (s.size : Int) := by omega
          have HSH := Lib.hid hsh
          have x1 : ((i : Int) + 1).toNat = i + 1 := by omega
          have x2 : ((i : Int) + 2 + (c : Int)).toNat = i + 2 + c := by omega
          have x3 : (i : Int) + 1 ≤ (i : Int) + 2 + (c : Int) := by omega
          have x4 : (0 : Int) ≤ (i : Int) + 2 + (c : Int) := by omega
          have x5 : (0 : Int) ≤ (i : Int) + 1 := by omega
          have HOL := Lib.hid hol
          obtain ⟨q, hq⟩ : ∃ q, q = s.extract (i + 1) (i + 2 + c) := ⟨_, rfl⟩
          have HQS := Lib.hid (show q.size = c + 1 by rw [hq, ByteArray.size_extract]; omega)
          have HQ := Lib.hid hq
          clear hsh h128 hq hol
          go_wp2_with (at_builtin; refine Lib.wpList_append_own_string _ rfl (.tmp 26) (.tmp 34) 34 9 rfl w.heap.size 5 i0 Tryd.underlying34 Tryd.underlying9 HI0.out.1 HI0.out.2.1 HI0.out.2.2.1 HI0.out.2.2.2 _ _ _ rfl HO.out q (by rw [HQ.out]; rfl) ?c1 ?c2 HSZ.out ?_)
          case c1 => have := HQS.out; have := HOL.out; unfold maxLen; omega
          case c2 => have := HQS.out; have := HOL.out; omega
          intro B' w1 own1 hg1 _
          obtain ⟨A1, cp1, rfl⟩ := own_slice own1
          obtain ⟨o1, ho1⟩ : ∃ o1, o1 = out ++ lst q := ⟨_, rfl⟩
          have hl1 : out.length + q.size = o1.length := by rw [ho1, List.length_append, length_lst]
          have HL := Lib.hid (show o1.length = out.length + (c + 1) by rw [← hl1, HQS.out])
          have HX1 := Lib.hid (show Ext w w1 from HX.out.grown hg1 (fun k hk => (HO.out.lt k hk).1))
          rw [hl1, strCells_eq q, ← cells_append, ← ho1] at own1
          rw [hl1]
          have HO1 := Lib.hid own1
          have HO1E := Lib.hid ho1
          clear own1 hg1 ho1 hl1
          have z0 : (o1.length : Int) ≤ 1000 := by have := HL.out; omega
          by_cases hlong : 600 < o1.length
          · have HR := Lib.hid (show ((.empty, 1) : ByteArray × Int) = R by rw [← HEQ.out]; exact (unp_long hi (by rw [← HC.out]; exact H128.out) (by rw [← HC.out]; exact HSH.out) (by rw [← HC.out, ← HQ.out, ← HO1E.out]; exact hlong)).symm)
            have t4 : (600 : Int) < (o1.length : Int) := by omega
            clear HL
            go_wp2_with fail
            go_ret2
            rw [← HR.out]
            exact ⟨rfl, HX1.out⟩
          · have HR := Lib.hid (show unpackF ((lst s).drop (i + 2 + c)) o1 = R by
              rw [← HEQ.out, unp_more hi (by rw [← HC.out]; exact H128.out) (by rw [← HC.out]; exact HSH.out) (by rw [← HC.out, ← HQ.out, ← HO1E.out]; exact hlong), ← HC.out, ← HQ.out, ← HO1E.out])
            have t4 : ¬ (600 : Int) < (o1.length : Int) := by omega
            clear HL
            go_wp2_with fail
            go_roundw
            case rel => exact ⟨o1, i + 2 + c, A1, cp1, rfl, by first | rfl | go_num, HX1.out, HO1.out, by have := HSH.out; omega, by omega, HR.out⟩
            case measure => (simp [intOf]; try omega)
      · have H128 := Lib.hid h128
        have t1 : decide ((c : Int) < 128) = false := by simp; omega
        by_cases hsh : s.size < i + 2
        · have HR := Lib.hid (show ((.empty, 5) : ByteArray × Int) = R by rw [← HEQ.out]; exact (unp_pshort hi (by rw [← HC.out]; exact H128.out) hsh).symm)
          have t2' : (s.size : Int) < (i : Int) + 2 := by omega
          clear hsh h128
          go_wp2_with fail
          go_ret2
          rw [← HR.out]
          exact ⟨rfl, HX.out⟩
        · have t2' : ¬ (s.size : Int) < (i : Int) + 2 := by omega
          have hi2 : i + 1 < s.size := by omega
          have hi2I : (i : Int) + 1 < (s.size : Int) := by omega
          have x1 : ((i : Int) + 1).toNat = i + 1 := by omega
          have x5 : (0 : Int) ≤ (i : Int) + 1 := by omega
          obtain ⟨d, hd⟩ : ∃ d, d = s[i + 1].toNat := ⟨_, rfl⟩
          have hd255 : d < 256 := by rw [hd]; exact UInt8.toNat_lt _
          have hdI : ((s[i + 1].toNat : Nat) : Int) = (d : Int) := by rw [hd]
          have HD := Lib.hid hd
          have HOL := Lib.hid hol
          have HI2 := Lib.hid hi2
          clear hd hsh h128
          by_cases h0 : d = 0
          · have HR := Lib.hid (show ((.empty, 4) : ByteArray × Int) = R by rw [← HEQ.out]; exact (unp_form hi (by rw [← HC.out]; exact H128.out) hi2 (.inl (by rw [← HD.out]; exact h0))).symm)
            subst h0
            have hd0 : ((s[i + 1].toNat : Nat) : Int) = 0 := hdI
            clear hdI
            go_wp2_with fail
            go_ret2
            rw [← HR.out]
            exact ⟨rfl, HX.out⟩
          · have h0b : ((d : Int) == 0) = false := beq_false_of_ne (by omega)
            have H0 := Lib.hid h0
            clear h0
            by_cases hdl : out.length < d
            · have HR := Lib.hid (show ((.empty, 4) : ByteArray × Int) = R by rw [← HEQ.out]; exact (unp_form hi (by rw [← HC.out]; exact H128.out) hi2 (.inr (by rw [← HD.out]; exact hdl))).symm)
              go_wp2_with fail
              go_ret2
              rw [← HR.out]
              exact ⟨rfl, HX.out⟩
            · have HDL := Lib.hid hdl
              have y1 : IntKind.i64.wrap ((c : Int) - 124) = (c : Int) - 124 := by rw [IntKind.wrap_i64]; omega
              obtain ⟨m, hm⟩ : ∃ m : Nat, m = c - 124 := ⟨_, rfl⟩
              have y2' : (c : Int) - 124 = (m : Int) := by have := H128.out; omega
              have hm131 : (m : Int) ≤ 131 := by omega
              have HM := Lib.hid hm
              clear hm hdl hol hiI hi2I
              go_wp2_with fail
              try rw [decide_eq_false HDL.out]
              go_loopw [4, 8] (fun ov kv wq => ∃ (k : Nat) (o : List UInt8) (A : Option Addr) (cp : Nat), ov = .slice A o.length cp ∧ kv = .int .i64 k ∧ k ≤ m ∧ Ext w wq ∧ o = copyB d k out ∧ wq.ownsRow w.heap.size 5 1 (.slice A o.length cp) o.length (cells o)) (fun ov kv _ => m - (intOf kv).toNat)
              case atStart => exact ⟨0, out, A, cp, rfl, rfl, Nat.zero_le _, HX.out, rfl, HO.out⟩
              case round =>
                clear HO HX HSZ
                obtain ⟨k, o, A, cp, rfl, rfl, hkm, hXq, ho, hoq⟩ := hrel
                have hoL : o.length = out.length + k := by rw [ho]; exact length_copyB d k out
                have HNX := Lib.hid (show copyB d (k + 1) out = o ++ [o.getD (o.length - d) 0] by rw [ho]; exact copyB_succ d k out)
                have HBQ := Lib.hid (And.intro hXq hoq)
                have HO := Lib.hid ho
                clear ho
                by_cases hkl : k < m
                · have hkI : (k : Int) < (m : Int) := by omega
                  have hkt : decide ((k : Int) < (m : Int)) = true := by simp; omega
                  have hdo : d ≤ o.length := by have := HDL.out; omega
                  have hd1 : 0 < d := by have := H0.out; omega
                  have hoq' := hoq
                  rw [cells_flat] at hoq'
                  obtain ⟨g, rfl, hg1, hbf, hln⟩ := own_buf hoq' (by omega)
                  obtain ⟨j, hj⟩ : ∃ j : Nat, j = o.length - d := ⟨_, rfl⟩
                  have hjl : j < o.length := by omega
                  have r0 := hbf.cell j hjl
                  obtain ⟨x, hxx⟩ : ∃ x, x = o.getD j 0 := ⟨_, rfl⟩
                  rw [← hxx] at r0
                  have z1 : IntKind.i64.wrap ((o.length : Int) - (d : Int)) = (j : Int) := by rw [IntKind.wrap_i64]; have := HOL.out; omega
                  have z1' : (o.length : Int) - (d : Int) = (j : Int) := by omega
                  have HNX2 := Lib.hid (show copyB d (k + 1) out = o ++ [x] by rw [HNX.out, hxx, hj])
                  have hj8 : (j : Int) ≤ 800 := by have := HOL.out; omega
                  have ho8 : (o.length : Int) ≤ 800 := by have := HOL.out; omega
                  have HO8 := Lib.hid (show o.length ≤ 800 by omega)
                  have HG1 := Lib.hid hg1
                  have hgl := hbf.lt
                  clear hoq hoq' hbf hln hg1 hj hxx hdo hd1 hoL hXq HNX HO
                  go_wp2_with (at_builtin; refine wpList_push (.tmp 64) (.tmp 72) 34 rfl rfl w.heap.size 5 i0 (.int .u8 0) 1 Tryd.underlying34 HI0.out.1 HI0.out.2.1 HI0.out.2.2.1 HI0.out.2.2.2 rfl _ _ _ rfl (own_ext HBQ.out.2 ((Ext.refl _).alloc _)) _ 1 (.int .u8 (x.toNat : Int)) rfl ?c1 rfl ?c2 ?c3 ?c4 ?_)
                  case c1 => exact (Blk_.new _ _ _).cell 0
                  case c2 => unfold maxLen; have := HO8.out; omega
                  case c3 => have := HO8.out; omega
                  case c4 => have := HBQ.out.1.size; rw [World.size_alloc]; omega
                  intro A5 cp5 w5 own5 hg5 _
                  have HX5 := Lib.hid (show Ext w w5 from (HBQ.out.1.trans ((Ext.refl _).alloc _)).grown hg5 (fun k hk => (HBQ.out.2.lt k hk).1))
                  have HO5 := Lib.hid (show w5.ownsRow w.heap.size 5 1 (.slice A5 (o ++ [x]).length cp5) (o ++ [x]).length (cells (o ++ [x])) by
                    rw [cells_append, List.length_append, List.length_singleton]; exact own5)
                  have hl5 : o.length + 1 = (o ++ [x]).length := by rw [List.length_append, List.length_singleton]
                  rw [hl5]
                  clear own5 hg5 r0 hl5
                  go_wp2_with fail
                  go_roundw
                  case rel => exact ⟨k + 1, o ++ [x], A5, cp5, rfl, by first | rfl | go_num, by omega, HX5.out, HNX2.out.symm, HO5.out⟩
                  case measure => (simp [intOf]; try omega)
                · obtain rfl : k = m := by omega
                  have ho8 : (o.length : Int) ≤ 800 := by have := HOL.out; omega
                  have HO2 := Lib.hid (show o = copyB d (c - 124) out by rw [HO.out, HM.out])
                  have HN := Lib.hid (show ¬ (d = 0 ∨ out.length < d) by have := H0.out; have := HDL.out; omega)
                  clear hoq hXq
                  by_cases hlong : 600 < o.length
                  · have HR := Lib.hid (show ((.empty, 1) : ByteArray × Int) = R by rw [← HEQ.out]; exact (unp_plong' HI.out HC.out H128.out HI2.out HD.out HN.out (by rw [← HO2.out]; exact hlong)).symm)
                    have t4 : (600 : Int) < (o.length : Int) := by omega
                    clear hoL
                    go_wp2_with fail
                    go_ret2
                    rw [← HR.out]
                    exact ⟨rfl, HBQ.out.1⟩
                  · have HR := Lib.hid (show unpackF ((lst s).drop (i + 2)) o = R by rw [← HEQ.out, unp_pmore' HI.out HC.out H128.out HI2.out HD.out HN.out (by rw [← HO2.out]; exact hlong), ← HO2.out])
                    have t4 : ¬ (600 : Int) < (o.length : Int) := by omega
                    clear hoL
                    go_wp2_with fail
                    go_roundw
                    case rel => exact ⟨o, i + 2, A, cp, rfl, by first | rfl | go_num, HBQ.out.1, HBQ.out.2, by have := HI2.out; omega, by omega, HR.out⟩
                    case measure => have := HI2.out; (simp [intOf]; try omega)
    · have HR := Lib.hid (show (bs out, (0 : Int)) = R by rw [← HEQ.out, unp_end s i out hi])
      by_cases h0 : out.length = 0
      · have hR0 : out = [] := List.eq_nil_of_length_eq_zero h0
        subst hR0
        have ho2 := HO.out
        rcases ho2.2 with ⟨hv, _⟩ | ⟨g, cap, cur, hv, hbg, hg, _⟩
        · injection hv with e1 e2 e3
          subst e1 e3
          clear ho2 HO h0
          go_wp2_with (refine wpList_fromnil (.tmp 79) 34 9 5 rfl rfl Tryd.underlying34 Tryd.underlying5 Tryd.underlying9 rfl ?_)
          go_wp2_with fail
          go_ret2
          exact ⟨by rw [← HR.out]; rfl, HX.out⟩
        · injection hv with e1 e2 e3
          subst e1 e3
          have HBF := Lib.hid (show Buf 5 wr g [] from ⟨cur, (0, 0), hg, fun i hi => by simp at hi, fun i hi => by simp at hi⟩)
          clear ho2 HO h0 hg
          go_wp2_with (refine wpList_frombytes (.tmp 79) 34 9 5 rfl rfl Tryd.underlying34 Tryd.underlying5 Tryd.underlying9 g _ _ _ HBF.out rfl rfl ?_)
          go_wp2_with fail
          go_ret2
          exact ⟨by rw [← HR.out]; rfl, HX.out⟩
      · have ho2 := HO.out
        rw [cells_flat] at ho2
        obtain ⟨g, rfl, hg1, hbf, hln⟩ := own_buf ho2 (by omega)
        have HBF := Lib.hid hbf
        clear ho2 hbf hln HO h0
        go_wp2_with (refine wpList_frombytes (.tmp 79) 34 9 5 rfl rfl Tryd.underlying34 Tryd.underlying5 Tryd.underlying9 g _ _ _ HBF.out rfl rfl ?_)
        go_wp2_with fail
        go_ret2
        exact ⟨by rw [← HR.out]; rfl, HX.out⟩
end Go.Proofs.YtokpjgpdkmimgaaDoor

/-
  strings.Compare in this seat: the library's contract, laid. Conditions: none.
-/
namespace Go.Proofs.YtokpjgpdkmimgaaDoor
open Go.Shelf
def Tryd.laysC_ren : Go.Shelf.Ren := ⟨fun | 106 => 103 | 213 => 124 | 265 => 137 | n => n, fun | 3 => 3 | 9 => 9 | n => n, fun | n => n⟩
theorem Tryd.laysC106 : Go.Proofs.Lays.n106 Tryd.prog Tryd.laysC_ren := {
  mixed := by kernel_rfl
  f106 := Tryd.func103.trans (congrArg some (by kernel_rfl))
  f213 := Tryd.func124.trans (congrArg some (by kernel_rfl))
  f265 := Tryd.func137.trans (congrArg some (by kernel_rfl))
  t3 := Tryd.underlying3
  a3 := Tryd.isAgg3
  z3 := Tryd.sizeOf3
  v3 := Tryd.zeroValue3
  t9 := Tryd.underlying9
  a9 := Tryd.isAgg9
  z9 := Tryd.sizeOf9
  v9 := Tryd.zeroValue9 }
open Go.RowKit Go.Lib
theorem compare_any (a b : ByteArray) (w : World) :
    Calls Tryd.prog 103 #[.string a, .string b] w fun e w' => e = .returned (.int .i64 (Lib.compareBytes a.data.toList b.data.toList)) ∧ w' = w := Any.strings_Compare Tryd.laysC106 a b w
end Go.Proofs.YtokpjgpdkmimgaaDoor
