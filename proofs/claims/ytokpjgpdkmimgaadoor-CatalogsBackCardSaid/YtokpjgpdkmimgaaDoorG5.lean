/-
  strings.Repeat in this seat: the library's contract, laid (printed by the kit's lay-shelf and lay-plain). Conditions: none.
-/
import Derived.Test.YtokpjgpdkmimgaaDoorG4
import Derived.Shelf.Strings.Repeat
import Derived.Test.YtokpjgpdkmimgaaDoorProg
import Derived.Laws.MakeOwn
namespace Go.Proofs.YtokpjgpdkmimgaaDoor
open Go.Shelf
def Tryd.lays105_ren : Go.Shelf.Ren := ⟨fun | 105 => 28 | 212 => 62 | 99 => 19 | 165 => 63 | 166 => 64 | 170 => 65 | 169 => 66 | 263 => 95 | 264 => 96 | 206 => 52 | 240 => 97 | 241 => 98 | 276 => 121 | 277 => 122 | n => n, fun | 9 => 9 | 3 => 3 | 4 => 4 | 20 => 20 | 0 => 0 | 46 => 86 | 109 => 97 | 5 => 5 | 72 => 101 | 76 => 105 | 51 => 137 | 146 => 138 | 53 => 140 | 148 => 141 | 70 => 99 | 37 => 34 | 75 => 104 | 127 => 143 | 164 => 158 | 80 => 107 | n => n, fun | n => n⟩
theorem Tryd.lays105 : Go.Proofs.Lays.n105 Tryd.prog Tryd.lays105_ren := {
  mixed := by kernel_rfl
  f99 := Tryd.func19.trans (congrArg some (by kernel_rfl))
  f105 := Tryd.func28.trans (congrArg some (by kernel_rfl))
  f165 := Tryd.func63.trans (congrArg some (by kernel_rfl))
  f166 := Tryd.func64.trans (congrArg some (by kernel_rfl))
  f169 := Tryd.func66.trans (congrArg some (by kernel_rfl))
  f170 := Tryd.func65.trans (congrArg some (by kernel_rfl))
  f206 := Tryd.func52.trans (congrArg some (by kernel_rfl))
  f212 := Tryd.func62.trans (congrArg some (by kernel_rfl))
  f240 := Tryd.func97.trans (congrArg some (by kernel_rfl))
  f241 := Tryd.func98.trans (congrArg some (by kernel_rfl))
  f263 := Tryd.func95.trans (congrArg some (by kernel_rfl))
  f264 := Tryd.func96.trans (congrArg some (by kernel_rfl))
  f276 := Tryd.func121.trans (congrArg some (by kernel_rfl))
  f277 := Tryd.func122.trans (congrArg some (by kernel_rfl))
  t0 := Tryd.underlying0
  a0 := Tryd.isAgg0
  z0 := Tryd.sizeOf0
  v0 := Tryd.zeroValue0
  t3 := Tryd.underlying3
  a3 := Tryd.isAgg3
  z3 := Tryd.sizeOf3
  v3 := Tryd.zeroValue3
  t4 := Tryd.underlying4
  a4 := Tryd.isAgg4
  z4 := Tryd.sizeOf4
  v4 := Tryd.zeroValue4
  t5 := Tryd.underlying5
  a5 := Tryd.isAgg5
  z5 := Tryd.sizeOf5
  v5 := Tryd.zeroValue5
  t9 := Tryd.underlying9
  a9 := Tryd.isAgg9
  z9 := Tryd.sizeOf9
  v9 := Tryd.zeroValue9
  t20 := Tryd.underlying20
  a20 := Tryd.isAgg20
  z20 := Tryd.sizeOf20
  v20 := Tryd.zeroValue20
  t37 := Tryd.underlying34
  a37 := Tryd.isAgg34
  z37 := Tryd.sizeOf34
  v37 := Tryd.zeroValue34
  t46 := Tryd.underlying86
  a46 := Tryd.isAgg86
  z46 := Tryd.sizeOf86
  v46 := Tryd.zeroValue86
  t51 := Tryd.underlying137
  a51 := Tryd.isAgg137
  z51 := Tryd.sizeOf137
  v51 := Tryd.zeroValue137
  t53 := Tryd.underlying140
  a53 := Tryd.isAgg140
  z53 := Tryd.sizeOf140
  v53 := Tryd.zeroValue140
  t70 := Tryd.underlying99
  a70 := Tryd.isAgg99
  z70 := Tryd.sizeOf99
  v70 := Tryd.zeroValue99
  t72 := Tryd.underlying101
  a72 := Tryd.isAgg101
  z72 := Tryd.sizeOf101
  v72 := Tryd.zeroValue101
  t75 := Tryd.underlying104
  a75 := Tryd.isAgg104
  z75 := Tryd.sizeOf104
  v75 := Tryd.zeroValue104
  t76 := Tryd.underlying105
  a76 := Tryd.isAgg105
  z76 := Tryd.sizeOf105
  v76 := Tryd.zeroValue105
  t109 := Tryd.underlying97
  a109 := Tryd.isAgg97
  z109 := Tryd.sizeOf97
  v109 := Tryd.zeroValue97
  t127 := Tryd.underlying143
  a127 := Tryd.isAgg143
  z127 := Tryd.sizeOf143
  v127 := Tryd.zeroValue143
  t146 := Tryd.underlying138
  a146 := Tryd.isAgg138
  z146 := Tryd.sizeOf138
  v146 := Tryd.zeroValue138
  t148 := Tryd.underlying141
  a148 := Tryd.isAgg141
  z148 := Tryd.sizeOf141
  v148 := Tryd.zeroValue141
  t164 := Tryd.underlying158
  a164 := Tryd.isAgg158
  z164 := Tryd.sizeOf158
  v164 := Tryd.zeroValue158 }
theorem Tryd.Builder_Extra_105 : Builder.Extra Tryd.prog Tryd.lays105_ren := {
  sizeBuilder := by kernel_rfl
  liesBuilder := by kernel_rfl
  t5 := Tryd.underlying5
  a5 := Tryd.isAgg5
  z5 := Tryd.sizeOf5
  v5 := Tryd.zeroValue5
  infoByte := by kernel_rfl
  cellsByte := by kernel_rfl
  sizeByte := by kernel_rfl
  neB5 := by decide }
open Go.RowKit Go.Lib in
/-- **strings.Repeat: count ≥ 0, the result within one allocation: count copies of s.** (LAID: no walk: one application.) -/
theorem Tryd.strings_Repeat (s : ByteArray) (c : Nat) (w : World) (hc : c ≤ 9223372036854775807) (hlen : s.size * c ≤ 140737488355328) :
    Calls Tryd.prog 28 #[.string s, .int .i64 c] w fun e w' => e = .returned (.string ⟨(Lib.repeatL s.data.toList c).toArray⟩) ∧ Below w.heap.size w w' := Any.strings_Repeat Tryd.lays105 Tryd.Builder_Extra_105 s c w hc hlen
end Go.Proofs.YtokpjgpdkmimgaaDoor

/-
  Sectors, devices and arrays in plain Lean: what is written, read, lost, turned, replaced and healed. Conditions: none.
-/
namespace Go.Proofs.YtokpjgpdkmimgaaDoor
set_option linter.unusedSimpArgs false
set_option linter.unusedVariables false
open Go.RowKit

theorem lst_append (a b : ByteArray) : lst (a ++ b) = lst a ++ lst b := by
  unfold lst
  rw [ByteArray.data_append, Array.toList_append]
theorem bs_append (a b : List UInt8) : bs a ++ bs b = bs (a ++ b) := lst_inj (by rw [lst_append, lst_bs, lst_bs, lst_bs])
theorem bs_append_lst (a : ByteArray) (l : List UInt8) : a ++ bs l = bs (lst a ++ l) := lst_inj (by rw [lst_append, lst_bs, lst_bs])
theorem lst_append_bs (l : List UInt8) (a : ByteArray) : bs l ++ a = bs (l ++ lst a) := lst_inj (by rw [lst_append, lst_bs, lst_bs])
theorem lst_empty : lst .empty = [] := rfl

/-- A sector without its seal. -/
def rawS (no : Int) (s : ByteArray) : List UInt8 := byte (no / 256) :: byte (no % 256) :: (lst s ++ List.replicate (24 - s.size) 0)
def encodeS (no : Int) (s : ByteArray) : ByteArray × Int :=
  if no < 0 ∨ 65535 < no then (.empty, 2) else if 24 < s.size then (.empty, 1) else (bs (rawS no s ++ sealOf (rawS no s)), 0)
theorem encodeS_ok {no : Int} {s : ByteArray} (h0 : 0 ≤ no) (h1 : no ≤ 65535) (h2 : s.size ≤ 24) : encodeS no s = (bs (rawS no s ++ sealOf (rawS no s)), 0) := by
  unfold encodeS; rw [if_neg (by omega), if_neg (by omega)]
theorem rawS_length {no : Int} {s : ByteArray} (h2 : s.size ≤ 24) : (rawS no s).length = 26 := by
  unfold rawS; simp only [List.length_cons, List.length_append, List.length_replicate, length_lst]; omega
theorem encodeS_size {no : Int} {s : ByteArray} (h0 : 0 ≤ no) (h1 : no ≤ 65535) (h2 : s.size ≤ 24) : (encodeS no s).1.size = 30 := by
  rw [encodeS_ok h0 h1 h2]
  show (bs _).size = 30
  rw [size_bs, List.length_append, rawS_length h2, length_sealOf]
theorem encodeS_small (no : Int) (s : ByteArray) : (encodeS no s).1.size ≤ 30 := by
  by_cases h : no < 0 ∨ 65535 < no
  · unfold encodeS; rw [if_pos h]; decide
  · by_cases h2 : 24 < s.size
    · unfold encodeS; rw [if_neg h, if_pos h2]; decide
    · rw [encodeS_size (by omega) (by omega) (by omega)]; omega
theorem encodeS_code (no : Int) (s : ByteArray) : (encodeS no s).2 = 0 ∨ (encodeS no s).2 = 1 ∨ (encodeS no s).2 = 2 := by
  unfold encodeS
  split
  · exact .inr (.inr rfl)
  · split
    · exact .inr (.inl rfl)
    · exact .inl rfl

/-- A sector of a device is written. -/
def writeS (d : Dev) (n no : Int) (s : ByteArray) : Dev × Int :=
  if touchCode d n = 0 then (if (encodeS no s).2 = 0 then (⟨d.sec.set n.toNat (encodeS no s).1, d.lost.set n.toNat false⟩, 0) else (⟨[], []⟩, (encodeS no s).2)) else (⟨[], []⟩, touchCode d n)
/-- A byte of a text is turned. -/
def turnB (s : ByteArray) (place by_ : Int) : ByteArray := bs ((lst s).set place.toNat (byte (((at_ s place.toNat).toNat + by_) % 256)))
def turnS (d : Dev) (n place by_ : Int) : Dev × Int :=
  if touchCode d n = 0 then (if inB place 0 29 && inB by_ 0 255 then (⟨d.sec.set n.toNat (turnB (d.sec.getD n.toNat .empty) place by_), d.lost⟩, 0) else (⟨[], []⟩, 2)) else (⟨[], []⟩, touchCode d n)
theorem turnB_size (s : ByteArray) (place by_ : Int) : (turnB s place by_).size = s.size := by
  unfold turnB; rw [size_bs, List.length_set, length_lst]

/-- A new device. -/
def freshDev (many : Nat) (from_ : Int) : Dev := ⟨(List.range many).map (fun (i : Nat) => (encodeS (from_ + i) .empty).1), List.replicate many false⟩
def newDevS (many from_ : Int) : Dev × Int := if inB many 1 64 && inB from_ 0 512 then (freshDev many.toNat from_, 0) else (⟨[], []⟩, 2)

/-- Arrays. -/
def dv (a : List Dev) (k : Nat) : Dev := a.getD k ⟨[], []⟩
def arrTouch (a : List Dev) (n : Int) : Int := if arrMay a then (if inB n 0 (((dv a 0).sec.length : Int) - 1) then 0 else 6) else 9
def partner (n : Int) : Int := if n % 2 = 0 then n + 1 else n - 1
def mirrorS (a : List Dev) (n : Int) : ByteArray × Int :=
  if (readS (dv a 0) n n).2 = 0 then ((readS (dv a 0) n n).1, 1) else if (readS (dv a 1) n n).2 = 0 then ((readS (dv a 1) n n).1, 2) else (.empty, 0)
def xorS (s t : ByteArray) : ByteArray := bs (List.zipWith (fun a b => a ^^^ b) (lst s) (lst t))
def parS (a : List Dev) (n : Int) : ByteArray × Int := readS (dv a 2) (n / 2) (512 + n / 2)
/-- What reading a sector of an array answers: the payload, how it was read, the code. -/
def arrReadS (a : List Dev) (n : Int) : ByteArray × Int × Int :=
  if arrTouch a n ≠ 0 then (.empty, 0, arrTouch a n)
  else if (mirrorS a n).2 ≠ 0 then ((mirrorS a n).1, (mirrorS a n).2, 0)
  else if (mirrorS a (partner n)).2 = 0 ∨ (parS a n).2 ≠ 0 then (.empty, 0, 11)
  else (xorS (parS a n).1 (mirrorS a (partner n)).1, 3, 0)
/-- A device of an array is another one. -/
def bothS (a : List Dev) (n : Int) (s : ByteArray) : List Dev := (a.set 0 (writeS (dv a 0) n n s).1).set 1 (writeS (dv a 1) n n s).1
def newArrS (many : Int) : List Dev × Int :=
  if inB many 16 64 && decide (many % 2 = 0) then ([freshDev many.toNat 0, freshDev many.toNat 0, freshDev (many / 2).toNat 512], 0) else ([], 2)
/-- What a sector that is read is like. -/
theorem decodeS_size {no : Int} {s : ByteArray} (h : (decodeS no s).2 = 0) : (decodeS no s).1.size = 24 := by
  unfold decodeS at h ⊢
  split at h
  · rename_i h30
    split at h
    · split at h
      · rename_i h1 h2
        rw [dif_pos h30, if_pos h1, if_pos h2]
        simp only [ByteArray.size_extract]; omega
      · exact absurd h (by decide)
    · exact absurd h (by decide)
  · exact absurd h (by decide)
theorem readS_size {d : Dev} {n no : Int} (h : (readS d n no).2 = 0) : (readS d n no).1.size = 24 := by
  unfold readS at h ⊢
  split at h
  · rename_i h1
    split at h
    · exact absurd h (by decide)
    · rename_i h2
      rw [if_pos h1, if_neg h2]
      exact decodeS_size h
  · rename_i h1
    exact absurd h h1
theorem mirrorS_size {a : List Dev} {n : Int} (h : (mirrorS a n).2 ≠ 0) : (mirrorS a n).1.size = 24 := by
  unfold mirrorS at h ⊢
  split at h
  · rename_i h1
    rw [if_pos h1]
    exact readS_size h1
  · rename_i h1
    split at h
    · rename_i h2
      rw [if_neg h1, if_pos h2]
      exact readS_size h2
    · exact absurd rfl h
theorem xorS_size {s t : ByteArray} (h : s.size = t.size) : (xorS s t).size = s.size := by
  unfold xorS; rw [size_bs, List.length_zipWith, length_lst, length_lst, h]; omega
theorem arrReadS_size {a : List Dev} {n : Int} (h : (arrReadS a n).2.2 = 0) : (arrReadS a n).1.size = 24 := by
  unfold arrReadS at h ⊢
  split at h
  · rename_i h1
    exact absurd h h1
  · rename_i h1
    rw [if_neg h1]
    split at h
    · rename_i h2
      rw [if_pos h2]
      exact mirrorS_size h2
    · rename_i h2
      rw [if_neg h2]
      split at h
      · exact absurd h (by decide)
      · rename_i h3
        rw [if_neg h3]
        have h4 : (mirrorS a (partner n)).2 ≠ 0 := fun e => h3 (.inl e)
        have h5 : (parS a n).2 = 0 := by
          by_cases h : (parS a n).2 = 0
          · exact h
          · exact absurd (.inr h) h3
        have e1 := mirrorS_size h4
        have e2 : (parS a n).1.size = 24 := readS_size h5
        show (xorS _ _).size = 24
        rw [xorS_size (by rw [e1, e2]), e2]
end Go.Proofs.YtokpjgpdkmimgaaDoor

/-
  More words for regions that draw their order: one of two operations comes up; a short row of bytes as a text. Conditions: none.
-/
namespace Go.Proofs.YtokpjgpdkmimgaaDoor
set_option linter.unusedSimpArgs false
set_option linter.unusedVariables false
open Go.RowKit

theorem Blk_.drew {w : World} {g : Nat} {t : TypeId} {cs : Array Value} (h : Blk_ w g t cs) : Blk_ w.drew g t cs := h
theorem anyH_abs {P : Program} {md : Region.Mode} {ops : Array Oper} {Q : Exit → Act → World → Prop} {S : World → Prop} {fuel : Nat} {listed : Array Bool} {a : Act} {w : World} (p : World → Prop) (hp : p w)
    (h : ∀ W, p W → wpAnyH P md ops Q S fuel listed a W) : wpAnyH P md ops Q S fuel listed a w := h w hp
section
variable {P : Program} {Q : Exit → Act → World → Prop}
/-- One of two operations comes up next. -/
theorem wpAnyH_twoL {L tl tl' : List Oper} {S : World → Prop} {i j : Nat} {x y : Oper} {fuel : Nat} {listed : Array Bool} {a : Act} {w : World} (hi : L.drop i = x :: tl) (hj : L.drop j = y :: tl')
    (hr : Region.ready .any L.toArray listed = [i, j]) (hw : Region.wanted x (yielded L.toArray a.tmps) = true) (hw' : Region.wanted y (yielded L.toArray a.tmps) = true)
    (h : ∀ K : Act → World → Prop, (∀ a' w', S w' → wpAnyH P .any L.toArray Q S fuel (listed.setIfInBounds i true) a' w' → K a' w') → x.wp P a w K Q)
    (h' : ∀ K : Act → World → Prop, (∀ a' w', S w' → wpAnyH P .any L.toArray Q S fuel (listed.setIfInBounds j true) a' w' → K a' w') → y.wp P a w K Q) : wpAnyH P .any L.toArray Q S (fuel + 1) listed a w := by
  refine wpAnyH_all hr (by simp) (fun k hk => ?_)
  rcases List.mem_cons.1 hk with rfl | hk
  · unfold wpOp
    rw [at_of_drop hi]
    simp only
    rw [if_pos hw]
    exact .inl (h _ fun _ _ h1 h2 => ⟨h1, h2⟩)
  · obtain rfl := List.mem_singleton.1 hk
    unfold wpOp
    rw [at_of_drop hj]
    simp only
    rw [if_pos hw']
    exact .inl (h' _ fun _ _ h1 h2 => ⟨h1, h2⟩)
/-- Two bytes of a block of the call's own, as a text. -/
theorem wp_conv2 {o : Oper} {a : Act} {w : World} {K : Act → World → Prop} (s : Operand) (src dst e : TypeId) (ho : o.op = .convert src dst s) (hs : P.underlying src = some (.slice e)) (he : P.underlying e = some (.int .u8)) (hd : P.underlying dst = some .string)
    (g : Nat) (x y : Int) (hv : a.eval s = .slice (some ⟨g, 0, none⟩) 2 2) (hb : Blk_ w g e #[.int .u8 x, .int .u8 y]) (h : K (a.put o.dst (.string (bs [byte x, byte y]))) w) : o.wp P a w K Q := by
  have hr := run_conv_lit (P := P) w src dst e hs he hd ⟨g, 0, none⟩ 2 [x, y] (fun j u hu => by rw [Addr.add_lit, Nat.zero_add, hb.cell]; simpa using hu)
  unfold Oper.wp execOp
  simp only [ho, Sem.run_bind, hv]
  simp only [List.length_cons, List.length_nil, List.map_cons, List.map_nil, Nat.zero_add, Nat.reduceAdd] at hr
  simp only [hr, Result.andThen_ok, Sem.run_pure, Oper.upon]
  exact h
/-- One byte of a block of the call's own, as a text. -/
theorem wp_conv1 {o : Oper} {a : Act} {w : World} {K : Act → World → Prop} (s : Operand) (src dst e : TypeId) (ho : o.op = .convert src dst s) (hs : P.underlying src = some (.slice e)) (he : P.underlying e = some (.int .u8)) (hd : P.underlying dst = some .string)
    (g : Nat) (x : Int) (hv : a.eval s = .slice (some ⟨g, 0, none⟩) 1 1) (hb : Blk_ w g e #[.int .u8 x]) (h : K (a.put o.dst (.string (bs [byte x]))) w) : o.wp P a w K Q := by
  have hr := run_conv_lit (P := P) w src dst e hs he hd ⟨g, 0, none⟩ 1 [x] (fun j u hu => by rw [Addr.add_lit, Nat.zero_add, hb.cell]; simpa using hu)
  unfold Oper.wp execOp
  simp only [ho, Sem.run_bind, hv]
  simp only [List.length_cons, List.length_nil, List.map_cons, List.map_nil, Nat.zero_add] at hr
  simp only [hr, Result.andThen_ok, Sem.run_pure, Oper.upon]
  exact h
end
end Go.Proofs.YtokpjgpdkmimgaaDoor

/-
  sector.Encode and the document's SectorBytes: the bytes of a sector, or why there are none; the law SectorEncodes. Conditions: the text is no longer than a text may be.
-/
namespace Go.Proofs.YtokpjgpdkmimgaaDoor
set_option linter.unusedSimpArgs false
set_option linter.unusedVariables false
open Go.RowKit

theorem repeat_one (c : UInt8) (n : Nat) : Lib.repeatL [c] n = List.replicate n c := by
  induction n with
  | zero => rfl
  | succ n ih => unfold Lib.repeatL; rw [ih]; rfl
theorem repeat_any (n : Int) (w : World) (h0 : 0 ≤ n) (hn : n ≤ 140737488355328) :
    Calls Tryd.prog 28 #[.string ⟨#[0]⟩, .int .i64 n] w fun e w' => e = .returned (.string (bs (List.replicate n.toNat 0))) ∧ Ext w w' := by
  obtain ⟨n, rfl⟩ := Int.eq_ofNat_of_zero_le h0
  refine (Tryd.strings_Repeat ⟨#[0]⟩ n w (by omega) (by show 1 * n ≤ _; omega)).mono ?_
  rintro e w' ⟨rfl, h⟩
  refine ⟨?_, h⟩
  have : Lib.repeatL ([0] : List UInt8) n = List.replicate n 0 := repeat_one 0 n
  exact ret_str (by show (⟨(Lib.repeatL ([0] : List UInt8) n).toArray⟩ : ByteArray) = _; rw [this]; rfl)

theorem byte_wrap (n : Int) : byte (IntKind.u8.wrap n) = byte (n % 256) := by
  unfold byte
  simp only [IntKind.wrap, IntKind.bits, IntKind.signed]
  first | rfl | (congr 1; omega) | skip
theorem rawS_join (no : Int) (s : ByteArray) : bs [byte (no / 256), byte (no % 256)] ++ s ++ bs (List.replicate (24 - s.size) 0) = bs (rawS no s) := by
  rw [lst_append_bs, bs_append]; unfold rawS; simp
theorem rawS_small {no : Int} {s : ByteArray} (h2 : s.size ≤ 24) : (bs (rawS no s)).size ≤ 140737488355328 := by
  rw [size_bs, rawS_length h2]; decide
set_option maxRecDepth 100000 in
set_option maxHeartbeats 400000 in
theorem encode_ok (no : Int) (s : ByteArray) (w : World) (h0 : 0 ≤ no) (h1 : no ≤ 65535) (h2 : s.size ≤ 24) :
    Calls Tryd.prog 17 #[.int .i64 no, .string s] w fun e w' => e = .returned (.tuple #[.string (bs (rawS no s ++ sealOf (rawS no s))), .int .i64 0]) ∧ Ext w w' := by
  have hq : (0 : Int) ≤ no / 256 := by omega
  have hq2 : no / 256 ≤ 255 := by omega
  have hc1 : ¬ (9223372036854775807 < 2 + s.size) := by omega
  have hc2 : ¬ (9223372036854775807 < 2 + s.size + (24 - s.size)) := by omega
  have HS := Lib.hid (rawS_small (no := no) h2)
  go_enter Tryd.func17, Tryd.ntmps17
  go_wp2_with fail
  refine wp_region_begin (S := fun _ => True) (n := 14) (by kernel_rfl) rfl (by kernel_rfl) rfl ?_
  refine wpAnyH_takeL (i := 0) (v := ?_) rfl (by kernel_rfl) (fun _ _ _ h => h) rfl ?_ trivial ?_
  rotate_left
  · intro w' hS
    try dsimp only at hS
    go_simp
    rfl
  try simp only [Act.put, List.setIfInBounds_toArray, List.set_cons_zero, List.set_cons_succ]
  refine wpAnyH_takeL (i := 1) (v := ?_) rfl (by kernel_rfl) (fun _ _ _ h => h) rfl ?_ trivial ?_
  rotate_left
  · intro w' hS
    try dsimp only at hS
    go_simp
    rfl
  try simp only [Act.put, List.setIfInBounds_toArray, List.set_cons_zero, List.set_cons_succ]
  refine wpAnyH_takeL (i := 2) (v := ?_) rfl (by kernel_rfl) (fun _ _ _ h => h) rfl ?_ trivial ?_
  rotate_left
  · intro w' hS
    try dsimp only at hS
    go_simp
    rfl
  try simp only [Act.put, List.setIfInBounds_toArray, List.set_cons_zero, List.set_cons_succ]
  refine wpAnyH_takeL (i := 3) (v := ?_) rfl (by kernel_rfl) (fun _ _ _ h => h) rfl ?_ trivial ?_
  rotate_left
  · intro w' hS
    try dsimp only at hS
    go_simp
    rfl
  try simp only [Act.put, List.setIfInBounds_toArray, List.set_cons_zero, List.set_cons_succ]
  refine wpAnyH_takeL (i := 4) (v := ?_) rfl (by kernel_rfl) (fun _ _ _ h => h) rfl ?_ trivial ?_
  rotate_left
  · intro w' hS
    try dsimp only at hS
    go_simp
    rfl
  try simp only [Act.put, List.setIfInBounds_toArray, List.set_cons_zero, List.set_cons_succ]
  refine wpAnyH_takeL (i := 7) (v := ?_) rfl (by kernel_rfl) (fun _ _ _ h => h) rfl ?_ trivial ?_
  rotate_left
  · intro w' hS
    try dsimp only at hS
    go_simp
    rfl
  try simp only [Act.put, List.setIfInBounds_toArray, List.set_cons_zero, List.set_cons_succ]
  refine wpAnyH_takeL (i := 9) (v := ?_) rfl (by kernel_rfl) (fun _ _ _ h => h) rfl ?_ trivial ?_
  rotate_left
  · intro w' hS
    try dsimp only at hS
    go_simp
    rfl
  try simp only [Act.put, List.setIfInBounds_toArray, List.set_cons_zero, List.set_cons_succ]
  refine wpAnyH_takeL (i := 10) (v := ?_) rfl (by kernel_rfl) (fun _ _ _ h => h) rfl ?_ trivial ?_
  rotate_left
  · intro w' hS
    try dsimp only at hS
    go_simp
    rfl
  try simp only [Act.put, List.setIfInBounds_toArray, List.set_cons_zero, List.set_cons_succ]
  refine wpAnyH_takeL (i := 11) (v := ?_) rfl (by kernel_rfl) (fun _ _ _ h => h) rfl ?_ trivial ?_
  rotate_left
  · intro w' hS
    try dsimp only at hS
    go_simp
    rfl
  try simp only [Act.put, List.setIfInBounds_toArray, List.set_cons_zero, List.set_cons_succ]
  refine wpAnyH_twoL (i := 5) (j := 12) rfl rfl (by kernel_rfl) rfl rfl (fun K hK => ?_) (fun K hK => ?_)
  · go_wp2_with fail
    refine hK _ _ trivial ?_
    clear hK K
    try simp only [Act.put, List.setIfInBounds_toArray, List.set_cons_zero, List.set_cons_succ]
    refine anyH_abs (fun W => Ext w W ∧ Blk_ W w.heap.size 5 #[.int .u8 (no / 256), .int .u8 (no % 256)]) ⟨(Ext.refl w).drew.alloc _, by first | exact Blk_.new _ _ _ | exact (Blk_.new _ _ _).drew⟩ ?_
    rintro W5 ⟨eW5, bW5⟩
    refine wpAnyH_twoL (i := 6) (j := 12) rfl rfl (by kernel_rfl) rfl rfl (fun K hK => ?_) (fun K hK => ?_)
    · refine wp_conv2 (.tmp 21) 34 9 5 rfl Tryd.underlying34 Tryd.underlying5 Tryd.underlying9 w.heap.size _ _ rfl bW5 ?_
      refine hK _ _ trivial ?_
      clear hK K
      try simp only [Act.put, List.setIfInBounds_toArray, List.set_cons_zero, List.set_cons_succ]
      refine wpAnyH_takeL (i := 8) (v := ?_) rfl (by kernel_rfl) (fun _ _ _ h => h) rfl ?_ trivial ?_
      rotate_left
      · intro w' hS
        try dsimp only at hS
        go_simp
        rfl
      try simp only [Act.put, List.setIfInBounds_toArray, List.set_cons_zero, List.set_cons_succ]
      refine wpAnyH_oneL (i := 12) rfl (by kernel_rfl) rfl (fun K hK => ?_)
      go_wp2_with fail
      refine (repeat_any _ _ (by omega) (by omega)).mono ?_
      rintro e W6 ⟨rfl, hW6⟩
      have eW6 := eW5.trans hW6
      refine hK _ _ trivial ?_
      clear hK K
      try simp only [Act.put, List.setIfInBounds_toArray, List.set_cons_zero, List.set_cons_succ]
      refine wpAnyH_takeL (i := 13) (v := ?_) rfl (by kernel_rfl) (fun _ _ _ h => h) rfl ?_ trivial ?_
      rotate_left
      · intro w' hS
        try dsimp only at hS
        go_simp
        rfl
      try simp only [Act.put, List.setIfInBounds_toArray, List.set_cons_zero, List.set_cons_succ]
      refine wpAnyH_endL (by kernel_rfl) (fun K hK => ?_)
      rw [rawS_join no s]
      have hsz := HS.out
      have hbl : (bs (rawS no s)).size = 26 := by rw [size_bs, rawS_length h2]
      generalize hbe : bs (rawS no s) = b at *
      have HE := Lib.hid hbe
      clear hbe
      have hc3 : ¬ (9223372036854775807 < b.size + 4) := by omega
      have hc4 : ¬ (9223372036854775807 < b.size + (sealOf (lst b)).length) := by rw [length_sealOf]; omega
      go_wp2_with fail
      refine (sumOf_any b _ hsz).mono ?_
      rintro e w9 ⟨rfl, h9⟩
      go_wp2_with fail
      go_ret2
      refine ⟨?_, eW6.trans h9⟩
      rw [← HE.out, lst_bs, bs_append]
      rfl
    · go_wp2_with fail
      refine (repeat_any _ _ (by omega) (by omega)).mono ?_
      rintro e W6 ⟨rfl, hW6⟩
      have eW6 := eW5.trans hW6
      refine hK _ _ trivial ?_
      clear hK K
      try simp only [Act.put, List.setIfInBounds_toArray, List.set_cons_zero, List.set_cons_succ]
      refine wpAnyH_oneL (i := 6) rfl (by kernel_rfl) rfl (fun K hK => ?_)
      have bW6 := bW5.ext hW6
      refine wp_conv2 (.tmp 21) 34 9 5 rfl Tryd.underlying34 Tryd.underlying5 Tryd.underlying9 w.heap.size _ _ rfl bW6 ?_
      refine hK _ _ trivial ?_
      clear hK K
      try simp only [Act.put, List.setIfInBounds_toArray, List.set_cons_zero, List.set_cons_succ]
      refine wpAnyH_takeL (i := 8) (v := ?_) rfl (by kernel_rfl) (fun _ _ _ h => h) rfl ?_ trivial ?_
      rotate_left
      · intro w' hS
        try dsimp only at hS
        go_simp
        rfl
      try simp only [Act.put, List.setIfInBounds_toArray, List.set_cons_zero, List.set_cons_succ]
      refine wpAnyH_takeL (i := 13) (v := ?_) rfl (by kernel_rfl) (fun _ _ _ h => h) rfl ?_ trivial ?_
      rotate_left
      · intro w' hS
        try dsimp only at hS
        go_simp
        rfl
      try simp only [Act.put, List.setIfInBounds_toArray, List.set_cons_zero, List.set_cons_succ]
      refine wpAnyH_endL (by kernel_rfl) (fun K hK => ?_)
      rw [rawS_join no s]
      have hsz := HS.out
      have hbl : (bs (rawS no s)).size = 26 := by rw [size_bs, rawS_length h2]
      generalize hbe : bs (rawS no s) = b at *
      have HE := Lib.hid hbe
      clear hbe
      have hc3 : ¬ (9223372036854775807 < b.size + 4) := by omega
      have hc4 : ¬ (9223372036854775807 < b.size + (sealOf (lst b)).length) := by rw [length_sealOf]; omega
      go_wp2_with fail
      refine (sumOf_any b _ hsz).mono ?_
      rintro e w9 ⟨rfl, h9⟩
      go_wp2_with fail
      go_ret2
      refine ⟨?_, eW6.trans h9⟩
      rw [← HE.out, lst_bs, bs_append]
      rfl
  · go_wp2_with fail
    refine (repeat_any _ _ (by omega) (by omega)).mono ?_
    rintro e W5 ⟨rfl, hW5⟩
    have eW5 := (Ext.refl w).drew.trans hW5
    refine hK _ _ trivial ?_
    clear hK K
    try simp only [Act.put, List.setIfInBounds_toArray, List.set_cons_zero, List.set_cons_succ]
    refine wpAnyH_oneL (i := 5) rfl (by kernel_rfl) rfl (fun K hK => ?_)
    go_wp2_with fail
    refine hK _ _ trivial ?_
    clear hK K
    try simp only [Act.put, List.setIfInBounds_toArray, List.set_cons_zero, List.set_cons_succ]
    refine anyH_abs (fun W => Ext w W ∧ Blk_ W W5.heap.size 5 #[.int .u8 (no / 256), .int .u8 (no % 256)]) ⟨eW5.alloc _, by first | exact Blk_.new _ _ _ | exact (Blk_.new _ _ _).drew⟩ ?_
    rintro W6 ⟨eW6, bW6⟩
    refine wpAnyH_oneL (i := 6) rfl (by kernel_rfl) rfl (fun K hK => ?_)
    refine wp_conv2 (.tmp 21) 34 9 5 rfl Tryd.underlying34 Tryd.underlying5 Tryd.underlying9 W5.heap.size _ _ rfl bW6 ?_
    refine hK _ _ trivial ?_
    clear hK K
    try simp only [Act.put, List.setIfInBounds_toArray, List.set_cons_zero, List.set_cons_succ]
    refine wpAnyH_takeL (i := 8) (v := ?_) rfl (by kernel_rfl) (fun _ _ _ h => h) rfl ?_ trivial ?_
    rotate_left
    · intro w' hS
      try dsimp only at hS
      go_simp
      rfl
    try simp only [Act.put, List.setIfInBounds_toArray, List.set_cons_zero, List.set_cons_succ]
    refine wpAnyH_takeL (i := 13) (v := ?_) rfl (by kernel_rfl) (fun _ _ _ h => h) rfl ?_ trivial ?_
    rotate_left
    · intro w' hS
      try dsimp only at hS
      go_simp
      rfl
    try simp only [Act.put, List.setIfInBounds_toArray, List.set_cons_zero, List.set_cons_succ]
    refine wpAnyH_endL (by kernel_rfl) (fun K hK => ?_)
    rw [rawS_join no s]
    have hsz := HS.out
    have hbl : (bs (rawS no s)).size = 26 := by rw [size_bs, rawS_length h2]
    generalize hbe : bs (rawS no s) = b at *
    have HE := Lib.hid hbe
    clear hbe
    have hc3 : ¬ (9223372036854775807 < b.size + 4) := by omega
    have hc4 : ¬ (9223372036854775807 < b.size + (sealOf (lst b)).length) := by rw [length_sealOf]; omega
    go_wp2_with fail
    refine (sumOf_any b _ hsz).mono ?_
    rintro e w9 ⟨rfl, h9⟩
    go_wp2_with fail
    go_ret2
    refine ⟨?_, eW6.trans h9⟩
    rw [← HE.out, lst_bs, bs_append]
    rfl

theorem encode_bad1 (no : Int) (s : ByteArray) (h : no < 0 ∨ 65535 < no) : encodeS no s = (.empty, 2) := by unfold encodeS; rw [if_pos h]
theorem encode_bad2 (no : Int) (s : ByteArray) (h : ¬ (no < 0 ∨ 65535 < no)) (h2 : 24 < s.size) : encodeS no s = (.empty, 1) := by unfold encodeS; rw [if_neg h, if_pos h2]
set_option maxRecDepth 100000 in
set_option maxHeartbeats 400000 in
theorem encode_any (no : Int) (s : ByteArray) (w : World) (hn : I64 no) (hs : s.size ≤ 140737488355328) :
    Calls Tryd.prog 17 #[.int .i64 no, .string s] w fun e w' => e = .returned (.tuple #[.string (encodeS no s).1, .int .i64 (encodeS no s).2]) ∧ Ext w w' := by
  by_cases h : no < 0 ∨ 65535 < no
  · rw [encode_bad1 no s h]
    by_cases h1 : no < 0
    · clear h
      go_enter Tryd.func17, Tryd.ntmps17
      go_wp2
      go_ret2
      exact ⟨rfl, Ext.refl _⟩
    · have h2 : 65535 < no := by omega
      clear h
      go_enter Tryd.func17, Tryd.ntmps17
      go_wp2
      go_ret2
      exact ⟨rfl, Ext.refl _⟩
  · by_cases h2 : 24 < s.size
    · rw [encode_bad2 no s h h2]
      have h3 : 0 ≤ no := by omega
      have h4 : no ≤ 65535 := by omega
      have h5 : (24 : Int) < (s.size : Int) := by omega
      clear h
      go_enter Tryd.func17, Tryd.ntmps17
      go_wp2
      go_ret2
      exact ⟨rfl, Ext.refl _⟩
    · rw [encodeS_ok (by omega) (by omega) (by omega)]
      exact encode_ok no s w (by omega) (by omega) (by omega)
end Go.Proofs.YtokpjgpdkmimgaaDoor

/-
  Bytes in memory of the call's own: made out of a text, changed, and made a text again. Conditions: none.
-/
namespace Go.Proofs.YtokpjgpdkmimgaaDoor
set_option linter.unusedSimpArgs false
set_option linter.unusedVariables false
open Go.RowKit

theorem at_lst_eq (s : ByteArray) (k : Nat) : (lst s).getD k 0 = at_ s k := by
  unfold at_
  split
  · rename_i h
    rw [List.getD_eq_getElem?_getD, List.getElem?_eq_getElem (by rw [length_lst]; exact h)]
    rfl
  · rename_i h
    rw [List.getD_eq_getElem?_getD, List.getElem?_eq_none (by rw [length_lst]; omega)]
    rfl
/-- Block g begins with these bytes, and none of them is frozen. -/
def Buf (e : TypeId) (w : World) (g : Nat) (l : List UInt8) : Prop :=
  ∃ cs fr, w.heap[g]? = some (.cells cs e fr) ∧ (∀ i, i < l.length → cs[i]? = some (.int .u8 ((l.getD i 0).toNat : Int))) ∧ ∀ i, i < l.length → ¬ (fr.1 ≤ i ∧ i < fr.2)
theorem Buf.lt {e : TypeId} {w : World} {g : Nat} {l : List UInt8} (h : Buf e w g l) : g < w.heap.size := by
  obtain ⟨cs, fr, h, _⟩ := h
  exact (Array.getElem?_eq_some_iff.1 h).1
theorem Buf.cell {e : TypeId} {w : World} {g : Nat} {l : List UInt8} (h : Buf e w g l) (i : Nat) (hi : i < l.length) : w.cell? ⟨g, i, none⟩ = some (.int .u8 ((l.getD i 0).toNat : Int)) := by
  obtain ⟨cs, fr, h, hc, _⟩ := h
  rw [← hc i hi]
  simp [World.cell?, h]
theorem Buf.frozen {e : TypeId} {w : World} {g : Nat} {l : List UInt8} (h : Buf e w g l) (i : Nat) (hi : i < l.length) : w.frozen? ⟨g, i, none⟩ = false := by
  obtain ⟨cs, fr, h, _, hf⟩ := h
  have := hf i hi
  simp only [World.frozen?, h]
  by_cases h1 : fr.1 ≤ i
  · have h2 : ¬ i < fr.2 := fun h2 => this ⟨h1, h2⟩
    simp [h2]
  · simp [h1]
theorem Buf.ext {e : TypeId} {w w' : World} {g : Nat} {l : List UInt8} (h : Buf e w g l) (k : Ext w w') : Buf e w' g l := by
  have hl := h.lt
  obtain ⟨cs, fr, h, r⟩ := h
  exact ⟨cs, fr, (Below.block k g hl).trans h, r⟩
theorem Buf.far {e : TypeId} {w : World} {g : Nat} {l : List UInt8} (h : Buf e w g l) {p : Addr} (hp : g ≠ p.block) (u : Value) : Buf e (w.setCell p u) g l := by
  obtain ⟨cs, fr, h, r⟩ := h
  exact ⟨cs, fr, (Below.heap_setCell w p u g hp).trans h, r⟩
theorem byte_u8 (c : UInt8) : byte (c.toNat : Int) = c := by
  unfold byte
  rw [Int.toNat_natCast, UInt8.ofNat_toNat]
theorem byte_nat_ (n : Int) (h0 : 0 ≤ n) (h1 : n < 256) : ((byte n).toNat : Int) = n := by
  unfold byte
  rw [UInt8.toNat_ofNat']
  omega
theorem Buf.set {e : TypeId} {w : World} {g : Nat} {l : List UInt8} (h : Buf e w g l) (i : Nat) (c : Int) (h0 : 0 ≤ c) (h1 : c < 256) : Buf e (w.setCell ⟨g, i, none⟩ (.int .u8 c)) g (l.set i (byte c)) := by
  obtain ⟨cs, fr, h, hc, hf⟩ := h
  refine ⟨cs.setIfInBounds i (.int .u8 c), fr, by simp [World.setCell, Array.getElem?_modify, h], fun j hj => ?_, fun j hj => hf j (by simpa using hj)⟩
  rw [List.length_set] at hj
  have hcj := hc j hj
  have hsz : j < cs.size := (Array.getElem?_eq_some_iff.1 hcj).1
  rw [Array.getElem?_setIfInBounds]
  by_cases he : i = j
  · subst he
    rw [if_pos rfl, if_pos hsz, List.getD_eq_getElem?_getD, List.getElem?_set_self hj]
    simp only [Option.getD_some]
    rw [byte_nat_ c h0 h1]
  · rw [if_neg he, hcj, List.getD_eq_getElem?_getD, List.getD_eq_getElem?_getD, List.getElem?_set_ne he]
theorem Buf.made (e : TypeId) (w : World) (s : ByteArray) (cap : Nat) (hc : s.size ≤ cap) : Buf e (w.drew.alloc (.cells (bytesRow s cap) e ((bytesRow s cap).size, (bytesRow s cap).size + 1))) w.heap.size (lst s) := by
  refine ⟨bytesRow s cap, _, heap_alloc_new w.drew _, fun i hi => ?_, fun i hi => ?_⟩
  · rw [length_lst] at hi
    rw [bytesRow_at s cap i hi, List.getD_eq_getElem?_getD, List.getElem?_eq_getElem (by rw [length_lst]; exact hi)]
    rfl
  · rw [length_lst] at hi
    have : s.size ≤ (bytesRow s cap).size := by
      unfold bytesRow
      rw [Array.size_append, Array.size_map]
      exact Nat.le_add_right _ _
    omega
/-- A store into a block that came later than the rows. -/
theorem ODev.aside {S L : TypeId} {w0 w : World} {base : Nat} {v1 v2 : Value} {d : Dev} (h : ODev S L w base v1 v2 d) (h0 : ODev S L w0 base v1 v2 d) {p : Addr} (hp : w0.heap.size ≤ p.block) (u : Value) : ODev S L (w.setCell p u) base v1 v2 d :=
  ⟨ownsRow_setCell_other h.1 (fun e => by have := (h0.1.lt _ e).2; omega) u, ownsRow_setCell_other h.2.1 (fun e => by have := (h0.2.1.lt _ e).2; omega) u, h.2.2⟩
section
variable {P : Program} {Q : Exit → Act → World → Prop}
theorem Buf.back {e : TypeId} {w : World} {g : Nat} {l : List UInt8} (h : Buf e w g l) (src dst : TypeId) (hs : P.underlying src = some (.slice e)) (he : P.underlying e = some (.int .u8)) (hd : P.underlying dst = some .string) (cap : Nat) :
    (convert src dst (.slice (some ⟨g, 0, none⟩) l.length cap)).run P w = .ok (.string (bs l)) w := by
  have hc := run_conv_lit (P := P) w src dst e hs he hd ⟨g, 0, none⟩ cap (l.map fun c => (c.toNat : Int)) (fun j u hu => by
    rw [Addr.add_lit, Nat.zero_add]
    rw [List.map_map, List.getElem?_map, Option.map_eq_some_iff] at hu
    obtain ⟨c, hc, hu⟩ := hu
    have hj := (List.getElem?_eq_some_iff.1 hc).1
    rw [h.cell j hj, List.getD_eq_getElem?_getD, hc, ← hu]
    rfl)
  rw [List.length_map, List.map_map] at hc
  have : List.map (byte ∘ fun c : UInt8 => (c.toNat : Int)) l = l := by
    have h1 : (byte ∘ fun c : UInt8 => (c.toNat : Int)) = id := funext fun c => byte_u8 c
    rw [h1, List.map_id]
  rw [this] at hc
  exact hc
/-- A text is made bytes. -/
theorem wpList_tobytes {ops : Array Oper} {rest : List Oper} {o : Oper} {a : Act} {w : World} (x : Operand) (src dst e : TypeId) (ho : o.op = .convert src dst x) (hgd : o.guard = none) (hs : P.underlying src = some .string) (hd : P.underlying dst = some (.slice e)) (he : P.underlying e = some (.int .u8))
    (s : ByteArray) (hx : a.eval x = .string s)
    (h : ∀ g cap w', w.heap.size ≤ g → Ext w w' → Buf e w' g (lst s) → s.size ≤ cap → wpList P ops Q rest (a.put o.dst (.slice (some ⟨g, 0, none⟩) s.size cap)) w') : wpList P ops Q (o :: rest) a w := by
  refine wpList_plain hgd fun K hK => ?_
  have hr := run_bytes_of_string (P := P) w src dst e s hs hd he
  unfold Oper.wp execOp
  simp only [ho, Sem.run_bind, hx, hr, Result.andThen_ok, Sem.run_pure, Oper.upon]
  exact hK _ _ (h _ _ _ (Nat.le_refl _) ((Ext.refl w).drew.alloc _) (Buf.made e w s _ (grownCap_ge _ _ _ _)) (grownCap_ge _ _ _ _))
/-- Bytes are made a text. -/
theorem wpList_frombytes {ops : Array Oper} {rest : List Oper} {o : Oper} {a : Act} {w : World} (x : Operand) (src dst e : TypeId) (ho : o.op = .convert src dst x) (hgd : o.guard = none) (hs : P.underlying src = some (.slice e)) (he : P.underlying e = some (.int .u8)) (hd : P.underlying dst = some .string)
    (g n cap : Nat) (l : List UInt8) (hb : Buf e w g l) (hn : n = l.length) (hx : a.eval x = .slice (some ⟨g, 0, none⟩) n cap)
    (h : wpList P ops Q rest (a.put o.dst (.string (bs l))) w) : wpList P ops Q (o :: rest) a w := by
  subst hn
  refine wpList_plain hgd fun K hK => ?_
  have hr := hb.back (P := P) src dst hs he hd cap
  unfold Oper.wp execOp
  simp only [ho, Sem.run_bind, hx, hr, Result.andThen_ok, Sem.run_pure, Oper.upon]
  exact hK _ _ h
end
end Go.Proofs.YtokpjgpdkmimgaaDoor

/-
  Rows of the call's own that grow: one more element, a made row, a device whose rows grow. Conditions: none.
-/
namespace Go.Proofs.YtokpjgpdkmimgaaDoor
set_option linter.unusedSimpArgs false
set_option linter.unusedVariables false
open Go.RowKit

theorem own_grown {w w' : World} {base : Nat} {e : TypeId} {size : Nat} {v : Value} {n : Nat} {xs : List Value} {row : Option Nat} (h : w.ownsRow base e size v n xs) (hg : w.grownBy w' row) (hne : ∀ g, v.ownBlock = some g → row ≠ some g) : w'.ownsRow base e size v n xs := by
  have h' := h
  obtain ⟨hl, h⟩ := h
  refine ⟨hl, ?_⟩
  rcases h with h | ⟨g, cap, cur, hv, hb, hgg, r⟩
  · exact .inl h
  · have hgb : v.ownBlock = some g := by rw [hv]; rfl
    exact .inr ⟨g, cap, cur, hv, hb, (hg.block g (h'.lt g hgb).2 (Ne.symm (hne g hgb))).trans hgg, r⟩
/-- A store beside the rows. -/
theorem ODev.off {S L : TypeId} {w : World} {base : Nat} {v1 v2 : Value} {d : Dev} (h : ODev S L w base v1 v2 d) {p : Addr} (h1 : v1.ownBlock ≠ some p.block) (h2 : v2.ownBlock ≠ some p.block) (u : Value) : ODev S L (w.setCell p u) base v1 v2 d :=
  ⟨ownsRow_setCell_other h.1 h1 u, ownsRow_setCell_other h.2.1 h2 u, h.2.2⟩
theorem own_apart {w : World} {base : Nat} {e e' : TypeId} {v v' : Value} {n n' : Nat} {xs xs' : List Value} (h : w.ownsRow base e 1 v n xs) (h' : w.ownsRow base e' 1 v' n' xs') (he : e ≠ e') : ∀ g, v.ownBlock = some g → v'.ownBlock ≠ some g := by
  intro g hg hg'
  rcases h.2 with ⟨hv, _⟩ | ⟨g1, cap, cur, hv, _, hg1, _⟩
  · rw [hv] at hg; cases hg
  · rcases h'.2 with ⟨hv2, _⟩ | ⟨g2, cap2, cur2, hv2, _, hg2, _⟩
    · rw [hv2] at hg'; cases hg'
    · have e1 : g1 = g := by rw [hv] at hg; simpa [Value.ownBlock] using hg
      have e2 : g2 = g := by rw [hv2] at hg'; simpa [Value.ownBlock] using hg'
      subst e1
      rw [e2, hg1] at hg2
      injection hg2 with hg2
      injection hg2 with b1 b2 b3
      exact he b2
theorem ODev.pushSec {S L : TypeId} {w w' : World} {base : Nat} {v1 v2 v1' : Value} {d : Dev} {s : ByteArray} (h : ODev S L w base v1 v2 d) (hSL : S ≠ L) (ho : w'.ownsRow base S 1 v1' (d.sec.length + 1) (d.sec.flatMap encStr ++ [.string s])) (hg : w.grownBy w' v1.ownBlock)
    (hn : (d.sec.length + 1) * 16 ≤ 140737488355328) (hs : s.size ≤ 140737488355328) : ODev S L w' base v1' v2 ⟨d.sec ++ [s], d.lost⟩ := by
  refine ⟨?_, own_grown h.2.1 hg (fun g h2 => own_apart h.2.1 h.1 (Ne.symm hSL) g h2), by simpa using hn, h.2.2.2.1, fun x hx => ?_⟩
  · simp only [List.length_append, List.length_cons, List.length_nil, Nat.zero_add, List.flatMap_append, List.flatMap_cons, List.flatMap_nil, List.append_nil]
    exact ho
  · rcases List.mem_append.1 hx with hx | hx
    · exact h.2.2.2.2 x hx
    · obtain rfl := List.mem_singleton.1 hx; exact hs
theorem ODev.pushLost {S L : TypeId} {w w' : World} {base : Nat} {v1 v2 v2' : Value} {d : Dev} {b : Bool} (h : ODev S L w base v1 v2 d) (hSL : S ≠ L) (ho : w'.ownsRow base L 1 v2' (d.lost.length + 1) (d.lost.flatMap encBool ++ [.bool b])) (hg : w.grownBy w' v2.ownBlock)
    (hn : d.lost.length + 1 ≤ 140737488355328) : ODev S L w' base v1 v2' ⟨d.sec, d.lost ++ [b]⟩ := by
  refine ⟨own_grown h.1 hg (fun g h2 => own_apart h.1 h.2.1 hSL g h2), ?_, h.2.2.1, by simpa using hn, h.2.2.2.2⟩
  simp only [List.length_append, List.length_cons, List.length_nil, Nat.zero_add, List.flatMap_append, List.flatMap_cons, List.flatMap_nil, List.append_nil]
  exact ho
section
variable {P : Program} {Q : Exit → Act → World → Prop}
/-- append(s, x): one element more. -/
theorem wpList_push {ops : Array Oper} {rest : List Oper} {o : Oper} {a : Act} {w : World} (s x : Operand) (t : TypeId)
    (ho : o.op = .call { callee := .builtin .append, args := #[s, x], argTypes := #[t, t] }) (hgd : o.guard = none)
    (base : Nat) (e : TypeId) (i : TypeInfo) (z : Value) (bytes : Nat) (ht : P.underlying t = some (.slice e)) (hi : P.info? e = some i) (hz : i.zero = some z)
    (hsize : i.size = 1) (hby : i.bytes = bytes) (hzs : z.cells.size = 1)
    (v : Value) (n : Nat) (xs : List Value) (hs : a.eval s = v) (hown : w.ownsRow base e 1 v n xs)
    (g c : Nat) (u : Value) (hx : a.eval x = .slice (some ⟨g, 0, none⟩) 1 c) (hu : w.cell? ⟨g, 0, none⟩ = some u) (h1 : u.oneCell' = true)
    (h63 : n + 1 ≤ maxLen) (hbytes : (n + 1) * bytes ≤ 140737488355328) (hbase : base ≤ w.heap.size)
    (h : ∀ A' c' w', w'.ownsRow base e 1 (.slice A' (n + 1) c') (n + 1) (xs ++ [u]) → w.grownBy w' v.ownBlock → ((Value.slice A' (n + 1) c').ownBlock = v.ownBlock ∨ (Value.slice A' (n + 1) c').ownBlock = some w.heap.size) → wpList P ops Q rest (a.put o.dst (.slice A' (n + 1) c')) w') : wpList P ops Q (o :: rest) a w :=
  wpList_append_at w hgd s x t ho base e i z 1 bytes ht hi hz hsize hby hzs (by decide) v n xs hs hown ⟨g, 0, none⟩ 1 c [u] hx rfl (fun j u' hj => by
    match j with
    | 0 => simp at hj; subst hj; exact hu
    | j + 1 => simp at hj) (fun u' hu' => by obtain rfl := List.mem_singleton.1 hu'; exact h1) h63 hbytes hbase h
/-- make: a row of zeros. -/
theorem make_row (t e : TypeId) (i : TypeInfo) (z : Value) (ht : P.underlying t = some (.slice e)) (hi : P.info? e = some i) (hz : i.zero = some z) (hsize : i.size = 1) (hzs : z.cells = #[z])
    (n : Nat) (hb : i.bytes * n ≤ 140737488355328) (hn : n ≤ 140737488355328) :
    ∃ cs : Array Value, cs.toList = List.replicate n z ∧ ∀ w : World, (Instr.makeSlice t (.int .i64 n) (.int .i64 n)).run P w = .ok (.slice (some ⟨w.heap.size, 0, none⟩) n n) (w.alloc (.cells cs e)) := by
  have hbb : ((i.bytes : Int) * (n : Int)) = ((i.bytes * n : Nat) : Int) := by simp
  refine ⟨madeCells z.cells (n * i.size), ?_, fun w => ?_⟩
  · rw [hsize, Nat.mul_one, hzs]
    apply List.ext_getElem?
    intro j
    simp only [madeCells, List.getElem?_replicate, Array.getElem?_toList]
    by_cases hj : j < n
    · simp [hj, Array.getElem?_map, Array.getElem?_range, Nat.mod_one]
    · simp [hj]
  · have hr := run_make (P := P) w t e i z ht hi hz .i64 .i64 n n (by omega) (by omega) (by rw [hbb]; omega) (by omega)
    simpa using hr
theorem own_made (w : World) (e : TypeId) (cs : Array Value) (n : Nat) (xs : List Value) (hc : cs.toList = xs) (hn : xs.length = n) (hm : n ≤ 140737488355328) : (w.alloc (.cells cs e)).ownsRow w.heap.size e 1 (.slice (some ⟨w.heap.size, 0, none⟩) n n) n xs := by
  subst hc
  have hs : cs.size = n := by simpa using hn
  refine ⟨by simpa using hn, .inr ⟨w.heap.size, n, cs, rfl, Nat.le_refl _, heap_alloc_new w _, Nat.le_refl _, by unfold maxLen; omega, by omega, ?_⟩⟩
  rw [Nat.mul_one]
  exact List.take_of_length_le (by simp [hs])
end
end Go.Proofs.YtokpjgpdkmimgaaDoor
