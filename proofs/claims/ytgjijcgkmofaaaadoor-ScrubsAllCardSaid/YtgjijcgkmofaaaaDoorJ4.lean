/-
  Sectors, devices and arrays in plain Lean: what is written, read, lost, turned, replaced and healed. Conditions: none.
-/
import Derived.Test.YtgjijcgkmofaaaaDoorJ3
namespace Go.Proofs.YtgjijcgkmofaaaaDoor
set_option linter.unusedSimpArgs false
set_option linter.unusedVariables false
open Go.RowKit

theorem lst_append (a b : ByteArray) : lst (a ++ b) = lst a ++ lst b := by
  unfold lst
  rw [ByteArray.data_append, Array.toList_append]
theorem bs_append (a b : List UInt8) : bs a ++ bs b = bs (a ++ b) := lst_inj (by rw [lst_append, lst_bs, lst_bs, lst_bs])
theorem bs_append_lst (a : ByteArray) (l : List UInt8) : a ++ bs l = bs (lst a ++ l) := lst_inj (by rw [lst_append, lst_bs, lst_bs])
theorem lst_append_bs (l : List UInt8) (a : ByteArray) : bs l ++ a = bs (l ++ lst a) := lst_inj (by rw [lst_append, lst_bs, lst_bs])
theorem lst_empty : lst .empty = [] := rfl

/-- A sector without its seal. -/
def rawS (no : Int) (s : ByteArray) : List UInt8 := byte (no / 256) :: byte (no % 256) :: (lst s ++ List.replicate (24 - s.size) 0)
def encodeS (no : Int) (s : ByteArray) : ByteArray × Int :=
  if no < 0 ∨ 65535 < no then (.empty, 2) else if 24 < s.size then (.empty, 1) else (bs (rawS no s ++ sealOf (rawS no s)), 0)
theorem encodeS_ok {no : Int} {s : ByteArray} (h0 : 0 ≤ no) (h1 : no ≤ 65535) (h2 : s.size ≤ 24) : encodeS no s = (bs (rawS no s ++ sealOf (rawS no s)), 0) := by
  unfold encodeS; rw [if_neg (by omega), if_neg (by omega)]
theorem rawS_length {no : Int} {s : ByteArray} (h2 : s.size ≤ 24) : (rawS no s).length = 26 := by
  unfold rawS; simp only [List.length_cons, List.length_append, List.length_replicate, length_lst]; omega
theorem encodeS_size {no : Int} {s : ByteArray} (h0 : 0 ≤ no) (h1 : no ≤ 65535) (h2 : s.size ≤ 24) : (encodeS no s).1.size = 30 := by
  rw [encodeS_ok h0 h1 h2]
  show (bs _).size = 30
  rw [size_bs, List.length_append, rawS_length h2, length_sealOf]
theorem encodeS_small (no : Int) (s : ByteArray) : (encodeS no s).1.size ≤ 30 := by
  by_cases h : no < 0 ∨ 65535 < no
  · unfold encodeS; rw [if_pos h]; decide
  · by_cases h2 : 24 < s.size
    · unfold encodeS; rw [if_neg h, if_pos h2]; decide
    · rw [encodeS_size (by omega) (by omega) (by omega)]; omega
theorem encodeS_code (no : Int) (s : ByteArray) : (encodeS no s).2 = 0 ∨ (encodeS no s).2 = 1 ∨ (encodeS no s).2 = 2 := by
  unfold encodeS
  split
  · exact .inr (.inr rfl)
  · split
    · exact .inr (.inl rfl)
    · exact .inl rfl

/-- A sector of a device is written. -/
def writeS (d : Dev) (n no : Int) (s : ByteArray) : Dev × Int :=
  if touchCode d n = 0 then (if (encodeS no s).2 = 0 then (⟨d.sec.set n.toNat (encodeS no s).1, d.lost.set n.toNat false⟩, 0) else (⟨[], []⟩, (encodeS no s).2)) else (⟨[], []⟩, touchCode d n)
/-- A byte of a text is turned. -/
def turnB (s : ByteArray) (place by_ : Int) : ByteArray := bs ((lst s).set place.toNat (byte (((at_ s place.toNat).toNat + by_) % 256)))
def turnS (d : Dev) (n place by_ : Int) : Dev × Int :=
  if touchCode d n = 0 then (if inB place 0 29 && inB by_ 0 255 then (⟨d.sec.set n.toNat (turnB (d.sec.getD n.toNat .empty) place by_), d.lost⟩, 0) else (⟨[], []⟩, 2)) else (⟨[], []⟩, touchCode d n)
theorem turnB_size (s : ByteArray) (place by_ : Int) : (turnB s place by_).size = s.size := by
  unfold turnB; rw [size_bs, List.length_set, length_lst]

/-- A new device. -/
def freshDev (many : Nat) (from_ : Int) : Dev := ⟨(List.range many).map (fun (i : Nat) => (encodeS (from_ + i) .empty).1), List.replicate many false⟩
def newDevS (many from_ : Int) : Dev × Int := if inB many 1 64 && inB from_ 0 512 then (freshDev many.toNat from_, 0) else (⟨[], []⟩, 2)

/-- Arrays. -/
def dv (a : List Dev) (k : Nat) : Dev := a.getD k ⟨[], []⟩
def arrTouch (a : List Dev) (n : Int) : Int := if arrMay a then (if inB n 0 (((dv a 0).sec.length : Int) - 1) then 0 else 6) else 9
def partner (n : Int) : Int := if n % 2 = 0 then n + 1 else n - 1
def mirrorS (a : List Dev) (n : Int) : ByteArray × Int :=
  if (readS (dv a 0) n n).2 = 0 then ((readS (dv a 0) n n).1, 1) else if (readS (dv a 1) n n).2 = 0 then ((readS (dv a 1) n n).1, 2) else (.empty, 0)
def xorS (s t : ByteArray) : ByteArray := bs (List.zipWith (fun a b => a ^^^ b) (lst s) (lst t))
def parS (a : List Dev) (n : Int) : ByteArray × Int := readS (dv a 2) (n / 2) (512 + n / 2)
/-- What reading a sector of an array answers: the payload, how it was read, the code. -/
def arrReadS (a : List Dev) (n : Int) : ByteArray × Int × Int :=
  if arrTouch a n ≠ 0 then (.empty, 0, arrTouch a n)
  else if (mirrorS a n).2 ≠ 0 then ((mirrorS a n).1, (mirrorS a n).2, 0)
  else if (mirrorS a (partner n)).2 = 0 ∨ (parS a n).2 ≠ 0 then (.empty, 0, 11)
  else (xorS (parS a n).1 (mirrorS a (partner n)).1, 3, 0)
/-- A device of an array is another one. -/
def bothS (a : List Dev) (n : Int) (s : ByteArray) : List Dev := (a.set 0 (writeS (dv a 0) n n s).1).set 1 (writeS (dv a 1) n n s).1
def newArrS (many : Int) : List Dev × Int :=
  if inB many 16 64 && decide (many % 2 = 0) then ([freshDev many.toNat 0, freshDev many.toNat 0, freshDev (many / 2).toNat 512], 0) else ([], 2)
/-- What a sector that is read is like. -/
theorem decodeS_size {no : Int} {s : ByteArray} (h : (decodeS no s).2 = 0) : (decodeS no s).1.size = 24 := by
  unfold decodeS at h ⊢
  split at h
  · rename_i h30
    split at h
    · split at h
      · rename_i h1 h2
        rw [dif_pos h30, if_pos h1, if_pos h2]
        simp only [ByteArray.size_extract]; omega
      · exact absurd h (by decide)
    · exact absurd h (by decide)
  · exact absurd h (by decide)
theorem readS_size {d : Dev} {n no : Int} (h : (readS d n no).2 = 0) : (readS d n no).1.size = 24 := by
  unfold readS at h ⊢
  split at h
  · rename_i h1
    split at h
    · exact absurd h (by decide)
    · rename_i h2
      rw [if_pos h1, if_neg h2]
      exact decodeS_size h
  · rename_i h1
    exact absurd h h1
theorem mirrorS_size {a : List Dev} {n : Int} (h : (mirrorS a n).2 ≠ 0) : (mirrorS a n).1.size = 24 := by
  unfold mirrorS at h ⊢
  split at h
  · rename_i h1
    rw [if_pos h1]
    exact readS_size h1
  · rename_i h1
    split at h
    · rename_i h2
      rw [if_neg h1, if_pos h2]
      exact readS_size h2
    · exact absurd rfl h
theorem xorS_size {s t : ByteArray} (h : s.size = t.size) : (xorS s t).size = s.size := by
  unfold xorS; rw [size_bs, List.length_zipWith, length_lst, length_lst, h]; omega
theorem arrReadS_size {a : List Dev} {n : Int} (h : (arrReadS a n).2.2 = 0) : (arrReadS a n).1.size = 24 := by
  unfold arrReadS at h ⊢
  split at h
  · rename_i h1
    exact absurd h h1
  · rename_i h1
    rw [if_neg h1]
    split at h
    · rename_i h2
      rw [if_pos h2]
      exact mirrorS_size h2
    · rename_i h2
      rw [if_neg h2]
      split at h
      · exact absurd h (by decide)
      · rename_i h3
        rw [if_neg h3]
        have h4 : (mirrorS a (partner n)).2 ≠ 0 := fun e => h3 (.inl e)
        have h5 : (parS a n).2 = 0 := by
          by_cases h : (parS a n).2 = 0
          · exact h
          · exact absurd (.inr h) h3
        have e1 := mirrorS_size h4
        have e2 : (parS a n).1.size = 24 := readS_size h5
        show (xorS _ _).size = 24
        rw [xorS_size (by rw [e1, e2]), e2]
end Go.Proofs.YtgjijcgkmofaaaaDoor

/-
  More words for regions that draw their order: one of two operations comes up; a short row of bytes as a text. Conditions: none.
-/
namespace Go.Proofs.YtgjijcgkmofaaaaDoor
set_option linter.unusedSimpArgs false
set_option linter.unusedVariables false
open Go.RowKit

theorem Blk_.drew {w : World} {g : Nat} {t : TypeId} {cs : Array Value} (h : Blk_ w g t cs) : Blk_ w.drew g t cs := h
theorem anyH_abs {P : Program} {md : Region.Mode} {ops : Array Oper} {Q : Exit → Act → World → Prop} {S : World → Prop} {fuel : Nat} {listed : Array Bool} {a : Act} {w : World} (p : World → Prop) (hp : p w)
    (h : ∀ W, p W → wpAnyH P md ops Q S fuel listed a W) : wpAnyH P md ops Q S fuel listed a w := h w hp
section
variable {P : Program} {Q : Exit → Act → World → Prop}
/-- One of two operations comes up next. -/
theorem wpAnyH_twoL {L tl tl' : List Oper} {S : World → Prop} {i j : Nat} {x y : Oper} {fuel : Nat} {listed : Array Bool} {a : Act} {w : World} (hi : L.drop i = x :: tl) (hj : L.drop j = y :: tl')
    (hr : Region.ready .any L.toArray listed = [i, j]) (hw : Region.wanted x (yielded L.toArray a.tmps) = true) (hw' : Region.wanted y (yielded L.toArray a.tmps) = true)
    (h : ∀ K : Act → World → Prop, (∀ a' w', S w' → wpAnyH P .any L.toArray Q S fuel (listed.setIfInBounds i true) a' w' → K a' w') → x.wp P a w K Q)
    (h' : ∀ K : Act → World → Prop, (∀ a' w', S w' → wpAnyH P .any L.toArray Q S fuel (listed.setIfInBounds j true) a' w' → K a' w') → y.wp P a w K Q) : wpAnyH P .any L.toArray Q S (fuel + 1) listed a w := by
  refine wpAnyH_all hr (by simp) (fun k hk => ?_)
  rcases List.mem_cons.1 hk with rfl | hk
  · unfold wpOp
    rw [at_of_drop hi]
    simp only
    rw [if_pos hw]
    exact .inl (h _ fun _ _ h1 h2 => ⟨h1, h2⟩)
  · obtain rfl := List.mem_singleton.1 hk
    unfold wpOp
    rw [at_of_drop hj]
    simp only
    rw [if_pos hw']
    exact .inl (h' _ fun _ _ h1 h2 => ⟨h1, h2⟩)
/-- Two bytes of a block of the call's own, as a text. -/
theorem wp_conv2 {o : Oper} {a : Act} {w : World} {K : Act → World → Prop} (s : Operand) (src dst e : TypeId) (ho : o.op = .convert src dst s) (hs : P.underlying src = some (.slice e)) (he : P.underlying e = some (.int .u8)) (hd : P.underlying dst = some .string)
    (g : Nat) (x y : Int) (hv : a.eval s = .slice (some ⟨g, 0, none⟩) 2 2) (hb : Blk_ w g e #[.int .u8 x, .int .u8 y]) (h : K (a.put o.dst (.string (bs [byte x, byte y]))) w) : o.wp P a w K Q := by
  have hr := run_conv_lit (P := P) w src dst e hs he hd ⟨g, 0, none⟩ 2 [x, y] (fun j u hu => by rw [Addr.add_lit, Nat.zero_add, hb.cell]; simpa using hu)
  unfold Oper.wp execOp
  simp only [ho, Sem.run_bind, hv]
  simp only [List.length_cons, List.length_nil, List.map_cons, List.map_nil, Nat.zero_add, Nat.reduceAdd] at hr
  simp only [hr, Result.andThen_ok, Sem.run_pure, Oper.upon]
  exact h
/-- One byte of a block of the call's own, as a text. -/
theorem wp_conv1 {o : Oper} {a : Act} {w : World} {K : Act → World → Prop} (s : Operand) (src dst e : TypeId) (ho : o.op = .convert src dst s) (hs : P.underlying src = some (.slice e)) (he : P.underlying e = some (.int .u8)) (hd : P.underlying dst = some .string)
    (g : Nat) (x : Int) (hv : a.eval s = .slice (some ⟨g, 0, none⟩) 1 1) (hb : Blk_ w g e #[.int .u8 x]) (h : K (a.put o.dst (.string (bs [byte x]))) w) : o.wp P a w K Q := by
  have hr := run_conv_lit (P := P) w src dst e hs he hd ⟨g, 0, none⟩ 1 [x] (fun j u hu => by rw [Addr.add_lit, Nat.zero_add, hb.cell]; simpa using hu)
  unfold Oper.wp execOp
  simp only [ho, Sem.run_bind, hv]
  simp only [List.length_cons, List.length_nil, List.map_cons, List.map_nil, Nat.zero_add] at hr
  simp only [hr, Result.andThen_ok, Sem.run_pure, Oper.upon]
  exact h
end
end Go.Proofs.YtgjijcgkmofaaaaDoor

/-
  sector.Encode and the document's SectorBytes: the bytes of a sector, or why there are none; the law SectorEncodes. Conditions: the text is no longer than a text may be.
-/
namespace Go.Proofs.YtgjijcgkmofaaaaDoor
set_option linter.unusedSimpArgs false
set_option linter.unusedVariables false
open Go.RowKit

theorem repeat_one (c : UInt8) (n : Nat) : Lib.repeatL [c] n = List.replicate n c := by
  induction n with
  | zero => rfl
  | succ n ih => unfold Lib.repeatL; rw [ih]; rfl
theorem repeat_any (n : Int) (w : World) (h0 : 0 ≤ n) (hn : n ≤ 140737488355328) :
    Calls Tryd.prog 17 #[.string ⟨#[0]⟩, .int .i64 n] w fun e w' => e = .returned (.string (bs (List.replicate n.toNat 0))) ∧ Ext w w' := by
  obtain ⟨n, rfl⟩ := Int.eq_ofNat_of_zero_le h0
  refine (Tryd.strings_Repeat ⟨#[0]⟩ n w (by omega) (by show 1 * n ≤ _; omega)).mono ?_
  rintro e w' ⟨rfl, h⟩
  refine ⟨?_, h⟩
  have : Lib.repeatL ([0] : List UInt8) n = List.replicate n 0 := repeat_one 0 n
  exact ret_str (by show (⟨(Lib.repeatL ([0] : List UInt8) n).toArray⟩ : ByteArray) = _; rw [this]; rfl)

theorem byte_wrap (n : Int) : byte (IntKind.u8.wrap n) = byte (n % 256) := by
  unfold byte
  simp only [IntKind.wrap, IntKind.bits, IntKind.signed]
  first | rfl | (congr 1; omega) | skip
theorem rawS_join (no : Int) (s : ByteArray) : bs [byte (no / 256), byte (no % 256)] ++ s ++ bs (List.replicate (24 - s.size) 0) = bs (rawS no s) := by
  rw [lst_append_bs, bs_append]; unfold rawS; simp
theorem rawS_small {no : Int} {s : ByteArray} (h2 : s.size ≤ 24) : (bs (rawS no s)).size ≤ 140737488355328 := by
  rw [size_bs, rawS_length h2]; decide
set_option maxRecDepth 100000 in
set_option maxHeartbeats 400000 in
theorem encode_ok (no : Int) (s : ByteArray) (w : World) (h0 : 0 ≤ no) (h1 : no ≤ 65535) (h2 : s.size ≤ 24) :
    Calls Tryd.prog 47 #[.int .i64 no, .string s] w fun e w' => e = .returned (.tuple #[.string (bs (rawS no s ++ sealOf (rawS no s))), .int .i64 0]) ∧ Ext w w' := by
  have hq : (0 : Int) ≤ no / 256 := by omega
  have hq2 : no / 256 ≤ 255 := by omega
  have hc1 : ¬ (9223372036854775807 < 2 + s.size) := by omega
  have hc2 : ¬ (9223372036854775807 < 2 + s.size + (24 - s.size)) := by omega
  have HS := Lib.hid (rawS_small (no := no) h2)
  go_enter Tryd.func47, Tryd.ntmps47
  go_wp2_with fail
  refine wp_region_begin (S := fun _ => True) (n := 14) (by kernel_rfl) rfl (by kernel_rfl) rfl ?_
  refine wpAnyH_takeL (i := 0) (v := ?_) rfl (by kernel_rfl) (fun _ _ _ h => h) rfl ?_ trivial ?_
  rotate_left
  · intro w' hS
    try dsimp only at hS
    go_simp
    rfl
  try simp only [Act.put, List.setIfInBounds_toArray, List.set_cons_zero, List.set_cons_succ]
  refine wpAnyH_takeL (i := 1) (v := ?_) rfl (by kernel_rfl) (fun _ _ _ h => h) rfl ?_ trivial ?_
  rotate_left
  · intro w' hS
    try dsimp only at hS
    go_simp
    rfl
  try simp only [Act.put, List.setIfInBounds_toArray, List.set_cons_zero, List.set_cons_succ]
  refine wpAnyH_takeL (i := 2) (v := ?_) rfl (by kernel_rfl) (fun _ _ _ h => h) rfl ?_ trivial ?_
  rotate_left
  · intro w' hS
    try dsimp only at hS
    go_simp
    rfl
  try simp only [Act.put, List.setIfInBounds_toArray, List.set_cons_zero, List.set_cons_succ]
  refine wpAnyH_takeL (i := 3) (v := ?_) rfl (by kernel_rfl) (fun _ _ _ h => h) rfl ?_ trivial ?_
  rotate_left
  · intro w' hS
    try dsimp only at hS
    go_simp
    rfl
  try simp only [Act.put, List.setIfInBounds_toArray, List.set_cons_zero, List.set_cons_succ]
  refine wpAnyH_takeL (i := 4) (v := ?_) rfl (by kernel_rfl) (fun _ _ _ h => h) rfl ?_ trivial ?_
  rotate_left
  · intro w' hS
    try dsimp only at hS
    go_simp
    rfl
  try simp only [Act.put, List.setIfInBounds_toArray, List.set_cons_zero, List.set_cons_succ]
  refine wpAnyH_takeL (i := 7) (v := ?_) rfl (by kernel_rfl) (fun _ _ _ h => h) rfl ?_ trivial ?_
  rotate_left
  · intro w' hS
    try dsimp only at hS
    go_simp
    rfl
  try simp only [Act.put, List.setIfInBounds_toArray, List.set_cons_zero, List.set_cons_succ]
  refine wpAnyH_takeL (i := 9) (v := ?_) rfl (by kernel_rfl) (fun _ _ _ h => h) rfl ?_ trivial ?_
  rotate_left
  · intro w' hS
    try dsimp only at hS
    go_simp
    rfl
  try simp only [Act.put, List.setIfInBounds_toArray, List.set_cons_zero, List.set_cons_succ]
  refine wpAnyH_takeL (i := 10) (v := ?_) rfl (by kernel_rfl) (fun _ _ _ h => h) rfl ?_ trivial ?_
  rotate_left
  · intro w' hS
    try dsimp only at hS
    go_simp
    rfl
  try simp only [Act.put, List.setIfInBounds_toArray, List.set_cons_zero, List.set_cons_succ]
  refine wpAnyH_takeL (i := 11) (v := ?_) rfl (by kernel_rfl) (fun _ _ _ h => h) rfl ?_ trivial ?_
  rotate_left
  · intro w' hS
    try dsimp only at hS
    go_simp
    rfl
  try simp only [Act.put, List.setIfInBounds_toArray, List.set_cons_zero, List.set_cons_succ]
  refine wpAnyH_twoL (i := 5) (j := 12) rfl rfl (by kernel_rfl) rfl rfl (fun K hK => ?_) (fun K hK => ?_)
  · go_wp2_with fail
    refine hK _ _ trivial ?_
    clear hK K
    try simp only [Act.put, List.setIfInBounds_toArray, List.set_cons_zero, List.set_cons_succ]
    refine anyH_abs (fun W => Ext w W ∧ Blk_ W w.heap.size 5 #[.int .u8 (no / 256), .int .u8 (no % 256)]) ⟨(Ext.refl w).drew.alloc _, by first | exact Blk_.new _ _ _ | exact (Blk_.new _ _ _).drew⟩ ?_
    rintro W5 ⟨eW5, bW5⟩
    refine wpAnyH_twoL (i := 6) (j := 12) rfl rfl (by kernel_rfl) rfl rfl (fun K hK => ?_) (fun K hK => ?_)
    · refine wp_conv2 (.tmp 21) 76 9 5 rfl Tryd.underlying76 Tryd.underlying5 Tryd.underlying9 w.heap.size _ _ rfl bW5 ?_
      refine hK _ _ trivial ?_
      clear hK K
      try simp only [Act.put, List.setIfInBounds_toArray, List.set_cons_zero, List.set_cons_succ]
      refine wpAnyH_takeL (i := 8) (v := ?_) rfl (by kernel_rfl) (fun _ _ _ h => h) rfl ?_ trivial ?_
      rotate_left
      · intro w' hS
        try dsimp only at hS
        go_simp
        rfl
      try simp only [Act.put, List.setIfInBounds_toArray, List.set_cons_zero, List.set_cons_succ]
      refine wpAnyH_oneL (i := 12) rfl (by kernel_rfl) rfl (fun K hK => ?_)
      go_wp2_with fail
      refine (repeat_any _ _ (by omega) (by omega)).mono ?_
      rintro e W6 ⟨rfl, hW6⟩
      have eW6 := eW5.trans hW6
      refine hK _ _ trivial ?_
      clear hK K
      try simp only [Act.put, List.setIfInBounds_toArray, List.set_cons_zero, List.set_cons_succ]
      refine wpAnyH_takeL (i := 13) (v := ?_) rfl (by kernel_rfl) (fun _ _ _ h => h) rfl ?_ trivial ?_
      rotate_left
      · intro w' hS
        try dsimp only at hS
        go_simp
        rfl
      try simp only [Act.put, List.setIfInBounds_toArray, List.set_cons_zero, List.set_cons_succ]
      refine wpAnyH_endL (by kernel_rfl) (fun K hK => ?_)
      rw [rawS_join no s]
      have hsz := HS.out
      have hbl : (bs (rawS no s)).size = 26 := by rw [size_bs, rawS_length h2]
      generalize hbe : bs (rawS no s) = b at *
      have HE := Lib.hid hbe
      clear hbe
      have hc3 : ¬ (9223372036854775807 < b.size + 4) := by omega
      have hc4 : ¬ (9223372036854775807 < b.size + (sealOf (lst b)).length) := by rw [length_sealOf]; omega
      go_wp2_with fail
      refine (sumOf_any b _ hsz).mono ?_
      rintro e w9 ⟨rfl, h9⟩
      go_wp2_with fail
      go_ret2
      refine ⟨?_, eW6.trans h9⟩
      rw [← HE.out, lst_bs, bs_append]
      rfl
    · go_wp2_with fail
      refine (repeat_any _ _ (by omega) (by omega)).mono ?_
      rintro e W6 ⟨rfl, hW6⟩
      have eW6 := eW5.trans hW6
      refine hK _ _ trivial ?_
      clear hK K
      try simp only [Act.put, List.setIfInBounds_toArray, List.set_cons_zero, List.set_cons_succ]
      refine wpAnyH_oneL (i := 6) rfl (by kernel_rfl) rfl (fun K hK => ?_)
      have bW6 := bW5.ext hW6
      refine wp_conv2 (.tmp 21) 76 9 5 rfl Tryd.underlying76 Tryd.underlying5 Tryd.underlying9 w.heap.size _ _ rfl bW6 ?_
      refine hK _ _ trivial ?_
      clear hK K
      try simp only [Act.put, List.setIfInBounds_toArray, List.set_cons_zero, List.set_cons_succ]
      refine wpAnyH_takeL (i := 8) (v := ?_) rfl (by kernel_rfl) (fun _ _ _ h => h) rfl ?_ trivial ?_
      rotate_left
      · intro w' hS
        try dsimp only at hS
        go_simp
        rfl
      try simp only [Act.put, List.setIfInBounds_toArray, List.set_cons_zero, List.set_cons_succ]
      refine wpAnyH_takeL (i := 13) (v := ?_) rfl (by kernel_rfl) (fun _ _ _ h => h) rfl ?_ trivial ?_
      rotate_left
      · intro w' hS
        try dsimp only at hS
        go_simp
        rfl
      try simp only [Act.put, List.setIfInBounds_toArray, List.set_cons_zero, List.set_cons_succ]
      refine wpAnyH_endL (by kernel_rfl) (fun K hK => ?_)
      rw [rawS_join no s]
      have hsz := HS.out
      have hbl : (bs (rawS no s)).size = 26 := by rw [size_bs, rawS_length h2]
      generalize hbe : bs (rawS no s) = b at *
      have HE := Lib.hid hbe
      clear hbe
      have hc3 : ¬ (9223372036854775807 < b.size + 4) := by omega
      have hc4 : ¬ (9223372036854775807 < b.size + (sealOf (lst b)).length) := by rw [length_sealOf]; omega
      go_wp2_with fail
      refine (sumOf_any b _ hsz).mono ?_
      rintro e w9 ⟨rfl, h9⟩
      go_wp2_with fail
      go_ret2
      refine ⟨?_, eW6.trans h9⟩
      rw [← HE.out, lst_bs, bs_append]
      rfl
  · go_wp2_with fail
    refine (repeat_any _ _ (by omega) (by omega)).mono ?_
    rintro e W5 ⟨rfl, hW5⟩
    have eW5 := (Ext.refl w).drew.trans hW5
    refine hK _ _ trivial ?_
    clear hK K
    try simp only [Act.put, List.setIfInBounds_toArray, List.set_cons_zero, List.set_cons_succ]
    refine wpAnyH_oneL (i := 5) rfl (by kernel_rfl) rfl (fun K hK => ?_)
    go_wp2_with fail
    refine hK _ _ trivial ?_
    clear hK K
    try simp only [Act.put, List.setIfInBounds_toArray, List.set_cons_zero, List.set_cons_succ]
    refine anyH_abs (fun W => Ext w W ∧ Blk_ W W5.heap.size 5 #[.int .u8 (no / 256), .int .u8 (no % 256)]) ⟨eW5.alloc _, by first | exact Blk_.new _ _ _ | exact (Blk_.new _ _ _).drew⟩ ?_
    rintro W6 ⟨eW6, bW6⟩
    refine wpAnyH_oneL (i := 6) rfl (by kernel_rfl) rfl (fun K hK => ?_)
    refine wp_conv2 (.tmp 21) 76 9 5 rfl Tryd.underlying76 Tryd.underlying5 Tryd.underlying9 W5.heap.size _ _ rfl bW6 ?_
    refine hK _ _ trivial ?_
    clear hK K
    try simp only [Act.put, List.setIfInBounds_toArray, List.set_cons_zero, List.set_cons_succ]
    refine wpAnyH_takeL (i := 8) (v := ?_) rfl (by kernel_rfl) (fun _ _ _ h => h) rfl ?_ trivial ?_
    rotate_left
    · intro w' hS
      try dsimp only at hS
      go_simp
      rfl
    try simp only [Act.put, List.setIfInBounds_toArray, List.set_cons_zero, List.set_cons_succ]
    refine wpAnyH_takeL (i := 13) (v := ?_) rfl (by kernel_rfl) (fun _ _ _ h => h) rfl ?_ trivial ?_
    rotate_left
    · intro w' hS
      try dsimp only at hS
      go_simp
      rfl
    try simp only [Act.put, List.setIfInBounds_toArray, List.set_cons_zero, List.set_cons_succ]
    refine wpAnyH_endL (by kernel_rfl) (fun K hK => ?_)
    rw [rawS_join no s]
    have hsz := HS.out
    have hbl : (bs (rawS no s)).size = 26 := by rw [size_bs, rawS_length h2]
    generalize hbe : bs (rawS no s) = b at *
    have HE := Lib.hid hbe
    clear hbe
    have hc3 : ¬ (9223372036854775807 < b.size + 4) := by omega
    have hc4 : ¬ (9223372036854775807 < b.size + (sealOf (lst b)).length) := by rw [length_sealOf]; omega
    go_wp2_with fail
    refine (sumOf_any b _ hsz).mono ?_
    rintro e w9 ⟨rfl, h9⟩
    go_wp2_with fail
    go_ret2
    refine ⟨?_, eW6.trans h9⟩
    rw [← HE.out, lst_bs, bs_append]
    rfl

theorem encode_bad1 (no : Int) (s : ByteArray) (h : no < 0 ∨ 65535 < no) : encodeS no s = (.empty, 2) := by unfold encodeS; rw [if_pos h]
theorem encode_bad2 (no : Int) (s : ByteArray) (h : ¬ (no < 0 ∨ 65535 < no)) (h2 : 24 < s.size) : encodeS no s = (.empty, 1) := by unfold encodeS; rw [if_neg h, if_pos h2]
set_option maxRecDepth 100000 in
set_option maxHeartbeats 400000 in
theorem encode_any (no : Int) (s : ByteArray) (w : World) (hn : I64 no) (hs : s.size ≤ 140737488355328) :
    Calls Tryd.prog 47 #[.int .i64 no, .string s] w fun e w' => e = .returned (.tuple #[.string (encodeS no s).1, .int .i64 (encodeS no s).2]) ∧ Ext w w' := by
  by_cases h : no < 0 ∨ 65535 < no
  · rw [encode_bad1 no s h]
    by_cases h1 : no < 0
    · clear h
      go_enter Tryd.func47, Tryd.ntmps47
      go_wp2
      go_ret2
      exact ⟨rfl, Ext.refl _⟩
    · have h2 : 65535 < no := by omega
      clear h
      go_enter Tryd.func47, Tryd.ntmps47
      go_wp2
      go_ret2
      exact ⟨rfl, Ext.refl _⟩
  · by_cases h2 : 24 < s.size
    · rw [encode_bad2 no s h h2]
      have h3 : 0 ≤ no := by omega
      have h4 : no ≤ 65535 := by omega
      have h5 : (24 : Int) < (s.size : Int) := by omega
      clear h
      go_enter Tryd.func47, Tryd.ntmps47
      go_wp2
      go_ret2
      exact ⟨rfl, Ext.refl _⟩
    · rw [encodeS_ok (by omega) (by omega) (by omega)]
      exact encode_ok no s w (by omega) (by omega) (by omega)
end Go.Proofs.YtgjijcgkmofaaaaDoor

/-
  Bytes in memory of the call's own: made out of a text, changed, and made a text again. Conditions: none.
-/
namespace Go.Proofs.YtgjijcgkmofaaaaDoor
set_option linter.unusedSimpArgs false
set_option linter.unusedVariables false
open Go.RowKit

theorem at_lst_eq (s : ByteArray) (k : Nat) : (lst s).getD k 0 = at_ s k := by
  unfold at_
  split
  · rename_i h
    rw [List.getD_eq_getElem?_getD, List.getElem?_eq_getElem (by rw [length_lst]; exact h)]
    rfl
  · rename_i h
    rw [List.getD_eq_getElem?_getD, List.getElem?_eq_none (by rw [length_lst]; omega)]
    rfl
/-- Block g begins with these bytes, and none of them is frozen. -/
def Buf (e : TypeId) (w : World) (g : Nat) (l : List UInt8) : Prop :=
  ∃ cs fr, w.heap[g]? = some (.cells cs e fr) ∧ (∀ i, i < l.length → cs[i]? = some (.int .u8 ((l.getD i 0).toNat : Int))) ∧ ∀ i, i < l.length → ¬ (fr.1 ≤ i ∧ i < fr.2)
theorem Buf.lt {e : TypeId} {w : World} {g : Nat} {l : List UInt8} (h : Buf e w g l) : g < w.heap.size := by
  obtain ⟨cs, fr, h, _⟩ := h
  exact (Array.getElem?_eq_some_iff.1 h).1
theorem Buf.cell {e : TypeId} {w : World} {g : Nat} {l : List UInt8} (h : Buf e w g l) (i : Nat) (hi : i < l.length) : w.cell? ⟨g, i, none⟩ = some (.int .u8 ((l.getD i 0).toNat : Int)) := by
  obtain ⟨cs, fr, h, hc, _⟩ := h
  rw [← hc i hi]
  simp [World.cell?, h]
theorem Buf.frozen {e : TypeId} {w : World} {g : Nat} {l : List UInt8} (h : Buf e w g l) (i : Nat) (hi : i < l.length) : w.frozen? ⟨g, i, none⟩ = false := by
  obtain ⟨cs, fr, h, _, hf⟩ := h
  have := hf i hi
  simp only [World.frozen?, h]
  by_cases h1 : fr.1 ≤ i
  · have h2 : ¬ i < fr.2 := fun h2 => this ⟨h1, h2⟩
    simp [h2]
  · simp [h1]
theorem Buf.ext {e : TypeId} {w w' : World} {g : Nat} {l : List UInt8} (h : Buf e w g l) (k : Ext w w') : Buf e w' g l := by
  have hl := h.lt
  obtain ⟨cs, fr, h, r⟩ := h
  exact ⟨cs, fr, (Below.block k g hl).trans h, r⟩
theorem Buf.far {e : TypeId} {w : World} {g : Nat} {l : List UInt8} (h : Buf e w g l) {p : Addr} (hp : g ≠ p.block) (u : Value) : Buf e (w.setCell p u) g l := by
  obtain ⟨cs, fr, h, r⟩ := h
  exact ⟨cs, fr, (Below.heap_setCell w p u g hp).trans h, r⟩
theorem byte_u8 (c : UInt8) : byte (c.toNat : Int) = c := by
  unfold byte
  rw [Int.toNat_natCast, UInt8.ofNat_toNat]
theorem byte_nat_ (n : Int) (h0 : 0 ≤ n) (h1 : n < 256) : ((byte n).toNat : Int) = n := by
  unfold byte
  rw [UInt8.toNat_ofNat']
  omega
theorem Buf.set {e : TypeId} {w : World} {g : Nat} {l : List UInt8} (h : Buf e w g l) (i : Nat) (c : Int) (h0 : 0 ≤ c) (h1 : c < 256) : Buf e (w.setCell ⟨g, i, none⟩ (.int .u8 c)) g (l.set i (byte c)) := by
  obtain ⟨cs, fr, h, hc, hf⟩ := h
  refine ⟨cs.setIfInBounds i (.int .u8 c), fr, by simp [World.setCell, Array.getElem?_modify, h], fun j hj => ?_, fun j hj => hf j (by simpa using hj)⟩
  rw [List.length_set] at hj
  have hcj := hc j hj
  have hsz : j < cs.size := (Array.getElem?_eq_some_iff.1 hcj).1
  rw [Array.getElem?_setIfInBounds]
  by_cases he : i = j
  · subst he
    rw [if_pos rfl, if_pos hsz, List.getD_eq_getElem?_getD, List.getElem?_set_self hj]
    simp only [Option.getD_some]
    rw [byte_nat_ c h0 h1]
  · rw [if_neg he, hcj, List.getD_eq_getElem?_getD, List.getD_eq_getElem?_getD, List.getElem?_set_ne he]
theorem Buf.made (e : TypeId) (w : World) (s : ByteArray) (cap : Nat) (hc : s.size ≤ cap) : Buf e (w.drew.alloc (.cells (bytesRow s cap) e ((bytesRow s cap).size, (bytesRow s cap).size + 1))) w.heap.size (lst s) := by
  refine ⟨bytesRow s cap, _, heap_alloc_new w.drew _, fun i hi => ?_, fun i hi => ?_⟩
  · rw [length_lst] at hi
    rw [bytesRow_at s cap i hi, List.getD_eq_getElem?_getD, List.getElem?_eq_getElem (by rw [length_lst]; exact hi)]
    rfl
  · rw [length_lst] at hi
    have : s.size ≤ (bytesRow s cap).size := by
      unfold bytesRow
      rw [Array.size_append, Array.size_map]
      exact Nat.le_add_right _ _
    omega
/-- A store into a block that came later than the rows. -/
theorem ODev.aside {S L : TypeId} {w0 w : World} {base : Nat} {v1 v2 : Value} {d : Dev} (h : ODev S L w base v1 v2 d) (h0 : ODev S L w0 base v1 v2 d) {p : Addr} (hp : w0.heap.size ≤ p.block) (u : Value) : ODev S L (w.setCell p u) base v1 v2 d :=
  ⟨ownsRow_setCell_other h.1 (fun e => by have := (h0.1.lt _ e).2; omega) u, ownsRow_setCell_other h.2.1 (fun e => by have := (h0.2.1.lt _ e).2; omega) u, h.2.2⟩
section
variable {P : Program} {Q : Exit → Act → World → Prop}
theorem Buf.back {e : TypeId} {w : World} {g : Nat} {l : List UInt8} (h : Buf e w g l) (src dst : TypeId) (hs : P.underlying src = some (.slice e)) (he : P.underlying e = some (.int .u8)) (hd : P.underlying dst = some .string) (cap : Nat) :
    (convert src dst (.slice (some ⟨g, 0, none⟩) l.length cap)).run P w = .ok (.string (bs l)) w := by
  have hc := run_conv_lit (P := P) w src dst e hs he hd ⟨g, 0, none⟩ cap (l.map fun c => (c.toNat : Int)) (fun j u hu => by
    rw [Addr.add_lit, Nat.zero_add]
    rw [List.map_map, List.getElem?_map, Option.map_eq_some_iff] at hu
    obtain ⟨c, hc, hu⟩ := hu
    have hj := (List.getElem?_eq_some_iff.1 hc).1
    rw [h.cell j hj, List.getD_eq_getElem?_getD, hc, ← hu]
    rfl)
  rw [List.length_map, List.map_map] at hc
  have : List.map (byte ∘ fun c : UInt8 => (c.toNat : Int)) l = l := by
    have h1 : (byte ∘ fun c : UInt8 => (c.toNat : Int)) = id := funext fun c => byte_u8 c
    rw [h1, List.map_id]
  rw [this] at hc
  exact hc
/-- A text is made bytes. -/
theorem wpList_tobytes {ops : Array Oper} {rest : List Oper} {o : Oper} {a : Act} {w : World} (x : Operand) (src dst e : TypeId) (ho : o.op = .convert src dst x) (hgd : o.guard = none) (hs : P.underlying src = some .string) (hd : P.underlying dst = some (.slice e)) (he : P.underlying e = some (.int .u8))
    (s : ByteArray) (hx : a.eval x = .string s)
    (h : ∀ g cap w', w.heap.size ≤ g → Ext w w' → Buf e w' g (lst s) → s.size ≤ cap → wpList P ops Q rest (a.put o.dst (.slice (some ⟨g, 0, none⟩) s.size cap)) w') : wpList P ops Q (o :: rest) a w := by
  refine wpList_plain hgd fun K hK => ?_
  have hr := run_bytes_of_string (P := P) w src dst e s hs hd he
  unfold Oper.wp execOp
  simp only [ho, Sem.run_bind, hx, hr, Result.andThen_ok, Sem.run_pure, Oper.upon]
  exact hK _ _ (h _ _ _ (Nat.le_refl _) ((Ext.refl w).drew.alloc _) (Buf.made e w s _ (grownCap_ge _ _ _ _)) (grownCap_ge _ _ _ _))
/-- Bytes are made a text. -/
theorem wpList_frombytes {ops : Array Oper} {rest : List Oper} {o : Oper} {a : Act} {w : World} (x : Operand) (src dst e : TypeId) (ho : o.op = .convert src dst x) (hgd : o.guard = none) (hs : P.underlying src = some (.slice e)) (he : P.underlying e = some (.int .u8)) (hd : P.underlying dst = some .string)
    (g n cap : Nat) (l : List UInt8) (hb : Buf e w g l) (hn : n = l.length) (hx : a.eval x = .slice (some ⟨g, 0, none⟩) n cap)
    (h : wpList P ops Q rest (a.put o.dst (.string (bs l))) w) : wpList P ops Q (o :: rest) a w := by
  subst hn
  refine wpList_plain hgd fun K hK => ?_
  have hr := hb.back (P := P) src dst hs he hd cap
  unfold Oper.wp execOp
  simp only [ho, Sem.run_bind, hx, hr, Result.andThen_ok, Sem.run_pure, Oper.upon]
  exact hK _ _ h
end
end Go.Proofs.YtgjijcgkmofaaaaDoor

/-
  device.Turn and the document's DeviceTurned: a byte of a sector is turned in a copy; the law DeviceTurns. Conditions: the argument reads as a device.
-/
namespace Go.Proofs.YtgjijcgkmofaaaaDoor
set_option linter.unusedSimpArgs false
set_option linter.unusedVariables false
open Go.RowKit

theorem turn_good {d : Dev} {k : Nat} {place by_ : Int} (h : touchCode d k = 0) (h1 : 0 ≤ place) (h2 : place ≤ 29) (h3 : 0 ≤ by_) (h4 : by_ ≤ 255) : turnS d k place by_ = (⟨d.sec.set k (turnB (d.sec.getD k .empty) place by_), d.lost⟩, 0) := by
  unfold turnS; rw [if_pos h, if_pos (by simp [inB]; omega)]; rfl
theorem turn_range {d : Dev} {n place by_ : Int} (h : touchCode d n = 0) (h1 : ¬ (0 ≤ place ∧ place ≤ 29 ∧ 0 ≤ by_ ∧ by_ ≤ 255)) : turnS d n place by_ = (⟨[], []⟩, 2) := by
  unfold turnS; rw [if_pos h, if_neg (by simp [inB]; omega)]
theorem turn_bad {d : Dev} {n place by_ : Int} (h : ¬ touchCode d n = 0) : turnS d n place by_ = (⟨[], []⟩, touchCode d n) := by
  unfold turnS; rw [if_neg h]
theorem turn_join (s : ByteArray) (p b : Nat) (hp : p < s.size) (hs : s.size = 30) : s.extract 0 p ++ bs [byte (((s[p].toNat : Int) + (b : Int)) % 256)] ++ s.extract (p + 1) 30 = turnB s p b := by
  apply lst_inj
  have h1 : lst (s.extract 0 p) = (lst s).take p := by unfold lst; rw [ByteArray.data_extract, Array.toList_extract]; simp [List.extract]
  have h2 : lst (s.extract (p + 1) 30) = (lst s).drop (p + 1) := by
    unfold lst
    rw [ByteArray.data_extract, Array.toList_extract]
    simp only [List.extract]
    rw [List.take_of_length_le (by rw [List.length_drop, Array.length_toList]; have : s.data.size = 30 := hs; omega)]
  rw [lst_append, lst_append, lst_bs, h1, h2]
  unfold turnB
  rw [lst_bs, at_eq s (p : Int).toNat (by simpa using hp)]
  show _ = (lst s).set p _
  rw [List.set_eq_take_append_cons_drop, if_pos (by rw [length_lst]; exact hp)]
  simp
theorem getD_mem_ {α : Type} (l : List α) (k : Nat) (a : α) (h : k < l.length) : l.getD k a ∈ l := by
  rw [List.getD_eq_getElem?_getD, List.getElem?_eq_getElem h]; exact List.getElem_mem h

set_option maxRecDepth 100000 in
set_option maxHeartbeats 800000 in
theorem devTurn_any (cs : List Value) (d : Dev) (n place by_ : Int) (w : World) (h : RDev w cs d) (hn : I64 n) (hp : I64 place) (hb : I64 by_) :
    Calls Tryd.prog 22 #[.agg cs.toArray, .int .i64 n, .int .i64 place, .int .i64 by_] w fun e w' => ∃ A1 c1 A2 c2, e = .returned (.tuple #[.agg #[.slice A1 (turnS d n place by_).1.sec.length c1, .slice A2 (turnS d n place by_).1.lost.length c2], .int .i64 (turnS d n place by_).2]) ∧ Ext w w' ∧
      ODev 9 4 w' w.heap.size (.slice A1 (turnS d n place by_).1.sec.length c1) (.slice A2 (turnS d n place by_).1.lost.length c2) (turnS d n place by_).1 := by
  obtain ⟨A1, c1, A2, c2, rfl⟩ := h.form
  go_enter Tryd.func22, Tryd.ntmps22
  go_wp2_with fail
  refine calls_abs (fun W => Ext w W ∧ Blk_ W w.heap.size 63 #[.slice A1 d.sec.length c1, .slice A2 d.lost.length c2] ∧ Blk_ W (w.heap.size + 1) 63 #[.slice none 0 0, .slice none 0 0]) ⟨((Ext.refl _).alloc _).alloc _, (Blk_.new _ _ _).alloc _, Blk_.new1 _ _ _ _⟩ ?_
  rintro W ⟨hx, hbk, hbr⟩
  refine (devAt_any [.slice A1 d.sec.length c1, .slice A2 d.lost.length c2] d n W (h.up hx) hn).mono ?_
  rintro e w1 ⟨rfl, hx1⟩
  have hb1 := hbk.ext hx1
  have hbr1 := hbr.ext hx1
  have f0 := hb1.cell 0
  have f1 := hb1.cell 1
  simp at f0 f1
  have hr1 := h.up (hx.trans hx1)
  have hx0 := hx.trans hx1
  clear h hbk hbr hx hx1
  by_cases hc : touchCode d n = 0
  · by_cases hg : 0 ≤ place ∧ place ≤ 29 ∧ 0 ≤ by_ ∧ by_ ≤ 255
    · obtain ⟨g1, g2, g3, g4⟩ := hg
      clear hn
      obtain ⟨hm, n0, n1⟩ := touch_zero hc
      obtain ⟨m1, m2, m3, m4⟩ := devMay_len hm
      obtain ⟨k, rfl⟩ := Int.eq_ofNat_of_zero_le n0
      obtain ⟨p, rfl⟩ := Int.eq_ofNat_of_zero_le g1
      obtain ⟨b, rfl⟩ := Int.eq_ofNat_of_zero_le g3
      have hk2' : (k : Int) < (d.sec.length : Int) := by omega
      have hf := turn_good (d := d) (k := k) (place := p) (by_ := b) hc g1 g2 g3 g4
      have hs30 := m4 _ (getD_mem_ d.sec k .empty (by omega))
      have hlp : 0 < d.sec.length := by omega
      have HF := Lib.hid hf
      have t1 : decide ((p : Int) < 0) = false := by simp
      have t2 : decide ((30 : Int) ≤ (p : Int)) = false := by simp; omega
      have t3 : decide ((b : Int) < 0) = false := by simp
      have t4 : decide ((255 : Int) < (b : Int)) = false := by simp; omega
      have HZ := Lib.hid hs30
      have HG := Lib.hid (And.intro g2 g4)
      rw [hc]
      clear hc m4 hm hf hs30 g1 g2 g3 g4 hp hb m1 m2 m3 n0
      go_wp2_with fail
      refine (devCopy_any [.slice A1 d.sec.length c1, .slice A2 d.lost.length c2] d _ hr1).mono ?_
      rintro e w2 ⟨B1, k1, B2, k2, rfl, hx2, o1, o2⟩
      have hod := hr1.own o1 o2
      have hb2 := hb1.ext hx2
      have hbr2 := hbr1.ext hx2
      obtain ⟨g, rfl, hg1, hg2, hg3⟩ := own_form o1 hlp
      have g0 := hb2.cell 0
      have g1' := hb2.cell 1
      have z0 := hb2.frozen 0
      have z1 := hb2.frozen 1
      have y0 := hbr2.cell 0
      have y1 := hbr2.cell 1
      have x0 := hbr2.frozen 0
      have x1 := hbr2.frozen 1
      simp at g0 g1' y0 y1
      have zk := hg3 k
      have hs30 := HZ.out
      have ck := (o1.cellAt k (by omega)).trans (flat_str_get d.sec k (by omega))
      have es : d.sec[k]'(by omega) = d.sec.getD k .empty := by simp [show k < d.sec.length from by omega]
      rw [es] at ck
      obtain ⟨s, hs⟩ : ∃ s, s = d.sec.getD k .empty := ⟨_, rfl⟩
      rw [← hs] at ck hs30
      have HS := Lib.hid hs
      clear hs es
      have hlt := hbr1.lt
      have ne1 : ¬ (w.heap.size = g) := by omega
      have ne2 : ¬ (g = w.heap.size) := by omega
      have ne3 : ¬ (w.heap.size + 1 = g) := by omega
      have ne4 : ¬ (g = w.heap.size + 1) := by omega
      have hgw : w.heap.size ≤ g := by omega
      clear hr1 f0 f1 o1 o2 hb1 hbr1
      go_wp2_with (refine wpList_tobytes (.tmp 40) 9 76 5 rfl rfl Tryd.underlying9 Tryd.underlying76 Tryd.underlying5 s rfl ?_)
      intro gb cap w3 hgb e3 hbuf hcap
      have b3 := ((hb2.set 0 (.slice (some ⟨g, 0, none⟩) d.sec.length k1)).set 1 (.slice B2 d.lost.length k2)).ext e3
      have r3 := ((hbr2.far (p := ⟨w.heap.size, 0, none⟩) (by simp) (.slice (some ⟨g, 0, none⟩) d.sec.length k1)).far (p := ⟨w.heap.size, 1, none⟩) (by simp) (.slice B2 d.lost.length k2)).ext e3
      have o3 := ((hod.far (p := ⟨w.heap.size, 0, none⟩) (by simp; omega) (.slice (some ⟨g, 0, none⟩) d.sec.length k1)).far (p := ⟨w.heap.size, 1, none⟩) (by simp; omega) (.slice B2 d.lost.length k2)).ext e3
      have X3 := Lib.hid ((((hx0.trans hx2).setCell (p := ⟨w.heap.size, 0, none⟩) (by simp) (.slice (some ⟨g, 0, none⟩) d.sec.length k1)).setCell (p := ⟨w.heap.size, 1, none⟩) (by simp) (.slice B2 d.lost.length k2)).trans e3)
      have HO := Lib.hid (And.intro hod o3)
      have ck3 := o3.1.cellAt k (by omega)
      rw [flat_str_get d.sec k (by omega)] at ck3
      have zk3 := o3.1.frozenAt k
      clear g0 g1' z0 z1 x0 x1 y0 y1 zk ck hod hg3 hb2 hbr2 e3 hx0 hx2
      have q0 := b3.cell 0
      have q1 := b3.cell 1
      have z0 := b3.frozen 0
      have z1 := b3.frozen 1
      have y0 := r3.cell 0
      have y1 := r3.cell 1
      have x0 := r3.frozen 0
      have x1 := r3.frozen 1
      simp at q0 q1 y0 y1
      have hpl : p < (lst s).length := by rw [length_lst, hs30]; have := HG.out.1; omega
      have bp := hbuf.cell p hpl
      have bz := hbuf.frozen p hpl
      have hcb := u8_hi ((lst s).getD p 0)
      have ne5 : ¬ (w.heap.size = gb) := by omega
      have ne6 : ¬ (gb = w.heap.size) := by omega
      have ne7 : ¬ (w.heap.size + 1 = gb) := by omega
      have ne8 : ¬ (gb = w.heap.size + 1) := by omega
      have ne9 : ¬ (g = gb) := by omega
      have ne10 : ¬ (gb = g) := by omega
      have hp30 : (p : Int) < 30 := by have := HG.out.1; omega
      have hp30' : p < 30 := by omega
      have hln : 30 = ((lst s).set p 0).length := by rw [List.length_set, length_lst, hs30]
      have HL := Lib.hid hln
      have HBF := Lib.hid hbuf
      have HR := Lib.hid r3
      clear hbuf b3 r3 o3 hln
      generalize hc0 : (lst s).getD p 0 = c0 at *
      have HC0 := Lib.hid hc0
      clear hc0
      go_wp2_with (refine wpList_frombytes (.tmp 53) 76 9 5 rfl rfl Tryd.underlying76 Tryd.underlying5 Tryd.underlying9 gb 30 cap _ (HBF.out.set p _ ?ha ?hb) ?hc rfl ?_)
      case ha => omega
      case hb => omega
      case hc => rw [List.length_set, length_lst, hs30]
      have hT : turnB s p b = bs ((lst s).set p (byte (((c0.toNat : Int) + (b : Int)) % 256))) := by
        unfold turnB; rw [← HC0.out, at_lst_eq]; rfl
      rw [← hT]
      have HT := Lib.hid hT
      clear hT
      have hts : (turnB s p b).size = 30 := by rw [turnB_size, hs30]
      have HTS := Lib.hid hts
      clear hts
      generalize hte : turnB s p b = T at *
      have HTE := Lib.hid hte
      clear hte
      have HB := Lib.hid ((((HR.out.far (p := ⟨gb, p, none⟩) ne7 (.int .u8 (((c0.toNat : Int) + (b : Int)) % 256))).far (p := ⟨g, k, none⟩) ne3 (.string T)).set 0 (.slice (some ⟨g, 0, none⟩) d.sec.length k1)).set 1 (.slice B2 d.lost.length k2))
      go_wp2_with fail
      refine bodyPost_ret (res_cell_tmp rfl rfl HB.out Tryd.underlying63 rfl (by kernel_rfl)) rfl ?_
      rw [HF.out, ← HS.out, HTE.out]
      refine ⟨some ⟨g, 0, none⟩, k1, B2, k2, ?_, ?_, ?_⟩
      · rw [List.length_set]; rfl
      · exact (((X3.out.setCell (by simp; omega) _).setCell (by simp; omega) _).setCell (by simp) _).setCell (by simp) _
      · have o4 := ((((HO.out.2.aside HO.out.1 (p := ⟨gb, p, none⟩) hgb (.int .u8 (((c0.toNat : Int) + (b : Int)) % 256))).setSec rfl (by decide) k T (by rw [HTS.out]; decide)).far (p := ⟨w.heap.size + 1, 0, none⟩) (by simp; omega) (.slice (some ⟨g, 0, none⟩) d.sec.length k1)).far (p := ⟨w.heap.size + 1, 1, none⟩) (by simp; omega) (.slice B2 d.lost.length k2)).base (base' := w.heap.size) (by omega)
        rw [List.length_set]
        exact o4
    · have hf := turn_range hc hg
      have hg' : place < 0 ∨ 30 ≤ place ∨ by_ < 0 ∨ 255 < by_ := by omega
      rw [hc]
      clear hc hg hn
      have hcs : (decide (place < 0) = true) ∨ (decide (place < 0) = false ∧ decide ((30 : Int) ≤ place) = true) ∨ (decide (place < 0) = false ∧ decide ((30 : Int) ≤ place) = false ∧ decide (by_ < 0) = true) ∨ (decide (place < 0) = false ∧ decide ((30 : Int) ≤ place) = false ∧ decide (by_ < 0) = false ∧ decide ((255 : Int) < by_) = true) := by
        simp only [decide_eq_true_eq, decide_eq_false_iff_not]; omega
      clear hg' hp hb
      rcases hcs with t1 | ⟨t1, t2⟩ | ⟨t1, t2, t3⟩ | ⟨t1, t2, t3, t4⟩
      · have HF := Lib.hid hf
        clear hf hr1
        have y0 := hbr1.cell 0
        have y1 := hbr1.cell 1
        have x0 := hbr1.frozen 0
        have x1 := hbr1.frozen 1
        simp at y0 y1
        have HB := Lib.hid ((hbr1.set 0 (.slice none 0 0)).set 1 (.slice none 0 0))

        go_wp2_with fail
        refine bodyPost_ret (res_cell_tmp rfl rfl HB.out Tryd.underlying63 rfl (by kernel_rfl)) rfl ?_
        rw [HF.out]
        refine ⟨none, 0, none, 0, rfl, (hx0.setCell (by simp) _).setCell (by simp) _, ?_⟩
        exact ⟨World.ownsRow_nil _ _ _ _, World.ownsRow_nil _ _ _ _, by simp, by simp, fun s hs => by cases hs⟩
      · have HF := Lib.hid hf
        clear hf hr1
        have y0 := hbr1.cell 0
        have y1 := hbr1.cell 1
        have x0 := hbr1.frozen 0
        have x1 := hbr1.frozen 1
        simp at y0 y1
        have HB := Lib.hid ((hbr1.set 0 (.slice none 0 0)).set 1 (.slice none 0 0))

        go_wp2_with fail
        refine bodyPost_ret (res_cell_tmp rfl rfl HB.out Tryd.underlying63 rfl (by kernel_rfl)) rfl ?_
        rw [HF.out]
        refine ⟨none, 0, none, 0, rfl, (hx0.setCell (by simp) _).setCell (by simp) _, ?_⟩
        exact ⟨World.ownsRow_nil _ _ _ _, World.ownsRow_nil _ _ _ _, by simp, by simp, fun s hs => by cases hs⟩
      · have HF := Lib.hid hf
        clear hf hr1
        have y0 := hbr1.cell 0
        have y1 := hbr1.cell 1
        have x0 := hbr1.frozen 0
        have x1 := hbr1.frozen 1
        simp at y0 y1
        have HB := Lib.hid ((hbr1.set 0 (.slice none 0 0)).set 1 (.slice none 0 0))

        go_wp2_with fail
        refine bodyPost_ret (res_cell_tmp rfl rfl HB.out Tryd.underlying63 rfl (by kernel_rfl)) rfl ?_
        rw [HF.out]
        refine ⟨none, 0, none, 0, rfl, (hx0.setCell (by simp) _).setCell (by simp) _, ?_⟩
        exact ⟨World.ownsRow_nil _ _ _ _, World.ownsRow_nil _ _ _ _, by simp, by simp, fun s hs => by cases hs⟩
      · have HF := Lib.hid hf
        clear hf hr1
        have y0 := hbr1.cell 0
        have y1 := hbr1.cell 1
        have x0 := hbr1.frozen 0
        have x1 := hbr1.frozen 1
        simp at y0 y1
        have HB := Lib.hid ((hbr1.set 0 (.slice none 0 0)).set 1 (.slice none 0 0))

        go_wp2_with fail
        refine bodyPost_ret (res_cell_tmp rfl rfl HB.out Tryd.underlying63 rfl (by kernel_rfl)) rfl ?_
        rw [HF.out]
        refine ⟨none, 0, none, 0, rfl, (hx0.setCell (by simp) _).setCell (by simp) _, ?_⟩
        exact ⟨World.ownsRow_nil _ _ _ _, World.ownsRow_nil _ _ _ _, by simp, by simp, fun s hs => by cases hs⟩
  · have hf := turn_bad (place := place) (by_ := by_) hc
    have hc' : (touchCode d n != 0) = true := by simpa using hc
    clear hc
    have HF := Lib.hid hf
    clear hf hr1
    have y0 := hbr1.cell 0
    have y1 := hbr1.cell 1
    have x0 := hbr1.frozen 0
    have x1 := hbr1.frozen 1
    simp at y0 y1
    have HB := Lib.hid ((hbr1.set 0 (.slice none 0 0)).set 1 (.slice none 0 0))

    generalize touchCode d n = t at *
    go_wp2_with fail
    refine bodyPost_ret (res_cell_tmp rfl rfl HB.out Tryd.underlying63 rfl (by kernel_rfl)) rfl ?_
    rw [HF.out]
    refine ⟨none, 0, none, 0, rfl, (hx0.setCell (by simp) _).setCell (by simp) _, ?_⟩
    exact ⟨World.ownsRow_nil _ _ _ _, World.ownsRow_nil _ _ _ _, by simp, by simp, fun s hs => by cases hs⟩

end Go.Proofs.YtgjijcgkmofaaaaDoor
