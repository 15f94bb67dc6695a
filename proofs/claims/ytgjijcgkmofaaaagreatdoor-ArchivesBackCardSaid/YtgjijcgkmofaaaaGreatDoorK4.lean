/-
  Sectors, devices and arrays in plain Lean: what is written, read, lost, turned, replaced and healed. Conditions: none.
-/
import Derived.Test.YtgjijcgkmofaaaaGreatDoorK3
import Derived.Laws.MakeOwn
namespace Go.Proofs.YtgjijcgkmofaaaaGreatDoor
set_option linter.unusedSimpArgs false
set_option linter.unusedVariables false
open Go.RowKit

theorem lst_append (a b : ByteArray) : lst (a ++ b) = lst a ++ lst b := by
  unfold lst
  rw [ByteArray.data_append, Array.toList_append]
theorem bs_append (a b : List UInt8) : bs a ++ bs b = bs (a ++ b) := lst_inj (by rw [lst_append, lst_bs, lst_bs, lst_bs])
theorem bs_append_lst (a : ByteArray) (l : List UInt8) : a ++ bs l = bs (lst a ++ l) := lst_inj (by rw [lst_append, lst_bs, lst_bs])
theorem lst_append_bs (l : List UInt8) (a : ByteArray) : bs l ++ a = bs (l ++ lst a) := lst_inj (by rw [lst_append, lst_bs, lst_bs])
theorem lst_empty : lst .empty = [] := rfl

/-- A sector without its seal. -/
def rawS (no : Int) (s : ByteArray) : List UInt8 := byte (no / 256) :: byte (no % 256) :: (lst s ++ List.replicate (24 - s.size) 0)
def encodeS (no : Int) (s : ByteArray) : ByteArray × Int :=
  if no < 0 ∨ 65535 < no then (.empty, 2) else if 24 < s.size then (.empty, 1) else (bs (rawS no s ++ sealOf (rawS no s)), 0)
theorem encodeS_ok {no : Int} {s : ByteArray} (h0 : 0 ≤ no) (h1 : no ≤ 65535) (h2 : s.size ≤ 24) : encodeS no s = (bs (rawS no s ++ sealOf (rawS no s)), 0) := by
  unfold encodeS; rw [if_neg (by omega), if_neg (by omega)]
theorem rawS_length {no : Int} {s : ByteArray} (h2 : s.size ≤ 24) : (rawS no s).length = 26 := by
  unfold rawS; simp only [List.length_cons, List.length_append, List.length_replicate, length_lst]; omega
theorem encodeS_size {no : Int} {s : ByteArray} (h0 : 0 ≤ no) (h1 : no ≤ 65535) (h2 : s.size ≤ 24) : (encodeS no s).1.size = 30 := by
  rw [encodeS_ok h0 h1 h2]
  show (bs _).size = 30
  rw [size_bs, List.length_append, rawS_length h2, length_sealOf]
theorem encodeS_small (no : Int) (s : ByteArray) : (encodeS no s).1.size ≤ 30 := by
  by_cases h : no < 0 ∨ 65535 < no
  · unfold encodeS; rw [if_pos h]; decide
  · by_cases h2 : 24 < s.size
    · unfold encodeS; rw [if_neg h, if_pos h2]; decide
    · rw [encodeS_size (by omega) (by omega) (by omega)]; omega
theorem encodeS_code (no : Int) (s : ByteArray) : (encodeS no s).2 = 0 ∨ (encodeS no s).2 = 1 ∨ (encodeS no s).2 = 2 := by
  unfold encodeS
  split
  · exact .inr (.inr rfl)
  · split
    · exact .inr (.inl rfl)
    · exact .inl rfl

/-- A sector of a device is written. -/
def writeS (d : Dev) (n no : Int) (s : ByteArray) : Dev × Int :=
  if touchCode d n = 0 then (if (encodeS no s).2 = 0 then (⟨d.sec.set n.toNat (encodeS no s).1, d.lost.set n.toNat false⟩, 0) else (⟨[], []⟩, (encodeS no s).2)) else (⟨[], []⟩, touchCode d n)
/-- A byte of a text is turned. -/
def turnB (s : ByteArray) (place by_ : Int) : ByteArray := bs ((lst s).set place.toNat (byte (((at_ s place.toNat).toNat + by_) % 256)))
def turnS (d : Dev) (n place by_ : Int) : Dev × Int :=
  if touchCode d n = 0 then (if inB place 0 29 && inB by_ 0 255 then (⟨d.sec.set n.toNat (turnB (d.sec.getD n.toNat .empty) place by_), d.lost⟩, 0) else (⟨[], []⟩, 2)) else (⟨[], []⟩, touchCode d n)
theorem turnB_size (s : ByteArray) (place by_ : Int) : (turnB s place by_).size = s.size := by
  unfold turnB; rw [size_bs, List.length_set, length_lst]

/-- A new device. -/
def freshDev (many : Nat) (from_ : Int) : Dev := ⟨(List.range many).map (fun (i : Nat) => (encodeS (from_ + i) .empty).1), List.replicate many false⟩
def newDevS (many from_ : Int) : Dev × Int := if inB many 1 64 && inB from_ 0 512 then (freshDev many.toNat from_, 0) else (⟨[], []⟩, 2)

/-- Arrays. -/
def dv (a : List Dev) (k : Nat) : Dev := a.getD k ⟨[], []⟩
def arrTouch (a : List Dev) (n : Int) : Int := if arrMay a then (if inB n 0 (((dv a 0).sec.length : Int) - 1) then 0 else 6) else 9
def partner (n : Int) : Int := if n % 2 = 0 then n + 1 else n - 1
def mirrorS (a : List Dev) (n : Int) : ByteArray × Int :=
  if (readS (dv a 0) n n).2 = 0 then ((readS (dv a 0) n n).1, 1) else if (readS (dv a 1) n n).2 = 0 then ((readS (dv a 1) n n).1, 2) else (.empty, 0)
def xorS (s t : ByteArray) : ByteArray := bs (List.zipWith (fun a b => a ^^^ b) (lst s) (lst t))
def parS (a : List Dev) (n : Int) : ByteArray × Int := readS (dv a 2) (n / 2) (512 + n / 2)
/-- What reading a sector of an array answers: the payload, how it was read, the code. -/
def arrReadS (a : List Dev) (n : Int) : ByteArray × Int × Int :=
  if arrTouch a n ≠ 0 then (.empty, 0, arrTouch a n)
  else if (mirrorS a n).2 ≠ 0 then ((mirrorS a n).1, (mirrorS a n).2, 0)
  else if (mirrorS a (partner n)).2 = 0 ∨ (parS a n).2 ≠ 0 then (.empty, 0, 11)
  else (xorS (parS a n).1 (mirrorS a (partner n)).1, 3, 0)
/-- A device of an array is another one. -/
def bothS (a : List Dev) (n : Int) (s : ByteArray) : List Dev := (a.set 0 (writeS (dv a 0) n n s).1).set 1 (writeS (dv a 1) n n s).1
def newArrS (many : Int) : List Dev × Int :=
  if inB many 16 64 && decide (many % 2 = 0) then ([freshDev many.toNat 0, freshDev many.toNat 0, freshDev (many / 2).toNat 512], 0) else ([], 2)
/-- What a sector that is read is like. -/
theorem decodeS_size {no : Int} {s : ByteArray} (h : (decodeS no s).2 = 0) : (decodeS no s).1.size = 24 := by
  unfold decodeS at h ⊢
  split at h
  · rename_i h30
    split at h
    · split at h
      · rename_i h1 h2
        rw [dif_pos h30, if_pos h1, if_pos h2]
        simp only [ByteArray.size_extract]; omega
      · exact absurd h (by decide)
    · exact absurd h (by decide)
  · exact absurd h (by decide)
theorem readS_size {d : Dev} {n no : Int} (h : (readS d n no).2 = 0) : (readS d n no).1.size = 24 := by
  unfold readS at h ⊢
  split at h
  · rename_i h1
    split at h
    · exact absurd h (by decide)
    · rename_i h2
      rw [if_pos h1, if_neg h2]
      exact decodeS_size h
  · rename_i h1
    exact absurd h h1
theorem mirrorS_size {a : List Dev} {n : Int} (h : (mirrorS a n).2 ≠ 0) : (mirrorS a n).1.size = 24 := by
  unfold mirrorS at h ⊢
  split at h
  · rename_i h1
    rw [if_pos h1]
    exact readS_size h1
  · rename_i h1
    split at h
    · rename_i h2
      rw [if_neg h1, if_pos h2]
      exact readS_size h2
    · exact absurd rfl h
theorem xorS_size {s t : ByteArray} (h : s.size = t.size) : (xorS s t).size = s.size := by
  unfold xorS; rw [size_bs, List.length_zipWith, length_lst, length_lst, h]; omega
theorem arrReadS_size {a : List Dev} {n : Int} (h : (arrReadS a n).2.2 = 0) : (arrReadS a n).1.size = 24 := by
  unfold arrReadS at h ⊢
  split at h
  · rename_i h1
    exact absurd h h1
  · rename_i h1
    rw [if_neg h1]
    split at h
    · rename_i h2
      rw [if_pos h2]
      exact mirrorS_size h2
    · rename_i h2
      rw [if_neg h2]
      split at h
      · exact absurd h (by decide)
      · rename_i h3
        rw [if_neg h3]
        have h4 : (mirrorS a (partner n)).2 ≠ 0 := fun e => h3 (.inl e)
        have h5 : (parS a n).2 = 0 := by
          by_cases h : (parS a n).2 = 0
          · exact h
          · exact absurd (.inr h) h3
        have e1 := mirrorS_size h4
        have e2 : (parS a n).1.size = 24 := readS_size h5
        show (xorS _ _).size = 24
        rw [xorS_size (by rw [e1, e2]), e2]
end Go.Proofs.YtgjijcgkmofaaaaGreatDoor

/-
  More words for regions that draw their order: one of two operations comes up; a short row of bytes as a text. Conditions: none.
-/
namespace Go.Proofs.YtgjijcgkmofaaaaGreatDoor
set_option linter.unusedSimpArgs false
set_option linter.unusedVariables false
open Go.RowKit

theorem Blk_.drew {w : World} {g : Nat} {t : TypeId} {cs : Array Value} (h : Blk_ w g t cs) : Blk_ w.drew g t cs := h
theorem anyH_abs {P : Program} {md : Region.Mode} {ops : Array Oper} {Q : Exit → Act → World → Prop} {S : World → Prop} {fuel : Nat} {listed : Array Bool} {a : Act} {w : World} (p : World → Prop) (hp : p w)
    (h : ∀ W, p W → wpAnyH P md ops Q S fuel listed a W) : wpAnyH P md ops Q S fuel listed a w := h w hp
section
variable {P : Program} {Q : Exit → Act → World → Prop}
/-- One of two operations comes up next. -/
theorem wpAnyH_twoL {L tl tl' : List Oper} {S : World → Prop} {i j : Nat} {x y : Oper} {fuel : Nat} {listed : Array Bool} {a : Act} {w : World} (hi : L.drop i = x :: tl) (hj : L.drop j = y :: tl')
    (hr : Region.ready .any L.toArray listed = [i, j]) (hw : Region.wanted x (yielded L.toArray a.tmps) = true) (hw' : Region.wanted y (yielded L.toArray a.tmps) = true)
    (h : ∀ K : Act → World → Prop, (∀ a' w', S w' → wpAnyH P .any L.toArray Q S fuel (listed.setIfInBounds i true) a' w' → K a' w') → x.wp P a w K Q)
    (h' : ∀ K : Act → World → Prop, (∀ a' w', S w' → wpAnyH P .any L.toArray Q S fuel (listed.setIfInBounds j true) a' w' → K a' w') → y.wp P a w K Q) : wpAnyH P .any L.toArray Q S (fuel + 1) listed a w := by
  refine wpAnyH_all hr (by simp) (fun k hk => ?_)
  rcases List.mem_cons.1 hk with rfl | hk
  · unfold wpOp
    rw [at_of_drop hi]
    simp only
    rw [if_pos hw]
    exact .inl (h _ fun _ _ h1 h2 => ⟨h1, h2⟩)
  · obtain rfl := List.mem_singleton.1 hk
    unfold wpOp
    rw [at_of_drop hj]
    simp only
    rw [if_pos hw']
    exact .inl (h' _ fun _ _ h1 h2 => ⟨h1, h2⟩)
/-- Two bytes of a block of the call's own, as a text. -/
theorem wp_conv2 {o : Oper} {a : Act} {w : World} {K : Act → World → Prop} (s : Operand) (src dst e : TypeId) (ho : o.op = .convert src dst s) (hs : P.underlying src = some (.slice e)) (he : P.underlying e = some (.int .u8)) (hd : P.underlying dst = some .string)
    (g : Nat) (x y : Int) (hv : a.eval s = .slice (some ⟨g, 0, none⟩) 2 2) (hb : Blk_ w g e #[.int .u8 x, .int .u8 y]) (h : K (a.put o.dst (.string (bs [byte x, byte y]))) w) : o.wp P a w K Q := by
  have hr := run_conv_lit (P := P) w src dst e hs he hd ⟨g, 0, none⟩ 2 [x, y] (fun j u hu => by rw [Addr.add_lit, Nat.zero_add, hb.cell]; simpa using hu)
  unfold Oper.wp execOp
  simp only [ho, Sem.run_bind, hv]
  simp only [List.length_cons, List.length_nil, List.map_cons, List.map_nil, Nat.zero_add, Nat.reduceAdd] at hr
  simp only [hr, Result.andThen_ok, Sem.run_pure, Oper.upon]
  exact h
/-- One byte of a block of the call's own, as a text. -/
theorem wp_conv1 {o : Oper} {a : Act} {w : World} {K : Act → World → Prop} (s : Operand) (src dst e : TypeId) (ho : o.op = .convert src dst s) (hs : P.underlying src = some (.slice e)) (he : P.underlying e = some (.int .u8)) (hd : P.underlying dst = some .string)
    (g : Nat) (x : Int) (hv : a.eval s = .slice (some ⟨g, 0, none⟩) 1 1) (hb : Blk_ w g e #[.int .u8 x]) (h : K (a.put o.dst (.string (bs [byte x]))) w) : o.wp P a w K Q := by
  have hr := run_conv_lit (P := P) w src dst e hs he hd ⟨g, 0, none⟩ 1 [x] (fun j u hu => by rw [Addr.add_lit, Nat.zero_add, hb.cell]; simpa using hu)
  unfold Oper.wp execOp
  simp only [ho, Sem.run_bind, hv]
  simp only [List.length_cons, List.length_nil, List.map_cons, List.map_nil, Nat.zero_add] at hr
  simp only [hr, Result.andThen_ok, Sem.run_pure, Oper.upon]
  exact h
end
end Go.Proofs.YtgjijcgkmofaaaaGreatDoor

/-
  Bytes in memory of the call's own: made out of a text, changed, and made a text again. Conditions: none.
-/
namespace Go.Proofs.YtgjijcgkmofaaaaGreatDoor
set_option linter.unusedSimpArgs false
set_option linter.unusedVariables false
open Go.RowKit

theorem at_lst_eq (s : ByteArray) (k : Nat) : (lst s).getD k 0 = at_ s k := by
  unfold at_
  split
  · rename_i h
    rw [List.getD_eq_getElem?_getD, List.getElem?_eq_getElem (by rw [length_lst]; exact h)]
    rfl
  · rename_i h
    rw [List.getD_eq_getElem?_getD, List.getElem?_eq_none (by rw [length_lst]; omega)]
    rfl
/-- Block g begins with these bytes, and none of them is frozen. -/
def Buf (e : TypeId) (w : World) (g : Nat) (l : List UInt8) : Prop :=
  ∃ cs fr, w.heap[g]? = some (.cells cs e fr) ∧ (∀ i, i < l.length → cs[i]? = some (.int .u8 ((l.getD i 0).toNat : Int))) ∧ ∀ i, i < l.length → ¬ (fr.1 ≤ i ∧ i < fr.2)
theorem Buf.lt {e : TypeId} {w : World} {g : Nat} {l : List UInt8} (h : Buf e w g l) : g < w.heap.size := by
  obtain ⟨cs, fr, h, _⟩ := h
  exact (Array.getElem?_eq_some_iff.1 h).1
theorem Buf.cell {e : TypeId} {w : World} {g : Nat} {l : List UInt8} (h : Buf e w g l) (i : Nat) (hi : i < l.length) : w.cell? ⟨g, i, none⟩ = some (.int .u8 ((l.getD i 0).toNat : Int)) := by
  obtain ⟨cs, fr, h, hc, _⟩ := h
  rw [← hc i hi]
  simp [World.cell?, h]
theorem Buf.frozen {e : TypeId} {w : World} {g : Nat} {l : List UInt8} (h : Buf e w g l) (i : Nat) (hi : i < l.length) : w.frozen? ⟨g, i, none⟩ = false := by
  obtain ⟨cs, fr, h, _, hf⟩ := h
  have := hf i hi
  simp only [World.frozen?, h]
  by_cases h1 : fr.1 ≤ i
  · have h2 : ¬ i < fr.2 := fun h2 => this ⟨h1, h2⟩
    simp [h2]
  · simp [h1]
theorem Buf.ext {e : TypeId} {w w' : World} {g : Nat} {l : List UInt8} (h : Buf e w g l) (k : Ext w w') : Buf e w' g l := by
  have hl := h.lt
  obtain ⟨cs, fr, h, r⟩ := h
  exact ⟨cs, fr, (Below.block k g hl).trans h, r⟩
theorem Buf.far {e : TypeId} {w : World} {g : Nat} {l : List UInt8} (h : Buf e w g l) {p : Addr} (hp : g ≠ p.block) (u : Value) : Buf e (w.setCell p u) g l := by
  obtain ⟨cs, fr, h, r⟩ := h
  exact ⟨cs, fr, (Below.heap_setCell w p u g hp).trans h, r⟩
theorem byte_u8 (c : UInt8) : byte (c.toNat : Int) = c := by
  unfold byte
  rw [Int.toNat_natCast, UInt8.ofNat_toNat]
theorem byte_nat_ (n : Int) (h0 : 0 ≤ n) (h1 : n < 256) : ((byte n).toNat : Int) = n := by
  unfold byte
  rw [UInt8.toNat_ofNat']
  omega
theorem Buf.set {e : TypeId} {w : World} {g : Nat} {l : List UInt8} (h : Buf e w g l) (i : Nat) (c : Int) (h0 : 0 ≤ c) (h1 : c < 256) : Buf e (w.setCell ⟨g, i, none⟩ (.int .u8 c)) g (l.set i (byte c)) := by
  obtain ⟨cs, fr, h, hc, hf⟩ := h
  refine ⟨cs.setIfInBounds i (.int .u8 c), fr, by simp [World.setCell, Array.getElem?_modify, h], fun j hj => ?_, fun j hj => hf j (by simpa using hj)⟩
  rw [List.length_set] at hj
  have hcj := hc j hj
  have hsz : j < cs.size := (Array.getElem?_eq_some_iff.1 hcj).1
  rw [Array.getElem?_setIfInBounds]
  by_cases he : i = j
  · subst he
    rw [if_pos rfl, if_pos hsz, List.getD_eq_getElem?_getD, List.getElem?_set_self hj]
    simp only [Option.getD_some]
    rw [byte_nat_ c h0 h1]
  · rw [if_neg he, hcj, List.getD_eq_getElem?_getD, List.getD_eq_getElem?_getD, List.getElem?_set_ne he]
theorem Buf.made (e : TypeId) (w : World) (s : ByteArray) (cap : Nat) (hc : s.size ≤ cap) : Buf e (w.drew.alloc (.cells (bytesRow s cap) e ((bytesRow s cap).size, (bytesRow s cap).size + 1))) w.heap.size (lst s) := by
  refine ⟨bytesRow s cap, _, heap_alloc_new w.drew _, fun i hi => ?_, fun i hi => ?_⟩
  · rw [length_lst] at hi
    rw [bytesRow_at s cap i hi, List.getD_eq_getElem?_getD, List.getElem?_eq_getElem (by rw [length_lst]; exact hi)]
    rfl
  · rw [length_lst] at hi
    have : s.size ≤ (bytesRow s cap).size := by
      unfold bytesRow
      rw [Array.size_append, Array.size_map]
      exact Nat.le_add_right _ _
    omega
/-- A store into a block that came later than the rows. -/
theorem ODev.aside {S L : TypeId} {w0 w : World} {base : Nat} {v1 v2 : Value} {d : Dev} (h : ODev S L w base v1 v2 d) (h0 : ODev S L w0 base v1 v2 d) {p : Addr} (hp : w0.heap.size ≤ p.block) (u : Value) : ODev S L (w.setCell p u) base v1 v2 d :=
  ⟨ownsRow_setCell_other h.1 (fun e => by have := (h0.1.lt _ e).2; omega) u, ownsRow_setCell_other h.2.1 (fun e => by have := (h0.2.1.lt _ e).2; omega) u, h.2.2⟩
section
variable {P : Program} {Q : Exit → Act → World → Prop}
theorem Buf.back {e : TypeId} {w : World} {g : Nat} {l : List UInt8} (h : Buf e w g l) (src dst : TypeId) (hs : P.underlying src = some (.slice e)) (he : P.underlying e = some (.int .u8)) (hd : P.underlying dst = some .string) (cap : Nat) :
    (convert src dst (.slice (some ⟨g, 0, none⟩) l.length cap)).run P w = .ok (.string (bs l)) w := by
  have hc := run_conv_lit (P := P) w src dst e hs he hd ⟨g, 0, none⟩ cap (l.map fun c => (c.toNat : Int)) (fun j u hu => by
    rw [Addr.add_lit, Nat.zero_add]
    rw [List.map_map, List.getElem?_map, Option.map_eq_some_iff] at hu
    obtain ⟨c, hc, hu⟩ := hu
    have hj := (List.getElem?_eq_some_iff.1 hc).1
    rw [h.cell j hj, List.getD_eq_getElem?_getD, hc, ← hu]
    rfl)
  rw [List.length_map, List.map_map] at hc
  have : List.map (byte ∘ fun c : UInt8 => (c.toNat : Int)) l = l := by
    have h1 : (byte ∘ fun c : UInt8 => (c.toNat : Int)) = id := funext fun c => byte_u8 c
    rw [h1, List.map_id]
  rw [this] at hc
  exact hc
/-- A text is made bytes. -/
theorem wpList_tobytes {ops : Array Oper} {rest : List Oper} {o : Oper} {a : Act} {w : World} (x : Operand) (src dst e : TypeId) (ho : o.op = .convert src dst x) (hgd : o.guard = none) (hs : P.underlying src = some .string) (hd : P.underlying dst = some (.slice e)) (he : P.underlying e = some (.int .u8))
    (s : ByteArray) (hx : a.eval x = .string s)
    (h : ∀ g cap w', w.heap.size ≤ g → Ext w w' → Buf e w' g (lst s) → s.size ≤ cap → wpList P ops Q rest (a.put o.dst (.slice (some ⟨g, 0, none⟩) s.size cap)) w') : wpList P ops Q (o :: rest) a w := by
  refine wpList_plain hgd fun K hK => ?_
  have hr := run_bytes_of_string (P := P) w src dst e s hs hd he
  unfold Oper.wp execOp
  simp only [ho, Sem.run_bind, hx, hr, Result.andThen_ok, Sem.run_pure, Oper.upon]
  exact hK _ _ (h _ _ _ (Nat.le_refl _) ((Ext.refl w).drew.alloc _) (Buf.made e w s _ (grownCap_ge _ _ _ _)) (grownCap_ge _ _ _ _))
/-- Bytes are made a text. -/
theorem wpList_frombytes {ops : Array Oper} {rest : List Oper} {o : Oper} {a : Act} {w : World} (x : Operand) (src dst e : TypeId) (ho : o.op = .convert src dst x) (hgd : o.guard = none) (hs : P.underlying src = some (.slice e)) (he : P.underlying e = some (.int .u8)) (hd : P.underlying dst = some .string)
    (g n cap : Nat) (l : List UInt8) (hb : Buf e w g l) (hn : n = l.length) (hx : a.eval x = .slice (some ⟨g, 0, none⟩) n cap)
    (h : wpList P ops Q rest (a.put o.dst (.string (bs l))) w) : wpList P ops Q (o :: rest) a w := by
  subst hn
  refine wpList_plain hgd fun K hK => ?_
  have hr := hb.back (P := P) src dst hs he hd cap
  unfold Oper.wp execOp
  simp only [ho, Sem.run_bind, hx, hr, Result.andThen_ok, Sem.run_pure, Oper.upon]
  exact hK _ _ h
end
end Go.Proofs.YtgjijcgkmofaaaaGreatDoor

/-
  Rows of the call's own that grow: one more element, a made row, a device whose rows grow. Conditions: none.
-/
namespace Go.Proofs.YtgjijcgkmofaaaaGreatDoor
set_option linter.unusedSimpArgs false
set_option linter.unusedVariables false
open Go.RowKit

theorem own_grown {w w' : World} {base : Nat} {e : TypeId} {size : Nat} {v : Value} {n : Nat} {xs : List Value} {row : Option Nat} (h : w.ownsRow base e size v n xs) (hg : w.grownBy w' row) (hne : ∀ g, v.ownBlock = some g → row ≠ some g) : w'.ownsRow base e size v n xs := by
  have h' := h
  obtain ⟨hl, h⟩ := h
  refine ⟨hl, ?_⟩
  rcases h with h | ⟨g, cap, cur, hv, hb, hgg, r⟩
  · exact .inl h
  · have hgb : v.ownBlock = some g := by rw [hv]; rfl
    exact .inr ⟨g, cap, cur, hv, hb, (hg.block g (h'.lt g hgb).2 (Ne.symm (hne g hgb))).trans hgg, r⟩
/-- A store beside the rows. -/
theorem ODev.off {S L : TypeId} {w : World} {base : Nat} {v1 v2 : Value} {d : Dev} (h : ODev S L w base v1 v2 d) {p : Addr} (h1 : v1.ownBlock ≠ some p.block) (h2 : v2.ownBlock ≠ some p.block) (u : Value) : ODev S L (w.setCell p u) base v1 v2 d :=
  ⟨ownsRow_setCell_other h.1 h1 u, ownsRow_setCell_other h.2.1 h2 u, h.2.2⟩
theorem own_apart {w : World} {base : Nat} {e e' : TypeId} {v v' : Value} {n n' : Nat} {xs xs' : List Value} (h : w.ownsRow base e 1 v n xs) (h' : w.ownsRow base e' 1 v' n' xs') (he : e ≠ e') : ∀ g, v.ownBlock = some g → v'.ownBlock ≠ some g := by
  intro g hg hg'
  rcases h.2 with ⟨hv, _⟩ | ⟨g1, cap, cur, hv, _, hg1, _⟩
  · rw [hv] at hg; cases hg
  · rcases h'.2 with ⟨hv2, _⟩ | ⟨g2, cap2, cur2, hv2, _, hg2, _⟩
    · rw [hv2] at hg'; cases hg'
    · have e1 : g1 = g := by rw [hv] at hg; simpa [Value.ownBlock] using hg
      have e2 : g2 = g := by rw [hv2] at hg'; simpa [Value.ownBlock] using hg'
      subst e1
      rw [e2, hg1] at hg2
      injection hg2 with hg2
      injection hg2 with b1 b2 b3
      exact he b2
theorem ODev.pushSec {S L : TypeId} {w w' : World} {base : Nat} {v1 v2 v1' : Value} {d : Dev} {s : ByteArray} (h : ODev S L w base v1 v2 d) (hSL : S ≠ L) (ho : w'.ownsRow base S 1 v1' (d.sec.length + 1) (d.sec.flatMap encStr ++ [.string s])) (hg : w.grownBy w' v1.ownBlock)
    (hn : (d.sec.length + 1) * 16 ≤ 140737488355328) (hs : s.size ≤ 140737488355328) : ODev S L w' base v1' v2 ⟨d.sec ++ [s], d.lost⟩ := by
  refine ⟨?_, own_grown h.2.1 hg (fun g h2 => own_apart h.2.1 h.1 (Ne.symm hSL) g h2), by simpa using hn, h.2.2.2.1, fun x hx => ?_⟩
  · simp only [List.length_append, List.length_cons, List.length_nil, Nat.zero_add, List.flatMap_append, List.flatMap_cons, List.flatMap_nil, List.append_nil]
    exact ho
  · rcases List.mem_append.1 hx with hx | hx
    · exact h.2.2.2.2 x hx
    · obtain rfl := List.mem_singleton.1 hx; exact hs
theorem ODev.pushLost {S L : TypeId} {w w' : World} {base : Nat} {v1 v2 v2' : Value} {d : Dev} {b : Bool} (h : ODev S L w base v1 v2 d) (hSL : S ≠ L) (ho : w'.ownsRow base L 1 v2' (d.lost.length + 1) (d.lost.flatMap encBool ++ [.bool b])) (hg : w.grownBy w' v2.ownBlock)
    (hn : d.lost.length + 1 ≤ 140737488355328) : ODev S L w' base v1 v2' ⟨d.sec, d.lost ++ [b]⟩ := by
  refine ⟨own_grown h.1 hg (fun g h2 => own_apart h.1 h.2.1 hSL g h2), ?_, h.2.2.1, by simpa using hn, h.2.2.2.2⟩
  simp only [List.length_append, List.length_cons, List.length_nil, Nat.zero_add, List.flatMap_append, List.flatMap_cons, List.flatMap_nil, List.append_nil]
  exact ho
section
variable {P : Program} {Q : Exit → Act → World → Prop}
/-- append(s, x): one element more. -/
theorem wpList_push {ops : Array Oper} {rest : List Oper} {o : Oper} {a : Act} {w : World} (s x : Operand) (t : TypeId)
    (ho : o.op = .call { callee := .builtin .append, args := #[s, x], argTypes := #[t, t] }) (hgd : o.guard = none)
    (base : Nat) (e : TypeId) (i : TypeInfo) (z : Value) (bytes : Nat) (ht : P.underlying t = some (.slice e)) (hi : P.info? e = some i) (hz : i.zero = some z)
    (hsize : i.size = 1) (hby : i.bytes = bytes) (hzs : z.cells.size = 1)
    (v : Value) (n : Nat) (xs : List Value) (hs : a.eval s = v) (hown : w.ownsRow base e 1 v n xs)
    (g c : Nat) (u : Value) (hx : a.eval x = .slice (some ⟨g, 0, none⟩) 1 c) (hu : w.cell? ⟨g, 0, none⟩ = some u) (h1 : u.oneCell' = true)
    (h63 : n + 1 ≤ maxLen) (hbytes : (n + 1) * bytes ≤ 140737488355328) (hbase : base ≤ w.heap.size)
    (h : ∀ A' c' w', w'.ownsRow base e 1 (.slice A' (n + 1) c') (n + 1) (xs ++ [u]) → w.grownBy w' v.ownBlock → ((Value.slice A' (n + 1) c').ownBlock = v.ownBlock ∨ (Value.slice A' (n + 1) c').ownBlock = some w.heap.size) → wpList P ops Q rest (a.put o.dst (.slice A' (n + 1) c')) w') : wpList P ops Q (o :: rest) a w :=
  wpList_append_at w hgd s x t ho base e i z 1 bytes ht hi hz hsize hby hzs (by decide) v n xs hs hown ⟨g, 0, none⟩ 1 c [u] hx rfl (fun j u' hj => by
    match j with
    | 0 => simp at hj; subst hj; exact hu
    | j + 1 => simp at hj) (fun u' hu' => by obtain rfl := List.mem_singleton.1 hu'; exact h1) h63 hbytes hbase h
/-- make: a row of zeros. -/
theorem make_row (t e : TypeId) (i : TypeInfo) (z : Value) (ht : P.underlying t = some (.slice e)) (hi : P.info? e = some i) (hz : i.zero = some z) (hsize : i.size = 1) (hzs : z.cells = #[z])
    (n : Nat) (hb : i.bytes * n ≤ 140737488355328) (hn : n ≤ 140737488355328) :
    ∃ cs : Array Value, cs.toList = List.replicate n z ∧ ∀ w : World, (Instr.makeSlice t (.int .i64 n) (.int .i64 n)).run P w = .ok (.slice (some ⟨w.heap.size, 0, none⟩) n n) (w.alloc (.cells cs e)) := by
  have hbb : ((i.bytes : Int) * (n : Int)) = ((i.bytes * n : Nat) : Int) := by simp
  refine ⟨madeCells z.cells (n * i.size), ?_, fun w => ?_⟩
  · rw [hsize, Nat.mul_one, hzs]
    apply List.ext_getElem?
    intro j
    simp only [madeCells, List.getElem?_replicate, Array.getElem?_toList]
    by_cases hj : j < n
    · simp [hj, Array.getElem?_map, Array.getElem?_range, Nat.mod_one]
    · simp [hj]
  · have hr := run_make (P := P) w t e i z ht hi hz .i64 .i64 n n (by omega) (by omega) (by rw [hbb]; omega) (by omega)
    simpa using hr
theorem own_made (w : World) (e : TypeId) (cs : Array Value) (n : Nat) (xs : List Value) (hc : cs.toList = xs) (hn : xs.length = n) (hm : n ≤ 140737488355328) : (w.alloc (.cells cs e)).ownsRow w.heap.size e 1 (.slice (some ⟨w.heap.size, 0, none⟩) n n) n xs := by
  subst hc
  have hs : cs.size = n := by simpa using hn
  refine ⟨by simpa using hn, .inr ⟨w.heap.size, n, cs, rfl, Nat.le_refl _, heap_alloc_new w _, Nat.le_refl _, by unfold maxLen; omega, by omega, ?_⟩⟩
  rw [Nat.mul_one]
  exact List.take_of_length_le (by simp [hs])
end
end Go.Proofs.YtgjijcgkmofaaaaGreatDoor

/-
  array.xor and the document's others: where two texts of one length differ, byte by byte. Conditions: both are of one length, and not empty.
-/
namespace Go.Proofs.YtgjijcgkmofaaaaGreatDoor
set_option linter.unusedSimpArgs false
set_option linter.unusedVariables false
open Go.RowKit

/-- A row of bytes of the call's own. -/
theorem own_buf {w : World} {base : Nat} {e : TypeId} {A : Option Addr} {n c : Nat} {l : List UInt8} (h : w.ownsRow base e 1 (.slice A n c) n (l.flatMap encByte)) (hn : 0 < n) : ∃ g, A = some ⟨g, 0, none⟩ ∧ base ≤ g ∧ Buf e w g l ∧ n = l.length := by
  have h' := h
  have hlen : n = l.length := by
    have h1 := h.1
    rw [length_flatMap (C := 1) (fun _ => rfl)] at h1
    omega
  rcases h.2 with ⟨hv, h0⟩ | ⟨g, cap, cur, hv, hb, hg, _⟩
  · omega
  · injection hv with a1 a2 a3
    subst a1
    refine ⟨g, rfl, hb, ⟨cur, (0, 0), hg, fun i hi => ?_, fun i hi => by simp⟩, hlen⟩
    have hc := h'.cellAt i (by omega)
    rw [cell_of_row w g i cur e (0, 0) hg] at hc
    rw [hc]
    have := flatMap_at (enc := encByte) (C := 1) (fun _ => rfl) l i 0 hi (by decide)
    rw [Nat.mul_one, Nat.add_zero] at this
    rw [this, List.getD_eq_getElem?_getD, List.getElem?_eq_getElem hi]
    rfl
theorem info_byte : (Tryz.prog.info? 5).map (fun i => (i.zero, i.size, i.bytes)) = some (some (.int .u8 0), 1, 1) := by kernel_rfl

/-- The first k bytes are those of both, where they differ; then those of the first one. -/
def xorTo (s t : ByteArray) (k : Nat) : List UInt8 := (List.zipWith (fun a b => a ^^^ b) (lst s) (lst t)).take k ++ (lst s).drop k
theorem xorTo_zero (s t : ByteArray) : xorTo s t 0 = lst s := by unfold xorTo; simp
theorem xorTo_len {s t : ByteArray} (h : s.size = t.size) (k : Nat) (hk : k ≤ s.size) : (xorTo s t k).length = s.size := by
  unfold xorTo; rw [List.length_append, List.length_take, List.length_zipWith, List.length_drop, length_lst, length_lst]; omega
theorem xorTo_end {s t : ByteArray} (h : s.size = t.size) : bs (xorTo s t s.size) = xorS s t := by
  unfold xorTo xorS
  rw [List.take_of_length_le (by rw [List.length_zipWith, length_lst, length_lst]; omega), List.drop_of_length_le (by rw [length_lst]; exact Nat.le_refl _), List.append_nil]
theorem xorTo_at {s t : ByteArray} (h : s.size = t.size) (k : Nat) (hk : k < s.size) : (xorTo s t k).getD k 0 = s[k] := by
  unfold xorTo
  have hl : ((List.zipWith (fun a b => a ^^^ b) (lst s) (lst t)).take k).length = k := by rw [List.length_take, List.length_zipWith, length_lst, length_lst]; omega
  rw [List.getD_eq_getElem?_getD, List.getElem?_append_right (by omega), hl, Nat.sub_self, List.getElem?_drop, Nat.add_zero, List.getElem?_eq_getElem (by rw [length_lst]; exact hk)]
  rfl
theorem xorTo_succ {s t : ByteArray} (h : s.size = t.size) (k : Nat) (hk : k < s.size) : (xorTo s t k).set k (s[k] ^^^ t[k]'(by omega)) = xorTo s t (k + 1) := by
  unfold xorTo
  have hl : ((List.zipWith (fun a b => a ^^^ b) (lst s) (lst t)).take k).length = k := by rw [List.length_take, List.length_zipWith, length_lst, length_lst]; omega
  have hz : k < (List.zipWith (fun a b => a ^^^ b) (lst s) (lst t)).length := by rw [List.length_zipWith, length_lst, length_lst]; omega
  rw [List.set_append_right _ _ (by omega), hl, Nat.sub_self, List.drop_eq_getElem_cons (by rw [length_lst]; exact hk), List.set_cons_zero, List.take_succ_eq_append_getElem hz, List.getElem_zipWith, List.append_assoc]
  rfl
theorem xor_byte (a b : UInt8) : bits .xor .u8 (a.toNat : Int) (b.toNat : Int) = ((a ^^^ b).toNat : Int) := by
  rw [u8_xor_nat _ _ (UInt8.toNat_lt _) (UInt8.toNat_lt _)]
  simp
set_option maxRecDepth 100000 in
set_option maxHeartbeats 800000 in
theorem xor_any (s t : ByteArray) (w : World) (h : s.size = t.size) (hs : s.size ≤ 140737488355328) :
    Calls Tryz.prog 138 #[.string s, .string t] w fun e w' => e = .returned (.string (xorS s t)) ∧ Ext w w' := by
  have HE := Lib.hid h
  go_enter Tryz.func138, Tryz.ntmps138
  clear h
  go_wp2_with (refine wpList_tobytes (.tmp 7) 9 95 5 rfl rfl Tryz.underlying9 Tryz.underlying95 Tryz.underlying5 s rfl ?_)
  intro g cap w1 hg ex1 hb1 hcap
  have HB1 := Lib.hid hb1
  have HX1 := Lib.hid ex1
  clear hb1 ex1
  go_wp2_with fail
  go_loopw [11] (fun i wr => ∃ k : Nat, i = .int .i64 k ∧ k ≤ s.size ∧ Ext w wr ∧ Buf 5 wr g (xorTo s t k)) (fun i _ => s.size - (intOf i).toNat)
  case atStart => exact ⟨0, rfl, Nat.zero_le _, HX1.out, by rw [xorTo_zero]; exact HB1.out⟩
  case round =>
    clear HB1 HX1
    obtain ⟨k, rfl, hk, hx, hb⟩ := hrel
    by_cases hlt : k < s.size
    · have hlt2 : k < t.size := by have := HE.out; omega
      have hki : (k : Int) < (s.size : Int) := by omega
      have hki2 : (k : Int) < (t.size : Int) := by omega
      have hbl : k < (xorTo s t k).length := by rw [xorTo_len HE.out k hk]; exact hlt
      have bp := hb.cell k hbl
      have bz := hb.frozen k hbl
      rw [xorTo_at HE.out k hlt] at bp
      have hxb := xor_byte (s[k]) (t[k])
      have c0 := u8_hi s[k]
      have c1 := u8_hi t[k]
      have hset := hb.set k (((s[k] ^^^ t[k]).toNat : Int)) (u8_lo _) (u8_hi _)
      rw [byte_u8, xorTo_succ HE.out k hlt] at hset
      have HSET := Lib.hid hset
      have HXB := Lib.hid hxb
      clear hb hset hbl hxb
      go_wp2_with fail
      refine wp_region_begin (S := fun W' => W'.cell? ⟨g, k, none⟩ = some (.int .u8 (s[k].toNat : Int))) (n := 9) (by kernel_rfl) rfl (by kernel_rfl) rfl ?_
      have hS0 : (fun W' => W'.cell? ⟨g, k, none⟩ = some (.int .u8 (s[k].toNat : Int))) wr.drew := bp
      refine wpAnyH_takeL (i := 0) (v := ?_) rfl (by kernel_rfl) (fun _ _ _ h => h) rfl ?_ hS0 ?_
      rotate_left
      · intro w' hS
        try dsimp only at hS
        go_simp
        rfl
      try simp only [Act.put, List.setIfInBounds_toArray, List.set_cons_zero, List.set_cons_succ]
      refine wpAnyH_takeL (i := 1) (v := ?_) rfl (by kernel_rfl) (fun _ _ _ h => h) rfl ?_ hS0 ?_
      rotate_left
      · intro w' hS
        try dsimp only at hS
        go_simp
        rfl
      try simp only [Act.put, List.setIfInBounds_toArray, List.set_cons_zero, List.set_cons_succ]
      refine wpAnyH_takeL (i := 2) (v := ?_) rfl (by kernel_rfl) (fun _ _ _ h => h) rfl ?_ hS0 ?_
      rotate_left
      · intro w' hS
        try dsimp only at hS
        go_simp
        rfl
      try simp only [Act.put, List.setIfInBounds_toArray, List.set_cons_zero, List.set_cons_succ]
      refine wpAnyH_takeL (i := 3) (v := ?_) rfl (by kernel_rfl) (fun _ _ _ h => h) rfl ?_ hS0 ?_
      rotate_left
      · intro w' hS
        try dsimp only at hS
        go_simp
        rfl
      try simp only [Act.put, List.setIfInBounds_toArray, List.set_cons_zero, List.set_cons_succ]
      refine wpAnyH_takeL (i := 4) (v := ?_) rfl (by kernel_rfl) (fun _ _ _ h => h) rfl ?_ hS0 ?_
      rotate_left
      · intro w' hS
        try dsimp only at hS
        go_simp
        rfl
      try simp only [Act.put, List.setIfInBounds_toArray, List.set_cons_zero, List.set_cons_succ]
      refine wpAnyH_takeL (i := 5) (v := ?_) rfl (by kernel_rfl) (fun _ _ _ h => h) rfl ?_ hS0 ?_
      rotate_left
      · intro w' hS
        try dsimp only at hS
        go_simp
        rfl
      try simp only [Act.put, List.setIfInBounds_toArray, List.set_cons_zero, List.set_cons_succ]
      refine wpAnyH_takeL (i := 6) (v := ?_) rfl (by kernel_rfl) (fun _ _ _ h => h) rfl ?_ hS0 ?_
      rotate_left
      · intro w' hS
        try dsimp only at hS
        go_simp
        rfl
      try simp only [Act.put, List.setIfInBounds_toArray, List.set_cons_zero, List.set_cons_succ]
      refine wpAnyH_takeL (i := 7) (v := ?_) rfl (by kernel_rfl) (fun _ _ _ h => h) rfl ?_ hS0 ?_
      rotate_left
      · intro w' hS
        try dsimp only at hS
        go_simp
        rfl
      try simp only [Act.put, List.setIfInBounds_toArray, List.set_cons_zero, List.set_cons_succ]
      rw [HXB.out]
      refine wpAnyH_takeL (i := 8) (v := ?_) rfl (by kernel_rfl) (fun _ _ _ h => h) rfl ?_ hS0 ?_
      rotate_left
      · intro w' hS
        try dsimp only at hS
        go_simp
        rfl
      try simp only [Act.put, List.setIfInBounds_toArray, List.set_cons_zero, List.set_cons_succ]
      refine wpAnyH_endL (by kernel_rfl) (fun K hK => ?_)
      go_wp2_with fail
      go_roundw
      case rel => exact ⟨k + 1, by go_num, by omega, (hx.drew).setCell (by dsimp only; omega) _, HSET.out⟩
      case measure => simp [intOf]; omega
    · obtain rfl : k = s.size := by omega
      have HLN := Lib.hid (xorTo_len HE.out s.size hk)
      have hfin := xorTo_end HE.out
      have HFN := Lib.hid hfin
      have HBB := Lib.hid hb
      clear hb hfin
      go_wp2_with (refine wpList_frombytes (.tmp 24) 95 9 5 rfl rfl Tryz.underlying95 Tryz.underlying5 Tryz.underlying9 g s.size cap _ HBB.out HLN.out.symm rfl ?_)
      rw [HFN.out]
      go_wp2_with fail
      go_ret
      exact ⟨rfl, hx⟩

def xorL (s t : ByteArray) : List UInt8 := List.zipWith (fun a b => a ^^^ b) (lst s) (lst t)
theorem xorL_len {s t : ByteArray} (h : s.size = t.size) : (xorL s t).length = s.size := by unfold xorL; rw [List.length_zipWith, length_lst, length_lst]; omega
theorem xorL_succ {s t : ByteArray} (h : s.size = t.size) (k : Nat) (hk : k < s.size) : ((xorL s t).take (k + 1)).flatMap encByte = ((xorL s t).take k).flatMap encByte ++ [.int .u8 ((s[k] ^^^ t[k]'(by omega)).toNat : Int)] := by
  have hz : k < (xorL s t).length := by rw [xorL_len h]; exact hk
  rw [List.take_succ_eq_append_getElem hz, List.flatMap_append]
  congr 1
  have hg : (xorL s t)[k] = s[k] ^^^ t[k]'(by omega) := by
    have := List.getElem_zipWith (f := fun a b : UInt8 => a ^^^ b) (l := lst s) (l' := lst t) (i := k) (h := hz)
    exact this
  rw [hg]
  rfl
end Go.Proofs.YtgjijcgkmofaaaaGreatDoor

/-
  Bytes of which one is another one have another seal; a sector is read as it was written; spoilt it is not. In plain Lean. Conditions: none.
-/
namespace Go.Proofs.YtgjijcgkmofaaaaGreatDoor
set_option linter.unusedSimpArgs false
set_option linter.unusedVariables false
open Go.RowKit

def sumB : List UInt8 → Int
  | [] => 0
  | c :: l => (c.toNat : Int) + sumB l
theorem sealFold_fst (l : List UInt8) (p : Int × Int) : (l.foldl sealStep p).1 % 65521 = (p.1 + sumB l) % 65521 := by
  induction l generalizing p with
  | nil => simp [sumB]
  | cons c l ih =>
    rw [List.foldl_cons, ih]
    simp only [sealStep, sumB]
    omega
theorem sealXY_fst (l : List UInt8) : (sealXY l).1 = (1 + sumB l) % 65521 := by
  have h := sealXY_range l
  have := sealFold_fst l (1, 0)
  unfold sealXY at h ⊢
  unfold InRange at h
  omega
theorem byte_toNat (n : Int) (h0 : 0 ≤ n) (h1 : n < 256) : ((byte n).toNat : Int) = n := by
  unfold byte
  rw [UInt8.toNat_ofNat']
  omega
theorem sumB_set (l : List UInt8) (k : Nat) (hk : k < l.length) (c : UInt8) : sumB (l.set k c) = sumB l - (l[k].toNat : Int) + (c.toNat : Int) := by
  induction l generalizing k with
  | nil => simp at hk
  | cons a l ih =>
    cases k with
    | zero => simp only [List.set_cons_zero, sumB, List.getElem_cons_zero]; omega
    | succ k =>
      have := ih k (by simpa using hk)
      simp only [List.set_cons_succ, sumB, List.getElem_cons_succ, this]; omega
theorem seal_fst {l l' : List UInt8} (h : sealOf l = sealOf l') : (sealXY l).1 = (sealXY l').1 := by
  unfold sealOf sealBytes at h
  simp only [List.cons.injEq, and_true] at h
  obtain ⟨_, _, h1, h2⟩ := h
  have r := sealXY_range l
  have r' := sealXY_range l'
  unfold InRange at r r'
  have e1 := byte_toNat ((sealXY l).1 / 256) (by omega) (by omega)
  have e2 := byte_toNat ((sealXY l').1 / 256) (by omega) (by omega)
  have e3 := byte_toNat ((sealXY l).1 % 256) (by omega) (by omega)
  have e4 := byte_toNat ((sealXY l').1 % 256) (by omega) (by omega)
  rw [h1] at e1
  rw [h2] at e3
  omega
theorem seal_tells (l : List UInt8) (k : Nat) (hk : k < l.length) (c : UInt8) (hc : c ≠ l[k]) : sealOf (l.set k c) ≠ sealOf l := by
  intro h
  have h1 := seal_fst h
  rw [sealXY_fst, sealXY_fst, sumB_set l k hk c] at h1
  have b1 := u8_bd c
  have b2 := u8_bd l[k]
  apply hc
  apply UInt8.toNat_inj.1
  omega

/-- The payload as it is read again. -/
def padS (s : ByteArray) : ByteArray := bs (lst s ++ List.replicate (24 - s.size) 0)
theorem padS_size {s : ByteArray} (h : s.size ≤ 24) : (padS s).size = 24 := by
  unfold padS; rw [size_bs, List.length_append, List.length_replicate, length_lst]; omega
theorem lst_extract (s : ByteArray) (a b : Nat) : lst (s.extract a b) = sub_ s a b := by
  unfold lst sub_
  rw [ByteArray.data_extract, Array.toList_extract]
  simp [List.extract, List.drop_take, lst]
theorem sectorNo_at (s : ByteArray) (h : 2 ≤ s.size) : sectorNo s h = 256 * ((at_ s 0).toNat : Int) + ((at_ s 1).toNat : Int) := by
  unfold sectorNo; rw [at_eq s 0 (by omega), at_eq s 1 (by omega)]
/-- decode, told by lists. -/
theorem decodeS_eq (no : Int) (s : ByteArray) : decodeS no s = if s.size = 30 then (if sealOf ((lst s).take 26) = (lst s).drop 26 then (if 256 * ((at_ s 0).toNat : Int) + ((at_ s 1).toNat : Int) = no then (bs (((lst s).take 26).drop 2), 0) else (.empty, 4)) else (.empty, 10)) else (.empty, 1) := by
  unfold decodeS
  by_cases h : s.size = 30
  · rw [dif_pos h, if_pos h, sectorNo_at]
    have e1 : lst (s.extract 0 26) = (lst s).take 26 := by rw [lst_extract]; rfl
    have e2 : (s.extract 26 s.size).toList = (lst s).drop 26 := by rw [toList_lst, lst_extract]; unfold sub_; rw [take_all]
    have e3 : s.extract 2 26 = bs (((lst s).take 26).drop 2) := lst_inj (by rw [lst_extract, lst_bs]; rfl)
    rw [e1, e2, e3, toList_lst, lst_bs]
    by_cases h2 : sealOf ((lst s).take 26) = (lst s).drop 26
    · rw [if_pos (by simpa using h2), if_pos h2]
    · rw [if_neg (by simpa using h2), if_neg h2]
  · rw [dif_neg h, if_neg h]
theorem lst_enc {no : Int} {s : ByteArray} (h0 : 0 ≤ no) (h1 : no ≤ 65535) (h2 : s.size ≤ 24) : lst (encodeS no s).1 = rawS no s ++ sealOf (rawS no s) := by
  rw [encodeS_ok h0 h1 h2]; exact lst_bs _
theorem at_lst (s : ByteArray) (k : Nat) : at_ s k = (lst s).getD k 0 := by
  unfold at_
  split
  · rename_i h
    rw [List.getD_eq_getElem?_getD, List.getElem?_eq_getElem (by rw [length_lst]; exact h)]
    rfl
  · rename_i h
    rw [List.getD_eq_getElem?_getD, List.getElem?_eq_none (by rw [length_lst]; omega)]
    rfl
theorem decode_encode (no no' : Int) (s : ByteArray) (h0 : 0 ≤ no) (h1 : no ≤ 65535) (h2 : s.size ≤ 24) : decodeS no' (encodeS no s).1 = if no = no' then (padS s, 0) else (.empty, 4) := by
  have hl := lst_enc h0 h1 h2
  have hr := rawS_length (no := no) h2
  rw [decodeS_eq, if_pos (encodeS_size h0 h1 h2), hl, List.take_left' hr, List.drop_left' hr, if_pos rfl, at_lst, at_lst, hl]
  have e1 := byte_toNat (no / 256) (by omega) (by omega)
  have e2 := byte_toNat (no % 256) (by omega) (by omega)
  have e3 : (rawS no s ++ sealOf (rawS no s)).getD 0 0 = byte (no / 256) := rfl
  have e4 : (rawS no s ++ sealOf (rawS no s)).getD 1 0 = byte (no % 256) := rfl
  rw [e3, e4, e1, e2, show 256 * (no / 256) + no % 256 = no from by omega]
  rfl
/-- A byte of a sound sector is another one: the seal tells. -/
theorem decode_spoilt (no no' : Int) (s : ByteArray) (h0 : 0 ≤ no) (h1 : no ≤ 65535) (h2 : s.size ≤ 24) (k : Nat) (hk : k < 30) (c : UInt8) (hc : c ≠ at_ (encodeS no s).1 k) :
    decodeS no' (bs ((lst (encodeS no s).1).set k c)) = (.empty, 10) := by
  have hl := lst_enc h0 h1 h2
  have hr := rawS_length (no := no) h2
  have hsz := encodeS_size h0 h1 h2
  have hz : (bs ((lst (encodeS no s).1).set k c)).size = 30 := by rw [size_bs, List.length_set, length_lst, hsz]
  rw [decodeS_eq, if_pos hz, lst_bs]
  have ha : at_ (encodeS no s).1 k = (rawS no s ++ sealOf (rawS no s)).getD k 0 := by rw [at_lst, hl]
  rw [ha] at hc
  rw [hl]
  by_cases h26 : k < 26
  · have e1 : ((rawS no s ++ sealOf (rawS no s)).set k c) = (rawS no s).set k c ++ sealOf (rawS no s) := by rw [List.set_append_left _ _ (by omega)]
    rw [e1, List.take_left' (by rw [List.length_set, hr]), List.drop_left' (by rw [List.length_set, hr])]
    rw [if_neg]
    refine seal_tells _ k (by omega) c ?_
    rw [List.getD_eq_getElem?_getD, List.getElem?_append_left (by omega), List.getElem?_eq_getElem (by omega)] at hc
    exact hc
  · have e1 : ((rawS no s ++ sealOf (rawS no s)).set k c) = rawS no s ++ (sealOf (rawS no s)).set (k - 26) c := by rw [List.set_append_right _ _ (by omega), hr]
    rw [e1, List.take_left' hr, List.drop_left' hr]
    rw [if_neg]
    intro he
    have hk4 : k - 26 < (sealOf (rawS no s)).length := by rw [length_sealOf]; omega
    have := congrArg (fun l => l[k - 26]?) he
    simp only [List.getElem?_set_self hk4] at this
    rw [List.getD_eq_getElem?_getD, List.getElem?_append_right (by omega), hr, this] at hc
    exact hc rfl
end Go.Proofs.YtgjijcgkmofaaaaGreatDoor

/-
  Devices in plain Lean: what is read after a sector was written, lost or turned, and that other sectors stay. Conditions: none.
-/
namespace Go.Proofs.YtgjijcgkmofaaaaGreatDoor
set_option linter.unusedSimpArgs false
set_option linter.unusedVariables false
open Go.RowKit

theorem devMay_iff {d : Dev} : devMay d = true ↔ 1 ≤ d.sec.length ∧ d.sec.length ≤ 64 ∧ d.lost.length = d.sec.length ∧ ∀ s ∈ d.sec, s.size = 30 := by
  constructor
  · exact devMay_len
  · rintro ⟨h1, h2, h3, h4⟩
    unfold devMay
    have h5 : d.sec.any badRaw = false := by
      rw [List.any_eq_false]
      intro s hs
      unfold badRaw
      have := h4 s hs
      simp [this]
    simp [h1, h2, h3, h5]
theorem touch_iff {d : Dev} {n : Int} : touchCode d n = 0 ↔ devMay d = true ∧ 0 ≤ n ∧ n < d.sec.length := by
  constructor
  · exact touch_zero
  · rintro ⟨h1, h2, h3⟩
    unfold touchCode
    rw [if_pos h1, if_pos (by simp [inB]; omega)]
theorem touchCode_congr {d e : Dev} (h1 : devMay d = devMay e) (h2 : d.sec.length = e.sec.length) (n : Int) : touchCode d n = touchCode e n := by
  unfold touchCode; rw [h1, h2]
theorem devMay_set {d : Dev} (h : devMay d = true) (k : Nat) (s : ByteArray) (hs : s.size = 30) (l : List Bool) (hl : l.length = d.lost.length) : devMay ⟨d.sec.set k s, l⟩ = true := by
  obtain ⟨h1, h2, h3, h4⟩ := devMay_len h
  refine devMay_iff.2 ⟨by simpa using h1, by simpa using h2, by simp only [List.length_set]; omega, fun x hx => ?_⟩
  rcases List.mem_or_eq_of_mem_set hx with hx | rfl
  · exact h4 x hx
  · exact hs
theorem devMay_lost {d : Dev} (h : devMay d = true) (l : List Bool) (hl : l.length = d.lost.length) : devMay ⟨d.sec, l⟩ = true := by
  obtain ⟨h1, h2, h3, h4⟩ := devMay_len h
  exact devMay_iff.2 ⟨h1, h2, by show l.length = d.sec.length; omega, h4⟩
theorem writeS_ok {d : Dev} {n no : Int} {s : ByteArray} (h : touchCode d n = 0) (h0 : 0 ≤ no) (h1 : no ≤ 65535) (h2 : s.size ≤ 24) : writeS d n no s = (⟨d.sec.set n.toNat (encodeS no s).1, d.lost.set n.toNat false⟩, 0) := by
  unfold writeS
  rw [if_pos h, if_pos (by rw [encodeS_ok h0 h1 h2])]
theorem write_may {d : Dev} {n no : Int} {s : ByteArray} (h : touchCode d n = 0) (h0 : 0 ≤ no) (h1 : no ≤ 65535) (h2 : s.size ≤ 24) : devMay (writeS d n no s).1 = true ∧ (writeS d n no s).1.sec.length = d.sec.length := by
  rw [writeS_ok h h0 h1 h2]
  exact ⟨devMay_set (touch_zero h).1 _ _ (encodeS_size h0 h1 h2) _ (by simp), by simp⟩
theorem write_touch {d : Dev} {n no : Int} {s : ByteArray} (h : touchCode d n = 0) (h0 : 0 ≤ no) (h1 : no ≤ 65535) (h2 : s.size ≤ 24) (m : Int) : touchCode (writeS d n no s).1 m = touchCode d m := by
  have := write_may h h0 h1 h2
  exact touchCode_congr (by rw [this.1, (touch_zero h).1]) this.2 m
theorem read_eq {d : Dev} {n : Int} (no : Int) (h : touchCode d n = 0) : readS d n no = if d.lost.getD n.toNat false then (.empty, 11) else decodeS no (d.sec.getD n.toNat .empty) := by
  unfold readS; rw [if_pos h]
theorem getD_set_self {α : Type} (l : List α) (k : Nat) (a b : α) (h : k < l.length) : (l.set k a).getD k b = a := by
  rw [List.getD_eq_getElem?_getD, List.getElem?_set_self h]; rfl
theorem getD_set_ne {α : Type} (l : List α) (k j : Nat) (a b : α) (h : k ≠ j) : (l.set k a).getD j b = l.getD j b := by
  rw [List.getD_eq_getElem?_getD, List.getElem?_set_ne h, List.getD_eq_getElem?_getD]
theorem read_write {d : Dev} {n no : Int} {s : ByteArray} (h : touchCode d n = 0) (h0 : 0 ≤ no) (h1 : no ≤ 65535) (h2 : s.size ≤ 24) (no' : Int) :
    readS (writeS d n no s).1 n no' = if no = no' then (padS s, 0) else (.empty, 4) := by
  obtain ⟨hm, hn, hl⟩ := touch_zero h
  obtain ⟨m1, m2, m3, _⟩ := devMay_len hm
  rw [read_eq no' (by rw [write_touch h h0 h1 h2]; exact h), writeS_ok h h0 h1 h2]
  simp only
  rw [getD_set_self _ _ _ _ (by omega), getD_set_self _ _ _ _ (by omega), if_neg (by decide)]
  exact decode_encode no no' s h0 h1 h2
theorem read_write_other {d : Dev} {n no : Int} {s : ByteArray} (h : touchCode d n = 0) (h0 : 0 ≤ no) (h1 : no ≤ 65535) (h2 : s.size ≤ 24) (m no' : Int) (hm : 0 ≤ m) (hne : m ≠ n) :
    readS (writeS d n no s).1 m no' = readS d m no' := by
  have hn := (touch_zero h).2.1
  unfold readS
  rw [write_touch h h0 h1 h2, writeS_ok h h0 h1 h2]
  simp only
  rw [getD_set_ne _ _ _ _ _ (by omega), getD_set_ne _ _ _ _ _ (by omega)]
theorem loseS_ok {d : Dev} {n : Int} (h : touchCode d n = 0) : loseS d n = ⟨d.sec, d.lost.set n.toNat true⟩ := by unfold loseS; rw [if_pos h]
theorem lose_may {d : Dev} {n : Int} (h : touchCode d n = 0) : devMay (loseS d n) = true := by
  rw [loseS_ok h]; exact devMay_lost (touch_zero h).1 _ (by simp)
theorem lose_len {d : Dev} {n : Int} (h : touchCode d n = 0) : (loseS d n).sec.length = d.sec.length := by rw [loseS_ok h]
theorem lose_touch {d : Dev} {n : Int} (h : touchCode d n = 0) (m : Int) : touchCode (loseS d n) m = touchCode d m := touchCode_congr (by rw [lose_may h, (touch_zero h).1]) (lose_len h) m
theorem read_lose {d : Dev} {n : Int} (h : touchCode d n = 0) (no : Int) : readS (loseS d n) n no = (.empty, 11) := by
  obtain ⟨hm, hn, hl⟩ := touch_zero h
  obtain ⟨m1, m2, m3, _⟩ := devMay_len hm
  rw [read_eq no (by rw [lose_touch h]; exact h), loseS_ok h]
  simp only
  rw [getD_set_self _ _ _ _ (by omega), if_pos rfl]
theorem read_lose_other {d : Dev} {n : Int} (h : touchCode d n = 0) (m no : Int) (hm : 0 ≤ m) (hne : m ≠ n) : readS (loseS d n) m no = readS d m no := by
  have hn := (touch_zero h).2.1
  unfold readS
  rw [lose_touch h, loseS_ok h]
  simp only
  rw [getD_set_ne _ _ _ _ _ (by omega)]
theorem turnS_ok {d : Dev} {n place by_ : Int} (h : touchCode d n = 0) (hp : 0 ≤ place ∧ place ≤ 29) (hb : 0 ≤ by_ ∧ by_ ≤ 255) : turnS d n place by_ = (⟨d.sec.set n.toNat (turnB (d.sec.getD n.toNat .empty) place by_), d.lost⟩, 0) := by
  unfold turnS
  rw [if_pos h, if_pos (by simp [inB]; omega)]
theorem getD_mem {α : Type} (l : List α) (k : Nat) (a : α) (h : k < l.length) : l.getD k a ∈ l := by
  rw [List.getD_eq_getElem?_getD, List.getElem?_eq_getElem h]; exact List.getElem_mem h
theorem turn_may {d : Dev} {n place by_ : Int} (h : touchCode d n = 0) (hp : 0 ≤ place ∧ place ≤ 29) (hb : 0 ≤ by_ ∧ by_ ≤ 255) : devMay (turnS d n place by_).1 = true ∧ (turnS d n place by_).1.sec.length = d.sec.length := by
  obtain ⟨hm, hn, hl⟩ := touch_zero h
  obtain ⟨m1, m2, m3, m4⟩ := devMay_len hm
  rw [turnS_ok h hp hb]
  refine ⟨devMay_set hm _ _ ?_ _ rfl, by simp⟩
  rw [turnB_size]
  exact m4 _ (getD_mem _ _ _ (by omega))
theorem turn_touch {d : Dev} {n place by_ : Int} (h : touchCode d n = 0) (hp : 0 ≤ place ∧ place ≤ 29) (hb : 0 ≤ by_ ∧ by_ ≤ 255) (m : Int) : touchCode (turnS d n place by_).1 m = touchCode d m := by
  have := turn_may h hp hb
  exact touchCode_congr (by rw [this.1, (touch_zero h).1]) this.2 m
theorem read_turn_other {d : Dev} {n place by_ : Int} (h : touchCode d n = 0) (hp : 0 ≤ place ∧ place ≤ 29) (hb : 0 ≤ by_ ∧ by_ ≤ 255) (m no : Int) (hm : 0 ≤ m) (hne : m ≠ n) : readS (turnS d n place by_).1 m no = readS d m no := by
  have hn := (touch_zero h).2.1
  unfold readS
  rw [turn_touch h hp hb, turnS_ok h hp hb]
  simp only
  rw [getD_set_ne _ _ _ _ _ (by omega)]
/-- A byte of a sound sector that is turned: the seal tells. -/
theorem read_turn {d : Dev} {n place by_ : Int} (h : touchCode d n = 0) (hp : 0 ≤ place ∧ place ≤ 29) (hb : 1 ≤ by_ ∧ by_ ≤ 255) (no no' : Int) (s : ByteArray) (h0 : 0 ≤ no) (h1 : no ≤ 65535) (h2 : s.size ≤ 24)
    (hs : d.sec.getD n.toNat .empty = (encodeS no s).1) (hl : d.lost.getD n.toNat false = false) : readS (turnS d n place by_).1 n no' = (.empty, 10) := by
  obtain ⟨hm, hn, hln⟩ := touch_zero h
  rw [read_eq no' (by rw [turn_touch h hp ⟨by omega, hb.2⟩]; exact h), turnS_ok h hp ⟨by omega, hb.2⟩]
  simp only
  rw [hl, if_neg (by decide), getD_set_self _ _ _ _ (by omega), hs]
  unfold turnB
  refine decode_spoilt no no' s h0 h1 h2 place.toNat (by omega) _ ?_
  intro he
  have := byte_toNat ((((at_ (encodeS no s).1 place.toNat).toNat : Int) + by_) % 256) (by omega) (by omega)
  rw [he] at this
  have hb2 := u8_bd (at_ (encodeS no s).1 place.toNat)
  omega
/-- A new device. -/
theorem fresh_len (many : Nat) (from_ : Int) : (freshDev many from_).sec.length = many := by unfold freshDev; simp
theorem fresh_sec (many : Nat) (from_ : Int) (k : Nat) (h : k < many) : (freshDev many from_).sec.getD k .empty = (encodeS (from_ + k) .empty).1 := by
  unfold freshDev
  simp only
  rw [List.getD_eq_getElem?_getD, List.getElem?_map, List.getElem?_range h]; rfl
theorem fresh_lost (many : Nat) (from_ : Int) (k : Nat) : (freshDev many from_).lost.getD k false = false := by
  unfold freshDev
  simp only
  rw [List.getD_eq_getElem?_getD, List.getElem?_replicate]
  split <;> rfl
theorem fresh_may (many : Nat) (from_ : Int) (h1 : 1 ≤ many) (h2 : many ≤ 64) (h3 : 0 ≤ from_) (h4 : from_ ≤ 512) : devMay (freshDev many from_) = true := by
  refine devMay_iff.2 ⟨by rw [fresh_len]; exact h1, by rw [fresh_len]; exact h2, by rw [fresh_len]; simp [freshDev], fun s hs => ?_⟩
  unfold freshDev at hs
  obtain ⟨i, hi, rfl⟩ := List.mem_map.1 hs
  have := List.mem_range.1 hi
  exact encodeS_size (by omega) (by omega) (by decide)
end Go.Proofs.YtgjijcgkmofaaaaGreatDoor

/-
  Arrays in plain Lean: writing a sector, replacing a device, bad copies, healing; both ways of writing the parity are one. Conditions: none.
-/
namespace Go.Proofs.YtgjijcgkmofaaaaGreatDoor
set_option linter.unusedSimpArgs false
set_option linter.unusedVariables false
open Go.RowKit

def writeP (a : List Dev) (n : Int) (s : ByteArray) : Dev := (writeS (dv a 2) (n / 2) (512 + n / 2) s).1
def parityS (a : List Dev) (n : Int) : List Dev :=
  if (mirrorS a n).2 ≠ 0 ∧ (mirrorS a (partner n)).2 ≠ 0 then a.set 2 (writeP a n (xorS (mirrorS a n).1 (mirrorS a (partner n)).1)) else a.set 2 (loseS (dv a 2) (n / 2))
/-- The other one of the two is written first, where the parity alone tells it. -/
def savedS (a : List Dev) (n : Int) : List Dev := if (arrReadS a (partner n)).2.2 = 0 ∧ (arrReadS a (partner n)).2.1 = 3 then bothS a (partner n) (arrReadS a (partner n)).1 else a
def arrWrite3 (a : List Dev) (n : Int) (s : ByteArray) : List Dev := parityS (bothS (savedS a n) n s) n
def arrWriteS (a : List Dev) (n : Int) (s : ByteArray) : List Dev × Int :=
  if arrTouch a n ≠ 0 then ([], arrTouch a n) else if 24 < s.size then ([], 1) else (arrWrite3 a n s, 0)
def lostDev (d : Dev) : Dev := ⟨d.sec, List.replicate d.lost.length true⟩
def replaceS (a : List Dev) (d : Int) : List Dev × Int :=
  if !arrMay a then ([], 9) else if !inB d 0 2 then ([], 2) else (a.set d.toNat (lostDev (if d = 2 then freshDev ((dv a 0).sec.length / 2) 512 else freshDev (dv a 0).sec.length 0)), 0)
def parRightS (a : List Dev) (n : Int) : Bool × Bool :=
  if (arrReadS a n).2.2 ≠ 0 ∨ (arrReadS a (partner n)).2.2 ≠ 0 then (false, false)
  else (decide ((parS a n).2 = 0) && decide (lst (parS a n).1 = lst (xorS (arrReadS a n).1 (arrReadS a (partner n)).1)), true)
def b2i (b : Bool) : Int := if b then 1 else 0
def badS (a : List Dev) (n : Int) : Int × Int :=
  if arrTouch a n ≠ 0 then (0, arrTouch a n)
  else (b2i (decide ((readS (dv a 0) n n).2 ≠ 0)) + b2i (decide ((readS (dv a 1) n n).2 ≠ 0)) + b2i (decide (n % 2 = 0) && !(parRightS a n).1), 0)
def healOne (a : List Dev) (k : Nat) (n : Int) (s : ByteArray) (how : Int) : List Dev × Int :=
  if (readS (dv a k) n n).2 = 0 ∧ (lst (readS (dv a k) n n).1 = lst s ∨ how ≠ 1) then (a, 0) else (a.set k (writeS (dv a k) n n s).1, 1)
def healPar (a : List Dev) (n : Int) (s : ByteArray) : List Dev × Int :=
  if (parRightS a n).2 = true ∧ (parRightS a n).1 = false then (a.set 2 (writeP a n (xorS s (arrReadS a (partner n)).1)), 1) else (a, 0)
def healS (a : List Dev) (n : Int) : List Dev × Int × Int :=
  if (arrReadS a n).2.2 ≠ 0 then ([], 0, (arrReadS a n).2.2)
  else
    let r := arrReadS a n
    let x := healOne a 0 n r.1 r.2.1
    let y := healOne x.1 1 n r.1 r.2.1
    let z := healPar y.1 n r.1
    (z.1, x.2 + y.2 + z.2, 0)
def healthLoop (a : List Dev) : Nat → Nat → Int → List Int → Int × List Int
  | 0, _, bad, gone => (bad, gone)
  | m + 1, k, bad, gone => healthLoop a m (k + 1) (bad + (badS a k).1) (if (arrReadS a k).2.2 ≠ 0 then gone ++ [(k : Int)] else gone)
def healthS (a : List Dev) : Int × List Int × Int :=
  if !arrMay a then (0, [], 9) else ((healthLoop a (dv a 0).sec.length 0 0 []).1, (healthLoop a (dv a 0).sec.length 0 0 []).2, 0)
/-- Streams. -/
def streamFaultS (a : List Dev) (first n : Int) : Int :=
  if !arrMay a then 9 else if !inB n 0 1536 then 1 else if !inB first 0 (dv a 0).sec.length || decide (((dv a 0).sec.length : Int) < first + (n + 23) / 24) then 2 else 0
def streamReadLoop (a : List Dev) : Nat → Int → ByteArray → ByteArray × Int
  | 0, _, s => (s, 0)
  | m + 1, k, s => if (arrReadS a k).2.2 ≠ 0 then (.empty, (arrReadS a k).2.2) else streamReadLoop a m (k + 1) (s ++ (arrReadS a k).1)
def streamReadS (a : List Dev) (first n : Int) : ByteArray × Int :=
  if streamFaultS a first n ≠ 0 then (.empty, streamFaultS a first n)
  else if (streamReadLoop a ((n + 23) / 24).toNat first .empty).2 ≠ 0 then (.empty, (streamReadLoop a ((n + 23) / 24).toNat first .empty).2)
  else ((streamReadLoop a ((n + 23) / 24).toNat first .empty).1.extract 0 n.toNat, 0)
def streamWriteLoop : Nat → Nat → List Dev → Int → ByteArray → List Dev
  | 0, _, a, _, _ => a
  | m + 1, i, a, first, s => streamWriteLoop m (i + 1) (arrWriteS a (first + i) (s.extract (24 * i) (min (24 * i + 24) s.size))).1 first s
def streamWriteS (a : List Dev) (first : Int) (s : ByteArray) : List Dev × Int :=
  if streamFaultS a first s.size ≠ 0 then ([], streamFaultS a first s.size) else (streamWriteLoop ((s.size + 23) / 24) 0 a first s, 0)

/-! An array that may be. -/
theorem arr_three {a : List Dev} (h : arrMay a = true) : ∃ d0 d1 d2, a = [d0, d1, d2] := by
  by_cases h3 : a.length = 3
  · exact three h3
  · rw [arrMay_len h3] at h; cases h
theorem arr_parts {a : List Dev} (h : arrMay a = true) : a.length = 3 ∧ devMay (dv a 0) = true ∧ devMay (dv a 1) = true ∧ devMay (dv a 2) = true ∧ 16 ≤ (dv a 0).sec.length ∧ (dv a 0).sec.length ≤ 64 ∧ (dv a 0).sec.length % 2 = 0 ∧
    (dv a 1).sec.length = (dv a 0).sec.length ∧ (dv a 2).sec.length = (dv a 0).sec.length / 2 := by
  obtain ⟨d0, d1, d2, rfl⟩ := arr_three h
  have h3 : [d0, d1, d2].length = 3 := rfl
  rw [arrMay_eq h3] at h
  simp only [Bool.and_eq_true, decide_eq_true_eq, List.getElem_cons_zero, List.getElem_cons_succ] at h
  obtain ⟨⟨⟨⟨⟨⟨g0, g1⟩, g2⟩, g3⟩, g4⟩, g5⟩, g6⟩ := h
  have := (devMay_len g0).2.1
  exact ⟨rfl, g0, g1, g2, g3, this, g4, g5, g6⟩
theorem arr_made {a : List Dev} (h3 : a.length = 3) (h0 : devMay (dv a 0) = true) (h1 : devMay (dv a 1) = true) (h2 : devMay (dv a 2) = true) (g1 : 16 ≤ (dv a 0).sec.length) (g2 : (dv a 0).sec.length % 2 = 0)
    (g3 : (dv a 1).sec.length = (dv a 0).sec.length) (g4 : (dv a 2).sec.length = (dv a 0).sec.length / 2) : arrMay a = true := by
  obtain ⟨d0, d1, d2, rfl⟩ := three h3
  rw [arrMay_eq h3]
  simp only [Bool.and_eq_true, decide_eq_true_eq, List.getElem_cons_zero, List.getElem_cons_succ]
  exact ⟨⟨⟨⟨⟨⟨h0, h1⟩, h2⟩, g1⟩, g2⟩, g3⟩, g4⟩
theorem arrTouch_zero {a : List Dev} {n : Int} : arrTouch a n = 0 ↔ arrMay a = true ∧ 0 ≤ n ∧ n < (dv a 0).sec.length := by
  unfold arrTouch
  constructor
  · intro h
    split at h
    · rename_i h1
      split at h
      · rename_i h2; have := inB_true h2; exact ⟨h1, this.1, by omega⟩
      · exact absurd h (by decide)
    · exact absurd h (by decide)
  · rintro ⟨h1, h2, h3⟩
    rw [if_pos h1, if_pos (by simp [inB]; omega)]
theorem partner_range {a : List Dev} {n : Int} (h : arrTouch a n = 0) : arrTouch a (partner n) = 0 ∧ 0 ≤ n / 2 ∧ n / 2 < (dv a 2).sec.length ∧ partner n ≠ n ∧ partner n / 2 = n / 2 ∧ 0 ≤ partner n ∧ partner n ≤ 63 ∧ 0 ≤ n ∧ n ≤ 63 ∧ partner (partner n) = n := by
  obtain ⟨hm, h0, h1⟩ := arrTouch_zero.1 h
  obtain ⟨_, _, _, _, g1, g2, g3, g4, g5⟩ := arr_parts hm
  have hp : partner n = n + 1 ∨ partner n = n - 1 := by unfold partner; split <;> omega
  have hr : 0 ≤ partner n ∧ partner n < (dv a 0).sec.length ∧ partner n ≠ n ∧ partner n / 2 = n / 2 := by unfold partner; split <;> omega
  refine ⟨arrTouch_zero.2 ⟨hm, hr.1, hr.2.1⟩, by omega, by omega, hr.2.2.1, hr.2.2.2, hr.1, by omega, h0, by omega, ?_⟩
  unfold partner
  split <;> split <;> omega
theorem arr_touches {a : List Dev} {n : Int} (h : arrTouch a n = 0) : touchCode (dv a 0) n = 0 ∧ touchCode (dv a 1) n = 0 ∧ touchCode (dv a 2) (n / 2) = 0 := by
  obtain ⟨hm, h0, h1⟩ := arrTouch_zero.1 h
  obtain ⟨_, m0, m1, m2, g1, g2, g3, g4, g5⟩ := arr_parts hm
  exact ⟨touch_iff.2 ⟨m0, h0, h1⟩, touch_iff.2 ⟨m1, h0, by omega⟩, touch_iff.2 ⟨m2, by omega, by omega⟩⟩
theorem dv_set_self {a : List Dev} {k : Nat} (h : k < a.length) (d : Dev) : dv (a.set k d) k = d := getD_set_self _ _ _ _ h
theorem dv_set_ne (a : List Dev) {k j : Nat} (h : k ≠ j) (d : Dev) : dv (a.set k d) j = dv a j := getD_set_ne _ _ _ _ _ h
end Go.Proofs.YtgjijcgkmofaaaaGreatDoor
