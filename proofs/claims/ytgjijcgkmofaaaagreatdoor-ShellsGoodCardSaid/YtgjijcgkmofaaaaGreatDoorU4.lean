/-
  sector.Encode and the document's SectorBytes: the bytes of a sector, or why there are none; the law SectorEncodes. Conditions: the text is no longer than a text may be.
-/
import Derived.Test.YtgjijcgkmofaaaaGreatDoorU3
import Derived.Laws.MakeOwn
namespace Go.Proofs.YtgjijcgkmofaaaaGreatDoor
set_option linter.unusedSimpArgs false
set_option linter.unusedVariables false
set_option maxRecDepth 100000
set_option maxHeartbeats 8000000
open Go.RowKit
theorem repeat_one (c : UInt8) (n : Nat) : Lib.repeatL [c] n = List.replicate n c := by
 induction n with
 | zero => rfl
 | succ n ih => unfold Lib.repeatL; rw [ih]; rfl
theorem repeat_any (n : Int) (w : World) (h0 : 0 ≤ n) (hn : n ≤ 140737488355328) :
  Calls Tryz.prog 56 #[.string ⟨#[0]⟩, .int .i64 n] w fun e w' => e = .returned (.string (bs (List.replicate n.toNat 0))) ∧ Ext w w' := by
 obtain ⟨n, rfl⟩ := Int.eq_ofNat_of_zero_le h0
 refine (Tryz.strings_Repeat ⟨#[0]⟩ n w (by omega) (by show 1 * n ≤ _; omega)).mono ?_
 rintro e w' ⟨rfl, h⟩
 refine ⟨?_, h⟩
 have : Lib.repeatL ([0] : List UInt8) n = List.replicate n 0 := repeat_one 0 n
 exact ret_str (by show (⟨(Lib.repeatL ([0] : List UInt8) n).toArray⟩ : ByteArray) = _; rw [this]; rfl)
theorem rawS_join (no : Int) (s : ByteArray) : bs [byte (no / 256), byte (no % 256)] ++ s ++ bs (List.replicate (24 - s.size) 0) = bs (rawS no s) := by
 rw [lst_append_bs, bs_append]; unfold rawS; simp
theorem rawS_small {no : Int} {s : ByteArray} (h2 : s.size ≤ 24) : (bs (rawS no s)).size ≤ 140737488355328 := by
 rw [size_bs, rawS_length h2]; decide
theorem encode_ok (no : Int) (s : ByteArray) (w : World) (h0 : 0 ≤ no) (h1 : no ≤ 65535) (h2 : s.size ≤ 24) :
  Calls Tryz.prog 152 #[.int .i64 no, .string s] w fun e w' => e = .returned (.tuple #[.string (bs (rawS no s ++ sealOf (rawS no s))), .int .i64 0]) ∧ Ext w w' := by
 have hq : (0 : Int) ≤ no / 256 := by omega
 have hq2 : no / 256 ≤ 255 := by omega
 have hc1 : ¬ (9223372036854775807 < 2 + s.size) := by omega
 have hc2 : ¬ (9223372036854775807 < 2 + s.size + (24 - s.size)) := by omega
 have HS := Lib.hid (rawS_small (no := no) h2)
 go_enter Tryz.func152, Tryz.ntmps152
 go_wp2_with fail
 refine wp_region_begin (S := fun _ => True) (n := 14) (by kernel_rfl) rfl (by kernel_rfl) rfl ?_
 refine tkL 0 rfl (fun w' hS => by go_simp; rfl) trivial ?_
 refine tkL 1 rfl (fun w' hS => by go_simp; rfl) trivial ?_
 refine tkL 2 rfl (fun w' hS => by go_simp; rfl) trivial ?_
 try simp only [Act.put, List.setIfInBounds_toArray, List.set_cons_zero, List.set_cons_succ]
 refine tkL 3 rfl (fun w' hS => by go_simp; rfl) trivial ?_
 refine tkL 4 rfl (fun w' hS => by go_simp; rfl) trivial ?_
 refine tkL 7 rfl (fun w' hS => by go_simp; rfl) trivial ?_
 try simp only [Act.put, List.setIfInBounds_toArray, List.set_cons_zero, List.set_cons_succ]
 refine tkL 9 rfl (fun w' hS => by go_simp; rfl) trivial ?_
 refine tkL 10 rfl (fun w' hS => by go_simp; rfl) trivial ?_
 refine tkL 11 rfl (fun w' hS => by go_simp; rfl) trivial ?_
 try simp only [Act.put, List.setIfInBounds_toArray, List.set_cons_zero, List.set_cons_succ]
 refine wpAnyH_twoL (i := 5) (j := 12) rfl rfl (by kernel_rfl) rfl rfl (fun K hK => ?_) (fun K hK => ?_)
 ·go_wp2_with fail
  refine hK _ _ trivial ?_
  clear hK K
  try simp only [Act.put, List.setIfInBounds_toArray, List.set_cons_zero, List.set_cons_succ]
  refine anyH_abs (fun W => Ext w W ∧ Blk_ W w.heap.size 5 #[.int .u8 (no / 256), .int .u8 (no % 256)]) ⟨(Ext.refl w).drew.alloc _, by first | exact Blk_.new _ _ _ | exact (Blk_.new _ _ _).drew⟩ ?_
  rintro W5 ⟨eW5, bW5⟩
  refine wpAnyH_twoL (i := 6) (j := 12) rfl rfl (by kernel_rfl) rfl rfl (fun K hK => ?_) (fun K hK => ?_)
  ·refine wp_conv2 (.tmp 21) 95 9 5 rfl Tryz.underlying95 Tryz.underlying5 Tryz.underlying9 w.heap.size _ _ rfl bW5 ?_
   refine hK _ _ trivial ?_
   clear hK K
   refine tkL 8 rfl (fun w' hS => by go_simp; rfl) trivial ?_
   try simp only [Act.put, List.setIfInBounds_toArray, List.set_cons_zero, List.set_cons_succ]
   refine wpAnyH_oneL (i := 12) rfl (by kernel_rfl) rfl (fun K hK => ?_)
   go_wp2_with fail
   refine (repeat_any _ _ (by omega) (by omega)).mono ?_
   rintro e W6 ⟨rfl, hW6⟩
   have eW6 := eW5.trans hW6
   refine hK _ _ trivial ?_
   clear hK K
   refine tkL 13 rfl (fun w' hS => by go_simp; rfl) trivial ?_
   try simp only [Act.put, List.setIfInBounds_toArray, List.set_cons_zero, List.set_cons_succ]
   refine wpAnyH_endL (by kernel_rfl) (fun K hK => ?_)
   rw [rawS_join no s]
   have hsz := HS.out
   have hbl : (bs (rawS no s)).size = 26 := by rw [size_bs, rawS_length h2]
   generalize hbe : bs (rawS no s) = b at *
   have HE := Lib.hid hbe
   clear hbe
   have hc3 : ¬ (9223372036854775807 < b.size + 4) := by omega
   have hc4 : ¬ (9223372036854775807 < b.size + (sealOf (lst b)).length) := by rw [length_sealOf]; omega
   go_wp2_with fail
   refine (sumOf_any b _ hsz).mono ?_
   rintro e w9 ⟨rfl, h9⟩
   go_wp2_with fail
   go_ret2
   refine ⟨?_, eW6.trans h9⟩
   rw [← HE.out, lst_bs, bs_append]
   rfl
  ·go_wp2_with fail
   refine (repeat_any _ _ (by omega) (by omega)).mono ?_
   rintro e W6 ⟨rfl, hW6⟩
   have eW6 := eW5.trans hW6
   refine hK _ _ trivial ?_
   clear hK K
   try simp only [Act.put, List.setIfInBounds_toArray, List.set_cons_zero, List.set_cons_succ]
   refine wpAnyH_oneL (i := 6) rfl (by kernel_rfl) rfl (fun K hK => ?_)
   have bW6 := bW5.ext hW6
   refine wp_conv2 (.tmp 21) 95 9 5 rfl Tryz.underlying95 Tryz.underlying5 Tryz.underlying9 w.heap.size _ _ rfl bW6 ?_
   refine hK _ _ trivial ?_
   clear hK K
   refine tkL 8 rfl (fun w' hS => by go_simp; rfl) trivial ?_
   refine tkL 13 rfl (fun w' hS => by go_simp; rfl) trivial ?_
   try simp only [Act.put, List.setIfInBounds_toArray, List.set_cons_zero, List.set_cons_succ]
   refine wpAnyH_endL (by kernel_rfl) (fun K hK => ?_)
   rw [rawS_join no s]
   have hsz := HS.out
   have hbl : (bs (rawS no s)).size = 26 := by rw [size_bs, rawS_length h2]
   generalize hbe : bs (rawS no s) = b at *
   have HE := Lib.hid hbe
   clear hbe
   have hc3 : ¬ (9223372036854775807 < b.size + 4) := by omega
   have hc4 : ¬ (9223372036854775807 < b.size + (sealOf (lst b)).length) := by rw [length_sealOf]; omega
   go_wp2_with fail
   refine (sumOf_any b _ hsz).mono ?_
   rintro e w9 ⟨rfl, h9⟩
   go_wp2_with fail
   go_ret2
   refine ⟨?_, eW6.trans h9⟩
   rw [← HE.out, lst_bs, bs_append]
   rfl
 ·go_wp2_with fail
  refine (repeat_any _ _ (by omega) (by omega)).mono ?_
  rintro e W5 ⟨rfl, hW5⟩
  have eW5 := (Ext.refl w).drew.trans hW5
  refine hK _ _ trivial ?_
  clear hK K
  try simp only [Act.put, List.setIfInBounds_toArray, List.set_cons_zero, List.set_cons_succ]
  refine wpAnyH_oneL (i := 5) rfl (by kernel_rfl) rfl (fun K hK => ?_)
  go_wp2_with fail
  refine hK _ _ trivial ?_
  clear hK K
  try simp only [Act.put, List.setIfInBounds_toArray, List.set_cons_zero, List.set_cons_succ]
  refine anyH_abs (fun W => Ext w W ∧ Blk_ W W5.heap.size 5 #[.int .u8 (no / 256), .int .u8 (no % 256)]) ⟨eW5.alloc _, by first | exact Blk_.new _ _ _ | exact (Blk_.new _ _ _).drew⟩ ?_
  rintro W6 ⟨eW6, bW6⟩
  refine wpAnyH_oneL (i := 6) rfl (by kernel_rfl) rfl (fun K hK => ?_)
  refine wp_conv2 (.tmp 21) 95 9 5 rfl Tryz.underlying95 Tryz.underlying5 Tryz.underlying9 W5.heap.size _ _ rfl bW6 ?_
  refine hK _ _ trivial ?_
  clear hK K
  refine tkL 8 rfl (fun w' hS => by go_simp; rfl) trivial ?_
  refine tkL 13 rfl (fun w' hS => by go_simp; rfl) trivial ?_
  try simp only [Act.put, List.setIfInBounds_toArray, List.set_cons_zero, List.set_cons_succ]
  refine wpAnyH_endL (by kernel_rfl) (fun K hK => ?_)
  rw [rawS_join no s]
  have hsz := HS.out
  have hbl : (bs (rawS no s)).size = 26 := by rw [size_bs, rawS_length h2]
  generalize hbe : bs (rawS no s) = b at *
  have HE := Lib.hid hbe
  clear hbe
  have hc3 : ¬ (9223372036854775807 < b.size + 4) := by omega
  have hc4 : ¬ (9223372036854775807 < b.size + (sealOf (lst b)).length) := by rw [length_sealOf]; omega
  go_wp2_with fail
  refine (sumOf_any b _ hsz).mono ?_
  rintro e w9 ⟨rfl, h9⟩
  go_wp2_with fail
  go_ret2
  refine ⟨?_, eW6.trans h9⟩
  rw [← HE.out, lst_bs, bs_append]
  rfl
theorem encode_bad1 (no : Int) (s : ByteArray) (h : no < 0 ∨ 65535 < no) : encodeS no s = (.empty, 2) := by unfold encodeS; rw [if_pos h]
theorem encode_bad2 (no : Int) (s : ByteArray) (h : ¬ (no < 0 ∨ 65535 < no)) (h2 : 24 < s.size) : encodeS no s = (.empty, 1) := by unfold encodeS; rw [if_neg h, if_pos h2]
theorem encode_any (no : Int) (s : ByteArray) (w : World) (hn : I64 no) (hs : s.size ≤ 140737488355328) :
  Calls Tryz.prog 152 #[.int .i64 no, .string s] w fun e w' => e = .returned (.tuple #[.string (encodeS no s).1, .int .i64 (encodeS no s).2]) ∧ Ext w w' := by
 by_cases h : no < 0 ∨ 65535 < no
 ·rw [encode_bad1 no s h]
  by_cases h1 : no < 0
  ·clear h
   go_enter Tryz.func152, Tryz.ntmps152
   go_wp2
   go_ret2
   exact ⟨rfl, Ext.refl _⟩
  ·have h2 : 65535 < no := by omega
   clear h
   go_enter Tryz.func152, Tryz.ntmps152
   go_wp2
   go_ret2
   exact ⟨rfl, Ext.refl _⟩
 ·by_cases h2 : 24 < s.size
  ·rw [encode_bad2 no s h h2]
   have h3 : 0 ≤ no := by omega
   have h4 : no ≤ 65535 := by omega
   have h5 : (24 : Int) < (s.size : Int) := by omega
   clear h
   go_enter Tryz.func152, Tryz.ntmps152
   go_wp2
   go_ret2
   exact ⟨rfl, Ext.refl _⟩
  ·rw [encodeS_ok (by omega) (by omega) (by omega)]
   exact encode_ok no s w (by omega) (by omega) (by omega)
theorem at_lst_eq (s : ByteArray) (k : Nat) : (lst s).getD k 0 = at_ s k := by
 unfold at_
 split
 ·rename_i h
  rw [List.getD_eq_getElem?_getD, List.getElem?_eq_getElem (by rw [length_lst]; exact h)]
  rfl
 ·rename_i h
  rw [List.getD_eq_getElem?_getD, List.getElem?_eq_none (by rw [length_lst]; omega)]
  rfl
def Buf (e : TypeId) (w : World) (g : Nat) (l : List UInt8) : Prop :=
 ∃ cs fr, w.heap[g]? = some (.cells cs e fr) ∧ (∀ i, i < l.length → cs[i]? = some (.int .u8 ((l.getD i 0).toNat : Int))) ∧ ∀ i, i < l.length → ¬ (fr.1 ≤ i ∧ i < fr.2)
theorem Buf.lt {e : TypeId} {w : World} {g : Nat} {l : List UInt8} (h : Buf e w g l) : g < w.heap.size := by
 obtain ⟨cs, fr, h, _⟩ := h
 exact (Array.getElem?_eq_some_iff.1 h).1
theorem Buf.cell {e : TypeId} {w : World} {g : Nat} {l : List UInt8} (h : Buf e w g l) (i : Nat) (hi : i < l.length) : w.cell? ⟨g, i, none⟩ = some (.int .u8 ((l.getD i 0).toNat : Int)) := by
 obtain ⟨cs, fr, h, hc, _⟩ := h
 rw [← hc i hi]
 simp [World.cell?, h]
theorem Buf.frozen {e : TypeId} {w : World} {g : Nat} {l : List UInt8} (h : Buf e w g l) (i : Nat) (hi : i < l.length) : w.frozen? ⟨g, i, none⟩ = false := by
 obtain ⟨cs, fr, h, _, hf⟩ := h
 have := hf i hi
 simp only [World.frozen?, h]
 by_cases h1 : fr.1 ≤ i
 ·have h2 : ¬ i < fr.2 := fun h2 => this ⟨h1, h2⟩
  simp [h2]
 ·simp [h1]
theorem Buf.ext {e : TypeId} {w w' : World} {g : Nat} {l : List UInt8} (h : Buf e w g l) (k : Ext w w') : Buf e w' g l := by
 have hl := h.lt
 obtain ⟨cs, fr, h, r⟩ := h
 exact ⟨cs, fr, (Below.block k g hl).trans h, r⟩
theorem Buf.far {e : TypeId} {w : World} {g : Nat} {l : List UInt8} (h : Buf e w g l) {p : Addr} (hp : g ≠ p.block) (u : Value) : Buf e (w.setCell p u) g l := by
 obtain ⟨cs, fr, h, r⟩ := h
 exact ⟨cs, fr, (Below.heap_setCell w p u g hp).trans h, r⟩
theorem byte_u8 (c : UInt8) : byte (c.toNat : Int) = c := by
 unfold byte
 rw [Int.toNat_natCast, UInt8.ofNat_toNat]
theorem byte_nat_ (n : Int) (h0 : 0 ≤ n) (h1 : n < 256) : ((byte n).toNat : Int) = n := by
 unfold byte
 rw [UInt8.toNat_ofNat']
 omega
theorem Buf.set {e : TypeId} {w : World} {g : Nat} {l : List UInt8} (h : Buf e w g l) (i : Nat) (c : Int) (h0 : 0 ≤ c) (h1 : c < 256) : Buf e (w.setCell ⟨g, i, none⟩ (.int .u8 c)) g (l.set i (byte c)) := by
 obtain ⟨cs, fr, h, hc, hf⟩ := h
 refine ⟨cs.setIfInBounds i (.int .u8 c), fr, by simp [World.setCell, Array.getElem?_modify, h], fun j hj => ?_, fun j hj => hf j (by simpa using hj)⟩
 rw [List.length_set] at hj
 have hcj := hc j hj
 have hsz : j < cs.size := (Array.getElem?_eq_some_iff.1 hcj).1
 rw [Array.getElem?_setIfInBounds]
 by_cases he : i = j
 ·subst he
  rw [if_pos rfl, if_pos hsz, List.getD_eq_getElem?_getD, List.getElem?_set_self hj]
  simp only [Option.getD_some]
  rw [byte_nat_ c h0 h1]
 ·rw [if_neg he, hcj, List.getD_eq_getElem?_getD, List.getD_eq_getElem?_getD, List.getElem?_set_ne he]
theorem Buf.made (e : TypeId) (w : World) (s : ByteArray) (cap : Nat) (hc : s.size ≤ cap) : Buf e (w.drew.alloc (.cells (bytesRow s cap) e ((bytesRow s cap).size, (bytesRow s cap).size + 1))) w.heap.size (lst s) := by
 refine ⟨bytesRow s cap, _, heap_alloc_new w.drew _, fun i hi => ?_, fun i hi => ?_⟩
 ·rw [length_lst] at hi
  rw [bytesRow_at s cap i hi, List.getD_eq_getElem?_getD, List.getElem?_eq_getElem (by rw [length_lst]; exact hi)]
  rfl
 ·rw [length_lst] at hi
  have : s.size ≤ (bytesRow s cap).size := by
   unfold bytesRow
   rw [Array.size_append, Array.size_map]
   exact Nat.le_add_right _ _
  omega
theorem ODev.aside {S L : TypeId} {w0 w : World} {base : Nat} {v1 v2 : Value} {d : Dev} (h : ODev S L w base v1 v2 d) (h0 : ODev S L w0 base v1 v2 d) {p : Addr} (hp : w0.heap.size ≤ p.block) (u : Value) : ODev S L (w.setCell p u) base v1 v2 d :=
 ⟨ownsRow_setCell_other h.1 (fun e => by have := (h0.1.lt _ e).2; omega) u, ownsRow_setCell_other h.2.1 (fun e => by have := (h0.2.1.lt _ e).2; omega) u, h.2.2⟩
section
variable {P : Program} {Q : Exit → Act → World → Prop}
theorem Buf.back {e : TypeId} {w : World} {g : Nat} {l : List UInt8} (h : Buf e w g l) (src dst : TypeId) (hs : P.underlying src = some (.slice e)) (he : P.underlying e = some (.int .u8)) (hd : P.underlying dst = some .string) (cap : Nat) :
  (convert src dst (.slice (some ⟨g, 0, none⟩) l.length cap)).run P w = .ok (.string (bs l)) w := by
 have hc := run_conv_lit (P := P) w src dst e hs he hd ⟨g, 0, none⟩ cap (l.map fun c => (c.toNat : Int)) (fun j u hu => by
  rw [Addr.add_lit, Nat.zero_add]
  rw [List.map_map, List.getElem?_map, Option.map_eq_some_iff] at hu
  obtain ⟨c, hc, hu⟩ := hu
  have hj := (List.getElem?_eq_some_iff.1 hc).1
  rw [h.cell j hj, List.getD_eq_getElem?_getD, hc, ← hu]
  rfl)
 rw [List.length_map, List.map_map] at hc
 have : List.map (byte ∘ fun c : UInt8 => (c.toNat : Int)) l = l := by
  have h1 : (byte ∘ fun c : UInt8 => (c.toNat : Int)) = id := funext fun c => byte_u8 c
  rw [h1, List.map_id]
 rw [this] at hc
 exact hc
theorem wpList_tobytes {ops : Array Oper} {rest : List Oper} {o : Oper} {a : Act} {w : World} (x : Operand) (src dst e : TypeId) (ho : o.op = .convert src dst x) (hgd : o.guard = none) (hs : P.underlying src = some .string) (hd : P.underlying dst = some (.slice e)) (he : P.underlying e = some (.int .u8))
  (s : ByteArray) (hx : a.eval x = .string s)
  (h : ∀ g cap w', w.heap.size ≤ g → Ext w w' → Buf e w' g (lst s) → s.size ≤ cap → wpList P ops Q rest (a.put o.dst (.slice (some ⟨g, 0, none⟩) s.size cap)) w') : wpList P ops Q (o :: rest) a w := by
 refine wpList_plain hgd fun K hK => ?_
 have hr := run_bytes_of_string (P := P) w src dst e s hs hd he
 unfold Oper.wp execOp
 simp only [ho, Sem.run_bind, hx, hr, Result.andThen_ok, Sem.run_pure, Oper.upon]
 exact hK _ _ (h _ _ _ (Nat.le_refl _) ((Ext.refl w).drew.alloc _) (Buf.made e w s _ (grownCap_ge _ _ _ _)) (grownCap_ge _ _ _ _))
theorem wpList_frombytes {ops : Array Oper} {rest : List Oper} {o : Oper} {a : Act} {w : World} (x : Operand) (src dst e : TypeId) (ho : o.op = .convert src dst x) (hgd : o.guard = none) (hs : P.underlying src = some (.slice e)) (he : P.underlying e = some (.int .u8)) (hd : P.underlying dst = some .string)
  (g n cap : Nat) (l : List UInt8) (hb : Buf e w g l) (hn : n = l.length) (hx : a.eval x = .slice (some ⟨g, 0, none⟩) n cap)
  (h : wpList P ops Q rest (a.put o.dst (.string (bs l))) w) : wpList P ops Q (o :: rest) a w := by
 subst hn
 refine wpList_plain hgd fun K hK => ?_
 have hr := hb.back (P := P) src dst hs he hd cap
 unfold Oper.wp execOp
 simp only [ho, Sem.run_bind, hx, hr, Result.andThen_ok, Sem.run_pure, Oper.upon]
 exact hK _ _ h
end
theorem turn_good {d : Dev} {k : Nat} {place by_ : Int} (h : touchCode d k = 0) (h1 : 0 ≤ place) (h2 : place ≤ 29) (h3 : 0 ≤ by_) (h4 : by_ ≤ 255) : turnS d k place by_ = (⟨d.sec.set k (turnB (d.sec.getD k .empty) place by_), d.lost⟩, 0) := by
 unfold turnS; rw [if_pos h, if_pos (by simp [inB]; omega)]; rfl
theorem turn_range {d : Dev} {n place by_ : Int} (h : touchCode d n = 0) (h1 : ¬ (0 ≤ place ∧ place ≤ 29 ∧ 0 ≤ by_ ∧ by_ ≤ 255)) : turnS d n place by_ = (⟨[], []⟩, 2) := by
 unfold turnS; rw [if_pos h, if_neg (by simp [inB]; omega)]
theorem turn_bad {d : Dev} {n place by_ : Int} (h : ¬ touchCode d n = 0) : turnS d n place by_ = (⟨[], []⟩, touchCode d n) := by
 unfold turnS; rw [if_neg h]
theorem getD_mem_ {α : Type} (l : List α) (k : Nat) (a : α) (h : k < l.length) : l.getD k a ∈ l := by
 rw [List.getD_eq_getElem?_getD, List.getElem?_eq_getElem h]; exact List.getElem_mem h
theorem devTurn_any (cs : List Value) (d : Dev) (n place by_ : Int) (w : World) (h : RDev w cs d) (hn : I64 n) (hp : I64 place) (hb : I64 by_) :
  Calls Tryz.prog 100 #[.agg cs.toArray, .int .i64 n, .int .i64 place, .int .i64 by_] w fun e w' => ∃ A1 c1 A2 c2, e = .returned (.tuple #[.agg #[.slice A1 (turnS d n place by_).1.sec.length c1, .slice A2 (turnS d n place by_).1.lost.length c2], .int .i64 (turnS d n place by_).2]) ∧ Ext w w' ∧
   ODev 9 4 w' w.heap.size (.slice A1 (turnS d n place by_).1.sec.length c1) (.slice A2 (turnS d n place by_).1.lost.length c2) (turnS d n place by_).1 := by
 obtain ⟨A1, c1, A2, c2, rfl⟩ := h.form
 go_enter Tryz.func100, Tryz.ntmps100
 go_wp2_with fail
 refine calls_abs (fun W => Ext w W ∧ Blk_ W w.heap.size 68 #[.slice A1 d.sec.length c1, .slice A2 d.lost.length c2] ∧ Blk_ W (w.heap.size + 1) 68 #[.slice none 0 0, .slice none 0 0]) ⟨((Ext.refl _).alloc _).alloc _, (Blk_.new _ _ _).alloc _, Blk_.new1 _ _ _ _⟩ ?_
 rintro W ⟨hx, hbk, hbr⟩
 refine (devAt_any [.slice A1 d.sec.length c1, .slice A2 d.lost.length c2] d n W (h.up hx) hn).mono ?_
 rintro e w1 ⟨rfl, hx1⟩
 have hb1 := hbk.ext hx1
 have hbr1 := hbr.ext hx1
 have f0 := hb1.cell 0
 have f1 := hb1.cell 1
 simp at f0 f1
 have hr1 := h.up (hx.trans hx1)
 have hx0 := hx.trans hx1
 clear h hbk hbr hx hx1
 by_cases hc : touchCode d n = 0
 ·by_cases hg : 0 ≤ place ∧ place ≤ 29 ∧ 0 ≤ by_ ∧ by_ ≤ 255
  ·obtain ⟨g1, g2, g3, g4⟩ := hg
   clear hn
   obtain ⟨hm, n0, n1⟩ := touch_zero hc
   obtain ⟨m1, m2, m3, m4⟩ := devMay_len hm
   obtain ⟨k, rfl⟩ := Int.eq_ofNat_of_zero_le n0
   obtain ⟨p, rfl⟩ := Int.eq_ofNat_of_zero_le g1
   obtain ⟨b, rfl⟩ := Int.eq_ofNat_of_zero_le g3
   have hk2' : (k : Int) < (d.sec.length : Int) := by omega
   have hf := turn_good (d := d) (k := k) (place := p) (by_ := b) hc g1 g2 g3 g4
   have hs30 := m4 _ (getD_mem_ d.sec k .empty (by omega))
   have hlp : 0 < d.sec.length := by omega
   have HF := Lib.hid hf
   have t1 : decide ((p : Int) < 0) = false := by simp
   have t2 : decide ((30 : Int) ≤ (p : Int)) = false := by simp; omega
   have t3 : decide ((b : Int) < 0) = false := by simp
   have t4 : decide ((255 : Int) < (b : Int)) = false := by simp; omega
   have HZ := Lib.hid hs30
   have HG := Lib.hid (And.intro g2 g4)
   rw [hc]
   clear hc m4 hm hf hs30 g1 g2 g3 g4 hp hb m1 m2 m3 n0
   go_wp2_with fail
   refine (devCopy_any [.slice A1 d.sec.length c1, .slice A2 d.lost.length c2] d _ hr1).mono ?_
   rintro e w2 ⟨B1, k1, B2, k2, rfl, hx2, o1, o2⟩
   have hod := hr1.own o1 o2
   have hb2 := hb1.ext hx2
   have hbr2 := hbr1.ext hx2
   obtain ⟨g, rfl, hg1, hg2, hg3⟩ := own_form o1 hlp
   have g0 := hb2.cell 0
   have g1' := hb2.cell 1
   have z0 := hb2.frozen 0
   have z1 := hb2.frozen 1
   have y0 := hbr2.cell 0
   have y1 := hbr2.cell 1
   have x0 := hbr2.frozen 0
   have x1 := hbr2.frozen 1
   simp at g0 g1' y0 y1
   have zk := hg3 k
   have hs30 := HZ.out
   have ck := (o1.cellAt k (by omega)).trans (flat_str_get d.sec k (by omega))
   have es : d.sec[k]'(by omega) = d.sec.getD k .empty := by simp [show k < d.sec.length from by omega]
   rw [es] at ck
   obtain ⟨s, hs⟩ : ∃ s, s = d.sec.getD k .empty := ⟨_, rfl⟩
   rw [← hs] at ck hs30
   have HS := Lib.hid hs
   clear hs es
   have hlt := hbr1.lt
   have ne1 : ¬ (w.heap.size = g) := by omega
   have ne2 : ¬ (g = w.heap.size) := by omega
   have ne3 : ¬ (w.heap.size + 1 = g) := by omega
   have ne4 : ¬ (g = w.heap.size + 1) := by omega
   have hgw : w.heap.size ≤ g := by omega
   clear hr1 f0 f1 o1 o2 hb1 hbr1
   go_wp2_with (refine wpList_tobytes (.tmp 40) 9 95 5 rfl rfl Tryz.underlying9 Tryz.underlying95 Tryz.underlying5 s rfl ?_)
   intro gb cap w3 hgb e3 hbuf hcap
   have b3 := ((hb2.set 0 (.slice (some ⟨g, 0, none⟩) d.sec.length k1)).set 1 (.slice B2 d.lost.length k2)).ext e3
   have r3 := ((hbr2.far (p := ⟨w.heap.size, 0, none⟩) (by simp) (.slice (some ⟨g, 0, none⟩) d.sec.length k1)).far (p := ⟨w.heap.size, 1, none⟩) (by simp) (.slice B2 d.lost.length k2)).ext e3
   have o3 := ((hod.far (p := ⟨w.heap.size, 0, none⟩) (by simp; omega) (.slice (some ⟨g, 0, none⟩) d.sec.length k1)).far (p := ⟨w.heap.size, 1, none⟩) (by simp; omega) (.slice B2 d.lost.length k2)).ext e3
   have X3 := Lib.hid ((((hx0.trans hx2).setCell (p := ⟨w.heap.size, 0, none⟩) (by simp) (.slice (some ⟨g, 0, none⟩) d.sec.length k1)).setCell (p := ⟨w.heap.size, 1, none⟩) (by simp) (.slice B2 d.lost.length k2)).trans e3)
   have HO := Lib.hid (And.intro hod o3)
   have ck3 := o3.1.cellAt k (by omega)
   rw [flat_str_get d.sec k (by omega)] at ck3
   have zk3 := o3.1.frozenAt k
   clear g0 g1' z0 z1 x0 x1 y0 y1 zk ck hod hg3 hb2 hbr2 e3 hx0 hx2
   have q0 := b3.cell 0
   have q1 := b3.cell 1
   have z0 := b3.frozen 0
   have z1 := b3.frozen 1
   have y0 := r3.cell 0
   have y1 := r3.cell 1
   have x0 := r3.frozen 0
   have x1 := r3.frozen 1
   simp at q0 q1 y0 y1
   have hpl : p < (lst s).length := by rw [length_lst, hs30]; have := HG.out.1; omega
   have bp := hbuf.cell p hpl
   have bz := hbuf.frozen p hpl
   have hcb := u8_hi ((lst s).getD p 0)
   have ne5 : ¬ (w.heap.size = gb) := by omega
   have ne6 : ¬ (gb = w.heap.size) := by omega
   have ne7 : ¬ (w.heap.size + 1 = gb) := by omega
   have ne8 : ¬ (gb = w.heap.size + 1) := by omega
   have ne9 : ¬ (g = gb) := by omega
   have ne10 : ¬ (gb = g) := by omega
   have hp30 : (p : Int) < 30 := by have := HG.out.1; omega
   have hp30' : p < 30 := by omega
   have hln : 30 = ((lst s).set p 0).length := by rw [List.length_set, length_lst, hs30]
   have HL := Lib.hid hln
   have HBF := Lib.hid hbuf
   have HR := Lib.hid r3
   clear hbuf b3 r3 o3 hln
   generalize hc0 : (lst s).getD p 0 = c0 at *
   have HC0 := Lib.hid hc0
   clear hc0
   go_wp2_with (refine wpList_frombytes (.tmp 53) 95 9 5 rfl rfl Tryz.underlying95 Tryz.underlying5 Tryz.underlying9 gb 30 cap _ (HBF.out.set p _ ?ha ?hb) ?hc rfl ?_)
   case ha => omega
   case hb => omega
   case hc => rw [List.length_set, length_lst, hs30]
   have hT : turnB s p b = bs ((lst s).set p (byte (((c0.toNat : Int) + (b : Int)) % 256))) := by
    unfold turnB; rw [← HC0.out, at_lst_eq]; rfl
   rw [← hT]
   have HT := Lib.hid hT
   clear hT
   have hts : (turnB s p b).size = 30 := by rw [turnB_size, hs30]
   have HTS := Lib.hid hts
   clear hts
   generalize hte : turnB s p b = T at *
   have HTE := Lib.hid hte
   clear hte
   have HB := Lib.hid ((((HR.out.far (p := ⟨gb, p, none⟩) ne7 (.int .u8 (((c0.toNat : Int) + (b : Int)) % 256))).far (p := ⟨g, k, none⟩) ne3 (.string T)).set 0 (.slice (some ⟨g, 0, none⟩) d.sec.length k1)).set 1 (.slice B2 d.lost.length k2))
   go_wp2_with fail
   refine bodyPost_ret (res_cell_tmp rfl rfl HB.out Tryz.underlying68 rfl (by kernel_rfl)) rfl ?_
   rw [HF.out, ← HS.out, HTE.out]
   refine ⟨some ⟨g, 0, none⟩, k1, B2, k2, ?_, ?_, ?_⟩
   ·rw [List.length_set]; rfl
   ·exact (((X3.out.setCell (by simp; omega) _).setCell (by simp; omega) _).setCell (by simp) _).setCell (by simp) _
   ·have o4 := ((((HO.out.2.aside HO.out.1 (p := ⟨gb, p, none⟩) hgb (.int .u8 (((c0.toNat : Int) + (b : Int)) % 256))).setSec rfl (by decide) k T (by rw [HTS.out]; decide)).far (p := ⟨w.heap.size + 1, 0, none⟩) (by simp; omega) (.slice (some ⟨g, 0, none⟩) d.sec.length k1)).far (p := ⟨w.heap.size + 1, 1, none⟩) (by simp; omega) (.slice B2 d.lost.length k2)).base (base' := w.heap.size) (by omega)
    rw [List.length_set]
    exact o4
  ·have hf := turn_range hc hg
   have hg' : place < 0 ∨ 30 ≤ place ∨ by_ < 0 ∨ 255 < by_ := by omega
   rw [hc]
   clear hc hg hn
   have hcs : (decide (place < 0) = true) ∨ (decide (place < 0) = false ∧ decide ((30 : Int) ≤ place) = true) ∨ (decide (place < 0) = false ∧ decide ((30 : Int) ≤ place) = false ∧ decide (by_ < 0) = true) ∨ (decide (place < 0) = false ∧ decide ((30 : Int) ≤ place) = false ∧ decide (by_ < 0) = false ∧ decide ((255 : Int) < by_) = true) := by
    simp only [decide_eq_true_eq, decide_eq_false_iff_not]; omega
   clear hg' hp hb
   rcases hcs with t1 | ⟨t1, t2⟩ | ⟨t1, t2, t3⟩ | ⟨t1, t2, t3, t4⟩
   ·have HF := Lib.hid hf
    clear hf hr1
    have y0 := hbr1.cell 0
    have y1 := hbr1.cell 1
    have x0 := hbr1.frozen 0
    have x1 := hbr1.frozen 1
    simp at y0 y1
    have HB := Lib.hid ((hbr1.set 0 (.slice none 0 0)).set 1 (.slice none 0 0))
    go_wp2_with fail
    refine bodyPost_ret (res_cell_tmp rfl rfl HB.out Tryz.underlying68 rfl (by kernel_rfl)) rfl ?_
    rw [HF.out]
    refine ⟨none, 0, none, 0, rfl, (hx0.setCell (by simp) _).setCell (by simp) _, ?_⟩
    exact ⟨World.ownsRow_nil _ _ _ _, World.ownsRow_nil _ _ _ _, by simp, by simp, fun s hs => by cases hs⟩
   ·have HF := Lib.hid hf
    clear hf hr1
    have y0 := hbr1.cell 0
    have y1 := hbr1.cell 1
    have x0 := hbr1.frozen 0
    have x1 := hbr1.frozen 1
    simp at y0 y1
    have HB := Lib.hid ((hbr1.set 0 (.slice none 0 0)).set 1 (.slice none 0 0))
    go_wp2_with fail
    refine bodyPost_ret (res_cell_tmp rfl rfl HB.out Tryz.underlying68 rfl (by kernel_rfl)) rfl ?_
    rw [HF.out]
    refine ⟨none, 0, none, 0, rfl, (hx0.setCell (by simp) _).setCell (by simp) _, ?_⟩
    exact ⟨World.ownsRow_nil _ _ _ _, World.ownsRow_nil _ _ _ _, by simp, by simp, fun s hs => by cases hs⟩
   ·have HF := Lib.hid hf
    clear hf hr1
    have y0 := hbr1.cell 0
    have y1 := hbr1.cell 1
    have x0 := hbr1.frozen 0
    have x1 := hbr1.frozen 1
    simp at y0 y1
    have HB := Lib.hid ((hbr1.set 0 (.slice none 0 0)).set 1 (.slice none 0 0))
    go_wp2_with fail
    refine bodyPost_ret (res_cell_tmp rfl rfl HB.out Tryz.underlying68 rfl (by kernel_rfl)) rfl ?_
    rw [HF.out]
    refine ⟨none, 0, none, 0, rfl, (hx0.setCell (by simp) _).setCell (by simp) _, ?_⟩
    exact ⟨World.ownsRow_nil _ _ _ _, World.ownsRow_nil _ _ _ _, by simp, by simp, fun s hs => by cases hs⟩
   ·have HF := Lib.hid hf
    clear hf hr1
    have y0 := hbr1.cell 0
    have y1 := hbr1.cell 1
    have x0 := hbr1.frozen 0
    have x1 := hbr1.frozen 1
    simp at y0 y1
    have HB := Lib.hid ((hbr1.set 0 (.slice none 0 0)).set 1 (.slice none 0 0))
    go_wp2_with fail
    refine bodyPost_ret (res_cell_tmp rfl rfl HB.out Tryz.underlying68 rfl (by kernel_rfl)) rfl ?_
    rw [HF.out]
    refine ⟨none, 0, none, 0, rfl, (hx0.setCell (by simp) _).setCell (by simp) _, ?_⟩
    exact ⟨World.ownsRow_nil _ _ _ _, World.ownsRow_nil _ _ _ _, by simp, by simp, fun s hs => by cases hs⟩
 ·have hf := turn_bad (place := place) (by_ := by_) hc
  have hc' : (touchCode d n != 0) = true := by simpa using hc
  clear hc
  have HF := Lib.hid hf
  clear hf hr1
  have y0 := hbr1.cell 0
  have y1 := hbr1.cell 1
  have x0 := hbr1.frozen 0
  have x1 := hbr1.frozen 1
  simp at y0 y1
  have HB := Lib.hid ((hbr1.set 0 (.slice none 0 0)).set 1 (.slice none 0 0))
  generalize touchCode d n = t at *
  go_wp2_with fail
  refine bodyPost_ret (res_cell_tmp rfl rfl HB.out Tryz.underlying68 rfl (by kernel_rfl)) rfl ?_
  rw [HF.out]
  refine ⟨none, 0, none, 0, rfl, (hx0.setCell (by simp) _).setCell (by simp) _, ?_⟩
  exact ⟨World.ownsRow_nil _ _ _ _, World.ownsRow_nil _ _ _ _, by simp, by simp, fun s hs => by cases hs⟩
theorem write_good {d : Dev} {k : Nat} {no : Int} {s : ByteArray} (h : touchCode d k = 0) (h2 : (encodeS no s).2 = 0) : writeS d k no s = (⟨d.sec.set k (encodeS no s).1, d.lost.set k false⟩, 0) := by
 unfold writeS; rw [if_pos h, if_pos h2]; rfl
theorem write_bad2 {d : Dev} {n no : Int} {s : ByteArray} (h : touchCode d n = 0) (h2 : ¬ (encodeS no s).2 = 0) : writeS d n no s = (⟨[], []⟩, (encodeS no s).2) := by
 unfold writeS; rw [if_pos h, if_neg h2]
theorem write_bad1 {d : Dev} {n no : Int} {s : ByteArray} (h : ¬ touchCode d n = 0) : writeS d n no s = (⟨[], []⟩, touchCode d n) := by
 unfold writeS; rw [if_neg h]
theorem devWrite_any (cs : List Value) (d : Dev) (n no : Int) (s : ByteArray) (w : World) (h : RDev w cs d) (hn : I64 n) (ho : I64 no) (hs : s.size ≤ 140737488355328) :
  Calls Tryz.prog 167 #[.agg cs.toArray, .int .i64 n, .int .i64 no, .string s] w fun e w' => ∃ A1 c1 A2 c2, e = .returned (.tuple #[.agg #[.slice A1 (writeS d n no s).1.sec.length c1, .slice A2 (writeS d n no s).1.lost.length c2], .int .i64 (writeS d n no s).2]) ∧ Ext w w' ∧
   ODev 9 4 w' w.heap.size (.slice A1 (writeS d n no s).1.sec.length c1) (.slice A2 (writeS d n no s).1.lost.length c2) (writeS d n no s).1 := by
 obtain ⟨A1, c1, A2, c2, rfl⟩ := h.form
 go_enter Tryz.func167, Tryz.ntmps167
 go_wp2_with fail
 refine calls_abs (fun W => Ext w W ∧ Blk_ W w.heap.size 68 #[.slice A1 d.sec.length c1, .slice A2 d.lost.length c2] ∧ Blk_ W (w.heap.size + 1) 68 #[.slice none 0 0, .slice none 0 0]) ⟨((Ext.refl _).alloc _).alloc _, (Blk_.new _ _ _).alloc _, Blk_.new1 _ _ _ _⟩ ?_
 rintro W ⟨hx, hbk, hbr⟩
 refine (devAt_any [.slice A1 d.sec.length c1, .slice A2 d.lost.length c2] d n W (h.up hx) hn).mono ?_
 rintro e w1 ⟨rfl, hx1⟩
 have hb1 := hbk.ext hx1
 have hbr1 := hbr.ext hx1
 have f0 := hb1.cell 0
 have f1 := hb1.cell 1
 simp at f0 f1
 have hr1 := h.up (hx.trans hx1)
 have hx0 := hx.trans hx1
 clear h hbk hbr hx hx1
 by_cases hc : touchCode d n = 0
 ·rw [hc]
  have hcold := hc
  go_wp2_with fail
  refine (encode_any no s _ ho hs).mono ?_
  rintro e w1' ⟨rfl, hx1'⟩
  have hbr1_ := hbr1.ext hx1'
  have hb1_ := hb1.ext hx1'
  have hr1_ := hr1.up hx1'
  have hx0_ := hx0.trans hx1'
  have f0_ := hx1'.cell f0
  have f1_ := hx1'.cell f1
  clear hbr1 hb1 hr1 hx0 f0 f1 hx1'
  have hbr1 := hbr1_; have hb1 := hb1_; have hr1 := hr1_; have hx0 := hx0_; have f0 := f0_; have f1 := f1_
  clear hbr1_ hb1_ hr1_ hx0_ f0_ f1_
  by_cases hE : (encodeS no s).2 = 0
  ·obtain ⟨hm, n0, n1⟩ := touch_zero hc
   obtain ⟨m1, m2, m3, m4⟩ := devMay_len hm
   obtain ⟨k, rfl⟩ := Int.eq_ofNat_of_zero_le n0
   have hf := write_good (d := d) (k := k) (no := no) (s := s) hc hE
   have HT := Lib.hid (encodeS_small no s)
   have hlp : 0 < d.sec.length := by omega
   have hlp2 : 0 < d.lost.length := by omega
   have hk2' : (k : Int) < (d.sec.length : Int) := by omega
   have hk3' : (k : Int) < (d.lost.length : Int) := by omega
   rw [hE]
   have HF := Lib.hid hf
   clear hf hc hcold hE m4 hm m1 m2 m3 n0
   generalize hT : (encodeS no s).1 = T at *
   have HTE := Lib.hid hT
   clear hT
   go_wp2_with fail
   refine (devCopy_any [.slice A1 d.sec.length c1, .slice A2 d.lost.length c2] d _ hr1).mono ?_
   rintro e w2 ⟨B1, k1, B2, k2, rfl, hx2, o1, o2⟩
   have hod := hr1.own o1 o2
   clear o1 o2
   have hb2 := hb1.ext hx2
   have hbr2 := hbr1.ext hx2
   obtain ⟨g, rfl, hg1, hg2, hg3⟩ := own_form hod.1 hlp
   obtain ⟨g2, rfl, hg4, hg5, hg6⟩ := own_form hod.2.1 hlp2
   have hgg : g ≠ g2 := by
    rintro rfl
    exact own_other hod.1 hod.2.1 (by decide) rfl
   have hgg2 : ¬ (g2 = g) := fun e => hgg e.symm
   have hgg1 : ¬ (g = g2) := hgg
   have g0 := hb2.cell 0
   have g1 := hb2.cell 1
   have z0 := hb2.frozen 0
   have z1 := hb2.frozen 1
   have y0 := hbr2.cell 0
   have y1 := hbr2.cell 1
   have x0 := hbr2.frozen 0
   have x1 := hbr2.frozen 1
   simp at g0 g1 y0 y1
   have hlt := hbr1.lt
   have hlt2 := hbr2.lt
   have hlt3 := hb2.lt
   have ck := (hod.1.cellAt k (by omega)).trans (flat_str_get d.sec k (by omega))
   have ck2 := (hod.2.1.cellAt k (by omega)).trans (flat_bool_get d.lost k (by omega))
   have zk := hg3 k
   have zk2 := hg6 k
   have ne1 : ¬ (w.heap.size = g) := by omega
   have ne2 : ¬ (g = w.heap.size) := by omega
   have ne3 : ¬ (w.heap.size + 1 = g) := by omega
   have ne4 : ¬ (g = w.heap.size + 1) := by omega
   have ne5 : ¬ (w.heap.size = g2) := by omega
   have ne6 : ¬ (g2 = w.heap.size) := by omega
   have ne7 : ¬ (w.heap.size + 1 = g2) := by omega
   have ne8 : ¬ (g2 = w.heap.size + 1) := by omega
   have hgw : w.heap.size ≤ g := by omega
   have hgw2 : w.heap.size ≤ g2 := by omega
   have HX := Lib.hid (hx0.trans hx2)
   have HO := Lib.hid hod
   clear hr1 f0 f1 hb1 hbr1 hx0 hx2 hg3 hg6 hod
   have HU := Lib.hid ((hb2.set 0 (.slice (some ⟨g, 0, none⟩) d.sec.length k1)).set 1 (.slice (some ⟨g2, 0, none⟩) d.lost.length k2))
   have HR := Lib.hid ((hbr2.far (p := ⟨w.heap.size, 0, none⟩) (by simp) (.slice (some ⟨g, 0, none⟩) d.sec.length k1)).far (p := ⟨w.heap.size, 1, none⟩) (by simp) (.slice (some ⟨g2, 0, none⟩) d.lost.length k2))
   have HO3 := Lib.hid ((HO.out.far (p := ⟨w.heap.size, 0, none⟩) (by simp; omega) (.slice (some ⟨g, 0, none⟩) d.sec.length k1)).far (p := ⟨w.heap.size, 1, none⟩) (by simp; omega) (.slice (some ⟨g2, 0, none⟩) d.lost.length k2))
   have X3 := Lib.hid ((HX.out.setCell (p := ⟨w.heap.size, 0, none⟩) (by simp) (.slice (some ⟨g, 0, none⟩) d.sec.length k1)).setCell (p := ⟨w.heap.size, 1, none⟩) (by simp) (.slice (some ⟨g2, 0, none⟩) d.lost.length k2))
   clear hb2 hbr2
   go_wp2_with fail
   refine wp_abs (fun W => Ext w W ∧ Blk_ W w.heap.size 68 _ ∧ Blk_ W (w.heap.size + 1) 68 _ ∧ ODev 9 4 W w1'.heap.size (.slice (some ⟨g, 0, none⟩) d.sec.length k1) (.slice (some ⟨g2, 0, none⟩) d.lost.length k2) d) ⟨X3.out, HU.out, HR.out, HO3.out⟩ ?_
   rintro W3 ⟨e3, b3, r3, o3⟩
   clear HU HR HO3 X3 z0 z1 x0 x1 y0 y1 g0 g1 ck ck2 zk zk2
   have q0 := b3.cell 0
   have q1 := b3.cell 1
   have z0 := b3.frozen 0
   have z1 := b3.frozen 1
   have y0 := r3.cell 0
   have y1 := r3.cell 1
   have x0 := r3.frozen 0
   have x1 := r3.frozen 1
   simp at q0 q1 y0 y1
   have ck := (o3.1.cellAt k (by omega)).trans (flat_str_get d.sec k (by omega))
   have ck2 := (o3.2.1.cellAt k (by omega)).trans (flat_bool_get d.lost k (by omega))
   have zk := o3.1.frozenAt k
   have zk2 := o3.2.1.frozenAt k
   refine wp_region_begin (S := fun W' => W'.cell? ⟨w.heap.size, 0, none⟩ = some (.slice (some ⟨g, 0, none⟩) d.sec.length k1) ∧ W'.cell? ⟨w.heap.size, 1, none⟩ = some (.slice (some ⟨g2, 0, none⟩) d.lost.length k2)) (n := 10) (by kernel_rfl) rfl (by kernel_rfl) rfl ?_
   have hS0 : (fun W' => W'.cell? ⟨w.heap.size, 0, none⟩ = some (.slice (some ⟨g, 0, none⟩) d.sec.length k1) ∧ W'.cell? ⟨w.heap.size, 1, none⟩ = some (.slice (some ⟨g2, 0, none⟩) d.lost.length k2)) W3.drew := ⟨q0, q1⟩
   refine tkL 0 rfl (fun w' hS => by (try dsimp only at hS); go_simp; rfl) hS0 ?_
   refine tkL 1 rfl (fun w' hS => by (try dsimp only at hS); go_simp; rfl) hS0 ?_
   refine tkL 2 rfl (fun w' hS => by (try dsimp only at hS); go_simp; rfl) hS0 ?_
   try simp only [Act.put, List.setIfInBounds_toArray, List.set_cons_zero, List.set_cons_succ]
   refine tkL 3 rfl (fun w' hS => by (try dsimp only at hS); go_simp; rfl) hS0 ?_
   refine tkL 4 rfl (fun w' hS => by (try dsimp only at hS); go_simp; rfl) hS0 ?_
   refine tkL 5 rfl (fun w' hS => by (try dsimp only at hS); go_simp; rfl) hS0 ?_
   try simp only [Act.put, List.setIfInBounds_toArray, List.set_cons_zero, List.set_cons_succ]
   refine tkL 6 rfl (fun w' hS => by (try dsimp only at hS); go_simp; rfl) hS0 ?_
   refine tkL 7 rfl (fun w' hS => by (try dsimp only at hS); go_simp; rfl) hS0 ?_
   try simp only [Act.put, List.setIfInBounds_toArray, List.set_cons_zero, List.set_cons_succ]
   refine wpAnyH_oneL (i := 8) rfl (by kernel_rfl) rfl (fun K hK => ?_)
   go_wp2_with fail
   have b4 := b3.far (p := ⟨g, k, none⟩) ne1 (.string T)
   have r4 := r3.far (p := ⟨g, k, none⟩) ne3 (.string T)
   have o4 := o3.setSec rfl (by decide) k T (by have := HT.out; omega)
   have e4 := e3.setCell (p := ⟨g, k, none⟩) (by simp; omega) (.string T)
   have q4 := b4.cell 0
   have q5 := b4.cell 1
   simp at q4 q5
   refine hK _ _ ⟨q4, q5⟩ ?_
   clear hK K
   refine wpAnyH_takeL (i := 9) (v := ?_) rfl (by kernel_rfl) (fun _ _ _ h => h) rfl ?_ ⟨q4, q5⟩ ?_
   rotate_left
   ·intro w' hS
    try dsimp only at hS
    go_simp
    rfl
   try simp only [Act.put, List.setIfInBounds_toArray, List.set_cons_zero, List.set_cons_succ]
   refine wpAnyH_endL (by kernel_rfl) (fun K hK => ?_)
   have b5 := b4.far (p := ⟨g2, k, none⟩) ne5 (.bool false)
   have r5 := r4.far (p := ⟨g2, k, none⟩) ne7 (.bool false)
   have HB := Lib.hid ((r5.set 0 (.slice (some ⟨g, 0, none⟩) d.sec.length k1)).set 1 (.slice (some ⟨g2, 0, none⟩) d.lost.length k2))
   have HO5 := Lib.hid (o4.setLost rfl (by decide) k false)
   have HE := Lib.hid e4
   clear b3 r3 o3 e3 b4 r4 o4 e4 b5 r5 q4 q5 hS0
   go_wp2_with fail
   refine bodyPost_ret (res_cell_tmp rfl rfl HB.out Tryz.underlying68 rfl (by kernel_rfl)) rfl ?_
   rw [HF.out]
   refine ⟨some ⟨g, 0, none⟩, k1, some ⟨g2, 0, none⟩, k2, ?_, ?_, ?_⟩
   ·rw [List.length_set, List.length_set]; rfl
   ·exact (((HE.out.setCell (p := ⟨g2, k, none⟩) hgw2 _).setCell (p := ⟨w.heap.size + 1, 0, none⟩) (Nat.le_succ _) _).setCell (p := ⟨w.heap.size + 1, 1, none⟩) (Nat.le_succ _) _).drew
   ·have o6 := ((HO5.out.far (p := ⟨w.heap.size + 1, 0, none⟩) (by simp; omega) (.slice (some ⟨g, 0, none⟩) d.sec.length k1)).far (p := ⟨w.heap.size + 1, 1, none⟩) (by simp; omega) (.slice (some ⟨g2, 0, none⟩) d.lost.length k2)).base (base' := w.heap.size) (by omega)
    rw [List.length_set, List.length_set]
    exact o6
  ·have hf := write_bad2 hc hE
   have hE' : ((encodeS no s).2 != 0) = true := by simpa using hE
   have HF := Lib.hid hf
   clear hf
   clear hc hcold hE hr1
   have y0 := hbr1.cell 0
   have y1 := hbr1.cell 1
   have x0 := hbr1.frozen 0
   have x1 := hbr1.frozen 1
   simp at y0 y1
   have HB := Lib.hid ((hbr1.set 0 (.slice none 0 0)).set 1 (.slice none 0 0))
   generalize (encodeS no s).2 = t at *
   go_wp2_with fail
   refine bodyPost_ret (res_cell_tmp rfl rfl HB.out Tryz.underlying68 rfl (by kernel_rfl)) rfl ?_
   rw [HF.out]
   refine ⟨none, 0, none, 0, rfl, (hx0.setCell (by simp) _).setCell (by simp) _, ?_⟩
   exact ⟨World.ownsRow_nil _ _ _ _, World.ownsRow_nil _ _ _ _, by simp, by simp, fun s hs => by cases hs⟩
 ·have hf := write_bad1 (no := no) (s := s) hc
  have hc' : (touchCode d n != 0) = true := by simpa using hc
  have HF := Lib.hid hf
  clear hf
  clear hc hr1
  have y0 := hbr1.cell 0
  have y1 := hbr1.cell 1
  have x0 := hbr1.frozen 0
  have x1 := hbr1.frozen 1
  simp at y0 y1
  have HB := Lib.hid ((hbr1.set 0 (.slice none 0 0)).set 1 (.slice none 0 0))
  generalize touchCode d n = t at *
  go_wp2_with fail
  refine bodyPost_ret (res_cell_tmp rfl rfl HB.out Tryz.underlying68 rfl (by kernel_rfl)) rfl ?_
  rw [HF.out]
  refine ⟨none, 0, none, 0, rfl, (hx0.setCell (by simp) _).setCell (by simp) _, ?_⟩
  exact ⟨World.ownsRow_nil _ _ _ _, World.ownsRow_nil _ _ _ _, by simp, by simp, fun s hs => by cases hs⟩
theorem own_grown {w w' : World} {base : Nat} {e : TypeId} {size : Nat} {v : Value} {n : Nat} {xs : List Value} {row : Option Nat} (h : w.ownsRow base e size v n xs) (hg : w.grownBy w' row) (hne : ∀ g, v.ownBlock = some g → row ≠ some g) : w'.ownsRow base e size v n xs := by
 have h' := h
 obtain ⟨hl, h⟩ := h
 refine ⟨hl, ?_⟩
 rcases h with h | ⟨g, cap, cur, hv, hb, hgg, r⟩
 ·exact .inl h
 ·have hgb : v.ownBlock = some g := by rw [hv]; rfl
  exact .inr ⟨g, cap, cur, hv, hb, (hg.block g (h'.lt g hgb).2 (Ne.symm (hne g hgb))).trans hgg, r⟩
theorem ODev.off {S L : TypeId} {w : World} {base : Nat} {v1 v2 : Value} {d : Dev} (h : ODev S L w base v1 v2 d) {p : Addr} (h1 : v1.ownBlock ≠ some p.block) (h2 : v2.ownBlock ≠ some p.block) (u : Value) : ODev S L (w.setCell p u) base v1 v2 d :=
 ⟨ownsRow_setCell_other h.1 h1 u, ownsRow_setCell_other h.2.1 h2 u, h.2.2⟩
theorem own_apart {w : World} {base : Nat} {e e' : TypeId} {v v' : Value} {n n' : Nat} {xs xs' : List Value} (h : w.ownsRow base e 1 v n xs) (h' : w.ownsRow base e' 1 v' n' xs') (he : e ≠ e') : ∀ g, v.ownBlock = some g → v'.ownBlock ≠ some g := by
 intro g hg hg'
 rcases h.2 with ⟨hv, _⟩ | ⟨g1, cap, cur, hv, _, hg1, _⟩
 ·rw [hv] at hg; cases hg
 ·rcases h'.2 with ⟨hv2, _⟩ | ⟨g2, cap2, cur2, hv2, _, hg2, _⟩
  ·rw [hv2] at hg'; cases hg'
  ·have e1 : g1 = g := by rw [hv] at hg; simpa [Value.ownBlock] using hg
   have e2 : g2 = g := by rw [hv2] at hg'; simpa [Value.ownBlock] using hg'
   subst e1
   rw [e2, hg1] at hg2
   injection hg2 with hg2
   injection hg2 with b1 b2 b3
   exact he b2
theorem ODev.pushSec {S L : TypeId} {w w' : World} {base : Nat} {v1 v2 v1' : Value} {d : Dev} {s : ByteArray} (h : ODev S L w base v1 v2 d) (hSL : S ≠ L) (ho : w'.ownsRow base S 1 v1' (d.sec.length + 1) (d.sec.flatMap encStr ++ [.string s])) (hg : w.grownBy w' v1.ownBlock)
  (hn : (d.sec.length + 1) * 16 ≤ 140737488355328) (hs : s.size ≤ 140737488355328) : ODev S L w' base v1' v2 ⟨d.sec ++ [s], d.lost⟩ := by
 refine ⟨?_, own_grown h.2.1 hg (fun g h2 => own_apart h.2.1 h.1 (Ne.symm hSL) g h2), by simpa using hn, h.2.2.2.1, fun x hx => ?_⟩
 ·simp only [List.length_append, List.length_cons, List.length_nil, Nat.zero_add, List.flatMap_append, List.flatMap_cons, List.flatMap_nil, List.append_nil]
  exact ho
 ·rcases List.mem_append.1 hx with hx | hx
  ·exact h.2.2.2.2 x hx
  ·obtain rfl := List.mem_singleton.1 hx; exact hs
section
variable {P : Program} {Q : Exit → Act → World → Prop}
theorem wpList_push {ops : Array Oper} {rest : List Oper} {o : Oper} {a : Act} {w : World} (s x : Operand) (t : TypeId)
  (ho : o.op = .call { callee := .builtin .append, args := #[s, x], argTypes := #[t, t] }) (hgd : o.guard = none)
  (base : Nat) (e : TypeId) (i : TypeInfo) (z : Value) (bytes : Nat) (ht : P.underlying t = some (.slice e)) (hi : P.info? e = some i) (hz : i.zero = some z)
  (hsize : i.size = 1) (hby : i.bytes = bytes) (hzs : z.cells.size = 1)
  (v : Value) (n : Nat) (xs : List Value) (hs : a.eval s = v) (hown : w.ownsRow base e 1 v n xs)
  (g c : Nat) (u : Value) (hx : a.eval x = .slice (some ⟨g, 0, none⟩) 1 c) (hu : w.cell? ⟨g, 0, none⟩ = some u) (h1 : u.oneCell' = true)
  (h63 : n + 1 ≤ maxLen) (hbytes : (n + 1) * bytes ≤ 140737488355328) (hbase : base ≤ w.heap.size)
  (h : ∀ A' c' w', w'.ownsRow base e 1 (.slice A' (n + 1) c') (n + 1) (xs ++ [u]) → w.grownBy w' v.ownBlock → ((Value.slice A' (n + 1) c').ownBlock = v.ownBlock ∨ (Value.slice A' (n + 1) c').ownBlock = some w.heap.size) → wpList P ops Q rest (a.put o.dst (.slice A' (n + 1) c')) w') : wpList P ops Q (o :: rest) a w :=
 wpList_append_at w hgd s x t ho base e i z 1 bytes ht hi hz hsize hby hzs (by decide) v n xs hs hown ⟨g, 0, none⟩ 1 c [u] hx rfl (fun j u' hj => by
  match j with
  | 0 => simp at hj; subst hj; exact hu
  | j + 1 => simp at hj) (fun u' hu' => by obtain rfl := List.mem_singleton.1 hu'; exact h1) h63 hbytes hbase h
theorem make_row (t e : TypeId) (i : TypeInfo) (z : Value) (ht : P.underlying t = some (.slice e)) (hi : P.info? e = some i) (hz : i.zero = some z) (hsize : i.size = 1) (hzs : z.cells = #[z])
  (n : Nat) (hb : i.bytes * n ≤ 140737488355328) (hn : n ≤ 140737488355328) :
  ∃ cs : Array Value, cs.toList = List.replicate n z ∧ ∀ w : World, (Instr.makeSlice t (.int .i64 n) (.int .i64 n)).run P w = .ok (.slice (some ⟨w.heap.size, 0, none⟩) n n) (w.alloc (.cells cs e)) := by
 have hbb : ((i.bytes : Int) * (n : Int)) = ((i.bytes * n : Nat) : Int) := by simp
 refine ⟨madeCells z.cells (n * i.size), ?_, fun w => ?_⟩
 ·rw [hsize, Nat.mul_one, hzs]
  apply List.ext_getElem?
  intro j
  simp only [madeCells, List.getElem?_replicate, Array.getElem?_toList]
  by_cases hj : j < n
  ·simp [hj, Array.getElem?_map, Array.getElem?_range, Nat.mod_one]
  ·simp [hj]
 ·have hr := run_make (P := P) w t e i z ht hi hz .i64 .i64 n n (by omega) (by omega) (by rw [hbb]; omega) (by omega)
  simpa using hr
theorem own_made (w : World) (e : TypeId) (cs : Array Value) (n : Nat) (xs : List Value) (hc : cs.toList = xs) (hn : xs.length = n) (hm : n ≤ 140737488355328) : (w.alloc (.cells cs e)).ownsRow w.heap.size e 1 (.slice (some ⟨w.heap.size, 0, none⟩) n n) n xs := by
 subst hc
 have hs : cs.size = n := by simpa using hn
 refine ⟨by simpa using hn, .inr ⟨w.heap.size, n, cs, rfl, Nat.le_refl _, heap_alloc_new w _, Nat.le_refl _, by unfold maxLen; omega, by omega, ?_⟩⟩
 rw [Nat.mul_one]
 exact List.take_of_length_le (by simp [hs])
end
def freshSec (from_ : Int) (k : Nat) : List ByteArray := (List.range k).map (fun (i : Nat) => (encodeS (from_ + i) .empty).1)
theorem freshSec_len (f : Int) (k : Nat) : (freshSec f k).length = k := by unfold freshSec; simp
theorem freshSec_succ (f : Int) (k : Nat) : freshSec f (k + 1) = freshSec f k ++ [(encodeS (f + k) .empty).1] := by
 unfold freshSec; rw [List.range_succ, List.map_append]; rfl
theorem fresh_eq (m : Nat) (f : Int) : freshDev m f = ⟨freshSec f m, List.replicate m false⟩ := rfl
theorem new_good {m f : Nat} (h1 : 1 ≤ m) (h2 : m ≤ 64) (h3 : f ≤ 512) : newDevS m f = (freshDev m f, 0) := by
 unfold newDevS; rw [if_pos (by simp [inB]; omega)]; rfl
theorem new_bad {many from_ : Int} (h : ¬ (1 ≤ many ∧ many ≤ 64 ∧ 0 ≤ from_ ∧ from_ ≤ 512)) : newDevS many from_ = (⟨[], []⟩, 2) := by
 unfold newDevS; rw [if_neg (by simp [inB]; omega)]
theorem flat_rep (m : Nat) (b : Bool) : (List.replicate m b).flatMap encBool = List.replicate m (.bool b) := by
 induction m with
 | zero => rfl
 | succ m ih => rw [List.replicate_succ, List.flatMap_cons, ih]; rfl
theorem devNew_any (many from_ : Int) (w : World) (hm : I64 many) (hf : I64 from_) :
  Calls Tryz.prog 117 #[.int .i64 many, .int .i64 from_] w fun e w' => ∃ A1 c1 A2 c2, e = .returned (.tuple #[.agg #[.slice A1 (newDevS many from_).1.sec.length c1, .slice A2 (newDevS many from_).1.lost.length c2], .int .i64 (newDevS many from_).2]) ∧ Ext w w' ∧
   ODev 9 4 w' w.heap.size (.slice A1 (newDevS many from_).1.sec.length c1) (.slice A2 (newDevS many from_).1.lost.length c2) (newDevS many from_).1 := by
 by_cases hok : 1 ≤ many ∧ many ≤ 64 ∧ 0 ≤ from_ ∧ from_ ≤ 512
 ·obtain ⟨h1, h2, h3, h4⟩ := hok
  obtain ⟨m, rfl⟩ := Int.eq_ofNat_of_zero_le (show 0 ≤ many by omega)
  obtain ⟨f, rfl⟩ := Int.eq_ofNat_of_zero_le h3
  have HF := Lib.hid (new_good (m := m) (f := f) (by omega) (by omega) (by omega))
  obtain ⟨i1, hi1, za1, zb1, zc1⟩ := info_parts info_str
  obtain ⟨i2, hi2, za2, zb2, zc2⟩ := info_parts info_bool
  have HI1 := Lib.hid (And.intro hi1 (And.intro za1 (And.intro zb1 zc1)))
  have HI2 := Lib.hid (And.intro hi2 (And.intro za2 (And.intro zb2 zc2)))
  have hM : m ≤ 64 := by omega
  have hFr : f ≤ 512 := by omega
  have HM := Lib.hid (And.intro hM hFr)
  clear hi1 za1 zb1 zc1 hi2 za2 zb2 zc2 hm hf
  have t1 : decide ((m : Int) < 1) = false := by simp; omega
  have t2 : decide ((64 : Int) < (m : Int)) = false := by simp; omega
  have t3 : decide ((f : Int) < 0) = false := by simp
  have t4 : decide ((512 : Int) < (f : Int)) = false := by simp; omega
  clear h1 h2 h3 h4 hM hFr
  obtain ⟨cs, hcs, hmk⟩ := make_row (P := Tryz.prog) 66 4 i2 (.bool false) Tryz.underlying66 HI2.out.1 HI2.out.2.1 HI2.out.2.2.1 rfl m (by rw [HI2.out.2.2.2]; have := HM.out; omega) (by have := HM.out; omega)
  have HCS := Lib.hid hcs
  clear hcs
  go_enter Tryz.func117, Tryz.ntmps117
  go_wp2_with fail
  clear hmk
  refine wp_abs (fun W => Ext w W ∧ Blk_ W w.heap.size 68 #[.slice none 0 0, .slice none 0 0] ∧ Blk_ W (w.heap.size + 1 + 1) 68 #[.slice none 0 0, .slice (some ⟨w.heap.size + 1, 0, none⟩) m m] ∧
   ODev 9 4 W (w.heap.size + 1) (.slice none 0 0) (.slice (some ⟨w.heap.size + 1, 0, none⟩) m m) ⟨freshSec f 0, List.replicate m false⟩) ⟨(((Ext.refl _).alloc _).alloc _).alloc _, ((Blk_.new _ _ _).alloc _).alloc _, Blk_.new2 _ _ _ _ _, ?_⟩ ?_
  ·have how := own_made (w.alloc (.cells #[.slice none 0 0, .slice none 0 0] 68)) 4 cs m _ HCS.out (by simp) (by have := HM.out; omega)
   rw [World.size_alloc] at how
   refine ODev.ext (w := (w.alloc (.cells #[.slice none 0 0, .slice none 0 0] 68)).alloc (.cells cs 4)) ⟨World.ownsRow_nil _ _ _ _, ?_, by simp [freshSec], by rw [List.length_replicate]; have := HM.out; omega, fun s hs => by simp [freshSec] at hs⟩ ((Ext.refl _).alloc _)
   rw [flat_rep, List.length_replicate]
   exact how
  rintro W ⟨hx, hbr, hbd, hod⟩
  go_loopw [29] (fun i wr => ∃ (k : Nat) (A : Option Addr) (c : Nat), i = .int .i64 k ∧ k ≤ m ∧ Ext w wr ∧ Blk_ wr w.heap.size 68 #[.slice none 0 0, .slice none 0 0] ∧ Blk_ wr (w.heap.size + 1 + 1) 68 #[.slice A k c, .slice (some ⟨w.heap.size + 1, 0, none⟩) m m] ∧
   ODev 9 4 wr (w.heap.size + 1) (.slice A k c) (.slice (some ⟨w.heap.size + 1, 0, none⟩) m m) ⟨freshSec f k, List.replicate m false⟩ ∧ (Value.slice A k c).ownBlock ≠ some (w.heap.size + 1 + 1)) (fun i _ => m - (intOf i).toNat)
  case atStart => exact ⟨0, none, 0, rfl, Nat.zero_le _, hx, hbr, hbd, hod, by simp [Value.ownBlock]⟩
  case round =>
   clear hx hbr hbd hod
   obtain ⟨k, A, c, rfl, hk, hx, hbr, hbd, hod, hne⟩ := hrel
   by_cases hlt : k < m
   ·have hk64 : (k : Int) < 64 := by have := HM.out; omega
    have hf512 : (f : Int) ≤ 512 := by have := HM.out; omega
    go_wp2_with fail
    refine (encode_any ((f : Int) + (k : Int)) .empty _ ⟨by omega, by omega⟩ (by decide)).mono ?_
    rintro e w2 ⟨rfl, hx2⟩
    have hE : (encodeS ((f : Int) + (k : Int)) .empty).2 = 0 := by rw [encodeS_ok (by omega) (by omega) (by decide)]
    rw [hE]
    have HS := Lib.hid (encodeS_small ((f : Int) + (k : Int)) .empty)
    have hsn := freshSec_succ f k
    generalize (encodeS ((f : Int) + (k : Int)) .empty).1 = T at *
    have HSN := Lib.hid hsn
    have hbd2 := hbd.ext hx2
    have HBR2 := Lib.hid (hbr.ext hx2)
    have HOD2 := Lib.hid (hod.ext hx2)
    have HX2 := Lib.hid (hx.trans hx2)
    have f0 := hbd2.cell 0
    simp at f0
    have hl2 := hbd2.lt
    have ne0 : ¬ (w.heap.size + 1 + 1 = w2.heap.size) := by omega
    have ne1 : ¬ (w2.heap.size = w.heap.size + 1 + 1) := by omega
    clear hsn hE hx2 hbr hbd hx hod
    go_wp2_with (at_builtin; refine wpList_push (.tmp 44) (.tmp 46) 43 rfl rfl (w.heap.size + 1) 9 i1 (.string .empty) 16 Tryz.underlying43 HI1.out.1 HI1.out.2.1 HI1.out.2.2.1 HI1.out.2.2.2 rfl _ k _ rfl (own_len ?ln ((HOD2.out.ext ((Ext.refl _).alloc _)).1)) w2.heap.size 1 (.string T) rfl ?c1 rfl ?c2 ?c3 ?c4 ?_)
    case ln => exact freshSec_len f k
    case c1 => exact (Blk_.new _ _ _).cell 0
    case c2 => unfold maxLen; have := HM.out; omega
    case c3 => have := HM.out; omega
    case c4 => simp; omega
    intro A' c' w3 own3 hg3 hb3
    have hbd3 := (hbd2.ext ((Ext.refl _).alloc _)).grown hg3 (fun g hgg e => hne (by rw [hgg, e]))
    have HBR3 := Lib.hid ((HBR2.out.ext ((Ext.refl _).alloc _)).grown hg3 (fun g hgg e => by have := (HOD2.out.1.lt g hgg).1; omega))
    have HX3 := Lib.hid ((HX2.out.trans ((Ext.refl _).alloc _)).grown hg3 (fun g hgg => by have := (HOD2.out.1.lt g hgg).1; omega))
    have hod3 := (HOD2.out.ext ((Ext.refl _).alloc _)).pushSec (by decide) (own_len (by show _ = (freshSec f k).length + 1; rw [freshSec_len]) own3) hg3 (by show ((freshSec f k).length + 1) * 16 ≤ _; rw [freshSec_len]; have := HM.out; omega) (by have := HS.out; omega)
    have hne3 : (Value.slice A' (k + 1) c').ownBlock ≠ some (w.heap.size + 1 + 1) := by
     rcases hb3 with h | h
     ·rw [h]; exact hne
     ·rw [h]; simp; omega
    have HO3 := Lib.hid hod3
    have HN3 := Lib.hid hne3
    have HB3 := Lib.hid hbd3
    have g0 := hbd3.cell 0
    have z0 := hbd3.frozen 0
    simp at g0
    clear hbd2 hod3 hne3 hbd3 own3 hg3 hb3 hne f0
    go_wp2_with fail
    go_roundw
    case rel =>
     refine ⟨k + 1, A', c', by go_num, by omega, HX3.out.setCell (by dsimp only; omega) _, HBR3.out.far (by dsimp only; omega) _, HB3.out.set 0 _, ?_, HN3.out⟩
     rw [HSN.out]
     exact HO3.out.off HN3.out (by simp [Value.ownBlock]) _
    case measure => simp [intOf]; omega
   ·obtain rfl : k = m := by omega
    have f0 := hbd.cell 0
    have f1 := hbd.cell 1
    have y0 := hbr.cell 0
    have y1 := hbr.cell 1
    have x0 := hbr.frozen 0
    have x1 := hbr.frozen 1
    simp at f0 f1 y0 y1
    have HB := Lib.hid ((hbr.set 0 (.slice A k c)).set 1 (.slice (some ⟨w.heap.size + 1, 0, none⟩) k k))
    clear hlt hk
    go_wp2_with fail
    refine bodyPost_ret (res_cell_tmp rfl rfl HB.out Tryz.underlying68 rfl (by kernel_rfl)) rfl ?_
    rw [HF.out, fresh_eq]
    refine ⟨A, c, some ⟨w.heap.size + 1, 0, none⟩, k, ?_, ?_, ?_⟩
    ·simp only [freshSec_len, List.length_replicate]; rfl
    ·exact (hx.setCell (p := ⟨w.heap.size, 0, none⟩) (Nat.le_refl _) _).setCell (p := ⟨w.heap.size, 1, none⟩) (Nat.le_refl _) _
    ·simp only [freshSec_len, List.length_replicate]
     exact ((hod.far (p := ⟨w.heap.size, 0, none⟩) (by simp) _).far (p := ⟨w.heap.size, 1, none⟩) (by simp) _).base (by omega)
 ·have hfin := new_bad hok
  have HF := Lib.hid hfin
  have hcs : (decide (many < 1) = true) ∨ (decide (many < 1) = false ∧ decide ((64 : Int) < many) = true) ∨ (decide (many < 1) = false ∧ decide ((64 : Int) < many) = false ∧ decide (from_ < 0) = true) ∨ (decide (many < 1) = false ∧ decide ((64 : Int) < many) = false ∧ decide (from_ < 0) = false ∧ decide ((512 : Int) < from_) = true) := by
   simp only [decide_eq_true_eq, decide_eq_false_iff_not]; omega
  clear hfin hok hm hf
  have HB := Lib.hid (((Blk_.new w 68 #[.slice none 0 0, .slice none 0 0]).set 0 (.slice none 0 0)).set 1 (.slice none 0 0))
  rcases hcs with t1 | ⟨t1, t2⟩ | ⟨t1, t2, t3⟩ | ⟨t1, t2, t3, t4⟩
  ·go_enter Tryz.func117, Tryz.ntmps117
   go_wp2_with fail
   refine bodyPost_ret (res_cell_tmp rfl rfl (Blk_.new w 68 #[.slice none 0 0, .slice none 0 0]) Tryz.underlying68 rfl (by kernel_rfl)) rfl ?_
   rw [HF.out]
   refine ⟨none, 0, none, 0, rfl, (Ext.refl w).alloc _, ?_⟩
   exact ⟨World.ownsRow_nil _ _ _ _, World.ownsRow_nil _ _ _ _, by simp, by simp, fun s hs => by cases hs⟩
  ·go_enter Tryz.func117, Tryz.ntmps117
   go_wp2_with fail
   refine bodyPost_ret (res_cell_tmp rfl rfl (Blk_.new w 68 #[.slice none 0 0, .slice none 0 0]) Tryz.underlying68 rfl (by kernel_rfl)) rfl ?_
   rw [HF.out]
   refine ⟨none, 0, none, 0, rfl, (Ext.refl w).alloc _, ?_⟩
   exact ⟨World.ownsRow_nil _ _ _ _, World.ownsRow_nil _ _ _ _, by simp, by simp, fun s hs => by cases hs⟩
  ·go_enter Tryz.func117, Tryz.ntmps117
   go_wp2_with fail
   refine bodyPost_ret (res_cell_tmp rfl rfl (Blk_.new w 68 #[.slice none 0 0, .slice none 0 0]) Tryz.underlying68 rfl (by kernel_rfl)) rfl ?_
   rw [HF.out]
   refine ⟨none, 0, none, 0, rfl, (Ext.refl w).alloc _, ?_⟩
   exact ⟨World.ownsRow_nil _ _ _ _, World.ownsRow_nil _ _ _ _, by simp, by simp, fun s hs => by cases hs⟩
  ·go_enter Tryz.func117, Tryz.ntmps117
   go_wp2_with fail
   refine bodyPost_ret (res_cell_tmp rfl rfl (Blk_.new w 68 #[.slice none 0 0, .slice none 0 0]) Tryz.underlying68 rfl (by kernel_rfl)) rfl ?_
   rw [HF.out]
   refine ⟨none, 0, none, 0, rfl, (Ext.refl w).alloc _, ?_⟩
   exact ⟨World.ownsRow_nil _ _ _ _, World.ownsRow_nil _ _ _ _, by simp, by simp, fun s hs => by cases hs⟩
end Go.Proofs.YtgjijcgkmofaaaaGreatDoor
