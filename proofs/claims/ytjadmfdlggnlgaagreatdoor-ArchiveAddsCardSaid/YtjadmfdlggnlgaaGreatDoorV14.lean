/-
  The document's bytes of a catalog, and the law: catalog.Encode answers as it does. Conditions: the argument reads as a catalog.
-/
import Derived.Test.YtjadmfdlggnlgaaGreatDoorV13
import Derived.Shelf.Small.Strs
import Derived.Lib.Bytealg
namespace Go.Proofs.YtjadmfdlggnlgaaGreatDoor
set_option linter.unusedSimpArgs false
set_option linter.unusedVariables false
set_option maxRecDepth 100000
set_option maxHeartbeats 8000000
open Go.RowKit
theorem own_ne {w : World} {base : Nat} {e e' : TypeId} {size n g : Nat} {v : Value} {xs : List Value} {cs : Array Value} (h : w.ownsRow base e size v n xs) (hb : Blk_ w g e' cs) (hne : e ≠ e') : ∀ k, v.ownBlock = some k → k ≠ g := by
 rintro k hk rfl
 rcases h.2 with ⟨hv, _⟩ | ⟨g', cap, cur, hv, _, hg, _⟩
 ·rw [hv] at hk; cases hk
 ·rw [hv] at hk
  obtain rfl : g' = k := by injection hk
  unfold Blk_ at hb
  rw [hg] at hb
  injection hb with hb
  injection hb with _ h2 _
  exact hne h2
theorem own_one (w : World) (base : Nat) (e : TypeId) (u : Value) (hb : base ≤ w.heap.size) : (w.alloc (.cells #[u] e)).ownsRow base e 1 (.slice (some ⟨w.heap.size, 0, none⟩) 1 1) 1 [u] :=
 ⟨rfl, .inr ⟨w.heap.size, 1, #[u], rfl, hb, heap_alloc_new w _, Nat.le_refl 1, by decide, rfl, rfl⟩⟩
theorem cells_one (n : Int) (h0 : 0 ≤ n) (h1 : n < 256) : cells [byte n] = [.int .u8 n] := by
 unfold cells; rw [List.map_cons, List.map_nil, byte_nat_ _ h0 h1]
theorem cells_two (n : Int) (h0 : 0 ≤ n) (h1 : n ≤ 65535) : cells (twoB n) = [.int .u8 (n / 256), .int .u8 (n % 256)] := by
 unfold cells twoB; rw [List.map_cons, List.map_cons, List.map_nil, byte_nat_ _ (by omega) (by omega), byte_nat_ _ (by omega) (by omega)]
theorem cells_four (a n b : Int) (h0 : 0 ≤ a) (h1 : a < 256) (h2 : 0 ≤ n) (h3 : n ≤ 65535) (h4 : 0 ≤ b) (h5 : b < 256) : cells [byte a, byte (n / 256), byte (n % 256), byte b] = [.int .u8 a, .int .u8 (n / 256), .int .u8 (n % 256), .int .u8 b] := by
 unfold cells; rw [List.map_cons, List.map_cons, List.map_cons, List.map_cons, List.map_nil, byte_nat_ _ h0 h1, byte_nat_ _ (by omega) (by omega), byte_nat_ _ (by omega) (by omega), byte_nat_ _ h4 h5]
theorem catBytes_any (cs : List Value) (d : Cat) (w : World) (h : RCat w cs d) :
  Calls Tryz.prog 27 #[.agg cs.toArray] w fun e w' => e = .returned (.tuple #[.string (encCatS d).1, .int .i64 (encCatS d).2]) ∧ Ext w w' := by
 obtain ⟨i0, hi0, hz0, hz1, hz2⟩ := info_parts info_byte
 have HI0 := Lib.hid (And.intro hi0 (And.intro hz0 (And.intro hz1 hz2)))
 clear hi0 hz0 hz1 hz2
 have h' := h
 obtain ⟨v1, v2, rfl, h1, h2'⟩ := h'
 obtain ⟨A1, c1, rfl, l1, hc1, p1⟩ := h1.rowE encBlk_ok
 obtain ⟨A2, c2, rfl, l2, hc2, s1⟩ := h2'.rowE encEnt_ok
 have HP := Lib.hid p1
 have HS := Lib.hid s1
 have HH := Lib.hid h
 clear h1 h2' l1 hc1 p1 h l2 hc2 s1
 go_enter Tryz.func27, Tryz.ntmps27
 go_wp2_with fail
 refine calls_abs (fun W => Ext w W ∧ Blk_ W w.heap.size 40 #[.slice A1 d.blocks.length c1, .slice A2 d.entries.length c2]) ⟨(Ext.refl _).alloc _, Blk_.new _ _ _⟩ ?_
 rintro W ⟨hx, hb⟩
 refine (catFault_any [.slice A1 d.blocks.length c1, .slice A2 d.entries.length c2] d W (HH.out.up hx)).mono ?_
 rintro e w1 ⟨rfl, hx1⟩
 have hb1 := hb.ext hx1
 have hxw := hx.trans hx1
 have f0 := hb1.cell 0
 have f1 := hb1.cell 1
 simp at f0 f1
 clear hb hx hx1
 by_cases hc : catFault d = 0
 ·have HF := Lib.hid (enc_good hc)
  have hok := catFault_ok hc
  have HN := Lib.hid (And.intro hok.1 hok.2.1)
  have HBR := Lib.hid (blocksF_range d.blocks 8 (by omega) hok.2.2.1)
  have HER := Lib.hid (entsF_ok _ _ _ hok.2.2.2)
  rw [hc]
  have hn1 : (d.blocks.length : Int) ≤ 10 := by have := hok.1; omega
  have hn2 : (d.entries.length : Int) ≤ 10 := by have := hok.2.1; omega
  have hu1 : IntKind.u8.wrap (d.blocks.length : Int) = (d.blocks.length : Int) := by rw [IntKind.wrap_u8]; omega
  have hu2 : IntKind.u8.wrap (d.entries.length : Int) = (d.entries.length : Int) := by rw [IntKind.wrap_u8]; omega
  obtain ⟨T, hT⟩ : ∃ T, T = catBytes d := ⟨_, rfl⟩
  obtain ⟨REST, hREST⟩ : ∃ r, r = byte d.entries.length :: d.entries.flatMap entBytes := ⟨_, rfl⟩
  have HT := Lib.hid hT
  have HRE := Lib.hid hREST
  have HT0 := Lib.hid (show [byte (d.blocks.length : Int)] ++ ((d.blocks.drop 0).flatMap (fun b => twoB b.bytes) ++ REST) = T by rw [hT, hREST]; rfl)
  clear hc hok hT hREST
  have hl1 := hb1.lt
  go_wp2_with fail
  go_loopw [5, 6] (fun bv i wr => ∃ (k : Nat) (t : List UInt8) (A : Option Addr) (cp : Nat), bv = .slice A t.length cp ∧ i = .int .i64 k ∧ k ≤ d.blocks.length ∧ 1 ≤ t.length ∧ t.length ≤ 1 + 2 * k ∧ Ext w wr ∧ Blk_ wr w.heap.size 40 #[.slice A1 d.blocks.length c1, .slice A2 d.entries.length c2] ∧ wr.ownsRow (w.heap.size + 1) 5 1 (.slice A t.length cp) t.length (cells t) ∧ t ++ ((d.blocks.drop k).flatMap (fun b => twoB b.bytes) ++ REST) = T) (fun _ i _ => d.blocks.length - (intOf i).toNat)
  case atStart => exact ⟨0, [byte (d.blocks.length : Int)], _, 1, rfl, rfl, Nat.zero_le _, by simp, by simp, hxw.alloc _, hb1.alloc _, by rw [cells_one _ (by omega) (by omega)]; exact own_one w1 _ _ _ (by omega), HT0.out⟩
  case round =>
   clear hxw hb1 f0 f1 HT0 hl1
   obtain ⟨k, t, A, cp, rfl, rfl, hk, htl0, htl, hx, hb, ho, heq⟩ := hrel
   have f0 := hb.cell 0
   have f1 := hb.cell 1
   simp at f0 f1
   have HEQ := Lib.hid heq
   have HO := Lib.hid ho
   have HTL := Lib.hid (And.intro htl0 htl)
   clear heq ho htl0 htl
   by_cases hlt : k < d.blocks.length
   ·obtain ⟨b1, o1, rfl, g1⟩ := HP.out k hlt
    have q1 := hx.cell (g1 k hlt 1 _ rfl)
    have hq1w := g1 k hlt 1 _ rfl
    have hB0 := HBR.out d.blocks[k] (List.getElem_mem hlt)
    have heq := HEQ.out
    rw [List.drop_eq_getElem_cons hlt, List.flatMap_cons] at heq
    obtain ⟨B, hB⟩ : ∃ B, B = d.blocks[k] := ⟨_, rfl⟩
    rw [← hB] at q1 hq1w hB0 heq
    have HQ1 := Lib.hid hq1w
    clear hq1w
    have HNX := Lib.hid (show (t ++ twoB B.bytes) ++ ((d.blocks.drop (k + 1)).flatMap (fun b => twoB b.bytes) ++ REST) = T by rw [List.append_assoc, ← List.append_assoc (twoB B.bytes)]; exact heq)
    clear g1 hB HEQ heq
    have hki : (k : Int) < (d.blocks.length : Int) := by omega
    have hk10 : (k : Int) < 10 := by have := HN.out.1; omega
    have hk10n : k < 10 := by omega
    obtain ⟨hB1, hB2⟩ := hB0
    have hq : (0 : Int) ≤ B.bytes / 256 := by omega
    have hq2 : B.bytes / 256 ≤ 255 := by omega
    have hq3 : IntKind.u8.wrap (B.bytes / 256) = B.bytes / 256 := by rw [IntKind.wrap_u8]; omega
    have hq4 : IntKind.u8.wrap (B.bytes % 256) = B.bytes % 256 := by rw [IntKind.wrap_u8]; omega
    have HC2 := Lib.hid (cells_two B.bytes hB1 (by omega))
    have HX := Lib.hid hx
    have HB := Lib.hid hb
    have hlw := hb.lt
    clear hx hb
    go_wp2_with fail
    refine wp_region_begin (S := fun W' => W'.cell? ⟨w.heap.size, 0, none⟩ = some (.slice (some ⟨b1, o1, none⟩) d.blocks.length c1) ∧ W'.cell? ⟨b1, o1 + k * 2 + 1, none⟩ = some (.int .i64 B.bytes)) (n := 19) (by kernel_rfl) rfl (by kernel_rfl) rfl ?_
    have hS0 : (fun W' => W'.cell? ⟨w.heap.size, 0, none⟩ = some (.slice (some ⟨b1, o1, none⟩) d.blocks.length c1) ∧ W'.cell? ⟨b1, o1 + k * 2 + 1, none⟩ = some (.int .i64 B.bytes)) wr.drew := ⟨f0, q1⟩
    refine tkL 0 rfl (fun w' hS => by (try dsimp only at hS); go_simp; rfl) hS0 ?_
    refine tkL 1 rfl (fun w' hS => by (try dsimp only at hS); go_simp; rfl) hS0 ?_
    refine tkL 2 rfl (fun w' hS => by (try dsimp only at hS); go_simp; rfl) hS0 ?_
    try simp only [Act.put, List.setIfInBounds_toArray, List.set_cons_zero, List.set_cons_succ]
    refine tkL 3 rfl (fun w' hS => by (try dsimp only at hS); go_simp; rfl) hS0 ?_
    refine tkL 4 rfl (fun w' hS => by (try dsimp only at hS); go_simp; rfl) hS0 ?_
    refine tkL 5 rfl (fun w' hS => by (try dsimp only at hS); go_simp; rfl) hS0 ?_
    try simp only [Act.put, List.setIfInBounds_toArray, List.set_cons_zero, List.set_cons_succ]
    refine tkL 6 rfl (fun w' hS => by (try dsimp only at hS); go_simp; rfl) hS0 ?_
    refine tkL 7 rfl (fun w' hS => by (try dsimp only at hS); go_simp; rfl) hS0 ?_
    refine tkL 8 rfl (fun w' hS => by (try dsimp only at hS); go_simp; rfl) hS0 ?_
    try simp only [Act.put, List.setIfInBounds_toArray, List.set_cons_zero, List.set_cons_succ]
    refine tkL 9 rfl (fun w' hS => by (try dsimp only at hS); go_simp; rfl) hS0 ?_
    refine tkL 10 rfl (fun w' hS => by (try dsimp only at hS); go_simp; rfl) hS0 ?_
    refine tkL 11 rfl (fun w' hS => by (try dsimp only at hS); go_simp; rfl) hS0 ?_
    try simp only [Act.put, List.setIfInBounds_toArray, List.set_cons_zero, List.set_cons_succ]
    refine tkL 12 rfl (fun w' hS => by (try dsimp only at hS); go_simp; rfl) hS0 ?_
    refine tkL 13 rfl (fun w' hS => by (try dsimp only at hS); go_simp; rfl) hS0 ?_
    refine tkL 14 rfl (fun w' hS => by (try dsimp only at hS); go_simp; rfl) hS0 ?_
    try simp only [Act.put, List.setIfInBounds_toArray, List.set_cons_zero, List.set_cons_succ]
    refine tkL 15 rfl (fun w' hS => by (try dsimp only at hS); go_simp; rfl) hS0 ?_
    refine tkL 16 rfl (fun w' hS => by (try dsimp only at hS); go_simp; rfl) hS0 ?_
    try simp only [Act.put, List.setIfInBounds_toArray, List.set_cons_zero, List.set_cons_succ]
    refine wpAnyH_oneL (i := 17) rfl (by kernel_rfl) rfl (fun K hK => ?_)
    go_wp2_with fail
    refine hK _ _ ?_ ?_
    ·first | exact ⟨((Ext.refl wr).drew.alloc _).cell f0, ((Ext.refl wr).drew.alloc _).cell q1⟩ | exact ⟨((Ext.refl wr).alloc _).drew.cell f0, ((Ext.refl wr).alloc _).drew.cell q1⟩
    clear hK K
    try simp only [Act.put, List.setIfInBounds_toArray, List.set_cons_zero, List.set_cons_succ]
    refine anyH_abs (fun W => Ext wr W ∧ Blk_ W wr.heap.size 5 #[.int .u8 (B.bytes / 256), .int .u8 (B.bytes % 256)]) ⟨by first | exact (Ext.refl _).alloc _ | exact (Ext.refl _).drew.alloc _, by first | exact Blk_.new _ _ _ | exact (Blk_.new _ _ _).drew⟩ ?_
    rintro W3 ⟨e3, b3⟩
    refine wpAnyH_oneL (i := 18) rfl (by kernel_rfl) rfl (fun K hK => ?_)
    refine wp_append_at _ (.tmp 26) (.tmp 43) 47 rfl (w.heap.size + 1) 5 i0 (.int .u8 0) 1 1 Tryz.underlying47 HI0.out.1 HI0.out.2.1 HI0.out.2.2.1 HI0.out.2.2.2 rfl (by decide) _ t.length _ rfl (own_ext HO.out e3) ⟨wr.heap.size, 0, none⟩ 2 2 [.int .u8 (B.bytes / 256), .int .u8 (B.bytes % 256)] rfl rfl ?_ ?_ ?_ ?_ ?_ ?_
    ·intro j u hu
     rw [Addr.add_lit, Nat.zero_add, b3.cell]
     simpa using hu
    ·intro u hu
     simp only [List.mem_cons, List.not_mem_nil, or_false] at hu
     rcases hu with rfl | rfl <;> rfl
    ·have := HTL.out.2; unfold maxLen; omega
    ·have := HTL.out.2; omega
    ·have := e3.size; omega
    intro A4 c4 w4 own4 hg4 hb4
    have HX4 := Lib.hid (show Ext w w4 from (HX.out.trans e3).grown hg4 (fun k hk => by have := (HO.out.lt k hk).1; omega))
    have HB4 := Lib.hid (show Blk_ w4 w.heap.size 40 #[.slice (some ⟨b1, o1, none⟩) d.blocks.length c1, .slice A2 d.entries.length c2] from (HB.out.ext e3).grown hg4 (fun k hk => by have := (HO.out.lt k hk).1; omega))
    have HO4 := Lib.hid (show w4.ownsRow (w.heap.size + 1) 5 1 (.slice A4 (t ++ twoB B.bytes).length c4) (t ++ twoB B.bytes).length (cells (t ++ twoB B.bytes)) by
     rw [cells_append, List.length_append, HC2.out]
     exact own4)
    have p0 := HB4.out.cell 0
    simp at p0
    have p1 : w4.cell? ⟨b1, o1 + k * 2 + 1, none⟩ = some (.int .i64 B.bytes) := HX4.out.cell HQ1.out
    refine hK _ _ ⟨p0, p1⟩ ?_
    clear hK K own4 hg4 hb4 e3 b3
    try simp only [Act.put, List.setIfInBounds_toArray, List.set_cons_zero, List.set_cons_succ]
    refine wpAnyH_endL (by kernel_rfl) (fun K hK => ?_)
    rw [show t.length + 2 = (t ++ twoB B.bytes).length by rw [List.length_append]; rfl]
    clear f0 f1 q1 hS0 p0 p1
    go_wp2_with fail
    go_roundw
    case rel => exact ⟨k + 1, t ++ twoB B.bytes, A4, c4, rfl, by go_num, by omega, by have := HTL.out.1; rw [List.length_append]; omega, by rw [List.length_append]; show t.length + 2 ≤ _; have := HTL.out.2; omega, HX4.out, HB4.out, HO4.out, HNX.out⟩
    case measure => simp [intOf]; omega
   ·have HE1 := Lib.hid (show t ++ REST = T by have := HEQ.out; rw [List.drop_of_length_le (by omega)] at this; exact this)
    clear HEQ
    have hk10 : (k : Int) ≤ 10 := by have := HN.out.1; omega
    have HK := Lib.hid (show k ≤ 10 by omega)
    have HX := Lib.hid hx
    have HB := Lib.hid hb
    have hlw := hb.lt
    clear hx hb
    go_wp2_with (at_builtin; refine wpList_push (.tmp 45) (.tmp 50) 47 rfl rfl (w.heap.size + 1) 5 i0 (.int .u8 0) 1 Tryz.underlying47 HI0.out.1 HI0.out.2.1 HI0.out.2.2.1 HI0.out.2.2.2 rfl _ _ _ rfl (own_ext HO.out ((Ext.refl _).alloc _)) _ 1 (.int .u8 (d.entries.length : Int)) rfl ?c1 rfl ?c2 ?c3 ?c4 ?_)
    case c1 => exact (Blk_.new _ _ _).cell 0
    case c2 => have := HTL.out.2; have := HK.out; unfold maxLen; omega
    case c3 => have := HTL.out.2; have := HK.out; omega
    case c4 => rw [World.size_alloc]; omega
    intro A5 c5 w5 own5 hg5 _
    have HX5 := Lib.hid (show Ext w w5 from (HX.out.trans ((Ext.refl _).alloc _)).grown hg5 (fun k hk => by have := (HO.out.lt k hk).1; omega))
    have HB5 := Lib.hid (show Blk_ w5 w.heap.size 40 #[.slice A1 d.blocks.length c1, .slice A2 d.entries.length c2] from (HB.out.alloc _).grown hg5 (fun k hk => by have := (HO.out.lt k hk).1; omega))
    have HO5 := Lib.hid (show w5.ownsRow (w.heap.size + 1) 5 1 (.slice A5 (t ++ [byte (d.entries.length : Int)]).length c5) (t ++ [byte (d.entries.length : Int)]).length (cells (t ++ [byte (d.entries.length : Int)])) by
     rw [cells_append, List.length_append, cells_one _ (by omega) (by omega)]
     exact own5)
    have f0 := HB5.out.cell 0
    have f1 := HB5.out.cell 1
    simp at f0 f1
    rw [show t.length + 1 = (t ++ [byte (d.entries.length : Int)]).length by rw [List.length_append]; rfl]
    have HE2 := Lib.hid (show (t ++ [byte (d.entries.length : Int)]) ++ (d.entries.drop 0).flatMap entBytes = T by have := HE1.out; rw [HRE.out] at this; rw [List.append_assoc]; exact this)
    have HL2 := Lib.hid (show 1 ≤ (t ++ [byte (d.entries.length : Int)]).length ∧ (t ++ [byte (d.entries.length : Int)]).length ≤ 22 + 13 * 0 by rw [List.length_append]; show 1 ≤ t.length + 1 ∧ t.length + 1 ≤ _; have := HTL.out.2; have := HK.out; omega)
    generalize t ++ [byte (d.entries.length : Int)] = t1 at *
    clear own5 hg5 hlw HE1 HTL HO HX HB
    go_wp2_with fail
    go_loopw [5, 7] (fun bv i wr => ∃ (k : Nat) (t : List UInt8) (A : Option Addr) (cp : Nat), bv = .slice A t.length cp ∧ i = .int .i64 k ∧ k ≤ d.entries.length ∧ 1 ≤ t.length ∧ t.length ≤ 22 + 13 * k ∧ Ext w wr ∧ Blk_ wr w.heap.size 40 #[.slice A1 d.blocks.length c1, .slice A2 d.entries.length c2] ∧ wr.ownsRow (w.heap.size + 1) 5 1 (.slice A t.length cp) t.length (cells t) ∧ t ++ (d.entries.drop k).flatMap entBytes = T) (fun _ i _ => d.entries.length - (intOf i).toNat)
    case atStart => exact ⟨0, t1, A5, c5, rfl, rfl, Nat.zero_le _, HL2.out.1, HL2.out.2, HX5.out, HB5.out, HO5.out, HE2.out⟩
    case round =>
     clear f0 f1 hlt hk hk10 HE2 HL2 HX5 HB5 HO5 HK
     obtain ⟨k, t, A, cp, rfl, rfl, hk, htl0, htl, hx, hb, ho, heq⟩ := hrel
     have f0 := hb.cell 0
     have f1 := hb.cell 1
     simp at f0 f1
     have HEQ := Lib.hid heq
     have HO := Lib.hid ho
     have HTL := Lib.hid (And.intro htl0 htl)
     clear heq ho htl0 htl
     by_cases hlt : k < d.entries.length
     ·obtain ⟨b2, o2, rfl, g1⟩ := HS.out k hlt
      have q0 := hx.cell (g1 k hlt 0 _ rfl)
      have q1 := hx.cell (g1 k hlt 1 _ rfl)
      have q2 := hx.cell (g1 k hlt 2 _ rfl)
      have q3 := hx.cell (g1 k hlt 3 _ rfl)
      simp only [Nat.add_zero] at q0
      have hX0 := HER.out d.entries[k] (List.getElem_mem hlt)
      have heq := HEQ.out
      rw [List.drop_eq_getElem_cons hlt, List.flatMap_cons] at heq
      obtain ⟨X, hX⟩ : ∃ X, X = d.entries[k] := ⟨_, rfl⟩
      rw [← hX] at q0 q1 q2 q3 hX0 heq
      have hXL := ent_len hX0
      have hXB := entBad_false hX0
      have hXN := nameMay_size hXB.1
      have HNX := Lib.hid (show (t ++ entBytes X) ++ (d.entries.drop (k + 1)).flatMap entBytes = T by rw [List.append_assoc]; exact heq)
      have HXL := Lib.hid hXL
      have hb10 : X.block < 10 := by have := hXB.2.2.1; have := HN.out.1; omega
      obtain ⟨_, hb0, _, ha0, ha1, hn0, hn1'⟩ := hXB
      clear g1 hX HEQ heq hX0 hXL
      have hki : (k : Int) < (d.entries.length : Int) := by omega
      have hk10 : (k : Int) < 10 := by have := HN.out.2; omega
      have HK := Lib.hid (show k < 10 by omega)
      have HB := Lib.hid hb
      have HX := Lib.hid hx
      have hlw := hb.lt
      clear hx hb
      have hq : (0 : Int) ≤ X.at_ / 256 := by omega
      have hq2 : X.at_ / 256 ≤ 255 := by omega
      have hq3 : IntKind.u8.wrap (X.at_ / 256) = X.at_ / 256 := by rw [IntKind.wrap_u8]; omega
      have hq4 : IntKind.u8.wrap (X.at_ % 256) = X.at_ % 256 := by rw [IntKind.wrap_u8]; omega
      have hq5 : IntKind.u8.wrap X.block = X.block := by rw [IntKind.wrap_u8]; omega
      have hq6 : IntKind.u8.wrap X.bytes = X.bytes := by rw [IntKind.wrap_u8]; omega
      have hq7 : IntKind.u8.wrap (X.name.size : Int) = (X.name.size : Int) := by rw [IntKind.wrap_u8]; omega
      have HC4 := Lib.hid (cells_four X.block X.at_ X.bytes hb0 (by omega) ha0 (by omega) hn0 (by omega))
      have HNB := Lib.hid (show X.name.size ≤ 8 from hXN.2)
      have HX1 := Lib.hid (HX.out.alloc (.cells #[.string X.name, .int .i64 X.block, .int .i64 X.at_, .int .i64 X.bytes] 70))
      have HB1 := Lib.hid (HB.out.alloc (.cells #[.string X.name, .int .i64 X.block, .int .i64 X.at_, .int .i64 X.bytes] 70))
      have HE1 := Lib.hid (Blk_.new wr 70 #[.string X.name, .int .i64 X.block, .int .i64 X.at_, .int .i64 X.bytes])
      have HO1 := Lib.hid (own_ext HO.out ((Ext.refl wr).alloc (.cells #[.string X.name, .int .i64 X.block, .int .i64 X.at_, .int .i64 X.bytes] 70)))
      clear HX HB HO
      go_wp2_with (at_builtin; refine wpList_push (.tmp 64) (.tmp 69) 47 rfl rfl (w.heap.size + 1) 5 i0 (.int .u8 0) 1 Tryz.underlying47 HI0.out.1 HI0.out.2.1 HI0.out.2.2.1 HI0.out.2.2.2 rfl _ _ _ rfl (own_ext HO1.out ((Ext.refl _).alloc _)) _ 1 (.int .u8 (X.name.size : Int)) rfl ?c1 rfl ?c2 ?c3 ?c4 ?_)
      case c1 => first | exact (Blk_.new _ _ _).cell 0 | exact (Blk_.new1 _ _ _ _).cell 0
      case c2 => have := HTL.out.2; have := HK.out; unfold maxLen; omega
      case c3 => have := HTL.out.2; have := HK.out; omega
      case c4 => rw [World.size_alloc, World.size_alloc]; omega
      intro A2 c2' w2 own2 hg2 _
      clear f0 f1 q0 q1 q2 q3
      obtain ⟨t2, ht2⟩ : ∃ t2, t2 = t ++ [byte (X.name.size : Int)] := ⟨_, rfl⟩
      have hln2 : t.length + 1 = t2.length := by rw [ht2, List.length_append]; rfl
      have HX2 := Lib.hid (show Ext w w2 from (HX1.out.trans ((Ext.refl _).alloc _)).grown hg2 (fun k hk => by have := (HO1.out.lt k hk).1; omega))
      have HB2 := Lib.hid (show Blk_ w2 w.heap.size 40 #[.slice A1 d.blocks.length c1, .slice (some ⟨b2, o2, none⟩) d.entries.length c2] from (HB1.out.ext ((Ext.refl _).alloc _)).grown hg2 (fun k hk => by have := (HO1.out.lt k hk).1; omega))
      have HE2 := Lib.hid (show Blk_ w2 wr.heap.size 70 #[.string X.name, .int .i64 X.block, .int .i64 X.at_, .int .i64 X.bytes] from (HE1.out.ext ((Ext.refl _).alloc _)).grown hg2 (own_ne HO1.out HE1.out (by decide)))
      have HO2 := Lib.hid (show w2.ownsRow (w.heap.size + 1) 5 1 (.slice A2 t2.length c2') t2.length (cells t2) by
       rw [ht2, cells_append, List.length_append, cells_one _ (by omega) (by omega)]
       exact own2)
      have hl2' : w.heap.size + 1 ≤ w2.heap.size := by have := HB2.out.lt; omega
      have e0 := HE2.out.cell 0
      have e1 := HE2.out.cell 1
      have e2 := HE2.out.cell 2
      have e3 := HE2.out.cell 3
      simp at e0 e1 e2 e3
      have hl2 := HE2.out.lt
      have HL2 := Lib.hid (show t2.length = t.length + 1 from hln2.symm)
      have HT2 := Lib.hid ht2
      rw [hln2]
      clear own2 hg2 ht2 hln2 HX1 HB1 HE1 HO1
      go_wp2_with (at_builtin; refine Lib.wpList_append_own_string _ rfl (.tmp 71) (.tmp 73) 47 9 rfl (w.heap.size + 1) 5 i0 Tryz.underlying47 Tryz.underlying9 HI0.out.1 HI0.out.2.1 HI0.out.2.2.1 HI0.out.2.2.2 _ _ _ rfl HO2.out X.name rfl ?c1 ?c2 ?c3 ?_)
      case c1 => have := HTL.out.2; have := HK.out; have := HL2.out; have := HNB.out; unfold maxLen; omega
      case c2 => have := HTL.out.2; have := HK.out; have := HL2.out; have := HNB.out; omega
      case c3 => omega
      intro B3 w3 own3 hg3 _
      obtain ⟨A3, c3, rfl⟩ := own_slice own3
      clear e0 e1 e2 e3
      obtain ⟨t3, ht3⟩ : ∃ t3, t3 = t2 ++ lst X.name := ⟨_, rfl⟩
      have hln3 : t2.length + X.name.size = t3.length := by rw [ht3, List.length_append, length_lst]
      have HX3 := Lib.hid (show Ext w w3 from HX2.out.grown hg3 (fun k hk => by have := (HO2.out.lt k hk).1; omega))
      have HB3 := Lib.hid (show Blk_ w3 w.heap.size 40 #[.slice A1 d.blocks.length c1, .slice (some ⟨b2, o2, none⟩) d.entries.length c2] from HB2.out.grown hg3 (fun k hk => by have := (HO2.out.lt k hk).1; omega))
      have HE3 := Lib.hid (show Blk_ w3 wr.heap.size 70 #[.string X.name, .int .i64 X.block, .int .i64 X.at_, .int .i64 X.bytes] from HE2.out.grown hg3 (own_ne HO2.out HE2.out (by decide)))
      have HO3 := Lib.hid (show w3.ownsRow (w.heap.size + 1) 5 1 (.slice A3 t3.length c3) t3.length (cells t3) by
       rw [← hln3, ht3, cells_append, ← strCells_eq]
       exact own3)
      have hl3' : w.heap.size + 1 ≤ w3.heap.size := by have := HB3.out.lt; omega
      have e0 := HE3.out.cell 0
      have e1 := HE3.out.cell 1
      have e2 := HE3.out.cell 2
      have e3 := HE3.out.cell 3
      simp at e0 e1 e2 e3
      have hl3 := HE3.out.lt
      have HL3 := Lib.hid (show t3.length = t2.length + X.name.size from hln3.symm)
      have HT3 := Lib.hid ht3
      rw [hln3]
      clear own3 hg3 ht3 hln3 HX2 HB2 HE2 HO2 hl2
      go_wp2_with (at_builtin; refine wpList_append_at _ rfl (.tmp 75) (.tmp 90) 47 rfl (w.heap.size + 1) 5 i0 (.int .u8 0) 1 1 Tryz.underlying47 HI0.out.1 HI0.out.2.1 HI0.out.2.2.1 HI0.out.2.2.2 rfl (by decide) _ _ _ rfl (own_ext HO3.out ((Ext.refl _).alloc _)) ⟨w3.heap.size, 0, none⟩ 4 4 [.int .u8 X.block, .int .u8 (X.at_ / 256), .int .u8 (X.at_ % 256), .int .u8 X.bytes] rfl rfl ?c1 ?c2 ?c3 ?c4 ?c5 ?_)
      case c1 =>
       intro j u hu
       rw [Addr.add_lit, Nat.zero_add, (Blk_.new _ _ _).cell]
       simpa using hu
      case c2 =>
       intro u hu
       simp only [List.mem_cons, List.not_mem_nil, or_false] at hu
       rcases hu with rfl | rfl | rfl | rfl <;> rfl
      case c3 => have := HTL.out.2; have := HK.out; have := HL2.out; have := HL3.out; have := HNB.out; unfold maxLen; omega
      case c4 => have := HTL.out.2; have := HK.out; have := HL2.out; have := HL3.out; have := HNB.out; omega
      case c5 => rw [World.size_alloc]; omega
      intro A4 c4 w4 own4 hg4 _
      clear e0 e1 e2 e3
      obtain ⟨t4, ht4⟩ : ∃ t4, t4 = t3 ++ [byte X.block, byte (X.at_ / 256), byte (X.at_ % 256), byte X.bytes] := ⟨_, rfl⟩
      have hln4 : t3.length + 4 = t4.length := by rw [ht4, List.length_append]; rfl
      have HX4 := Lib.hid (show Ext w w4 from (HX3.out.trans ((Ext.refl _).alloc _)).grown hg4 (fun k hk => by have := (HO3.out.lt k hk).1; omega))
      have HB4 := Lib.hid (show Blk_ w4 w.heap.size 40 #[.slice A1 d.blocks.length c1, .slice (some ⟨b2, o2, none⟩) d.entries.length c2] from (HB3.out.ext ((Ext.refl _).alloc _)).grown hg4 (fun k hk => by have := (HO3.out.lt k hk).1; omega))
      have HE4 := Lib.hid (show Blk_ w4 wr.heap.size 70 #[.string X.name, .int .i64 X.block, .int .i64 X.at_, .int .i64 X.bytes] from (HE3.out.ext ((Ext.refl _).alloc _)).grown hg4 (own_ne HO3.out HE3.out (by decide)))
      have HO4 := Lib.hid (show w4.ownsRow (w.heap.size + 1) 5 1 (.slice A4 t4.length c4) t4.length (cells t4) by
       rw [← hln4, ht4, cells_append, HC4.out]
       exact own4)
      have hl4' : w.heap.size + 1 ≤ w4.heap.size := by have := HB4.out.lt; omega
      have e0 := HE4.out.cell 0
      have e1 := HE4.out.cell 1
      have e2 := HE4.out.cell 2
      have e3 := HE4.out.cell 3
      simp at e0 e1 e2 e3
      have hl4 := HE4.out.lt
      have HT4 := Lib.hid (show t4 = t ++ entBytes X by rw [ht4, HT3.out, HT2.out]; unfold entBytes; simp)
      rw [hln4]
      have HL4 := Lib.hid hln4.symm
      clear own4 hg4 ht4 hln4 HX3 HB3 HE3 HO3 e0 e1 e2 e3
      go_wp2_with fail
      go_roundw
      case rel => exact ⟨k + 1, t4, A4, c4, rfl, by go_num, by omega, by have := HL4.out; omega, by have := HTL.out.2; have := HXL.out; rw [HT4.out, List.length_append]; omega, HX4.out, HB4.out, HO4.out, by rw [HT4.out]; exact HNX.out⟩
      case measure => simp [intOf]; omega
     ·have HE2 := Lib.hid (show t = T by have := HEQ.out; rw [List.drop_of_length_le (by omega)] at this; simpa using this)
      clear HEQ
      have hk10 : (k : Int) ≤ 10 := by have := HN.out.2; omega
      have ho2 := HO.out
      rw [cells_flat] at ho2
      obtain ⟨g, rfl, hg1, hbf, hln⟩ := own_buf ho2 (by have := HTL.out.1; omega)
      have HBF := Lib.hid hbf
      clear ho2 hbf hln
      go_wp2_with (refine wpList_frombytes (.tmp 92) 47 9 5 rfl rfl Tryz.underlying47 Tryz.underlying5 Tryz.underlying9 g _ _ _ HBF.out rfl rfl ?_)
      go_wp2_with fail
      go_ret2
      rw [HF.out, HE2.out, HT.out]
      exact ⟨rfl, hx⟩
 ·have HF := Lib.hid (enc_bad hc)
  have hc' : (catFault d != 0) = true := by simpa using hc
  clear hc hb1
  generalize catFault d = t at *
  go_wp2_with fail
  go_ret2
  rw [HF.out]
  exact ⟨rfl, hxw⟩
end Go.Proofs.YtjadmfdlggnlgaaGreatDoor
namespace Go.Proofs.YtjadmfdlggnlgaaGreatDoor
set_option linter.unusedSimpArgs false
set_option linter.unusedVariables false
set_option maxRecDepth 100000
set_option maxHeartbeats 8000000
open Go.Shelf
def Tryz.laysC_ren : Go.Shelf.Ren := ⟨fun | 106 => 39 | 213 => 69 | 265 => 102 | n => n, fun | 3 => 3 | 9 => 9 | n => n, fun | n => n⟩
theorem Tryz.laysC106 : Go.Proofs.Lays.n106 Tryz.prog Tryz.laysC_ren := {
 mixed := by kernel_rfl
 f106 := Tryz.func39.trans (congrArg some (by kernel_rfl))
 f213 := Tryz.func69.trans (congrArg some (by kernel_rfl))
 f265 := Tryz.func102.trans (congrArg some (by kernel_rfl))
 t3 := Tryz.underlying3
 a3 := Tryz.isAgg3
 z3 := Tryz.sizeOf3
 v3 := Tryz.zeroValue3
 t9 := Tryz.underlying9
 a9 := Tryz.isAgg9
 z9 := Tryz.sizeOf9
 v9 := Tryz.zeroValue9 }
open Go.RowKit Go.Lib
theorem compare_any (a b : ByteArray) (w : World) :
  Calls Tryz.prog 39 #[.string a, .string b] w fun e w' => e = .returned (.int .i64 (Lib.compareBytes a.data.toList b.data.toList)) ∧ w' = w := Any.strings_Compare Tryz.laysC106 a b w
end Go.Proofs.YtjadmfdlggnlgaaGreatDoor
namespace Go.Proofs.YtjadmfdlggnlgaaGreatDoor
set_option linter.unusedSimpArgs false
set_option linter.unusedVariables false
set_option maxRecDepth 100000
set_option maxHeartbeats 8000000
open Go.RowKit
theorem cmp_neg : ∀ a b : List UInt8, decide (Lib.compareBytes a b < 0) = Op.bytesLess a b
 | [], [] => rfl
 | [], _ :: _ => rfl
 | _ :: _, [] => rfl
 | a :: x, b :: y => by
  have ih := cmp_neg x y
  unfold Lib.compareBytes Op.bytesLess
  by_cases h1 : a < b
  ·simp [h1]
  ·by_cases h2 : b < a
   ·have hne : (a == b) = false := by
     apply beq_false_of_ne
     rintro rfl
     exact UInt8.lt_irrefl a h2
    simp [h1, h2, hne]
   ·have he : a = b := by
     have h1' : ¬ a.toNat < b.toNat := h1
     have h2' : ¬ b.toNat < a.toNat := h2
     exact UInt8.toNat_inj.1 (by omega)
    subst he
    simp only [h1, if_false, ih, decide_false, Bool.false_or, beq_self_eq_true, Bool.true_and]
theorem cmp_zero : ∀ a b : List UInt8, Lib.compareBytes a b = 0 ↔ a = b
 | [], [] => by simp [Lib.compareBytes]
 | [], _ :: _ => by simp [Lib.compareBytes]
 | _ :: _, [] => by simp [Lib.compareBytes]
 | a :: x, b :: y => by
  have ih := cmp_zero x y
  unfold Lib.compareBytes
  by_cases h1 : a < b
  ·rw [if_pos h1]
   constructor
   ·intro h; exact absurd h (by decide)
   ·intro h; injection h with h3 h4; subst h3; exact absurd h1 (UInt8.lt_irrefl a)
  ·rw [if_neg h1]
   by_cases h2 : b < a
   ·rw [if_pos h2]
    constructor
    ·intro h; exact absurd h (by decide)
    ·intro h; injection h with h3 h4; subst h3; exact absurd h2 (UInt8.lt_irrefl a)
   ·rw [if_neg h2, ih]
    have he : a = b := by
     have h1' : ¬ a.toNat < b.toNat := h1
     have h2' : ¬ b.toNat < a.toNat := h2
     exact UInt8.toNat_inj.1 (by omega)
    subst he
    simp
theorem bl_irrefl : ∀ a : List UInt8, Op.bytesLess a a = false
 | [] => rfl
 | a :: x => by
  unfold Op.bytesLess
  rw [bl_irrefl x]
  have : (decide (a < a)) = false := decide_eq_false (UInt8.lt_irrefl a)
  simp [this]
theorem bl_trans : ∀ a b c : List UInt8, Op.bytesLess a b = true → Op.bytesLess b c = true → Op.bytesLess a c = true
 | _, _, [], _, h => by rename_i b _; cases b <;> cases h
 | [], _, _ :: _, _, _ => rfl
 | a :: x, [], _ :: _, h, _ => by cases h
 | a :: x, b :: y, c :: z, h1, h2 => by
  have ih := bl_trans x y z
  unfold Op.bytesLess at h1 h2 ⊢
  have hlt : ∀ c d : UInt8, (decide (c < d)) = decide (c.toNat < d.toNat) := fun c d => by simp [UInt8.lt_iff_toNat_lt]
  have heq : ∀ c d : UInt8, (c == d) = decide (c.toNat = d.toNat) := fun c d => by
   by_cases h : c = d
   ·subst h; simp
   ·have : c.toNat ≠ d.toNat := fun e => h (UInt8.toNat_inj.1 e)
    simp [h, this]
  simp only [hlt, heq, Bool.or_eq_true, Bool.and_eq_true, decide_eq_true_eq] at h1 h2 ⊢
  rcases h1 with h1 | ⟨h1, h1'⟩ <;> rcases h2 with h2 | ⟨h2, h2'⟩
  ·left; omega
  ·left; omega
  ·left; omega
  ·right; exact ⟨by omega, ih h1' h2'⟩
def Rising (l : List Ent) : Prop := ∀ i j (hi : i < l.length) (hj : j < l.length), i < j → Op.bytesLess (lst l[i].name) (lst l[j].name) = true
theorem ents_rising (nb : Nat) : ∀ (l : List Ent) (p : Option ByteArray), entsF nb p l = 0 → Rising l ∧ ∀ q, p = some q → ∀ x ∈ l, Op.bytesLess (lst q) (lst x.name) = true
 | [], _, _ => ⟨fun i j hi => by simp at hi, fun _ _ x hx => by cases hx⟩
 | y :: l, p, h => by
  unfold entsF at h
  split at h
  ·exact absurd h (by decide)
  ·split at h
   ·exact absurd h (by decide)
   ·rename_i h2
    obtain ⟨h3, h4⟩ := ents_rising nb l _ h
    have h5 := h4 y.name rfl
    refine ⟨?_, ?_⟩
    ·intro i j hi hj hij
     match i, j with
     | 0, j + 1 =>
      rw [List.getElem_cons_zero, List.getElem_cons_succ]
      exact h5 _ (List.getElem_mem _)
     | i + 1, j + 1 =>
      rw [List.getElem_cons_succ, List.getElem_cons_succ]
      exact h3 i j (by simpa using hi) (by simpa using hj) (by omega)
    ·rintro q rfl x hx
     have h6 : Op.bytesLess (lst q) (lst y.name) = true := by
      unfold orderBad at h2
      simp only [Bool.not_eq_true, Bool.not_eq_false'] at h2
      rwa [toList_lst, toList_lst] at h2
     rcases List.mem_cons.1 hx with rfl | hx
     ·exact h6
     ·exact bl_trans _ _ _ h6 (h5 x hx)
theorem find_never {l : List Ent} {p : Ent → Bool} (h1 : ∀ k (hk : k < l.length), p l[k] = false) : l.find? p = none := by
 rw [List.find?_eq_none]
 intro x hx
 obtain ⟨k, hk, rfl⟩ := List.getElem_of_mem hx
 rw [h1 k hk]; decide
def Cut_ (l : List Ent) (t : ByteArray) (i j : Nat) : Prop := (∀ k (hk : k < l.length), k < i → Op.bytesLess (lst l[k].name) (lst t) = true) ∧ ∀ k (hk : k < l.length), j ≤ k → Op.bytesLess (lst l[k].name) (lst t) = false
theorem cut_start (l : List Ent) (t : ByteArray) : Cut_ l t 0 l.length := ⟨fun k _ h => by omega, fun k hk h => by omega⟩
theorem cut_up {l : List Ent} {t : ByteArray} {i j h : Nat} (hs : Rising l) (hc : Cut_ l t i j) (hh : h < l.length) (hl : Op.bytesLess (lst l[h].name) (lst t) = true) : Cut_ l t (h + 1) j := by
 refine ⟨fun k hk hkh => ?_, hc.2⟩
 by_cases he : k = h
 ·subst he; exact hl
 ·exact bl_trans _ _ _ (hs k h hk hh (by omega)) hl
theorem cut_down {l : List Ent} {t : ByteArray} {i j h : Nat} (hs : Rising l) (hc : Cut_ l t i j) (hh : h < l.length) (hl : Op.bytesLess (lst l[h].name) (lst t) = false) : Cut_ l t i h := by
 refine ⟨hc.1, fun k hk hkh => ?_⟩
 by_cases he : k = h
 ·subst he; exact hl
 ·cases hb : Op.bytesLess (lst l[k].name) (lst t) with
  | false => rfl
  | true => rw [bl_trans _ _ _ (hs h k hh hk (by omega)) hb] at hl; cases hl
theorem cut_not {l : List Ent} {t : ByteArray} {i : Nat} (hs : Rising l) (hc : Cut_ l t i i) (h : ∀ hi : i < l.length, lst l[i].name ≠ lst t) : l.find? (fun x => decide (lst x.name = lst t)) = none := by
 refine find_never (fun k hk => decide_eq_false fun he => ?_)
 by_cases h1 : k < i
 ·have := hc.1 k hk h1
  rw [he, bl_irrefl] at this
  cases this
 ·by_cases h2 : k = i
  ·subst h2; exact h hk he
  ·have h3 := hs i k (by omega) hk (by omega)
   rw [he] at h3
   have h4 := hc.2 i (by omega) (Nat.le_refl _)
   rw [h3] at h4
   cases h4
def entV (x : Ent) : Value := .agg #[.string x.name, .int .i64 x.block, .int .i64 x.at_, .int .i64 x.bytes]

def zeros (s : ByteArray) : Bool := (lst s).all (· == 0)
theorem zeros_left (s : ByteArray) (h : 0 < s.size) (h0 : s[0] = 0) : zeros (s.extract 1 s.size) = zeros s := by
 unfold zeros
 rw [lst_extract]
 have h1 : lst s = s[0] :: (lst s).drop 1 := by
  have := List.drop_eq_getElem_cons (l := lst s) (i := 0) (by rw [length_lst]; exact h)
  rw [List.drop_zero] at this
  exact this
 have h2 : sub_ s 1 s.size = (lst s).drop 1 := by unfold sub_; rw [List.take_of_length_le (by rw [length_lst]; exact Nat.le_refl _)]
 rw [h2]
 conv => rhs; rw [h1]
 rw [List.all_cons, h0]
 rfl
theorem zeros_left_no (s : ByteArray) (h : 0 < s.size) (h0 : s[0] ≠ 0) : zeros s = false := by
 unfold zeros
 have h1 : lst s = s[0] :: (lst s).drop 1 := by
  have := List.drop_eq_getElem_cons (l := lst s) (i := 0) (by rw [length_lst]; exact h)
  rw [List.drop_zero] at this
  exact this
 rw [h1, List.all_cons, beq_false_of_ne h0]
 rfl
theorem take_last (s : ByteArray) (n : Nat) (h : s.size = n + 1) : lst s = sub_ s 0 n ++ [s[n]] := by
 have h1 := List.take_append_getElem (l := lst s) (i := n) (by rw [length_lst]; omega)
 unfold sub_
 rw [List.drop_zero]
 rw [List.take_of_length_le (i := n + 1) (by rw [length_lst]; omega)] at h1
 exact h1.symm
theorem zeros_right (s : ByteArray) (n : Nat) (h : s.size = n + 1) (h0 : s[n] = 0) : zeros (s.extract 0 n) = zeros s := by
 unfold zeros
 rw [lst_extract]
 conv => rhs; rw [take_last s n h]
 rw [List.all_append, h0]
 simp
theorem zeros_right_no (s : ByteArray) (n : Nat) (h : s.size = n + 1) (h0 : s[n] ≠ 0) : zeros s = false := by
 unfold zeros
 rw [take_last s n h, List.all_append]
 have : ([s[n]].all (· == 0)) = false := by simp [h0]
 rw [this, Bool.and_false]
theorem trimLeft_any (s : ByteArray) (w : World) (hs : s.size ≤ 140737488355328) :
  Calls Tryz.prog 94 #[.string s, .int .u8 0] w fun e w' => w' = w ∧ ∃ v, e = .returned (.string v) ∧ zeros v = zeros s ∧ v.size ≤ s.size ∧ (zeros v = true → v.size = 0) := by
 go_enter Tryz.func94, Tryz.ntmps94
 go_wp2_with fail
 go_loop [0] (fun sv => ∃ v : ByteArray, sv = .string v ∧ zeros v = zeros s ∧ v.size ≤ s.size) (fun sv => match sv with | .string v => v.size | _ => 0)
 case atStart => exact ⟨s, rfl, rfl, Nat.le_refl _⟩
 case round =>
  obtain ⟨v, rfl, hz, hl⟩ := hrel
  have HZ := Lib.hid (And.intro hz hl)
  have hvI : (v.size : Int) ≤ 140737488355328 := by omega
  clear hz
  by_cases h0 : v.size = 0
  ·have h0I : (v.size : Int) = 0 := by omega
   have hgt : decide ((0 : Int) < (v.size : Int)) = false := by rw [h0I]; rfl
   have HZ0 := Lib.hid h0
   have hng : ¬ 0 < v.size := by omega
   have hng2 : ¬ (0 : Int) < (v.size : Int) := by omega
   clear h0 h0I
   go_wp2_with fail
   go_ret
   exact ⟨rfl, v, rfl, HZ.out.1, HZ.out.2, fun _ => by first | exact HZ0.out | simpa using HZ0.out⟩
  ·have hp : 0 < v.size := by omega
   have hpI : (0 : Int) < (v.size : Int) := by omega
   have hp1 : (1 : Int) ≤ (v.size : Int) := by omega
   obtain ⟨c, hc⟩ : ∃ c, c = v[0] := ⟨_, rfl⟩
   have hcI : ((v[0].toNat : Nat) : Int) = (c.toNat : Int) := by rw [hc]
   by_cases hc0 : c = 0
   ·have HNX := Lib.hid (show zeros (v.extract 1 v.size) = zeros s by rw [zeros_left v hp (by rw [← hc]; exact hc0)]; exact HZ.out.1)
    have hct : ((c.toNat : Int) == 0) = true := by rw [hc0]; rfl
    have hcz : (c.toNat : Int) = 0 := by rw [hc0]; rfl
    have HSZ := Lib.hid (show (v.extract 1 v.size).size = v.size - 1 by rw [ByteArray.size_extract]; omega)
    have HP := Lib.hid hp
    clear hc hc0 h0
    go_wp2_with fail
    go_round
    case rel => exact ⟨v.extract 1 v.size, rfl, HNX.out, by rw [HSZ.out]; have := HZ.out.2; omega⟩
    case measure => show (v.extract 1 v.size).size < v.size; rw [HSZ.out]; have := HP.out; omega
   ·have HNO := Lib.hid (zeros_left_no v hp (by rw [← hc]; exact hc0))
    have hct : ((c.toNat : Int) == 0) = false := beq_false_of_ne (fun h => hc0 (UInt8.toNat_inj.1 (by show c.toNat = 0; omega)))
    have hcz : ¬ (c.toNat : Int) = 0 := fun h => hc0 (UInt8.toNat_inj.1 (by show c.toNat = 0; omega))
    clear hc hc0 h0
    go_wp2_with fail
    go_ret
    exact ⟨rfl, v, rfl, HZ.out.1, HZ.out.2, fun h => by rw [HNO.out] at h; cases h⟩
theorem trimRight_any (s : ByteArray) (w : World) (hs : s.size ≤ 140737488355328) :
  Calls Tryz.prog 95 #[.string s, .int .u8 0] w fun e w' => w' = w ∧ ∃ v, e = .returned (.string v) ∧ zeros v = zeros s ∧ v.size ≤ s.size ∧ (zeros v = true → v.size = 0) := by
 go_enter Tryz.func95, Tryz.ntmps95
 go_wp2_with fail
 go_loop [0] (fun sv => ∃ v : ByteArray, sv = .string v ∧ zeros v = zeros s ∧ v.size ≤ s.size) (fun sv => match sv with | .string v => v.size | _ => 0)
 case atStart => exact ⟨s, rfl, rfl, Nat.le_refl _⟩
 case round =>
  obtain ⟨v, rfl, hz, hl⟩ := hrel
  have HZ := Lib.hid (And.intro hz hl)
  have hvI : (v.size : Int) ≤ 140737488355328 := by omega
  clear hz
  by_cases h0 : v.size = 0
  ·have h0I : (v.size : Int) = 0 := by omega
   have hgt : decide ((0 : Int) < (v.size : Int)) = false := by rw [h0I]; rfl
   have HZ0 := Lib.hid h0
   have hng : ¬ 0 < v.size := by omega
   have hng2 : ¬ (0 : Int) < (v.size : Int) := by omega
   clear h0 h0I
   go_wp2_with fail
   go_ret
   exact ⟨rfl, v, rfl, HZ.out.1, HZ.out.2, fun _ => by first | exact HZ0.out | simpa using HZ0.out⟩
  ·obtain ⟨n, hn⟩ : ∃ n, v.size = n + 1 := ⟨v.size - 1, by omega⟩
   have hp : 0 < v.size := by omega
   have hpI : (0 : Int) < (v.size : Int) := by omega
   have y1 : (v.size : Int) - 1 = (n : Int) := by omega
   have hnv : n < v.size := by omega
   have hnvI : (n : Int) < (v.size : Int) := by omega
   have hnvI2 : (n : Int) ≤ (v.size : Int) := by omega
   have hn47 : (n : Int) ≤ 140737488355328 := by omega
   obtain ⟨c, hc⟩ : ∃ c, c = v[n] := ⟨_, rfl⟩
   have hcI : ((v[n].toNat : Nat) : Int) = (c.toNat : Int) := by rw [hc]
   by_cases hc0 : c = 0
   ·have HNX := Lib.hid (show zeros (v.extract 0 n) = zeros s by rw [zeros_right v n hn (by rw [← hc]; exact hc0)]; exact HZ.out.1)
    have hct : ((c.toNat : Int) == 0) = true := by rw [hc0]; rfl
    have hcz : (c.toNat : Int) = 0 := by rw [hc0]; rfl
    have HSZ := Lib.hid (show (v.extract 0 n).size = n by rw [ByteArray.size_extract]; omega)
    have HP := Lib.hid hn
    clear hc hc0 h0 hn
    go_wp2_with fail
    go_round
    case rel => exact ⟨v.extract 0 n, rfl, HNX.out, by rw [HSZ.out]; have := HZ.out.2; have := HP.out; omega⟩
    case measure => show (v.extract 0 n).size < v.size; rw [HSZ.out]; have := HP.out; omega
   ·have HNO := Lib.hid (zeros_right_no v n hn (by rw [← hc]; exact hc0))
    have hct : ((c.toNat : Int) == 0) = false := beq_false_of_ne (fun h => hc0 (UInt8.toNat_inj.1 (by show c.toNat = 0; omega)))
    have hcz : ¬ (c.toNat : Int) = 0 := fun h => hc0 (UInt8.toNat_inj.1 (by show c.toNat = 0; omega))
    clear hc hc0 h0 hn
    go_wp2_with fail
    go_ret
    exact ⟨rfl, v, rfl, HZ.out.1, HZ.out.2, fun h => by rw [HNO.out] at h; cases h⟩
theorem size0_empty {s : ByteArray} (h : s.size = 0) : s = .empty := by
 have h1 : s = bs (lst s) := (bs_lst s).symm
 rw [h1, List.eq_nil_of_length_eq_zero (l := lst s) (by rw [length_lst]; exact h)]
 rfl
def Trimmed (v s : ByteArray) : Prop := zeros v = zeros s ∧ (zeros v = true → v = .empty)
theorem Trimmed.all {v s : ByteArray} (h : Trimmed v s) (hz : zeros s = true) : v = .empty := h.2 (h.1.trans hz)
theorem Trimmed.some {v s : ByteArray} (h : Trimmed v s) (hz : zeros s = false) : ¬ v = .empty := by
 rintro rfl
 have := h.1
 rw [hz] at this
 cases this
theorem trim_any (s : ByteArray) (w : World) (hs : s.size ≤ 140737488355328) :
  Calls Tryz.prog 65 #[.string s, .string ⟨#[0]⟩] w fun e w' => Ext w w' ∧ ∃ v, e = .returned (.string v) ∧ Trimmed v s := by
 by_cases h0 : s.size = 0
 ·obtain rfl := size0_empty h0
  go_enter Tryz.func65, Tryz.ntmps65
  go_wp2_with fail
  go_ret
  exact ⟨Ext.refl _, _, rfl, rfl, fun _ => rfl⟩
 ·have hne : (s.toList == []) = false := by
   rw [toList_lst]
   refine beq_false_of_ne (fun h => h0 ?_)
   rw [← length_lst, h]; rfl
  have hne2 : (lst s == []) = false := by rw [← toList_lst]; exact hne
  have hne3 : ¬ s = .empty := fun h => h0 (by rw [h]; rfl)
  have hne4 : ¬ s = ⟨#[]⟩ := fun h => h0 (by rw [h]; rfl)
  clear h0
  go_enter Tryz.func65, Tryz.ntmps65
  go_wp2_with fail
  refine wp_region_vals (F := ?_) ?_ [(fun (v : Value) (_ : World) => v = .string s), (fun (v : Value) (_ : World) => v = .string ⟨#[0]⟩), (fun (v : Value) (_ : World) => v = .int .u8 0), (fun v _ => ∃ u : ByteArray, v = .string u ∧ zeros u = zeros s ∧ u.size ≤ s.size), (fun (v : Value) (_ : World) => v = .string ⟨#[0]⟩), (fun (v : Value) (_ : World) => v = .int .u8 0), (fun v _ => ∃ u : ByteArray, v = .string u ∧ zeros u = zeros s ∧ u.size ≤ s.size ∧ (zeros u = true → u.size = 0)), (fun v _ => ∃ u : ByteArray, v = .string u ∧ zeros u = zeros s ∧ u.size ≤ s.size ∧ (zeros u = true → u.size = 0))] (by kernel_rfl) (by kernel_rfl) ?_ ?_ ?_
  rotate_left
  ·intro vals
   simp only [putAll, Act.put, List.setIfInBounds_toArray, List.set_cons_zero, List.set_cons_succ, Nat.zero_add, Nat.reduceAdd]
   rfl
  ·simp only [List.forall_mem_cons]
   exact ⟨fun _ _ _ h _ => h, fun _ _ _ h _ => h, fun _ _ _ h _ => h, fun _ _ _ h _ => h, fun _ _ _ h _ => h, fun _ _ _ h _ => h, fun _ _ _ h _ => h, fun _ _ _ h _ => h, fun _ h => (by cases h)⟩
  ·refine ⟨?_, ?_, ?_, ?_, ?_, ?_, ?_, ?_, trivial⟩
   ·intro vals W e hd ho K hK
    exact st_q hK (by go_simp; rfl)
   ·intro vals W e hd ho K hK
    exact st_q hK (by go_simp; rfl)
   ·intro vals W e hd ho K hK
    have h1 : vals 1 = .string ⟨#[0]⟩ := hd 1 (by kernel_rfl)
    exact st_q hK (by go_simp; rfl)
   ·intro vals W e hd ho K hK
    have h0 : vals 0 = .string s := hd 0 (by kernel_rfl)
    have h2 : vals 2 = .int .u8 0 := hd 2 (by kernel_rfl)
    go_wp2_with fail
    refine (trimRight_any s _ hs).mono ?_
    rintro e' W' ⟨hw', u, rfl, hz, hl, hn⟩
    subst hw'
    exact hK _ _ _ (by first | rfl | (simp only [h0, h2]; rfl)) ⟨u, rfl, hz, hl⟩ (Ext.refl _)
   ·intro vals W e hd ho K hK
    exact st_q hK (by go_simp; rfl)
   ·intro vals W e hd ho K hK
    have h4 : vals 4 = .string ⟨#[0]⟩ := hd 4 (by kernel_rfl)
    exact st_q hK (by go_simp; rfl)
   ·intro vals W e hd ho K hK
    obtain ⟨u3, h3, z3, l3⟩ := hd 3 (by kernel_rfl)
    have h5 : vals 5 = .int .u8 0 := hd 5 (by kernel_rfl)
    go_wp2_with fail
    refine (trimLeft_any u3 _ (by omega)).mono ?_
    rintro e' W' ⟨hw', u, rfl, hz, hl, hn⟩
    subst hw'
    exact hK _ _ _ (by first | rfl | (simp only [h3, h5]; rfl)) ⟨u, rfl, by rw [hz, z3], by omega, hn⟩ (Ext.refl _)
   ·intro vals W e hd ho K hK
    obtain ⟨u6, h6, z6, l6, n6⟩ := hd 6 (by kernel_rfl)
    refine st_quiet (v := .string u6) ?_ ?_
    ·go_simp
     try rfl
    exact hK _ _ _ rfl ⟨u6, rfl, z6, l6, n6⟩ (Ext.refl _)
  intro vals W e hall
  obtain ⟨u7, h7, z7, l7, n7⟩ := hall 7 (by decide)
  clear hne hne2 hne3 hne4
  go_wp2_with fail
  go_ret
  exact ⟨(Ext.refl w).drew.trans e, u7, by first | rfl | (rw [h7]), z7, fun h => size0_empty (n7 h)⟩
def takeR (r : ByteArray) (e : Int) (n : Nat) : ByteArray × ByteArray × Int := if e = 0 then (if r.size < n then (.empty, r, 5) else (r.extract 0 n, r.extract n r.size, 0)) else (.empty, r, e)
def foldV (l : List UInt8) : Int := l.foldl (fun a c => 256 * a + (c.toNat : Int)) 0
def numR (r : ByteArray) (e : Int) (n : Nat) : Int × ByteArray × Int := (foldV (lst (takeR r e n).1), (takeR r e n).2.1, (takeR r e n).2.2)
theorem take_err {r : ByteArray} {e : Int} (n : Nat) (h : ¬ e = 0) : takeR r e n = (.empty, r, e) := by unfold takeR; rw [if_neg h]
theorem take_short {r : ByteArray} {n : Nat} (h : r.size < n) : takeR r 0 n = (.empty, r, 5) := by unfold takeR; rw [if_pos rfl, if_pos h]
theorem take_ok {r : ByteArray} {n : Nat} (h : ¬ r.size < n) : takeR r 0 n = (r.extract 0 n, r.extract n r.size, 0) := by unfold takeR; rw [if_pos rfl, if_neg h]
theorem take_len (r : ByteArray) (e : Int) (n : Nat) : (takeR r e n).1.size ≤ n ∧ (takeR r e n).2.1.size ≤ r.size := by
 unfold takeR
 split
 ·split
  ·exact ⟨Nat.zero_le _, Nat.le_refl _⟩
  ·refine ⟨?_, ?_⟩
   ·show (r.extract 0 n).size ≤ n
    rw [ByteArray.size_extract]; omega
   ·show (r.extract n r.size).size ≤ r.size
    rw [ByteArray.size_extract]; omega
 ·exact ⟨Nat.zero_le _, Nat.le_refl _⟩
theorem grownBy_trans {a b c : World} {row : Option Nat} (h : a.grownBy b row) (k : b.grownBy c row) : a.grownBy c row :=
 ⟨k.os.trans h.os, k.tape.trans h.tape, k.output.trans h.output, Nat.le_trans h.size k.size, fun i hi hne => (k.block i (Nat.lt_of_lt_of_le hi h.size) hne).trans (h.block i hi hne)⟩
theorem grownBy_refl (w : World) (row : Option Nat) : w.grownBy w row := (Ext.refl w).by_ row
theorem take_any (w : World) (br : Nat) (r : ByteArray) (e : Int) (n : Nat) (h : Blk_ w br 102 #[.string r, .int .i64 e]) (hr : r.size ≤ 140737488355328) (hn : n ≤ 255) :
  Calls Tryz.prog 64 #[.pointer (some ⟨br, 0, none⟩), .int .i64 n] w fun en w' => en = .returned (.string (takeR r e n).1) ∧ w.grownBy w' (some br) ∧ Blk_ w' br 102 #[.string (takeR r e n).2.1, .int .i64 (takeR r e n).2.2] := by
 have f0 := h.cell 0
 have f1 := h.cell 1
 have z0 := h.frozen 0
 have z1 := h.frozen 1
 simp at f0 f1
 have HB := Lib.hid h
 have hrI : (r.size : Int) ≤ 140737488355328 := by omega
 have hnI : (n : Int) ≤ 255 := by omega
 have hn0 : (0 : Int) ≤ (n : Int) := by omega
 clear h
 by_cases he : e = 0
 ·subst he
  by_cases hs : r.size < n
  ·have HT := Lib.hid (take_short hs)
   rw [HT.out]
   have hsI : (r.size : Int) < (n : Int) := by omega
   have hst : decide ((r.size : Int) < (n : Int)) = true := decide_eq_true hsI
   have HB2 := Lib.hid (HB.out.set 1 (.int .i64 5))
   go_enter Tryz.func64, Tryz.ntmps64
   go_wp2_with fail
   go_ret
   exact ⟨rfl, setRow_by w br 1 _, HB2.out⟩
  ·have HT := Lib.hid (take_ok hs)
   rw [HT.out]
   have hsI : (n : Int) ≤ (r.size : Int) := by omega
   have hst : decide ((r.size : Int) < (n : Int)) = false := decide_eq_false (by omega)
   have hsn : n ≤ r.size := by omega
   obtain ⟨q, hq⟩ : ∃ q, q = r.extract 0 n := ⟨_, rfl⟩
   obtain ⟨x, hx⟩ : ∃ x, x = r.extract n r.size := ⟨_, rfl⟩
   rw [← hq, ← hx]
   have HQ := Lib.hid (And.intro hq hx)
   have HB2 := Lib.hid (HB.out.set 0 (.string x))
   clear hq hx hs
   go_enter Tryz.func64, Tryz.ntmps64
   go_wp2_with fail
   go_ret
   rw [← HQ.out.1, ← HQ.out.2]
   exact ⟨rfl, setRow_by w br 0 _, HB2.out⟩
 ·have HT := Lib.hid (take_err (r := r) n he)
  rw [HT.out]
  have he1 : (e == 0) = false := beq_false_of_ne he
  have he2 : (e != 0) = true := by simp [bne, he1]
  clear he
  go_enter Tryz.func64, Tryz.ntmps64
  go_wp2_with fail
  go_ret
  exact ⟨rfl, grownBy_refl w _, HB.out⟩
theorem foldV_snoc (l : List UInt8) (c : UInt8) : foldV (l ++ [c]) = 256 * foldV l + (c.toNat : Int) := by simp [foldV]
theorem number_any (w : World) (br : Nat) (r : ByteArray) (e : Int) (n : Nat) (h : Blk_ w br 102 #[.string r, .int .i64 e]) (hr : r.size ≤ 140737488355328) (hn : n ≤ 2) :
  Calls Tryz.prog 63 #[.pointer (some ⟨br, 0, none⟩), .int .i64 n] w fun en w' => en = .returned (.int .i64 (numR r e n).1) ∧ w.grownBy w' (some br) ∧ Blk_ w' br 102 #[.string (numR r e n).2.1, .int .i64 (numR r e n).2.2] := by
 unfold numR
 have HB := Lib.hid h
 clear h
 go_enter Tryz.func63, Tryz.ntmps63
 go_wp2_with fail
 refine (take_any w br r e n HB.out hr (by omega)).mono ?_
 rintro en w1 ⟨rfl, hg, hb⟩
 have hsz := (take_len r e n).1
 obtain ⟨T, hT⟩ : ∃ T, T = takeR r e n := ⟨_, rfl⟩
 rw [← hT] at hb hsz ⊢
 obtain ⟨t, x, e'⟩ := T
 dsimp only at hb hsz ⊢
 have HG := Lib.hid hg
 have HB1 := Lib.hid hb
 have HT := Lib.hid hT
 have ht2 : t.size ≤ 2 := by omega
 have ht2I : (t.size : Int) ≤ 2 := by omega
 clear hT hg hb hsz
 go_wp2_with (refine wpList_tobytes (.tmp 10) 9 47 5 rfl rfl Tryz.underlying9 Tryz.underlying47 Tryz.underlying5 t rfl ?_)
 intro gb cap w2 hgb e2 hbuf hcap
 have HG2 := Lib.hid (grownBy_trans HG.out (e2.by_ (some br)))
 have HB2 := Lib.hid (HB1.out.ext e2)
 have HBF := Lib.hid hbuf
 clear hgb e2 hbuf hcap
 go_wp2_with fail
 go_loop [5, 13] (fun nv iv => ∃ i : Nat, nv = .int .i64 (foldV ((lst t).take i)) ∧ iv = .int .i64 i ∧ i ≤ t.size) (fun _ iv => t.size - (intOf iv).toNat)
 case atStart => exact ⟨0, rfl, rfl, Nat.zero_le _⟩
 case round =>
  obtain ⟨i, rfl, rfl, hi⟩ := hrel
  by_cases hlt : i < t.size
  ·have hil : i < (lst t).length := by rw [length_lst]; exact hlt
   have bp := HBF.out.cell i hil
   obtain ⟨c, hc⟩ : ∃ c, c = (lst t).getD i 0 := ⟨_, rfl⟩
   rw [← hc] at bp
   have hcb := u8_hi c
   have hst : foldV ((lst t).take (i + 1)) = 256 * foldV ((lst t).take i) + (c.toNat : Int) := by
    rw [← foldV_snoc]
    congr 1
    rw [List.take_succ_eq_append_getElem hil, hc, List.getD_eq_getElem?_getD, List.getElem?_eq_getElem hil]
    rfl
   have hv : ∃ a : Nat, a < 256 ∧ foldV ((lst t).take i) = (a : Int) := by
    match i with
    | 0 => exact ⟨0, by omega, rfl⟩
    | 1 =>
     refine ⟨((lst t).getD 0 0).toNat, UInt8.toNat_lt _, ?_⟩
     rw [show (1 : Nat) = 0 + 1 from rfl, List.take_succ_eq_append_getElem (by omega)]
     simp [foldV, List.getD_eq_getElem?_getD, List.getElem?_eq_getElem (show 0 < (lst t).length by omega)]
    | j + 2 => omega
   obtain ⟨a, ha, hv⟩ := hv
   rw [hv] at hst ⊢
   have hbits := sector_bits a c.toNat ha (by omega)
   have haI : (a : Int) < 256 := by omega
   have hwr : IntKind.i64.wrap ((a : Int) * 256) = (a : Int) * 256 := by rw [IntKind.wrap_i64]; omega
   have HST := Lib.hid hst
   have hltI : (i : Int) < (t.size : Int) := by omega
   have hi2 : (i : Int) < 2 := by omega
   clear hst hc hv
   go_wp2_with fail
   go_round
   case rel => exact ⟨i + 1, by rw [HST.out], by go_num, by omega⟩
   case measure => simp [intOf]; omega
  ·have HF := Lib.hid (show foldV ((lst t).take i) = foldV (lst t) by rw [List.take_of_length_le (by rw [length_lst]; omega)])
   have hge : ¬ (i : Int) < (t.size : Int) := by omega
   obtain ⟨v, hv⟩ : ∃ v, v = foldV (lst t) := ⟨_, rfl⟩
   have HV := Lib.hid hv
   rw [HF.out, ← hv]
   clear hv HF
   go_wp2_with fail
   go_ret
   rw [← HT.out]
   exact ⟨by rw [HV.out]; rfl, HG2.out, HB2.out⟩
end Go.Proofs.YtjadmfdlggnlgaaGreatDoor
