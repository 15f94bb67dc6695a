/-
  The document's bytes of a catalog, and the law: catalog.Encode answers as it does. Conditions: the argument reads as a catalog.
-/
import Derived.Test.YtokpjgpdkmimgaaWCatEnc
import Derived.Test.YtokpjgpdkmimgaaWPack3
namespace Go.Proofs.Ytokpjgpdkmimgaa
set_option linter.unusedSimpArgs false
set_option linter.unusedVariables false
open Go.RowKit

theorem own_ne {w : World} {base : Nat} {e e' : TypeId} {size n g : Nat} {v : Value} {xs : List Value} {cs : Array Value} (h : w.ownsRow base e size v n xs) (hb : Blk_ w g e' cs) (hne : e ≠ e') : ∀ k, v.ownBlock = some k → k ≠ g := by
  rintro k hk rfl
  rcases h.2 with ⟨hv, _⟩ | ⟨g', cap, cur, hv, _, hg, _⟩
  · rw [hv] at hk; cases hk
  · rw [hv] at hk
    obtain rfl : g' = k := by injection hk
    unfold Blk_ at hb
    rw [hg] at hb
    injection hb with hb
    injection hb with _ h2 _
    exact hne h2
theorem own_one (w : World) (base : Nat) (e : TypeId) (u : Value) (hb : base ≤ w.heap.size) : (w.alloc (.cells #[u] e)).ownsRow base e 1 (.slice (some ⟨w.heap.size, 0, none⟩) 1 1) 1 [u] :=
  ⟨rfl, .inr ⟨w.heap.size, 1, #[u], rfl, hb, heap_alloc_new w _, Nat.le_refl 1, by decide, rfl, rfl⟩⟩
theorem cells_one (n : Int) (h0 : 0 ≤ n) (h1 : n < 256) : cells [byte n] = [.int .u8 n] := by
  unfold cells; rw [List.map_cons, List.map_nil, byte_nat_ _ h0 h1]
theorem cells_two (n : Int) (h0 : 0 ≤ n) (h1 : n ≤ 65535) : cells (twoB n) = [.int .u8 (n / 256), .int .u8 (n % 256)] := by
  unfold cells twoB; rw [List.map_cons, List.map_cons, List.map_nil, byte_nat_ _ (by omega) (by omega), byte_nat_ _ (by omega) (by omega)]
theorem cells_four (a n b : Int) (h0 : 0 ≤ a) (h1 : a < 256) (h2 : 0 ≤ n) (h3 : n ≤ 65535) (h4 : 0 ≤ b) (h5 : b < 256) : cells [byte a, byte (n / 256), byte (n % 256), byte b] = [.int .u8 a, .int .u8 (n / 256), .int .u8 (n % 256), .int .u8 b] := by
  unfold cells; rw [List.map_cons, List.map_cons, List.map_cons, List.map_cons, List.map_nil, byte_nat_ _ h0 h1, byte_nat_ _ (by omega) (by omega), byte_nat_ _ (by omega) (by omega), byte_nat_ _ h4 h5]

set_option maxRecDepth 100000 in
set_option maxHeartbeats 8000000 in
theorem catBytes_any (cs : List Value) (d : Cat) (w : World) (h : RCat w cs d) :
    Calls Try.prog 15 #[.agg cs.toArray] w fun e w' => e = .returned (.tuple #[.string (encCatS d).1, .int .i64 (encCatS d).2]) ∧ Ext w w' := by
  obtain ⟨i0, hi0, hz0, hz1, hz2⟩ := info_parts info_byte
  have HI0 := Lib.hid (And.intro hi0 (And.intro hz0 (And.intro hz1 hz2)))
  clear hi0 hz0 hz1 hz2
  have h' := h
  obtain ⟨v1, v2, rfl, h1, h2'⟩ := h'
  obtain ⟨A1, c1, rfl, l1, hc1, p1⟩ := h1.rowE encBlk_ok
  obtain ⟨A2, c2, rfl, l2, hc2, s1⟩ := h2'.rowE encEnt_ok
  have HP := Lib.hid p1
  have HS := Lib.hid s1
  have HH := Lib.hid h
  clear h1 h2' l1 hc1 p1 h l2 hc2 s1
  go_enter Try.func15, Try.ntmps15
  go_wp2_with fail
  refine calls_abs (fun W => Ext w W ∧ Blk_ W w.heap.size 33 #[.slice A1 d.blocks.length c1, .slice A2 d.entries.length c2]) ⟨(Ext.refl _).alloc _, Blk_.new _ _ _⟩ ?_
  rintro W ⟨hx, hb⟩
  refine (catFault_any [.slice A1 d.blocks.length c1, .slice A2 d.entries.length c2] d W (HH.out.up hx)).mono ?_
  rintro e w1 ⟨rfl, hx1⟩
  have hb1 := hb.ext hx1
  have hxw := hx.trans hx1
  have f0 := hb1.cell 0
  have f1 := hb1.cell 1
  simp at f0 f1
  clear hb hx hx1
  by_cases hc : catFault d = 0
  · have HF := Lib.hid (enc_good hc)
    have hok := catFault_ok hc
    have HN := Lib.hid (And.intro hok.1 hok.2.1)
    have HBR := Lib.hid (blocksF_range d.blocks 8 (by omega) hok.2.2.1)
    have HER := Lib.hid (entsF_ok _ _ _ hok.2.2.2)
    rw [hc]
    have hn1 : (d.blocks.length : Int) ≤ 10 := by have := hok.1; omega
    have hn2 : (d.entries.length : Int) ≤ 10 := by have := hok.2.1; omega
    have hu1 : IntKind.u8.wrap (d.blocks.length : Int) = (d.blocks.length : Int) := by rw [IntKind.wrap_u8]; omega
    have hu2 : IntKind.u8.wrap (d.entries.length : Int) = (d.entries.length : Int) := by rw [IntKind.wrap_u8]; omega
    obtain ⟨T, hT⟩ : ∃ T, T = catBytes d := ⟨_, rfl⟩
    obtain ⟨REST, hREST⟩ : ∃ r, r = byte d.entries.length :: d.entries.flatMap entBytes := ⟨_, rfl⟩
    have HT := Lib.hid hT
    have HRE := Lib.hid hREST
    have HT0 := Lib.hid (show [byte (d.blocks.length : Int)] ++ ((d.blocks.drop 0).flatMap (fun b => twoB b.bytes) ++ REST) = T by rw [hT, hREST]; rfl)
    clear hc hok hT hREST
    have hl1 := hb1.lt
    go_wp2_with fail
    go_loopw [5, 6] (fun bv i wr => ∃ (k : Nat) (t : List UInt8) (A : Option Addr) (cp : Nat), bv = .slice A t.length cp ∧ i = .int .i64 k ∧ k ≤ d.blocks.length ∧ 1 ≤ t.length ∧ t.length ≤ 1 + 2 * k ∧ Ext w wr ∧ Blk_ wr w.heap.size 33 #[.slice A1 d.blocks.length c1, .slice A2 d.entries.length c2] ∧ wr.ownsRow (w.heap.size + 1) 5 1 (.slice A t.length cp) t.length (cells t) ∧ t ++ ((d.blocks.drop k).flatMap (fun b => twoB b.bytes) ++ REST) = T) (fun _ i _ => d.blocks.length - (intOf i).toNat)
    case atStart => exact ⟨0, [byte (d.blocks.length : Int)], _, 1, rfl, rfl, Nat.zero_le _, by simp, by simp, hxw.alloc _, hb1.alloc _, by rw [cells_one _ (by omega) (by omega)]; exact own_one w1 _ _ _ (by omega), HT0.out⟩
    case round =>
      clear hxw hb1 f0 f1 HT0 hl1
      obtain ⟨k, t, A, cp, rfl, rfl, hk, htl0, htl, hx, hb, ho, heq⟩ := hrel
      have f0 := hb.cell 0
      have f1 := hb.cell 1
      simp at f0 f1
      have HEQ := Lib.hid heq
      have HO := Lib.hid ho
      have HTL := Lib.hid (And.intro htl0 htl)
      clear heq ho htl0 htl
      by_cases hlt : k < d.blocks.length
      · obtain ⟨b1, o1, rfl, g1⟩ := HP.out k hlt
        have q1 := hx.cell (g1 k hlt 1 _ rfl)
        have hq1w := g1 k hlt 1 _ rfl
        have hB0 := HBR.out d.blocks[k] (List.getElem_mem hlt)
        have heq := HEQ.out
        rw [List.drop_eq_getElem_cons hlt, List.flatMap_cons] at heq
        obtain ⟨B, hB⟩ : ∃ B, B = d.blocks[k] := ⟨_, rfl⟩
        rw [← hB] at q1 hq1w hB0 heq
        have HQ1 := Lib.hid hq1w
        clear hq1w
        have HNX := Lib.hid (show (t ++ twoB B.bytes) ++ ((d.blocks.drop (k + 1)).flatMap (fun b => twoB b.bytes) ++ REST) = T by rw [List.append_assoc, ← List.append_assoc (twoB B.bytes)]; exact heq)
        clear g1 hB HEQ heq
        have hki : (k : Int) < (d.blocks.length : Int) := by omega
        have hk10 : (k : Int) < 10 := by have := HN.out.1; omega
        have hk10n : k < 10 := by omega
        obtain ⟨hB1, hB2⟩ := hB0
        have hq : (0 : Int) ≤ B.bytes / 256 := by omega
        have hq2 : B.bytes / 256 ≤ 255 := by omega
        have hq3 : IntKind.u8.wrap (B.bytes / 256) = B.bytes / 256 := by rw [IntKind.wrap_u8]; omega
        have hq4 : IntKind.u8.wrap (B.bytes % 256) = B.bytes % 256 := by rw [IntKind.wrap_u8]; omega
        have HC2 := Lib.hid (cells_two B.bytes hB1 (by omega))
        have HX := Lib.hid hx
        have HB := Lib.hid hb
        have hlw := hb.lt
        clear hx hb
        go_wp2_with fail
        refine wp_region_begin (S := fun W' => W'.cell? ⟨w.heap.size, 0, none⟩ = some (.slice (some ⟨b1, o1, none⟩) d.blocks.length c1) ∧ W'.cell? ⟨b1, o1 + k * 2 + 1, none⟩ = some (.int .i64 B.bytes)) (n := 19) (by kernel_rfl) rfl (by kernel_rfl) rfl ?_
        have hS0 : (fun W' => W'.cell? ⟨w.heap.size, 0, none⟩ = some (.slice (some ⟨b1, o1, none⟩) d.blocks.length c1) ∧ W'.cell? ⟨b1, o1 + k * 2 + 1, none⟩ = some (.int .i64 B.bytes)) wr.drew := ⟨f0, q1⟩
        refine wpAnyH_takeL (i := 0) (v := ?_) rfl (by kernel_rfl) (fun _ _ _ h => h) rfl ?_ hS0 ?_
        rotate_left
        · intro w' hS
          try dsimp only at hS
          go_simp
          rfl
        try simp only [Act.put, List.setIfInBounds_toArray, List.set_cons_zero, List.set_cons_succ]
        refine wpAnyH_takeL (i := 1) (v := ?_) rfl (by kernel_rfl) (fun _ _ _ h => h) rfl ?_ hS0 ?_
        rotate_left
        · intro w' hS
          try dsimp only at hS
          go_simp
          rfl
        try simp only [Act.put, List.setIfInBounds_toArray, List.set_cons_zero, List.set_cons_succ]
        refine wpAnyH_takeL (i := 2) (v := ?_) rfl (by kernel_rfl) (fun _ _ _ h => h) rfl ?_ hS0 ?_
        rotate_left
        · intro w' hS
          try dsimp only at hS
          go_simp
          rfl
        try simp only [Act.put, List.setIfInBounds_toArray, List.set_cons_zero, List.set_cons_succ]
        refine wpAnyH_takeL (i := 3) (v := ?_) rfl (by kernel_rfl) (fun _ _ _ h => h) rfl ?_ hS0 ?_
        rotate_left
        · intro w' hS
          try dsimp only at hS
          go_simp
          rfl
        try simp only [Act.put, List.setIfInBounds_toArray, List.set_cons_zero, List.set_cons_succ]
        refine wpAnyH_takeL (i := 4) (v := ?_) rfl (by kernel_rfl) (fun _ _ _ h => h) rfl ?_ hS0 ?_
        rotate_left
        · intro w' hS
          try dsimp only at hS
          go_simp
          rfl
        try simp only [Act.put, List.setIfInBounds_toArray, List.set_cons_zero, List.set_cons_succ]
        refine wpAnyH_takeL (i := 5) (v := ?_) rfl (by kernel_rfl) (fun _ _ _ h => h) rfl ?_ hS0 ?_
        rotate_left
        · intro w' hS
          try dsimp only at hS
          go_simp
          rfl
        try simp only [Act.put, List.setIfInBounds_toArray, List.set_cons_zero, List.set_cons_succ]
        refine wpAnyH_takeL (i := 6) (v := ?_) rfl (by kernel_rfl) (fun _ _ _ h => h) rfl ?_ hS0 ?_
        rotate_left
        · intro w' hS
          try dsimp only at hS
          go_simp
          rfl
        try simp only [Act.put, List.setIfInBounds_toArray, List.set_cons_zero, List.set_cons_succ]
        refine wpAnyH_takeL (i := 7) (v := ?_) rfl (by kernel_rfl) (fun _ _ _ h => h) rfl ?_ hS0 ?_
        rotate_left
        · intro w' hS
          try dsimp only at hS
          go_simp
          rfl
        try simp only [Act.put, List.setIfInBounds_toArray, List.set_cons_zero, List.set_cons_succ]
        refine wpAnyH_takeL (i := 8) (v := ?_) rfl (by kernel_rfl) (fun _ _ _ h => h) rfl ?_ hS0 ?_
        rotate_left
        · intro w' hS
          try dsimp only at hS
          go_simp
          rfl
        try simp only [Act.put, List.setIfInBounds_toArray, List.set_cons_zero, List.set_cons_succ]
        refine wpAnyH_takeL (i := 9) (v := ?_) rfl (by kernel_rfl) (fun _ _ _ h => h) rfl ?_ hS0 ?_
        rotate_left
        · intro w' hS
          try dsimp only at hS
          go_simp
          rfl
        try simp only [Act.put, List.setIfInBounds_toArray, List.set_cons_zero, List.set_cons_succ]
        refine wpAnyH_takeL (i := 10) (v := ?_) rfl (by kernel_rfl) (fun _ _ _ h => h) rfl ?_ hS0 ?_
        rotate_left
        · intro w' hS
          try dsimp only at hS
          go_simp
          rfl
        try simp only [Act.put, List.setIfInBounds_toArray, List.set_cons_zero, List.set_cons_succ]
        refine wpAnyH_takeL (i := 11) (v := ?_) rfl (by kernel_rfl) (fun _ _ _ h => h) rfl ?_ hS0 ?_
        rotate_left
        · intro w' hS
          try dsimp only at hS
          go_simp
          rfl
        try simp only [Act.put, List.setIfInBounds_toArray, List.set_cons_zero, List.set_cons_succ]
        refine wpAnyH_takeL (i := 12) (v := ?_) rfl (by kernel_rfl) (fun _ _ _ h => h) rfl ?_ hS0 ?_
        rotate_left
        · intro w' hS
          try dsimp only at hS
          go_simp
          rfl
        try simp only [Act.put, List.setIfInBounds_toArray, List.set_cons_zero, List.set_cons_succ]
        refine wpAnyH_takeL (i := 13) (v := ?_) rfl (by kernel_rfl) (fun _ _ _ h => h) rfl ?_ hS0 ?_
        rotate_left
        · intro w' hS
          try dsimp only at hS
          go_simp
          rfl
        try simp only [Act.put, List.setIfInBounds_toArray, List.set_cons_zero, List.set_cons_succ]
        refine wpAnyH_takeL (i := 14) (v := ?_) rfl (by kernel_rfl) (fun _ _ _ h => h) rfl ?_ hS0 ?_
        rotate_left
        · intro w' hS
          try dsimp only at hS
          go_simp
          rfl
        try simp only [Act.put, List.setIfInBounds_toArray, List.set_cons_zero, List.set_cons_succ]
        refine wpAnyH_takeL (i := 15) (v := ?_) rfl (by kernel_rfl) (fun _ _ _ h => h) rfl ?_ hS0 ?_
        rotate_left
        · intro w' hS
          try dsimp only at hS
          go_simp
          rfl
        try simp only [Act.put, List.setIfInBounds_toArray, List.set_cons_zero, List.set_cons_succ]
        refine wpAnyH_takeL (i := 16) (v := ?_) rfl (by kernel_rfl) (fun _ _ _ h => h) rfl ?_ hS0 ?_
        rotate_left
        · intro w' hS
          try dsimp only at hS
          go_simp
          rfl
        try simp only [Act.put, List.setIfInBounds_toArray, List.set_cons_zero, List.set_cons_succ]
        refine wpAnyH_oneL (i := 17) rfl (by kernel_rfl) rfl (fun K hK => ?_)
        go_wp2_with fail
        refine hK _ _ ?_ ?_
        · first | exact ⟨((Ext.refl wr).drew.alloc _).cell f0, ((Ext.refl wr).drew.alloc _).cell q1⟩ | exact ⟨((Ext.refl wr).alloc _).drew.cell f0, ((Ext.refl wr).alloc _).drew.cell q1⟩
        clear hK K
        try simp only [Act.put, List.setIfInBounds_toArray, List.set_cons_zero, List.set_cons_succ]
        refine anyH_abs (fun W => Ext wr W ∧ Blk_ W wr.heap.size 5 #[.int .u8 (B.bytes / 256), .int .u8 (B.bytes % 256)]) ⟨by first | exact (Ext.refl _).alloc _ | exact (Ext.refl _).drew.alloc _, by first | exact Blk_.new _ _ _ | exact (Blk_.new _ _ _).drew⟩ ?_
        rintro W3 ⟨e3, b3⟩
        refine wpAnyH_oneL (i := 18) rfl (by kernel_rfl) rfl (fun K hK => ?_)
        refine wp_append_at _ (.tmp 26) (.tmp 43) 22 rfl (w.heap.size + 1) 5 i0 (.int .u8 0) 1 1 Try.underlying22 HI0.out.1 HI0.out.2.1 HI0.out.2.2.1 HI0.out.2.2.2 rfl (by decide) _ t.length _ rfl (own_ext HO.out e3) ⟨wr.heap.size, 0, none⟩ 2 2 [.int .u8 (B.bytes / 256), .int .u8 (B.bytes % 256)] rfl rfl ?_ ?_ ?_ ?_ ?_ ?_
        · intro j u hu
          rw [Addr.add_lit, Nat.zero_add, b3.cell]
          simpa using hu
        · intro u hu
          simp only [List.mem_cons, List.not_mem_nil, or_false] at hu
          rcases hu with rfl | rfl <;> rfl
        · have := HTL.out.2; unfold maxLen; omega
        · have := HTL.out.2; omega
        · have := e3.size; omega
        intro A4 c4 w4 own4 hg4 hb4
        have HX4 := Lib.hid (show Ext w w4 from (HX.out.trans e3).grown hg4 (fun k hk => by have := (HO.out.lt k hk).1; omega))
        have HB4 := Lib.hid (show Blk_ w4 w.heap.size 33 #[.slice (some ⟨b1, o1, none⟩) d.blocks.length c1, .slice A2 d.entries.length c2] from (HB.out.ext e3).grown hg4 (fun k hk => by have := (HO.out.lt k hk).1; omega))
        have HO4 := Lib.hid (show w4.ownsRow (w.heap.size + 1) 5 1 (.slice A4 (t ++ twoB B.bytes).length c4) (t ++ twoB B.bytes).length (cells (t ++ twoB B.bytes)) by
          rw [cells_append, List.length_append, HC2.out]
          exact own4)
        have p0 := HB4.out.cell 0
        simp at p0
        have p1 : w4.cell? ⟨b1, o1 + k * 2 + 1, none⟩ = some (.int .i64 B.bytes) := HX4.out.cell HQ1.out
        refine hK _ _ ⟨p0, p1⟩ ?_
        clear hK K own4 hg4 hb4 e3 b3
        try simp only [Act.put, List.setIfInBounds_toArray, List.set_cons_zero, List.set_cons_succ]
        refine wpAnyH_endL (by kernel_rfl) (fun K hK => ?_)
        rw [show t.length + 2 = (t ++ twoB B.bytes).length by rw [List.length_append]; rfl]
        clear f0 f1 q1 hS0 p0 p1
        go_wp2_with fail
        go_roundw
        case rel => exact ⟨k + 1, t ++ twoB B.bytes, A4, c4, rfl, by go_num, by omega, by have := HTL.out.1; rw [List.length_append]; omega, by rw [List.length_append]; show t.length + 2 ≤ _; have := HTL.out.2; omega, HX4.out, HB4.out, HO4.out, HNX.out⟩
        case measure => simp [intOf]; omega
      · have HE1 := Lib.hid (show t ++ REST = T by have := HEQ.out; rw [List.drop_of_length_le (by omega)] at this; exact this)
        clear HEQ
        have hk10 : (k : Int) ≤ 10 := by have := HN.out.1; omega
        have HK := Lib.hid (show k ≤ 10 by omega)
        have HX := Lib.hid hx
        have HB := Lib.hid hb
        have hlw := hb.lt
        clear hx hb
        go_wp2_with (at_builtin; refine wpList_push (.tmp 45) (.tmp 50) 22 rfl rfl (w.heap.size + 1) 5 i0 (.int .u8 0) 1 Try.underlying22 HI0.out.1 HI0.out.2.1 HI0.out.2.2.1 HI0.out.2.2.2 rfl _ _ _ rfl (own_ext HO.out ((Ext.refl _).alloc _)) _ 1 (.int .u8 (d.entries.length : Int)) rfl ?c1 rfl ?c2 ?c3 ?c4 ?_)
        case c1 => exact (Blk_.new _ _ _).cell 0
        case c2 => have := HTL.out.2; have := HK.out; unfold maxLen; omega
        case c3 => have := HTL.out.2; have := HK.out; omega
        case c4 => rw [World.size_alloc]; omega
        intro A5 c5 w5 own5 hg5 _
        have HX5 := Lib.hid (show Ext w w5 from (HX.out.trans ((Ext.refl _).alloc _)).grown hg5 (fun k hk => by have := (HO.out.lt k hk).1; omega))
        have HB5 := Lib.hid (show Blk_ w5 w.heap.size 33 #[.slice A1 d.blocks.length c1, .slice A2 d.entries.length c2] from (HB.out.alloc _).grown hg5 (fun k hk => by have := (HO.out.lt k hk).1; omega))
        have HO5 := Lib.hid (show w5.ownsRow (w.heap.size + 1) 5 1 (.slice A5 (t ++ [byte (d.entries.length : Int)]).length c5) (t ++ [byte (d.entries.length : Int)]).length (cells (t ++ [byte (d.entries.length : Int)])) by
          rw [cells_append, List.length_append, cells_one _ (by omega) (by omega)]
          exact own5)
        have f0 := HB5.out.cell 0
        have f1 := HB5.out.cell 1
        simp at f0 f1
        rw [show t.length + 1 = (t ++ [byte (d.entries.length : Int)]).length by rw [List.length_append]; rfl]
        have HE2 := Lib.hid (show (t ++ [byte (d.entries.length : Int)]) ++ (d.entries.drop 0).flatMap entBytes = T by have := HE1.out; rw [HRE.out] at this; rw [List.append_assoc]; exact this)
        have HL2 := Lib.hid (show 1 ≤ (t ++ [byte (d.entries.length : Int)]).length ∧ (t ++ [byte (d.entries.length : Int)]).length ≤ 22 + 13 * 0 by rw [List.length_append]; show 1 ≤ t.length + 1 ∧ t.length + 1 ≤ _; have := HTL.out.2; have := HK.out; omega)
        generalize t ++ [byte (d.entries.length : Int)] = t1 at *
        clear own5 hg5 hlw HE1 HTL HO HX HB
        go_wp2_with fail
        go_loopw [5, 7] (fun bv i wr => ∃ (k : Nat) (t : List UInt8) (A : Option Addr) (cp : Nat), bv = .slice A t.length cp ∧ i = .int .i64 k ∧ k ≤ d.entries.length ∧ 1 ≤ t.length ∧ t.length ≤ 22 + 13 * k ∧ Ext w wr ∧ Blk_ wr w.heap.size 33 #[.slice A1 d.blocks.length c1, .slice A2 d.entries.length c2] ∧ wr.ownsRow (w.heap.size + 1) 5 1 (.slice A t.length cp) t.length (cells t) ∧ t ++ (d.entries.drop k).flatMap entBytes = T) (fun _ i _ => d.entries.length - (intOf i).toNat)
        case atStart => exact ⟨0, t1, A5, c5, rfl, rfl, Nat.zero_le _, HL2.out.1, HL2.out.2, HX5.out, HB5.out, HO5.out, HE2.out⟩
        case round =>
          clear f0 f1 hlt hk hk10 HE2 HL2 HX5 HB5 HO5 HK
          obtain ⟨k, t, A, cp, rfl, rfl, hk, htl0, htl, hx, hb, ho, heq⟩ := hrel
          have f0 := hb.cell 0
          have f1 := hb.cell 1
          simp at f0 f1
          have HEQ := Lib.hid heq
          have HO := Lib.hid ho
          have HTL := Lib.hid (And.intro htl0 htl)
          clear heq ho htl0 htl
          by_cases hlt : k < d.entries.length
          · obtain ⟨b2, o2, rfl, g1⟩ := HS.out k hlt
            have q0 := hx.cell (g1 k hlt 0 _ rfl)
            have q1 := hx.cell (g1 k hlt 1 _ rfl)
            have q2 := hx.cell (g1 k hlt 2 _ rfl)
            have q3 := hx.cell (g1 k hlt 3 _ rfl)
            simp only [Nat.add_zero] at q0
            have hX0 := HER.out d.entries[k] (List.getElem_mem hlt)
            have heq := HEQ.out
            rw [List.drop_eq_getElem_cons hlt, List.flatMap_cons] at heq
            obtain ⟨X, hX⟩ : ∃ X, X = d.entries[k] := ⟨_, rfl⟩
            rw [← hX] at q0 q1 q2 q3 hX0 heq
            have hXL := ent_len hX0
            have hXB := entBad_false hX0
            have hXN := nameMay_size hXB.1
            have HNX := Lib.hid (show (t ++ entBytes X) ++ (d.entries.drop (k + 1)).flatMap entBytes = T by rw [List.append_assoc]; exact heq)
            have HXL := Lib.hid hXL
            have hb10 : X.block < 10 := by have := hXB.2.2.1; have := HN.out.1; omega
            obtain ⟨_, hb0, _, ha0, ha1, hn0, hn1'⟩ := hXB
            clear g1 hX HEQ heq hX0 hXL
            have hki : (k : Int) < (d.entries.length : Int) := by omega
            have hk10 : (k : Int) < 10 := by have := HN.out.2; omega
            have HK := Lib.hid (show k < 10 by omega)
            have HB := Lib.hid hb
            have HX := Lib.hid hx
            have hlw := hb.lt
            clear hx hb
            have hq : (0 : Int) ≤ X.at_ / 256 := by omega
            have hq2 : X.at_ / 256 ≤ 255 := by omega
            have hq3 : IntKind.u8.wrap (X.at_ / 256) = X.at_ / 256 := by rw [IntKind.wrap_u8]; omega
            have hq4 : IntKind.u8.wrap (X.at_ % 256) = X.at_ % 256 := by rw [IntKind.wrap_u8]; omega
            have hq5 : IntKind.u8.wrap X.block = X.block := by rw [IntKind.wrap_u8]; omega
            have hq6 : IntKind.u8.wrap X.bytes = X.bytes := by rw [IntKind.wrap_u8]; omega
            have hq7 : IntKind.u8.wrap (X.name.size : Int) = (X.name.size : Int) := by rw [IntKind.wrap_u8]; omega
            have HC4 := Lib.hid (cells_four X.block X.at_ X.bytes hb0 (by omega) ha0 (by omega) hn0 (by omega))
            have HNB := Lib.hid (show X.name.size ≤ 8 from hXN.2)
            have HX1 := Lib.hid (HX.out.alloc (.cells #[.string X.name, .int .i64 X.block, .int .i64 X.at_, .int .i64 X.bytes] 38))
            have HB1 := Lib.hid (HB.out.alloc (.cells #[.string X.name, .int .i64 X.block, .int .i64 X.at_, .int .i64 X.bytes] 38))
            have HE1 := Lib.hid (Blk_.new wr 38 #[.string X.name, .int .i64 X.block, .int .i64 X.at_, .int .i64 X.bytes])
            have HO1 := Lib.hid (own_ext HO.out ((Ext.refl wr).alloc (.cells #[.string X.name, .int .i64 X.block, .int .i64 X.at_, .int .i64 X.bytes] 38)))
            clear HX HB HO
            go_wp2_with (at_builtin; refine wpList_push (.tmp 64) (.tmp 69) 22 rfl rfl (w.heap.size + 1) 5 i0 (.int .u8 0) 1 Try.underlying22 HI0.out.1 HI0.out.2.1 HI0.out.2.2.1 HI0.out.2.2.2 rfl _ _ _ rfl (own_ext HO1.out ((Ext.refl _).alloc _)) _ 1 (.int .u8 (X.name.size : Int)) rfl ?c1 rfl ?c2 ?c3 ?c4 ?_)
            case c1 => first | exact (Blk_.new _ _ _).cell 0 | exact (Blk_.new1 _ _ _ _).cell 0
            case c2 => have := HTL.out.2; have := HK.out; unfold maxLen; omega
            case c3 => have := HTL.out.2; have := HK.out; omega
            case c4 => rw [World.size_alloc, World.size_alloc]; omega
            intro A2 c2' w2 own2 hg2 _
            clear f0 f1 q0 q1 q2 q3
            obtain ⟨t2, ht2⟩ : ∃ t2, t2 = t ++ [byte (X.name.size : Int)] := ⟨_, rfl⟩
            have hln2 : t.length + 1 = t2.length := by rw [ht2, List.length_append]; rfl
            have HX2 := Lib.hid (show Ext w w2 from (HX1.out.trans ((Ext.refl _).alloc _)).grown hg2 (fun k hk => by have := (HO1.out.lt k hk).1; omega))
            have HB2 := Lib.hid (show Blk_ w2 w.heap.size 33 #[.slice A1 d.blocks.length c1, .slice (some ⟨b2, o2, none⟩) d.entries.length c2] from (HB1.out.ext ((Ext.refl _).alloc _)).grown hg2 (fun k hk => by have := (HO1.out.lt k hk).1; omega))
            have HE2 := Lib.hid (show Blk_ w2 wr.heap.size 38 #[.string X.name, .int .i64 X.block, .int .i64 X.at_, .int .i64 X.bytes] from (HE1.out.ext ((Ext.refl _).alloc _)).grown hg2 (own_ne HO1.out HE1.out (by decide)))
            have HO2 := Lib.hid (show w2.ownsRow (w.heap.size + 1) 5 1 (.slice A2 t2.length c2') t2.length (cells t2) by
              rw [ht2, cells_append, List.length_append, cells_one _ (by omega) (by omega)]
              exact own2)
            have hl2' : w.heap.size + 1 ≤ w2.heap.size := by have := HB2.out.lt; omega
            have e0 := HE2.out.cell 0
            have e1 := HE2.out.cell 1
            have e2 := HE2.out.cell 2
            have e3 := HE2.out.cell 3
            simp at e0 e1 e2 e3
            have hl2 := HE2.out.lt

            have HL2 := Lib.hid (show t2.length = t.length + 1 from hln2.symm)
            have HT2 := Lib.hid ht2
            rw [hln2]
            clear own2 hg2 ht2 hln2 HX1 HB1 HE1 HO1
            go_wp2_with (at_builtin; refine Lib.wpList_append_own_string _ rfl (.tmp 71) (.tmp 73) 22 9 rfl (w.heap.size + 1) 5 i0 Try.underlying22 Try.underlying9 HI0.out.1 HI0.out.2.1 HI0.out.2.2.1 HI0.out.2.2.2 _ _ _ rfl HO2.out X.name rfl ?c1 ?c2 ?c3 ?_)
            case c1 => have := HTL.out.2; have := HK.out; have := HL2.out; have := HNB.out; unfold maxLen; omega
            case c2 => have := HTL.out.2; have := HK.out; have := HL2.out; have := HNB.out; omega
            case c3 => omega
            intro B3 w3 own3 hg3 _
            obtain ⟨A3, c3, rfl⟩ := own_slice own3
            clear e0 e1 e2 e3
            obtain ⟨t3, ht3⟩ : ∃ t3, t3 = t2 ++ lst X.name := ⟨_, rfl⟩
            have hln3 : t2.length + X.name.size = t3.length := by rw [ht3, List.length_append, length_lst]
            have HX3 := Lib.hid (show Ext w w3 from HX2.out.grown hg3 (fun k hk => by have := (HO2.out.lt k hk).1; omega))
            have HB3 := Lib.hid (show Blk_ w3 w.heap.size 33 #[.slice A1 d.blocks.length c1, .slice (some ⟨b2, o2, none⟩) d.entries.length c2] from HB2.out.grown hg3 (fun k hk => by have := (HO2.out.lt k hk).1; omega))
            have HE3 := Lib.hid (show Blk_ w3 wr.heap.size 38 #[.string X.name, .int .i64 X.block, .int .i64 X.at_, .int .i64 X.bytes] from HE2.out.grown hg3 (own_ne HO2.out HE2.out (by decide)))
            have HO3 := Lib.hid (show w3.ownsRow (w.heap.size + 1) 5 1 (.slice A3 t3.length c3) t3.length (cells t3) by
              rw [← hln3, ht3, cells_append, ← strCells_eq]
              exact own3)
            have hl3' : w.heap.size + 1 ≤ w3.heap.size := by have := HB3.out.lt; omega
            have e0 := HE3.out.cell 0
            have e1 := HE3.out.cell 1
            have e2 := HE3.out.cell 2
            have e3 := HE3.out.cell 3
            simp at e0 e1 e2 e3
            have hl3 := HE3.out.lt

            have HL3 := Lib.hid (show t3.length = t2.length + X.name.size from hln3.symm)
            have HT3 := Lib.hid ht3
            rw [hln3]
            clear own3 hg3 ht3 hln3 HX2 HB2 HE2 HO2 hl2
            go_wp2_with (at_builtin; refine wpList_append_at _ rfl (.tmp 75) (.tmp 90) 22 rfl (w.heap.size + 1) 5 i0 (.int .u8 0) 1 1 Try.underlying22 HI0.out.1 HI0.out.2.1 HI0.out.2.2.1 HI0.out.2.2.2 rfl (by decide) _ _ _ rfl (own_ext HO3.out ((Ext.refl _).alloc _)) ⟨w3.heap.size, 0, none⟩ 4 4 [.int .u8 X.block, .int .u8 (X.at_ / 256), .int .u8 (X.at_ % 256), .int .u8 X.bytes] rfl rfl ?c1 ?c2 ?c3 ?c4 ?c5 ?_)
            case c1 =>
              intro j u hu
              rw [Addr.add_lit, Nat.zero_add, (Blk_.new _ _ _).cell]
              simpa using hu
            case c2 =>
              intro u hu
              simp only [List.mem_cons, List.not_mem_nil, or_false] at hu
              rcases hu with rfl | rfl | rfl | rfl <;> rfl
            case c3 => have := HTL.out.2; have := HK.out; have := HL2.out; have := HL3.out; have := HNB.out; unfold maxLen; omega
            case c4 => have := HTL.out.2; have := HK.out; have := HL2.out; have := HL3.out; have := HNB.out; omega
            case c5 => rw [World.size_alloc]; omega
            intro A4 c4 w4 own4 hg4 _
            clear e0 e1 e2 e3
            obtain ⟨t4, ht4⟩ : ∃ t4, t4 = t3 ++ [byte X.block, byte (X.at_ / 256), byte (X.at_ % 256), byte X.bytes] := ⟨_, rfl⟩
            have hln4 : t3.length + 4 = t4.length := by rw [ht4, List.length_append]; rfl
            have HX4 := Lib.hid (show Ext w w4 from (HX3.out.trans ((Ext.refl _).alloc _)).grown hg4 (fun k hk => by have := (HO3.out.lt k hk).1; omega))
            have HB4 := Lib.hid (show Blk_ w4 w.heap.size 33 #[.slice A1 d.blocks.length c1, .slice (some ⟨b2, o2, none⟩) d.entries.length c2] from (HB3.out.ext ((Ext.refl _).alloc _)).grown hg4 (fun k hk => by have := (HO3.out.lt k hk).1; omega))
            have HE4 := Lib.hid (show Blk_ w4 wr.heap.size 38 #[.string X.name, .int .i64 X.block, .int .i64 X.at_, .int .i64 X.bytes] from (HE3.out.ext ((Ext.refl _).alloc _)).grown hg4 (own_ne HO3.out HE3.out (by decide)))
            have HO4 := Lib.hid (show w4.ownsRow (w.heap.size + 1) 5 1 (.slice A4 t4.length c4) t4.length (cells t4) by
              rw [← hln4, ht4, cells_append, HC4.out]
              exact own4)
            have hl4' : w.heap.size + 1 ≤ w4.heap.size := by have := HB4.out.lt; omega
            have e0 := HE4.out.cell 0
            have e1 := HE4.out.cell 1
            have e2 := HE4.out.cell 2
            have e3 := HE4.out.cell 3
            simp at e0 e1 e2 e3
            have hl4 := HE4.out.lt

            have HT4 := Lib.hid (show t4 = t ++ entBytes X by rw [ht4, HT3.out, HT2.out]; unfold entBytes; simp)
            rw [hln4]
            have HL4 := Lib.hid hln4.symm
            clear own4 hg4 ht4 hln4 HX3 HB3 HE3 HO3 e0 e1 e2 e3
            go_wp2_with fail
            go_roundw
            case rel => exact ⟨k + 1, t4, A4, c4, rfl, by go_num, by omega, by have := HL4.out; omega, by have := HTL.out.2; have := HXL.out; rw [HT4.out, List.length_append]; omega, HX4.out, HB4.out, HO4.out, by rw [HT4.out]; exact HNX.out⟩
            case measure => simp [intOf]; omega
          · have HE2 := Lib.hid (show t = T by have := HEQ.out; rw [List.drop_of_length_le (by omega)] at this; simpa using this)
            clear HEQ
            have hk10 : (k : Int) ≤ 10 := by have := HN.out.2; omega
            have ho2 := HO.out
            rw [cells_flat] at ho2
            obtain ⟨g, rfl, hg1, hbf, hln⟩ := own_buf ho2 (by have := HTL.out.1; omega)
            have HBF := Lib.hid hbf
            clear ho2 hbf hln
            go_wp2_with (refine wpList_frombytes (.tmp 92) 22 9 5 rfl rfl Try.underlying22 Try.underlying5 Try.underlying9 g _ _ _ HBF.out rfl rfl ?_)
            go_wp2_with fail
            go_ret2
            rw [HF.out, HE2.out, HT.out]
            exact ⟨rfl, hx⟩
  · have HF := Lib.hid (enc_bad hc)
    have hc' : (catFault d != 0) = true := by simpa using hc
    clear hc hb1
    generalize catFault d = t at *
    go_wp2_with fail
    go_ret2
    rw [HF.out]
    exact ⟨rfl, hxw⟩

set_option maxRecDepth 100000 in
set_option maxHeartbeats 400000 in
theorem lawCatalogEncodes_any (cs : List Value) (d : Cat) (w : World) (h : RCat w cs d) :
    Calls Try.prog 5 #[.agg cs.toArray] w fun e w' => e = .returned (.bool true) ∧ Ext w w' := by
  have h' := h
  obtain ⟨v1, v2, rfl, _, _⟩ := h'
  go_enter Try.func5, Try.ntmps5
  go_wp2_with fail
  refine calls_abs (fun W => Ext w W ∧ Blk_ W w.heap.size 33 #[v1, v2]) ⟨(Ext.refl _).alloc _, Blk_.new _ _ _⟩ ?_
  rintro W ⟨hx, hb⟩
  refine (catEncode_any [v1, v2] d W (h.up hx)).mono ?_
  rintro e w1 ⟨rfl, hx1⟩
  have hb1 := hb.ext hx1
  have f0 := hb1.cell 0
  have f1 := hb1.cell 1
  simp at f0 f1
  go_wp2_with fail
  refine (catBytes_any [v1, v2] d w1 (h.up (hx.trans hx1))).mono ?_
  rintro e w2 ⟨rfl, hx2⟩
  clear h f0 f1
  go_wp2_with fail
  go_ret
  exact ⟨rfl, (hx.trans hx1).trans hx2⟩
end Go.Proofs.Ytokpjgpdkmimgaa
