/-
  catalog.Encode: a catalog as bytes. Conditions: the argument reads as a catalog.
-/
import Derived.Test.YtokpjgpdkmimgaaWCatCheck
import Derived.Test.YtokpjgpdkmimgaaWCatNext
import Derived.Test.YtokpjgpdkmimgaaWPack2
namespace Go.Proofs.Ytokpjgpdkmimgaa
set_option linter.unusedSimpArgs false
set_option linter.unusedVariables false
open Go.RowKit

theorem enc_good {c : Cat} (h : catFault c = 0) : encCatS c = (bs (catBytes c), 0) := by unfold encCatS; rw [if_pos h]
theorem enc_bad {c : Cat} (h : ¬ catFault c = 0) : encCatS c = (.empty, catFault c) := by unfold encCatS; rw [if_neg h]
theorem ent_join (x : Ent) : bs [byte (x.name.size : Int)] ++ x.name ++ bs [byte x.block] ++ bs (twoB x.at_) ++ bs [byte x.bytes] = bs (entBytes x) := by
  obtain ⟨nm, b, a, n⟩ := x
  obtain ⟨q, rfl⟩ : ∃ q, nm = bs q := ⟨lst nm, (bs_lst nm).symm⟩
  unfold entBytes twoB
  simp only [lst_bs, bs_append]
  congr 1
  simp
theorem ent_len {nb : Nat} {x : Ent} (h : entBad nb x = false) : (entBytes x).length ≤ 13 := by
  have h1 := nameMay_size (entBad_false h).1
  unfold entBytes
  rw [List.length_cons, List.length_append, length_lst]
  simp only [List.length_cons, List.length_nil]
  omega
set_option maxRecDepth 100000 in
theorem two_any (n : Int) (w : World) (h0 : 0 ≤ n) (h1 : n ≤ 65535) :
    Calls Try.prog 34 #[.int .i64 n] w fun e w' => e = .returned (.string (bs (twoB n))) ∧ Ext w w' := by
  have hq : (0 : Int) ≤ n / 256 := by omega
  have hq2 : n / 256 ≤ 255 := by omega
  go_enter Try.func34, Try.ntmps34
  go_wp2_with fail
  go_ret
  refine ⟨?_, by first | exact ((Ext.refl _).alloc _) | exact ((Ext.refl _).alloc _).drew⟩
  rfl

set_option maxRecDepth 100000 in
set_option maxHeartbeats 8000000 in
theorem catEncode_any (cs : List Value) (d : Cat) (w : World) (h : RCat w cs d) :
    Calls Try.prog 14 #[.agg cs.toArray] w fun e w' => e = .returned (.tuple #[.string (encCatS d).1, .int .i64 (encCatS d).2]) ∧ Ext w w' := by
  have h' := h
  obtain ⟨v1, v2, rfl, h1, h2'⟩ := h'
  obtain ⟨A1, c1, rfl, l1, hc1, p1⟩ := h1.rowE encBlk_ok
  obtain ⟨A2, c2, rfl, l2, hc2, s1⟩ := h2'.rowE encEnt_ok
  have HP := Lib.hid p1
  have HS := Lib.hid s1
  have HH := Lib.hid h
  clear h1 h2' l1 hc1 p1 h l2 hc2 s1
  go_enter Try.func14, Try.ntmps14
  go_wp2_with fail
  refine calls_abs (fun W => Ext w W ∧ Blk_ W w.heap.size 33 #[.slice A1 d.blocks.length c1, .slice A2 d.entries.length c2]) ⟨(Ext.refl _).alloc _, Blk_.new _ _ _⟩ ?_
  rintro W ⟨hx, hb⟩
  refine (catCheck_any [.slice A1 d.blocks.length c1, .slice A2 d.entries.length c2] d W (HH.out.up hx)).mono ?_
  rintro e w1 ⟨rfl, hx1⟩
  have hb1 := hb.ext hx1
  have hxw := hx.trans hx1
  have f0 := hb1.cell 0
  have f1 := hb1.cell 1
  simp at f0 f1
  clear hb hx hx1
  by_cases hc : catFault d = 0
  · have HF := Lib.hid (enc_good hc)
    have hok := catFault_ok hc
    have HN := Lib.hid (And.intro hok.1 hok.2.1)
    have HBR := Lib.hid (blocksF_range d.blocks 8 (by omega) hok.2.2.1)
    have HER := Lib.hid (entsF_ok _ _ _ hok.2.2.2)
    rw [hc]
    have hn1 : (d.blocks.length : Int) ≤ 10 := by have := hok.1; omega
    have hn2 : (d.entries.length : Int) ≤ 10 := by have := hok.2.1; omega
    have hu1 : IntKind.u8.wrap (d.blocks.length : Int) = (d.blocks.length : Int) := by rw [IntKind.wrap_u8]; omega
    have hu2 : IntKind.u8.wrap (d.entries.length : Int) = (d.entries.length : Int) := by rw [IntKind.wrap_u8]; omega
    obtain ⟨T, hT⟩ : ∃ T, T = catBytes d := ⟨_, rfl⟩
    obtain ⟨REST, hREST⟩ : ∃ r, r = byte d.entries.length :: d.entries.flatMap entBytes := ⟨_, rfl⟩
    have HT := Lib.hid hT
    have HRE := Lib.hid hREST
    have HT0 := Lib.hid (show [byte (d.blocks.length : Int)] ++ ((d.blocks.drop 0).flatMap (fun b => twoB b.bytes) ++ REST) = T by rw [hT, hREST]; rfl)
    clear hc hok hT hREST
    have hl1 := hb1.lt
    go_wp2_with fail
    go_loopw [5, 24] (fun sv i wr => ∃ (k : Nat) (t : List UInt8), sv = .string (bs t) ∧ i = .int .i64 k ∧ k ≤ d.blocks.length ∧ t.length ≤ 1 + 2 * k ∧ Ext w wr ∧ Blk_ wr w.heap.size 33 #[.slice A1 d.blocks.length c1, .slice A2 d.entries.length c2] ∧ t ++ ((d.blocks.drop k).flatMap (fun b => twoB b.bytes) ++ REST) = T) (fun _ i _ => d.blocks.length - (intOf i).toNat)
    case atStart => exact ⟨0, [byte (d.blocks.length : Int)], rfl, rfl, Nat.zero_le _, by simp, by first | exact hxw | exact hxw.alloc _ | exact (hxw.alloc _).drew, by first | exact hb1 | exact hb1.alloc _ | exact (hb1.alloc _).drew, HT0.out⟩
    case round =>
      clear hxw hb1 f0 f1 HT0 hl1
      obtain ⟨k, t, rfl, rfl, hk, htl, hx, hb, heq⟩ := hrel
      have f0 := hb.cell 0
      have f1 := hb.cell 1
      simp at f0 f1
      have HEQ := Lib.hid heq
      clear heq
      obtain ⟨S, hS⟩ : ∃ S, S = bs t := ⟨_, rfl⟩
      have HSS := Lib.hid (show S.size = t.length by rw [hS, size_bs])
      rw [← hS]
      have HSE := Lib.hid hS
      clear hS
      by_cases hlt : k < d.blocks.length
      · obtain ⟨b1, o1, rfl, g1⟩ := HP.out k hlt
        have q0 := hx.cell (g1 k hlt 0 _ rfl)
        have q1 := hx.cell (g1 k hlt 1 _ rfl)
        simp only [Nat.add_zero] at q0
        have hB0 := HBR.out d.blocks[k] (List.getElem_mem hlt)
        have heq := HEQ.out
        rw [List.drop_eq_getElem_cons hlt, List.flatMap_cons] at heq
        obtain ⟨B, hB⟩ : ∃ B, B = d.blocks[k] := ⟨_, rfl⟩
        rw [← hB] at q0 q1 hB0 heq
        have HNX := Lib.hid (show (t ++ twoB B.bytes) ++ ((d.blocks.drop (k + 1)).flatMap (fun b => twoB b.bytes) ++ REST) = T by rw [List.append_assoc, ← List.append_assoc (twoB B.bytes)]; exact heq)
        clear g1 hB HEQ heq
        have hki : (k : Int) < (d.blocks.length : Int) := by omega
        have hk10 : (k : Int) < 10 := by have := HN.out.1; omega
        go_wp2_with fail
        refine (two_any B.bytes _ hB0.1 (by omega)).mono ?_
        rintro e w9 ⟨rfl, hx9⟩
        have HX9 := Lib.hid (hx.trans (((Ext.refl wr).alloc _).trans hx9))
        have HB9 := Lib.hid (hb.ext (((Ext.refl wr).alloc _).trans hx9))
        obtain ⟨Q, hQ⟩ : ∃ Q, Q = bs (twoB B.bytes) := ⟨_, rfl⟩
        rw [← hQ]
        have HQ := Lib.hid hQ
        have hcc : ¬ (9223372036854775807 < S.size + Q.size) := by rw [HSS.out, hQ, size_bs]; show ¬ (9223372036854775807 < t.length + 2); omega
        clear hx hb hx9 hQ f0 f1 q0 q1
        go_wp2_with fail
        go_roundw
        case rel => exact ⟨k + 1, t ++ twoB B.bytes, by rw [HSE.out, HQ.out, bs_append], by go_num, by omega, by rw [List.length_append]; show t.length + 2 ≤ _; omega, HX9.out, HB9.out, HNX.out⟩
        case measure => simp [intOf]; omega
      · have HE1 := Lib.hid (show t ++ REST = T by have := HEQ.out; rw [List.drop_of_length_le (by omega)] at this; exact this)
        clear HEQ
        have hk10 : (k : Int) ≤ 10 := by have := HN.out.1; omega
        have hcc : ¬ (9223372036854775807 < S.size + 1) := by rw [HSS.out]; omega
        have hcc' : ¬ (9223372036854775807 < S.size + (bs [byte (d.entries.length : Int)]).size) := by rw [size_bs]; exact hcc
        have HX0 := Lib.hid hx
        have HBL0 := Lib.hid hb
        have hl0 := hb.lt
        go_wp2_with fail
        go_loopw [5, 45] (fun sv i wr => ∃ (k : Nat) (t : List UInt8), sv = .string (bs t) ∧ i = .int .i64 k ∧ k ≤ d.entries.length ∧ t.length ≤ 22 + 13 * k ∧ Ext w wr ∧ Blk_ wr w.heap.size 33 #[.slice A1 d.blocks.length c1, .slice A2 d.entries.length c2] ∧ t ++ (d.entries.drop k).flatMap entBytes = T) (fun _ i _ => d.entries.length - (intOf i).toNat)
        case atStart => exact ⟨0, t ++ [byte (d.entries.length : Int)], by rw [HSE.out, bs_append], rfl, Nat.zero_le _, by rw [List.length_append]; show t.length + 1 ≤ _; have := HN.out.1; omega, by first | exact HX0.out | exact HX0.out.alloc _ | exact (HX0.out.alloc _).drew, by first | exact HBL0.out | exact HBL0.out.alloc _ | exact (HBL0.out.alloc _).drew, by have := HE1.out; rw [HRE.out] at this; rw [List.append_assoc]; exact this⟩
        case round =>
          clear hx hb hl0 f0 f1 hlt hk hk10 htl hcc hcc' HSS HSE HE1 HX0 HBL0
          obtain ⟨k, t, rfl, rfl, hk, htl, hx, hb, heq⟩ := hrel
          have f0 := hb.cell 0
          have f1 := hb.cell 1
          simp at f0 f1
          have HEQ := Lib.hid heq
          clear heq
          obtain ⟨S, hS⟩ : ∃ S, S = bs t := ⟨_, rfl⟩
          have HSS := Lib.hid (show S.size = t.length by rw [hS, size_bs])
          rw [← hS]
          have HSE := Lib.hid hS
          clear hS
          by_cases hlt : k < d.entries.length
          · obtain ⟨b2, o2, rfl, g1⟩ := HS.out k hlt
            have q0 := hx.cell (g1 k hlt 0 _ rfl)
            have q1 := hx.cell (g1 k hlt 1 _ rfl)
            have q2 := hx.cell (g1 k hlt 2 _ rfl)
            have q3 := hx.cell (g1 k hlt 3 _ rfl)
            simp only [Nat.add_zero] at q0
            have hX0 := HER.out d.entries[k] (List.getElem_mem hlt)
            have heq := HEQ.out
            rw [List.drop_eq_getElem_cons hlt, List.flatMap_cons] at heq
            obtain ⟨X, hX⟩ : ∃ X, X = d.entries[k] := ⟨_, rfl⟩
            rw [← hX] at q0 q1 q2 q3 hX0 heq
            have hXL := ent_len hX0
            have hXB := entBad_false hX0
            have hXN := nameMay_size hXB.1
            have HNX := Lib.hid (show (t ++ entBytes X) ++ (d.entries.drop (k + 1)).flatMap entBytes = T by rw [List.append_assoc]; exact heq)
            have HXL := Lib.hid hXL
            have hb10 : X.block < 10 := by have := hXB.2.2.1; have := HN.out.1; omega
            obtain ⟨_, hb0, _, ha0, ha1, hn0, hn1'⟩ := hXB
            clear g1 hX HEQ heq hX0 hXL
            have hki : (k : Int) < (d.entries.length : Int) := by omega
            have hk10 : (k : Int) < 10 := by have := HN.out.2; omega
            obtain ⟨Q, hQ⟩ : ∃ Q, Q = bs (twoB X.at_) := ⟨_, rfl⟩
            have HQS := Lib.hid (show Q.size = 2 by rw [hQ, size_bs]; rfl)
            have HQ := Lib.hid hQ
            have HJ := Lib.hid (show S ++ (bs [byte (X.name.size : Int)] ++ X.name ++ bs [byte X.block] ++ Q ++ bs [byte X.bytes]) = bs (t ++ entBytes X) by rw [hQ, ent_join, HSE.out, bs_append])
            clear hQ
            have hk10' : k < 10 := by omega
            go_wp2_with fail
            refine wp_abs (fun W => Ext wr W ∧ Blk_ W wr.heap.size 38 #[.string X.name, .int .i64 X.block, .int .i64 X.at_, .int .i64 X.bytes]) ⟨(Ext.refl _).alloc _, Blk_.new _ _ _⟩ ?_
            rintro W1 ⟨hx1, hbx⟩
            have e0 := hbx.cell 0
            have e1 := hbx.cell 1
            have e2 := hbx.cell 2
            have e3 := hbx.cell 3
            simp at e0 e1 e2 e3
            have HX1 := Lib.hid (hx.trans hx1)
            have HB1 := Lib.hid (hb.ext hx1)
            clear hx hb hx1 hbx f0 f1 q0 q1 q2 q3
            refine wp_region_vals (F := ?_) ?_ [(fun (v : Value) (_ : World) => v = .string S), (fun (v : Value) (_ : World) => v = .pointer (some ⟨wr.heap.size, 0, none⟩)), (fun (v : Value) (_ : World) => v = .string X.name), (fun (v : Value) (_ : World) => v = .int .i64 (X.name.size : Int)), (fun (v : Value) (_ : World) => v = .int .u8 (X.name.size : Int)), (fun v w => ∃ g, v = .slice (some ⟨g, 0, none⟩) 1 1 ∧ Blk_ w g 5 #[.int .u8 (X.name.size : Int)]), (fun (v : Value) (_ : World) => v = .string (bs [byte (X.name.size : Int)])), (fun (v : Value) (_ : World) => v = .pointer (some ⟨wr.heap.size, 0, none⟩)), (fun (v : Value) (_ : World) => v = .string X.name), (fun (v : Value) (_ : World) => v = .string (bs [byte (X.name.size : Int)] ++ X.name)), (fun (v : Value) (_ : World) => v = .pointer (some ⟨wr.heap.size, 1, none⟩)), (fun (v : Value) (_ : World) => v = .int .i64 X.block), (fun (v : Value) (_ : World) => v = .int .u8 X.block), (fun v w => ∃ g, v = .slice (some ⟨g, 0, none⟩) 1 1 ∧ Blk_ w g 5 #[.int .u8 X.block]), (fun (v : Value) (_ : World) => v = .string (bs [byte X.block])), (fun (v : Value) (_ : World) => v = .string (bs [byte (X.name.size : Int)] ++ X.name ++ bs [byte X.block])), (fun (v : Value) (_ : World) => v = .pointer (some ⟨wr.heap.size, 2, none⟩)), (fun (v : Value) (_ : World) => v = .int .i64 X.at_), (fun (v : Value) (_ : World) => v = .string Q), (fun (v : Value) (_ : World) => v = .string (bs [byte (X.name.size : Int)] ++ X.name ++ bs [byte X.block] ++ Q)), (fun (v : Value) (_ : World) => v = .pointer (some ⟨wr.heap.size, 3, none⟩)), (fun (v : Value) (_ : World) => v = .int .i64 X.bytes), (fun (v : Value) (_ : World) => v = .int .u8 X.bytes), (fun v w => ∃ g, v = .slice (some ⟨g, 0, none⟩) 1 1 ∧ Blk_ w g 5 #[.int .u8 X.bytes]), (fun (v : Value) (_ : World) => v = .string (bs [byte X.bytes])), (fun (v : Value) (_ : World) => v = .string (bs [byte (X.name.size : Int)] ++ X.name ++ bs [byte X.block] ++ Q ++ bs [byte X.bytes])), (fun (v : Value) (_ : World) => v = .string (S ++ (bs [byte (X.name.size : Int)] ++ X.name ++ bs [byte X.block] ++ Q ++ bs [byte X.bytes]))), (fun (v : Value) (_ : World) => v = .string (S ++ (bs [byte (X.name.size : Int)] ++ X.name ++ bs [byte X.block] ++ Q ++ bs [byte X.bytes])))] (by kernel_rfl) (by kernel_rfl) ?_ ?_ ?_
            rotate_left
            · intro vals
              simp only [putAll, Act.put, List.setIfInBounds_toArray, List.set_cons_zero, List.set_cons_succ, Nat.zero_add, Nat.reduceAdd]
              rfl
            · simp only [List.forall_mem_cons]
              exact ⟨fun _ _ _ h _ => h, fun _ _ _ h _ => h, fun _ _ _ h _ => h, fun _ _ _ h _ => h, fun _ _ _ h _ => h, fun _ _ _ h e => (by obtain ⟨g, hg, hb⟩ := h; exact ⟨g, hg, hb.ext e⟩), fun _ _ _ h _ => h, fun _ _ _ h _ => h, fun _ _ _ h _ => h, fun _ _ _ h _ => h, fun _ _ _ h _ => h, fun _ _ _ h _ => h, fun _ _ _ h _ => h, fun _ _ _ h e => (by obtain ⟨g, hg, hb⟩ := h; exact ⟨g, hg, hb.ext e⟩), fun _ _ _ h _ => h, fun _ _ _ h _ => h, fun _ _ _ h _ => h, fun _ _ _ h _ => h, fun _ _ _ h _ => h, fun _ _ _ h _ => h, fun _ _ _ h _ => h, fun _ _ _ h _ => h, fun _ _ _ h _ => h, fun _ _ _ h e => (by obtain ⟨g, hg, hb⟩ := h; exact ⟨g, hg, hb.ext e⟩), fun _ _ _ h _ => h, fun _ _ _ h _ => h, fun _ _ _ h _ => h, fun _ _ _ h _ => h, fun _ h => (by cases h)⟩
            · refine ⟨?_, ?_, ?_, ?_, ?_, ?_, ?_, ?_, ?_, ?_, ?_, ?_, ?_, ?_, ?_, ?_, ?_, ?_, ?_, ?_, ?_, ?_, ?_, ?_, ?_, ?_, ?_, ?_, trivial⟩
              · intro vals W e hd ho K hK
                have o27 : vals 27 = .string S := ho 27 (by kernel_rfl)
                refine st_quiet (v := ?_) ?_ ?_
                rotate_left
                · go_simp
                  rfl
                exact hK _ _ _ rfl (by first | exact rfl | exact congrArg (Value.int _) (by first | (rw [IntKind.wrap_i64]; omega) | (rw [IntKind.wrap_u8]; omega) | omega)) (Ext.refl _)
              · intro vals W e hd ho K hK
                refine st_quiet (v := ?_) ?_ ?_
                rotate_left
                · go_simp
                  rfl
                exact hK _ _ _ rfl (by first | exact rfl | exact congrArg (Value.int _) (by first | (rw [IntKind.wrap_i64]; omega) | (rw [IntKind.wrap_u8]; omega) | omega)) (Ext.refl _)
              · intro vals W e hd ho K hK
                have h1 : vals 1 = .pointer (some ⟨wr.heap.size, 0, none⟩) := hd 1 (by kernel_rfl)
                have cc := e.cell e0
                refine st_quiet (v := ?_) ?_ ?_
                rotate_left
                · go_simp
                  rfl
                exact hK _ _ _ rfl rfl (Ext.refl _)
              · intro vals W e hd ho K hK
                have h2 : vals 2 = .string X.name := hd 2 (by kernel_rfl)
                refine st_quiet (v := ?_) ?_ ?_
                rotate_left
                · go_simp
                  rfl
                exact hK _ _ _ rfl (by first | exact rfl | exact congrArg (Value.int _) (by first | (rw [IntKind.wrap_i64]; omega) | (rw [IntKind.wrap_u8]; omega) | omega)) (Ext.refl _)
              · intro vals W e hd ho K hK
                have h3 : vals 3 = .int .i64 (X.name.size : Int) := hd 3 (by kernel_rfl)
                refine st_quiet (v := ?_) ?_ ?_
                rotate_left
                · go_simp
                  rfl
                exact hK _ _ _ rfl (by first | exact rfl | exact congrArg (Value.int _) (by first | (rw [IntKind.wrap_i64]; omega) | (rw [IntKind.wrap_u8]; omega) | omega)) (Ext.refl _)
              · intro vals W e hd ho K hK
                have h4 : vals 4 = .int .u8 (X.name.size : Int) := hd 4 (by kernel_rfl)
                go_wp2_with fail
                exact hK _ _ _ (by first | rfl | (simp only [h4]; rfl)) ⟨W.heap.size, rfl, Blk_.new _ _ _⟩ ((Ext.refl W).alloc _)
              · intro vals W e hd ho K hK
                obtain ⟨g5, h5, b5⟩ := hd 5 (by kernel_rfl)
                refine wp_conv1 (.tmp 54) 22 9 5 rfl Try.underlying22 Try.underlying5 Try.underlying9 g5 _ (by go_simp; try rfl) b5 ?_
                exact hK _ _ _ rfl rfl (Ext.refl _)
              · intro vals W e hd ho K hK
                refine st_quiet (v := ?_) ?_ ?_
                rotate_left
                · go_simp
                  rfl
                exact hK _ _ _ rfl (by first | exact rfl | exact congrArg (Value.int _) (by first | (rw [IntKind.wrap_i64]; omega) | (rw [IntKind.wrap_u8]; omega) | omega)) (Ext.refl _)
              · intro vals W e hd ho K hK
                have h7 : vals 7 = .pointer (some ⟨wr.heap.size, 0, none⟩) := hd 7 (by kernel_rfl)
                have cc := e.cell e0
                refine st_quiet (v := ?_) ?_ ?_
                rotate_left
                · go_simp
                  rfl
                exact hK _ _ _ rfl rfl (Ext.refl _)
              · intro vals W e hd ho K hK
                have h6 : vals 6 = .string (bs [byte (X.name.size : Int)]) := hd 6 (by kernel_rfl)
                have h8 : vals 8 = .string X.name := hd 8 (by kernel_rfl)
                refine st_concat (.tmp 55) (.tmp 57) _ _ _ _ rfl h6 h8 (by rw [size_bs]; simp only [List.length_cons, List.length_nil]; omega) ?_
                exact hK _ _ _ rfl rfl (Ext.refl _)
              · intro vals W e hd ho K hK
                refine st_quiet (v := ?_) ?_ ?_
                rotate_left
                · go_simp
                  rfl
                exact hK _ _ _ rfl (by first | exact rfl | exact congrArg (Value.int _) (by first | (rw [IntKind.wrap_i64]; omega) | (rw [IntKind.wrap_u8]; omega) | omega)) (Ext.refl _)
              · intro vals W e hd ho K hK
                have h10 : vals 10 = .pointer (some ⟨wr.heap.size, 1, none⟩) := hd 10 (by kernel_rfl)
                have cc := e.cell e1
                refine st_quiet (v := ?_) ?_ ?_
                rotate_left
                · go_simp
                  rfl
                exact hK _ _ _ rfl rfl (Ext.refl _)
              · intro vals W e hd ho K hK
                have h11 : vals 11 = .int .i64 X.block := hd 11 (by kernel_rfl)
                refine st_quiet (v := ?_) ?_ ?_
                rotate_left
                · go_simp
                  rfl
                exact hK _ _ _ rfl (by first | exact rfl | exact congrArg (Value.int _) (by first | (rw [IntKind.wrap_i64]; omega) | (rw [IntKind.wrap_u8]; omega) | omega)) (Ext.refl _)
              · intro vals W e hd ho K hK
                have h12 : vals 12 = .int .u8 X.block := hd 12 (by kernel_rfl)
                go_wp2_with fail
                exact hK _ _ _ (by first | rfl | (simp only [h12]; rfl)) ⟨W.heap.size, rfl, Blk_.new _ _ _⟩ ((Ext.refl W).alloc _)
              · intro vals W e hd ho K hK
                obtain ⟨g13, h13, b13⟩ := hd 13 (by kernel_rfl)
                refine wp_conv1 (.tmp 62) 22 9 5 rfl Try.underlying22 Try.underlying5 Try.underlying9 g13 _ (by go_simp; try rfl) b13 ?_
                exact hK _ _ _ rfl rfl (Ext.refl _)
              · intro vals W e hd ho K hK
                have h9 : vals 9 = .string (bs [byte (X.name.size : Int)] ++ X.name) := hd 9 (by kernel_rfl)
                have h14 : vals 14 = .string (bs [byte X.block]) := hd 14 (by kernel_rfl)
                refine st_concat (.tmp 58) (.tmp 63) _ _ _ _ rfl h9 h14 (by rw [ByteArray.size_append, size_bs, size_bs]; simp only [List.length_cons, List.length_nil]; omega) ?_
                exact hK _ _ _ rfl rfl (Ext.refl _)
              · intro vals W e hd ho K hK
                refine st_quiet (v := ?_) ?_ ?_
                rotate_left
                · go_simp
                  rfl
                exact hK _ _ _ rfl (by first | exact rfl | exact congrArg (Value.int _) (by first | (rw [IntKind.wrap_i64]; omega) | (rw [IntKind.wrap_u8]; omega) | omega)) (Ext.refl _)
              · intro vals W e hd ho K hK
                have h16 : vals 16 = .pointer (some ⟨wr.heap.size, 2, none⟩) := hd 16 (by kernel_rfl)
                have cc := e.cell e2
                refine st_quiet (v := ?_) ?_ ?_
                rotate_left
                · go_simp
                  rfl
                exact hK _ _ _ rfl rfl (Ext.refl _)
              · intro vals W e hd ho K hK
                have h17 : vals 17 = .int .i64 X.at_ := hd 17 (by kernel_rfl)
                go_wp2_with fail
                refine (two_any X.at_ _ ha0 (by omega)).mono ?_
                rintro e' W' ⟨rfl, h'⟩
                exact hK _ _ _ (by first | rfl | (simp only [h17]; rfl)) (congrArg Value.string HQ.out.symm) h'
              · intro vals W e hd ho K hK
                have h15 : vals 15 = .string (bs [byte (X.name.size : Int)] ++ X.name ++ bs [byte X.block]) := hd 15 (by kernel_rfl)
                have h18 : vals 18 = .string Q := hd 18 (by kernel_rfl)
                refine st_concat (.tmp 64) (.tmp 67) _ _ _ _ rfl h15 h18 (by have := HQS.out; rw [ByteArray.size_append, ByteArray.size_append, size_bs, size_bs]; simp only [List.length_cons, List.length_nil]; omega) ?_
                exact hK _ _ _ rfl rfl (Ext.refl _)
              · intro vals W e hd ho K hK
                refine st_quiet (v := ?_) ?_ ?_
                rotate_left
                · go_simp
                  rfl
                exact hK _ _ _ rfl (by first | exact rfl | exact congrArg (Value.int _) (by first | (rw [IntKind.wrap_i64]; omega) | (rw [IntKind.wrap_u8]; omega) | omega)) (Ext.refl _)
              · intro vals W e hd ho K hK
                have h20 : vals 20 = .pointer (some ⟨wr.heap.size, 3, none⟩) := hd 20 (by kernel_rfl)
                have cc := e.cell e3
                refine st_quiet (v := ?_) ?_ ?_
                rotate_left
                · go_simp
                  rfl
                exact hK _ _ _ rfl rfl (Ext.refl _)
              · intro vals W e hd ho K hK
                have h21 : vals 21 = .int .i64 X.bytes := hd 21 (by kernel_rfl)
                refine st_quiet (v := ?_) ?_ ?_
                rotate_left
                · go_simp
                  rfl
                exact hK _ _ _ rfl (by first | exact rfl | exact congrArg (Value.int _) (by first | (rw [IntKind.wrap_i64]; omega) | (rw [IntKind.wrap_u8]; omega) | omega)) (Ext.refl _)
              · intro vals W e hd ho K hK
                have h22 : vals 22 = .int .u8 X.bytes := hd 22 (by kernel_rfl)
                go_wp2_with fail
                exact hK _ _ _ (by first | rfl | (simp only [h22]; rfl)) ⟨W.heap.size, rfl, Blk_.new _ _ _⟩ ((Ext.refl W).alloc _)
              · intro vals W e hd ho K hK
                obtain ⟨g23, h23, b23⟩ := hd 23 (by kernel_rfl)
                refine wp_conv1 (.tmp 72) 22 9 5 rfl Try.underlying22 Try.underlying5 Try.underlying9 g23 _ (by go_simp; try rfl) b23 ?_
                exact hK _ _ _ rfl rfl (Ext.refl _)
              · intro vals W e hd ho K hK
                have h19 : vals 19 = .string (bs [byte (X.name.size : Int)] ++ X.name ++ bs [byte X.block] ++ Q) := hd 19 (by kernel_rfl)
                have h24 : vals 24 = .string (bs [byte X.bytes]) := hd 24 (by kernel_rfl)
                refine st_concat (.tmp 68) (.tmp 73) _ _ _ _ rfl h19 h24 (by have := HQS.out; rw [ByteArray.size_append, ByteArray.size_append, ByteArray.size_append, size_bs, size_bs, size_bs]; simp only [List.length_cons, List.length_nil]; omega) ?_
                exact hK _ _ _ rfl rfl (Ext.refl _)
              · intro vals W e hd ho K hK
                have h0 : vals 0 = .string S := hd 0 (by kernel_rfl)
                have h25 : vals 25 = .string (bs [byte (X.name.size : Int)] ++ X.name ++ bs [byte X.block] ++ Q ++ bs [byte X.bytes]) := hd 25 (by kernel_rfl)
                refine st_concat (.tmp 49) (.tmp 74) _ _ _ _ rfl h0 h25 (by have := HQS.out; have := HSS.out; have := HN.out.2; rw [ByteArray.size_append, ByteArray.size_append, ByteArray.size_append, ByteArray.size_append, size_bs, size_bs, size_bs]; simp only [List.length_cons, List.length_nil]; omega) ?_
                exact hK _ _ _ rfl rfl (Ext.refl _)
              · intro vals W e hd ho K hK
                have h26 : vals 26 = .string (S ++ (bs [byte (X.name.size : Int)] ++ X.name ++ bs [byte X.block] ++ Q ++ bs [byte X.bytes])) := hd 26 (by kernel_rfl)
                refine st_quiet (v := ?_) ?_ ?_
                rotate_left
                · go_simp
                  rfl
                exact hK _ _ _ rfl (by first | exact rfl | exact congrArg (Value.int _) (by first | (rw [IntKind.wrap_i64]; omega) | (rw [IntKind.wrap_u8]; omega) | omega)) (Ext.refl _)
            intro vals W e hall
            have h27 : vals 27 = .string (S ++ (bs [byte (X.name.size : Int)] ++ X.name ++ bs [byte X.block] ++ Q ++ bs [byte X.bytes])) := hall 27 (by decide)
            rw [HJ.out] at h27
            go_wp2_with fail
            go_roundw
            case rel => exact ⟨k + 1, t ++ entBytes X, h27, by go_num, by omega, by rw [List.length_append]; have := HXL.out; omega, HX1.out.trans ((Ext.refl _).drew.trans e), HB1.out.ext ((Ext.refl _).drew.trans e), HNX.out⟩
            case measure => simp [intOf]; omega
          · have HE2 := Lib.hid (show t = T by have := HEQ.out; rw [List.drop_of_length_le (by omega)] at this; simpa using this)
            clear HEQ
            have hk10 : (k : Int) ≤ 10 := by have := HN.out.2; omega
            go_wp2_with fail
            go_ret2
            rw [HF.out, HSE.out, HE2.out, HT.out]
            exact ⟨rfl, hx⟩
  · have HF := Lib.hid (enc_bad hc)
    have hc' : (catFault d != 0) = true := by simpa using hc
    clear hc hb1
    generalize catFault d = t at *
    go_wp2_with fail
    go_ret2
    rw [HF.out]
    exact ⟨rfl, hxw⟩
end Go.Proofs.Ytokpjgpdkmimgaa
