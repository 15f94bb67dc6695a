/-
  archive.Names and the document's NamesOf: the names of all files; the law ArchiveNames. Conditions: the argument reads as an array.
-/
import Derived.Test.YtokpjgpdkmimgaaDoorWOpen
namespace Go.Proofs.YtokpjgpdkmimgaaDoor
set_option linter.unusedSimpArgs false
set_option linter.unusedVariables false
open Go.RowKit

set_option maxRecDepth 100000 in
set_option maxHeartbeats 400000 in
theorem sameTexts_true (v1 v2 : Value) (l : List ByteArray) (w : World) (h1 : SlR 1 16 RStr w v1 l) (h2 : SlR 1 16 RStr w v2 l) :
    Calls Tryd.prog 25 #[v1, v2] w fun e w' => e = .returned (.bool true) ∧ Ext w w' := by
  obtain ⟨A1, c1, rfl, l1, hc1, r1⟩ := h1.row
  obtain ⟨A2, c2, rfl, _, hc2, r2⟩ := h2.row
  clear h1 h2
  go_enter Tryd.func25, Tryd.ntmps25
  go_wp2
  go_loopw [5] (fun i wr => ∃ k : Nat, i = .int .i64 k ∧ k ≤ l.length ∧ Ext w wr) (fun i _ => l.length - (intOf i).toNat)
  case atStart => exact ⟨0, rfl, Nat.zero_le _, Ext.refl _⟩
  case round =>
    obtain ⟨k, rfl, hk, hx⟩ := hrel
    by_cases hlt : k < l.length
    · obtain ⟨b1, o1, rfl, g1⟩ := r1 k hlt
      obtain ⟨b2, o2, rfl, g2⟩ := r2 k hlt
      obtain ⟨u1, q1, t1⟩ := g1 k hlt
      obtain ⟨u2, q2, t2⟩ := g2 k hlt
      obtain rfl := t1.val
      obtain rfl := t2.val
      have q1' := hx.cell q1
      have q2' := hx.cell q2
      clear q1 q2 g1 g2 r1 r2 t1 t2
      go_wp2
      go_quiet (fail)
      go_wp2
      go_roundw
      case rel => exact ⟨k + 1, by go_num, by omega, hx.drewN _⟩
      case measure => simp [intOf]; omega
    · go_wp2
      go_ret
      exact ⟨rfl, hx⟩

theorem dec_bad {s : ByteArray} (h : ¬ (decCatS s).2 = 0) : (decCatS s).1 = noCat := by
  revert h
  unfold decCatS decCatL
  split
  · intro _; rfl
  · split
    · intro _; rfl
    · intro _; rfl
    · split
      · intro _; rfl
      · unfold endCat
        split
        · split
          · intro h; exact absurd rfl h
          · intro _; rfl
        · intro _; rfl
theorem open_none {a : List Dev} (h : ¬ (openS a).2 = 0) : (openS a).1 = noCat := by
  by_cases h0 : (streamReadS a 0 192).2 = 0
  · rw [open_ok h0] at h ⊢; exact dec_bad h
  · rw [open_bad h0]
def namesL (c : Cat) : List ByteArray := c.entries.map (·.name)
theorem names_step (c : Cat) (k : Nat) (h : k < c.entries.length) : ((namesL c).take (k + 1)).flatMap encStr = ((namesL c).take k).flatMap encStr ++ [.string c.entries[k].name] := by
  have hl : k < (namesL c).length := by unfold namesL; rw [List.length_map]; exact h
  have he : (namesL c)[k]'hl = c.entries[k].name := by simp [namesL]
  rw [List.take_succ_eq_append_getElem hl, List.flatMap_append, he]
  rfl

set_option maxRecDepth 100000 in
set_option maxHeartbeats 4000000 in
theorem archNames_any (cs : List Value) (a : List Dev) (w : World) (h : RArr w cs a) :
    Calls Tryd.prog 23 #[.agg cs.toArray] w fun e w' => ∃ A c, e = .returned (.tuple #[.slice A (namesL (openS a).1).length c, .int .i64 (openS a).2]) ∧ Ext w w' ∧ SlR 1 16 RStr w' (.slice A (namesL (openS a).1).length c) (namesL (openS a).1) := by
  obtain ⟨A, c, rfl⟩ := h.form
  obtain ⟨i1, hi1, za1, zb1, zc1⟩ := info_parts info_str
  have HI1 := Lib.hid (And.intro hi1 (And.intro za1 (And.intro zb1 zc1)))
  clear hi1 za1 zb1 zc1
  go_enter Tryd.func23, Tryd.ntmps23
  go_wp2_with fail
  refine calls_abs (fun W => Ext w W) ((Ext.refl _).alloc _) ?_
  intro W hx
  refine (archOpen_any [.slice A a.length c] a W (h.up hx)).mono ?_
  rintro e w1 ⟨A1, c1, A2, c2, rfl, hx1, hr1⟩
  have HBAD := Lib.hid (fun h => open_none (a := a) h)
  obtain ⟨d, hd⟩ : ∃ d, d = (openS a).1 := ⟨_, rfl⟩
  obtain ⟨u, hu⟩ : ∃ u, u = (openS a).2 := ⟨_, rfl⟩
  rw [← hd] at hr1 HBAD ⊢
  rw [← hu] at HBAD ⊢
  have HD := Lib.hid (And.intro hd hu)
  have HX1 := Lib.hid (hx.trans hx1)
  obtain ⟨V1, V2, hv, hs1, hs2⟩ := hr1
  simp only [List.cons.injEq, and_true] at hv
  obtain ⟨rfl, rfl⟩ := hv
  have HMEM := Lib.hid (hs2.mem encEnt_ok w1)
  have hlen := hs2.len
  obtain ⟨A2', c2', hv2, _, _, s1⟩ := hs2.rowE encEnt_ok
  injection hv2 with e1 e2 e3
  subst e1 e3
  have HS := Lib.hid s1
  have HL := Lib.hid (show d.entries.length * 40 ≤ 140737488355328 from hlen)
  have hnI : (d.entries.length : Int) ≤ 140737488355328 := by omega
  clear hd hu hx hx1 hs1 hs2 s1 hlen h
  by_cases hu0 : u = 0
  · subst hu0
    clear HBAD
    go_wp2_with fail
    go_loopw [6, 20] (fun ov kv wr => ∃ (k : Nat) (A : Option Addr) (c : Nat), ov = .slice A k c ∧ kv = .int .i64 k ∧ k ≤ d.entries.length ∧ Ext w1 wr ∧ w1.heap.size + 1 ≤ wr.heap.size ∧ wr.ownsRow (w1.heap.size + 1) 9 1 (.slice A k c) k (((namesL d).take k).flatMap encStr)) (fun _ kv _ => d.entries.length - (intOf kv).toNat)
    case atStart => exact ⟨0, none, 0, rfl, rfl, Nat.zero_le _, (Ext.refl _).alloc _, by rw [World.size_alloc]; exact Nat.le_refl _, World.ownsRow_nil _ _ _ _⟩
    case round =>
      obtain ⟨k, A, c, rfl, rfl, hk, hx, hsz, ho⟩ := hrel
      have HO := Lib.hid ho
      have HX := Lib.hid hx
      clear ho
      by_cases hlt : k < d.entries.length
      · obtain ⟨b2, o2, rfl, g1⟩ := HS.out k hlt
        have q0 := hx.cell (g1 k hlt 0 _ rfl)
        have q1 := hx.cell (g1 k hlt 1 _ rfl)
        have q2 := hx.cell (g1 k hlt 2 _ rfl)
        have q3 := hx.cell (g1 k hlt 3 _ rfl)
        simp only [Nat.add_zero] at q0
        have hst := names_step d k hlt
        obtain ⟨X, hX⟩ : ∃ X, X = d.entries[k] := ⟨_, rfl⟩
        rw [← hX] at q0 q1 q2 q3 hst
        have HST := Lib.hid hst
        have hki : (k : Int) < (d.entries.length : Int) := by omega
        have hkI : (k : Int) ≤ 140737488355328 := by omega
        have HLT := Lib.hid hlt
        clear hst hX g1 hx
        go_wp2_with (at_builtin; refine wpList_push (.tmp 24) (.tmp 27) 43 rfl rfl (w1.heap.size + 1) 9 i1 (.string .empty) 16 Tryd.underlying43 HI1.out.1 HI1.out.2.1 HI1.out.2.2.1 HI1.out.2.2.2 rfl _ k _ rfl (own_ext HO.out (((Ext.refl _).alloc _).alloc _)) (wr.heap.size + 1) 1 (.string X.name) rfl ?c1 rfl ?c2 ?c3 ?c4 ?_)
        case c1 => first | exact (Blk_.new _ _ _).cell 0 | exact (Blk_.new1 _ _ _ _).cell 0
        case c2 => have := HL.out; have := HLT.out; unfold maxLen; omega
        case c3 => have := HL.out; have := HLT.out; omega
        case c4 => simp only [World.size_alloc]; omega
        intro A7 c7 w7 own7 hg7 _
        have HX7 := Lib.hid ((HX.out.trans (((Ext.refl _).alloc _).alloc _)).grown hg7 (fun g hgg => by have := (HO.out.lt g hgg).1; omega))
        have HSZ7 := Lib.hid (show w1.heap.size + 1 ≤ w7.heap.size by have := hg7.size; simp only [World.size_alloc] at this; omega)
        have HO7 := Lib.hid own7
        rw [← HST.out] at HO7
        have HB7 := Lib.hid (And.intro True.intro True.intro)
        clear own7 hg7 q0 q1 q2 q3
        go_wp2_with fail
        go_roundw
        case rel => exact ⟨k + 1, A7, c7, rfl, by first | rfl | go_num, by have := HLT.out; omega, HX7.out, HSZ7.out, HO7.out⟩
        case measure => have := HLT.out; (simp [intOf]; try omega)
      · obtain rfl : k = d.entries.length := by omega
        have HNL := Lib.hid (show d.entries.length = (namesL d).length by unfold namesL; rw [List.length_map])
        have ho2 := HO.out
        rw [List.take_of_length_le (by rw [← HNL.out]; exact Nat.le_refl _)] at ho2
        have HRD := Lib.hid (show SlR 1 16 RStr wr (.slice A (namesL d).length c) (namesL d) from by
          rw [HNL.out] at ho2
          refine SlR.of_own encStr_ok ho2 (by rw [← HNL.out]; have := HL.out; omega) (fun x hx => ⟨rfl, ?_⟩)
          unfold namesL at hx
          obtain ⟨y, hy, rfl⟩ := List.mem_map.1 hx
          exact (HMEM.out y hy).2.1)
        clear hx ho2
        go_wp2_with fail
        go_ret2
        rw [← HD.out.1, ← HD.out.2]
        refine ⟨A, c, by rw [← HNL.out]; rfl, HX1.out.trans HX.out, HRD.out⟩
  · have hu1 : (u != 0) = true := by simp [bne, beq_false_of_ne hu0]
    have HDN := Lib.hid (HBAD.out hu0)
    clear HBAD hu0
    go_wp2_with fail
    go_ret2
    rw [← HD.out.1, ← HD.out.2, HDN.out]
    exact ⟨none, 0, rfl, HX1.out.alloc _, SlR.of_own encStr_ok (base := 0) (e := 9) (World.ownsRow_nil _ _ _ _) (by decide) (fun b hb => by cases hb)⟩

set_option maxRecDepth 100000 in
set_option maxHeartbeats 4000000 in
theorem namesOf_any (cs : List Value) (a : List Dev) (w : World) (h : RArr w cs a) :
    Calls Tryd.prog 24 #[.agg cs.toArray] w fun e w' => ∃ A c, e = .returned (.tuple #[.slice A (namesL (openS a).1).length c, .int .i64 (openS a).2]) ∧ Ext w w' ∧ SlR 1 16 RStr w' (.slice A (namesL (openS a).1).length c) (namesL (openS a).1) := by
  obtain ⟨A, c, rfl⟩ := h.form
  obtain ⟨i1, hi1, za1, zb1, zc1⟩ := info_parts info_str
  have HI1 := Lib.hid (And.intro hi1 (And.intro za1 (And.intro zb1 zc1)))
  clear hi1 za1 zb1 zc1
  go_enter Tryd.func24, Tryd.ntmps24
  go_wp2_with fail
  refine calls_abs (fun W => Ext w W) ((Ext.refl _).alloc _) ?_
  intro W hx
  refine (openedOf_any [.slice A a.length c] a W (h.up hx)).mono ?_
  rintro e w1 ⟨A1, c1, A2, c2, rfl, hx1, hr1⟩
  have HBAD := Lib.hid (fun h => open_none (a := a) h)
  obtain ⟨d, hd⟩ : ∃ d, d = (openS a).1 := ⟨_, rfl⟩
  obtain ⟨u, hu⟩ : ∃ u, u = (openS a).2 := ⟨_, rfl⟩
  rw [← hd] at hr1 HBAD ⊢
  rw [← hu] at HBAD ⊢
  have HD := Lib.hid (And.intro hd hu)
  have HX1 := Lib.hid (hx.trans hx1)
  obtain ⟨V1, V2, hv, hs1, hs2⟩ := hr1
  simp only [List.cons.injEq, and_true] at hv
  obtain ⟨rfl, rfl⟩ := hv
  have HMEM := Lib.hid (hs2.mem encEnt_ok w1)
  have hlen := hs2.len
  obtain ⟨A2', c2', hv2, _, _, s1⟩ := hs2.rowE encEnt_ok
  injection hv2 with e1 e2 e3
  subst e1 e3
  have HS := Lib.hid s1
  have HL := Lib.hid (show d.entries.length * 40 ≤ 140737488355328 from hlen)
  have hnI : (d.entries.length : Int) ≤ 140737488355328 := by omega
  clear hd hu hx hx1 hs1 hs2 s1 hlen h
  · go_wp2_with fail
    go_loopw [6, 7] (fun ov kv wr => ∃ (k : Nat) (A : Option Addr) (c : Nat), ov = .slice A k c ∧ kv = .int .i64 k ∧ k ≤ d.entries.length ∧ Ext w1 wr ∧ w1.heap.size + 1 ≤ wr.heap.size ∧ wr.ownsRow (w1.heap.size + 1) 9 1 (.slice A k c) k (((namesL d).take k).flatMap encStr) ∧ Blk_ wr w1.heap.size 25 #[.slice A1 d.blocks.length c1, .slice A2 d.entries.length c2]) (fun _ kv _ => d.entries.length - (intOf kv).toNat)
    case atStart => exact ⟨0, none, 0, rfl, rfl, Nat.zero_le _, (Ext.refl _).alloc _, by rw [World.size_alloc]; exact Nat.le_refl _, World.ownsRow_nil _ _ _ _, Blk_.new _ _ _⟩
    case round =>
      obtain ⟨k, A, c, rfl, rfl, hk, hx, hsz, ho, hb⟩ := hrel
      have HO := Lib.hid ho
      have HX := Lib.hid hx
      clear ho
      have fb := hb.cell 1
      have lb := hb.lt
      simp at fb
      have HB := Lib.hid hb
      clear hb
      by_cases hlt : k < d.entries.length
      · obtain ⟨b2, o2, rfl, g1⟩ := HS.out k hlt
        have q0 := hx.cell (g1 k hlt 0 _ rfl)
        have q1 := hx.cell (g1 k hlt 1 _ rfl)
        have q2 := hx.cell (g1 k hlt 2 _ rfl)
        have q3 := hx.cell (g1 k hlt 3 _ rfl)
        simp only [Nat.add_zero] at q0
        have hst := names_step d k hlt
        obtain ⟨X, hX⟩ : ∃ X, X = d.entries[k] := ⟨_, rfl⟩
        rw [← hX] at q0 q1 q2 q3 hst
        have HST := Lib.hid hst
        have hki : (k : Int) < (d.entries.length : Int) := by omega
        have hkI : (k : Int) ≤ 140737488355328 := by omega
        have HLT := Lib.hid hlt
        clear hst hX g1 hx
        go_wp2_with (at_builtin; refine wpList_push (.tmp 20) (.tmp 27) 43 rfl rfl (w1.heap.size + 1) 9 i1 (.string .empty) 16 Tryd.underlying43 HI1.out.1 HI1.out.2.1 HI1.out.2.2.1 HI1.out.2.2.2 rfl _ k _ rfl (own_ext HO.out ((Ext.refl _).alloc _)) (wr.heap.size) 1 (.string X.name) rfl ?c1 rfl ?c2 ?c3 ?c4 ?_)
        case c1 => first | exact (Blk_.new _ _ _).cell 0 | exact (Blk_.new1 _ _ _ _).cell 0
        case c2 => have := HL.out; have := HLT.out; unfold maxLen; omega
        case c3 => have := HL.out; have := HLT.out; omega
        case c4 => simp only [World.size_alloc]; omega
        intro A7 c7 w7 own7 hg7 _
        have HX7 := Lib.hid ((HX.out.trans ((Ext.refl _).alloc _)).grown hg7 (fun g hgg => by have := (HO.out.lt g hgg).1; omega))
        have HSZ7 := Lib.hid (show w1.heap.size + 1 ≤ w7.heap.size by have := hg7.size; simp only [World.size_alloc] at this; omega)
        have HO7 := Lib.hid own7
        rw [← HST.out] at HO7
        have HB7 := Lib.hid (And.intro True.intro True.intro)
        have HB7 := Lib.hid ((HB.out.ext ((Ext.refl _).alloc _)).grown hg7 (fun g hgg => by have := (HO.out.lt g hgg).1; omega))
        clear own7 hg7 q0 q1 q2 q3
        go_wp2_with fail
        go_roundw
        case rel => exact ⟨k + 1, A7, c7, rfl, by first | rfl | go_num, by have := HLT.out; omega, HX7.out, HSZ7.out, HO7.out, HB7.out⟩
        case measure => have := HLT.out; (simp [intOf]; try omega)
      · obtain rfl : k = d.entries.length := by omega
        have HNL := Lib.hid (show d.entries.length = (namesL d).length by unfold namesL; rw [List.length_map])
        have ho2 := HO.out
        rw [List.take_of_length_le (by rw [← HNL.out]; exact Nat.le_refl _)] at ho2
        have HRD := Lib.hid (show SlR 1 16 RStr wr (.slice A (namesL d).length c) (namesL d) from by
          rw [HNL.out] at ho2
          refine SlR.of_own encStr_ok ho2 (by rw [← HNL.out]; have := HL.out; omega) (fun x hx => ⟨rfl, ?_⟩)
          unfold namesL at hx
          obtain ⟨y, hy, rfl⟩ := List.mem_map.1 hx
          exact (HMEM.out y hy).2.1)
        clear hx ho2
        go_wp2_with fail
        go_ret2
        rw [← HD.out.1, ← HD.out.2]
        refine ⟨A, c, by rw [← HNL.out]; rfl, HX1.out.trans HX.out, HRD.out⟩

set_option maxRecDepth 100000 in
set_option maxHeartbeats 1000000 in
theorem lawArchiveNames_any (cs : List Value) (a : List Dev) (w : World) (h : RArr w cs a) :
    Calls Tryd.prog 6 #[.agg cs.toArray] w fun e w' => e = .returned (.bool true) ∧ Ext w w' := by
  obtain ⟨A, c, rfl⟩ := h.form
  go_enter Tryd.func6, Tryd.ntmps6
  go_wp2_with fail
  refine calls_abs (fun W => Ext w W ∧ Blk_ W w.heap.size 40 #[.slice A a.length c]) ⟨(Ext.refl _).alloc _, Blk_.new _ _ _⟩ ?_
  rintro W ⟨hx, hb⟩
  refine (archNames_any [.slice A a.length c] a W (h.up hx)).mono ?_
  rintro e w1 ⟨A1, c1, rfl, hx1, hr1⟩
  obtain ⟨l, hl⟩ : ∃ l, l = namesL (openS a).1 := ⟨_, rfl⟩
  obtain ⟨u, hu⟩ : ∃ u, u = (openS a).2 := ⟨_, rfl⟩
  rw [← hl] at hr1 ⊢
  rw [← hu]
  have HD := Lib.hid (And.intro hl hu)
  have HR1 := Lib.hid hr1
  have HX1 := Lib.hid (hx.trans hx1)
  have HB1 := Lib.hid (hb.ext hx1)
  have HH := Lib.hid h
  have f0 := HB1.out.cell 0
  have lb := HB1.out.lt
  simp at f0
  clear hl hu hr1 hx1 hx hb h
  go_wp2_with fail
  refine (namesOf_any [.slice A a.length c] a w1 (HH.out.up HX1.out)).mono ?_
  rintro e w2 ⟨B1, e1, rfl, hx2, hr2⟩
  rw [← HD.out.1] at hr2 ⊢
  rw [← HD.out.2]
  have HX2 := Lib.hid (HX1.out.trans hx2)
  have HR2 := Lib.hid hr2
  have HR1' := Lib.hid (HR1.out.ext RStr.stays hx2)
  clear hx2 hr2 f0 lb
  go_wp2_with fail
  refine (sameTexts_true (.slice A1 l.length c1) (.slice B1 l.length e1) l _ HR1'.out HR2.out).mono ?_
  rintro e w3 ⟨rfl, hx3⟩
  have HX3 := Lib.hid (HX2.out.trans hx3)
  clear hx3
  go_wp2_with fail
  go_ret
  exact ⟨rfl, HX3.out⟩
end Go.Proofs.YtokpjgpdkmimgaaDoor
