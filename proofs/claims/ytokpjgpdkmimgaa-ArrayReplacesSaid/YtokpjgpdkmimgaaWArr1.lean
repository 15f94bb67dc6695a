/-
  array.Copy: all devices in new memory. sameArray answers true at what reads alike; the law ArrayCopies. Conditions: the arguments read as arrays.
-/
import Derived.Test.YtokpjgpdkmimgaaWCopy
import Derived.Test.YtokpjgpdkmimgaaWSame
import Derived.Test.YtokpjgpdkmimgaaA
import Derived.Test.YtokpjgpdkmimgaaR
namespace Go.Proofs.Ytokpjgpdkmimgaa
set_option linter.unusedSimpArgs false
set_option linter.unusedVariables false
open Go.RowKit

theorem info_dev : (Try.prog.info? 54).map (fun i => (i.zero, i.size, i.bytes)) = some (some (.agg #[.slice none 0 0, .slice none 0 0]), 2, 48) := by kernel_rfl
set_option maxRecDepth 100000 in
set_option maxHeartbeats 1000000 in
theorem arrCopy_any (cs : List Value) (a : List Dev) (w : World) (h : RArr w cs a) :
    Calls Try.prog 47 #[.agg cs.toArray] w fun e w' => ∃ A c, e = .returned (.agg #[.slice A a.length c]) ∧ Ext w w' ∧ OArr 54 w' w.heap.size (.slice A a.length c) a := by
  obtain ⟨v, rfl, h1⟩ := h
  obtain ⟨A0, c0, rfl, hb0, hc0, hr⟩ := h1.rowR
  clear h1
  go_enter Try.func47, Try.ntmps47
  go_wp2
  refine wp_abs (fun W => Ext w W ∧ Blk_ W w.heap.size 45 #[.slice A0 a.length c0] ∧ Blk_ W (w.heap.size + 1) 45 #[.slice none 0 0] ∧ Blk_ W (w.heap.size + 1 + 1) 45 #[.slice none 0 0]) ⟨(((Ext.refl _).alloc _).alloc _).alloc _, ((Blk_.new _ _ _).alloc _).alloc _, (Blk_.new1 _ _ _ _).alloc _, Blk_.new2 _ _ _ _ _⟩ ?_
  rintro W ⟨hx, hb1, hb2, hb3⟩
  go_loopw [10] (fun i wr => ∃ (k : Nat) (A : Option Addr) (c : Nat), i = .int .i64 k ∧ k ≤ a.length ∧ Ext w wr ∧ Blk_ wr w.heap.size 45 #[.slice A0 a.length c0] ∧ Blk_ wr (w.heap.size + 1) 45 #[.slice none 0 0] ∧ Blk_ wr (w.heap.size + 1 + 1) 45 #[.slice A k c] ∧ OArr 54 wr (w.heap.size + 3) (.slice A k c) (a.take k)) (fun i _ => a.length - (intOf i).toNat)
  case atStart => exact ⟨0, none, 0, rfl, Nat.zero_le _, hx, hb1, hb2, hb3, OArr.nil _ _ _⟩
  case round =>
    clear hx hb1 hb2 hb3
    obtain ⟨k, A, c, rfl, hk, hx, hb1, hb2, hb3, ho⟩ := hrel
    by_cases hlt : k < a.length
    · obtain ⟨b, o, rfl, hcell⟩ := hr k hlt
      obtain ⟨cs, hl, hcs, hd⟩ := hcell k hlt
      obtain ⟨A1, c1, A2, c2, rfl⟩ := hd.form
      have q0 := hx.cell (hcs 0 _ rfl)
      have q1 := hx.cell (hcs 1 _ rfl)
      simp only [Nat.add_zero] at q0
      have f0 := hb1.cell 0
      simp at f0
      clear hcell hcs hl
      have HR := Lib.hid hr
      clear hr
      go_wp2
      refine wp_abs (fun W => Ext wr W ∧ Blk_ W wr.heap.size 54 #[.slice A1 a[k].sec.length c1, .slice A2 a[k].lost.length c2]) ⟨(Ext.refl _).alloc _, Blk_.new _ _ _⟩ ?_
      rintro W1 ⟨hx1, hb4⟩
      have g0 := (hb3.ext hx1).cell 0
      have g1 := hb4.cell 0
      have g2 := hb4.cell 1
      simp at g0 g1 g2
      refine wp_region_begin (S := fun W' => W'.cell? ⟨w.heap.size + 1 + 1, 0, none⟩ = some (.slice A k c) ∧ W'.cell? ⟨wr.heap.size, 0, none⟩ = some (.slice A1 a[k].sec.length c1) ∧ W'.cell? ⟨wr.heap.size, 1, none⟩ = some (.slice A2 a[k].lost.length c2)) (n := 7) (by kernel_rfl) rfl (by kernel_rfl) rfl ?_
      have hS0 : (fun W' => W'.cell? ⟨w.heap.size + 1 + 1, 0, none⟩ = some (.slice A k c) ∧ W'.cell? ⟨wr.heap.size, 0, none⟩ = some (.slice A1 a[k].sec.length c1) ∧ W'.cell? ⟨wr.heap.size, 1, none⟩ = some (.slice A2 a[k].lost.length c2)) W1.drew := ⟨g0, g1, g2⟩
      refine wpAnyH_takeL (i := 0) (v := ?_) rfl (by kernel_rfl) (fun _ _ _ h => h) rfl ?_ hS0 ?_
      rotate_left
      · intro w' hS
        try dsimp only at hS
        go_simp
        rfl
      simp only [Act.put, List.setIfInBounds_toArray, List.set_cons_zero, List.set_cons_succ]
      refine wpAnyH_takeL (i := 1) (v := ?_) rfl (by kernel_rfl) (fun _ _ _ h => h) rfl ?_ hS0 ?_
      rotate_left
      · intro w' hS
        try dsimp only at hS
        go_simp
        rfl
      simp only [Act.put, List.setIfInBounds_toArray, List.set_cons_zero, List.set_cons_succ]
      refine wpAnyH_takeL (i := 2) (v := ?_) rfl (by kernel_rfl) (fun _ _ _ h => h) rfl ?_ hS0 ?_
      rotate_left
      · intro w' hS
        try dsimp only at hS
        go_simp
        rfl
      simp only [Act.put, List.setIfInBounds_toArray, List.set_cons_zero, List.set_cons_succ]
      refine wpAnyH_oneL (i := 3) rfl (by kernel_rfl) rfl (fun K hK => ?_)
      go_wp2_with fail
      refine (devCopy_any [.slice A1 a[k].sec.length c1, .slice A2 a[k].lost.length c2] a[k] _ (hd.up ((hx.trans hx1).drew))).mono ?_
      rintro e w2 ⟨B1, k1, B2, k2, rfl, hx2, o1, o2⟩
      have e2 : Ext W1 w2 := (Ext.refl W1).drew.trans hx2
      refine hK _ _ ⟨e2.cell g0, e2.cell g1, e2.cell g2⟩ ?_
      clear hK K
      try simp only [Act.put, List.setIfInBounds_toArray, List.set_cons_zero, List.set_cons_succ]
      refine wpAnyH_oneL (i := 4) rfl (by kernel_rfl) rfl (fun K hK => ?_)
      go_wp2_with fail
      have e3 : Ext W1 (w2.alloc (.cells #[.slice B1 a[k].sec.length k1, .slice B2 a[k].lost.length k2] 54)) := e2.alloc _
      have hb5 := Blk_.new w2 54 #[.slice B1 a[k].sec.length k1, .slice B2 a[k].lost.length k2]
      have hx3 : Ext w2 (w2.alloc (.cells #[.slice B1 a[k].sec.length k1, .slice B2 a[k].lost.length k2] 54)) := (Ext.refl _).alloc _
      refine hK _ _ ⟨e3.cell g0, e3.cell g1, e3.cell g2⟩ ?_
      clear hK K
      generalize w2.alloc (.cells #[.slice B1 a[k].sec.length k1, .slice B2 a[k].lost.length k2] 54) = w3 at e3 hb5 hx3
      refine wpAnyH_oneL (i := 5) rfl (by kernel_rfl) rfl (fun K hK => ?_)
      have hdn : RDev w3 [.slice B1 a[k].sec.length k1, .slice B2 a[k].lost.length k2] a[k] := (hd.again o1 o2).up hx3
      obtain ⟨xs0, hown0, _⟩ := ho.pushes
      obtain ⟨xs, hown, hpush⟩ := (ho.ext (hx1.trans e3)).pushes
      obtain ⟨i0, hi, hz0, hz1, hz2⟩ := info_parts info_dev
      have hlen : (a.take k).length = k := by rw [List.length_take]; omega
      rw [hlen] at hown hpush
      refine wp_append_at _ (.tmp 15) (.tmp 18) 43 rfl (w.heap.size + 3) 54 i0 (.agg #[.slice none 0 0, .slice none 0 0]) 2 48 Try.underlying43 hi hz0 hz1 hz2 rfl (by decide) _ _ xs rfl hown ⟨w2.heap.size, 0, none⟩ 1 1 [.slice B1 a[k].sec.length k1, .slice B2 a[k].lost.length k2] rfl rfl ?_ ?_ ?_ ?_ ?_ ?_
      · intro j u hu
        rw [Addr.add_lit, Nat.zero_add, hb5.cell]
        simpa using hu
      · intro u hu
        simp at hu
        rcases hu with rfl | rfl <;> rfl
      · unfold maxLen; omega
      · omega
      · have := e3.size; have := hx1.size; have := hb3.lt; omega
      intro A' c' w4 hown' hg' hb'
      have hbase : ∀ g, (Value.slice A k c).ownBlock = some g → w.heap.size + 3 ≤ g := fun g hgg => (hown.lt g hgg).1
      have hnb : w.heap.size + 3 ≤ W1.drew.heap.size := by have := hx1.size; have := hb3.lt; simp; omega
      have hox : OArr 54 w4 (w.heap.size + 3) (.slice A' (k + 1) c') (a.take k ++ [a[k]]) := hpush w4 _ _ _ _ hown' hg' hb' hdn (fun g hgg => by
        refine hdn.newG (New.own o1) (New.own o2) ?_
        have := (hown0.lt g hgg).2
        have := hx1.size
        simp; omega) ((New.own o1).mono hnb) ((New.own o2).mono hnb)
      have hx4 : Ext w w4 := ((hx.trans hx1).trans e3).grown hg' (fun g hgg => by have := hbase g hgg; omega)
      have j1 := (hb1.ext (hx1.trans e3)).grown hg' (fun g hgg => by have := hbase g hgg; omega)
      have j2 := (hb2.ext (hx1.trans e3)).grown hg' (fun g hgg => by have := hbase g hgg; omega)
      have j3 := (hb3.ext (hx1.trans e3)).grown hg' (fun g hgg => by have := hbase g hgg; omega)
      have j3c := j3.cell 0
      have j3f := j3.frozen 0
      simp at j3c
      have j4 := (hb4.ext e3).grown hg' (fun g hgg => by have := (hown0.lt g hgg).2; omega)
      have j40 := j4.cell 0
      have j41 := j4.cell 1
      simp at j40 j41
      refine hK _ _ ⟨j3c, j40, j41⟩ ?_
      clear hK K
      try simp only [Act.put, List.setIfInBounds_toArray, List.set_cons_zero, List.set_cons_succ]
      refine wpAnyH_takeL (i := 6) (v := ?_) rfl (by kernel_rfl) (fun _ _ _ h => h) rfl ?_ ⟨j3c, j40, j41⟩ ?_
      rotate_left
      · intro w' hS
        try dsimp only at hS
        go_simp
        rfl
      simp only [Act.put, List.setIfInBounds_toArray, List.set_cons_zero, List.set_cons_succ]
      refine wpAnyH_endL (by kernel_rfl) (fun K hK => ?_)
      go_wp2
      go_roundw
      case rel =>
        refine ⟨k + 1, A', c', by go_num, by omega, hx4.setCell (by dsimp only; omega) _, j1.far (by dsimp only; omega) _, j2.far (by dsimp only; omega) _, ?_, ?_⟩
        · exact j3.set 0 _
        · rw [← List.take_append_getElem hlt]
          exact hox.far (by dsimp only; omega) _
      case measure => simp [intOf]; omega
    · obtain rfl : k = a.length := by omega
      have f0 := hb3.cell 0
      simp at f0
      have f1 := hb2.cell 0
      have f2 := hb2.frozen 0
      simp at f1
      clear hr
      rw [List.take_length] at ho
      have hb5 := hb2.set 0 (.slice A a.length c)
      have H5 := Lib.hid hb5
      clear hb5
      go_wp2
      refine bodyPost_ret (res_cell rfl rfl H5.out Try.underlying45 rfl (by kernel_rfl)) rfl ?_
      exact ⟨A, c, rfl, hx.setCell (by dsimp only; omega) _, (ho.far (by dsimp only; omega) _).base (by omega)⟩

set_option maxRecDepth 100000 in
set_option maxHeartbeats 1000000 in
theorem sameArray_true (cs1 cs2 : List Value) (a : List Dev) (w : World) (h1 : RArr w cs1 a) (h2 : RArr w cs2 a) :
    Calls Try.prog 24 #[.agg cs1.toArray, .agg cs2.toArray] w fun e w' => e = .returned (.bool true) ∧ Ext w w' := by
  obtain ⟨v1, rfl, h1⟩ := h1
  obtain ⟨v2, rfl, h2⟩ := h2
  obtain ⟨A1, c1, rfl, l1, hc1, p1⟩ := h1.rowR
  obtain ⟨A2, c2, rfl, l2, hc2, p2⟩ := h2.rowR
  clear h1 h2
  go_enter Try.func24, Try.ntmps24
  go_wp2
  refine wp_abs (fun W => Ext w W ∧ Blk_ W w.heap.size 45 #[.slice A1 a.length c1] ∧ Blk_ W (w.heap.size + 1) 45 #[.slice A2 a.length c2]) ⟨((Ext.refl _).alloc _).alloc _, (Blk_.new _ _ _).alloc _, Blk_.new1 _ _ _ _⟩ ?_
  rintro W ⟨hx, hb1, hb2⟩
  go_loopw [5] (fun i wr => ∃ k : Nat, i = .int .i64 k ∧ k ≤ a.length ∧ Ext w wr ∧ Blk_ wr w.heap.size 45 #[.slice A1 a.length c1] ∧ Blk_ wr (w.heap.size + 1) 45 #[.slice A2 a.length c2]) (fun i _ => a.length - (intOf i).toNat)
  case atStart => exact ⟨0, rfl, Nat.zero_le _, hx, hb1, hb2⟩
  case round =>
    clear hx hb1 hb2
    obtain ⟨k, rfl, hk, hx, hb1, hb2⟩ := hrel
    have f0 := hb1.cell 0
    have f1 := hb2.cell 0
    simp at f0 f1
    by_cases hlt : k < a.length
    · obtain ⟨b1, o1, rfl, g1⟩ := p1 k hlt
      obtain ⟨b2, o2, rfl, g2⟩ := p2 k hlt
      obtain ⟨cs1, n1, q1, d1⟩ := g1 k hlt
      obtain ⟨cs2, n2, q2, d2⟩ := g2 k hlt
      obtain ⟨B1, k1, B2, k2, rfl⟩ := d1.form
      obtain ⟨B3, k3, B4, k4, rfl⟩ := d2.form
      have r0 := hx.cell (q1 0 _ rfl)
      have r1 := hx.cell (q1 1 _ rfl)
      have r2 := hx.cell (q2 0 _ rfl)
      have r3 := hx.cell (q2 1 _ rfl)
      simp only [Nat.add_zero] at r0 r2
      clear g1 g2 q1 q2 n1 n2
      have HP1 := Lib.hid p1
      have HP2 := Lib.hid p2
      clear p1 p2
      go_wp2
      go_region_held3 (fun W' => W'.cell? ⟨w.heap.size, 0, none⟩ = some (.slice (some ⟨b1, o1, none⟩) a.length c1) ∧ W'.cell? ⟨w.heap.size + 1, 0, none⟩ = some (.slice (some ⟨b2, o2, none⟩) a.length c2) ∧ W'.cell? ⟨b1, o1 + k * 2, none⟩ = some (.slice B1 a[k].sec.length k1) ∧ W'.cell? ⟨b1, o1 + k * 2 + 1, none⟩ = some (.slice B2 a[k].lost.length k2) ∧ W'.cell? ⟨b2, o2 + k * 2, none⟩ = some (.slice B3 a[k].sec.length k3) ∧ W'.cell? ⟨b2, o2 + k * 2 + 1, none⟩ = some (.slice B4 a[k].lost.length k4))
        (first | exact ⟨f0, f1, r0, r1, r2, r3⟩ | exact ⟨e1.cell f0, e1.cell f1, e1.cell r0, e1.cell r1, e1.cell r2, e1.cell r3⟩ | go_keep)
        (first | (go_at_call 52; refine (sameDevice_true [.slice B1 a[k].sec.length k1, .slice B2 a[k].lost.length k2] [.slice B3 a[k].sec.length k3, .slice B4 a[k].lost.length k4] a[k] _ (d1.up hx.drew) (d2.up hx.drew)).mono ?_; rintro _ w1 ⟨rfl, f1'⟩; have e1 : Ext wr w1 := (Ext.drew (Ext.refl wr)).trans f1'))
      go_wp2
      go_roundw
      case rel => exact ⟨k + 1, by go_num, by omega, hx.trans e1, hb1.ext e1, hb2.ext e1⟩
      case measure => simp [intOf]; omega
    · go_wp2
      go_ret
      exact ⟨rfl, hx⟩

end Go.Proofs.Ytokpjgpdkmimgaa
