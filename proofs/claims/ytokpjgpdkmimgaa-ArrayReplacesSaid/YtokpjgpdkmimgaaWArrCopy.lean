/-
  The document's ArrayCopy: all devices in new memory; what a law of a function that hands back a changed array asks. Conditions: the argument reads as an array.
-/
import Derived.Test.YtokpjgpdkmimgaaWArr1
import Derived.Test.YtokpjgpdkmimgaaWArrRead
import Derived.Test.YtokpjgpdkmimgaaWDevSet
namespace Go.Proofs.Ytokpjgpdkmimgaa
set_option linter.unusedSimpArgs false
set_option linter.unusedVariables false
open Go.RowKit

set_option maxRecDepth 100000 in
set_option maxHeartbeats 2000000 in
theorem arrayCopy_any (cs : List Value) (a : List Dev) (w : World) (h : RArr w cs a) :
    Calls Try.prog 21 #[.agg cs.toArray] w fun e w' => ∃ A c, e = .returned (.agg #[.slice A a.length c]) ∧ Ext w w' ∧ OArr 54 w' w.heap.size (.slice A a.length c) a := by
  obtain ⟨v, rfl, h1⟩ := h
  obtain ⟨A0, c0, rfl, hb0, hc0, hr⟩ := h1.rowR
  clear h1
  go_enter Try.func21, Try.ntmps21
  go_wp2
  refine wp_abs (fun W => Ext w W ∧ Blk_ W w.heap.size 45 #[.slice A0 a.length c0] ∧ Blk_ W (w.heap.size + 1) 45 #[.slice none 0 0] ∧ Blk_ W (w.heap.size + 1 + 1) 45 #[.slice none 0 0]) ⟨(((Ext.refl _).alloc _).alloc _).alloc _, ((Blk_.new _ _ _).alloc _).alloc _, (Blk_.new1 _ _ _ _).alloc _, Blk_.new2 _ _ _ _ _⟩ ?_
  rintro W ⟨hx, hb1, hb2, hb3⟩
  go_loopw [4] (fun i wr => ∃ (k : Nat) (A : Option Addr) (c : Nat), i = .int .i64 k ∧ k ≤ a.length ∧ Ext w wr ∧ Blk_ wr w.heap.size 45 #[.slice A0 a.length c0] ∧ Blk_ wr (w.heap.size + 1) 45 #[.slice none 0 0] ∧ Blk_ wr (w.heap.size + 1 + 1) 45 #[.slice A k c] ∧ OArr 54 wr (w.heap.size + 3) (.slice A k c) (a.take k)) (fun i _ => a.length - (intOf i).toNat)
  case atStart => exact ⟨0, none, 0, rfl, Nat.zero_le _, hx, hb1, hb2, hb3, OArr.nil _ _ _⟩
  case round =>
    clear hx hb1 hb2 hb3
    obtain ⟨k, A, c, rfl, hk, hx, hb1, hb2, hb3, ho⟩ := hrel
    have f0 := hb1.cell 0
    simp at f0
    by_cases hlt : k < a.length
    · obtain ⟨b, o, rfl, hcell⟩ := hr k hlt
      obtain ⟨cs, hl, hcs, hd⟩ := hcell k hlt
      obtain ⟨A1, c1, A2, c2, rfl⟩ := hd.form
      have p0 := hcs 0 _ rfl
      have p1 := hcs 1 _ rfl
      simp only [Nat.add_zero] at p0
      have q0 := hx.cell p0
      have q1 := hx.cell p1
      have HQ0 := Lib.hid p0
      have HQ1 := Lib.hid p1
      clear p0 p1
      have g0 := hb3.cell 0
      simp at g0
      have hki : (k : Int) < (a.length : Int) := by omega
      clear hcell hcs hl
      have HR := Lib.hid hr
      clear hr
      go_wp2
      refine wp_region_begin (S := fun W' => W'.cell? ⟨w.heap.size + 1 + 1, 0, none⟩ = some (.slice A k c) ∧ W'.cell? ⟨w.heap.size, 0, none⟩ = some (.slice (some ⟨b, o, none⟩) a.length c0) ∧ W'.cell? ⟨b, o + k * 2, none⟩ = some (.slice A1 a[k].sec.length c1) ∧ W'.cell? ⟨b, o + k * 2 + 1, none⟩ = some (.slice A2 a[k].lost.length c2)) (n := 11) (by kernel_rfl) rfl (by kernel_rfl) rfl ?_
      have hS0 : (fun W' => W'.cell? ⟨w.heap.size + 1 + 1, 0, none⟩ = some (.slice A k c) ∧ W'.cell? ⟨w.heap.size, 0, none⟩ = some (.slice (some ⟨b, o, none⟩) a.length c0) ∧ W'.cell? ⟨b, o + k * 2, none⟩ = some (.slice A1 a[k].sec.length c1) ∧ W'.cell? ⟨b, o + k * 2 + 1, none⟩ = some (.slice A2 a[k].lost.length c2)) wr.drew := ⟨g0, f0, q0, q1⟩
      refine wpAnyH_takeL (i := 0) (v := ?_) rfl (by kernel_rfl) (fun _ _ _ h => h) rfl ?_ hS0 ?_
      rotate_left
      · intro w' hS
        try dsimp only at hS
        go_simp
        rfl
      try simp only [Act.put, List.setIfInBounds_toArray, List.set_cons_zero, List.set_cons_succ]
      refine wpAnyH_takeL (i := 1) (v := ?_) rfl (by kernel_rfl) (fun _ _ _ h => h) rfl ?_ hS0 ?_
      rotate_left
      · intro w' hS
        try dsimp only at hS
        go_simp
        rfl
      try simp only [Act.put, List.setIfInBounds_toArray, List.set_cons_zero, List.set_cons_succ]
      refine wpAnyH_takeL (i := 2) (v := ?_) rfl (by kernel_rfl) (fun _ _ _ h => h) rfl ?_ hS0 ?_
      rotate_left
      · intro w' hS
        try dsimp only at hS
        go_simp
        rfl
      try simp only [Act.put, List.setIfInBounds_toArray, List.set_cons_zero, List.set_cons_succ]
      refine wpAnyH_takeL (i := 3) (v := ?_) rfl (by kernel_rfl) (fun _ _ _ h => h) rfl ?_ hS0 ?_
      rotate_left
      · intro w' hS
        try dsimp only at hS
        go_simp
        rfl
      try simp only [Act.put, List.setIfInBounds_toArray, List.set_cons_zero, List.set_cons_succ]
      refine wpAnyH_takeL (i := 4) (v := ?_) rfl (by kernel_rfl) (fun _ _ _ h => h) rfl ?_ hS0 ?_
      rotate_left
      · intro w' hS
        try dsimp only at hS
        go_simp
        rfl
      try simp only [Act.put, List.setIfInBounds_toArray, List.set_cons_zero, List.set_cons_succ]
      refine wpAnyH_takeL (i := 5) (v := ?_) rfl (by kernel_rfl) (fun _ _ _ h => h) rfl ?_ hS0 ?_
      rotate_left
      · intro w' hS
        try dsimp only at hS
        go_simp
        rfl
      try simp only [Act.put, List.setIfInBounds_toArray, List.set_cons_zero, List.set_cons_succ]
      refine wpAnyH_takeL (i := 6) (v := ?_) rfl (by kernel_rfl) (fun _ _ _ h => h) rfl ?_ hS0 ?_
      rotate_left
      · intro w' hS
        try dsimp only at hS
        go_simp
        rfl
      try simp only [Act.put, List.setIfInBounds_toArray, List.set_cons_zero, List.set_cons_succ]
      refine wpAnyH_oneL (i := 7) rfl (by kernel_rfl) rfl (fun K hK => ?_)
      go_wp2_with fail
      refine (deviceCopy_any [.slice A1 a[k].sec.length c1, .slice A2 a[k].lost.length c2] a[k] _ (hd.up (hx.drew))).mono ?_
      rintro e w2 ⟨B1, k1, B2, k2, rfl, hx2, hod⟩
      have e2 : Ext wr w2 := (Ext.refl wr).drew.trans hx2
      refine hK _ _ ⟨e2.cell g0, e2.cell f0, e2.cell q0, e2.cell q1⟩ ?_
      clear hK K
      try simp only [Act.put, List.setIfInBounds_toArray, List.set_cons_zero, List.set_cons_succ]
      refine wpAnyH_oneL (i := 8) rfl (by kernel_rfl) rfl (fun K hK => ?_)
      go_wp2_with fail
      have e3 : Ext wr (w2.alloc (.cells #[.slice B1 a[k].sec.length k1, .slice B2 a[k].lost.length k2] 54)) := e2.alloc _
      have hb5 := Blk_.new w2 54 #[.slice B1 a[k].sec.length k1, .slice B2 a[k].lost.length k2]
      have hx3 : Ext w2 (w2.alloc (.cells #[.slice B1 a[k].sec.length k1, .slice B2 a[k].lost.length k2] 54)) := (Ext.refl _).alloc _
      refine hK _ _ ⟨e3.cell g0, e3.cell f0, e3.cell q0, e3.cell q1⟩ ?_
      clear hK K
      generalize w2.alloc (.cells #[.slice B1 a[k].sec.length k1, .slice B2 a[k].lost.length k2] 54) = w3 at e3 hb5 hx3
      refine wpAnyH_oneL (i := 9) rfl (by kernel_rfl) rfl (fun K hK => ?_)
      have hdn : RDev w3 [.slice B1 a[k].sec.length k1, .slice B2 a[k].lost.length k2] a[k] := hod.dev.up hx3
      obtain ⟨xs0, hown0, _⟩ := ho.pushes
      obtain ⟨xs, hown, hpush⟩ := (ho.ext e3).pushes
      obtain ⟨i0, hi, hz0, hz1, hz2⟩ := info_parts info_dev
      have hlen : (a.take k).length = k := by rw [List.length_take]; omega
      rw [hlen] at hown hpush
      refine wp_append_at _ (.tmp 14) (.tmp 21) 43 rfl (w.heap.size + 3) 54 i0 (.agg #[.slice none 0 0, .slice none 0 0]) 2 48 Try.underlying43 hi hz0 hz1 hz2 rfl (by decide) _ _ xs rfl hown ⟨w2.heap.size, 0, none⟩ 1 1 [.slice B1 a[k].sec.length k1, .slice B2 a[k].lost.length k2] rfl rfl ?_ ?_ ?_ ?_ ?_ ?_
      · intro j u hu
        rw [Addr.add_lit, Nat.zero_add, hb5.cell]
        simpa using hu
      · intro u hu
        simp at hu
        rcases hu with rfl | rfl <;> rfl
      · unfold maxLen; omega
      · omega
      · have := e3.size; have := hb3.lt; omega
      intro A' c' w4 hown' hg' hb'
      have hbase : ∀ g, (Value.slice A k c).ownBlock = some g → w.heap.size + 3 ≤ g := fun g hgg => (hown.lt g hgg).1
      have hnb : w.heap.size + 3 ≤ wr.drew.heap.size := by have := hb3.lt; simp; omega
      have hox : OArr 54 w4 (w.heap.size + 3) (.slice A' (k + 1) c') (a.take k ++ [a[k]]) := hpush w4 _ _ _ _ hown' hg' hb' hdn (fun g hgg => by
        refine hdn.newG hod.new1 hod.new2 ?_
        have := (hown0.lt g hgg).2
        simpa using this) (hod.new1.mono hnb) (hod.new2.mono hnb)
      have hx4 : Ext w w4 := (hx.trans e3).grown hg' (fun g hgg => by have := hbase g hgg; omega)
      have j1 := (hb1.ext e3).grown hg' (fun g hgg => by have := hbase g hgg; omega)
      have j2 := (hb2.ext e3).grown hg' (fun g hgg => by have := hbase g hgg; omega)
      have j3 := (hb3.ext e3).grown hg' (fun g hgg => by have := hbase g hgg; omega)
      have j3c := j3.cell 0
      have j3f := j3.frozen 0
      simp at j3c
      have j1c := j1.cell 0
      simp at j1c
      have j4 : w4.cell? ⟨b, o + k * 2, none⟩ = some (.slice A1 a[k].sec.length c1) := hx4.cell HQ0.out
      have j5 : w4.cell? ⟨b, o + k * 2 + 1, none⟩ = some (.slice A2 a[k].lost.length c2) := hx4.cell HQ1.out
      refine hK _ _ ⟨j3c, j1c, j4, j5⟩ ?_
      clear hK K
      try simp only [Act.put, List.setIfInBounds_toArray, List.set_cons_zero, List.set_cons_succ]
      refine wpAnyH_takeL (i := 10) (v := ?_) rfl (by kernel_rfl) (fun _ _ _ h => h) rfl ?_ ⟨j3c, j1c, j4, j5⟩ ?_
      rotate_left
      · intro w' hS
        try dsimp only at hS
        go_simp
        rfl
      try simp only [Act.put, List.setIfInBounds_toArray, List.set_cons_zero, List.set_cons_succ]
      refine wpAnyH_endL (by kernel_rfl) (fun K hK => ?_)
      go_wp2
      go_roundw
      case rel =>
        refine ⟨k + 1, A', c', by go_num, by omega, hx4.setCell (by dsimp only; omega) _, j1.far (by dsimp only; omega) _, j2.far (by dsimp only; omega) _, ?_, ?_⟩
        · exact j3.set 0 _
        · rw [← List.take_append_getElem hlt]
          exact hox.far (by dsimp only; omega) _
      case measure => simp [intOf]; omega
    · obtain rfl : k = a.length := by omega
      have f0' := hb3.cell 0
      simp at f0'
      have f1 := hb2.cell 0
      have f2 := hb2.frozen 0
      simp at f1
      clear hr
      rw [List.take_length] at ho
      have hb5 := hb2.set 0 (.slice A a.length c)
      have H5 := Lib.hid hb5
      clear hb5
      go_wp2
      refine bodyPost_ret (res_cell rfl rfl H5.out Try.underlying45 rfl (by kernel_rfl)) rfl ?_
      exact ⟨A, c, rfl, hx.setCell (by dsimp only; omega) _, (ho.far (by dsimp only; omega) _).base (by omega)⟩
end Go.Proofs.Ytokpjgpdkmimgaa
