/-
  The document's DeviceCopy: both rows in new memory. device.Lose and DeviceLost: a mark is set in a copy; the law DeviceLoses. Conditions: the argument reads as a device.
-/
import Derived.Test.YtokpjgpdkmimgaaWDevRead
import Derived.Test.YtokpjgpdkmimgaaWCopy
import Derived.Test.YtokpjgpdkmimgaaWSame
import Derived.Test.YtokpjgpdkmimgaaE
import Derived.Test.YtokpjgpdkmimgaaR
namespace Go.Proofs.Ytokpjgpdkmimgaa
set_option linter.unusedSimpArgs false
set_option linter.unusedVariables false
open Go.RowKit

set_option maxRecDepth 100000 in
set_option maxHeartbeats 400000 in
theorem deviceCopy_any (cs : List Value) (d : Dev) (w : World) (h : RDev w cs d) :
    Calls Try.prog 45 #[.agg cs.toArray] w fun e w' => ∃ A1 c1 A2 c2, e = .returned (.agg #[.slice A1 d.sec.length c1, .slice A2 d.lost.length c2]) ∧ Ext w w' ∧
      ODev 9 4 w' w.heap.size (.slice A1 d.sec.length c1) (.slice A2 d.lost.length c2) d := by
  have hdev := h
  obtain ⟨v1, v2, rfl, h1, h2⟩ := h
  have l1 := h1.len
  have l2 := h2.len
  go_enter Try.func45, Try.ntmps45
  go_wp2
  refine wp_abs (fun W => Ext w W ∧ Blk_ W w.heap.size 54 #[v1, v2] ∧ Blk_ W (w.heap.size + 1) 54 #[.slice none 0 0, .slice none 0 0]) ⟨((Ext.refl _).alloc _).alloc _, (Blk_.new _ _ _).alloc _, Blk_.new1 _ _ _ _⟩ ?_
  rintro W ⟨hx, hb1, hb2⟩
  have c1 := hb1.cell 0
  have c2 := hb1.cell 1
  simp at c1 c2
  refine wp_region_begin (S := fun W' => W'.cell? ⟨w.heap.size, 0, none⟩ = some v1 ∧ W'.cell? ⟨w.heap.size, 1, none⟩ = some v2) (n := 7) (by kernel_rfl) rfl (by kernel_rfl) rfl ?_
  have hS0 : (fun W' => W'.cell? ⟨w.heap.size, 0, none⟩ = some v1 ∧ W'.cell? ⟨w.heap.size, 1, none⟩ = some v2) W.drew := ⟨c1, c2⟩
  refine wpAnyH_takeL (i := 0) (v := ?_) rfl (by kernel_rfl) (fun _ _ _ h => h) rfl ?_ hS0 ?_
  rotate_left
  · intro w' hS
    try dsimp only at hS
    go_simp
    rfl
  simp only [Act.put, List.setIfInBounds_toArray, List.set_cons_zero, List.set_cons_succ]
  refine wpAnyH_takeL (i := 1) (v := ?_) rfl (by kernel_rfl) (fun _ _ _ h => h) rfl ?_ hS0 ?_
  rotate_left
  · intro w' hS
    try dsimp only at hS
    go_simp
    rfl
  simp only [Act.put, List.setIfInBounds_toArray, List.set_cons_zero, List.set_cons_succ]
  refine wpAnyH_takeL (i := 3) (v := ?_) rfl (by kernel_rfl) (fun _ _ _ h => h) rfl ?_ hS0 ?_
  rotate_left
  · intro w' hS
    try dsimp only at hS
    go_simp
    rfl
  simp only [Act.put, List.setIfInBounds_toArray, List.set_cons_zero, List.set_cons_succ]
  refine wpAnyH_takeL (i := 4) (v := ?_) rfl (by kernel_rfl) (fun _ _ _ h => h) rfl ?_ hS0 ?_
  rotate_left
  · intro w' hS
    try dsimp only at hS
    go_simp
    rfl
  simp only [Act.put, List.setIfInBounds_toArray, List.set_cons_zero, List.set_cons_succ]
  refine wpAnyH_oneL (i := 2) rfl (by kernel_rfl) rfl (fun K hK => ?_)
  obtain ⟨i2, hi2, za2, zb2, zc2⟩ := info_parts info_str
  refine wp_append_copy _ encStr_ok (by decide) (.const (.slice none 0 0)) (.tmp 4) 51 rfl 9 i2 (.string .empty) Try.underlying51 hi2 za2 zb2 zc2 rfl rfl v1 d.sec rfl (h1.ext RStr.stays hx.drew) (by unfold maxLen; omega) ?_
  intro B2 k2 w2 o2 f2
  have e2 : Ext W w2 := (Ext.refl W).drew.trans f2
  refine hK _ _ ⟨e2.cell c1, e2.cell c2⟩ ?_
  clear hK K
  try simp only [Act.put, List.setIfInBounds_toArray, List.set_cons_zero, List.set_cons_succ]
  refine wpAnyH_oneL (i := 5) rfl (by kernel_rfl) rfl (fun K hK => ?_)
  obtain ⟨i5, hi5, za5, zb5, zc5⟩ := info_parts info_bool
  refine wp_append_copy _ encBool_ok (by decide) (.const (.slice none 0 0)) (.tmp 7) 52 rfl 4 i5 (.bool false) Try.underlying52 hi5 za5 zb5 zc5 rfl rfl v2 d.lost rfl (h2.ext RBool.stays (hx.trans e2)) (by unfold maxLen; omega) ?_
  intro B5 k5 w5 o5 f5
  have e5 : Ext W w5 := e2.trans f5
  refine hK _ _ ⟨e5.cell c1, e5.cell c2⟩ ?_
  clear hK K
  try simp only [Act.put, List.setIfInBounds_toArray, List.set_cons_zero, List.set_cons_succ]
  refine wpAnyH_takeL (i := 6) (v := ?_) rfl (by kernel_rfl) (fun _ _ _ h => h) rfl ?_ ⟨e5.cell c1, e5.cell c2⟩ ?_
  rotate_left
  · intro w' hS
    try dsimp only at hS
    go_simp
    rfl
  simp only [Act.put, List.setIfInBounds_toArray, List.set_cons_zero, List.set_cons_succ]
  refine wpAnyH_endL (by kernel_rfl) (fun K hK => ?_)
  have hW : w.heap.size + 1 < W.heap.size := hb2.lt
  have hb3 := ((hb2.ext e5).set 0 (.slice B2 d.sec.length k2)).set 1 (.slice B5 d.lost.length k5)
  have b0 := (hb2.ext e5).cell 0
  have b1 := (hb2.ext e5).cell 1
  simp at b0 b1
  have z0 := (hb2.ext e5).frozen 0
  have z1 := (hb2.ext e5).frozen 1
  have HB := Lib.hid hb3
  clear hb3
  go_wp2
  refine bodyPost_ret (res_cell rfl rfl HB.out Try.underlying54 rfl (by kernel_rfl)) rfl ?_
  refine ⟨B2, k2, B5, k5, rfl, ((hx.trans e5).setCell (by simp) _).setCell (by simp) _, ?_⟩
  have hod : ODev 9 4 w5 (w.heap.size + 2) (.slice B2 d.sec.length k2) (.slice B5 d.lost.length k5) d := hdev.own (own_base (own_ext o2 f5) (by simp; omega)) (own_base o5 (by have := e2.size; omega))
  exact ((hod.far (by simp) _).far (by simp) _).base (by omega)

def loseS (d : Dev) (n : Int) : Dev := if touchCode d n = 0 then ⟨d.sec, d.lost.set n.toNat true⟩ else ⟨[], []⟩

set_option maxRecDepth 100000 in
set_option maxHeartbeats 400000 in
theorem devLose_any (cs : List Value) (d : Dev) (n : Int) (w : World) (h : RDev w cs d) (hn : I64 n) :
    Calls Try.prog 28 #[.agg cs.toArray, .int .i64 n] w fun e w' => ∃ A1 c1 A2 c2, e = .returned (.tuple #[.agg #[.slice A1 (loseS d n).sec.length c1, .slice A2 (loseS d n).lost.length c2], .int .i64 (touchCode d n)]) ∧ Ext w w' ∧
      ODev 9 4 w' w.heap.size (.slice A1 (loseS d n).sec.length c1) (.slice A2 (loseS d n).lost.length c2) (loseS d n) := by
  obtain ⟨A1, c1, A2, c2, rfl⟩ := h.form
  go_enter Try.func28, Try.ntmps28
  go_wp2_with fail
  refine calls_abs (fun W => Ext w W ∧ Blk_ W w.heap.size 54 #[.slice A1 d.sec.length c1, .slice A2 d.lost.length c2] ∧ Blk_ W (w.heap.size + 1) 54 #[.slice none 0 0, .slice none 0 0]) ⟨((Ext.refl _).alloc _).alloc _, (Blk_.new _ _ _).alloc _, Blk_.new1 _ _ _ _⟩ ?_
  rintro W ⟨hx, hb, hbr⟩
  refine (devAt_any [.slice A1 d.sec.length c1, .slice A2 d.lost.length c2] d n W (h.up hx) hn).mono ?_
  rintro e w1 ⟨rfl, hx1⟩
  have hb1 := hb.ext hx1
  have hbr1 := hbr.ext hx1
  have f0 := hb1.cell 0
  have f1 := hb1.cell 1
  simp at f0 f1
  have hr1 := h.up (hx.trans hx1)
  have hx0 := hx.trans hx1
  clear h hb hbr hx hx1
  by_cases hc : touchCode d n = 0
  · obtain ⟨hm, n0, n1⟩ := touch_zero hc
    obtain ⟨m1, m2, m3, m4⟩ := devMay_len hm
    obtain ⟨k, rfl⟩ := Int.eq_ofNat_of_zero_le n0
    have hk2' : (k : Int) < (d.lost.length : Int) := by omega
    have hf : loseS d k = ⟨d.sec, d.lost.set k true⟩ := by unfold loseS; rw [if_pos hc]; rfl
    have hlp : 0 < d.lost.length := by omega
    have HC := Lib.hid hc
    have HF := Lib.hid hf
    rw [hc]
    clear hc m4 m3 hm hf
    go_wp2_with fail
    refine (devCopy_any [.slice A1 d.sec.length c1, .slice A2 d.lost.length c2] d _ hr1).mono ?_
    rintro e w2 ⟨B1, k1, B2, k2, rfl, hx2, o1, o2⟩
    have hod := hr1.own o1 o2
    have hb2 := hb1.ext hx2
    have hbr2 := hbr1.ext hx2
    obtain ⟨g, rfl, hg1, hg2, hg3⟩ := own_form o2 hlp
    have g0 := hb2.cell 0
    have g1 := hb2.cell 1
    have z0 := hb2.frozen 0
    have z1 := hb2.frozen 1
    have y0 := hbr2.cell 0
    have y1 := hbr2.cell 1
    have x0 := hbr2.frozen 0
    have x1 := hbr2.frozen 1
    simp at g0 g1 y0 y1
    have zk := hg3 k
    have ck := (o2.cellAt k (by omega)).trans (flat_bool_get d.lost k (by omega))
    have hlt := hbr1.lt
    have ne1 : ¬ (w.heap.size = g) := by omega
    have ne2 : ¬ (g = w.heap.size) := by omega
    have ne3 : ¬ (w.heap.size + 1 = g) := by omega
    have ne4 : ¬ (g = w.heap.size + 1) := by omega
    have hgw : w.heap.size ≤ g := by omega
    have HO := Lib.hid hod
    have HX := Lib.hid ((hx0.trans hx2))
    have HB := Lib.hid ((((((hbr2.far (p := ⟨w.heap.size, 0, none⟩) (by simp) (.slice B1 d.sec.length k1)).far (p := ⟨w.heap.size, 1, none⟩) (by simp) (.slice (some ⟨g, 0, none⟩) d.lost.length k2)).far (p := ⟨g, k, none⟩) ne3 (.bool true)).set 0 (.slice B1 d.sec.length k1)).set 1 (.slice (some ⟨g, 0, none⟩) d.lost.length k2)))
    clear hr1 f0 f1 o1 o2 hg3 hod hx0 hx2 hb1 hbr1 hb2 hg1 hg2 n1 hlp
    go_wp2_with fail
    refine bodyPost_ret (res_cell_tmp rfl rfl HB.out Try.underlying54 rfl (by kernel_rfl)) rfl ?_
    rw [HF.out, HC.out]
    refine ⟨B1, k1, some ⟨g, 0, none⟩, k2, ?_, ?_, ?_⟩
    · rw [List.length_set]; rfl
    · exact ((((HX.out.setCell (by simp) _).setCell (by simp) _).setCell (by simp; omega) _).setCell (by simp) _).setCell (by simp) _
    · have := (((((HO.out.far (p := ⟨w.heap.size, 0, none⟩) (by simp; omega) (.slice B1 d.sec.length k1)).far (p := ⟨w.heap.size, 1, none⟩) (by simp; omega) (.slice (some ⟨g, 0, none⟩) d.lost.length k2)).setLost rfl (by decide) k true).far (p := ⟨w.heap.size + 1, 0, none⟩) (by simp; omega) (.slice B1 d.sec.length k1)).far (p := ⟨w.heap.size + 1, 1, none⟩) (by simp; omega) (.slice (some ⟨g, 0, none⟩) d.lost.length k2)).base (base' := w.heap.size) (by omega)
      rw [List.length_set]
      exact this
  · have hf : loseS d n = ⟨[], []⟩ := by unfold loseS; rw [if_neg hc]
    have hc' : (touchCode d n != 0) = true := by simpa using hc
    have HF := Lib.hid hf
    clear hf hc hr1
    have y0 := hbr1.cell 0
    have y1 := hbr1.cell 1
    have x0 := hbr1.frozen 0
    have x1 := hbr1.frozen 1
    simp at y0 y1
    have HB := Lib.hid ((hbr1.set 0 (.slice none 0 0)).set 1 (.slice none 0 0))
    go_wp2_with fail
    refine bodyPost_ret (res_cell_tmp rfl rfl HB.out Try.underlying54 rfl (by kernel_rfl)) rfl ?_
    rw [HF.out]
    refine ⟨none, 0, none, 0, rfl, (hx0.setCell (by simp) _).setCell (by simp) _, ?_⟩
    exact ⟨World.ownsRow_nil _ _ _ _, World.ownsRow_nil _ _ _ _, by simp, by simp, fun s hs => by cases hs⟩
end Go.Proofs.Ytokpjgpdkmimgaa
