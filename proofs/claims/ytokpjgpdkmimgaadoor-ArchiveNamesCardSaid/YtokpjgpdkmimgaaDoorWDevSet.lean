/-
  The document's DeviceCopy: both rows in new memory. device.Lose and DeviceLost: a mark is set in a copy; the law DeviceLoses. Conditions: the argument reads as a device.
-/
import Derived.Test.YtokpjgpdkmimgaaDoorWDevRead
import Derived.Test.YtokpjgpdkmimgaaDoorWCopy
import Derived.Test.YtokpjgpdkmimgaaDoorWSame
import Derived.Test.YtokpjgpdkmimgaaDoorE
import Derived.Test.YtokpjgpdkmimgaaDoorR
namespace Go.Proofs.YtokpjgpdkmimgaaDoor
set_option linter.unusedSimpArgs false
set_option linter.unusedVariables false
open Go.RowKit

def loseS (d : Dev) (n : Int) : Dev := if touchCode d n = 0 then ⟨d.sec, d.lost.set n.toNat true⟩ else ⟨[], []⟩

set_option maxRecDepth 100000 in
set_option maxHeartbeats 400000 in
theorem devLose_any (cs : List Value) (d : Dev) (n : Int) (w : World) (h : RDev w cs d) (hn : I64 n) :
    Calls Tryd.prog 76 #[.agg cs.toArray, .int .i64 n] w fun e w' => ∃ A1 c1 A2 c2, e = .returned (.tuple #[.agg #[.slice A1 (loseS d n).sec.length c1, .slice A2 (loseS d n).lost.length c2], .int .i64 (touchCode d n)]) ∧ Ext w w' ∧
      ODev 9 4 w' w.heap.size (.slice A1 (loseS d n).sec.length c1) (.slice A2 (loseS d n).lost.length c2) (loseS d n) := by
  obtain ⟨A1, c1, A2, c2, rfl⟩ := h.form
  go_enter Tryd.func76, Tryd.ntmps76
  go_wp2_with fail
  refine calls_abs (fun W => Ext w W ∧ Blk_ W w.heap.size 117 #[.slice A1 d.sec.length c1, .slice A2 d.lost.length c2] ∧ Blk_ W (w.heap.size + 1) 117 #[.slice none 0 0, .slice none 0 0]) ⟨((Ext.refl _).alloc _).alloc _, (Blk_.new _ _ _).alloc _, Blk_.new1 _ _ _ _⟩ ?_
  rintro W ⟨hx, hb, hbr⟩
  refine (devAt_any [.slice A1 d.sec.length c1, .slice A2 d.lost.length c2] d n W (h.up hx) hn).mono ?_
  rintro e w1 ⟨rfl, hx1⟩
  have hb1 := hb.ext hx1
  have hbr1 := hbr.ext hx1
  have f0 := hb1.cell 0
  have f1 := hb1.cell 1
  simp at f0 f1
  have hr1 := h.up (hx.trans hx1)
  have hx0 := hx.trans hx1
  clear h hb hbr hx hx1
  by_cases hc : touchCode d n = 0
  · obtain ⟨hm, n0, n1⟩ := touch_zero hc
    obtain ⟨m1, m2, m3, m4⟩ := devMay_len hm
    obtain ⟨k, rfl⟩ := Int.eq_ofNat_of_zero_le n0
    have hk2' : (k : Int) < (d.lost.length : Int) := by omega
    have hf : loseS d k = ⟨d.sec, d.lost.set k true⟩ := by unfold loseS; rw [if_pos hc]; rfl
    have hlp : 0 < d.lost.length := by omega
    have HC := Lib.hid hc
    have HF := Lib.hid hf
    rw [hc]
    clear hc m4 m3 hm hf
    go_wp2_with fail
    refine (devCopy_any [.slice A1 d.sec.length c1, .slice A2 d.lost.length c2] d _ hr1).mono ?_
    rintro e w2 ⟨B1, k1, B2, k2, rfl, hx2, o1, o2⟩
    have hod := hr1.own o1 o2
    have hb2 := hb1.ext hx2
    have hbr2 := hbr1.ext hx2
    obtain ⟨g, rfl, hg1, hg2, hg3⟩ := own_form o2 hlp
    have g0 := hb2.cell 0
    have g1 := hb2.cell 1
    have z0 := hb2.frozen 0
    have z1 := hb2.frozen 1
    have y0 := hbr2.cell 0
    have y1 := hbr2.cell 1
    have x0 := hbr2.frozen 0
    have x1 := hbr2.frozen 1
    simp at g0 g1 y0 y1
    have zk := hg3 k
    have ck := (o2.cellAt k (by omega)).trans (flat_bool_get d.lost k (by omega))
    have hlt := hbr1.lt
    have ne1 : ¬ (w.heap.size = g) := by omega
    have ne2 : ¬ (g = w.heap.size) := by omega
    have ne3 : ¬ (w.heap.size + 1 = g) := by omega
    have ne4 : ¬ (g = w.heap.size + 1) := by omega
    have hgw : w.heap.size ≤ g := by omega
    have HO := Lib.hid hod
    have HX := Lib.hid ((hx0.trans hx2))
    have HB := Lib.hid ((((((hbr2.far (p := ⟨w.heap.size, 0, none⟩) (by simp) (.slice B1 d.sec.length k1)).far (p := ⟨w.heap.size, 1, none⟩) (by simp) (.slice (some ⟨g, 0, none⟩) d.lost.length k2)).far (p := ⟨g, k, none⟩) ne3 (.bool true)).set 0 (.slice B1 d.sec.length k1)).set 1 (.slice (some ⟨g, 0, none⟩) d.lost.length k2)))
    clear hr1 f0 f1 o1 o2 hg3 hod hx0 hx2 hb1 hbr1 hb2 hg1 hg2 n1 hlp
    go_wp2_with fail
    refine bodyPost_ret (res_cell_tmp rfl rfl HB.out Tryd.underlying117 rfl (by kernel_rfl)) rfl ?_
    rw [HF.out, HC.out]
    refine ⟨B1, k1, some ⟨g, 0, none⟩, k2, ?_, ?_, ?_⟩
    · rw [List.length_set]; rfl
    · exact ((((HX.out.setCell (by simp) _).setCell (by simp) _).setCell (by simp; omega) _).setCell (by simp) _).setCell (by simp) _
    · have := (((((HO.out.far (p := ⟨w.heap.size, 0, none⟩) (by simp; omega) (.slice B1 d.sec.length k1)).far (p := ⟨w.heap.size, 1, none⟩) (by simp; omega) (.slice (some ⟨g, 0, none⟩) d.lost.length k2)).setLost rfl (by decide) k true).far (p := ⟨w.heap.size + 1, 0, none⟩) (by simp; omega) (.slice B1 d.sec.length k1)).far (p := ⟨w.heap.size + 1, 1, none⟩) (by simp; omega) (.slice (some ⟨g, 0, none⟩) d.lost.length k2)).base (base' := w.heap.size) (by omega)
      rw [List.length_set]
      exact this
  · have hf : loseS d n = ⟨[], []⟩ := by unfold loseS; rw [if_neg hc]
    have hc' : (touchCode d n != 0) = true := by simpa using hc
    have HF := Lib.hid hf
    clear hf hc hr1
    have y0 := hbr1.cell 0
    have y1 := hbr1.cell 1
    have x0 := hbr1.frozen 0
    have x1 := hbr1.frozen 1
    simp at y0 y1
    have HB := Lib.hid ((hbr1.set 0 (.slice none 0 0)).set 1 (.slice none 0 0))
    go_wp2_with fail
    refine bodyPost_ret (res_cell_tmp rfl rfl HB.out Tryd.underlying117 rfl (by kernel_rfl)) rfl ?_
    rw [HF.out]
    refine ⟨none, 0, none, 0, rfl, (hx0.setCell (by simp) _).setCell (by simp) _, ?_⟩
    exact ⟨World.ownsRow_nil _ _ _ _, World.ownsRow_nil _ _ _ _, by simp, by simp, fun s hs => by cases hs⟩
end Go.Proofs.YtokpjgpdkmimgaaDoor
