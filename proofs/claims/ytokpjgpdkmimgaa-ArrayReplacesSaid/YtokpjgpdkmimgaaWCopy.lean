/-
  device.Copy and catalog.Copy: both lists in new memory. Conditions: the argument reads as such a struct.
-/
import Derived.Test.YtokpjgpdkmimgaaWClone
namespace Go.Proofs.Ytokpjgpdkmimgaa
open Go.RowKit

set_option maxRecDepth 100000 in
set_option maxHeartbeats 400000 in
theorem devCopy_any (cs : List Value) (d : Dev) (w : World) (h : RDev w cs d) :
    Calls Try.prog 55 #[.agg cs.toArray] w fun e w' => ∃ A1 c1 A2 c2, e = .returned (.agg #[.slice A1 d.sec.length c1, .slice A2 d.lost.length c2]) ∧ Ext w w' ∧
      w'.ownsRow w.heap.size 9 1 (.slice A1 d.sec.length c1) d.sec.length (d.sec.flatMap encStr) ∧ w'.ownsRow w.heap.size 4 1 (.slice A2 d.lost.length c2) d.lost.length (d.lost.flatMap encBool) := by
  obtain ⟨v1, v2, rfl, h1, h2⟩ := h
  go_enter Try.func55, Try.ntmps55
  go_wp2
  refine wp_abs (fun W => Ext w W ∧ Blk_ W w.heap.size 54 #[v1, v2] ∧ Blk_ W (w.heap.size + 1) 54 #[.slice none 0 0, .slice none 0 0]) ⟨((Ext.refl _).alloc _).alloc _, (Blk_.new _ _ _).alloc _, Blk_.new1 _ _ _ _⟩ ?_
  rintro W ⟨hx, hb1, hb2⟩
  have c1 := hb1.cell 0
  have c2 := hb1.cell 1
  simp at c1 c2
  go_region_held3 (fun W' => W'.cell? ⟨w.heap.size, 0, none⟩ = some v1 ∧ W'.cell? ⟨w.heap.size, 1, none⟩ = some v2)
    (first | exact ⟨c1, c2⟩ | exact ⟨e1.cell c1, e1.cell c2⟩ | exact ⟨e2.cell c1, e2.cell c2⟩ | go_keep)
    (first | (go_at_call 70; refine (clone_str _ _ d.sec (h1.ext RStr.stays hx.drew)).mono ?_; rintro _ w1 ⟨A1, k1, rfl, f1, o1⟩; have e1 : Ext W w1 := (Ext.drew (Ext.refl W)).trans f1) | (go_at_call 71; refine (clone_bool _ _ d.lost (h2.ext RBool.stays (hx.trans e1))).mono ?_; rintro _ w2 ⟨A2, k2, rfl, f2, o2⟩; have e2 := e1.trans f2; have b0 := (hb2.ext e2).cell 0; have b1 := (hb2.ext e2).cell 1; simp at b0 b1; have z0 := (hb2.ext e2).frozen 0; have z1 := (hb2.ext e2).frozen 1))
  have hW : w.heap.size + 1 < W.heap.size := hb2.lt
  have hb3 := ((hb2.ext e2).set 0 (.slice A1 d.sec.length k1)).set 1 (.slice A2 d.lost.length k2)
  have HB := Lib.hid hb3
  clear hb3
  go_wp2
  refine bodyPost_ret (res_cell rfl rfl HB.out Try.underlying54 rfl (by kernel_rfl)) rfl ?_
  refine ⟨A1, k1, A2, k2, rfl, ((hx.trans e2).setCell (by simp) _).setCell (by simp) _, ?_, ?_⟩
  · exact own_base (ownsRow_setCell_below (ownsRow_setCell_below (own_ext o1 f2) (by simpa using hW) _) (by simpa using hW) _) (by simpa using hx.size)
  · have := e1.size
    exact own_base (ownsRow_setCell_below (ownsRow_setCell_below o2 (by simp; omega) _) (by simp; omega) _) (by have := hx.size; omega)

end Go.Proofs.Ytokpjgpdkmimgaa
