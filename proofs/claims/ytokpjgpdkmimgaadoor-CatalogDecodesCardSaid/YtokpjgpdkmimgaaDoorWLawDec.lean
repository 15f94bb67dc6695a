/-
  The law: catalog.Decode answers what the document says. Conditions: none.
-/
import Derived.Test.YtokpjgpdkmimgaaDoorWCatOf
namespace Go.Proofs.YtokpjgpdkmimgaaDoor
set_option linter.unusedSimpArgs false
set_option linter.unusedVariables false
open Go.RowKit

set_option maxRecDepth 100000 in
set_option maxHeartbeats 1000000 in
theorem lawCatalogDecodes_any (s : ByteArray) (w : World) (hs : s.size ≤ 140737488355328) :
    Calls Tryd.prog 3 #[.string s] w fun e w' => e = .returned (.bool true) ∧ Ext w w' := by
  go_enter Tryd.func3, Tryd.ntmps3
  go_wp2_with fail
  refine (catDecode_any s w hs).mono ?_
  rintro e w1 ⟨A1, c1, A2, c2, rfl, hx1, hr1⟩
  obtain ⟨d, hd⟩ : ∃ d, d = (decCatS s).1 := ⟨_, rfl⟩
  obtain ⟨u, hu⟩ : ∃ u, u = (decCatS s).2 := ⟨_, rfl⟩
  rw [← hd] at hr1 ⊢
  rw [← hu]
  have HD := Lib.hid (And.intro hd hu)
  have HR1 := Lib.hid hr1
  have HX1 := Lib.hid hx1
  clear hd hu hr1 hx1
  go_wp2_with fail
  refine calls_abs (fun W => Ext w1 W ∧ Blk_ W w1.heap.size 25 #[.slice A1 d.blocks.length c1, .slice A2 d.entries.length c2]) ⟨(Ext.refl _).alloc _, Blk_.new _ _ _⟩ ?_
  rintro W ⟨hx, hb⟩
  refine (catalogOf_any s W hs).mono ?_
  rintro e w2 ⟨B1, e1, B2, e2, rfl, hx2, hr2⟩
  rw [← HD.out.1] at hr2 ⊢
  rw [← HD.out.2]
  have hb2 := hb.ext hx2
  have f0 := hb2.cell 0
  have f1 := hb2.cell 1
  have lb := hb2.lt
  simp at f0 f1
  have HX2 := Lib.hid (HX1.out.trans (hx.trans hx2))
  have HR2 := Lib.hid hr2
  have HR1' := Lib.hid (HR1.out.up (hx.trans hx2))
  clear hx hb hx2 hr2 hb2
  go_wp2_with fail
  refine (sameCatalog_true [.slice A1 d.blocks.length c1, .slice A2 d.entries.length c2] [.slice B1 d.blocks.length e1, .slice B2 d.entries.length e2] d _ (HR1'.out.up ((Ext.refl _).alloc _)) (HR2.out.up ((Ext.refl _).alloc _))).mono ?_
  rintro e w3 ⟨rfl, hx3⟩
  have HX3 := Lib.hid ((HX2.out.trans ((Ext.refl _).alloc _)).trans hx3)
  clear hx3
  go_wp2_with fail
  go_ret
  exact ⟨rfl, HX3.out⟩
end Go.Proofs.YtokpjgpdkmimgaaDoor
