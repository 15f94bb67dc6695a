/-
  The law CatalogCopies: the copy reads as the catalog does. Conditions: the argument reads as a catalog.
-/
import Derived.Test.YtdogkekeccbpnaaWCopy
import Derived.Test.YtdogkekeccbpnaaWSame
namespace Go.Proofs.Ytdogkekeccbpnaa
set_option linter.unusedSimpArgs false
set_option linter.unusedVariables false
open Go.RowKit

set_option maxRecDepth 100000 in
set_option maxHeartbeats 400000 in
theorem lawCatalogCopies_any (cs : List Value) (d : Cat) (w : World) (h : RCat w cs d) :
    Calls Try.prog 7 #[.agg cs.toArray] w fun e w' => e = .returned (.bool true) ∧ Ext w w' := by
  have h' := h
  obtain ⟨v1, v2, rfl, _, _⟩ := h'
  go_enter Try.func7, Try.ntmps7
  go_wp2_with fail
  refine calls_abs (fun W => Ext w W ∧ Blk_ W w.heap.size 41 #[v1, v2]) ⟨(Ext.refl _).alloc _, Blk_.new _ _ _⟩ ?_
  rintro W ⟨hx, hb⟩
  refine (catCopy_any [v1, v2] d W (h.up hx)).mono ?_
  rintro e w1 ⟨A1, c1, A2, c2, rfl, hx1, o1, o2⟩
  have hb1 := hb.ext hx1
  have f0 := hb1.cell 0
  have f1 := hb1.cell 1
  simp at f0 f1
  have hr := h.again o1 o2
  have hlt := hb1.lt
  go_wp2_with fail
  refine calls_abs (fun W => Ext w1 W) ((Ext.refl _).alloc _) ?_
  rintro W2 hx2
  refine (sameCatalog_true [.slice A1 d.blocks.length c1, .slice A2 d.entries.length c2] [v1, v2] d W2 (hr.up hx2) (h.up ((hx.trans hx1).trans hx2))).mono ?_
  rintro e w3 ⟨rfl, hx3⟩
  go_wp2_with fail
  go_ret
  exact ⟨rfl, ((hx.trans hx1).trans hx2).trans hx3⟩
end Go.Proofs.Ytdogkekeccbpnaa
