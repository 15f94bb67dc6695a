/-
  More words for regions that draw their order: one of two operations comes up; a short row of bytes as a text. Conditions: none.
-/
import Derived.Test.YtokpjgpdkmimgaaK
import Derived.Test.YtokpjgpdkmimgaaR
namespace Go.Proofs.Ytokpjgpdkmimgaa
set_option linter.unusedSimpArgs false
set_option linter.unusedVariables false
open Go.RowKit

theorem Blk_.drew {w : World} {g : Nat} {t : TypeId} {cs : Array Value} (h : Blk_ w g t cs) : Blk_ w.drew g t cs := h
theorem anyH_abs {P : Program} {md : Region.Mode} {ops : Array Oper} {Q : Exit → Act → World → Prop} {S : World → Prop} {fuel : Nat} {listed : Array Bool} {a : Act} {w : World} (p : World → Prop) (hp : p w)
    (h : ∀ W, p W → wpAnyH P md ops Q S fuel listed a W) : wpAnyH P md ops Q S fuel listed a w := h w hp
section
variable {P : Program} {Q : Exit → Act → World → Prop}
/-- One of two operations comes up next. -/
theorem wpAnyH_twoL {L tl tl' : List Oper} {S : World → Prop} {i j : Nat} {x y : Oper} {fuel : Nat} {listed : Array Bool} {a : Act} {w : World} (hi : L.drop i = x :: tl) (hj : L.drop j = y :: tl')
    (hr : Region.ready .any L.toArray listed = [i, j]) (hw : Region.wanted x (yielded L.toArray a.tmps) = true) (hw' : Region.wanted y (yielded L.toArray a.tmps) = true)
    (h : ∀ K : Act → World → Prop, (∀ a' w', S w' → wpAnyH P .any L.toArray Q S fuel (listed.setIfInBounds i true) a' w' → K a' w') → x.wp P a w K Q)
    (h' : ∀ K : Act → World → Prop, (∀ a' w', S w' → wpAnyH P .any L.toArray Q S fuel (listed.setIfInBounds j true) a' w' → K a' w') → y.wp P a w K Q) : wpAnyH P .any L.toArray Q S (fuel + 1) listed a w := by
  refine wpAnyH_all hr (by simp) (fun k hk => ?_)
  rcases List.mem_cons.1 hk with rfl | hk
  · unfold wpOp
    rw [at_of_drop hi]
    simp only
    rw [if_pos hw]
    exact .inl (h _ fun _ _ h1 h2 => ⟨h1, h2⟩)
  · obtain rfl := List.mem_singleton.1 hk
    unfold wpOp
    rw [at_of_drop hj]
    simp only
    rw [if_pos hw']
    exact .inl (h' _ fun _ _ h1 h2 => ⟨h1, h2⟩)
/-- Two bytes of a block of the call's own, as a text. -/
theorem wp_conv2 {o : Oper} {a : Act} {w : World} {K : Act → World → Prop} (s : Operand) (src dst e : TypeId) (ho : o.op = .convert src dst s) (hs : P.underlying src = some (.slice e)) (he : P.underlying e = some (.int .u8)) (hd : P.underlying dst = some .string)
    (g : Nat) (x y : Int) (hv : a.eval s = .slice (some ⟨g, 0, none⟩) 2 2) (hb : Blk_ w g e #[.int .u8 x, .int .u8 y]) (h : K (a.put o.dst (.string (bs [byte x, byte y]))) w) : o.wp P a w K Q := by
  have hr := run_conv_lit (P := P) w src dst e hs he hd ⟨g, 0, none⟩ 2 [x, y] (fun j u hu => by rw [Addr.add_lit, Nat.zero_add, hb.cell]; simpa using hu)
  unfold Oper.wp execOp
  simp only [ho, Sem.run_bind, hv]
  simp only [List.length_cons, List.length_nil, List.map_cons, List.map_nil, Nat.zero_add, Nat.reduceAdd] at hr
  simp only [hr, Result.andThen_ok, Sem.run_pure, Oper.upon]
  exact h
/-- One byte of a block of the call's own, as a text. -/
theorem wp_conv1 {o : Oper} {a : Act} {w : World} {K : Act → World → Prop} (s : Operand) (src dst e : TypeId) (ho : o.op = .convert src dst s) (hs : P.underlying src = some (.slice e)) (he : P.underlying e = some (.int .u8)) (hd : P.underlying dst = some .string)
    (g : Nat) (x : Int) (hv : a.eval s = .slice (some ⟨g, 0, none⟩) 1 1) (hb : Blk_ w g e #[.int .u8 x]) (h : K (a.put o.dst (.string (bs [byte x]))) w) : o.wp P a w K Q := by
  have hr := run_conv_lit (P := P) w src dst e hs he hd ⟨g, 0, none⟩ 1 [x] (fun j u hu => by rw [Addr.add_lit, Nat.zero_add, hb.cell]; simpa using hu)
  unfold Oper.wp execOp
  simp only [ho, Sem.run_bind, hv]
  simp only [List.length_cons, List.length_nil, List.map_cons, List.map_nil, Nat.zero_add] at hr
  simp only [hr, Result.andThen_ok, Sem.run_pure, Oper.upon]
  exact h
end
end Go.Proofs.Ytokpjgpdkmimgaa
