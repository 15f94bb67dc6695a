/-
  array.Replace answers what P5.4 says: the law ArrayReplaces. Conditions: the argument reads as an array.
-/
import Derived.Test.YtokpjgpdkmimgaaWReplOf
import Derived.Test.YtokpjgpdkmimgaaWLawArrW
namespace Go.Proofs.Ytokpjgpdkmimgaa
set_option linter.unusedSimpArgs false
set_option linter.unusedVariables false
open Go.RowKit

theorem repl_len {a : List Dev} {d : Int} : (replaceS a d).1.length * 48 ≤ 140737488355328 := by
  by_cases h : arrMay a = true
  · have h3 := (arr_parts h).1
    unfold replaceS
    split
    · decide
    · split
      · decide
      · simp only
        rw [List.length_set, h3]
        decide
  · have hf : arrMay a = false := by simpa using h
    rw [repl_state hf]
    decide
set_option maxRecDepth 100000 in
set_option maxHeartbeats 800000 in
theorem lawArrayReplaces_any (cs : List Value) (a : List Dev) (n : Int) (w : World) (h : RArr w cs a) (hn : I64 n) :
    Calls Try.prog 9 #[.agg cs.toArray, .int .i64 n] w fun e w' => e = .returned (.bool true) ∧ Ext w w' := by
  obtain ⟨A, c, rfl⟩ := h.form
  have hla := h.bound
  have hls := repl_len (a := a) (d := n)
  go_enter Try.func9, Try.ntmps9
  go_wp2_with fail
  refine calls_abs (fun W => Ext w W ∧ Blk_ W w.heap.size 45 #[.slice A a.length c]) ⟨(Ext.refl _).alloc _, Blk_.new _ _ _⟩ ?_
  rintro W ⟨hx, hb⟩
  refine (arrayCopy_any [.slice A a.length c] a W (h.up hx)).mono ?_
  rintro e w1 ⟨K, k, rfl, hx1, hk⟩
  have hb1 := hb.ext hx1
  have hkd := hk.rarr hla
  have hA := h.up (hx.trans hx1)
  have HX1 := Lib.hid (hx.trans hx1)
  have HLS := Lib.hid (And.intro hla hls)
  clear h hb hk hx hx1 hla hls
  go_wp2_with fail
  refine calls_abs (fun W2 => Ext w1 W2 ∧ Blk_ W2 w1.heap.size 45 #[.slice K a.length k]) ⟨(Ext.refl _).alloc _, Blk_.new _ _ _⟩ ?_
  rintro W2 ⟨hx2, hb2⟩
  refine (arrReplace_any K k a n W2 (hkd.up hx2) hn).mono ?_
  rintro e w3 ⟨X, x, rfl, hx3, hX⟩
  have hx23 := hx2.trans hx3
  have hb13 := hb1.ext hx23
  have hb3 := hb2.ext hx3
  have hXd := hX.rarr HLS.out.2
  have hl13 := hb13.lt
  have hl3 := hb3.lt
  have q0 := hb13.cell 0
  simp at q0
  have hA3 := hA.up hx23
  have hK3 := hkd.up hx23
  have HX3 := Lib.hid (HX1.out.trans hx23)
  clear hX hb1 hb2 hx2 hx3 hx23 hA hkd
  go_wp2_with fail
  refine calls_abs (fun W4 => Ext w3 W4 ∧ Blk_ W4 w3.heap.size 45 #[.slice X (replaceS a n).1.length x]) ⟨(Ext.refl _).alloc _, Blk_.new _ _ _⟩ ?_
  rintro W4 ⟨hx4, hb4⟩
  refine (replacedOf_any A c a n W4 (hA3.up hx4) hn).mono ?_
  rintro e w5 ⟨Y, y, rfl, hx5, hY⟩
  have hx45 := hx4.trans hx5
  have hb5 := hb4.ext hx5
  have r0 := hb5.cell 0
  simp at r0
  have hlt5 := hb5.lt
  have hXd5 := hXd.up hx45
  have hYd := hY.rarr HLS.out.2
  have hA5 := hA3.up hx45
  have hK5 := hK3.up hx45
  have hb15 := hb13.ext hx45
  have hb35 := hb3.ext hx45
  have hl15 := hb15.lt
  have hl35 := hb35.lt
  have HX5 := Lib.hid (HX3.out.trans hx45)
  clear hY hb4 hx4 hx5 hx45 hA3 hK3 hb13 hb3 q0 hXd
  go_wp2_with fail
  refine calls_abs (fun W6 => Ext w5 W6) ((Ext.refl _).alloc _) ?_
  rintro W6 hx6
  refine (sameArray_true [.slice X (replaceS a n).1.length x] [.slice Y (replaceS a n).1.length y] (replaceS a n).1 W6 (hXd5.up hx6) (hYd.up hx6)).mono ?_
  rintro e w7 ⟨rfl, hx7⟩
  have hx67 := hx6.trans hx7
  have s0 := (hb15.ext hx67).cell 0
  have u0 := (hb35.ext hx67).cell 0
  simp at s0 u0
  go_wp2_with fail
  refine (sameArray_true [.slice K a.length k] [.slice A a.length c] a w7 (hK5.up hx67) (hA5.up hx67)).mono ?_
  rintro e w8 ⟨rfl, hx8⟩
  go_wp2_with fail
  go_ret
  exact ⟨rfl, (HX5.out.trans hx67).trans hx8⟩
end Go.Proofs.Ytokpjgpdkmimgaa
