/-
  device.Write and the document's DeviceWritten: a sector is written in a copy; the law DeviceWrites. Conditions: the argument reads as a device.
-/
import Derived.Test.YtgjijcgkmofaaaaDoorJ4
import Derived.Laws.MakeOwn
namespace Go.Proofs.YtgjijcgkmofaaaaDoor
set_option linter.unusedSimpArgs false
set_option linter.unusedVariables false
open Go.RowKit

theorem write_good {d : Dev} {k : Nat} {no : Int} {s : ByteArray} (h : touchCode d k = 0) (h2 : (encodeS no s).2 = 0) : writeS d k no s = (⟨d.sec.set k (encodeS no s).1, d.lost.set k false⟩, 0) := by
  unfold writeS; rw [if_pos h, if_pos h2]; rfl
theorem write_bad2 {d : Dev} {n no : Int} {s : ByteArray} (h : touchCode d n = 0) (h2 : ¬ (encodeS no s).2 = 0) : writeS d n no s = (⟨[], []⟩, (encodeS no s).2) := by
  unfold writeS; rw [if_pos h, if_neg h2]
theorem write_bad1 {d : Dev} {n no : Int} {s : ByteArray} (h : ¬ touchCode d n = 0) : writeS d n no s = (⟨[], []⟩, touchCode d n) := by
  unfold writeS; rw [if_neg h]

set_option maxRecDepth 100000 in
set_option maxHeartbeats 800000 in
theorem devWrite_any (cs : List Value) (d : Dev) (n no : Int) (s : ByteArray) (w : World) (h : RDev w cs d) (hn : I64 n) (ho : I64 no) (hs : s.size ≤ 140737488355328) :
    Calls Tryd.prog 26 #[.agg cs.toArray, .int .i64 n, .int .i64 no, .string s] w fun e w' => ∃ A1 c1 A2 c2, e = .returned (.tuple #[.agg #[.slice A1 (writeS d n no s).1.sec.length c1, .slice A2 (writeS d n no s).1.lost.length c2], .int .i64 (writeS d n no s).2]) ∧ Ext w w' ∧
      ODev 9 4 w' w.heap.size (.slice A1 (writeS d n no s).1.sec.length c1) (.slice A2 (writeS d n no s).1.lost.length c2) (writeS d n no s).1 := by
  obtain ⟨A1, c1, A2, c2, rfl⟩ := h.form
  go_enter Tryd.func26, Tryd.ntmps26
  go_wp2_with fail
  refine calls_abs (fun W => Ext w W ∧ Blk_ W w.heap.size 63 #[.slice A1 d.sec.length c1, .slice A2 d.lost.length c2] ∧ Blk_ W (w.heap.size + 1) 63 #[.slice none 0 0, .slice none 0 0]) ⟨((Ext.refl _).alloc _).alloc _, (Blk_.new _ _ _).alloc _, Blk_.new1 _ _ _ _⟩ ?_
  rintro W ⟨hx, hbk, hbr⟩
  refine (devAt_any [.slice A1 d.sec.length c1, .slice A2 d.lost.length c2] d n W (h.up hx) hn).mono ?_
  rintro e w1 ⟨rfl, hx1⟩
  have hb1 := hbk.ext hx1
  have hbr1 := hbr.ext hx1
  have f0 := hb1.cell 0
  have f1 := hb1.cell 1
  simp at f0 f1
  have hr1 := h.up (hx.trans hx1)
  have hx0 := hx.trans hx1
  clear h hbk hbr hx hx1
  by_cases hc : touchCode d n = 0
  · rw [hc]
    have hcold := hc
    go_wp2_with fail
    refine (encode_any no s _ ho hs).mono ?_
    rintro e w1' ⟨rfl, hx1'⟩
    have hbr1_ := hbr1.ext hx1'
    have hb1_ := hb1.ext hx1'
    have hr1_ := hr1.up hx1'
    have hx0_ := hx0.trans hx1'
    have f0_ := hx1'.cell f0
    have f1_ := hx1'.cell f1
    clear hbr1 hb1 hr1 hx0 f0 f1 hx1'
    have hbr1 := hbr1_; have hb1 := hb1_; have hr1 := hr1_; have hx0 := hx0_; have f0 := f0_; have f1 := f1_
    clear hbr1_ hb1_ hr1_ hx0_ f0_ f1_
    by_cases hE : (encodeS no s).2 = 0
    · obtain ⟨hm, n0, n1⟩ := touch_zero hc
      obtain ⟨m1, m2, m3, m4⟩ := devMay_len hm
      obtain ⟨k, rfl⟩ := Int.eq_ofNat_of_zero_le n0
      have hf := write_good (d := d) (k := k) (no := no) (s := s) hc hE
      have HT := Lib.hid (encodeS_small no s)
      have hlp : 0 < d.sec.length := by omega
      have hlp2 : 0 < d.lost.length := by omega
      have hk2' : (k : Int) < (d.sec.length : Int) := by omega
      have hk3' : (k : Int) < (d.lost.length : Int) := by omega
      rw [hE]
      have HF := Lib.hid hf
      clear hf hc hcold hE m4 hm m1 m2 m3 n0
      generalize hT : (encodeS no s).1 = T at *
      have HTE := Lib.hid hT
      clear hT
      go_wp2_with fail
      refine (devCopy_any [.slice A1 d.sec.length c1, .slice A2 d.lost.length c2] d _ hr1).mono ?_
      rintro e w2 ⟨B1, k1, B2, k2, rfl, hx2, o1, o2⟩
      have hod := hr1.own o1 o2
      clear o1 o2
      have hb2 := hb1.ext hx2
      have hbr2 := hbr1.ext hx2
      obtain ⟨g, rfl, hg1, hg2, hg3⟩ := own_form hod.1 hlp
      obtain ⟨g2, rfl, hg4, hg5, hg6⟩ := own_form hod.2.1 hlp2
      have hgg : g ≠ g2 := by
        rintro rfl
        exact own_other hod.1 hod.2.1 (by decide) rfl
      have hgg2 : ¬ (g2 = g) := fun e => hgg e.symm
      have hgg1 : ¬ (g = g2) := hgg
      have g0 := hb2.cell 0
      have g1 := hb2.cell 1
      have z0 := hb2.frozen 0
      have z1 := hb2.frozen 1
      have y0 := hbr2.cell 0
      have y1 := hbr2.cell 1
      have x0 := hbr2.frozen 0
      have x1 := hbr2.frozen 1
      simp at g0 g1 y0 y1
      have hlt := hbr1.lt
      have hlt2 := hbr2.lt
      have hlt3 := hb2.lt
      have ck := (hod.1.cellAt k (by omega)).trans (flat_str_get d.sec k (by omega))
      have ck2 := (hod.2.1.cellAt k (by omega)).trans (flat_bool_get d.lost k (by omega))
      have zk := hg3 k
      have zk2 := hg6 k
      have ne1 : ¬ (w.heap.size = g) := by omega
      have ne2 : ¬ (g = w.heap.size) := by omega
      have ne3 : ¬ (w.heap.size + 1 = g) := by omega
      have ne4 : ¬ (g = w.heap.size + 1) := by omega
      have ne5 : ¬ (w.heap.size = g2) := by omega
      have ne6 : ¬ (g2 = w.heap.size) := by omega
      have ne7 : ¬ (w.heap.size + 1 = g2) := by omega
      have ne8 : ¬ (g2 = w.heap.size + 1) := by omega
      have hgw : w.heap.size ≤ g := by omega
      have hgw2 : w.heap.size ≤ g2 := by omega
      have HX := Lib.hid (hx0.trans hx2)
      have HO := Lib.hid hod
      clear hr1 f0 f1 hb1 hbr1 hx0 hx2 hg3 hg6 hod
      have HU := Lib.hid ((hb2.set 0 (.slice (some ⟨g, 0, none⟩) d.sec.length k1)).set 1 (.slice (some ⟨g2, 0, none⟩) d.lost.length k2))
      have HR := Lib.hid ((hbr2.far (p := ⟨w.heap.size, 0, none⟩) (by simp) (.slice (some ⟨g, 0, none⟩) d.sec.length k1)).far (p := ⟨w.heap.size, 1, none⟩) (by simp) (.slice (some ⟨g2, 0, none⟩) d.lost.length k2))
      have HO3 := Lib.hid ((HO.out.far (p := ⟨w.heap.size, 0, none⟩) (by simp; omega) (.slice (some ⟨g, 0, none⟩) d.sec.length k1)).far (p := ⟨w.heap.size, 1, none⟩) (by simp; omega) (.slice (some ⟨g2, 0, none⟩) d.lost.length k2))
      have X3 := Lib.hid ((HX.out.setCell (p := ⟨w.heap.size, 0, none⟩) (by simp) (.slice (some ⟨g, 0, none⟩) d.sec.length k1)).setCell (p := ⟨w.heap.size, 1, none⟩) (by simp) (.slice (some ⟨g2, 0, none⟩) d.lost.length k2))
      clear hb2 hbr2
      go_wp2_with fail
      refine wp_abs (fun W => Ext w W ∧ Blk_ W w.heap.size 63 _ ∧ Blk_ W (w.heap.size + 1) 63 _ ∧ ODev 9 4 W w1'.heap.size (.slice (some ⟨g, 0, none⟩) d.sec.length k1) (.slice (some ⟨g2, 0, none⟩) d.lost.length k2) d) ⟨X3.out, HU.out, HR.out, HO3.out⟩ ?_
      rintro W3 ⟨e3, b3, r3, o3⟩
      clear HU HR HO3 X3 z0 z1 x0 x1 y0 y1 g0 g1 ck ck2 zk zk2
      have q0 := b3.cell 0
      have q1 := b3.cell 1
      have z0 := b3.frozen 0
      have z1 := b3.frozen 1
      have y0 := r3.cell 0
      have y1 := r3.cell 1
      have x0 := r3.frozen 0
      have x1 := r3.frozen 1
      simp at q0 q1 y0 y1
      have ck := (o3.1.cellAt k (by omega)).trans (flat_str_get d.sec k (by omega))
      have ck2 := (o3.2.1.cellAt k (by omega)).trans (flat_bool_get d.lost k (by omega))
      have zk := o3.1.frozenAt k
      have zk2 := o3.2.1.frozenAt k
      refine wp_region_begin (S := fun W' => W'.cell? ⟨w.heap.size, 0, none⟩ = some (.slice (some ⟨g, 0, none⟩) d.sec.length k1) ∧ W'.cell? ⟨w.heap.size, 1, none⟩ = some (.slice (some ⟨g2, 0, none⟩) d.lost.length k2)) (n := 10) (by kernel_rfl) rfl (by kernel_rfl) rfl ?_
      have hS0 : (fun W' => W'.cell? ⟨w.heap.size, 0, none⟩ = some (.slice (some ⟨g, 0, none⟩) d.sec.length k1) ∧ W'.cell? ⟨w.heap.size, 1, none⟩ = some (.slice (some ⟨g2, 0, none⟩) d.lost.length k2)) W3.drew := ⟨q0, q1⟩
      refine wpAnyH_takeL (i := 0) (v := ?_) rfl (by kernel_rfl) (fun _ _ _ h => h) rfl ?_ hS0 ?_
      rotate_left
      · intro w' hS
        try dsimp only at hS
        go_simp
        rfl
      try simp only [Act.put, List.setIfInBounds_toArray, List.set_cons_zero, List.set_cons_succ]
      refine wpAnyH_takeL (i := 1) (v := ?_) rfl (by kernel_rfl) (fun _ _ _ h => h) rfl ?_ hS0 ?_
      rotate_left
      · intro w' hS
        try dsimp only at hS
        go_simp
        rfl
      try simp only [Act.put, List.setIfInBounds_toArray, List.set_cons_zero, List.set_cons_succ]
      refine wpAnyH_takeL (i := 2) (v := ?_) rfl (by kernel_rfl) (fun _ _ _ h => h) rfl ?_ hS0 ?_
      rotate_left
      · intro w' hS
        try dsimp only at hS
        go_simp
        rfl
      try simp only [Act.put, List.setIfInBounds_toArray, List.set_cons_zero, List.set_cons_succ]
      refine wpAnyH_takeL (i := 3) (v := ?_) rfl (by kernel_rfl) (fun _ _ _ h => h) rfl ?_ hS0 ?_
      rotate_left
      · intro w' hS
        try dsimp only at hS
        go_simp
        rfl
      try simp only [Act.put, List.setIfInBounds_toArray, List.set_cons_zero, List.set_cons_succ]
      refine wpAnyH_takeL (i := 4) (v := ?_) rfl (by kernel_rfl) (fun _ _ _ h => h) rfl ?_ hS0 ?_
      rotate_left
      · intro w' hS
        try dsimp only at hS
        go_simp
        rfl
      try simp only [Act.put, List.setIfInBounds_toArray, List.set_cons_zero, List.set_cons_succ]
      refine wpAnyH_takeL (i := 5) (v := ?_) rfl (by kernel_rfl) (fun _ _ _ h => h) rfl ?_ hS0 ?_
      rotate_left
      · intro w' hS
        try dsimp only at hS
        go_simp
        rfl
      try simp only [Act.put, List.setIfInBounds_toArray, List.set_cons_zero, List.set_cons_succ]
      refine wpAnyH_takeL (i := 6) (v := ?_) rfl (by kernel_rfl) (fun _ _ _ h => h) rfl ?_ hS0 ?_
      rotate_left
      · intro w' hS
        try dsimp only at hS
        go_simp
        rfl
      try simp only [Act.put, List.setIfInBounds_toArray, List.set_cons_zero, List.set_cons_succ]
      refine wpAnyH_takeL (i := 7) (v := ?_) rfl (by kernel_rfl) (fun _ _ _ h => h) rfl ?_ hS0 ?_
      rotate_left
      · intro w' hS
        try dsimp only at hS
        go_simp
        rfl
      try simp only [Act.put, List.setIfInBounds_toArray, List.set_cons_zero, List.set_cons_succ]
      refine wpAnyH_oneL (i := 8) rfl (by kernel_rfl) rfl (fun K hK => ?_)
      go_wp2_with fail
      have b4 := b3.far (p := ⟨g, k, none⟩) ne1 (.string T)
      have r4 := r3.far (p := ⟨g, k, none⟩) ne3 (.string T)
      have o4 := o3.setSec rfl (by decide) k T (by have := HT.out; omega)
      have e4 := e3.setCell (p := ⟨g, k, none⟩) (by simp; omega) (.string T)
      have q4 := b4.cell 0
      have q5 := b4.cell 1
      simp at q4 q5
      refine hK _ _ ⟨q4, q5⟩ ?_
      clear hK K
      refine wpAnyH_takeL (i := 9) (v := ?_) rfl (by kernel_rfl) (fun _ _ _ h => h) rfl ?_ ⟨q4, q5⟩ ?_
      rotate_left
      · intro w' hS
        try dsimp only at hS
        go_simp
        rfl
      try simp only [Act.put, List.setIfInBounds_toArray, List.set_cons_zero, List.set_cons_succ]
      refine wpAnyH_endL (by kernel_rfl) (fun K hK => ?_)
      have b5 := b4.far (p := ⟨g2, k, none⟩) ne5 (.bool false)
      have r5 := r4.far (p := ⟨g2, k, none⟩) ne7 (.bool false)
      have HB := Lib.hid ((r5.set 0 (.slice (some ⟨g, 0, none⟩) d.sec.length k1)).set 1 (.slice (some ⟨g2, 0, none⟩) d.lost.length k2))
      have HO5 := Lib.hid (o4.setLost rfl (by decide) k false)
      have HE := Lib.hid e4
      clear b3 r3 o3 e3 b4 r4 o4 e4 b5 r5 q4 q5 hS0
      go_wp2_with fail
      refine bodyPost_ret (res_cell_tmp rfl rfl HB.out Tryd.underlying63 rfl (by kernel_rfl)) rfl ?_
      rw [HF.out]
      refine ⟨some ⟨g, 0, none⟩, k1, some ⟨g2, 0, none⟩, k2, ?_, ?_, ?_⟩
      · rw [List.length_set, List.length_set]; rfl
      · exact (((HE.out.setCell (p := ⟨g2, k, none⟩) hgw2 _).setCell (p := ⟨w.heap.size + 1, 0, none⟩) (Nat.le_succ _) _).setCell (p := ⟨w.heap.size + 1, 1, none⟩) (Nat.le_succ _) _).drew
      · have o6 := ((HO5.out.far (p := ⟨w.heap.size + 1, 0, none⟩) (by simp; omega) (.slice (some ⟨g, 0, none⟩) d.sec.length k1)).far (p := ⟨w.heap.size + 1, 1, none⟩) (by simp; omega) (.slice (some ⟨g2, 0, none⟩) d.lost.length k2)).base (base' := w.heap.size) (by omega)
        rw [List.length_set, List.length_set]
        exact o6
    · have hf := write_bad2 hc hE
      have hE' : ((encodeS no s).2 != 0) = true := by simpa using hE
      have HF := Lib.hid hf
      clear hf
      clear hc hcold hE hr1
      have y0 := hbr1.cell 0
      have y1 := hbr1.cell 1
      have x0 := hbr1.frozen 0
      have x1 := hbr1.frozen 1
      simp at y0 y1
      have HB := Lib.hid ((hbr1.set 0 (.slice none 0 0)).set 1 (.slice none 0 0))
      generalize (encodeS no s).2 = t at *
      go_wp2_with fail
      refine bodyPost_ret (res_cell_tmp rfl rfl HB.out Tryd.underlying63 rfl (by kernel_rfl)) rfl ?_
      rw [HF.out]
      refine ⟨none, 0, none, 0, rfl, (hx0.setCell (by simp) _).setCell (by simp) _, ?_⟩
      exact ⟨World.ownsRow_nil _ _ _ _, World.ownsRow_nil _ _ _ _, by simp, by simp, fun s hs => by cases hs⟩
  · have hf := write_bad1 (no := no) (s := s) hc
    have hc' : (touchCode d n != 0) = true := by simpa using hc
    have HF := Lib.hid hf
    clear hf
    clear hc hr1
    have y0 := hbr1.cell 0
    have y1 := hbr1.cell 1
    have x0 := hbr1.frozen 0
    have x1 := hbr1.frozen 1
    simp at y0 y1
    have HB := Lib.hid ((hbr1.set 0 (.slice none 0 0)).set 1 (.slice none 0 0))
    generalize touchCode d n = t at *
    go_wp2_with fail
    refine bodyPost_ret (res_cell_tmp rfl rfl HB.out Tryd.underlying63 rfl (by kernel_rfl)) rfl ?_
    rw [HF.out]
    refine ⟨none, 0, none, 0, rfl, (hx0.setCell (by simp) _).setCell (by simp) _, ?_⟩
    exact ⟨World.ownsRow_nil _ _ _ _, World.ownsRow_nil _ _ _ _, by simp, by simp, fun s hs => by cases hs⟩

end Go.Proofs.YtgjijcgkmofaaaaDoor

/-
  Rows of the call's own that grow: one more element, a made row, a device whose rows grow. Conditions: none.
-/
namespace Go.Proofs.YtgjijcgkmofaaaaDoor
set_option linter.unusedSimpArgs false
set_option linter.unusedVariables false
open Go.RowKit

theorem own_grown {w w' : World} {base : Nat} {e : TypeId} {size : Nat} {v : Value} {n : Nat} {xs : List Value} {row : Option Nat} (h : w.ownsRow base e size v n xs) (hg : w.grownBy w' row) (hne : ∀ g, v.ownBlock = some g → row ≠ some g) : w'.ownsRow base e size v n xs := by
  have h' := h
  obtain ⟨hl, h⟩ := h
  refine ⟨hl, ?_⟩
  rcases h with h | ⟨g, cap, cur, hv, hb, hgg, r⟩
  · exact .inl h
  · have hgb : v.ownBlock = some g := by rw [hv]; rfl
    exact .inr ⟨g, cap, cur, hv, hb, (hg.block g (h'.lt g hgb).2 (Ne.symm (hne g hgb))).trans hgg, r⟩
/-- A store beside the rows. -/
theorem ODev.off {S L : TypeId} {w : World} {base : Nat} {v1 v2 : Value} {d : Dev} (h : ODev S L w base v1 v2 d) {p : Addr} (h1 : v1.ownBlock ≠ some p.block) (h2 : v2.ownBlock ≠ some p.block) (u : Value) : ODev S L (w.setCell p u) base v1 v2 d :=
  ⟨ownsRow_setCell_other h.1 h1 u, ownsRow_setCell_other h.2.1 h2 u, h.2.2⟩
theorem own_apart {w : World} {base : Nat} {e e' : TypeId} {v v' : Value} {n n' : Nat} {xs xs' : List Value} (h : w.ownsRow base e 1 v n xs) (h' : w.ownsRow base e' 1 v' n' xs') (he : e ≠ e') : ∀ g, v.ownBlock = some g → v'.ownBlock ≠ some g := by
  intro g hg hg'
  rcases h.2 with ⟨hv, _⟩ | ⟨g1, cap, cur, hv, _, hg1, _⟩
  · rw [hv] at hg; cases hg
  · rcases h'.2 with ⟨hv2, _⟩ | ⟨g2, cap2, cur2, hv2, _, hg2, _⟩
    · rw [hv2] at hg'; cases hg'
    · have e1 : g1 = g := by rw [hv] at hg; simpa [Value.ownBlock] using hg
      have e2 : g2 = g := by rw [hv2] at hg'; simpa [Value.ownBlock] using hg'
      subst e1
      rw [e2, hg1] at hg2
      injection hg2 with hg2
      injection hg2 with b1 b2 b3
      exact he b2
theorem ODev.pushSec {S L : TypeId} {w w' : World} {base : Nat} {v1 v2 v1' : Value} {d : Dev} {s : ByteArray} (h : ODev S L w base v1 v2 d) (hSL : S ≠ L) (ho : w'.ownsRow base S 1 v1' (d.sec.length + 1) (d.sec.flatMap encStr ++ [.string s])) (hg : w.grownBy w' v1.ownBlock)
    (hn : (d.sec.length + 1) * 16 ≤ 140737488355328) (hs : s.size ≤ 140737488355328) : ODev S L w' base v1' v2 ⟨d.sec ++ [s], d.lost⟩ := by
  refine ⟨?_, own_grown h.2.1 hg (fun g h2 => own_apart h.2.1 h.1 (Ne.symm hSL) g h2), by simpa using hn, h.2.2.2.1, fun x hx => ?_⟩
  · simp only [List.length_append, List.length_cons, List.length_nil, Nat.zero_add, List.flatMap_append, List.flatMap_cons, List.flatMap_nil, List.append_nil]
    exact ho
  · rcases List.mem_append.1 hx with hx | hx
    · exact h.2.2.2.2 x hx
    · obtain rfl := List.mem_singleton.1 hx; exact hs
theorem ODev.pushLost {S L : TypeId} {w w' : World} {base : Nat} {v1 v2 v2' : Value} {d : Dev} {b : Bool} (h : ODev S L w base v1 v2 d) (hSL : S ≠ L) (ho : w'.ownsRow base L 1 v2' (d.lost.length + 1) (d.lost.flatMap encBool ++ [.bool b])) (hg : w.grownBy w' v2.ownBlock)
    (hn : d.lost.length + 1 ≤ 140737488355328) : ODev S L w' base v1 v2' ⟨d.sec, d.lost ++ [b]⟩ := by
  refine ⟨own_grown h.1 hg (fun g h2 => own_apart h.1 h.2.1 hSL g h2), ?_, h.2.2.1, by simpa using hn, h.2.2.2.2⟩
  simp only [List.length_append, List.length_cons, List.length_nil, Nat.zero_add, List.flatMap_append, List.flatMap_cons, List.flatMap_nil, List.append_nil]
  exact ho
section
variable {P : Program} {Q : Exit → Act → World → Prop}
/-- append(s, x): one element more. -/
theorem wpList_push {ops : Array Oper} {rest : List Oper} {o : Oper} {a : Act} {w : World} (s x : Operand) (t : TypeId)
    (ho : o.op = .call { callee := .builtin .append, args := #[s, x], argTypes := #[t, t] }) (hgd : o.guard = none)
    (base : Nat) (e : TypeId) (i : TypeInfo) (z : Value) (bytes : Nat) (ht : P.underlying t = some (.slice e)) (hi : P.info? e = some i) (hz : i.zero = some z)
    (hsize : i.size = 1) (hby : i.bytes = bytes) (hzs : z.cells.size = 1)
    (v : Value) (n : Nat) (xs : List Value) (hs : a.eval s = v) (hown : w.ownsRow base e 1 v n xs)
    (g c : Nat) (u : Value) (hx : a.eval x = .slice (some ⟨g, 0, none⟩) 1 c) (hu : w.cell? ⟨g, 0, none⟩ = some u) (h1 : u.oneCell' = true)
    (h63 : n + 1 ≤ maxLen) (hbytes : (n + 1) * bytes ≤ 140737488355328) (hbase : base ≤ w.heap.size)
    (h : ∀ A' c' w', w'.ownsRow base e 1 (.slice A' (n + 1) c') (n + 1) (xs ++ [u]) → w.grownBy w' v.ownBlock → ((Value.slice A' (n + 1) c').ownBlock = v.ownBlock ∨ (Value.slice A' (n + 1) c').ownBlock = some w.heap.size) → wpList P ops Q rest (a.put o.dst (.slice A' (n + 1) c')) w') : wpList P ops Q (o :: rest) a w :=
  wpList_append_at w hgd s x t ho base e i z 1 bytes ht hi hz hsize hby hzs (by decide) v n xs hs hown ⟨g, 0, none⟩ 1 c [u] hx rfl (fun j u' hj => by
    match j with
    | 0 => simp at hj; subst hj; exact hu
    | j + 1 => simp at hj) (fun u' hu' => by obtain rfl := List.mem_singleton.1 hu'; exact h1) h63 hbytes hbase h
/-- make: a row of zeros. -/
theorem make_row (t e : TypeId) (i : TypeInfo) (z : Value) (ht : P.underlying t = some (.slice e)) (hi : P.info? e = some i) (hz : i.zero = some z) (hsize : i.size = 1) (hzs : z.cells = #[z])
    (n : Nat) (hb : i.bytes * n ≤ 140737488355328) (hn : n ≤ 140737488355328) :
    ∃ cs : Array Value, cs.toList = List.replicate n z ∧ ∀ w : World, (Instr.makeSlice t (.int .i64 n) (.int .i64 n)).run P w = .ok (.slice (some ⟨w.heap.size, 0, none⟩) n n) (w.alloc (.cells cs e)) := by
  have hbb : ((i.bytes : Int) * (n : Int)) = ((i.bytes * n : Nat) : Int) := by simp
  refine ⟨madeCells z.cells (n * i.size), ?_, fun w => ?_⟩
  · rw [hsize, Nat.mul_one, hzs]
    apply List.ext_getElem?
    intro j
    simp only [madeCells, List.getElem?_replicate, Array.getElem?_toList]
    by_cases hj : j < n
    · simp [hj, Array.getElem?_map, Array.getElem?_range, Nat.mod_one]
    · simp [hj]
  · have hr := run_make (P := P) w t e i z ht hi hz .i64 .i64 n n (by omega) (by omega) (by rw [hbb]; omega) (by omega)
    simpa using hr
theorem own_made (w : World) (e : TypeId) (cs : Array Value) (n : Nat) (xs : List Value) (hc : cs.toList = xs) (hn : xs.length = n) (hm : n ≤ 140737488355328) : (w.alloc (.cells cs e)).ownsRow w.heap.size e 1 (.slice (some ⟨w.heap.size, 0, none⟩) n n) n xs := by
  subst hc
  have hs : cs.size = n := by simpa using hn
  refine ⟨by simpa using hn, .inr ⟨w.heap.size, n, cs, rfl, Nat.le_refl _, heap_alloc_new w _, Nat.le_refl _, by unfold maxLen; omega, by omega, ?_⟩⟩
  rw [Nat.mul_one]
  exact List.take_of_length_le (by simp [hs])
end
end Go.Proofs.YtgjijcgkmofaaaaDoor

/-
  device.New and the document's DeviceOf: a device with empty payloads; the law DeviceNews. Conditions: none.
-/
namespace Go.Proofs.YtgjijcgkmofaaaaDoor
set_option linter.unusedSimpArgs false
set_option linter.unusedVariables false
open Go.RowKit

/-- The first sectors of a new device. -/
def freshSec (from_ : Int) (k : Nat) : List ByteArray := (List.range k).map (fun (i : Nat) => (encodeS (from_ + i) .empty).1)
theorem freshSec_len (f : Int) (k : Nat) : (freshSec f k).length = k := by unfold freshSec; simp
theorem freshSec_succ (f : Int) (k : Nat) : freshSec f (k + 1) = freshSec f k ++ [(encodeS (f + k) .empty).1] := by
  unfold freshSec; rw [List.range_succ, List.map_append]; rfl
theorem fresh_eq (m : Nat) (f : Int) : freshDev m f = ⟨freshSec f m, List.replicate m false⟩ := rfl
theorem new_good {m f : Nat} (h1 : 1 ≤ m) (h2 : m ≤ 64) (h3 : f ≤ 512) : newDevS m f = (freshDev m f, 0) := by
  unfold newDevS; rw [if_pos (by simp [inB]; omega)]; rfl
theorem new_bad {many from_ : Int} (h : ¬ (1 ≤ many ∧ many ≤ 64 ∧ 0 ≤ from_ ∧ from_ ≤ 512)) : newDevS many from_ = (⟨[], []⟩, 2) := by
  unfold newDevS; rw [if_neg (by simp [inB]; omega)]
theorem flat_rep (m : Nat) (b : Bool) : (List.replicate m b).flatMap encBool = List.replicate m (.bool b) := by
  induction m with
  | zero => rfl
  | succ m ih => rw [List.replicate_succ, List.flatMap_cons, ih]; rfl
theorem rep_snoc (m : Nat) (b : Bool) : List.replicate (m + 1) b = List.replicate m b ++ [b] := by rw [List.replicate_succ']

set_option maxRecDepth 100000 in
set_option maxHeartbeats 800000 in
theorem devNew_any (many from_ : Int) (w : World) (hm : I64 many) (hf : I64 from_) :
    Calls Tryd.prog 52 #[.int .i64 many, .int .i64 from_] w fun e w' => ∃ A1 c1 A2 c2, e = .returned (.tuple #[.agg #[.slice A1 (newDevS many from_).1.sec.length c1, .slice A2 (newDevS many from_).1.lost.length c2], .int .i64 (newDevS many from_).2]) ∧ Ext w w' ∧
      ODev 9 4 w' w.heap.size (.slice A1 (newDevS many from_).1.sec.length c1) (.slice A2 (newDevS many from_).1.lost.length c2) (newDevS many from_).1 := by
  by_cases hok : 1 ≤ many ∧ many ≤ 64 ∧ 0 ≤ from_ ∧ from_ ≤ 512
  · obtain ⟨h1, h2, h3, h4⟩ := hok
    obtain ⟨m, rfl⟩ := Int.eq_ofNat_of_zero_le (show 0 ≤ many by omega)
    obtain ⟨f, rfl⟩ := Int.eq_ofNat_of_zero_le h3
    have HF := Lib.hid (new_good (m := m) (f := f) (by omega) (by omega) (by omega))
    obtain ⟨i1, hi1, za1, zb1, zc1⟩ := info_parts info_str
    obtain ⟨i2, hi2, za2, zb2, zc2⟩ := info_parts info_bool
    have HI1 := Lib.hid (And.intro hi1 (And.intro za1 (And.intro zb1 zc1)))
    have HI2 := Lib.hid (And.intro hi2 (And.intro za2 (And.intro zb2 zc2)))
    have hM : m ≤ 64 := by omega
    have hFr : f ≤ 512 := by omega
    have HM := Lib.hid (And.intro hM hFr)
    clear hi1 za1 zb1 zc1 hi2 za2 zb2 zc2 hm hf
    have t1 : decide ((m : Int) < 1) = false := by simp; omega
    have t2 : decide ((64 : Int) < (m : Int)) = false := by simp; omega
    have t3 : decide ((f : Int) < 0) = false := by simp
    have t4 : decide ((512 : Int) < (f : Int)) = false := by simp; omega
    clear h1 h2 h3 h4 hM hFr
    obtain ⟨cs, hcs, hmk⟩ := make_row (P := Tryd.prog) 61 4 i2 (.bool false) Tryd.underlying61 HI2.out.1 HI2.out.2.1 HI2.out.2.2.1 rfl m (by rw [HI2.out.2.2.2]; have := HM.out; omega) (by have := HM.out; omega)
    have HCS := Lib.hid hcs
    clear hcs
    go_enter Tryd.func52, Tryd.ntmps52
    go_wp2_with fail
    clear hmk
    refine wp_abs (fun W => Ext w W ∧ Blk_ W w.heap.size 63 #[.slice none 0 0, .slice none 0 0] ∧ Blk_ W (w.heap.size + 1 + 1) 63 #[.slice none 0 0, .slice (some ⟨w.heap.size + 1, 0, none⟩) m m] ∧
      ODev 9 4 W (w.heap.size + 1) (.slice none 0 0) (.slice (some ⟨w.heap.size + 1, 0, none⟩) m m) ⟨freshSec f 0, List.replicate m false⟩) ⟨(((Ext.refl _).alloc _).alloc _).alloc _, ((Blk_.new _ _ _).alloc _).alloc _, Blk_.new2 _ _ _ _ _, ?_⟩ ?_
    · have how := own_made (w.alloc (.cells #[.slice none 0 0, .slice none 0 0] 63)) 4 cs m _ HCS.out (by simp) (by have := HM.out; omega)
      rw [World.size_alloc] at how
      refine ODev.ext (w := (w.alloc (.cells #[.slice none 0 0, .slice none 0 0] 63)).alloc (.cells cs 4)) ⟨World.ownsRow_nil _ _ _ _, ?_, by simp [freshSec], by rw [List.length_replicate]; have := HM.out; omega, fun s hs => by simp [freshSec] at hs⟩ ((Ext.refl _).alloc _)
      rw [flat_rep, List.length_replicate]
      exact how
    rintro W ⟨hx, hbr, hbd, hod⟩
    go_loopw [29] (fun i wr => ∃ (k : Nat) (A : Option Addr) (c : Nat), i = .int .i64 k ∧ k ≤ m ∧ Ext w wr ∧ Blk_ wr w.heap.size 63 #[.slice none 0 0, .slice none 0 0] ∧ Blk_ wr (w.heap.size + 1 + 1) 63 #[.slice A k c, .slice (some ⟨w.heap.size + 1, 0, none⟩) m m] ∧
      ODev 9 4 wr (w.heap.size + 1) (.slice A k c) (.slice (some ⟨w.heap.size + 1, 0, none⟩) m m) ⟨freshSec f k, List.replicate m false⟩ ∧ (Value.slice A k c).ownBlock ≠ some (w.heap.size + 1 + 1)) (fun i _ => m - (intOf i).toNat)
    case atStart => exact ⟨0, none, 0, rfl, Nat.zero_le _, hx, hbr, hbd, hod, by simp [Value.ownBlock]⟩
    case round =>
      clear hx hbr hbd hod
      obtain ⟨k, A, c, rfl, hk, hx, hbr, hbd, hod, hne⟩ := hrel
      by_cases hlt : k < m
      · have hk64 : (k : Int) < 64 := by have := HM.out; omega
        have hf512 : (f : Int) ≤ 512 := by have := HM.out; omega
        go_wp2_with fail
        refine (encode_any ((f : Int) + (k : Int)) .empty _ ⟨by omega, by omega⟩ (by decide)).mono ?_
        rintro e w2 ⟨rfl, hx2⟩
        have hE : (encodeS ((f : Int) + (k : Int)) .empty).2 = 0 := by rw [encodeS_ok (by omega) (by omega) (by decide)]
        rw [hE]
        have HS := Lib.hid (encodeS_small ((f : Int) + (k : Int)) .empty)
        have hsn := freshSec_succ f k
        generalize (encodeS ((f : Int) + (k : Int)) .empty).1 = T at *
        have HSN := Lib.hid hsn
        have hbd2 := hbd.ext hx2
        have HBR2 := Lib.hid (hbr.ext hx2)
        have HOD2 := Lib.hid (hod.ext hx2)
        have HX2 := Lib.hid (hx.trans hx2)
        have f0 := hbd2.cell 0
        simp at f0
        have hl2 := hbd2.lt
        have ne0 : ¬ (w.heap.size + 1 + 1 = w2.heap.size) := by omega
        have ne1 : ¬ (w2.heap.size = w.heap.size + 1 + 1) := by omega
        clear hsn hE hx2 hbr hbd hx hod
        go_wp2_with (at_builtin; refine wpList_push (.tmp 44) (.tmp 46) 26 rfl rfl (w.heap.size + 1) 9 i1 (.string .empty) 16 Tryd.underlying26 HI1.out.1 HI1.out.2.1 HI1.out.2.2.1 HI1.out.2.2.2 rfl _ k _ rfl (own_len ?ln ((HOD2.out.ext ((Ext.refl _).alloc _)).1)) w2.heap.size 1 (.string T) rfl ?c1 rfl ?c2 ?c3 ?c4 ?_)
        case ln => exact freshSec_len f k
        case c1 => exact (Blk_.new _ _ _).cell 0
        case c2 => unfold maxLen; have := HM.out; omega
        case c3 => have := HM.out; omega
        case c4 => simp; omega
        intro A' c' w3 own3 hg3 hb3
        have hbd3 := (hbd2.ext ((Ext.refl _).alloc _)).grown hg3 (fun g hgg e => hne (by rw [hgg, e]))
        have HBR3 := Lib.hid ((HBR2.out.ext ((Ext.refl _).alloc _)).grown hg3 (fun g hgg e => by have := (HOD2.out.1.lt g hgg).1; omega))
        have HX3 := Lib.hid ((HX2.out.trans ((Ext.refl _).alloc _)).grown hg3 (fun g hgg => by have := (HOD2.out.1.lt g hgg).1; omega))
        have hod3 := (HOD2.out.ext ((Ext.refl _).alloc _)).pushSec (by decide) (own_len (by show _ = (freshSec f k).length + 1; rw [freshSec_len]) own3) hg3 (by show ((freshSec f k).length + 1) * 16 ≤ _; rw [freshSec_len]; have := HM.out; omega) (by have := HS.out; omega)
        have hne3 : (Value.slice A' (k + 1) c').ownBlock ≠ some (w.heap.size + 1 + 1) := by
          rcases hb3 with h | h
          · rw [h]; exact hne
          · rw [h]; simp; omega
        have HO3 := Lib.hid hod3
        have HN3 := Lib.hid hne3
        have HB3 := Lib.hid hbd3
        have g0 := hbd3.cell 0
        have z0 := hbd3.frozen 0
        simp at g0
        clear hbd2 hod3 hne3 hbd3 own3 hg3 hb3 hne f0
        go_wp2_with fail
        go_roundw
        case rel =>
          refine ⟨k + 1, A', c', by go_num, by omega, HX3.out.setCell (by dsimp only; omega) _, HBR3.out.far (by dsimp only; omega) _, HB3.out.set 0 _, ?_, HN3.out⟩
          rw [HSN.out]
          exact HO3.out.off HN3.out (by simp [Value.ownBlock]) _
        case measure => simp [intOf]; omega
      · obtain rfl : k = m := by omega
        have f0 := hbd.cell 0
        have f1 := hbd.cell 1
        have y0 := hbr.cell 0
        have y1 := hbr.cell 1
        have x0 := hbr.frozen 0
        have x1 := hbr.frozen 1
        simp at f0 f1 y0 y1
        have HB := Lib.hid ((hbr.set 0 (.slice A k c)).set 1 (.slice (some ⟨w.heap.size + 1, 0, none⟩) k k))
        clear hlt hk
        go_wp2_with fail
        refine bodyPost_ret (res_cell_tmp rfl rfl HB.out Tryd.underlying63 rfl (by kernel_rfl)) rfl ?_
        rw [HF.out, fresh_eq]
        refine ⟨A, c, some ⟨w.heap.size + 1, 0, none⟩, k, ?_, ?_, ?_⟩
        · simp only [freshSec_len, List.length_replicate]; rfl
        · exact (hx.setCell (p := ⟨w.heap.size, 0, none⟩) (Nat.le_refl _) _).setCell (p := ⟨w.heap.size, 1, none⟩) (Nat.le_refl _) _
        · simp only [freshSec_len, List.length_replicate]
          exact ((hod.far (p := ⟨w.heap.size, 0, none⟩) (by simp) _).far (p := ⟨w.heap.size, 1, none⟩) (by simp) _).base (by omega)
  · have hfin := new_bad hok
    have HF := Lib.hid hfin
    have hcs : (decide (many < 1) = true) ∨ (decide (many < 1) = false ∧ decide ((64 : Int) < many) = true) ∨ (decide (many < 1) = false ∧ decide ((64 : Int) < many) = false ∧ decide (from_ < 0) = true) ∨ (decide (many < 1) = false ∧ decide ((64 : Int) < many) = false ∧ decide (from_ < 0) = false ∧ decide ((512 : Int) < from_) = true) := by
      simp only [decide_eq_true_eq, decide_eq_false_iff_not]; omega
    clear hfin hok hm hf
    have HB := Lib.hid (((Blk_.new w 63 #[.slice none 0 0, .slice none 0 0]).set 0 (.slice none 0 0)).set 1 (.slice none 0 0))
    rcases hcs with t1 | ⟨t1, t2⟩ | ⟨t1, t2, t3⟩ | ⟨t1, t2, t3, t4⟩
    · go_enter Tryd.func52, Tryd.ntmps52
      go_wp2_with fail
      refine bodyPost_ret (res_cell_tmp rfl rfl (Blk_.new w 63 #[.slice none 0 0, .slice none 0 0]) Tryd.underlying63 rfl (by kernel_rfl)) rfl ?_
      rw [HF.out]
      refine ⟨none, 0, none, 0, rfl, (Ext.refl w).alloc _, ?_⟩
      exact ⟨World.ownsRow_nil _ _ _ _, World.ownsRow_nil _ _ _ _, by simp, by simp, fun s hs => by cases hs⟩
    · go_enter Tryd.func52, Tryd.ntmps52
      go_wp2_with fail
      refine bodyPost_ret (res_cell_tmp rfl rfl (Blk_.new w 63 #[.slice none 0 0, .slice none 0 0]) Tryd.underlying63 rfl (by kernel_rfl)) rfl ?_
      rw [HF.out]
      refine ⟨none, 0, none, 0, rfl, (Ext.refl w).alloc _, ?_⟩
      exact ⟨World.ownsRow_nil _ _ _ _, World.ownsRow_nil _ _ _ _, by simp, by simp, fun s hs => by cases hs⟩
    · go_enter Tryd.func52, Tryd.ntmps52
      go_wp2_with fail
      refine bodyPost_ret (res_cell_tmp rfl rfl (Blk_.new w 63 #[.slice none 0 0, .slice none 0 0]) Tryd.underlying63 rfl (by kernel_rfl)) rfl ?_
      rw [HF.out]
      refine ⟨none, 0, none, 0, rfl, (Ext.refl w).alloc _, ?_⟩
      exact ⟨World.ownsRow_nil _ _ _ _, World.ownsRow_nil _ _ _ _, by simp, by simp, fun s hs => by cases hs⟩
    · go_enter Tryd.func52, Tryd.ntmps52
      go_wp2_with fail
      refine bodyPost_ret (res_cell_tmp rfl rfl (Blk_.new w 63 #[.slice none 0 0, .slice none 0 0]) Tryd.underlying63 rfl (by kernel_rfl)) rfl ?_
      rw [HF.out]
      refine ⟨none, 0, none, 0, rfl, (Ext.refl w).alloc _, ?_⟩
      exact ⟨World.ownsRow_nil _ _ _ _, World.ownsRow_nil _ _ _ _, by simp, by simp, fun s hs => by cases hs⟩

end Go.Proofs.YtgjijcgkmofaaaaDoor

/-
  array.New, archive.New and the document's ArrayOf: an array of three new devices; the laws ArrayNews and ArchiveNews. Conditions: none.
-/
namespace Go.Proofs.YtgjijcgkmofaaaaDoor
set_option linter.unusedSimpArgs false
set_option linter.unusedVariables false
open Go.RowKit

theorem arr_good {m : Nat} (h1 : 16 ≤ m) (h2 : m ≤ 64) (h3 : m % 2 = 0) : newArrS m = ([freshDev m 0, freshDev m 0, freshDev (m / 2) 512], 0) := by
  unfold newArrS; rw [if_pos (by simp [inB]; omega)]; rfl
theorem arr_bad {many : Int} (h : ¬ (16 ≤ many ∧ many ≤ 64 ∧ many % 2 = 0)) : newArrS many = ([], 2) := by
  unfold newArrS; rw [if_neg (by simp [inB]; omega)]
/-- The device d of a new array. -/
def devAt (m : Nat) (d : Int) : Dev := if d = 2 then freshDev (m / 2) 512 else freshDev m 0
set_option maxRecDepth 100000 in
set_option maxHeartbeats 800000 in
theorem arrFresh_any (m : Nat) (d : Int) (w : World) (h1 : 16 ≤ m) (h2 : m ≤ 64) (hd : 0 ≤ d ∧ d ≤ 2) :
    Calls Tryd.prog 31 #[.int .i64 m, .int .i64 d] w fun e w' => ∃ A1 c1 A2 c2, e = .returned (.tuple #[.agg #[.slice A1 (devAt m d).sec.length c1, .slice A2 (devAt m d).lost.length c2], .int .i64 0]) ∧ Ext w w' ∧
      ODev 9 4 w' w.heap.size (.slice A1 (devAt m d).sec.length c1) (.slice A2 (devAt m d).lost.length c2) (devAt m d) := by
  by_cases h : d = 2
  · subst h
    have he : devAt m 2 = freshDev (m / 2) 512 := rfl
    have hq : ((m : Int) / 2) = ((m / 2 : Nat) : Int) := by omega
    have hng := new_good (m := m / 2) (f := 512) (by omega) (by omega) (by omega)
    have HQ := Lib.hid (And.intro he (And.intro hq hng))
    clear he hq hng
    have b1 : (0 : Int) ≤ (m : Int) / 2 := by omega
    have b2 : (m : Int) / 2 ≤ 64 := by omega
    go_enter Tryd.func31, Tryd.ntmps31
    go_wp2_with fail
    refine (devNew_any ((m : Int) / 2) 512 _ ⟨by omega, by omega⟩ ⟨by decide, by decide⟩).mono ?_
    rintro e w2 ⟨A1, c1, A2, c2, rfl, hx2, hod⟩
    rw [HQ.out.2.1] at hod ⊢
    have hng : newDevS ((m / 2 : Nat) : Int) 512 = (freshDev (m / 2) 512, 0) := HQ.out.2.2
    rw [hng] at hod ⊢
    have hb := (Blk_.new w 63 #[.slice none 0 0, .slice none 0 0]).ext hx2
    have y0 := hb.cell 0
    have y1 := hb.cell 1
    have x0 := hb.frozen 0
    have x1 := hb.frozen 1
    simp at y0 y1
    have HB := Lib.hid ((hb.set 0 (.slice A1 (freshDev (m / 2) 512).sec.length c1)).set 1 (.slice A2 (freshDev (m / 2) 512).lost.length c2))
    have HX := Lib.hid (((Ext.refl w).alloc _).trans hx2)
    have HO := Lib.hid hod
    clear hng hb hod hx2
    go_wp2_with fail
    refine bodyPost_ret (res_cell_tmp rfl rfl HB.out Tryd.underlying63 rfl (by kernel_rfl)) rfl ?_
    rw [HQ.out.1]
    refine ⟨A1, c1, A2, c2, rfl, (HX.out.setCell (p := ⟨w.heap.size, 0, none⟩) (Nat.le_refl _) _).setCell (p := ⟨w.heap.size, 1, none⟩) (Nat.le_refl _) _, ?_⟩
    exact ((HO.out.far (p := ⟨w.heap.size, 0, none⟩) (by simp) _).far (p := ⟨w.heap.size, 1, none⟩) (by simp) _).base (by simp)
  · have he : devAt m d = freshDev m 0 := by unfold devAt; rw [if_neg h]
    have hng := new_good (m := m) (f := 0) (by omega) (by omega) (by omega)
    have HQ := Lib.hid (And.intro he hng)
    have hdb : (d == 2) = false := by simpa using h
    clear he hng h
    have b2 : (m : Int) ≤ 64 := by omega
    go_enter Tryd.func31, Tryd.ntmps31
    go_wp2_with fail
    refine (devNew_any (m : Int) 0 _ ⟨by omega, by omega⟩ ⟨by decide, by decide⟩).mono ?_
    rintro e w2 ⟨A1, c1, A2, c2, rfl, hx2, hod⟩
    have hng : newDevS (m : Int) 0 = (freshDev m 0, 0) := HQ.out.2
    rw [hng] at hod ⊢
    have hb := (Blk_.new w 63 #[.slice none 0 0, .slice none 0 0]).ext hx2
    have y0 := hb.cell 0
    have y1 := hb.cell 1
    have x0 := hb.frozen 0
    have x1 := hb.frozen 1
    simp at y0 y1
    have HB := Lib.hid ((hb.set 0 (.slice A1 (freshDev m 0).sec.length c1)).set 1 (.slice A2 (freshDev m 0).lost.length c2))
    have HX := Lib.hid (((Ext.refl w).alloc _).trans hx2)
    have HO := Lib.hid hod
    clear hng hb hod hx2
    go_wp2_with fail
    refine bodyPost_ret (res_cell_tmp rfl rfl HB.out Tryd.underlying63 rfl (by kernel_rfl)) rfl ?_
    rw [HQ.out.1]
    refine ⟨A1, c1, A2, c2, rfl, (HX.out.setCell (p := ⟨w.heap.size, 0, none⟩) (Nat.le_refl _) _).setCell (p := ⟨w.heap.size, 1, none⟩) (Nat.le_refl _) _, ?_⟩
    exact ((HO.out.far (p := ⟨w.heap.size, 0, none⟩) (by simp) _).far (p := ⟨w.heap.size, 1, none⟩) (by simp) _).base (by simp)
def firstDevs (m : Nat) (k : Nat) : List Dev := (List.range k).map fun (i : Nat) => devAt m i
theorem firstDevs_len (m k : Nat) : (firstDevs m k).length = k := by unfold firstDevs; simp
theorem firstDevs_succ (m k : Nat) : firstDevs m (k + 1) = firstDevs m k ++ [devAt m k] := by unfold firstDevs; rw [List.range_succ, List.map_append]; rfl
theorem firstDevs_three (m : Nat) : firstDevs m 3 = [freshDev m 0, freshDev m 0, freshDev (m / 2) 512] := rfl
theorem info_devr : True := trivial

set_option maxRecDepth 100000 in
set_option maxHeartbeats 800000 in
theorem arrNew_any (many : Int) (w : World) (hm : I64 many) :
    Calls Tryd.prog 15 #[.int .i64 many] w fun e w' => ∃ A c, e = .returned (.tuple #[.agg #[.slice A (newArrS many).1.length c], .int .i64 (newArrS many).2]) ∧ Ext w w' ∧ OArr 63 w' w.heap.size (.slice A (newArrS many).1.length c) (newArrS many).1 := by
  by_cases hok : 16 ≤ many ∧ many ≤ 64 ∧ many % 2 = 0
  · obtain ⟨h1, h2, h3⟩ := hok
    obtain ⟨m, rfl⟩ := Int.eq_ofNat_of_zero_le (show 0 ≤ many by omega)
    have HF := Lib.hid (arr_good (m := m) (by omega) (by omega) (by omega))
    have HM := Lib.hid (And.intro (show 16 ≤ m by omega) (show m ≤ 64 by omega))
    have t1 : decide ((m : Int) < 16) = false := by simp; omega
    have t2 : decide ((64 : Int) < (m : Int)) = false := by simp; omega
    have t3 : ((m : Int) % 2 != 0) = false := by simp; omega
    have b2 : (m : Int) ≤ 64 := by omega
    obtain ⟨i0, hi, hz0, hz1, hz2⟩ := info_parts info_dev
    have HI := Lib.hid (And.intro hi (And.intro hz0 (And.intro hz1 hz2)))
    clear hi hz0 hz1 hz2 h1 h2 h3 hm
    go_enter Tryd.func15, Tryd.ntmps15
    go_wp2_with fail
    refine wp_abs (fun W => Ext w W ∧ Blk_ W w.heap.size 25 #[.slice none 0 0] ∧ Blk_ W (w.heap.size + 1) 25 #[.slice none 0 0]) ⟨((Ext.refl _).alloc _).alloc _, (Blk_.new _ _ _).alloc _, Blk_.new1 _ _ _ _⟩ ?_
    rintro W ⟨hx, hb1, hb2⟩
    clear t1 t2 t3
    go_loopw [21] (fun i wr => ∃ (k : Nat) (A : Option Addr) (c : Nat), i = .int .i64 k ∧ k ≤ 3 ∧ Ext w wr ∧ Blk_ wr w.heap.size 25 #[.slice none 0 0] ∧ Blk_ wr (w.heap.size + 1) 25 #[.slice A k c] ∧ OArr 63 wr (w.heap.size + 2) (.slice A k c) (firstDevs m k)) (fun i _ => 3 - (intOf i).toNat)
    case atStart => exact ⟨0, none, 0, rfl, Nat.zero_le _, hx, hb1, hb2, OArr.nil _ _ _⟩
    case round =>
      clear hx hb1 hb2
      obtain ⟨k, A, c, rfl, hk, hx, hb1, hb2, ho⟩ := hrel
      by_cases hlt : k < 3
      · have hk3 : (k : Int) < 3 := by omega
        go_wp2_with fail
        refine (arrFresh_any m (k : Int) _ HM.out.1 HM.out.2 ⟨by omega, by omega⟩).mono ?_
        rintro e w2 ⟨A1, c1, A2, c2, rfl, hx2, hod⟩
        have hsn := firstDevs_succ m k
        generalize devAt m (k : Int) = dd at *
        have HSN := Lib.hid hsn
        have f0 := (hb2.ext hx2).cell 0
        simp at f0
        have hl1 := hb2.lt
        have hl2 := (hb2.ext hx2).lt
        have HX2 := Lib.hid (hx.trans hx2)
        have ne0 : ¬ (w.heap.size + 1 = w2.heap.size) := by omega
        have ne1 : ¬ (w2.heap.size = w.heap.size + 1) := by omega
        have e3 : Ext wr ((w2.alloc (.cells #[.slice A1 dd.sec.length c1, .slice A2 dd.lost.length c2] 63)).alloc (.cells #[.slice A1 dd.sec.length c1, .slice A2 dd.lost.length c2] 63)) := (hx2.alloc _).alloc _
        have hdn := hod.dev.up (((Ext.refl _).alloc (.cells #[.slice A1 dd.sec.length c1, .slice A2 dd.lost.length c2] 63)).alloc (.cells #[.slice A1 dd.sec.length c1, .slice A2 dd.lost.length c2] 63))
        obtain ⟨xs0, hown0, _⟩ := ho.pushes
        obtain ⟨xs, hown, hpush⟩ := (ho.ext e3).pushes
        rw [firstDevs_len] at hown hpush
        have HOWN := Lib.hid hown
        have HPUSH := Lib.hid hpush
        have HOWN0 := Lib.hid hown0
        have HE3 := Lib.hid e3
        have HDN := Lib.hid hdn
        have HNEW := Lib.hid (And.intro hod.new1 hod.new2)
        have HB1 := Lib.hid hb1
        have HB2 := Lib.hid hb2
        have HXR := Lib.hid hx
        clear hsn hown hpush hown0 e3 hdn hod hb1 hb2 hx2 hx ho
        go_wp2_with (at_builtin; refine wpList_append_at _ rfl (.tmp 35) (.tmp 37) 23 rfl (w.heap.size + 2) 63 i0 (.agg #[.slice none 0 0, .slice none 0 0]) 2 48 Tryd.underlying23 HI.out.1 HI.out.2.1 HI.out.2.2.1 HI.out.2.2.2 rfl (by decide) _ k xs rfl HOWN.out ⟨w2.heap.size + 1, 0, none⟩ 1 1 [.slice A1 dd.sec.length c1, .slice A2 dd.lost.length c2] rfl rfl ?c1 ?c2 ?c3 ?c4 ?c5 ?_)
        case c1 =>
          intro j u hu
          rw [Addr.add_lit, Nat.zero_add, (Blk_.new1 w2 _ 63 _).cell]
          simpa using hu
        case c2 =>
          intro u hu
          simp at hu
          rcases hu with rfl | rfl <;> rfl
        case c3 => unfold maxLen; omega
        case c4 => omega
        case c5 => simp; omega
        intro A' c' w4 hown' hg' hb'
        have hbase : ∀ g, (Value.slice A k c).ownBlock = some g → w.heap.size + 2 ≤ g := fun g hgg => (HOWN.out.lt g hgg).1
        have hox : OArr 63 w4 (w.heap.size + 2) (.slice A' (k + 1) c') (firstDevs m k ++ [dd]) := HPUSH.out w4 _ _ _ _ hown' hg' (by rw [World.size_alloc, World.size_alloc]; exact hb') HDN.out (fun g hgg => by
          refine HDN.out.newG HNEW.out.1 HNEW.out.2 ?_
          exact (HOWN0.out.lt g hgg).2) (HNEW.out.1.mono (by omega)) (HNEW.out.2.mono (by omega))
        have HX4 := Lib.hid ((HXR.out.trans HE3.out).grown hg' (fun g hgg => by have := hbase g hgg; omega))
        have HJ1 := Lib.hid ((HB1.out.ext HE3.out).grown hg' (fun g hgg => by have := hbase g hgg; omega))
        have j2 := (HB2.out.ext HE3.out).grown hg' (fun g hgg => by have := hbase g hgg; omega)
        have HJ2 := Lib.hid j2
        have HOX := Lib.hid hox
        have j2c := j2.cell 0
        have j2f := j2.frozen 0
        simp at j2c
        clear hox hown' hg' hb' hbase j2 f0
        go_wp2_with fail
        go_roundw
        case rel =>
          refine ⟨k + 1, A', c', by go_num, by omega, HX4.out.setCell (by dsimp only; omega) _, HJ1.out.far (by dsimp only; omega) _, HJ2.out.set 0 _, ?_⟩
          rw [HSN.out]
          exact HOX.out.far (by dsimp only; omega) _
        case measure => simp [intOf]; omega
      · obtain rfl : k = 3 := by omega
        have f0 := hb2.cell 0
        have f1 := hb1.cell 0
        have f2 := hb1.frozen 0
        simp at f0 f1
        have HB := Lib.hid (hb1.set 0 (.slice A 3 c))
        clear hlt hk
        go_wp2_with fail
        refine bodyPost_ret (res_cell_tmp rfl rfl HB.out Tryd.underlying25 rfl (by kernel_rfl)) rfl ?_
        rw [HF.out, ← firstDevs_three]
        exact ⟨A, c, rfl, hx.setCell (by dsimp only; omega) _, (ho.far (by dsimp only; omega) _).base (by omega)⟩
  · have HF := Lib.hid (arr_bad hok)
    have hcs : (decide (many < 16) = true) ∨ (decide (many < 16) = false ∧ decide ((64 : Int) < many) = true) ∨ (0 ≤ many ∧ decide (many < 16) = false ∧ decide ((64 : Int) < many) = false ∧ (many % 2 != 0) = true) := by
      simp only [decide_eq_true_eq, decide_eq_false_iff_not, bne_iff_ne, ne_eq]; omega
    clear hok hm
    rcases hcs with t1 | ⟨t1, t2⟩ | ⟨t0, t1, t2, t3⟩
    · go_enter Tryd.func15, Tryd.ntmps15
      go_wp2_with fail
      refine bodyPost_ret (res_cell_tmp rfl rfl (Blk_.new w 25 #[.slice none 0 0]) Tryd.underlying25 rfl (by kernel_rfl)) rfl ?_
      rw [HF.out]
      exact ⟨none, 0, rfl, (Ext.refl w).alloc _, OArr.nil _ _ _⟩
    · go_enter Tryd.func15, Tryd.ntmps15
      go_wp2_with fail
      refine bodyPost_ret (res_cell_tmp rfl rfl (Blk_.new w 25 #[.slice none 0 0]) Tryd.underlying25 rfl (by kernel_rfl)) rfl ?_
      rw [HF.out]
      exact ⟨none, 0, rfl, (Ext.refl w).alloc _, OArr.nil _ _ _⟩
    · go_enter Tryd.func15, Tryd.ntmps15
      go_wp2_with fail
      refine bodyPost_ret (res_cell_tmp rfl rfl (Blk_.new w 25 #[.slice none 0 0]) Tryd.underlying25 rfl (by kernel_rfl)) rfl ?_
      rw [HF.out]
      exact ⟨none, 0, rfl, (Ext.refl w).alloc _, OArr.nil _ _ _⟩

/-- Three devices in a row of the call's own. -/
theorem OArr.three_ {E : TypeId} {w : World} {base : Nat} (hb : base ≤ w.heap.size) {x1 x2 y1 y2 z1 z2 : Value} {d0 d1 d2 : Dev} (h0 : RDev w [x1, x2] d0) (h1 : RDev w [y1, y2] d1) (h2 : RDev w [z1, z2] d2)
    (n0 : New base x1 ∧ New base x2) (n1 : New base y1 ∧ New base y2) (n2 : New base z1 ∧ New base z2) :
    OArr E (w.alloc (.cells #[x1, x2, y1, y2, z1, z2] E)) base (.slice (some ⟨w.heap.size, 0, none⟩) 3 3) [d0, d1, d2] := by
  refine ⟨[(x1, x2), (y1, y2), (z1, z2)], rfl, ⟨rfl, .inr ⟨w.heap.size, 3, _, rfl, hb, heap_alloc_new w _, Nat.le_refl _, by decide, rfl, rfl⟩⟩, fun g hg i hi p hp => ?_, fun i p hp => ?_⟩
  · have : g = w.heap.size := by simpa [Value.ownBlock] using hg.symm
    subst this
    match i, hi with
    | 0, _ => simp at hp; subst hp; exact (h0.old (Nat.le_refl _)).ext ((Ext.refl _).alloc _)
    | 1, _ => simp at hp; subst hp; exact (h1.old (Nat.le_refl _)).ext ((Ext.refl _).alloc _)
    | 2, _ => simp at hp; subst hp; exact (h2.old (Nat.le_refl _)).ext ((Ext.refl _).alloc _)
  · match i with
    | 0 => simp at hp; subst hp; exact n0
    | 1 => simp at hp; subst hp; exact n1
    | 2 => simp at hp; subst hp; exact n2
    | i + 3 => simp at hp
theorem newArr_len (many : Int) : (newArrS many).1.length ≤ 3 := by
  unfold newArrS; split <;> simp

end Go.Proofs.YtgjijcgkmofaaaaDoor

/-
  array.xor and the document's others: where two texts of one length differ, byte by byte. Conditions: both are of one length, and not empty.
-/
namespace Go.Proofs.YtgjijcgkmofaaaaDoor
set_option linter.unusedSimpArgs false
set_option linter.unusedVariables false
open Go.RowKit

/-- A row of bytes of the call's own. -/
theorem own_buf {w : World} {base : Nat} {e : TypeId} {A : Option Addr} {n c : Nat} {l : List UInt8} (h : w.ownsRow base e 1 (.slice A n c) n (l.flatMap encByte)) (hn : 0 < n) : ∃ g, A = some ⟨g, 0, none⟩ ∧ base ≤ g ∧ Buf e w g l ∧ n = l.length := by
  have h' := h
  have hlen : n = l.length := by
    have h1 := h.1
    rw [length_flatMap (C := 1) (fun _ => rfl)] at h1
    omega
  rcases h.2 with ⟨hv, h0⟩ | ⟨g, cap, cur, hv, hb, hg, _⟩
  · omega
  · injection hv with a1 a2 a3
    subst a1
    refine ⟨g, rfl, hb, ⟨cur, (0, 0), hg, fun i hi => ?_, fun i hi => by simp⟩, hlen⟩
    have hc := h'.cellAt i (by omega)
    rw [cell_of_row w g i cur e (0, 0) hg] at hc
    rw [hc]
    have := flatMap_at (enc := encByte) (C := 1) (fun _ => rfl) l i 0 hi (by decide)
    rw [Nat.mul_one, Nat.add_zero] at this
    rw [this, List.getD_eq_getElem?_getD, List.getElem?_eq_getElem hi]
    rfl
theorem info_byte : (Tryd.prog.info? 5).map (fun i => (i.zero, i.size, i.bytes)) = some (some (.int .u8 0), 1, 1) := by kernel_rfl

/-- The first k bytes are those of both, where they differ; then those of the first one. -/
def xorTo (s t : ByteArray) (k : Nat) : List UInt8 := (List.zipWith (fun a b => a ^^^ b) (lst s) (lst t)).take k ++ (lst s).drop k
theorem xorTo_zero (s t : ByteArray) : xorTo s t 0 = lst s := by unfold xorTo; simp
theorem xorTo_len {s t : ByteArray} (h : s.size = t.size) (k : Nat) (hk : k ≤ s.size) : (xorTo s t k).length = s.size := by
  unfold xorTo; rw [List.length_append, List.length_take, List.length_zipWith, List.length_drop, length_lst, length_lst]; omega
theorem xorTo_end {s t : ByteArray} (h : s.size = t.size) : bs (xorTo s t s.size) = xorS s t := by
  unfold xorTo xorS
  rw [List.take_of_length_le (by rw [List.length_zipWith, length_lst, length_lst]; omega), List.drop_of_length_le (by rw [length_lst]; exact Nat.le_refl _), List.append_nil]
theorem xorTo_at {s t : ByteArray} (h : s.size = t.size) (k : Nat) (hk : k < s.size) : (xorTo s t k).getD k 0 = s[k] := by
  unfold xorTo
  have hl : ((List.zipWith (fun a b => a ^^^ b) (lst s) (lst t)).take k).length = k := by rw [List.length_take, List.length_zipWith, length_lst, length_lst]; omega
  rw [List.getD_eq_getElem?_getD, List.getElem?_append_right (by omega), hl, Nat.sub_self, List.getElem?_drop, Nat.add_zero, List.getElem?_eq_getElem (by rw [length_lst]; exact hk)]
  rfl
theorem xorTo_succ {s t : ByteArray} (h : s.size = t.size) (k : Nat) (hk : k < s.size) : (xorTo s t k).set k (s[k] ^^^ t[k]'(by omega)) = xorTo s t (k + 1) := by
  unfold xorTo
  have hl : ((List.zipWith (fun a b => a ^^^ b) (lst s) (lst t)).take k).length = k := by rw [List.length_take, List.length_zipWith, length_lst, length_lst]; omega
  have hz : k < (List.zipWith (fun a b => a ^^^ b) (lst s) (lst t)).length := by rw [List.length_zipWith, length_lst, length_lst]; omega
  rw [List.set_append_right _ _ (by omega), hl, Nat.sub_self, List.drop_eq_getElem_cons (by rw [length_lst]; exact hk), List.set_cons_zero, List.take_succ_eq_append_getElem hz, List.getElem_zipWith, List.append_assoc]
  rfl
theorem xor_byte (a b : UInt8) : bits .xor .u8 (a.toNat : Int) (b.toNat : Int) = ((a ^^^ b).toNat : Int) := by
  rw [u8_xor_nat _ _ (UInt8.toNat_lt _) (UInt8.toNat_lt _)]
  simp
set_option maxRecDepth 100000 in
set_option maxHeartbeats 800000 in
theorem xor_any (s t : ByteArray) (w : World) (h : s.size = t.size) (hs : s.size ≤ 140737488355328) :
    Calls Tryd.prog 45 #[.string s, .string t] w fun e w' => e = .returned (.string (xorS s t)) ∧ Ext w w' := by
  have HE := Lib.hid h
  go_enter Tryd.func45, Tryd.ntmps45
  clear h
  go_wp2_with (refine wpList_tobytes (.tmp 7) 9 76 5 rfl rfl Tryd.underlying9 Tryd.underlying76 Tryd.underlying5 s rfl ?_)
  intro g cap w1 hg ex1 hb1 hcap
  have HB1 := Lib.hid hb1
  have HX1 := Lib.hid ex1
  clear hb1 ex1
  go_wp2_with fail
  go_loopw [11] (fun i wr => ∃ k : Nat, i = .int .i64 k ∧ k ≤ s.size ∧ Ext w wr ∧ Buf 5 wr g (xorTo s t k)) (fun i _ => s.size - (intOf i).toNat)
  case atStart => exact ⟨0, rfl, Nat.zero_le _, HX1.out, by rw [xorTo_zero]; exact HB1.out⟩
  case round =>
    clear HB1 HX1
    obtain ⟨k, rfl, hk, hx, hb⟩ := hrel
    by_cases hlt : k < s.size
    · have hlt2 : k < t.size := by have := HE.out; omega
      have hki : (k : Int) < (s.size : Int) := by omega
      have hki2 : (k : Int) < (t.size : Int) := by omega
      have hbl : k < (xorTo s t k).length := by rw [xorTo_len HE.out k hk]; exact hlt
      have bp := hb.cell k hbl
      have bz := hb.frozen k hbl
      rw [xorTo_at HE.out k hlt] at bp
      have hxb := xor_byte (s[k]) (t[k])
      have c0 := u8_hi s[k]
      have c1 := u8_hi t[k]
      have hset := hb.set k (((s[k] ^^^ t[k]).toNat : Int)) (u8_lo _) (u8_hi _)
      rw [byte_u8, xorTo_succ HE.out k hlt] at hset
      have HSET := Lib.hid hset
      have HXB := Lib.hid hxb
      clear hb hset hbl hxb
      go_wp2_with fail
      refine wp_region_begin (S := fun W' => W'.cell? ⟨g, k, none⟩ = some (.int .u8 (s[k].toNat : Int))) (n := 9) (by kernel_rfl) rfl (by kernel_rfl) rfl ?_
      have hS0 : (fun W' => W'.cell? ⟨g, k, none⟩ = some (.int .u8 (s[k].toNat : Int))) wr.drew := bp
      refine wpAnyH_takeL (i := 0) (v := ?_) rfl (by kernel_rfl) (fun _ _ _ h => h) rfl ?_ hS0 ?_
      rotate_left
      · intro w' hS
        try dsimp only at hS
        go_simp
        rfl
      try simp only [Act.put, List.setIfInBounds_toArray, List.set_cons_zero, List.set_cons_succ]
      refine wpAnyH_takeL (i := 1) (v := ?_) rfl (by kernel_rfl) (fun _ _ _ h => h) rfl ?_ hS0 ?_
      rotate_left
      · intro w' hS
        try dsimp only at hS
        go_simp
        rfl
      try simp only [Act.put, List.setIfInBounds_toArray, List.set_cons_zero, List.set_cons_succ]
      refine wpAnyH_takeL (i := 2) (v := ?_) rfl (by kernel_rfl) (fun _ _ _ h => h) rfl ?_ hS0 ?_
      rotate_left
      · intro w' hS
        try dsimp only at hS
        go_simp
        rfl
      try simp only [Act.put, List.setIfInBounds_toArray, List.set_cons_zero, List.set_cons_succ]
      refine wpAnyH_takeL (i := 3) (v := ?_) rfl (by kernel_rfl) (fun _ _ _ h => h) rfl ?_ hS0 ?_
      rotate_left
      · intro w' hS
        try dsimp only at hS
        go_simp
        rfl
      try simp only [Act.put, List.setIfInBounds_toArray, List.set_cons_zero, List.set_cons_succ]
      refine wpAnyH_takeL (i := 4) (v := ?_) rfl (by kernel_rfl) (fun _ _ _ h => h) rfl ?_ hS0 ?_
      rotate_left
      · intro w' hS
        try dsimp only at hS
        go_simp
        rfl
      try simp only [Act.put, List.setIfInBounds_toArray, List.set_cons_zero, List.set_cons_succ]
      refine wpAnyH_takeL (i := 5) (v := ?_) rfl (by kernel_rfl) (fun _ _ _ h => h) rfl ?_ hS0 ?_
      rotate_left
      · intro w' hS
        try dsimp only at hS
        go_simp
        rfl
      try simp only [Act.put, List.setIfInBounds_toArray, List.set_cons_zero, List.set_cons_succ]
      refine wpAnyH_takeL (i := 6) (v := ?_) rfl (by kernel_rfl) (fun _ _ _ h => h) rfl ?_ hS0 ?_
      rotate_left
      · intro w' hS
        try dsimp only at hS
        go_simp
        rfl
      try simp only [Act.put, List.setIfInBounds_toArray, List.set_cons_zero, List.set_cons_succ]
      refine wpAnyH_takeL (i := 7) (v := ?_) rfl (by kernel_rfl) (fun _ _ _ h => h) rfl ?_ hS0 ?_
      rotate_left
      · intro w' hS
        try dsimp only at hS
        go_simp
        rfl
      try simp only [Act.put, List.setIfInBounds_toArray, List.set_cons_zero, List.set_cons_succ]
      rw [HXB.out]
      refine wpAnyH_takeL (i := 8) (v := ?_) rfl (by kernel_rfl) (fun _ _ _ h => h) rfl ?_ hS0 ?_
      rotate_left
      · intro w' hS
        try dsimp only at hS
        go_simp
        rfl
      try simp only [Act.put, List.setIfInBounds_toArray, List.set_cons_zero, List.set_cons_succ]
      refine wpAnyH_endL (by kernel_rfl) (fun K hK => ?_)
      go_wp2_with fail
      go_roundw
      case rel => exact ⟨k + 1, by go_num, by omega, (hx.drew).setCell (by dsimp only; omega) _, HSET.out⟩
      case measure => simp [intOf]; omega
    · obtain rfl : k = s.size := by omega
      have HLN := Lib.hid (xorTo_len HE.out s.size hk)
      have hfin := xorTo_end HE.out
      have HFN := Lib.hid hfin
      have HBB := Lib.hid hb
      clear hb hfin
      go_wp2_with (refine wpList_frombytes (.tmp 24) 76 9 5 rfl rfl Tryd.underlying76 Tryd.underlying5 Tryd.underlying9 g s.size cap _ HBB.out HLN.out.symm rfl ?_)
      rw [HFN.out]
      go_wp2_with fail
      go_ret
      exact ⟨rfl, hx⟩

def xorL (s t : ByteArray) : List UInt8 := List.zipWith (fun a b => a ^^^ b) (lst s) (lst t)
theorem xorL_len {s t : ByteArray} (h : s.size = t.size) : (xorL s t).length = s.size := by unfold xorL; rw [List.length_zipWith, length_lst, length_lst]; omega
theorem xorL_succ {s t : ByteArray} (h : s.size = t.size) (k : Nat) (hk : k < s.size) : ((xorL s t).take (k + 1)).flatMap encByte = ((xorL s t).take k).flatMap encByte ++ [.int .u8 ((s[k] ^^^ t[k]'(by omega)).toNat : Int)] := by
  have hz : k < (xorL s t).length := by rw [xorL_len h]; exact hk
  rw [List.take_succ_eq_append_getElem hz, List.flatMap_append]
  congr 1
  have hg : (xorL s t)[k] = s[k] ^^^ t[k]'(by omega) := by
    have := List.getElem_zipWith (f := fun a b : UInt8 => a ^^^ b) (l := lst s) (l' := lst t) (i := k) (h := hz)
    exact this
  rw [hg]
  rfl
end Go.Proofs.YtgjijcgkmofaaaaDoor
