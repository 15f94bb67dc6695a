/-
  device.Write and the document's DeviceWritten: a sector is written in a copy; the law DeviceWrites. Conditions: the argument reads as a device.
-/
import Derived.Test.YtokpjgpdkmimgaaWDevTurn
import Derived.Test.YtokpjgpdkmimgaaWEncode
namespace Go.Proofs.Ytokpjgpdkmimgaa
set_option linter.unusedSimpArgs false
set_option linter.unusedVariables false
open Go.RowKit

theorem write_good {d : Dev} {k : Nat} {no : Int} {s : ByteArray} (h : touchCode d k = 0) (h2 : (encodeS no s).2 = 0) : writeS d k no s = (⟨d.sec.set k (encodeS no s).1, d.lost.set k false⟩, 0) := by
  unfold writeS; rw [if_pos h, if_pos h2]; rfl
theorem write_bad2 {d : Dev} {n no : Int} {s : ByteArray} (h : touchCode d n = 0) (h2 : ¬ (encodeS no s).2 = 0) : writeS d n no s = (⟨[], []⟩, (encodeS no s).2) := by
  unfold writeS; rw [if_pos h, if_neg h2]
theorem write_bad1 {d : Dev} {n no : Int} {s : ByteArray} (h : ¬ touchCode d n = 0) : writeS d n no s = (⟨[], []⟩, touchCode d n) := by
  unfold writeS; rw [if_neg h]

set_option maxRecDepth 100000 in
set_option maxHeartbeats 800000 in
theorem devWrite_any (cs : List Value) (d : Dev) (n no : Int) (s : ByteArray) (w : World) (h : RDev w cs d) (hn : I64 n) (ho : I64 no) (hs : s.size ≤ 140737488355328) :
    Calls Try.prog 26 #[.agg cs.toArray, .int .i64 n, .int .i64 no, .string s] w fun e w' => ∃ A1 c1 A2 c2, e = .returned (.tuple #[.agg #[.slice A1 (writeS d n no s).1.sec.length c1, .slice A2 (writeS d n no s).1.lost.length c2], .int .i64 (writeS d n no s).2]) ∧ Ext w w' ∧
      ODev 9 4 w' w.heap.size (.slice A1 (writeS d n no s).1.sec.length c1) (.slice A2 (writeS d n no s).1.lost.length c2) (writeS d n no s).1 := by
  obtain ⟨A1, c1, A2, c2, rfl⟩ := h.form
  go_enter Try.func26, Try.ntmps26
  go_wp2_with fail
  refine calls_abs (fun W => Ext w W ∧ Blk_ W w.heap.size 54 #[.slice A1 d.sec.length c1, .slice A2 d.lost.length c2] ∧ Blk_ W (w.heap.size + 1) 54 #[.slice none 0 0, .slice none 0 0]) ⟨((Ext.refl _).alloc _).alloc _, (Blk_.new _ _ _).alloc _, Blk_.new1 _ _ _ _⟩ ?_
  rintro W ⟨hx, hbk, hbr⟩
  refine (devAt_any [.slice A1 d.sec.length c1, .slice A2 d.lost.length c2] d n W (h.up hx) hn).mono ?_
  rintro e w1 ⟨rfl, hx1⟩
  have hb1 := hbk.ext hx1
  have hbr1 := hbr.ext hx1
  have f0 := hb1.cell 0
  have f1 := hb1.cell 1
  simp at f0 f1
  have hr1 := h.up (hx.trans hx1)
  have hx0 := hx.trans hx1
  clear h hbk hbr hx hx1
  by_cases hc : touchCode d n = 0
  · rw [hc]
    have hcold := hc
    go_wp2_with fail
    refine (encode_any no s _ ho hs).mono ?_
    rintro e w1' ⟨rfl, hx1'⟩
    have hbr1_ := hbr1.ext hx1'
    have hb1_ := hb1.ext hx1'
    have hr1_ := hr1.up hx1'
    have hx0_ := hx0.trans hx1'
    have f0_ := hx1'.cell f0
    have f1_ := hx1'.cell f1
    clear hbr1 hb1 hr1 hx0 f0 f1 hx1'
    have hbr1 := hbr1_; have hb1 := hb1_; have hr1 := hr1_; have hx0 := hx0_; have f0 := f0_; have f1 := f1_
    clear hbr1_ hb1_ hr1_ hx0_ f0_ f1_
    by_cases hE : (encodeS no s).2 = 0
    · obtain ⟨hm, n0, n1⟩ := touch_zero hc
      obtain ⟨m1, m2, m3, m4⟩ := devMay_len hm
      obtain ⟨k, rfl⟩ := Int.eq_ofNat_of_zero_le n0
      have hf := write_good (d := d) (k := k) (no := no) (s := s) hc hE
      have HT := Lib.hid (encodeS_small no s)
      have hlp : 0 < d.sec.length := by omega
      have hlp2 : 0 < d.lost.length := by omega
      have hk2' : (k : Int) < (d.sec.length : Int) := by omega
      have hk3' : (k : Int) < (d.lost.length : Int) := by omega
      rw [hE]
      have HF := Lib.hid hf
      clear hf hc hcold hE m4 hm m1 m2 m3 n0
      generalize hT : (encodeS no s).1 = T at *
      have HTE := Lib.hid hT
      clear hT
      go_wp2_with fail
      refine (devCopy_any [.slice A1 d.sec.length c1, .slice A2 d.lost.length c2] d _ hr1).mono ?_
      rintro e w2 ⟨B1, k1, B2, k2, rfl, hx2, o1, o2⟩
      have hod := hr1.own o1 o2
      clear o1 o2
      have hb2 := hb1.ext hx2
      have hbr2 := hbr1.ext hx2
      obtain ⟨g, rfl, hg1, hg2, hg3⟩ := own_form hod.1 hlp
      obtain ⟨g2, rfl, hg4, hg5, hg6⟩ := own_form hod.2.1 hlp2
      have hgg : g ≠ g2 := by
        rintro rfl
        exact own_other hod.1 hod.2.1 (by decide) rfl
      have hgg2 : ¬ (g2 = g) := fun e => hgg e.symm
      have hgg1 : ¬ (g = g2) := hgg
      have g0 := hb2.cell 0
      have g1 := hb2.cell 1
      have z0 := hb2.frozen 0
      have z1 := hb2.frozen 1
      have y0 := hbr2.cell 0
      have y1 := hbr2.cell 1
      have x0 := hbr2.frozen 0
      have x1 := hbr2.frozen 1
      simp at g0 g1 y0 y1
      have hlt := hbr1.lt
      have hlt2 := hbr2.lt
      have hlt3 := hb2.lt
      have ck := (hod.1.cellAt k (by omega)).trans (flat_str_get d.sec k (by omega))
      have ck2 := (hod.2.1.cellAt k (by omega)).trans (flat_bool_get d.lost k (by omega))
      have zk := hg3 k
      have zk2 := hg6 k
      have ne1 : ¬ (w.heap.size = g) := by omega
      have ne2 : ¬ (g = w.heap.size) := by omega
      have ne3 : ¬ (w.heap.size + 1 = g) := by omega
      have ne4 : ¬ (g = w.heap.size + 1) := by omega
      have ne5 : ¬ (w.heap.size = g2) := by omega
      have ne6 : ¬ (g2 = w.heap.size) := by omega
      have ne7 : ¬ (w.heap.size + 1 = g2) := by omega
      have ne8 : ¬ (g2 = w.heap.size + 1) := by omega
      have hgw : w.heap.size ≤ g := by omega
      have hgw2 : w.heap.size ≤ g2 := by omega
      have HX := Lib.hid (hx0.trans hx2)
      have HO := Lib.hid hod
      clear hr1 f0 f1 hb1 hbr1 hx0 hx2 hg3 hg6 hod
      have HU := Lib.hid ((hb2.set 0 (.slice (some ⟨g, 0, none⟩) d.sec.length k1)).set 1 (.slice (some ⟨g2, 0, none⟩) d.lost.length k2))
      have HR := Lib.hid ((hbr2.far (p := ⟨w.heap.size, 0, none⟩) (by simp) (.slice (some ⟨g, 0, none⟩) d.sec.length k1)).far (p := ⟨w.heap.size, 1, none⟩) (by simp) (.slice (some ⟨g2, 0, none⟩) d.lost.length k2))
      have HO3 := Lib.hid ((HO.out.far (p := ⟨w.heap.size, 0, none⟩) (by simp; omega) (.slice (some ⟨g, 0, none⟩) d.sec.length k1)).far (p := ⟨w.heap.size, 1, none⟩) (by simp; omega) (.slice (some ⟨g2, 0, none⟩) d.lost.length k2))
      have X3 := Lib.hid ((HX.out.setCell (p := ⟨w.heap.size, 0, none⟩) (by simp) (.slice (some ⟨g, 0, none⟩) d.sec.length k1)).setCell (p := ⟨w.heap.size, 1, none⟩) (by simp) (.slice (some ⟨g2, 0, none⟩) d.lost.length k2))
      clear hb2 hbr2
      go_wp2_with fail
      refine wp_abs (fun W => Ext w W ∧ Blk_ W w.heap.size 54 _ ∧ Blk_ W (w.heap.size + 1) 54 _ ∧ ODev 9 4 W w1'.heap.size (.slice (some ⟨g, 0, none⟩) d.sec.length k1) (.slice (some ⟨g2, 0, none⟩) d.lost.length k2) d) ⟨X3.out, HU.out, HR.out, HO3.out⟩ ?_
      rintro W3 ⟨e3, b3, r3, o3⟩
      clear HU HR HO3 X3 z0 z1 x0 x1 y0 y1 g0 g1 ck ck2 zk zk2
      have q0 := b3.cell 0
      have q1 := b3.cell 1
      have z0 := b3.frozen 0
      have z1 := b3.frozen 1
      have y0 := r3.cell 0
      have y1 := r3.cell 1
      have x0 := r3.frozen 0
      have x1 := r3.frozen 1
      simp at q0 q1 y0 y1
      have ck := (o3.1.cellAt k (by omega)).trans (flat_str_get d.sec k (by omega))
      have ck2 := (o3.2.1.cellAt k (by omega)).trans (flat_bool_get d.lost k (by omega))
      have zk := o3.1.frozenAt k
      have zk2 := o3.2.1.frozenAt k
      refine wp_region_begin (S := fun W' => W'.cell? ⟨w.heap.size, 0, none⟩ = some (.slice (some ⟨g, 0, none⟩) d.sec.length k1) ∧ W'.cell? ⟨w.heap.size, 1, none⟩ = some (.slice (some ⟨g2, 0, none⟩) d.lost.length k2)) (n := 10) (by kernel_rfl) rfl (by kernel_rfl) rfl ?_
      have hS0 : (fun W' => W'.cell? ⟨w.heap.size, 0, none⟩ = some (.slice (some ⟨g, 0, none⟩) d.sec.length k1) ∧ W'.cell? ⟨w.heap.size, 1, none⟩ = some (.slice (some ⟨g2, 0, none⟩) d.lost.length k2)) W3.drew := ⟨q0, q1⟩
      refine wpAnyH_takeL (i := 0) (v := ?_) rfl (by kernel_rfl) (fun _ _ _ h => h) rfl ?_ hS0 ?_
      rotate_left
      · intro w' hS
        try dsimp only at hS
        go_simp
        rfl
      try simp only [Act.put, List.setIfInBounds_toArray, List.set_cons_zero, List.set_cons_succ]
      refine wpAnyH_takeL (i := 1) (v := ?_) rfl (by kernel_rfl) (fun _ _ _ h => h) rfl ?_ hS0 ?_
      rotate_left
      · intro w' hS
        try dsimp only at hS
        go_simp
        rfl
      try simp only [Act.put, List.setIfInBounds_toArray, List.set_cons_zero, List.set_cons_succ]
      refine wpAnyH_takeL (i := 2) (v := ?_) rfl (by kernel_rfl) (fun _ _ _ h => h) rfl ?_ hS0 ?_
      rotate_left
      · intro w' hS
        try dsimp only at hS
        go_simp
        rfl
      try simp only [Act.put, List.setIfInBounds_toArray, List.set_cons_zero, List.set_cons_succ]
      refine wpAnyH_takeL (i := 3) (v := ?_) rfl (by kernel_rfl) (fun _ _ _ h => h) rfl ?_ hS0 ?_
      rotate_left
      · intro w' hS
        try dsimp only at hS
        go_simp
        rfl
      try simp only [Act.put, List.setIfInBounds_toArray, List.set_cons_zero, List.set_cons_succ]
      refine wpAnyH_takeL (i := 4) (v := ?_) rfl (by kernel_rfl) (fun _ _ _ h => h) rfl ?_ hS0 ?_
      rotate_left
      · intro w' hS
        try dsimp only at hS
        go_simp
        rfl
      try simp only [Act.put, List.setIfInBounds_toArray, List.set_cons_zero, List.set_cons_succ]
      refine wpAnyH_takeL (i := 5) (v := ?_) rfl (by kernel_rfl) (fun _ _ _ h => h) rfl ?_ hS0 ?_
      rotate_left
      · intro w' hS
        try dsimp only at hS
        go_simp
        rfl
      try simp only [Act.put, List.setIfInBounds_toArray, List.set_cons_zero, List.set_cons_succ]
      refine wpAnyH_takeL (i := 6) (v := ?_) rfl (by kernel_rfl) (fun _ _ _ h => h) rfl ?_ hS0 ?_
      rotate_left
      · intro w' hS
        try dsimp only at hS
        go_simp
        rfl
      try simp only [Act.put, List.setIfInBounds_toArray, List.set_cons_zero, List.set_cons_succ]
      refine wpAnyH_takeL (i := 7) (v := ?_) rfl (by kernel_rfl) (fun _ _ _ h => h) rfl ?_ hS0 ?_
      rotate_left
      · intro w' hS
        try dsimp only at hS
        go_simp
        rfl
      try simp only [Act.put, List.setIfInBounds_toArray, List.set_cons_zero, List.set_cons_succ]
      refine wpAnyH_oneL (i := 8) rfl (by kernel_rfl) rfl (fun K hK => ?_)
      go_wp2_with fail
      have b4 := b3.far (p := ⟨g, k, none⟩) ne1 (.string T)
      have r4 := r3.far (p := ⟨g, k, none⟩) ne3 (.string T)
      have o4 := o3.setSec rfl (by decide) k T (by have := HT.out; omega)
      have e4 := e3.setCell (p := ⟨g, k, none⟩) (by simp; omega) (.string T)
      have q4 := b4.cell 0
      have q5 := b4.cell 1
      simp at q4 q5
      refine hK _ _ ⟨q4, q5⟩ ?_
      clear hK K
      refine wpAnyH_takeL (i := 9) (v := ?_) rfl (by kernel_rfl) (fun _ _ _ h => h) rfl ?_ ⟨q4, q5⟩ ?_
      rotate_left
      · intro w' hS
        try dsimp only at hS
        go_simp
        rfl
      try simp only [Act.put, List.setIfInBounds_toArray, List.set_cons_zero, List.set_cons_succ]
      refine wpAnyH_endL (by kernel_rfl) (fun K hK => ?_)
      have b5 := b4.far (p := ⟨g2, k, none⟩) ne5 (.bool false)
      have r5 := r4.far (p := ⟨g2, k, none⟩) ne7 (.bool false)
      have HB := Lib.hid ((r5.set 0 (.slice (some ⟨g, 0, none⟩) d.sec.length k1)).set 1 (.slice (some ⟨g2, 0, none⟩) d.lost.length k2))
      have HO5 := Lib.hid (o4.setLost rfl (by decide) k false)
      have HE := Lib.hid e4
      clear b3 r3 o3 e3 b4 r4 o4 e4 b5 r5 q4 q5 hS0
      go_wp2_with fail
      refine bodyPost_ret (res_cell_tmp rfl rfl HB.out Try.underlying54 rfl (by kernel_rfl)) rfl ?_
      rw [HF.out]
      refine ⟨some ⟨g, 0, none⟩, k1, some ⟨g2, 0, none⟩, k2, ?_, ?_, ?_⟩
      · rw [List.length_set, List.length_set]; rfl
      · exact (((HE.out.setCell (p := ⟨g2, k, none⟩) hgw2 _).setCell (p := ⟨w.heap.size + 1, 0, none⟩) (Nat.le_succ _) _).setCell (p := ⟨w.heap.size + 1, 1, none⟩) (Nat.le_succ _) _).drew
      · have o6 := ((HO5.out.far (p := ⟨w.heap.size + 1, 0, none⟩) (by simp; omega) (.slice (some ⟨g, 0, none⟩) d.sec.length k1)).far (p := ⟨w.heap.size + 1, 1, none⟩) (by simp; omega) (.slice (some ⟨g2, 0, none⟩) d.lost.length k2)).base (base' := w.heap.size) (by omega)
        rw [List.length_set, List.length_set]
        exact o6
    · have hf := write_bad2 hc hE
      have hE' : ((encodeS no s).2 != 0) = true := by simpa using hE
      have HF := Lib.hid hf
      clear hf
      clear hc hcold hE hr1
      have y0 := hbr1.cell 0
      have y1 := hbr1.cell 1
      have x0 := hbr1.frozen 0
      have x1 := hbr1.frozen 1
      simp at y0 y1
      have HB := Lib.hid ((hbr1.set 0 (.slice none 0 0)).set 1 (.slice none 0 0))
      generalize (encodeS no s).2 = t at *
      go_wp2_with fail
      refine bodyPost_ret (res_cell_tmp rfl rfl HB.out Try.underlying54 rfl (by kernel_rfl)) rfl ?_
      rw [HF.out]
      refine ⟨none, 0, none, 0, rfl, (hx0.setCell (by simp) _).setCell (by simp) _, ?_⟩
      exact ⟨World.ownsRow_nil _ _ _ _, World.ownsRow_nil _ _ _ _, by simp, by simp, fun s hs => by cases hs⟩
  · have hf := write_bad1 (no := no) (s := s) hc
    have hc' : (touchCode d n != 0) = true := by simpa using hc
    have HF := Lib.hid hf
    clear hf
    clear hc hr1
    have y0 := hbr1.cell 0
    have y1 := hbr1.cell 1
    have x0 := hbr1.frozen 0
    have x1 := hbr1.frozen 1
    simp at y0 y1
    have HB := Lib.hid ((hbr1.set 0 (.slice none 0 0)).set 1 (.slice none 0 0))
    generalize touchCode d n = t at *
    go_wp2_with fail
    refine bodyPost_ret (res_cell_tmp rfl rfl HB.out Try.underlying54 rfl (by kernel_rfl)) rfl ?_
    rw [HF.out]
    refine ⟨none, 0, none, 0, rfl, (hx0.setCell (by simp) _).setCell (by simp) _, ?_⟩
    exact ⟨World.ownsRow_nil _ _ _ _, World.ownsRow_nil _ _ _ _, by simp, by simp, fun s hs => by cases hs⟩

end Go.Proofs.Ytokpjgpdkmimgaa
