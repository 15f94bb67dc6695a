/-
  device.Write and the document's DeviceWritten: a sector is written in a copy; the law DeviceWrites. Conditions: the argument reads as a device.
-/
import Derived.Test.YtgjijcgkmofaaaaGreatDoorK7
namespace Go.Proofs.YtgjijcgkmofaaaaGreatDoor
set_option linter.unusedSimpArgs false
set_option linter.unusedVariables false
open Go.RowKit

theorem write_good {d : Dev} {k : Nat} {no : Int} {s : ByteArray} (h : touchCode d k = 0) (h2 : (encodeS no s).2 = 0) : writeS d k no s = (⟨d.sec.set k (encodeS no s).1, d.lost.set k false⟩, 0) := by
  unfold writeS; rw [if_pos h, if_pos h2]; rfl
theorem write_bad2 {d : Dev} {n no : Int} {s : ByteArray} (h : touchCode d n = 0) (h2 : ¬ (encodeS no s).2 = 0) : writeS d n no s = (⟨[], []⟩, (encodeS no s).2) := by
  unfold writeS; rw [if_pos h, if_neg h2]
theorem write_bad1 {d : Dev} {n no : Int} {s : ByteArray} (h : ¬ touchCode d n = 0) : writeS d n no s = (⟨[], []⟩, touchCode d n) := by
  unfold writeS; rw [if_neg h]

set_option maxRecDepth 100000 in
set_option maxHeartbeats 800000 in
theorem devWrite_any (cs : List Value) (d : Dev) (n no : Int) (s : ByteArray) (w : World) (h : RDev w cs d) (hn : I64 n) (ho : I64 no) (hs : s.size ≤ 140737488355328) :
    Calls Tryz.prog 167 #[.agg cs.toArray, .int .i64 n, .int .i64 no, .string s] w fun e w' => ∃ A1 c1 A2 c2, e = .returned (.tuple #[.agg #[.slice A1 (writeS d n no s).1.sec.length c1, .slice A2 (writeS d n no s).1.lost.length c2], .int .i64 (writeS d n no s).2]) ∧ Ext w w' ∧
      ODev 9 4 w' w.heap.size (.slice A1 (writeS d n no s).1.sec.length c1) (.slice A2 (writeS d n no s).1.lost.length c2) (writeS d n no s).1 := by
  obtain ⟨A1, c1, A2, c2, rfl⟩ := h.form
  go_enter Tryz.func167, Tryz.ntmps167
  go_wp2_with fail
  refine calls_abs (fun W => Ext w W ∧ Blk_ W w.heap.size 68 #[.slice A1 d.sec.length c1, .slice A2 d.lost.length c2] ∧ Blk_ W (w.heap.size + 1) 68 #[.slice none 0 0, .slice none 0 0]) ⟨((Ext.refl _).alloc _).alloc _, (Blk_.new _ _ _).alloc _, Blk_.new1 _ _ _ _⟩ ?_
  rintro W ⟨hx, hbk, hbr⟩
  refine (devAt_any [.slice A1 d.sec.length c1, .slice A2 d.lost.length c2] d n W (h.up hx) hn).mono ?_
  rintro e w1 ⟨rfl, hx1⟩
  have hb1 := hbk.ext hx1
  have hbr1 := hbr.ext hx1
  have f0 := hb1.cell 0
  have f1 := hb1.cell 1
  simp at f0 f1
  have hr1 := h.up (hx.trans hx1)
  have hx0 := hx.trans hx1
  clear h hbk hbr hx hx1
  by_cases hc : touchCode d n = 0
  · rw [hc]
    have hcold := hc
    go_wp2_with fail
    refine (encode_any no s _ ho hs).mono ?_
    rintro e w1' ⟨rfl, hx1'⟩
    have hbr1_ := hbr1.ext hx1'
    have hb1_ := hb1.ext hx1'
    have hr1_ := hr1.up hx1'
    have hx0_ := hx0.trans hx1'
    have f0_ := hx1'.cell f0
    have f1_ := hx1'.cell f1
    clear hbr1 hb1 hr1 hx0 f0 f1 hx1'
    have hbr1 := hbr1_; have hb1 := hb1_; have hr1 := hr1_; have hx0 := hx0_; have f0 := f0_; have f1 := f1_
    clear hbr1_ hb1_ hr1_ hx0_ f0_ f1_
    by_cases hE : (encodeS no s).2 = 0
    · obtain ⟨hm, n0, n1⟩ := touch_zero hc
      obtain ⟨m1, m2, m3, m4⟩ := devMay_len hm
      obtain ⟨k, rfl⟩ := Int.eq_ofNat_of_zero_le n0
      have hf := write_good (d := d) (k := k) (no := no) (s := s) hc hE
      have HT := Lib.hid (encodeS_small no s)
      have hlp : 0 < d.sec.length := by omega
      have hlp2 : 0 < d.lost.length := by omega
      have hk2' : (k : Int) < (d.sec.length : Int) := by omega
      have hk3' : (k : Int) < (d.lost.length : Int) := by omega
      rw [hE]
      have HF := Lib.hid hf
      clear hf hc hcold hE m4 hm m1 m2 m3 n0
      generalize hT : (encodeS no s).1 = T at *
      have HTE := Lib.hid hT
      clear hT
      go_wp2_with fail
      refine (devCopy_any [.slice A1 d.sec.length c1, .slice A2 d.lost.length c2] d _ hr1).mono ?_
      rintro e w2 ⟨B1, k1, B2, k2, rfl, hx2, o1, o2⟩
      have hod := hr1.own o1 o2
      clear o1 o2
      have hb2 := hb1.ext hx2
      have hbr2 := hbr1.ext hx2
      obtain ⟨g, rfl, hg1, hg2, hg3⟩ := own_form hod.1 hlp
      obtain ⟨g2, rfl, hg4, hg5, hg6⟩ := own_form hod.2.1 hlp2
      have hgg : g ≠ g2 := by
        rintro rfl
        exact own_other hod.1 hod.2.1 (by decide) rfl
      have hgg2 : ¬ (g2 = g) := fun e => hgg e.symm
      have hgg1 : ¬ (g = g2) := hgg
      have g0 := hb2.cell 0
      have g1 := hb2.cell 1
      have z0 := hb2.frozen 0
      have z1 := hb2.frozen 1
      have y0 := hbr2.cell 0
      have y1 := hbr2.cell 1
      have x0 := hbr2.frozen 0
      have x1 := hbr2.frozen 1
      simp at g0 g1 y0 y1
      have hlt := hbr1.lt
      have hlt2 := hbr2.lt
      have hlt3 := hb2.lt
      have ck := (hod.1.cellAt k (by omega)).trans (flat_str_get d.sec k (by omega))
      have ck2 := (hod.2.1.cellAt k (by omega)).trans (flat_bool_get d.lost k (by omega))
      have zk := hg3 k
      have zk2 := hg6 k
      have ne1 : ¬ (w.heap.size = g) := by omega
      have ne2 : ¬ (g = w.heap.size) := by omega
      have ne3 : ¬ (w.heap.size + 1 = g) := by omega
      have ne4 : ¬ (g = w.heap.size + 1) := by omega
      have ne5 : ¬ (w.heap.size = g2) := by omega
      have ne6 : ¬ (g2 = w.heap.size) := by omega
      have ne7 : ¬ (w.heap.size + 1 = g2) := by omega
      have ne8 : ¬ (g2 = w.heap.size + 1) := by omega
      have hgw : w.heap.size ≤ g := by omega
      have hgw2 : w.heap.size ≤ g2 := by omega
      have HX := Lib.hid (hx0.trans hx2)
      have HO := Lib.hid hod
      clear hr1 f0 f1 hb1 hbr1 hx0 hx2 hg3 hg6 hod
      have HU := Lib.hid ((hb2.set 0 (.slice (some ⟨g, 0, none⟩) d.sec.length k1)).set 1 (.slice (some ⟨g2, 0, none⟩) d.lost.length k2))
      have HR := Lib.hid ((hbr2.far (p := ⟨w.heap.size, 0, none⟩) (by simp) (.slice (some ⟨g, 0, none⟩) d.sec.length k1)).far (p := ⟨w.heap.size, 1, none⟩) (by simp) (.slice (some ⟨g2, 0, none⟩) d.lost.length k2))
      have HO3 := Lib.hid ((HO.out.far (p := ⟨w.heap.size, 0, none⟩) (by simp; omega) (.slice (some ⟨g, 0, none⟩) d.sec.length k1)).far (p := ⟨w.heap.size, 1, none⟩) (by simp; omega) (.slice (some ⟨g2, 0, none⟩) d.lost.length k2))
      have X3 := Lib.hid ((HX.out.setCell (p := ⟨w.heap.size, 0, none⟩) (by simp) (.slice (some ⟨g, 0, none⟩) d.sec.length k1)).setCell (p := ⟨w.heap.size, 1, none⟩) (by simp) (.slice (some ⟨g2, 0, none⟩) d.lost.length k2))
      clear hb2 hbr2
      go_wp2_with fail
      refine wp_abs (fun W => Ext w W ∧ Blk_ W w.heap.size 68 _ ∧ Blk_ W (w.heap.size + 1) 68 _ ∧ ODev 9 4 W w1'.heap.size (.slice (some ⟨g, 0, none⟩) d.sec.length k1) (.slice (some ⟨g2, 0, none⟩) d.lost.length k2) d) ⟨X3.out, HU.out, HR.out, HO3.out⟩ ?_
      rintro W3 ⟨e3, b3, r3, o3⟩
      clear HU HR HO3 X3 z0 z1 x0 x1 y0 y1 g0 g1 ck ck2 zk zk2
      have q0 := b3.cell 0
      have q1 := b3.cell 1
      have z0 := b3.frozen 0
      have z1 := b3.frozen 1
      have y0 := r3.cell 0
      have y1 := r3.cell 1
      have x0 := r3.frozen 0
      have x1 := r3.frozen 1
      simp at q0 q1 y0 y1
      have ck := (o3.1.cellAt k (by omega)).trans (flat_str_get d.sec k (by omega))
      have ck2 := (o3.2.1.cellAt k (by omega)).trans (flat_bool_get d.lost k (by omega))
      have zk := o3.1.frozenAt k
      have zk2 := o3.2.1.frozenAt k
      refine wp_region_begin (S := fun W' => W'.cell? ⟨w.heap.size, 0, none⟩ = some (.slice (some ⟨g, 0, none⟩) d.sec.length k1) ∧ W'.cell? ⟨w.heap.size, 1, none⟩ = some (.slice (some ⟨g2, 0, none⟩) d.lost.length k2)) (n := 10) (by kernel_rfl) rfl (by kernel_rfl) rfl ?_
      have hS0 : (fun W' => W'.cell? ⟨w.heap.size, 0, none⟩ = some (.slice (some ⟨g, 0, none⟩) d.sec.length k1) ∧ W'.cell? ⟨w.heap.size, 1, none⟩ = some (.slice (some ⟨g2, 0, none⟩) d.lost.length k2)) W3.drew := ⟨q0, q1⟩
      refine wpAnyH_takeL (i := 0) (v := ?_) rfl (by kernel_rfl) (fun _ _ _ h => h) rfl ?_ hS0 ?_
      rotate_left
      · intro w' hS
        try dsimp only at hS
        go_simp
        rfl
      try simp only [Act.put, List.setIfInBounds_toArray, List.set_cons_zero, List.set_cons_succ]
      refine wpAnyH_takeL (i := 1) (v := ?_) rfl (by kernel_rfl) (fun _ _ _ h => h) rfl ?_ hS0 ?_
      rotate_left
      · intro w' hS
        try dsimp only at hS
        go_simp
        rfl
      try simp only [Act.put, List.setIfInBounds_toArray, List.set_cons_zero, List.set_cons_succ]
      refine wpAnyH_takeL (i := 2) (v := ?_) rfl (by kernel_rfl) (fun _ _ _ h => h) rfl ?_ hS0 ?_
      rotate_left
      · intro w' hS
        try dsimp only at hS
        go_simp
        rfl
      try simp only [Act.put, List.setIfInBounds_toArray, List.set_cons_zero, List.set_cons_succ]
      refine wpAnyH_takeL (i := 3) (v := ?_) rfl (by kernel_rfl) (fun _ _ _ h => h) rfl ?_ hS0 ?_
      rotate_left
      · intro w' hS
        try dsimp only at hS
        go_simp
        rfl
      try simp only [Act.put, List.setIfInBounds_toArray, List.set_cons_zero, List.set_cons_succ]
      refine wpAnyH_takeL (i := 4) (v := ?_) rfl (by kernel_rfl) (fun _ _ _ h => h) rfl ?_ hS0 ?_
      rotate_left
      · intro w' hS
        try dsimp only at hS
        go_simp
        rfl
      try simp only [Act.put, List.setIfInBounds_toArray, List.set_cons_zero, List.set_cons_succ]
      refine wpAnyH_takeL (i := 5) (v := ?_) rfl (by kernel_rfl) (fun _ _ _ h => h) rfl ?_ hS0 ?_
      rotate_left
      · intro w' hS
        try dsimp only at hS
        go_simp
        rfl
      try simp only [Act.put, List.setIfInBounds_toArray, List.set_cons_zero, List.set_cons_succ]
      refine wpAnyH_takeL (i := 6) (v := ?_) rfl (by kernel_rfl) (fun _ _ _ h => h) rfl ?_ hS0 ?_
      rotate_left
      · intro w' hS
        try dsimp only at hS
        go_simp
        rfl
      try simp only [Act.put, List.setIfInBounds_toArray, List.set_cons_zero, List.set_cons_succ]
      refine wpAnyH_takeL (i := 7) (v := ?_) rfl (by kernel_rfl) (fun _ _ _ h => h) rfl ?_ hS0 ?_
      rotate_left
      · intro w' hS
        try dsimp only at hS
        go_simp
        rfl
      try simp only [Act.put, List.setIfInBounds_toArray, List.set_cons_zero, List.set_cons_succ]
      refine wpAnyH_oneL (i := 8) rfl (by kernel_rfl) rfl (fun K hK => ?_)
      go_wp2_with fail
      have b4 := b3.far (p := ⟨g, k, none⟩) ne1 (.string T)
      have r4 := r3.far (p := ⟨g, k, none⟩) ne3 (.string T)
      have o4 := o3.setSec rfl (by decide) k T (by have := HT.out; omega)
      have e4 := e3.setCell (p := ⟨g, k, none⟩) (by simp; omega) (.string T)
      have q4 := b4.cell 0
      have q5 := b4.cell 1
      simp at q4 q5
      refine hK _ _ ⟨q4, q5⟩ ?_
      clear hK K
      refine wpAnyH_takeL (i := 9) (v := ?_) rfl (by kernel_rfl) (fun _ _ _ h => h) rfl ?_ ⟨q4, q5⟩ ?_
      rotate_left
      · intro w' hS
        try dsimp only at hS
        go_simp
        rfl
      try simp only [Act.put, List.setIfInBounds_toArray, List.set_cons_zero, List.set_cons_succ]
      refine wpAnyH_endL (by kernel_rfl) (fun K hK => ?_)
      have b5 := b4.far (p := ⟨g2, k, none⟩) ne5 (.bool false)
      have r5 := r4.far (p := ⟨g2, k, none⟩) ne7 (.bool false)
      have HB := Lib.hid ((r5.set 0 (.slice (some ⟨g, 0, none⟩) d.sec.length k1)).set 1 (.slice (some ⟨g2, 0, none⟩) d.lost.length k2))
      have HO5 := Lib.hid (o4.setLost rfl (by decide) k false)
      have HE := Lib.hid e4
      clear b3 r3 o3 e3 b4 r4 o4 e4 b5 r5 q4 q5 hS0
      go_wp2_with fail
      refine bodyPost_ret (res_cell_tmp rfl rfl HB.out Tryz.underlying68 rfl (by kernel_rfl)) rfl ?_
      rw [HF.out]
      refine ⟨some ⟨g, 0, none⟩, k1, some ⟨g2, 0, none⟩, k2, ?_, ?_, ?_⟩
      · rw [List.length_set, List.length_set]; rfl
      · exact (((HE.out.setCell (p := ⟨g2, k, none⟩) hgw2 _).setCell (p := ⟨w.heap.size + 1, 0, none⟩) (Nat.le_succ _) _).setCell (p := ⟨w.heap.size + 1, 1, none⟩) (Nat.le_succ _) _).drew
      · have o6 := ((HO5.out.far (p := ⟨w.heap.size + 1, 0, none⟩) (by simp; omega) (.slice (some ⟨g, 0, none⟩) d.sec.length k1)).far (p := ⟨w.heap.size + 1, 1, none⟩) (by simp; omega) (.slice (some ⟨g2, 0, none⟩) d.lost.length k2)).base (base' := w.heap.size) (by omega)
        rw [List.length_set, List.length_set]
        exact o6
    · have hf := write_bad2 hc hE
      have hE' : ((encodeS no s).2 != 0) = true := by simpa using hE
      have HF := Lib.hid hf
      clear hf
      clear hc hcold hE hr1
      have y0 := hbr1.cell 0
      have y1 := hbr1.cell 1
      have x0 := hbr1.frozen 0
      have x1 := hbr1.frozen 1
      simp at y0 y1
      have HB := Lib.hid ((hbr1.set 0 (.slice none 0 0)).set 1 (.slice none 0 0))
      generalize (encodeS no s).2 = t at *
      go_wp2_with fail
      refine bodyPost_ret (res_cell_tmp rfl rfl HB.out Tryz.underlying68 rfl (by kernel_rfl)) rfl ?_
      rw [HF.out]
      refine ⟨none, 0, none, 0, rfl, (hx0.setCell (by simp) _).setCell (by simp) _, ?_⟩
      exact ⟨World.ownsRow_nil _ _ _ _, World.ownsRow_nil _ _ _ _, by simp, by simp, fun s hs => by cases hs⟩
  · have hf := write_bad1 (no := no) (s := s) hc
    have hc' : (touchCode d n != 0) = true := by simpa using hc
    have HF := Lib.hid hf
    clear hf
    clear hc hr1
    have y0 := hbr1.cell 0
    have y1 := hbr1.cell 1
    have x0 := hbr1.frozen 0
    have x1 := hbr1.frozen 1
    simp at y0 y1
    have HB := Lib.hid ((hbr1.set 0 (.slice none 0 0)).set 1 (.slice none 0 0))
    generalize touchCode d n = t at *
    go_wp2_with fail
    refine bodyPost_ret (res_cell_tmp rfl rfl HB.out Tryz.underlying68 rfl (by kernel_rfl)) rfl ?_
    rw [HF.out]
    refine ⟨none, 0, none, 0, rfl, (hx0.setCell (by simp) _).setCell (by simp) _, ?_⟩
    exact ⟨World.ownsRow_nil _ _ _ _, World.ownsRow_nil _ _ _ _, by simp, by simp, fun s hs => by cases hs⟩

end Go.Proofs.YtgjijcgkmofaaaaGreatDoor

/-
  device.New and the document's DeviceOf: a device with empty payloads; the law DeviceNews. Conditions: none.
-/
namespace Go.Proofs.YtgjijcgkmofaaaaGreatDoor
set_option linter.unusedSimpArgs false
set_option linter.unusedVariables false
open Go.RowKit

/-- The first sectors of a new device. -/
def freshSec (from_ : Int) (k : Nat) : List ByteArray := (List.range k).map (fun (i : Nat) => (encodeS (from_ + i) .empty).1)
theorem freshSec_len (f : Int) (k : Nat) : (freshSec f k).length = k := by unfold freshSec; simp
theorem freshSec_succ (f : Int) (k : Nat) : freshSec f (k + 1) = freshSec f k ++ [(encodeS (f + k) .empty).1] := by
  unfold freshSec; rw [List.range_succ, List.map_append]; rfl
theorem fresh_eq (m : Nat) (f : Int) : freshDev m f = ⟨freshSec f m, List.replicate m false⟩ := rfl
theorem new_good {m f : Nat} (h1 : 1 ≤ m) (h2 : m ≤ 64) (h3 : f ≤ 512) : newDevS m f = (freshDev m f, 0) := by
  unfold newDevS; rw [if_pos (by simp [inB]; omega)]; rfl
theorem new_bad {many from_ : Int} (h : ¬ (1 ≤ many ∧ many ≤ 64 ∧ 0 ≤ from_ ∧ from_ ≤ 512)) : newDevS many from_ = (⟨[], []⟩, 2) := by
  unfold newDevS; rw [if_neg (by simp [inB]; omega)]
theorem flat_rep (m : Nat) (b : Bool) : (List.replicate m b).flatMap encBool = List.replicate m (.bool b) := by
  induction m with
  | zero => rfl
  | succ m ih => rw [List.replicate_succ, List.flatMap_cons, ih]; rfl
theorem rep_snoc (m : Nat) (b : Bool) : List.replicate (m + 1) b = List.replicate m b ++ [b] := by rw [List.replicate_succ']

set_option maxRecDepth 100000 in
set_option maxHeartbeats 800000 in
theorem devNew_any (many from_ : Int) (w : World) (hm : I64 many) (hf : I64 from_) :
    Calls Tryz.prog 117 #[.int .i64 many, .int .i64 from_] w fun e w' => ∃ A1 c1 A2 c2, e = .returned (.tuple #[.agg #[.slice A1 (newDevS many from_).1.sec.length c1, .slice A2 (newDevS many from_).1.lost.length c2], .int .i64 (newDevS many from_).2]) ∧ Ext w w' ∧
      ODev 9 4 w' w.heap.size (.slice A1 (newDevS many from_).1.sec.length c1) (.slice A2 (newDevS many from_).1.lost.length c2) (newDevS many from_).1 := by
  by_cases hok : 1 ≤ many ∧ many ≤ 64 ∧ 0 ≤ from_ ∧ from_ ≤ 512
  · obtain ⟨h1, h2, h3, h4⟩ := hok
    obtain ⟨m, rfl⟩ := Int.eq_ofNat_of_zero_le (show 0 ≤ many by omega)
    obtain ⟨f, rfl⟩ := Int.eq_ofNat_of_zero_le h3
    have HF := Lib.hid (new_good (m := m) (f := f) (by omega) (by omega) (by omega))
    obtain ⟨i1, hi1, za1, zb1, zc1⟩ := info_parts info_str
    obtain ⟨i2, hi2, za2, zb2, zc2⟩ := info_parts info_bool
    have HI1 := Lib.hid (And.intro hi1 (And.intro za1 (And.intro zb1 zc1)))
    have HI2 := Lib.hid (And.intro hi2 (And.intro za2 (And.intro zb2 zc2)))
    have hM : m ≤ 64 := by omega
    have hFr : f ≤ 512 := by omega
    have HM := Lib.hid (And.intro hM hFr)
    clear hi1 za1 zb1 zc1 hi2 za2 zb2 zc2 hm hf
    have t1 : decide ((m : Int) < 1) = false := by simp; omega
    have t2 : decide ((64 : Int) < (m : Int)) = false := by simp; omega
    have t3 : decide ((f : Int) < 0) = false := by simp
    have t4 : decide ((512 : Int) < (f : Int)) = false := by simp; omega
    clear h1 h2 h3 h4 hM hFr
    obtain ⟨cs, hcs, hmk⟩ := make_row (P := Tryz.prog) 66 4 i2 (.bool false) Tryz.underlying66 HI2.out.1 HI2.out.2.1 HI2.out.2.2.1 rfl m (by rw [HI2.out.2.2.2]; have := HM.out; omega) (by have := HM.out; omega)
    have HCS := Lib.hid hcs
    clear hcs
    go_enter Tryz.func117, Tryz.ntmps117
    go_wp2_with fail
    clear hmk
    refine wp_abs (fun W => Ext w W ∧ Blk_ W w.heap.size 68 #[.slice none 0 0, .slice none 0 0] ∧ Blk_ W (w.heap.size + 1 + 1) 68 #[.slice none 0 0, .slice (some ⟨w.heap.size + 1, 0, none⟩) m m] ∧
      ODev 9 4 W (w.heap.size + 1) (.slice none 0 0) (.slice (some ⟨w.heap.size + 1, 0, none⟩) m m) ⟨freshSec f 0, List.replicate m false⟩) ⟨(((Ext.refl _).alloc _).alloc _).alloc _, ((Blk_.new _ _ _).alloc _).alloc _, Blk_.new2 _ _ _ _ _, ?_⟩ ?_
    · have how := own_made (w.alloc (.cells #[.slice none 0 0, .slice none 0 0] 68)) 4 cs m _ HCS.out (by simp) (by have := HM.out; omega)
      rw [World.size_alloc] at how
      refine ODev.ext (w := (w.alloc (.cells #[.slice none 0 0, .slice none 0 0] 68)).alloc (.cells cs 4)) ⟨World.ownsRow_nil _ _ _ _, ?_, by simp [freshSec], by rw [List.length_replicate]; have := HM.out; omega, fun s hs => by simp [freshSec] at hs⟩ ((Ext.refl _).alloc _)
      rw [flat_rep, List.length_replicate]
      exact how
    rintro W ⟨hx, hbr, hbd, hod⟩
    go_loopw [29] (fun i wr => ∃ (k : Nat) (A : Option Addr) (c : Nat), i = .int .i64 k ∧ k ≤ m ∧ Ext w wr ∧ Blk_ wr w.heap.size 68 #[.slice none 0 0, .slice none 0 0] ∧ Blk_ wr (w.heap.size + 1 + 1) 68 #[.slice A k c, .slice (some ⟨w.heap.size + 1, 0, none⟩) m m] ∧
      ODev 9 4 wr (w.heap.size + 1) (.slice A k c) (.slice (some ⟨w.heap.size + 1, 0, none⟩) m m) ⟨freshSec f k, List.replicate m false⟩ ∧ (Value.slice A k c).ownBlock ≠ some (w.heap.size + 1 + 1)) (fun i _ => m - (intOf i).toNat)
    case atStart => exact ⟨0, none, 0, rfl, Nat.zero_le _, hx, hbr, hbd, hod, by simp [Value.ownBlock]⟩
    case round =>
      clear hx hbr hbd hod
      obtain ⟨k, A, c, rfl, hk, hx, hbr, hbd, hod, hne⟩ := hrel
      by_cases hlt : k < m
      · have hk64 : (k : Int) < 64 := by have := HM.out; omega
        have hf512 : (f : Int) ≤ 512 := by have := HM.out; omega
        go_wp2_with fail
        refine (encode_any ((f : Int) + (k : Int)) .empty _ ⟨by omega, by omega⟩ (by decide)).mono ?_
        rintro e w2 ⟨rfl, hx2⟩
        have hE : (encodeS ((f : Int) + (k : Int)) .empty).2 = 0 := by rw [encodeS_ok (by omega) (by omega) (by decide)]
        rw [hE]
        have HS := Lib.hid (encodeS_small ((f : Int) + (k : Int)) .empty)
        have hsn := freshSec_succ f k
        generalize (encodeS ((f : Int) + (k : Int)) .empty).1 = T at *
        have HSN := Lib.hid hsn
        have hbd2 := hbd.ext hx2
        have HBR2 := Lib.hid (hbr.ext hx2)
        have HOD2 := Lib.hid (hod.ext hx2)
        have HX2 := Lib.hid (hx.trans hx2)
        have f0 := hbd2.cell 0
        simp at f0
        have hl2 := hbd2.lt
        have ne0 : ¬ (w.heap.size + 1 + 1 = w2.heap.size) := by omega
        have ne1 : ¬ (w2.heap.size = w.heap.size + 1 + 1) := by omega
        clear hsn hE hx2 hbr hbd hx hod
        go_wp2_with (at_builtin; refine wpList_push (.tmp 44) (.tmp 46) 43 rfl rfl (w.heap.size + 1) 9 i1 (.string .empty) 16 Tryz.underlying43 HI1.out.1 HI1.out.2.1 HI1.out.2.2.1 HI1.out.2.2.2 rfl _ k _ rfl (own_len ?ln ((HOD2.out.ext ((Ext.refl _).alloc _)).1)) w2.heap.size 1 (.string T) rfl ?c1 rfl ?c2 ?c3 ?c4 ?_)
        case ln => exact freshSec_len f k
        case c1 => exact (Blk_.new _ _ _).cell 0
        case c2 => unfold maxLen; have := HM.out; omega
        case c3 => have := HM.out; omega
        case c4 => simp; omega
        intro A' c' w3 own3 hg3 hb3
        have hbd3 := (hbd2.ext ((Ext.refl _).alloc _)).grown hg3 (fun g hgg e => hne (by rw [hgg, e]))
        have HBR3 := Lib.hid ((HBR2.out.ext ((Ext.refl _).alloc _)).grown hg3 (fun g hgg e => by have := (HOD2.out.1.lt g hgg).1; omega))
        have HX3 := Lib.hid ((HX2.out.trans ((Ext.refl _).alloc _)).grown hg3 (fun g hgg => by have := (HOD2.out.1.lt g hgg).1; omega))
        have hod3 := (HOD2.out.ext ((Ext.refl _).alloc _)).pushSec (by decide) (own_len (by show _ = (freshSec f k).length + 1; rw [freshSec_len]) own3) hg3 (by show ((freshSec f k).length + 1) * 16 ≤ _; rw [freshSec_len]; have := HM.out; omega) (by have := HS.out; omega)
        have hne3 : (Value.slice A' (k + 1) c').ownBlock ≠ some (w.heap.size + 1 + 1) := by
          rcases hb3 with h | h
          · rw [h]; exact hne
          · rw [h]; simp; omega
        have HO3 := Lib.hid hod3
        have HN3 := Lib.hid hne3
        have HB3 := Lib.hid hbd3
        have g0 := hbd3.cell 0
        have z0 := hbd3.frozen 0
        simp at g0
        clear hbd2 hod3 hne3 hbd3 own3 hg3 hb3 hne f0
        go_wp2_with fail
        go_roundw
        case rel =>
          refine ⟨k + 1, A', c', by go_num, by omega, HX3.out.setCell (by dsimp only; omega) _, HBR3.out.far (by dsimp only; omega) _, HB3.out.set 0 _, ?_, HN3.out⟩
          rw [HSN.out]
          exact HO3.out.off HN3.out (by simp [Value.ownBlock]) _
        case measure => simp [intOf]; omega
      · obtain rfl : k = m := by omega
        have f0 := hbd.cell 0
        have f1 := hbd.cell 1
        have y0 := hbr.cell 0
        have y1 := hbr.cell 1
        have x0 := hbr.frozen 0
        have x1 := hbr.frozen 1
        simp at f0 f1 y0 y1
        have HB := Lib.hid ((hbr.set 0 (.slice A k c)).set 1 (.slice (some ⟨w.heap.size + 1, 0, none⟩) k k))
        clear hlt hk
        go_wp2_with fail
        refine bodyPost_ret (res_cell_tmp rfl rfl HB.out Tryz.underlying68 rfl (by kernel_rfl)) rfl ?_
        rw [HF.out, fresh_eq]
        refine ⟨A, c, some ⟨w.heap.size + 1, 0, none⟩, k, ?_, ?_, ?_⟩
        · simp only [freshSec_len, List.length_replicate]; rfl
        · exact (hx.setCell (p := ⟨w.heap.size, 0, none⟩) (Nat.le_refl _) _).setCell (p := ⟨w.heap.size, 1, none⟩) (Nat.le_refl _) _
        · simp only [freshSec_len, List.length_replicate]
          exact ((hod.far (p := ⟨w.heap.size, 0, none⟩) (by simp) _).far (p := ⟨w.heap.size, 1, none⟩) (by simp) _).base (by omega)
  · have hfin := new_bad hok
    have HF := Lib.hid hfin
    have hcs : (decide (many < 1) = true) ∨ (decide (many < 1) = false ∧ decide ((64 : Int) < many) = true) ∨ (decide (many < 1) = false ∧ decide ((64 : Int) < many) = false ∧ decide (from_ < 0) = true) ∨ (decide (many < 1) = false ∧ decide ((64 : Int) < many) = false ∧ decide (from_ < 0) = false ∧ decide ((512 : Int) < from_) = true) := by
      simp only [decide_eq_true_eq, decide_eq_false_iff_not]; omega
    clear hfin hok hm hf
    have HB := Lib.hid (((Blk_.new w 68 #[.slice none 0 0, .slice none 0 0]).set 0 (.slice none 0 0)).set 1 (.slice none 0 0))
    rcases hcs with t1 | ⟨t1, t2⟩ | ⟨t1, t2, t3⟩ | ⟨t1, t2, t3, t4⟩
    · go_enter Tryz.func117, Tryz.ntmps117
      go_wp2_with fail
      refine bodyPost_ret (res_cell_tmp rfl rfl (Blk_.new w 68 #[.slice none 0 0, .slice none 0 0]) Tryz.underlying68 rfl (by kernel_rfl)) rfl ?_
      rw [HF.out]
      refine ⟨none, 0, none, 0, rfl, (Ext.refl w).alloc _, ?_⟩
      exact ⟨World.ownsRow_nil _ _ _ _, World.ownsRow_nil _ _ _ _, by simp, by simp, fun s hs => by cases hs⟩
    · go_enter Tryz.func117, Tryz.ntmps117
      go_wp2_with fail
      refine bodyPost_ret (res_cell_tmp rfl rfl (Blk_.new w 68 #[.slice none 0 0, .slice none 0 0]) Tryz.underlying68 rfl (by kernel_rfl)) rfl ?_
      rw [HF.out]
      refine ⟨none, 0, none, 0, rfl, (Ext.refl w).alloc _, ?_⟩
      exact ⟨World.ownsRow_nil _ _ _ _, World.ownsRow_nil _ _ _ _, by simp, by simp, fun s hs => by cases hs⟩
    · go_enter Tryz.func117, Tryz.ntmps117
      go_wp2_with fail
      refine bodyPost_ret (res_cell_tmp rfl rfl (Blk_.new w 68 #[.slice none 0 0, .slice none 0 0]) Tryz.underlying68 rfl (by kernel_rfl)) rfl ?_
      rw [HF.out]
      refine ⟨none, 0, none, 0, rfl, (Ext.refl w).alloc _, ?_⟩
      exact ⟨World.ownsRow_nil _ _ _ _, World.ownsRow_nil _ _ _ _, by simp, by simp, fun s hs => by cases hs⟩
    · go_enter Tryz.func117, Tryz.ntmps117
      go_wp2_with fail
      refine bodyPost_ret (res_cell_tmp rfl rfl (Blk_.new w 68 #[.slice none 0 0, .slice none 0 0]) Tryz.underlying68 rfl (by kernel_rfl)) rfl ?_
      rw [HF.out]
      refine ⟨none, 0, none, 0, rfl, (Ext.refl w).alloc _, ?_⟩
      exact ⟨World.ownsRow_nil _ _ _ _, World.ownsRow_nil _ _ _ _, by simp, by simp, fun s hs => by cases hs⟩

end Go.Proofs.YtgjijcgkmofaaaaGreatDoor

/-
  array.New, archive.New and the document's ArrayOf: an array of three new devices; the laws ArrayNews and ArchiveNews. Conditions: none.
-/
namespace Go.Proofs.YtgjijcgkmofaaaaGreatDoor
set_option linter.unusedSimpArgs false
set_option linter.unusedVariables false
open Go.RowKit

theorem arr_good {m : Nat} (h1 : 16 ≤ m) (h2 : m ≤ 64) (h3 : m % 2 = 0) : newArrS m = ([freshDev m 0, freshDev m 0, freshDev (m / 2) 512], 0) := by
  unfold newArrS; rw [if_pos (by simp [inB]; omega)]; rfl
theorem arr_bad {many : Int} (h : ¬ (16 ≤ many ∧ many ≤ 64 ∧ many % 2 = 0)) : newArrS many = ([], 2) := by
  unfold newArrS; rw [if_neg (by simp [inB]; omega)]
/-- The device d of a new array. -/
def devAt (m : Nat) (d : Int) : Dev := if d = 2 then freshDev (m / 2) 512 else freshDev m 0
set_option maxRecDepth 100000 in
set_option maxHeartbeats 800000 in
theorem arrFresh_any (m : Nat) (d : Int) (w : World) (h1 : 16 ≤ m) (h2 : m ≤ 64) (hd : 0 ≤ d ∧ d ≤ 2) :
    Calls Tryz.prog 70 #[.int .i64 m, .int .i64 d] w fun e w' => ∃ A1 c1 A2 c2, e = .returned (.tuple #[.agg #[.slice A1 (devAt m d).sec.length c1, .slice A2 (devAt m d).lost.length c2], .int .i64 0]) ∧ Ext w w' ∧
      ODev 9 4 w' w.heap.size (.slice A1 (devAt m d).sec.length c1) (.slice A2 (devAt m d).lost.length c2) (devAt m d) := by
  by_cases h : d = 2
  · subst h
    have he : devAt m 2 = freshDev (m / 2) 512 := rfl
    have hq : ((m : Int) / 2) = ((m / 2 : Nat) : Int) := by omega
    have hng := new_good (m := m / 2) (f := 512) (by omega) (by omega) (by omega)
    have HQ := Lib.hid (And.intro he (And.intro hq hng))
    clear he hq hng
    have b1 : (0 : Int) ≤ (m : Int) / 2 := by omega
    have b2 : (m : Int) / 2 ≤ 64 := by omega
    go_enter Tryz.func70, Tryz.ntmps70
    go_wp2_with fail
    refine (devNew_any ((m : Int) / 2) 512 _ ⟨by omega, by omega⟩ ⟨by decide, by decide⟩).mono ?_
    rintro e w2 ⟨A1, c1, A2, c2, rfl, hx2, hod⟩
    rw [HQ.out.2.1] at hod ⊢
    have hng : newDevS ((m / 2 : Nat) : Int) 512 = (freshDev (m / 2) 512, 0) := HQ.out.2.2
    rw [hng] at hod ⊢
    have hb := (Blk_.new w 68 #[.slice none 0 0, .slice none 0 0]).ext hx2
    have y0 := hb.cell 0
    have y1 := hb.cell 1
    have x0 := hb.frozen 0
    have x1 := hb.frozen 1
    simp at y0 y1
    have HB := Lib.hid ((hb.set 0 (.slice A1 (freshDev (m / 2) 512).sec.length c1)).set 1 (.slice A2 (freshDev (m / 2) 512).lost.length c2))
    have HX := Lib.hid (((Ext.refl w).alloc _).trans hx2)
    have HO := Lib.hid hod
    clear hng hb hod hx2
    go_wp2_with fail
    refine bodyPost_ret (res_cell_tmp rfl rfl HB.out Tryz.underlying68 rfl (by kernel_rfl)) rfl ?_
    rw [HQ.out.1]
    refine ⟨A1, c1, A2, c2, rfl, (HX.out.setCell (p := ⟨w.heap.size, 0, none⟩) (Nat.le_refl _) _).setCell (p := ⟨w.heap.size, 1, none⟩) (Nat.le_refl _) _, ?_⟩
    exact ((HO.out.far (p := ⟨w.heap.size, 0, none⟩) (by simp) _).far (p := ⟨w.heap.size, 1, none⟩) (by simp) _).base (by simp)
  · have he : devAt m d = freshDev m 0 := by unfold devAt; rw [if_neg h]
    have hng := new_good (m := m) (f := 0) (by omega) (by omega) (by omega)
    have HQ := Lib.hid (And.intro he hng)
    have hdb : (d == 2) = false := by simpa using h
    clear he hng h
    have b2 : (m : Int) ≤ 64 := by omega
    go_enter Tryz.func70, Tryz.ntmps70
    go_wp2_with fail
    refine (devNew_any (m : Int) 0 _ ⟨by omega, by omega⟩ ⟨by decide, by decide⟩).mono ?_
    rintro e w2 ⟨A1, c1, A2, c2, rfl, hx2, hod⟩
    have hng : newDevS (m : Int) 0 = (freshDev m 0, 0) := HQ.out.2
    rw [hng] at hod ⊢
    have hb := (Blk_.new w 68 #[.slice none 0 0, .slice none 0 0]).ext hx2
    have y0 := hb.cell 0
    have y1 := hb.cell 1
    have x0 := hb.frozen 0
    have x1 := hb.frozen 1
    simp at y0 y1
    have HB := Lib.hid ((hb.set 0 (.slice A1 (freshDev m 0).sec.length c1)).set 1 (.slice A2 (freshDev m 0).lost.length c2))
    have HX := Lib.hid (((Ext.refl w).alloc _).trans hx2)
    have HO := Lib.hid hod
    clear hng hb hod hx2
    go_wp2_with fail
    refine bodyPost_ret (res_cell_tmp rfl rfl HB.out Tryz.underlying68 rfl (by kernel_rfl)) rfl ?_
    rw [HQ.out.1]
    refine ⟨A1, c1, A2, c2, rfl, (HX.out.setCell (p := ⟨w.heap.size, 0, none⟩) (Nat.le_refl _) _).setCell (p := ⟨w.heap.size, 1, none⟩) (Nat.le_refl _) _, ?_⟩
    exact ((HO.out.far (p := ⟨w.heap.size, 0, none⟩) (by simp) _).far (p := ⟨w.heap.size, 1, none⟩) (by simp) _).base (by simp)
def firstDevs (m : Nat) (k : Nat) : List Dev := (List.range k).map fun (i : Nat) => devAt m i
theorem firstDevs_len (m k : Nat) : (firstDevs m k).length = k := by unfold firstDevs; simp
theorem firstDevs_succ (m k : Nat) : firstDevs m (k + 1) = firstDevs m k ++ [devAt m k] := by unfold firstDevs; rw [List.range_succ, List.map_append]; rfl
theorem firstDevs_three (m : Nat) : firstDevs m 3 = [freshDev m 0, freshDev m 0, freshDev (m / 2) 512] := rfl
theorem info_devr : True := trivial

set_option maxRecDepth 100000 in
set_option maxHeartbeats 800000 in
theorem arrNew_any (many : Int) (w : World) (hm : I64 many) :
    Calls Tryz.prog 42 #[.int .i64 many] w fun e w' => ∃ A c, e = .returned (.tuple #[.agg #[.slice A (newArrS many).1.length c], .int .i64 (newArrS many).2]) ∧ Ext w w' ∧ OArr 68 w' w.heap.size (.slice A (newArrS many).1.length c) (newArrS many).1 := by
  by_cases hok : 16 ≤ many ∧ many ≤ 64 ∧ many % 2 = 0
  · obtain ⟨h1, h2, h3⟩ := hok
    obtain ⟨m, rfl⟩ := Int.eq_ofNat_of_zero_le (show 0 ≤ many by omega)
    have HF := Lib.hid (arr_good (m := m) (by omega) (by omega) (by omega))
    have HM := Lib.hid (And.intro (show 16 ≤ m by omega) (show m ≤ 64 by omega))
    have t1 : decide ((m : Int) < 16) = false := by simp; omega
    have t2 : decide ((64 : Int) < (m : Int)) = false := by simp; omega
    have t3 : ((m : Int) % 2 != 0) = false := by simp; omega
    have b2 : (m : Int) ≤ 64 := by omega
    obtain ⟨i0, hi, hz0, hz1, hz2⟩ := info_parts info_dev
    have HI := Lib.hid (And.intro hi (And.intro hz0 (And.intro hz1 hz2)))
    clear hi hz0 hz1 hz2 h1 h2 h3 hm
    go_enter Tryz.func42, Tryz.ntmps42
    go_wp2_with fail
    refine wp_abs (fun W => Ext w W ∧ Blk_ W w.heap.size 30 #[.slice none 0 0] ∧ Blk_ W (w.heap.size + 1) 30 #[.slice none 0 0]) ⟨((Ext.refl _).alloc _).alloc _, (Blk_.new _ _ _).alloc _, Blk_.new1 _ _ _ _⟩ ?_
    rintro W ⟨hx, hb1, hb2⟩
    clear t1 t2 t3
    go_loopw [21] (fun i wr => ∃ (k : Nat) (A : Option Addr) (c : Nat), i = .int .i64 k ∧ k ≤ 3 ∧ Ext w wr ∧ Blk_ wr w.heap.size 30 #[.slice none 0 0] ∧ Blk_ wr (w.heap.size + 1) 30 #[.slice A k c] ∧ OArr 68 wr (w.heap.size + 2) (.slice A k c) (firstDevs m k)) (fun i _ => 3 - (intOf i).toNat)
    case atStart => exact ⟨0, none, 0, rfl, Nat.zero_le _, hx, hb1, hb2, OArr.nil _ _ _⟩
    case round =>
      clear hx hb1 hb2
      obtain ⟨k, A, c, rfl, hk, hx, hb1, hb2, ho⟩ := hrel
      by_cases hlt : k < 3
      · have hk3 : (k : Int) < 3 := by omega
        go_wp2_with fail
        refine (arrFresh_any m (k : Int) _ HM.out.1 HM.out.2 ⟨by omega, by omega⟩).mono ?_
        rintro e w2 ⟨A1, c1, A2, c2, rfl, hx2, hod⟩
        have hsn := firstDevs_succ m k
        generalize devAt m (k : Int) = dd at *
        have HSN := Lib.hid hsn
        have f0 := (hb2.ext hx2).cell 0
        simp at f0
        have hl1 := hb2.lt
        have hl2 := (hb2.ext hx2).lt
        have HX2 := Lib.hid (hx.trans hx2)
        have ne0 : ¬ (w.heap.size + 1 = w2.heap.size) := by omega
        have ne1 : ¬ (w2.heap.size = w.heap.size + 1) := by omega
        have e3 : Ext wr ((w2.alloc (.cells #[.slice A1 dd.sec.length c1, .slice A2 dd.lost.length c2] 68)).alloc (.cells #[.slice A1 dd.sec.length c1, .slice A2 dd.lost.length c2] 68)) := (hx2.alloc _).alloc _
        have hdn := hod.dev.up (((Ext.refl _).alloc (.cells #[.slice A1 dd.sec.length c1, .slice A2 dd.lost.length c2] 68)).alloc (.cells #[.slice A1 dd.sec.length c1, .slice A2 dd.lost.length c2] 68))
        obtain ⟨xs0, hown0, _⟩ := ho.pushes
        obtain ⟨xs, hown, hpush⟩ := (ho.ext e3).pushes
        rw [firstDevs_len] at hown hpush
        have HOWN := Lib.hid hown
        have HPUSH := Lib.hid hpush
        have HOWN0 := Lib.hid hown0
        have HE3 := Lib.hid e3
        have HDN := Lib.hid hdn
        have HNEW := Lib.hid (And.intro hod.new1 hod.new2)
        have HB1 := Lib.hid hb1
        have HB2 := Lib.hid hb2
        have HXR := Lib.hid hx
        clear hsn hown hpush hown0 e3 hdn hod hb1 hb2 hx2 hx ho
        go_wp2_with (at_builtin; refine wpList_append_at _ rfl (.tmp 35) (.tmp 37) 28 rfl (w.heap.size + 2) 68 i0 (.agg #[.slice none 0 0, .slice none 0 0]) 2 48 Tryz.underlying28 HI.out.1 HI.out.2.1 HI.out.2.2.1 HI.out.2.2.2 rfl (by decide) _ k xs rfl HOWN.out ⟨w2.heap.size + 1, 0, none⟩ 1 1 [.slice A1 dd.sec.length c1, .slice A2 dd.lost.length c2] rfl rfl ?c1 ?c2 ?c3 ?c4 ?c5 ?_)
        case c1 =>
          intro j u hu
          rw [Addr.add_lit, Nat.zero_add, (Blk_.new1 w2 _ 68 _).cell]
          simpa using hu
        case c2 =>
          intro u hu
          simp at hu
          rcases hu with rfl | rfl <;> rfl
        case c3 => unfold maxLen; omega
        case c4 => omega
        case c5 => simp; omega
        intro A' c' w4 hown' hg' hb'
        have hbase : ∀ g, (Value.slice A k c).ownBlock = some g → w.heap.size + 2 ≤ g := fun g hgg => (HOWN.out.lt g hgg).1
        have hox : OArr 68 w4 (w.heap.size + 2) (.slice A' (k + 1) c') (firstDevs m k ++ [dd]) := HPUSH.out w4 _ _ _ _ hown' hg' (by rw [World.size_alloc, World.size_alloc]; exact hb') HDN.out (fun g hgg => by
          refine HDN.out.newG HNEW.out.1 HNEW.out.2 ?_
          exact (HOWN0.out.lt g hgg).2) (HNEW.out.1.mono (by omega)) (HNEW.out.2.mono (by omega))
        have HX4 := Lib.hid ((HXR.out.trans HE3.out).grown hg' (fun g hgg => by have := hbase g hgg; omega))
        have HJ1 := Lib.hid ((HB1.out.ext HE3.out).grown hg' (fun g hgg => by have := hbase g hgg; omega))
        have j2 := (HB2.out.ext HE3.out).grown hg' (fun g hgg => by have := hbase g hgg; omega)
        have HJ2 := Lib.hid j2
        have HOX := Lib.hid hox
        have j2c := j2.cell 0
        have j2f := j2.frozen 0
        simp at j2c
        clear hox hown' hg' hb' hbase j2 f0
        go_wp2_with fail
        go_roundw
        case rel =>
          refine ⟨k + 1, A', c', by go_num, by omega, HX4.out.setCell (by dsimp only; omega) _, HJ1.out.far (by dsimp only; omega) _, HJ2.out.set 0 _, ?_⟩
          rw [HSN.out]
          exact HOX.out.far (by dsimp only; omega) _
        case measure => simp [intOf]; omega
      · obtain rfl : k = 3 := by omega
        have f0 := hb2.cell 0
        have f1 := hb1.cell 0
        have f2 := hb1.frozen 0
        simp at f0 f1
        have HB := Lib.hid (hb1.set 0 (.slice A 3 c))
        clear hlt hk
        go_wp2_with fail
        refine bodyPost_ret (res_cell_tmp rfl rfl HB.out Tryz.underlying30 rfl (by kernel_rfl)) rfl ?_
        rw [HF.out, ← firstDevs_three]
        exact ⟨A, c, rfl, hx.setCell (by dsimp only; omega) _, (ho.far (by dsimp only; omega) _).base (by omega)⟩
  · have HF := Lib.hid (arr_bad hok)
    have hcs : (decide (many < 16) = true) ∨ (decide (many < 16) = false ∧ decide ((64 : Int) < many) = true) ∨ (0 ≤ many ∧ decide (many < 16) = false ∧ decide ((64 : Int) < many) = false ∧ (many % 2 != 0) = true) := by
      simp only [decide_eq_true_eq, decide_eq_false_iff_not, bne_iff_ne, ne_eq]; omega
    clear hok hm
    rcases hcs with t1 | ⟨t1, t2⟩ | ⟨t0, t1, t2, t3⟩
    · go_enter Tryz.func42, Tryz.ntmps42
      go_wp2_with fail
      refine bodyPost_ret (res_cell_tmp rfl rfl (Blk_.new w 30 #[.slice none 0 0]) Tryz.underlying30 rfl (by kernel_rfl)) rfl ?_
      rw [HF.out]
      exact ⟨none, 0, rfl, (Ext.refl w).alloc _, OArr.nil _ _ _⟩
    · go_enter Tryz.func42, Tryz.ntmps42
      go_wp2_with fail
      refine bodyPost_ret (res_cell_tmp rfl rfl (Blk_.new w 30 #[.slice none 0 0]) Tryz.underlying30 rfl (by kernel_rfl)) rfl ?_
      rw [HF.out]
      exact ⟨none, 0, rfl, (Ext.refl w).alloc _, OArr.nil _ _ _⟩
    · go_enter Tryz.func42, Tryz.ntmps42
      go_wp2_with fail
      refine bodyPost_ret (res_cell_tmp rfl rfl (Blk_.new w 30 #[.slice none 0 0]) Tryz.underlying30 rfl (by kernel_rfl)) rfl ?_
      rw [HF.out]
      exact ⟨none, 0, rfl, (Ext.refl w).alloc _, OArr.nil _ _ _⟩

/-- Three devices in a row of the call's own. -/
theorem OArr.three_ {E : TypeId} {w : World} {base : Nat} (hb : base ≤ w.heap.size) {x1 x2 y1 y2 z1 z2 : Value} {d0 d1 d2 : Dev} (h0 : RDev w [x1, x2] d0) (h1 : RDev w [y1, y2] d1) (h2 : RDev w [z1, z2] d2)
    (n0 : New base x1 ∧ New base x2) (n1 : New base y1 ∧ New base y2) (n2 : New base z1 ∧ New base z2) :
    OArr E (w.alloc (.cells #[x1, x2, y1, y2, z1, z2] E)) base (.slice (some ⟨w.heap.size, 0, none⟩) 3 3) [d0, d1, d2] := by
  refine ⟨[(x1, x2), (y1, y2), (z1, z2)], rfl, ⟨rfl, .inr ⟨w.heap.size, 3, _, rfl, hb, heap_alloc_new w _, Nat.le_refl _, by decide, rfl, rfl⟩⟩, fun g hg i hi p hp => ?_, fun i p hp => ?_⟩
  · have : g = w.heap.size := by simpa [Value.ownBlock] using hg.symm
    subst this
    match i, hi with
    | 0, _ => simp at hp; subst hp; exact (h0.old (Nat.le_refl _)).ext ((Ext.refl _).alloc _)
    | 1, _ => simp at hp; subst hp; exact (h1.old (Nat.le_refl _)).ext ((Ext.refl _).alloc _)
    | 2, _ => simp at hp; subst hp; exact (h2.old (Nat.le_refl _)).ext ((Ext.refl _).alloc _)
  · match i with
    | 0 => simp at hp; subst hp; exact n0
    | 1 => simp at hp; subst hp; exact n1
    | 2 => simp at hp; subst hp; exact n2
    | i + 3 => simp at hp
set_option maxRecDepth 100000 in
set_option maxHeartbeats 400000 in
theorem archNew_any (many : Int) (w : World) (hm : I64 many) :
    Calls Tryz.prog 20 #[.int .i64 many] w fun e w' => ∃ A c, e = .returned (.tuple #[.agg #[.slice A (newArrS many).1.length c], .int .i64 (newArrS many).2]) ∧ Ext w w' ∧ OArr 68 w' w.heap.size (.slice A (newArrS many).1.length c) (newArrS many).1 := by
  go_enter Tryz.func20, Tryz.ntmps20
  go_wp2_with fail
  refine (arrNew_any many _ hm).mono ?_
  rintro e w2 ⟨A, c, rfl, hx2, ho⟩
  have hb := (Blk_.new w 30 #[.slice none 0 0]).ext hx2
  have y0 := hb.cell 0
  have x0 := hb.frozen 0
  simp at y0
  have HB := Lib.hid (hb.set 0 (.slice A (newArrS many).1.length c))
  have HX := Lib.hid (((Ext.refl w).alloc _).trans hx2)
  have HO := Lib.hid ho
  clear hb ho hx2
  go_wp2_with fail
  refine bodyPost_ret (res_cell_tmp rfl rfl HB.out Tryz.underlying30 rfl (by kernel_rfl)) rfl ?_
  refine ⟨A, c, rfl, HX.out.setCell (p := ⟨w.heap.size, 0, none⟩) (Nat.le_refl _) _, ?_⟩
  exact (HO.out.far (p := ⟨w.heap.size, 0, none⟩) (by simp) _).base (by simp)
theorem newArr_len (many : Int) : (newArrS many).1.length ≤ 3 := by
  unfold newArrS; split <;> simp

end Go.Proofs.YtgjijcgkmofaaaaGreatDoor

/-
  stream.Read and the document's StreamRead: bytes over sectors, one behind the other; the law StreamReads. Conditions: the argument reads as an array.
-/
namespace Go.Proofs.YtgjijcgkmofaaaaGreatDoor
set_option linter.unusedSimpArgs false
set_option linter.unusedVariables false
open Go.RowKit

theorem fault_state {a : List Dev} {first n : Int} (h : arrMay a = false) : streamFaultS a first n = 9 := by unfold streamFaultS; rw [h]; rfl
theorem fault_size {a : List Dev} {first n : Int} (h : arrMay a = true) (h2 : ¬ (0 ≤ n ∧ n ≤ 1536)) : streamFaultS a first n = 1 := by
  unfold streamFaultS; rw [h, if_neg (by decide), if_pos (by simp [inB]; omega)]
theorem fault_range {a : List Dev} {first n : Int} (h : arrMay a = true) (h2 : 0 ≤ n ∧ n ≤ 1536) (h3 : first < 0 ∨ ((dv a 0).sec.length : Int) < first ∨ ((dv a 0).sec.length : Int) - first < (n + 23) / 24) : streamFaultS a first n = 2 := by
  unfold streamFaultS; rw [h, if_neg (by decide), if_neg (by simp [inB]; omega), if_pos (by simp [inB]; omega)]
theorem fault_none {a : List Dev} {first n : Int} (h : arrMay a = true) (h2 : 0 ≤ n ∧ n ≤ 1536) (h3 : ¬ (first < 0 ∨ ((dv a 0).sec.length : Int) < first ∨ ((dv a 0).sec.length : Int) - first < (n + 23) / 24)) : streamFaultS a first n = 0 := by
  unfold streamFaultS; rw [h, if_neg (by decide), if_neg (by simp [inB]; omega), if_neg (by simp [inB]; omega)]
theorem fault_zero {a : List Dev} {first n : Int} (h : streamFaultS a first n = 0) : arrMay a = true ∧ 0 ≤ n ∧ n ≤ 1536 ∧ 0 ≤ first ∧ first + (n + 23) / 24 ≤ (dv a 0).sec.length := by
  cases hm : arrMay a with
  | false => rw [fault_state hm] at h; exact absurd h (by decide)
  | true =>
    by_cases h2 : 0 ≤ n ∧ n ≤ 1536
    · by_cases h3 : first < 0 ∨ ((dv a 0).sec.length : Int) < first ∨ ((dv a 0).sec.length : Int) - first < (n + 23) / 24
      · rw [fault_range hm h2 h3] at h; exact absurd h (by decide)
      · exact ⟨rfl, h2.1, h2.2, by omega, by omega⟩
    · rw [fault_size hm h2] at h; exact absurd h (by decide)

theorem sectors_quiet (n : Int) (w : World) (h0 : 0 ≤ n) (h1 : n ≤ 140737488355328) :
    Calls Tryz.prog 52 #[.int .i64 n] w fun e w' => e = .returned (.int .i64 ((n + 23) / 24)) ∧ w' = w := (sectors_any n w h0 h1).mono fun _ _ h => ⟨h.1, h.2.symm⟩
set_option maxRecDepth 100000 in
set_option maxHeartbeats 8000000 in
theorem streamIn_any (cs : List Value) (a : List Dev) (first n : Int) (w : World) (h : RArr w cs a) (hf : I64 first) (hn : I64 n) :
    Calls Tryz.prog 86 #[.agg cs.toArray, .int .i64 first, .int .i64 n] w fun e w' => e = .returned (.int .i64 (streamFaultS a first n)) ∧ Ext w w' := by
  obtain ⟨A, c, rfl⟩ := h.form
  go_enter Tryz.func86, Tryz.ntmps86
  go_wp2_with fail
  refine calls_abs (fun W => Ext w W ∧ Blk_ W w.heap.size 30 #[.slice A a.length c]) ⟨(Ext.refl _).alloc _, Blk_.new _ _ _⟩ ?_
  rintro W ⟨hx, hb⟩
  refine (arrCheck_any [.slice A a.length c] a W (h.up hx)).mono ?_
  rintro e w1 ⟨rfl, hx1⟩
  have hb1 := hb.ext hx1
  have f0 := hb1.cell 0
  simp at f0
  have hr1 := h.up (hx.trans hx1)
  have HX := Lib.hid (hx.trans hx1)
  clear h hb hx hx1
  cases hm : arrMay a with
  | false =>
    have HF := Lib.hid (fault_state (first := first) (n := n) hm)
    rw [arrCode_false hm]
    clear hm hr1
    go_wp2_with fail
    go_ret
    exact ⟨ret_int HF.out.symm, HX.out⟩
  | true =>
    obtain ⟨p1, p2, _⟩ := arr_parts hm
    rw [arrCode_true hm]
    obtain ⟨b, o, rfl, hl⟩ := hr1.look 0 (by omega)
    obtain ⟨A1, c1, A2, c2, q0, q1, hd⟩ := hl 0 (by omega)
    simp only [Nat.zero_mul, Nat.add_zero] at q0 q1
    have h3 : (0 : Int) < (a.length : Int) := by omega
    have hlen := (devMay_len p2).2.1
    by_cases h2 : 0 ≤ n ∧ n ≤ 1536
    · have hcs : (decide (first < 0) = true ∧ streamFaultS a first n = 2) ∨ (decide (first < 0) = false ∧ decide (((dv a 0).sec.length : Int) < first) = true ∧ streamFaultS a first n = 2) ∨
          (decide (first < 0) = false ∧ decide (((dv a 0).sec.length : Int) < first) = false ∧ decide (((dv a 0).sec.length : Int) - first < (n + 23) / 24) = true ∧ streamFaultS a first n = 2) ∨
          (decide (first < 0) = false ∧ decide (((dv a 0).sec.length : Int) < first) = false ∧ decide (((dv a 0).sec.length : Int) - first < (n + 23) / 24) = false ∧ streamFaultS a first n = 0) := by
        simp only [decide_eq_true_eq, decide_eq_false_iff_not]
        by_cases k1 : first < 0
        · exact .inl ⟨k1, fault_range hm h2 (.inl k1)⟩
        · by_cases k2 : ((dv a 0).sec.length : Int) < first
          · exact .inr (.inl ⟨k1, k2, fault_range hm h2 (.inr (.inl k2))⟩)
          · by_cases k3 : ((dv a 0).sec.length : Int) - first < (n + 23) / 24
            · exact .inr (.inr (.inl ⟨k1, k2, k3, fault_range hm h2 (.inr (.inr k3))⟩))
            · exact .inr (.inr (.inr ⟨k1, k2, k3, fault_none hm h2 (by omega)⟩))
      obtain ⟨n0, n1⟩ := h2
      have u1 : decide (n < 0) = false := by simp; omega
      have u2 : decide ((1536 : Int) < n) = false := by simp; omega
      have HN := Lib.hid (And.intro n0 n1)
      have HL := Lib.hid hlen
      clear hm hl hr1 p1 p2 hb1 hf hn hlen n0 n1
      generalize hLe : (dv a 0).sec.length = L at *
      clear hLe
      have hL64 := HL.out
      rcases hcs with ⟨t1, hfin⟩ | ⟨t1, t2, hfin⟩ | ⟨t1, t2, t3, hfin⟩ | ⟨t1, t2, t3, hfin⟩
      · have HF := Lib.hid hfin
        clear hfin
        go_wp2_with fail
        go_quiet (fail)
        go_wp2_with fail
        go_ret
        exact ⟨ret_int HF.out.symm, by first | exact HX.out | exact HX.out.drew | exact HX.out.drewN _⟩
      · have HF := Lib.hid hfin
        clear hfin
        go_wp2_with fail
        go_quiet (fail)
        go_wp2_with fail
        go_ret
        exact ⟨ret_int HF.out.symm, by first | exact HX.out | exact HX.out.drew | exact HX.out.drewN _⟩
      · have HF := Lib.hid hfin
        clear hfin
        have t1' := of_decide_eq_false t1
        have t2' := of_decide_eq_false t2
        have hf0 : 0 ≤ first := by omega
        have hf1 : first ≤ (L : Int) := by omega
        clear t1' t2'
        go_wp2_with fail
        go_quiet (first | (go_at_call 52; refine Calls.quiet_of_same (sectors_quiet n _ HN.out.1 (by have := HN.out.2; omega))))
        go_wp2_with fail
        go_ret
        exact ⟨ret_int HF.out.symm, by first | exact HX.out | exact HX.out.drew | exact HX.out.drewN _⟩
      · have HF := Lib.hid hfin
        clear hfin
        have t1' := of_decide_eq_false t1
        have t2' := of_decide_eq_false t2
        have hf0 : 0 ≤ first := by omega
        have hf1 : first ≤ (L : Int) := by omega
        clear t1' t2'
        go_wp2_with fail
        go_quiet (first | (go_at_call 52; refine Calls.quiet_of_same (sectors_quiet n _ HN.out.1 (by have := HN.out.2; omega))))
        go_wp2_with fail
        go_ret
        exact ⟨ret_int HF.out.symm, by first | exact HX.out | exact HX.out.drew | exact HX.out.drewN _⟩
    · have HF := Lib.hid (fault_size (first := first) hm h2)
      have hcs : decide (n < 0) = true ∨ (decide (n < 0) = false ∧ decide ((1536 : Int) < n) = true) := by
        simp only [decide_eq_true_eq, decide_eq_false_iff_not]; omega
      clear hm h2 hl hr1 p1 p2 hn hf hlen
      rcases hcs with t1 | ⟨t1, t2⟩
      · go_wp2_with fail
        go_ret
        exact ⟨ret_int HF.out.symm, HX.out⟩
      · go_wp2_with fail
        go_ret
        exact ⟨ret_int HF.out.symm, HX.out⟩

theorem sread_bad {a : List Dev} {first n : Int} (h : streamFaultS a first n ≠ 0) : streamReadS a first n = (.empty, streamFaultS a first n) := by unfold streamReadS; rw [if_pos h]
theorem sread_lost {a : List Dev} {first n : Int} {e : Int} (h : streamFaultS a first n = 0) (h2 : streamReadLoop a ((n + 23) / 24).toNat first .empty = (.empty, e)) (h3 : e ≠ 0) : streamReadS a first n = (.empty, e) := by
  unfold streamReadS; rw [if_neg (by simpa using h), h2, if_pos h3]
theorem sread_good {a : List Dev} {first n : Int} {s : ByteArray} (h : streamFaultS a first n = 0) (h2 : streamReadLoop a ((n + 23) / 24).toNat first .empty = (s, 0)) : streamReadS a first n = (s.extract 0 n.toNat, 0) := by
  unfold streamReadS; rw [if_neg (by simpa using h), h2, if_neg (by simp)]
theorem loop_lost {a : List Dev} {m : Nat} {k : Int} {s : ByteArray} (h : (arrReadS a k).2.2 ≠ 0) : streamReadLoop a (m + 1) k s = (.empty, (arrReadS a k).2.2) := by
  unfold streamReadLoop; rw [if_pos h]
theorem loop_next {a : List Dev} {m : Nat} {k : Int} {s : ByteArray} (h : (arrReadS a k).2.2 = 0) : streamReadLoop a (m + 1) k s = streamReadLoop a m (k + 1) (s ++ (arrReadS a k).1) := by
  rw [streamReadLoop, if_neg (by simpa using h)]

set_option maxRecDepth 100000 in
set_option maxHeartbeats 4000000 in
theorem streamRead_any (cs : List Value) (a : List Dev) (first n : Int) (w : World) (h : RArr w cs a) (hf : I64 first) (hn : I64 n) :
    Calls Tryz.prog 58 #[.agg cs.toArray, .int .i64 first, .int .i64 n] w fun e w' => e = .returned (.tuple #[.string (streamReadS a first n).1, .int .i64 (streamReadS a first n).2]) ∧ Ext w w' := by
  obtain ⟨A, c, rfl⟩ := h.form
  go_enter Tryz.func58, Tryz.ntmps58
  go_wp2_with fail
  refine calls_abs (fun W => Ext w W ∧ Blk_ W w.heap.size 30 #[.slice A a.length c]) ⟨(Ext.refl _).alloc _, Blk_.new _ _ _⟩ ?_
  rintro W ⟨hx, hb⟩
  refine (streamIn_any [.slice A a.length c] a first n W (h.up hx) hf hn).mono ?_
  rintro e w1 ⟨rfl, hx1⟩
  have hb1 := hb.ext hx1
  have hxw := hx.trans hx1
  have HH := Lib.hid h
  clear h hb hx hx1
  by_cases hs : streamFaultS a first n = 0
  · obtain ⟨hm, n0, n1, f0, f1⟩ := fault_zero hs
    have hlen := (devMay_len (arr_parts hm).2.1).2.1
    have hf64 : first ≤ 64 := by omega
    obtain ⟨m, hmm⟩ := Int.eq_ofNat_of_zero_le (show 0 ≤ (n + 23) / 24 by omega)
    have hm64 : m ≤ 64 := by omega
    have hfm : first + (m : Int) ≤ 64 := by omega
    have hmt : ((n + 23) / 24).toNat = m := by rw [hmm]; rfl
    have HSZ := Lib.hid (show n ≤ 24 * (m : Int) by omega)
    have hgood := fun (s : ByteArray) (h : streamReadLoop a m first .empty = (s, 0)) => sread_good hs (by rw [hmt]; exact h)
    have hlost := fun (e : Int) (h : streamReadLoop a m first .empty = (.empty, e)) (h3 : e ≠ 0) => sread_lost hs (by rw [hmt]; exact h) h3
    have HG := Lib.hid hgood
    have HLO := Lib.hid hlost
    rw [hs]
    have HNN := Lib.hid (And.intro n0 n1)
    have HMM := Lib.hid hmm
    have HM64 := Lib.hid (And.intro hm64 hfm)
    clear hgood hlost hs hm hlen hmt f1 hmm hf
    go_wp2_with (first | (go_at_call 52; refine (sectors_any n _ HNN.out.1 (by have := HNN.out.2; omega)).mono ?_; rintro e w9 ⟨rfl, rfl⟩))
    go_loopw [9, 23] (fun s i wr => ∃ (k : Nat) (t : ByteArray), i = .int .i64 k ∧ s = .string t ∧ k ≤ m ∧ t.size = 24 * k ∧ Ext w wr ∧ Blk_ wr w.heap.size 30 #[.slice A a.length c] ∧ streamReadLoop a (m - k) (first + k) t = streamReadLoop a m first .empty) (fun _ i _ => m - (intOf i).toNat)
    case atStart => exact ⟨0, .empty, rfl, rfl, Nat.zero_le _, rfl, hxw, hb1, by simp⟩
    case round =>
      clear hxw hb1
      obtain ⟨k, t, rfl, rfl, hk, htz, hx, hb, heq⟩ := hrel
      have g0 := hb.cell 0
      simp at g0
      have HEQ := Lib.hid heq
      have HTZ := Lib.hid htz
      have hsm : (m : Int) ≤ 64 := by have := HM64.out.1; omega
      clear heq
      by_cases hlt : k < m
      · have hk64 : (k : Int) < 64 := by omega
        have hkm : decide ((k : Int) < (n + 23) / 24) = true := by rw [HMM.out]; simp; omega
        go_wp2_with (first | (go_at_call 52; refine (sectors_any n _ HNN.out.1 (by have := HNN.out.2; omega)).mono ?_; rintro e w9 ⟨rfl, rfl⟩))
        refine (arrRead_any [.slice A a.length c] a (first + k) _ (HH.out.up hx) ⟨by omega, by omega⟩).mono ?_
        rintro e w2 ⟨rfl, hx2⟩
        have HX2 := Lib.hid (hx.trans hx2)
        have HB2 := Lib.hid (hb.ext hx2)
        clear hx hx2 hb g0
        have hsub : m - k = (m - (k + 1)) + 1 := by omega
        by_cases hc : (arrReadS a (first + k)).2.2 = 0
        · have hsz := arrReadS_size hc
          have hnext : streamReadLoop a (m - (k + 1)) (first + ((k + 1 : Nat) : Int)) (t ++ (arrReadS a (first + k)).1) = streamReadLoop a m first .empty := by
            rw [← HEQ.out, hsub, loop_next hc]
            congr 1
            omega
          rw [hc]
          have HNX := Lib.hid hnext
          have hszb : ¬ (9223372036854775807 < t.size + (arrReadS a (first + k)).1.size) := by omega
          have HSS := Lib.hid hsz
          clear hc hnext hsz hsub htz
          generalize (arrReadS a (first + k)).1 = T at *
          go_wp2_with fail
          go_roundw
          case rel => exact ⟨k + 1, t ++ T, by go_num, rfl, by omega, by rw [ByteArray.size_append, HTZ.out, HSS.out]; omega, HX2.out, HB2.out, HNX.out⟩
          case measure => simp [intOf]; omega
        · have hlo := HLO.out _ (by rw [← HEQ.out, hsub, loop_lost hc]) hc
          have HF := Lib.hid hlo
          have hc' : ((arrReadS a (first + k)).2.2 != 0) = true := by simpa using hc
          clear hc hlo hsub htz
          generalize (arrReadS a (first + k)).2.2 = tc at *
          go_wp2_with fail
          go_ret2
          rw [HF.out]
          exact ⟨rfl, HX2.out⟩
      · obtain rfl : k = m := by omega
        have hkm : decide ((k : Int) < (n + 23) / 24) = false := by rw [HMM.out]; simp
        have hgo := HG.out t (by rw [← HEQ.out, Nat.sub_self]; rfl)
        have HF := Lib.hid hgo
        obtain ⟨n, rfl⟩ := Int.eq_ofNat_of_zero_le HNN.out.1
        have hn1 : n ≤ t.size := by have := HSZ.out; omega
        have hn2 : (n : Int) ≤ (t.size : Int) := by omega
        clear hgo htz g0 hn
        go_wp2_with (first | (go_at_call 52; refine (sectors_any n _ HNN.out.1 (by have := HNN.out.2; omega)).mono ?_; rintro e w9 ⟨rfl, rfl⟩))
        go_ret2
        rw [HF.out]
        exact ⟨rfl, hx⟩
  · have HF := Lib.hid (sread_bad hs)
    have hs' : (streamFaultS a first n != 0) = true := by simpa using hs
    clear hs hb1
    generalize streamFaultS a first n = t at *
    go_wp2_with fail
    go_ret2
    rw [HF.out]
    exact ⟨rfl, hxw⟩

end Go.Proofs.YtgjijcgkmofaaaaGreatDoor
