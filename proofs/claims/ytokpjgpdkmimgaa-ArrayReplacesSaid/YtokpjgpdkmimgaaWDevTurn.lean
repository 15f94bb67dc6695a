/-
  device.Turn and the document's DeviceTurned: a byte of a sector is turned in a copy; the law DeviceTurns. Conditions: the argument reads as a device.
-/
import Derived.Test.YtokpjgpdkmimgaaWDevSet
import Derived.Test.YtokpjgpdkmimgaaB
import Derived.Test.YtokpjgpdkmimgaaR2
namespace Go.Proofs.Ytokpjgpdkmimgaa
set_option linter.unusedSimpArgs false
set_option linter.unusedVariables false
open Go.RowKit

theorem turn_good {d : Dev} {k : Nat} {place by_ : Int} (h : touchCode d k = 0) (h1 : 0 ≤ place) (h2 : place ≤ 29) (h3 : 0 ≤ by_) (h4 : by_ ≤ 255) : turnS d k place by_ = (⟨d.sec.set k (turnB (d.sec.getD k .empty) place by_), d.lost⟩, 0) := by
  unfold turnS; rw [if_pos h, if_pos (by simp [inB]; omega)]; rfl
theorem turn_range {d : Dev} {n place by_ : Int} (h : touchCode d n = 0) (h1 : ¬ (0 ≤ place ∧ place ≤ 29 ∧ 0 ≤ by_ ∧ by_ ≤ 255)) : turnS d n place by_ = (⟨[], []⟩, 2) := by
  unfold turnS; rw [if_pos h, if_neg (by simp [inB]; omega)]
theorem turn_bad {d : Dev} {n place by_ : Int} (h : ¬ touchCode d n = 0) : turnS d n place by_ = (⟨[], []⟩, touchCode d n) := by
  unfold turnS; rw [if_neg h]
theorem turn_join (s : ByteArray) (p b : Nat) (hp : p < s.size) (hs : s.size = 30) : s.extract 0 p ++ bs [byte (((s[p].toNat : Int) + (b : Int)) % 256)] ++ s.extract (p + 1) 30 = turnB s p b := by
  apply lst_inj
  have h1 : lst (s.extract 0 p) = (lst s).take p := by unfold lst; rw [ByteArray.data_extract, Array.toList_extract]; simp [List.extract]
  have h2 : lst (s.extract (p + 1) 30) = (lst s).drop (p + 1) := by
    unfold lst
    rw [ByteArray.data_extract, Array.toList_extract]
    simp only [List.extract]
    rw [List.take_of_length_le (by rw [List.length_drop, Array.length_toList]; have : s.data.size = 30 := hs; omega)]
  rw [lst_append, lst_append, lst_bs, h1, h2]
  unfold turnB
  rw [lst_bs, at_eq s (p : Int).toNat (by simpa using hp)]
  show _ = (lst s).set p _
  rw [List.set_eq_take_append_cons_drop, if_pos (by rw [length_lst]; exact hp)]
  simp
theorem getD_mem_ {α : Type} (l : List α) (k : Nat) (a : α) (h : k < l.length) : l.getD k a ∈ l := by
  rw [List.getD_eq_getElem?_getD, List.getElem?_eq_getElem h]; exact List.getElem_mem h

set_option maxRecDepth 100000 in
set_option maxHeartbeats 800000 in
theorem devTurn_any (cs : List Value) (d : Dev) (n place by_ : Int) (w : World) (h : RDev w cs d) (hn : I64 n) (hp : I64 place) (hb : I64 by_) :
    Calls Try.prog 29 #[.agg cs.toArray, .int .i64 n, .int .i64 place, .int .i64 by_] w fun e w' => ∃ A1 c1 A2 c2, e = .returned (.tuple #[.agg #[.slice A1 (turnS d n place by_).1.sec.length c1, .slice A2 (turnS d n place by_).1.lost.length c2], .int .i64 (turnS d n place by_).2]) ∧ Ext w w' ∧
      ODev 9 4 w' w.heap.size (.slice A1 (turnS d n place by_).1.sec.length c1) (.slice A2 (turnS d n place by_).1.lost.length c2) (turnS d n place by_).1 := by
  obtain ⟨A1, c1, A2, c2, rfl⟩ := h.form
  go_enter Try.func29, Try.ntmps29
  go_wp2_with fail
  refine calls_abs (fun W => Ext w W ∧ Blk_ W w.heap.size 54 #[.slice A1 d.sec.length c1, .slice A2 d.lost.length c2] ∧ Blk_ W (w.heap.size + 1) 54 #[.slice none 0 0, .slice none 0 0]) ⟨((Ext.refl _).alloc _).alloc _, (Blk_.new _ _ _).alloc _, Blk_.new1 _ _ _ _⟩ ?_
  rintro W ⟨hx, hbk, hbr⟩
  refine (devAt_any [.slice A1 d.sec.length c1, .slice A2 d.lost.length c2] d n W (h.up hx) hn).mono ?_
  rintro e w1 ⟨rfl, hx1⟩
  have hb1 := hbk.ext hx1
  have hbr1 := hbr.ext hx1
  have f0 := hb1.cell 0
  have f1 := hb1.cell 1
  simp at f0 f1
  have hr1 := h.up (hx.trans hx1)
  have hx0 := hx.trans hx1
  clear h hbk hbr hx hx1
  by_cases hc : touchCode d n = 0
  · by_cases hg : 0 ≤ place ∧ place ≤ 29 ∧ 0 ≤ by_ ∧ by_ ≤ 255
    · obtain ⟨g1, g2, g3, g4⟩ := hg
      clear hn
      obtain ⟨hm, n0, n1⟩ := touch_zero hc
      obtain ⟨m1, m2, m3, m4⟩ := devMay_len hm
      obtain ⟨k, rfl⟩ := Int.eq_ofNat_of_zero_le n0
      obtain ⟨p, rfl⟩ := Int.eq_ofNat_of_zero_le g1
      obtain ⟨b, rfl⟩ := Int.eq_ofNat_of_zero_le g3
      have hk2' : (k : Int) < (d.sec.length : Int) := by omega
      have hf := turn_good (d := d) (k := k) (place := p) (by_ := b) hc g1 g2 g3 g4
      have hs30 := m4 _ (getD_mem_ d.sec k .empty (by omega))
      have hlp : 0 < d.sec.length := by omega
      have HF := Lib.hid hf
      have t1 : decide ((p : Int) < 0) = false := by simp
      have t2 : decide ((30 : Int) ≤ (p : Int)) = false := by simp; omega
      have t3 : decide ((b : Int) < 0) = false := by simp
      have t4 : decide ((255 : Int) < (b : Int)) = false := by simp; omega
      have HZ := Lib.hid hs30
      have HG := Lib.hid (And.intro g2 g4)
      rw [hc]
      clear hc m4 hm hf hs30 g1 g2 g3 g4 hp hb m1 m2 m3 n0
      go_wp2_with fail
      refine (devCopy_any [.slice A1 d.sec.length c1, .slice A2 d.lost.length c2] d _ hr1).mono ?_
      rintro e w2 ⟨B1, k1, B2, k2, rfl, hx2, o1, o2⟩
      have hod := hr1.own o1 o2
      have hb2 := hb1.ext hx2
      have hbr2 := hbr1.ext hx2
      obtain ⟨g, rfl, hg1, hg2, hg3⟩ := own_form o1 hlp
      have g0 := hb2.cell 0
      have g1' := hb2.cell 1
      have z0 := hb2.frozen 0
      have z1 := hb2.frozen 1
      have y0 := hbr2.cell 0
      have y1 := hbr2.cell 1
      have x0 := hbr2.frozen 0
      have x1 := hbr2.frozen 1
      simp at g0 g1' y0 y1
      have zk := hg3 k
      have hs30 := HZ.out
      have ck := (o1.cellAt k (by omega)).trans (flat_str_get d.sec k (by omega))
      have es : d.sec[k]'(by omega) = d.sec.getD k .empty := by simp [show k < d.sec.length from by omega]
      rw [es] at ck
      obtain ⟨s, hs⟩ : ∃ s, s = d.sec.getD k .empty := ⟨_, rfl⟩
      rw [← hs] at ck hs30
      have HS := Lib.hid hs
      clear hs es
      have hlt := hbr1.lt
      have ne1 : ¬ (w.heap.size = g) := by omega
      have ne2 : ¬ (g = w.heap.size) := by omega
      have ne3 : ¬ (w.heap.size + 1 = g) := by omega
      have ne4 : ¬ (g = w.heap.size + 1) := by omega
      have hgw : w.heap.size ≤ g := by omega
      clear hr1 f0 f1 o1 o2 hb1 hbr1
      go_wp2_with (refine wpList_tobytes (.tmp 40) 9 22 5 rfl rfl Try.underlying9 Try.underlying22 Try.underlying5 s rfl ?_)
      intro gb cap w3 hgb e3 hbuf hcap
      have b3 := ((hb2.set 0 (.slice (some ⟨g, 0, none⟩) d.sec.length k1)).set 1 (.slice B2 d.lost.length k2)).ext e3
      have r3 := ((hbr2.far (p := ⟨w.heap.size, 0, none⟩) (by simp) (.slice (some ⟨g, 0, none⟩) d.sec.length k1)).far (p := ⟨w.heap.size, 1, none⟩) (by simp) (.slice B2 d.lost.length k2)).ext e3
      have o3 := ((hod.far (p := ⟨w.heap.size, 0, none⟩) (by simp; omega) (.slice (some ⟨g, 0, none⟩) d.sec.length k1)).far (p := ⟨w.heap.size, 1, none⟩) (by simp; omega) (.slice B2 d.lost.length k2)).ext e3
      have X3 := Lib.hid ((((hx0.trans hx2).setCell (p := ⟨w.heap.size, 0, none⟩) (by simp) (.slice (some ⟨g, 0, none⟩) d.sec.length k1)).setCell (p := ⟨w.heap.size, 1, none⟩) (by simp) (.slice B2 d.lost.length k2)).trans e3)
      have HO := Lib.hid (And.intro hod o3)
      have ck3 := o3.1.cellAt k (by omega)
      rw [flat_str_get d.sec k (by omega)] at ck3
      have zk3 := o3.1.frozenAt k
      clear g0 g1' z0 z1 x0 x1 y0 y1 zk ck hod hg3 hb2 hbr2 e3 hx0 hx2
      have q0 := b3.cell 0
      have q1 := b3.cell 1
      have z0 := b3.frozen 0
      have z1 := b3.frozen 1
      have y0 := r3.cell 0
      have y1 := r3.cell 1
      have x0 := r3.frozen 0
      have x1 := r3.frozen 1
      simp at q0 q1 y0 y1
      have hpl : p < (lst s).length := by rw [length_lst, hs30]; have := HG.out.1; omega
      have bp := hbuf.cell p hpl
      have bz := hbuf.frozen p hpl
      have hcb := u8_hi ((lst s).getD p 0)
      have ne5 : ¬ (w.heap.size = gb) := by omega
      have ne6 : ¬ (gb = w.heap.size) := by omega
      have ne7 : ¬ (w.heap.size + 1 = gb) := by omega
      have ne8 : ¬ (gb = w.heap.size + 1) := by omega
      have ne9 : ¬ (g = gb) := by omega
      have ne10 : ¬ (gb = g) := by omega
      have hp30 : (p : Int) < 30 := by have := HG.out.1; omega
      have hp30' : p < 30 := by omega
      have hln : 30 = ((lst s).set p 0).length := by rw [List.length_set, length_lst, hs30]
      have HL := Lib.hid hln
      have HBF := Lib.hid hbuf
      have HR := Lib.hid r3
      clear hbuf b3 r3 o3 hln
      generalize hc0 : (lst s).getD p 0 = c0 at *
      have HC0 := Lib.hid hc0
      clear hc0
      go_wp2_with (refine wpList_frombytes (.tmp 53) 22 9 5 rfl rfl Try.underlying22 Try.underlying5 Try.underlying9 gb 30 cap _ (HBF.out.set p _ ?ha ?hb) ?hc rfl ?_)
      case ha => omega
      case hb => omega
      case hc => rw [List.length_set, length_lst, hs30]
      have hT : turnB s p b = bs ((lst s).set p (byte (((c0.toNat : Int) + (b : Int)) % 256))) := by
        unfold turnB; rw [← HC0.out, at_lst_eq]; rfl
      rw [← hT]
      have HT := Lib.hid hT
      clear hT
      have hts : (turnB s p b).size = 30 := by rw [turnB_size, hs30]
      have HTS := Lib.hid hts
      clear hts
      generalize hte : turnB s p b = T at *
      have HTE := Lib.hid hte
      clear hte
      have HB := Lib.hid ((((HR.out.far (p := ⟨gb, p, none⟩) ne7 (.int .u8 (((c0.toNat : Int) + (b : Int)) % 256))).far (p := ⟨g, k, none⟩) ne3 (.string T)).set 0 (.slice (some ⟨g, 0, none⟩) d.sec.length k1)).set 1 (.slice B2 d.lost.length k2))
      go_wp2_with fail
      refine bodyPost_ret (res_cell_tmp rfl rfl HB.out Try.underlying54 rfl (by kernel_rfl)) rfl ?_
      rw [HF.out, ← HS.out, HTE.out]
      refine ⟨some ⟨g, 0, none⟩, k1, B2, k2, ?_, ?_, ?_⟩
      · rw [List.length_set]; rfl
      · exact (((X3.out.setCell (by simp; omega) _).setCell (by simp; omega) _).setCell (by simp) _).setCell (by simp) _
      · have o4 := ((((HO.out.2.aside HO.out.1 (p := ⟨gb, p, none⟩) hgb (.int .u8 (((c0.toNat : Int) + (b : Int)) % 256))).setSec rfl (by decide) k T (by rw [HTS.out]; decide)).far (p := ⟨w.heap.size + 1, 0, none⟩) (by simp; omega) (.slice (some ⟨g, 0, none⟩) d.sec.length k1)).far (p := ⟨w.heap.size + 1, 1, none⟩) (by simp; omega) (.slice B2 d.lost.length k2)).base (base' := w.heap.size) (by omega)
        rw [List.length_set]
        exact o4
    · have hf := turn_range hc hg
      have hg' : place < 0 ∨ 30 ≤ place ∨ by_ < 0 ∨ 255 < by_ := by omega
      rw [hc]
      clear hc hg hn
      have hcs : (decide (place < 0) = true) ∨ (decide (place < 0) = false ∧ decide ((30 : Int) ≤ place) = true) ∨ (decide (place < 0) = false ∧ decide ((30 : Int) ≤ place) = false ∧ decide (by_ < 0) = true) ∨ (decide (place < 0) = false ∧ decide ((30 : Int) ≤ place) = false ∧ decide (by_ < 0) = false ∧ decide ((255 : Int) < by_) = true) := by
        simp only [decide_eq_true_eq, decide_eq_false_iff_not]; omega
      clear hg' hp hb
      rcases hcs with t1 | ⟨t1, t2⟩ | ⟨t1, t2, t3⟩ | ⟨t1, t2, t3, t4⟩
      · have HF := Lib.hid hf
        clear hf hr1
        have y0 := hbr1.cell 0
        have y1 := hbr1.cell 1
        have x0 := hbr1.frozen 0
        have x1 := hbr1.frozen 1
        simp at y0 y1
        have HB := Lib.hid ((hbr1.set 0 (.slice none 0 0)).set 1 (.slice none 0 0))

        go_wp2_with fail
        refine bodyPost_ret (res_cell_tmp rfl rfl HB.out Try.underlying54 rfl (by kernel_rfl)) rfl ?_
        rw [HF.out]
        refine ⟨none, 0, none, 0, rfl, (hx0.setCell (by simp) _).setCell (by simp) _, ?_⟩
        exact ⟨World.ownsRow_nil _ _ _ _, World.ownsRow_nil _ _ _ _, by simp, by simp, fun s hs => by cases hs⟩
      · have HF := Lib.hid hf
        clear hf hr1
        have y0 := hbr1.cell 0
        have y1 := hbr1.cell 1
        have x0 := hbr1.frozen 0
        have x1 := hbr1.frozen 1
        simp at y0 y1
        have HB := Lib.hid ((hbr1.set 0 (.slice none 0 0)).set 1 (.slice none 0 0))

        go_wp2_with fail
        refine bodyPost_ret (res_cell_tmp rfl rfl HB.out Try.underlying54 rfl (by kernel_rfl)) rfl ?_
        rw [HF.out]
        refine ⟨none, 0, none, 0, rfl, (hx0.setCell (by simp) _).setCell (by simp) _, ?_⟩
        exact ⟨World.ownsRow_nil _ _ _ _, World.ownsRow_nil _ _ _ _, by simp, by simp, fun s hs => by cases hs⟩
      · have HF := Lib.hid hf
        clear hf hr1
        have y0 := hbr1.cell 0
        have y1 := hbr1.cell 1
        have x0 := hbr1.frozen 0
        have x1 := hbr1.frozen 1
        simp at y0 y1
        have HB := Lib.hid ((hbr1.set 0 (.slice none 0 0)).set 1 (.slice none 0 0))

        go_wp2_with fail
        refine bodyPost_ret (res_cell_tmp rfl rfl HB.out Try.underlying54 rfl (by kernel_rfl)) rfl ?_
        rw [HF.out]
        refine ⟨none, 0, none, 0, rfl, (hx0.setCell (by simp) _).setCell (by simp) _, ?_⟩
        exact ⟨World.ownsRow_nil _ _ _ _, World.ownsRow_nil _ _ _ _, by simp, by simp, fun s hs => by cases hs⟩
      · have HF := Lib.hid hf
        clear hf hr1
        have y0 := hbr1.cell 0
        have y1 := hbr1.cell 1
        have x0 := hbr1.frozen 0
        have x1 := hbr1.frozen 1
        simp at y0 y1
        have HB := Lib.hid ((hbr1.set 0 (.slice none 0 0)).set 1 (.slice none 0 0))

        go_wp2_with fail
        refine bodyPost_ret (res_cell_tmp rfl rfl HB.out Try.underlying54 rfl (by kernel_rfl)) rfl ?_
        rw [HF.out]
        refine ⟨none, 0, none, 0, rfl, (hx0.setCell (by simp) _).setCell (by simp) _, ?_⟩
        exact ⟨World.ownsRow_nil _ _ _ _, World.ownsRow_nil _ _ _ _, by simp, by simp, fun s hs => by cases hs⟩
  · have hf := turn_bad (place := place) (by_ := by_) hc
    have hc' : (touchCode d n != 0) = true := by simpa using hc
    clear hc
    have HF := Lib.hid hf
    clear hf hr1
    have y0 := hbr1.cell 0
    have y1 := hbr1.cell 1
    have x0 := hbr1.frozen 0
    have x1 := hbr1.frozen 1
    simp at y0 y1
    have HB := Lib.hid ((hbr1.set 0 (.slice none 0 0)).set 1 (.slice none 0 0))

    generalize touchCode d n = t at *
    go_wp2_with fail
    refine bodyPost_ret (res_cell_tmp rfl rfl HB.out Try.underlying54 rfl (by kernel_rfl)) rfl ?_
    rw [HF.out]
    refine ⟨none, 0, none, 0, rfl, (hx0.setCell (by simp) _).setCell (by simp) _, ?_⟩
    exact ⟨World.ownsRow_nil _ _ _ _, World.ownsRow_nil _ _ _ _, by simp, by simp, fun s hs => by cases hs⟩

end Go.Proofs.Ytokpjgpdkmimgaa
