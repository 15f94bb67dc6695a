/-
  array.New, archive.New and the document's ArrayOf: an array of three new devices; the laws ArrayNews and ArchiveNews. Conditions: none.
-/
import Derived.Test.YtokpjgpdkmimgaaWDevNew
import Derived.Test.YtokpjgpdkmimgaaWArr1
namespace Go.Proofs.Ytokpjgpdkmimgaa
set_option linter.unusedSimpArgs false
set_option linter.unusedVariables false
open Go.RowKit

theorem arr_good {m : Nat} (h1 : 16 ≤ m) (h2 : m ≤ 64) (h3 : m % 2 = 0) : newArrS m = ([freshDev m 0, freshDev m 0, freshDev (m / 2) 512], 0) := by
  unfold newArrS; rw [if_pos (by simp [inB]; omega)]; rfl
theorem arr_bad {many : Int} (h : ¬ (16 ≤ many ∧ many ≤ 64 ∧ many % 2 = 0)) : newArrS many = ([], 2) := by
  unfold newArrS; rw [if_neg (by simp [inB]; omega)]
/-- The device d of a new array. -/
def devAt (m : Nat) (d : Int) : Dev := if d = 2 then freshDev (m / 2) 512 else freshDev m 0
set_option maxRecDepth 100000 in
set_option maxHeartbeats 800000 in
theorem arrFresh_any (m : Nat) (d : Int) (w : World) (h1 : 16 ≤ m) (h2 : m ≤ 64) (hd : 0 ≤ d ∧ d ≤ 2) :
    Calls Try.prog 48 #[.int .i64 m, .int .i64 d] w fun e w' => ∃ A1 c1 A2 c2, e = .returned (.tuple #[.agg #[.slice A1 (devAt m d).sec.length c1, .slice A2 (devAt m d).lost.length c2], .int .i64 0]) ∧ Ext w w' ∧
      ODev 9 4 w' w.heap.size (.slice A1 (devAt m d).sec.length c1) (.slice A2 (devAt m d).lost.length c2) (devAt m d) := by
  by_cases h : d = 2
  · subst h
    have he : devAt m 2 = freshDev (m / 2) 512 := rfl
    have hq : ((m : Int) / 2) = ((m / 2 : Nat) : Int) := by omega
    have hng := new_good (m := m / 2) (f := 512) (by omega) (by omega) (by omega)
    have HQ := Lib.hid (And.intro he (And.intro hq hng))
    clear he hq hng
    have b1 : (0 : Int) ≤ (m : Int) / 2 := by omega
    have b2 : (m : Int) / 2 ≤ 64 := by omega
    go_enter Try.func48, Try.ntmps48
    go_wp2_with fail
    refine (devNew_any ((m : Int) / 2) 512 _ ⟨by omega, by omega⟩ ⟨by decide, by decide⟩).mono ?_
    rintro e w2 ⟨A1, c1, A2, c2, rfl, hx2, hod⟩
    rw [HQ.out.2.1] at hod ⊢
    have hng : newDevS ((m / 2 : Nat) : Int) 512 = (freshDev (m / 2) 512, 0) := HQ.out.2.2
    rw [hng] at hod ⊢
    have hb := (Blk_.new w 54 #[.slice none 0 0, .slice none 0 0]).ext hx2
    have y0 := hb.cell 0
    have y1 := hb.cell 1
    have x0 := hb.frozen 0
    have x1 := hb.frozen 1
    simp at y0 y1
    have HB := Lib.hid ((hb.set 0 (.slice A1 (freshDev (m / 2) 512).sec.length c1)).set 1 (.slice A2 (freshDev (m / 2) 512).lost.length c2))
    have HX := Lib.hid (((Ext.refl w).alloc _).trans hx2)
    have HO := Lib.hid hod
    clear hng hb hod hx2
    go_wp2_with fail
    refine bodyPost_ret (res_cell_tmp rfl rfl HB.out Try.underlying54 rfl (by kernel_rfl)) rfl ?_
    rw [HQ.out.1]
    refine ⟨A1, c1, A2, c2, rfl, (HX.out.setCell (p := ⟨w.heap.size, 0, none⟩) (Nat.le_refl _) _).setCell (p := ⟨w.heap.size, 1, none⟩) (Nat.le_refl _) _, ?_⟩
    exact ((HO.out.far (p := ⟨w.heap.size, 0, none⟩) (by simp) _).far (p := ⟨w.heap.size, 1, none⟩) (by simp) _).base (by simp)
  · have he : devAt m d = freshDev m 0 := by unfold devAt; rw [if_neg h]
    have hng := new_good (m := m) (f := 0) (by omega) (by omega) (by omega)
    have HQ := Lib.hid (And.intro he hng)
    have hdb : (d == 2) = false := by simpa using h
    clear he hng h
    have b2 : (m : Int) ≤ 64 := by omega
    go_enter Try.func48, Try.ntmps48
    go_wp2_with fail
    refine (devNew_any (m : Int) 0 _ ⟨by omega, by omega⟩ ⟨by decide, by decide⟩).mono ?_
    rintro e w2 ⟨A1, c1, A2, c2, rfl, hx2, hod⟩
    have hng : newDevS (m : Int) 0 = (freshDev m 0, 0) := HQ.out.2
    rw [hng] at hod ⊢
    have hb := (Blk_.new w 54 #[.slice none 0 0, .slice none 0 0]).ext hx2
    have y0 := hb.cell 0
    have y1 := hb.cell 1
    have x0 := hb.frozen 0
    have x1 := hb.frozen 1
    simp at y0 y1
    have HB := Lib.hid ((hb.set 0 (.slice A1 (freshDev m 0).sec.length c1)).set 1 (.slice A2 (freshDev m 0).lost.length c2))
    have HX := Lib.hid (((Ext.refl w).alloc _).trans hx2)
    have HO := Lib.hid hod
    clear hng hb hod hx2
    go_wp2_with fail
    refine bodyPost_ret (res_cell_tmp rfl rfl HB.out Try.underlying54 rfl (by kernel_rfl)) rfl ?_
    rw [HQ.out.1]
    refine ⟨A1, c1, A2, c2, rfl, (HX.out.setCell (p := ⟨w.heap.size, 0, none⟩) (Nat.le_refl _) _).setCell (p := ⟨w.heap.size, 1, none⟩) (Nat.le_refl _) _, ?_⟩
    exact ((HO.out.far (p := ⟨w.heap.size, 0, none⟩) (by simp) _).far (p := ⟨w.heap.size, 1, none⟩) (by simp) _).base (by simp)
def firstDevs (m : Nat) (k : Nat) : List Dev := (List.range k).map fun (i : Nat) => devAt m i
theorem firstDevs_len (m k : Nat) : (firstDevs m k).length = k := by unfold firstDevs; simp
theorem firstDevs_succ (m k : Nat) : firstDevs m (k + 1) = firstDevs m k ++ [devAt m k] := by unfold firstDevs; rw [List.range_succ, List.map_append]; rfl
theorem firstDevs_three (m : Nat) : firstDevs m 3 = [freshDev m 0, freshDev m 0, freshDev (m / 2) 512] := rfl
theorem info_devr : True := trivial

/-- Three devices in a row of the call's own. -/
theorem OArr.three_ {E : TypeId} {w : World} {base : Nat} (hb : base ≤ w.heap.size) {x1 x2 y1 y2 z1 z2 : Value} {d0 d1 d2 : Dev} (h0 : RDev w [x1, x2] d0) (h1 : RDev w [y1, y2] d1) (h2 : RDev w [z1, z2] d2)
    (n0 : New base x1 ∧ New base x2) (n1 : New base y1 ∧ New base y2) (n2 : New base z1 ∧ New base z2) :
    OArr E (w.alloc (.cells #[x1, x2, y1, y2, z1, z2] E)) base (.slice (some ⟨w.heap.size, 0, none⟩) 3 3) [d0, d1, d2] := by
  refine ⟨[(x1, x2), (y1, y2), (z1, z2)], rfl, ⟨rfl, .inr ⟨w.heap.size, 3, _, rfl, hb, heap_alloc_new w _, Nat.le_refl _, by decide, rfl, rfl⟩⟩, fun g hg i hi p hp => ?_, fun i p hp => ?_⟩
  · have : g = w.heap.size := by simpa [Value.ownBlock] using hg.symm
    subst this
    match i, hi with
    | 0, _ => simp at hp; subst hp; exact (h0.old (Nat.le_refl _)).ext ((Ext.refl _).alloc _)
    | 1, _ => simp at hp; subst hp; exact (h1.old (Nat.le_refl _)).ext ((Ext.refl _).alloc _)
    | 2, _ => simp at hp; subst hp; exact (h2.old (Nat.le_refl _)).ext ((Ext.refl _).alloc _)
  · match i with
    | 0 => simp at hp; subst hp; exact n0
    | 1 => simp at hp; subst hp; exact n1
    | 2 => simp at hp; subst hp; exact n2
    | i + 3 => simp at hp
set_option maxRecDepth 100000 in
set_option maxHeartbeats 800000 in
theorem arrayOf_any (many : Int) (w : World) (hm : I64 many) :
    Calls Try.prog 51 #[.int .i64 many] w fun e w' => ∃ A c, e = .returned (.tuple #[.agg #[.slice A (newArrS many).1.length c], .int .i64 (newArrS many).2]) ∧ Ext w w' ∧ OArr 54 w' w.heap.size (.slice A (newArrS many).1.length c) (newArrS many).1 := by
  by_cases hok : 16 ≤ many ∧ many ≤ 64 ∧ many % 2 = 0
  · obtain ⟨h1, h2, h3⟩ := hok
    obtain ⟨m, rfl⟩ := Int.eq_ofNat_of_zero_le (show 0 ≤ many by omega)
    have HF := Lib.hid (arr_good (m := m) (by omega) (by omega) (by omega))
    have HM := Lib.hid (And.intro (show 16 ≤ m by omega) (show m ≤ 64 by omega))
    have hq : ((m : Int) / 2) = ((m / 2 : Nat) : Int) := by omega
    have HQ := Lib.hid (And.intro hq (And.intro (show newDevS (m : Int) 0 = (freshDev m 0, 0) from new_good (m := m) (f := 0) (by omega) (by omega) (by omega)) (show newDevS ((m / 2 : Nat) : Int) 512 = (freshDev (m / 2) 512, 0) from new_good (m := m / 2) (f := 512) (by omega) (by omega) (by omega))))
    have t1 : inB (m : Int) 16 64 = true := by simp [inB]; omega
    have t3 : ((m : Int) % 2 == 1) = false := by simp; omega
    have b2 : (m : Int) ≤ 64 := by omega
    have b3 : (0 : Int) ≤ (m : Int) / 2 := by omega
    have b4 : (m : Int) / 2 ≤ 64 := by omega
    clear h1 h2 h3 hq hm
    go_enter Try.func51, Try.ntmps51
    go_wp2_with (go_at_call 50; refine (in_any _ _ _ _).mono ?_; rintro e w9 ⟨rfl, rfl⟩; rw [t1])
    refine calls_abs (fun W => Ext w W ∧ Blk_ W w.heap.size 45 #[.slice none 0 0]) ⟨(Ext.refl _).alloc _, Blk_.new _ _ _⟩ ?_
    rintro W1 ⟨hx1, hr1⟩
    have HQ1 := Lib.hid hr1.lt
    refine (deviceOf_any (m : Int) 0 W1 ⟨by omega, by omega⟩ ⟨by decide, by decide⟩).mono ?_
    rintro e w2 ⟨X1, x1, X2, x2, rfl, hx2, hX⟩
    rw [HQ.out.2.1] at hX ⊢
    have hr2 := hr1.ext hx2
    have hxw2 := hx1.trans hx2
    clear hx1 hx2 hr1
    go_wp2_with fail
    refine calls_abs (fun W => Ext w2 W ∧ Blk_ W w2.heap.size 54 #[.slice X1 (freshDev m 0).sec.length x1, .slice X2 (freshDev m 0).lost.length x2]) ⟨(Ext.refl _).alloc _, Blk_.new _ _ _⟩ ?_
    rintro W3 ⟨hx3, hb3⟩
    refine (deviceOf_any (m : Int) 0 W3 ⟨by omega, by omega⟩ ⟨by decide, by decide⟩).mono ?_
    rintro e w4 ⟨Y1, y1, Y2, y2, rfl, hx4, hY⟩
    rw [HQ.out.2.1] at hY ⊢
    have hr4 := hr2.ext (hx3.trans hx4)
    have hX4 := hX.ext (hx3.trans hx4)
    have hb4 := hb3.ext hx4
    have hxw4 := hxw2.trans (hx3.trans hx4)
    have hsz2 := hx3.size
    have hsz4 := hx4.size
    have hlr := hr2.lt
    clear hx3 hx4 hb3 hr2 hX hxw2
    go_wp2_with fail
    refine calls_abs (fun W => Ext w4 W ∧ Blk_ W w4.heap.size 54 #[.slice Y1 (freshDev m 0).sec.length y1, .slice Y2 (freshDev m 0).lost.length y2]) ⟨(Ext.refl _).alloc _, Blk_.new _ _ _⟩ ?_
    rintro W5 ⟨hx5, hb5⟩
    refine (deviceOf_any ((m : Int) / 2) 512 W5 ⟨by omega, by omega⟩ ⟨by decide, by decide⟩).mono ?_
    rintro e w6 ⟨Z1, z1, Z2, z2, rfl, hx6, hZ⟩
    rw [HQ.out.1, HQ.out.2.2] at hZ ⊢
    have hx56 := hx5.trans hx6
    have hr6 := hr4.ext hx56
    have hX6 := hX4.ext hx56
    have hY6 := hY.ext hx56
    have hb46 := hb4.ext hx56
    have hb6 := hb5.ext hx6
    have HXW := Lib.hid (hxw4.trans hx56)
    have hsz5 := hx5.size
    have hsz6 := hx6.size
    have hl46 := hb46.lt
    have hl6 := hb6.lt
    have hl46' := hb4.lt
    have ha0 := hb46.cell 0
    have ha1 := hb46.cell 1
    have hb0 := hb6.cell 0
    have hb1 := hb6.cell 1
    have hr0 := hr6.cell 0
    have hrf := hr6.frozen 0
    simp at ha0 ha1 hb0 hb1 hr0
    have HO := Lib.hid (And.intro hX6 (And.intro hY6 hZ))
    have HB := fun o o' => Lib.hid (((hr6.set 0 (.slice (some ⟨w6.heap.size + 1, 0, none⟩) 3 3)).alloc o).alloc o')
    have HR6 := Lib.hid hr6
    have ne1 : ¬ (w.heap.size = w6.heap.size) := by omega
    have ne2 : ¬ (w6.heap.size = w.heap.size) := by omega
    have ne3 : ¬ (w.heap.size = w6.heap.size + 1) := by omega
    have ne4 : ¬ (w6.heap.size + 1 = w.heap.size) := by omega
    have hlw : w.heap.size < w6.heap.size := by omega
    have HSZ := Lib.hid (And.intro hsz2 (And.intro hsz4 (And.intro hsz5 hsz6)))
    clear hx5 hx6 hx56 hr4 hX4 hY hb4 hb5 hxw4 hX6 hY6 hZ hb46 hb6 hr6 hsz2 hsz4 hsz5 hsz6 t1 t3 b3 b4
    go_wp2_with fail
    refine bodyPost_ret (res_cell_tmp rfl rfl (HB _ _).out Try.underlying45 rfl (by kernel_rfl)) rfl ?_
    rw [HF.out]
    obtain ⟨s2, s4, s5, s6⟩ := HSZ.out
    refine ⟨some ⟨w6.heap.size + 1, 0, none⟩, 3, rfl, ((HXW.out.setCell (p := ⟨w.heap.size, 0, none⟩) (Nat.le_refl _) _).alloc _).alloc _, ?_⟩
    have hf := fun (o : Obj) => ((Ext.refl (w6.setCell ⟨w.heap.size, 0, none⟩ (.slice (some ⟨w6.heap.size + 1, 0, none⟩) 3 3))).alloc o)
    have e1 : w.heap.size < W1.heap.size := HQ1.out
    have h3 := fun (o : Obj) => OArr.three_ (E := 54) (base := w.heap.size) (w := (w6.setCell ⟨w.heap.size, 0, none⟩ (.slice (some ⟨w6.heap.size + 1, 0, none⟩) 3 3)).alloc o) (by simp; omega)
      ((HO.out.1.far (p := ⟨w.heap.size, 0, none⟩) (by simp; omega) _).dev.up (hf o)) ((HO.out.2.1.far (p := ⟨w.heap.size, 0, none⟩) (by simp; omega) _).dev.up (hf o)) ((HO.out.2.2.far (p := ⟨w.heap.size, 0, none⟩) (by simp; omega) _).dev.up (hf o))
      ⟨HO.out.1.new1.mono (by omega), HO.out.1.new2.mono (by omega)⟩ ⟨HO.out.2.1.new1.mono (by omega), HO.out.2.1.new2.mono (by omega)⟩ ⟨HO.out.2.2.new1.mono (by omega), HO.out.2.2.new2.mono (by omega)⟩
    simp only [World.size_alloc, World.size_setCell] at h3
    exact h3 _
  · have HF := Lib.hid (arr_bad hok)
    have hcs : inB many 16 64 = false ∨ (inB many 16 64 = true ∧ 0 ≤ many ∧ many ≤ 64 ∧ (many % 2 == 1) = true) := by
      by_cases h1 : inB many 16 64 = true
      · have := inB_true h1
        refine .inr ⟨h1, by omega, by omega, ?_⟩
        simp; omega
      · exact .inl (by simpa using h1)
    clear hok hm
    rcases hcs with t1 | ⟨t1, t0, t2, t3⟩
    · go_enter Try.func51, Try.ntmps51
      go_wp2_with (go_at_call 50; refine (in_any _ _ _ _).mono ?_; rintro e w9 ⟨rfl, rfl⟩; rw [t1])
      refine bodyPost_ret (res_cell_tmp rfl rfl (Blk_.new w 45 #[.slice none 0 0]) Try.underlying45 rfl (by kernel_rfl)) rfl ?_
      rw [HF.out]
      exact ⟨none, 0, rfl, (Ext.refl w).alloc _, OArr.nil _ _ _⟩
    · go_enter Try.func51, Try.ntmps51
      go_wp2_with (go_at_call 50; refine (in_any _ _ _ _).mono ?_; rintro e w9 ⟨rfl, rfl⟩; rw [t1])
      refine bodyPost_ret (res_cell_tmp rfl rfl (Blk_.new w 45 #[.slice none 0 0]) Try.underlying45 rfl (by kernel_rfl)) rfl ?_
      rw [HF.out]
      exact ⟨none, 0, rfl, (Ext.refl w).alloc _, OArr.nil _ _ _⟩

theorem newArr_len (many : Int) : (newArrS many).1.length ≤ 3 := by
  unfold newArrS; split <;> simp

end Go.Proofs.Ytokpjgpdkmimgaa
