/-
  archive.Open and the document's OpenedOf: the catalog of an archive; the law ArchiveOpens. Conditions: the argument reads as an array.
-/
import Derived.Test.YtokpjgpdkmimgaaDoorWCatOf
import Derived.Test.YtokpjgpdkmimgaaDoorWStream
namespace Go.Proofs.YtokpjgpdkmimgaaDoor
set_option linter.unusedSimpArgs false
set_option linter.unusedVariables false
open Go.RowKit

def openS (a : List Dev) : Cat × Int := if (streamReadS a 0 192).2 = 0 then decCatS (streamReadS a 0 192).1 else (noCat, (streamReadS a 0 192).2)
theorem open_ok {a : List Dev} (h : (streamReadS a 0 192).2 = 0) : openS a = decCatS (streamReadS a 0 192).1 := by unfold openS; rw [if_pos h]
theorem open_bad {a : List Dev} (h : ¬ (streamReadS a 0 192).2 = 0) : openS a = (noCat, (streamReadS a 0 192).2) := by unfold openS; rw [if_neg h]
theorem stream_small (a : List Dev) (first n : Int) (hn : n ≤ 140737488355328) : (streamReadS a first n).1.size ≤ 140737488355328 := by
  unfold streamReadS
  split
  · exact Nat.zero_le _
  · split
    · exact Nat.zero_le _
    · show (ByteArray.extract _ 0 n.toNat).size ≤ _
      rw [ByteArray.size_extract]; omega
/-- A row's cells are not those of a box of slices. -/
theorem av_box {α : Type} {C bytes : Nat} {R : Rd α} {enc : α → List Value} (he : Enc C R enc) {w : World} {v : Value} {l : List α} {g : Nat} {t : TypeId} {A A' : Option Addr} {n c n' c' : Nat} (h : SlR C bytes R w v l) (hb : Blk_ w g t #[.slice A n c, .slice A' n' c'])
    (hne : ∀ a, ∃ u, (enc a)[0]? = some u ∧ ∀ B m k, u ≠ .slice B m k) : Av g v := by
  obtain ⟨A1, cap, e, hb1, hc1, h⟩ := h
  intro b o s m k ev
  rw [e] at ev
  injection ev with h1 h2 h3
  rcases h with h | ⟨b', o', hA, h⟩
  · left; rw [← h2, h]; rfl
  · by_cases h0 : l.length = 0
    · left; omega
    · right
      rw [hA] at h1
      injection h1 with h1
      injection h1 with h1 h1' h1''
      subst h1
      rintro rfl
      obtain ⟨cs, hl, hcell, hr⟩ := h 0 (by omega)
      obtain ⟨u, hu, hun⟩ := hne (l[0]'(by omega))
      have hcs := he.cs _ _ _ hr
      have hC : 0 < C := by
        rw [← he.len (l[0]'(by omega))]
        exact (List.getElem?_eq_some_iff.1 hu).1
      have hc := hcell 0 hC
      rw [hcs, hu, hb.cell] at hc
      match hq : o' + 0 * C + 0, hc with
      | 0, hc => simp at hc; exact hun _ _ _ hc.symm
      | 1, hc => simp at hc; exact hun _ _ _ hc.symm
      | j + 2, hc => simp at hc
theorem RCat.off {w : World} {V1 V2 : Value} {d : Cat} {g k : Nat} {t : TypeId} {A A' : Option Addr} {n c n' c' : Nat} (h : RCat w [V1, V2] d) (hb : Blk_ w g t #[.slice A n c, .slice A' n' c']) (u : Value) : RCat (w.setCell ⟨g, k, none⟩ u) [V1, V2] d := by
  obtain ⟨v1, v2, e, h1, h2⟩ := h
  simp only [List.cons.injEq, and_true] at e
  obtain ⟨rfl, rfl⟩ := e
  exact ⟨_, _, rfl, h1.far encBlk_ok (p := ⟨g, k, none⟩) (av_box encBlk_ok h1 hb (fun a => ⟨_, rfl, fun _ _ _ h => by cases h⟩)) u, h2.far encEnt_ok (p := ⟨g, k, none⟩) (av_box encEnt_ok h2 hb (fun a => ⟨_, rfl, fun _ _ _ h => by cases h⟩)) u⟩

set_option maxRecDepth 100000 in
set_option maxHeartbeats 1000000 in
theorem archOpen_any (cs : List Value) (a : List Dev) (w : World) (h : RArr w cs a) :
    Calls Tryd.prog 21 #[.agg cs.toArray] w fun e w' => ∃ A1 c1 A2 c2, e = .returned (.tuple #[.agg #[.slice A1 (openS a).1.blocks.length c1, .slice A2 (openS a).1.entries.length c2], .int .i64 (openS a).2]) ∧ Ext w w' ∧ RCat w' [.slice A1 (openS a).1.blocks.length c1, .slice A2 (openS a).1.entries.length c2] (openS a).1 := by
  obtain ⟨A, c, rfl⟩ := h.form
  go_enter Tryd.func21, Tryd.ntmps21
  go_wp2_with fail
  refine calls_abs (fun W => Ext w W ∧ Blk_ W (w.heap.size + 1) 25 #[.slice none 0 0, .slice none 0 0]) ⟨((Ext.refl _).alloc _).alloc _, Blk_.new1 _ _ _ _⟩ ?_
  rintro W ⟨hx, hb⟩
  refine (streamRead_any [.slice A a.length c] a 0 192 W (h.up hx) (by unfold I64; omega) (by unfold I64; omega)).mono ?_
  rintro e w1 ⟨rfl, hx1⟩
  have HOK := Lib.hid (fun hu => open_ok (a := a) hu)
  have HBAD := Lib.hid (fun hu => open_bad (a := a) hu)
  have hsz := stream_small a 0 192 (by omega)
  obtain ⟨S, hS⟩ : ∃ S, S = (streamReadS a 0 192).1 := ⟨_, rfl⟩
  obtain ⟨u, hu⟩ : ∃ u, u = (streamReadS a 0 192).2 := ⟨_, rfl⟩
  rw [← hS] at HOK hsz ⊢
  rw [← hu] at HOK HBAD ⊢
  have HX1 := Lib.hid (hx.trans hx1)
  have HB1 := Lib.hid (hb.ext hx1)
  have HSZ := Lib.hid hsz
  clear hS hu hx hx1 hb hsz h
  by_cases hu0 : u = 0
  · have HO := Lib.hid (HOK.out hu0)
    subst hu0
    clear HOK HBAD
    go_wp2_with fail
    refine (catDecode_any S w1 HSZ.out).mono ?_
    rintro e w2 ⟨A1, c1, A2, c2, rfl, hx2, hr⟩
    rw [← HO.out] at hr ⊢
    obtain ⟨d, hd⟩ : ∃ d, d = (openS a).1 := ⟨_, rfl⟩
    obtain ⟨v, hv⟩ : ∃ v, v = (openS a).2 := ⟨_, rfl⟩
    rw [← hd] at hr ⊢
    rw [← hv]
    have HD := Lib.hid (And.intro hd hv)
    have HB2 := Lib.hid (HB1.out.ext hx2)
    have HX2 := Lib.hid (HX1.out.trans hx2)
    have HR1 := Lib.hid (hr.off (k := 0) HB2.out (.slice A1 d.blocks.length c1))
    have HR2 := Lib.hid (HR1.out.off (k := 1) (HB2.out.set 0 (.slice A1 d.blocks.length c1)) (.slice A2 d.entries.length c2))
    clear hd hv hx2 hr
    have m0 := HB2.out.cell 0
    have m1 := HB2.out.cell 1
    have z0 := HB2.out.frozen 0
    have z1 := HB2.out.frozen 1
    simp at m0 m1
    go_wp2_with fail
    have HXX := Lib.hid ((HX2.out.setCell (p := ⟨w.heap.size + 1, 0, none⟩) (by dsimp only; omega) (.slice A1 d.blocks.length c1)).setCell (p := ⟨w.heap.size + 1, 1, none⟩) (by dsimp only; omega) (.slice A2 d.entries.length c2))
    have HRS := Lib.hid ((HB2.out.set 0 (.slice A1 d.blocks.length c1)).set 1 (.slice A2 d.entries.length c2))
    refine bodyPost_ret (res_cell_tmp rfl rfl HRS.out Tryd.underlying25 rfl (by kernel_rfl)) rfl ?_
    rw [← HD.out.1, ← HD.out.2]
    exact ⟨A1, c1, A2, c2, rfl, HXX.out, HR2.out⟩
  · have HO := Lib.hid (HBAD.out hu0)
    have hu1 : (u != 0) = true := by simp [bne, beq_false_of_ne hu0]
    clear HOK HBAD hu0
    have m0 := HB1.out.cell 0
    have m1 := HB1.out.cell 1
    have z0 := HB1.out.frozen 0
    have z1 := HB1.out.frozen 1
    simp at m0 m1
    go_wp2_with fail
    have HXX := Lib.hid ((HX1.out.setCell (p := ⟨w.heap.size + 1, 0, none⟩) (by dsimp only; omega) (.slice none 0 0)).setCell (p := ⟨w.heap.size + 1, 1, none⟩) (by dsimp only; omega) (.slice none 0 0))
    have HRS := Lib.hid ((HB1.out.set 0 (.slice none 0 0)).set 1 (.slice none 0 0))
    refine bodyPost_ret (res_cell_tmp rfl rfl HRS.out Tryd.underlying25 rfl (by kernel_rfl)) rfl ?_
    rw [HO.out]
    exact ⟨none, 0, none, 0, rfl, HXX.out, noCat_read _⟩

set_option maxRecDepth 100000 in
set_option maxHeartbeats 1000000 in
theorem openedOf_any (cs : List Value) (a : List Dev) (w : World) (h : RArr w cs a) :
    Calls Tryd.prog 22 #[.agg cs.toArray] w fun e w' => ∃ A1 c1 A2 c2, e = .returned (.tuple #[.agg #[.slice A1 (openS a).1.blocks.length c1, .slice A2 (openS a).1.entries.length c2], .int .i64 (openS a).2]) ∧ Ext w w' ∧ RCat w' [.slice A1 (openS a).1.blocks.length c1, .slice A2 (openS a).1.entries.length c2] (openS a).1 := by
  obtain ⟨A, c, rfl⟩ := h.form
  go_enter Tryd.func22, Tryd.ntmps22
  go_wp2_with fail
  refine calls_abs (fun W => Ext w W ∧ Blk_ W (w.heap.size + 1) 25 #[.slice none 0 0, .slice none 0 0]) ⟨((Ext.refl _).alloc _).alloc _, Blk_.new1 _ _ _ _⟩ ?_
  rintro W ⟨hx, hb⟩
  refine (refStreamRead_any [.slice A a.length c] a 0 192 W (h.up hx) (by unfold I64; omega) (by unfold I64; omega)).mono ?_
  rintro e w1 ⟨rfl, hx1⟩
  have HOK := Lib.hid (fun hu => open_ok (a := a) hu)
  have HBAD := Lib.hid (fun hu => open_bad (a := a) hu)
  have hsz := stream_small a 0 192 (by omega)
  obtain ⟨S, hS⟩ : ∃ S, S = (streamReadS a 0 192).1 := ⟨_, rfl⟩
  obtain ⟨u, hu⟩ : ∃ u, u = (streamReadS a 0 192).2 := ⟨_, rfl⟩
  rw [← hS] at HOK hsz ⊢
  rw [← hu] at HOK HBAD ⊢
  have HX1 := Lib.hid (hx.trans hx1)
  have HB1 := Lib.hid (hb.ext hx1)
  have HSZ := Lib.hid hsz
  clear hS hu hx hx1 hb hsz h
  by_cases hu0 : u = 0
  · have HO := Lib.hid (HOK.out hu0)
    subst hu0
    clear HOK HBAD
    go_wp2_with fail
    refine (catalogOf_any S w1 HSZ.out).mono ?_
    rintro e w2 ⟨A1, c1, A2, c2, rfl, hx2, hr⟩
    rw [← HO.out] at hr ⊢
    obtain ⟨d, hd⟩ : ∃ d, d = (openS a).1 := ⟨_, rfl⟩
    obtain ⟨v, hv⟩ : ∃ v, v = (openS a).2 := ⟨_, rfl⟩
    rw [← hd] at hr ⊢
    rw [← hv]
    have HD := Lib.hid (And.intro hd hv)
    have HB2 := Lib.hid (HB1.out.ext hx2)
    have HX2 := Lib.hid (HX1.out.trans hx2)
    have HR1 := Lib.hid (hr.off (k := 0) HB2.out (.slice A1 d.blocks.length c1))
    have HR2 := Lib.hid (HR1.out.off (k := 1) (HB2.out.set 0 (.slice A1 d.blocks.length c1)) (.slice A2 d.entries.length c2))
    clear hd hv hx2 hr
    have m0 := HB2.out.cell 0
    have m1 := HB2.out.cell 1
    have z0 := HB2.out.frozen 0
    have z1 := HB2.out.frozen 1
    simp at m0 m1
    go_wp2_with fail
    have HXX := Lib.hid ((HX2.out.setCell (p := ⟨w.heap.size + 1, 0, none⟩) (by dsimp only; omega) (.slice A1 d.blocks.length c1)).setCell (p := ⟨w.heap.size + 1, 1, none⟩) (by dsimp only; omega) (.slice A2 d.entries.length c2))
    have HRS := Lib.hid ((HB2.out.set 0 (.slice A1 d.blocks.length c1)).set 1 (.slice A2 d.entries.length c2))
    refine bodyPost_ret (res_cell_tmp rfl rfl HRS.out Tryd.underlying25 rfl (by kernel_rfl)) rfl ?_
    rw [← HD.out.1, ← HD.out.2]
    exact ⟨A1, c1, A2, c2, rfl, HXX.out, HR2.out⟩
  · have HO := Lib.hid (HBAD.out hu0)
    have hu1 : (u != 0) = true := by simp [bne, beq_false_of_ne hu0]
    clear HOK HBAD hu0
    have m0 := HB1.out.cell 0
    have m1 := HB1.out.cell 1
    have z0 := HB1.out.frozen 0
    have z1 := HB1.out.frozen 1
    simp at m0 m1
    go_wp2_with fail
    have HXX := Lib.hid ((HX1.out.setCell (p := ⟨w.heap.size + 1, 0, none⟩) (by dsimp only; omega) (.slice none 0 0)).setCell (p := ⟨w.heap.size + 1, 1, none⟩) (by dsimp only; omega) (.slice none 0 0))
    have HRS := Lib.hid ((HB1.out.set 0 (.slice none 0 0)).set 1 (.slice none 0 0))
    refine bodyPost_ret (res_cell_tmp rfl rfl HRS.out Tryd.underlying25 rfl (by kernel_rfl)) rfl ?_
    rw [HO.out]
    exact ⟨none, 0, none, 0, rfl, HXX.out, noCat_read _⟩

set_option maxRecDepth 100000 in
set_option maxHeartbeats 1000000 in
theorem lawArchiveOpens_any (cs : List Value) (a : List Dev) (w : World) (h : RArr w cs a) :
    Calls Tryd.prog 5 #[.agg cs.toArray] w fun e w' => e = .returned (.bool true) ∧ Ext w w' := by
  obtain ⟨A, c, rfl⟩ := h.form
  go_enter Tryd.func5, Tryd.ntmps5
  go_wp2_with fail
  refine calls_abs (fun W => Ext w W ∧ Blk_ W w.heap.size 40 #[.slice A a.length c]) ⟨(Ext.refl _).alloc _, Blk_.new _ _ _⟩ ?_
  rintro W ⟨hx, hb⟩
  refine (archOpen_any [.slice A a.length c] a W (h.up hx)).mono ?_
  rintro e w1 ⟨A1, c1, A2, c2, rfl, hx1, hr1⟩
  obtain ⟨d, hd⟩ : ∃ d, d = (openS a).1 := ⟨_, rfl⟩
  obtain ⟨u, hu⟩ : ∃ u, u = (openS a).2 := ⟨_, rfl⟩
  rw [← hd] at hr1 ⊢
  rw [← hu]
  have HD := Lib.hid (And.intro hd hu)
  have HR1 := Lib.hid hr1
  have HX1 := Lib.hid (hx.trans hx1)
  have HB1 := Lib.hid (hb.ext hx1)
  have HH := Lib.hid h
  have f0 := HB1.out.cell 0
  have lb := HB1.out.lt
  simp at f0
  clear hd hu hr1 hx1 hx hb h
  go_wp2_with fail
  refine calls_abs (fun W => Ext w1 W ∧ Blk_ W w1.heap.size 25 #[.slice A1 d.blocks.length c1, .slice A2 d.entries.length c2]) ⟨(Ext.refl _).alloc _, Blk_.new _ _ _⟩ ?_
  rintro W ⟨hx, hb⟩
  refine (openedOf_any [.slice A a.length c] a W (HH.out.up (HX1.out.trans hx))).mono ?_
  rintro e w2 ⟨B1, e1, B2, e2, rfl, hx2, hr2⟩
  rw [← HD.out.1] at hr2 ⊢
  rw [← HD.out.2]
  have hb2 := hb.ext hx2
  have g0 := hb2.cell 0
  have g1 := hb2.cell 1
  have lb2 := hb2.lt
  simp at g0 g1
  have HX2 := Lib.hid (HX1.out.trans (hx.trans hx2))
  have HR2 := Lib.hid hr2
  have HR1' := Lib.hid (HR1.out.up (hx.trans hx2))
  clear hx hb hx2 hr2 hb2 f0 lb
  go_wp2_with fail
  refine (sameCatalog_true [.slice A1 d.blocks.length c1, .slice A2 d.entries.length c2] [.slice B1 d.blocks.length e1, .slice B2 d.entries.length e2] d _ (HR1'.out.up ((Ext.refl _).alloc _)) (HR2.out.up ((Ext.refl _).alloc _))).mono ?_
  rintro e w3 ⟨rfl, hx3⟩
  have HX3 := Lib.hid ((HX2.out.trans ((Ext.refl _).alloc _)).trans hx3)
  clear hx3
  go_wp2_with fail
  go_ret
  exact ⟨rfl, HX3.out⟩
end Go.Proofs.YtokpjgpdkmimgaaDoor
