/-
  archive.Open and the document's OpenedOf: the catalog of an archive; the law ArchiveOpens. Conditions: the argument reads as an array.
-/
import Derived.Test.YtokpjgpdkmimgaaDoorG14
namespace Go.Proofs.YtokpjgpdkmimgaaDoor
set_option linter.unusedSimpArgs false
set_option linter.unusedVariables false
open Go.RowKit

def openS (a : List Dev) : Cat × Int := if (streamReadS a 0 192).2 = 0 then decCatS (streamReadS a 0 192).1 else (noCat, (streamReadS a 0 192).2)
theorem open_ok {a : List Dev} (h : (streamReadS a 0 192).2 = 0) : openS a = decCatS (streamReadS a 0 192).1 := by unfold openS; rw [if_pos h]
theorem open_bad {a : List Dev} (h : ¬ (streamReadS a 0 192).2 = 0) : openS a = (noCat, (streamReadS a 0 192).2) := by unfold openS; rw [if_neg h]
theorem stream_small (a : List Dev) (first n : Int) (hn : n ≤ 140737488355328) : (streamReadS a first n).1.size ≤ 140737488355328 := by
  unfold streamReadS
  split
  · exact Nat.zero_le _
  · split
    · exact Nat.zero_le _
    · show (ByteArray.extract _ 0 n.toNat).size ≤ _
      rw [ByteArray.size_extract]; omega
/-- A row's cells are not those of a box of slices. -/
theorem av_box {α : Type} {C bytes : Nat} {R : Rd α} {enc : α → List Value} (he : Enc C R enc) {w : World} {v : Value} {l : List α} {g : Nat} {t : TypeId} {A A' : Option Addr} {n c n' c' : Nat} (h : SlR C bytes R w v l) (hb : Blk_ w g t #[.slice A n c, .slice A' n' c'])
    (hne : ∀ a, ∃ u, (enc a)[0]? = some u ∧ ∀ B m k, u ≠ .slice B m k) : Av g v := by
  obtain ⟨A1, cap, e, hb1, hc1, h⟩ := h
  intro b o s m k ev
  rw [e] at ev
  injection ev with h1 h2 h3
  rcases h with h | ⟨b', o', hA, h⟩
  · left; rw [← h2, h]; rfl
  · by_cases h0 : l.length = 0
    · left; omega
    · right
      rw [hA] at h1
      injection h1 with h1
      injection h1 with h1 h1' h1''
      subst h1
      rintro rfl
      obtain ⟨cs, hl, hcell, hr⟩ := h 0 (by omega)
      obtain ⟨u, hu, hun⟩ := hne (l[0]'(by omega))
      have hcs := he.cs _ _ _ hr
      have hC : 0 < C := by
        rw [← he.len (l[0]'(by omega))]
        exact (List.getElem?_eq_some_iff.1 hu).1
      have hc := hcell 0 hC
      rw [hcs, hu, hb.cell] at hc
      match hq : o' + 0 * C + 0, hc with
      | 0, hc => simp at hc; exact hun _ _ _ hc.symm
      | 1, hc => simp at hc; exact hun _ _ _ hc.symm
      | j + 2, hc => simp at hc
theorem RCat.off {w : World} {V1 V2 : Value} {d : Cat} {g k : Nat} {t : TypeId} {A A' : Option Addr} {n c n' c' : Nat} (h : RCat w [V1, V2] d) (hb : Blk_ w g t #[.slice A n c, .slice A' n' c']) (u : Value) : RCat (w.setCell ⟨g, k, none⟩ u) [V1, V2] d := by
  obtain ⟨v1, v2, e, h1, h2⟩ := h
  simp only [List.cons.injEq, and_true] at e
  obtain ⟨rfl, rfl⟩ := e
  exact ⟨_, _, rfl, h1.far encBlk_ok (p := ⟨g, k, none⟩) (av_box encBlk_ok h1 hb (fun a => ⟨_, rfl, fun _ _ _ h => by cases h⟩)) u, h2.far encEnt_ok (p := ⟨g, k, none⟩) (av_box encEnt_ok h2 hb (fun a => ⟨_, rfl, fun _ _ _ h => by cases h⟩)) u⟩

set_option maxRecDepth 100000 in
set_option maxHeartbeats 1000000 in
theorem archOpen_any (cs : List Value) (a : List Dev) (w : World) (h : RArr w cs a) :
    Calls Tryd.prog 21 #[.agg cs.toArray] w fun e w' => ∃ A1 c1 A2 c2, e = .returned (.tuple #[.agg #[.slice A1 (openS a).1.blocks.length c1, .slice A2 (openS a).1.entries.length c2], .int .i64 (openS a).2]) ∧ Ext w w' ∧ RCat w' [.slice A1 (openS a).1.blocks.length c1, .slice A2 (openS a).1.entries.length c2] (openS a).1 := by
  obtain ⟨A, c, rfl⟩ := h.form
  go_enter Tryd.func21, Tryd.ntmps21
  go_wp2_with fail
  refine calls_abs (fun W => Ext w W ∧ Blk_ W (w.heap.size + 1) 25 #[.slice none 0 0, .slice none 0 0]) ⟨((Ext.refl _).alloc _).alloc _, Blk_.new1 _ _ _ _⟩ ?_
  rintro W ⟨hx, hb⟩
  refine (streamRead_any [.slice A a.length c] a 0 192 W (h.up hx) (by unfold I64; omega) (by unfold I64; omega)).mono ?_
  rintro e w1 ⟨rfl, hx1⟩
  have HOK := Lib.hid (fun hu => open_ok (a := a) hu)
  have HBAD := Lib.hid (fun hu => open_bad (a := a) hu)
  have hsz := stream_small a 0 192 (by omega)
  obtain ⟨S, hS⟩ : ∃ S, S = (streamReadS a 0 192).1 := ⟨_, rfl⟩
  obtain ⟨u, hu⟩ : ∃ u, u = (streamReadS a 0 192).2 := ⟨_, rfl⟩
  rw [← hS] at HOK hsz ⊢
  rw [← hu] at HOK HBAD ⊢
  have HX1 := Lib.hid (hx.trans hx1)
  have HB1 := Lib.hid (hb.ext hx1)
  have HSZ := Lib.hid hsz
  clear hS hu hx hx1 hb hsz h
  by_cases hu0 : u = 0
  · have HO := Lib.hid (HOK.out hu0)
    subst hu0
    clear HOK HBAD
    go_wp2_with fail
    refine (catDecode_any S w1 HSZ.out).mono ?_
    rintro e w2 ⟨A1, c1, A2, c2, rfl, hx2, hr⟩
    rw [← HO.out] at hr ⊢
    obtain ⟨d, hd⟩ : ∃ d, d = (openS a).1 := ⟨_, rfl⟩
    obtain ⟨v, hv⟩ : ∃ v, v = (openS a).2 := ⟨_, rfl⟩
    rw [← hd] at hr ⊢
    rw [← hv]
    have HD := Lib.hid (And.intro hd hv)
    have HB2 := Lib.hid (HB1.out.ext hx2)
    have HX2 := Lib.hid (HX1.out.trans hx2)
    have HR1 := Lib.hid (hr.off (k := 0) HB2.out (.slice A1 d.blocks.length c1))
    have HR2 := Lib.hid (HR1.out.off (k := 1) (HB2.out.set 0 (.slice A1 d.blocks.length c1)) (.slice A2 d.entries.length c2))
    clear hd hv hx2 hr
    have m0 := HB2.out.cell 0
    have m1 := HB2.out.cell 1
    have z0 := HB2.out.frozen 0
    have z1 := HB2.out.frozen 1
    simp at m0 m1
    go_wp2_with fail
    have HXX := Lib.hid ((HX2.out.setCell (p := ⟨w.heap.size + 1, 0, none⟩) (by dsimp only; omega) (.slice A1 d.blocks.length c1)).setCell (p := ⟨w.heap.size + 1, 1, none⟩) (by dsimp only; omega) (.slice A2 d.entries.length c2))
    have HRS := Lib.hid ((HB2.out.set 0 (.slice A1 d.blocks.length c1)).set 1 (.slice A2 d.entries.length c2))
    refine bodyPost_ret (res_cell_tmp rfl rfl HRS.out Tryd.underlying25 rfl (by kernel_rfl)) rfl ?_
    rw [← HD.out.1, ← HD.out.2]
    exact ⟨A1, c1, A2, c2, rfl, HXX.out, HR2.out⟩
  · have HO := Lib.hid (HBAD.out hu0)
    have hu1 : (u != 0) = true := by simp [bne, beq_false_of_ne hu0]
    clear HOK HBAD hu0
    have m0 := HB1.out.cell 0
    have m1 := HB1.out.cell 1
    have z0 := HB1.out.frozen 0
    have z1 := HB1.out.frozen 1
    simp at m0 m1
    go_wp2_with fail
    have HXX := Lib.hid ((HX1.out.setCell (p := ⟨w.heap.size + 1, 0, none⟩) (by dsimp only; omega) (.slice none 0 0)).setCell (p := ⟨w.heap.size + 1, 1, none⟩) (by dsimp only; omega) (.slice none 0 0))
    have HRS := Lib.hid ((HB1.out.set 0 (.slice none 0 0)).set 1 (.slice none 0 0))
    refine bodyPost_ret (res_cell_tmp rfl rfl HRS.out Tryd.underlying25 rfl (by kernel_rfl)) rfl ?_
    rw [HO.out]
    exact ⟨none, 0, none, 0, rfl, HXX.out, noCat_read _⟩

set_option maxRecDepth 100000 in
set_option maxHeartbeats 1000000 in
theorem openedOf_any (cs : List Value) (a : List Dev) (w : World) (h : RArr w cs a) :
    Calls Tryd.prog 22 #[.agg cs.toArray] w fun e w' => ∃ A1 c1 A2 c2, e = .returned (.tuple #[.agg #[.slice A1 (openS a).1.blocks.length c1, .slice A2 (openS a).1.entries.length c2], .int .i64 (openS a).2]) ∧ Ext w w' ∧ RCat w' [.slice A1 (openS a).1.blocks.length c1, .slice A2 (openS a).1.entries.length c2] (openS a).1 := by
  obtain ⟨A, c, rfl⟩ := h.form
  go_enter Tryd.func22, Tryd.ntmps22
  go_wp2_with fail
  refine calls_abs (fun W => Ext w W ∧ Blk_ W (w.heap.size + 1) 25 #[.slice none 0 0, .slice none 0 0]) ⟨((Ext.refl _).alloc _).alloc _, Blk_.new1 _ _ _ _⟩ ?_
  rintro W ⟨hx, hb⟩
  refine (refStreamRead_any [.slice A a.length c] a 0 192 W (h.up hx) (by unfold I64; omega) (by unfold I64; omega)).mono ?_
  rintro e w1 ⟨rfl, hx1⟩
  have HOK := Lib.hid (fun hu => open_ok (a := a) hu)
  have HBAD := Lib.hid (fun hu => open_bad (a := a) hu)
  have hsz := stream_small a 0 192 (by omega)
  obtain ⟨S, hS⟩ : ∃ S, S = (streamReadS a 0 192).1 := ⟨_, rfl⟩
  obtain ⟨u, hu⟩ : ∃ u, u = (streamReadS a 0 192).2 := ⟨_, rfl⟩
  rw [← hS] at HOK hsz ⊢
  rw [← hu] at HOK HBAD ⊢
  have HX1 := Lib.hid (hx.trans hx1)
  have HB1 := Lib.hid (hb.ext hx1)
  have HSZ := Lib.hid hsz
  clear hS hu hx hx1 hb hsz h
  by_cases hu0 : u = 0
  · have HO := Lib.hid (HOK.out hu0)
    subst hu0
    clear HOK HBAD
    go_wp2_with fail
    refine (catalogOf_any S w1 HSZ.out).mono ?_
    rintro e w2 ⟨A1, c1, A2, c2, rfl, hx2, hr⟩
    rw [← HO.out] at hr ⊢
    obtain ⟨d, hd⟩ : ∃ d, d = (openS a).1 := ⟨_, rfl⟩
    obtain ⟨v, hv⟩ : ∃ v, v = (openS a).2 := ⟨_, rfl⟩
    rw [← hd] at hr ⊢
    rw [← hv]
    have HD := Lib.hid (And.intro hd hv)
    have HB2 := Lib.hid (HB1.out.ext hx2)
    have HX2 := Lib.hid (HX1.out.trans hx2)
    have HR1 := Lib.hid (hr.off (k := 0) HB2.out (.slice A1 d.blocks.length c1))
    have HR2 := Lib.hid (HR1.out.off (k := 1) (HB2.out.set 0 (.slice A1 d.blocks.length c1)) (.slice A2 d.entries.length c2))
    clear hd hv hx2 hr
    have m0 := HB2.out.cell 0
    have m1 := HB2.out.cell 1
    have z0 := HB2.out.frozen 0
    have z1 := HB2.out.frozen 1
    simp at m0 m1
    go_wp2_with fail
    have HXX := Lib.hid ((HX2.out.setCell (p := ⟨w.heap.size + 1, 0, none⟩) (by dsimp only; omega) (.slice A1 d.blocks.length c1)).setCell (p := ⟨w.heap.size + 1, 1, none⟩) (by dsimp only; omega) (.slice A2 d.entries.length c2))
    have HRS := Lib.hid ((HB2.out.set 0 (.slice A1 d.blocks.length c1)).set 1 (.slice A2 d.entries.length c2))
    refine bodyPost_ret (res_cell_tmp rfl rfl HRS.out Tryd.underlying25 rfl (by kernel_rfl)) rfl ?_
    rw [← HD.out.1, ← HD.out.2]
    exact ⟨A1, c1, A2, c2, rfl, HXX.out, HR2.out⟩
  · have HO := Lib.hid (HBAD.out hu0)
    have hu1 : (u != 0) = true := by simp [bne, beq_false_of_ne hu0]
    clear HOK HBAD hu0
    have m0 := HB1.out.cell 0
    have m1 := HB1.out.cell 1
    have z0 := HB1.out.frozen 0
    have z1 := HB1.out.frozen 1
    simp at m0 m1
    go_wp2_with fail
    have HXX := Lib.hid ((HX1.out.setCell (p := ⟨w.heap.size + 1, 0, none⟩) (by dsimp only; omega) (.slice none 0 0)).setCell (p := ⟨w.heap.size + 1, 1, none⟩) (by dsimp only; omega) (.slice none 0 0))
    have HRS := Lib.hid ((HB1.out.set 0 (.slice none 0 0)).set 1 (.slice none 0 0))
    refine bodyPost_ret (res_cell_tmp rfl rfl HRS.out Tryd.underlying25 rfl (by kernel_rfl)) rfl ?_
    rw [HO.out]
    exact ⟨none, 0, none, 0, rfl, HXX.out, noCat_read _⟩

set_option maxRecDepth 100000 in
set_option maxHeartbeats 1000000 in
theorem lawArchiveOpens_any (cs : List Value) (a : List Dev) (w : World) (h : RArr w cs a) :
    Calls Tryd.prog 5 #[.agg cs.toArray] w fun e w' => e = .returned (.bool true) ∧ Ext w w' := by
  obtain ⟨A, c, rfl⟩ := h.form
  go_enter Tryd.func5, Tryd.ntmps5
  go_wp2_with fail
  refine calls_abs (fun W => Ext w W ∧ Blk_ W w.heap.size 40 #[.slice A a.length c]) ⟨(Ext.refl _).alloc _, Blk_.new _ _ _⟩ ?_
  rintro W ⟨hx, hb⟩
  refine (archOpen_any [.slice A a.length c] a W (h.up hx)).mono ?_
  rintro e w1 ⟨A1, c1, A2, c2, rfl, hx1, hr1⟩
  obtain ⟨d, hd⟩ : ∃ d, d = (openS a).1 := ⟨_, rfl⟩
  obtain ⟨u, hu⟩ : ∃ u, u = (openS a).2 := ⟨_, rfl⟩
  rw [← hd] at hr1 ⊢
  rw [← hu]
  have HD := Lib.hid (And.intro hd hu)
  have HR1 := Lib.hid hr1
  have HX1 := Lib.hid (hx.trans hx1)
  have HB1 := Lib.hid (hb.ext hx1)
  have HH := Lib.hid h
  have f0 := HB1.out.cell 0
  have lb := HB1.out.lt
  simp at f0
  clear hd hu hr1 hx1 hx hb h
  go_wp2_with fail
  refine calls_abs (fun W => Ext w1 W ∧ Blk_ W w1.heap.size 25 #[.slice A1 d.blocks.length c1, .slice A2 d.entries.length c2]) ⟨(Ext.refl _).alloc _, Blk_.new _ _ _⟩ ?_
  rintro W ⟨hx, hb⟩
  refine (openedOf_any [.slice A a.length c] a W (HH.out.up (HX1.out.trans hx))).mono ?_
  rintro e w2 ⟨B1, e1, B2, e2, rfl, hx2, hr2⟩
  rw [← HD.out.1] at hr2 ⊢
  rw [← HD.out.2]
  have hb2 := hb.ext hx2
  have g0 := hb2.cell 0
  have g1 := hb2.cell 1
  have lb2 := hb2.lt
  simp at g0 g1
  have HX2 := Lib.hid (HX1.out.trans (hx.trans hx2))
  have HR2 := Lib.hid hr2
  have HR1' := Lib.hid (HR1.out.up (hx.trans hx2))
  clear hx hb hx2 hr2 hb2 f0 lb
  go_wp2_with fail
  refine (sameCatalog_true [.slice A1 d.blocks.length c1, .slice A2 d.entries.length c2] [.slice B1 d.blocks.length e1, .slice B2 d.entries.length e2] d _ (HR1'.out.up ((Ext.refl _).alloc _)) (HR2.out.up ((Ext.refl _).alloc _))).mono ?_
  rintro e w3 ⟨rfl, hx3⟩
  have HX3 := Lib.hid ((HX2.out.trans ((Ext.refl _).alloc _)).trans hx3)
  clear hx3
  go_wp2_with fail
  go_ret
  exact ⟨rfl, HX3.out⟩
end Go.Proofs.YtokpjgpdkmimgaaDoor

/-
  archive.Get and the document's GotOf: a file of an archive; the law ArchiveGets. Conditions: the argument reads as an array.
-/
namespace Go.Proofs.YtokpjgpdkmimgaaDoor
set_option linter.unusedSimpArgs false
set_option linter.unusedVariables false
open Go.RowKit

def getS (a : List Dev) (name : ByteArray) : ByteArray × Int :=
  if (openS a).2 = 0 then
    if (findS (openS a).1 name).2 = 0 then
      let x := (findS (openS a).1 name).1
      let b := (openS a).1.blocks.getD x.block.toNat ⟨0, 0⟩
      if (streamReadS a b.first b.bytes).2 = 0 then
        if (unpackS (streamReadS a b.first b.bytes).1).2 = 0 then
          if ((unpackS (streamReadS a b.first b.bytes).1).1.size : Int) < x.at_ + x.bytes then (.empty, 9)
          else ((unpackS (streamReadS a b.first b.bytes).1).1.extract x.at_.toNat (x.at_ + x.bytes).toNat, 0)
        else (.empty, (unpackS (streamReadS a b.first b.bytes).1).2)
      else (.empty, (streamReadS a b.first b.bytes).2)
    else (.empty, (findS (openS a).1 name).2)
  else (.empty, (openS a).2)
theorem find_mem {c : Cat} {t : ByteArray} (h : (findS c t).2 = 0) : catFault c = 0 ∧ (findS c t).1 ∈ c.entries := by
  unfold findS at h ⊢
  by_cases hc : catFault c = 0
  · rw [if_pos hc] at h ⊢
    refine ⟨hc, ?_⟩
    cases hf : c.entries.find? (fun x => decide (lst x.name = lst t)) with
    | none => rw [hf] at h; exact absurd h (by decide)
    | some x => exact List.mem_of_find?_eq_some hf
  · rw [if_neg hc] at h; exact absurd h hc
theorem found_ok {c : Cat} {t : ByteArray} (h : (findS c t).2 = 0) : ∃ k : Nat, (findS c t).1.block = (k : Int) ∧ k < c.blocks.length ∧ c.blocks.length ≤ 10 ∧ 0 ≤ (findS c t).1.at_ ∧ (findS c t).1.at_ ≤ 600 ∧ 0 ≤ (findS c t).1.bytes ∧ (findS c t).1.bytes ≤ 200 ∧ ∀ b ∈ c.blocks, 0 ≤ b.bytes ∧ b.bytes ≤ 1200 := by
  obtain ⟨h1, h2⟩ := find_mem h
  obtain ⟨k1, _, k3, k4⟩ := catFault_ok h1
  have h3 := entBad_false (entsF_ok _ _ _ k4 _ h2)
  refine ⟨(findS c t).1.block.toNat, by omega, by omega, k1, h3.2.2.2.1, h3.2.2.2.2.1, h3.2.2.2.2.2.1, h3.2.2.2.2.2.2, blocksF_range _ 8 (by omega) k3⟩

set_option maxRecDepth 100000 in
set_option maxHeartbeats 4000000 in
theorem archGet_any (cs : List Value) (a : List Dev) (nm : ByteArray) (w : World) (h : RArr w cs a) :
    Calls Tryd.prog 33 #[.agg cs.toArray, .string nm] w fun e w' => e = .returned (.tuple #[.string (getS a nm).1, .int .i64 (getS a nm).2]) ∧ Ext w w' := by
  obtain ⟨A, c, rfl⟩ := h.form
  obtain ⟨R, hR⟩ : ∃ R, R = getS a nm := ⟨_, rfl⟩
  rw [← hR]
  unfold getS at hR
  go_enter Tryd.func33, Tryd.ntmps33
  go_wp2_with fail
  refine calls_abs (fun W => Ext w W ∧ Blk_ W w.heap.size 40 #[.slice A a.length c]) ⟨(Ext.refl _).alloc _, Blk_.new _ _ _⟩ ?_
  rintro W ⟨hx, hb⟩
  refine (archOpen_any [.slice A a.length c] a W (h.up hx)).mono ?_
  rintro e w1 ⟨A1, c1, A2, c2, rfl, hx1, hr1⟩
  obtain ⟨d, hd⟩ : ∃ d, d = (openS a).1 := ⟨_, rfl⟩
  obtain ⟨u, hu⟩ : ∃ u, u = (openS a).2 := ⟨_, rfl⟩
  rw [← hd, ← hu] at hR
  rw [← hd] at hr1 ⊢
  rw [← hu]
  have HX1 := Lib.hid (hx.trans hx1)
  have HB1 := Lib.hid (hb.ext hx1)
  have HR1 := Lib.hid hr1
  have HH := Lib.hid h
  clear hd hu hx hx1 hb hr1 h
  by_cases hu0 : u = 0
  · subst hu0
    rw [if_pos rfl] at hR
    go_wp2_with fail
    refine calls_abs (fun W => Ext w1 W ∧ Blk_ W w1.heap.size 25 #[.slice A1 d.blocks.length c1, .slice A2 d.entries.length c2]) ⟨(Ext.refl _).alloc _, Blk_.new _ _ _⟩ ?_
    rintro W ⟨hx, hb⟩
    refine (catFind_any [.slice A1 d.blocks.length c1, .slice A2 d.entries.length c2] d nm W (HR1.out.up hx)).mono ?_
    rintro e w2 ⟨rfl, hx2⟩
    have hfo := fun hv => found_ok (c := d) (t := nm) hv
    obtain ⟨X, hX⟩ : ∃ X, X = (findS d nm).1 := ⟨_, rfl⟩
    obtain ⟨v, hv⟩ : ∃ v, v = (findS d nm).2 := ⟨_, rfl⟩
    rw [← hX, ← hv] at hR hfo ⊢
    unfold entV
    have HX2 := Lib.hid (HX1.out.trans (hx.trans hx2))
    have HB2 := Lib.hid (HB1.out.ext (hx.trans hx2))
    have HC2 := Lib.hid (hb.ext hx2)
    have HE12 := Lib.hid (hx.trans hx2)
    clear hX hv hx hx2 hb HX1 HB1
    have lc := HC2.out.lt
    have la := HB2.out.lt
    by_cases hv0 : v = 0
    · subst hv0
      rw [if_pos rfl] at hR
      obtain ⟨k, hk, hkl, hl10, ha0, ha6, hn0, hn2, hbr⟩ := hfo rfl
      try dsimp only at hR
      rw [hk, Int.toNat_natCast, List.getD_eq_getElem?_getD, List.getElem?_eq_getElem hkl] at hR
      obtain ⟨V1, V2, hvv, hs1, hs2⟩ := HR1.out
      simp only [List.cons.injEq, and_true] at hvv
      obtain ⟨rfl, rfl⟩ := hvv
      have hmem := hs1.mem encBlk_ok w1 _ (List.getElem_mem hkl)
      have hbb := hbr _ (List.getElem_mem hkl)
      obtain ⟨A1', c1', hv1, _, _, p1⟩ := hs1.rowE encBlk_ok
      injection hv1 with e1 e2 e3
      subst e1 e3
      obtain ⟨b1, o1, rfl, g1⟩ := p1 k hkl
      have q0 := HE12.out.cell (g1 k hkl 0 _ rfl)
      have q1 := HE12.out.cell (g1 k hkl 1 _ rfl)
      simp only [Nat.add_zero] at q0
      obtain ⟨B, hB⟩ : ∃ B, B = d.blocks[k] := ⟨_, rfl⟩
      rw [← hB] at q0 q1 hmem hbb
      have hRR : R = if (streamReadS a B.first B.bytes).2 = 0 then (if (unpackS (streamReadS a B.first B.bytes).1).2 = 0 then (if ((unpackS (streamReadS a B.first B.bytes).1).1.size : Int) < X.at_ + X.bytes then (.empty, 9) else ((unpackS (streamReadS a B.first B.bytes).1).1.extract X.at_.toNat (X.at_ + X.bytes).toNat, 0)) else (.empty, (unpackS (streamReadS a B.first B.bytes).1).2)) else (.empty, (streamReadS a B.first B.bytes).2) := by
        rw [hB]; exact hR
      obtain ⟨p, hp⟩ := Int.eq_ofNat_of_zero_le ha0
      obtain ⟨n, hn⟩ := Int.eq_ofNat_of_zero_le hn0
      rw [hp, hn] at hRR
      rw [hk, hp, hn]
      have hp6 : (p : Int) ≤ 600 := by omega
      have hn6 : (n : Int) ≤ 200 := by omega
      have hkI : (k : Int) < (d.blocks.length : Int) := by omega
      have hk10 : (k : Int) < 10 := by omega
      have HRR := Lib.hid hRR
      have HI := Lib.hid (And.intro hmem.2.1 hmem.2.2)
      have hsz := stream_small a B.first B.bytes (by omega)
      have g0 := HC2.out.cell 0
      have f0 := HB2.out.cell 0
      simp at g0 f0
      have lb1 := World.block_lt_of_cell? w2 _ q0
      simp at lb1
      clear hR hRR hB hs1 hs2 p1 g1 hmem hbb hbr hfo hp hn hk ha0 ha6 hn0 hn2
      go_wp2_with fail
      refine calls_abs (fun W => Ext w2 W ∧ Blk_ W w2.heap.size 58 #[.string X.name, .int .i64 (k : Int), .int .i64 (p : Int), .int .i64 (n : Int)]) ⟨((Ext.refl _).alloc _).alloc _, (Blk_.new _ _ _).alloc _⟩ ?_
      rintro W3 ⟨hx, hb⟩
      refine (streamRead_any [.slice A a.length c] a B.first B.bytes W3 (HH.out.up (HX2.out.trans hx)) HI.out.1 HI.out.2).mono ?_
      rintro e w3 ⟨rfl, hx3⟩
      obtain ⟨S, hS⟩ : ∃ S, S = (streamReadS a B.first B.bytes).1 := ⟨_, rfl⟩
      obtain ⟨y, hy⟩ : ∃ y, y = (streamReadS a B.first B.bytes).2 := ⟨_, rfl⟩
      rw [← hS] at hsz
      rw [← hS, ← hy] at HRR ⊢
      have HX3 := Lib.hid (HX2.out.trans (hx.trans hx3))
      have HE3 := Lib.hid (hb.ext hx3)
      clear hx hb hS hy
      clear hx3 g0 f0 q0 q1
      by_cases hy0 : y = 0
      · subst hy0
        have HR3 := HRR.out
        rw [if_pos rfl] at HR3
        have HR4 := Lib.hid HR3
        clear HR3 HRR
        go_wp2_with fail
        refine (unpack_any S _ hsz).mono ?_
        rintro e w4 ⟨rfl, hx4⟩
        obtain ⟨T, hT⟩ : ∃ T, T = (unpackS S).1 := ⟨_, rfl⟩
        obtain ⟨z, hz⟩ : ∃ z, z = (unpackS S).2 := ⟨_, rfl⟩
        rw [← hT, ← hz] at HR4 ⊢
        have HX4 := Lib.hid (HX3.out.trans hx4)
        have HE4 := Lib.hid (HE3.out.ext hx4)
        have m2 := HE4.out.cell 2
        have m3 := HE4.out.cell 3
        simp at m2 m3
        clear hT hz hx4
        by_cases hz0 : z = 0
        · subst hz0
          have HR5 := HR4.out
          rw [if_pos rfl] at HR5
          by_cases hov : (T.size : Int) < (p : Int) + (n : Int)
          · rw [if_pos hov] at HR5
            have HR6 := Lib.hid HR5
            clear HR5 HR4
            go_wp2_with fail
            go_ret2
            rw [HR6.out]
            exact ⟨rfl, HX4.out⟩
          · rw [if_neg hov] at HR5
            have x1 : ((p : Int)).toNat = p := by omega
            have x2 : ((p : Int) + (n : Int)).toNat = p + n := by omega
            have x3 : (p : Int) ≤ (p : Int) + (n : Int) := by omega
            have x4 : (p : Int) + (n : Int) ≤ (T.size : Int) := by omega
            have x5 : (0 : Int) ≤ (p : Int) + (n : Int) := by omega
            have x6 : (0 : Int) ≤ (p : Int) := by omega
            rw [x1, x2] at HR5
            obtain ⟨Z, hZ⟩ : ∃ Z, Z = T.extract p (p + n) := ⟨_, rfl⟩
            rw [← hZ] at HR5
            have HR6 := Lib.hid HR5
            have HZ := Lib.hid hZ
            clear HR5 HR4 hZ
            go_wp2_with fail
            go_ret2
            rw [HR6.out, HZ.out]
            exact ⟨rfl, HX4.out⟩
        · have HR5 := HR4.out
          rw [if_neg hz0] at HR5
          have HR6 := Lib.hid HR5
          have hz1 : (z != 0) = true := by simp [bne, beq_false_of_ne hz0]
          clear HR5 HR4 hz0
          go_wp2_with fail
          go_ret2
          rw [HR6.out]
          exact ⟨rfl, HX4.out⟩
      · have HR3 := HRR.out
        rw [if_neg hy0] at HR3
        have HR4 := Lib.hid HR3
        have hy1 : (y != 0) = true := by simp [bne, beq_false_of_ne hy0]
        clear HR3 HRR hy0
        go_wp2_with fail
        go_ret2
        rw [HR4.out]
        exact ⟨rfl, HX3.out⟩
    · rw [if_neg hv0] at hR
      have HR2 := Lib.hid hR
      have hv1 : (v != 0) = true := by simp [bne, beq_false_of_ne hv0]
      clear hR hv0 hfo
      go_wp2_with fail
      go_ret2
      rw [HR2.out]
      exact ⟨rfl, HX2.out.alloc _⟩
  · rw [if_neg hu0] at hR
    have HR2 := Lib.hid hR
    have hu1 : (u != 0) = true := by simp [bne, beq_false_of_ne hu0]
    clear hR hu0
    go_wp2_with fail
    go_ret2
    rw [HR2.out]
    exact ⟨rfl, HX1.out.alloc _⟩

set_option maxRecDepth 100000 in
set_option maxHeartbeats 4000000 in
theorem gotOf_any (cs : List Value) (a : List Dev) (nm : ByteArray) (w : World) (h : RArr w cs a) :
    Calls Tryd.prog 34 #[.agg cs.toArray, .string nm] w fun e w' => e = .returned (.tuple #[.string (getS a nm).1, .int .i64 (getS a nm).2]) ∧ Ext w w' := by
  obtain ⟨A, c, rfl⟩ := h.form
  obtain ⟨R, hR⟩ : ∃ R, R = getS a nm := ⟨_, rfl⟩
  rw [← hR]
  unfold getS at hR
  go_enter Tryd.func34, Tryd.ntmps34
  go_wp2_with fail
  refine calls_abs (fun W => Ext w W ∧ Blk_ W w.heap.size 40 #[.slice A a.length c]) ⟨(Ext.refl _).alloc _, Blk_.new _ _ _⟩ ?_
  rintro W ⟨hx, hb⟩
  refine (openedOf_any [.slice A a.length c] a W (h.up hx)).mono ?_
  rintro e w1 ⟨A1, c1, A2, c2, rfl, hx1, hr1⟩
  obtain ⟨d, hd⟩ : ∃ d, d = (openS a).1 := ⟨_, rfl⟩
  obtain ⟨u, hu⟩ : ∃ u, u = (openS a).2 := ⟨_, rfl⟩
  rw [← hd, ← hu] at hR
  rw [← hd] at hr1 ⊢
  rw [← hu]
  have HX1 := Lib.hid (hx.trans hx1)
  have HB1 := Lib.hid (hb.ext hx1)
  have HR1 := Lib.hid hr1
  have HH := Lib.hid h
  clear hd hu hx hx1 hb hr1 h
  by_cases hu0 : u = 0
  · subst hu0
    rw [if_pos rfl] at hR
    go_wp2_with fail
    refine calls_abs (fun W => Ext w1 W ∧ Blk_ W w1.heap.size 25 #[.slice A1 d.blocks.length c1, .slice A2 d.entries.length c2]) ⟨(Ext.refl _).alloc _, Blk_.new _ _ _⟩ ?_
    rintro W ⟨hx, hb⟩
    refine (foundOf_any [.slice A1 d.blocks.length c1, .slice A2 d.entries.length c2] d nm W (HR1.out.up hx)).mono ?_
    rintro e w2 ⟨rfl, hx2⟩
    have hfo := fun hv => found_ok (c := d) (t := nm) hv
    obtain ⟨X, hX⟩ : ∃ X, X = (findS d nm).1 := ⟨_, rfl⟩
    obtain ⟨v, hv⟩ : ∃ v, v = (findS d nm).2 := ⟨_, rfl⟩
    rw [← hX, ← hv] at hR hfo ⊢
    unfold entV
    have HX2 := Lib.hid (HX1.out.trans (hx.trans hx2))
    have HB2 := Lib.hid (HB1.out.ext (hx.trans hx2))
    have HC2 := Lib.hid (hb.ext hx2)
    have HE12 := Lib.hid (hx.trans hx2)
    clear hX hv hx hx2 hb HX1 HB1
    have lc := HC2.out.lt
    have la := HB2.out.lt
    by_cases hv0 : v = 0
    · subst hv0
      rw [if_pos rfl] at hR
      obtain ⟨k, hk, hkl, hl10, ha0, ha6, hn0, hn2, hbr⟩ := hfo rfl
      try dsimp only at hR
      rw [hk, Int.toNat_natCast, List.getD_eq_getElem?_getD, List.getElem?_eq_getElem hkl] at hR
      obtain ⟨V1, V2, hvv, hs1, hs2⟩ := HR1.out
      simp only [List.cons.injEq, and_true] at hvv
      obtain ⟨rfl, rfl⟩ := hvv
      have hmem := hs1.mem encBlk_ok w1 _ (List.getElem_mem hkl)
      have hbb := hbr _ (List.getElem_mem hkl)
      obtain ⟨A1', c1', hv1, _, _, p1⟩ := hs1.rowE encBlk_ok
      injection hv1 with e1 e2 e3
      subst e1 e3
      obtain ⟨b1, o1, rfl, g1⟩ := p1 k hkl
      have q0 := HE12.out.cell (g1 k hkl 0 _ rfl)
      have q1 := HE12.out.cell (g1 k hkl 1 _ rfl)
      simp only [Nat.add_zero] at q0
      obtain ⟨B, hB⟩ : ∃ B, B = d.blocks[k] := ⟨_, rfl⟩
      rw [← hB] at q0 q1 hmem hbb
      have hRR : R = if (streamReadS a B.first B.bytes).2 = 0 then (if (unpackS (streamReadS a B.first B.bytes).1).2 = 0 then (if ((unpackS (streamReadS a B.first B.bytes).1).1.size : Int) < X.at_ + X.bytes then (.empty, 9) else ((unpackS (streamReadS a B.first B.bytes).1).1.extract X.at_.toNat (X.at_ + X.bytes).toNat, 0)) else (.empty, (unpackS (streamReadS a B.first B.bytes).1).2)) else (.empty, (streamReadS a B.first B.bytes).2) := by
        rw [hB]; exact hR
      obtain ⟨p, hp⟩ := Int.eq_ofNat_of_zero_le ha0
      obtain ⟨n, hn⟩ := Int.eq_ofNat_of_zero_le hn0
      rw [hp, hn] at hRR
      rw [hk, hp, hn]
      have hp6 : (p : Int) ≤ 600 := by omega
      have hn6 : (n : Int) ≤ 200 := by omega
      have hkI : (k : Int) < (d.blocks.length : Int) := by omega
      have hk10 : (k : Int) < 10 := by omega
      have HRR := Lib.hid hRR
      have HI := Lib.hid (And.intro hmem.2.1 hmem.2.2)
      have hsz := stream_small a B.first B.bytes (by omega)
      have g0 := HC2.out.cell 0
      have f0 := HB2.out.cell 0
      simp at g0 f0
      have lb1 := World.block_lt_of_cell? w2 _ q0
      simp at lb1
      clear hR hRR hB hs1 hs2 p1 g1 hmem hbb hbr hfo hp hn hk ha0 ha6 hn0 hn2
      go_wp2_with fail
      refine wp_abs (fun W => Ext w2 W ∧ Blk_ W w2.heap.size 58 #[.string X.name, .int .i64 (k : Int), .int .i64 (p : Int), .int .i64 (n : Int)]) ⟨(Ext.refl _).alloc _, Blk_.new _ _ _⟩ ?_
      rintro W3 ⟨hx, hb⟩
      have e1 := hb.cell 1
      simp at e1
      have f0' := hx.cell f0
      have g0' := hx.cell g0
      have q0' := hx.cell q0
      have q1' := hx.cell q1
      refine wp_region_begin (S := fun W' => W'.cell? ⟨w.heap.size, 0, none⟩ = some (.slice A a.length c) ∧ W'.cell? ⟨w1.heap.size, 0, none⟩ = some (.slice (some ⟨b1, o1, none⟩) d.blocks.length c1) ∧ W'.cell? ⟨w2.heap.size, 1, none⟩ = some (.int .i64 (k : Int)) ∧ W'.cell? ⟨b1, o1 + k * 2, none⟩ = some (.int .i64 B.first) ∧ W'.cell? ⟨b1, o1 + k * 2 + 1, none⟩ = some (.int .i64 B.bytes)) (n := 20) (by kernel_rfl) rfl (by kernel_rfl) rfl ?_
      have hS0 : (fun W' => W'.cell? ⟨w.heap.size, 0, none⟩ = some (.slice A a.length c) ∧ W'.cell? ⟨w1.heap.size, 0, none⟩ = some (.slice (some ⟨b1, o1, none⟩) d.blocks.length c1) ∧ W'.cell? ⟨w2.heap.size, 1, none⟩ = some (.int .i64 (k : Int)) ∧ W'.cell? ⟨b1, o1 + k * 2, none⟩ = some (.int .i64 B.first) ∧ W'.cell? ⟨b1, o1 + k * 2 + 1, none⟩ = some (.int .i64 B.bytes)) W3.drew := ⟨f0', g0', e1, q0', q1'⟩
      refine wpAnyH_takeL (i := 0) (v := ?_) rfl (by kernel_rfl) (fun _ _ _ h => h) rfl ?_ hS0 ?_
      rotate_left
      · intro w' hS
        try dsimp only at hS
        go_simp
        rfl
      try simp only [Act.put, List.setIfInBounds_toArray, List.set_cons_zero, List.set_cons_succ]
      refine wpAnyH_takeL (i := 1) (v := ?_) rfl (by kernel_rfl) (fun _ _ _ h => h) rfl ?_ hS0 ?_
      rotate_left
      · intro w' hS
        try dsimp only at hS
        go_simp
        rfl
      try simp only [Act.put, List.setIfInBounds_toArray, List.set_cons_zero, List.set_cons_succ]
      refine wpAnyH_takeL (i := 2) (v := ?_) rfl (by kernel_rfl) (fun _ _ _ h => h) rfl ?_ hS0 ?_
      rotate_left
      · intro w' hS
        try dsimp only at hS
        go_simp
        rfl
      try simp only [Act.put, List.setIfInBounds_toArray, List.set_cons_zero, List.set_cons_succ]
      refine wpAnyH_takeL (i := 3) (v := ?_) rfl (by kernel_rfl) (fun _ _ _ h => h) rfl ?_ hS0 ?_
      rotate_left
      · intro w' hS
        try dsimp only at hS
        go_simp
        rfl
      try simp only [Act.put, List.setIfInBounds_toArray, List.set_cons_zero, List.set_cons_succ]
      refine wpAnyH_takeL (i := 4) (v := ?_) rfl (by kernel_rfl) (fun _ _ _ h => h) rfl ?_ hS0 ?_
      rotate_left
      · intro w' hS
        try dsimp only at hS
        go_simp
        rfl
      try simp only [Act.put, List.setIfInBounds_toArray, List.set_cons_zero, List.set_cons_succ]
      refine wpAnyH_takeL (i := 5) (v := ?_) rfl (by kernel_rfl) (fun _ _ _ h => h) rfl ?_ hS0 ?_
      rotate_left
      · intro w' hS
        try dsimp only at hS
        go_simp
        rfl
      try simp only [Act.put, List.setIfInBounds_toArray, List.set_cons_zero, List.set_cons_succ]
      refine wpAnyH_takeL (i := 6) (v := ?_) rfl (by kernel_rfl) (fun _ _ _ h => h) rfl ?_ hS0 ?_
      rotate_left
      · intro w' hS
        try dsimp only at hS
        go_simp
        rfl
      try simp only [Act.put, List.setIfInBounds_toArray, List.set_cons_zero, List.set_cons_succ]
      refine wpAnyH_takeL (i := 7) (v := ?_) rfl (by kernel_rfl) (fun _ _ _ h => h) rfl ?_ hS0 ?_
      rotate_left
      · intro w' hS
        try dsimp only at hS
        go_simp
        rfl
      try simp only [Act.put, List.setIfInBounds_toArray, List.set_cons_zero, List.set_cons_succ]
      refine wpAnyH_takeL (i := 8) (v := ?_) rfl (by kernel_rfl) (fun _ _ _ h => h) rfl ?_ hS0 ?_
      rotate_left
      · intro w' hS
        try dsimp only at hS
        go_simp
        rfl
      try simp only [Act.put, List.setIfInBounds_toArray, List.set_cons_zero, List.set_cons_succ]
      refine wpAnyH_takeL (i := 9) (v := ?_) rfl (by kernel_rfl) (fun _ _ _ h => h) rfl ?_ hS0 ?_
      rotate_left
      · intro w' hS
        try dsimp only at hS
        go_simp
        rfl
      try simp only [Act.put, List.setIfInBounds_toArray, List.set_cons_zero, List.set_cons_succ]
      refine wpAnyH_takeL (i := 10) (v := ?_) rfl (by kernel_rfl) (fun _ _ _ h => h) rfl ?_ hS0 ?_
      rotate_left
      · intro w' hS
        try dsimp only at hS
        go_simp
        rfl
      try simp only [Act.put, List.setIfInBounds_toArray, List.set_cons_zero, List.set_cons_succ]
      refine wpAnyH_takeL (i := 11) (v := ?_) rfl (by kernel_rfl) (fun _ _ _ h => h) rfl ?_ hS0 ?_
      rotate_left
      · intro w' hS
        try dsimp only at hS
        go_simp
        rfl
      try simp only [Act.put, List.setIfInBounds_toArray, List.set_cons_zero, List.set_cons_succ]
      refine wpAnyH_takeL (i := 12) (v := ?_) rfl (by kernel_rfl) (fun _ _ _ h => h) rfl ?_ hS0 ?_
      rotate_left
      · intro w' hS
        try dsimp only at hS
        go_simp
        rfl
      try simp only [Act.put, List.setIfInBounds_toArray, List.set_cons_zero, List.set_cons_succ]
      refine wpAnyH_takeL (i := 13) (v := ?_) rfl (by kernel_rfl) (fun _ _ _ h => h) rfl ?_ hS0 ?_
      rotate_left
      · intro w' hS
        try dsimp only at hS
        go_simp
        rfl
      try simp only [Act.put, List.setIfInBounds_toArray, List.set_cons_zero, List.set_cons_succ]
      refine wpAnyH_takeL (i := 14) (v := ?_) rfl (by kernel_rfl) (fun _ _ _ h => h) rfl ?_ hS0 ?_
      rotate_left
      · intro w' hS
        try dsimp only at hS
        go_simp
        rfl
      try simp only [Act.put, List.setIfInBounds_toArray, List.set_cons_zero, List.set_cons_succ]
      refine wpAnyH_oneL (i := 15) rfl (by kernel_rfl) rfl (fun K hK => ?_)
      go_wp2_with fail
      refine (refStreamRead_any [.slice A a.length c] a B.first B.bytes _ (HH.out.up (HX2.out.trans (hx.trans (Ext.refl W3).drew))) HI.out.1 HI.out.2).mono ?_
      rintro e w3 ⟨rfl, hx3⟩
      obtain ⟨S, hS⟩ : ∃ S, S = (streamReadS a B.first B.bytes).1 := ⟨_, rfl⟩
      obtain ⟨y, hy⟩ : ∃ y, y = (streamReadS a B.first B.bytes).2 := ⟨_, rfl⟩
      rw [← hS] at hsz
      rw [← hS, ← hy] at HRR ⊢
      have hx3' := (Ext.refl W3).drew.trans hx3
      clear hS hy
      dsimp only
      refine hK _ _ ⟨hx3'.cell f0', hx3'.cell g0', hx3'.cell e1, hx3'.cell q0', hx3'.cell q1'⟩ ?_
      clear hK K
      try simp only [Act.put, List.setIfInBounds_toArray, List.set_cons_zero, List.set_cons_succ]
      have hS1 : (fun W' => W'.cell? ⟨w.heap.size, 0, none⟩ = some (.slice A a.length c) ∧ W'.cell? ⟨w1.heap.size, 0, none⟩ = some (.slice (some ⟨b1, o1, none⟩) d.blocks.length c1) ∧ W'.cell? ⟨w2.heap.size, 1, none⟩ = some (.int .i64 (k : Int)) ∧ W'.cell? ⟨b1, o1 + k * 2, none⟩ = some (.int .i64 B.first) ∧ W'.cell? ⟨b1, o1 + k * 2 + 1, none⟩ = some (.int .i64 B.bytes)) w3 := ⟨hx3'.cell f0', hx3'.cell g0', hx3'.cell e1, hx3'.cell q0', hx3'.cell q1'⟩
      refine wpAnyH_takeL (i := 16) (v := ?_) rfl (by kernel_rfl) (fun _ _ _ h => h) rfl ?_ hS1 ?_
      rotate_left
      · intro w' hS
        try dsimp only at hS
        go_simp
        rfl
      try simp only [Act.put, List.setIfInBounds_toArray, List.set_cons_zero, List.set_cons_succ]
      refine wpAnyH_takeL (i := 17) (v := ?_) rfl (by kernel_rfl) (fun _ _ _ h => h) rfl ?_ hS1 ?_
      rotate_left
      · intro w' hS
        try dsimp only at hS
        go_simp
        rfl
      try simp only [Act.put, List.setIfInBounds_toArray, List.set_cons_zero, List.set_cons_succ]
      refine wpAnyH_takeL (i := 18) (v := ?_) rfl (by kernel_rfl) (fun _ _ _ h => h) rfl ?_ hS1 ?_
      rotate_left
      · intro w' hS
        try dsimp only at hS
        go_simp
        rfl
      try simp only [Act.put, List.setIfInBounds_toArray, List.set_cons_zero, List.set_cons_succ]
      refine wpAnyH_takeL (i := 19) (v := ?_) rfl (by kernel_rfl) (fun _ _ _ h => h) rfl ?_ hS1 ?_
      rotate_left
      · intro w' hS
        try dsimp only at hS
        go_simp
        rfl
      try simp only [Act.put, List.setIfInBounds_toArray, List.set_cons_zero, List.set_cons_succ]
      refine wpAnyH_endL (by kernel_rfl) (fun K hK => ?_)
      have HX3 := Lib.hid (HX2.out.trans (hx.trans hx3'))
      have HE3 := Lib.hid (hb.ext hx3')
      clear hx hb hx3' hS0 hS1 e1 f0' g0' q0' q1'
      clear hx3 g0 f0 q0 q1
      by_cases hy0 : y = 0
      · subst hy0
        have HR3 := HRR.out
        rw [if_pos rfl] at HR3
        have HR4 := Lib.hid HR3
        clear HR3 HRR
        go_wp2_with fail
        refine (unpackedOf_any S _ hsz).mono ?_
        rintro e w4 ⟨rfl, hx4⟩
        obtain ⟨T, hT⟩ : ∃ T, T = (unpackS S).1 := ⟨_, rfl⟩
        obtain ⟨z, hz⟩ : ∃ z, z = (unpackS S).2 := ⟨_, rfl⟩
        rw [← hT, ← hz] at HR4 ⊢
        have HX4 := Lib.hid (HX3.out.trans hx4)
        have HE4 := Lib.hid (HE3.out.ext hx4)
        have m2 := HE4.out.cell 2
        have m3 := HE4.out.cell 3
        simp at m2 m3
        clear hT hz hx4
        by_cases hz0 : z = 0
        · subst hz0
          have HR5 := HR4.out
          rw [if_pos rfl] at HR5
          by_cases hov : (T.size : Int) < (p : Int) + (n : Int)
          · rw [if_pos hov] at HR5
            have HR6 := Lib.hid HR5
            clear HR5 HR4
            go_wp2_with fail
            go_ret2
            rw [HR6.out]
            exact ⟨rfl, HX4.out⟩
          · rw [if_neg hov] at HR5
            have x1 : ((p : Int)).toNat = p := by omega
            have x2 : ((p : Int) + (n : Int)).toNat = p + n := by omega
            have x3 : (p : Int) ≤ (p : Int) + (n : Int) := by omega
            have x4 : (p : Int) + (n : Int) ≤ (T.size : Int) := by omega
            have x5 : (0 : Int) ≤ (p : Int) + (n : Int) := by omega
            have x6 : (0 : Int) ≤ (p : Int) := by omega
            rw [x1, x2] at HR5
            obtain ⟨Z, hZ⟩ : ∃ Z, Z = T.extract p (p + n) := ⟨_, rfl⟩
            rw [← hZ] at HR5
            have HR6 := Lib.hid HR5
            have HZ := Lib.hid hZ
            clear HR5 HR4 hZ
            go_wp2_with fail
            go_ret2
            rw [HR6.out, HZ.out]
            exact ⟨rfl, HX4.out⟩
        · have HR5 := HR4.out
          rw [if_neg hz0] at HR5
          have HR6 := Lib.hid HR5
          have hz1 : (z != 0) = true := by simp [bne, beq_false_of_ne hz0]
          clear HR5 HR4 hz0
          go_wp2_with fail
          go_ret2
          rw [HR6.out]
          exact ⟨rfl, HX4.out⟩
      · have HR3 := HRR.out
        rw [if_neg hy0] at HR3
        have HR4 := Lib.hid HR3
        have hy1 : (y != 0) = true := by simp [bne, beq_false_of_ne hy0]
        clear HR3 HRR hy0
        go_wp2_with fail
        go_ret2
        rw [HR4.out]
        exact ⟨rfl, HX3.out⟩
    · rw [if_neg hv0] at hR
      have HR2 := Lib.hid hR
      have hv1 : (v != 0) = true := by simp [bne, beq_false_of_ne hv0]
      clear hR hv0 hfo
      go_wp2_with fail
      go_ret2
      rw [HR2.out]
      exact ⟨rfl, HX2.out.alloc _⟩
  · rw [if_neg hu0] at hR
    have HR2 := Lib.hid hR
    have hu1 : (u != 0) = true := by simp [bne, beq_false_of_ne hu0]
    clear hR hu0
    go_wp2_with fail
    go_ret2
    rw [HR2.out]
    exact ⟨rfl, HX1.out.alloc _⟩

set_option maxRecDepth 100000 in
set_option maxHeartbeats 1000000 in
theorem lawArchiveGets_any (cs : List Value) (a : List Dev) (nm : ByteArray) (w : World) (h : RArr w cs a) :
    Calls Tryd.prog 8 #[.agg cs.toArray, .string nm] w fun e w' => e = .returned (.bool true) ∧ Ext w w' := by
  obtain ⟨A, c, rfl⟩ := h.form
  go_enter Tryd.func8, Tryd.ntmps8
  go_wp2_with fail
  refine calls_abs (fun W => Ext w W ∧ Blk_ W w.heap.size 40 #[.slice A a.length c]) ⟨(Ext.refl _).alloc _, Blk_.new _ _ _⟩ ?_
  rintro W ⟨hx, hb⟩
  refine (archGet_any [.slice A a.length c] a nm W (h.up hx)).mono ?_
  rintro e w1 ⟨rfl, hx1⟩
  obtain ⟨R, hR⟩ : ∃ R, R = getS a nm := ⟨_, rfl⟩
  rw [← hR]
  have HRR := Lib.hid hR
  have HX1 := Lib.hid (hx.trans hx1)
  have hb1 := hb.ext hx1
  have f0 := hb1.cell 0
  have lb := hb1.lt
  simp at f0
  have HH := Lib.hid h
  obtain ⟨T, u⟩ := R
  clear hR hx hx1 hb hb1 h
  go_wp2_with fail
  refine (gotOf_any [.slice A a.length c] a nm w1 (HH.out.up HX1.out)).mono ?_
  rintro e w2 ⟨rfl, hx2⟩
  rw [← HRR.out]
  have HX2 := Lib.hid (HX1.out.trans hx2)
  clear hx2 f0 lb
  go_wp2_with fail
  go_ret
  exact ⟨rfl, HX2.out⟩
end Go.Proofs.YtokpjgpdkmimgaaDoor
