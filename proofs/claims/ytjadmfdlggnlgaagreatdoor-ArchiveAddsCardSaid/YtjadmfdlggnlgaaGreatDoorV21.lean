/-
  archive.Add: files are added. Conditions: the arguments read as an array and a list of files.
-/
import Derived.Test.YtjadmfdlggnlgaaGreatDoorV20
import Derived.Lib.OthersKept
namespace Go.Proofs.YtjadmfdlggnlgaaGreatDoor
set_option linter.unusedSimpArgs false
set_option linter.unusedVariables false
set_option maxRecDepth 100000
set_option maxHeartbeats 8000000
open Go.RowKit
theorem addS_open {a : List Dev} {l : List Fil} (h : (openS a).2 ≠ 0) : addS a l = ([], (openS a).2) := by unfold addS; rw [if_pos h]
theorem addS_files {a : List Dev} {l : List Fil} (h : ¬ (openS a).2 ≠ 0) (h2 : filesS l ≠ 0) : addS a l = ([], filesS l) := by unfold addS; rw [if_neg h, if_pos h2]
theorem addS_twice {a : List Dev} {l : List Fil} (h : ¬ (openS a).2 ≠ 0) (h2 : ¬ filesS l ≠ 0) (h3 : addE (openS a).1.blocks.length (openS a).1.entries 0 l = none) : addS a l = ([], 7) := by unfold addS; rw [if_neg h, if_neg h2, h3]
theorem addS_full {a : List Dev} {l : List Fil} {es : List Ent} (h : ¬ (openS a).2 ≠ 0) (h2 : ¬ filesS l ≠ 0) (h3 : addE (openS a).1.blocks.length (openS a).1.entries 0 l = some es)
  (h4 : 10 < es.length ∨ (openS a).1.blocks.length = 10 ∨ ((dv a 0).sec.length : Int) < nextAt 8 (openS a).1.blocks + secs (packS (dataS l)).1.size) : addS a l = ([], 8) := by unfold addS; rw [if_neg h, if_neg h2, h3]; dsimp only; rw [if_pos h4]
theorem addS_ok {a : List Dev} {l : List Fil} {es : List Ent} (h : ¬ (openS a).2 ≠ 0) (h2 : ¬ filesS l ≠ 0) (h3 : addE (openS a).1.blocks.length (openS a).1.entries 0 l = some es)
  (h4 : ¬ (10 < es.length ∨ (openS a).1.blocks.length = 10 ∨ ((dv a 0).sec.length : Int) < nextAt 8 (openS a).1.blocks + secs (packS (dataS l)).1.size)) :
  addS a l = streamWriteS (streamWriteS a (nextAt 8 (openS a).1.blocks) (packS (dataS l)).1).1 0 (catText (addCat (openS a).1 es (packS (dataS l)).1)) := by unfold addS; rw [if_neg h, if_neg h2, h3]; dsimp only; rw [if_neg h4]
theorem nextAt_le (l : List Blk) (p : Int) (hp : p ≤ 64) (h : ∀ q : Int, q ≤ 64 → blocksF q l = 0 → True) (hb : blocksF p l = 0) : nextAt p l ≤ 64 := by
 induction l generalizing p with
 | nil => exact hp
 | cons b l ih =>
  unfold blocksF at hb
  split at hb
  ·exact absurd hb (by decide)
  ·rename_i hbb
   refine ih (p + secs b.bytes) ?_ (fun _ _ _ => trivial) hb
   unfold blockBad at hbb
   simp only [Bool.or_eq_true, decide_eq_true_eq, not_or, Bool.not_eq_true'] at hbb
   omega
theorem ent_read {nb : Nat} {x : Ent} (h : entBad nb x = false) (hn : nb ≤ 20) (w : World) : REnt w (encEnt x) x := by
 have hb := entBad_false h
 obtain ⟨_, e1, e2, e3, e4, e5, e6⟩ := hb
 refine ⟨rfl, ?_, ?_, ?_, ?_⟩
 ·have := nameMay_size (entBad_false h).1; omega
 ·unfold I64; omega
 ·unfold I64; omega
 ·unfold I64; omega
theorem archAddG_any (cs : List Value) (a : List Dev) (v : Value) (l : List Fil) (w : World) (h : RArr w cs a) (hf : SlR 2 32 RFil w v l) :
  Calls Tryz.prog 5 #[.agg cs.toArray, v] w fun e w' => ∃ A c, e = .returned (.tuple #[.agg #[.slice A (addS a l).1.length c], .int .i64 (addS a l).2]) ∧ Ext w w' ∧ OArr 35 w' w.heap.size (.slice A (addS a l).1.length c) (addS a l).1 := by
 obtain ⟨A, c, rfl⟩ := h.form
 have HFI := Lib.hid hf
 obtain ⟨A3, c3, rfl, hlb3, hc3, r3⟩ := hf.rowE encFil_ok
 have HF := Lib.hid r3
 have HCF := Lib.hid (show (openS a).2 = 0 → catFault (openS a).1 = 0 from open_cat)
 have HMY := Lib.hid (show (openS a).2 = 0 → arrMay a = true from open_may)
 have HR := Lib.hid h
 clear h hf hlb3 hc3 r3
 go_enter Tryz.func5, Tryz.ntmps5
 go_wp2_with fail
 refine calls_abs (fun W => Ext w W ∧ Blk_ W w.heap.size 24 #[.slice A a.length c] ∧ Blk_ W (w.heap.size + 1) 24 #[.slice none 0 0]) ⟨((Ext.refl _).alloc _).alloc _, (Blk_.new _ _ _).alloc _, Blk_.new1 _ _ _ _⟩ ?_
 rintro w1 ⟨hx1, hb1, hq1⟩
 obtain ⟨b2, hb2⟩ : ∃ b, b = w.heap.size := ⟨_, rfl⟩
 rw [← hb2] at hb1 hq1 ⊢
 have HW := Lib.hid hb2
 have HX1 := Lib.hid hx1
 have HB1 := Lib.hid hb1
 have HQ1 := Lib.hid hq1
 have HR1 := Lib.hid (HR.out.up hx1)
 have HFI1 := Lib.hid (HFI.out.ext RFil.stays hx1)
 clear hx1 hb1 hq1 hb2 HR HFI
 refine (archOpen_any [.slice A a.length c] a w1 HR1.out).mono ?_
 rintro e w2 ⟨A1, c1, A2, c2, rfl, hx2, hr2⟩
 have HX2 := Lib.hid hx2
 have HD2 := Lib.hid hr2
 have y0 := (HQ1.out.ext hx2).cell 0
 have x0 := (HQ1.out.ext hx2).frozen 0
 simp at y0
 have lq := (HQ1.out.ext hx2).lt
 clear hx2 hr2
 by_cases hu0 : (openS a).2 = 0
 case neg =>
  have HFE := Lib.hid (addS_open (l := l) hu0)
  have hu1 : ((openS a).2 != 0) = true := by simpa using hu0
  have HQ2 := Lib.hid (HQ1.out.ext HX2.out)
  have HXW := Lib.hid (HX1.out.trans HX2.out)
  clear hu0 HCF HMY
  generalize (openS a).2 = code at *
  generalize (openS a).1 = dd at *
  go_wp2_with fail
  refine bodyPost_ret (res_cell_tmp (g := b2 + 1) (cs := #[.slice none 0 0]) rfl rfl (by first | exact (HQ2.out.alloc _).set 0 (.slice none 0 0) | exact (HQ2.out.set 0 (.slice none 0 0)).alloc _ | exact HQ2.out.set 0 (.slice none 0 0) | exact ((HQ2.out.alloc _).alloc _).set 0 (.slice none 0 0) | exact ((HQ2.out.set 0 (.slice none 0 0)).alloc _).alloc _) Tryz.underlying24 rfl (by kernel_rfl)) rfl ?_
  rw [HFE.out]
  exact ⟨none, 0, rfl, by first | exact (HXW.out.setCell (p := ⟨b2 + 1, 0, none⟩) (by have := HW.out; simp only; omega) _) | exact (HXW.out.setCell (p := ⟨b2 + 1, 0, none⟩) (by have := HW.out; simp only; omega) _).alloc _ | exact (HXW.out.alloc _).setCell (p := ⟨b2 + 1, 0, none⟩) (by have := HW.out; simp only; omega) _, OArr.nil _ _ _⟩
 case pos =>
 have hok := HCF.out hu0
 have hmay := HMY.out hu0
 have h3 := (arr_parts hmay).1
 obtain ⟨d, hd⟩ : ∃ d, d = (openS a).1 := ⟨_, rfl⟩
 have hA1 : ¬ (openS a).2 ≠ 0 := fun h => h hu0
 have HOP := Lib.hid hA1
 have HDE := Lib.hid hd
 rw [hu0]
 rw [← hd] at HD2 hok ⊢
 obtain ⟨f1, f2, f3, f4⟩ := catFault_ok hok
 have HOK := Lib.hid hok
 have HMAY := Lib.hid hmay
 have H3 := Lib.hid h3
 have HCA := Lib.hid (And.intro f1 (And.intro f2 (And.intro f3 f4)))
 have HPW := Lib.hid ((rising_iff _).1 (ents_rising _ _ _ f4).1)
 clear hok hmay h3 hd hA1 hu0 f1 f2 f3 f4 HCF HMY
 go_wp2_with fail
 refine calls_abs (fun W => Ext w2 W ∧ Blk_ W w2.heap.size 40 #[.slice A1 d.blocks.length c1, .slice A2 d.entries.length c2]) ⟨(Ext.refl _).alloc _, Blk_.new _ _ _⟩ ?_
 rintro w3 ⟨hx3, hb3⟩
 obtain ⟨b6, hb6⟩ : ∃ b, b = w2.heap.size := ⟨_, rfl⟩
 rw [← hb6] at hb3 ⊢
 have HB3 := Lib.hid hb3
 have HX3 := Lib.hid (HX2.out.trans hx3)
 have HD3 := Lib.hid (HD2.out.up hx3)
 clear hx3 hb3 hb6 y0 x0 lq
 refine (checkFiles_any (.slice A3 l.length c3) l w3 (HFI1.out.ext RFil.stays HX3.out)).mono ?_
 rintro e w4 ⟨rfl, hx4⟩
 have y0 := (HQ1.out.ext (HX3.out.trans hx4)).cell 0
 have x0 := (HQ1.out.ext (HX3.out.trans hx4)).frozen 0
 simp at y0
 have HX4 := Lib.hid (HX3.out.trans hx4)
 have HB4 := Lib.hid (HB3.out.ext hx4)
 have HD4 := Lib.hid (HD3.out.up hx4)
 clear hx4 HX3 HB3 HD3 HX2 HD2
 by_cases hfz : filesS l = 0
 case neg =>
  have HFE := Lib.hid (addS_files HOP.out hfz)
  have hu1 : (filesS l != 0) = true := by simpa using hfz
  have HQ2 := Lib.hid (HQ1.out.ext HX4.out)
  have HXW := Lib.hid (HX1.out.trans HX4.out)
  clear hfz
  generalize filesS l = code at *
  go_wp2_with fail
  refine bodyPost_ret (res_cell_tmp (g := b2 + 1) (cs := #[.slice none 0 0]) rfl rfl (by first | exact (HQ2.out.alloc _).set 0 (.slice none 0 0) | exact (HQ2.out.set 0 (.slice none 0 0)).alloc _ | exact HQ2.out.set 0 (.slice none 0 0) | exact ((HQ2.out.alloc _).alloc _).set 0 (.slice none 0 0) | exact ((HQ2.out.set 0 (.slice none 0 0)).alloc _).alloc _) Tryz.underlying24 rfl (by kernel_rfl)) rfl ?_
  rw [HFE.out]
  exact ⟨none, 0, rfl, by first | exact (HXW.out.setCell (p := ⟨b2 + 1, 0, none⟩) (by have := HW.out; simp only; omega) _) | exact (HXW.out.setCell (p := ⟨b2 + 1, 0, none⟩) (by have := HW.out; simp only; omega) _).alloc _ | exact (HXW.out.alloc _).setCell (p := ⟨b2 + 1, 0, none⟩) (by have := HW.out; simp only; omega) _, OArr.nil _ _ _⟩
 case pos =>
 have hfs := filesS_ok hfz
 have hdt := data_ok hfz
 have HFZ := Lib.hid (fun (h : filesS l ≠ 0) => h hfz)
 have HFS := Lib.hid hfs
 have HDT := Lib.hid hdt
 have HZ0 := Lib.hid hfz
 have hlI : (l.length : Int) ≤ 10 := by omega
 rw [hfz]
 clear hfz hfs hdt
 have p6a := HB4.out.cell 0
 have p6b := HB4.out.cell 1
 simp at p6a p6b
 go_wp2_with fail
 refine (entriesG_any [.slice A1 d.blocks.length c1, .slice A2 d.entries.length c2] d (.slice A3 l.length c3) l w4 HD4.out (HFI1.out.ext RFil.stays HX4.out) HPW.out HCA.out.2.1 HFS.out.2.1 (fun f hf => (HFS.out.2.2.1 f hf).2) HCA.out.1).mono ?_
 rintro e w5 (⟨hnone, rfl, hx5⟩ | ⟨es, A5, c5, hsome, rfl, hx5, ho5⟩)
 case inl =>
  have HFE := Lib.hid (addS_twice HOP.out HFZ.out (by rw [← HDE.out]; exact hnone))
  have HQ2 := Lib.hid (HQ1.out.ext (HX4.out.trans hx5))
  have HXW := Lib.hid (HX1.out.trans (HX4.out.trans hx5))
  have y0' := HQ2.out.cell 0
  have x0' := HQ2.out.frozen 0
  simp at y0'
  clear hnone hx5 y0 x0
  go_wp2_with fail
  refine bodyPost_ret (res_cell_tmp (g := b2 + 1) (cs := #[.slice none 0 0]) rfl rfl (by first | exact (HQ2.out.alloc _).set 0 (.slice none 0 0) | exact (HQ2.out.set 0 (.slice none 0 0)).alloc _ | exact HQ2.out.set 0 (.slice none 0 0) | exact ((HQ2.out.alloc _).alloc _).set 0 (.slice none 0 0) | exact ((HQ2.out.set 0 (.slice none 0 0)).alloc _).alloc _) Tryz.underlying24 rfl (by kernel_rfl)) rfl ?_
  rw [HFE.out]
  exact ⟨none, 0, rfl, by first | exact (HXW.out.setCell (p := ⟨b2 + 1, 0, none⟩) (by have := HW.out; simp only; omega) _) | exact (HXW.out.setCell (p := ⟨b2 + 1, 0, none⟩) (by have := HW.out; simp only; omega) _).alloc _ | exact (HXW.out.alloc _).setCell (p := ⟨b2 + 1, 0, none⟩) (by have := HW.out; simp only; omega) _, OArr.nil _ _ _⟩
 case inr =>
 have HES := Lib.hid hsome
 have HX5 := Lib.hid (HX4.out.trans hx5)
 have HB5 := Lib.hid (HB4.out.ext hx5)
 have HD5 := Lib.hid (HD4.out.up hx5)
 have HO5 := Lib.hid ho5
 have hae := addE_ok l d.entries 0 es HPW.out (fun x hx => entBad_more (entsF_ok _ _ _ HCA.out.2.2.2 x hx)) HFS.out.2.2.1 (by have := HFS.out.2.2.2; omega) hsome
 have HAE := Lib.hid hae
 have hesI : (es.length : Int) ≤ 20 := by have := hae.2.2; have := HCA.out.2.1; omega
 clear hsome hx5 ho5 hae p6a p6b y0 x0 HX4 HB4 HD4
 go_wp2_with fail
 refine wp_abs (fun W => Ext w5 W ∧ Bld w5.heap.size w5.heap.size [] W) ⟨(Ext.refl _).alloc _, Bld.init w5⟩ ?_
 rintro w6 ⟨hx6, hbl6⟩
 obtain ⟨b, hb⟩ : ∃ b, b = w5.heap.size := ⟨_, rfl⟩
 rw [← hb] at hbl6 ⊢
 have HBB := Lib.hid hb
 have HX6 := Lib.hid hx6
 have HBL6 := Lib.hid hbl6
 clear hx6 hbl6 hb
 go_loopw [46] (fun iv wr => ∃ k : Nat, iv = .int .i64 k ∧ k ≤ l.length ∧ Ext w5 wr ∧ Bld b b ((l.take k).flatMap fun (f : Fil) => lst f.data) wr) (fun iv _ => l.length - (intOf iv).toNat)
 case atStart => exact ⟨0, rfl, Nat.zero_le _, HX6.out, HBL6.out⟩
 case round =>
  clear HX6 HBL6
  obtain ⟨k, rfl, hk, hx, hbl⟩ := hrel
  have HX := Lib.hid hx
  have HBL := Lib.hid hbl
  by_cases hlt : k < l.length
  ·have hki : (k : Int) < (l.length : Int) := by omega
   obtain ⟨b3, o3, rfl, g3⟩ := HF.out k hlt
   have q0 := (HX1.out.trans (HX5.out.trans hx)).cell (g3 k hlt 0 _ rfl)
   have q1 := (HX1.out.trans (HX5.out.trans hx)).cell (g3 k hlt 1 _ rfl)
   simp only [Nat.add_zero] at q0
   have htk : (l.take (k + 1)).flatMap (fun (f : Fil) => lst f.data) = (l.take k).flatMap (fun (f : Fil) => lst f.data) ++ lst l[k].data := by
    rw [List.take_succ_eq_append_getElem hlt, List.flatMap_append]
    simp
   have hsz : ((l.take k).flatMap (fun (f : Fil) => lst f.data)).length ≤ 600 := by
    have h1 := dataS_size l
    have h2 := HFS.out.2.2.2
    have h3 : ((l.take k).flatMap (fun (f : Fil) => lst f.data)).length ≤ (l.flatMap (fun (f : Fil) => lst f.data)).length := by
     conv => rhs; rw [← List.take_append_drop k l, List.flatMap_append, List.length_append]
     omega
    have h4 : (l.flatMap (fun (f : Fil) => lst f.data)).length = (dataS l).size := by unfold dataS; rw [size_bs]
    omega
   have hz2 := (HFS.out.2.2.1 l[k] (List.getElem_mem hlt)).2
   obtain ⟨f, hff⟩ : ∃ f, f = l[k] := ⟨_, rfl⟩
   rw [← hff] at q0 q1 htk hz2
   have HTK := Lib.hid htk
   have HSZ := Lib.hid (And.intro hsz hz2)
   have HLT := Lib.hid hlt
   clear g3 hff htk hsz hz2 hlt hk hx hbl
   go_wp2_with fail
   refine calls_abs (fun W => Ext wr W ∧ Bld b b ((l.take k).flatMap fun (f : Fil) => lst f.data) W) ⟨(Ext.refl _).alloc _, Lib.IsBuilderF.alloc HBL.out _⟩ ?_
   rintro w7 ⟨hx7, hbl7⟩
   refine (bld_text b b _ f.data w7 hbl7 (by have := HSZ.out; omega) (by have := HX.out.size; have := hx7.size; have := HBB.out; omega)).mono ?_
   rintro e w8 ⟨rfl, hbl8, hbe8⟩
   have h8 : (List.flatMap (fun (f : Fil) => lst f.data) (List.take k l) ++ f.data.data.toList) = (l.take (k + 1)).flatMap (fun (f : Fil) => lst f.data) := by rw [HTK.out]; rfl
   rw [h8] at hbl8
   have HX8 := Lib.hid (show Ext w5 w8 by
    have h1 : Below b w5 w7 := by rw [HBB.out]; exact HX.out.trans hx7
    have h2 := h1.trans hbe8
    rw [HBB.out] at h2
    exact h2)
   have HBL8 := Lib.hid hbl8
   clear hx7 hbl7 hbl8 hbe8 h8 q0 q1
   go_wp2_with fail
   go_roundw
   case rel => exact ⟨k + 1, by first | rfl | go_num, by have := HLT.out; omega, HX8.out, HBL8.out⟩
   case measure => have := HLT.out; (simp [intOf]; try omega)
  ·obtain rfl : k = l.length := by omega
   clear hlt hk hx hbl
   have hbl9 := HBL.out
   rw [List.take_length] at hbl9
   go_wp2_with fail
   refine (bld_string b b _ wr hbl9 (by have := HX.out.size; have := HBB.out; omega)).mono ?_
   rintro e w9 ⟨rfl, _, hbe9⟩
   have hdat : (⟨(l.flatMap fun (f : Fil) => lst f.data).toArray⟩ : ByteArray) = dataS l := rfl
   rw [hdat]
   have HX9 := Lib.hid (show Ext w5 w9 by
    have h1 : Below b w5 wr := by rw [HBB.out]; exact HX.out
    have h2 := h1.trans hbe9
    rw [HBB.out] at h2
    exact h2)
   clear hbe9 hbl9 hdat
   go_wp2_with fail
   refine (pack_any (dataS l) w9).mono ?_
   rintro e w10 ⟨rfl, hx10⟩
   rw [HDT.out.2.1]
   obtain ⟨s, hs⟩ : ∃ s, s = (packS (dataS l)).1 := ⟨_, rfl⟩
   have HS := Lib.hid hs
   have hsz := HDT.out.2.2
   rw [← hs] at hsz ⊢
   have HSZ := Lib.hid hsz
   have hsI : (s.size : Int) ≤ 605 := by omega
   have HX10 := Lib.hid (HX5.out.trans (HX9.out.trans hx10))
   have HX510 := Lib.hid (HX9.out.trans hx10)
   have p6a := (HB5.out.ext (HX9.out.trans hx10)).cell 0
   have p6b := (HB5.out.ext (HX9.out.trans hx10)).cell 1
   simp at p6a p6b
   clear hs hsz hx10
   go_wp2_with fail
   refine (catNext_any [.slice A1 d.blocks.length c1, .slice A2 d.entries.length c2] d w10 (HD5.out.up HX510.out)).mono ?_
   rintro e w11 ⟨rfl, hx11⟩
   rw [next_good HOK.out]
   have hge := catFault_blk HOK.out
   have hle := nextAt_le d.blocks 8 (by omega) (fun _ _ _ => trivial) HCA.out.2.2.1
   obtain ⟨p, hp⟩ : ∃ p : Nat, nextAt 8 d.blocks = (p : Int) := ⟨(nextAt 8 d.blocks).toNat, by omega⟩
   have HPP := Lib.hid hp
   rw [hp] at hge hle ⊢
   have hpI : (p : Int) ≤ 64 := hle
   have HX11 := Lib.hid (HX10.out.trans hx11)
   have HX511 := Lib.hid (HX510.out.trans hx11)
   have HB11 := Lib.hid (HB5.out.ext HX511.out)
   have HBX := Lib.hid (HB1.out.ext HX11.out)
   have HQ11 := Lib.hid (HQ1.out.ext HX11.out)
   have r6a := HB11.out.cell 0
   have r6b := HB11.out.cell 1
   have r2 := HBX.out.cell 0
   have y0 := HQ11.out.cell 0
   have x0 := HQ11.out.frozen 0
   simp at r6a r6b r2 y0
   have HRA := Lib.hid (HR1.out.up HX11.out)
   clear hx11 hp hge hle p6a p6b HX10 HX510
   go_wp2_with fail
   have HXW := Lib.hid (HX1.out.trans HX11.out)
   by_cases g1 : 10 < es.length
   case pos =>
    have HFE := Lib.hid (addS_full HOP.out HFZ.out (by rw [← HDE.out]; exact HES.out) (.inl g1))
    have g1b : decide ((10 : Int) < (es.length : Int)) = true := decide_eq_true (by omega)
    clear g1
    go_quiet (fail)
    go_wp2_with fail
    refine bodyPost_ret (res_cell_tmp (g := b2 + 1) (cs := #[.slice none 0 0]) rfl rfl (by first | exact HQ11.out.set 0 (.slice none 0 0) | exact (HQ11.out.set 0 (.slice none 0 0)).ext (Ext.drewN (Ext.refl _) _) | exact (HQ11.out.ext (Ext.drewN (Ext.refl _) _)).set 0 (.slice none 0 0)) Tryz.underlying24 rfl (by kernel_rfl)) rfl ?_
    rw [HFE.out]
    exact ⟨none, 0, rfl, by first | exact (HXW.out.setCell (p := ⟨b2 + 1, 0, none⟩) (by have := HW.out; simp only; omega) _) | exact (HXW.out.drewN _).setCell (p := ⟨b2 + 1, 0, none⟩) (by have := HW.out; simp only; omega) _ | exact (HXW.out.setCell (p := ⟨b2 + 1, 0, none⟩) (by have := HW.out; simp only; omega) _).drewN _, OArr.nil _ _ _⟩
   case neg =>
   have g1b : decide ((10 : Int) < (es.length : Int)) = false := decide_eq_false (by omega)
   have HG1 := Lib.hid g1
   clear g1
   by_cases g2 : d.blocks.length = 10
   case pos =>
    have HFE := Lib.hid (addS_full HOP.out HFZ.out (by rw [← HDE.out]; exact HES.out) (.inr (.inl (by rw [← HDE.out]; exact g2))))
    have g2b : ((d.blocks.length : Int) == 10) = true := by simp; omega
    clear g2
    go_quiet (fail)
    go_wp2_with fail
    refine bodyPost_ret (res_cell_tmp (g := b2 + 1) (cs := #[.slice none 0 0]) rfl rfl (by first | exact HQ11.out.set 0 (.slice none 0 0) | exact (HQ11.out.set 0 (.slice none 0 0)).ext (Ext.drewN (Ext.refl _) _) | exact (HQ11.out.ext (Ext.drewN (Ext.refl _) _)).set 0 (.slice none 0 0)) Tryz.underlying24 rfl (by kernel_rfl)) rfl ?_
    rw [HFE.out]
    exact ⟨none, 0, rfl, by first | exact (HXW.out.setCell (p := ⟨b2 + 1, 0, none⟩) (by have := HW.out; simp only; omega) _) | exact (HXW.out.drewN _).setCell (p := ⟨b2 + 1, 0, none⟩) (by have := HW.out; simp only; omega) _ | exact (HXW.out.setCell (p := ⟨b2 + 1, 0, none⟩) (by have := HW.out; simp only; omega) _).drewN _, OArr.nil _ _ _⟩
   case neg =>
   have g2b : ((d.blocks.length : Int) == 10) = false := by simp; omega
   have HG2 := Lib.hid g2
   clear g2
   obtain ⟨ba, oa, rfl, hla⟩ := HRA.out.look 0 (by have := H3.out; omega)
   obtain ⟨B1, k1, B2, k2, z0, z1, _⟩ := hla 0 (by have := H3.out; omega)
   simp at z0 z1
   have ha0 : (0 : Int) < (a.length : Int) := by have := H3.out; omega
   have hsec : secs s.size = ((s.size : Int) + 23) / 24 := rfl
   obtain ⟨q, hq⟩ : ∃ q : Nat, ((s.size : Int) + 23) / 24 = (q : Int) := ⟨(s.size + 23) / 24, by omega⟩
   have hqI : (q : Int) ≤ 27 := by omega
   have HQQ := Lib.hid hq
   clear hq hla
   by_cases g3 : ((dv a 0).sec.length : Int) < (p : Int) + (q : Int)
   case pos =>
    have HFE := Lib.hid (addS_full HOP.out HFZ.out (by rw [← HDE.out]; exact HES.out) (.inr (.inr (by rw [← HDE.out, HPP.out, ← HS.out, hsec, HQQ.out]; exact g3))))
    have g3b : decide (((dv a 0).sec.length : Int) < (p : Int) + (q : Int)) = true := decide_eq_true g3
    have hdl : ((dv a 0).sec.length : Int) < 100 := by omega
    clear g3 hsec
    generalize (dv a 0).sec.length = dl at *
    have hqv := HQQ.out
    go_quiet (first | (go_at_call 16; refine Calls.quiet_of_same (sectors_quiet s.size _ (by omega) (by omega))))
    go_wp2_with fail
    refine bodyPost_ret (res_cell_tmp (g := b2 + 1) (cs := #[.slice none 0 0]) rfl rfl (by first | exact HQ11.out.set 0 (.slice none 0 0) | exact (HQ11.out.set 0 (.slice none 0 0)).ext (Ext.drewN (Ext.refl _) _) | exact (HQ11.out.ext (Ext.drewN (Ext.refl _) _)).set 0 (.slice none 0 0)) Tryz.underlying24 rfl (by kernel_rfl)) rfl ?_
    rw [HFE.out]
    exact ⟨none, 0, rfl, by first | exact (HXW.out.setCell (p := ⟨b2 + 1, 0, none⟩) (by have := HW.out; simp only; omega) _) | exact (HXW.out.drewN _).setCell (p := ⟨b2 + 1, 0, none⟩) (by have := HW.out; simp only; omega) _ | exact (HXW.out.setCell (p := ⟨b2 + 1, 0, none⟩) (by have := HW.out; simp only; omega) _).drewN _, OArr.nil _ _ _⟩
   case neg =>
   have g3b : decide (((dv a 0).sec.length : Int) < (p : Int) + (q : Int)) = false := decide_eq_false g3
   have hnf : ¬ (10 < es.length ∨ (openS a).1.blocks.length = 10 ∨ ((dv a 0).sec.length : Int) < nextAt 8 (openS a).1.blocks + secs (packS (dataS l)).1.size) := by
    rw [← HDE.out, HPP.out, ← HS.out, hsec, HQQ.out]
    rintro (e | e | e)
    ·exact HG1.out e
    ·exact HG2.out e
    ·exact g3 e
   have haok := addS_ok HOP.out HFZ.out (by rw [← HDE.out]; exact HES.out) hnf
   have hcok := addCat_ok (n := (dv a 0).sec.length) HOK.out HZ0.out HES.out HG1.out HG2.out (by rw [HPP.out, ← HS.out, hsec, HQQ.out]; exact g3) (by have := arr_parts HMAY.out; omega)
   have hfl : streamFaultS a (p : Int) s.size = 0 := fault_none HMAY.out ⟨by omega, by omega⟩ (by have h1 := HQQ.out; omega)
   rw [← HDE.out, ← HS.out, HPP.out] at haok
   rw [← HS.out] at hcok
   have hw1 := sw_good hfl
   have hdl : ((dv a 0).sec.length : Int) < 100 := by have := arr_parts HMAY.out; omega
   have HAOK := Lib.hid haok
   have HCOK := Lib.hid hcok
   have HW1 := Lib.hid (show (streamWriteS a (p : Int) s).2 = 0 by rw [hw1])
   clear g3 hsec hnf haok hcok hfl hw1
   have HDL := Lib.hid (show ¬ ((dv a 0).sec.length : Int) < (p : Int) + (q : Int) from of_decide_eq_false g3b)
   obtain ⟨dl, hdle⟩ : ∃ dl, dl = (dv a 0).sec.length := ⟨_, rfl⟩
   rw [← hdle] at z0 hdl g3b
   clear hdle
   have hqv := HQQ.out
   go_quiet (first | (go_at_call 16; refine Calls.quiet_of_same (sectors_quiet s.size _ (by omega) (by omega))))
   clear hqv
   go_wp2_with fail
   refine calls_abs (fun W => Ext w11 W) ((Ext.refl _).drewN _) ?_
   intro w12 hx12
   have hd12 := HD5.out.up (HX511.out.trans hx12)
   obtain ⟨V1, V2, hv, hs1, hs2⟩ := hd12
   simp only [List.cons.injEq, and_true] at hv
   obtain ⟨rfl, rfl⟩ := hv
   obtain ⟨i0, hi0, za0, zb0, zc0⟩ := info_parts info_blk
   have HI0 := Lib.hid (And.intro hi0 (And.intro za0 (And.intro zb0 zc0)))
   refine (clone_blk _ _ d.blocks hs1).mono ?_
   rintro e w13 ⟨A6, c6, rfl, hx13, ho13⟩
   have HX13 := Lib.hid (HX11.out.trans (hx12.trans hx13))
   have HX513 := Lib.hid (HX511.out.trans (hx12.trans hx13))
   have HO13 := Lib.hid ho13
   have HX12_ := Lib.hid hx13
   have HX1112 := Lib.hid hx12
   have HS12 := Lib.hid (show w12.heap.size ≤ w13.heap.size from hx13.size)
   have HMB := Lib.hid (hs1.mem encBlk_ok w13)
   have hnb : (d.blocks.length : Int) < 10 := by have h1 := HCA.out.1; have h2 := HG2.out; omega
   clear hi0 za0 zb0 zc0 hs1 hs2 hx12 hx13 ho13 r6a r6b r2 y0 x0 z0 z1
   go_wp2_with (at_builtin; refine wpList_append_at _ rfl (.tmp 94) (.tmp 99) 37 rfl w12.heap.size 64 i0 (.agg #[.int .i64 0, .int .i64 0]) 2 16 Tryz.underlying37 HI0.out.1 HI0.out.2.1 HI0.out.2.2.1 HI0.out.2.2.2 rfl (by decide) (.slice A6 d.blocks.length c6) d.blocks.length _ rfl (own_ext HO13.out ((Ext.refl _).alloc _)) ⟨w13.heap.size, 0, none⟩ 1 1 [.int .i64 p, .int .i64 s.size] rfl rfl ?c0 ?c1 ?c2 ?c3 ?c4 ?_)
   case c0 =>
    intro j u hj
    have hae : (Addr.add ⟨w13.heap.size, 0, none⟩ j) = ⟨w13.heap.size, j, none⟩ := by simp [Addr.add]; exact fun h => h.symm
    rw [hae, (Blk_.new w13 64 #[.int .i64 p, .int .i64 s.size]).cell, ← hj]
    simp
   case c1 => intro u hu; simp only [List.mem_cons, List.not_mem_nil, or_false] at hu; rcases hu with rfl | rfl <;> rfl
   case c2 => unfold maxLen; omega
   case c3 => omega
   case c4 => have := HS12.out; simp only [World.size_alloc]; omega
   intro A7 c7 w14 own14 hg14 _
   have hx14 : Ext w12 w14 := by
    have h1 : Ext w12 w13 := by exact HX12_.out
    exact (h1.alloc _).grown hg14 (fun g hg => (HO13.out.lt g hg).1)
   have hfm : d.blocks.flatMap encBlk ++ [Value.int .i64 (p : Int), .int .i64 (s.size : Int)] = (d.blocks ++ [(⟨(p : Int), (s.size : Int)⟩ : Blk)]).flatMap encBlk := by rw [List.flatMap_append]; simp [encBlk]
   have hln : d.blocks.length + 1 = (d.blocks ++ [(⟨(p : Int), (s.size : Int)⟩ : Blk)]).length := by simp
   rw [hfm] at own14
   have HLN := Lib.hid hln
   have HX14 := Lib.hid (Ext.trans (HX11.out.trans HX1112.out) hx14)
   have HX514 := Lib.hid (Ext.trans (HX511.out.trans HX1112.out) hx14)
   have HB14 := Lib.hid (SlR.of_own (bytes := 16) (R := RBlk) encBlk_ok (by rw [hln] at own14; exact own14) (by rw [← hln]; omega) (by
    intro x hx
    rcases List.mem_append.1 hx with hx | hx
    ·exact HMB.out x hx
    ·obtain rfl := List.mem_singleton.1 hx
     exact ⟨rfl, ⟨by show -9223372036854775808 ≤ (p : Int); omega, by show (p : Int) ≤ 9223372036854775807; omega⟩, ⟨by show -9223372036854775808 ≤ (s.size : Int); omega, by show (s.size : Int) ≤ 9223372036854775807; omega⟩⟩))
   have HE14 := Lib.hid (SlR.of_own (bytes := 40) (R := REnt) encEnt_ok (own_ext HO5.out HX514.out) (by omega) (fun x hx => ent_read (HAE.out.2.1 x hx) (by omega) w14))
   have HQ14 := Lib.hid (HQ1.out.ext HX14.out)
   have HR14 := Lib.hid (HR1.out.up HX14.out)
   have HBX14 := Lib.hid (HB1.out.ext HX14.out)
   clear hfm hln own14 hg14 hx14 hnb
   go_wp2_with fail
   refine calls_abs (fun W => Ext w14 W) ((Ext.refl _).alloc _) ?_
   intro w15 hx15
   have HC15 := Lib.hid (show RCat w15 [.slice A7 (d.blocks.length + 1) c7, .slice A5 es.length c5] (addCat d es s) by
    have h1 : (addCat d es s).blocks.length = d.blocks.length + 1 := by unfold addCat; simp
    have h2 : (addCat d es s).blocks = d.blocks ++ [(⟨(p : Int), (s.size : Int)⟩ : Blk)] := by unfold addCat; rw [HPP.out]
    refine ⟨_, _, rfl, ?_, HE14.out.ext REnt.stays hx15⟩
    rw [h2, HLN.out]
    exact HB14.out.ext RBlk.stays hx15)
   refine (catEncode_any [.slice A7 (d.blocks.length + 1) c7, .slice A5 es.length c5] (addCat d es s) w15 HC15.out).mono ?_
   rintro e w16 ⟨rfl, hx16⟩
   have henc : (encCatS (addCat d es s)).2 = 0 := by rw [enc_good HCOK.out]
   have hct := catText_size HCOK.out
   rw [henc]
   obtain ⟨bt, hbt⟩ : ∃ bt, bt = (encCatS (addCat d es s)).1 := ⟨_, rfl⟩
   have hctt : catText (addCat d es s) = bt ++ bs (List.replicate (192 - bt.size) 0) := by unfold catText; rw [← hbt]
   rw [hctt, ByteArray.size_append, size_bs, List.length_replicate] at hct
   rw [← hbt]
   have HCT := Lib.hid hctt
   have hbI : (bt.size : Int) ≤ 192 := by omega
   have HX16 := Lib.hid (HX14.out.trans (hx15.trans hx16))
   have r2 := (HBX14.out.ext (hx15.trans hx16)).cell 0
   simp at r2
   have HR16 := Lib.hid (HR14.out.up (hx15.trans hx16))
   have HQ16 := Lib.hid (HQ14.out.ext (hx15.trans hx16))
   clear henc hct hbt hctt hx15 hx16
   go_wp2_with fail
   refine (streamWrite_any [.slice (some ⟨ba, oa, none⟩) a.length c] a p s w16 HR16.out ⟨by omega, by omega⟩ (by omega)).mono ?_
   rintro e w17 ⟨A8, c8, rfl, hx17, ho17⟩
   rw [HW1.out]
   obtain ⟨X, hX⟩ : ∃ X, X = (streamWriteS a (p : Int) s).1 := ⟨_, rfl⟩
   rw [← hX] at ho17 HAOK ⊢
   have HX17 := Lib.hid (HX16.out.trans hx17)
   have HO17 := Lib.hid ho17
   have HQ17 := Lib.hid (HQ16.out.ext hx17)
   have hn8 : X.length ≤ 3 := by
    have h0 := fault_none HMAY.out (first := (p : Int)) (n := s.size) ⟨by omega, by omega⟩ (by have h1 := HQQ.out; have h2 := HDL.out; omega)
    have h1 := sw_good h0
    rw [h1] at hX
    rw [hX]
    obtain ⟨_, _, _, _, m1, m2, m3, _⟩ := arr_parts HMAY.out
    exact Nat.le_of_eq (swl_good s (p : Int) (dv a 0).sec.length m1 m2 m3 (by omega) _ 0 a (Good.of HMAY.out) (by have h1 := HQQ.out; have h2 := HDL.out; omega)).len
   have HN8 := Lib.hid hn8
   obtain ⟨n8, hn8e⟩ : ∃ n8, n8 = X.length := ⟨_, rfl⟩
   have HNE := Lib.hid hn8e
   rw [← hn8e] at HO17 ⊢
   clear hX hx17 ho17 hn8 hn8e r2
   go_wp2_with fail
   refine wp_abs (fun W => Ext w17 W ∧ Blk_ W w17.heap.size 24 #[.slice A8 n8 c8]) ⟨(Ext.refl _).alloc _, Blk_.new _ _ _⟩ ?_
   rintro w18 ⟨hx18, hb18⟩
   obtain ⟨g18, hg18⟩ : ∃ g, g = w17.heap.size := ⟨_, rfl⟩
   rw [← hg18] at hb18 ⊢
   have q18 := hb18.cell 0
   simp at q18
   have HX18 := Lib.hid (HX17.out.trans hx18)
   have HR18 := Lib.hid ((HO17.out.ext hx18).rarr (by have := HN8.out; omega))
   have HQ18 := Lib.hid (HQ17.out.ext hx18)
   rw [HNE.out] at HR18
   have HR18' := Lib.hid (show RArr w18 [.slice A8 n8 c8] X by have := HR18.out; rw [← HNE.out] at this; exact this)
   have hne18 : g18 ≠ b2 + 1 := by have h1 := HQ17.out.lt; omega
   clear hx18 hb18 hg18
   refine wp_region_all (S := fun W' => W'.cell? ⟨g18, 0, none⟩ = some (.slice A8 n8 c8)) (by kernel_rfl) ?_
   have hS0 : (fun W' => W'.cell? ⟨g18, 0, none⟩ = some (.slice A8 n8 c8)) w18.drew := q18
   refine tkL 0 rfl (fun w' hS => by (try dsimp only at hS); go_simp; rfl) hS0 ?_
   refine tkL 1 rfl (fun w' hS => by (try dsimp only at hS); go_simp; rfl) hS0 ?_
   refine tkL 2 rfl (fun w' hS => by (try dsimp only at hS); go_simp; rfl) hS0 ?_
   try simp only [Act.put, List.setIfInBounds_toArray, List.set_cons_zero, List.set_cons_succ]
   refine tkL 3 rfl (fun w' hS => by (try dsimp only at hS); go_simp; rfl) hS0 ?_
   refine tkL 4 rfl (fun w' hS => by (try dsimp only at hS); go_simp; rfl) hS0 ?_
   try simp only [Act.put, List.setIfInBounds_toArray, List.set_cons_zero, List.set_cons_succ]
   refine wpAnyH_oneL (i := 5) rfl (by kernel_rfl) rfl (fun K hK => ?_)
   go_wp2_with fail
   refine (repeat_any (192 - (bt.size : Int)) _ (by omega) (by omega)).mono ?_
   rintro e w19 ⟨rfl, hx19⟩
   have hS1 : (fun W' => W'.cell? ⟨g18, 0, none⟩ = some (.slice A8 n8 c8)) w19 := ((Ext.refl w18).drew.trans hx19).cell q18
   have HW1918 := Lib.hid (show w18.heap.size ≤ w19.heap.size from ((Ext.refl w18).drew.trans hx19).size)
   refine hK _ _ hS1 ?_
   clear hK K
   try simp only [Act.put, List.setIfInBounds_toArray, List.set_cons_zero, List.set_cons_succ]
   have htn : (192 - (bt.size : Int)).toNat = 192 - bt.size := by omega
   rw [htn]
   have hrz : (bs (List.replicate (192 - bt.size) (0 : UInt8))).size ≤ 192 := by rw [size_bs, List.length_replicate]; omega
   refine wpAnyH_oneL (i := 6) rfl (by kernel_rfl) rfl (fun K hK => ?_)
   refine st_concat (.tmp 124) (.tmp 128) _ _ _ _ rfl rfl rfl (by omega) ?_
   refine hK _ _ hS1 ?_
   clear hK K
   try simp only [Act.put, List.setIfInBounds_toArray, List.set_cons_zero, List.set_cons_succ]
   rw [← HCT.out]
   refine wpAnyH_oneL (i := 7) rfl (by kernel_rfl) rfl (fun K hK => ?_)
   go_wp2_with fail
   have hx1819 : Ext w18 w19 := (Ext.refl w18).drew.trans hx19
   refine (streamWrite_any [.slice A8 n8 c8] X 0 (catText (addCat d es s)) w19 (HR18'.out.up hx1819) ⟨by decide, by decide⟩ (by rw [catText_size HCOK.out]; decide)).mono ?_
   rintro e w20 ⟨A9, c9, rfl, hx20, ho20⟩
   rw [← HAOK.out] at ho20 ⊢
   have hS2 : (fun W' => W'.cell? ⟨g18, 0, none⟩ = some (.slice A8 n8 c8)) w20 := hx20.cell hS1
   have hq20 := HQ18.out.ext (hx1819.trans hx20)
   have y0 := hq20.cell 0
   have x0 := hq20.frozen 0
   simp at y0
   have HX20 := Lib.hid (HX18.out.trans (hx1819.trans hx20))
   have HO20 := Lib.hid ho20
   have HQ20 := Lib.hid (hq20.set 0 (.slice A9 (addS a l).1.length c9))
   refine hK _ _ hS2 ?_
   clear hK K hx19 hx20 ho20 hx1819 hq20
   try simp only [Act.put, List.setIfInBounds_toArray, List.set_cons_zero, List.set_cons_succ]
   obtain ⟨n9, hn9⟩ : ∃ n9, n9 = (addS a l).1.length := ⟨_, rfl⟩
   obtain ⟨e9, he9⟩ : ∃ e9, e9 = (addS a l).2 := ⟨_, rfl⟩
   have HN9 := Lib.hid (And.intro hn9 he9)
   rw [← hn9] at HO20 HQ20 ⊢
   rw [← he9]
   clear hn9 he9
   refine tkL 8 rfl (fun w' hS => by (try dsimp only at hS); go_simp; rfl) hS2 ?_
   refine tkL 9 rfl (fun w' hS => by (try dsimp only at hS); go_simp; rfl) hS2 ?_
   try simp only [Act.put, List.setIfInBounds_toArray, List.set_cons_zero, List.set_cons_succ]
   refine wpAnyH_oneL (i := 10) rfl (by kernel_rfl) rfl (fun K hK => ?_)
   have hS4 : (w20.setCell ⟨b2 + 1, 0, none⟩ (.slice A9 n9 c9)).cell? ⟨g18, 0, none⟩ = some (.slice A8 n8 c8) := by
    rw [World.cell?_setCell_other _ _ _ _ (by first | (simp; done) | (simp; omega))]
    exact hS2
   go_wp2_with fail
   refine hK _ _ hS4 ?_
   clear hK K
   refine tkL 11 rfl (fun w' hS => by (try dsimp only at hS); go_simp; rfl) hS4 ?_
   try simp only [Act.put, List.setIfInBounds_toArray, List.set_cons_zero, List.set_cons_succ]
   refine wpAnyH_done (by kernel_rfl) ?_ _
   go_wp2_with fail
   refine bodyPost_ret (res_cell_tmp rfl rfl HQ20.out Tryz.underlying24 rfl (by kernel_rfl)) rfl ?_
   rw [← HN9.out.1, ← HN9.out.2]
   have hsz := HX18.out.size
   exact ⟨A9, c9, rfl, (HX1.out.trans HX20.out).setCell (p := ⟨b2 + 1, 0, none⟩) (by have := HW.out; simp only; omega) _, (HO20.out.far (p := ⟨b2 + 1, 0, none⟩) (by have h1 := HQ18.out.lt; have h2 := HW1918.out; simp only; omega) _).base (by have h1 := HX1.out.size; have h2 := HX18.out.size; have h3 := HW1918.out; omega)⟩
theorem catCopyRef_any (cs : List Value) (d : Cat) (w : World) (h : RCat w cs d) :
  Calls Tryz.prog 23 #[.agg cs.toArray] w fun e w' => ∃ A1 c1 A2 c2, e = .returned (.agg #[.slice A1 d.blocks.length c1, .slice A2 d.entries.length c2]) ∧ Ext w w' ∧
   w'.ownsRow w.heap.size 64 2 (.slice A1 d.blocks.length c1) d.blocks.length (d.blocks.flatMap encBlk) ∧ w'.ownsRow w.heap.size 70 4 (.slice A2 d.entries.length c2) d.entries.length (d.entries.flatMap encEnt) ∧ (∀ g, (Value.slice A1 d.blocks.length c1).ownBlock = some g → (Value.slice A2 d.entries.length c2).ownBlock ≠ some g) := by
 obtain ⟨v1, v2, rfl, h1, h2⟩ := h
 have l1 := h1.len
 have l2 := h2.len
 go_enter Tryz.func23, Tryz.ntmps23
 go_wp2
 refine wp_abs (fun W => Ext w W ∧ Blk_ W w.heap.size 40 #[v1, v2] ∧ Blk_ W (w.heap.size + 1) 40 #[.slice none 0 0, .slice none 0 0]) ⟨((Ext.refl _).alloc _).alloc _, (Blk_.new _ _ _).alloc _, Blk_.new1 _ _ _ _⟩ ?_
 rintro W ⟨hx, hb1, hb2⟩
 have c1 := hb1.cell 0
 have c2 := hb1.cell 1
 simp at c1 c2
 refine wp_region_begin (S := fun W' => W'.cell? ⟨w.heap.size, 0, none⟩ = some v1 ∧ W'.cell? ⟨w.heap.size, 1, none⟩ = some v2) (n := 7) (by kernel_rfl) rfl (by kernel_rfl) rfl ?_
 have hS0 : (fun W' => W'.cell? ⟨w.heap.size, 0, none⟩ = some v1 ∧ W'.cell? ⟨w.heap.size, 1, none⟩ = some v2) W.drew := ⟨c1, c2⟩
 refine tkL 0 rfl (fun w' hS => by (try dsimp only at hS); go_simp; rfl) hS0 ?_
 simp only [Act.put, List.setIfInBounds_toArray, List.set_cons_zero, List.set_cons_succ]
 refine tkL 1 rfl (fun w' hS => by (try dsimp only at hS); go_simp; rfl) hS0 ?_
 simp only [Act.put, List.setIfInBounds_toArray, List.set_cons_zero, List.set_cons_succ]
 refine tkL 3 rfl (fun w' hS => by (try dsimp only at hS); go_simp; rfl) hS0 ?_
 simp only [Act.put, List.setIfInBounds_toArray, List.set_cons_zero, List.set_cons_succ]
 refine tkL 4 rfl (fun w' hS => by (try dsimp only at hS); go_simp; rfl) hS0 ?_
 simp only [Act.put, List.setIfInBounds_toArray, List.set_cons_zero, List.set_cons_succ]
 refine wpAnyH_oneL (i := 2) rfl (by kernel_rfl) rfl (fun K hK => ?_)
 obtain ⟨i2, hi2, za2, zb2, zc2⟩ := info_parts info_blk
 refine wp_append_copy _ encBlk_ok (by decide) (.const (.slice none 0 0)) (.tmp 4) 37 rfl 64 i2 (.agg #[.int .i64 0, .int .i64 0]) Tryz.underlying37 hi2 za2 zb2 zc2 rfl rfl v1 d.blocks rfl (h1.ext RBlk.stays hx.drew) (by unfold maxLen; omega) ?_
 intro B2 k2 w2 o2 f2
 have e2 : Ext W w2 := (Ext.refl W).drew.trans f2
 refine hK _ _ ⟨e2.cell c1, e2.cell c2⟩ ?_
 clear hK K
 try simp only [Act.put, List.setIfInBounds_toArray, List.set_cons_zero, List.set_cons_succ]
 refine wpAnyH_oneL (i := 5) rfl (by kernel_rfl) rfl (fun K hK => ?_)
 obtain ⟨i5, hi5, za5, zb5, zc5⟩ := info_parts info_ent
 refine wp_append_copy _ encEnt_ok (by decide) (.const (.slice none 0 0)) (.tmp 7) 38 rfl 70 i5 (.agg #[.string .empty, .int .i64 0, .int .i64 0, .int .i64 0]) Tryz.underlying38 hi5 za5 zb5 zc5 rfl rfl v2 d.entries rfl (h2.ext REnt.stays (hx.trans e2)) (by unfold maxLen; omega) ?_
 intro B5 k5 w5 o5 f5
 have e5 : Ext W w5 := e2.trans f5
 refine hK _ _ ⟨e5.cell c1, e5.cell c2⟩ ?_
 clear hK K
 try simp only [Act.put, List.setIfInBounds_toArray, List.set_cons_zero, List.set_cons_succ]
 refine wpAnyH_takeL (i := 6) (v := ?_) rfl (by kernel_rfl) (fun _ _ _ h => h) rfl ?_ ⟨e5.cell c1, e5.cell c2⟩ ?_
 rotate_left
 ·intro w' hS
  try dsimp only at hS
  go_simp
  rfl
 simp only [Act.put, List.setIfInBounds_toArray, List.set_cons_zero, List.set_cons_succ]
 refine wpAnyH_endL (by kernel_rfl) (fun K hK => ?_)
 have hW : w.heap.size + 1 < W.heap.size := hb2.lt
 have hb3 := ((hb2.ext e5).set 0 (.slice B2 d.blocks.length k2)).set 1 (.slice B5 d.entries.length k5)
 have b0 := (hb2.ext e5).cell 0
 have b1 := (hb2.ext e5).cell 1
 simp at b0 b1
 have z0 := (hb2.ext e5).frozen 0
 have z1 := (hb2.ext e5).frozen 1
 have HB := Lib.hid hb3
 clear hb3
 go_wp2
 refine bodyPost_ret (res_cell rfl rfl HB.out Tryz.underlying40 rfl (by kernel_rfl)) rfl ?_
 have ha : ∀ g, (Value.slice B2 d.blocks.length k2).ownBlock = some g → g ≠ w.heap.size + 1 := fun g hg e => by have := (o2.lt g hg).1; simp at this; omega
 have ha5 : ∀ g, (Value.slice B5 d.entries.length k5).ownBlock = some g → g ≠ w.heap.size + 1 := fun g hg e => by have := (o5.lt g hg).1; have := e2.size; omega
 refine ⟨B2, k2, B5, k5, rfl, ((hx.trans e5).setCell (by simp) _).setCell (by simp) _, ?_, ?_, ?_⟩
 ·exact own_base (ownsRow_setCell_other (ownsRow_setCell_other (own_ext o2 f5) (fun e => ha _ e rfl) _) (fun e => ha _ e rfl) _) (by have := hx.size; simp; omega)
 ·exact own_base (ownsRow_setCell_other (ownsRow_setCell_other o5 (fun e => ha5 _ e rfl) _) (fun e => ha5 _ e rfl) _) (by have := hx.size; have := e2.size; omega)
 ·intro g hg hg'
  have h1 := (o2.lt g hg).2
  have h2 := (o5.lt g hg').1
  omega
end Go.Proofs.YtjadmfdlggnlgaaGreatDoor
