/-
  archive.Open and the document's OpenedOf: the catalog of an archive; the law ArchiveOpens. Conditions: the argument reads as an array.
-/
import Derived.Test.YtjadmfdlggnlgaaGreatDoorV18
import Derived.Shelf.Bits.Mul64
import Derived.Shelf.LaysM
import Derived.Shelf.Strconv.Itoa3
import Derived.Lib.ItoaLen
import Derived.Laws.CopyRow
import Derived.Lib.SlBuf
namespace Go.Proofs.YtjadmfdlggnlgaaGreatDoor
set_option linter.unusedSimpArgs false
set_option linter.unusedVariables false
set_option maxRecDepth 100000
set_option maxHeartbeats 8000000
open Go.RowKit
def openS (a : List Dev) : Cat × Int := if (streamReadS a 0 192).2 = 0 then decCatS (streamReadS a 0 192).1 else (noCat, (streamReadS a 0 192).2)
theorem open_ok {a : List Dev} (h : (streamReadS a 0 192).2 = 0) : openS a = decCatS (streamReadS a 0 192).1 := by unfold openS; rw [if_pos h]
theorem open_bad {a : List Dev} (h : ¬ (streamReadS a 0 192).2 = 0) : openS a = (noCat, (streamReadS a 0 192).2) := by unfold openS; rw [if_neg h]
theorem stream_small (a : List Dev) (first n : Int) (hn : n ≤ 140737488355328) : (streamReadS a first n).1.size ≤ 140737488355328 := by
 unfold streamReadS
 split
 ·exact Nat.zero_le _
 ·split
  ·exact Nat.zero_le _
  ·show (ByteArray.extract _ 0 n.toNat).size ≤ _
   rw [ByteArray.size_extract]; omega
theorem av_box {α : Type} {C bytes : Nat} {R : Rd α} {enc : α → List Value} (he : Enc C R enc) {w : World} {v : Value} {l : List α} {g : Nat} {t : TypeId} {A A' : Option Addr} {n c n' c' : Nat} (h : SlR C bytes R w v l) (hb : Blk_ w g t #[.slice A n c, .slice A' n' c'])
  (hne : ∀ a, ∃ u, (enc a)[0]? = some u ∧ ∀ B m k, u ≠ .slice B m k) : Av g v := by
 obtain ⟨A1, cap, e, hb1, hc1, h⟩ := h
 intro b o s m k ev
 rw [e] at ev
 injection ev with h1 h2 h3
 rcases h with h | ⟨b', o', hA, h⟩
 ·left; rw [← h2, h]; rfl
 ·by_cases h0 : l.length = 0
  ·left; omega
  ·right
   rw [hA] at h1
   injection h1 with h1
   injection h1 with h1 h1' h1''
   subst h1
   rintro rfl
   obtain ⟨cs, hl, hcell, hr⟩ := h 0 (by omega)
   obtain ⟨u, hu, hun⟩ := hne (l[0]'(by omega))
   have hcs := he.cs _ _ _ hr
   have hC : 0 < C := by
    rw [← he.len (l[0]'(by omega))]
    exact (List.getElem?_eq_some_iff.1 hu).1
   have hc := hcell 0 hC
   rw [hcs, hu, hb.cell] at hc
   match hq : o' + 0 * C + 0, hc with
   | 0, hc => simp at hc; exact hun _ _ _ hc.symm
   | 1, hc => simp at hc; exact hun _ _ _ hc.symm
   | j + 2, hc => simp at hc
theorem RCat.off {w : World} {V1 V2 : Value} {d : Cat} {g k : Nat} {t : TypeId} {A A' : Option Addr} {n c n' c' : Nat} (h : RCat w [V1, V2] d) (hb : Blk_ w g t #[.slice A n c, .slice A' n' c']) (u : Value) : RCat (w.setCell ⟨g, k, none⟩ u) [V1, V2] d := by
 obtain ⟨v1, v2, e, h1, h2⟩ := h
 simp only [List.cons.injEq, and_true] at e
 obtain ⟨rfl, rfl⟩ := e
 exact ⟨_, _, rfl, h1.far encBlk_ok (p := ⟨g, k, none⟩) (av_box encBlk_ok h1 hb (fun a => ⟨_, rfl, fun _ _ _ h => by cases h⟩)) u, h2.far encEnt_ok (p := ⟨g, k, none⟩) (av_box encEnt_ok h2 hb (fun a => ⟨_, rfl, fun _ _ _ h => by cases h⟩)) u⟩
theorem archOpen_any (cs : List Value) (a : List Dev) (w : World) (h : RArr w cs a) :
  Calls Tryz.prog 9 #[.agg cs.toArray] w fun e w' => ∃ A1 c1 A2 c2, e = .returned (.tuple #[.agg #[.slice A1 (openS a).1.blocks.length c1, .slice A2 (openS a).1.entries.length c2], .int .i64 (openS a).2]) ∧ Ext w w' ∧ RCat w' [.slice A1 (openS a).1.blocks.length c1, .slice A2 (openS a).1.entries.length c2] (openS a).1 := by
 obtain ⟨A, c, rfl⟩ := h.form
 go_enter Tryz.func9, Tryz.ntmps9
 go_wp2_with fail
 refine calls_abs (fun W => Ext w W ∧ Blk_ W (w.heap.size + 1) 40 #[.slice none 0 0, .slice none 0 0]) ⟨((Ext.refl _).alloc _).alloc _, Blk_.new1 _ _ _ _⟩ ?_
 rintro W ⟨hx, hb⟩
 refine (streamRead_any [.slice A a.length c] a 0 192 W (h.up hx) (by unfold I64; omega) (by unfold I64; omega)).mono ?_
 rintro e w1 ⟨rfl, hx1⟩
 have HOK := Lib.hid (fun hu => open_ok (a := a) hu)
 have HBAD := Lib.hid (fun hu => open_bad (a := a) hu)
 have hsz := stream_small a 0 192 (by omega)
 obtain ⟨S, hS⟩ : ∃ S, S = (streamReadS a 0 192).1 := ⟨_, rfl⟩
 obtain ⟨u, hu⟩ : ∃ u, u = (streamReadS a 0 192).2 := ⟨_, rfl⟩
 rw [← hS] at HOK hsz ⊢
 rw [← hu] at HOK HBAD ⊢
 have HX1 := Lib.hid (hx.trans hx1)
 have HB1 := Lib.hid (hb.ext hx1)
 have HSZ := Lib.hid hsz
 clear hS hu hx hx1 hb hsz h
 by_cases hu0 : u = 0
 ·have HO := Lib.hid (HOK.out hu0)
  subst hu0
  clear HOK HBAD
  go_wp2_with fail
  refine (catDecode_any S w1 HSZ.out).mono ?_
  rintro e w2 ⟨A1, c1, A2, c2, rfl, hx2, hr⟩
  rw [← HO.out] at hr ⊢
  obtain ⟨d, hd⟩ : ∃ d, d = (openS a).1 := ⟨_, rfl⟩
  obtain ⟨v, hv⟩ : ∃ v, v = (openS a).2 := ⟨_, rfl⟩
  rw [← hd] at hr ⊢
  rw [← hv]
  have HD := Lib.hid (And.intro hd hv)
  have HB2 := Lib.hid (HB1.out.ext hx2)
  have HX2 := Lib.hid (HX1.out.trans hx2)
  have HR1 := Lib.hid (hr.off (k := 0) HB2.out (.slice A1 d.blocks.length c1))
  have HR2 := Lib.hid (HR1.out.off (k := 1) (HB2.out.set 0 (.slice A1 d.blocks.length c1)) (.slice A2 d.entries.length c2))
  clear hd hv hx2 hr
  have m0 := HB2.out.cell 0
  have m1 := HB2.out.cell 1
  have z0 := HB2.out.frozen 0
  have z1 := HB2.out.frozen 1
  simp at m0 m1
  go_wp2_with fail
  have HXX := Lib.hid ((HX2.out.setCell (p := ⟨w.heap.size + 1, 0, none⟩) (by dsimp only; omega) (.slice A1 d.blocks.length c1)).setCell (p := ⟨w.heap.size + 1, 1, none⟩) (by dsimp only; omega) (.slice A2 d.entries.length c2))
  have HRS := Lib.hid ((HB2.out.set 0 (.slice A1 d.blocks.length c1)).set 1 (.slice A2 d.entries.length c2))
  refine bodyPost_ret (res_cell_tmp rfl rfl HRS.out Tryz.underlying40 rfl (by kernel_rfl)) rfl ?_
  rw [← HD.out.1, ← HD.out.2]
  exact ⟨A1, c1, A2, c2, rfl, HXX.out, HR2.out⟩
 ·have HO := Lib.hid (HBAD.out hu0)
  have hu1 : (u != 0) = true := by simp [bne, beq_false_of_ne hu0]
  clear HOK HBAD hu0
  have m0 := HB1.out.cell 0
  have m1 := HB1.out.cell 1
  have z0 := HB1.out.frozen 0
  have z1 := HB1.out.frozen 1
  simp at m0 m1
  go_wp2_with fail
  have HXX := Lib.hid ((HX1.out.setCell (p := ⟨w.heap.size + 1, 0, none⟩) (by dsimp only; omega) (.slice none 0 0)).setCell (p := ⟨w.heap.size + 1, 1, none⟩) (by dsimp only; omega) (.slice none 0 0))
  have HRS := Lib.hid ((HB1.out.set 0 (.slice none 0 0)).set 1 (.slice none 0 0))
  refine bodyPost_ret (res_cell_tmp rfl rfl HRS.out Tryz.underlying40 rfl (by kernel_rfl)) rfl ?_
  rw [HO.out]
  exact ⟨none, 0, none, 0, rfl, HXX.out, noCat_read _⟩
theorem openedOf_any (cs : List Value) (a : List Dev) (w : World) (h : RArr w cs a) :
  Calls Tryz.prog 21 #[.agg cs.toArray] w fun e w' => ∃ A1 c1 A2 c2, e = .returned (.tuple #[.agg #[.slice A1 (openS a).1.blocks.length c1, .slice A2 (openS a).1.entries.length c2], .int .i64 (openS a).2]) ∧ Ext w w' ∧ RCat w' [.slice A1 (openS a).1.blocks.length c1, .slice A2 (openS a).1.entries.length c2] (openS a).1 := by
 obtain ⟨A, c, rfl⟩ := h.form
 go_enter Tryz.func21, Tryz.ntmps21
 go_wp2_with fail
 refine calls_abs (fun W => Ext w W ∧ Blk_ W (w.heap.size + 1) 40 #[.slice none 0 0, .slice none 0 0]) ⟨((Ext.refl _).alloc _).alloc _, Blk_.new1 _ _ _ _⟩ ?_
 rintro W ⟨hx, hb⟩
 refine (refStreamRead_any [.slice A a.length c] a 0 192 W (h.up hx) (by unfold I64; omega) (by unfold I64; omega)).mono ?_
 rintro e w1 ⟨rfl, hx1⟩
 have HOK := Lib.hid (fun hu => open_ok (a := a) hu)
 have HBAD := Lib.hid (fun hu => open_bad (a := a) hu)
 have hsz := stream_small a 0 192 (by omega)
 obtain ⟨S, hS⟩ : ∃ S, S = (streamReadS a 0 192).1 := ⟨_, rfl⟩
 obtain ⟨u, hu⟩ : ∃ u, u = (streamReadS a 0 192).2 := ⟨_, rfl⟩
 rw [← hS] at HOK hsz ⊢
 rw [← hu] at HOK HBAD ⊢
 have HX1 := Lib.hid (hx.trans hx1)
 have HB1 := Lib.hid (hb.ext hx1)
 have HSZ := Lib.hid hsz
 clear hS hu hx hx1 hb hsz h
 by_cases hu0 : u = 0
 ·have HO := Lib.hid (HOK.out hu0)
  subst hu0
  clear HOK HBAD
  go_wp2_with fail
  refine (catalogOf_any S w1 HSZ.out).mono ?_
  rintro e w2 ⟨A1, c1, A2, c2, rfl, hx2, hr⟩
  rw [← HO.out] at hr ⊢
  obtain ⟨d, hd⟩ : ∃ d, d = (openS a).1 := ⟨_, rfl⟩
  obtain ⟨v, hv⟩ : ∃ v, v = (openS a).2 := ⟨_, rfl⟩
  rw [← hd] at hr ⊢
  rw [← hv]
  have HD := Lib.hid (And.intro hd hv)
  have HB2 := Lib.hid (HB1.out.ext hx2)
  have HX2 := Lib.hid (HX1.out.trans hx2)
  have HR1 := Lib.hid (hr.off (k := 0) HB2.out (.slice A1 d.blocks.length c1))
  have HR2 := Lib.hid (HR1.out.off (k := 1) (HB2.out.set 0 (.slice A1 d.blocks.length c1)) (.slice A2 d.entries.length c2))
  clear hd hv hx2 hr
  have m0 := HB2.out.cell 0
  have m1 := HB2.out.cell 1
  have z0 := HB2.out.frozen 0
  have z1 := HB2.out.frozen 1
  simp at m0 m1
  go_wp2_with fail
  have HXX := Lib.hid ((HX2.out.setCell (p := ⟨w.heap.size + 1, 0, none⟩) (by dsimp only; omega) (.slice A1 d.blocks.length c1)).setCell (p := ⟨w.heap.size + 1, 1, none⟩) (by dsimp only; omega) (.slice A2 d.entries.length c2))
  have HRS := Lib.hid ((HB2.out.set 0 (.slice A1 d.blocks.length c1)).set 1 (.slice A2 d.entries.length c2))
  refine bodyPost_ret (res_cell_tmp rfl rfl HRS.out Tryz.underlying40 rfl (by kernel_rfl)) rfl ?_
  rw [← HD.out.1, ← HD.out.2]
  exact ⟨A1, c1, A2, c2, rfl, HXX.out, HR2.out⟩
 ·have HO := Lib.hid (HBAD.out hu0)
  have hu1 : (u != 0) = true := by simp [bne, beq_false_of_ne hu0]
  clear HOK HBAD hu0
  have m0 := HB1.out.cell 0
  have m1 := HB1.out.cell 1
  have z0 := HB1.out.frozen 0
  have z1 := HB1.out.frozen 1
  simp at m0 m1
  go_wp2_with fail
  have HXX := Lib.hid ((HX1.out.setCell (p := ⟨w.heap.size + 1, 0, none⟩) (by dsimp only; omega) (.slice none 0 0)).setCell (p := ⟨w.heap.size + 1, 1, none⟩) (by dsimp only; omega) (.slice none 0 0))
  have HRS := Lib.hid ((HB1.out.set 0 (.slice none 0 0)).set 1 (.slice none 0 0))
  refine bodyPost_ret (res_cell_tmp rfl rfl HRS.out Tryz.underlying40 rfl (by kernel_rfl)) rfl ?_
  rw [HO.out]
  exact ⟨none, 0, none, 0, rfl, HXX.out, noCat_read _⟩

section
variable {P : Program} {Q : Exit → Act → World → Prop}
end
theorem flat_bound {α : Type} (f : α → List UInt8) (b : Nat) : ∀ l : List α, (∀ x ∈ l, (f x).length ≤ b) → (l.flatMap f).length ≤ b * l.length
 | [], _ => Nat.zero_le _
 | x :: l, h => by
  rw [List.flatMap_cons, List.length_append, List.length_cons, Nat.mul_succ]
  have h1 := h x (List.mem_cons_self ..)
  have h2 := flat_bound f b l (fun y hy => h y (List.mem_cons_of_mem _ hy))
  omega
theorem nextAt_ge : ∀ (l : List Blk) (p : Int), (∀ b ∈ l, 0 ≤ b.bytes) → p ≤ nextAt p l
 | [], p, _ => Int.le_refl p
 | b :: l, p, h => by
  have h0 := h b (List.mem_cons_self ..)
  have := nextAt_ge l (p + secs b.bytes) (fun x hx => h x (List.mem_cons_of_mem _ hx))
  show p ≤ nextAt (p + secs b.bytes) l
  unfold secs at *
  omega


end Go.Proofs.YtjadmfdlggnlgaaGreatDoor
namespace Go.Proofs.YtjadmfdlggnlgaaGreatDoor
set_option linter.unusedSimpArgs false
set_option linter.unusedVariables false
set_option maxRecDepth 100000
set_option maxHeartbeats 8000000
open Go.Shelf

end Go.Proofs.YtjadmfdlggnlgaaGreatDoor
namespace Go.Proofs.YtjadmfdlggnlgaaGreatDoor
set_option linter.unusedSimpArgs false
set_option linter.unusedVariables false
set_option maxRecDepth 100000
set_option maxHeartbeats 8000000
open Go.RowKit









def Less (x y : Ent) : Prop := Op.bytesLess (lst x.name) (lst y.name) = true
def insE (x : Ent) : List Ent → List Ent
 | [] => [x]
 | y :: l => if Op.bytesLess (lst y.name) (lst x.name) then y :: insE x l else x :: y :: l
theorem mem_insE {x z : Ent} : ∀ {l : List Ent}, z ∈ insE x l ↔ z = x ∨ z ∈ l
 | [] => by simp [insE]
 | y :: l => by
  unfold insE
  split
  ·rw [List.mem_cons, mem_insE, List.mem_cons]
   exact ⟨fun h => by rcases h with h | h | h <;> simp [h], fun h => by rcases h with h | h | h <;> simp [h]⟩
  ·simp
theorem insE_length (x : Ent) : ∀ l : List Ent, (insE x l).length = l.length + 1
 | [] => rfl
 | y :: l => by
  unfold insE
  split
  ·simp [insE_length x l]
  ·rfl
theorem less_of_not {a b : List UInt8} (h : ¬ Op.bytesLess a b = true) (hne : a ≠ b) : Op.bytesLess b a = true := by
 have ht := bl_total a b
 have h' : Op.bytesLess a b = false := by simpa using h
 rw [h'] at ht
 have ht2 : Op.bytesLess b a = true ∨ b = a := by simpa using ht
 exact ht2.resolve_right fun e => hne e.symm
theorem rising_iff (l : List Ent) : Rising l ↔ l.Pairwise Less := by
 rw [List.pairwise_iff_getElem]
 exact Iff.rfl
theorem rise_ins {x : Ent} : ∀ {l : List Ent}, l.Pairwise Less → (∀ y ∈ l, lst y.name ≠ lst x.name) → (insE x l).Pairwise Less
 | [], _, _ => List.pairwise_singleton _ _
 | y :: l, h, hne => by
  obtain ⟨h1, h2⟩ := List.pairwise_cons.1 h
  unfold insE
  split
  ·rename_i hl
   refine List.pairwise_cons.2 ⟨fun z hz => ?_, rise_ins h2 fun z hz => hne z (List.mem_cons_of_mem _ hz)⟩
   rcases mem_insE.1 hz with rfl | hz
   ·exact hl
   ·exact h1 z hz
  ·rename_i hl
   have hxy : Less x y := less_of_not hl (hne y List.mem_cons_self)
   refine List.pairwise_cons.2 ⟨fun z hz => ?_, h⟩
   rcases List.mem_cons.1 hz with rfl | hz
   ·exact hxy
   ·exact bl_trans _ _ _ hxy (h1 z hz)
theorem insE_cut {x : Ent} : ∀ {l : List Ent} {i : Nat}, i ≤ l.length → Cut_ l x.name i i → insE x l = l.take i ++ x :: l.drop i
 | [], i, hi, _ => by
  have : i = 0 := by simpa using hi
  subst this
  rfl
 | y :: l, 0, _, hc => by
  have := hc.2 0 (by simp) (Nat.le_refl _)
  rw [List.getElem_cons_zero] at this
  unfold insE
  rw [if_neg (by simp [this])]
  rfl
 | y :: l, i + 1, hi, hc => by
  have h0 := hc.1 0 (by simp) (by omega)
  rw [List.getElem_cons_zero] at h0
  unfold insE
  rw [if_pos h0, insE_cut (i := i) (by simpa using hi) ⟨fun k hk hki => ?_, fun k hk hki => ?_⟩]
  ·rfl
  ·have := hc.1 (k + 1) (by simpa using hk) (by omega)
   rwa [List.getElem_cons_succ] at this
  ·have := hc.2 (k + 1) (by simpa using hk) (by omega)
   rwa [List.getElem_cons_succ] at this
theorem insE_split {x : Ent} : ∀ (l1 l2 : List Ent), (∀ y ∈ l1, Less y x) → insE x (l1 ++ l2) = l1 ++ insE x l2
 | [], _, _ => rfl
 | y :: l1, l2, h => by
  rw [List.cons_append, insE, if_pos (show Op.bytesLess (lst y.name) (lst x.name) = true from h y List.mem_cons_self), insE_split l1 l2 (fun z hz => h z (List.mem_cons_of_mem _ hz)), List.cons_append]
theorem insE_here {x y : Ent} {l : List Ent} (h : ¬ Less y x) : insE x (y :: l) = x :: y :: l := by unfold insE; rw [if_neg (show ¬ Op.bytesLess (lst y.name) (lst x.name) = true from h)]
def addE (nb : Nat) : List Ent → Nat → List Fil → Option (List Ent)
 | es, _, [] => some es
 | es, at_, f :: l => if es.any (fun y => decide (lst y.name = lst f.name)) then none else addE nb (insE ⟨f.name, nb, at_, f.data.size⟩ es) (at_ + f.data.size) l
def fileBytes (l : List Fil) : Nat := (l.map fun f => f.data.size).sum
theorem entBad_mk {nb : Nat} {x : Ent} (h : nameMay x.name = true) (h1 : 0 ≤ x.block) (h2 : x.block < nb) (h3 : 0 ≤ x.at_) (h4 : x.at_ ≤ 600) (h5 : 0 ≤ x.bytes) (h6 : x.bytes ≤ 200) : entBad nb x = false := by
 unfold entBad inB
 simp only [h, Bool.not_true, Bool.false_or, Bool.or_eq_false_iff, Bool.not_eq_false', Bool.and_eq_true, decide_eq_true_eq]
 omega
theorem entBad_more {nb : Nat} {x : Ent} (h : entBad nb x = false) : entBad (nb + 1) x = false := by
 obtain ⟨h0, h1, h2, h3, h4, h5, h6⟩ := entBad_false h
 exact entBad_mk h0 h1 (by omega) h3 h4 h5 h6
theorem addE_ok {nb : Nat} : ∀ (l : List Fil) (es : List Ent) (p : Nat) (es' : List Ent), es.Pairwise Less → (∀ x ∈ es, entBad (nb + 1) x = false) → (∀ f ∈ l, nameMay f.name = true ∧ f.data.size ≤ 200) → p + fileBytes l ≤ 600 → addE nb es p l = some es' →
  es'.Pairwise Less ∧ (∀ x ∈ es', entBad (nb + 1) x = false) ∧ es'.length = es.length + l.length
 | [], es, p, es', h1, h2, _, _, h => by
  obtain rfl : es = es' := by simpa [addE] using h
  exact ⟨h1, h2, rfl⟩
 | f :: l, es, p, es', h1, h2, h3, h4, h => by
  unfold addE at h
  split at h
  ·cases h
  ·rename_i hn
   have hf := h3 f List.mem_cons_self
   have hs : fileBytes (f :: l) = f.data.size + fileBytes l := by simp [fileBytes]
   have hne : ∀ y ∈ es, lst y.name ≠ lst f.name := by
    intro y hy he
    exact hn (List.any_eq_true.2 ⟨y, hy, decide_eq_true he⟩)
   obtain ⟨r1, r2, r3⟩ := addE_ok l _ _ es' (rise_ins (x := ⟨f.name, nb, p, f.data.size⟩) h1 hne) (fun z hz => by
    rcases mem_insE.1 hz with rfl | hz
    ·exact entBad_mk hf.1 (by simp only; omega) (by simp only; omega) (by simp only; omega) (by simp only; omega) (by simp only; omega) (by simp only; omega)
    ·exact h2 z hz) (fun g hg => h3 g (List.mem_cons_of_mem _ hg)) (by omega) h
   refine ⟨r1, r2, ?_⟩
   rw [r3, insE_length, List.length_cons]
   omega
theorem ents_fine {nb : Nat} : ∀ (l : List Ent) (p : Option ByteArray), l.Pairwise Less → (∀ x ∈ l, entBad nb x = false) → (∀ q, p = some q → ∀ x ∈ l, Op.bytesLess (lst q) (lst x.name) = true) → entsF nb p l = 0
 | [], _, _, _, _ => rfl
 | y :: l, p, h1, h2, h3 => by
  obtain ⟨g1, g2⟩ := List.pairwise_cons.1 h1
  have ho : orderBad p y.name = false := by
   unfold orderBad
   cases p with
   | none => rfl
   | some q =>
    have := h3 q rfl y List.mem_cons_self
    simp only
    rw [toList_lst, toList_lst, this]
    rfl
  rw [ents_go (h2 y List.mem_cons_self) ho]
  exact ents_fine l _ g2 (fun x hx => h2 x (List.mem_cons_of_mem _ hx)) (fun q hq x hx => by obtain rfl := Option.some.inj hq; exact g1 x hx)
theorem blocks_snoc : ∀ (l : List Blk) (p : Int) (b : Blk), blocksF p l = 0 → blockBad (nextAt p l) b = false → blocksF p (l ++ [b]) = 0
 | [], p, b, _, h => by
  rw [List.nil_append, blocks_go (p := p) (b := b) (l := []) h]; rfl
 | a :: l, p, b, h, h2 => by
  unfold blocksF at h
  split at h
  ·exact absurd h (by decide)
  ·rename_i hb
   rw [List.cons_append, blocks_go (by simpa using hb)]
   exact blocks_snoc l _ b h h2
theorem fault_added {c : Cat} {b : Blk} {es : List Ent} (h : catFault c = 0) (hl : c.blocks.length < 10) (he : es.length ≤ 10) (hf : b.first = nextAt 8 c.blocks) (h0 : 0 ≤ b.bytes) (h1 : b.bytes ≤ 1200) (h2 : nextAt 8 c.blocks + secs b.bytes ≤ 64)
  (hr : es.Pairwise Less) (hb : ∀ x ∈ es, entBad (c.blocks.length + 1) x = false) : catFault ⟨c.blocks ++ [b], es⟩ = 0 := by
 obtain ⟨f1, f2, f3, f4⟩ := catFault_ok h
 have hbb : blockBad (nextAt 8 c.blocks) b = false := by
  unfold blockBad inB
  simp only [hf, Bool.or_eq_false_iff, Bool.not_eq_false', Bool.and_eq_true, decide_eq_true_eq, decide_eq_false_iff_not]
  omega
 have hlen : (c.blocks ++ [b]).length = c.blocks.length + 1 := by simp
 rw [fault_ents (by simp only; rw [hlen]; omega) (blocks_snoc _ _ _ f3 hbb)]
 simp only
 rw [hlen]
 exact ents_fine es none hr hb (fun q hq => by cases hq)
def dataS (l : List Fil) : ByteArray := bs (l.flatMap fun f => lst f.data)
theorem dataS_size (l : List Fil) : (dataS l).size = fileBytes l := by
 unfold dataS fileBytes
 rw [size_bs]
 induction l with
 | nil => rfl
 | cons f l ih => rw [List.flatMap_cons, List.length_append, length_lst, ih, List.map_cons, List.sum_cons]
def addCat (c : Cat) (es : List Ent) (s : ByteArray) : Cat := ⟨c.blocks ++ [⟨nextAt 8 c.blocks, s.size⟩], es⟩
def catText (c : Cat) : ByteArray := (encCatS c).1 ++ bs (List.replicate (192 - (encCatS c).1.size) 0)
def addS (a : List Dev) (l : List Fil) : List Dev × Int :=
 if (openS a).2 ≠ 0 then ([], (openS a).2) else if filesS l ≠ 0 then ([], filesS l) else
  match addE (openS a).1.blocks.length (openS a).1.entries 0 l with
  | none => ([], 7)
  | some es =>
   if 10 < es.length ∨ (openS a).1.blocks.length = 10 ∨ ((dv a 0).sec.length : Int) < nextAt 8 (openS a).1.blocks + secs (packS (dataS l)).1.size then ([], 8)
   else
    let x := (streamWriteS a (nextAt 8 (openS a).1.blocks) (packS (dataS l)).1).1
    streamWriteS x 0 (catText (addCat (openS a).1 es (packS (dataS l)).1))
theorem fileBytes_cons (f : Fil) (l : List Fil) : fileBytes (f :: l) = f.data.size + fileBytes l := by unfold fileBytes; rw [List.map_cons, List.sum_cons]
theorem filesGo_ok {l : List Fil} : ∀ (m k : Nat) (all : Int), k + m = l.length → filesGo l m k all = 0 → (∀ f ∈ l.drop k, nameMay f.name = true ∧ f.data.size ≤ 200) ∧ all + fileBytes (l.drop k) ≤ 600
 | 0, k, all, hk, h => by
  have e : l.drop k = [] := List.drop_eq_nil_of_le (by omega)
  rw [e]
  unfold filesGo at h
  split at h
  ·exact absurd h (by decide)
  ·exact ⟨(fun f hf => absurd hf (by simp)), (by show all + ((0 : Nat) : Int) ≤ 600; omega)⟩
 | m + 1, k, all, hk, h => by
  have hl : k < l.length := by omega
  have hx : l.getD k noFil = l[k] := by simp [List.getD, hl]
  unfold filesGo at h
  rw [hx] at h
  split at h
  ·exact absurd h (by decide)
  ·rename_i h1
   split at h
   ·exact absurd h (by decide)
   ·rename_i h2
    split at h
    ·exact absurd h (by decide)
    ·obtain ⟨r1, r2⟩ := filesGo_ok m (k + 1) _ (by omega) h
     have hd : l.drop k = l[k] :: l.drop (k + 1) := List.drop_eq_getElem_cons hl
     rw [hd]
     refine ⟨fun f hf => ?_, ?_⟩
     ·rcases List.mem_cons.1 hf with rfl | hf
      ·exact ⟨by simpa using h1, by omega⟩
      ·exact r1 f hf
     ·have : fileBytes (l[k] :: l.drop (k + 1)) = l[k].data.size + fileBytes (l.drop (k + 1)) := fileBytes_cons _ _
      rw [this]
      omega
theorem filesS_ok {l : List Fil} (h : filesS l = 0) : 1 ≤ l.length ∧ l.length ≤ 10 ∧ (∀ f ∈ l, nameMay f.name = true ∧ f.data.size ≤ 200) ∧ fileBytes l ≤ 600 := by
 unfold filesS at h
 split at h
 ·rename_i hl
  obtain ⟨r1, r2⟩ := filesGo_ok l.length 0 0 (by omega) h
  rw [List.drop_zero] at r1 r2
  exact ⟨hl.1, hl.2, r1, by omega⟩
 ·exact absurd h (by decide)
theorem data_ok {l : List Fil} (h : filesS l = 0) : (dataS l).size ≤ 600 ∧ (packS (dataS l)).2 = 0 ∧ (packS (dataS l)).1.size ≤ 605 := by
 have hs : (dataS l).size ≤ 600 := by rw [dataS_size]; exact (filesS_ok h).2.2.2
 have := packS_len _ hs
 exact ⟨hs, packS_code _ hs, by omega⟩
theorem addCat_ok {c : Cat} {l : List Fil} {es : List Ent} {n : Nat} (hc : catFault c = 0) (h : filesS l = 0) (he : addE c.blocks.length c.entries 0 l = some es) (h1 : ¬ 10 < es.length) (h2 : c.blocks.length ≠ 10)
  (h3 : ¬ ((n : Nat) : Int) < nextAt 8 c.blocks + secs (packS (dataS l)).1.size) (hn : n ≤ 64) : catFault (addCat c es (packS (dataS l)).1) = 0 := by
 obtain ⟨f1, f2, f3, f4⟩ := catFault_ok hc
 obtain ⟨g1, g2, g3, g4⟩ := filesS_ok h
 have hd := data_ok h
 obtain ⟨a1, a2, a3⟩ := addE_ok l c.entries 0 es ((rising_iff _).1 (ents_rising _ _ _ f4).1) (fun x hx => entBad_more (entsF_ok _ _ _ f4 x hx)) g3 (by omega) he
 exact fault_added hc (by omega) (by omega) rfl (by simp only; omega) (by simp only; omega) (by simp only; omega) a1 a2




theorem catText_size {c : Cat} (h : catFault c = 0) : (catText c).size = 192 := by
 obtain ⟨h1, h2, h3, h4⟩ := catFault_ok h
 have he := entsF_ok _ _ _ h4
 have b1 := flat_bound (fun b : Blk => twoB b.bytes) 2 c.blocks (fun x _ => by simp [twoB])
 have b2 := flat_bound entBytes 13 c.entries (fun x hx => ent_len (he x hx))
 have hl : (encCatS c).1.size ≤ 192 := by
  rw [enc_good h, size_bs]
  unfold catBytes
  simp only [List.length_cons, List.length_append]
  omega
 unfold catText
 rw [ByteArray.size_append, size_bs, List.length_replicate]
 omega

theorem catFault_blk {c : Cat} (h : catFault c = 0) : 8 ≤ nextAt 8 c.blocks := by
 obtain ⟨_, _, f3, _⟩ := catFault_ok h
 exact nextAt_ge _ _ (fun b hb => (blocksF_range _ _ (by decide) f3 b hb).1)
theorem cmp2_any (x : Ent) (t : ByteArray) (w : World) :
  Calls Tryz.prog 38 #[entV x, .string t] w fun e w' => e = .returned (.int .i64 (Lib.compareBytes (lst x.name) (lst t))) ∧ Ext w w' := by
 unfold entV
 go_enter Tryz.func38, Tryz.ntmps38
 go_wp2_with fail
 refine (compare_any x.name t _).mono ?_
 rintro e w1 ⟨rfl, rfl⟩
 go_wp2_with fail
 go_ret
 exact ⟨rfl, (Ext.refl w).alloc _⟩
theorem search2_any (A2 : Option Addr) (c2 : Nat) (l : List Ent) (t : ByteArray) (w : World)
  (hS : ∀ k, k < l.length → ∃ b o, A2 = some ⟨b, o, none⟩ ∧ ∀ (i : Nat) (hi : i < l.length) (j : Nat) (u : Value), (encEnt l[i])[j]? = some u → w.cell? ⟨b, o + i * 4 + j, none⟩ = some u)
  (hr : Rising l) (hn : l.length ≤ 20) :
  Calls Tryz.prog 37 #[.slice A2 l.length c2, .string t, .func (.func 38) #[] #[]] w fun e w' => ∃ (i : Nat) (b : Bool), e = .returned (.tuple #[.int .i64 i, .bool b]) ∧ Ext w w' ∧ i ≤ l.length ∧ Cut_ l t i i ∧ (b = true → ∃ h : i < l.length, lst l[i].name = lst t) ∧ (b = false → ∀ h : i < l.length, lst l[i].name ≠ lst t) := by
 have HS := Lib.hid hS
 have HR := Lib.hid hr
 have hn10 : (l.length : Int) ≤ 20 := by omega
 clear hS hr
 go_enter Tryz.func37, Tryz.ntmps37
 go_wp2_with fail
 go_loopw [9, 10] (fun iv jv wr => ∃ i j : Nat, iv = .int .i64 i ∧ jv = .int .i64 j ∧ i ≤ j ∧ j ≤ l.length ∧ Ext w wr ∧ Cut_ l t i j) (fun iv jv _ => (intOf jv).toNat - (intOf iv).toNat)
 case atStart => exact ⟨0, l.length, rfl, rfl, Nat.zero_le _, Nat.le_refl _, Ext.refl _, cut_start l t⟩
 case round =>
  obtain ⟨i, j, rfl, rfl, hij, hj, hx, hc⟩ := hrel
  have HC := Lib.hid hc
  clear hc
  by_cases hlt : i < j
  ·obtain ⟨h, hh⟩ : ∃ h, h = (i + j) / 2 := ⟨_, rfl⟩
   have hhl : h < l.length := by omega
   have hih : i ≤ h ∧ h < j := by omega
   have y1 : IntKind.u64.wrap ((i : Int) + (j : Int)) = (i : Int) + (j : Int) := by rw [IntKind.wrap_u64]; omega
   have y2 : ((i : Int) + (j : Int)) / 2 = (h : Int) := by omega
   have y3 : IntKind.i64.wrap (h : Int) = (h : Int) := by rw [IntKind.wrap_i64]; omega
   have hh10 : (h : Int) < 20 := by omega
   have hhI : (h : Int) < (l.length : Int) := by omega
   obtain ⟨b2, o2, rfl, g1⟩ := HS.out h hhl
   have q0 := hx.cell (g1 h hhl 0 _ rfl)
   have q1 := hx.cell (g1 h hhl 1 _ rfl)
   have q2 := hx.cell (g1 h hhl 2 _ rfl)
   have q3 := hx.cell (g1 h hhl 3 _ rfl)
   simp only [Nat.add_zero] at q0
   have HUP := Lib.hid (fun hl => cut_up HR.out HC.out hhl hl)
   have HDN := Lib.hid (fun hl => cut_down HR.out HC.out hhl hl)
   obtain ⟨X, hX⟩ : ∃ X, X = l[h] := ⟨_, rfl⟩
   rw [← hX] at q0 q1 q2 q3 HUP HDN
   have HIH := Lib.hid (And.intro hih (And.intro hij hj))
   have HX := Lib.hid hx
   have hltI : (i : Int) < (j : Int) := by omega
   have hj10 : (j : Int) ≤ 20 := by omega
   clear g1 hX hh hih hx HC hij hj
   go_wp2_with fail
   refine (cmp2_any X t _).mono ?_
   rintro e w1 ⟨rfl, hx1⟩
   have HX1 := Lib.hid (HX.out.trans hx1)
   have hcn := cmp_neg (lst X.name) (lst t)
   obtain ⟨r, hrr⟩ : ∃ r, r = Lib.compareBytes (lst X.name) (lst t) := ⟨_, rfl⟩
   rw [← hrr] at hcn ⊢
   clear hx1 hrr q0 q1 q2 q3
   cases hb : Op.bytesLess (lst X.name) (lst t) with
   | true =>
    have HU := Lib.hid (HUP.out hb)
    rw [hb] at hcn
    clear hb
    go_wp2_with fail
    go_roundw
    case rel => exact ⟨h + 1, j, by go_num, rfl, by have := HIH.out; omega, HIH.out.2.2, HX1.out, HU.out⟩
    case measure => have := HIH.out; simp [intOf]; omega
   | false =>
    have HD := Lib.hid (HDN.out hb)
    rw [hb] at hcn
    clear hb
    go_wp2_with fail
    go_roundw
    case rel => exact ⟨i, h, rfl, by go_num, HIH.out.1.1, by omega, HX1.out, HD.out⟩
    case measure => have := HIH.out; simp [intOf]; omega
  ·obtain rfl : i = j := by omega
   have HCC := Lib.hid (And.intro hj HC.out)
   have HX := Lib.hid hx
   by_cases hi : i < l.length
   ·have hiI : (i : Int) < (l.length : Int) := by omega
    have hi10 : (i : Int) < 20 := by omega
    obtain ⟨b2, o2, rfl, g1⟩ := HS.out i hi
    have q0 := hx.cell (g1 i hi 0 _ rfl)
    have q1 := hx.cell (g1 i hi 1 _ rfl)
    have q2 := hx.cell (g1 i hi 2 _ rfl)
    have q3 := hx.cell (g1 i hi 3 _ rfl)
    simp only [Nat.add_zero] at q0
    have HLX := Lib.hid (show l[i] = l[i] from rfl)
    obtain ⟨X, hX⟩ : ∃ X, X = l[i] := ⟨_, rfl⟩
    rw [← hX] at q0 q1 q2 q3
    have HXE := Lib.hid hX
    clear g1 hX hij hj hx HC
    go_wp2_with fail
    refine (cmp2_any X t _).mono ?_
    rintro e w1 ⟨rfl, hx1⟩
    have HX1 := Lib.hid (HX.out.trans hx1)
    have hcz := cmp_zero (lst X.name) (lst t)
    obtain ⟨r, hrr⟩ : ∃ r, r = Lib.compareBytes (lst X.name) (lst t) := ⟨_, rfl⟩
    rw [← hrr] at hcz ⊢
    clear hx1 hrr q0 q1 q2 q3
    have HI := Lib.hid hi
    by_cases he : lst X.name = lst t
    ·have hr0 : r = 0 := hcz.2 he
     subst hr0
     have HF1 := Lib.hid (show lst (l[i]'HI.out).name = lst t by have hxe := HXE.out; rw [hxe] at he; exact he)
     clear hcz he
     go_wp2_with fail
     go_ret2
     exact ⟨i, true, rfl, HX1.out, HCC.out.1, HCC.out.2, fun _ => ⟨HI.out, HF1.out⟩, fun h => by cases h⟩
    ·have hr0 : (r == 0) = false := beq_false_of_ne (fun h => he (hcz.1 h))
     have HF1 := Lib.hid (show lst (l[i]'HI.out).name ≠ lst t by have hxe := HXE.out; rw [hxe] at he; exact he)
     clear hcz he
     go_wp2_with fail
     go_ret2
     exact ⟨i, false, rfl, HX1.out, HCC.out.1, HCC.out.2, (fun h => by cases h), fun _ _ => HF1.out⟩
   ·have HNI := Lib.hid hi
    have hi10 : (i : Int) ≤ 20 := by omega
    clear hx HC
    go_wp2_with fail
    go_ret2
    exact ⟨i, false, rfl, HX.out, HCC.out.1, HCC.out.2, (fun h => by cases h), fun _ h => absurd h HNI.out⟩
theorem insertEnd_any (A : Option Addr) (c base n : Nat) (xs : List Value) (x : Ent) (gv : Nat) (w : World) (ho : w.ownsRow base 70 4 (.slice A n c) n xs) (hn : n ≤ 20) (hb : base ≤ w.heap.size)
  (hv : ∀ (j : Nat) (u : Value), (encEnt x)[j]? = some u → w.cell? ⟨gv, j, none⟩ = some u) :
  Calls Tryz.prog 40 #[.slice A n c, .int .i64 n, .slice (some ⟨gv, 0, none⟩) 1 1] w fun e w' => ∃ A' c', e = .returned (.slice A' (n + 1) c') ∧ w'.ownsRow base 70 4 (.slice A' (n + 1) c') (n + 1) (xs ++ encEnt x) ∧ w.grownBy w' (Value.slice A n c).ownBlock ∧
   ((Value.slice A' (n + 1) c').ownBlock = (Value.slice A n c).ownBlock ∨ (Value.slice A' (n + 1) c').ownBlock = some w.heap.size) := by
 obtain ⟨i1, hi1, za1, zb1, zc1⟩ := info_parts info_ent
 have HI := Lib.hid (And.intro hi1 (And.intro za1 (And.intro zb1 zc1)))
 have HO := Lib.hid ho
 have HV := Lib.hid hv
 have hc : n ≤ c ∧ c ≤ 9223372036854775807 := by
  rcases ho.2 with ⟨hnil, h0⟩ | ⟨g, cap, cur, hv', _, _, h1, h2, _⟩
  ·injection hnil with a1 a2 a3
   omega
  ·injection hv' with a1 a2 a3
   unfold maxLen at h2
   omega
 have hcn : (n : Int) ≤ (c : Int) := by omega
 have hnI : (n : Int) ≤ 20 := by omega
 have hcI : (c : Int) ≤ 9223372036854775807 := by omega
 clear hi1 za1 zb1 zc1 ho hv
 go_enter Tryz.func40, Tryz.ntmps40
 by_cases hcc : c = n
 ·subst hcc
  go_wp2_with (at_builtin; refine wpList_append_at w rfl (.tmp 23) (.tmp 24) 38 rfl base 70 i1 (.agg #[.string .empty, .int .i64 0, .int .i64 0, .int .i64 0]) 4 40 Tryz.underlying38 HI.out.1 HI.out.2.1 HI.out.2.2.1 HI.out.2.2.2 rfl (by decide) (.slice A c c) c xs rfl HO.out ⟨gv, 0, none⟩ 1 1 (encEnt x) rfl rfl ?c0 ?c1 ?c2 ?c3 ?c4 ?_)
  case c0 =>
   intro j u hj
   have hvj := HV.out j u hj
   have hae : (Addr.add ⟨gv, 0, none⟩ j) = ⟨gv, j, none⟩ := by simp [Addr.add]; exact fun h => h.symm
   rw [hae]
   exact hvj
  case c1 => intro u hu; simp only [encEnt, List.mem_cons, List.not_mem_nil, or_false] at hu; rcases hu with rfl | rfl | rfl | rfl <;> rfl
  case c2 => unfold maxLen; omega
  case c3 => omega
  case c4 => exact hb
  intro A' c' w' own' hg' hap'
  have HO' := Lib.hid (And.intro own' (And.intro hg' hap'))
  clear own' hg' hap'
  go_wp2_with fail
  go_ret
  exact ⟨A', c', rfl, HO'.out.1, HO'.out.2.1, HO'.out.2.2⟩
 ·skip
  go_wp2_with (at_builtin; refine wpList_append_at w rfl (.tmp 23) (.tmp 24) 38 rfl base 70 i1 (.agg #[.string .empty, .int .i64 0, .int .i64 0, .int .i64 0]) 4 40 Tryz.underlying38 HI.out.1 HI.out.2.1 HI.out.2.2.1 HI.out.2.2.2 rfl (by decide) (.slice A n c) n xs rfl HO.out ⟨gv, 0, none⟩ 1 1 (encEnt x) rfl rfl ?c0 ?c1 ?c2 ?c3 ?c4 ?_)
  case c0 =>
   intro j u hj
   have hvj := HV.out j u hj
   have hae : (Addr.add ⟨gv, 0, none⟩ j) = ⟨gv, j, none⟩ := by simp [Addr.add]; exact fun h => h.symm
   rw [hae]
   exact hvj
  case c1 => intro u hu; simp only [encEnt, List.mem_cons, List.not_mem_nil, or_false] at hu; rcases hu with rfl | rfl | rfl | rfl <;> rfl
  case c2 => unfold maxLen; omega
  case c3 => omega
  case c4 => exact hb
  intro A' c' w' own' hg' hap'
  have HO' := Lib.hid (And.intro own' (And.intro hg' hap'))
  clear own' hg' hap'
  go_wp2_with fail
  go_ret
  exact ⟨A', c', rfl, HO'.out.1, HO'.out.2.1, HO'.out.2.2⟩
theorem own_ents {w : World} {b : Nat} {t : TypeId} {A : Option Addr} {c : Nat} {L : List Ent} (h : w.ownsRow b t 4 (.slice A L.length c) L.length (L.flatMap encEnt)) :
  ∀ (k : Nat) (_ : k < L.length), ∃ b o, A = some ⟨b, o, none⟩ ∧ ∀ (i : Nat) (hi : i < L.length) (j : Nat) (u : Value), (encEnt L[i])[j]? = some u → w.cell? ⟨b, o + i * 4 + j, none⟩ = some u := by
 intro k hk
 have h' := h
 rcases h.2 with ⟨_, h0⟩ | ⟨g, cap, cur, hv, _⟩
 ·omega
 ·injection hv with a1 a2 a3
  subst a1
  refine ⟨g, 0, rfl, fun i hi j u hu => ?_⟩
  have hj : j < 4 := (List.getElem?_eq_some_iff.1 hu).1
  have hc := h'.cellAt (i * 4 + j) (by omega)
  rw [Nat.zero_add, hc, flatMap_at (enc := encEnt) (C := 4) (fun _ => rfl) L i j hi hj]
  exact hu
theorem addE_there {nb : Nat} {es : List Ent} {p : Nat} {f : Fil} {l : List Fil} (h : ∃ y ∈ es, lst y.name = lst f.name) : addE nb es p (f :: l) = none := by
 unfold addE
 rw [if_pos]
 obtain ⟨y, hy, e⟩ := h
 exact List.any_eq_true.2 ⟨y, hy, decide_eq_true e⟩
theorem endCat_ok {bl : List Blk} {es : List Ent} {r : List UInt8} (h : (endCat bl es r).2 = 0) : catFault (endCat bl es r).1 = 0 := by
 unfold endCat at h ⊢
 by_cases h1 : r.all (· == 0) = true
 ·rw [if_pos h1] at h ⊢
  by_cases h2 : catFault ⟨bl, es⟩ = 0
  ·rw [if_pos h2]; exact h2
  ·rw [if_neg h2] at h; exact absurd h h2
 ·rw [if_neg h1] at h
  exact absurd h (by decide)
theorem decCat_ok {s : ByteArray} (h : (decCatS s).2 = 0) : catFault (decCatS s).1 = 0 := by
 unfold decCatS at h ⊢
 match lst s, h with
 | [], h => exact absurd h (by decide)
 | n :: l, h =>
  unfold decCatL at h ⊢
  dsimp only at h ⊢
  match decBlocks n.toNat 8 l, h with
  | none, h => exact absurd h (by show ¬ (5 : Int) = 0; decide)
  | some (_, []), h => exact absurd h (by show ¬ (5 : Int) = 0; decide)
  | some (bl, k :: r), h =>
   dsimp only at h ⊢
   match decEnts k.toNat r, h with
   | none, h => exact absurd h (by show ¬ (5 : Int) = 0; decide)
   | some (es, r'), h => exact endCat_ok h
theorem open_cat {a : List Dev} (h : (openS a).2 = 0) : catFault (openS a).1 = 0 := by
 by_cases h1 : (streamReadS a 0 192).2 = 0
 ·rw [open_ok h1] at h ⊢
  exact decCat_ok h
 ·rw [open_bad h1] at h
  exact absurd h h1
theorem open_may {a : List Dev} (h : (openS a).2 = 0) : arrMay a = true := by
 by_cases h1 : (streamReadS a 0 192).2 = 0
 ·unfold streamReadS at h1
  by_cases h2 : streamFaultS a 0 192 ≠ 0
  ·rw [if_pos h2] at h1; exact absurd h1 h2
  ·have h3 : streamFaultS a 0 192 = 0 := by simpa using h2
   unfold streamFaultS at h3
   cases hm : arrMay a with
   | true => rfl
   | false => rw [hm] at h3; exact absurd h3 (by show ¬ (9 : Int) = 0; decide)
 ·rw [open_bad h1] at h
  exact absurd h h1
def RSt (x : Ent) (es : List Ent) (k : Nat) (done : Bool) (next : List Ent) : Prop :=
 (∀ y ∈ es.take k, lst y.name ≠ lst x.name) ∧ ((done = false ∧ next = es.take k ∧ ∀ y ∈ es.take k, Less y x) ∨ (done = true ∧ next ++ es.drop k = insE x es ∧ next.length = k + 1))
theorem RSt.start (x : Ent) (es : List Ent) : RSt x es 0 false [] := ⟨fun y hy => by simp at hy, .inl ⟨rfl, rfl, fun y hy => by simp at hy⟩⟩
theorem take_mem_succ {es : List Ent} {k : Nat} (hk : k < es.length) {y : Ent} (hy : y ∈ es.take (k + 1)) : y ∈ es.take k ∨ y = es[k] := by
 rw [List.take_succ_eq_append_getElem hk] at hy
 rcases List.mem_append.1 hy with h | h
 ·exact .inl h
 ·exact .inr (List.mem_singleton.1 h)
theorem RSt.ne {x : Ent} {es : List Ent} {k : Nat} {done : Bool} {next : List Ent} (h : RSt x es k done next) (hk : k < es.length) (hn : lst es[k].name ≠ lst x.name) : ∀ y ∈ es.take (k + 1), lst y.name ≠ lst x.name := by
 intro y hy
 rcases take_mem_succ hk hy with hy | rfl
 ·exact h.1 y hy
 ·exact hn
theorem RSt.put {x : Ent} {es : List Ent} {k : Nat} {next : List Ent} (h : RSt x es k false next) (hk : k < es.length) (hn : lst es[k].name ≠ lst x.name) (hl : Op.bytesLess (lst x.name) (lst es[k].name) = true) : RSt x es (k + 1) true (next ++ [x] ++ [es[k]]) := by
 refine ⟨h.ne hk hn, .inr ⟨rfl, ?_, ?_⟩⟩
 ·rcases h.2 with ⟨_, rfl, h2⟩ | ⟨h1, _⟩
  ·have e : insE x es = es.take k ++ insE x (es.drop k) := by
    have := insE_split (x := x) (es.take k) (es.drop k) h2
    rw [List.take_append_drop] at this
    exact this
   have hd : es.drop k = es[k] :: es.drop (k + 1) := List.drop_eq_getElem_cons hk
   rw [e, hd, insE_here (fun h => by
    have h : Op.bytesLess (lst es[k].name) (lst x.name) = true := h
    have h3 := bl_trans _ _ _ h hl
    rw [bl_irrefl] at h3
    cases h3)]
   simp
  ·cases h1
 ·rcases h.2 with ⟨_, rfl, h2⟩ | ⟨h1, _⟩
  ·simp; omega
  ·cases h1
theorem RSt.pass {x : Ent} {es : List Ent} {k : Nat} {next : List Ent} (h : RSt x es k false next) (hk : k < es.length) (hn : lst es[k].name ≠ lst x.name) (hl : Op.bytesLess (lst x.name) (lst es[k].name) = false) : RSt x es (k + 1) false (next ++ [es[k]]) := by
 refine ⟨h.ne hk hn, .inl ⟨rfl, ?_, ?_⟩⟩
 ·rcases h.2 with ⟨_, rfl, h2⟩ | ⟨h1, _⟩
  ·rw [List.take_succ_eq_append_getElem hk]
  ·cases h1
 ·rcases h.2 with ⟨_, rfl, h2⟩ | ⟨h1, _⟩
  ·intro y hy
   rcases take_mem_succ hk hy with hy | rfl
   ·exact h2 y hy
   ·exact less_of_not (by rw [hl]; decide) (fun e => hn e.symm)
  ·cases h1
theorem RSt.more {x : Ent} {es : List Ent} {k : Nat} {next : List Ent} (h : RSt x es k true next) (hk : k < es.length) (hn : lst es[k].name ≠ lst x.name) : RSt x es (k + 1) true (next ++ [es[k]]) := by
 refine ⟨h.ne hk hn, .inr ⟨rfl, ?_, ?_⟩⟩
 ·rcases h.2 with ⟨h1, _⟩ | ⟨_, h2, _⟩
  ·cases h1
  ·have hd : es.drop k = es[k] :: es.drop (k + 1) := List.drop_eq_getElem_cons hk
   rw [hd] at h2
   rw [List.append_assoc]
   exact h2
 ·rcases h.2 with ⟨h1, _⟩ | ⟨_, _, h2⟩
  ·cases h1
  ·simp; omega
theorem RSt.len {x : Ent} {es : List Ent} {k : Nat} {done : Bool} {next : List Ent} (h : RSt x es k done next) : next.length ≤ k + 1 := by
 rcases h.2 with ⟨_, rfl, _⟩ | ⟨_, _, h2⟩
 ·simp; omega
 ·omega
theorem RSt.end1 {x : Ent} {es next : List Ent} (h : RSt x es es.length true next) : next = insE x es := by
 rcases h.2 with ⟨h1, _⟩ | ⟨_, h2, _⟩
 ·cases h1
 ·simpa using h2
theorem RSt.end0 {x : Ent} {es next : List Ent} (h : RSt x es es.length false next) : next ++ [x] = insE x es := by
 rcases h.2 with ⟨_, rfl, h2⟩ | ⟨h1, _⟩
 ·rw [List.take_length] at h2 ⊢
  have := insE_split (x := x) es [] h2
  rw [List.append_nil] at this
  rw [this]
  rfl
 ·cases h1
theorem RSt.fine {x : Ent} {es : List Ent} {done : Bool} {next : List Ent} (h : RSt x es es.length done next) : ¬ ∃ y ∈ es, lst y.name = lst x.name := by
 rintro ⟨y, hy, e⟩
 have := h.1
 rw [List.take_length] at this
 exact this y hy e
theorem addE_in {nb : Nat} {es : List Ent} {p : Nat} {f : Fil} {l : List Fil} (h : ∃ y ∈ es, lst y.name = lst f.name) : addE nb es p (f :: l) = none := by
 unfold addE
 rw [if_pos]
 obtain ⟨y, hy, e⟩ := h
 exact List.any_eq_true.2 ⟨y, hy, decide_eq_true e⟩
theorem addE_go {nb : Nat} {es : List Ent} {p : Nat} {f : Fil} {l : List Fil} (h : ¬ ∃ y ∈ es, lst y.name = lst f.name) : addE nb es p (f :: l) = addE nb (insE ⟨f.name, nb, p, f.data.size⟩ es) (p + f.data.size) l := by
 show (if es.any (fun y => decide (lst y.name = lst f.name)) then none else addE nb (insE ⟨f.name, nb, p, f.data.size⟩ es) (p + f.data.size) l) = _
 rw [if_neg]
 intro ha
 obtain ⟨y, hy, e⟩ := List.any_eq_true.1 ha
 exact h ⟨y, hy, of_decide_eq_true e⟩
theorem dataS_take (l : List Fil) (k : Nat) (hk : k < l.length) : dataS (l.take k) ++ l[k].data = dataS (l.take (k + 1)) := by
 unfold dataS
 rw [List.take_succ_eq_append_getElem hk, List.flatMap_append]
 apply lst_inj
 rw [lst_append, lst_bs, lst_bs]
 simp
end Go.Proofs.YtjadmfdlggnlgaaGreatDoor
