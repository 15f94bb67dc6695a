/-
  archive.CheckFiles and the document's FilesFault: may files be added together? The law ArchiveFiles. Conditions: the argument reads as files.
-/
import Derived.Test.YtjadmfdlggnlgaaGreatDoorV10
namespace Go.Proofs.YtjadmfdlggnlgaaGreatDoor
set_option linter.unusedSimpArgs false
set_option linter.unusedVariables false
set_option maxRecDepth 100000
set_option maxHeartbeats 8000000
open Go.RowKit
def noFil : Fil := ⟨.empty, .empty⟩
def sameName (s : ByteArray) (x : Fil) : Bool := x.name.toList == s.toList
def filesGo (l : List Fil) : Nat → Nat → Int → Int
 | 0, _, all => if 600 < all then 1 else 0
 | m + 1, k, all => if !nameMay (l.getD k noFil).name then 4 else if 200 < (l.getD k noFil).data.size then 1 else if (l.take k).any (sameName (l.getD k noFil).name) then 7 else filesGo l m (k + 1) (all + (l.getD k noFil).data.size)
def filesS (l : List Fil) : Int := if 1 ≤ l.length ∧ l.length ≤ 10 then filesGo l l.length 0 0 else 1
theorem sameName_any (x f : Fil) (g : Nat) (w : World) (hb : Blk_ w g 51 #[.string f.name, .string f.data]) :
  Calls Tryz.prog 35 #[.agg #[.string x.name, .string x.data], .pointer (some ⟨g, 0, none⟩)] w fun e w' => Ext w w' ∧ e = .returned (.bool (sameName f.name x)) := by
 have hb1 := hb.alloc (.cells #[.string x.name, .string x.data] 51)
 have f0 := hb.cell 0
 have hl := hb.lt
 simp at f0
 clear hb hb1
 go_enter Tryz.func35, Tryz.ntmps35
 go_wp2
 go_ret
 exact ⟨(Ext.refl _).alloc _, rfl⟩
theorem index_fil (v : Value) (l : List Fil) (f : Fil) (g : Nat) (w : World) (h : SlR 2 32 RFil w v l) (hb : Blk_ w g 51 #[.string f.name, .string f.data]) :
  Calls Tryz.prog 68 #[v, .func (.func 35) #[] #[.pointer (some ⟨g, 0, none⟩)]] w fun e w' => Ext w w' ∧ ∃ r : Int, e = .returned (.int .i64 r) ∧ decide (0 ≤ r) = l.any (sameName f.name) := by
 obtain ⟨A, c, rfl, hl, hc, r1⟩ := h.rowE encFil_ok
 clear h
 go_enter Tryz.func68, Tryz.ntmps68
 go_wp2
 go_loopw [8] (fun i wr => ∃ k : Nat, i = .int .i64 k ∧ k ≤ l.length ∧ Ext w wr ∧ (l.take k).any (sameName f.name) = false) (fun i _ => l.length - (intOf i).toNat)
 case atStart => exact ⟨0, rfl, Nat.zero_le _, Ext.refl _, rfl⟩
 case round =>
  obtain ⟨k, rfl, hk, hx, hno⟩ := hrel
  have HN := Lib.hid hno
  clear hno
  by_cases hlt : k < l.length
  ·obtain ⟨b1, o1, rfl, g1⟩ := r1 k hlt
   have q0 := hx.cell (g1 k hlt 0 _ rfl)
   have q1 := hx.cell (g1 k hlt 1 _ rfl)
   simp only [Nat.add_zero] at q0
   have HR := Lib.hid r1
   clear g1 r1
   have htk : (l.take (k + 1)).any (sameName f.name) = sameName f.name l[k] := by
    rw [← List.take_append_getElem hlt, List.any_append, HN.out]; simp
   have HT := Lib.hid htk
   clear htk
   have hki : (k : Int) < (l.length : Int) := by omega
   have HBR := Lib.hid (hb.ext hx)
   go_wp2_with fail
   refine (sameName_any l[k] f g _ HBR.out).mono ?_
   rintro e w1 ⟨hx1, rfl⟩
   have HX1 := Lib.hid (hx.trans hx1)
   clear q0 q1 hx hx1 HBR
   cases hp : sameName f.name l[k] with
   | true =>
    have HP := Lib.hid hp
    clear hp
    go_wp2_with fail
    go_ret
    refine ⟨HX1.out, _, rfl, ?_⟩
    have : l.any (sameName f.name) = true := List.any_eq_true.2 ⟨l[k], List.getElem_mem hlt, HP.out⟩
    rw [this]
    simp
   | false =>
    have HP := Lib.hid hp
    clear hp
    go_wp2_with fail
    go_roundw
    case rel => exact ⟨k + 1, by go_num, by omega, HX1.out, by rw [HT.out, HP.out]⟩
    case measure => simp [intOf]; omega
  ·obtain rfl : k = l.length := by omega
   go_wp2_with fail
   go_ret
   refine ⟨hx, _, rfl, ?_⟩
   rw [List.take_length] at HN
   rw [HN.out]
   simp
theorem contains_fil (v : Value) (l : List Fil) (f : Fil) (g : Nat) (w : World) (h : SlR 2 32 RFil w v l) (hb : Blk_ w g 51 #[.string f.name, .string f.data]) :
  Calls Tryz.prog 34 #[v, .func (.func 35) #[] #[.pointer (some ⟨g, 0, none⟩)]] w fun e w' => Ext w w' ∧ e = .returned (.bool (l.any (sameName f.name))) := by
 go_enter Tryz.func34, Tryz.ntmps34
 go_wp2_with fail
 refine (index_fil v l f g w h hb).mono ?_
 rintro e w1 ⟨hx, r, rfl, hr⟩
 have HR := Lib.hid hr
 clear hr h
 go_wp2
 go_ret
 exact ⟨hx, ret_bool HR.out⟩
theorem files_bad {l : List Fil} (h : ¬ (1 ≤ l.length ∧ l.length ≤ 10)) : filesS l = 1 := by unfold filesS; rw [if_neg h]
theorem files_ok {l : List Fil} (h : 1 ≤ l.length ∧ l.length ≤ 10) : filesS l = filesGo l l.length 0 0 := by unfold filesS; rw [if_pos h]
theorem fgo_name {l : List Fil} {m k : Nat} {all : Int} {x : Fil} (hx : l.getD k noFil = x) (h : nameMay x.name = false) : filesGo l (m + 1) k all = 4 := by unfold filesGo; rw [hx, h]; rfl
theorem fgo_size {l : List Fil} {m k : Nat} {all : Int} {x : Fil} (hx : l.getD k noFil = x) (h : nameMay x.name = true) (h2 : 200 < x.data.size) : filesGo l (m + 1) k all = 1 := by unfold filesGo; rw [hx, h, if_neg (by decide), if_pos h2]
theorem fgo_twice {l : List Fil} {m k : Nat} {all : Int} {x : Fil} (hx : l.getD k noFil = x) (h : nameMay x.name = true) (h2 : ¬ 200 < x.data.size) (h3 : (l.take k).any (sameName x.name) = true) : filesGo l (m + 1) k all = 7 := by unfold filesGo; rw [hx, h, if_neg (by decide), if_neg h2, if_pos h3]
theorem fgo_go {l : List Fil} {m k : Nat} {all : Int} {x : Fil} (hx : l.getD k noFil = x) (h : nameMay x.name = true) (h2 : ¬ 200 < x.data.size) (h3 : (l.take k).any (sameName x.name) = false) : filesGo l (m + 1) k all = filesGo l m (k + 1) (all + x.data.size) := by
 rw [filesGo, hx, h, if_neg (by decide), if_neg h2, if_neg (by simp [h3])]
theorem SlR.take {α : Type} {C bytes : Nat} {R : Rd α} {w : World} {A : Option Addr} {c : Nat} {l : List α} (h : SlR C bytes R w (.slice A l.length c) l) (k : Nat) (hk : k ≤ l.length) : SlR C bytes R w (.slice A k c) (l.take k) := by
 obtain ⟨A', c', e, hb, hc, h⟩ := h
 simp only [Value.slice.injEq, true_and] at e
 obtain ⟨rfl, rfl⟩ := e
 have hl : (l.take k).length = k := by rw [List.length_take]; omega
 refine ⟨A, c, by rw [hl], by rw [hl]; exact Nat.le_trans (Nat.mul_le_mul_right _ hk) hb, by rw [hl]; omega, ?_⟩
 rcases h with h | ⟨b, o, hA, h⟩
 ·subst h; left; simp
 ·right
  refine ⟨b, o, hA, fun i hi => ?_⟩
  have hi' : i < l.length := by rw [hl] at hi; omega
  obtain ⟨cs, h1, h2, h3⟩ := h i hi'
  exact ⟨cs, h1, h2, by rw [List.getElem_take]; exact h3⟩
theorem checkFiles_any (v : Value) (l : List Fil) (w : World) (h : SlR 2 32 RFil w v l) :
  Calls Tryz.prog 10 #[v] w fun e w' => e = .returned (.int .i64 (filesS l)) ∧ Ext w w' := by
 have hmem := h.mem encFil_ok w
 obtain ⟨A, c, rfl, hlb, hc, r1⟩ := h.rowE encFil_ok
 have HMEM := Lib.hid hmem
 have HR := Lib.hid r1
 have HH := Lib.hid h
 clear hmem r1 h hlb
 by_cases hlen : 1 ≤ l.length ∧ l.length ≤ 10
 ·have HF := Lib.hid (files_ok hlen)
  obtain ⟨hl1, hl2⟩ := hlen
  have t1 : decide ((l.length : Int) < 1) = false := by simp; omega
  have t2 : decide ((10 : Int) < (l.length : Int)) = false := by simp; omega
  have HL := Lib.hid (And.intro hl1 hl2)
  clear hl1 hl2
  go_enter Tryz.func10, Tryz.ntmps10
  go_wp2_with fail
  go_loopw [3, 16] (fun s i wr => ∃ (k : Nat) (all : Int), i = .int .i64 k ∧ s = .int .i64 all ∧ k ≤ l.length ∧ 0 ≤ all ∧ all ≤ 200 * (k : Int) ∧ Ext w wr ∧ filesGo l (l.length - k) k all = filesGo l l.length 0 0) (fun _ i _ => l.length - (intOf i).toNat)
  case atStart => exact ⟨0, 0, rfl, rfl, Nat.zero_le _, by omega, by omega, Ext.refl _, rfl⟩
  case round =>
   obtain ⟨k, all, rfl, rfl, hk, ha0, ha1, hx, heq⟩ := hrel
   have HEQ := Lib.hid heq
   have hl10 : (l.length : Int) ≤ 10 := by have := HL.out.2; omega
   clear heq
   by_cases hlt : k < l.length
   ·obtain ⟨b, o, rfl, g1⟩ := HR.out k hlt
    have q0 := hx.cell (g1 k hlt 0 _ rfl)
    have q1 := hx.cell (g1 k hlt 1 _ rfl)
    simp only [Nat.add_zero] at q0
    have hgd : l.getD k noFil = l[k] := by rw [List.getD_eq_getElem?_getD, List.getElem?_eq_getElem hlt]; rfl
    have hsz := (HMEM.out l[k] (List.getElem_mem hlt)).2
    obtain ⟨X, hX⟩ : ∃ X, X = l[k] := ⟨_, rfl⟩
    rw [← hX] at q0 q1 hgd hsz
    have HGD := Lib.hid hgd
    have HSZ := Lib.hid hsz
    have hsub : l.length - k = (l.length - (k + 1)) + 1 := by omega
    have HSUB := Lib.hid (show filesGo l ((l.length - (k + 1)) + 1) k all = filesGo l l.length 0 0 by rw [← hsub]; exact HEQ.out)
    have hki : (k : Int) < (l.length : Int) := by omega
    have HG1 := Lib.hid g1
    clear g1 hX hgd hsz hsub HEQ
    go_wp2_with fail
    refine calls_abs (fun W => Ext wr W ∧ Blk_ W wr.heap.size 51 #[.string X.name, .string X.data]) ⟨(Ext.refl _).alloc _, Blk_.new _ _ _⟩ ?_
    rintro W1 ⟨hx1, hbx⟩
    refine (name_any X.name W1 HSZ.out.1).mono ?_
    rintro e w2 ⟨rfl, hx2⟩
    have hb2 := hbx.ext hx2
    have e1 := hb2.cell 1
    simp at e1
    have HB2 := Lib.hid hb2
    have HX2 := Lib.hid (hx.trans (hx1.trans hx2))
    have hl2 := hb2.lt
    clear hbx hx1 hx2 hb2 hx q0 q1
    cases hnm : nameMay X.name with
    | false =>
     have HFIN := Lib.hid (show filesS l = 4 by rw [HF.out, ← HSUB.out, fgo_name HGD.out hnm])
     clear hnm
     go_wp2_with fail
     go_ret
     exact ⟨ret_int HFIN.out.symm, HX2.out⟩
    | true =>
     by_cases h200 : 200 < X.data.size
     ·have HFIN := Lib.hid (show filesS l = 1 by rw [HF.out, ← HSUB.out, fgo_size HGD.out hnm h200])
      have t3 : decide ((200 : Int) < (X.data.size : Int)) = true := by simp; omega
      clear hnm h200
      go_wp2_with fail
      go_ret
      exact ⟨ret_int HFIN.out.symm, HX2.out⟩
     ·have t3 : decide ((200 : Int) < (X.data.size : Int)) = false := by simp; omega
      have h200i : (X.data.size : Int) ≤ 200 := by omega
      have HNM := Lib.hid (And.intro hnm h200)
      have hkc : (k : Int) ≤ (c : Int) := by omega
      have hk0 : k ≤ c := by omega
      clear hnm h200
      go_wp2_with fail
      refine (contains_fil (.slice (some ⟨b, o, none⟩) k c) (l.take k) X wr.heap.size w2 ((HH.out.take k hk).ext RFil.stays HX2.out) HB2.out).mono ?_
      rintro e w3 ⟨hx3, rfl⟩
      have b3 := HB2.out.ext hx3
      have e13 := b3.cell 1
      simp at e13
      have HX3 := Lib.hid (HX2.out.trans hx3)
      clear hx3 b3 e1
      cases han : (l.take k).any (sameName X.name) with
      | true =>
       have HFIN := Lib.hid (show filesS l = 7 by rw [HF.out, ← HSUB.out, fgo_twice HGD.out HNM.out.1 HNM.out.2 han])
       clear han
       go_wp2_with fail
       go_ret
       exact ⟨ret_int HFIN.out.symm, HX3.out⟩
      | false =>
       have HNX := Lib.hid (show filesGo l (l.length - (k + 1)) (k + 1) (all + X.data.size) = filesGo l l.length 0 0 by rw [← HSUB.out, fgo_go HGD.out HNM.out.1 HNM.out.2 han])
       clear han
       go_wp2_with fail
       go_roundw
       case rel => exact ⟨k + 1, all + X.data.size, by go_num, by go_num, by omega, by omega, by omega, HX3.out, HNX.out⟩
       case measure => simp [intOf]; omega
   ·obtain rfl : k = l.length := by omega
    have hfin := HEQ.out
    rw [Nat.sub_self] at hfin
    by_cases h600 : 600 < all
    ·have HFIN := Lib.hid (show filesS l = 1 by rw [HF.out, ← hfin]; unfold filesGo; rw [if_pos h600])
     have t4 : decide ((600 : Int) < all) = true := by simpa using h600
     clear h600 hfin
     go_wp2_with fail
     go_ret
     exact ⟨ret_int HFIN.out.symm, hx⟩
    ·have HFIN := Lib.hid (show filesS l = 0 by rw [HF.out, ← hfin]; unfold filesGo; rw [if_neg h600])
     have t4 : decide ((600 : Int) < all) = false := by simpa using h600
     clear h600 hfin
     go_wp2_with fail
     go_ret
     exact ⟨ret_int HFIN.out.symm, hx⟩
 ·have HF := Lib.hid (files_bad hlen)
  have hcs : decide ((l.length : Int) < 1) = true ∨ (decide ((l.length : Int) < 1) = false ∧ decide ((10 : Int) < (l.length : Int)) = true) := by
   simp only [decide_eq_true_eq, decide_eq_false_iff_not]; omega
  clear hlen
  rcases hcs with t1 | ⟨t1, t2⟩
  ·go_enter Tryz.func10, Tryz.ntmps10
   go_wp2_with fail
   go_ret
   exact ⟨ret_int HF.out.symm, Ext.refl _⟩
  ·go_enter Tryz.func10, Tryz.ntmps10
   go_wp2_with fail
   go_ret
   exact ⟨ret_int HF.out.symm, Ext.refl _⟩
theorem filesFault_any (v : Value) (l : List Fil) (w : World) (h : SlR 2 32 RFil w v l) :
  Calls Tryz.prog 22 #[v] w fun e w' => e = .returned (.int .i64 (filesS l)) ∧ Ext w w' := by
 have hmem := h.mem encFil_ok w
 obtain ⟨A, c, rfl, hlb, hc, r1⟩ := h.rowE encFil_ok
 have HMEM := Lib.hid hmem
 have HR := Lib.hid r1
 have HH := Lib.hid h
 clear hmem r1 h hlb
 by_cases hlen : 1 ≤ l.length ∧ l.length ≤ 10
 ·have HF := Lib.hid (files_ok hlen)
  obtain ⟨hl1, hl2⟩ := hlen
  have t0 : inB (l.length : Int) 1 10 = true := by simp [inB]; omega
  have HL := Lib.hid (And.intro hl1 hl2)
  clear hl1 hl2
  go_enter Tryz.func22, Tryz.ntmps22
  go_wp2_with (go_at_call 55; refine (in_any _ _ _ _).mono ?_; rintro e w9 ⟨rfl, rfl⟩; rw [t0])
  go_loopw [3, 4] (fun s i wr => ∃ (k : Nat) (all : Int), i = .int .i64 k ∧ s = .int .i64 all ∧ k ≤ l.length ∧ 0 ≤ all ∧ all ≤ 200 * (k : Int) ∧ Ext w wr ∧ filesGo l (l.length - k) k all = filesGo l l.length 0 0) (fun _ i _ => l.length - (intOf i).toNat)
  case atStart => exact ⟨0, 0, rfl, rfl, Nat.zero_le _, by omega, by omega, Ext.refl _, rfl⟩
  case round =>
   obtain ⟨k, all, rfl, rfl, hk, ha0, ha1, hx, heq⟩ := hrel
   have HEQ := Lib.hid heq
   have hl10 : (l.length : Int) ≤ 10 := by have := HL.out.2; omega
   clear heq
   by_cases hlt : k < l.length
   ·obtain ⟨b, o, rfl, g1⟩ := HR.out k hlt
    have q0 := hx.cell (g1 k hlt 0 _ rfl)
    have q1 := hx.cell (g1 k hlt 1 _ rfl)
    simp only [Nat.add_zero] at q0
    have hgd : l.getD k noFil = l[k] := by rw [List.getD_eq_getElem?_getD, List.getElem?_eq_getElem hlt]; rfl
    have hsz := (HMEM.out l[k] (List.getElem_mem hlt)).2
    obtain ⟨X, hX⟩ : ∃ X, X = l[k] := ⟨_, rfl⟩
    rw [← hX] at q0 q1 hgd hsz
    have HGD := Lib.hid hgd
    have HSZ := Lib.hid hsz
    have hsub : l.length - k = (l.length - (k + 1)) + 1 := by omega
    have HSUB := Lib.hid (show filesGo l ((l.length - (k + 1)) + 1) k all = filesGo l l.length 0 0 by rw [← hsub]; exact HEQ.out)
    have hki : (k : Int) < (l.length : Int) := by omega
    have HG1 := Lib.hid g1
    clear g1 hX hgd hsz hsub HEQ
    go_wp2_with fail
    refine (nameMay_any X.name wr HSZ.out.1).mono ?_
    rintro e w2 ⟨rfl, rfl⟩
    cases hnm : nameMay X.name with
    | false =>
     have HFIN := Lib.hid (show filesS l = 4 by rw [HF.out, ← HSUB.out, fgo_name HGD.out hnm])
     clear hnm
     go_wp2_with fail
     go_ret
     exact ⟨ret_int HFIN.out.symm, hx⟩
    | true =>
     by_cases h200 : 200 < X.data.size
     ·have HFIN := Lib.hid (show filesS l = 1 by rw [HF.out, ← HSUB.out, fgo_size HGD.out hnm h200])
      have t3 : decide ((200 : Int) < (X.data.size : Int)) = true := by simp; omega
      clear hnm h200
      go_wp2_with fail
      go_ret
      exact ⟨ret_int HFIN.out.symm, hx⟩
     ·have t3 : decide ((200 : Int) < (X.data.size : Int)) = false := by simp; omega
      have h200i : (X.data.size : Int) ≤ 200 := by omega
      have HNM := Lib.hid (And.intro hnm h200)
      have HQ := Lib.hid (And.intro q0 q1)
      clear hnm h200
      go_wp2_with fail
      go_loopw [5] (fun j wq => ∃ i : Nat, j = .int .i64 i ∧ i ≤ k ∧ Ext wr wq ∧ (l.take i).any (sameName X.name) = false) (fun j _ => k - (intOf j).toNat)
      case atStart => exact ⟨0, rfl, Nat.zero_le _, Ext.refl _, rfl⟩
      case round =>
       clear q0 q1
       obtain ⟨i, rfl, hik, hxq, hno⟩ := hrel
       have HNO := Lib.hid hno
       have hqq := hx.trans hxq
       have q0 := hxq.cell HQ.out.1
       have q1 := hxq.cell HQ.out.2
       clear hno
       by_cases hilt : i < k
       ·have hil : i < l.length := by omega
        have p0 := hqq.cell (HG1.out i hil 0 _ rfl)
        simp only [Nat.add_zero] at p0
        have hii : (i : Int) < (l.length : Int) := by omega
        have hik2 : (i : Int) < (k : Int) := by omega
        have htk : (l.take (i + 1)).any (sameName X.name) = sameName X.name l[i] := by
         rw [← List.take_append_getElem hil, List.any_append, HNO.out]; simp
        have HTK := Lib.hid htk
        have HMI := Lib.hid (show l[i] ∈ l.take k from by
         rw [List.mem_take_iff_getElem]
         exact ⟨i, by omega, rfl⟩)
        clear htk hqq
        cases hp : (l[i].name.toList == X.name.toList) with
        | true =>
         have han : (l.take k).any (sameName X.name) = true := List.any_eq_true.2 ⟨l[i], HMI.out, hp⟩
         have HFIN := Lib.hid (show filesS l = 7 by rw [HF.out, ← HSUB.out, fgo_twice HGD.out HNM.out.1 HNM.out.2 han])
         clear han
         generalize l[i].name = Y at *
         go_wp2_with fail
         go_quiet (fail)
         go_wp2_with fail
         go_ret
         exact ⟨ret_int HFIN.out.symm, (hx.trans hxq).drewN _⟩
        | false =>
         have HP := Lib.hid (show sameName X.name l[i] = false from hp)
         generalize l[i].name = Y at *
         go_wp2_with fail
         go_quiet (fail)
         go_wp2_with fail
         go_roundw
         case rel => exact ⟨i + 1, by go_num, by omega, hxq.drewN _, by rw [HTK.out, HP.out]⟩
         case measure => simp [intOf]; omega
       ·obtain rfl : i = k := by omega
        have HNX := Lib.hid (show filesGo l (l.length - (i + 1)) (i + 1) (all + X.data.size) = filesGo l l.length 0 0 by rw [← HSUB.out, fgo_go HGD.out HNM.out.1 HNM.out.2 HNO.out])
        go_wp2_with fail
        go_roundw
        case rel => exact ⟨i + 1, all + X.data.size, by go_num, by go_num, by omega, by omega, by omega, hx.trans hxq, HNX.out⟩
        case measure => simp [intOf]; omega
   ·obtain rfl : k = l.length := by omega
    have hfin := HEQ.out
    rw [Nat.sub_self] at hfin
    by_cases h600 : 600 < all
    ·have HFIN := Lib.hid (show filesS l = 1 by rw [HF.out, ← hfin]; unfold filesGo; rw [if_pos h600])
     have t4 : decide ((600 : Int) < all) = true := by simpa using h600
     clear h600 hfin
     go_wp2_with fail
     go_ret
     exact ⟨ret_int HFIN.out.symm, hx⟩
    ·have HFIN := Lib.hid (show filesS l = 0 by rw [HF.out, ← hfin]; unfold filesGo; rw [if_neg h600])
     have t4 : decide ((600 : Int) < all) = false := by simpa using h600
     clear h600 hfin
     go_wp2_with fail
     go_ret
     exact ⟨ret_int HFIN.out.symm, hx⟩
 ·have HF := Lib.hid (files_bad hlen)
  have t0 : inB (l.length : Int) 1 10 = false := by
   cases h : inB (l.length : Int) 1 10 with
   | false => rfl
   | true => have := inB_true h; exact absurd (show 1 ≤ l.length ∧ l.length ≤ 10 by omega) hlen
  clear hlen
  go_enter Tryz.func22, Tryz.ntmps22
  go_wp2_with (go_at_call 55; refine (in_any _ _ _ _).mono ?_; rintro e w9 ⟨rfl, rfl⟩; rw [t0])
  go_ret
  exact ⟨ret_int HF.out.symm, Ext.refl _⟩
theorem alike_go {s : ByteArray} {k i n : Nat} (h1 : n < 131) (h2 : i + n < s.size) (h3 : at_ s (k + n) = at_ s (i + n)) : alikeF s k i n = alikeF s k i (n + 1) := by
 rw [alikeF, if_pos ⟨h1, h2, h3⟩]
theorem alike_stop {s : ByteArray} {k i n : Nat} (h : ¬ (n < 131 ∧ i + n < s.size ∧ at_ s (k + n) = at_ s (i + n))) : alikeF s k i n = n := by
 rw [alikeF, if_neg h]
theorem alike_any (s : ByteArray) (k i : Nat) (w : World) (hk : k < i) (hi : i < s.size) (hs : s.size ≤ 600) :
  Calls Tryz.prog 57 #[.string s, .int .i64 k, .int .i64 i] w fun e w' => e = .returned (.int .i64 (alikeF s k i 0)) ∧ Ext w w' := by
 go_enter Tryz.func57, Tryz.ntmps57
 go_wp2_with fail
 go_loopw [7] (fun n wr => ∃ j : Nat, n = .int .i64 j ∧ j ≤ 131 ∧ Ext w wr ∧ alikeF s k i j = alikeF s k i 0) (fun n _ => 131 - (intOf n).toNat)
 case atStart => exact ⟨0, rfl, by omega, Ext.refl _, rfl⟩
 case round =>
  obtain ⟨j, rfl, hj, hx, heq⟩ := hrel
  have HEQ := Lib.hid heq
  have hs' : (s.size : Int) ≤ 600 := by omega
  clear heq
  by_cases h1 : j < 131
  ·have t1 : decide ((j : Int) < 131) = true := by simp; omega
   by_cases h2 : i + j < s.size
   ·have t2 : decide ((i : Int) + (j : Int) < (s.size : Int)) = true := by simp; omega
    have hi2 : i + j < s.size := h2
    have hk2 : k + j < s.size := by omega
    have hi2' : (i : Int) + (j : Int) < (s.size : Int) := by omega
    have hk2' : (k : Int) + (j : Int) < (s.size : Int) := by omega
    have hkt : ((k : Int) + (j : Int)).toNat = k + j := by omega
    have hit : ((i : Int) + (j : Int)).toNat = i + j := by omega
    have hz1 : (0 : Int) ≤ (k : Int) + (j : Int) := by omega
    have hz2 : (0 : Int) ≤ (i : Int) + (j : Int) := by omega
    by_cases h3 : at_ s (k + j) = at_ s (i + j)
    ·have HGO := Lib.hid (alike_go h1 h2 h3)
     have hb : ((s[k + j].toNat : Int) == (s[i + j].toNat : Int)) = true := by
      rw [at_eq s _ hk2, at_eq s _ hi2] at h3
      rw [h3]; simp
     clear h3 h2
     go_wp2_with fail
     go_quiet (fail)
     go_wp2_with fail
     go_roundw
     case rel => exact ⟨j + 1, by go_num, by omega, hx.drewN _, by rw [← HGO.out, HEQ.out]⟩
     case measure => simp [intOf]; omega
    ·have HST := Lib.hid (show alikeF s k i j = j from alike_stop (fun h => h3 h.2.2))
     have hb : ((s[k + j].toNat : Int) == (s[i + j].toNat : Int)) = false := by
      rw [at_eq s _ hk2, at_eq s _ hi2] at h3
      have : ¬ (s[k + j].toNat : Int) = (s[i + j].toNat : Int) := fun e => h3 (UInt8.toNat_inj.1 (by omega))
      simpa using this
     clear h3 h2
     go_wp2_with fail
     go_quiet (fail)
     go_wp2_with fail
     go_ret
     exact ⟨ret_int (by rw [← HEQ.out, HST.out]), hx.drewN _⟩
   ·have HST := Lib.hid (show alikeF s k i j = j from alike_stop (fun h => h2 h.2.1))
    have t2 : decide ((i : Int) + (j : Int) < (s.size : Int)) = false := by simp; omega
    clear h2
    go_wp2_with fail
    go_quiet (fail)
    go_wp2_with fail
    go_ret
    exact ⟨ret_int (by rw [← HEQ.out, HST.out]), hx.drewN _⟩
  ·have HST := Lib.hid (show alikeF s k i j = j from alike_stop (fun h => h1 h.1))
   have t1 : decide ((j : Int) < 131) = false := by simp; omega
   clear h1
   go_wp2_with fail
   go_quiet (fail)
   go_wp2_with fail
   go_ret
   exact ⟨ret_int (by rw [← HEQ.out, HST.out]), hx.drewN _⟩
theorem piece_more {s : ByteArray} {i d best back : Nat} (h : d ≤ 255 ∧ d ≤ i) (h2 : best < alikeF s (i - d) i 0) : pieceF s i d best back = pieceF s i (d + 1) (alikeF s (i - d) i 0) d := by
 rw [pieceF, if_pos h, if_pos h2]
theorem piece_less {s : ByteArray} {i d best back : Nat} (h : d ≤ 255 ∧ d ≤ i) (h2 : ¬ best < alikeF s (i - d) i 0) : pieceF s i d best back = pieceF s i (d + 1) best back := by
 rw [pieceF, if_pos h, if_neg h2]
theorem piece_end {s : ByteArray} {i d best back : Nat} (h : ¬ (d ≤ 255 ∧ d ≤ i)) : pieceF s i d best back = (best, back) := by
 rw [pieceF, if_neg h]
theorem piece_any (s : ByteArray) (i : Nat) (w : World) (hi : i < s.size) (hs : s.size ≤ 600) :
  Calls Tryz.prog 43 #[.string s, .int .i64 i] w fun e w' => e = .returned (.tuple #[.int .i64 (pieceF s i 1 0 0).1, .int .i64 (pieceF s i 1 0 0).2]) ∧ Ext w w' := by
 have hs' : (s.size : Int) ≤ 600 := by omega
 have hii : (i : Int) < 600 := by omega
 go_enter Tryz.func43, Tryz.ntmps43
 go_wp2_with fail
 go_loopw [6, 7, 8] (fun b f k wr => ∃ (d best back : Nat), k = .int .i64 ((i : Int) - (d : Int)) ∧ b = .int .i64 best ∧ f = .int .i64 back ∧ 1 ≤ d ∧ d ≤ 256 ∧ d ≤ i + 1 ∧ best ≤ 131 ∧ back ≤ 256 ∧ Ext w wr ∧ pieceF s i d best back = pieceF s i 1 0 0) (fun _ _ k _ => ((intOf k) + 1).toNat)
 case atStart => exact ⟨1, 0, 0, by go_num, rfl, rfl, by omega, by omega, by omega, by omega, by omega, Ext.refl _, rfl⟩
 case round =>
  obtain ⟨d, best, back, rfl, rfl, rfl, hd1, hd2, hd3, hb1, hb2, hx, heq⟩ := hrel
  have HEQ := Lib.hid heq
  clear heq
  by_cases hc : d ≤ 255 ∧ d ≤ i
  ·have t1 : decide ((0 : Int) ≤ (i : Int) - (d : Int)) = true := by simp; omega
   have hsb : IntKind.i64.wrap ((i : Int) - ((i : Int) - (d : Int))) = (d : Int) := by rw [IntKind.wrap_i64]; omega
   have hsb2 : (i : Int) - ((i : Int) - (d : Int)) = (d : Int) := by omega
   have t2 : decide ((d : Int) ≤ 255) = true := by simp; omega
   obtain ⟨k, hk⟩ : ∃ k : Nat, k = i - d := ⟨_, rfl⟩
   have hki : (i : Int) - (d : Int) = (k : Int) := by omega
   have hklt : k < i := by omega
   have HK := Lib.hid (And.intro hk (And.intro hki hc))
   have hdk : (i : Int) - (k : Int) = (d : Int) := by omega
   have hdkw : IntKind.i64.wrap ((i : Int) - (k : Int)) = (d : Int) := by rw [IntKind.wrap_i64]; omega
   rw [hki] at *
   have t1' : decide ((0 : Int) ≤ (k : Int)) = true := by simp
   have t2' : decide ((i : Int) - (k : Int) ≤ 255) = true := by rw [hdk]; simpa using t2
   have hd255 : d ≤ 255 := hc.1
   have hdi : d ≤ i := hc.2
   clear hsb hsb2 hki hk hc t1
   go_wp2_with fail
   go_loopw [9] (fun n wq => ∃ j : Nat, n = .int .i64 j ∧ j ≤ 131 ∧ Ext wr wq ∧ alikeF s k i j = alikeF s k i 0) (fun n _ => 131 - (intOf n).toNat)
   case atStart => exact ⟨0, rfl, by omega, Ext.refl _, rfl⟩
   case round =>
    obtain ⟨j, rfl, hj, hxq, heqj⟩ := hrel
    have HEJ := Lib.hid heqj
    clear heqj
    by_cases h2 : i + j < s.size
    ·have t3 : decide ((i : Int) + (j : Int) < (s.size : Int)) = true := by simp; omega
     by_cases h1 : j < 131
     ·have t4 : decide ((j : Int) < 131) = true := by simp; omega
      have hi2 : i + j < s.size := h2
      have hk2 : k + j < s.size := by omega
      have hi2' : (i : Int) + (j : Int) < (s.size : Int) := by omega
      have hk2' : (k : Int) + (j : Int) < (s.size : Int) := by omega
      have hkt : ((k : Int) + (j : Int)).toNat = k + j := by omega
      have hit : ((i : Int) + (j : Int)).toNat = i + j := by omega
      have hz1 : (0 : Int) ≤ (k : Int) + (j : Int) := by omega
      have hz2 : (0 : Int) ≤ (i : Int) + (j : Int) := by omega
      by_cases h3 : at_ s (k + j) = at_ s (i + j)
      ·have HGO := Lib.hid (alike_go h1 h2 h3)
       have hb : ((s[k + j].toNat : Int) == (s[i + j].toNat : Int)) = true := by
        rw [at_eq s _ hk2, at_eq s _ hi2] at h3
        rw [h3]; simp
       clear h3 h2
       go_wp2_with fail
       go_quiet (fail)
       go_wp2_with fail
       go_roundw
       case rel => exact ⟨j + 1, by go_num, by omega, hxq.drewN _, by rw [← HGO.out, HEJ.out]⟩
       case measure => simp [intOf]; omega
      ·have HST := Lib.hid (show alikeF s k i j = j from alike_stop (fun h => h3 h.2.2))
       have hb : ((s[k + j].toNat : Int) == (s[i + j].toNat : Int)) = false := by
        rw [at_eq s _ hk2, at_eq s _ hi2] at h3
        have : ¬ (s[k + j].toNat : Int) = (s[i + j].toNat : Int) := fun e => h3 (UInt8.toNat_inj.1 (by omega))
        simpa using this
       clear h3 h2
       have HAL := Lib.hid (show alikeF s k i 0 = j by rw [← HEJ.out, HST.out])
       by_cases hbt : best < j
       ·have HNX := Lib.hid (show pieceF s i (d + 1) j d = pieceF s i 1 0 0 by rw [← HEQ.out, piece_more HK.out.2.2 (by rw [← HK.out.1, HAL.out]; exact hbt), ← HK.out.1, HAL.out])
        go_wp2_with fail
        go_quiet (fail)
        go_wp2_with fail
        go_roundw
        case rel => exact ⟨d + 1, j, d, by have := HK.out.2.1; go_num, rfl, by first | rfl | go_num, by omega, by omega, by omega, by omega, by omega, (hx.trans hxq).drewN _, HNX.out⟩
        case measure => (simp [intOf]; try omega)
       ·have HNX := Lib.hid (show pieceF s i (d + 1) best back = pieceF s i 1 0 0 by rw [← HEQ.out, piece_less HK.out.2.2 (by rw [← HK.out.1, HAL.out]; exact hbt)])
        go_wp2_with fail
        go_quiet (fail)
        go_wp2_with fail
        go_roundw
        case rel => exact ⟨d + 1, best, back, by have := HK.out.2.1; go_num, rfl, rfl, by omega, by omega, by omega, by omega, by omega, (hx.trans hxq).drewN _, HNX.out⟩
        case measure => (simp [intOf]; try omega)
     ·have HST := Lib.hid (show alikeF s k i j = j from alike_stop (fun h => h1 h.1))
      have t4 : decide ((j : Int) < 131) = false := by simp; omega
      clear h1 h2
      have HAL := Lib.hid (show alikeF s k i 0 = j by rw [← HEJ.out, HST.out])
      by_cases hbt : best < j
      ·have HNX := Lib.hid (show pieceF s i (d + 1) j d = pieceF s i 1 0 0 by rw [← HEQ.out, piece_more HK.out.2.2 (by rw [← HK.out.1, HAL.out]; exact hbt), ← HK.out.1, HAL.out])
       go_wp2_with fail
       go_quiet (fail)
       go_wp2_with fail
       go_roundw
       case rel => exact ⟨d + 1, j, d, by have := HK.out.2.1; go_num, rfl, by first | rfl | go_num, by omega, by omega, by omega, by omega, by omega, (hx.trans hxq).drewN _, HNX.out⟩
       case measure => (simp [intOf]; try omega)
      ·have HNX := Lib.hid (show pieceF s i (d + 1) best back = pieceF s i 1 0 0 by rw [← HEQ.out, piece_less HK.out.2.2 (by rw [← HK.out.1, HAL.out]; exact hbt)])
       go_wp2_with fail
       go_quiet (fail)
       go_wp2_with fail
       go_roundw
       case rel => exact ⟨d + 1, best, back, by have := HK.out.2.1; go_num, rfl, rfl, by omega, by omega, by omega, by omega, by omega, (hx.trans hxq).drewN _, HNX.out⟩
       case measure => (simp [intOf]; try omega)
    ·have HST := Lib.hid (show alikeF s k i j = j from alike_stop (fun h => h2 h.2.1))
     have t3 : decide ((i : Int) + (j : Int) < (s.size : Int)) = false := by simp; omega
     clear h2
     have HAL := Lib.hid (show alikeF s k i 0 = j by rw [← HEJ.out, HST.out])
     by_cases hbt : best < j
     ·have HNX := Lib.hid (show pieceF s i (d + 1) j d = pieceF s i 1 0 0 by rw [← HEQ.out, piece_more HK.out.2.2 (by rw [← HK.out.1, HAL.out]; exact hbt), ← HK.out.1, HAL.out])
      go_wp2_with fail
      go_quiet (fail)
      go_wp2_with fail
      go_roundw
      case rel => exact ⟨d + 1, j, d, by have := HK.out.2.1; go_num, rfl, by first | rfl | go_num, by omega, by omega, by omega, by omega, by omega, (hx.trans hxq).drewN _, HNX.out⟩
      case measure => (simp [intOf]; try omega)
     ·have HNX := Lib.hid (show pieceF s i (d + 1) best back = pieceF s i 1 0 0 by rw [← HEQ.out, piece_less HK.out.2.2 (by rw [← HK.out.1, HAL.out]; exact hbt)])
      go_wp2_with fail
      go_quiet (fail)
      go_wp2_with fail
      go_roundw
      case rel => exact ⟨d + 1, best, back, by have := HK.out.2.1; go_num, rfl, rfl, by omega, by omega, by omega, by omega, by omega, (hx.trans hxq).drewN _, HNX.out⟩
      case measure => (simp [intOf]; try omega)
  ·have HPE := Lib.hid (show (best, back) = pieceF s i 1 0 0 by rw [← HEQ.out, piece_end hc])
   have hcs : ¬ d ≤ i ∨ (d ≤ i ∧ ¬ d ≤ 255) := by omega
   have hsb : IntKind.i64.wrap ((i : Int) - ((i : Int) - (d : Int))) = (d : Int) := by rw [IntKind.wrap_i64]; omega
   clear hc HEQ
   rcases hcs with hA | ⟨hA, hB⟩
   ·have t1 : decide ((0 : Int) ≤ (i : Int) - (d : Int)) = false := by simp; omega
    go_wp2_with fail
    go_ret2
    rw [← HPE.out]
    exact ⟨rfl, hx⟩
   ·have t1 : decide ((0 : Int) ≤ (i : Int) - (d : Int)) = true := by simp; omega
    have hB' : ¬ (d : Int) ≤ 255 := by omega
    go_wp2_with fail
    go_ret2
    rw [← HPE.out]
    exact ⟨rfl, hx⟩
def waits (x : Oper) : List Nat := (x.after.toList.filter (Region.binds .any)).map (·.on)
def waitsAt (L : List Oper) (i : Nat) : List Nat := ((L[i]?).map waits).getD []
def upd (vals : Nat → Value) (i : Nat) (v : Value) : Nat → Value := fun j => if j = i then v else vals j
theorem upd_same (vals : Nat → Value) (i : Nat) (v : Value) : upd vals i v i = v := if_pos rfl
theorem upd_other (vals : Nat → Value) {i j : Nat} (v : Value) (h : j ≠ i) : upd vals i v j = vals j := if_neg h
def putAll (a : Act) (vals : Nat → Value) : Nat → List Oper → Act
 | _, [] => a
 | n, x :: l => putAll (a.put x.dst (vals n)) vals (n + 1) l
def apart : List (Option Tmp) → Bool
 | [] => true
 | d :: l => (d.isNone || !l.contains d) && apart l
theorem put_comm (a : Act) {d e : Option Tmp} (u v : Value) (h : d = none ∨ d ≠ e) : (a.put d u).put e v = (a.put e v).put d u := by
 cases d with
 | none => rfl
 | some d =>
  cases e with
  | none => rfl
  | some e =>
   have hde : d ≠ e := by
    rcases h with h | h
    ·cases h
    ·intro hh; exact h (by rw [hh])
   unfold Act.put
   simp only [Act.mk.injEq, and_true]
   exact Array.setIfInBounds_comm _ _ hde
theorem put_put (a : Act) (d : Option Tmp) (u v : Value) : (a.put d u).put d v = a.put d v := by
 cases d with
 | none => rfl
 | some d => unfold Act.put; simp
theorem put_own (a : Act) (d : Tmp) : a.put (some d) (a.tmps.getD d undef) = a := by
 unfold Act.put
 obtain ⟨t, ds⟩ := a
 simp only [Act.mk.injEq, and_true]
 apply Array.ext_getElem?
 intro k
 rw [Array.getElem?_setIfInBounds]
 by_cases h : d = k
 ·subst h
  rw [if_pos rfl]
  by_cases h2 : d < t.size
  ·simp [h2]
  ·simp [h2]
 ·rw [if_neg h]
theorem putAll_put (a : Act) (vals : Nat → Value) (d : Option Tmp) (v : Value) : ∀ (l : List Oper) (n : Nat), (d = none ∨ ¬ d ∈ l.map (·.dst)) → putAll (a.put d v) vals n l = (putAll a vals n l).put d v := by
 intro l
 induction l generalizing a with
 | nil => intro n _; rfl
 | cons x l ih =>
  intro n h
  unfold putAll
  have h1 : d = none ∨ d ≠ x.dst := by
   rcases h with h | h
   ·exact .inl h
   ·right; intro hh; exact h (by simp [hh])
  have h2 : d = none ∨ ¬ d ∈ l.map (·.dst) := by
   rcases h with h | h
   ·exact .inl h
   ·right; intro hh; exact h (by rw [List.map_cons]; exact List.mem_cons_of_mem _ hh)
  rw [put_comm a v (vals n) h1, ih _ _ h2]
theorem putAll_upd_lt (a : Act) (vals : Nat → Value) (i : Nat) (v : Value) : ∀ (l : List Oper) (n : Nat), i < n → putAll a (upd vals i v) n l = putAll a vals n l := by
 intro l
 induction l generalizing a with
 | nil => intro n _; rfl
 | cons x l ih =>
  intro n h
  unfold putAll
  rw [upd_other _ _ (by omega), ih _ _ (by omega)]
theorem putAll_upd (a : Act) (vals : Nat → Value) (v : Value) : ∀ (l : List Oper) (n i : Nat) (x : Oper), apart (l.map (·.dst)) = true → l[i]? = some x → putAll a (upd vals (n + i) v) n l = (putAll a vals n l).put x.dst v := by
 intro l
 induction l generalizing a with
 | nil => intro n i x _ h; simp at h
 | cons y l ih =>
  intro n i x hap h
  rw [List.map_cons] at hap
  unfold apart at hap
  rw [Bool.and_eq_true] at hap
  unfold putAll
  cases i with
  | zero =>
   simp only [List.getElem?_cons_zero, Option.some.injEq] at h
   subst h
   rw [Nat.add_zero, upd_same, putAll_upd_lt _ _ _ _ _ _ (by omega), ← put_put a y.dst (vals n) v]
   refine putAll_put _ _ _ _ _ _ ?_
   have h1 := hap.1
   rw [Bool.or_eq_true] at h1
   rcases h1 with h1 | h1
   ·left; simpa using h1
   ·right; simpa using h1
  | succ i =>
   rw [List.getElem?_cons_succ] at h
   rw [upd_other _ _ (by omega), show n + (i + 1) = n + 1 + i by omega]
   exact ih _ _ _ _ hap.2 h
def oldAt (a : Act) (L : List Oper) (i : Nat) : Value := match L[i]? with
 | some x => match x.dst with
  | some d => a.tmps.getD d undef
  | none => undef
 | none => undef
theorem putAll_old (a : Act) (vals : Nat → Value) : ∀ (l : List Oper) (n : Nat), (∀ i x d, l[i]? = some x → x.dst = some d → vals (n + i) = a.tmps.getD d undef) → putAll a vals n l = a := by
 intro l
 induction l with
 | nil => intro n _; rfl
 | cons x l ih =>
  intro n h
  unfold putAll
  have h0 : a.put x.dst (vals n) = a := by
   cases hd : x.dst with
   | none => rfl
   | some d =>
    have := h 0 x d rfl hd
    rw [Nat.add_zero] at this
    rw [this, put_own]
  rw [h0]
  refine ih (n + 1) (fun i x d h1 h2 => ?_)
  have := h (i + 1) x d (by rw [List.getElem?_cons_succ]; exact h1) h2
  rw [← this]
  congr 1
  omega
def At (V : List (Value → World → Prop)) (i : Nat) (v : Value) (w : World) : Prop := match V[i]? with
 | some p => p v w
 | none => False
def valsOk (L : List Oper) : Bool := apart (L.map (·.dst)) && L.all (fun x => x.guard.isNone) && (List.range L.length).all (fun i => (waitsAt L i).all (fun j => decide (j < i)))
section
variable {P : Program} {Q : Exit → Act → World → Prop}
def St (P : Program) (Q : Exit → Act → World → Prop) (L : List Oper) (a0 : Act) (F : (Nat → Value) → Act) (V : List (Value → World → Prop)) (w0 : World) (i : Nat) (x : Oper) : Prop :=
 ∀ vals w, Ext w0 w → (∀ j, (waits x).contains j = true → At V j (vals j) w) → (∀ j, (waitsAt L j).contains i = true → vals j = oldAt a0 L j) →
  ∀ K : Act → World → Prop, (∀ a' v w', a' = (F vals).put x.dst v → At V i v w' → Ext w w' → K a' w') → x.wp P (F vals) w K Q
def Steps (f : Nat → Oper → Prop) : Nat → List Oper → Prop
 | _, [] => True
 | n, x :: l => f n x ∧ Steps f (n + 1) l
theorem Steps.at {f : Nat → Oper → Prop} : ∀ {l : List Oper} {n i : Nat} {x : Oper}, Steps f n l → l[i]? = some x → f (n + i) x := by
 intro l
 induction l with
 | nil => intro n i x _ h; simp at h
 | cons y l ih =>
  intro n i x hs h
  cases i with
  | zero => simp only [List.getElem?_cons_zero, Option.some.injEq] at h; subst h; exact hs.1
  | succ i =>
   rw [List.getElem?_cons_succ] at h
   have := ih hs.2 h
   rwa [show n + (i + 1) = n + 1 + i by omega]
theorem mem_waits {x : Oper} {j : Nat} : (waits x).contains j = true ↔ ∃ e ∈ x.after, Region.binds .any e = true ∧ e.on = j := by
 unfold waits
 rw [List.contains_iff_mem, List.mem_map]
 constructor
 ·rintro ⟨e, h1, h2⟩
  rw [List.mem_filter] at h1
  exact ⟨e, by simpa using h1.1, h1.2, h2⟩
 ·rintro ⟨e, h1, h2, h3⟩
  exact ⟨e, by rw [List.mem_filter]; exact ⟨by simpa using h1, h2⟩, h3⟩
theorem getD_set_same {b : Array Bool} {i : Nat} (h : i < b.size) (d : Bool) : (b.setIfInBounds i true).getD i d = true := by
 simp [Array.getD_eq_getD_getElem?, h]
theorem getD_set_other {b : Array Bool} {i k : Nat} (h : i ≠ k) (d : Bool) : (b.setIfInBounds i true).getD k d = b.getD k d := by
 simp [Array.getD_eq_getD_getElem?, Array.getElem?_setIfInBounds, h]
def left_ (b : Array Bool) : Nat := b.toList.count false
theorem left_set {b : Array Bool} {i : Nat} (h : i < b.size) (hb : b.getD i true = false) : left_ (b.setIfInBounds i true) + 1 = left_ b := by
 unfold left_
 obtain ⟨l⟩ := b
 simp only [List.setIfInBounds_toArray] at *
 have hb' : l[i]? = some false := by
  simp only [List.size_toArray] at h
  rw [Array.getD_eq_getD_getElem?] at hb
  simp [h] at hb
  simp [h, hb]
 clear hb
 induction l generalizing i with
 | nil => simp at hb'
 | cons x l ih =>
  cases i with
  | zero =>
   simp only [List.getElem?_cons_zero, Option.some.injEq] at hb'
   subst hb'
   simp
  | succ i =>
   rw [List.getElem?_cons_succ] at hb'
   simp only [List.set_cons_succ, List.count_cons]
   have := ih (i := i) (by simp only [List.size_toArray, List.length_cons] at h ⊢; omega) hb'
   omega
theorem wpAny_vals_go {L : List Oper} {a0 : Act} {w0 : World} {F : (Nat → Value) → Act} (hF : ∀ vals, putAll a0 vals 0 L = F vals) (V : List (Value → World → Prop)) (hok : valsOk L = true)
  (hV : ∀ p ∈ V, ∀ v w w', p v w → Ext w w' → p v w') (hs : Steps (St P Q L a0 F V w0) 0 L)
  (done : ∀ vals w, Ext w0 w → (∀ i, i < L.length → At V i (vals i) w) → Q .normal (F vals) w) :
  ∀ (fuel : Nat) (listed : Array Bool) (vals : Nat → Value) (w : World), listed.size = L.length → left_ listed ≤ fuel → Ext w0 w →
   (∀ i, i < L.length → listed.getD i true = true → At V i (vals i) w ∧ ∀ j, (waitsAt L i).contains j = true → listed.getD j false = true) →
   (∀ i, listed.getD i true = false → vals i = oldAt a0 L i) →
   wpAny P .any L.toArray Q fuel listed (F vals) w := by
 unfold valsOk at hok
 rw [Bool.and_eq_true, Bool.and_eq_true] at hok
 obtain ⟨⟨hap, hgu⟩, hord⟩ := hok
 have hAt : ∀ i v w w', At V i v w → Ext w w' → At V i v w' := by
  intro i v w w' h e
  unfold At at *
  cases hp : V[i]? with
  | none => rw [hp] at h; exact h
  | some p => rw [hp] at h; exact hV p (List.mem_of_getElem? hp) _ _ _ h e
 have hall : ∀ (listed : Array Bool), listed.size = L.length → Region.ready .any L.toArray listed = [] → ∀ i, i < L.length → listed.getD i true = true := by
  intro listed hsz hr i
  induction i using Nat.strongRecOn with
  | ind i ih =>
   intro hi
   cases hb : listed.getD i true with
   | true => rfl
   | false =>
    have : i ∈ Region.ready .any L.toArray listed := by
     rw [ready_mem]
     refine ⟨by simpa using hi, hb, L[i], by simp [hi], fun e he hbd => ?_⟩
     have hlt : e.on < i := by
      have h1 := List.all_eq_true.1 hord i (List.mem_range.2 hi)
      have h2 := List.all_eq_true.1 h1 e.on (by
       unfold waitsAt
       rw [List.getElem?_eq_getElem hi]
       exact List.contains_iff_mem.1 (mem_waits.2 ⟨e, he, hbd, rfl⟩))
      simpa using h2
     have := ih e.on hlt (by omega)
     have hin : e.on < listed.size := by omega
     simpa [Array.getD_eq_getD_getElem?, hin] using this
    rw [hr] at this
    cases this
 intro fuel
 induction fuel with
 | zero =>
  intro listed vals w hsz hl e hv ho
  have hno : Region.ready .any L.toArray listed = [] := by
   apply List.eq_nil_iff_forall_not_mem.2
   intro i hi
   obtain ⟨h1, h2, _⟩ := ready_mem.1 hi
   have := left_set (b := listed) (i := i) (by simpa [hsz] using h1) h2
   omega
  exact ⟨hno, done vals w e fun i hi => (hv i hi (hall listed hsz hno i hi)).1⟩
 | succ fuel ih =>
  intro listed vals w hsz hl e hv ho
  refine ⟨fun hno => done vals w e fun i hi => (hv i hi (hall listed hsz hno i hi)).1, fun i hi => ?_⟩
  obtain ⟨h1, h2, x, hx, h3⟩ := ready_mem.1 hi
  have hil : i < L.length := by simpa using h1
  have hxL : L[i]? = some x := by simpa using hx
  have hg : x.guard = none := by
   have := List.all_eq_true.1 hgu x (List.mem_of_getElem? hxL)
   simpa using this
  unfold wpOp
  rw [hx]
  simp only
  rw [if_pos (by simp [Region.wanted, hg])]
  left
  have hst := hs.at hxL
  rw [Nat.zero_add] at hst
  have hwait : ∀ j, (waits x).contains j = true → listed.getD j false = true := by
   intro j hj
   obtain ⟨ed, he1, he2, rfl⟩ := mem_waits.1 hj
   exact h3 ed he1 he2
  refine hst vals w e (fun j hj => ?_) (fun j hj => ?_) _ ?_
  ·have hlj := hwait j hj
   have hjs : j < L.length := by
    by_cases h : j < listed.size
    ·omega
    ·simp [Array.getD_eq_getD_getElem?, h] at hlj
   refine (hv j hjs ?_).1
   have hin : j < listed.size := by omega
   simpa [Array.getD_eq_getD_getElem?, hin] using hlj
  ·refine ho j ?_
   cases hb : listed.getD j true with
   | false => rfl
   | true =>
    by_cases hjl : j < L.length
    ·have := (hv j hjl hb).2 i hj
     have hin : i < listed.size := by omega
     simp [Array.getD_eq_getD_getElem?, hin] at this h2
     rw [this] at h2
     cases h2
    ·unfold waitsAt at hj
     rw [List.getElem?_eq_none (by omega)] at hj
     simp at hj
  ·intro a' v w' ha' hv' e'
   subst ha'
   have hput : (F vals).put x.dst v = F (upd vals i v) := by
    rw [← hF, ← hF, ← putAll_upd a0 vals v L 0 i x hap hxL, Nat.zero_add]
   rw [hput]
   refine ih _ _ _ (by simpa using hsz) (by have := left_set (b := listed) (i := i) (by omega) h2; omega) (e.trans e') (fun k hk hkl => ?_) (fun k hk => ?_)
   ·by_cases hki : k = i
    ·subst hki
     rw [upd_same]
     refine ⟨hv', fun j hj => ?_⟩
     have hj' : (waits x).contains j = true := by
      unfold waitsAt at hj
      rw [hxL] at hj
      exact hj
     have hlj := hwait j hj'
     by_cases hjk : k = j
     ·subst hjk; exact getD_set_same (by omega) _
     ·rw [getD_set_other hjk]; exact hlj
    ·rw [upd_other _ _ hki]
     rw [getD_set_other (Ne.symm hki)] at hkl
     obtain ⟨g1, g2⟩ := hv k hk hkl
     refine ⟨hAt _ _ _ _ g1 e', fun j hj => ?_⟩
     have hlj := g2 j hj
     by_cases hji : i = j
     ·subst hji; exact getD_set_same (by omega) _
     ·rw [getD_set_other hji]; exact hlj
   ·by_cases hki : k = i
    ·subst hki
     rw [getD_set_same (by omega)] at hk
     cases hk
    ·rw [upd_other _ _ hki]
     rw [getD_set_other (Ne.symm hki)] at hk
     exact ho k hk
theorem wp_region_vals {id : Nat} {L : List Oper} {a0 : Act} {w : World} {F : (Nat → Value) → Act} (hF : ∀ vals, putAll a0 vals 0 L = F vals) (V : List (Value → World → Prop)) (hm : P.follows .mixedOrders = true) (hok : valsOk L = true)
  (hV : ∀ p ∈ V, ∀ v w w', p v w → Ext w w' → p v w') (hs : Steps (St P Q L a0 F V w.drew) 0 L)
  (done : ∀ vals w', Ext w.drew w' → (∀ i, i < L.length → At V i (vals i) w') → Q .normal (F vals) w') : (Code.region id L.toArray true).wp P Q a0 w := by
 refine wp_region_any hm ?_
 have h0 : F (oldAt a0 L) = a0 := by
  rw [← hF]
  refine putAll_old _ _ _ _ (fun i x d h1 h2 => ?_)
  rw [Nat.zero_add]
  unfold oldAt
  rw [h1]
  simp only
  rw [h2]
 have := wpAny_vals_go hF V hok hV hs done L.toArray.size (Array.replicate L.toArray.size false) (oldAt a0 L) w.drew (by simp) (by simp [left_]) (Ext.refl _)
  (fun i hi h => by
   exfalso
   simp [Array.getD_eq_getD_getElem?, Array.getElem?_replicate, hi] at h)
  (fun i _ => rfl)
 rw [h0] at this
 exact this
theorem st_quiet {x : Oper} {a : Act} {w : World} {K : Act → World → Prop} (v : Value) (hy : (execOp a.eval x).run P w = .ok (.value v) w) (h : K (a.put x.dst v) w) : x.wp P a w K Q := by
 unfold Oper.wp
 rw [hy]
 exact h
theorem st_q {x : Oper} {a : Act} {w : World} {K : Act → World → Prop} {p : Value → World → Prop} {R : World → World → Prop} {v : Value} (hK : ∀ a' v w', a' = a.put x.dst v → p v w' → R w w' → K a' w') (hy : (execOp a.eval x).run P w = .ok (.value v) w)
  (hp : p v w := by first | exact rfl | exact congrArg (Value.int _) (by first | (rw [IntKind.wrap_i64]; omega) | (rw [IntKind.wrap_u8]; omega) | omega)) (hR : R w w := by exact Ext.refl _) : x.wp P a w K Q :=
 st_quiet v hy (hK _ _ _ rfl hp hR)
theorem st_concat {x : Oper} {a : Act} {w : World} {K : Act → World → Prop} (p q : Operand) (t t' : TypeId) (s u : ByteArray) (ho : x.op = .binOp .add t p q t') (hp : a.eval p = .string s) (hq : a.eval q = .string u) (hn : s.size + u.size ≤ 9223372036854775807) (h : K (a.put x.dst (.string (s ++ u))) w) : x.wp P a w K Q := by
 refine st_quiet (.string (s ++ u)) ?_ h
 unfold execOp
 rw [ho]
 simp only
 rw [hp, hq]
 have hn' : ¬ ((s.size + u.size : Nat) : Int) > IntKind.i64.max := by
  rw [show IntKind.i64.max = 9223372036854775807 from rfl]; omega
 simp only [eqGuard, binOp, Op.stringOp, Sem.run_bind]
 rw [if_neg hn']
 rfl
def boundOf (a : Act) (lo : Option Operand) (d : Nat) (l : Nat) : Prop := match lo with
 | none => l = d
 | some p => a.eval p = .int .i64 (l : Int)
theorem st_slice {x : Oper} {a : Act} {w : World} {K : Act → World → Prop} (t : TypeId) (p : Operand) (lo hi : Option Operand) (s : ByteArray) (l h : Nat) (ho : x.op = .slice t p lo hi none) (ht : P.underlying t = some .string) (hp : a.eval p = .string s) (hlo : boundOf a lo 0 l) (hhi : boundOf a hi s.size h) (h1 : l ≤ h) (h2 : h ≤ s.size)
  (hK : K (a.put x.dst (.string (s.extract l h))) w) : x.wp P a w K Q := by
 refine st_quiet (.string (s.extract l h)) ?_ hK
 have hb : (Instr.sliceBounds false s.size s.size (lo.map a.eval) (hi.map a.eval) none).run P w = .ok (l, h, s.size) w := by
  unfold Instr.sliceBounds
  have i1 : (0 : Int) ≤ (h : Int) ∧ (h : Int) ≤ (s.size : Int) := ⟨by omega, by omega⟩
  have i2 : (0 : Int) ≤ (l : Int) ∧ (l : Int) ≤ (h : Int) := ⟨by omega, by omega⟩
  cases lo with
  | none =>
   cases hi with
   | none => simp only [boundOf] at hlo hhi; subst hlo hhi; simp
   | some q => simp only [boundOf] at hlo hhi; subst hlo; simp [Instr.sliceBound, hhi, asIntOf, i1, h2]
  | some q =>
   cases hi with
   | none => simp only [boundOf] at hlo hhi; subst hhi; simp [Instr.sliceBound, hlo, asIntOf, i2, h1]
   | some r => simp only [boundOf] at hlo hhi; simp [Instr.sliceBound, hlo, hhi, asIntOf, i1, i2, h1, h2]
 unfold execOp
 rw [ho]
 simp only [Sem.run_bind, Instr.sliceAt, hp, Option.map_none]
 simp [Instr.slice, ht, hb, underlying]
end
end Go.Proofs.YtjadmfdlggnlgaaGreatDoor
