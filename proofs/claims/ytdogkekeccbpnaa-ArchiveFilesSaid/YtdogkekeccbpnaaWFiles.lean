/-
  archive.CheckFiles and the document's FilesFault: may files be added together? The law ArchiveFiles. Conditions: the argument reads as files.
-/
import Derived.Test.YtdogkekeccbpnaaWName
import Derived.Test.YtdogkekeccbpnaaWSame
import Derived.BigQuiet
namespace Go.Proofs.Ytdogkekeccbpnaa
set_option linter.unusedSimpArgs false
set_option linter.unusedVariables false
open Go.RowKit

def noFil : Fil := ⟨.empty, .empty⟩
def sameName (s : ByteArray) (x : Fil) : Bool := x.name.toList == s.toList
def filesGo (l : List Fil) : Nat → Nat → Int → Int
  | 0, _, all => if 600 < all then 1 else 0
  | m + 1, k, all => if !nameMay (l.getD k noFil).name then 4 else if 200 < (l.getD k noFil).data.size then 1 else if (l.take k).any (sameName (l.getD k noFil).name) then 7 else filesGo l m (k + 1) (all + (l.getD k noFil).data.size)
def filesS (l : List Fil) : Int := if 1 ≤ l.length ∧ l.length ≤ 10 then filesGo l l.length 0 0 else 1

set_option maxRecDepth 100000 in
set_option maxHeartbeats 400000 in
theorem sameName_any (x f : Fil) (g : Nat) (w : World) (hb : Blk_ w g 113 #[.string f.name, .string f.data]) :
    Calls Try.prog 115 #[.agg #[.string x.name, .string x.data], .pointer (some ⟨g, 0, none⟩)] w fun e w' => Ext w w' ∧ e = .returned (.bool (sameName f.name x)) := by
  have hb1 := hb.alloc (.cells #[.string x.name, .string x.data] 113)
  have f0 := hb.cell 0
  have hl := hb.lt
  simp at f0
  clear hb hb1
  go_enter Try.func115, Try.ntmps115
  go_wp2
  go_ret
  exact ⟨(Ext.refl _).alloc _, rfl⟩

set_option maxRecDepth 100000 in
set_option maxHeartbeats 800000 in
theorem index_fil (v : Value) (l : List Fil) (f : Fil) (g : Nat) (w : World) (h : SlR 2 32 RFil w v l) (hb : Blk_ w g 113 #[.string f.name, .string f.data]) :
    Calls Try.prog 151 #[v, .func (.func 115) #[] #[.pointer (some ⟨g, 0, none⟩)]] w fun e w' => Ext w w' ∧ ∃ r : Int, e = .returned (.int .i64 r) ∧ decide (0 ≤ r) = l.any (sameName f.name) := by
  obtain ⟨A, c, rfl, hl, hc, r1⟩ := h.rowE encFil_ok
  clear h
  go_enter Try.func151, Try.ntmps151
  go_wp2
  go_loopw [8] (fun i wr => ∃ k : Nat, i = .int .i64 k ∧ k ≤ l.length ∧ Ext w wr ∧ (l.take k).any (sameName f.name) = false) (fun i _ => l.length - (intOf i).toNat)
  case atStart => exact ⟨0, rfl, Nat.zero_le _, Ext.refl _, rfl⟩
  case round =>
    obtain ⟨k, rfl, hk, hx, hno⟩ := hrel
    have HN := Lib.hid hno
    clear hno
    by_cases hlt : k < l.length
    · obtain ⟨b1, o1, rfl, g1⟩ := r1 k hlt
      have q0 := hx.cell (g1 k hlt 0 _ rfl)
      have q1 := hx.cell (g1 k hlt 1 _ rfl)
      simp only [Nat.add_zero] at q0
      have HR := Lib.hid r1
      clear g1 r1
      have htk : (l.take (k + 1)).any (sameName f.name) = sameName f.name l[k] := by
        rw [← List.take_append_getElem hlt, List.any_append, HN.out]; simp
      have HT := Lib.hid htk
      clear htk
      have hki : (k : Int) < (l.length : Int) := by omega
      have HBR := Lib.hid (hb.ext hx)
      go_wp2_with fail
      refine (sameName_any l[k] f g _ HBR.out).mono ?_
      rintro e w1 ⟨hx1, rfl⟩
      have HX1 := Lib.hid (hx.trans hx1)
      clear q0 q1 hx hx1 HBR
      cases hp : sameName f.name l[k] with
      | true =>
        have HP := Lib.hid hp
        clear hp
        go_wp2_with fail
        go_ret
        refine ⟨HX1.out, _, rfl, ?_⟩
        have : l.any (sameName f.name) = true := List.any_eq_true.2 ⟨l[k], List.getElem_mem hlt, HP.out⟩
        rw [this]
        simp
      | false =>
        have HP := Lib.hid hp
        clear hp
        go_wp2_with fail
        go_roundw
        case rel => exact ⟨k + 1, by go_num, by omega, HX1.out, by rw [HT.out, HP.out]⟩
        case measure => simp [intOf]; omega
    · obtain rfl : k = l.length := by omega
      go_wp2_with fail
      go_ret
      refine ⟨hx, _, rfl, ?_⟩
      rw [List.take_length] at HN
      rw [HN.out]
      simp
set_option maxRecDepth 100000 in
set_option maxHeartbeats 400000 in
theorem contains_fil (v : Value) (l : List Fil) (f : Fil) (g : Nat) (w : World) (h : SlR 2 32 RFil w v l) (hb : Blk_ w g 113 #[.string f.name, .string f.data]) :
    Calls Try.prog 114 #[v, .func (.func 115) #[] #[.pointer (some ⟨g, 0, none⟩)]] w fun e w' => Ext w w' ∧ e = .returned (.bool (l.any (sameName f.name))) := by
  go_enter Try.func114, Try.ntmps114
  go_wp2_with fail
  refine (index_fil v l f g w h hb).mono ?_
  rintro e w1 ⟨hx, r, rfl, hr⟩
  have HR := Lib.hid hr
  clear hr h
  go_wp2
  go_ret
  exact ⟨hx, ret_bool HR.out⟩

theorem files_bad {l : List Fil} (h : ¬ (1 ≤ l.length ∧ l.length ≤ 10)) : filesS l = 1 := by unfold filesS; rw [if_neg h]
theorem files_ok {l : List Fil} (h : 1 ≤ l.length ∧ l.length ≤ 10) : filesS l = filesGo l l.length 0 0 := by unfold filesS; rw [if_pos h]
theorem fgo_name {l : List Fil} {m k : Nat} {all : Int} {x : Fil} (hx : l.getD k noFil = x) (h : nameMay x.name = false) : filesGo l (m + 1) k all = 4 := by unfold filesGo; rw [hx, h]; rfl
theorem fgo_size {l : List Fil} {m k : Nat} {all : Int} {x : Fil} (hx : l.getD k noFil = x) (h : nameMay x.name = true) (h2 : 200 < x.data.size) : filesGo l (m + 1) k all = 1 := by unfold filesGo; rw [hx, h, if_neg (by decide), if_pos h2]
theorem fgo_twice {l : List Fil} {m k : Nat} {all : Int} {x : Fil} (hx : l.getD k noFil = x) (h : nameMay x.name = true) (h2 : ¬ 200 < x.data.size) (h3 : (l.take k).any (sameName x.name) = true) : filesGo l (m + 1) k all = 7 := by unfold filesGo; rw [hx, h, if_neg (by decide), if_neg h2, if_pos h3]
theorem fgo_go {l : List Fil} {m k : Nat} {all : Int} {x : Fil} (hx : l.getD k noFil = x) (h : nameMay x.name = true) (h2 : ¬ 200 < x.data.size) (h3 : (l.take k).any (sameName x.name) = false) : filesGo l (m + 1) k all = filesGo l m (k + 1) (all + x.data.size) := by
  rw [filesGo, hx, h, if_neg (by decide), if_neg h2, if_neg (by simp [h3])]
theorem SlR.take {α : Type} {C bytes : Nat} {R : Rd α} {w : World} {A : Option Addr} {c : Nat} {l : List α} (h : SlR C bytes R w (.slice A l.length c) l) (k : Nat) (hk : k ≤ l.length) : SlR C bytes R w (.slice A k c) (l.take k) := by
  obtain ⟨A', c', e, hb, hc, h⟩ := h
  simp only [Value.slice.injEq, true_and] at e
  obtain ⟨rfl, rfl⟩ := e
  have hl : (l.take k).length = k := by rw [List.length_take]; omega
  refine ⟨A, c, by rw [hl], by rw [hl]; exact Nat.le_trans (Nat.mul_le_mul_right _ hk) hb, by rw [hl]; omega, ?_⟩
  rcases h with h | ⟨b, o, hA, h⟩
  · subst h; left; simp
  · right
    refine ⟨b, o, hA, fun i hi => ?_⟩
    have hi' : i < l.length := by rw [hl] at hi; omega
    obtain ⟨cs, h1, h2, h3⟩ := h i hi'
    exact ⟨cs, h1, h2, by rw [List.getElem_take]; exact h3⟩

set_option maxRecDepth 100000 in
set_option maxHeartbeats 4000000 in
theorem checkFiles_any (v : Value) (l : List Fil) (w : World) (h : SlR 2 32 RFil w v l) :
    Calls Try.prog 56 #[v] w fun e w' => e = .returned (.int .i64 (filesS l)) ∧ Ext w w' := by
  have hmem := h.mem encFil_ok w
  obtain ⟨A, c, rfl, hlb, hc, r1⟩ := h.rowE encFil_ok
  have HMEM := Lib.hid hmem
  have HR := Lib.hid r1
  have HH := Lib.hid h
  clear hmem r1 h hlb
  by_cases hlen : 1 ≤ l.length ∧ l.length ≤ 10
  · have HF := Lib.hid (files_ok hlen)
    obtain ⟨hl1, hl2⟩ := hlen
    have t1 : decide ((l.length : Int) < 1) = false := by simp; omega
    have t2 : decide ((10 : Int) < (l.length : Int)) = false := by simp; omega
    have HL := Lib.hid (And.intro hl1 hl2)
    clear hl1 hl2
    go_enter Try.func56, Try.ntmps56
    go_wp2_with fail
    go_loopw [3, 16] (fun s i wr => ∃ (k : Nat) (all : Int), i = .int .i64 k ∧ s = .int .i64 all ∧ k ≤ l.length ∧ 0 ≤ all ∧ all ≤ 200 * (k : Int) ∧ Ext w wr ∧ filesGo l (l.length - k) k all = filesGo l l.length 0 0) (fun _ i _ => l.length - (intOf i).toNat)
    case atStart => exact ⟨0, 0, rfl, rfl, Nat.zero_le _, by omega, by omega, Ext.refl _, rfl⟩
    case round =>
      obtain ⟨k, all, rfl, rfl, hk, ha0, ha1, hx, heq⟩ := hrel
      have HEQ := Lib.hid heq
      have hl10 : (l.length : Int) ≤ 10 := by have := HL.out.2; omega
      clear heq
      by_cases hlt : k < l.length
      · obtain ⟨b, o, rfl, g1⟩ := HR.out k hlt
        have q0 := hx.cell (g1 k hlt 0 _ rfl)
        have q1 := hx.cell (g1 k hlt 1 _ rfl)
        simp only [Nat.add_zero] at q0
        have hgd : l.getD k noFil = l[k] := by rw [List.getD_eq_getElem?_getD, List.getElem?_eq_getElem hlt]; rfl
        have hsz := (HMEM.out l[k] (List.getElem_mem hlt)).2
        obtain ⟨X, hX⟩ : ∃ X, X = l[k] := ⟨_, rfl⟩
        rw [← hX] at q0 q1 hgd hsz
        have HGD := Lib.hid hgd
        have HSZ := Lib.hid hsz
        have hsub : l.length - k = (l.length - (k + 1)) + 1 := by omega
        have HSUB := Lib.hid (show filesGo l ((l.length - (k + 1)) + 1) k all = filesGo l l.length 0 0 by rw [← hsub]; exact HEQ.out)
        have hki : (k : Int) < (l.length : Int) := by omega
        have HG1 := Lib.hid g1
        clear g1 hX hgd hsz hsub HEQ
        go_wp2_with fail
        refine calls_abs (fun W => Ext wr W ∧ Blk_ W wr.heap.size 113 #[.string X.name, .string X.data]) ⟨(Ext.refl _).alloc _, Blk_.new _ _ _⟩ ?_
        rintro W1 ⟨hx1, hbx⟩
        refine (name_any X.name W1 HSZ.out.1).mono ?_
        rintro e w2 ⟨rfl, hx2⟩
        have hb2 := hbx.ext hx2
        have e1 := hb2.cell 1
        simp at e1
        have HB2 := Lib.hid hb2
        have HX2 := Lib.hid (hx.trans (hx1.trans hx2))
        have hl2 := hb2.lt
        clear hbx hx1 hx2 hb2 hx q0 q1
        cases hnm : nameMay X.name with
        | false =>
          have HFIN := Lib.hid (show filesS l = 4 by rw [HF.out, ← HSUB.out, fgo_name HGD.out hnm])
          clear hnm
          go_wp2_with fail
          go_ret
          exact ⟨ret_int HFIN.out.symm, HX2.out⟩
        | true =>
          by_cases h200 : 200 < X.data.size
          · have HFIN := Lib.hid (show filesS l = 1 by rw [HF.out, ← HSUB.out, fgo_size HGD.out hnm h200])
            have t3 : decide ((200 : Int) < (X.data.size : Int)) = true := by simp; omega
            clear hnm h200
            go_wp2_with fail
            go_ret
            exact ⟨ret_int HFIN.out.symm, HX2.out⟩
          · have t3 : decide ((200 : Int) < (X.data.size : Int)) = false := by simp; omega
            have h200i : (X.data.size : Int) ≤ 200 := by omega
            have HNM := Lib.hid (And.intro hnm h200)
            have hkc : (k : Int) ≤ (c : Int) := by omega
            have hk0 : k ≤ c := by omega
            clear hnm h200
            go_wp2_with fail
            refine (contains_fil (.slice (some ⟨b, o, none⟩) k c) (l.take k) X wr.heap.size w2 ((HH.out.take k hk).ext RFil.stays HX2.out) HB2.out).mono ?_
            rintro e w3 ⟨hx3, rfl⟩
            have b3 := HB2.out.ext hx3
            have e13 := b3.cell 1
            simp at e13
            have HX3 := Lib.hid (HX2.out.trans hx3)
            clear hx3 b3 e1
            cases han : (l.take k).any (sameName X.name) with
            | true =>
              have HFIN := Lib.hid (show filesS l = 7 by rw [HF.out, ← HSUB.out, fgo_twice HGD.out HNM.out.1 HNM.out.2 han])
              clear han
              go_wp2_with fail
              go_ret
              exact ⟨ret_int HFIN.out.symm, HX3.out⟩
            | false =>
              have HNX := Lib.hid (show filesGo l (l.length - (k + 1)) (k + 1) (all + X.data.size) = filesGo l l.length 0 0 by rw [← HSUB.out, fgo_go HGD.out HNM.out.1 HNM.out.2 han])
              clear han
              go_wp2_with fail
              go_roundw
              case rel => exact ⟨k + 1, all + X.data.size, by go_num, by go_num, by omega, by omega, by omega, HX3.out, HNX.out⟩
              case measure => simp [intOf]; omega
      · obtain rfl : k = l.length := by omega
        have hfin := HEQ.out
        rw [Nat.sub_self] at hfin
        by_cases h600 : 600 < all
        · have HFIN := Lib.hid (show filesS l = 1 by rw [HF.out, ← hfin]; unfold filesGo; rw [if_pos h600])
          have t4 : decide ((600 : Int) < all) = true := by simpa using h600
          clear h600 hfin
          go_wp2_with fail
          go_ret
          exact ⟨ret_int HFIN.out.symm, hx⟩
        · have HFIN := Lib.hid (show filesS l = 0 by rw [HF.out, ← hfin]; unfold filesGo; rw [if_neg h600])
          have t4 : decide ((600 : Int) < all) = false := by simpa using h600
          clear h600 hfin
          go_wp2_with fail
          go_ret
          exact ⟨ret_int HFIN.out.symm, hx⟩
  · have HF := Lib.hid (files_bad hlen)
    have hcs : decide ((l.length : Int) < 1) = true ∨ (decide ((l.length : Int) < 1) = false ∧ decide ((10 : Int) < (l.length : Int)) = true) := by
      simp only [decide_eq_true_eq, decide_eq_false_iff_not]; omega
    clear hlen
    rcases hcs with t1 | ⟨t1, t2⟩
    · go_enter Try.func56, Try.ntmps56
      go_wp2_with fail
      go_ret
      exact ⟨ret_int HF.out.symm, Ext.refl _⟩
    · go_enter Try.func56, Try.ntmps56
      go_wp2_with fail
      go_ret
      exact ⟨ret_int HF.out.symm, Ext.refl _⟩

set_option maxRecDepth 100000 in
set_option maxHeartbeats 4000000 in
theorem filesFault_any (v : Value) (l : List Fil) (w : World) (h : SlR 2 32 RFil w v l) :
    Calls Try.prog 57 #[v] w fun e w' => e = .returned (.int .i64 (filesS l)) ∧ Ext w w' := by
  have hmem := h.mem encFil_ok w
  obtain ⟨A, c, rfl, hlb, hc, r1⟩ := h.rowE encFil_ok
  have HMEM := Lib.hid hmem
  have HR := Lib.hid r1
  have HH := Lib.hid h
  clear hmem r1 h hlb
  by_cases hlen : 1 ≤ l.length ∧ l.length ≤ 10
  · have HF := Lib.hid (files_ok hlen)
    obtain ⟨hl1, hl2⟩ := hlen
    have t0 : inB (l.length : Int) 1 10 = true := by simp [inB]; omega
    have HL := Lib.hid (And.intro hl1 hl2)
    clear hl1 hl2
    go_enter Try.func57, Try.ntmps57
    go_wp2_with (go_at_call 37; refine (in_any _ _ _ _).mono ?_; rintro e w9 ⟨rfl, rfl⟩; rw [t0])
    go_loopw [3, 4] (fun s i wr => ∃ (k : Nat) (all : Int), i = .int .i64 k ∧ s = .int .i64 all ∧ k ≤ l.length ∧ 0 ≤ all ∧ all ≤ 200 * (k : Int) ∧ Ext w wr ∧ filesGo l (l.length - k) k all = filesGo l l.length 0 0) (fun _ i _ => l.length - (intOf i).toNat)
    case atStart => exact ⟨0, 0, rfl, rfl, Nat.zero_le _, by omega, by omega, Ext.refl _, rfl⟩
    case round =>
      obtain ⟨k, all, rfl, rfl, hk, ha0, ha1, hx, heq⟩ := hrel
      have HEQ := Lib.hid heq
      have hl10 : (l.length : Int) ≤ 10 := by have := HL.out.2; omega
      clear heq
      by_cases hlt : k < l.length
      · obtain ⟨b, o, rfl, g1⟩ := HR.out k hlt
        have q0 := hx.cell (g1 k hlt 0 _ rfl)
        have q1 := hx.cell (g1 k hlt 1 _ rfl)
        simp only [Nat.add_zero] at q0
        have hgd : l.getD k noFil = l[k] := by rw [List.getD_eq_getElem?_getD, List.getElem?_eq_getElem hlt]; rfl
        have hsz := (HMEM.out l[k] (List.getElem_mem hlt)).2
        obtain ⟨X, hX⟩ : ∃ X, X = l[k] := ⟨_, rfl⟩
        rw [← hX] at q0 q1 hgd hsz
        have HGD := Lib.hid hgd
        have HSZ := Lib.hid hsz
        have hsub : l.length - k = (l.length - (k + 1)) + 1 := by omega
        have HSUB := Lib.hid (show filesGo l ((l.length - (k + 1)) + 1) k all = filesGo l l.length 0 0 by rw [← hsub]; exact HEQ.out)
        have hki : (k : Int) < (l.length : Int) := by omega
        have HG1 := Lib.hid g1
        clear g1 hX hgd hsz hsub HEQ
        go_wp2_with fail
        refine (nameMay_any X.name wr HSZ.out.1).mono ?_
        rintro e w2 ⟨rfl, rfl⟩
        cases hnm : nameMay X.name with
        | false =>
          have HFIN := Lib.hid (show filesS l = 4 by rw [HF.out, ← HSUB.out, fgo_name HGD.out hnm])
          clear hnm
          go_wp2_with fail
          go_ret
          exact ⟨ret_int HFIN.out.symm, hx⟩
        | true =>
          by_cases h200 : 200 < X.data.size
          · have HFIN := Lib.hid (show filesS l = 1 by rw [HF.out, ← HSUB.out, fgo_size HGD.out hnm h200])
            have t3 : decide ((200 : Int) < (X.data.size : Int)) = true := by simp; omega
            clear hnm h200
            go_wp2_with fail
            go_ret
            exact ⟨ret_int HFIN.out.symm, hx⟩
          · have t3 : decide ((200 : Int) < (X.data.size : Int)) = false := by simp; omega
            have h200i : (X.data.size : Int) ≤ 200 := by omega
            have HNM := Lib.hid (And.intro hnm h200)
            have HQ := Lib.hid (And.intro q0 q1)
            clear hnm h200
            go_wp2_with fail
            go_loopw [5] (fun j wq => ∃ i : Nat, j = .int .i64 i ∧ i ≤ k ∧ Ext wr wq ∧ (l.take i).any (sameName X.name) = false) (fun j _ => k - (intOf j).toNat)
            case atStart => exact ⟨0, rfl, Nat.zero_le _, Ext.refl _, rfl⟩
            case round =>
              clear q0 q1
              obtain ⟨i, rfl, hik, hxq, hno⟩ := hrel
              have HNO := Lib.hid hno
              have hqq := hx.trans hxq
              have q0 := hxq.cell HQ.out.1
              have q1 := hxq.cell HQ.out.2
              clear hno
              by_cases hilt : i < k
              · have hil : i < l.length := by omega
                have p0 := hqq.cell (HG1.out i hil 0 _ rfl)
                simp only [Nat.add_zero] at p0
                have hii : (i : Int) < (l.length : Int) := by omega
                have hik2 : (i : Int) < (k : Int) := by omega
                have htk : (l.take (i + 1)).any (sameName X.name) = sameName X.name l[i] := by
                  rw [← List.take_append_getElem hil, List.any_append, HNO.out]; simp
                have HTK := Lib.hid htk
                have HMI := Lib.hid (show l[i] ∈ l.take k from by
                  rw [List.mem_take_iff_getElem]
                  exact ⟨i, by omega, rfl⟩)
                clear htk hqq
                cases hp : (l[i].name.toList == X.name.toList) with
                | true =>
                  have han : (l.take k).any (sameName X.name) = true := List.any_eq_true.2 ⟨l[i], HMI.out, hp⟩
                  have HFIN := Lib.hid (show filesS l = 7 by rw [HF.out, ← HSUB.out, fgo_twice HGD.out HNM.out.1 HNM.out.2 han])
                  clear han
                  generalize l[i].name = Y at *
                  go_wp2_with fail
                  go_quiet (fail)
                  go_wp2_with fail
                  go_ret
                  exact ⟨ret_int HFIN.out.symm, (hx.trans hxq).drewN _⟩
                | false =>
                  have HP := Lib.hid (show sameName X.name l[i] = false from hp)
                  generalize l[i].name = Y at *
                  go_wp2_with fail
                  go_quiet (fail)
                  go_wp2_with fail
                  go_roundw
                  case rel => exact ⟨i + 1, by go_num, by omega, hxq.drewN _, by rw [HTK.out, HP.out]⟩
                  case measure => simp [intOf]; omega
              · obtain rfl : i = k := by omega
                have HNX := Lib.hid (show filesGo l (l.length - (i + 1)) (i + 1) (all + X.data.size) = filesGo l l.length 0 0 by rw [← HSUB.out, fgo_go HGD.out HNM.out.1 HNM.out.2 HNO.out])
                go_wp2_with fail
                go_roundw
                case rel => exact ⟨i + 1, all + X.data.size, by go_num, by go_num, by omega, by omega, by omega, hx.trans hxq, HNX.out⟩
                case measure => simp [intOf]; omega
      · obtain rfl : k = l.length := by omega
        have hfin := HEQ.out
        rw [Nat.sub_self] at hfin
        by_cases h600 : 600 < all
        · have HFIN := Lib.hid (show filesS l = 1 by rw [HF.out, ← hfin]; unfold filesGo; rw [if_pos h600])
          have t4 : decide ((600 : Int) < all) = true := by simpa using h600
          clear h600 hfin
          go_wp2_with fail
          go_ret
          exact ⟨ret_int HFIN.out.symm, hx⟩
        · have HFIN := Lib.hid (show filesS l = 0 by rw [HF.out, ← hfin]; unfold filesGo; rw [if_neg h600])
          have t4 : decide ((600 : Int) < all) = false := by simpa using h600
          clear h600 hfin
          go_wp2_with fail
          go_ret
          exact ⟨ret_int HFIN.out.symm, hx⟩
  · have HF := Lib.hid (files_bad hlen)
    have t0 : inB (l.length : Int) 1 10 = false := by
      cases h : inB (l.length : Int) 1 10 with
      | false => rfl
      | true => have := inB_true h; exact absurd (show 1 ≤ l.length ∧ l.length ≤ 10 by omega) hlen
    clear hlen
    go_enter Try.func57, Try.ntmps57
    go_wp2_with (go_at_call 37; refine (in_any _ _ _ _).mono ?_; rintro e w9 ⟨rfl, rfl⟩; rw [t0])
    go_ret
    exact ⟨ret_int HF.out.symm, Ext.refl _⟩

set_option maxRecDepth 100000 in
theorem lawArchiveFiles_any (v : Value) (l : List Fil) (w : World) (h : SlR 2 32 RFil w v l) :
    Calls Try.prog 13 #[v] w fun e w' => e = .returned (.bool true) ∧ Ext w w' := by
  go_enter Try.func13, Try.ntmps13
  go_wp2_with fail
  refine (checkFiles_any v l _ h).mono ?_
  rintro e w1 ⟨rfl, e1⟩
  go_wp2_with fail
  refine (filesFault_any v l _ (h.ext RFil.stays e1)).mono ?_
  rintro e w2 ⟨rfl, e2⟩
  clear h
  go_wp2_with fail
  go_ret
  exact ⟨rfl, e1.trans e2⟩
end Go.Proofs.Ytdogkekeccbpnaa
