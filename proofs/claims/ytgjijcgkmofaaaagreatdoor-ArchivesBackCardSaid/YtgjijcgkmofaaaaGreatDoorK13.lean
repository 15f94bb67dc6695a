/-
  Finding a name in a catalog whose names are in order, in plain Lean. Conditions: none.
-/
import Derived.Test.YtgjijcgkmofaaaaGreatDoorK12
import Derived.Lib.Bytealg
namespace Go.Proofs.YtgjijcgkmofaaaaGreatDoor
set_option linter.unusedSimpArgs false
set_option linter.unusedVariables false
open Go.RowKit

theorem cmp_neg : ∀ a b : List UInt8, decide (Lib.compareBytes a b < 0) = Op.bytesLess a b
  | [], [] => rfl
  | [], _ :: _ => rfl
  | _ :: _, [] => rfl
  | a :: x, b :: y => by
    have ih := cmp_neg x y
    unfold Lib.compareBytes Op.bytesLess
    by_cases h1 : a < b
    · simp [h1]
    · by_cases h2 : b < a
      · have hne : (a == b) = false := by
          apply beq_false_of_ne
          rintro rfl
          exact UInt8.lt_irrefl a h2
        simp [h1, h2, hne]
      · have he : a = b := by
          have h1' : ¬ a.toNat < b.toNat := h1
          have h2' : ¬ b.toNat < a.toNat := h2
          exact UInt8.toNat_inj.1 (by omega)
        subst he
        simp only [h1, if_false, ih, decide_false, Bool.false_or, beq_self_eq_true, Bool.true_and]
theorem cmp_zero : ∀ a b : List UInt8, Lib.compareBytes a b = 0 ↔ a = b
  | [], [] => by simp [Lib.compareBytes]
  | [], _ :: _ => by simp [Lib.compareBytes]
  | _ :: _, [] => by simp [Lib.compareBytes]
  | a :: x, b :: y => by
    have ih := cmp_zero x y
    unfold Lib.compareBytes
    by_cases h1 : a < b
    · rw [if_pos h1]
      constructor
      · intro h; exact absurd h (by decide)
      · intro h; injection h with h3 h4; subst h3; exact absurd h1 (UInt8.lt_irrefl a)
    · rw [if_neg h1]
      by_cases h2 : b < a
      · rw [if_pos h2]
        constructor
        · intro h; exact absurd h (by decide)
        · intro h; injection h with h3 h4; subst h3; exact absurd h2 (UInt8.lt_irrefl a)
      · rw [if_neg h2, ih]
        have he : a = b := by
          have h1' : ¬ a.toNat < b.toNat := h1
          have h2' : ¬ b.toNat < a.toNat := h2
          exact UInt8.toNat_inj.1 (by omega)
        subst he
        simp
theorem bl_irrefl : ∀ a : List UInt8, Op.bytesLess a a = false
  | [] => rfl
  | a :: x => by
    unfold Op.bytesLess
    rw [bl_irrefl x]
    have : (decide (a < a)) = false := decide_eq_false (UInt8.lt_irrefl a)
    simp [this]
theorem bl_trans : ∀ a b c : List UInt8, Op.bytesLess a b = true → Op.bytesLess b c = true → Op.bytesLess a c = true
  | _, _, [], _, h => by rename_i b _; cases b <;> cases h
  | [], _, _ :: _, _, _ => rfl
  | a :: x, [], _ :: _, h, _ => by cases h
  | a :: x, b :: y, c :: z, h1, h2 => by
    have ih := bl_trans x y z
    unfold Op.bytesLess at h1 h2 ⊢
    have hlt : ∀ c d : UInt8, (decide (c < d)) = decide (c.toNat < d.toNat) := fun c d => by simp [UInt8.lt_iff_toNat_lt]
    have heq : ∀ c d : UInt8, (c == d) = decide (c.toNat = d.toNat) := fun c d => by
      by_cases h : c = d
      · subst h; simp
      · have : c.toNat ≠ d.toNat := fun e => h (UInt8.toNat_inj.1 e)
        simp [h, this]
    simp only [hlt, heq, Bool.or_eq_true, Bool.and_eq_true, decide_eq_true_eq] at h1 h2 ⊢
    rcases h1 with h1 | ⟨h1, h1'⟩ <;> rcases h2 with h2 | ⟨h2, h2'⟩
    · left; omega
    · left; omega
    · left; omega
    · right; exact ⟨by omega, ih h1' h2'⟩
/-- Every name is ahead of those behind it. -/
def Rising (l : List Ent) : Prop := ∀ i j (hi : i < l.length) (hj : j < l.length), i < j → Op.bytesLess (lst l[i].name) (lst l[j].name) = true
theorem ents_rising (nb : Nat) : ∀ (l : List Ent) (p : Option ByteArray), entsF nb p l = 0 → Rising l ∧ ∀ q, p = some q → ∀ x ∈ l, Op.bytesLess (lst q) (lst x.name) = true
  | [], _, _ => ⟨fun i j hi => by simp at hi, fun _ _ x hx => by cases hx⟩
  | y :: l, p, h => by
    unfold entsF at h
    split at h
    · exact absurd h (by decide)
    · split at h
      · exact absurd h (by decide)
      · rename_i h2
        obtain ⟨h3, h4⟩ := ents_rising nb l _ h
        have h5 := h4 y.name rfl
        refine ⟨?_, ?_⟩
        · intro i j hi hj hij
          match i, j with
          | 0, j + 1 =>
            rw [List.getElem_cons_zero, List.getElem_cons_succ]
            exact h5 _ (List.getElem_mem _)
          | i + 1, j + 1 =>
            rw [List.getElem_cons_succ, List.getElem_cons_succ]
            exact h3 i j (by simpa using hi) (by simpa using hj) (by omega)
        · rintro q rfl x hx
          have h6 : Op.bytesLess (lst q) (lst y.name) = true := by
            unfold orderBad at h2
            simp only [Bool.not_eq_true, Bool.not_eq_false'] at h2
            rwa [toList_lst, toList_lst] at h2
          rcases List.mem_cons.1 hx with rfl | hx
          · exact h6
          · exact bl_trans _ _ _ h6 (h5 x hx)
theorem find_first {l : List Ent} {p : Ent → Bool} {i : Nat} (hi : i < l.length) (h1 : ∀ k (hk : k < l.length), k < i → p l[k] = false) (h2 : p l[i] = true) : l.find? p = some l[i] := by
  induction l generalizing i with
  | nil => simp at hi
  | cons a l ih =>
    cases i with
    | zero => rw [List.find?_cons, List.getElem_cons_zero] at *; rw [h2]
    | succ i =>
      have h0 := h1 0 (by simp) (by omega)
      rw [List.getElem_cons_zero] at h0
      rw [List.find?_cons, h0, List.getElem_cons_succ]
      rw [List.getElem_cons_succ] at h2
      exact ih (by simpa using hi) (fun k hk hki => by have := h1 (k + 1) (by simpa using hk) (by omega); rwa [List.getElem_cons_succ] at this) h2
theorem find_never {l : List Ent} {p : Ent → Bool} (h1 : ∀ k (hk : k < l.length), p l[k] = false) : l.find? p = none := by
  rw [List.find?_eq_none]
  intro x hx
  obtain ⟨k, hk, rfl⟩ := List.getElem_of_mem hx
  rw [h1 k hk]; decide
/-- What stands where the search ends. -/
def Cut_ (l : List Ent) (t : ByteArray) (i j : Nat) : Prop := (∀ k (hk : k < l.length), k < i → Op.bytesLess (lst l[k].name) (lst t) = true) ∧ ∀ k (hk : k < l.length), j ≤ k → Op.bytesLess (lst l[k].name) (lst t) = false
theorem cut_start (l : List Ent) (t : ByteArray) : Cut_ l t 0 l.length := ⟨fun k _ h => by omega, fun k hk h => by omega⟩
theorem cut_up {l : List Ent} {t : ByteArray} {i j h : Nat} (hs : Rising l) (hc : Cut_ l t i j) (hh : h < l.length) (hl : Op.bytesLess (lst l[h].name) (lst t) = true) : Cut_ l t (h + 1) j := by
  refine ⟨fun k hk hkh => ?_, hc.2⟩
  by_cases he : k = h
  · subst he; exact hl
  · exact bl_trans _ _ _ (hs k h hk hh (by omega)) hl
theorem cut_down {l : List Ent} {t : ByteArray} {i j h : Nat} (hs : Rising l) (hc : Cut_ l t i j) (hh : h < l.length) (hl : Op.bytesLess (lst l[h].name) (lst t) = false) : Cut_ l t i h := by
  refine ⟨hc.1, fun k hk hkh => ?_⟩
  by_cases he : k = h
  · subst he; exact hl
  · cases hb : Op.bytesLess (lst l[k].name) (lst t) with
    | false => rfl
    | true => rw [bl_trans _ _ _ (hs h k hh hk (by omega)) hb] at hl; cases hl
theorem cut_found {l : List Ent} {t : ByteArray} {i : Nat} (hc : Cut_ l t i i) (hi : i < l.length) (he : lst l[i].name = lst t) : l.find? (fun x => decide (lst x.name = lst t)) = some l[i] := by
  refine find_first hi (fun k hk hki => ?_) (decide_eq_true he)
  apply decide_eq_false
  intro h
  have := hc.1 k hk hki
  rw [h, bl_irrefl] at this
  cases this
theorem cut_not {l : List Ent} {t : ByteArray} {i : Nat} (hs : Rising l) (hc : Cut_ l t i i) (h : ∀ hi : i < l.length, lst l[i].name ≠ lst t) : l.find? (fun x => decide (lst x.name = lst t)) = none := by
  refine find_never (fun k hk => decide_eq_false fun he => ?_)
  by_cases h1 : k < i
  · have := hc.1 k hk h1
    rw [he, bl_irrefl] at this
    cases this
  · by_cases h2 : k = i
    · subst h2; exact h hk he
    · have h3 := hs i k (by omega) hk (by omega)
      rw [he] at h3
      have h4 := hc.2 i (by omega) (Nat.le_refl _)
      rw [h3] at h4
      cases h4
end Go.Proofs.YtgjijcgkmofaaaaGreatDoor

/-
  catalog.Find and the document's FoundOf: the file of a name; the law CatalogFinds. Conditions: the argument reads as a catalog.
-/
namespace Go.Proofs.YtgjijcgkmofaaaaGreatDoor
set_option linter.unusedSimpArgs false
set_option linter.unusedVariables false
open Go.RowKit

def entV (x : Ent) : Value := .agg #[.string x.name, .int .i64 x.block, .int .i64 x.at_, .int .i64 x.bytes]
theorem find_bad {c : Cat} {t : ByteArray} (h : ¬ catFault c = 0) : findS c t = (noEnt, catFault c) := by unfold findS; rw [if_neg h]
theorem find_none {c : Cat} {t : ByteArray} (h : catFault c = 0) (hf : c.entries.find? (fun x => decide (lst x.name = lst t)) = none) : findS c t = (noEnt, 6) := by unfold findS; rw [if_pos h, hf]
theorem find_some {c : Cat} {t : ByteArray} {x : Ent} (h : catFault c = 0) (hf : c.entries.find? (fun x => decide (lst x.name = lst t)) = some x) : findS c t = (x, 0) := by unfold findS; rw [if_pos h, hf]
set_option maxRecDepth 100000 in
theorem cmp1_any (x : Ent) (t : ByteArray) (w : World) :
    Calls Tryz.prog 92 #[entV x, .string t] w fun e w' => e = .returned (.int .i64 (Lib.compareBytes (lst x.name) (lst t))) ∧ Ext w w' := by
  unfold entV
  go_enter Tryz.func92, Tryz.ntmps92
  go_wp2_with fail
  refine (compare_any x.name t _).mono ?_
  rintro e w1 ⟨rfl, rfl⟩
  go_wp2_with fail
  go_ret
  exact ⟨rfl, (Ext.refl w).alloc _⟩
set_option maxRecDepth 100000 in
set_option maxHeartbeats 4000000 in
theorem search_any (A2 : Option Addr) (c2 : Nat) (l : List Ent) (t : ByteArray) (w : World)
    (hS : ∀ k, k < l.length → ∃ b o, A2 = some ⟨b, o, none⟩ ∧ ∀ (i : Nat) (hi : i < l.length) (j : Nat) (u : Value), (encEnt l[i])[j]? = some u → w.cell? ⟨b, o + i * 4 + j, none⟩ = some u)
    (hr : Rising l) (hn : l.length ≤ 10) :
    Calls Tryz.prog 77 #[.slice A2 l.length c2, .string t, .func (.func 92) #[] #[]] w fun e w' => ∃ (i : Nat) (b : Bool), e = .returned (.tuple #[.int .i64 i, .bool b]) ∧ Ext w w' ∧
      (b = true → ∃ h : i < l.length, l.find? (fun x => decide (lst x.name = lst t)) = some l[i]) ∧ (b = false → l.find? (fun x => decide (lst x.name = lst t)) = none) := by
  have HS := Lib.hid hS
  have HR := Lib.hid hr
  have hn10 : (l.length : Int) ≤ 10 := by omega
  clear hS hr
  go_enter Tryz.func77, Tryz.ntmps77
  go_wp2_with fail
  go_loopw [9, 10] (fun iv jv wr => ∃ i j : Nat, iv = .int .i64 i ∧ jv = .int .i64 j ∧ i ≤ j ∧ j ≤ l.length ∧ Ext w wr ∧ Cut_ l t i j) (fun iv jv _ => (intOf jv).toNat - (intOf iv).toNat)
  case atStart => exact ⟨0, l.length, rfl, rfl, Nat.zero_le _, Nat.le_refl _, Ext.refl _, cut_start l t⟩
  case round =>
    obtain ⟨i, j, rfl, rfl, hij, hj, hx, hc⟩ := hrel
    have HC := Lib.hid hc
    clear hc
    by_cases hlt : i < j
    · obtain ⟨h, hh⟩ : ∃ h, h = (i + j) / 2 := ⟨_, rfl⟩
      have hhl : h < l.length := by omega
      have hih : i ≤ h ∧ h < j := by omega
      have y1 : IntKind.u64.wrap ((i : Int) + (j : Int)) = (i : Int) + (j : Int) := by rw [IntKind.wrap_u64]; omega
      have y2 : ((i : Int) + (j : Int)) / 2 = (h : Int) := by omega
      have y3 : IntKind.i64.wrap (h : Int) = (h : Int) := by rw [IntKind.wrap_i64]; omega
      have hh10 : (h : Int) < 10 := by omega
      have hhI : (h : Int) < (l.length : Int) := by omega
      obtain ⟨b2, o2, rfl, g1⟩ := HS.out h hhl
      have q0 := hx.cell (g1 h hhl 0 _ rfl)
      have q1 := hx.cell (g1 h hhl 1 _ rfl)
      have q2 := hx.cell (g1 h hhl 2 _ rfl)
      have q3 := hx.cell (g1 h hhl 3 _ rfl)
      simp only [Nat.add_zero] at q0
      have HUP := Lib.hid (fun hl => cut_up HR.out HC.out hhl hl)
      have HDN := Lib.hid (fun hl => cut_down HR.out HC.out hhl hl)
      obtain ⟨X, hX⟩ : ∃ X, X = l[h] := ⟨_, rfl⟩
      rw [← hX] at q0 q1 q2 q3 HUP HDN
      have HIH := Lib.hid (And.intro hih (And.intro hij hj))
      have HX := Lib.hid hx
      have hltI : (i : Int) < (j : Int) := by omega
      have hj10 : (j : Int) ≤ 10 := by omega
      clear g1 hX hh hih hx HC hij hj
      go_wp2_with fail
      refine (cmp1_any X t _).mono ?_
      rintro e w1 ⟨rfl, hx1⟩
      have HX1 := Lib.hid (HX.out.trans hx1)
      have hcn := cmp_neg (lst X.name) (lst t)
      obtain ⟨r, hrr⟩ : ∃ r, r = Lib.compareBytes (lst X.name) (lst t) := ⟨_, rfl⟩
      rw [← hrr] at hcn ⊢
      clear hx1 hrr q0 q1 q2 q3
      cases hb : Op.bytesLess (lst X.name) (lst t) with
      | true =>
        have HU := Lib.hid (HUP.out hb)
        rw [hb] at hcn
        clear hb
        go_wp2_with fail
        go_roundw
        case rel => exact ⟨h + 1, j, by go_num, rfl, by have := HIH.out; omega, HIH.out.2.2, HX1.out, HU.out⟩
        case measure => have := HIH.out; simp [intOf]; omega
      | false =>
        have HD := Lib.hid (HDN.out hb)
        rw [hb] at hcn
        clear hb
        go_wp2_with fail
        go_roundw
        case rel => exact ⟨i, h, rfl, by go_num, HIH.out.1.1, by omega, HX1.out, HD.out⟩
        case measure => have := HIH.out; simp [intOf]; omega
    · obtain rfl : i = j := by omega
      have HX := Lib.hid hx
      by_cases hi : i < l.length
      · have hiI : (i : Int) < (l.length : Int) := by omega
        have hi10 : (i : Int) < 10 := by omega
        obtain ⟨b2, o2, rfl, g1⟩ := HS.out i hi
        have q0 := hx.cell (g1 i hi 0 _ rfl)
        have q1 := hx.cell (g1 i hi 1 _ rfl)
        have q2 := hx.cell (g1 i hi 2 _ rfl)
        have q3 := hx.cell (g1 i hi 3 _ rfl)
        simp only [Nat.add_zero] at q0
        have HF := Lib.hid (fun he => cut_found HC.out hi he)
        have HNF := Lib.hid (fun (he : lst l[i].name ≠ lst t) => cut_not HR.out HC.out (fun _ => he))
        have HLX := Lib.hid (show l[i] = l[i] from rfl)
        obtain ⟨X, hX⟩ : ∃ X, X = l[i] := ⟨_, rfl⟩
        rw [← hX] at q0 q1 q2 q3
        have HXE := Lib.hid hX
        clear g1 hX hij hj hx HC
        go_wp2_with fail
        refine (cmp1_any X t _).mono ?_
        rintro e w1 ⟨rfl, hx1⟩
        have HX1 := Lib.hid (HX.out.trans hx1)
        have hcz := cmp_zero (lst X.name) (lst t)
        obtain ⟨r, hrr⟩ : ∃ r, r = Lib.compareBytes (lst X.name) (lst t) := ⟨_, rfl⟩
        rw [← hrr] at hcz ⊢
        clear hx1 hrr q0 q1 q2 q3
        have HI := Lib.hid hi
        by_cases he : lst X.name = lst t
        · have hr0 : r = 0 := hcz.2 he
          subst hr0
          have HF1 := Lib.hid (HF.out (by rw [← HXE.out]; exact he))
          clear hcz he HF HNF
          go_wp2_with fail
          go_ret2
          exact ⟨i, true, rfl, HX1.out, fun _ => ⟨HI.out, HF1.out⟩, fun h => by cases h⟩
        · have hr0 : (r == 0) = false := beq_false_of_ne (fun h => he (hcz.1 h))
          have HF1 := Lib.hid (HNF.out (by rw [← HXE.out]; exact he))
          clear hcz he HF HNF
          go_wp2_with fail
          go_ret2
          exact ⟨i, false, rfl, HX1.out, (fun h => by cases h), fun _ => HF1.out⟩
      · have HNF := Lib.hid (cut_not HR.out HC.out (fun h => absurd h hi))
        have hi10 : (i : Int) ≤ 10 := by omega
        clear hx HC
        go_wp2_with fail
        go_ret2
        exact ⟨i, false, rfl, HX.out, (fun h => by cases h), fun _ => HNF.out⟩
set_option maxRecDepth 100000 in
set_option maxHeartbeats 4000000 in
theorem catFind_any (cs : List Value) (d : Cat) (t : ByteArray) (w : World) (h : RCat w cs d) :
    Calls Tryz.prog 57 #[.agg cs.toArray, .string t] w fun e w' => e = .returned (.tuple #[entV (findS d t).1, .int .i64 (findS d t).2]) ∧ Ext w w' := by
  have h' := h
  obtain ⟨v1, v2, rfl, h1, h2'⟩ := h'
  obtain ⟨A1, c1, rfl, l1, hc1, p1⟩ := h1.rowE encBlk_ok
  obtain ⟨A2, c2, rfl, l2, hc2, s1⟩ := h2'.rowE encEnt_ok
  have HS := Lib.hid s1
  have HH := Lib.hid h
  clear h1 h2' l1 hc1 p1 h l2 hc2 s1
  go_enter Tryz.func57, Tryz.ntmps57
  go_wp2_with fail
  refine calls_abs (fun W => Ext w W ∧ Blk_ W w.heap.size 88 #[.slice A1 d.blocks.length c1, .slice A2 d.entries.length c2] ∧ Blk_ W (w.heap.size + 1) 113 #[.string .empty, .int .i64 0, .int .i64 0, .int .i64 0]) ⟨((Ext.refl _).alloc _).alloc _, (Blk_.new _ _ _).alloc _, Blk_.new1 _ _ _ _⟩ ?_
  rintro W ⟨hx, hb, hr⟩
  refine (catCheck_any [.slice A1 d.blocks.length c1, .slice A2 d.entries.length c2] d W (HH.out.up hx)).mono ?_
  rintro e w1 ⟨rfl, hx1⟩
  have hb1 := hb.ext hx1
  have hr1 := hr.ext hx1
  have hxw := hx.trans hx1
  have f1 := hb1.cell 1
  simp at f1
  have HR1 := Lib.hid hr1
  have HX1 := Lib.hid hxw
  have hl1 := hr1.lt
  have HB1 := Lib.hid hb1
  clear hb hr hx hx1 hb1 hr1 hxw
  by_cases hc : catFault d = 0
  · have HC := Lib.hid hc
    have hok := catFault_ok hc
    have HN := Lib.hid hok.2.1
    have HRI := Lib.hid (ents_rising _ _ _ hok.2.2.2).1
    have hn2 : (d.entries.length : Int) ≤ 10 := by have := hok.2.1; omega
    rw [hc]
    clear hc hok
    go_wp2_with fail
    refine (search_any A2 c2 d.entries t w1 (fun k hk => by
      obtain ⟨b, o, hA, g⟩ := HS.out k hk
      exact ⟨b, o, hA, fun i hi j u hu => HX1.out.cell (g i hi j u hu)⟩) HRI.out HN.out).mono ?_
    rintro e w2 ⟨i, b, rfl, hx2, hy, hn⟩
    have HX2 := Lib.hid (HX1.out.trans hx2)
    have HR2 := Lib.hid (HR1.out.ext hx2)
    have HB2 := Lib.hid (HB1.out.ext hx2)
    have f2 := HB2.out.cell 1
    simp at f2
    have hl2 := HR2.out.lt
    have z0 := HR2.out.frozen 0
    have z1 := HR2.out.frozen 1
    have z2 := HR2.out.frozen 2
    have z3 := HR2.out.frozen 3
    have m0 := HR2.out.cell 0
    have m1 := HR2.out.cell 1
    have m2 := HR2.out.cell 2
    have m3 := HR2.out.cell 3
    simp at m0 m1 m2 m3
    clear hx2 f1 hl1
    cases b with
    | true =>
      obtain ⟨hi, hf⟩ := hy rfl
      obtain ⟨b2, o2, rfl, g1⟩ := HS.out i hi
      have q0 := HX2.out.cell (g1 i hi 0 _ rfl)
      have q1 := HX2.out.cell (g1 i hi 1 _ rfl)
      have q2 := HX2.out.cell (g1 i hi 2 _ rfl)
      have q3 := HX2.out.cell (g1 i hi 3 _ rfl)
      simp only [Nat.add_zero] at q0
      obtain ⟨X, hX⟩ : ∃ X, X = d.entries[i] := ⟨_, rfl⟩
      rw [← hX] at q0 q1 q2 q3 hf
      have HF := Lib.hid (find_some (t := t) HC.out hf)
      have hiI : (i : Int) < (d.entries.length : Int) := by omega
      have hi10 : (i : Int) < 10 := by omega
      clear hy hn hf g1 hX
      go_wp2_with fail
      have HB := Lib.hid ((((HR2.out.set 0 (.string X.name)).set 1 (.int .i64 X.block)).set 2 (.int .i64 X.at_)).set 3 (.int .i64 X.bytes))
      refine bodyPost_ret (res_cell_tmp rfl rfl HB.out Tryz.underlying113 rfl (by kernel_rfl)) rfl ?_
      rw [HF.out]
      exact ⟨rfl, (((HX2.out.setCell (by dsimp only; omega) _).setCell (by dsimp only; omega) _).setCell (by dsimp only; omega) _).setCell (by dsimp only; omega) _⟩
    | false =>
      have HF := Lib.hid (find_none (t := t) HC.out (hn rfl))
      clear hy hn
      go_wp2_with fail
      have HB := Lib.hid ((((HR2.out.set 0 (.string .empty)).set 1 (.int .i64 0)).set 2 (.int .i64 0)).set 3 (.int .i64 0))
      refine bodyPost_ret (res_cell_tmp rfl rfl HB.out Tryz.underlying113 rfl (by kernel_rfl)) rfl ?_
      rw [HF.out]
      exact ⟨rfl, (((HX2.out.setCell (by dsimp only; omega) _).setCell (by dsimp only; omega) _).setCell (by dsimp only; omega) _).setCell (by dsimp only; omega) _⟩
  · have HF := Lib.hid (find_bad (t := t) hc)
    have hc' : (catFault d != 0) = true := by simpa using hc
    have z0 := HR1.out.frozen 0
    have z1 := HR1.out.frozen 1
    have z2 := HR1.out.frozen 2
    have z3 := HR1.out.frozen 3
    have m0 := HR1.out.cell 0
    have m1 := HR1.out.cell 1
    have m2 := HR1.out.cell 2
    have m3 := HR1.out.cell 3
    simp at m0 m1 m2 m3
    clear hc
    generalize catFault d = u at *
    go_wp2_with fail
    have HB := Lib.hid ((((HR1.out.set 0 (.string .empty)).set 1 (.int .i64 0)).set 2 (.int .i64 0)).set 3 (.int .i64 0))
    refine bodyPost_ret (res_cell_tmp rfl rfl HB.out Tryz.underlying113 rfl (by kernel_rfl)) rfl ?_
    rw [HF.out]
    exact ⟨rfl, (((HX1.out.setCell (by dsimp only; omega) _).setCell (by dsimp only; omega) _).setCell (by dsimp only; omega) _).setCell (by dsimp only; omega) _⟩
end Go.Proofs.YtgjijcgkmofaaaaGreatDoor

/-
  A number from 0 to many - 1, out of any number. Conditions: many is more than 0.
-/
namespace Go.Proofs.YtgjijcgkmofaaaaGreatDoor
set_option linter.unusedSimpArgs false
set_option linter.unusedVariables false
open Go.RowKit

def pick (n many : Int) : Int := (if n < 0 then -(n + 1) else n) % many
theorem pick_range (n many : Int) (h : 0 < many) : 0 ≤ pick n many ∧ pick n many < many := ⟨Int.emod_nonneg _ (by omega), Int.emod_lt_of_pos _ h⟩
set_option maxRecDepth 100000 in
theorem picked_any (n many : Int) (w : World) (hn : I64 n) (h0 : 0 < many) (h1 : many ≤ 140737488355328) :
    Calls Tryz.prog 28 #[.int .i64 n, .int .i64 many] w fun e w' => e = .returned (.int .i64 (pick n many)) ∧ w' = w := by
  have hne : (many == 0) = false := beq_false_of_ne (by omega)
  have hne2 : ¬ many = 0 := by omega
  have hnm : ¬ many = -1 := by omega
  have hr := pick_range n many h0
  unfold I64 at hn
  by_cases h : n < 0
  · have hp : pick n many = (-(n + 1)) % many := by unfold pick; rw [if_pos h]
    have t1 : decide (n < 0) = true := decide_eq_true h
    obtain ⟨m, hm⟩ : ∃ m, m = -(n + 1) := ⟨_, rfl⟩
    have y1 : IntKind.i64.wrap (n + 1) = -m := by rw [IntKind.wrap_i64]; omega
    have y2 : IntKind.i64.wrap (- -m) = m := by rw [IntKind.wrap_i64]; omega
    have y2' : IntKind.i64.wrap m = m := by rw [IntKind.wrap_i64]; omega
    have hm0 : 0 ≤ m := by omega
    have y3 : IntKind.i64.wrap (m % many) = m % many := by rw [IntKind.wrap_i64]; rw [hp, ← hm] at hr; omega
    have y4 : Int.tmod m many = m % many := Int.tmod_eq_emod_of_nonneg hm0
    rw [hp, ← hm]
    rw [hp, ← hm] at hr
    have y5 : n + 1 = -m := by omega
    have hb1 : m ≤ 9223372036854775807 := by omega
    have hb2 : -9223372036854775808 ≤ n + 1 := by omega
    have hb3 : n + 1 ≤ 9223372036854775807 := by omega
    clear hm hp h
    go_enter Tryz.func28, Tryz.ntmps28
    go_wp2_with fail
    go_ret
    exact ⟨by first | rfl | (rw [y4, y3]) | (congr 3; omega), rfl⟩
  · have hp : pick n many = n % many := by unfold pick; rw [if_neg h]
    have t1 : decide (n < 0) = false := decide_eq_false h
    have hn0 : 0 ≤ n := by omega
    have y3 : IntKind.i64.wrap (n % many) = n % many := by rw [IntKind.wrap_i64]; rw [hp] at hr; omega
    have y4 : Int.tmod n many = n % many := Int.tmod_eq_emod_of_nonneg hn0
    rw [hp]
    rw [hp] at hr
    go_enter Tryz.func28, Tryz.ntmps28
    go_wp2_with fail
    go_ret
    exact ⟨by first | rfl | (rw [y4, y3]), rfl⟩
end Go.Proofs.YtgjijcgkmofaaaaGreatDoor

/-
  strings.Trim of zero bytes: what is left is empty just where all bytes are zero. Conditions: the text fits Go's limits.
-/
namespace Go.Proofs.YtgjijcgkmofaaaaGreatDoor
set_option linter.unusedSimpArgs false
set_option linter.unusedVariables false
open Go.RowKit

def zeros (s : ByteArray) : Bool := (lst s).all (· == 0)
/-- v is what is left of s. -/
def Trims (s v : ByteArray) : Prop := zeros v = zeros s ∧ v.size ≤ s.size
theorem zeros_left (s : ByteArray) (h : 0 < s.size) (h0 : s[0] = 0) : zeros (s.extract 1 s.size) = zeros s := by
  unfold zeros
  rw [lst_extract]
  have h1 : lst s = s[0] :: (lst s).drop 1 := by
    have := List.drop_eq_getElem_cons (l := lst s) (i := 0) (by rw [length_lst]; exact h)
    rw [List.drop_zero] at this
    exact this
  have h2 : sub_ s 1 s.size = (lst s).drop 1 := by unfold sub_; rw [List.take_of_length_le (by rw [length_lst]; exact Nat.le_refl _)]
  rw [h2]
  conv => rhs; rw [h1]
  rw [List.all_cons, h0]
  rfl
theorem zeros_left_no (s : ByteArray) (h : 0 < s.size) (h0 : s[0] ≠ 0) : zeros s = false := by
  unfold zeros
  have h1 : lst s = s[0] :: (lst s).drop 1 := by
    have := List.drop_eq_getElem_cons (l := lst s) (i := 0) (by rw [length_lst]; exact h)
    rw [List.drop_zero] at this
    exact this
  rw [h1, List.all_cons, beq_false_of_ne h0]
  rfl
theorem take_last (s : ByteArray) (n : Nat) (h : s.size = n + 1) : lst s = sub_ s 0 n ++ [s[n]] := by
  have h1 := List.take_append_getElem (l := lst s) (i := n) (by rw [length_lst]; omega)
  unfold sub_
  rw [List.drop_zero]
  rw [List.take_of_length_le (i := n + 1) (by rw [length_lst]; omega)] at h1
  exact h1.symm
theorem zeros_right (s : ByteArray) (n : Nat) (h : s.size = n + 1) (h0 : s[n] = 0) : zeros (s.extract 0 n) = zeros s := by
  unfold zeros
  rw [lst_extract]
  conv => rhs; rw [take_last s n h]
  rw [List.all_append, h0]
  simp
theorem zeros_right_no (s : ByteArray) (n : Nat) (h : s.size = n + 1) (h0 : s[n] ≠ 0) : zeros s = false := by
  unfold zeros
  rw [take_last s n h, List.all_append]
  have : ([s[n]].all (· == 0)) = false := by simp [h0]
  rw [this, Bool.and_false]
theorem zeros_empty (s : ByteArray) (h : s.size = 0) : zeros s = true := by
  unfold zeros
  rw [List.eq_nil_of_length_eq_zero (l := lst s) (by rw [length_lst]; exact h)]
  rfl
set_option maxRecDepth 100000 in
set_option maxHeartbeats 1000000 in
theorem trimLeft_any (s : ByteArray) (w : World) (hs : s.size ≤ 140737488355328) :
    Calls Tryz.prog 157 #[.string s, .int .u8 0] w fun e w' => w' = w ∧ ∃ v, e = .returned (.string v) ∧ zeros v = zeros s ∧ v.size ≤ s.size ∧ (zeros v = true → v.size = 0) := by
  go_enter Tryz.func157, Tryz.ntmps157
  go_wp2_with fail
  go_loop [0] (fun sv => ∃ v : ByteArray, sv = .string v ∧ zeros v = zeros s ∧ v.size ≤ s.size) (fun sv => match sv with | .string v => v.size | _ => 0)
  case atStart => exact ⟨s, rfl, rfl, Nat.le_refl _⟩
  case round =>
    obtain ⟨v, rfl, hz, hl⟩ := hrel
    have HZ := Lib.hid (And.intro hz hl)
    have hvI : (v.size : Int) ≤ 140737488355328 := by omega
    clear hz
    by_cases h0 : v.size = 0
    · have h0I : (v.size : Int) = 0 := by omega
      have hgt : decide ((0 : Int) < (v.size : Int)) = false := by rw [h0I]; rfl
      have HZ0 := Lib.hid h0
      have hng : ¬ 0 < v.size := by omega
      have hng2 : ¬ (0 : Int) < (v.size : Int) := by omega
      clear h0 h0I
      go_wp2_with fail
      go_ret
      exact ⟨rfl, v, rfl, HZ.out.1, HZ.out.2, fun _ => by first | exact HZ0.out | simpa using HZ0.out⟩
    · have hp : 0 < v.size := by omega
      have hpI : (0 : Int) < (v.size : Int) := by omega
      have hp1 : (1 : Int) ≤ (v.size : Int) := by omega
      obtain ⟨c, hc⟩ : ∃ c, c = v[0] := ⟨_, rfl⟩
      have hcI : ((v[0].toNat : Nat) : Int) = (c.toNat : Int) := by rw [hc]
      by_cases hc0 : c = 0
      · have HNX := Lib.hid (show zeros (v.extract 1 v.size) = zeros s by rw [zeros_left v hp (by rw [← hc]; exact hc0)]; exact HZ.out.1)
        have hct : ((c.toNat : Int) == 0) = true := by rw [hc0]; rfl
        have hcz : (c.toNat : Int) = 0 := by rw [hc0]; rfl
        have HSZ := Lib.hid (show (v.extract 1 v.size).size = v.size - 1 by rw [ByteArray.size_extract]; omega)
        have HP := Lib.hid hp
        clear hc hc0 h0
        go_wp2_with fail
        go_round
        case rel => exact ⟨v.extract 1 v.size, rfl, HNX.out, by rw [HSZ.out]; have := HZ.out.2; omega⟩
        case measure => show (v.extract 1 v.size).size < v.size; rw [HSZ.out]; have := HP.out; omega
      · have HNO := Lib.hid (zeros_left_no v hp (by rw [← hc]; exact hc0))
        have hct : ((c.toNat : Int) == 0) = false := beq_false_of_ne (fun h => hc0 (UInt8.toNat_inj.1 (by show c.toNat = 0; omega)))
        have hcz : ¬ (c.toNat : Int) = 0 := fun h => hc0 (UInt8.toNat_inj.1 (by show c.toNat = 0; omega))
        clear hc hc0 h0
        go_wp2_with fail
        go_ret
        exact ⟨rfl, v, rfl, HZ.out.1, HZ.out.2, fun h => by rw [HNO.out] at h; cases h⟩
set_option maxRecDepth 100000 in
set_option maxHeartbeats 1000000 in
theorem trimRight_any (s : ByteArray) (w : World) (hs : s.size ≤ 140737488355328) :
    Calls Tryz.prog 158 #[.string s, .int .u8 0] w fun e w' => w' = w ∧ ∃ v, e = .returned (.string v) ∧ zeros v = zeros s ∧ v.size ≤ s.size ∧ (zeros v = true → v.size = 0) := by
  go_enter Tryz.func158, Tryz.ntmps158
  go_wp2_with fail
  go_loop [0] (fun sv => ∃ v : ByteArray, sv = .string v ∧ zeros v = zeros s ∧ v.size ≤ s.size) (fun sv => match sv with | .string v => v.size | _ => 0)
  case atStart => exact ⟨s, rfl, rfl, Nat.le_refl _⟩
  case round =>
    obtain ⟨v, rfl, hz, hl⟩ := hrel
    have HZ := Lib.hid (And.intro hz hl)
    have hvI : (v.size : Int) ≤ 140737488355328 := by omega
    clear hz
    by_cases h0 : v.size = 0
    · have h0I : (v.size : Int) = 0 := by omega
      have hgt : decide ((0 : Int) < (v.size : Int)) = false := by rw [h0I]; rfl
      have HZ0 := Lib.hid h0
      have hng : ¬ 0 < v.size := by omega
      have hng2 : ¬ (0 : Int) < (v.size : Int) := by omega
      clear h0 h0I
      go_wp2_with fail
      go_ret
      exact ⟨rfl, v, rfl, HZ.out.1, HZ.out.2, fun _ => by first | exact HZ0.out | simpa using HZ0.out⟩
    · obtain ⟨n, hn⟩ : ∃ n, v.size = n + 1 := ⟨v.size - 1, by omega⟩
      have hp : 0 < v.size := by omega
      have hpI : (0 : Int) < (v.size : Int) := by omega
      have y1 : (v.size : Int) - 1 = (n : Int) := by omega
      have hnv : n < v.size := by omega
      have hnvI : (n : Int) < (v.size : Int) := by omega
      have hnvI2 : (n : Int) ≤ (v.size : Int) := by omega
      have hn47 : (n : Int) ≤ 140737488355328 := by omega
      obtain ⟨c, hc⟩ : ∃ c, c = v[n] := ⟨_, rfl⟩
      have hcI : ((v[n].toNat : Nat) : Int) = (c.toNat : Int) := by rw [hc]
      by_cases hc0 : c = 0
      · have HNX := Lib.hid (show zeros (v.extract 0 n) = zeros s by rw [zeros_right v n hn (by rw [← hc]; exact hc0)]; exact HZ.out.1)
        have hct : ((c.toNat : Int) == 0) = true := by rw [hc0]; rfl
        have hcz : (c.toNat : Int) = 0 := by rw [hc0]; rfl
        have HSZ := Lib.hid (show (v.extract 0 n).size = n by rw [ByteArray.size_extract]; omega)
        have HP := Lib.hid hn
        clear hc hc0 h0 hn
        go_wp2_with fail
        go_round
        case rel => exact ⟨v.extract 0 n, rfl, HNX.out, by rw [HSZ.out]; have := HZ.out.2; have := HP.out; omega⟩
        case measure => show (v.extract 0 n).size < v.size; rw [HSZ.out]; have := HP.out; omega
      · have HNO := Lib.hid (zeros_right_no v n hn (by rw [← hc]; exact hc0))
        have hct : ((c.toNat : Int) == 0) = false := beq_false_of_ne (fun h => hc0 (UInt8.toNat_inj.1 (by show c.toNat = 0; omega)))
        have hcz : ¬ (c.toNat : Int) = 0 := fun h => hc0 (UInt8.toNat_inj.1 (by show c.toNat = 0; omega))
        clear hc hc0 h0 hn
        go_wp2_with fail
        go_ret
        exact ⟨rfl, v, rfl, HZ.out.1, HZ.out.2, fun h => by rw [HNO.out] at h; cases h⟩
theorem size0_empty {s : ByteArray} (h : s.size = 0) : s = .empty := by
  have h1 : s = bs (lst s) := (bs_lst s).symm
  rw [h1, List.eq_nil_of_length_eq_zero (l := lst s) (by rw [length_lst]; exact h)]
  rfl
/-- What is left of a text: empty just where all its bytes are zero. -/
def Trimmed (v s : ByteArray) : Prop := zeros v = zeros s ∧ (zeros v = true → v = .empty)
theorem Trimmed.all {v s : ByteArray} (h : Trimmed v s) (hz : zeros s = true) : v = .empty := h.2 (h.1.trans hz)
theorem Trimmed.some {v s : ByteArray} (h : Trimmed v s) (hz : zeros s = false) : ¬ v = .empty := by
  rintro rfl
  have := h.1
  rw [hz] at this
  cases this
set_option maxRecDepth 100000 in
set_option maxHeartbeats 1000000 in
theorem trim_any (s : ByteArray) (w : World) (hs : s.size ≤ 140737488355328) :
    Calls Tryz.prog 121 #[.string s, .string ⟨#[0]⟩] w fun e w' => Ext w w' ∧ ∃ v, e = .returned (.string v) ∧ Trimmed v s := by
  by_cases h0 : s.size = 0
  · obtain rfl := size0_empty h0
    go_enter Tryz.func121, Tryz.ntmps121
    go_wp2_with fail
    go_ret
    exact ⟨Ext.refl _, _, rfl, rfl, fun _ => rfl⟩
  · have hne : (s.toList == []) = false := by
      rw [toList_lst]
      refine beq_false_of_ne (fun h => h0 ?_)
      rw [← length_lst, h]; rfl
    have hne2 : (lst s == []) = false := by rw [← toList_lst]; exact hne
    have hne3 : ¬ s = .empty := fun h => h0 (by rw [h]; rfl)
    have hne4 : ¬ s = ⟨#[]⟩ := fun h => h0 (by rw [h]; rfl)
    clear h0
    go_enter Tryz.func121, Tryz.ntmps121
    go_wp2_with fail
    refine wp_region_vals (F := ?_) ?_ [(fun (v : Value) (_ : World) => v = .string s), (fun (v : Value) (_ : World) => v = .string ⟨#[0]⟩), (fun (v : Value) (_ : World) => v = .int .u8 0), (fun v _ => ∃ u : ByteArray, v = .string u ∧ zeros u = zeros s ∧ u.size ≤ s.size), (fun (v : Value) (_ : World) => v = .string ⟨#[0]⟩), (fun (v : Value) (_ : World) => v = .int .u8 0), (fun v _ => ∃ u : ByteArray, v = .string u ∧ zeros u = zeros s ∧ u.size ≤ s.size ∧ (zeros u = true → u.size = 0)), (fun v _ => ∃ u : ByteArray, v = .string u ∧ zeros u = zeros s ∧ u.size ≤ s.size ∧ (zeros u = true → u.size = 0))] (by kernel_rfl) (by kernel_rfl) ?_ ?_ ?_
    rotate_left
    · intro vals
      simp only [putAll, Act.put, List.setIfInBounds_toArray, List.set_cons_zero, List.set_cons_succ, Nat.zero_add, Nat.reduceAdd]
      rfl
    · simp only [List.forall_mem_cons]
      exact ⟨fun _ _ _ h _ => h, fun _ _ _ h _ => h, fun _ _ _ h _ => h, fun _ _ _ h _ => h, fun _ _ _ h _ => h, fun _ _ _ h _ => h, fun _ _ _ h _ => h, fun _ _ _ h _ => h, fun _ h => (by cases h)⟩
    · refine ⟨?_, ?_, ?_, ?_, ?_, ?_, ?_, ?_, trivial⟩
      · intro vals W e hd ho K hK
        refine st_quiet (v := ?_) ?_ ?_
        rotate_left
        · go_simp
          rfl
        exact hK _ _ _ rfl (by first | exact rfl | exact congrArg (Value.int _) (by first | (rw [IntKind.wrap_i64]; omega) | (rw [IntKind.wrap_u8]; omega) | omega)) (Ext.refl _)
      · intro vals W e hd ho K hK
        refine st_quiet (v := ?_) ?_ ?_
        rotate_left
        · go_simp
          rfl
        exact hK _ _ _ rfl (by first | exact rfl | exact congrArg (Value.int _) (by first | (rw [IntKind.wrap_i64]; omega) | (rw [IntKind.wrap_u8]; omega) | omega)) (Ext.refl _)
      · intro vals W e hd ho K hK
        have h1 : vals 1 = .string ⟨#[0]⟩ := hd 1 (by kernel_rfl)
        refine st_quiet (v := ?_) ?_ ?_
        rotate_left
        · go_simp
          rfl
        exact hK _ _ _ rfl (by first | exact rfl | exact congrArg (Value.int _) (by first | (rw [IntKind.wrap_i64]; omega) | (rw [IntKind.wrap_u8]; omega) | omega)) (Ext.refl _)
      · intro vals W e hd ho K hK
        have h0 : vals 0 = .string s := hd 0 (by kernel_rfl)
        have h2 : vals 2 = .int .u8 0 := hd 2 (by kernel_rfl)
        go_wp2_with fail
        refine (trimRight_any s _ hs).mono ?_
        rintro e' W' ⟨hw', u, rfl, hz, hl, hn⟩
        subst hw'
        exact hK _ _ _ (by first | rfl | (simp only [h0, h2]; rfl)) ⟨u, rfl, hz, hl⟩ (Ext.refl _)
      · intro vals W e hd ho K hK
        refine st_quiet (v := ?_) ?_ ?_
        rotate_left
        · go_simp
          rfl
        exact hK _ _ _ rfl (by first | exact rfl | exact congrArg (Value.int _) (by first | (rw [IntKind.wrap_i64]; omega) | (rw [IntKind.wrap_u8]; omega) | omega)) (Ext.refl _)
      · intro vals W e hd ho K hK
        have h4 : vals 4 = .string ⟨#[0]⟩ := hd 4 (by kernel_rfl)
        refine st_quiet (v := ?_) ?_ ?_
        rotate_left
        · go_simp
          rfl
        exact hK _ _ _ rfl (by first | exact rfl | exact congrArg (Value.int _) (by first | (rw [IntKind.wrap_i64]; omega) | (rw [IntKind.wrap_u8]; omega) | omega)) (Ext.refl _)
      · intro vals W e hd ho K hK
        obtain ⟨u3, h3, z3, l3⟩ := hd 3 (by kernel_rfl)
        have h5 : vals 5 = .int .u8 0 := hd 5 (by kernel_rfl)
        go_wp2_with fail
        refine (trimLeft_any u3 _ (by omega)).mono ?_
        rintro e' W' ⟨hw', u, rfl, hz, hl, hn⟩
        subst hw'
        exact hK _ _ _ (by first | rfl | (simp only [h3, h5]; rfl)) ⟨u, rfl, by rw [hz, z3], by omega, hn⟩ (Ext.refl _)
      · intro vals W e hd ho K hK
        obtain ⟨u6, h6, z6, l6, n6⟩ := hd 6 (by kernel_rfl)
        refine st_quiet (v := .string u6) ?_ ?_
        · go_simp
          try rfl
        exact hK _ _ _ rfl ⟨u6, rfl, z6, l6, n6⟩ (Ext.refl _)
    intro vals W e hall
    obtain ⟨u7, h7, z7, l7, n7⟩ := hall 7 (by decide)
    clear hne hne2 hne3 hne4
    go_wp2_with fail
    go_ret
    exact ⟨(Ext.refl w).drew.trans e, u7, by first | rfl | (rw [h7]), z7, fun h => size0_empty (n7 h)⟩
end Go.Proofs.YtgjijcgkmofaaaaGreatDoor

/-
  The catalog's reader: so many bytes, and the number of one byte or two. Conditions: the reader's box stands in memory.
-/
namespace Go.Proofs.YtgjijcgkmofaaaaGreatDoor
set_option linter.unusedSimpArgs false
set_option linter.unusedVariables false
open Go.RowKit

def takeR (r : ByteArray) (e : Int) (n : Nat) : ByteArray × ByteArray × Int := if e = 0 then (if r.size < n then (.empty, r, 5) else (r.extract 0 n, r.extract n r.size, 0)) else (.empty, r, e)
def foldV (l : List UInt8) : Int := l.foldl (fun a c => 256 * a + (c.toNat : Int)) 0
def numR (r : ByteArray) (e : Int) (n : Nat) : Int × ByteArray × Int := (foldV (lst (takeR r e n).1), (takeR r e n).2.1, (takeR r e n).2.2)
theorem take_err {r : ByteArray} {e : Int} (n : Nat) (h : ¬ e = 0) : takeR r e n = (.empty, r, e) := by unfold takeR; rw [if_neg h]
theorem take_short {r : ByteArray} {n : Nat} (h : r.size < n) : takeR r 0 n = (.empty, r, 5) := by unfold takeR; rw [if_pos rfl, if_pos h]
theorem take_ok {r : ByteArray} {n : Nat} (h : ¬ r.size < n) : takeR r 0 n = (r.extract 0 n, r.extract n r.size, 0) := by unfold takeR; rw [if_pos rfl, if_neg h]
theorem take_len (r : ByteArray) (e : Int) (n : Nat) : (takeR r e n).1.size ≤ n ∧ (takeR r e n).2.1.size ≤ r.size := by
  unfold takeR
  split
  · split
    · exact ⟨Nat.zero_le _, Nat.le_refl _⟩
    · refine ⟨?_, ?_⟩
      · show (r.extract 0 n).size ≤ n
        rw [ByteArray.size_extract]; omega
      · show (r.extract n r.size).size ≤ r.size
        rw [ByteArray.size_extract]; omega
  · exact ⟨Nat.zero_le _, Nat.le_refl _⟩
theorem grownBy_trans {a b c : World} {row : Option Nat} (h : a.grownBy b row) (k : b.grownBy c row) : a.grownBy c row :=
  ⟨k.os.trans h.os, k.tape.trans h.tape, k.output.trans h.output, Nat.le_trans h.size k.size, fun i hi hne => (k.block i (Nat.lt_of_lt_of_le hi h.size) hne).trans (h.block i hi hne)⟩
theorem grownBy_refl (w : World) (row : Option Nat) : w.grownBy w row := (Ext.refl w).by_ row
set_option maxRecDepth 100000 in
set_option maxHeartbeats 1000000 in
theorem take_any (w : World) (br : Nat) (r : ByteArray) (e : Int) (n : Nat) (h : Blk_ w br 182 #[.string r, .int .i64 e]) (hr : r.size ≤ 140737488355328) (hn : n ≤ 255) :
    Calls Tryz.prog 120 #[.pointer (some ⟨br, 0, none⟩), .int .i64 n] w fun en w' => en = .returned (.string (takeR r e n).1) ∧ w.grownBy w' (some br) ∧ Blk_ w' br 182 #[.string (takeR r e n).2.1, .int .i64 (takeR r e n).2.2] := by
  have f0 := h.cell 0
  have f1 := h.cell 1
  have z0 := h.frozen 0
  have z1 := h.frozen 1
  simp at f0 f1
  have HB := Lib.hid h
  have hrI : (r.size : Int) ≤ 140737488355328 := by omega
  have hnI : (n : Int) ≤ 255 := by omega
  have hn0 : (0 : Int) ≤ (n : Int) := by omega
  clear h
  by_cases he : e = 0
  · subst he
    by_cases hs : r.size < n
    · have HT := Lib.hid (take_short hs)
      rw [HT.out]
      have hsI : (r.size : Int) < (n : Int) := by omega
      have hst : decide ((r.size : Int) < (n : Int)) = true := decide_eq_true hsI
      have HB2 := Lib.hid (HB.out.set 1 (.int .i64 5))
      go_enter Tryz.func120, Tryz.ntmps120
      go_wp2_with fail
      go_ret
      exact ⟨rfl, setRow_by w br 1 _, HB2.out⟩
    · have HT := Lib.hid (take_ok hs)
      rw [HT.out]
      have hsI : (n : Int) ≤ (r.size : Int) := by omega
      have hst : decide ((r.size : Int) < (n : Int)) = false := decide_eq_false (by omega)
      have hsn : n ≤ r.size := by omega
      obtain ⟨q, hq⟩ : ∃ q, q = r.extract 0 n := ⟨_, rfl⟩
      obtain ⟨x, hx⟩ : ∃ x, x = r.extract n r.size := ⟨_, rfl⟩
      rw [← hq, ← hx]
      have HQ := Lib.hid (And.intro hq hx)
      have HB2 := Lib.hid (HB.out.set 0 (.string x))
      clear hq hx hs
      go_enter Tryz.func120, Tryz.ntmps120
      go_wp2_with fail
      go_ret
      rw [← HQ.out.1, ← HQ.out.2]
      exact ⟨rfl, setRow_by w br 0 _, HB2.out⟩
  · have HT := Lib.hid (take_err (r := r) n he)
    rw [HT.out]
    have he1 : (e == 0) = false := beq_false_of_ne he
    have he2 : (e != 0) = true := by simp [bne, he1]
    clear he
    go_enter Tryz.func120, Tryz.ntmps120
    go_wp2_with fail
    go_ret
    exact ⟨rfl, grownBy_refl w _, HB.out⟩
theorem foldV_snoc (l : List UInt8) (c : UInt8) : foldV (l ++ [c]) = 256 * foldV l + (c.toNat : Int) := by simp [foldV]
theorem foldV_nil : foldV [] = 0 := rfl
set_option maxRecDepth 100000 in
set_option maxHeartbeats 1000000 in
theorem number_any (w : World) (br : Nat) (r : ByteArray) (e : Int) (n : Nat) (h : Blk_ w br 182 #[.string r, .int .i64 e]) (hr : r.size ≤ 140737488355328) (hn : n ≤ 2) :
    Calls Tryz.prog 119 #[.pointer (some ⟨br, 0, none⟩), .int .i64 n] w fun en w' => en = .returned (.int .i64 (numR r e n).1) ∧ w.grownBy w' (some br) ∧ Blk_ w' br 182 #[.string (numR r e n).2.1, .int .i64 (numR r e n).2.2] := by
  unfold numR
  have HB := Lib.hid h
  clear h
  go_enter Tryz.func119, Tryz.ntmps119
  go_wp2_with fail
  refine (take_any w br r e n HB.out hr (by omega)).mono ?_
  rintro en w1 ⟨rfl, hg, hb⟩
  have hsz := (take_len r e n).1
  obtain ⟨T, hT⟩ : ∃ T, T = takeR r e n := ⟨_, rfl⟩
  rw [← hT] at hb hsz ⊢
  obtain ⟨t, x, e'⟩ := T
  dsimp only at hb hsz ⊢
  have HG := Lib.hid hg
  have HB1 := Lib.hid hb
  have HT := Lib.hid hT
  have ht2 : t.size ≤ 2 := by omega
  have ht2I : (t.size : Int) ≤ 2 := by omega
  clear hT hg hb hsz
  go_wp2_with (refine wpList_tobytes (.tmp 10) 9 95 5 rfl rfl Tryz.underlying9 Tryz.underlying95 Tryz.underlying5 t rfl ?_)
  intro gb cap w2 hgb e2 hbuf hcap
  have HG2 := Lib.hid (grownBy_trans HG.out (e2.by_ (some br)))
  have HB2 := Lib.hid (HB1.out.ext e2)
  have HBF := Lib.hid hbuf
  clear hgb e2 hbuf hcap
  go_wp2_with fail
  go_loop [5, 13] (fun nv iv => ∃ i : Nat, nv = .int .i64 (foldV ((lst t).take i)) ∧ iv = .int .i64 i ∧ i ≤ t.size) (fun _ iv => t.size - (intOf iv).toNat)
  case atStart => exact ⟨0, rfl, rfl, Nat.zero_le _⟩
  case round =>
    obtain ⟨i, rfl, rfl, hi⟩ := hrel
    by_cases hlt : i < t.size
    · have hil : i < (lst t).length := by rw [length_lst]; exact hlt
      have bp := HBF.out.cell i hil
      obtain ⟨c, hc⟩ : ∃ c, c = (lst t).getD i 0 := ⟨_, rfl⟩
      rw [← hc] at bp
      have hcb := u8_hi c
      have hst : foldV ((lst t).take (i + 1)) = 256 * foldV ((lst t).take i) + (c.toNat : Int) := by
        rw [← foldV_snoc]
        congr 1
        rw [List.take_succ_eq_append_getElem hil, hc, List.getD_eq_getElem?_getD, List.getElem?_eq_getElem hil]
        rfl
      have hv : ∃ a : Nat, a < 256 ∧ foldV ((lst t).take i) = (a : Int) := by
        match i with
        | 0 => exact ⟨0, by omega, rfl⟩
        | 1 =>
          refine ⟨((lst t).getD 0 0).toNat, UInt8.toNat_lt _, ?_⟩
          rw [show (1 : Nat) = 0 + 1 from rfl, List.take_succ_eq_append_getElem (by omega)]
          simp [foldV, List.getD_eq_getElem?_getD, List.getElem?_eq_getElem (show 0 < (lst t).length by omega)]
        | j + 2 => omega
      obtain ⟨a, ha, hv⟩ := hv
      rw [hv] at hst ⊢
      have hbits := sector_bits a c.toNat ha (by omega)
      have haI : (a : Int) < 256 := by omega
      have hwr : IntKind.i64.wrap ((a : Int) * 256) = (a : Int) * 256 := by rw [IntKind.wrap_i64]; omega
      have HST := Lib.hid hst
      have hltI : (i : Int) < (t.size : Int) := by omega
      have hi2 : (i : Int) < 2 := by omega
      clear hst hc hv
      go_wp2_with fail
      go_round
      case rel => exact ⟨i + 1, by rw [HST.out], by go_num, by omega⟩
      case measure => simp [intOf]; omega
    · have HF := Lib.hid (show foldV ((lst t).take i) = foldV (lst t) by rw [List.take_of_length_le (by rw [length_lst]; omega)])
      have hge : ¬ (i : Int) < (t.size : Int) := by omega
      obtain ⟨v, hv⟩ : ∃ v, v = foldV (lst t) := ⟨_, rfl⟩
      have HV := Lib.hid hv
      rw [HF.out, ← hv]
      clear hv HF
      go_wp2_with fail
      go_ret
      rw [← HT.out]
      exact ⟨by rw [HV.out]; rfl, HG2.out, HB2.out⟩
end Go.Proofs.YtgjijcgkmofaaaaGreatDoor

/-
  A catalog out of bytes, read step by step: what each reading leaves. Conditions: none.
-/
namespace Go.Proofs.YtgjijcgkmofaaaaGreatDoor
set_option linter.unusedSimpArgs false
set_option linter.unusedVariables false
open Go.RowKit

theorem bs_size (l : List UInt8) : (bs l).size = l.length := size_bs l
theorem bs_ext (l : List UInt8) (a b : Nat) : (bs l).extract a b = bs ((l.take b).drop a) := by
  have h : lst ((bs l).extract a b) = (l.take b).drop a := by rw [lst_extract]; unfold sub_; rw [lst_bs]
  rw [← h, bs_lst]
theorem tk_ok {l : List UInt8} {n : Nat} (h : n ≤ l.length) : takeR (bs l) 0 n = (bs (l.take n), bs (l.drop n), 0) := by
  rw [take_ok (by rw [bs_size]; omega), bs_ext, bs_ext, bs_size, List.take_length, List.drop_zero]
theorem tk_no {l : List UInt8} {n : Nat} (h : l.length < n) : takeR (bs l) 0 n = (.empty, bs l, 5) := take_short (by rw [bs_size]; exact h)
theorem tk_err (r : ByteArray) (n : Nat) : takeR r 5 n = (.empty, r, 5) := take_err n (by decide)
theorem nu_err (r : ByteArray) (n : Nat) : numR r 5 n = (0, r, 5) := by unfold numR; rw [tk_err]; rfl
theorem n1_ok (a : UInt8) (t : List UInt8) : numR (bs (a :: t)) 0 1 = ((a.toNat : Int), bs t, 0) := by
  unfold numR
  rw [tk_ok (by simp)]
  simp [foldV]
theorem n1_no : numR (bs []) 0 1 = (0, bs [], 5) := by
  unfold numR
  rw [tk_no (by simp)]
  rfl
theorem n2_ok (a b : UInt8) (t : List UInt8) : numR (bs (a :: b :: t)) 0 2 = (256 * (a.toNat : Int) + (b.toNat : Int), bs t, 0) := by
  unfold numR
  rw [tk_ok (by simp)]
  simp [foldV]
theorem n2_no {l : List UInt8} (h : l.length < 2) : numR (bs l) 0 2 = (0, bs l, 5) := by
  unfold numR
  rw [tk_no h]
  rfl
theorem num_bound (r : ByteArray) (e : Int) (n : Nat) (hn : n ≤ 2) : 0 ≤ (numR r e n).1 ∧ (numR r e n).1 ≤ 65535 ∧ (n ≤ 1 → (numR r e n).1 ≤ 255) ∧ (numR r e n).2.1.size ≤ r.size := by
  have hl := take_len r e n
  unfold numR
  generalize takeR r e n = T at *
  obtain ⟨t, x, e'⟩ := T
  dsimp only at hl ⊢
  have hlen : (lst t).length ≤ n := by rw [length_lst]; exact hl.1
  match h : lst t with
  | [] => exact ⟨by decide, by decide, fun _ => by decide, hl.2⟩
  | [a] =>
    have := u8_bd a
    refine ⟨?_, ?_, fun _ => ?_, hl.2⟩ <;> (simp only [foldV, List.foldl]; omega)
  | [a, b] =>
    have := u8_bd a
    have := u8_bd b
    rw [h] at hlen
    simp only [List.length_cons, List.length_nil] at hlen
    refine ⟨?_, ?_, fun _ => by omega, hl.2⟩ <;> (simp only [foldV, List.foldl]; omega)
  | a :: b :: c :: l =>
    rw [h] at hlen
    simp only [List.length_cons] at hlen
    omega
theorem num_e (r : ByteArray) (e : Int) (n : Nat) (h : e = 0 ∨ e = 5) : (numR r e n).2.2 = 0 ∨ (numR r e n).2.2 = 5 := by
  unfold numR takeR
  dsimp only
  rcases h with rfl | rfl
  · rw [if_pos rfl]
    split
    · exact .inr rfl
    · exact .inl rfl
  · exact .inr rfl
theorem take_e (r : ByteArray) (e : Int) (n : Nat) (h : e = 0 ∨ e = 5) : (takeR r e n).2.2 = 0 ∨ (takeR r e n).2.2 = 5 := num_e r e n h
/-- A block. -/
theorem blk_step (r : ByteArray) (j : Nat) (p : Int) :
    ((numR r 0 2).2.2 = 0 ∧ decBlocks (j + 1) p (lst r) = (decBlocks j (p + secs (numR r 0 2).1) (lst (numR r 0 2).2.1)).map (fun y => (⟨p, (numR r 0 2).1⟩ :: y.1, y.2))) ∨
    ((numR r 0 2).2.2 = 5 ∧ decBlocks (j + 1) p (lst r) = none) := by
  obtain ⟨l, rfl⟩ : ∃ l, r = bs l := ⟨lst r, (bs_lst r).symm⟩
  rw [lst_bs]
  match l with
  | [] => right; rw [n2_no (by simp)]; exact ⟨rfl, rfl⟩
  | [a] => right; rw [n2_no (by simp)]; exact ⟨rfl, rfl⟩
  | a :: b :: t => left; rw [n2_ok, lst_bs]; exact ⟨rfl, rfl⟩
theorem getD_at (l : List UInt8) (m i : Nat) : l.getD (m + i) 0 = (l.drop m).getD i 0 := by
  rw [List.getD_eq_getElem?_getD, List.getD_eq_getElem?_getD, List.getElem?_drop]
/-- An entry. -/
theorem ent_step (r : ByteArray) (j m : Nat) (hm : (numR r 0 1).1 = (m : Int)) (x2 : ByteArray × ByteArray × Int) (h2 : x2 = takeR (numR r 0 1).2.1 (numR r 0 1).2.2 m) (x3 x4 x5 : Int × ByteArray × Int) (h3 : x3 = numR x2.2.1 x2.2.2 1) (h4 : x4 = numR x3.2.1 x3.2.2 2) (h5 : x5 = numR x4.2.1 x4.2.2 1) :
    (x5.2.2 = 0 ∧ decEnts (j + 1) (lst r) = (decEnts j (lst x5.2.1)).map (fun y => (⟨x2.1, x3.1, x4.1, x5.1⟩ :: y.1, y.2))) ∨ (x5.2.2 = 5 ∧ decEnts (j + 1) (lst r) = none) := by
  obtain ⟨l, rfl⟩ : ∃ l, r = bs l := ⟨lst r, (bs_lst r).symm⟩
  rw [lst_bs]
  match l with
  | [] =>
    rw [n1_no] at h2
    dsimp only at h2
    rw [tk_err] at h2; subst h2
    dsimp only at h3
    rw [nu_err] at h3; subst h3
    dsimp only at h4
    rw [nu_err] at h4; subst h4
    dsimp only at h5
    rw [nu_err] at h5; subst h5
    exact .inr ⟨rfl, rfl⟩
  | c :: l =>
    rw [n1_ok] at h2 hm
    dsimp only at h2 hm
    obtain rfl : m = c.toNat := by omega
    by_cases hlm : l.length < c.toNat
    · rw [tk_no hlm] at h2; subst h2
      dsimp only at h3
      rw [nu_err] at h3; subst h3
      dsimp only at h4
      rw [nu_err] at h4; subst h4
      dsimp only at h5
      rw [nu_err] at h5; subst h5
      refine .inr ⟨rfl, ?_⟩
      rw [decEnts, if_pos (by omega)]
    · rw [tk_ok (by omega)] at h2; subst h2
      dsimp only at h3 ⊢
      have hd : (l.drop c.toNat).length = l.length - c.toNat := List.length_drop
      have g0 := getD_at l c.toNat 0
      have g1 := getD_at l c.toNat 1
      have g2 := getD_at l c.toNat 2
      have g3 := getD_at l c.toNat 3
      have gd : l.drop (c.toNat + 4) = (l.drop c.toNat).drop 4 := by rw [List.drop_drop]
      have ht : entAt c.toNat l = ⟨bs (l.take c.toNat), (l.getD (c.toNat + 0) 0).toNat, 256 * ((l.getD (c.toNat + 1) 0).toNat : Int) + (l.getD (c.toNat + 2) 0).toNat, (l.getD (c.toNat + 3) 0).toNat⟩ := rfl
      generalize l.drop c.toNat = D at *
      match D with
      | [] =>
        rw [n1_no] at h3; subst h3
        dsimp only at h4
        rw [nu_err] at h4; subst h4
        dsimp only at h5
        rw [nu_err] at h5; subst h5
        refine .inr ⟨rfl, ?_⟩
        rw [decEnts, if_pos (by simp at hd; omega)]
      | [b] =>
        rw [n1_ok] at h3; subst h3
        dsimp only at h4
        rw [n2_no (by simp)] at h4; subst h4
        dsimp only at h5
        rw [nu_err] at h5; subst h5
        refine .inr ⟨rfl, ?_⟩
        rw [decEnts, if_pos (by simp at hd; omega)]
      | [b, a1] =>
        rw [n1_ok] at h3; subst h3
        dsimp only at h4
        rw [n2_no (by simp)] at h4; subst h4
        dsimp only at h5
        rw [nu_err] at h5; subst h5
        refine .inr ⟨rfl, ?_⟩
        rw [decEnts, if_pos (by simp at hd; omega)]
      | [b, a1, a2] =>
        rw [n1_ok] at h3; subst h3
        dsimp only at h4
        rw [n2_ok] at h4; subst h4
        dsimp only at h5
        rw [n1_no] at h5; subst h5
        refine .inr ⟨rfl, ?_⟩
        rw [decEnts, if_pos (by simp at hd; omega)]
      | b :: a1 :: a2 :: y :: t =>
        rw [n1_ok] at h3; subst h3
        dsimp only at h4
        rw [n2_ok] at h4; subst h4
        dsimp only at h5
        rw [n1_ok] at h5; subst h5
        refine .inl ⟨rfl, ?_⟩
        rw [decEnts, if_neg (by simp at hd; omega), gd, ht, g0, g1, g2, g3, lst_bs]
        rfl
/-- What is left to be said of the entries; of the blocks. -/
def MM (bl : List Blk) (o : Option (List Ent × List UInt8)) : Cat × Int := match o with | none => (noCat, 5) | some (es, r) => endCat bl es r
def KK (o : Option (List Blk × List UInt8)) : Cat × Int := match o with | none => (noCat, 5) | some (_, []) => (noCat, 5) | some (bl, k :: r) => MM bl (decEnts k.toNat r)
theorem cat_start (s : ByteArray) : ((numR s 0 1).2.2 = 0 ∧ decCatS s = KK (decBlocks (numR s 0 1).1.toNat 8 (lst (numR s 0 1).2.1))) ∨ ((numR s 0 1).2.2 = 5 ∧ (numR s 0 1).1 = 0 ∧ decCatS s = (noCat, 5)) := by
  obtain ⟨l, rfl⟩ : ∃ l, s = bs l := ⟨lst s, (bs_lst s).symm⟩
  unfold decCatS
  rw [lst_bs]
  match l with
  | [] => right; rw [n1_no]; exact ⟨rfl, rfl, rfl⟩
  | c :: t =>
    left
    rw [n1_ok, lst_bs]
    refine ⟨rfl, ?_⟩
    dsimp only
    unfold decCatL KK MM
    rw [Int.toNat_natCast]
    rfl
theorem cat_mid (bl : List Blk) (r : ByteArray) : ((numR r 0 1).2.2 = 0 ∧ KK (some (bl, lst r)) = MM bl (decEnts (numR r 0 1).1.toNat (lst (numR r 0 1).2.1))) ∨ ((numR r 0 1).2.2 = 5 ∧ (numR r 0 1).1 = 0 ∧ KK (some (bl, lst r)) = (noCat, 5)) := by
  obtain ⟨l, rfl⟩ : ∃ l, r = bs l := ⟨lst r, (bs_lst r).symm⟩
  rw [lst_bs]
  match l with
  | [] => right; rw [n1_no]; exact ⟨rfl, rfl, rfl⟩
  | c :: t =>
    left
    rw [n1_ok, lst_bs]
    refine ⟨rfl, ?_⟩
    dsimp only
    unfold KK
    rw [Int.toNat_natCast]
/-- Where the blocks stand; where the entries stand. -/
def BSt (R : Cat × Int) (j : Nat) (p : Int) (bl : List Blk) (r : ByteArray) (e : Int) : Prop := (e = 0 ∧ R = KK ((decBlocks j p (lst r)).map (fun y => (bl ++ y.1, y.2)))) ∨ (e = 5 ∧ R = (noCat, 5))
def ESt (R : Cat × Int) (j : Nat) (bl : List Blk) (es : List Ent) (r : ByteArray) (e : Int) : Prop := (e = 0 ∧ R = MM bl ((decEnts j (lst r)).map (fun y => (es ++ y.1, y.2)))) ∨ (e = 5 ∧ R = (noCat, 5))
theorem BSt.start (s : ByteArray) : BSt (decCatS s) (numR s 0 1).1.toNat 8 [] (numR s 0 1).2.1 (numR s 0 1).2.2 := by
  rcases cat_start s with ⟨h1, h2⟩ | ⟨h1, _, h2⟩
  · left
    refine ⟨h1, ?_⟩
    rw [h2]
    congr 1
    cases decBlocks (numR s 0 1).1.toNat 8 (lst (numR s 0 1).2.1) <;> rfl
  · exact .inr ⟨h1, h2⟩
theorem BSt.step {R : Cat × Int} {j : Nat} {p : Int} {bl : List Blk} {r : ByteArray} (h : BSt R (j + 1) p bl r 0) : BSt R j (p + secs (numR r 0 2).1) (bl ++ [⟨p, (numR r 0 2).1⟩]) (numR r 0 2).2.1 (numR r 0 2).2.2 := by
  rcases h with ⟨_, h⟩ | ⟨h0, _⟩
  · rcases blk_step r j p with ⟨h1, h2⟩ | ⟨h1, h2⟩
    · left
      refine ⟨h1, ?_⟩
      rw [h, h2, Option.map_map]
      congr 2
      funext y
      simp
    · right
      refine ⟨h1, ?_⟩
      rw [h, h2]
      rfl
  · exact absurd h0 (by decide)
theorem BSt.mid {R : Cat × Int} {p : Int} {bl : List Blk} {r : ByteArray} {e : Int} (h : BSt R 0 p bl r e ∨ (e = 5 ∧ R = (noCat, 5))) : ESt R (numR r e 1).1.toNat bl [] (numR r e 1).2.1 (numR r e 1).2.2 ∧ (e = 5 → (numR r e 1).1 = 0) := by
  have key : (e = 0 ∧ R = KK (some (bl, lst r))) ∨ (e = 5 ∧ R = (noCat, 5)) := by
    rcases h with (⟨h1, h2⟩ | h) | h
    · left
      refine ⟨h1, ?_⟩
      rw [h2]
      simp [decBlocks]
    · exact .inr h
    · exact .inr h
  clear h
  rcases key with ⟨rfl, h⟩ | ⟨rfl, h⟩
  · refine ⟨?_, fun h => absurd h (by decide)⟩
    rcases cat_mid bl r with ⟨h1, h2⟩ | ⟨h1, _, h2⟩
    · left
      refine ⟨h1, ?_⟩
      rw [h, h2]
      congr 1
      cases decEnts (numR r 0 1).1.toNat (lst (numR r 0 1).2.1) <;> rfl
    · exact .inr ⟨h1, h.trans h2⟩
  · rw [nu_err]
    exact ⟨.inr ⟨rfl, h⟩, fun _ => rfl⟩
theorem ESt.step {R : Cat × Int} {j m : Nat} {bl : List Blk} {es : List Ent} {r : ByteArray} (h : ESt R (j + 1) bl es r 0) (hm : (numR r 0 1).1 = (m : Int)) (x2 : ByteArray × ByteArray × Int) (h2 : x2 = takeR (numR r 0 1).2.1 (numR r 0 1).2.2 m) (x3 x4 x5 : Int × ByteArray × Int) (h3 : x3 = numR x2.2.1 x2.2.2 1) (h4 : x4 = numR x3.2.1 x3.2.2 2) (h5 : x5 = numR x4.2.1 x4.2.2 1) :
    ESt R j bl (es ++ [⟨x2.1, x3.1, x4.1, x5.1⟩]) x5.2.1 x5.2.2 := by
  rcases h with ⟨_, h⟩ | ⟨h0, _⟩
  · rcases ent_step r j m hm x2 h2 x3 x4 x5 h3 h4 h5 with ⟨k1, k2⟩ | ⟨k1, k2⟩
    · left
      refine ⟨k1, ?_⟩
      rw [h, k2, Option.map_map]
      congr 2
      funext y
      simp
    · right
      refine ⟨k1, ?_⟩
      rw [h, k2]
      rfl
  · exact absurd h0 (by decide)
theorem ESt.fin {R : Cat × Int} {bl : List Blk} {es : List Ent} {r : ByteArray} (h : ESt R 0 bl es r 0) : R = endCat bl es (lst r) := by
  rcases h with ⟨_, h⟩ | ⟨h0, _⟩
  · rw [h]
    simp [decEnts, MM]
  · exact absurd h0 (by decide)
theorem ESt.bad {R : Cat × Int} {j : Nat} {bl : List Blk} {es : List Ent} {r : ByteArray} (h : ESt R j bl es r 5) : R = (noCat, 5) := by
  rcases h with ⟨h0, _⟩ | ⟨_, h⟩
  · exact absurd h0 (by decide)
  · exact h
end Go.Proofs.YtgjijcgkmofaaaaGreatDoor
