/-
  catalog.Find and the document's FoundOf: the file of a name; the law CatalogFinds. Conditions: the argument reads as a catalog.
-/
import Derived.Test.YtokpjgpdkmimgaaWCatCheck
import Derived.Test.YtokpjgpdkmimgaaWCatNext
import Derived.Test.YtokpjgpdkmimgaaPFind
import Derived.Test.YtokpjgpdkmimgaaSCompare
namespace Go.Proofs.Ytokpjgpdkmimgaa
set_option linter.unusedSimpArgs false
set_option linter.unusedVariables false
open Go.RowKit

def entV (x : Ent) : Value := .agg #[.string x.name, .int .i64 x.block, .int .i64 x.at_, .int .i64 x.bytes]
theorem find_bad {c : Cat} {t : ByteArray} (h : ¬ catFault c = 0) : findS c t = (noEnt, catFault c) := by unfold findS; rw [if_neg h]
theorem find_none {c : Cat} {t : ByteArray} (h : catFault c = 0) (hf : c.entries.find? (fun x => decide (lst x.name = lst t)) = none) : findS c t = (noEnt, 6) := by unfold findS; rw [if_pos h, hf]
theorem find_some {c : Cat} {t : ByteArray} {x : Ent} (h : catFault c = 0) (hf : c.entries.find? (fun x => decide (lst x.name = lst t)) = some x) : findS c t = (x, 0) := by unfold findS; rw [if_pos h, hf]
set_option maxRecDepth 100000 in
theorem cmp1_any (x : Ent) (t : ByteArray) (w : World) :
    Calls Try.prog 41 #[entV x, .string t] w fun e w' => e = .returned (.int .i64 (Lib.compareBytes (lst x.name) (lst t))) ∧ Ext w w' := by
  unfold entV
  go_enter Try.func41, Try.ntmps41
  go_wp2_with fail
  refine (compare_any x.name t _).mono ?_
  rintro e w1 ⟨rfl, rfl⟩
  go_wp2_with fail
  go_ret
  exact ⟨rfl, (Ext.refl w).alloc _⟩
set_option maxRecDepth 100000 in
set_option maxHeartbeats 4000000 in
theorem search_any (A2 : Option Addr) (c2 : Nat) (l : List Ent) (t : ByteArray) (w : World)
    (hS : ∀ k, k < l.length → ∃ b o, A2 = some ⟨b, o, none⟩ ∧ ∀ (i : Nat) (hi : i < l.length) (j : Nat) (u : Value), (encEnt l[i])[j]? = some u → w.cell? ⟨b, o + i * 4 + j, none⟩ = some u)
    (hr : Rising l) (hn : l.length ≤ 10) :
    Calls Try.prog 40 #[.slice A2 l.length c2, .string t, .func (.func 41) #[] #[]] w fun e w' => ∃ (i : Nat) (b : Bool), e = .returned (.tuple #[.int .i64 i, .bool b]) ∧ Ext w w' ∧
      (b = true → ∃ h : i < l.length, l.find? (fun x => decide (lst x.name = lst t)) = some l[i]) ∧ (b = false → l.find? (fun x => decide (lst x.name = lst t)) = none) := by
  have HS := Lib.hid hS
  have HR := Lib.hid hr
  have hn10 : (l.length : Int) ≤ 10 := by omega
  clear hS hr
  go_enter Try.func40, Try.ntmps40
  go_wp2_with fail
  go_loopw [9, 10] (fun iv jv wr => ∃ i j : Nat, iv = .int .i64 i ∧ jv = .int .i64 j ∧ i ≤ j ∧ j ≤ l.length ∧ Ext w wr ∧ Cut_ l t i j) (fun iv jv _ => (intOf jv).toNat - (intOf iv).toNat)
  case atStart => exact ⟨0, l.length, rfl, rfl, Nat.zero_le _, Nat.le_refl _, Ext.refl _, cut_start l t⟩
  case round =>
    obtain ⟨i, j, rfl, rfl, hij, hj, hx, hc⟩ := hrel
    have HC := Lib.hid hc
    clear hc
    by_cases hlt : i < j
    · obtain ⟨h, hh⟩ : ∃ h, h = (i + j) / 2 := ⟨_, rfl⟩
      have hhl : h < l.length := by omega
      have hih : i ≤ h ∧ h < j := by omega
      have y1 : IntKind.u64.wrap ((i : Int) + (j : Int)) = (i : Int) + (j : Int) := by rw [IntKind.wrap_u64]; omega
      have y2 : ((i : Int) + (j : Int)) / 2 = (h : Int) := by omega
      have y3 : IntKind.i64.wrap (h : Int) = (h : Int) := by rw [IntKind.wrap_i64]; omega
      have hh10 : (h : Int) < 10 := by omega
      have hhI : (h : Int) < (l.length : Int) := by omega
      obtain ⟨b2, o2, rfl, g1⟩ := HS.out h hhl
      have q0 := hx.cell (g1 h hhl 0 _ rfl)
      have q1 := hx.cell (g1 h hhl 1 _ rfl)
      have q2 := hx.cell (g1 h hhl 2 _ rfl)
      have q3 := hx.cell (g1 h hhl 3 _ rfl)
      simp only [Nat.add_zero] at q0
      have HUP := Lib.hid (fun hl => cut_up HR.out HC.out hhl hl)
      have HDN := Lib.hid (fun hl => cut_down HR.out HC.out hhl hl)
      obtain ⟨X, hX⟩ : ∃ X, X = l[h] := ⟨_, rfl⟩
      rw [← hX] at q0 q1 q2 q3 HUP HDN
      have HIH := Lib.hid (And.intro hih (And.intro hij hj))
      have HX := Lib.hid hx
      have hltI : (i : Int) < (j : Int) := by omega
      have hj10 : (j : Int) ≤ 10 := by omega
      clear g1 hX hh hih hx HC hij hj
      go_wp2_with fail
      refine (cmp1_any X t _).mono ?_
      rintro e w1 ⟨rfl, hx1⟩
      have HX1 := Lib.hid (HX.out.trans hx1)
      have hcn := cmp_neg (lst X.name) (lst t)
      obtain ⟨r, hrr⟩ : ∃ r, r = Lib.compareBytes (lst X.name) (lst t) := ⟨_, rfl⟩
      rw [← hrr] at hcn ⊢
      clear hx1 hrr q0 q1 q2 q3
      cases hb : Op.bytesLess (lst X.name) (lst t) with
      | true =>
        have HU := Lib.hid (HUP.out hb)
        rw [hb] at hcn
        clear hb
        go_wp2_with fail
        go_roundw
        case rel => exact ⟨h + 1, j, by go_num, rfl, by have := HIH.out; omega, HIH.out.2.2, HX1.out, HU.out⟩
        case measure => have := HIH.out; simp [intOf]; omega
      | false =>
        have HD := Lib.hid (HDN.out hb)
        rw [hb] at hcn
        clear hb
        go_wp2_with fail
        go_roundw
        case rel => exact ⟨i, h, rfl, by go_num, HIH.out.1.1, by omega, HX1.out, HD.out⟩
        case measure => have := HIH.out; simp [intOf]; omega
    · obtain rfl : i = j := by omega
      have HX := Lib.hid hx
      by_cases hi : i < l.length
      · have hiI : (i : Int) < (l.length : Int) := by omega
        have hi10 : (i : Int) < 10 := by omega
        obtain ⟨b2, o2, rfl, g1⟩ := HS.out i hi
        have q0 := hx.cell (g1 i hi 0 _ rfl)
        have q1 := hx.cell (g1 i hi 1 _ rfl)
        have q2 := hx.cell (g1 i hi 2 _ rfl)
        have q3 := hx.cell (g1 i hi 3 _ rfl)
        simp only [Nat.add_zero] at q0
        have HF := Lib.hid (fun he => cut_found HC.out hi he)
        have HNF := Lib.hid (fun (he : lst l[i].name ≠ lst t) => cut_not HR.out HC.out (fun _ => he))
        have HLX := Lib.hid (show l[i] = l[i] from rfl)
        obtain ⟨X, hX⟩ : ∃ X, X = l[i] := ⟨_, rfl⟩
        rw [← hX] at q0 q1 q2 q3
        have HXE := Lib.hid hX
        clear g1 hX hij hj hx HC
        go_wp2_with fail
        refine (cmp1_any X t _).mono ?_
        rintro e w1 ⟨rfl, hx1⟩
        have HX1 := Lib.hid (HX.out.trans hx1)
        have hcz := cmp_zero (lst X.name) (lst t)
        obtain ⟨r, hrr⟩ : ∃ r, r = Lib.compareBytes (lst X.name) (lst t) := ⟨_, rfl⟩
        rw [← hrr] at hcz ⊢
        clear hx1 hrr q0 q1 q2 q3
        have HI := Lib.hid hi
        by_cases he : lst X.name = lst t
        · have hr0 : r = 0 := hcz.2 he
          subst hr0
          have HF1 := Lib.hid (HF.out (by rw [← HXE.out]; exact he))
          clear hcz he HF HNF
          go_wp2_with fail
          go_ret2
          exact ⟨i, true, rfl, HX1.out, fun _ => ⟨HI.out, HF1.out⟩, fun h => by cases h⟩
        · have hr0 : (r == 0) = false := beq_false_of_ne (fun h => he (hcz.1 h))
          have HF1 := Lib.hid (HNF.out (by rw [← HXE.out]; exact he))
          clear hcz he HF HNF
          go_wp2_with fail
          go_ret2
          exact ⟨i, false, rfl, HX1.out, (fun h => by cases h), fun _ => HF1.out⟩
      · have HNF := Lib.hid (cut_not HR.out HC.out (fun h => absurd h hi))
        have hi10 : (i : Int) ≤ 10 := by omega
        clear hx HC
        go_wp2_with fail
        go_ret2
        exact ⟨i, false, rfl, HX.out, (fun h => by cases h), fun _ => HNF.out⟩
set_option maxRecDepth 100000 in
set_option maxHeartbeats 4000000 in
theorem catFind_any (cs : List Value) (d : Cat) (t : ByteArray) (w : World) (h : RCat w cs d) :
    Calls Try.prog 18 #[.agg cs.toArray, .string t] w fun e w' => e = .returned (.tuple #[entV (findS d t).1, .int .i64 (findS d t).2]) ∧ Ext w w' := by
  have h' := h
  obtain ⟨v1, v2, rfl, h1, h2'⟩ := h'
  obtain ⟨A1, c1, rfl, l1, hc1, p1⟩ := h1.rowE encBlk_ok
  obtain ⟨A2, c2, rfl, l2, hc2, s1⟩ := h2'.rowE encEnt_ok
  have HS := Lib.hid s1
  have HH := Lib.hid h
  clear h1 h2' l1 hc1 p1 h l2 hc2 s1
  go_enter Try.func18, Try.ntmps18
  go_wp2_with fail
  refine calls_abs (fun W => Ext w W ∧ Blk_ W w.heap.size 33 #[.slice A1 d.blocks.length c1, .slice A2 d.entries.length c2] ∧ Blk_ W (w.heap.size + 1) 38 #[.string .empty, .int .i64 0, .int .i64 0, .int .i64 0]) ⟨((Ext.refl _).alloc _).alloc _, (Blk_.new _ _ _).alloc _, Blk_.new1 _ _ _ _⟩ ?_
  rintro W ⟨hx, hb, hr⟩
  refine (catCheck_any [.slice A1 d.blocks.length c1, .slice A2 d.entries.length c2] d W (HH.out.up hx)).mono ?_
  rintro e w1 ⟨rfl, hx1⟩
  have hb1 := hb.ext hx1
  have hr1 := hr.ext hx1
  have hxw := hx.trans hx1
  have f1 := hb1.cell 1
  simp at f1
  have HR1 := Lib.hid hr1
  have HX1 := Lib.hid hxw
  have hl1 := hr1.lt
  have HB1 := Lib.hid hb1
  clear hb hr hx hx1 hb1 hr1 hxw
  by_cases hc : catFault d = 0
  · have HC := Lib.hid hc
    have hok := catFault_ok hc
    have HN := Lib.hid hok.2.1
    have HRI := Lib.hid (ents_rising _ _ _ hok.2.2.2).1
    have hn2 : (d.entries.length : Int) ≤ 10 := by have := hok.2.1; omega
    rw [hc]
    clear hc hok
    go_wp2_with fail
    refine (search_any A2 c2 d.entries t w1 (fun k hk => by
      obtain ⟨b, o, hA, g⟩ := HS.out k hk
      exact ⟨b, o, hA, fun i hi j u hu => HX1.out.cell (g i hi j u hu)⟩) HRI.out HN.out).mono ?_
    rintro e w2 ⟨i, b, rfl, hx2, hy, hn⟩
    have HX2 := Lib.hid (HX1.out.trans hx2)
    have HR2 := Lib.hid (HR1.out.ext hx2)
    have HB2 := Lib.hid (HB1.out.ext hx2)
    have f2 := HB2.out.cell 1
    simp at f2
    have hl2 := HR2.out.lt
    have z0 := HR2.out.frozen 0
    have z1 := HR2.out.frozen 1
    have z2 := HR2.out.frozen 2
    have z3 := HR2.out.frozen 3
    have m0 := HR2.out.cell 0
    have m1 := HR2.out.cell 1
    have m2 := HR2.out.cell 2
    have m3 := HR2.out.cell 3
    simp at m0 m1 m2 m3
    clear hx2 f1 hl1
    cases b with
    | true =>
      obtain ⟨hi, hf⟩ := hy rfl
      obtain ⟨b2, o2, rfl, g1⟩ := HS.out i hi
      have q0 := HX2.out.cell (g1 i hi 0 _ rfl)
      have q1 := HX2.out.cell (g1 i hi 1 _ rfl)
      have q2 := HX2.out.cell (g1 i hi 2 _ rfl)
      have q3 := HX2.out.cell (g1 i hi 3 _ rfl)
      simp only [Nat.add_zero] at q0
      obtain ⟨X, hX⟩ : ∃ X, X = d.entries[i] := ⟨_, rfl⟩
      rw [← hX] at q0 q1 q2 q3 hf
      have HF := Lib.hid (find_some (t := t) HC.out hf)
      have hiI : (i : Int) < (d.entries.length : Int) := by omega
      have hi10 : (i : Int) < 10 := by omega
      clear hy hn hf g1 hX
      go_wp2_with fail
      have HB := Lib.hid ((((HR2.out.set 0 (.string X.name)).set 1 (.int .i64 X.block)).set 2 (.int .i64 X.at_)).set 3 (.int .i64 X.bytes))
      refine bodyPost_ret (res_cell_tmp rfl rfl HB.out Try.underlying38 rfl (by kernel_rfl)) rfl ?_
      rw [HF.out]
      exact ⟨rfl, (((HX2.out.setCell (by dsimp only; omega) _).setCell (by dsimp only; omega) _).setCell (by dsimp only; omega) _).setCell (by dsimp only; omega) _⟩
    | false =>
      have HF := Lib.hid (find_none (t := t) HC.out (hn rfl))
      clear hy hn
      go_wp2_with fail
      have HB := Lib.hid ((((HR2.out.set 0 (.string .empty)).set 1 (.int .i64 0)).set 2 (.int .i64 0)).set 3 (.int .i64 0))
      refine bodyPost_ret (res_cell_tmp rfl rfl HB.out Try.underlying38 rfl (by kernel_rfl)) rfl ?_
      rw [HF.out]
      exact ⟨rfl, (((HX2.out.setCell (by dsimp only; omega) _).setCell (by dsimp only; omega) _).setCell (by dsimp only; omega) _).setCell (by dsimp only; omega) _⟩
  · have HF := Lib.hid (find_bad (t := t) hc)
    have hc' : (catFault d != 0) = true := by simpa using hc
    have z0 := HR1.out.frozen 0
    have z1 := HR1.out.frozen 1
    have z2 := HR1.out.frozen 2
    have z3 := HR1.out.frozen 3
    have m0 := HR1.out.cell 0
    have m1 := HR1.out.cell 1
    have m2 := HR1.out.cell 2
    have m3 := HR1.out.cell 3
    simp at m0 m1 m2 m3
    clear hc
    generalize catFault d = u at *
    go_wp2_with fail
    have HB := Lib.hid ((((HR1.out.set 0 (.string .empty)).set 1 (.int .i64 0)).set 2 (.int .i64 0)).set 3 (.int .i64 0))
    refine bodyPost_ret (res_cell_tmp rfl rfl HB.out Try.underlying38 rfl (by kernel_rfl)) rfl ?_
    rw [HF.out]
    exact ⟨rfl, (((HX1.out.setCell (by dsimp only; omega) _).setCell (by dsimp only; omega) _).setCell (by dsimp only; omega) _).setCell (by dsimp only; omega) _⟩
set_option maxRecDepth 100000 in
set_option maxHeartbeats 4000000 in
theorem foundOf_any (cs : List Value) (d : Cat) (t : ByteArray) (w : World) (h : RCat w cs d) :
    Calls Try.prog 19 #[.agg cs.toArray, .string t] w fun e w' => e = .returned (.tuple #[entV (findS d t).1, .int .i64 (findS d t).2]) ∧ Ext w w' := by
  have h' := h
  obtain ⟨v1, v2, rfl, h1, h2'⟩ := h'
  obtain ⟨A1, c1, rfl, l1, hc1, p1⟩ := h1.rowE encBlk_ok
  obtain ⟨A2, c2, rfl, l2, hc2, s1⟩ := h2'.rowE encEnt_ok
  have HS := Lib.hid s1
  have HH := Lib.hid h
  clear h1 h2' l1 hc1 p1 h l2 hc2 s1
  go_enter Try.func19, Try.ntmps19
  go_wp2_with fail
  refine calls_abs (fun W => Ext w W ∧ Blk_ W w.heap.size 33 #[.slice A1 d.blocks.length c1, .slice A2 d.entries.length c2] ∧ Blk_ W (w.heap.size + 1) 38 #[.string .empty, .int .i64 0, .int .i64 0, .int .i64 0]) ⟨((Ext.refl _).alloc _).alloc _, (Blk_.new _ _ _).alloc _, Blk_.new1 _ _ _ _⟩ ?_
  rintro W ⟨hx, hb, hr⟩
  refine (catFault_any [.slice A1 d.blocks.length c1, .slice A2 d.entries.length c2] d W (HH.out.up hx)).mono ?_
  rintro e w1 ⟨rfl, hx1⟩
  have hb1 := hb.ext hx1
  have hr1 := hr.ext hx1
  have hxw := hx.trans hx1
  have f1 := hb1.cell 1
  simp at f1
  have HR1 := Lib.hid hr1
  have HX1 := Lib.hid hxw
  have hl1 := hr1.lt
  have z0 := hr1.frozen 0
  have z1 := hr1.frozen 1
  have z2 := hr1.frozen 2
  have z3 := hr1.frozen 3
  have m0 := hr1.cell 0
  have m1 := hr1.cell 1
  have m2 := hr1.cell 2
  have m3 := hr1.cell 3
  simp at m0 m1 m2 m3
  clear hb hr hx hx1 hb1 hr1 hxw
  by_cases hc : catFault d = 0
  · have HC := Lib.hid hc
    have hok := catFault_ok hc
    have HN := Lib.hid hok.2.1
    have hn2 : (d.entries.length : Int) ≤ 10 := by have := hok.2.1; omega
    rw [hc]
    clear hc hok
    go_wp2_with fail
    go_loop [7] (fun iv => ∃ k : Nat, iv = .int .i64 k ∧ k ≤ d.entries.length ∧ ∀ p (hp : p < d.entries.length), p < k → decide (lst d.entries[p].name = lst t) = false) (fun iv => d.entries.length - (intOf iv).toNat)
    case atStart => exact ⟨0, rfl, Nat.zero_le _, fun p hp h => by omega⟩
    case round =>
      obtain ⟨k, rfl, hk, hp⟩ := hrel
      have HP := Lib.hid hp
      clear hp
      by_cases hlt : k < d.entries.length
      · obtain ⟨b2, o2, rfl, g1⟩ := HS.out k hlt
        have q0 := HX1.out.cell (g1 k hlt 0 _ rfl)
        have q1 := HX1.out.cell (g1 k hlt 1 _ rfl)
        have q2 := HX1.out.cell (g1 k hlt 2 _ rfl)
        have q3 := HX1.out.cell (g1 k hlt 3 _ rfl)
        simp only [Nat.add_zero] at q0
        have hkI : (k : Int) < (d.entries.length : Int) := by omega
        have hk10 : (k : Int) < 10 := by omega
        have HFT := Lib.hid (fun (he : lst d.entries[k].name = lst t) => find_some (c := d) (t := t) HC.out (find_first hlt HP.out (decide_eq_true he)))
        have HNX := Lib.hid (fun (he : ¬ lst d.entries[k].name = lst t) => show ∀ p (hp : p < d.entries.length), p < k + 1 → decide (lst d.entries[p].name = lst t) = false from fun p hp hpk => by
          by_cases hpe : p = k
          · subst hpe; exact decide_eq_false he
          · exact HP.out p hp (by omega))
        obtain ⟨X, hX⟩ : ∃ X, X = d.entries[k] := ⟨_, rfl⟩
        rw [← hX] at q0 q1 q2 q3 HFT HNX
        have HLT := Lib.hid hlt
        by_cases he : lst X.name = lst t
        · have HF := Lib.hid (HFT.out he)
          have hE : (X.name.toList == t.toList) = true := by rw [toList_lst, toList_lst, he]; exact beq_self_eq_true _
          clear he hX g1
          go_wp2_with fail
          have HB := Lib.hid ((((HR1.out.set 0 (.string X.name)).set 1 (.int .i64 X.block)).set 2 (.int .i64 X.at_)).set 3 (.int .i64 X.bytes))
          refine bodyPost_ret (res_cell_tmp rfl rfl HB.out Try.underlying38 rfl (by kernel_rfl)) rfl ?_
          rw [HF.out]
          exact ⟨rfl, (((HX1.out.setCell (by dsimp only; omega) _).setCell (by dsimp only; omega) _).setCell (by dsimp only; omega) _).setCell (by dsimp only; omega) _⟩
        · have HN2 := Lib.hid (HNX.out he)
          have hE : (X.name.toList == t.toList) = false := by rw [toList_lst, toList_lst]; exact beq_false_of_ne he
          clear he hX g1
          go_wp2_with fail
          go_round
          case rel => exact ⟨k + 1, by go_num, by have := HLT.out; omega, HN2.out⟩
          case measure => have := HLT.out; simp [intOf]; omega
      · have HF := Lib.hid (find_none (c := d) (t := t) HC.out (find_never fun k' hk' => HP.out k' hk' (by omega)))
        have hk10 : (k : Int) ≤ 10 := by omega
        go_wp2_with fail
        have HB := Lib.hid ((((HR1.out.set 0 (.string .empty)).set 1 (.int .i64 0)).set 2 (.int .i64 0)).set 3 (.int .i64 0))
        refine bodyPost_ret (res_cell_tmp rfl rfl HB.out Try.underlying38 rfl (by kernel_rfl)) rfl ?_
        rw [HF.out]
        exact ⟨rfl, (((HX1.out.setCell (by dsimp only; omega) _).setCell (by dsimp only; omega) _).setCell (by dsimp only; omega) _).setCell (by dsimp only; omega) _⟩
  · have HF := Lib.hid (find_bad (t := t) hc)
    have hc' : (catFault d != 0) = true := by simpa using hc
    clear hc
    generalize catFault d = u at *
    go_wp2_with fail
    have HB := Lib.hid ((((HR1.out.set 0 (.string .empty)).set 1 (.int .i64 0)).set 2 (.int .i64 0)).set 3 (.int .i64 0))
    refine bodyPost_ret (res_cell_tmp rfl rfl HB.out Try.underlying38 rfl (by kernel_rfl)) rfl ?_
    rw [HF.out]
    exact ⟨rfl, (((HX1.out.setCell (by dsimp only; omega) _).setCell (by dsimp only; omega) _).setCell (by dsimp only; omega) _).setCell (by dsimp only; omega) _⟩
set_option maxRecDepth 100000 in
set_option maxHeartbeats 400000 in
theorem lawCatalogFinds_any (cs : List Value) (d : Cat) (t : ByteArray) (w : World) (h : RCat w cs d) :
    Calls Try.prog 7 #[.agg cs.toArray, .string t] w fun e w' => e = .returned (.bool true) ∧ Ext w w' := by
  have h' := h
  obtain ⟨v1, v2, rfl, _, _⟩ := h'
  go_enter Try.func7, Try.ntmps7
  go_wp2_with fail
  refine calls_abs (fun W => Ext w W ∧ Blk_ W w.heap.size 33 #[v1, v2]) ⟨(Ext.refl _).alloc _, Blk_.new _ _ _⟩ ?_
  rintro W ⟨hx, hb⟩
  refine (catFind_any [v1, v2] d t W (h.up hx)).mono ?_
  rintro e w1 ⟨rfl, hx1⟩
  have hxw := hx.trans hx1
  have hb1 := hb.ext hx1
  have f0 := hb1.cell 0
  have f1 := hb1.cell 1
  simp at f0 f1
  have hl1 := hb1.lt
  clear hb hx hx1
  obtain ⟨X, hX⟩ : ∃ X, X = (findS d t).1 := ⟨_, rfl⟩
  obtain ⟨u, hu⟩ : ∃ u, u = (findS d t).2 := ⟨_, rfl⟩
  have HX := Lib.hid (And.intro hX hu)
  have HH := Lib.hid h
  rw [← hX, ← hu]
  clear hX hu h
  unfold entV
  go_wp2_with fail
  refine calls_abs (fun W => Ext w W ∧ Blk_ W w1.heap.size 38 #[.string X.name, .int .i64 X.block, .int .i64 X.at_, .int .i64 X.bytes]) ⟨hxw.alloc _, Blk_.new _ _ _⟩ ?_
  rintro W2 ⟨hx2, hb2⟩
  refine (foundOf_any [v1, v2] d t W2 (HH.out.up hx2)).mono ?_
  rintro e w2 ⟨rfl, hx3⟩
  have hxw2 := hx2.trans hx3
  have hb3 := hb2.ext hx3
  have m0 := hb3.cell 0
  have m1 := hb3.cell 1
  have m2 := hb3.cell 2
  have m3 := hb3.cell 3
  simp at m0 m1 m2 m3
  have hl3 := hb3.lt
  rw [← HX.out.1, ← HX.out.2]
  unfold entV
  clear f0 f1 hb1 hb2 hb3 hx2 hx3
  go_wp2_with fail
  go_ret
  exact ⟨rfl, by first | exact hxw2 | exact hxw2.alloc _ | exact (hxw2.alloc _).drew⟩
end Go.Proofs.Ytokpjgpdkmimgaa
