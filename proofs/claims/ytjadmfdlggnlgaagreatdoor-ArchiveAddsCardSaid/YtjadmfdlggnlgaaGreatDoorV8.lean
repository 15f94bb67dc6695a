/-
  catalog.Check and the document's CatalogFault: whether a catalog may be; the law CatalogChecks. Conditions: the argument reads as a catalog.
-/
import Derived.Test.YtjadmfdlggnlgaaGreatDoorV7
namespace Go.Proofs.YtjadmfdlggnlgaaGreatDoor
set_option linter.unusedSimpArgs false
set_option linter.unusedVariables false
set_option maxRecDepth 100000
set_option maxHeartbeats 8000000
open Go.RowKit
theorem catCheck_any (cs : List Value) (d : Cat) (w : World) (h : RCat w cs d) :
  Calls Tryz.prog 44 #[.agg cs.toArray] w fun e w' => e = .returned (.int .i64 (catFault d)) ∧ Ext w w' := by
 obtain ⟨v1, v2, rfl, h1, h2'⟩ := h
 have hnames := h2'.mem encEnt_ok w
 have hbnums := h1.mem encBlk_ok w
 obtain ⟨A1, c1, rfl, l1, hc1, p1⟩ := h1.rowE encBlk_ok
 obtain ⟨A2, c2, rfl, l2, hc2, s1⟩ := h2'.rowE encEnt_ok
 clear h1 h2' l1 l2 hc1 hc2
 have HNM := Lib.hid hnames
 have HP := Lib.hid p1
 have HS := Lib.hid s1
 clear hnames p1 s1 hbnums
 go_enter Tryz.func44, Tryz.ntmps44
 by_cases hlong : 10 < d.blocks.length ∨ 10 < d.entries.length
 ·have HF := Lib.hid (fault_long hlong)
  have hcs : decide ((10 : Int) < (d.blocks.length : Int)) = true ∨ (decide ((10 : Int) < (d.blocks.length : Int)) = false ∧ decide ((10 : Int) < (d.entries.length : Int)) = true) := by
   simp only [decide_eq_true_eq, decide_eq_false_iff_not]; omega
  clear hlong
  rcases hcs with t1 | ⟨t1, t2⟩
  ·go_wp2_with fail
   go_ret
   exact ⟨ret_int HF.out.symm, (Ext.refl _).alloc _⟩
  ·go_wp2_with fail
   go_ret
   exact ⟨ret_int HF.out.symm, (Ext.refl _).alloc _⟩
 ·have t1 : decide ((10 : Int) < (d.blocks.length : Int)) = false := by simp; omega
  have t2 : decide ((10 : Int) < (d.entries.length : Int)) = false := by simp; omega
  have HL := Lib.hid hlong
  have HN := Lib.hid (And.intro (show d.blocks.length ≤ 10 by omega) (show d.entries.length ≤ 10 by omega))
  clear hlong
  go_wp2_with fail
  refine wp_abs (fun W => Ext w W ∧ Blk_ W w.heap.size 40 #[.slice A1 d.blocks.length c1, .slice A2 d.entries.length c2]) ⟨(Ext.refl _).alloc _, Blk_.new _ _ _⟩ ?_
  rintro W ⟨hx, hb⟩
  go_loopw [3, 21] (fun pv i wr => ∃ (k : Nat) (p : Int), i = .int .i64 k ∧ pv = .int .i64 p ∧ k ≤ d.blocks.length ∧ 8 ≤ p ∧ p ≤ 64 ∧ Ext w wr ∧ Blk_ wr w.heap.size 40 #[.slice A1 d.blocks.length c1, .slice A2 d.entries.length c2] ∧ blocksF p (d.blocks.drop k) = blocksF 8 d.blocks) (fun _ i _ => d.blocks.length - (intOf i).toNat)
  case atStart => exact ⟨0, 8, rfl, rfl, Nat.zero_le _, by omega, by omega, hx, hb, rfl⟩
  case round =>
   clear hx hb t1 t2
   obtain ⟨k, p, rfl, rfl, hk, hp8, hp64, hx, hb, heq⟩ := hrel
   have f0 := hb.cell 0
   have f1 := hb.cell 1
   simp at f0 f1
   have HEQ := Lib.hid heq
   clear heq
   by_cases hlt : k < d.blocks.length
   ·obtain ⟨b1, o1, rfl, g1⟩ := HP.out k hlt
    have q0 := hx.cell (g1 k hlt 0 _ rfl)
    have q1 := hx.cell (g1 k hlt 1 _ rfl)
    simp only [Nat.add_zero] at q0
    have HG := Lib.hid (show blocksF p (d.blocks[k] :: d.blocks.drop (k + 1)) = blocksF 8 d.blocks by rw [← drop_at d.blocks k hlt]; exact HEQ.out)
    obtain ⟨B, hB⟩ : ∃ B, B = d.blocks[k] := ⟨_, rfl⟩
    rw [← hB] at q0 q1 HG
    clear g1 hB HEQ
    have hki : (k : Int) < (d.blocks.length : Int) := by omega
    have hk10 : (k : Int) < 10 := by have := HN.out.1; omega
    have hcs : ((B.first != p) = true ∧ blockBad p B = true) ∨ ((B.first != p) = false ∧ decide (B.bytes < 0) = true ∧ blockBad p B = true) ∨ ((B.first != p) = false ∧ decide (B.bytes < 0) = false ∧ decide ((1200 : Int) < B.bytes) = true ∧ blockBad p B = true) ∨
      ((B.first != p) = false ∧ decide (B.bytes < 0) = false ∧ decide ((1200 : Int) < B.bytes) = false ∧ 0 ≤ B.bytes ∧ B.bytes ≤ 1200 ∧ decide (64 < p + (B.bytes + 23) / 24) = true ∧ blockBad p B = true) ∨
      ((B.first != p) = false ∧ decide (B.bytes < 0) = false ∧ decide ((1200 : Int) < B.bytes) = false ∧ 0 ≤ B.bytes ∧ B.bytes ≤ 1200 ∧ decide (64 < p + (B.bytes + 23) / 24) = false ∧ blockBad p B = false) := by
     unfold blockBad secs inB
     by_cases k1 : B.first = p
     ·by_cases k2 : B.bytes < 0
      ·simp [k1, k2] <;> omega
      ·by_cases k3 : 1200 < B.bytes
       ·simp [k1, k2, k3] <;> omega
       ·by_cases k4 : 64 < p + (B.bytes + 23) / 24
        ·simp [k1, k2, k3, k4] <;> omega
        ·simp [k1, k2, k3, k4] <;> omega
     ·simp [k1]
    rcases hcs with ⟨t1, hbad⟩ | ⟨t1, t2, hbad⟩ | ⟨t1, t2, t3, hbad⟩ | ⟨t1, t2, t3, u1, u2, t4, hbad⟩ | ⟨t1, t2, t3, u1, u2, t4, hbad⟩
    ·have HF := Lib.hid (fault_blocks HL.out (by rw [← HG.out, blocks_stop hbad]; decide))
     clear hbad
     go_wp2_with fail
     go_ret
     exact ⟨ret_int HF.out.symm, hx.alloc _⟩
    ·have HF := Lib.hid (fault_blocks HL.out (by rw [← HG.out, blocks_stop hbad]; decide))
     clear hbad
     go_wp2_with fail
     go_ret
     exact ⟨ret_int HF.out.symm, hx.alloc _⟩
    ·have HF := Lib.hid (fault_blocks HL.out (by rw [← HG.out, blocks_stop hbad]; decide))
     clear hbad
     go_wp2_with fail
     go_ret
     exact ⟨ret_int HF.out.symm, hx.alloc _⟩
    ·have HF := Lib.hid (fault_blocks HL.out (by rw [← HG.out, blocks_stop hbad]; decide))
     clear hbad
     go_wp2_with (first | (go_at_call 16; refine (sectors_any _ _ u1 (by omega)).mono ?_; rintro e w9 ⟨rfl, rfl⟩))
     go_ret
     exact ⟨ret_int HF.out.symm, hx.alloc _⟩
    ·have HST := Lib.hid (show blocksF (p + (B.bytes + 23) / 24) (d.blocks.drop (k + 1)) = blocksF 8 d.blocks by rw [← HG.out, blocks_go hbad]; rfl)
     have hp64' : p + (B.bytes + 23) / 24 ≤ 64 := by simpa using t4
     clear hbad HG
     go_wp2_with (first | (go_at_call 16; refine (sectors_any _ _ u1 (by omega)).mono ?_; rintro e w9 ⟨rfl, rfl⟩))
     go_roundw
     case rel => exact ⟨k + 1, p + (B.bytes + 23) / 24, by go_num, by go_num, by omega, by omega, hp64', hx.alloc _, hb.alloc _, HST.out⟩
     case measure => simp [intOf]; omega
   ·have hz : blocksF 8 d.blocks = 0 := by rw [← HEQ.out, List.drop_of_length_le (by omega)]; rfl
    have HFE := Lib.hid (fault_ents HL.out hz)
    clear hz HEQ
    have hk10 : (k : Int) ≤ 10 := by have := HN.out.1; omega
    go_wp2_with fail
    go_loopw [50] (fun i wr => ∃ k : Nat, i = .int .i64 k ∧ k ≤ d.entries.length ∧ Ext w wr ∧ Blk_ wr w.heap.size 40 #[.slice A1 d.blocks.length c1, .slice A2 d.entries.length c2] ∧ entsF d.blocks.length (prevOf d.entries k) (d.entries.drop k) = entsF d.blocks.length none d.entries) (fun i _ => d.entries.length - (intOf i).toNat)
    case atStart => exact ⟨0, rfl, Nat.zero_le _, hx, hb, rfl⟩
    case round =>
     clear hx hb f0 f1 hlt hk hk10 hp8 hp64
     obtain ⟨k, rfl, hk, hx, hb, heq⟩ := hrel
     have f0 := hb.cell 0
     have f1 := hb.cell 1
     simp at f0 f1
     have HEQ := Lib.hid heq
     clear heq
     have hnb10 : (d.blocks.length : Int) ≤ 10 := by have := HN.out.1; omega
     by_cases hlt : k < d.entries.length
     ·obtain ⟨b2, o2, rfl, g1⟩ := HS.out k hlt
      have q0 := hx.cell (g1 k hlt 0 _ rfl)
      have q1 := hx.cell (g1 k hlt 1 _ rfl)
      have q2 := hx.cell (g1 k hlt 2 _ rfl)
      have q3 := hx.cell (g1 k hlt 3 _ rfl)
      simp only [Nat.add_zero] at q0
      have HG := Lib.hid (show entsF d.blocks.length (prevOf d.entries k) (d.entries[k] :: d.entries.drop (k + 1)) = entsF d.blocks.length none d.entries by rw [← drop_at d.entries k hlt]; exact HEQ.out)
      have HNX := Lib.hid (prev_next d.entries k hlt)
      have hsz := (HNM.out d.entries[k] (List.getElem_mem hlt)).2.1
      obtain ⟨X, hX⟩ : ∃ X, X = d.entries[k] := ⟨_, rfl⟩
      rw [← hX] at q0 q1 q2 q3 HG hsz HNX
      have HSZ := Lib.hid hsz
      have HCELL := Lib.hid g1
      clear g1 hX HEQ hsz
      have hki : (k : Int) < (d.entries.length : Int) := by omega
      have hk10 : (k : Int) < 10 := by have := HN.out.2; omega
      go_wp2_with fail
      refine calls_abs (fun W => Ext wr W ∧ Blk_ W wr.heap.size 70 #[.string X.name, .int .i64 X.block, .int .i64 X.at_, .int .i64 X.bytes]) ⟨(Ext.refl _).alloc _, Blk_.new _ _ _⟩ ?_
      rintro W1 ⟨hx1, hbx⟩
      refine (name_any X.name W1 HSZ.out).mono ?_
      rintro e w2 ⟨rfl, hx2⟩
      have hx12 := hx1.trans hx2
      have e0 := (hbx.ext hx2).cell 0
      have e1 := (hbx.ext hx2).cell 1
      have e2 := (hbx.ext hx2).cell 2
      have e3 := (hbx.ext hx2).cell 3
      simp at e0 e1 e2 e3
      have f0' := hx12.cell f0
      have f1' := hx12.cell f1
      have HX2 := Lib.hid (hx.trans hx12)
      have HB2 := Lib.hid (hb.ext hx12)
      clear f0 f1 q0 q1 q2 q3 hbx hx1 hx2 hx12 hb
      have hcs : (nameMay X.name = false ∧ entBad d.blocks.length X = true) ∨ (nameMay X.name = true ∧ decide (X.block < 0) = true ∧ entBad d.blocks.length X = true) ∨ (nameMay X.name = true ∧ decide (X.block < 0) = false ∧ decide ((d.blocks.length : Int) ≤ X.block) = true ∧ entBad d.blocks.length X = true) ∨
        (nameMay X.name = true ∧ decide (X.block < 0) = false ∧ decide ((d.blocks.length : Int) ≤ X.block) = false ∧ decide (X.at_ < 0) = true ∧ entBad d.blocks.length X = true) ∨
        (nameMay X.name = true ∧ decide (X.block < 0) = false ∧ decide ((d.blocks.length : Int) ≤ X.block) = false ∧ decide (X.at_ < 0) = false ∧ decide ((600 : Int) < X.at_) = true ∧ entBad d.blocks.length X = true) ∨
        (nameMay X.name = true ∧ decide (X.block < 0) = false ∧ decide ((d.blocks.length : Int) ≤ X.block) = false ∧ decide (X.at_ < 0) = false ∧ decide ((600 : Int) < X.at_) = false ∧ decide (X.bytes < 0) = true ∧ entBad d.blocks.length X = true) ∨
        (nameMay X.name = true ∧ decide (X.block < 0) = false ∧ decide ((d.blocks.length : Int) ≤ X.block) = false ∧ decide (X.at_ < 0) = false ∧ decide ((600 : Int) < X.at_) = false ∧ decide (X.bytes < 0) = false ∧ decide ((200 : Int) < X.bytes) = true ∧ entBad d.blocks.length X = true) ∨
        (nameMay X.name = true ∧ decide (X.block < 0) = false ∧ decide ((d.blocks.length : Int) ≤ X.block) = false ∧ decide (X.at_ < 0) = false ∧ decide ((600 : Int) < X.at_) = false ∧ decide (X.bytes < 0) = false ∧ decide ((200 : Int) < X.bytes) = false ∧ entBad d.blocks.length X = false) := by
       unfold entBad inB
       cases k0 : nameMay X.name with
       | false => simp
       | true =>
        by_cases k1 : X.block < 0
        ·simp [k1] <;> omega
        ·by_cases k2 : (d.blocks.length : Int) ≤ X.block
         ·simp [k1, k2] <;> omega
         ·by_cases k3 : X.at_ < 0
          ·simp [k1, k2, k3] <;> omega
          ·by_cases k4 : (600 : Int) < X.at_
           ·simp [k1, k2, k3, k4] <;> omega
           ·by_cases k5 : X.bytes < 0
            ·simp [k1, k2, k3, k4, k5] <;> omega
            ·by_cases k6 : (200 : Int) < X.bytes
             ·simp [k1, k2, k3, k4, k5, k6] <;> omega
             ·simp [k1, k2, k3, k4, k5, k6] <;> omega
      rcases hcs with ⟨t0, hbad⟩ | ⟨t0, t1, hbad⟩ | ⟨t0, t1, t2, hbad⟩ | ⟨t0, t1, t2, t3, hbad⟩ | ⟨t0, t1, t2, t3, t4, hbad⟩ | ⟨t0, t1, t2, t3, t4, t5, hbad⟩ | ⟨t0, t1, t2, t3, t4, t5, t6, hbad⟩ | ⟨t0, t1, t2, t3, t4, t5, t6, hbad⟩
      ·have HF := Lib.hid (show catFault d = 4 by rw [HFE.out, ← HG.out, ents_stop hbad])
       rw [t0]
       clear hbad t0
       go_wp2_with fail
       go_ret
       exact ⟨ret_int HF.out.symm, HX2.out⟩
      ·have HF := Lib.hid (show catFault d = 4 by rw [HFE.out, ← HG.out, ents_stop hbad])
       rw [t0]
       clear hbad t0
       go_wp2_with fail
       go_ret
       exact ⟨ret_int HF.out.symm, HX2.out⟩
      ·have HF := Lib.hid (show catFault d = 4 by rw [HFE.out, ← HG.out, ents_stop hbad])
       rw [t0]
       clear hbad t0
       go_wp2_with fail
       go_ret
       exact ⟨ret_int HF.out.symm, HX2.out⟩
      ·have HF := Lib.hid (show catFault d = 4 by rw [HFE.out, ← HG.out, ents_stop hbad])
       rw [t0]
       clear hbad t0
       go_wp2_with fail
       go_ret
       exact ⟨ret_int HF.out.symm, HX2.out⟩
      ·have HF := Lib.hid (show catFault d = 4 by rw [HFE.out, ← HG.out, ents_stop hbad])
       rw [t0]
       clear hbad t0
       go_wp2_with fail
       go_ret
       exact ⟨ret_int HF.out.symm, HX2.out⟩
      ·have HF := Lib.hid (show catFault d = 4 by rw [HFE.out, ← HG.out, ents_stop hbad])
       rw [t0]
       clear hbad t0
       go_wp2_with fail
       go_ret
       exact ⟨ret_int HF.out.symm, HX2.out⟩
      ·have HF := Lib.hid (show catFault d = 4 by rw [HFE.out, ← HG.out, ents_stop hbad])
       rw [t0]
       clear hbad t0
       go_wp2_with fail
       go_ret
       exact ⟨ret_int HF.out.symm, HX2.out⟩
      ·rw [t0]
       cases k with
       | zero =>
        have HGO := Lib.hid (show entsF d.blocks.length (prevOf d.entries (0 + 1)) (d.entries.drop (0 + 1)) = entsF d.blocks.length none d.entries by rw [← HG.out, ents_go hbad rfl, HNX.out])
        clear hbad t0 HG HNX
        go_wp2_with fail
        go_quiet (fail)
        go_wp2_with fail
        go_roundw
        case rel => exact ⟨0 + 1, rfl, by omega, HX2.out.drewN _, HB2.out, HGO.out⟩
        case measure => simp [intOf]; omega
       | succ j =>
        have hj : j < d.entries.length := by omega
        have qp := HX2.out.cell (HCELL.out j hj 0 _ rfl)
        simp only [Nat.add_zero] at qp
        have hpv : prevOf d.entries (j + 1) = some d.entries[j].name := prev_next d.entries j hj
        obtain ⟨Y, hY⟩ : ∃ Y, Y = d.entries[j].name := ⟨_, rfl⟩
        rw [← hY] at qp hpv
        have HG2 := Lib.hid (show entsF d.blocks.length (some Y) (X :: d.entries.drop (j + 1 + 1)) = entsF d.blocks.length none d.entries by rw [← hpv]; exact HG.out)
        have hji : (j : Int) + 1 < (d.entries.length : Int) := by omega
        have hji2 : (j : Int) < (d.entries.length : Int) := by omega
        have hj10 : (j : Int) < 10 := by omega
        clear hY hpv HG hki hk10
        cases hor : Op.bytesLess Y.toList X.name.toList with
        | false =>
         have HF := Lib.hid (show catFault d = 12 by rw [HFE.out, ← HG2.out, ents_order hbad (by show (!Op.bytesLess Y.toList X.name.toList) = true; rw [hor]; rfl)])

         clear hbad t0 HG2 HNX
         go_wp2_with fail
         go_quiet (fail)
         go_wp2_with fail
         go_ret
         exact ⟨ret_int HF.out.symm, HX2.out.drewN _⟩
        | true =>
         have HGO := Lib.hid (show entsF d.blocks.length (prevOf d.entries (j + 1 + 1)) (d.entries.drop (j + 1 + 1)) = entsF d.blocks.length none d.entries by rw [← HG2.out, ents_go hbad (by show (!Op.bytesLess Y.toList X.name.toList) = false; rw [hor]; rfl), HNX.out])

         clear hbad t0 HG2 HNX
         go_wp2_with fail
         go_quiet (fail)
         go_wp2_with fail
         go_roundw
         case rel => exact ⟨j + 1 + 1, by go_num, by omega, HX2.out.drewN _, HB2.out, HGO.out⟩
         case measure => simp [intOf]; omega
     ·have HF := Lib.hid (show catFault d = 0 by rw [HFE.out, ← HEQ.out, List.drop_of_length_le (by omega)]; rfl)
      clear HEQ HFE
      go_wp2_with fail
      go_ret
      exact ⟨ret_int HF.out.symm, hx⟩
theorem catFault_any (cs : List Value) (d : Cat) (w : World) (h : RCat w cs d) :
  Calls Tryz.prog 59 #[.agg cs.toArray] w fun e w' => e = .returned (.int .i64 (catFault d)) ∧ Ext w w' := by
 obtain ⟨v1, v2, rfl, h1, h2'⟩ := h
 have hnames := h2'.mem encEnt_ok w
 have hbnums := h1.mem encBlk_ok w
 obtain ⟨A1, c1, rfl, l1, hc1, p1⟩ := h1.rowE encBlk_ok
 obtain ⟨A2, c2, rfl, l2, hc2, s1⟩ := h2'.rowE encEnt_ok
 clear h1 h2' l1 l2 hc1 hc2
 have HNM := Lib.hid hnames
 have HP := Lib.hid p1
 have HS := Lib.hid s1
 clear hnames p1 s1 hbnums
 go_enter Tryz.func59, Tryz.ntmps59
 by_cases hlong : 10 < d.blocks.length ∨ 10 < d.entries.length
 ·have HF := Lib.hid (fault_long hlong)
  have hcs : decide ((10 : Int) < (d.blocks.length : Int)) = true ∨ (decide ((10 : Int) < (d.blocks.length : Int)) = false ∧ decide ((10 : Int) < (d.entries.length : Int)) = true) := by
   simp only [decide_eq_true_eq, decide_eq_false_iff_not]; omega
  clear hlong
  rcases hcs with t1 | ⟨t1, t2⟩
  ·go_wp2_with fail
   go_ret
   exact ⟨ret_int HF.out.symm, (Ext.refl _).alloc _⟩
  ·go_wp2_with fail
   go_ret
   exact ⟨ret_int HF.out.symm, (Ext.refl _).alloc _⟩
 ·have t1 : decide ((10 : Int) < (d.blocks.length : Int)) = false := by simp; omega
  have t2 : decide ((10 : Int) < (d.entries.length : Int)) = false := by simp; omega
  have HL := Lib.hid hlong
  have HN := Lib.hid (And.intro (show d.blocks.length ≤ 10 by omega) (show d.entries.length ≤ 10 by omega))
  clear hlong
  go_wp2_with fail
  refine wp_abs (fun W => Ext w W ∧ Blk_ W w.heap.size 40 #[.slice A1 d.blocks.length c1, .slice A2 d.entries.length c2]) ⟨(Ext.refl _).alloc _, Blk_.new _ _ _⟩ ?_
  rintro W ⟨hx, hb⟩
  go_loopw [3, 4] (fun pv i wr => ∃ (k : Nat) (p : Int), i = .int .i64 k ∧ pv = .int .i64 p ∧ k ≤ d.blocks.length ∧ 8 ≤ p ∧ p ≤ 64 ∧ Ext w wr ∧ Blk_ wr w.heap.size 40 #[.slice A1 d.blocks.length c1, .slice A2 d.entries.length c2] ∧ blocksF p (d.blocks.drop k) = blocksF 8 d.blocks) (fun _ i _ => d.blocks.length - (intOf i).toNat)
  case atStart => exact ⟨0, 8, rfl, rfl, Nat.zero_le _, by omega, by omega, hx, hb, rfl⟩
  case round =>
   clear hx hb t1 t2
   obtain ⟨k, p, rfl, rfl, hk, hp8, hp64, hx, hb, heq⟩ := hrel
   have f0 := hb.cell 0
   have f1 := hb.cell 1
   simp at f0 f1
   have HEQ := Lib.hid heq
   clear heq
   by_cases hlt : k < d.blocks.length
   ·obtain ⟨b1, o1, rfl, g1⟩ := HP.out k hlt
    have q0 := hx.cell (g1 k hlt 0 _ rfl)
    have q1 := hx.cell (g1 k hlt 1 _ rfl)
    simp only [Nat.add_zero] at q0
    have HG := Lib.hid (show blocksF p (d.blocks[k] :: d.blocks.drop (k + 1)) = blocksF 8 d.blocks by rw [← drop_at d.blocks k hlt]; exact HEQ.out)
    obtain ⟨B, hB⟩ : ∃ B, B = d.blocks[k] := ⟨_, rfl⟩
    rw [← hB] at q0 q1 HG
    clear g1 hB HEQ
    have hki : (k : Int) < (d.blocks.length : Int) := by omega
    have hk10 : (k : Int) < 10 := by have := HN.out.1; omega
    have hcs : ((B.first != p) = true ∧ blockBad p B = true) ∨ ((B.first != p) = false ∧ inB B.bytes 0 1200 = false ∧ blockBad p B = true) ∨
      ((B.first != p) = false ∧ inB B.bytes 0 1200 = true ∧ 0 ≤ B.bytes ∧ B.bytes ≤ 1200 ∧ decide (64 < p + (B.bytes + 23) / 24) = true ∧ blockBad p B = true) ∨
      ((B.first != p) = false ∧ inB B.bytes 0 1200 = true ∧ 0 ≤ B.bytes ∧ B.bytes ≤ 1200 ∧ decide (64 < p + (B.bytes + 23) / 24) = false ∧ blockBad p B = false) := by
     unfold blockBad secs
     by_cases k1 : B.first = p
     ·cases k2 : inB B.bytes 0 1200 with
      | false => simp [k1, k2]
      | true =>
       have k3 := inB_true k2
       by_cases k4 : 64 < p + (B.bytes + 23) / 24
       ·simp [k1, k2, k4] <;> omega
       ·simp [k1, k2, k4] <;> omega
     ·simp [k1]
    rcases hcs with ⟨t1, hbad⟩ | ⟨t1, t2, hbad⟩ | ⟨t1, t2, u1, u2, t4, hbad⟩ | ⟨t1, t2, u1, u2, t4, hbad⟩
    ·have HF := Lib.hid (fault_blocks HL.out (by rw [← HG.out, blocks_stop hbad]; decide))
     clear hbad
     go_wp2_with fail
     go_ret
     exact ⟨ret_int HF.out.symm, hx.alloc _⟩
    ·have HF := Lib.hid (fault_blocks HL.out (by rw [← HG.out, blocks_stop hbad]; decide))
     clear hbad
     go_wp2_with (go_at_call 55; refine (in_any _ _ _ _).mono ?_; rintro e w9 ⟨rfl, rfl⟩; rw [t2])
     go_ret
     exact ⟨ret_int HF.out.symm, hx.alloc _⟩
    ·have HF := Lib.hid (fault_blocks HL.out (by rw [← HG.out, blocks_stop hbad]; decide))
     clear hbad
     go_wp2_with (first | (go_at_call 55; refine (in_any _ _ _ _).mono ?_; rintro e w9 ⟨rfl, rfl⟩; rw [t2]) | (go_at_call 26; refine (sectorsOf_any _ _ u1 (by omega)).mono ?_; rintro e w9 ⟨rfl, rfl⟩))
     go_ret
     exact ⟨ret_int HF.out.symm, hx.alloc _⟩
    ·have HST := Lib.hid (show blocksF (p + (B.bytes + 23) / 24) (d.blocks.drop (k + 1)) = blocksF 8 d.blocks by rw [← HG.out, blocks_go hbad]; rfl)
     have hp64' : p + (B.bytes + 23) / 24 ≤ 64 := by simpa using t4
     clear hbad HG
     go_wp2_with (first | (go_at_call 55; refine (in_any _ _ _ _).mono ?_; rintro e w9 ⟨rfl, rfl⟩; rw [t2]) | (go_at_call 26; refine (sectorsOf_any _ _ u1 (by omega)).mono ?_; rintro e w9 ⟨rfl, rfl⟩))
     go_roundw
     case rel => exact ⟨k + 1, p + (B.bytes + 23) / 24, by go_num, by go_num, by omega, by omega, hp64', hx.alloc _, hb.alloc _, HST.out⟩
     case measure => simp [intOf]; omega
   ·have hz : blocksF 8 d.blocks = 0 := by rw [← HEQ.out, List.drop_of_length_le (by omega)]; rfl
    have HFE := Lib.hid (fault_ents HL.out hz)
    clear hz HEQ
    have hk10 : (k : Int) ≤ 10 := by have := HN.out.1; omega
    go_wp2_with fail
    go_loopw [6] (fun i wr => ∃ k : Nat, i = .int .i64 k ∧ k ≤ d.entries.length ∧ Ext w wr ∧ Blk_ wr w.heap.size 40 #[.slice A1 d.blocks.length c1, .slice A2 d.entries.length c2] ∧ entsF d.blocks.length (prevOf d.entries k) (d.entries.drop k) = entsF d.blocks.length none d.entries) (fun i _ => d.entries.length - (intOf i).toNat)
    case atStart => exact ⟨0, rfl, Nat.zero_le _, hx, hb, rfl⟩
    case round =>
     clear hx hb f0 f1 hlt hk hk10 hp8 hp64
     obtain ⟨k, rfl, hk, hx, hb, heq⟩ := hrel
     have f0 := hb.cell 0
     have f1 := hb.cell 1
     simp at f0 f1
     have HEQ := Lib.hid heq
     clear heq
     have hnb10 : (d.blocks.length : Int) ≤ 10 := by have := HN.out.1; omega
     by_cases hlt : k < d.entries.length
     ·obtain ⟨b2, o2, rfl, g1⟩ := HS.out k hlt
      have q0 := hx.cell (g1 k hlt 0 _ rfl)
      have q1 := hx.cell (g1 k hlt 1 _ rfl)
      have q2 := hx.cell (g1 k hlt 2 _ rfl)
      have q3 := hx.cell (g1 k hlt 3 _ rfl)
      simp only [Nat.add_zero] at q0
      have HG := Lib.hid (show entsF d.blocks.length (prevOf d.entries k) (d.entries[k] :: d.entries.drop (k + 1)) = entsF d.blocks.length none d.entries by rw [← drop_at d.entries k hlt]; exact HEQ.out)
      have HNX := Lib.hid (prev_next d.entries k hlt)
      have hsz := (HNM.out d.entries[k] (List.getElem_mem hlt)).2.1
      obtain ⟨X, hX⟩ : ∃ X, X = d.entries[k] := ⟨_, rfl⟩
      rw [← hX] at q0 q1 q2 q3 HG hsz HNX
      have HSZ := Lib.hid hsz
      have HCELL := Lib.hid g1
      clear g1 hX HEQ hsz
      have hki : (k : Int) < (d.entries.length : Int) := by omega
      have hk10 : (k : Int) < 10 := by have := HN.out.2; omega
      go_wp2_with fail
      refine calls_abs (fun W => Ext wr W ∧ Blk_ W wr.heap.size 70 #[.string X.name, .int .i64 X.block, .int .i64 X.at_, .int .i64 X.bytes]) ⟨(Ext.refl _).alloc _, Blk_.new _ _ _⟩ ?_
      rintro W1 ⟨hx1, hbx⟩
      refine (nameMay_any X.name W1 HSZ.out).mono ?_
      rintro e w2 ⟨rfl, rfl⟩; have hx2 := Ext.refl W1
      have hx12 := hx1.trans hx2
      have e0 := (hbx.ext hx2).cell 0
      have e1 := (hbx.ext hx2).cell 1
      have e2 := (hbx.ext hx2).cell 2
      have e3 := (hbx.ext hx2).cell 3
      simp at e0 e1 e2 e3
      have f0' := hx12.cell f0
      have f1' := hx12.cell f1
      have HX2 := Lib.hid (hx.trans hx12)
      have HB2 := Lib.hid (hb.ext hx12)
      clear f0 f1 q0 q1 q2 q3 hbx hx1 hx2 hx12 hb
      have hcs : (nameMay X.name = false ∧ entBad d.blocks.length X = true) ∨ (nameMay X.name = true ∧ inB X.block 0 ((d.blocks.length : Int) - 1) = false ∧ entBad d.blocks.length X = true) ∨ (nameMay X.name = true ∧ inB X.block 0 ((d.blocks.length : Int) - 1) = true ∧ inB X.at_ 0 600 = false ∧ entBad d.blocks.length X = true) ∨
        (nameMay X.name = true ∧ inB X.block 0 ((d.blocks.length : Int) - 1) = true ∧ inB X.at_ 0 600 = true ∧ inB X.bytes 0 200 = false ∧ entBad d.blocks.length X = true) ∨ (nameMay X.name = true ∧ inB X.block 0 ((d.blocks.length : Int) - 1) = true ∧ inB X.at_ 0 600 = true ∧ inB X.bytes 0 200 = true ∧ entBad d.blocks.length X = false) := by
       unfold entBad
       cases nameMay X.name <;> cases inB X.block 0 ((d.blocks.length : Int) - 1) <;> cases inB X.at_ 0 600 <;> cases inB X.bytes 0 200 <;> simp
      rcases hcs with ⟨t0, hbad⟩ | ⟨t0, t1, hbad⟩ | ⟨t0, t1, t2, hbad⟩ | ⟨t0, t1, t2, t3, hbad⟩ | ⟨t0, t1, t2, t3, hbad⟩
      ·have HF := Lib.hid (show catFault d = 4 by rw [HFE.out, ← HG.out, ents_stop hbad])
       rw [t0]
       clear hbad t0
       go_wp2_with fail
       go_ret
       exact ⟨ret_int HF.out.symm, HX2.out⟩
      ·have HF := Lib.hid (show catFault d = 4 by rw [HFE.out, ← HG.out, ents_stop hbad])
       rw [t0]
       clear hbad t0
       go_wp2_with (first | (go_at_call 55; refine (in_any _ _ _ _).mono ?_; rintro e w9 ⟨rfl, rfl⟩; rw [t1]))
       go_ret
       exact ⟨ret_int HF.out.symm, HX2.out⟩
      ·have HF := Lib.hid (show catFault d = 4 by rw [HFE.out, ← HG.out, ents_stop hbad])
       rw [t0]
       clear hbad t0
       go_wp2_with (first | (go_at_call 55; refine (in_any _ _ _ _).mono ?_; rintro e w9 ⟨rfl, rfl⟩; rw [t1]) | (go_at_call 55; refine (in_any _ _ _ _).mono ?_; rintro e w9 ⟨rfl, rfl⟩; rw [t2]))
       go_ret
       exact ⟨ret_int HF.out.symm, HX2.out⟩
      ·have HF := Lib.hid (show catFault d = 4 by rw [HFE.out, ← HG.out, ents_stop hbad])
       rw [t0]
       clear hbad t0
       go_wp2_with (first | (go_at_call 55; refine (in_any _ _ _ _).mono ?_; rintro e w9 ⟨rfl, rfl⟩; rw [t1]) | (go_at_call 55; refine (in_any _ _ _ _).mono ?_; rintro e w9 ⟨rfl, rfl⟩; rw [t2]) | (go_at_call 55; refine (in_any _ _ _ _).mono ?_; rintro e w9 ⟨rfl, rfl⟩; rw [t3]))
       go_ret
       exact ⟨ret_int HF.out.symm, HX2.out⟩
      ·rw [t0]
       cases k with
       | zero =>
        have HGO := Lib.hid (show entsF d.blocks.length (prevOf d.entries (0 + 1)) (d.entries.drop (0 + 1)) = entsF d.blocks.length none d.entries by rw [← HG.out, ents_go hbad rfl, HNX.out])
        clear hbad t0 HG HNX
        go_wp2_with (first | (go_at_call 55; refine (in_any _ _ _ _).mono ?_; rintro e w9 ⟨rfl, rfl⟩; rw [t1]) | (go_at_call 55; refine (in_any _ _ _ _).mono ?_; rintro e w9 ⟨rfl, rfl⟩; rw [t2]) | (go_at_call 55; refine (in_any _ _ _ _).mono ?_; rintro e w9 ⟨rfl, rfl⟩; rw [t3]))
        go_quiet (fail)
        go_wp2_with fail
        go_roundw
        case rel => exact ⟨0 + 1, rfl, by omega, HX2.out.drewN _, HB2.out, HGO.out⟩
        case measure => simp [intOf]; omega
       | succ j =>
        have hj : j < d.entries.length := by omega
        have qp := HX2.out.cell (HCELL.out j hj 0 _ rfl)
        simp only [Nat.add_zero] at qp
        have hpv : prevOf d.entries (j + 1) = some d.entries[j].name := prev_next d.entries j hj
        obtain ⟨Y, hY⟩ : ∃ Y, Y = d.entries[j].name := ⟨_, rfl⟩
        rw [← hY] at qp hpv
        have HG2 := Lib.hid (show entsF d.blocks.length (some Y) (X :: d.entries.drop (j + 1 + 1)) = entsF d.blocks.length none d.entries by rw [← hpv]; exact HG.out)
        have hji : (j : Int) + 1 < (d.entries.length : Int) := by omega
        have hji2 : (j : Int) < (d.entries.length : Int) := by omega
        have hj10 : (j : Int) < 10 := by omega
        clear hY hpv HG hki hk10
        cases hor : Op.bytesLess Y.toList X.name.toList with
        | false =>
         have HF := Lib.hid (show catFault d = 12 by rw [HFE.out, ← HG2.out, ents_order hbad (by show (!Op.bytesLess Y.toList X.name.toList) = true; rw [hor]; rfl)])
         have hor2 := bl_total Y.toList X.name.toList; rw [hor] at hor2
         clear hbad t0 HG2 HNX
         go_wp2_with (first | (go_at_call 55; refine (in_any _ _ _ _).mono ?_; rintro e w9 ⟨rfl, rfl⟩; rw [t1]) | (go_at_call 55; refine (in_any _ _ _ _).mono ?_; rintro e w9 ⟨rfl, rfl⟩; rw [t2]) | (go_at_call 55; refine (in_any _ _ _ _).mono ?_; rintro e w9 ⟨rfl, rfl⟩; rw [t3]))
         go_quiet (fail)
         go_wp2_with fail
         go_ret
         exact ⟨ret_int HF.out.symm, HX2.out.drewN _⟩
        | true =>
         have HGO := Lib.hid (show entsF d.blocks.length (prevOf d.entries (j + 1 + 1)) (d.entries.drop (j + 1 + 1)) = entsF d.blocks.length none d.entries by rw [← HG2.out, ents_go hbad (by show (!Op.bytesLess Y.toList X.name.toList) = false; rw [hor]; rfl), HNX.out])
         have hor2 := bl_total Y.toList X.name.toList; rw [hor] at hor2
         clear hbad t0 HG2 HNX
         go_wp2_with (first | (go_at_call 55; refine (in_any _ _ _ _).mono ?_; rintro e w9 ⟨rfl, rfl⟩; rw [t1]) | (go_at_call 55; refine (in_any _ _ _ _).mono ?_; rintro e w9 ⟨rfl, rfl⟩; rw [t2]) | (go_at_call 55; refine (in_any _ _ _ _).mono ?_; rintro e w9 ⟨rfl, rfl⟩; rw [t3]))
         go_quiet (fail)
         go_wp2_with fail
         go_roundw
         case rel => exact ⟨j + 1 + 1, by go_num, by omega, HX2.out.drewN _, HB2.out, HGO.out⟩
         case measure => simp [intOf]; omega
     ·have HF := Lib.hid (show catFault d = 0 by rw [HFE.out, ← HEQ.out, List.drop_of_length_le (by omega)]; rfl)
      clear HEQ HFE
      go_wp2_with fail
      go_ret
      exact ⟨ret_int HF.out.symm, hx⟩
theorem next_good {c : Cat} (h : catFault c = 0) : nextS c = (nextAt 8 c.blocks, 0) := by unfold nextS; rw [if_pos h]
theorem next_bad {c : Cat} (h : ¬ catFault c = 0) : nextS c = (0, catFault c) := by unfold nextS; rw [if_neg h]
theorem block_ok {p : Int} {b : Blk} {l : List Blk} (h : blocksF p (b :: l) = 0) : 0 ≤ b.bytes ∧ b.bytes ≤ 1200 ∧ p + secs b.bytes ≤ 64 ∧ blocksF (p + secs b.bytes) l = 0 := by
 cases hb : blockBad p b with
 | true => rw [blocks_stop hb] at h; exact absurd h (by decide)
 | false =>
  rw [blocks_go hb] at h
  unfold blockBad at hb
  simp only [Bool.or_eq_false_iff, Bool.not_eq_false', decide_eq_false_iff_not] at hb
  have := inB_true hb.1.2
  exact ⟨this.1, this.2, by omega, h⟩
theorem catNext_any (cs : List Value) (d : Cat) (w : World) (h : RCat w cs d) :
  Calls Tryz.prog 15 #[.agg cs.toArray] w fun e w' => e = .returned (.tuple #[.int .i64 (nextS d).1, .int .i64 (nextS d).2]) ∧ Ext w w' := by
 have h' := h
 obtain ⟨v1, v2, rfl, h1, h2'⟩ := h'
 obtain ⟨A1, c1, rfl, l1, hc1, p1⟩ := h1.rowE encBlk_ok
 have HP := Lib.hid p1
 have HH := Lib.hid h
 clear h1 h2' l1 hc1 p1 h
 go_enter Tryz.func15, Tryz.ntmps15
 go_wp2_with fail
 refine calls_abs (fun W => Ext w W ∧ Blk_ W w.heap.size 40 #[.slice A1 d.blocks.length c1, v2]) ⟨(Ext.refl _).alloc _, Blk_.new _ _ _⟩ ?_
 rintro W ⟨hx, hb⟩
 refine (catCheck_any [.slice A1 d.blocks.length c1, v2] d W (HH.out.up hx)).mono ?_
 rintro e w1 ⟨rfl, hx1⟩
 have hb1 := hb.ext hx1
 have hxw := hx.trans hx1
 have f0 := hb1.cell 0
 simp at f0
 clear hb hx hx1
 by_cases hc : catFault d = 0
 ·have HF := Lib.hid (next_good hc)
  have hok := catFault_ok hc
  have HN := Lib.hid hok.1
  have HB0 := Lib.hid hok.2.2.1
  rw [hc]
  clear hc hok
  go_wp2_with fail
  go_loopw [5, 16] (fun pv i wr => ∃ (k : Nat) (p : Int), i = .int .i64 k ∧ pv = .int .i64 p ∧ k ≤ d.blocks.length ∧ 8 ≤ p ∧ p ≤ 64 ∧ Ext w wr ∧ Blk_ wr w.heap.size 40 #[.slice A1 d.blocks.length c1, v2] ∧ blocksF p (d.blocks.drop k) = 0 ∧ nextAt p (d.blocks.drop k) = nextAt 8 d.blocks) (fun _ i _ => d.blocks.length - (intOf i).toNat)
  case atStart => exact ⟨0, 8, rfl, rfl, Nat.zero_le _, by omega, by omega, hxw, hb1, HB0.out, rfl⟩
  case round =>
   clear hxw hb1 f0
   obtain ⟨k, p, rfl, rfl, hk, hp8, hp64, hx, hb, hz, heq⟩ := hrel
   have f0 := hb.cell 0
   simp at f0
   have HEQ := Lib.hid heq
   have HZ := Lib.hid hz
   clear heq hz
   by_cases hlt : k < d.blocks.length
   ·obtain ⟨b1, o1, rfl, g1⟩ := HP.out k hlt
    have q0 := hx.cell (g1 k hlt 0 _ rfl)
    have q1 := hx.cell (g1 k hlt 1 _ rfl)
    simp only [Nat.add_zero] at q0
    have hz := HZ.out
    have heq := HEQ.out
    rw [drop_at d.blocks k hlt] at hz heq
    obtain ⟨B, hB⟩ : ∃ B, B = d.blocks[k] := ⟨_, rfl⟩
    rw [← hB] at q0 q1 hz heq
    obtain ⟨u1, u2, u3, u4⟩ := block_ok hz
    have u3' : p + (B.bytes + 23) / 24 ≤ 64 := u3
    have HST := Lib.hid (And.intro u4 (show nextAt (p + secs B.bytes) (d.blocks.drop (k + 1)) = nextAt 8 d.blocks from heq))
    clear g1 hB HEQ HZ hz heq u3 u4
    have hki : (k : Int) < (d.blocks.length : Int) := by omega
    have hk10 : (k : Int) < 10 := by have := HN.out; omega
    go_wp2_with (first | (go_at_call 16; refine (sectors_any _ _ u1 (by omega)).mono ?_; rintro e w9 ⟨rfl, rfl⟩))
    go_roundw
    case rel => exact ⟨k + 1, p + (B.bytes + 23) / 24, by go_num, by go_num, by omega, by omega, u3', by first | exact hx | exact hx.alloc _, by first | exact hb | exact hb.alloc _, HST.out.1, HST.out.2⟩
    case measure => simp [intOf]; omega
   ·have HFE := Lib.hid (show p = nextAt 8 d.blocks by rw [← HEQ.out, List.drop_of_length_le (by omega)]; rfl)
    clear HEQ HZ
    have hk10 : (k : Int) ≤ 10 := by have := HN.out; omega
    go_wp2_with fail
    go_ret2
    rw [HF.out, ← HFE.out]
    exact ⟨rfl, hx⟩
 ·have HF := Lib.hid (next_bad hc)
  have hc' : (catFault d != 0) = true := by simpa using hc
  clear hc hb1
  generalize catFault d = t at *
  go_wp2_with fail
  go_ret2
  rw [HF.out]
  exact ⟨rfl, hxw⟩
theorem nextOf_any (cs : List Value) (d : Cat) (w : World) (h : RCat w cs d) :
  Calls Tryz.prog 25 #[.agg cs.toArray] w fun e w' => e = .returned (.tuple #[.int .i64 (nextS d).1, .int .i64 (nextS d).2]) ∧ Ext w w' := by
 have h' := h
 obtain ⟨v1, v2, rfl, h1, h2'⟩ := h'
 obtain ⟨A1, c1, rfl, l1, hc1, p1⟩ := h1.rowE encBlk_ok
 have HP := Lib.hid p1
 have HH := Lib.hid h
 clear h1 h2' l1 hc1 p1 h
 go_enter Tryz.func25, Tryz.ntmps25
 go_wp2_with fail
 refine calls_abs (fun W => Ext w W ∧ Blk_ W w.heap.size 40 #[.slice A1 d.blocks.length c1, v2]) ⟨(Ext.refl _).alloc _, Blk_.new _ _ _⟩ ?_
 rintro W ⟨hx, hb⟩
 refine (catFault_any [.slice A1 d.blocks.length c1, v2] d W (HH.out.up hx)).mono ?_
 rintro e w1 ⟨rfl, hx1⟩
 have hb1 := hb.ext hx1
 have hxw := hx.trans hx1
 have f0 := hb1.cell 0
 simp at f0
 clear hb hx hx1
 by_cases hc : catFault d = 0
 ·have HF := Lib.hid (next_good hc)
  have hok := catFault_ok hc
  have HN := Lib.hid hok.1
  have HB0 := Lib.hid hok.2.2.1
  rw [hc]
  clear hc hok
  go_wp2_with fail
  go_loopw [5, 6] (fun pv i wr => ∃ (k : Nat) (p : Int), i = .int .i64 k ∧ pv = .int .i64 p ∧ k ≤ d.blocks.length ∧ 8 ≤ p ∧ p ≤ 64 ∧ Ext w wr ∧ Blk_ wr w.heap.size 40 #[.slice A1 d.blocks.length c1, v2] ∧ blocksF p (d.blocks.drop k) = 0 ∧ nextAt p (d.blocks.drop k) = nextAt 8 d.blocks) (fun _ i _ => d.blocks.length - (intOf i).toNat)
  case atStart => exact ⟨0, 8, rfl, rfl, Nat.zero_le _, by omega, by omega, hxw, hb1, HB0.out, rfl⟩
  case round =>
   clear hxw hb1 f0
   obtain ⟨k, p, rfl, rfl, hk, hp8, hp64, hx, hb, hz, heq⟩ := hrel
   have f0 := hb.cell 0
   simp at f0
   have HEQ := Lib.hid heq
   have HZ := Lib.hid hz
   clear heq hz
   by_cases hlt : k < d.blocks.length
   ·obtain ⟨b1, o1, rfl, g1⟩ := HP.out k hlt
    have q0 := hx.cell (g1 k hlt 0 _ rfl)
    have q1 := hx.cell (g1 k hlt 1 _ rfl)
    simp only [Nat.add_zero] at q0
    have hz := HZ.out
    have heq := HEQ.out
    rw [drop_at d.blocks k hlt] at hz heq
    obtain ⟨B, hB⟩ : ∃ B, B = d.blocks[k] := ⟨_, rfl⟩
    rw [← hB] at q0 q1 hz heq
    obtain ⟨u1, u2, u3, u4⟩ := block_ok hz
    have u3' : p + (B.bytes + 23) / 24 ≤ 64 := u3
    have HST := Lib.hid (And.intro u4 (show nextAt (p + secs B.bytes) (d.blocks.drop (k + 1)) = nextAt 8 d.blocks from heq))
    clear g1 hB HEQ HZ hz heq u3 u4
    have hki : (k : Int) < (d.blocks.length : Int) := by omega
    have hk10 : (k : Int) < 10 := by have := HN.out; omega
    go_wp2_with (first | (go_at_call 26; refine (sectorsOf_any _ _ u1 (by omega)).mono ?_; rintro e w9 ⟨rfl, rfl⟩))
    go_roundw
    case rel => exact ⟨k + 1, p + (B.bytes + 23) / 24, by go_num, by go_num, by omega, by omega, u3', by first | exact hx | exact hx.alloc _, by first | exact hb | exact hb.alloc _, HST.out.1, HST.out.2⟩
    case measure => simp [intOf]; omega
   ·have HFE := Lib.hid (show p = nextAt 8 d.blocks by rw [← HEQ.out, List.drop_of_length_le (by omega)]; rfl)
    clear HEQ HZ
    have hk10 : (k : Int) ≤ 10 := by have := HN.out; omega
    go_wp2_with fail
    go_ret2
    rw [HF.out, ← HFE.out]
    exact ⟨rfl, hx⟩
 ·have HF := Lib.hid (next_bad hc)
  have hc' : (catFault d != 0) = true := by simpa using hc
  clear hc hb1
  generalize catFault d = t at *
  go_wp2_with fail
  go_ret2
  rw [HF.out]
  exact ⟨rfl, hxw⟩
theorem arrayCopy_any (cs : List Value) (a : List Dev) (w : World) (h : RArr w cs a) :
  Calls Tryz.prog 4 #[.agg cs.toArray] w fun e w' => ∃ A c, e = .returned (.agg #[.slice A a.length c]) ∧ Ext w w' ∧ OArr 35 w' w.heap.size (.slice A a.length c) a := by
 obtain ⟨v, rfl, h1⟩ := h
 obtain ⟨A0, c0, rfl, hb0, hc0, hr⟩ := h1.rowR
 clear h1
 go_enter Tryz.func4, Tryz.ntmps4
 go_wp2
 refine wp_abs (fun W => Ext w W ∧ Blk_ W w.heap.size 24 #[.slice A0 a.length c0] ∧ Blk_ W (w.heap.size + 1) 24 #[.slice none 0 0] ∧ Blk_ W (w.heap.size + 1 + 1) 24 #[.slice none 0 0]) ⟨(((Ext.refl _).alloc _).alloc _).alloc _, ((Blk_.new _ _ _).alloc _).alloc _, (Blk_.new1 _ _ _ _).alloc _, Blk_.new2 _ _ _ _ _⟩ ?_
 rintro W ⟨hx, hb1, hb2, hb3⟩
 go_loopw [4] (fun i wr => ∃ (k : Nat) (A : Option Addr) (c : Nat), i = .int .i64 k ∧ k ≤ a.length ∧ Ext w wr ∧ Blk_ wr w.heap.size 24 #[.slice A0 a.length c0] ∧ Blk_ wr (w.heap.size + 1) 24 #[.slice none 0 0] ∧ Blk_ wr (w.heap.size + 1 + 1) 24 #[.slice A k c] ∧ OArr 35 wr (w.heap.size + 3) (.slice A k c) (a.take k)) (fun i _ => a.length - (intOf i).toNat)
 case atStart => exact ⟨0, none, 0, rfl, Nat.zero_le _, hx, hb1, hb2, hb3, OArr.nil _ _ _⟩
 case round =>
  clear hx hb1 hb2 hb3
  obtain ⟨k, A, c, rfl, hk, hx, hb1, hb2, hb3, ho⟩ := hrel
  have f0 := hb1.cell 0
  simp at f0
  by_cases hlt : k < a.length
  ·obtain ⟨b, o, rfl, hcell⟩ := hr k hlt
   obtain ⟨cs, hl, hcs, hd⟩ := hcell k hlt
   obtain ⟨A1, c1, A2, c2, rfl⟩ := hd.form
   have p0 := hcs 0 _ rfl
   have p1 := hcs 1 _ rfl
   simp only [Nat.add_zero] at p0
   have q0 := hx.cell p0
   have q1 := hx.cell p1
   have HQ0 := Lib.hid p0
   have HQ1 := Lib.hid p1
   clear p0 p1
   have g0 := hb3.cell 0
   simp at g0
   have hki : (k : Int) < (a.length : Int) := by omega
   clear hcell hcs hl
   have HR := Lib.hid hr
   clear hr
   go_wp2
   refine wp_region_begin (S := fun W' => W'.cell? ⟨w.heap.size + 1 + 1, 0, none⟩ = some (.slice A k c) ∧ W'.cell? ⟨w.heap.size, 0, none⟩ = some (.slice (some ⟨b, o, none⟩) a.length c0) ∧ W'.cell? ⟨b, o + k * 2, none⟩ = some (.slice A1 a[k].sec.length c1) ∧ W'.cell? ⟨b, o + k * 2 + 1, none⟩ = some (.slice A2 a[k].lost.length c2)) (n := 11) (by kernel_rfl) rfl (by kernel_rfl) rfl ?_
   have hS0 : (fun W' => W'.cell? ⟨w.heap.size + 1 + 1, 0, none⟩ = some (.slice A k c) ∧ W'.cell? ⟨w.heap.size, 0, none⟩ = some (.slice (some ⟨b, o, none⟩) a.length c0) ∧ W'.cell? ⟨b, o + k * 2, none⟩ = some (.slice A1 a[k].sec.length c1) ∧ W'.cell? ⟨b, o + k * 2 + 1, none⟩ = some (.slice A2 a[k].lost.length c2)) wr.drew := ⟨g0, f0, q0, q1⟩
   refine tkL 0 rfl (fun w' hS => by (try dsimp only at hS); go_simp; rfl) hS0 ?_
   refine tkL 1 rfl (fun w' hS => by (try dsimp only at hS); go_simp; rfl) hS0 ?_
   refine tkL 2 rfl (fun w' hS => by (try dsimp only at hS); go_simp; rfl) hS0 ?_
   try simp only [Act.put, List.setIfInBounds_toArray, List.set_cons_zero, List.set_cons_succ]
   refine tkL 3 rfl (fun w' hS => by (try dsimp only at hS); go_simp; rfl) hS0 ?_
   refine tkL 4 rfl (fun w' hS => by (try dsimp only at hS); go_simp; rfl) hS0 ?_
   refine tkL 5 rfl (fun w' hS => by (try dsimp only at hS); go_simp; rfl) hS0 ?_
   try simp only [Act.put, List.setIfInBounds_toArray, List.set_cons_zero, List.set_cons_succ]
   refine tkL 6 rfl (fun w' hS => by (try dsimp only at hS); go_simp; rfl) hS0 ?_
   try simp only [Act.put, List.setIfInBounds_toArray, List.set_cons_zero, List.set_cons_succ]
   refine wpAnyH_oneL (i := 7) rfl (by kernel_rfl) rfl (fun K hK => ?_)
   go_wp2_with fail
   refine (deviceCopy_any [.slice A1 a[k].sec.length c1, .slice A2 a[k].lost.length c2] a[k] _ (hd.up (hx.drew))).mono ?_
   rintro e w2 ⟨B1, k1, B2, k2, rfl, hx2, hod⟩
   have e2 : Ext wr w2 := (Ext.refl wr).drew.trans hx2
   refine hK _ _ ⟨e2.cell g0, e2.cell f0, e2.cell q0, e2.cell q1⟩ ?_
   clear hK K
   try simp only [Act.put, List.setIfInBounds_toArray, List.set_cons_zero, List.set_cons_succ]
   refine wpAnyH_oneL (i := 8) rfl (by kernel_rfl) rfl (fun K hK => ?_)
   go_wp2_with fail
   have e3 : Ext wr (w2.alloc (.cells #[.slice B1 a[k].sec.length k1, .slice B2 a[k].lost.length k2] 35)) := e2.alloc _
   have hb5 := Blk_.new w2 35 #[.slice B1 a[k].sec.length k1, .slice B2 a[k].lost.length k2]
   have hx3 : Ext w2 (w2.alloc (.cells #[.slice B1 a[k].sec.length k1, .slice B2 a[k].lost.length k2] 35)) := (Ext.refl _).alloc _
   refine hK _ _ ⟨e3.cell g0, e3.cell f0, e3.cell q0, e3.cell q1⟩ ?_
   clear hK K
   generalize w2.alloc (.cells #[.slice B1 a[k].sec.length k1, .slice B2 a[k].lost.length k2] 35) = w3 at e3 hb5 hx3
   refine wpAnyH_oneL (i := 9) rfl (by kernel_rfl) rfl (fun K hK => ?_)
   have hdn : RDev w3 [.slice B1 a[k].sec.length k1, .slice B2 a[k].lost.length k2] a[k] := hod.dev.up hx3
   obtain ⟨xs0, hown0, _⟩ := ho.pushes
   obtain ⟨xs, hown, hpush⟩ := (ho.ext e3).pushes
   obtain ⟨i0, hi, hz0, hz1, hz2⟩ := info_parts info_dev
   have hlen : (a.take k).length = k := by rw [List.length_take]; omega
   rw [hlen] at hown hpush
   refine wp_append_at _ (.tmp 14) (.tmp 21) 22 rfl (w.heap.size + 3) 35 i0 (.agg #[.slice none 0 0, .slice none 0 0]) 2 48 Tryz.underlying22 hi hz0 hz1 hz2 rfl (by decide) _ _ xs rfl hown ⟨w2.heap.size, 0, none⟩ 1 1 [.slice B1 a[k].sec.length k1, .slice B2 a[k].lost.length k2] rfl rfl ?_ ?_ ?_ ?_ ?_ ?_
   ·intro j u hu
    rw [Addr.add_lit, Nat.zero_add, hb5.cell]
    simpa using hu
   ·intro u hu
    simp at hu
    rcases hu with rfl | rfl <;> rfl
   ·unfold maxLen; omega
   ·omega
   ·have := e3.size; have := hb3.lt; omega
   intro A' c' w4 hown' hg' hb'
   have hbase : ∀ g, (Value.slice A k c).ownBlock = some g → w.heap.size + 3 ≤ g := fun g hgg => (hown.lt g hgg).1
   have hnb : w.heap.size + 3 ≤ wr.drew.heap.size := by have := hb3.lt; simp; omega
   have hox : OArr 35 w4 (w.heap.size + 3) (.slice A' (k + 1) c') (a.take k ++ [a[k]]) := hpush w4 _ _ _ _ hown' hg' hb' hdn (fun g hgg => by
    refine hdn.newG hod.new1 hod.new2 ?_
    have := (hown0.lt g hgg).2
    simpa using this) (hod.new1.mono hnb) (hod.new2.mono hnb)
   have hx4 : Ext w w4 := (hx.trans e3).grown hg' (fun g hgg => by have := hbase g hgg; omega)
   have j1 := (hb1.ext e3).grown hg' (fun g hgg => by have := hbase g hgg; omega)
   have j2 := (hb2.ext e3).grown hg' (fun g hgg => by have := hbase g hgg; omega)
   have j3 := (hb3.ext e3).grown hg' (fun g hgg => by have := hbase g hgg; omega)
   have j3c := j3.cell 0
   have j3f := j3.frozen 0
   simp at j3c
   have j1c := j1.cell 0
   simp at j1c
   have j4 : w4.cell? ⟨b, o + k * 2, none⟩ = some (.slice A1 a[k].sec.length c1) := hx4.cell HQ0.out
   have j5 : w4.cell? ⟨b, o + k * 2 + 1, none⟩ = some (.slice A2 a[k].lost.length c2) := hx4.cell HQ1.out
   refine hK _ _ ⟨j3c, j1c, j4, j5⟩ ?_
   clear hK K
   try simp only [Act.put, List.setIfInBounds_toArray, List.set_cons_zero, List.set_cons_succ]
   refine wpAnyH_takeL (i := 10) (v := ?_) rfl (by kernel_rfl) (fun _ _ _ h => h) rfl ?_ ⟨j3c, j1c, j4, j5⟩ ?_
   rotate_left
   ·intro w' hS
    try dsimp only at hS
    go_simp
    rfl
   try simp only [Act.put, List.setIfInBounds_toArray, List.set_cons_zero, List.set_cons_succ]
   refine wpAnyH_endL (by kernel_rfl) (fun K hK => ?_)
   go_wp2
   go_roundw
   case rel =>
    refine ⟨k + 1, A', c', by go_num, by omega, hx4.setCell (by dsimp only; omega) _, j1.far (by dsimp only; omega) _, j2.far (by dsimp only; omega) _, ?_, ?_⟩
    ·exact j3.set 0 _
    ·rw [← List.take_append_getElem hlt]
     exact hox.far (by dsimp only; omega) _
   case measure => simp [intOf]; omega
  ·obtain rfl : k = a.length := by omega
   have f0' := hb3.cell 0
   simp at f0'
   have f1 := hb2.cell 0
   have f2 := hb2.frozen 0
   simp at f1
   clear hr
   rw [List.take_length] at ho
   have hb5 := hb2.set 0 (.slice A a.length c)
   have H5 := Lib.hid hb5
   clear hb5
   go_wp2
   refine bodyPost_ret (res_cell rfl rfl H5.out Tryz.underlying24 rfl (by kernel_rfl)) rfl ?_
   exact ⟨A, c, rfl, hx.setCell (by dsimp only; omega) _, (ho.far (by dsimp only; omega) _).base (by omega)⟩
theorem padS_full {s : ByteArray} (h : s.size = 24) : padS s = s := by
 unfold padS; rw [h]; simp
structure Good (a : List Dev) (m : Nat) : Prop where
 len : a.length = 3
 m0 : devMay (dv a 0) = true
 m1 : devMay (dv a 1) = true
 m2 : devMay (dv a 2) = true
 l0 : (dv a 0).sec.length = m
 l1 : (dv a 1).sec.length = m
 l2 : (dv a 2).sec.length = m / 2
theorem Good.of {a : List Dev} (h : arrMay a = true) : Good a (dv a 0).sec.length := by
 obtain ⟨h1, h2, h3, h4, _, _, _, h5, h6⟩ := arr_parts h
 exact ⟨h1, h2, h3, h4, rfl, h5, h6⟩
theorem Good.touch {a : List Dev} {m : Nat} (h : Good a m) {n : Int} (h0 : 0 ≤ n) (h1 : n < m) : touchCode (dv a 0) n = 0 ∧ touchCode (dv a 1) n = 0 :=
 ⟨touch_iff.2 ⟨h.m0, h0, by rw [h.l0]; exact h1⟩, touch_iff.2 ⟨h.m1, h0, by rw [h.l1]; exact h1⟩⟩
theorem bothS_dv {a : List Dev} (h : a.length = 3) (n : Int) (s : ByteArray) : dv (bothS a n s) 0 = (writeS (dv a 0) n n s).1 ∧ dv (bothS a n s) 1 = (writeS (dv a 1) n n s).1 ∧ dv (bothS a n s) 2 = dv a 2 ∧ (bothS a n s).length = 3 := by
 unfold bothS
 refine ⟨?_, ?_, ?_, by simp [h]⟩
 ·rw [dv_set_ne _ (by decide), dv_set_self (by omega)]
 ·rw [dv_set_self (by simp; omega)]
 ·rw [dv_set_ne _ (by decide), dv_set_ne _ (by decide)]
theorem Good.both {a : List Dev} {m : Nat} (h : Good a m) {n : Int} (h0 : 0 ≤ n) (h1 : n < m) {s : ByteArray} (hm : m ≤ 64) (hs : s.size ≤ 24) : Good (bothS a n s) m := by
 obtain ⟨t0, t1⟩ := h.touch h0 h1
 obtain ⟨e0, e1, e2, e3⟩ := bothS_dv h.len n s
 have w0 := write_may (no := n) t0 (by omega) (by omega) hs
 have w1 := write_may (no := n) t1 (by omega) (by omega) hs
 exact ⟨e3, by rw [e0]; exact w0.1, by rw [e1]; exact w1.1, by rw [e2]; exact h.m2, by rw [e0, w0.2, h.l0], by rw [e1, w1.2, h.l1], by rw [e2, h.l2]⟩
theorem mirror_both {a : List Dev} {m : Nat} (h : Good a m) {n : Int} (h0 : 0 ≤ n) (h1 : n < m) {s : ByteArray} (hm : m ≤ 64) (hs : s.size ≤ 24) : mirrorS (bothS a n s) n = (padS s, 1) := by
 obtain ⟨t0, t1⟩ := h.touch h0 h1
 obtain ⟨e0, e1, e2, e3⟩ := bothS_dv h.len n s
 unfold mirrorS
 rw [e0, read_write t0 (by omega) (by omega) hs, if_pos rfl]
 rfl
theorem mirror_both_other {a : List Dev} {m : Nat} (h : Good a m) {n p : Int} (h0 : 0 ≤ n) (h1 : n < m) {s : ByteArray} (hm : m ≤ 64) (hs : s.size ≤ 24) (hp : 0 ≤ p) (hne : p ≠ n) : mirrorS (bothS a n s) p = mirrorS a p := by
 obtain ⟨t0, t1⟩ := h.touch h0 h1
 obtain ⟨e0, e1, e2, e3⟩ := bothS_dv h.len n s
 unfold mirrorS
 rw [e0, e1, read_write_other t0 (by omega) (by omega) hs p p hp hne, read_write_other t1 (by omega) (by omega) hs p p hp hne]
theorem mirror_two (a : List Dev) (n : Int) : (mirrorS a n).2 = 0 ∨ (mirrorS a n).2 = 1 ∨ (mirrorS a n).2 = 2 := by
 unfold mirrorS
 split
 ·exact .inr (.inl rfl)
 ·split
  ·exact .inr (.inr rfl)
  ·exact .inl rfl
theorem arrRead_cases {a : List Dev} {n : Int} (h : arrTouch a n = 0) :
  ((mirrorS a n).2 ≠ 0 ∧ arrReadS a n = ((mirrorS a n).1, (mirrorS a n).2, 0)) ∨ ((mirrorS a n).2 = 0 ∧ arrReadS a n = (.empty, 0, 11)) ∨ ((mirrorS a n).2 = 0 ∧ arrReadS a n = (xorS (parS a n).1 (mirrorS a (partner n)).1, 3, 0)) := by
 unfold arrReadS
 rw [if_neg (by simpa using h)]
 by_cases h1 : (mirrorS a n).2 = 0
 ·right
  rw [if_neg (by simpa using h1)]
  split
  ·exact .inl ⟨h1, rfl⟩
  ·exact .inr ⟨h1, rfl⟩
 ·left
  rw [if_pos h1]
  exact ⟨h1, rfl⟩
def writtenS (a : List Dev) (n : Int) (s : ByteArray) : List Dev :=
 (bothS (savedS a n) n s).set 2 (if (arrReadS a (partner n)).2.2 = 0 then (writeS (dv (bothS (savedS a n) n s) 2) (n / 2) (512 + n / 2) (xorS (padS s) (arrReadS a (partner n)).1)).1 else loseS (dv (bothS (savedS a n) n s) 2) (n / 2))
theorem written_eq {a : List Dev} {n : Int} {s : ByteArray} (h : arrTouch a n = 0) (hs : s.size ≤ 24) : arrWrite3 a n s = writtenS a n s := by
 obtain ⟨hm, h0, h1⟩ := arrTouch_zero.1 h
 obtain ⟨p1, p2, p3, p4, p5, p6, p7, p8, p9, p10⟩ := partner_range h
 have hg := Good.of hm
 have h64 := (arr_parts hm).2.2.2.2.2.1
 have hpm : partner n < (dv a 0).sec.length := (arrTouch_zero.1 p1).2.2
 unfold arrWrite3 writtenS
 have key : ∀ b : List Dev, Good b (dv a 0).sec.length → mirrorS b (partner n) = (if (arrReadS a (partner n)).2.2 = 0 then ((arrReadS a (partner n)).1, (mirrorS b (partner n)).2) else (.empty, 0)) → ((arrReadS a (partner n)).2.2 = 0 → (mirrorS b (partner n)).2 ≠ 0) →
   parityS (bothS b n s) n = (bothS b n s).set 2 (if (arrReadS a (partner n)).2.2 = 0 then (writeS (dv (bothS b n s) 2) (n / 2) (512 + n / 2) (xorS (padS s) (arrReadS a (partner n)).1)).1 else loseS (dv (bothS b n s) 2) (n / 2)) := by
  intro b hb hmb hne
  have e1 := mirror_both hb h0 h1 h64 hs
  have e2 := mirror_both_other hb h0 h1 h64 hs p6 p4
  unfold parityS writeP
  rw [e1, e2]
  by_cases hc : (arrReadS a (partner n)).2.2 = 0
  ·rw [if_pos hc] at hmb
   rw [if_pos ⟨by show (1 : Int) ≠ 0; decide, hne hc⟩, if_pos hc, hmb]
  ·rw [if_neg hc] at hmb
   rw [if_neg (by rw [hmb]; rintro ⟨_, h⟩; exact h rfl), if_neg hc]
 unfold savedS
 rcases arrRead_cases p1 with ⟨c1, c2⟩ | ⟨c1, c2⟩ | ⟨c1, c2⟩
 ·have h3 : ¬ ((arrReadS a (partner n)).2.2 = 0 ∧ (arrReadS a (partner n)).2.1 = 3) := by
   rw [c2]
   rintro ⟨_, h⟩
   simp only at h
   rcases mirror_two a (partner n) with h' | h' | h' <;> omega
  rw [if_neg h3]
  refine key a hg ?_ (fun _ => c1)
  rw [c2, if_pos rfl]
 ·have h3 : ¬ ((arrReadS a (partner n)).2.2 = 0 ∧ (arrReadS a (partner n)).2.1 = 3) := by rw [c2]; rintro ⟨h, _⟩; exact absurd h (by decide)
  rw [if_neg h3]
  refine key a hg ?_ (fun h => by rw [c2] at h; exact absurd h (by decide))
  rw [c2, if_neg (by decide)]
  unfold mirrorS at c1 ⊢
  split
  ·rename_i hh; rw [if_pos hh] at c1; exact absurd c1 (by show ¬ (1 : Int) = 0; decide)
  ·rename_i hh
   rw [if_neg hh] at c1
   split
   ·rename_i hh2; rw [if_pos hh2] at c1; exact absurd c1 (by show ¬ (2 : Int) = 0; decide)
   ·rfl
 ·have h24 : (arrReadS a (partner n)).1.size = 24 := arrReadS_size (by rw [c2])
  have hr0 : (arrReadS a (partner n)).2.2 = 0 := by rw [c2]
  have hr3 : (arrReadS a (partner n)).2.1 = 3 := by rw [c2]
  rw [if_pos ⟨hr0, hr3⟩]
  have hgb := hg.both p6 hpm h64 (s := (arrReadS a (partner n)).1) (by omega)
  have e := mirror_both hg p6 hpm h64 (s := (arrReadS a (partner n)).1) (by omega)
  refine key _ hgb ?_ (fun _ => by rw [e]; show (1 : Int) ≠ 0; decide)
  rw [if_pos hr0, e, padS_full h24]
theorem Ext.by_ {w w' : World} (h : Ext w w') (row : Option Nat) : w.grownBy w' row := ⟨h.below.os, h.below.tape, h.below.output, h.below.size, fun k hk _ => Below.block h.below k hk⟩
theorem setRow_by (w : World) (g i : Nat) (u : Value) : w.grownBy (w.setCell ⟨g, i, none⟩ u) (some g) :=
 ⟨rfl, rfl, rfl, by simp, fun k hk hne => Below.heap_setCell w ⟨g, i, none⟩ u k (fun e => hne (by rw [e]))⟩
theorem OArr.at_ {E : TypeId} {w : World} {base : Nat} {A : Option Addr} {n c : Nat} {a : List Dev} (h : OArr E w base (.slice A n c) a) (hl : a.length = 3) :
  ∃ g, A = some ⟨g, 0, none⟩ ∧ base ≤ g ∧ g < w.heap.size ∧ (∀ k, w.frozen? ⟨g, k, none⟩ = false) ∧ ∀ k, k < 3 → ∃ A1 c1 A2 c2,
   w.cell? ⟨g, k * 2, none⟩ = some (.slice A1 (dv a k).sec.length c1) ∧ w.cell? ⟨g, k * 2 + 1, none⟩ = some (.slice A2 (dv a k).lost.length c2) ∧ RDev w [.slice A1 (dv a k).sec.length c1, .slice A2 (dv a k).lost.length c2] (dv a k) := by
 have hn : n = a.length := by
  obtain ⟨vs, _, ho, _⟩ := h
  have := ho.2
  rcases this with ⟨hv, h0⟩ | ⟨g, cap, cur, hv, _⟩
  ·omega
  ·injection hv
 subst hn
 have hr := h.rarr (by omega)
 obtain ⟨b, o, hA, hlook⟩ := hr.look 0 (by omega)
 obtain ⟨vs, hvl, ho, _⟩ := h
 have ho' := ho
 rcases ho.2 with ⟨hv, h0⟩ | ⟨g, cap, cur, hv, hb, hg, _⟩
 ·omega
 ·injection hv with a1 a2 a3
  subst a1
  have hbo : b = g ∧ o = 0 := by injection hA with hA; injection hA with x1 x2; exact ⟨x1.symm, x2.symm⟩
  obtain ⟨rfl, rfl⟩ := hbo
  refine ⟨b, rfl, hb, (ho'.lt b rfl).2, fun k => ho'.frozenAt k, fun k hk => ?_⟩
  obtain ⟨A1, c1, A2, c2, q0, q1, hd⟩ := hlook k (by omega)
  rw [Nat.zero_add] at q0 q1
  exact ⟨A1, c1, A2, c2, q0, q1, hd⟩
theorem OArr.atg {E : TypeId} {w : World} {base g n c : Nat} {a : List Dev} (h : OArr E w base (.slice (some ⟨g, 0, none⟩) n c) a) (hl : a.length = 3) :
  base ≤ g ∧ g < w.heap.size ∧ (∀ k, w.frozen? ⟨g, k, none⟩ = false) ∧ ∀ k, k < 3 → ∃ A1 c1 A2 c2,
   w.cell? ⟨g, k * 2, none⟩ = some (.slice A1 (dv a k).sec.length c1) ∧ w.cell? ⟨g, k * 2 + 1, none⟩ = some (.slice A2 (dv a k).lost.length c2) ∧ RDev w [.slice A1 (dv a k).sec.length c1, .slice A2 (dv a k).lost.length c2] (dv a k) := by
 obtain ⟨g', hg, r⟩ := h.at_ hl
 obtain rfl : g = g' := by injection hg with hg; injection hg
 exact r
end Go.Proofs.YtjadmfdlggnlgaaGreatDoor
