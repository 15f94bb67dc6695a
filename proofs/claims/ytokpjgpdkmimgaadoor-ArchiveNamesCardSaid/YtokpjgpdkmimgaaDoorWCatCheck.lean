/-
  catalog.Check and the document's CatalogFault: whether a catalog may be; the law CatalogChecks. Conditions: the argument reads as a catalog.
-/
import Derived.Test.YtokpjgpdkmimgaaDoorPCat
import Derived.Test.YtokpjgpdkmimgaaDoorWNum
import Derived.Test.YtokpjgpdkmimgaaDoorWSame
import Derived.BigQuiet
namespace Go.Proofs.YtokpjgpdkmimgaaDoor
set_option linter.unusedSimpArgs false
set_option linter.unusedVariables false
open Go.RowKit


set_option maxRecDepth 100000 in
set_option maxHeartbeats 16000000 in
theorem catCheck_any (cs : List Value) (d : Cat) (w : World) (h : RCat w cs d) :
    Calls Tryd.prog 32 #[.agg cs.toArray] w fun e w' => e = .returned (.int .i64 (catFault d)) ∧ Ext w w' := by
  obtain ⟨v1, v2, rfl, h1, h2'⟩ := h
  have hnames := h2'.mem encEnt_ok w
  have hbnums := h1.mem encBlk_ok w
  obtain ⟨A1, c1, rfl, l1, hc1, p1⟩ := h1.rowE encBlk_ok
  obtain ⟨A2, c2, rfl, l2, hc2, s1⟩ := h2'.rowE encEnt_ok
  clear h1 h2' l1 l2 hc1 hc2
  have HNM := Lib.hid hnames
  have HP := Lib.hid p1
  have HS := Lib.hid s1
  clear hnames p1 s1 hbnums
  go_enter Tryd.func32, Tryd.ntmps32
  by_cases hlong : 10 < d.blocks.length ∨ 10 < d.entries.length
  · have HF := Lib.hid (fault_long hlong)
    have hcs : decide ((10 : Int) < (d.blocks.length : Int)) = true ∨ (decide ((10 : Int) < (d.blocks.length : Int)) = false ∧ decide ((10 : Int) < (d.entries.length : Int)) = true) := by
      simp only [decide_eq_true_eq, decide_eq_false_iff_not]; omega
    clear hlong
    rcases hcs with t1 | ⟨t1, t2⟩
    · go_wp2_with fail
      go_ret
      exact ⟨ret_int HF.out.symm, (Ext.refl _).alloc _⟩
    · go_wp2_with fail
      go_ret
      exact ⟨ret_int HF.out.symm, (Ext.refl _).alloc _⟩
  · have t1 : decide ((10 : Int) < (d.blocks.length : Int)) = false := by simp; omega
    have t2 : decide ((10 : Int) < (d.entries.length : Int)) = false := by simp; omega
    have HL := Lib.hid hlong
    have HN := Lib.hid (And.intro (show d.blocks.length ≤ 10 by omega) (show d.entries.length ≤ 10 by omega))
    clear hlong
    go_wp2_with fail
    refine wp_abs (fun W => Ext w W ∧ Blk_ W w.heap.size 25 #[.slice A1 d.blocks.length c1, .slice A2 d.entries.length c2]) ⟨(Ext.refl _).alloc _, Blk_.new _ _ _⟩ ?_
    rintro W ⟨hx, hb⟩
    go_loopw [3, 21] (fun pv i wr => ∃ (k : Nat) (p : Int), i = .int .i64 k ∧ pv = .int .i64 p ∧ k ≤ d.blocks.length ∧ 8 ≤ p ∧ p ≤ 64 ∧ Ext w wr ∧ Blk_ wr w.heap.size 25 #[.slice A1 d.blocks.length c1, .slice A2 d.entries.length c2] ∧ blocksF p (d.blocks.drop k) = blocksF 8 d.blocks) (fun _ i _ => d.blocks.length - (intOf i).toNat)
    case atStart => exact ⟨0, 8, rfl, rfl, Nat.zero_le _, by omega, by omega, hx, hb, rfl⟩
    case round =>
      clear hx hb t1 t2
      obtain ⟨k, p, rfl, rfl, hk, hp8, hp64, hx, hb, heq⟩ := hrel
      have f0 := hb.cell 0
      have f1 := hb.cell 1
      simp at f0 f1
      have HEQ := Lib.hid heq
      clear heq
      by_cases hlt : k < d.blocks.length
      · obtain ⟨b1, o1, rfl, g1⟩ := HP.out k hlt
        have q0 := hx.cell (g1 k hlt 0 _ rfl)
        have q1 := hx.cell (g1 k hlt 1 _ rfl)
        simp only [Nat.add_zero] at q0
        have HG := Lib.hid (show blocksF p (d.blocks[k] :: d.blocks.drop (k + 1)) = blocksF 8 d.blocks by rw [← drop_at d.blocks k hlt]; exact HEQ.out)
        obtain ⟨B, hB⟩ : ∃ B, B = d.blocks[k] := ⟨_, rfl⟩
        rw [← hB] at q0 q1 HG
        clear g1 hB HEQ
        have hki : (k : Int) < (d.blocks.length : Int) := by omega
        have hk10 : (k : Int) < 10 := by have := HN.out.1; omega
        have hcs : ((B.first != p) = true ∧ blockBad p B = true) ∨ ((B.first != p) = false ∧ decide (B.bytes < 0) = true ∧ blockBad p B = true) ∨ ((B.first != p) = false ∧ decide (B.bytes < 0) = false ∧ decide ((1200 : Int) < B.bytes) = true ∧ blockBad p B = true) ∨
            ((B.first != p) = false ∧ decide (B.bytes < 0) = false ∧ decide ((1200 : Int) < B.bytes) = false ∧ 0 ≤ B.bytes ∧ B.bytes ≤ 1200 ∧ decide (64 < p + (B.bytes + 23) / 24) = true ∧ blockBad p B = true) ∨
            ((B.first != p) = false ∧ decide (B.bytes < 0) = false ∧ decide ((1200 : Int) < B.bytes) = false ∧ 0 ≤ B.bytes ∧ B.bytes ≤ 1200 ∧ decide (64 < p + (B.bytes + 23) / 24) = false ∧ blockBad p B = false) := by
          unfold blockBad secs inB
          by_cases k1 : B.first = p
          · by_cases k2 : B.bytes < 0
            · simp [k1, k2] <;> omega
            · by_cases k3 : 1200 < B.bytes
              · simp [k1, k2, k3] <;> omega
              · by_cases k4 : 64 < p + (B.bytes + 23) / 24
                · simp [k1, k2, k3, k4] <;> omega
                · simp [k1, k2, k3, k4] <;> omega
          · simp [k1]
        rcases hcs with ⟨t1, hbad⟩ | ⟨t1, t2, hbad⟩ | ⟨t1, t2, t3, hbad⟩ | ⟨t1, t2, t3, u1, u2, t4, hbad⟩ | ⟨t1, t2, t3, u1, u2, t4, hbad⟩
        · have HF := Lib.hid (fault_blocks HL.out (by rw [← HG.out, blocks_stop hbad]; decide))
          clear hbad
          go_wp2_with fail
          go_ret
          exact ⟨ret_int HF.out.symm, hx.alloc _⟩
        · have HF := Lib.hid (fault_blocks HL.out (by rw [← HG.out, blocks_stop hbad]; decide))
          clear hbad
          go_wp2_with fail
          go_ret
          exact ⟨ret_int HF.out.symm, hx.alloc _⟩
        · have HF := Lib.hid (fault_blocks HL.out (by rw [← HG.out, blocks_stop hbad]; decide))
          clear hbad
          go_wp2_with fail
          go_ret
          exact ⟨ret_int HF.out.symm, hx.alloc _⟩
        · have HF := Lib.hid (fault_blocks HL.out (by rw [← HG.out, blocks_stop hbad]; decide))
          clear hbad
          go_wp2_with (first | (go_at_call 45; refine (sectors_any _ _ u1 (by omega)).mono ?_; rintro e w9 ⟨rfl, rfl⟩))
          go_ret
          exact ⟨ret_int HF.out.symm, hx.alloc _⟩
        · have HST := Lib.hid (show blocksF (p + (B.bytes + 23) / 24) (d.blocks.drop (k + 1)) = blocksF 8 d.blocks by rw [← HG.out, blocks_go hbad]; rfl)
          have hp64' : p + (B.bytes + 23) / 24 ≤ 64 := by simpa using t4
          clear hbad HG
          go_wp2_with (first | (go_at_call 45; refine (sectors_any _ _ u1 (by omega)).mono ?_; rintro e w9 ⟨rfl, rfl⟩))
          go_roundw
          case rel => exact ⟨k + 1, p + (B.bytes + 23) / 24, by go_num, by go_num, by omega, by omega, hp64', hx.alloc _, hb.alloc _, HST.out⟩
          case measure => simp [intOf]; omega
      · have hz : blocksF 8 d.blocks = 0 := by rw [← HEQ.out, List.drop_of_length_le (by omega)]; rfl
        have HFE := Lib.hid (fault_ents HL.out hz)
        clear hz HEQ
        have hk10 : (k : Int) ≤ 10 := by have := HN.out.1; omega
        go_wp2_with fail
        go_loopw [50] (fun i wr => ∃ k : Nat, i = .int .i64 k ∧ k ≤ d.entries.length ∧ Ext w wr ∧ Blk_ wr w.heap.size 25 #[.slice A1 d.blocks.length c1, .slice A2 d.entries.length c2] ∧ entsF d.blocks.length (prevOf d.entries k) (d.entries.drop k) = entsF d.blocks.length none d.entries) (fun i _ => d.entries.length - (intOf i).toNat)
        case atStart => exact ⟨0, rfl, Nat.zero_le _, hx, hb, rfl⟩
        case round =>
          clear hx hb f0 f1 hlt hk hk10 hp8 hp64
          obtain ⟨k, rfl, hk, hx, hb, heq⟩ := hrel
          have f0 := hb.cell 0
          have f1 := hb.cell 1
          simp at f0 f1
          have HEQ := Lib.hid heq
          clear heq
          have hnb10 : (d.blocks.length : Int) ≤ 10 := by have := HN.out.1; omega
          by_cases hlt : k < d.entries.length
          · obtain ⟨b2, o2, rfl, g1⟩ := HS.out k hlt
            have q0 := hx.cell (g1 k hlt 0 _ rfl)
            have q1 := hx.cell (g1 k hlt 1 _ rfl)
            have q2 := hx.cell (g1 k hlt 2 _ rfl)
            have q3 := hx.cell (g1 k hlt 3 _ rfl)
            simp only [Nat.add_zero] at q0
            have HG := Lib.hid (show entsF d.blocks.length (prevOf d.entries k) (d.entries[k] :: d.entries.drop (k + 1)) = entsF d.blocks.length none d.entries by rw [← drop_at d.entries k hlt]; exact HEQ.out)
            have HNX := Lib.hid (prev_next d.entries k hlt)
            have hsz := (HNM.out d.entries[k] (List.getElem_mem hlt)).2.1
            obtain ⟨X, hX⟩ : ∃ X, X = d.entries[k] := ⟨_, rfl⟩
            rw [← hX] at q0 q1 q2 q3 HG hsz HNX
            have HSZ := Lib.hid hsz
            have HCELL := Lib.hid g1
            clear g1 hX HEQ hsz
            have hki : (k : Int) < (d.entries.length : Int) := by omega
            have hk10 : (k : Int) < 10 := by have := HN.out.2; omega
            go_wp2_with fail
            refine calls_abs (fun W => Ext wr W ∧ Blk_ W wr.heap.size 58 #[.string X.name, .int .i64 X.block, .int .i64 X.at_, .int .i64 X.bytes]) ⟨(Ext.refl _).alloc _, Blk_.new _ _ _⟩ ?_
            rintro W1 ⟨hx1, hbx⟩
            refine (name_any X.name W1 HSZ.out).mono ?_
            rintro e w2 ⟨rfl, hx2⟩
            have hx12 := hx1.trans hx2
            have e0 := (hbx.ext hx2).cell 0
            have e1 := (hbx.ext hx2).cell 1
            have e2 := (hbx.ext hx2).cell 2
            have e3 := (hbx.ext hx2).cell 3
            simp at e0 e1 e2 e3
            have f0' := hx12.cell f0
            have f1' := hx12.cell f1
            have HX2 := Lib.hid (hx.trans hx12)
            have HB2 := Lib.hid (hb.ext hx12)
            clear f0 f1 q0 q1 q2 q3 hbx hx1 hx2 hx12 hb
            have hcs : (nameMay X.name = false ∧ entBad d.blocks.length X = true) ∨ (nameMay X.name = true ∧ decide (X.block < 0) = true ∧ entBad d.blocks.length X = true) ∨ (nameMay X.name = true ∧ decide (X.block < 0) = false ∧ decide ((d.blocks.length : Int) ≤ X.block) = true ∧ entBad d.blocks.length X = true) ∨
                (nameMay X.name = true ∧ decide (X.block < 0) = false ∧ decide ((d.blocks.length : Int) ≤ X.block) = false ∧ decide (X.at_ < 0) = true ∧ entBad d.blocks.length X = true) ∨
                (nameMay X.name = true ∧ decide (X.block < 0) = false ∧ decide ((d.blocks.length : Int) ≤ X.block) = false ∧ decide (X.at_ < 0) = false ∧ decide ((600 : Int) < X.at_) = true ∧ entBad d.blocks.length X = true) ∨
                (nameMay X.name = true ∧ decide (X.block < 0) = false ∧ decide ((d.blocks.length : Int) ≤ X.block) = false ∧ decide (X.at_ < 0) = false ∧ decide ((600 : Int) < X.at_) = false ∧ decide (X.bytes < 0) = true ∧ entBad d.blocks.length X = true) ∨
                (nameMay X.name = true ∧ decide (X.block < 0) = false ∧ decide ((d.blocks.length : Int) ≤ X.block) = false ∧ decide (X.at_ < 0) = false ∧ decide ((600 : Int) < X.at_) = false ∧ decide (X.bytes < 0) = false ∧ decide ((200 : Int) < X.bytes) = true ∧ entBad d.blocks.length X = true) ∨
                (nameMay X.name = true ∧ decide (X.block < 0) = false ∧ decide ((d.blocks.length : Int) ≤ X.block) = false ∧ decide (X.at_ < 0) = false ∧ decide ((600 : Int) < X.at_) = false ∧ decide (X.bytes < 0) = false ∧ decide ((200 : Int) < X.bytes) = false ∧ entBad d.blocks.length X = false) := by
              unfold entBad inB
              cases k0 : nameMay X.name with
              | false => simp
              | true =>
                by_cases k1 : X.block < 0
                · simp [k1] <;> omega
                · by_cases k2 : (d.blocks.length : Int) ≤ X.block
                  · simp [k1, k2] <;> omega
                  · by_cases k3 : X.at_ < 0
                    · simp [k1, k2, k3] <;> omega
                    · by_cases k4 : (600 : Int) < X.at_
                      · simp [k1, k2, k3, k4] <;> omega
                      · by_cases k5 : X.bytes < 0
                        · simp [k1, k2, k3, k4, k5] <;> omega
                        · by_cases k6 : (200 : Int) < X.bytes
                          · simp [k1, k2, k3, k4, k5, k6] <;> omega
                          · simp [k1, k2, k3, k4, k5, k6] <;> omega
            rcases hcs with ⟨t0, hbad⟩ | ⟨t0, t1, hbad⟩ | ⟨t0, t1, t2, hbad⟩ | ⟨t0, t1, t2, t3, hbad⟩ | ⟨t0, t1, t2, t3, t4, hbad⟩ | ⟨t0, t1, t2, t3, t4, t5, hbad⟩ | ⟨t0, t1, t2, t3, t4, t5, t6, hbad⟩ | ⟨t0, t1, t2, t3, t4, t5, t6, hbad⟩
            · have HF := Lib.hid (show catFault d = 4 by rw [HFE.out, ← HG.out, ents_stop hbad])
              rw [t0]
              clear hbad t0
              go_wp2_with fail
              go_ret
              exact ⟨ret_int HF.out.symm, HX2.out⟩
            · have HF := Lib.hid (show catFault d = 4 by rw [HFE.out, ← HG.out, ents_stop hbad])
              rw [t0]
              clear hbad t0
              go_wp2_with fail
              go_ret
              exact ⟨ret_int HF.out.symm, HX2.out⟩
            · have HF := Lib.hid (show catFault d = 4 by rw [HFE.out, ← HG.out, ents_stop hbad])
              rw [t0]
              clear hbad t0
              go_wp2_with fail
              go_ret
              exact ⟨ret_int HF.out.symm, HX2.out⟩
            · have HF := Lib.hid (show catFault d = 4 by rw [HFE.out, ← HG.out, ents_stop hbad])
              rw [t0]
              clear hbad t0
              go_wp2_with fail
              go_ret
              exact ⟨ret_int HF.out.symm, HX2.out⟩
            · have HF := Lib.hid (show catFault d = 4 by rw [HFE.out, ← HG.out, ents_stop hbad])
              rw [t0]
              clear hbad t0
              go_wp2_with fail
              go_ret
              exact ⟨ret_int HF.out.symm, HX2.out⟩
            · have HF := Lib.hid (show catFault d = 4 by rw [HFE.out, ← HG.out, ents_stop hbad])
              rw [t0]
              clear hbad t0
              go_wp2_with fail
              go_ret
              exact ⟨ret_int HF.out.symm, HX2.out⟩
            · have HF := Lib.hid (show catFault d = 4 by rw [HFE.out, ← HG.out, ents_stop hbad])
              rw [t0]
              clear hbad t0
              go_wp2_with fail
              go_ret
              exact ⟨ret_int HF.out.symm, HX2.out⟩
            · rw [t0]
              cases k with
              | zero =>
                have HGO := Lib.hid (show entsF d.blocks.length (prevOf d.entries (0 + 1)) (d.entries.drop (0 + 1)) = entsF d.blocks.length none d.entries by rw [← HG.out, ents_go hbad rfl, HNX.out])
                clear hbad t0 HG HNX
                go_wp2_with fail
                go_quiet (fail)
                go_wp2_with fail
                go_roundw
                case rel => exact ⟨0 + 1, rfl, by omega, HX2.out.drewN _, HB2.out, HGO.out⟩
                case measure => simp [intOf]; omega
              | succ j =>
                have hj : j < d.entries.length := by omega
                have qp := HX2.out.cell (HCELL.out j hj 0 _ rfl)
                simp only [Nat.add_zero] at qp
                have hpv : prevOf d.entries (j + 1) = some d.entries[j].name := prev_next d.entries j hj
                obtain ⟨Y, hY⟩ : ∃ Y, Y = d.entries[j].name := ⟨_, rfl⟩
                rw [← hY] at qp hpv
                have HG2 := Lib.hid (show entsF d.blocks.length (some Y) (X :: d.entries.drop (j + 1 + 1)) = entsF d.blocks.length none d.entries by rw [← hpv]; exact HG.out)
                have hji : (j : Int) + 1 < (d.entries.length : Int) := by omega
                have hji2 : (j : Int) < (d.entries.length : Int) := by omega
                have hj10 : (j : Int) < 10 := by omega
                clear hY hpv HG hki hk10
                cases hor : Op.bytesLess Y.toList X.name.toList with
                | false =>
                  have HF := Lib.hid (show catFault d = 12 by rw [HFE.out, ← HG2.out, ents_order hbad (by show (!Op.bytesLess Y.toList X.name.toList) = true; rw [hor]; rfl)])
                  
                  clear hbad t0 HG2 HNX
                  go_wp2_with fail
                  go_quiet (fail)
                  go_wp2_with fail
                  go_ret
                  exact ⟨ret_int HF.out.symm, HX2.out.drewN _⟩
                | true =>
                  have HGO := Lib.hid (show entsF d.blocks.length (prevOf d.entries (j + 1 + 1)) (d.entries.drop (j + 1 + 1)) = entsF d.blocks.length none d.entries by rw [← HG2.out, ents_go hbad (by show (!Op.bytesLess Y.toList X.name.toList) = false; rw [hor]; rfl), HNX.out])
                  
                  clear hbad t0 HG2 HNX
                  go_wp2_with fail
                  go_quiet (fail)
                  go_wp2_with fail
                  go_roundw
                  case rel => exact ⟨j + 1 + 1, by go_num, by omega, HX2.out.drewN _, HB2.out, HGO.out⟩
                  case measure => simp [intOf]; omega
          · have HF := Lib.hid (show catFault d = 0 by rw [HFE.out, ← HEQ.out, List.drop_of_length_le (by omega)]; rfl)
            clear HEQ HFE
            go_wp2_with fail
            go_ret
            exact ⟨ret_int HF.out.symm, hx⟩

set_option maxRecDepth 100000 in
set_option maxHeartbeats 16000000 in
theorem catFault_any (cs : List Value) (d : Cat) (w : World) (h : RCat w cs d) :
    Calls Tryd.prog 50 #[.agg cs.toArray] w fun e w' => e = .returned (.int .i64 (catFault d)) ∧ Ext w w' := by
  obtain ⟨v1, v2, rfl, h1, h2'⟩ := h
  have hnames := h2'.mem encEnt_ok w
  have hbnums := h1.mem encBlk_ok w
  obtain ⟨A1, c1, rfl, l1, hc1, p1⟩ := h1.rowE encBlk_ok
  obtain ⟨A2, c2, rfl, l2, hc2, s1⟩ := h2'.rowE encEnt_ok
  clear h1 h2' l1 l2 hc1 hc2
  have HNM := Lib.hid hnames
  have HP := Lib.hid p1
  have HS := Lib.hid s1
  clear hnames p1 s1 hbnums
  go_enter Tryd.func50, Tryd.ntmps50
  by_cases hlong : 10 < d.blocks.length ∨ 10 < d.entries.length
  · have HF := Lib.hid (fault_long hlong)
    have hcs : decide ((10 : Int) < (d.blocks.length : Int)) = true ∨ (decide ((10 : Int) < (d.blocks.length : Int)) = false ∧ decide ((10 : Int) < (d.entries.length : Int)) = true) := by
      simp only [decide_eq_true_eq, decide_eq_false_iff_not]; omega
    clear hlong
    rcases hcs with t1 | ⟨t1, t2⟩
    · go_wp2_with fail
      go_ret
      exact ⟨ret_int HF.out.symm, (Ext.refl _).alloc _⟩
    · go_wp2_with fail
      go_ret
      exact ⟨ret_int HF.out.symm, (Ext.refl _).alloc _⟩
  · have t1 : decide ((10 : Int) < (d.blocks.length : Int)) = false := by simp; omega
    have t2 : decide ((10 : Int) < (d.entries.length : Int)) = false := by simp; omega
    have HL := Lib.hid hlong
    have HN := Lib.hid (And.intro (show d.blocks.length ≤ 10 by omega) (show d.entries.length ≤ 10 by omega))
    clear hlong
    go_wp2_with fail
    refine wp_abs (fun W => Ext w W ∧ Blk_ W w.heap.size 25 #[.slice A1 d.blocks.length c1, .slice A2 d.entries.length c2]) ⟨(Ext.refl _).alloc _, Blk_.new _ _ _⟩ ?_
    rintro W ⟨hx, hb⟩
    go_loopw [3, 4] (fun pv i wr => ∃ (k : Nat) (p : Int), i = .int .i64 k ∧ pv = .int .i64 p ∧ k ≤ d.blocks.length ∧ 8 ≤ p ∧ p ≤ 64 ∧ Ext w wr ∧ Blk_ wr w.heap.size 25 #[.slice A1 d.blocks.length c1, .slice A2 d.entries.length c2] ∧ blocksF p (d.blocks.drop k) = blocksF 8 d.blocks) (fun _ i _ => d.blocks.length - (intOf i).toNat)
    case atStart => exact ⟨0, 8, rfl, rfl, Nat.zero_le _, by omega, by omega, hx, hb, rfl⟩
    case round =>
      clear hx hb t1 t2
      obtain ⟨k, p, rfl, rfl, hk, hp8, hp64, hx, hb, heq⟩ := hrel
      have f0 := hb.cell 0
      have f1 := hb.cell 1
      simp at f0 f1
      have HEQ := Lib.hid heq
      clear heq
      by_cases hlt : k < d.blocks.length
      · obtain ⟨b1, o1, rfl, g1⟩ := HP.out k hlt
        have q0 := hx.cell (g1 k hlt 0 _ rfl)
        have q1 := hx.cell (g1 k hlt 1 _ rfl)
        simp only [Nat.add_zero] at q0
        have HG := Lib.hid (show blocksF p (d.blocks[k] :: d.blocks.drop (k + 1)) = blocksF 8 d.blocks by rw [← drop_at d.blocks k hlt]; exact HEQ.out)
        obtain ⟨B, hB⟩ : ∃ B, B = d.blocks[k] := ⟨_, rfl⟩
        rw [← hB] at q0 q1 HG
        clear g1 hB HEQ
        have hki : (k : Int) < (d.blocks.length : Int) := by omega
        have hk10 : (k : Int) < 10 := by have := HN.out.1; omega
        have hcs : ((B.first != p) = true ∧ blockBad p B = true) ∨ ((B.first != p) = false ∧ inB B.bytes 0 1200 = false ∧ blockBad p B = true) ∨
            ((B.first != p) = false ∧ inB B.bytes 0 1200 = true ∧ 0 ≤ B.bytes ∧ B.bytes ≤ 1200 ∧ decide (64 < p + (B.bytes + 23) / 24) = true ∧ blockBad p B = true) ∨
            ((B.first != p) = false ∧ inB B.bytes 0 1200 = true ∧ 0 ≤ B.bytes ∧ B.bytes ≤ 1200 ∧ decide (64 < p + (B.bytes + 23) / 24) = false ∧ blockBad p B = false) := by
          unfold blockBad secs
          by_cases k1 : B.first = p
          · cases k2 : inB B.bytes 0 1200 with
            | false => simp [k1, k2]
            | true =>
              have k3 := inB_true k2
              by_cases k4 : 64 < p + (B.bytes + 23) / 24
              · simp [k1, k2, k4] <;> omega
              · simp [k1, k2, k4] <;> omega
          · simp [k1]
        rcases hcs with ⟨t1, hbad⟩ | ⟨t1, t2, hbad⟩ | ⟨t1, t2, u1, u2, t4, hbad⟩ | ⟨t1, t2, u1, u2, t4, hbad⟩
        · have HF := Lib.hid (fault_blocks HL.out (by rw [← HG.out, blocks_stop hbad]; decide))
          clear hbad
          go_wp2_with fail
          go_ret
          exact ⟨ret_int HF.out.symm, hx.alloc _⟩
        · have HF := Lib.hid (fault_blocks HL.out (by rw [← HG.out, blocks_stop hbad]; decide))
          clear hbad
          go_wp2_with (go_at_call 87; refine (in_any _ _ _ _).mono ?_; rintro e w9 ⟨rfl, rfl⟩; rw [t2])
          go_ret
          exact ⟨ret_int HF.out.symm, hx.alloc _⟩
        · have HF := Lib.hid (fault_blocks HL.out (by rw [← HG.out, blocks_stop hbad]; decide))
          clear hbad
          go_wp2_with (first | (go_at_call 87; refine (in_any _ _ _ _).mono ?_; rintro e w9 ⟨rfl, rfl⟩; rw [t2]) | (go_at_call 49; refine (sectorsOf_any _ _ u1 (by omega)).mono ?_; rintro e w9 ⟨rfl, rfl⟩))
          go_ret
          exact ⟨ret_int HF.out.symm, hx.alloc _⟩
        · have HST := Lib.hid (show blocksF (p + (B.bytes + 23) / 24) (d.blocks.drop (k + 1)) = blocksF 8 d.blocks by rw [← HG.out, blocks_go hbad]; rfl)
          have hp64' : p + (B.bytes + 23) / 24 ≤ 64 := by simpa using t4
          clear hbad HG
          go_wp2_with (first | (go_at_call 87; refine (in_any _ _ _ _).mono ?_; rintro e w9 ⟨rfl, rfl⟩; rw [t2]) | (go_at_call 49; refine (sectorsOf_any _ _ u1 (by omega)).mono ?_; rintro e w9 ⟨rfl, rfl⟩))
          go_roundw
          case rel => exact ⟨k + 1, p + (B.bytes + 23) / 24, by go_num, by go_num, by omega, by omega, hp64', hx.alloc _, hb.alloc _, HST.out⟩
          case measure => simp [intOf]; omega
      · have hz : blocksF 8 d.blocks = 0 := by rw [← HEQ.out, List.drop_of_length_le (by omega)]; rfl
        have HFE := Lib.hid (fault_ents HL.out hz)
        clear hz HEQ
        have hk10 : (k : Int) ≤ 10 := by have := HN.out.1; omega
        go_wp2_with fail
        go_loopw [6] (fun i wr => ∃ k : Nat, i = .int .i64 k ∧ k ≤ d.entries.length ∧ Ext w wr ∧ Blk_ wr w.heap.size 25 #[.slice A1 d.blocks.length c1, .slice A2 d.entries.length c2] ∧ entsF d.blocks.length (prevOf d.entries k) (d.entries.drop k) = entsF d.blocks.length none d.entries) (fun i _ => d.entries.length - (intOf i).toNat)
        case atStart => exact ⟨0, rfl, Nat.zero_le _, hx, hb, rfl⟩
        case round =>
          clear hx hb f0 f1 hlt hk hk10 hp8 hp64
          obtain ⟨k, rfl, hk, hx, hb, heq⟩ := hrel
          have f0 := hb.cell 0
          have f1 := hb.cell 1
          simp at f0 f1
          have HEQ := Lib.hid heq
          clear heq
          have hnb10 : (d.blocks.length : Int) ≤ 10 := by have := HN.out.1; omega
          by_cases hlt : k < d.entries.length
          · obtain ⟨b2, o2, rfl, g1⟩ := HS.out k hlt
            have q0 := hx.cell (g1 k hlt 0 _ rfl)
            have q1 := hx.cell (g1 k hlt 1 _ rfl)
            have q2 := hx.cell (g1 k hlt 2 _ rfl)
            have q3 := hx.cell (g1 k hlt 3 _ rfl)
            simp only [Nat.add_zero] at q0
            have HG := Lib.hid (show entsF d.blocks.length (prevOf d.entries k) (d.entries[k] :: d.entries.drop (k + 1)) = entsF d.blocks.length none d.entries by rw [← drop_at d.entries k hlt]; exact HEQ.out)
            have HNX := Lib.hid (prev_next d.entries k hlt)
            have hsz := (HNM.out d.entries[k] (List.getElem_mem hlt)).2.1
            obtain ⟨X, hX⟩ : ∃ X, X = d.entries[k] := ⟨_, rfl⟩
            rw [← hX] at q0 q1 q2 q3 HG hsz HNX
            have HSZ := Lib.hid hsz
            have HCELL := Lib.hid g1
            clear g1 hX HEQ hsz
            have hki : (k : Int) < (d.entries.length : Int) := by omega
            have hk10 : (k : Int) < 10 := by have := HN.out.2; omega
            go_wp2_with fail
            refine calls_abs (fun W => Ext wr W ∧ Blk_ W wr.heap.size 58 #[.string X.name, .int .i64 X.block, .int .i64 X.at_, .int .i64 X.bytes]) ⟨(Ext.refl _).alloc _, Blk_.new _ _ _⟩ ?_
            rintro W1 ⟨hx1, hbx⟩
            refine (nameMay_any X.name W1 HSZ.out).mono ?_
            rintro e w2 ⟨rfl, rfl⟩; have hx2 := Ext.refl W1
            have hx12 := hx1.trans hx2
            have e0 := (hbx.ext hx2).cell 0
            have e1 := (hbx.ext hx2).cell 1
            have e2 := (hbx.ext hx2).cell 2
            have e3 := (hbx.ext hx2).cell 3
            simp at e0 e1 e2 e3
            have f0' := hx12.cell f0
            have f1' := hx12.cell f1
            have HX2 := Lib.hid (hx.trans hx12)
            have HB2 := Lib.hid (hb.ext hx12)
            clear f0 f1 q0 q1 q2 q3 hbx hx1 hx2 hx12 hb
            have hcs : (nameMay X.name = false ∧ entBad d.blocks.length X = true) ∨ (nameMay X.name = true ∧ inB X.block 0 ((d.blocks.length : Int) - 1) = false ∧ entBad d.blocks.length X = true) ∨ (nameMay X.name = true ∧ inB X.block 0 ((d.blocks.length : Int) - 1) = true ∧ inB X.at_ 0 600 = false ∧ entBad d.blocks.length X = true) ∨
                (nameMay X.name = true ∧ inB X.block 0 ((d.blocks.length : Int) - 1) = true ∧ inB X.at_ 0 600 = true ∧ inB X.bytes 0 200 = false ∧ entBad d.blocks.length X = true) ∨ (nameMay X.name = true ∧ inB X.block 0 ((d.blocks.length : Int) - 1) = true ∧ inB X.at_ 0 600 = true ∧ inB X.bytes 0 200 = true ∧ entBad d.blocks.length X = false) := by
              unfold entBad
              cases nameMay X.name <;> cases inB X.block 0 ((d.blocks.length : Int) - 1) <;> cases inB X.at_ 0 600 <;> cases inB X.bytes 0 200 <;> simp
            rcases hcs with ⟨t0, hbad⟩ | ⟨t0, t1, hbad⟩ | ⟨t0, t1, t2, hbad⟩ | ⟨t0, t1, t2, t3, hbad⟩ | ⟨t0, t1, t2, t3, hbad⟩
            · have HF := Lib.hid (show catFault d = 4 by rw [HFE.out, ← HG.out, ents_stop hbad])
              rw [t0]
              clear hbad t0
              go_wp2_with fail
              go_ret
              exact ⟨ret_int HF.out.symm, HX2.out⟩
            · have HF := Lib.hid (show catFault d = 4 by rw [HFE.out, ← HG.out, ents_stop hbad])
              rw [t0]
              clear hbad t0
              go_wp2_with (first | (go_at_call 87; refine (in_any _ _ _ _).mono ?_; rintro e w9 ⟨rfl, rfl⟩; rw [t1]))
              go_ret
              exact ⟨ret_int HF.out.symm, HX2.out⟩
            · have HF := Lib.hid (show catFault d = 4 by rw [HFE.out, ← HG.out, ents_stop hbad])
              rw [t0]
              clear hbad t0
              go_wp2_with (first | (go_at_call 87; refine (in_any _ _ _ _).mono ?_; rintro e w9 ⟨rfl, rfl⟩; rw [t1]) | (go_at_call 87; refine (in_any _ _ _ _).mono ?_; rintro e w9 ⟨rfl, rfl⟩; rw [t2]))
              go_ret
              exact ⟨ret_int HF.out.symm, HX2.out⟩
            · have HF := Lib.hid (show catFault d = 4 by rw [HFE.out, ← HG.out, ents_stop hbad])
              rw [t0]
              clear hbad t0
              go_wp2_with (first | (go_at_call 87; refine (in_any _ _ _ _).mono ?_; rintro e w9 ⟨rfl, rfl⟩; rw [t1]) | (go_at_call 87; refine (in_any _ _ _ _).mono ?_; rintro e w9 ⟨rfl, rfl⟩; rw [t2]) | (go_at_call 87; refine (in_any _ _ _ _).mono ?_; rintro e w9 ⟨rfl, rfl⟩; rw [t3]))
              go_ret
              exact ⟨ret_int HF.out.symm, HX2.out⟩
            · rw [t0]
              cases k with
              | zero =>
                have HGO := Lib.hid (show entsF d.blocks.length (prevOf d.entries (0 + 1)) (d.entries.drop (0 + 1)) = entsF d.blocks.length none d.entries by rw [← HG.out, ents_go hbad rfl, HNX.out])
                clear hbad t0 HG HNX
                go_wp2_with (first | (go_at_call 87; refine (in_any _ _ _ _).mono ?_; rintro e w9 ⟨rfl, rfl⟩; rw [t1]) | (go_at_call 87; refine (in_any _ _ _ _).mono ?_; rintro e w9 ⟨rfl, rfl⟩; rw [t2]) | (go_at_call 87; refine (in_any _ _ _ _).mono ?_; rintro e w9 ⟨rfl, rfl⟩; rw [t3]))
                go_quiet (fail)
                go_wp2_with fail
                go_roundw
                case rel => exact ⟨0 + 1, rfl, by omega, HX2.out.drewN _, HB2.out, HGO.out⟩
                case measure => simp [intOf]; omega
              | succ j =>
                have hj : j < d.entries.length := by omega
                have qp := HX2.out.cell (HCELL.out j hj 0 _ rfl)
                simp only [Nat.add_zero] at qp
                have hpv : prevOf d.entries (j + 1) = some d.entries[j].name := prev_next d.entries j hj
                obtain ⟨Y, hY⟩ : ∃ Y, Y = d.entries[j].name := ⟨_, rfl⟩
                rw [← hY] at qp hpv
                have HG2 := Lib.hid (show entsF d.blocks.length (some Y) (X :: d.entries.drop (j + 1 + 1)) = entsF d.blocks.length none d.entries by rw [← hpv]; exact HG.out)
                have hji : (j : Int) + 1 < (d.entries.length : Int) := by omega
                have hji2 : (j : Int) < (d.entries.length : Int) := by omega
                have hj10 : (j : Int) < 10 := by omega
                clear hY hpv HG hki hk10
                cases hor : Op.bytesLess Y.toList X.name.toList with
                | false =>
                  have HF := Lib.hid (show catFault d = 12 by rw [HFE.out, ← HG2.out, ents_order hbad (by show (!Op.bytesLess Y.toList X.name.toList) = true; rw [hor]; rfl)])
                  have hor2 := bl_total Y.toList X.name.toList; rw [hor] at hor2
                  clear hbad t0 HG2 HNX
                  go_wp2_with (first | (go_at_call 87; refine (in_any _ _ _ _).mono ?_; rintro e w9 ⟨rfl, rfl⟩; rw [t1]) | (go_at_call 87; refine (in_any _ _ _ _).mono ?_; rintro e w9 ⟨rfl, rfl⟩; rw [t2]) | (go_at_call 87; refine (in_any _ _ _ _).mono ?_; rintro e w9 ⟨rfl, rfl⟩; rw [t3]))
                  go_quiet (fail)
                  go_wp2_with fail
                  go_ret
                  exact ⟨ret_int HF.out.symm, HX2.out.drewN _⟩
                | true =>
                  have HGO := Lib.hid (show entsF d.blocks.length (prevOf d.entries (j + 1 + 1)) (d.entries.drop (j + 1 + 1)) = entsF d.blocks.length none d.entries by rw [← HG2.out, ents_go hbad (by show (!Op.bytesLess Y.toList X.name.toList) = false; rw [hor]; rfl), HNX.out])
                  have hor2 := bl_total Y.toList X.name.toList; rw [hor] at hor2
                  clear hbad t0 HG2 HNX
                  go_wp2_with (first | (go_at_call 87; refine (in_any _ _ _ _).mono ?_; rintro e w9 ⟨rfl, rfl⟩; rw [t1]) | (go_at_call 87; refine (in_any _ _ _ _).mono ?_; rintro e w9 ⟨rfl, rfl⟩; rw [t2]) | (go_at_call 87; refine (in_any _ _ _ _).mono ?_; rintro e w9 ⟨rfl, rfl⟩; rw [t3]))
                  go_quiet (fail)
                  go_wp2_with fail
                  go_roundw
                  case rel => exact ⟨j + 1 + 1, by go_num, by omega, HX2.out.drewN _, HB2.out, HGO.out⟩
                  case measure => simp [intOf]; omega
          · have HF := Lib.hid (show catFault d = 0 by rw [HFE.out, ← HEQ.out, List.drop_of_length_le (by omega)]; rfl)
            clear HEQ HFE
            go_wp2_with fail
            go_ret
            exact ⟨ret_int HF.out.symm, hx⟩

end Go.Proofs.YtokpjgpdkmimgaaDoor
