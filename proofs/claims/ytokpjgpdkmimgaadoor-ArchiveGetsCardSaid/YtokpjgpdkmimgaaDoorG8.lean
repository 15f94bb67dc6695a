/-
  catalog.Check and the document's CatalogFault: whether a catalog may be; the law CatalogChecks. Conditions: the argument reads as a catalog.
-/
import Derived.Test.YtokpjgpdkmimgaaDoorG7
namespace Go.Proofs.YtokpjgpdkmimgaaDoor
set_option linter.unusedSimpArgs false
set_option linter.unusedVariables false
open Go.RowKit


set_option maxRecDepth 100000 in
set_option maxHeartbeats 16000000 in
theorem catCheck_any (cs : List Value) (d : Cat) (w : World) (h : RCat w cs d) :
    Calls Tryd.prog 32 #[.agg cs.toArray] w fun e w' => e = .returned (.int .i64 (catFault d)) ∧ Ext w w' := by
  obtain ⟨v1, v2, rfl, h1, h2'⟩ := h
  have hnames := h2'.mem encEnt_ok w
  have hbnums := h1.mem encBlk_ok w
  obtain ⟨A1, c1, rfl, l1, hc1, p1⟩ := h1.rowE encBlk_ok
  obtain ⟨A2, c2, rfl, l2, hc2, s1⟩ := h2'.rowE encEnt_ok
  clear h1 h2' l1 l2 hc1 hc2
  have HNM := Lib.hid hnames
  have HP := Lib.hid p1
  have HS := Lib.hid s1
  clear hnames p1 s1 hbnums
  go_enter Tryd.func32, Tryd.ntmps32
  by_cases hlong : 10 < d.blocks.length ∨ 10 < d.entries.length
  · have HF := Lib.hid (fault_long hlong)
    have hcs : decide ((10 : Int) < (d.blocks.length : Int)) = true ∨ (decide ((10 : Int) < (d.blocks.length : Int)) = false ∧ decide ((10 : Int) < (d.entries.length : Int)) = true) := by
      simp only [decide_eq_true_eq, decide_eq_false_iff_not]; omega
    clear hlong
    rcases hcs with t1 | ⟨t1, t2⟩
    · go_wp2_with fail
      go_ret
      exact ⟨ret_int HF.out.symm, (Ext.refl _).alloc _⟩
    · go_wp2_with fail
      go_ret
      exact ⟨ret_int HF.out.symm, (Ext.refl _).alloc _⟩
  · have t1 : decide ((10 : Int) < (d.blocks.length : Int)) = false := by simp; omega
    have t2 : decide ((10 : Int) < (d.entries.length : Int)) = false := by simp; omega
    have HL := Lib.hid hlong
    have HN := Lib.hid (And.intro (show d.blocks.length ≤ 10 by omega) (show d.entries.length ≤ 10 by omega))
    clear hlong
    go_wp2_with fail
    refine wp_abs (fun W => Ext w W ∧ Blk_ W w.heap.size 25 #[.slice A1 d.blocks.length c1, .slice A2 d.entries.length c2]) ⟨(Ext.refl _).alloc _, Blk_.new _ _ _⟩ ?_
    rintro W ⟨hx, hb⟩
    go_loopw [3, 21] (fun pv i wr => ∃ (k : Nat) (p : Int), i = .int .i64 k ∧ pv = .int .i64 p ∧ k ≤ d.blocks.length ∧ 8 ≤ p ∧ p ≤ 64 ∧ Ext w wr ∧ Blk_ wr w.heap.size 25 #[.slice A1 d.blocks.length c1, .slice A2 d.entries.length c2] ∧ blocksF p (d.blocks.drop k) = blocksF 8 d.blocks) (fun _ i _ => d.blocks.length - (intOf i).toNat)
    case atStart => exact ⟨0, 8, rfl, rfl, Nat.zero_le _, by omega, by omega, hx, hb, rfl⟩
    case round =>
      clear hx hb t1 t2
      obtain ⟨k, p, rfl, rfl, hk, hp8, hp64, hx, hb, heq⟩ := hrel
      have f0 := hb.cell 0
      have f1 := hb.cell 1
      simp at f0 f1
      have HEQ := Lib.hid heq
      clear heq
      by_cases hlt : k < d.blocks.length
      · obtain ⟨b1, o1, rfl, g1⟩ := HP.out k hlt
        have q0 := hx.cell (g1 k hlt 0 _ rfl)
        have q1 := hx.cell (g1 k hlt 1 _ rfl)
        simp only [Nat.add_zero] at q0
        have HG := Lib.hid (show blocksF p (d.blocks[k] :: d.blocks.drop (k + 1)) = blocksF 8 d.blocks by rw [← drop_at d.blocks k hlt]; exact HEQ.out)
        obtain ⟨B, hB⟩ : ∃ B, B = d.blocks[k] := ⟨_, rfl⟩
        rw [← hB] at q0 q1 HG
        clear g1 hB HEQ
        have hki : (k : Int) < (d.blocks.length : Int) := by omega
        have hk10 : (k : Int) < 10 := by have := HN.out.1; omega
        have hcs : ((B.first != p) = true ∧ blockBad p B = true) ∨ ((B.first != p) = false ∧ decide (B.bytes < 0) = true ∧ blockBad p B = true) ∨ ((B.first != p) = false ∧ decide (B.bytes < 0) = false ∧ decide ((1200 : Int) < B.bytes) = true ∧ blockBad p B = true) ∨
            ((B.first != p) = false ∧ decide (B.bytes < 0) = false ∧ decide ((1200 : Int) < B.bytes) = false ∧ 0 ≤ B.bytes ∧ B.bytes ≤ 1200 ∧ decide (64 < p + (B.bytes + 23) / 24) = true ∧ blockBad p B = true) ∨
            ((B.first != p) = false ∧ decide (B.bytes < 0) = false ∧ decide ((1200 : Int) < B.bytes) = false ∧ 0 ≤ B.bytes ∧ B.bytes ≤ 1200 ∧ decide (64 < p + (B.bytes + 23) / 24) = false ∧ blockBad p B = false) := by
          unfold blockBad secs inB
          by_cases k1 : B.first = p
          · by_cases k2 : B.bytes < 0
            · simp [k1, k2] <;> omega
            · by_cases k3 : 1200 < B.bytes
              · simp [k1, k2, k3] <;> omega
              · by_cases k4 : 64 < p + (B.bytes + 23) / 24
                · simp [k1, k2, k3, k4] <;> omega
                · simp [k1, k2, k3, k4] <;> omega
          · simp [k1]
        rcases hcs with ⟨t1, hbad⟩ | ⟨t1, t2, hbad⟩ | ⟨t1, t2, t3, hbad⟩ | ⟨t1, t2, t3, u1, u2, t4, hbad⟩ | ⟨t1, t2, t3, u1, u2, t4, hbad⟩
        · have HF := Lib.hid (fault_blocks HL.out (by rw [← HG.out, blocks_stop hbad]; decide))
          clear hbad
          go_wp2_with fail
          go_ret
          exact ⟨ret_int HF.out.symm, hx.alloc _⟩
        · have HF := Lib.hid (fault_blocks HL.out (by rw [← HG.out, blocks_stop hbad]; decide))
          clear hbad
          go_wp2_with fail
          go_ret
          exact ⟨ret_int HF.out.symm, hx.alloc _⟩
        · have HF := Lib.hid (fault_blocks HL.out (by rw [← HG.out, blocks_stop hbad]; decide))
          clear hbad
          go_wp2_with fail
          go_ret
          exact ⟨ret_int HF.out.symm, hx.alloc _⟩
        · have HF := Lib.hid (fault_blocks HL.out (by rw [← HG.out, blocks_stop hbad]; decide))
          clear hbad
          go_wp2_with (first | (go_at_call 45; refine (sectors_any _ _ u1 (by omega)).mono ?_; rintro e w9 ⟨rfl, rfl⟩))
          go_ret
          exact ⟨ret_int HF.out.symm, hx.alloc _⟩
        · have HST := Lib.hid (show blocksF (p + (B.bytes + 23) / 24) (d.blocks.drop (k + 1)) = blocksF 8 d.blocks by rw [← HG.out, blocks_go hbad]; rfl)
          have hp64' : p + (B.bytes + 23) / 24 ≤ 64 := by simpa using t4
          clear hbad HG
          go_wp2_with (first | (go_at_call 45; refine (sectors_any _ _ u1 (by omega)).mono ?_; rintro e w9 ⟨rfl, rfl⟩))
          go_roundw
          case rel => exact ⟨k + 1, p + (B.bytes + 23) / 24, by go_num, by go_num, by omega, by omega, hp64', hx.alloc _, hb.alloc _, HST.out⟩
          case measure => simp [intOf]; omega
      · have hz : blocksF 8 d.blocks = 0 := by rw [← HEQ.out, List.drop_of_length_le (by omega)]; rfl
        have HFE := Lib.hid (fault_ents HL.out hz)
        clear hz HEQ
        have hk10 : (k : Int) ≤ 10 := by have := HN.out.1; omega
        go_wp2_with fail
        go_loopw [50] (fun i wr => ∃ k : Nat, i = .int .i64 k ∧ k ≤ d.entries.length ∧ Ext w wr ∧ Blk_ wr w.heap.size 25 #[.slice A1 d.blocks.length c1, .slice A2 d.entries.length c2] ∧ entsF d.blocks.length (prevOf d.entries k) (d.entries.drop k) = entsF d.blocks.length none d.entries) (fun i _ => d.entries.length - (intOf i).toNat)
        case atStart => exact ⟨0, rfl, Nat.zero_le _, hx, hb, rfl⟩
        case round =>
          clear hx hb f0 f1 hlt hk hk10 hp8 hp64
          obtain ⟨k, rfl, hk, hx, hb, heq⟩ := hrel
          have f0 := hb.cell 0
          have f1 := hb.cell 1
          simp at f0 f1
          have HEQ := Lib.hid heq
          clear heq
          have hnb10 : (d.blocks.length : Int) ≤ 10 := by have := HN.out.1; omega
          by_cases hlt : k < d.entries.length
          · obtain ⟨b2, o2, rfl, g1⟩ := HS.out k hlt
            have q0 := hx.cell (g1 k hlt 0 _ rfl)
            have q1 := hx.cell (g1 k hlt 1 _ rfl)
            have q2 := hx.cell (g1 k hlt 2 _ rfl)
            have q3 := hx.cell (g1 k hlt 3 _ rfl)
            simp only [Nat.add_zero] at q0
            have HG := Lib.hid (show entsF d.blocks.length (prevOf d.entries k) (d.entries[k] :: d.entries.drop (k + 1)) = entsF d.blocks.length none d.entries by rw [← drop_at d.entries k hlt]; exact HEQ.out)
            have HNX := Lib.hid (prev_next d.entries k hlt)
            have hsz := (HNM.out d.entries[k] (List.getElem_mem hlt)).2.1
            obtain ⟨X, hX⟩ : ∃ X, X = d.entries[k] := ⟨_, rfl⟩
            rw [← hX] at q0 q1 q2 q3 HG hsz HNX
            have HSZ := Lib.hid hsz
            have HCELL := Lib.hid g1
            clear g1 hX HEQ hsz
            have hki : (k : Int) < (d.entries.length : Int) := by omega
            have hk10 : (k : Int) < 10 := by have := HN.out.2; omega
            go_wp2_with fail
            refine calls_abs (fun W => Ext wr W ∧ Blk_ W wr.heap.size 58 #[.string X.name, .int .i64 X.block, .int .i64 X.at_, .int .i64 X.bytes]) ⟨(Ext.refl _).alloc _, Blk_.new _ _ _⟩ ?_
            rintro W1 ⟨hx1, hbx⟩
            refine (name_any X.name W1 HSZ.out).mono ?_
            rintro e w2 ⟨rfl, hx2⟩
            have hx12 := hx1.trans hx2
            have e0 := (hbx.ext hx2).cell 0
            have e1 := (hbx.ext hx2).cell 1
            have e2 := (hbx.ext hx2).cell 2
            have e3 := (hbx.ext hx2).cell 3
            simp at e0 e1 e2 e3
            have f0' := hx12.cell f0
            have f1' := hx12.cell f1
            have HX2 := Lib.hid (hx.trans hx12)
            have HB2 := Lib.hid (hb.ext hx12)
            clear f0 f1 q0 q1 q2 q3 hbx hx1 hx2 hx12 hb
            have hcs : (nameMay X.name = false ∧ entBad d.blocks.length X = true) ∨ (nameMay X.name = true ∧ decide (X.block < 0) = true ∧ entBad d.blocks.length X = true) ∨ (nameMay X.name = true ∧ decide (X.block < 0) = false ∧ decide ((d.blocks.length : Int) ≤ X.block) = true ∧ entBad d.blocks.length X = true) ∨
                (nameMay X.name = true ∧ decide (X.block < 0) = false ∧ decide ((d.blocks.length : Int) ≤ X.block) = false ∧ decide (X.at_ < 0) = true ∧ entBad d.blocks.length X = true) ∨
                (nameMay X.name = true ∧ decide (X.block < 0) = false ∧ decide ((d.blocks.length : Int) ≤ X.block) = false ∧ decide (X.at_ < 0) = false ∧ decide ((600 : Int) < X.at_) = true ∧ entBad d.blocks.length X = true) ∨
                (nameMay X.name = true ∧ decide (X.block < 0) = false ∧ decide ((d.blocks.length : Int) ≤ X.block) = false ∧ decide (X.at_ < 0) = false ∧ decide ((600 : Int) < X.at_) = false ∧ decide (X.bytes < 0) = true ∧ entBad d.blocks.length X = true) ∨
                (nameMay X.name = true ∧ decide (X.block < 0) = false ∧ decide ((d.blocks.length : Int) ≤ X.block) = false ∧ decide (X.at_ < 0) = false ∧ decide ((600 : Int) < X.at_) = false ∧ decide (X.bytes < 0) = false ∧ decide ((200 : Int) < X.bytes) = true ∧ entBad d.blocks.length X = true) ∨
                (nameMay X.name = true ∧ decide (X.block < 0) = false ∧ decide ((d.blocks.length : Int) ≤ X.block) = false ∧ decide (X.at_ < 0) = false ∧ decide ((600 : Int) < X.at_) = false ∧ decide (X.bytes < 0) = false ∧ decide ((200 : Int) < X.bytes) = false ∧ entBad d.blocks.length X = false) := by
              unfold entBad inB
              cases k0 : nameMay X.name with
              | false => simp
              | true =>
                by_cases k1 : X.block < 0
                · simp [k1] <;> omega
                · by_cases k2 : (d.blocks.length : Int) ≤ X.block
                  · simp [k1, k2] <;> omega
                  · by_cases k3 : X.at_ < 0
                    · simp [k1, k2, k3] <;> omega
                    · by_cases k4 : (600 : Int) < X.at_
                      · simp [k1, k2, k3, k4] <;> omega
                      · by_cases k5 : X.bytes < 0
                        · simp [k1, k2, k3, k4, k5] <;> omega
                        · by_cases k6 : (200 : Int) < X.bytes
                          · simp [k1, k2, k3, k4, k5, k6] <;> omega
                          · simp [k1, k2, k3, k4, k5, k6] <;> omega
            rcases hcs with ⟨t0, hbad⟩ | ⟨t0, t1, hbad⟩ | ⟨t0, t1, t2, hbad⟩ | ⟨t0, t1, t2, t3, hbad⟩ | ⟨t0, t1, t2, t3, t4, hbad⟩ | ⟨t0, t1, t2, t3, t4, t5, hbad⟩ | ⟨t0, t1, t2, t3, t4, t5, t6, hbad⟩ | ⟨t0, t1, t2, t3, t4, t5, t6, hbad⟩
            · have HF := Lib.hid (show catFault d = 4 by rw [HFE.out, ← HG.out, ents_stop hbad])
              rw [t0]
              clear hbad t0
              go_wp2_with fail
              go_ret
              exact ⟨ret_int HF.out.symm, HX2.out⟩
            · have HF := Lib.hid (show catFault d = 4 by rw [HFE.out, ← HG.out, ents_stop hbad])
              rw [t0]
              clear hbad t0
              go_wp2_with fail
              go_ret
              exact ⟨ret_int HF.out.symm, HX2.out⟩
            · have HF := Lib.hid (show catFault d = 4 by rw [HFE.out, ← HG.out, ents_stop hbad])
              rw [t0]
              clear hbad t0
              go_wp2_with fail
              go_ret
              exact ⟨ret_int HF.out.symm, HX2.out⟩
            · have HF := Lib.hid (show catFault d = 4 by rw [HFE.out, ← HG.out, ents_stop hbad])
              rw [t0]
              clear hbad t0
              go_wp2_with fail
              go_ret
              exact ⟨ret_int HF.out.symm, HX2.out⟩
            · have HF := Lib.hid (show catFault d = 4 by rw [HFE.out, ← HG.out, ents_stop hbad])
              rw [t0]
              clear hbad t0
              go_wp2_with fail
              go_ret
              exact ⟨ret_int HF.out.symm, HX2.out⟩
            · have HF := Lib.hid (show catFault d = 4 by rw [HFE.out, ← HG.out, ents_stop hbad])
              rw [t0]
              clear hbad t0
              go_wp2_with fail
              go_ret
              exact ⟨ret_int HF.out.symm, HX2.out⟩
            · have HF := Lib.hid (show catFault d = 4 by rw [HFE.out, ← HG.out, ents_stop hbad])
              rw [t0]
              clear hbad t0
              go_wp2_with fail
              go_ret
              exact ⟨ret_int HF.out.symm, HX2.out⟩
            · rw [t0]
              cases k with
              | zero =>
                have HGO := Lib.hid (show entsF d.blocks.length (prevOf d.entries (0 + 1)) (d.entries.drop (0 + 1)) = entsF d.blocks.length none d.entries by rw [← HG.out, ents_go hbad rfl, HNX.out])
                clear hbad t0 HG HNX
                go_wp2_with fail
                go_quiet (fail)
                go_wp2_with fail
                go_roundw
                case rel => exact ⟨0 + 1, rfl, by omega, HX2.out.drewN _, HB2.out, HGO.out⟩
                case measure => simp [intOf]; omega
              | succ j =>
                have hj : j < d.entries.length := by omega
                have qp := HX2.out.cell (HCELL.out j hj 0 _ rfl)
                simp only [Nat.add_zero] at qp
                have hpv : prevOf d.entries (j + 1) = some d.entries[j].name := prev_next d.entries j hj
                obtain ⟨Y, hY⟩ : ∃ Y, Y = d.entries[j].name := ⟨_, rfl⟩
                rw [← hY] at qp hpv
                have HG2 := Lib.hid (show entsF d.blocks.length (some Y) (X :: d.entries.drop (j + 1 + 1)) = entsF d.blocks.length none d.entries by rw [← hpv]; exact HG.out)
                have hji : (j : Int) + 1 < (d.entries.length : Int) := by omega
                have hji2 : (j : Int) < (d.entries.length : Int) := by omega
                have hj10 : (j : Int) < 10 := by omega
                clear hY hpv HG hki hk10
                cases hor : Op.bytesLess Y.toList X.name.toList with
                | false =>
                  have HF := Lib.hid (show catFault d = 12 by rw [HFE.out, ← HG2.out, ents_order hbad (by show (!Op.bytesLess Y.toList X.name.toList) = true; rw [hor]; rfl)])
                  
                  clear hbad t0 HG2 HNX
                  go_wp2_with fail
                  go_quiet (fail)
                  go_wp2_with fail
                  go_ret
                  exact ⟨ret_int HF.out.symm, HX2.out.drewN _⟩
                | true =>
                  have HGO := Lib.hid (show entsF d.blocks.length (prevOf d.entries (j + 1 + 1)) (d.entries.drop (j + 1 + 1)) = entsF d.blocks.length none d.entries by rw [← HG2.out, ents_go hbad (by show (!Op.bytesLess Y.toList X.name.toList) = false; rw [hor]; rfl), HNX.out])
                  
                  clear hbad t0 HG2 HNX
                  go_wp2_with fail
                  go_quiet (fail)
                  go_wp2_with fail
                  go_roundw
                  case rel => exact ⟨j + 1 + 1, by go_num, by omega, HX2.out.drewN _, HB2.out, HGO.out⟩
                  case measure => simp [intOf]; omega
          · have HF := Lib.hid (show catFault d = 0 by rw [HFE.out, ← HEQ.out, List.drop_of_length_le (by omega)]; rfl)
            clear HEQ HFE
            go_wp2_with fail
            go_ret
            exact ⟨ret_int HF.out.symm, hx⟩

set_option maxRecDepth 100000 in
set_option maxHeartbeats 16000000 in
theorem catFault_any (cs : List Value) (d : Cat) (w : World) (h : RCat w cs d) :
    Calls Tryd.prog 50 #[.agg cs.toArray] w fun e w' => e = .returned (.int .i64 (catFault d)) ∧ Ext w w' := by
  obtain ⟨v1, v2, rfl, h1, h2'⟩ := h
  have hnames := h2'.mem encEnt_ok w
  have hbnums := h1.mem encBlk_ok w
  obtain ⟨A1, c1, rfl, l1, hc1, p1⟩ := h1.rowE encBlk_ok
  obtain ⟨A2, c2, rfl, l2, hc2, s1⟩ := h2'.rowE encEnt_ok
  clear h1 h2' l1 l2 hc1 hc2
  have HNM := Lib.hid hnames
  have HP := Lib.hid p1
  have HS := Lib.hid s1
  clear hnames p1 s1 hbnums
  go_enter Tryd.func50, Tryd.ntmps50
  by_cases hlong : 10 < d.blocks.length ∨ 10 < d.entries.length
  · have HF := Lib.hid (fault_long hlong)
    have hcs : decide ((10 : Int) < (d.blocks.length : Int)) = true ∨ (decide ((10 : Int) < (d.blocks.length : Int)) = false ∧ decide ((10 : Int) < (d.entries.length : Int)) = true) := by
      simp only [decide_eq_true_eq, decide_eq_false_iff_not]; omega
    clear hlong
    rcases hcs with t1 | ⟨t1, t2⟩
    · go_wp2_with fail
      go_ret
      exact ⟨ret_int HF.out.symm, (Ext.refl _).alloc _⟩
    · go_wp2_with fail
      go_ret
      exact ⟨ret_int HF.out.symm, (Ext.refl _).alloc _⟩
  · have t1 : decide ((10 : Int) < (d.blocks.length : Int)) = false := by simp; omega
    have t2 : decide ((10 : Int) < (d.entries.length : Int)) = false := by simp; omega
    have HL := Lib.hid hlong
    have HN := Lib.hid (And.intro (show d.blocks.length ≤ 10 by omega) (show d.entries.length ≤ 10 by omega))
    clear hlong
    go_wp2_with fail
    refine wp_abs (fun W => Ext w W ∧ Blk_ W w.heap.size 25 #[.slice A1 d.blocks.length c1, .slice A2 d.entries.length c2]) ⟨(Ext.refl _).alloc _, Blk_.new _ _ _⟩ ?_
    rintro W ⟨hx, hb⟩
    go_loopw [3, 4] (fun pv i wr => ∃ (k : Nat) (p : Int), i = .int .i64 k ∧ pv = .int .i64 p ∧ k ≤ d.blocks.length ∧ 8 ≤ p ∧ p ≤ 64 ∧ Ext w wr ∧ Blk_ wr w.heap.size 25 #[.slice A1 d.blocks.length c1, .slice A2 d.entries.length c2] ∧ blocksF p (d.blocks.drop k) = blocksF 8 d.blocks) (fun _ i _ => d.blocks.length - (intOf i).toNat)
    case atStart => exact ⟨0, 8, rfl, rfl, Nat.zero_le _, by omega, by omega, hx, hb, rfl⟩
    case round =>
      clear hx hb t1 t2
      obtain ⟨k, p, rfl, rfl, hk, hp8, hp64, hx, hb, heq⟩ := hrel
      have f0 := hb.cell 0
      have f1 := hb.cell 1
      simp at f0 f1
      have HEQ := Lib.hid heq
      clear heq
      by_cases hlt : k < d.blocks.length
      · obtain ⟨b1, o1, rfl, g1⟩ := HP.out k hlt
        have q0 := hx.cell (g1 k hlt 0 _ rfl)
        have q1 := hx.cell (g1 k hlt 1 _ rfl)
        simp only [Nat.add_zero] at q0
        have HG := Lib.hid (show blocksF p (d.blocks[k] :: d.blocks.drop (k + 1)) = blocksF 8 d.blocks by rw [← drop_at d.blocks k hlt]; exact HEQ.out)
        obtain ⟨B, hB⟩ : ∃ B, B = d.blocks[k] := ⟨_, rfl⟩
        rw [← hB] at q0 q1 HG
        clear g1 hB HEQ
        have hki : (k : Int) < (d.blocks.length : Int) := by omega
        have hk10 : (k : Int) < 10 := by have := HN.out.1; omega
        have hcs : ((B.first != p) = true ∧ blockBad p B = true) ∨ ((B.first != p) = false ∧ inB B.bytes 0 1200 = false ∧ blockBad p B = true) ∨
            ((B.first != p) = false ∧ inB B.bytes 0 1200 = true ∧ 0 ≤ B.bytes ∧ B.bytes ≤ 1200 ∧ decide (64 < p + (B.bytes + 23) / 24) = true ∧ blockBad p B = true) ∨
            ((B.first != p) = false ∧ inB B.bytes 0 1200 = true ∧ 0 ≤ B.bytes ∧ B.bytes ≤ 1200 ∧ decide (64 < p + (B.bytes + 23) / 24) = false ∧ blockBad p B = false) := by
          unfold blockBad secs
          by_cases k1 : B.first = p
          · cases k2 : inB B.bytes 0 1200 with
            | false => simp [k1, k2]
            | true =>
              have k3 := inB_true k2
              by_cases k4 : 64 < p + (B.bytes + 23) / 24
              · simp [k1, k2, k4] <;> omega
              · simp [k1, k2, k4] <;> omega
          · simp [k1]
        rcases hcs with ⟨t1, hbad⟩ | ⟨t1, t2, hbad⟩ | ⟨t1, t2, u1, u2, t4, hbad⟩ | ⟨t1, t2, u1, u2, t4, hbad⟩
        · have HF := Lib.hid (fault_blocks HL.out (by rw [← HG.out, blocks_stop hbad]; decide))
          clear hbad
          go_wp2_with fail
          go_ret
          exact ⟨ret_int HF.out.symm, hx.alloc _⟩
        · have HF := Lib.hid (fault_blocks HL.out (by rw [← HG.out, blocks_stop hbad]; decide))
          clear hbad
          go_wp2_with (go_at_call 87; refine (in_any _ _ _ _).mono ?_; rintro e w9 ⟨rfl, rfl⟩; rw [t2])
          go_ret
          exact ⟨ret_int HF.out.symm, hx.alloc _⟩
        · have HF := Lib.hid (fault_blocks HL.out (by rw [← HG.out, blocks_stop hbad]; decide))
          clear hbad
          go_wp2_with (first | (go_at_call 87; refine (in_any _ _ _ _).mono ?_; rintro e w9 ⟨rfl, rfl⟩; rw [t2]) | (go_at_call 49; refine (sectorsOf_any _ _ u1 (by omega)).mono ?_; rintro e w9 ⟨rfl, rfl⟩))
          go_ret
          exact ⟨ret_int HF.out.symm, hx.alloc _⟩
        · have HST := Lib.hid (show blocksF (p + (B.bytes + 23) / 24) (d.blocks.drop (k + 1)) = blocksF 8 d.blocks by rw [← HG.out, blocks_go hbad]; rfl)
          have hp64' : p + (B.bytes + 23) / 24 ≤ 64 := by simpa using t4
          clear hbad HG
          go_wp2_with (first | (go_at_call 87; refine (in_any _ _ _ _).mono ?_; rintro e w9 ⟨rfl, rfl⟩; rw [t2]) | (go_at_call 49; refine (sectorsOf_any _ _ u1 (by omega)).mono ?_; rintro e w9 ⟨rfl, rfl⟩))
          go_roundw
          case rel => exact ⟨k + 1, p + (B.bytes + 23) / 24, by go_num, by go_num, by omega, by omega, hp64', hx.alloc _, hb.alloc _, HST.out⟩
          case measure => simp [intOf]; omega
      · have hz : blocksF 8 d.blocks = 0 := by rw [← HEQ.out, List.drop_of_length_le (by omega)]; rfl
        have HFE := Lib.hid (fault_ents HL.out hz)
        clear hz HEQ
        have hk10 : (k : Int) ≤ 10 := by have := HN.out.1; omega
        go_wp2_with fail
        go_loopw [6] (fun i wr => ∃ k : Nat, i = .int .i64 k ∧ k ≤ d.entries.length ∧ Ext w wr ∧ Blk_ wr w.heap.size 25 #[.slice A1 d.blocks.length c1, .slice A2 d.entries.length c2] ∧ entsF d.blocks.length (prevOf d.entries k) (d.entries.drop k) = entsF d.blocks.length none d.entries) (fun i _ => d.entries.length - (intOf i).toNat)
        case atStart => exact ⟨0, rfl, Nat.zero_le _, hx, hb, rfl⟩
        case round =>
          clear hx hb f0 f1 hlt hk hk10 hp8 hp64
          obtain ⟨k, rfl, hk, hx, hb, heq⟩ := hrel
          have f0 := hb.cell 0
          have f1 := hb.cell 1
          simp at f0 f1
          have HEQ := Lib.hid heq
          clear heq
          have hnb10 : (d.blocks.length : Int) ≤ 10 := by have := HN.out.1; omega
          by_cases hlt : k < d.entries.length
          · obtain ⟨b2, o2, rfl, g1⟩ := HS.out k hlt
            have q0 := hx.cell (g1 k hlt 0 _ rfl)
            have q1 := hx.cell (g1 k hlt 1 _ rfl)
            have q2 := hx.cell (g1 k hlt 2 _ rfl)
            have q3 := hx.cell (g1 k hlt 3 _ rfl)
            simp only [Nat.add_zero] at q0
            have HG := Lib.hid (show entsF d.blocks.length (prevOf d.entries k) (d.entries[k] :: d.entries.drop (k + 1)) = entsF d.blocks.length none d.entries by rw [← drop_at d.entries k hlt]; exact HEQ.out)
            have HNX := Lib.hid (prev_next d.entries k hlt)
            have hsz := (HNM.out d.entries[k] (List.getElem_mem hlt)).2.1
            obtain ⟨X, hX⟩ : ∃ X, X = d.entries[k] := ⟨_, rfl⟩
            rw [← hX] at q0 q1 q2 q3 HG hsz HNX
            have HSZ := Lib.hid hsz
            have HCELL := Lib.hid g1
            clear g1 hX HEQ hsz
            have hki : (k : Int) < (d.entries.length : Int) := by omega
            have hk10 : (k : Int) < 10 := by have := HN.out.2; omega
            go_wp2_with fail
            refine calls_abs (fun W => Ext wr W ∧ Blk_ W wr.heap.size 58 #[.string X.name, .int .i64 X.block, .int .i64 X.at_, .int .i64 X.bytes]) ⟨(Ext.refl _).alloc _, Blk_.new _ _ _⟩ ?_
            rintro W1 ⟨hx1, hbx⟩
            refine (nameMay_any X.name W1 HSZ.out).mono ?_
            rintro e w2 ⟨rfl, rfl⟩; have hx2 := Ext.refl W1
            have hx12 := hx1.trans hx2
            have e0 := (hbx.ext hx2).cell 0
            have e1 := (hbx.ext hx2).cell 1
            have e2 := (hbx.ext hx2).cell 2
            have e3 := (hbx.ext hx2).cell 3
            simp at e0 e1 e2 e3
            have f0' := hx12.cell f0
            have f1' := hx12.cell f1
            have HX2 := Lib.hid (hx.trans hx12)
            have HB2 := Lib.hid (hb.ext hx12)
            clear f0 f1 q0 q1 q2 q3 hbx hx1 hx2 hx12 hb
            have hcs : (nameMay X.name = false ∧ entBad d.blocks.length X = true) ∨ (nameMay X.name = true ∧ inB X.block 0 ((d.blocks.length : Int) - 1) = false ∧ entBad d.blocks.length X = true) ∨ (nameMay X.name = true ∧ inB X.block 0 ((d.blocks.length : Int) - 1) = true ∧ inB X.at_ 0 600 = false ∧ entBad d.blocks.length X = true) ∨
                (nameMay X.name = true ∧ inB X.block 0 ((d.blocks.length : Int) - 1) = true ∧ inB X.at_ 0 600 = true ∧ inB X.bytes 0 200 = false ∧ entBad d.blocks.length X = true) ∨ (nameMay X.name = true ∧ inB X.block 0 ((d.blocks.length : Int) - 1) = true ∧ inB X.at_ 0 600 = true ∧ inB X.bytes 0 200 = true ∧ entBad d.blocks.length X = false) := by
              unfold entBad
              cases nameMay X.name <;> cases inB X.block 0 ((d.blocks.length : Int) - 1) <;> cases inB X.at_ 0 600 <;> cases inB X.bytes 0 200 <;> simp
            rcases hcs with ⟨t0, hbad⟩ | ⟨t0, t1, hbad⟩ | ⟨t0, t1, t2, hbad⟩ | ⟨t0, t1, t2, t3, hbad⟩ | ⟨t0, t1, t2, t3, hbad⟩
            · have HF := Lib.hid (show catFault d = 4 by rw [HFE.out, ← HG.out, ents_stop hbad])
              rw [t0]
              clear hbad t0
              go_wp2_with fail
              go_ret
              exact ⟨ret_int HF.out.symm, HX2.out⟩
            · have HF := Lib.hid (show catFault d = 4 by rw [HFE.out, ← HG.out, ents_stop hbad])
              rw [t0]
              clear hbad t0
              go_wp2_with (first | (go_at_call 87; refine (in_any _ _ _ _).mono ?_; rintro e w9 ⟨rfl, rfl⟩; rw [t1]))
              go_ret
              exact ⟨ret_int HF.out.symm, HX2.out⟩
            · have HF := Lib.hid (show catFault d = 4 by rw [HFE.out, ← HG.out, ents_stop hbad])
              rw [t0]
              clear hbad t0
              go_wp2_with (first | (go_at_call 87; refine (in_any _ _ _ _).mono ?_; rintro e w9 ⟨rfl, rfl⟩; rw [t1]) | (go_at_call 87; refine (in_any _ _ _ _).mono ?_; rintro e w9 ⟨rfl, rfl⟩; rw [t2]))
              go_ret
              exact ⟨ret_int HF.out.symm, HX2.out⟩
            · have HF := Lib.hid (show catFault d = 4 by rw [HFE.out, ← HG.out, ents_stop hbad])
              rw [t0]
              clear hbad t0
              go_wp2_with (first | (go_at_call 87; refine (in_any _ _ _ _).mono ?_; rintro e w9 ⟨rfl, rfl⟩; rw [t1]) | (go_at_call 87; refine (in_any _ _ _ _).mono ?_; rintro e w9 ⟨rfl, rfl⟩; rw [t2]) | (go_at_call 87; refine (in_any _ _ _ _).mono ?_; rintro e w9 ⟨rfl, rfl⟩; rw [t3]))
              go_ret
              exact ⟨ret_int HF.out.symm, HX2.out⟩
            · rw [t0]
              cases k with
              | zero =>
                have HGO := Lib.hid (show entsF d.blocks.length (prevOf d.entries (0 + 1)) (d.entries.drop (0 + 1)) = entsF d.blocks.length none d.entries by rw [← HG.out, ents_go hbad rfl, HNX.out])
                clear hbad t0 HG HNX
                go_wp2_with (first | (go_at_call 87; refine (in_any _ _ _ _).mono ?_; rintro e w9 ⟨rfl, rfl⟩; rw [t1]) | (go_at_call 87; refine (in_any _ _ _ _).mono ?_; rintro e w9 ⟨rfl, rfl⟩; rw [t2]) | (go_at_call 87; refine (in_any _ _ _ _).mono ?_; rintro e w9 ⟨rfl, rfl⟩; rw [t3]))
                go_quiet (fail)
                go_wp2_with fail
                go_roundw
                case rel => exact ⟨0 + 1, rfl, by omega, HX2.out.drewN _, HB2.out, HGO.out⟩
                case measure => simp [intOf]; omega
              | succ j =>
                have hj : j < d.entries.length := by omega
                have qp := HX2.out.cell (HCELL.out j hj 0 _ rfl)
                simp only [Nat.add_zero] at qp
                have hpv : prevOf d.entries (j + 1) = some d.entries[j].name := prev_next d.entries j hj
                obtain ⟨Y, hY⟩ : ∃ Y, Y = d.entries[j].name := ⟨_, rfl⟩
                rw [← hY] at qp hpv
                have HG2 := Lib.hid (show entsF d.blocks.length (some Y) (X :: d.entries.drop (j + 1 + 1)) = entsF d.blocks.length none d.entries by rw [← hpv]; exact HG.out)
                have hji : (j : Int) + 1 < (d.entries.length : Int) := by omega
                have hji2 : (j : Int) < (d.entries.length : Int) := by omega
                have hj10 : (j : Int) < 10 := by omega
                clear hY hpv HG hki hk10
                cases hor : Op.bytesLess Y.toList X.name.toList with
                | false =>
                  have HF := Lib.hid (show catFault d = 12 by rw [HFE.out, ← HG2.out, ents_order hbad (by show (!Op.bytesLess Y.toList X.name.toList) = true; rw [hor]; rfl)])
                  have hor2 := bl_total Y.toList X.name.toList; rw [hor] at hor2
                  clear hbad t0 HG2 HNX
                  go_wp2_with (first | (go_at_call 87; refine (in_any _ _ _ _).mono ?_; rintro e w9 ⟨rfl, rfl⟩; rw [t1]) | (go_at_call 87; refine (in_any _ _ _ _).mono ?_; rintro e w9 ⟨rfl, rfl⟩; rw [t2]) | (go_at_call 87; refine (in_any _ _ _ _).mono ?_; rintro e w9 ⟨rfl, rfl⟩; rw [t3]))
                  go_quiet (fail)
                  go_wp2_with fail
                  go_ret
                  exact ⟨ret_int HF.out.symm, HX2.out.drewN _⟩
                | true =>
                  have HGO := Lib.hid (show entsF d.blocks.length (prevOf d.entries (j + 1 + 1)) (d.entries.drop (j + 1 + 1)) = entsF d.blocks.length none d.entries by rw [← HG2.out, ents_go hbad (by show (!Op.bytesLess Y.toList X.name.toList) = false; rw [hor]; rfl), HNX.out])
                  have hor2 := bl_total Y.toList X.name.toList; rw [hor] at hor2
                  clear hbad t0 HG2 HNX
                  go_wp2_with (first | (go_at_call 87; refine (in_any _ _ _ _).mono ?_; rintro e w9 ⟨rfl, rfl⟩; rw [t1]) | (go_at_call 87; refine (in_any _ _ _ _).mono ?_; rintro e w9 ⟨rfl, rfl⟩; rw [t2]) | (go_at_call 87; refine (in_any _ _ _ _).mono ?_; rintro e w9 ⟨rfl, rfl⟩; rw [t3]))
                  go_quiet (fail)
                  go_wp2_with fail
                  go_roundw
                  case rel => exact ⟨j + 1 + 1, by go_num, by omega, HX2.out.drewN _, HB2.out, HGO.out⟩
                  case measure => simp [intOf]; omega
          · have HF := Lib.hid (show catFault d = 0 by rw [HFE.out, ← HEQ.out, List.drop_of_length_le (by omega)]; rfl)
            clear HEQ HFE
            go_wp2_with fail
            go_ret
            exact ⟨ret_int HF.out.symm, hx⟩

end Go.Proofs.YtokpjgpdkmimgaaDoor

/-
  catalog.Next and the document's NextOf: the next free sector; the law CatalogNexts. Conditions: the argument reads as a catalog.
-/
namespace Go.Proofs.YtokpjgpdkmimgaaDoor
set_option linter.unusedSimpArgs false
set_option linter.unusedVariables false
open Go.RowKit

theorem next_good {c : Cat} (h : catFault c = 0) : nextS c = (nextAt 8 c.blocks, 0) := by unfold nextS; rw [if_pos h]
theorem next_bad {c : Cat} (h : ¬ catFault c = 0) : nextS c = (0, catFault c) := by unfold nextS; rw [if_neg h]
theorem block_ok {p : Int} {b : Blk} {l : List Blk} (h : blocksF p (b :: l) = 0) : 0 ≤ b.bytes ∧ b.bytes ≤ 1200 ∧ p + secs b.bytes ≤ 64 ∧ blocksF (p + secs b.bytes) l = 0 := by
  cases hb : blockBad p b with
  | true => rw [blocks_stop hb] at h; exact absurd h (by decide)
  | false =>
    rw [blocks_go hb] at h
    unfold blockBad at hb
    simp only [Bool.or_eq_false_iff, Bool.not_eq_false', decide_eq_false_iff_not] at hb
    have := inB_true hb.1.2
    exact ⟨this.1, this.2, by omega, h⟩

set_option maxRecDepth 100000 in
set_option maxHeartbeats 4000000 in
theorem catNext_any (cs : List Value) (d : Cat) (w : World) (h : RCat w cs d) :
    Calls Tryd.prog 29 #[.agg cs.toArray] w fun e w' => e = .returned (.tuple #[.int .i64 (nextS d).1, .int .i64 (nextS d).2]) ∧ Ext w w' := by
  have h' := h
  obtain ⟨v1, v2, rfl, h1, h2'⟩ := h'
  obtain ⟨A1, c1, rfl, l1, hc1, p1⟩ := h1.rowE encBlk_ok
  have HP := Lib.hid p1
  have HH := Lib.hid h
  clear h1 h2' l1 hc1 p1 h
  go_enter Tryd.func29, Tryd.ntmps29
  go_wp2_with fail
  refine calls_abs (fun W => Ext w W ∧ Blk_ W w.heap.size 25 #[.slice A1 d.blocks.length c1, v2]) ⟨(Ext.refl _).alloc _, Blk_.new _ _ _⟩ ?_
  rintro W ⟨hx, hb⟩
  refine (catCheck_any [.slice A1 d.blocks.length c1, v2] d W (HH.out.up hx)).mono ?_
  rintro e w1 ⟨rfl, hx1⟩
  have hb1 := hb.ext hx1
  have hxw := hx.trans hx1
  have f0 := hb1.cell 0
  simp at f0
  clear hb hx hx1
  by_cases hc : catFault d = 0
  · have HF := Lib.hid (next_good hc)
    have hok := catFault_ok hc
    have HN := Lib.hid hok.1
    have HB0 := Lib.hid hok.2.2.1
    rw [hc]
    clear hc hok
    go_wp2_with fail
    go_loopw [5, 16] (fun pv i wr => ∃ (k : Nat) (p : Int), i = .int .i64 k ∧ pv = .int .i64 p ∧ k ≤ d.blocks.length ∧ 8 ≤ p ∧ p ≤ 64 ∧ Ext w wr ∧ Blk_ wr w.heap.size 25 #[.slice A1 d.blocks.length c1, v2] ∧ blocksF p (d.blocks.drop k) = 0 ∧ nextAt p (d.blocks.drop k) = nextAt 8 d.blocks) (fun _ i _ => d.blocks.length - (intOf i).toNat)
    case atStart => exact ⟨0, 8, rfl, rfl, Nat.zero_le _, by omega, by omega, hxw, hb1, HB0.out, rfl⟩
    case round =>
      clear hxw hb1 f0
      obtain ⟨k, p, rfl, rfl, hk, hp8, hp64, hx, hb, hz, heq⟩ := hrel
      have f0 := hb.cell 0
      simp at f0
      have HEQ := Lib.hid heq
      have HZ := Lib.hid hz
      clear heq hz
      by_cases hlt : k < d.blocks.length
      · obtain ⟨b1, o1, rfl, g1⟩ := HP.out k hlt
        have q0 := hx.cell (g1 k hlt 0 _ rfl)
        have q1 := hx.cell (g1 k hlt 1 _ rfl)
        simp only [Nat.add_zero] at q0
        have hz := HZ.out
        have heq := HEQ.out
        rw [drop_at d.blocks k hlt] at hz heq
        obtain ⟨B, hB⟩ : ∃ B, B = d.blocks[k] := ⟨_, rfl⟩
        rw [← hB] at q0 q1 hz heq
        obtain ⟨u1, u2, u3, u4⟩ := block_ok hz
        have u3' : p + (B.bytes + 23) / 24 ≤ 64 := u3
        have HST := Lib.hid (And.intro u4 (show nextAt (p + secs B.bytes) (d.blocks.drop (k + 1)) = nextAt 8 d.blocks from heq))
        clear g1 hB HEQ HZ hz heq u3 u4
        have hki : (k : Int) < (d.blocks.length : Int) := by omega
        have hk10 : (k : Int) < 10 := by have := HN.out; omega
        go_wp2_with (first | (go_at_call 45; refine (sectors_any _ _ u1 (by omega)).mono ?_; rintro e w9 ⟨rfl, rfl⟩))
        go_roundw
        case rel => exact ⟨k + 1, p + (B.bytes + 23) / 24, by go_num, by go_num, by omega, by omega, u3', by first | exact hx | exact hx.alloc _, by first | exact hb | exact hb.alloc _, HST.out.1, HST.out.2⟩
        case measure => simp [intOf]; omega
      · have HFE := Lib.hid (show p = nextAt 8 d.blocks by rw [← HEQ.out, List.drop_of_length_le (by omega)]; rfl)
        clear HEQ HZ
        have hk10 : (k : Int) ≤ 10 := by have := HN.out; omega
        go_wp2_with fail
        go_ret2
        rw [HF.out, ← HFE.out]
        exact ⟨rfl, hx⟩
  · have HF := Lib.hid (next_bad hc)
    have hc' : (catFault d != 0) = true := by simpa using hc
    clear hc hb1
    generalize catFault d = t at *
    go_wp2_with fail
    go_ret2
    rw [HF.out]
    exact ⟨rfl, hxw⟩

end Go.Proofs.YtokpjgpdkmimgaaDoor

/-
  A row of devices of the call's own, as it stands in memory: its cells, what may be stored, and what stays. Conditions: none.
-/
namespace Go.Proofs.YtokpjgpdkmimgaaDoor
set_option linter.unusedSimpArgs false
set_option linter.unusedVariables false
open Go.RowKit

theorem Ext.by_ {w w' : World} (h : Ext w w') (row : Option Nat) : w.grownBy w' row := ⟨h.below.os, h.below.tape, h.below.output, h.below.size, fun k hk _ => Below.block h.below k hk⟩
theorem setRow_by (w : World) (g i : Nat) (u : Value) : w.grownBy (w.setCell ⟨g, i, none⟩ u) (some g) :=
  ⟨rfl, rfl, rfl, by simp, fun k hk hne => Below.heap_setCell w ⟨g, i, none⟩ u k (fun e => hne (by rw [e]))⟩
/-- Three devices of the call's own: what stands in the row. -/
theorem OArr.at_ {E : TypeId} {w : World} {base : Nat} {A : Option Addr} {n c : Nat} {a : List Dev} (h : OArr E w base (.slice A n c) a) (hl : a.length = 3) :
    ∃ g, A = some ⟨g, 0, none⟩ ∧ base ≤ g ∧ g < w.heap.size ∧ (∀ k, w.frozen? ⟨g, k, none⟩ = false) ∧ ∀ k, k < 3 → ∃ A1 c1 A2 c2,
      w.cell? ⟨g, k * 2, none⟩ = some (.slice A1 (dv a k).sec.length c1) ∧ w.cell? ⟨g, k * 2 + 1, none⟩ = some (.slice A2 (dv a k).lost.length c2) ∧ RDev w [.slice A1 (dv a k).sec.length c1, .slice A2 (dv a k).lost.length c2] (dv a k) := by
  have hn : n = a.length := by
    obtain ⟨vs, _, ho, _⟩ := h
    have := ho.2
    rcases this with ⟨hv, h0⟩ | ⟨g, cap, cur, hv, _⟩
    · omega
    · injection hv
  subst hn
  have hr := h.rarr (by omega)
  obtain ⟨b, o, hA, hlook⟩ := hr.look 0 (by omega)
  obtain ⟨vs, hvl, ho, _⟩ := h
  have ho' := ho
  rcases ho.2 with ⟨hv, h0⟩ | ⟨g, cap, cur, hv, hb, hg, _⟩
  · omega
  · injection hv with a1 a2 a3
    subst a1
    have hbo : b = g ∧ o = 0 := by injection hA with hA; injection hA with x1 x2; exact ⟨x1.symm, x2.symm⟩
    obtain ⟨rfl, rfl⟩ := hbo
    refine ⟨b, rfl, hb, (ho'.lt b rfl).2, fun k => ho'.frozenAt k, fun k hk => ?_⟩
    obtain ⟨A1, c1, A2, c2, q0, q1, hd⟩ := hlook k (by omega)
    rw [Nat.zero_add] at q0 q1
    exact ⟨A1, c1, A2, c2, q0, q1, hd⟩
theorem OArr.atg {E : TypeId} {w : World} {base g n c : Nat} {a : List Dev} (h : OArr E w base (.slice (some ⟨g, 0, none⟩) n c) a) (hl : a.length = 3) :
    base ≤ g ∧ g < w.heap.size ∧ (∀ k, w.frozen? ⟨g, k, none⟩ = false) ∧ ∀ k, k < 3 → ∃ A1 c1 A2 c2,
      w.cell? ⟨g, k * 2, none⟩ = some (.slice A1 (dv a k).sec.length c1) ∧ w.cell? ⟨g, k * 2 + 1, none⟩ = some (.slice A2 (dv a k).lost.length c2) ∧ RDev w [.slice A1 (dv a k).sec.length c1, .slice A2 (dv a k).lost.length c2] (dv a k) := by
  obtain ⟨g', hg, r⟩ := h.at_ hl
  obtain rfl : g = g' := by injection hg with hg; injection hg
  exact r
theorem dv_len3 {a : List Dev} {k : Nat} {d : Dev} (h : a.length = 3) : (a.set k d).length = 3 := by simp [h]
end Go.Proofs.YtokpjgpdkmimgaaDoor

/-
  press.Pack and the document's PackedOf: bytes, with what stands there already made short; the law PressPacks. Conditions: the text is no longer than a text may be.
-/
namespace Go.Proofs.YtokpjgpdkmimgaaDoor
set_option linter.unusedSimpArgs false
set_option linter.unusedVariables false
open Go.RowKit

theorem alike_go {s : ByteArray} {k i n : Nat} (h1 : n < 131) (h2 : i + n < s.size) (h3 : at_ s (k + n) = at_ s (i + n)) : alikeF s k i n = alikeF s k i (n + 1) := by
  rw [alikeF, if_pos ⟨h1, h2, h3⟩]
theorem alike_stop {s : ByteArray} {k i n : Nat} (h : ¬ (n < 131 ∧ i + n < s.size ∧ at_ s (k + n) = at_ s (i + n))) : alikeF s k i n = n := by
  rw [alikeF, if_neg h]
theorem piece_more {s : ByteArray} {i d best back : Nat} (h : d ≤ 255 ∧ d ≤ i) (h2 : best < alikeF s (i - d) i 0) : pieceF s i d best back = pieceF s i (d + 1) (alikeF s (i - d) i 0) d := by
  rw [pieceF, if_pos h, if_pos h2]
theorem piece_less {s : ByteArray} {i d best back : Nat} (h : d ≤ 255 ∧ d ≤ i) (h2 : ¬ best < alikeF s (i - d) i 0) : pieceF s i d best back = pieceF s i (d + 1) best back := by
  rw [pieceF, if_pos h, if_neg h2]
theorem piece_end {s : ByteArray} {i d best back : Nat} (h : ¬ (d ≤ 255 ∧ d ≤ i)) : pieceF s i d best back = (best, back) := by
  rw [pieceF, if_neg h]
end Go.Proofs.YtokpjgpdkmimgaaDoor

/-
  Regions that draw their order, told by what each operation yields: each operation is walked once, whatever order is drawn. Conditions: what is told of a value stays as the world grows.
-/
namespace Go.Proofs.YtokpjgpdkmimgaaDoor
set_option linter.unusedSimpArgs false
set_option linter.unusedVariables false
open Go.RowKit

/-- The operations that it waits for. -/
def waits (x : Oper) : List Nat := (x.after.toList.filter (Region.binds .any)).map (·.on)
def waitsAt (L : List Oper) (i : Nat) : List Nat := ((L[i]?).map waits).getD []
def upd (vals : Nat → Value) (i : Nat) (v : Value) : Nat → Value := fun j => if j = i then v else vals j
theorem upd_same (vals : Nat → Value) (i : Nat) (v : Value) : upd vals i v i = v := if_pos rfl
theorem upd_other (vals : Nat → Value) {i j : Nat} (v : Value) (h : j ≠ i) : upd vals i v j = vals j := if_neg h
/-- The frame with the operations' values. -/
def putAll (a : Act) (vals : Nat → Value) : Nat → List Oper → Act
  | _, [] => a
  | n, x :: l => putAll (a.put x.dst (vals n)) vals (n + 1) l
def apart : List (Option Tmp) → Bool
  | [] => true
  | d :: l => (d.isNone || !l.contains d) && apart l
theorem put_comm (a : Act) {d e : Option Tmp} (u v : Value) (h : d = none ∨ d ≠ e) : (a.put d u).put e v = (a.put e v).put d u := by
  cases d with
  | none => rfl
  | some d =>
    cases e with
    | none => rfl
    | some e =>
      have hde : d ≠ e := by
        rcases h with h | h
        · cases h
        · intro hh; exact h (by rw [hh])
      unfold Act.put
      simp only [Act.mk.injEq, and_true]
      exact Array.setIfInBounds_comm _ _ hde
theorem put_put (a : Act) (d : Option Tmp) (u v : Value) : (a.put d u).put d v = a.put d v := by
  cases d with
  | none => rfl
  | some d => unfold Act.put; simp
theorem put_own (a : Act) (d : Tmp) : a.put (some d) (a.tmps.getD d undef) = a := by
  unfold Act.put
  obtain ⟨t, ds⟩ := a
  simp only [Act.mk.injEq, and_true]
  apply Array.ext_getElem?
  intro k
  rw [Array.getElem?_setIfInBounds]
  by_cases h : d = k
  · subst h
    rw [if_pos rfl]
    by_cases h2 : d < t.size
    · simp [h2]
    · simp [h2]
  · rw [if_neg h]
theorem putAll_put (a : Act) (vals : Nat → Value) (d : Option Tmp) (v : Value) : ∀ (l : List Oper) (n : Nat), (d = none ∨ ¬ d ∈ l.map (·.dst)) → putAll (a.put d v) vals n l = (putAll a vals n l).put d v := by
  intro l
  induction l generalizing a with
  | nil => intro n _; rfl
  | cons x l ih =>
    intro n h
    unfold putAll
    have h1 : d = none ∨ d ≠ x.dst := by
      rcases h with h | h
      · exact .inl h
      · right; intro hh; exact h (by simp [hh])
    have h2 : d = none ∨ ¬ d ∈ l.map (·.dst) := by
      rcases h with h | h
      · exact .inl h
      · right; intro hh; exact h (by rw [List.map_cons]; exact List.mem_cons_of_mem _ hh)
    rw [put_comm a v (vals n) h1, ih _ _ h2]
theorem putAll_upd_lt (a : Act) (vals : Nat → Value) (i : Nat) (v : Value) : ∀ (l : List Oper) (n : Nat), i < n → putAll a (upd vals i v) n l = putAll a vals n l := by
  intro l
  induction l generalizing a with
  | nil => intro n _; rfl
  | cons x l ih =>
    intro n h
    unfold putAll
    rw [upd_other _ _ (by omega), ih _ _ (by omega)]
theorem putAll_upd (a : Act) (vals : Nat → Value) (v : Value) : ∀ (l : List Oper) (n i : Nat) (x : Oper), apart (l.map (·.dst)) = true → l[i]? = some x → putAll a (upd vals (n + i) v) n l = (putAll a vals n l).put x.dst v := by
  intro l
  induction l generalizing a with
  | nil => intro n i x _ h; simp at h
  | cons y l ih =>
    intro n i x hap h
    rw [List.map_cons] at hap
    unfold apart at hap
    rw [Bool.and_eq_true] at hap
    unfold putAll
    cases i with
    | zero =>
      simp only [List.getElem?_cons_zero, Option.some.injEq] at h
      subst h
      rw [Nat.add_zero, upd_same, putAll_upd_lt _ _ _ _ _ _ (by omega), ← put_put a y.dst (vals n) v]
      refine putAll_put _ _ _ _ _ _ ?_
      have h1 := hap.1
      rw [Bool.or_eq_true] at h1
      rcases h1 with h1 | h1
      · left; simpa using h1
      · right; simpa using h1
    | succ i =>
      rw [List.getElem?_cons_succ] at h
      rw [upd_other _ _ (by omega), show n + (i + 1) = n + 1 + i by omega]
      exact ih _ _ _ _ hap.2 h
def oldAt (a : Act) (L : List Oper) (i : Nat) : Value := match L[i]? with
  | some x => match x.dst with
    | some d => a.tmps.getD d undef
    | none => undef
  | none => undef
theorem putAll_old (a : Act) (vals : Nat → Value) : ∀ (l : List Oper) (n : Nat), (∀ i x d, l[i]? = some x → x.dst = some d → vals (n + i) = a.tmps.getD d undef) → putAll a vals n l = a := by
  intro l
  induction l with
  | nil => intro n _; rfl
  | cons x l ih =>
    intro n h
    unfold putAll
    have h0 : a.put x.dst (vals n) = a := by
      cases hd : x.dst with
      | none => rfl
      | some d =>
        have := h 0 x d rfl hd
        rw [Nat.add_zero] at this
        rw [this, put_own]
    rw [h0]
    refine ih (n + 1) (fun i x d h1 h2 => ?_)
    have := h (i + 1) x d (by rw [List.getElem?_cons_succ]; exact h1) h2
    rw [← this]
    congr 1
    omega
/-- What is told of the value at a place. -/
def At (V : List (Value → World → Prop)) (i : Nat) (v : Value) (w : World) : Prop := match V[i]? with
  | some p => p v w
  | none => False
def valsOk (L : List Oper) : Bool := apart (L.map (·.dst)) && L.all (fun x => x.guard.isNone) && (List.range L.length).all (fun i => (waitsAt L i).all (fun j => decide (j < i)))

section
variable {P : Program} {Q : Exit → Act → World → Prop}
/-- One operation's walk. -/
def St (P : Program) (Q : Exit → Act → World → Prop) (L : List Oper) (a0 : Act) (F : (Nat → Value) → Act) (V : List (Value → World → Prop)) (w0 : World) (i : Nat) (x : Oper) : Prop :=
  ∀ vals w, Ext w0 w → (∀ j, (waits x).contains j = true → At V j (vals j) w) → (∀ j, (waitsAt L j).contains i = true → vals j = oldAt a0 L j) →
    ∀ K : Act → World → Prop, (∀ a' v w', a' = (F vals).put x.dst v → At V i v w' → Ext w w' → K a' w') → x.wp P (F vals) w K Q
def Steps (f : Nat → Oper → Prop) : Nat → List Oper → Prop
  | _, [] => True
  | n, x :: l => f n x ∧ Steps f (n + 1) l
theorem Steps.at {f : Nat → Oper → Prop} : ∀ {l : List Oper} {n i : Nat} {x : Oper}, Steps f n l → l[i]? = some x → f (n + i) x := by
  intro l
  induction l with
  | nil => intro n i x _ h; simp at h
  | cons y l ih =>
    intro n i x hs h
    cases i with
    | zero => simp only [List.getElem?_cons_zero, Option.some.injEq] at h; subst h; exact hs.1
    | succ i =>
      rw [List.getElem?_cons_succ] at h
      have := ih hs.2 h
      rwa [show n + (i + 1) = n + 1 + i by omega]
theorem mem_waits {x : Oper} {j : Nat} : (waits x).contains j = true ↔ ∃ e ∈ x.after, Region.binds .any e = true ∧ e.on = j := by
  unfold waits
  rw [List.contains_iff_mem, List.mem_map]
  constructor
  · rintro ⟨e, h1, h2⟩
    rw [List.mem_filter] at h1
    exact ⟨e, by simpa using h1.1, h1.2, h2⟩
  · rintro ⟨e, h1, h2, h3⟩
    exact ⟨e, by rw [List.mem_filter]; exact ⟨by simpa using h1, h2⟩, h3⟩
theorem getD_set_same {b : Array Bool} {i : Nat} (h : i < b.size) (d : Bool) : (b.setIfInBounds i true).getD i d = true := by
  simp [Array.getD_eq_getD_getElem?, h]
theorem getD_set_other {b : Array Bool} {i k : Nat} (h : i ≠ k) (d : Bool) : (b.setIfInBounds i true).getD k d = b.getD k d := by
  simp [Array.getD_eq_getD_getElem?, Array.getElem?_setIfInBounds, h]
/-- How many have not come up yet. -/
def left_ (b : Array Bool) : Nat := b.toList.count false
theorem left_set {b : Array Bool} {i : Nat} (h : i < b.size) (hb : b.getD i true = false) : left_ (b.setIfInBounds i true) + 1 = left_ b := by
  unfold left_
  obtain ⟨l⟩ := b
  simp only [List.setIfInBounds_toArray] at *
  have hb' : l[i]? = some false := by
    simp only [List.size_toArray] at h
    rw [Array.getD_eq_getD_getElem?] at hb
    simp [h] at hb
    simp [h, hb]
  clear hb
  induction l generalizing i with
  | nil => simp at hb'
  | cons x l ih =>
    cases i with
    | zero =>
      simp only [List.getElem?_cons_zero, Option.some.injEq] at hb'
      subst hb'
      simp
    | succ i =>
      rw [List.getElem?_cons_succ] at hb'
      simp only [List.set_cons_succ, List.count_cons]
      have := ih (i := i) (by simp only [List.size_toArray, List.length_cons] at h ⊢; omega) hb'
      omega
theorem wpAny_vals_go {L : List Oper} {a0 : Act} {w0 : World} {F : (Nat → Value) → Act} (hF : ∀ vals, putAll a0 vals 0 L = F vals) (V : List (Value → World → Prop)) (hok : valsOk L = true)
    (hV : ∀ p ∈ V, ∀ v w w', p v w → Ext w w' → p v w') (hs : Steps (St P Q L a0 F V w0) 0 L)
    (done : ∀ vals w, Ext w0 w → (∀ i, i < L.length → At V i (vals i) w) → Q .normal (F vals) w) :
    ∀ (fuel : Nat) (listed : Array Bool) (vals : Nat → Value) (w : World), listed.size = L.length → left_ listed ≤ fuel → Ext w0 w →
      (∀ i, i < L.length → listed.getD i true = true → At V i (vals i) w ∧ ∀ j, (waitsAt L i).contains j = true → listed.getD j false = true) →
      (∀ i, listed.getD i true = false → vals i = oldAt a0 L i) →
      wpAny P .any L.toArray Q fuel listed (F vals) w := by
  unfold valsOk at hok
  rw [Bool.and_eq_true, Bool.and_eq_true] at hok
  obtain ⟨⟨hap, hgu⟩, hord⟩ := hok
  have hAt : ∀ i v w w', At V i v w → Ext w w' → At V i v w' := by
    intro i v w w' h e
    unfold At at *
    cases hp : V[i]? with
    | none => rw [hp] at h; exact h
    | some p => rw [hp] at h; exact hV p (List.mem_of_getElem? hp) _ _ _ h e
  have hall : ∀ (listed : Array Bool), listed.size = L.length → Region.ready .any L.toArray listed = [] → ∀ i, i < L.length → listed.getD i true = true := by
    intro listed hsz hr i
    induction i using Nat.strongRecOn with
    | ind i ih =>
      intro hi
      cases hb : listed.getD i true with
      | true => rfl
      | false =>
        have : i ∈ Region.ready .any L.toArray listed := by
          rw [ready_mem]
          refine ⟨by simpa using hi, hb, L[i], by simp [hi], fun e he hbd => ?_⟩
          have hlt : e.on < i := by
            have h1 := List.all_eq_true.1 hord i (List.mem_range.2 hi)
            have h2 := List.all_eq_true.1 h1 e.on (by
              unfold waitsAt
              rw [List.getElem?_eq_getElem hi]
              exact List.contains_iff_mem.1 (mem_waits.2 ⟨e, he, hbd, rfl⟩))
            simpa using h2
          have := ih e.on hlt (by omega)
          have hin : e.on < listed.size := by omega
          simpa [Array.getD_eq_getD_getElem?, hin] using this
        rw [hr] at this
        cases this
  intro fuel
  induction fuel with
  | zero =>
    intro listed vals w hsz hl e hv ho
    have hno : Region.ready .any L.toArray listed = [] := by
      apply List.eq_nil_iff_forall_not_mem.2
      intro i hi
      obtain ⟨h1, h2, _⟩ := ready_mem.1 hi
      have := left_set (b := listed) (i := i) (by simpa [hsz] using h1) h2
      omega
    exact ⟨hno, done vals w e fun i hi => (hv i hi (hall listed hsz hno i hi)).1⟩
  | succ fuel ih =>
    intro listed vals w hsz hl e hv ho
    refine ⟨fun hno => done vals w e fun i hi => (hv i hi (hall listed hsz hno i hi)).1, fun i hi => ?_⟩
    obtain ⟨h1, h2, x, hx, h3⟩ := ready_mem.1 hi
    have hil : i < L.length := by simpa using h1
    have hxL : L[i]? = some x := by simpa using hx
    have hg : x.guard = none := by
      have := List.all_eq_true.1 hgu x (List.mem_of_getElem? hxL)
      simpa using this
    unfold wpOp
    rw [hx]
    simp only
    rw [if_pos (by simp [Region.wanted, hg])]
    left
    have hst := hs.at hxL
    rw [Nat.zero_add] at hst
    have hwait : ∀ j, (waits x).contains j = true → listed.getD j false = true := by
      intro j hj
      obtain ⟨ed, he1, he2, rfl⟩ := mem_waits.1 hj
      exact h3 ed he1 he2
    refine hst vals w e (fun j hj => ?_) (fun j hj => ?_) _ ?_
    · have hlj := hwait j hj
      have hjs : j < L.length := by
        by_cases h : j < listed.size
        · omega
        · simp [Array.getD_eq_getD_getElem?, h] at hlj
      refine (hv j hjs ?_).1
      have hin : j < listed.size := by omega
      simpa [Array.getD_eq_getD_getElem?, hin] using hlj
    · refine ho j ?_
      cases hb : listed.getD j true with
      | false => rfl
      | true =>
        by_cases hjl : j < L.length
        · have := (hv j hjl hb).2 i hj
          have hin : i < listed.size := by omega
          simp [Array.getD_eq_getD_getElem?, hin] at this h2
          rw [this] at h2
          cases h2
        · unfold waitsAt at hj
          rw [List.getElem?_eq_none (by omega)] at hj
          simp at hj
    · intro a' v w' ha' hv' e'
      subst ha'
      have hput : (F vals).put x.dst v = F (upd vals i v) := by
        rw [← hF, ← hF, ← putAll_upd a0 vals v L 0 i x hap hxL, Nat.zero_add]
      rw [hput]
      refine ih _ _ _ (by simpa using hsz) (by have := left_set (b := listed) (i := i) (by omega) h2; omega) (e.trans e') (fun k hk hkl => ?_) (fun k hk => ?_)
      · by_cases hki : k = i
        · subst hki
          rw [upd_same]
          refine ⟨hv', fun j hj => ?_⟩
          have hj' : (waits x).contains j = true := by
            unfold waitsAt at hj
            rw [hxL] at hj
            exact hj
          have hlj := hwait j hj'
          by_cases hjk : k = j
          · subst hjk; exact getD_set_same (by omega) _
          · rw [getD_set_other hjk]; exact hlj
        · rw [upd_other _ _ hki]
          rw [getD_set_other (Ne.symm hki)] at hkl
          obtain ⟨g1, g2⟩ := hv k hk hkl
          refine ⟨hAt _ _ _ _ g1 e', fun j hj => ?_⟩
          have hlj := g2 j hj
          by_cases hji : i = j
          · subst hji; exact getD_set_same (by omega) _
          · rw [getD_set_other hji]; exact hlj
      · by_cases hki : k = i
        · subst hki
          rw [getD_set_same (by omega)] at hk
          cases hk
        · rw [upd_other _ _ hki]
          rw [getD_set_other (Ne.symm hki)] at hk
          exact ho k hk
/-- THE REGION: each operation is walked once. -/
theorem wp_region_vals {id : Nat} {L : List Oper} {a0 : Act} {w : World} {F : (Nat → Value) → Act} (hF : ∀ vals, putAll a0 vals 0 L = F vals) (V : List (Value → World → Prop)) (hm : P.follows .mixedOrders = true) (hok : valsOk L = true)
    (hV : ∀ p ∈ V, ∀ v w w', p v w → Ext w w' → p v w') (hs : Steps (St P Q L a0 F V w.drew) 0 L)
    (done : ∀ vals w', Ext w.drew w' → (∀ i, i < L.length → At V i (vals i) w') → Q .normal (F vals) w') : (Code.region id L.toArray true).wp P Q a0 w := by
  refine wp_region_any hm ?_
  have h0 : F (oldAt a0 L) = a0 := by
    rw [← hF]
    refine putAll_old _ _ _ _ (fun i x d h1 h2 => ?_)
    rw [Nat.zero_add]
    unfold oldAt
    rw [h1]
    simp only
    rw [h2]
  have := wpAny_vals_go hF V hok hV hs done L.toArray.size (Array.replicate L.toArray.size false) (oldAt a0 L) w.drew (by simp) (by simp [left_]) (Ext.refl _)
    (fun i hi h => by
      exfalso
      simp [Array.getD_eq_getD_getElem?, Array.getElem?_replicate, hi] at h)
    (fun i _ => rfl)
  rw [h0] at this
  exact this
theorem st_quiet {x : Oper} {a : Act} {w : World} {K : Act → World → Prop} (v : Value) (hy : (execOp a.eval x).run P w = .ok (.value v) w) (h : K (a.put x.dst v) w) : x.wp P a w K Q := by
  unfold Oper.wp
  rw [hy]
  exact h
/-- Two texts, one behind the other. -/
theorem st_concat {x : Oper} {a : Act} {w : World} {K : Act → World → Prop} (p q : Operand) (t t' : TypeId) (s u : ByteArray) (ho : x.op = .binOp .add t p q t') (hp : a.eval p = .string s) (hq : a.eval q = .string u) (hn : s.size + u.size ≤ 9223372036854775807) (h : K (a.put x.dst (.string (s ++ u))) w) : x.wp P a w K Q := by
  refine st_quiet (.string (s ++ u)) ?_ h
  unfold execOp
  rw [ho]
  simp only
  rw [hp, hq]
  have hn' : ¬ ((s.size + u.size : Nat) : Int) > IntKind.i64.max := by
    rw [show IntKind.i64.max = 9223372036854775807 from rfl]; omega
  simp only [eqGuard, binOp, Op.stringOp, Sem.run_bind]
  rw [if_neg hn']
  rfl
/-- The bounds of a part of a text. -/
def boundOf (a : Act) (lo : Option Operand) (d : Nat) (l : Nat) : Prop := match lo with
  | none => l = d
  | some p => a.eval p = .int .i64 (l : Int)
/-- A part of a text. -/
theorem st_slice {x : Oper} {a : Act} {w : World} {K : Act → World → Prop} (t : TypeId) (p : Operand) (lo hi : Option Operand) (s : ByteArray) (l h : Nat) (ho : x.op = .slice t p lo hi none) (ht : P.underlying t = some .string) (hp : a.eval p = .string s) (hlo : boundOf a lo 0 l) (hhi : boundOf a hi s.size h) (h1 : l ≤ h) (h2 : h ≤ s.size)
    (hK : K (a.put x.dst (.string (s.extract l h))) w) : x.wp P a w K Q := by
  refine st_quiet (.string (s.extract l h)) ?_ hK
  have hb : (Instr.sliceBounds false s.size s.size (lo.map a.eval) (hi.map a.eval) none).run P w = .ok (l, h, s.size) w := by
    unfold Instr.sliceBounds
    have i1 : (0 : Int) ≤ (h : Int) ∧ (h : Int) ≤ (s.size : Int) := ⟨by omega, by omega⟩
    have i2 : (0 : Int) ≤ (l : Int) ∧ (l : Int) ≤ (h : Int) := ⟨by omega, by omega⟩
    cases lo with
    | none =>
      cases hi with
      | none => simp only [boundOf] at hlo hhi; subst hlo hhi; simp
      | some q => simp only [boundOf] at hlo hhi; subst hlo; simp [Instr.sliceBound, hhi, asIntOf, i1, h2]
    | some q =>
      cases hi with
      | none => simp only [boundOf] at hlo hhi; subst hhi; simp [Instr.sliceBound, hlo, asIntOf, i2, h1]
      | some r => simp only [boundOf] at hlo hhi; simp [Instr.sliceBound, hlo, hhi, asIntOf, i1, i2, h1, h2]
  unfold execOp
  rw [ho]
  simp only [Sem.run_bind, Instr.sliceAt, hp, Option.map_none]
  simp [Instr.slice, ht, hb, underlying]
end
end Go.Proofs.YtokpjgpdkmimgaaDoor
