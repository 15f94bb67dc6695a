/-
  device.New and the document's DeviceOf: a device with empty payloads; the law DeviceNews. Conditions: none.
-/
import Derived.Test.YtokpjgpdkmimgaaE2
import Derived.Test.YtokpjgpdkmimgaaWEncode
import Derived.Test.YtokpjgpdkmimgaaWDevSet
namespace Go.Proofs.Ytokpjgpdkmimgaa
set_option linter.unusedSimpArgs false
set_option linter.unusedVariables false
open Go.RowKit

/-- The first sectors of a new device. -/
def freshSec (from_ : Int) (k : Nat) : List ByteArray := (List.range k).map (fun (i : Nat) => (encodeS (from_ + i) .empty).1)
theorem freshSec_len (f : Int) (k : Nat) : (freshSec f k).length = k := by unfold freshSec; simp
theorem freshSec_succ (f : Int) (k : Nat) : freshSec f (k + 1) = freshSec f k ++ [(encodeS (f + k) .empty).1] := by
  unfold freshSec; rw [List.range_succ, List.map_append]; rfl
theorem fresh_eq (m : Nat) (f : Int) : freshDev m f = ⟨freshSec f m, List.replicate m false⟩ := rfl
theorem new_good {m f : Nat} (h1 : 1 ≤ m) (h2 : m ≤ 64) (h3 : f ≤ 512) : newDevS m f = (freshDev m f, 0) := by
  unfold newDevS; rw [if_pos (by simp [inB]; omega)]; rfl
theorem new_bad {many from_ : Int} (h : ¬ (1 ≤ many ∧ many ≤ 64 ∧ 0 ≤ from_ ∧ from_ ≤ 512)) : newDevS many from_ = (⟨[], []⟩, 2) := by
  unfold newDevS; rw [if_neg (by simp [inB]; omega)]
theorem flat_rep (m : Nat) (b : Bool) : (List.replicate m b).flatMap encBool = List.replicate m (.bool b) := by
  induction m with
  | zero => rfl
  | succ m ih => rw [List.replicate_succ, List.flatMap_cons, ih]; rfl
theorem rep_snoc (m : Nat) (b : Bool) : List.replicate (m + 1) b = List.replicate m b ++ [b] := by rw [List.replicate_succ']

set_option maxRecDepth 100000 in
set_option maxHeartbeats 800000 in
theorem devNew_any (many from_ : Int) (w : World) (hm : I64 many) (hf : I64 from_) :
    Calls Try.prog 25 #[.int .i64 many, .int .i64 from_] w fun e w' => ∃ A1 c1 A2 c2, e = .returned (.tuple #[.agg #[.slice A1 (newDevS many from_).1.sec.length c1, .slice A2 (newDevS many from_).1.lost.length c2], .int .i64 (newDevS many from_).2]) ∧ Ext w w' ∧
      ODev 9 4 w' w.heap.size (.slice A1 (newDevS many from_).1.sec.length c1) (.slice A2 (newDevS many from_).1.lost.length c2) (newDevS many from_).1 := by
  by_cases hok : 1 ≤ many ∧ many ≤ 64 ∧ 0 ≤ from_ ∧ from_ ≤ 512
  · obtain ⟨h1, h2, h3, h4⟩ := hok
    obtain ⟨m, rfl⟩ := Int.eq_ofNat_of_zero_le (show 0 ≤ many by omega)
    obtain ⟨f, rfl⟩ := Int.eq_ofNat_of_zero_le h3
    have HF := Lib.hid (new_good (m := m) (f := f) (by omega) (by omega) (by omega))
    obtain ⟨i1, hi1, za1, zb1, zc1⟩ := info_parts info_str
    obtain ⟨i2, hi2, za2, zb2, zc2⟩ := info_parts info_bool
    have HI1 := Lib.hid (And.intro hi1 (And.intro za1 (And.intro zb1 zc1)))
    have HI2 := Lib.hid (And.intro hi2 (And.intro za2 (And.intro zb2 zc2)))
    have hM : m ≤ 64 := by omega
    have hFr : f ≤ 512 := by omega
    have HM := Lib.hid (And.intro hM hFr)
    clear hi1 za1 zb1 zc1 hi2 za2 zb2 zc2 hm hf
    have t1 : decide ((m : Int) < 1) = false := by simp; omega
    have t2 : decide ((64 : Int) < (m : Int)) = false := by simp; omega
    have t3 : decide ((f : Int) < 0) = false := by simp
    have t4 : decide ((512 : Int) < (f : Int)) = false := by simp; omega
    clear h1 h2 h3 h4 hM hFr
    obtain ⟨cs, hcs, hmk⟩ := make_row (P := Try.prog) 52 4 i2 (.bool false) Try.underlying52 HI2.out.1 HI2.out.2.1 HI2.out.2.2.1 rfl m (by rw [HI2.out.2.2.2]; have := HM.out; omega) (by have := HM.out; omega)
    have HCS := Lib.hid hcs
    clear hcs
    go_enter Try.func25, Try.ntmps25
    go_wp2_with fail
    clear hmk
    refine wp_abs (fun W => Ext w W ∧ Blk_ W w.heap.size 54 #[.slice none 0 0, .slice none 0 0] ∧ Blk_ W (w.heap.size + 1 + 1) 54 #[.slice none 0 0, .slice (some ⟨w.heap.size + 1, 0, none⟩) m m] ∧
      ODev 9 4 W (w.heap.size + 1) (.slice none 0 0) (.slice (some ⟨w.heap.size + 1, 0, none⟩) m m) ⟨freshSec f 0, List.replicate m false⟩) ⟨(((Ext.refl _).alloc _).alloc _).alloc _, ((Blk_.new _ _ _).alloc _).alloc _, Blk_.new2 _ _ _ _ _, ?_⟩ ?_
    · have how := own_made (w.alloc (.cells #[.slice none 0 0, .slice none 0 0] 54)) 4 cs m _ HCS.out (by simp) (by have := HM.out; omega)
      rw [World.size_alloc] at how
      refine ODev.ext (w := (w.alloc (.cells #[.slice none 0 0, .slice none 0 0] 54)).alloc (.cells cs 4)) ⟨World.ownsRow_nil _ _ _ _, ?_, by simp [freshSec], by rw [List.length_replicate]; have := HM.out; omega, fun s hs => by simp [freshSec] at hs⟩ ((Ext.refl _).alloc _)
      rw [flat_rep, List.length_replicate]
      exact how
    rintro W ⟨hx, hbr, hbd, hod⟩
    go_loopw [29] (fun i wr => ∃ (k : Nat) (A : Option Addr) (c : Nat), i = .int .i64 k ∧ k ≤ m ∧ Ext w wr ∧ Blk_ wr w.heap.size 54 #[.slice none 0 0, .slice none 0 0] ∧ Blk_ wr (w.heap.size + 1 + 1) 54 #[.slice A k c, .slice (some ⟨w.heap.size + 1, 0, none⟩) m m] ∧
      ODev 9 4 wr (w.heap.size + 1) (.slice A k c) (.slice (some ⟨w.heap.size + 1, 0, none⟩) m m) ⟨freshSec f k, List.replicate m false⟩ ∧ (Value.slice A k c).ownBlock ≠ some (w.heap.size + 1 + 1)) (fun i _ => m - (intOf i).toNat)
    case atStart => exact ⟨0, none, 0, rfl, Nat.zero_le _, hx, hbr, hbd, hod, by simp [Value.ownBlock]⟩
    case round =>
      clear hx hbr hbd hod
      obtain ⟨k, A, c, rfl, hk, hx, hbr, hbd, hod, hne⟩ := hrel
      by_cases hlt : k < m
      · have hk64 : (k : Int) < 64 := by have := HM.out; omega
        have hf512 : (f : Int) ≤ 512 := by have := HM.out; omega
        go_wp2_with fail
        refine (encode_any ((f : Int) + (k : Int)) .empty _ ⟨by omega, by omega⟩ (by decide)).mono ?_
        rintro e w2 ⟨rfl, hx2⟩
        have hE : (encodeS ((f : Int) + (k : Int)) .empty).2 = 0 := by rw [encodeS_ok (by omega) (by omega) (by decide)]
        rw [hE]
        have HS := Lib.hid (encodeS_small ((f : Int) + (k : Int)) .empty)
        have hsn := freshSec_succ f k
        generalize (encodeS ((f : Int) + (k : Int)) .empty).1 = T at *
        have HSN := Lib.hid hsn
        have hbd2 := hbd.ext hx2
        have HBR2 := Lib.hid (hbr.ext hx2)
        have HOD2 := Lib.hid (hod.ext hx2)
        have HX2 := Lib.hid (hx.trans hx2)
        have f0 := hbd2.cell 0
        simp at f0
        have hl2 := hbd2.lt
        have ne0 : ¬ (w.heap.size + 1 + 1 = w2.heap.size) := by omega
        have ne1 : ¬ (w2.heap.size = w.heap.size + 1 + 1) := by omega
        clear hsn hE hx2 hbr hbd hx hod
        go_wp2_with (at_builtin; refine wpList_push (.tmp 44) (.tmp 46) 51 rfl rfl (w.heap.size + 1) 9 i1 (.string .empty) 16 Try.underlying51 HI1.out.1 HI1.out.2.1 HI1.out.2.2.1 HI1.out.2.2.2 rfl _ k _ rfl (own_len ?ln ((HOD2.out.ext ((Ext.refl _).alloc _)).1)) w2.heap.size 1 (.string T) rfl ?c1 rfl ?c2 ?c3 ?c4 ?_)
        case ln => exact freshSec_len f k
        case c1 => exact (Blk_.new _ _ _).cell 0
        case c2 => unfold maxLen; have := HM.out; omega
        case c3 => have := HM.out; omega
        case c4 => simp; omega
        intro A' c' w3 own3 hg3 hb3
        have hbd3 := (hbd2.ext ((Ext.refl _).alloc _)).grown hg3 (fun g hgg e => hne (by rw [hgg, e]))
        have HBR3 := Lib.hid ((HBR2.out.ext ((Ext.refl _).alloc _)).grown hg3 (fun g hgg e => by have := (HOD2.out.1.lt g hgg).1; omega))
        have HX3 := Lib.hid ((HX2.out.trans ((Ext.refl _).alloc _)).grown hg3 (fun g hgg => by have := (HOD2.out.1.lt g hgg).1; omega))
        have hod3 := (HOD2.out.ext ((Ext.refl _).alloc _)).pushSec (by decide) (own_len (by show _ = (freshSec f k).length + 1; rw [freshSec_len]) own3) hg3 (by show ((freshSec f k).length + 1) * 16 ≤ _; rw [freshSec_len]; have := HM.out; omega) (by have := HS.out; omega)
        have hne3 : (Value.slice A' (k + 1) c').ownBlock ≠ some (w.heap.size + 1 + 1) := by
          rcases hb3 with h | h
          · rw [h]; exact hne
          · rw [h]; simp; omega
        have HO3 := Lib.hid hod3
        have HN3 := Lib.hid hne3
        have HB3 := Lib.hid hbd3
        have g0 := hbd3.cell 0
        have z0 := hbd3.frozen 0
        simp at g0
        clear hbd2 hod3 hne3 hbd3 own3 hg3 hb3 hne f0
        go_wp2_with fail
        go_roundw
        case rel =>
          refine ⟨k + 1, A', c', by go_num, by omega, HX3.out.setCell (by dsimp only; omega) _, HBR3.out.far (by dsimp only; omega) _, HB3.out.set 0 _, ?_, HN3.out⟩
          rw [HSN.out]
          exact HO3.out.off HN3.out (by simp [Value.ownBlock]) _
        case measure => simp [intOf]; omega
      · obtain rfl : k = m := by omega
        have f0 := hbd.cell 0
        have f1 := hbd.cell 1
        have y0 := hbr.cell 0
        have y1 := hbr.cell 1
        have x0 := hbr.frozen 0
        have x1 := hbr.frozen 1
        simp at f0 f1 y0 y1
        have HB := Lib.hid ((hbr.set 0 (.slice A k c)).set 1 (.slice (some ⟨w.heap.size + 1, 0, none⟩) k k))
        clear hlt hk
        go_wp2_with fail
        refine bodyPost_ret (res_cell_tmp rfl rfl HB.out Try.underlying54 rfl (by kernel_rfl)) rfl ?_
        rw [HF.out, fresh_eq]
        refine ⟨A, c, some ⟨w.heap.size + 1, 0, none⟩, k, ?_, ?_, ?_⟩
        · simp only [freshSec_len, List.length_replicate]; rfl
        · exact (hx.setCell (p := ⟨w.heap.size, 0, none⟩) (Nat.le_refl _) _).setCell (p := ⟨w.heap.size, 1, none⟩) (Nat.le_refl _) _
        · simp only [freshSec_len, List.length_replicate]
          exact ((hod.far (p := ⟨w.heap.size, 0, none⟩) (by simp) _).far (p := ⟨w.heap.size, 1, none⟩) (by simp) _).base (by omega)
  · have hfin := new_bad hok
    have HF := Lib.hid hfin
    have hcs : (decide (many < 1) = true) ∨ (decide (many < 1) = false ∧ decide ((64 : Int) < many) = true) ∨ (decide (many < 1) = false ∧ decide ((64 : Int) < many) = false ∧ decide (from_ < 0) = true) ∨ (decide (many < 1) = false ∧ decide ((64 : Int) < many) = false ∧ decide (from_ < 0) = false ∧ decide ((512 : Int) < from_) = true) := by
      simp only [decide_eq_true_eq, decide_eq_false_iff_not]; omega
    clear hfin hok hm hf
    have HB := Lib.hid (((Blk_.new w 54 #[.slice none 0 0, .slice none 0 0]).set 0 (.slice none 0 0)).set 1 (.slice none 0 0))
    rcases hcs with t1 | ⟨t1, t2⟩ | ⟨t1, t2, t3⟩ | ⟨t1, t2, t3, t4⟩
    · go_enter Try.func25, Try.ntmps25
      go_wp2_with fail
      refine bodyPost_ret (res_cell_tmp rfl rfl (Blk_.new w 54 #[.slice none 0 0, .slice none 0 0]) Try.underlying54 rfl (by kernel_rfl)) rfl ?_
      rw [HF.out]
      refine ⟨none, 0, none, 0, rfl, (Ext.refl w).alloc _, ?_⟩
      exact ⟨World.ownsRow_nil _ _ _ _, World.ownsRow_nil _ _ _ _, by simp, by simp, fun s hs => by cases hs⟩
    · go_enter Try.func25, Try.ntmps25
      go_wp2_with fail
      refine bodyPost_ret (res_cell_tmp rfl rfl (Blk_.new w 54 #[.slice none 0 0, .slice none 0 0]) Try.underlying54 rfl (by kernel_rfl)) rfl ?_
      rw [HF.out]
      refine ⟨none, 0, none, 0, rfl, (Ext.refl w).alloc _, ?_⟩
      exact ⟨World.ownsRow_nil _ _ _ _, World.ownsRow_nil _ _ _ _, by simp, by simp, fun s hs => by cases hs⟩
    · go_enter Try.func25, Try.ntmps25
      go_wp2_with fail
      refine bodyPost_ret (res_cell_tmp rfl rfl (Blk_.new w 54 #[.slice none 0 0, .slice none 0 0]) Try.underlying54 rfl (by kernel_rfl)) rfl ?_
      rw [HF.out]
      refine ⟨none, 0, none, 0, rfl, (Ext.refl w).alloc _, ?_⟩
      exact ⟨World.ownsRow_nil _ _ _ _, World.ownsRow_nil _ _ _ _, by simp, by simp, fun s hs => by cases hs⟩
    · go_enter Try.func25, Try.ntmps25
      go_wp2_with fail
      refine bodyPost_ret (res_cell_tmp rfl rfl (Blk_.new w 54 #[.slice none 0 0, .slice none 0 0]) Try.underlying54 rfl (by kernel_rfl)) rfl ?_
      rw [HF.out]
      refine ⟨none, 0, none, 0, rfl, (Ext.refl w).alloc _, ?_⟩
      exact ⟨World.ownsRow_nil _ _ _ _, World.ownsRow_nil _ _ _ _, by simp, by simp, fun s hs => by cases hs⟩

set_option maxRecDepth 100000 in
set_option maxHeartbeats 800000 in
theorem deviceOf_any (many from_ : Int) (w : World) (hm : I64 many) (hf : I64 from_) :
    Calls Try.prog 69 #[.int .i64 many, .int .i64 from_] w fun e w' => ∃ A1 c1 A2 c2, e = .returned (.tuple #[.agg #[.slice A1 (newDevS many from_).1.sec.length c1, .slice A2 (newDevS many from_).1.lost.length c2], .int .i64 (newDevS many from_).2]) ∧ Ext w w' ∧
      ODev 9 4 w' w.heap.size (.slice A1 (newDevS many from_).1.sec.length c1) (.slice A2 (newDevS many from_).1.lost.length c2) (newDevS many from_).1 := by
  by_cases hok : 1 ≤ many ∧ many ≤ 64 ∧ 0 ≤ from_ ∧ from_ ≤ 512
  · obtain ⟨h1, h2, h3, h4⟩ := hok
    obtain ⟨m, rfl⟩ := Int.eq_ofNat_of_zero_le (show 0 ≤ many by omega)
    obtain ⟨f, rfl⟩ := Int.eq_ofNat_of_zero_le h3
    have HF := Lib.hid (new_good (m := m) (f := f) (by omega) (by omega) (by omega))
    obtain ⟨i1, hi1, za1, zb1, zc1⟩ := info_parts info_str
    obtain ⟨i2, hi2, za2, zb2, zc2⟩ := info_parts info_bool
    have HI1 := Lib.hid (And.intro hi1 (And.intro za1 (And.intro zb1 zc1)))
    have HI2 := Lib.hid (And.intro hi2 (And.intro za2 (And.intro zb2 zc2)))
    have hM : m ≤ 64 := by omega
    have hFr : f ≤ 512 := by omega
    have HM := Lib.hid (And.intro hM hFr)
    clear hi1 za1 zb1 zc1 hi2 za2 zb2 zc2 hm hf
    have t1 : inB (m : Int) 1 64 = true := by simp [inB]; omega
    have t2 : inB (f : Int) 0 512 = true := by simp [inB]; omega
    clear h1 h2 h3 h4 hM hFr
    go_enter Try.func69, Try.ntmps69
    go_wp2_with (first | (go_at_call 50; refine (in_any _ _ _ _).mono ?_; rintro e w9 ⟨rfl, rfl⟩; rw [t1]) | (go_at_call 50; refine (in_any _ _ _ _).mono ?_; rintro e w9 ⟨rfl, rfl⟩; rw [t2]))
    refine wp_abs (fun W => Ext w W ∧ Blk_ W w.heap.size 54 #[.slice none 0 0, .slice none 0 0] ∧ Blk_ W (w.heap.size + 1) 54 #[.slice none 0 0, .slice none 0 0]) ⟨((Ext.refl _).alloc _).alloc _, (Blk_.new _ _ _).alloc _, Blk_.new1 _ _ _ _⟩ ?_
    rintro W ⟨hx, hbr, hbd⟩
    clear t1 t2
    go_loopw [7] (fun i wr => ∃ (k : Nat) (A : Option Addr) (c : Nat) (A2 : Option Addr) (c2 : Nat), i = .int .i64 k ∧ k ≤ m ∧ Ext w wr ∧ Blk_ wr w.heap.size 54 #[.slice none 0 0, .slice none 0 0] ∧ Blk_ wr (w.heap.size + 1) 54 #[.slice A k c, .slice A2 k c2] ∧
      ODev 9 4 wr (w.heap.size + 1 + 1) (.slice A k c) (.slice A2 k c2) ⟨freshSec f k, List.replicate k false⟩) (fun i _ => m - (intOf i).toNat)
    case atStart =>
      refine ⟨0, none, 0, none, 0, rfl, Nat.zero_le _, hx, hbr, hbd, World.ownsRow_nil _ _ _ _, World.ownsRow_nil _ _ _ _, by simp [freshSec], by simp, fun s hs => by simp [freshSec] at hs⟩
    case round =>
      clear hx hbr hbd
      obtain ⟨k, A, c, A2, c2, rfl, hk, hx, hbr, hbd, hod⟩ := hrel
      by_cases hlt : k < m
      · have hk64 : (k : Int) < 64 := by have := HM.out; omega
        have hf512 : (f : Int) ≤ 512 := by have := HM.out; omega
        go_wp2_with fail
        refine (sectorBytes_any ((f : Int) + (k : Int)) .empty _ ⟨by omega, by omega⟩ (by decide)).mono ?_
        rintro e w2 ⟨rfl, hx2⟩
        have HS := Lib.hid (encodeS_small ((f : Int) + (k : Int)) .empty)
        have hsn := freshSec_succ f k
        generalize (encodeS ((f : Int) + (k : Int)) .empty).1 = T at *
        have HSN := Lib.hid hsn
        have hbd2 := hbd.ext hx2
        have HBR2 := Lib.hid (hbr.ext hx2)
        have HOD2 := Lib.hid (hod.ext hx2)
        have HX2 := Lib.hid (hx.trans hx2)
        have HBD2 := Lib.hid hbd2
        have f0 := hbd2.cell 0
        have f1 := hbd2.cell 1
        simp at f0 f1
        have hl2 := hbd2.lt
        have ne0 : ¬ (w.heap.size + 1 = w2.heap.size) := by omega
        have ne1 : ¬ (w2.heap.size = w.heap.size + 1) := by omega
        clear hsn hx2 hbr hbd hx hod hbd2
        go_wp2_with (at_builtin; refine wpList_push (.tmp 33) (.tmp 35) 51 rfl rfl (w.heap.size + 1 + 1) 9 i1 (.string .empty) 16 Try.underlying51 HI1.out.1 HI1.out.2.1 HI1.out.2.2.1 HI1.out.2.2.2 rfl _ k _ rfl (own_len ?ln ((HOD2.out.ext ((Ext.refl _).alloc _)).1)) w2.heap.size 1 (.string T) rfl ?c1 rfl ?c2 ?c3 ?c4 ?_)
        case ln => exact freshSec_len f k
        case c1 => exact (Blk_.new _ _ _).cell 0
        case c2 => unfold maxLen; have := HM.out; omega
        case c3 => have := HM.out; omega
        case c4 => simp; omega
        intro A' c' w3 own3 hg3 hb3
        have hbd3 := (HBD2.out.ext ((Ext.refl _).alloc _)).grown hg3 (fun g hgg e => by have := (HOD2.out.1.lt g hgg).1; omega)
        have hbr3 := ((HBR2.out.ext ((Ext.refl _).alloc _)).grown hg3 (fun g hgg e => by have := (HOD2.out.1.lt g hgg).1; omega))
        have hx3 := ((HX2.out.trans ((Ext.refl _).alloc _)).grown hg3 (fun g hgg => by have := (HOD2.out.1.lt g hgg).1; omega))
        have hod3 := (HOD2.out.ext ((Ext.refl _).alloc _)).pushSec (by decide) (own_len (by show _ = (freshSec f k).length + 1; rw [freshSec_len]) own3) hg3 (by show ((freshSec f k).length + 1) * 16 ≤ _; rw [freshSec_len]; have := HM.out; omega) (by have := HS.out; omega)
        have HO3 := Lib.hid (hod3.far (p := ⟨w.heap.size + 1, 0, none⟩) (by simp) (.slice A' (k + 1) c'))
        have HB3 := Lib.hid (hbd3.set 0 (.slice A' (k + 1) c'))
        have HBR3 := Lib.hid (hbr3.far (p := ⟨w.heap.size + 1, 0, none⟩) (by simp) (.slice A' (k + 1) c'))
        have HX3 := Lib.hid (hx3.setCell (p := ⟨w.heap.size + 1, 0, none⟩) (by simp) (.slice A' (k + 1) c'))
        have g0 := hbd3.cell 0
        have g1 := hbd3.cell 1
        have z0 := hbd3.frozen 0
        simp at g0 g1
        clear HOD2 HBR2 HX2 HBD2 hod3 hbd3 own3 hg3 hb3 f0 f1 hbr3 hx3 ne0 ne1 hl2
        go_wp2_with (at_builtin; refine wpList_push (.tmp 39) (.tmp 40) 52 rfl rfl (w.heap.size + 1 + 1) 4 i2 (.bool false) 1 Try.underlying52 HI2.out.1 HI2.out.2.1 HI2.out.2.2.1 HI2.out.2.2.2 rfl _ k _ rfl (own_len ?ln2 ((HO3.out.ext ((Ext.refl _).alloc _)).2.1)) w3.heap.size 1 (.bool false) rfl ?d1 rfl ?d2 ?d3 ?d4 ?_)
        case d2 => unfold maxLen; have := HM.out; omega
        case d3 => have := HM.out; omega
        case d4 => have h1 := HB3.out.lt; simp at h1 ⊢; omega
        intro A2' c2' w4 own4 hg4 hb4
        have hbd4 := (HB3.out.ext ((Ext.refl _).alloc _)).grown hg4 (fun g hgg e => by have := (HO3.out.2.1.lt g hgg).1; omega)
        have hbr4 := ((HBR3.out.ext ((Ext.refl _).alloc _)).grown hg4 (fun g hgg e => by have := (HO3.out.2.1.lt g hgg).1; omega))
        have HX4 := Lib.hid ((HX3.out.trans ((Ext.refl _).alloc _)).grown hg4 (fun g hgg => by have := (HO3.out.2.1.lt g hgg).1; omega))
        have hod4 := (HO3.out.ext ((Ext.refl _).alloc _)).pushLost (b := false) (by decide) (own_len (by simp) own4) hg4 (by simp; have := HM.out; omega)
        have HO4 := Lib.hid hod4
        have HB4 := Lib.hid hbd4
        have HBR4 := Lib.hid hbr4
        have y0 := hbd4.cell 0
        have y1 := hbd4.cell 1
        have x1 := hbd4.frozen 1
        simp at y0 y1
        clear HO3 HB3 HBR3 HX3 hod4 hbd4 hbr4 own4 hg4 hb4 g0 g1 z0
        go_wp2_with fail
        go_roundw
        case rel =>
          refine ⟨k + 1, A', c', A2', c2', by go_num, by omega, HX4.out.setCell (by simp) _, HBR4.out.far (by simp) _, HB4.out.set 1 _, ?_⟩
          rw [HSN.out, rep_snoc]
          exact HO4.out.far (by simp) _
        case measure => simp [intOf]; omega
      · obtain rfl : k = m := by omega
        have f0 := hbd.cell 0
        have f1 := hbd.cell 1
        have y0 := hbr.cell 0
        have y1 := hbr.cell 1
        have x0 := hbr.frozen 0
        have x1 := hbr.frozen 1
        simp at f0 f1 y0 y1
        have HB := Lib.hid ((hbr.set 0 (.slice A k c)).set 1 (.slice A2 k c2))
        clear hlt hk
        go_wp2_with fail
        refine bodyPost_ret (res_cell_tmp rfl rfl HB.out Try.underlying54 rfl (by kernel_rfl)) rfl ?_
        rw [HF.out, fresh_eq]
        refine ⟨A, c, A2, c2, ?_, ?_, ?_⟩
        · simp only [freshSec_len, List.length_replicate]; rfl
        · exact (hx.setCell (p := ⟨w.heap.size, 0, none⟩) (Nat.le_refl _) _).setCell (p := ⟨w.heap.size, 1, none⟩) (Nat.le_refl _) _
        · simp only [freshSec_len, List.length_replicate]
          exact ((hod.far (p := ⟨w.heap.size, 0, none⟩) (by simp; omega) _).far (p := ⟨w.heap.size, 1, none⟩) (by simp; omega) _).base (by omega)
  · have hfin := new_bad hok
    have HF := Lib.hid hfin
    have hcs : inB many 1 64 = false ∨ (inB many 1 64 = true ∧ inB from_ 0 512 = false) := by
      by_cases h1 : inB many 1 64 = true
      · refine .inr ⟨h1, ?_⟩
        have := inB_true h1
        simp [inB]; omega
      · exact .inl (by simpa using h1)
    clear hfin hok hm hf
    rcases hcs with t1 | ⟨t1, t2⟩
    · go_enter Try.func69, Try.ntmps69
      go_wp2_with (go_at_call 50; refine (in_any _ _ _ _).mono ?_; rintro e w9 ⟨rfl, rfl⟩; rw [t1])
      refine bodyPost_ret (res_cell_tmp rfl rfl (Blk_.new w 54 #[.slice none 0 0, .slice none 0 0]) Try.underlying54 rfl (by kernel_rfl)) rfl ?_
      rw [HF.out]
      refine ⟨none, 0, none, 0, rfl, (Ext.refl w).alloc _, ?_⟩
      exact ⟨World.ownsRow_nil _ _ _ _, World.ownsRow_nil _ _ _ _, by simp, by simp, fun s hs => by cases hs⟩
    · go_enter Try.func69, Try.ntmps69
      go_wp2_with (first | (go_at_call 50; refine (in_any _ _ _ _).mono ?_; rintro e w9 ⟨rfl, rfl⟩; rw [t1]) | (go_at_call 50; refine (in_any _ _ _ _).mono ?_; rintro e w9 ⟨rfl, rfl⟩; rw [t2]))
      refine bodyPost_ret (res_cell_tmp rfl rfl (Blk_.new w 54 #[.slice none 0 0, .slice none 0 0]) Try.underlying54 rfl (by kernel_rfl)) rfl ?_
      rw [HF.out]
      refine ⟨none, 0, none, 0, rfl, (Ext.refl w).alloc _, ?_⟩
      exact ⟨World.ownsRow_nil _ _ _ _, World.ownsRow_nil _ _ _ _, by simp, by simp, fun s hs => by cases hs⟩

end Go.Proofs.Ytokpjgpdkmimgaa
