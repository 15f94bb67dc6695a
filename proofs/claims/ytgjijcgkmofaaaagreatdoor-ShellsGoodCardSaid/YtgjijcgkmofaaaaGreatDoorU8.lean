/-
  stream.Write and the document's StreamWritten: bytes over sectors, one behind the other; the law StreamWrites. Conditions: the argument reads as an array.
-/
import Derived.Test.YtgjijcgkmofaaaaGreatDoorU7
namespace Go.Proofs.YtgjijcgkmofaaaaGreatDoor
set_option linter.unusedSimpArgs false
set_option linter.unusedVariables false
set_option maxRecDepth 100000
set_option maxHeartbeats 8000000
open Go.RowKit
theorem streamWrite_any (cs : List Value) (a : List Dev) (first : Int) (s : ByteArray) (w : World) (h : RArr w cs a) (hf : I64 first) (hs : s.size ≤ 140737488355328) :
  Calls Tryz.prog 55 #[.agg cs.toArray, .int .i64 first, .string s] w fun e w' => ∃ A c, e = .returned (.tuple #[.agg #[.slice A (streamWriteS a first s).1.length c], .int .i64 (streamWriteS a first s).2]) ∧ Ext w w' ∧ OArr 68 w' w.heap.size (.slice A (streamWriteS a first s).1.length c) (streamWriteS a first s).1 := by
 obtain ⟨A, c, rfl⟩ := h.form
 go_enter Tryz.func55, Tryz.ntmps55
 go_wp2_with fail
 refine calls_abs (fun W => Ext w W ∧ Blk_ W w.heap.size 30 #[.slice A a.length c] ∧ Blk_ W (w.heap.size + 1) 30 #[.slice none 0 0]) ⟨((Ext.refl _).alloc _).alloc _, (Blk_.new _ _ _).alloc _, Blk_.new1 _ _ _ _⟩ ?_
 rintro W ⟨hx, hb, hr⟩
 refine (streamIn_any [.slice A a.length c] a first s.size W (h.up hx) hf ⟨by omega, by omega⟩).mono ?_
 rintro e w1 ⟨rfl, hx1⟩
 have hb1 := hb.ext hx1
 have hr1 := hr.ext hx1
 have hxw := hx.trans hx1
 have ha1 := h.up hxw
 have f0 := hb1.cell 0
 simp at f0
 clear h hb hr hx hx1
 by_cases ht : streamFaultS a first s.size = 0
 ·have HF := Lib.hid (sw_good ht)
  obtain ⟨hm, n0, n1, q0, q1⟩ := fault_zero ht
  have hg := Good.of hm
  have hp := arr_parts hm
  obtain ⟨mm, hmm⟩ : ∃ mm, mm = (dv a 0).sec.length := ⟨_, rfl⟩
  rw [← hmm] at q1 hg
  have HG := Lib.hid hg
  have HP := Lib.hid (show 16 ≤ mm ∧ mm ≤ 64 ∧ mm % 2 = 0 by rw [hmm]; exact ⟨hp.2.2.2.2.1, hp.2.2.2.2.2.1, hp.2.2.2.2.2.2.1⟩)
  have HFM := Lib.hid (And.intro q0 (And.intro q1 (show s.size ≤ 1536 by omega)))
  have H3 := Lib.hid hg.len
  rw [ht]
  clear ht hm hp hmm hg q1 n0 n1
  go_wp2_with fail
  refine (arrCopy_any [.slice A a.length c] a w1 ha1).mono ?_
  rintro e w2 ⟨A', c', rfl, hx2, ho⟩
  have e33 : (Value.agg #[.slice A' a.length c']) = .agg #[.slice A' 3 c'] := by rw [H3.out]
  rw [H3.out] at ho
  rw [e33]
  clear e33
  have hr2 := hr1.ext hx2
  have hx2w := hxw.trans hx2
  have hlr := hr1.lt
  have hlr2 := hr2.lt
  have HSW := Lib.hid (And.intro hlr (show w1.heap.size ≤ w2.heap.size from hx2.size))
  clear ha1 hb1 hr1 hxw hx2 f0
  go_wp2_with fail
  refine wp_abs (fun W => Ext w W ∧ Blk_ W (w.heap.size + 1) 30 #[.slice none 0 0] ∧ Blk_ W w2.heap.size 30 #[.slice A' 3 c'] ∧ OArr 68 W w1.heap.size (.slice A' 3 c') a) ⟨hx2w.alloc _, hr2.alloc _, Blk_.new _ _ _, ho.ext ((Ext.refl _).alloc _)⟩ ?_
  rintro W ⟨hx, hr, hb, ho⟩
  clear hx2w hr2
  have hw2l : w.heap.size + 1 < w2.heap.size := by have := HSW.out; omega
  have hw1l : w.heap.size + 2 ≤ w1.heap.size := by have := HSW.out; omega
  go_loopw [10] (fun i wr => ∃ (k : Nat) (B : Option Addr) (d : Nat) (ak : List Dev) (base : Nat), i = .int .i64 ((24 * k : Nat) : Int) ∧ k ≤ (s.size + 23) / 24 ∧ Ext w wr ∧ Blk_ wr (w.heap.size + 1) 30 #[.slice none 0 0] ∧ Blk_ wr w2.heap.size 30 #[.slice B 3 d] ∧ OArr 68 wr base (.slice B 3 d) ak ∧ w.heap.size + 2 ≤ base ∧ Good ak mm ∧
   streamWriteLoop ((s.size + 23) / 24 - k) k ak first s = streamWriteLoop ((s.size + 23) / 24) 0 a first s) (fun i _ => s.size + 24 - (intOf i).toNat)
  case atStart => exact ⟨0, A', c', a, w1.heap.size, rfl, Nat.zero_le _, hx, hr, hb, ho, hw1l, HG.out, rfl⟩
  case round =>
   clear hx hr hb ho
   obtain ⟨k, B, d, ak, base, rfl, hk, hx, hr, hb, ho, hbase, hgk, heq⟩ := hrel
   have q0 := hb.cell 0
   simp at q0
   have HEQ := Lib.hid heq
   have HGK := Lib.hid hgk
   have hfm := HFM.out
   have hmm64 := HP.out.2.1
   by_cases hlt : k < (s.size + 23) / 24
   ·have h24 : 24 * k < s.size := by omega
    have hkm : first + (k : Int) < mm := by omega
    have hst := write_step hgk HP.out.1 HP.out.2.1 HP.out.2.2 (n := first + (k : Int)) (s := chunk s k) (by omega) hkm (chunk_size s k)
    have hsub : (s.size + 23) / 24 - k = ((s.size + 23) / 24 - (k + 1)) + 1 := by omega
    have hnx : streamWriteLoop ((s.size + 23) / 24 - (k + 1)) (k + 1) (arrWrite3 ak (first + (k : Int)) (chunk s k)) first s = streamWriteLoop ((s.size + 23) / 24) 0 a first s := by
     rw [← HEQ.out, hsub, swl_succ, hst.1]
    have HST := Lib.hid hst
    have HNX := Lib.hid hnx
    have HCH := Lib.hid (chunk_size s k)
    have hl3 : (arrWrite3 ak (first + (k : Int)) (chunk s k)).length = 3 := hst.2.len
    have HL3 := Lib.hid hl3
    have HRA := Lib.hid (show RArr wr [.slice B 3 d] ak from ho.rarr (by rw [hgk.len]; decide))
    have hk64 : (k : Int) < 64 := by omega
    have hf64 : first < 64 := by omega
    have hsz : (s.size : Int) ≤ 1536 := by omega
    have h24i : (24 : Int) * (k : Int) < (s.size : Int) := by omega
    have h24n : ((24 * k : Nat) : Int) < (s.size : Int) := by omega
    have h24b : (24 : Int) * (k : Int) ≤ 1536 := by omega
    have hfirst : 0 ≤ first := hfm.1
    have hk5 : k ≤ 63 := by omega
    have HX := Lib.hid hx
    have HR := Lib.hid hr
    have HB := Lib.hid hb
    have hlb := hb.lt
    clear hst hnx hl3 heq hgk hx hr hb ho hsub hfm hk hlt hkm
    have hcs : decide ((s.size : Int) < (24 : Int) * (k : Int) + 24) = true ∨ decide ((s.size : Int) < (24 : Int) * (k : Int) + 24) = false := by
     cases decide ((s.size : Int) < (24 : Int) * (k : Int) + 24) <;> simp
    have hch : chunk s k = s.extract (24 * k) (min (24 * k + 24) s.size) := rfl
    have HCE := Lib.hid hch
    clear hch
    rcases hcs with hm1 | hm1
    ·have hmi : (s.size : Int) < (24 : Int) * (k : Int) + 24 := by simpa using hm1
     have hmn : min (24 * k + 24) s.size = s.size := by omega
     have hmn2 : min s.size (24 * k + 24) = s.size := by omega
     have hmx : min (s.size : Int) ((24 : Int) * (k : Int) + 24) = (s.size : Int) := by omega
     have hce : s.extract (24 * k) s.size = chunk s k := by rw [HCE.out, hmn]
     have hbd : (24 : Int) * (k : Int) ≤ (s.size : Int) := by omega
     have hbd2 : 24 * k ≤ s.size := by omega
     have HCX := Lib.hid hce
     clear hce
     have hw24 : IntKind.i64.wrap ((24 : Int) * (k : Int) + 24) = (24 : Int) * (k : Int) + 24 := by rw [IntKind.wrap_i64]; omega
     have htn1 : ((24 : Int) * (k : Int)).toNat = 24 * k := by omega
     have htn2 : ((24 : Int) * (k : Int) + 24).toNat = 24 * k + 24 := by omega
     have hz0 : (0 : Int) ≤ (24 : Int) * (k : Int) := by omega
     have hz1 : (0 : Int) ≤ (24 : Int) * (k : Int) + 24 := by omega
     go_wp2_with fail
     refine wp_region_all (S := fun W' => W'.cell? ⟨w2.heap.size, 0, none⟩ = some (.slice B 3 d)) (by kernel_rfl) ?_
     have hS0 : (fun W' => W'.cell? ⟨w2.heap.size, 0, none⟩ = some (.slice B 3 d)) wr.drew := q0
     refine tkL 0 rfl (fun w' hS => by (try dsimp only at hS); go_simp; rfl) hS0 ?_
     refine tkL 1 rfl (fun w' hS => by (try dsimp only at hS); go_simp; rfl) hS0 ?_
     refine tkL 2 rfl (fun w' hS => by (try dsimp only at hS); go_simp; rfl) hS0 ?_
     try simp only [Act.put, List.setIfInBounds_toArray, List.set_cons_zero, List.set_cons_succ]
     refine tkL 3 rfl (fun w' hS => by (try dsimp only at hS); go_simp; rfl) hS0 ?_
     refine tkL 4 rfl (fun w' hS => by (try dsimp only at hS); go_simp; rfl) hS0 ?_
     refine tkL 5 rfl (fun w' hS => by (try dsimp only at hS); go_simp; rfl) hS0 ?_
     try simp only [Act.put, List.setIfInBounds_toArray, List.set_cons_zero, List.set_cons_succ]
     refine tkL 6 rfl (fun w' hS => by (try dsimp only at hS); go_simp; rfl) hS0 ?_
     refine tkL 7 rfl (fun w' hS => by (try dsimp only at hS); go_simp; rfl) hS0 ?_
     refine tkL 8 rfl (fun w' hS => by (try dsimp only at hS); go_simp; rfl) hS0 ?_
     try simp only [Act.put, List.setIfInBounds_toArray, List.set_cons_zero, List.set_cons_succ]
     refine tkL 9 rfl (fun w' hS => by (try dsimp only at hS); go_simp; rfl) hS0 ?_
     refine tkL 10 rfl (fun w' hS => by (try dsimp only at hS); go_simp; rfl) hS0 ?_
     refine tkL 11 rfl (fun w' hS => by (try dsimp only at hS); go_simp; rfl) hS0 ?_
     try simp only [Act.put, List.setIfInBounds_toArray, List.set_cons_zero, List.set_cons_succ]
     refine tkL 12 rfl (fun w' hS => by (try dsimp only at hS); go_simp; rfl) hS0 ?_
     try simp only [Act.put, List.setIfInBounds_toArray, List.set_cons_zero, List.set_cons_succ]
     rw [HCX.out]
     refine wpAnyH_twoL (i := 13) (j := 17) rfl rfl (by kernel_rfl) rfl rfl (fun K hK => ?_) (fun K hK => ?_)
     ·go_wp2_with fail
      refine (arrWrite_any [.slice B 3 d] ak (first + (k : Int)) (chunk s k) _ (HRA.out.up (Ext.refl _).drew) ⟨by omega, by omega⟩ (by have := HCH.out; omega)).mono ?_
      rintro e w4 ⟨X, x, rfl, hx4, hX⟩
      have HW4 := Lib.hid (show w2.heap.size < (wr.drew).heap.size by simp; omega)
      rw [HST.out.1] at hX ⊢
      have hX' : OArr 68 w4 (wr.drew).heap.size (.slice X 3 x) (arrWrite3 ak (first + (k : Int)) (chunk s k)) := by
       have h := hX
       simp only [HL3.out] at h
       exact h
      rw [show (Value.agg #[.slice X ((arrWrite3 ak (first + (k : Int)) (chunk s k), (0 : Int)).1).length x]) = .agg #[.slice X 3 x] by simp only [HL3.out]]
      have e4 : Ext wr w4 := (Ext.refl wr).drew.trans hx4
      have hS4 : (fun W' => W'.cell? ⟨w2.heap.size, 0, none⟩ = some (.slice B 3 d)) w4 := e4.cell q0
      refine hK _ _ hS4 ?_
      clear hK K
      refine tkL 14 rfl (fun w' hS => by (try dsimp only at hS); go_simp; rfl) hS4 ?_
      refine tkL 15 rfl (fun w' hS => by (try dsimp only at hS); go_simp; rfl) hS4 ?_
      refine tkL 16 rfl (fun w' hS => by (try dsimp only at hS); go_simp; rfl) hS4 ?_
      try simp only [Act.put, List.setIfInBounds_toArray, List.set_cons_zero, List.set_cons_succ]
      refine wpAnyH_oneL (i := 17) rfl (by kernel_rfl) rfl (fun K hK => ?_)
      go_wp2_with fail
      have hS5 : (fun W' => W'.cell? ⟨w2.heap.size, 0, none⟩ = some (.slice B 3 d)) (w4.alloc (.cells #[.slice none 0 0] 30)) := (e4.alloc _).cell q0
      refine hK _ _ hS5 ?_
      clear hK K
      try simp only [Act.put, List.setIfInBounds_toArray, List.set_cons_zero, List.set_cons_succ]
      refine wpAnyH_oneL (i := 18) rfl (by kernel_rfl) rfl (fun K hK => ?_)
      go_wp2_with fail
      have hS6 : (fun W' => W'.cell? ⟨w2.heap.size, 0, none⟩ = some (.slice B 3 d)) (w4.alloc (.cells #[.slice X 3 x] 30)) := (e4.alloc _).cell q0
      refine hK _ _ hS6 ?_
      clear hK K
      refine tkL 19 rfl (fun w' hS => by (try dsimp only at hS); go_simp; rfl) hS6 ?_
      try simp only [Act.put, List.setIfInBounds_toArray, List.set_cons_zero, List.set_cons_succ]
      refine wpAnyH_done (by kernel_rfl) ?_ _
      have b4 := HB.out.ext e4
      have c4 := b4.cell 0
      have z4 := b4.frozen 0
      simp at c4
      have hl4 := b4.lt
      have ne4 : ¬ (w2.heap.size = w4.heap.size) := by omega
      have ne5 : ¬ (w4.heap.size = w2.heap.size) := by omega
      have HFB := Lib.hid (And.intro b4 (And.intro (HR.out.ext e4) (And.intro (HX.out.trans e4) hX')))
      clear b4 hX hX' hx4 hS4 hS5 hS6 hS0
      go_wp2_with fail
      go_roundw
      case rel =>
       refine ⟨k + 1, X, x, arrWrite3 ak (first + (k : Int)) (chunk s k), wr.drew.heap.size, by go_num, by omega, (HFB.out.2.2.1.setCell (p := ⟨w2.heap.size, 0, none⟩) (by simp; omega) _).alloc _, (HFB.out.2.1.far (p := ⟨w2.heap.size, 0, none⟩) (by simp; omega) _).alloc _, (HFB.out.1.set 0 _).alloc _, (HFB.out.2.2.2.far (p := ⟨w2.heap.size, 0, none⟩) HW4.out _).ext ((Ext.refl _).alloc _), by have := HW4.out; omega, HST.out.2, HNX.out⟩
      case measure => simp [intOf]; omega
     ·go_wp2_with fail
      have e3 : Ext wr (wr.drew.alloc (.cells #[.slice none 0 0] 30)) := (Ext.refl wr).drew.alloc _
      have hS3 : (fun W' => W'.cell? ⟨w2.heap.size, 0, none⟩ = some (.slice B 3 d)) (wr.drew.alloc (.cells #[.slice none 0 0] 30)) := e3.cell q0
      refine hK _ _ hS3 ?_
      clear hK K
      try simp only [Act.put, List.setIfInBounds_toArray, List.set_cons_zero, List.set_cons_succ]
      refine anyH_abs (fun W => Ext wr W ∧ Blk_ W wr.heap.size 30 #[.slice none 0 0]) ⟨by first | exact e3 | exact (Ext.refl wr).alloc _ | exact ((Ext.refl wr).alloc _).drew, by first | exact Blk_.new _ _ _ | exact (Blk_.new _ _ _).drew⟩ ?_
      rintro W5 ⟨e5, b5⟩
      refine wpAnyH_oneL (i := 13) rfl (by kernel_rfl) rfl (fun K hK => ?_)
      go_wp2_with fail
      refine (arrWrite_any [.slice B 3 d] ak (first + (k : Int)) (chunk s k) _ (HRA.out.up e5) ⟨by omega, by omega⟩ (by have := HCH.out; omega)).mono ?_
      rintro e w4 ⟨X, x, rfl, hx4, hX⟩
      have HW4 := Lib.hid (show w2.heap.size < (W5).heap.size by have := e5.size; omega)
      rw [HST.out.1] at hX ⊢
      have hX' : OArr 68 w4 (W5).heap.size (.slice X 3 x) (arrWrite3 ak (first + (k : Int)) (chunk s k)) := by
       have h := hX
       simp only [HL3.out] at h
       exact h
      rw [show (Value.agg #[.slice X ((arrWrite3 ak (first + (k : Int)) (chunk s k), (0 : Int)).1).length x]) = .agg #[.slice X 3 x] by simp only [HL3.out]]
      have e4 : Ext wr w4 := e5.trans hx4
      have hS4 : (fun W' => W'.cell? ⟨w2.heap.size, 0, none⟩ = some (.slice B 3 d)) w4 := e4.cell q0
      refine hK _ _ hS4 ?_
      clear hK K
      refine tkL 14 rfl (fun w' hS => by (try dsimp only at hS); go_simp; rfl) hS4 ?_
      refine tkL 15 rfl (fun w' hS => by (try dsimp only at hS); go_simp; rfl) hS4 ?_
      refine tkL 16 rfl (fun w' hS => by (try dsimp only at hS); go_simp; rfl) hS4 ?_
      try simp only [Act.put, List.setIfInBounds_toArray, List.set_cons_zero, List.set_cons_succ]
      refine wpAnyH_oneL (i := 18) rfl (by kernel_rfl) rfl (fun K hK => ?_)
      have b54 := b5.ext hx4
      have c54 := b54.cell 0
      have z54 := b54.frozen 0
      simp at c54
      have hbw5 := b5.lt
      have hl54 := b54.lt
      have b4 := HB.out.ext e4
      have c4 := b4.cell 0
      have z4 := b4.frozen 0
      simp at c4
      have hl4 := b4.lt
      have ne4 : ¬ (w2.heap.size = wr.heap.size) := by omega
      have ne5 : ¬ (wr.heap.size = w2.heap.size) := by omega
      have hS6 : (fun W' => W'.cell? ⟨w2.heap.size, 0, none⟩ = some (.slice B 3 d)) (w4.setCell ⟨wr.heap.size, 0, none⟩ (.slice X 3 x)) := by
       show (w4.setCell ⟨wr.heap.size, 0, none⟩ (.slice X 3 x)).cell? _ = _
       rw [World.cell?_setCell_other _ _ _ _ (by simp [ne4, ne5])]
       exact hS4
      go_wp2_with fail
      refine hK _ _ hS6 ?_
      clear hK K
      refine tkL 19 rfl (fun w' hS => by (try dsimp only at hS); go_simp; rfl) hS6 ?_
      try simp only [Act.put, List.setIfInBounds_toArray, List.set_cons_zero, List.set_cons_succ]
      refine wpAnyH_done (by kernel_rfl) ?_ _
      have HFB := Lib.hid (And.intro b4 (And.intro (HR.out.ext e4) (And.intro (HX.out.trans e4) hX')))
      have hxs := HX.out.size
      have HBW := Lib.hid hbw5
      clear b4 hX hX' hx4 hS4 hS6 hS0 hS3 b5 b54
      go_wp2_with fail
      go_roundw
      case rel =>
       have hw5 := HBW.out
       refine ⟨k + 1, X, x, arrWrite3 ak (first + (k : Int)) (chunk s k), W5.heap.size, by go_num, by omega, (HFB.out.2.2.1.setCell (p := ⟨wr.heap.size, 0, none⟩) hxs _).setCell (p := ⟨w2.heap.size, 0, none⟩) (by simp; omega) _, (HFB.out.2.1.far (p := ⟨wr.heap.size, 0, none⟩) (by simp; omega) _).far (p := ⟨w2.heap.size, 0, none⟩) (by simp; omega) _, (HFB.out.1.far (p := ⟨wr.heap.size, 0, none⟩) (by simp; omega) _).set 0 _, (HFB.out.2.2.2.far (p := ⟨wr.heap.size, 0, none⟩) hw5 _).far (p := ⟨w2.heap.size, 0, none⟩) HW4.out _, by omega, HST.out.2, HNX.out⟩
      case measure => simp [intOf]; omega
    ·have hmi : (24 : Int) * (k : Int) + 24 ≤ (s.size : Int) := by simpa using hm1
     have hmn : min (24 * k + 24) s.size = 24 * k + 24 := by omega
     have hmn2 : min s.size (24 * k + 24) = 24 * k + 24 := by omega
     have hmx : min (s.size : Int) ((24 : Int) * (k : Int) + 24) = (24 : Int) * (k : Int) + 24 := by omega
     have hce : s.extract (24 * k) (24 * k + 24) = chunk s k := by rw [HCE.out, hmn]
     have hbd : (24 : Int) * (k : Int) ≤ (24 : Int) * (k : Int) + 24 := by omega
     have hbd2 : 24 * k + 24 ≤ s.size := by omega
     have HCX := Lib.hid hce
     clear hce
     have hw24 : IntKind.i64.wrap ((24 : Int) * (k : Int) + 24) = (24 : Int) * (k : Int) + 24 := by rw [IntKind.wrap_i64]; omega
     have htn1 : ((24 : Int) * (k : Int)).toNat = 24 * k := by omega
     have htn2 : ((24 : Int) * (k : Int) + 24).toNat = 24 * k + 24 := by omega
     have hz0 : (0 : Int) ≤ (24 : Int) * (k : Int) := by omega
     have hz1 : (0 : Int) ≤ (24 : Int) * (k : Int) + 24 := by omega
     go_wp2_with fail
     refine wp_region_all (S := fun W' => W'.cell? ⟨w2.heap.size, 0, none⟩ = some (.slice B 3 d)) (by kernel_rfl) ?_
     have hS0 : (fun W' => W'.cell? ⟨w2.heap.size, 0, none⟩ = some (.slice B 3 d)) wr.drew := q0
     refine tkL 0 rfl (fun w' hS => by (try dsimp only at hS); go_simp; rfl) hS0 ?_
     refine tkL 1 rfl (fun w' hS => by (try dsimp only at hS); go_simp; rfl) hS0 ?_
     refine tkL 2 rfl (fun w' hS => by (try dsimp only at hS); go_simp; rfl) hS0 ?_
     try simp only [Act.put, List.setIfInBounds_toArray, List.set_cons_zero, List.set_cons_succ]
     refine tkL 3 rfl (fun w' hS => by (try dsimp only at hS); go_simp; rfl) hS0 ?_
     refine tkL 4 rfl (fun w' hS => by (try dsimp only at hS); go_simp; rfl) hS0 ?_
     refine tkL 5 rfl (fun w' hS => by (try dsimp only at hS); go_simp; rfl) hS0 ?_
     try simp only [Act.put, List.setIfInBounds_toArray, List.set_cons_zero, List.set_cons_succ]
     refine tkL 6 rfl (fun w' hS => by (try dsimp only at hS); go_simp; rfl) hS0 ?_
     refine tkL 7 rfl (fun w' hS => by (try dsimp only at hS); go_simp; rfl) hS0 ?_
     refine tkL 8 rfl (fun w' hS => by (try dsimp only at hS); go_simp; rfl) hS0 ?_
     try simp only [Act.put, List.setIfInBounds_toArray, List.set_cons_zero, List.set_cons_succ]
     refine tkL 9 rfl (fun w' hS => by (try dsimp only at hS); go_simp; rfl) hS0 ?_
     refine tkL 10 rfl (fun w' hS => by (try dsimp only at hS); go_simp; rfl) hS0 ?_
     refine tkL 11 rfl (fun w' hS => by (try dsimp only at hS); go_simp; rfl) hS0 ?_
     try simp only [Act.put, List.setIfInBounds_toArray, List.set_cons_zero, List.set_cons_succ]
     refine tkL 12 rfl (fun w' hS => by (try dsimp only at hS); go_simp; rfl) hS0 ?_
     try simp only [Act.put, List.setIfInBounds_toArray, List.set_cons_zero, List.set_cons_succ]
     rw [HCX.out]
     refine wpAnyH_twoL (i := 13) (j := 17) rfl rfl (by kernel_rfl) rfl rfl (fun K hK => ?_) (fun K hK => ?_)
     ·go_wp2_with fail
      refine (arrWrite_any [.slice B 3 d] ak (first + (k : Int)) (chunk s k) _ (HRA.out.up (Ext.refl _).drew) ⟨by omega, by omega⟩ (by have := HCH.out; omega)).mono ?_
      rintro e w4 ⟨X, x, rfl, hx4, hX⟩
      have HW4 := Lib.hid (show w2.heap.size < (wr.drew).heap.size by simp; omega)
      rw [HST.out.1] at hX ⊢
      have hX' : OArr 68 w4 (wr.drew).heap.size (.slice X 3 x) (arrWrite3 ak (first + (k : Int)) (chunk s k)) := by
       have h := hX
       simp only [HL3.out] at h
       exact h
      rw [show (Value.agg #[.slice X ((arrWrite3 ak (first + (k : Int)) (chunk s k), (0 : Int)).1).length x]) = .agg #[.slice X 3 x] by simp only [HL3.out]]
      have e4 : Ext wr w4 := (Ext.refl wr).drew.trans hx4
      have hS4 : (fun W' => W'.cell? ⟨w2.heap.size, 0, none⟩ = some (.slice B 3 d)) w4 := e4.cell q0
      refine hK _ _ hS4 ?_
      clear hK K
      refine tkL 14 rfl (fun w' hS => by (try dsimp only at hS); go_simp; rfl) hS4 ?_
      refine tkL 15 rfl (fun w' hS => by (try dsimp only at hS); go_simp; rfl) hS4 ?_
      refine tkL 16 rfl (fun w' hS => by (try dsimp only at hS); go_simp; rfl) hS4 ?_
      try simp only [Act.put, List.setIfInBounds_toArray, List.set_cons_zero, List.set_cons_succ]
      refine wpAnyH_oneL (i := 17) rfl (by kernel_rfl) rfl (fun K hK => ?_)
      go_wp2_with fail
      have hS5 : (fun W' => W'.cell? ⟨w2.heap.size, 0, none⟩ = some (.slice B 3 d)) (w4.alloc (.cells #[.slice none 0 0] 30)) := (e4.alloc _).cell q0
      refine hK _ _ hS5 ?_
      clear hK K
      try simp only [Act.put, List.setIfInBounds_toArray, List.set_cons_zero, List.set_cons_succ]
      refine wpAnyH_oneL (i := 18) rfl (by kernel_rfl) rfl (fun K hK => ?_)
      go_wp2_with fail
      have hS6 : (fun W' => W'.cell? ⟨w2.heap.size, 0, none⟩ = some (.slice B 3 d)) (w4.alloc (.cells #[.slice X 3 x] 30)) := (e4.alloc _).cell q0
      refine hK _ _ hS6 ?_
      clear hK K
      refine tkL 19 rfl (fun w' hS => by (try dsimp only at hS); go_simp; rfl) hS6 ?_
      try simp only [Act.put, List.setIfInBounds_toArray, List.set_cons_zero, List.set_cons_succ]
      refine wpAnyH_done (by kernel_rfl) ?_ _
      have b4 := HB.out.ext e4
      have c4 := b4.cell 0
      have z4 := b4.frozen 0
      simp at c4
      have hl4 := b4.lt
      have ne4 : ¬ (w2.heap.size = w4.heap.size) := by omega
      have ne5 : ¬ (w4.heap.size = w2.heap.size) := by omega
      have HFB := Lib.hid (And.intro b4 (And.intro (HR.out.ext e4) (And.intro (HX.out.trans e4) hX')))
      clear b4 hX hX' hx4 hS4 hS5 hS6 hS0
      go_wp2_with fail
      go_roundw
      case rel =>
       refine ⟨k + 1, X, x, arrWrite3 ak (first + (k : Int)) (chunk s k), wr.drew.heap.size, by go_num, by omega, (HFB.out.2.2.1.setCell (p := ⟨w2.heap.size, 0, none⟩) (by simp; omega) _).alloc _, (HFB.out.2.1.far (p := ⟨w2.heap.size, 0, none⟩) (by simp; omega) _).alloc _, (HFB.out.1.set 0 _).alloc _, (HFB.out.2.2.2.far (p := ⟨w2.heap.size, 0, none⟩) HW4.out _).ext ((Ext.refl _).alloc _), by have := HW4.out; omega, HST.out.2, HNX.out⟩
      case measure => simp [intOf]; omega
     ·go_wp2_with fail
      have e3 : Ext wr (wr.drew.alloc (.cells #[.slice none 0 0] 30)) := (Ext.refl wr).drew.alloc _
      have hS3 : (fun W' => W'.cell? ⟨w2.heap.size, 0, none⟩ = some (.slice B 3 d)) (wr.drew.alloc (.cells #[.slice none 0 0] 30)) := e3.cell q0
      refine hK _ _ hS3 ?_
      clear hK K
      try simp only [Act.put, List.setIfInBounds_toArray, List.set_cons_zero, List.set_cons_succ]
      refine anyH_abs (fun W => Ext wr W ∧ Blk_ W wr.heap.size 30 #[.slice none 0 0]) ⟨by first | exact e3 | exact (Ext.refl wr).alloc _ | exact ((Ext.refl wr).alloc _).drew, by first | exact Blk_.new _ _ _ | exact (Blk_.new _ _ _).drew⟩ ?_
      rintro W5 ⟨e5, b5⟩
      refine wpAnyH_oneL (i := 13) rfl (by kernel_rfl) rfl (fun K hK => ?_)
      go_wp2_with fail
      refine (arrWrite_any [.slice B 3 d] ak (first + (k : Int)) (chunk s k) _ (HRA.out.up e5) ⟨by omega, by omega⟩ (by have := HCH.out; omega)).mono ?_
      rintro e w4 ⟨X, x, rfl, hx4, hX⟩
      have HW4 := Lib.hid (show w2.heap.size < (W5).heap.size by have := e5.size; omega)
      rw [HST.out.1] at hX ⊢
      have hX' : OArr 68 w4 (W5).heap.size (.slice X 3 x) (arrWrite3 ak (first + (k : Int)) (chunk s k)) := by
       have h := hX
       simp only [HL3.out] at h
       exact h
      rw [show (Value.agg #[.slice X ((arrWrite3 ak (first + (k : Int)) (chunk s k), (0 : Int)).1).length x]) = .agg #[.slice X 3 x] by simp only [HL3.out]]
      have e4 : Ext wr w4 := e5.trans hx4
      have hS4 : (fun W' => W'.cell? ⟨w2.heap.size, 0, none⟩ = some (.slice B 3 d)) w4 := e4.cell q0
      refine hK _ _ hS4 ?_
      clear hK K
      refine tkL 14 rfl (fun w' hS => by (try dsimp only at hS); go_simp; rfl) hS4 ?_
      refine tkL 15 rfl (fun w' hS => by (try dsimp only at hS); go_simp; rfl) hS4 ?_
      refine tkL 16 rfl (fun w' hS => by (try dsimp only at hS); go_simp; rfl) hS4 ?_
      try simp only [Act.put, List.setIfInBounds_toArray, List.set_cons_zero, List.set_cons_succ]
      refine wpAnyH_oneL (i := 18) rfl (by kernel_rfl) rfl (fun K hK => ?_)
      have b54 := b5.ext hx4
      have c54 := b54.cell 0
      have z54 := b54.frozen 0
      simp at c54
      have hbw5 := b5.lt
      have hl54 := b54.lt
      have b4 := HB.out.ext e4
      have c4 := b4.cell 0
      have z4 := b4.frozen 0
      simp at c4
      have hl4 := b4.lt
      have ne4 : ¬ (w2.heap.size = wr.heap.size) := by omega
      have ne5 : ¬ (wr.heap.size = w2.heap.size) := by omega
      have hS6 : (fun W' => W'.cell? ⟨w2.heap.size, 0, none⟩ = some (.slice B 3 d)) (w4.setCell ⟨wr.heap.size, 0, none⟩ (.slice X 3 x)) := by
       show (w4.setCell ⟨wr.heap.size, 0, none⟩ (.slice X 3 x)).cell? _ = _
       rw [World.cell?_setCell_other _ _ _ _ (by simp [ne4, ne5])]
       exact hS4
      go_wp2_with fail
      refine hK _ _ hS6 ?_
      clear hK K
      refine tkL 19 rfl (fun w' hS => by (try dsimp only at hS); go_simp; rfl) hS6 ?_
      try simp only [Act.put, List.setIfInBounds_toArray, List.set_cons_zero, List.set_cons_succ]
      refine wpAnyH_done (by kernel_rfl) ?_ _
      have HFB := Lib.hid (And.intro b4 (And.intro (HR.out.ext e4) (And.intro (HX.out.trans e4) hX')))
      have hxs := HX.out.size
      have HBW := Lib.hid hbw5
      clear b4 hX hX' hx4 hS4 hS6 hS0 hS3 b5 b54
      go_wp2_with fail
      go_roundw
      case rel =>
       have hw5 := HBW.out
       refine ⟨k + 1, X, x, arrWrite3 ak (first + (k : Int)) (chunk s k), W5.heap.size, by go_num, by omega, (HFB.out.2.2.1.setCell (p := ⟨wr.heap.size, 0, none⟩) hxs _).setCell (p := ⟨w2.heap.size, 0, none⟩) (by simp; omega) _, (HFB.out.2.1.far (p := ⟨wr.heap.size, 0, none⟩) (by simp; omega) _).far (p := ⟨w2.heap.size, 0, none⟩) (by simp; omega) _, (HFB.out.1.far (p := ⟨wr.heap.size, 0, none⟩) (by simp; omega) _).set 0 _, (HFB.out.2.2.2.far (p := ⟨wr.heap.size, 0, none⟩) hw5 _).far (p := ⟨w2.heap.size, 0, none⟩) HW4.out _, by omega, HST.out.2, HNX.out⟩
      case measure => simp [intOf]; omega
   ·obtain rfl : k = (s.size + 23) / 24 := by omega
    have HFE := Lib.hid (show ak = streamWriteLoop ((s.size + 23) / 24) 0 a first s by rw [← HEQ.out, Nat.sub_self]; rfl)
    have hge : (s.size : Int) ≤ ((24 * ((s.size + 23) / 24) : Nat) : Int) := by omega
    have hge2 : (s.size : Int) ≤ (24 : Int) * (((s.size + 23) / 24 : Nat) : Int) := by omega
    have HL3 := Lib.hid hgk.len
    have y0 := hr.cell 0
    have x0 := hr.frozen 0
    simp at y0
    have HB := Lib.hid (hr.set 0 (.slice B 3 d))
    have HOF := Lib.hid ho
    have HKK := Lib.hid (show (s.size + 23) / 24 = (s.size + 23) / 24 from rfl)
    have hkk2 : decide ((((s.size + 23) / 24 : Nat) : Int) < ((s.size : Int) + 23) / 24) = false := by simp
    have hkk3 : (((s.size : Int) + 23) / 24) ≤ (((s.size + 23) / 24 : Nat) : Int) := by omega
    clear hgk heq HEQ HGK hr hb ho hlt hk hfm
    generalize (s.size + 23) / 24 = kk at *
    go_wp2_with fail
    refine bodyPost_ret (res_cell_tmp rfl rfl HB.out Tryz.underlying30 rfl (by kernel_rfl)) rfl ?_
    rw [HF.out, ← HFE.out]
    show ∃ A c, _ = Ending.returned (.tuple #[.agg #[.slice A ak.length c], .int .i64 0]) ∧ _ ∧ OArr _ _ _ (.slice A ak.length c) ak
    rw [HL3.out]
    exact ⟨B, d, rfl, hx.setCell (p := ⟨w.heap.size + 1, 0, none⟩) (by simp) _, (HOF.out.far (p := ⟨w.heap.size + 1, 0, none⟩) (by simp; omega) _).base (by omega)⟩
 ·have HF := Lib.hid (sw_bad ht)
  have ht' : (streamFaultS a first s.size != 0) = true := by simpa using ht
  have y0 := hr1.cell 0
  have x0 := hr1.frozen 0
  simp at y0
  have HB := Lib.hid (hr1.set 0 (.slice none 0 0))
  clear hr1 hb1 ha1 ht
  generalize streamFaultS a first s.size = t at *
  go_wp2_with fail
  refine bodyPost_ret (res_cell_tmp rfl rfl HB.out Tryz.underlying30 rfl (by kernel_rfl)) rfl ?_
  rw [HF.out]
  exact ⟨none, 0, rfl, hxw.setCell (p := ⟨w.heap.size + 1, 0, none⟩) (by simp) _, OArr.nil _ _ _⟩
theorem swl_good (s : ByteArray) (first : Int) (mm : Nat) (h1 : 16 ≤ mm) (h2 : mm ≤ 64) (h3 : mm % 2 = 0) (h0 : 0 ≤ first) : ∀ (m i : Nat) (a : List Dev), Good a mm → first + ((i + m : Nat) : Int) ≤ mm → Good (streamWriteLoop m i a first s) mm
 | 0, _, a, h, _ => h
 | m + 1, i, a, h, hb => by
  have hst := write_step h h1 h2 h3 (n := first + (i : Int)) (s := chunk s i) (by omega) (by omega) (chunk_size s i)
  rw [swl_succ, hst.1]
  exact swl_good s first mm h1 h2 h3 h0 m (i + 1) _ hst.2 (by omega)
def noFil : Fil := ⟨.empty, .empty⟩
def sameName (s : ByteArray) (x : Fil) : Bool := x.name.toList == s.toList
def filesGo (l : List Fil) : Nat → Nat → Int → Int
 | 0, _, all => if 600 < all then 1 else 0
 | m + 1, k, all => if !nameMay (l.getD k noFil).name then 4 else if 200 < (l.getD k noFil).data.size then 1 else if (l.take k).any (sameName (l.getD k noFil).name) then 7 else filesGo l m (k + 1) (all + (l.getD k noFil).data.size)
def filesS (l : List Fil) : Int := if 1 ≤ l.length ∧ l.length ≤ 10 then filesGo l l.length 0 0 else 1
theorem sameName_any (x f : Fil) (g : Nat) (w : World) (hb : Blk_ w g 57 #[.string f.name, .string f.data]) :
  Calls Tryz.prog 75 #[.agg #[.string x.name, .string x.data], .pointer (some ⟨g, 0, none⟩)] w fun e w' => Ext w w' ∧ e = .returned (.bool (sameName f.name x)) := by
 have hb1 := hb.alloc (.cells #[.string x.name, .string x.data] 57)
 have f0 := hb.cell 0
 have hl := hb.lt
 simp at f0
 clear hb hb1
 go_enter Tryz.func75, Tryz.ntmps75
 go_wp2
 go_ret
 exact ⟨(Ext.refl _).alloc _, rfl⟩
theorem index_fil (v : Value) (l : List Fil) (f : Fil) (g : Nat) (w : World) (h : SlR 2 32 RFil w v l) (hb : Blk_ w g 57 #[.string f.name, .string f.data]) :
  Calls Tryz.prog 124 #[v, .func (.func 75) #[] #[.pointer (some ⟨g, 0, none⟩)]] w fun e w' => Ext w w' ∧ ∃ r : Int, e = .returned (.int .i64 r) ∧ decide (0 ≤ r) = l.any (sameName f.name) := by
 obtain ⟨A, c, rfl, hl, hc, r1⟩ := h.rowE encFil_ok
 clear h
 go_enter Tryz.func124, Tryz.ntmps124
 go_wp2
 go_loopw [8] (fun i wr => ∃ k : Nat, i = .int .i64 k ∧ k ≤ l.length ∧ Ext w wr ∧ (l.take k).any (sameName f.name) = false) (fun i _ => l.length - (intOf i).toNat)
 case atStart => exact ⟨0, rfl, Nat.zero_le _, Ext.refl _, rfl⟩
 case round =>
  obtain ⟨k, rfl, hk, hx, hno⟩ := hrel
  have HN := Lib.hid hno
  clear hno
  by_cases hlt : k < l.length
  ·obtain ⟨b1, o1, rfl, g1⟩ := r1 k hlt
   have q0 := hx.cell (g1 k hlt 0 _ rfl)
   have q1 := hx.cell (g1 k hlt 1 _ rfl)
   simp only [Nat.add_zero] at q0
   have HR := Lib.hid r1
   clear g1 r1
   have htk : (l.take (k + 1)).any (sameName f.name) = sameName f.name l[k] := by
    rw [← List.take_append_getElem hlt, List.any_append, HN.out]; simp
   have HT := Lib.hid htk
   clear htk
   have hki : (k : Int) < (l.length : Int) := by omega
   have HBR := Lib.hid (hb.ext hx)
   go_wp2_with fail
   refine (sameName_any l[k] f g _ HBR.out).mono ?_
   rintro e w1 ⟨hx1, rfl⟩
   have HX1 := Lib.hid (hx.trans hx1)
   clear q0 q1 hx hx1 HBR
   cases hp : sameName f.name l[k] with
   | true =>
    have HP := Lib.hid hp
    clear hp
    go_wp2_with fail
    go_ret
    refine ⟨HX1.out, _, rfl, ?_⟩
    have : l.any (sameName f.name) = true := List.any_eq_true.2 ⟨l[k], List.getElem_mem hlt, HP.out⟩
    rw [this]
    simp
   | false =>
    have HP := Lib.hid hp
    clear hp
    go_wp2_with fail
    go_roundw
    case rel => exact ⟨k + 1, by go_num, by omega, HX1.out, by rw [HT.out, HP.out]⟩
    case measure => simp [intOf]; omega
  ·obtain rfl : k = l.length := by omega
   go_wp2_with fail
   go_ret
   refine ⟨hx, _, rfl, ?_⟩
   rw [List.take_length] at HN
   rw [HN.out]
   simp
theorem contains_fil (v : Value) (l : List Fil) (f : Fil) (g : Nat) (w : World) (h : SlR 2 32 RFil w v l) (hb : Blk_ w g 57 #[.string f.name, .string f.data]) :
  Calls Tryz.prog 74 #[v, .func (.func 75) #[] #[.pointer (some ⟨g, 0, none⟩)]] w fun e w' => Ext w w' ∧ e = .returned (.bool (l.any (sameName f.name))) := by
 go_enter Tryz.func74, Tryz.ntmps74
 go_wp2_with fail
 refine (index_fil v l f g w h hb).mono ?_
 rintro e w1 ⟨hx, r, rfl, hr⟩
 have HR := Lib.hid hr
 clear hr h
 go_wp2
 go_ret
 exact ⟨hx, ret_bool HR.out⟩
theorem files_bad {l : List Fil} (h : ¬ (1 ≤ l.length ∧ l.length ≤ 10)) : filesS l = 1 := by unfold filesS; rw [if_neg h]
theorem files_ok {l : List Fil} (h : 1 ≤ l.length ∧ l.length ≤ 10) : filesS l = filesGo l l.length 0 0 := by unfold filesS; rw [if_pos h]
theorem fgo_name {l : List Fil} {m k : Nat} {all : Int} {x : Fil} (hx : l.getD k noFil = x) (h : nameMay x.name = false) : filesGo l (m + 1) k all = 4 := by unfold filesGo; rw [hx, h]; rfl
theorem fgo_size {l : List Fil} {m k : Nat} {all : Int} {x : Fil} (hx : l.getD k noFil = x) (h : nameMay x.name = true) (h2 : 200 < x.data.size) : filesGo l (m + 1) k all = 1 := by unfold filesGo; rw [hx, h, if_neg (by decide), if_pos h2]
theorem fgo_twice {l : List Fil} {m k : Nat} {all : Int} {x : Fil} (hx : l.getD k noFil = x) (h : nameMay x.name = true) (h2 : ¬ 200 < x.data.size) (h3 : (l.take k).any (sameName x.name) = true) : filesGo l (m + 1) k all = 7 := by unfold filesGo; rw [hx, h, if_neg (by decide), if_neg h2, if_pos h3]
theorem fgo_go {l : List Fil} {m k : Nat} {all : Int} {x : Fil} (hx : l.getD k noFil = x) (h : nameMay x.name = true) (h2 : ¬ 200 < x.data.size) (h3 : (l.take k).any (sameName x.name) = false) : filesGo l (m + 1) k all = filesGo l m (k + 1) (all + x.data.size) := by
 rw [filesGo, hx, h, if_neg (by decide), if_neg h2, if_neg (by simp [h3])]
theorem SlR.take {α : Type} {C bytes : Nat} {R : Rd α} {w : World} {A : Option Addr} {c : Nat} {l : List α} (h : SlR C bytes R w (.slice A l.length c) l) (k : Nat) (hk : k ≤ l.length) : SlR C bytes R w (.slice A k c) (l.take k) := by
 obtain ⟨A', c', e, hb, hc, h⟩ := h
 simp only [Value.slice.injEq, true_and] at e
 obtain ⟨rfl, rfl⟩ := e
 have hl : (l.take k).length = k := by rw [List.length_take]; omega
 refine ⟨A, c, by rw [hl], by rw [hl]; exact Nat.le_trans (Nat.mul_le_mul_right _ hk) hb, by rw [hl]; omega, ?_⟩
 rcases h with h | ⟨b, o, hA, h⟩
 ·subst h; left; simp
 ·right
  refine ⟨b, o, hA, fun i hi => ?_⟩
  have hi' : i < l.length := by rw [hl] at hi; omega
  obtain ⟨cs, h1, h2, h3⟩ := h i hi'
  exact ⟨cs, h1, h2, by rw [List.getElem_take]; exact h3⟩
theorem checkFiles_any (v : Value) (l : List Fil) (w : World) (h : SlR 2 32 RFil w v l) :
  Calls Tryz.prog 46 #[v] w fun e w' => e = .returned (.int .i64 (filesS l)) ∧ Ext w w' := by
 have hmem := h.mem encFil_ok w
 obtain ⟨A, c, rfl, hlb, hc, r1⟩ := h.rowE encFil_ok
 have HMEM := Lib.hid hmem
 have HR := Lib.hid r1
 have HH := Lib.hid h
 clear hmem r1 h hlb
 by_cases hlen : 1 ≤ l.length ∧ l.length ≤ 10
 ·have HF := Lib.hid (files_ok hlen)
  obtain ⟨hl1, hl2⟩ := hlen
  have t1 : decide ((l.length : Int) < 1) = false := by simp; omega
  have t2 : decide ((10 : Int) < (l.length : Int)) = false := by simp; omega
  have HL := Lib.hid (And.intro hl1 hl2)
  clear hl1 hl2
  go_enter Tryz.func46, Tryz.ntmps46
  go_wp2_with fail
  go_loopw [3, 16] (fun s i wr => ∃ (k : Nat) (all : Int), i = .int .i64 k ∧ s = .int .i64 all ∧ k ≤ l.length ∧ 0 ≤ all ∧ all ≤ 200 * (k : Int) ∧ Ext w wr ∧ filesGo l (l.length - k) k all = filesGo l l.length 0 0) (fun _ i _ => l.length - (intOf i).toNat)
  case atStart => exact ⟨0, 0, rfl, rfl, Nat.zero_le _, by omega, by omega, Ext.refl _, rfl⟩
  case round =>
   obtain ⟨k, all, rfl, rfl, hk, ha0, ha1, hx, heq⟩ := hrel
   have HEQ := Lib.hid heq
   have hl10 : (l.length : Int) ≤ 10 := by have := HL.out.2; omega
   clear heq
   by_cases hlt : k < l.length
   ·obtain ⟨b, o, rfl, g1⟩ := HR.out k hlt
    have q0 := hx.cell (g1 k hlt 0 _ rfl)
    have q1 := hx.cell (g1 k hlt 1 _ rfl)
    simp only [Nat.add_zero] at q0
    have hgd : l.getD k noFil = l[k] := by rw [List.getD_eq_getElem?_getD, List.getElem?_eq_getElem hlt]; rfl
    have hsz := (HMEM.out l[k] (List.getElem_mem hlt)).2
    obtain ⟨X, hX⟩ : ∃ X, X = l[k] := ⟨_, rfl⟩
    rw [← hX] at q0 q1 hgd hsz
    have HGD := Lib.hid hgd
    have HSZ := Lib.hid hsz
    have hsub : l.length - k = (l.length - (k + 1)) + 1 := by omega
    have HSUB := Lib.hid (show filesGo l ((l.length - (k + 1)) + 1) k all = filesGo l l.length 0 0 by rw [← hsub]; exact HEQ.out)
    have hki : (k : Int) < (l.length : Int) := by omega
    have HG1 := Lib.hid g1
    clear g1 hX hgd hsz hsub HEQ
    go_wp2_with fail
    refine calls_abs (fun W => Ext wr W ∧ Blk_ W wr.heap.size 57 #[.string X.name, .string X.data]) ⟨(Ext.refl _).alloc _, Blk_.new _ _ _⟩ ?_
    rintro W1 ⟨hx1, hbx⟩
    refine (name_any X.name W1 HSZ.out.1).mono ?_
    rintro e w2 ⟨rfl, hx2⟩
    have hb2 := hbx.ext hx2
    have e1 := hb2.cell 1
    simp at e1
    have HB2 := Lib.hid hb2
    have HX2 := Lib.hid (hx.trans (hx1.trans hx2))
    have hl2 := hb2.lt
    clear hbx hx1 hx2 hb2 hx q0 q1
    cases hnm : nameMay X.name with
    | false =>
     have HFIN := Lib.hid (show filesS l = 4 by rw [HF.out, ← HSUB.out, fgo_name HGD.out hnm])
     clear hnm
     go_wp2_with fail
     go_ret
     exact ⟨ret_int HFIN.out.symm, HX2.out⟩
    | true =>
     by_cases h200 : 200 < X.data.size
     ·have HFIN := Lib.hid (show filesS l = 1 by rw [HF.out, ← HSUB.out, fgo_size HGD.out hnm h200])
      have t3 : decide ((200 : Int) < (X.data.size : Int)) = true := by simp; omega
      clear hnm h200
      go_wp2_with fail
      go_ret
      exact ⟨ret_int HFIN.out.symm, HX2.out⟩
     ·have t3 : decide ((200 : Int) < (X.data.size : Int)) = false := by simp; omega
      have h200i : (X.data.size : Int) ≤ 200 := by omega
      have HNM := Lib.hid (And.intro hnm h200)
      have hkc : (k : Int) ≤ (c : Int) := by omega
      have hk0 : k ≤ c := by omega
      clear hnm h200
      go_wp2_with fail
      refine (contains_fil (.slice (some ⟨b, o, none⟩) k c) (l.take k) X wr.heap.size w2 ((HH.out.take k hk).ext RFil.stays HX2.out) HB2.out).mono ?_
      rintro e w3 ⟨hx3, rfl⟩
      have b3 := HB2.out.ext hx3
      have e13 := b3.cell 1
      simp at e13
      have HX3 := Lib.hid (HX2.out.trans hx3)
      clear hx3 b3 e1
      cases han : (l.take k).any (sameName X.name) with
      | true =>
       have HFIN := Lib.hid (show filesS l = 7 by rw [HF.out, ← HSUB.out, fgo_twice HGD.out HNM.out.1 HNM.out.2 han])
       clear han
       go_wp2_with fail
       go_ret
       exact ⟨ret_int HFIN.out.symm, HX3.out⟩
      | false =>
       have HNX := Lib.hid (show filesGo l (l.length - (k + 1)) (k + 1) (all + X.data.size) = filesGo l l.length 0 0 by rw [← HSUB.out, fgo_go HGD.out HNM.out.1 HNM.out.2 han])
       clear han
       go_wp2_with fail
       go_roundw
       case rel => exact ⟨k + 1, all + X.data.size, by go_num, by go_num, by omega, by omega, by omega, HX3.out, HNX.out⟩
       case measure => simp [intOf]; omega
   ·obtain rfl : k = l.length := by omega
    have hfin := HEQ.out
    rw [Nat.sub_self] at hfin
    by_cases h600 : 600 < all
    ·have HFIN := Lib.hid (show filesS l = 1 by rw [HF.out, ← hfin]; unfold filesGo; rw [if_pos h600])
     have t4 : decide ((600 : Int) < all) = true := by simpa using h600
     clear h600 hfin
     go_wp2_with fail
     go_ret
     exact ⟨ret_int HFIN.out.symm, hx⟩
    ·have HFIN := Lib.hid (show filesS l = 0 by rw [HF.out, ← hfin]; unfold filesGo; rw [if_neg h600])
     have t4 : decide ((600 : Int) < all) = false := by simpa using h600
     clear h600 hfin
     go_wp2_with fail
     go_ret
     exact ⟨ret_int HFIN.out.symm, hx⟩
 ·have HF := Lib.hid (files_bad hlen)
  have hcs : decide ((l.length : Int) < 1) = true ∨ (decide ((l.length : Int) < 1) = false ∧ decide ((10 : Int) < (l.length : Int)) = true) := by
   simp only [decide_eq_true_eq, decide_eq_false_iff_not]; omega
  clear hlen
  rcases hcs with t1 | ⟨t1, t2⟩
  ·go_enter Tryz.func46, Tryz.ntmps46
   go_wp2_with fail
   go_ret
   exact ⟨ret_int HF.out.symm, Ext.refl _⟩
  ·go_enter Tryz.func46, Tryz.ntmps46
   go_wp2_with fail
   go_ret
   exact ⟨ret_int HF.out.symm, Ext.refl _⟩
theorem alike_go {s : ByteArray} {k i n : Nat} (h1 : n < 131) (h2 : i + n < s.size) (h3 : at_ s (k + n) = at_ s (i + n)) : alikeF s k i n = alikeF s k i (n + 1) := by
 rw [alikeF, if_pos ⟨h1, h2, h3⟩]
theorem alike_stop {s : ByteArray} {k i n : Nat} (h : ¬ (n < 131 ∧ i + n < s.size ∧ at_ s (k + n) = at_ s (i + n))) : alikeF s k i n = n := by
 rw [alikeF, if_neg h]
theorem piece_more {s : ByteArray} {i d best back : Nat} (h : d ≤ 255 ∧ d ≤ i) (h2 : best < alikeF s (i - d) i 0) : pieceF s i d best back = pieceF s i (d + 1) (alikeF s (i - d) i 0) d := by
 rw [pieceF, if_pos h, if_pos h2]
theorem piece_less {s : ByteArray} {i d best back : Nat} (h : d ≤ 255 ∧ d ≤ i) (h2 : ¬ best < alikeF s (i - d) i 0) : pieceF s i d best back = pieceF s i (d + 1) best back := by
 rw [pieceF, if_pos h, if_neg h2]
theorem piece_end {s : ByteArray} {i d best back : Nat} (h : ¬ (d ≤ 255 ∧ d ≤ i)) : pieceF s i d best back = (best, back) := by
 rw [pieceF, if_neg h]
theorem piece_any (s : ByteArray) (i : Nat) (w : World) (hi : i < s.size) (hs : s.size ≤ 600) :
  Calls Tryz.prog 83 #[.string s, .int .i64 i] w fun e w' => e = .returned (.tuple #[.int .i64 (pieceF s i 1 0 0).1, .int .i64 (pieceF s i 1 0 0).2]) ∧ Ext w w' := by
 have hs' : (s.size : Int) ≤ 600 := by omega
 have hii : (i : Int) < 600 := by omega
 go_enter Tryz.func83, Tryz.ntmps83
 go_wp2_with fail
 go_loopw [6, 7, 8] (fun b f k wr => ∃ (d best back : Nat), k = .int .i64 ((i : Int) - (d : Int)) ∧ b = .int .i64 best ∧ f = .int .i64 back ∧ 1 ≤ d ∧ d ≤ 256 ∧ d ≤ i + 1 ∧ best ≤ 131 ∧ back ≤ 256 ∧ Ext w wr ∧ pieceF s i d best back = pieceF s i 1 0 0) (fun _ _ k _ => ((intOf k) + 1).toNat)
 case atStart => exact ⟨1, 0, 0, by go_num, rfl, rfl, by omega, by omega, by omega, by omega, by omega, Ext.refl _, rfl⟩
 case round =>
  obtain ⟨d, best, back, rfl, rfl, rfl, hd1, hd2, hd3, hb1, hb2, hx, heq⟩ := hrel
  have HEQ := Lib.hid heq
  clear heq
  by_cases hc : d ≤ 255 ∧ d ≤ i
  ·have t1 : decide ((0 : Int) ≤ (i : Int) - (d : Int)) = true := by simp; omega
   have hsb : IntKind.i64.wrap ((i : Int) - ((i : Int) - (d : Int))) = (d : Int) := by rw [IntKind.wrap_i64]; omega
   have hsb2 : (i : Int) - ((i : Int) - (d : Int)) = (d : Int) := by omega
   have t2 : decide ((d : Int) ≤ 255) = true := by simp; omega
   obtain ⟨k, hk⟩ : ∃ k : Nat, k = i - d := ⟨_, rfl⟩
   have hki : (i : Int) - (d : Int) = (k : Int) := by omega
   have hklt : k < i := by omega
   have HK := Lib.hid (And.intro hk (And.intro hki hc))
   have hdk : (i : Int) - (k : Int) = (d : Int) := by omega
   have hdkw : IntKind.i64.wrap ((i : Int) - (k : Int)) = (d : Int) := by rw [IntKind.wrap_i64]; omega
   rw [hki] at *
   have t1' : decide ((0 : Int) ≤ (k : Int)) = true := by simp
   have t2' : decide ((i : Int) - (k : Int) ≤ 255) = true := by rw [hdk]; simpa using t2
   have hd255 : d ≤ 255 := hc.1
   have hdi : d ≤ i := hc.2
   clear hsb hsb2 hki hk hc t1
   go_wp2_with fail
   go_loopw [9] (fun n wq => ∃ j : Nat, n = .int .i64 j ∧ j ≤ 131 ∧ Ext wr wq ∧ alikeF s k i j = alikeF s k i 0) (fun n _ => 131 - (intOf n).toNat)
   case atStart => exact ⟨0, rfl, by omega, Ext.refl _, rfl⟩
   case round =>
    obtain ⟨j, rfl, hj, hxq, heqj⟩ := hrel
    have HEJ := Lib.hid heqj
    clear heqj
    by_cases h2 : i + j < s.size
    ·have t3 : decide ((i : Int) + (j : Int) < (s.size : Int)) = true := by simp; omega
     by_cases h1 : j < 131
     ·have t4 : decide ((j : Int) < 131) = true := by simp; omega
      have hi2 : i + j < s.size := h2
      have hk2 : k + j < s.size := by omega
      have hi2' : (i : Int) + (j : Int) < (s.size : Int) := by omega
      have hk2' : (k : Int) + (j : Int) < (s.size : Int) := by omega
      have hkt : ((k : Int) + (j : Int)).toNat = k + j := by omega
      have hit : ((i : Int) + (j : Int)).toNat = i + j := by omega
      have hz1 : (0 : Int) ≤ (k : Int) + (j : Int) := by omega
      have hz2 : (0 : Int) ≤ (i : Int) + (j : Int) := by omega
      by_cases h3 : at_ s (k + j) = at_ s (i + j)
      ·have HGO := Lib.hid (alike_go h1 h2 h3)
       have hb : ((s[k + j].toNat : Int) == (s[i + j].toNat : Int)) = true := by
        rw [at_eq s _ hk2, at_eq s _ hi2] at h3
        rw [h3]; simp
       clear h3 h2
       go_wp2_with fail
       go_quiet (fail)
       go_wp2_with fail
       go_roundw
       case rel => exact ⟨j + 1, by go_num, by omega, hxq.drewN _, by rw [← HGO.out, HEJ.out]⟩
       case measure => simp [intOf]; omega
      ·have HST := Lib.hid (show alikeF s k i j = j from alike_stop (fun h => h3 h.2.2))
       have hb : ((s[k + j].toNat : Int) == (s[i + j].toNat : Int)) = false := by
        rw [at_eq s _ hk2, at_eq s _ hi2] at h3
        have : ¬ (s[k + j].toNat : Int) = (s[i + j].toNat : Int) := fun e => h3 (UInt8.toNat_inj.1 (by omega))
        simpa using this
       clear h3 h2
       have HAL := Lib.hid (show alikeF s k i 0 = j by rw [← HEJ.out, HST.out])
       by_cases hbt : best < j
       ·have HNX := Lib.hid (show pieceF s i (d + 1) j d = pieceF s i 1 0 0 by rw [← HEQ.out, piece_more HK.out.2.2 (by rw [← HK.out.1, HAL.out]; exact hbt), ← HK.out.1, HAL.out])
        go_wp2_with fail
        go_quiet (fail)
        go_wp2_with fail
        go_roundw
        case rel => exact ⟨d + 1, j, d, by have := HK.out.2.1; go_num, rfl, by first | rfl | go_num, by omega, by omega, by omega, by omega, by omega, (hx.trans hxq).drewN _, HNX.out⟩
        case measure => (simp [intOf]; try omega)
       ·have HNX := Lib.hid (show pieceF s i (d + 1) best back = pieceF s i 1 0 0 by rw [← HEQ.out, piece_less HK.out.2.2 (by rw [← HK.out.1, HAL.out]; exact hbt)])
        go_wp2_with fail
        go_quiet (fail)
        go_wp2_with fail
        go_roundw
        case rel => exact ⟨d + 1, best, back, by have := HK.out.2.1; go_num, rfl, rfl, by omega, by omega, by omega, by omega, by omega, (hx.trans hxq).drewN _, HNX.out⟩
        case measure => (simp [intOf]; try omega)
     ·have HST := Lib.hid (show alikeF s k i j = j from alike_stop (fun h => h1 h.1))
      have t4 : decide ((j : Int) < 131) = false := by simp; omega
      clear h1 h2
      have HAL := Lib.hid (show alikeF s k i 0 = j by rw [← HEJ.out, HST.out])
      by_cases hbt : best < j
      ·have HNX := Lib.hid (show pieceF s i (d + 1) j d = pieceF s i 1 0 0 by rw [← HEQ.out, piece_more HK.out.2.2 (by rw [← HK.out.1, HAL.out]; exact hbt), ← HK.out.1, HAL.out])
       go_wp2_with fail
       go_quiet (fail)
       go_wp2_with fail
       go_roundw
       case rel => exact ⟨d + 1, j, d, by have := HK.out.2.1; go_num, rfl, by first | rfl | go_num, by omega, by omega, by omega, by omega, by omega, (hx.trans hxq).drewN _, HNX.out⟩
       case measure => (simp [intOf]; try omega)
      ·have HNX := Lib.hid (show pieceF s i (d + 1) best back = pieceF s i 1 0 0 by rw [← HEQ.out, piece_less HK.out.2.2 (by rw [← HK.out.1, HAL.out]; exact hbt)])
       go_wp2_with fail
       go_quiet (fail)
       go_wp2_with fail
       go_roundw
       case rel => exact ⟨d + 1, best, back, by have := HK.out.2.1; go_num, rfl, rfl, by omega, by omega, by omega, by omega, by omega, (hx.trans hxq).drewN _, HNX.out⟩
       case measure => (simp [intOf]; try omega)
    ·have HST := Lib.hid (show alikeF s k i j = j from alike_stop (fun h => h2 h.2.1))
     have t3 : decide ((i : Int) + (j : Int) < (s.size : Int)) = false := by simp; omega
     clear h2
     have HAL := Lib.hid (show alikeF s k i 0 = j by rw [← HEJ.out, HST.out])
     by_cases hbt : best < j
     ·have HNX := Lib.hid (show pieceF s i (d + 1) j d = pieceF s i 1 0 0 by rw [← HEQ.out, piece_more HK.out.2.2 (by rw [← HK.out.1, HAL.out]; exact hbt), ← HK.out.1, HAL.out])
      go_wp2_with fail
      go_quiet (fail)
      go_wp2_with fail
      go_roundw
      case rel => exact ⟨d + 1, j, d, by have := HK.out.2.1; go_num, rfl, by first | rfl | go_num, by omega, by omega, by omega, by omega, by omega, (hx.trans hxq).drewN _, HNX.out⟩
      case measure => (simp [intOf]; try omega)
     ·have HNX := Lib.hid (show pieceF s i (d + 1) best back = pieceF s i 1 0 0 by rw [← HEQ.out, piece_less HK.out.2.2 (by rw [← HK.out.1, HAL.out]; exact hbt)])
      go_wp2_with fail
      go_quiet (fail)
      go_wp2_with fail
      go_roundw
      case rel => exact ⟨d + 1, best, back, by have := HK.out.2.1; go_num, rfl, rfl, by omega, by omega, by omega, by omega, by omega, (hx.trans hxq).drewN _, HNX.out⟩
      case measure => (simp [intOf]; try omega)
  ·have HPE := Lib.hid (show (best, back) = pieceF s i 1 0 0 by rw [← HEQ.out, piece_end hc])
   have hcs : ¬ d ≤ i ∨ (d ≤ i ∧ ¬ d ≤ 255) := by omega
   have hsb : IntKind.i64.wrap ((i : Int) - ((i : Int) - (d : Int))) = (d : Int) := by rw [IntKind.wrap_i64]; omega
   clear hc HEQ
   rcases hcs with hA | ⟨hA, hB⟩
   ·have t1 : decide ((0 : Int) ≤ (i : Int) - (d : Int)) = false := by simp; omega
    go_wp2_with fail
    go_ret2
    rw [← HPE.out]
    exact ⟨rfl, hx⟩
   ·have t1 : decide ((0 : Int) ≤ (i : Int) - (d : Int)) = true := by simp; omega
    have hB' : ¬ (d : Int) ≤ 255 := by omega
    go_wp2_with fail
    go_ret2
    rw [← HPE.out]
    exact ⟨rfl, hx⟩
end Go.Proofs.YtgjijcgkmofaaaaGreatDoor
