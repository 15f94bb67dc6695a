/-
  stream.Write and the document's StreamWritten: bytes over sectors, one behind the other; the law StreamWrites. Conditions: the argument reads as an array.
-/
import Derived.Test.YtokpjgpdkmimgaaDoorWLawArrW
import Derived.Test.YtokpjgpdkmimgaaDoorWStream
import Derived.Test.YtokpjgpdkmimgaaDoorJ12
namespace Go.Proofs.YtokpjgpdkmimgaaDoor
set_option linter.unusedSimpArgs false
set_option linter.unusedVariables false
open Go.RowKit

theorem OArr.len_eq {E : TypeId} {w : World} {base : Nat} {A : Option Addr} {n c : Nat} {a : List Dev} (h : OArr E w base (.slice A n c) a) : n = a.length := by
  obtain ⟨vs, _, ho, _⟩ := h
  rcases ho.2 with ⟨hv, h0⟩ | ⟨g, cap, cur, hv, _⟩
  · injection hv with h1 h2 h3; omega
  · injection hv

set_option maxRecDepth 100000 in
set_option maxHeartbeats 4000000 in
theorem streamWrite_any (cs : List Value) (a : List Dev) (first : Int) (s : ByteArray) (w : World) (h : RArr w cs a) (hf : I64 first) (hs : s.size ≤ 140737488355328) :
    Calls Tryd.prog 43 #[.agg cs.toArray, .int .i64 first, .string s] w fun e w' => ∃ A c, e = .returned (.tuple #[.agg #[.slice A (streamWriteS a first s).1.length c], .int .i64 (streamWriteS a first s).2]) ∧ Ext w w' ∧ OArr 117 w' w.heap.size (.slice A (streamWriteS a first s).1.length c) (streamWriteS a first s).1 := by
  obtain ⟨A, c, rfl⟩ := h.form
  go_enter Tryd.func43, Tryd.ntmps43
  go_wp2_with fail
  refine calls_abs (fun W => Ext w W ∧ Blk_ W w.heap.size 40 #[.slice A a.length c] ∧ Blk_ W (w.heap.size + 1) 40 #[.slice none 0 0]) ⟨((Ext.refl _).alloc _).alloc _, (Blk_.new _ _ _).alloc _, Blk_.new1 _ _ _ _⟩ ?_
  rintro W ⟨hx, hb, hr⟩
  refine (streamIn_any [.slice A a.length c] a first s.size W (h.up hx) hf ⟨by omega, by omega⟩).mono ?_
  rintro e w1 ⟨rfl, hx1⟩
  have hb1 := hb.ext hx1
  have hr1 := hr.ext hx1
  have hxw := hx.trans hx1
  have ha1 := h.up hxw
  have f0 := hb1.cell 0
  simp at f0
  clear h hb hr hx hx1
  by_cases ht : streamFaultS a first s.size = 0
  · have HF := Lib.hid (sw_good ht)
    obtain ⟨hm, n0, n1, q0, q1⟩ := fault_zero ht
    have hg := Good.of hm
    have hp := arr_parts hm
    obtain ⟨mm, hmm⟩ : ∃ mm, mm = (dv a 0).sec.length := ⟨_, rfl⟩
    rw [← hmm] at q1 hg
    have HG := Lib.hid hg
    have HP := Lib.hid (show 16 ≤ mm ∧ mm ≤ 64 ∧ mm % 2 = 0 by rw [hmm]; exact ⟨hp.2.2.2.2.1, hp.2.2.2.2.2.1, hp.2.2.2.2.2.2.1⟩)
    have HFM := Lib.hid (And.intro q0 (And.intro q1 (show s.size ≤ 1536 by omega)))
    have H3 := Lib.hid hg.len
    rw [ht]
    clear ht hm hp hmm hg q1 n0 n1
    go_wp2_with fail
    refine (arrCopy_any [.slice A a.length c] a w1 ha1).mono ?_
    rintro e w2 ⟨A', c', rfl, hx2, ho⟩
    have e33 : (Value.agg #[.slice A' a.length c']) = .agg #[.slice A' 3 c'] := by rw [H3.out]
    rw [H3.out] at ho
    rw [e33]
    clear e33
    have hr2 := hr1.ext hx2
    have hx2w := hxw.trans hx2
    have hlr := hr1.lt
    have hlr2 := hr2.lt
    have HSW := Lib.hid (And.intro hlr (show w1.heap.size ≤ w2.heap.size from hx2.size))
    clear ha1 hb1 hr1 hxw hx2 f0
    go_wp2_with fail
    refine wp_abs (fun W => Ext w W ∧ Blk_ W (w.heap.size + 1) 40 #[.slice none 0 0] ∧ Blk_ W w2.heap.size 40 #[.slice A' 3 c'] ∧ OArr 117 W w1.heap.size (.slice A' 3 c') a) ⟨hx2w.alloc _, hr2.alloc _, Blk_.new _ _ _, ho.ext ((Ext.refl _).alloc _)⟩ ?_
    rintro W ⟨hx, hr, hb, ho⟩
    clear hx2w hr2
    have hw2l : w.heap.size + 1 < w2.heap.size := by have := HSW.out; omega
    have hw1l : w.heap.size + 2 ≤ w1.heap.size := by have := HSW.out; omega
    go_loopw [10] (fun i wr => ∃ (k : Nat) (B : Option Addr) (d : Nat) (ak : List Dev) (base : Nat), i = .int .i64 ((24 * k : Nat) : Int) ∧ k ≤ (s.size + 23) / 24 ∧ Ext w wr ∧ Blk_ wr (w.heap.size + 1) 40 #[.slice none 0 0] ∧ Blk_ wr w2.heap.size 40 #[.slice B 3 d] ∧ OArr 117 wr base (.slice B 3 d) ak ∧ w.heap.size + 2 ≤ base ∧ Good ak mm ∧
      streamWriteLoop ((s.size + 23) / 24 - k) k ak first s = streamWriteLoop ((s.size + 23) / 24) 0 a first s) (fun i _ => s.size + 24 - (intOf i).toNat)
    case atStart => exact ⟨0, A', c', a, w1.heap.size, rfl, Nat.zero_le _, hx, hr, hb, ho, hw1l, HG.out, rfl⟩
    case round =>
      clear hx hr hb ho
      obtain ⟨k, B, d, ak, base, rfl, hk, hx, hr, hb, ho, hbase, hgk, heq⟩ := hrel
      have q0 := hb.cell 0
      simp at q0
      have HEQ := Lib.hid heq
      have HGK := Lib.hid hgk
      have hfm := HFM.out
      have hmm64 := HP.out.2.1
      by_cases hlt : k < (s.size + 23) / 24
      · have h24 : 24 * k < s.size := by omega
        have hkm : first + (k : Int) < mm := by omega
        have hst := write_step hgk HP.out.1 HP.out.2.1 HP.out.2.2 (n := first + (k : Int)) (s := chunk s k) (by omega) hkm (chunk_size s k)
        have hsub : (s.size + 23) / 24 - k = ((s.size + 23) / 24 - (k + 1)) + 1 := by omega
        have hnx : streamWriteLoop ((s.size + 23) / 24 - (k + 1)) (k + 1) (arrWrite3 ak (first + (k : Int)) (chunk s k)) first s = streamWriteLoop ((s.size + 23) / 24) 0 a first s := by
          rw [← HEQ.out, hsub, swl_succ, hst.1]
        have HST := Lib.hid hst
        have HNX := Lib.hid hnx
        have HCH := Lib.hid (chunk_size s k)
        have hl3 : (arrWrite3 ak (first + (k : Int)) (chunk s k)).length = 3 := hst.2.len
        have HL3 := Lib.hid hl3
        have HRA := Lib.hid (show RArr wr [.slice B 3 d] ak from ho.rarr (by rw [hgk.len]; decide))
        have hk64 : (k : Int) < 64 := by omega
        have hf64 : first < 64 := by omega
        have hsz : (s.size : Int) ≤ 1536 := by omega
        have h24i : (24 : Int) * (k : Int) < (s.size : Int) := by omega
        have h24n : ((24 * k : Nat) : Int) < (s.size : Int) := by omega
        have h24b : (24 : Int) * (k : Int) ≤ 1536 := by omega
        have hfirst : 0 ≤ first := hfm.1
        have hk5 : k ≤ 63 := by omega
        have HX := Lib.hid hx
        have HR := Lib.hid hr
        have HB := Lib.hid hb
        have hlb := hb.lt
        clear hst hnx hl3 heq hgk hx hr hb ho hsub hfm hk hlt hkm
        have hcs : decide ((s.size : Int) < (24 : Int) * (k : Int) + 24) = true ∨ decide ((s.size : Int) < (24 : Int) * (k : Int) + 24) = false := by
          cases decide ((s.size : Int) < (24 : Int) * (k : Int) + 24) <;> simp
        have hch : chunk s k = s.extract (24 * k) (min (24 * k + 24) s.size) := rfl
        have HCE := Lib.hid hch
        clear hch
        rcases hcs with hm1 | hm1
        · have hmi : (s.size : Int) < (24 : Int) * (k : Int) + 24 := by simpa using hm1
          have hmn : min (24 * k + 24) s.size = s.size := by omega
          have hmn2 : min s.size (24 * k + 24) = s.size := by omega
          have hmx : min (s.size : Int) ((24 : Int) * (k : Int) + 24) = (s.size : Int) := by omega
          have hce : s.extract (24 * k) s.size = chunk s k := by rw [HCE.out, hmn]
          have hbd : (24 : Int) * (k : Int) ≤ (s.size : Int) := by omega
          have hbd2 : 24 * k ≤ s.size := by omega
          have HCX := Lib.hid hce
          clear hce
          have hw24 : IntKind.i64.wrap ((24 : Int) * (k : Int) + 24) = (24 : Int) * (k : Int) + 24 := by rw [IntKind.wrap_i64]; omega
          have htn1 : ((24 : Int) * (k : Int)).toNat = 24 * k := by omega
          have htn2 : ((24 : Int) * (k : Int) + 24).toNat = 24 * k + 24 := by omega
          have hz0 : (0 : Int) ≤ (24 : Int) * (k : Int) := by omega
          have hz1 : (0 : Int) ≤ (24 : Int) * (k : Int) + 24 := by omega
          go_wp2_with fail
          refine wp_region_all (S := fun W' => W'.cell? ⟨w2.heap.size, 0, none⟩ = some (.slice B 3 d)) (by kernel_rfl) ?_
          have hS0 : (fun W' => W'.cell? ⟨w2.heap.size, 0, none⟩ = some (.slice B 3 d)) wr.drew := q0
          refine wpAnyH_takeL (i := 0) (v := ?_) rfl (by kernel_rfl) (fun _ _ _ h => h) rfl ?_ hS0 ?_
          rotate_left
          · intro w' hS
            try dsimp only at hS
            go_simp
            rfl
          try simp only [Act.put, List.setIfInBounds_toArray, List.set_cons_zero, List.set_cons_succ]
          refine wpAnyH_takeL (i := 1) (v := ?_) rfl (by kernel_rfl) (fun _ _ _ h => h) rfl ?_ hS0 ?_
          rotate_left
          · intro w' hS
            try dsimp only at hS
            go_simp
            rfl
          try simp only [Act.put, List.setIfInBounds_toArray, List.set_cons_zero, List.set_cons_succ]
          refine wpAnyH_takeL (i := 2) (v := ?_) rfl (by kernel_rfl) (fun _ _ _ h => h) rfl ?_ hS0 ?_
          rotate_left
          · intro w' hS
            try dsimp only at hS
            go_simp
            rfl
          try simp only [Act.put, List.setIfInBounds_toArray, List.set_cons_zero, List.set_cons_succ]
          refine wpAnyH_takeL (i := 3) (v := ?_) rfl (by kernel_rfl) (fun _ _ _ h => h) rfl ?_ hS0 ?_
          rotate_left
          · intro w' hS
            try dsimp only at hS
            go_simp
            rfl
          try simp only [Act.put, List.setIfInBounds_toArray, List.set_cons_zero, List.set_cons_succ]
          refine wpAnyH_takeL (i := 4) (v := ?_) rfl (by kernel_rfl) (fun _ _ _ h => h) rfl ?_ hS0 ?_
          rotate_left
          · intro w' hS
            try dsimp only at hS
            go_simp
            rfl
          try simp only [Act.put, List.setIfInBounds_toArray, List.set_cons_zero, List.set_cons_succ]
          refine wpAnyH_takeL (i := 5) (v := ?_) rfl (by kernel_rfl) (fun _ _ _ h => h) rfl ?_ hS0 ?_
          rotate_left
          · intro w' hS
            try dsimp only at hS
            go_simp
            rfl
          try simp only [Act.put, List.setIfInBounds_toArray, List.set_cons_zero, List.set_cons_succ]
          refine wpAnyH_takeL (i := 6) (v := ?_) rfl (by kernel_rfl) (fun _ _ _ h => h) rfl ?_ hS0 ?_
          rotate_left
          · intro w' hS
            try dsimp only at hS
            go_simp
            rfl
          try simp only [Act.put, List.setIfInBounds_toArray, List.set_cons_zero, List.set_cons_succ]
          refine wpAnyH_takeL (i := 7) (v := ?_) rfl (by kernel_rfl) (fun _ _ _ h => h) rfl ?_ hS0 ?_
          rotate_left
          · intro w' hS
            try dsimp only at hS
            go_simp
            rfl
          try simp only [Act.put, List.setIfInBounds_toArray, List.set_cons_zero, List.set_cons_succ]
          refine wpAnyH_takeL (i := 8) (v := ?_) rfl (by kernel_rfl) (fun _ _ _ h => h) rfl ?_ hS0 ?_
          rotate_left
          · intro w' hS
            try dsimp only at hS
            go_simp
            rfl
          try simp only [Act.put, List.setIfInBounds_toArray, List.set_cons_zero, List.set_cons_succ]
          refine wpAnyH_takeL (i := 9) (v := ?_) rfl (by kernel_rfl) (fun _ _ _ h => h) rfl ?_ hS0 ?_
          rotate_left
          · intro w' hS
            try dsimp only at hS
            go_simp
            rfl
          try simp only [Act.put, List.setIfInBounds_toArray, List.set_cons_zero, List.set_cons_succ]
          refine wpAnyH_takeL (i := 10) (v := ?_) rfl (by kernel_rfl) (fun _ _ _ h => h) rfl ?_ hS0 ?_
          rotate_left
          · intro w' hS
            try dsimp only at hS
            go_simp
            rfl
          try simp only [Act.put, List.setIfInBounds_toArray, List.set_cons_zero, List.set_cons_succ]
          refine wpAnyH_takeL (i := 11) (v := ?_) rfl (by kernel_rfl) (fun _ _ _ h => h) rfl ?_ hS0 ?_
          rotate_left
          · intro w' hS
            try dsimp only at hS
            go_simp
            rfl
          try simp only [Act.put, List.setIfInBounds_toArray, List.set_cons_zero, List.set_cons_succ]
          refine wpAnyH_takeL (i := 12) (v := ?_) rfl (by kernel_rfl) (fun _ _ _ h => h) rfl ?_ hS0 ?_
          rotate_left
          · intro w' hS
            try dsimp only at hS
            go_simp
            rfl
          try simp only [Act.put, List.setIfInBounds_toArray, List.set_cons_zero, List.set_cons_succ]
          rw [HCX.out]
          refine wpAnyH_twoL (i := 13) (j := 17) rfl rfl (by kernel_rfl) rfl rfl (fun K hK => ?_) (fun K hK => ?_)
          · go_wp2_with fail
            refine (arrWrite_any [.slice B 3 d] ak (first + (k : Int)) (chunk s k) _ (HRA.out.up (Ext.refl _).drew) ⟨by omega, by omega⟩ (by have := HCH.out; omega)).mono ?_
            rintro e w4 ⟨X, x, rfl, hx4, hX⟩
            have HW4 := Lib.hid (show w2.heap.size < (wr.drew).heap.size by simp; omega)
            rw [HST.out.1] at hX ⊢
            have hX' : OArr 117 w4 (wr.drew).heap.size (.slice X 3 x) (arrWrite3 ak (first + (k : Int)) (chunk s k)) := by
              have h := hX
              simp only [HL3.out] at h
              exact h
            rw [show (Value.agg #[.slice X ((arrWrite3 ak (first + (k : Int)) (chunk s k), (0 : Int)).1).length x]) = .agg #[.slice X 3 x] by simp only [HL3.out]]
            have e4 : Ext wr w4 := (Ext.refl wr).drew.trans hx4
            have hS4 : (fun W' => W'.cell? ⟨w2.heap.size, 0, none⟩ = some (.slice B 3 d)) w4 := e4.cell q0
            refine hK _ _ hS4 ?_
            clear hK K
            try simp only [Act.put, List.setIfInBounds_toArray, List.set_cons_zero, List.set_cons_succ]
            refine wpAnyH_takeL (i := 14) (v := ?_) rfl (by kernel_rfl) (fun _ _ _ h => h) rfl ?_ hS4 ?_
            rotate_left
            · intro w' hS
              try dsimp only at hS
              go_simp
              rfl
            try simp only [Act.put, List.setIfInBounds_toArray, List.set_cons_zero, List.set_cons_succ]
            refine wpAnyH_takeL (i := 15) (v := ?_) rfl (by kernel_rfl) (fun _ _ _ h => h) rfl ?_ hS4 ?_
            rotate_left
            · intro w' hS
              try dsimp only at hS
              go_simp
              rfl
            try simp only [Act.put, List.setIfInBounds_toArray, List.set_cons_zero, List.set_cons_succ]
            refine wpAnyH_takeL (i := 16) (v := ?_) rfl (by kernel_rfl) (fun _ _ _ h => h) rfl ?_ hS4 ?_
            rotate_left
            · intro w' hS
              try dsimp only at hS
              go_simp
              rfl
            try simp only [Act.put, List.setIfInBounds_toArray, List.set_cons_zero, List.set_cons_succ]
            refine wpAnyH_oneL (i := 17) rfl (by kernel_rfl) rfl (fun K hK => ?_)
            go_wp2_with fail
            have hS5 : (fun W' => W'.cell? ⟨w2.heap.size, 0, none⟩ = some (.slice B 3 d)) (w4.alloc (.cells #[.slice none 0 0] 40)) := (e4.alloc _).cell q0
            refine hK _ _ hS5 ?_
            clear hK K
            try simp only [Act.put, List.setIfInBounds_toArray, List.set_cons_zero, List.set_cons_succ]
            refine wpAnyH_oneL (i := 18) rfl (by kernel_rfl) rfl (fun K hK => ?_)
            go_wp2_with fail
            have hS6 : (fun W' => W'.cell? ⟨w2.heap.size, 0, none⟩ = some (.slice B 3 d)) (w4.alloc (.cells #[.slice X 3 x] 40)) := (e4.alloc _).cell q0
            refine hK _ _ hS6 ?_
            clear hK K
            try simp only [Act.put, List.setIfInBounds_toArray, List.set_cons_zero, List.set_cons_succ]
            refine wpAnyH_takeL (i := 19) (v := ?_) rfl (by kernel_rfl) (fun _ _ _ h => h) rfl ?_ hS6 ?_
            rotate_left
            · intro w' hS
              try dsimp only at hS
              go_simp
              rfl
            try simp only [Act.put, List.setIfInBounds_toArray, List.set_cons_zero, List.set_cons_succ]
            refine wpAnyH_done (by kernel_rfl) ?_ _
            have b4 := HB.out.ext e4
            have c4 := b4.cell 0
            have z4 := b4.frozen 0
            simp at c4
            have hl4 := b4.lt
            have ne4 : ¬ (w2.heap.size = w4.heap.size) := by omega
            have ne5 : ¬ (w4.heap.size = w2.heap.size) := by omega
            have HFB := Lib.hid (And.intro b4 (And.intro (HR.out.ext e4) (And.intro (HX.out.trans e4) hX')))
            clear b4 hX hX' hx4 hS4 hS5 hS6 hS0
            go_wp2_with fail
            go_roundw
            case rel =>
              refine ⟨k + 1, X, x, arrWrite3 ak (first + (k : Int)) (chunk s k), wr.drew.heap.size, by go_num, by omega, (HFB.out.2.2.1.setCell (p := ⟨w2.heap.size, 0, none⟩) (by simp; omega) _).alloc _, (HFB.out.2.1.far (p := ⟨w2.heap.size, 0, none⟩) (by simp; omega) _).alloc _, (HFB.out.1.set 0 _).alloc _, (HFB.out.2.2.2.far (p := ⟨w2.heap.size, 0, none⟩) HW4.out _).ext ((Ext.refl _).alloc _), by have := HW4.out; omega, HST.out.2, HNX.out⟩
            case measure => simp [intOf]; omega
          · go_wp2_with fail
            have e3 : Ext wr (wr.drew.alloc (.cells #[.slice none 0 0] 40)) := (Ext.refl wr).drew.alloc _
            have hS3 : (fun W' => W'.cell? ⟨w2.heap.size, 0, none⟩ = some (.slice B 3 d)) (wr.drew.alloc (.cells #[.slice none 0 0] 40)) := e3.cell q0
            refine hK _ _ hS3 ?_
            clear hK K
            try simp only [Act.put, List.setIfInBounds_toArray, List.set_cons_zero, List.set_cons_succ]
            refine anyH_abs (fun W => Ext wr W ∧ Blk_ W wr.heap.size 40 #[.slice none 0 0]) ⟨by first | exact e3 | exact (Ext.refl wr).alloc _ | exact ((Ext.refl wr).alloc _).drew, by first | exact Blk_.new _ _ _ | exact (Blk_.new _ _ _).drew⟩ ?_
            rintro W5 ⟨e5, b5⟩
            refine wpAnyH_oneL (i := 13) rfl (by kernel_rfl) rfl (fun K hK => ?_)
            go_wp2_with fail
            refine (arrWrite_any [.slice B 3 d] ak (first + (k : Int)) (chunk s k) _ (HRA.out.up e5) ⟨by omega, by omega⟩ (by have := HCH.out; omega)).mono ?_
            rintro e w4 ⟨X, x, rfl, hx4, hX⟩
            have HW4 := Lib.hid (show w2.heap.size < (W5).heap.size by have := e5.size; omega)
            rw [HST.out.1] at hX ⊢
            have hX' : OArr 117 w4 (W5).heap.size (.slice X 3 x) (arrWrite3 ak (first + (k : Int)) (chunk s k)) := by
              have h := hX
              simp only [HL3.out] at h
              exact h
            rw [show (Value.agg #[.slice X ((arrWrite3 ak (first + (k : Int)) (chunk s k), (0 : Int)).1).length x]) = .agg #[.slice X 3 x] by simp only [HL3.out]]
            have e4 : Ext wr w4 := e5.trans hx4
            have hS4 : (fun W' => W'.cell? ⟨w2.heap.size, 0, none⟩ = some (.slice B 3 d)) w4 := e4.cell q0
            refine hK _ _ hS4 ?_
            clear hK K
            try simp only [Act.put, List.setIfInBounds_toArray, List.set_cons_zero, List.set_cons_succ]
            refine wpAnyH_takeL (i := 14) (v := ?_) rfl (by kernel_rfl) (fun _ _ _ h => h) rfl ?_ hS4 ?_
            rotate_left
            · intro w' hS
              try dsimp only at hS
              go_simp
              rfl
            try simp only [Act.put, List.setIfInBounds_toArray, List.set_cons_zero, List.set_cons_succ]
            refine wpAnyH_takeL (i := 15) (v := ?_) rfl (by kernel_rfl) (fun _ _ _ h => h) rfl ?_ hS4 ?_
            rotate_left
            · intro w' hS
              try dsimp only at hS
              go_simp
              rfl
            try simp only [Act.put, List.setIfInBounds_toArray, List.set_cons_zero, List.set_cons_succ]
            refine wpAnyH_takeL (i := 16) (v := ?_) rfl (by kernel_rfl) (fun _ _ _ h => h) rfl ?_ hS4 ?_
            rotate_left
            · intro w' hS
              try dsimp only at hS
              go_simp
              rfl
            try simp only [Act.put, List.setIfInBounds_toArray, List.set_cons_zero, List.set_cons_succ]
            refine wpAnyH_oneL (i := 18) rfl (by kernel_rfl) rfl (fun K hK => ?_)
            have b54 := b5.ext hx4
            have c54 := b54.cell 0
            have z54 := b54.frozen 0
            simp at c54
            have hbw5 := b5.lt
            have hl54 := b54.lt
            have b4 := HB.out.ext e4
            have c4 := b4.cell 0
            have z4 := b4.frozen 0
            simp at c4
            have hl4 := b4.lt
            have ne4 : ¬ (w2.heap.size = wr.heap.size) := by omega
            have ne5 : ¬ (wr.heap.size = w2.heap.size) := by omega
            have hS6 : (fun W' => W'.cell? ⟨w2.heap.size, 0, none⟩ = some (.slice B 3 d)) (w4.setCell ⟨wr.heap.size, 0, none⟩ (.slice X 3 x)) := by
              show (w4.setCell ⟨wr.heap.size, 0, none⟩ (.slice X 3 x)).cell? _ = _
              rw [World.cell?_setCell_other _ _ _ _ (by simp [ne4, ne5])]
              exact hS4
            go_wp2_with fail
            refine hK _ _ hS6 ?_
            clear hK K
            try simp only [Act.put, List.setIfInBounds_toArray, List.set_cons_zero, List.set_cons_succ]
            refine wpAnyH_takeL (i := 19) (v := ?_) rfl (by kernel_rfl) (fun _ _ _ h => h) rfl ?_ hS6 ?_
            rotate_left
            · intro w' hS
              try dsimp only at hS
              go_simp
              rfl
            try simp only [Act.put, List.setIfInBounds_toArray, List.set_cons_zero, List.set_cons_succ]
            refine wpAnyH_done (by kernel_rfl) ?_ _
            have HFB := Lib.hid (And.intro b4 (And.intro (HR.out.ext e4) (And.intro (HX.out.trans e4) hX')))
            have hxs := HX.out.size
            have HBW := Lib.hid hbw5
            clear b4 hX hX' hx4 hS4 hS6 hS0 hS3 b5 b54
            go_wp2_with fail
            go_roundw
            case rel =>
              have hw5 := HBW.out
              refine ⟨k + 1, X, x, arrWrite3 ak (first + (k : Int)) (chunk s k), W5.heap.size, by go_num, by omega, (HFB.out.2.2.1.setCell (p := ⟨wr.heap.size, 0, none⟩) hxs _).setCell (p := ⟨w2.heap.size, 0, none⟩) (by simp; omega) _, (HFB.out.2.1.far (p := ⟨wr.heap.size, 0, none⟩) (by simp; omega) _).far (p := ⟨w2.heap.size, 0, none⟩) (by simp; omega) _, (HFB.out.1.far (p := ⟨wr.heap.size, 0, none⟩) (by simp; omega) _).set 0 _, (HFB.out.2.2.2.far (p := ⟨wr.heap.size, 0, none⟩) hw5 _).far (p := ⟨w2.heap.size, 0, none⟩) HW4.out _, by omega, HST.out.2, HNX.out⟩
            case measure => simp [intOf]; omega
        · have hmi : (24 : Int) * (k : Int) + 24 ≤ (s.size : Int) := by simpa using hm1
          have hmn : min (24 * k + 24) s.size = 24 * k + 24 := by omega
          have hmn2 : min s.size (24 * k + 24) = 24 * k + 24 := by omega
          have hmx : min (s.size : Int) ((24 : Int) * (k : Int) + 24) = (24 : Int) * (k : Int) + 24 := by omega
          have hce : s.extract (24 * k) (24 * k + 24) = chunk s k := by rw [HCE.out, hmn]
          have hbd : (24 : Int) * (k : Int) ≤ (24 : Int) * (k : Int) + 24 := by omega
          have hbd2 : 24 * k + 24 ≤ s.size := by omega
          have HCX := Lib.hid hce
          clear hce
          have hw24 : IntKind.i64.wrap ((24 : Int) * (k : Int) + 24) = (24 : Int) * (k : Int) + 24 := by rw [IntKind.wrap_i64]; omega
          have htn1 : ((24 : Int) * (k : Int)).toNat = 24 * k := by omega
          have htn2 : ((24 : Int) * (k : Int) + 24).toNat = 24 * k + 24 := by omega
          have hz0 : (0 : Int) ≤ (24 : Int) * (k : Int) := by omega
          have hz1 : (0 : Int) ≤ (24 : Int) * (k : Int) + 24 := by omega
          go_wp2_with fail
          refine wp_region_all (S := fun W' => W'.cell? ⟨w2.heap.size, 0, none⟩ = some (.slice B 3 d)) (by kernel_rfl) ?_
          have hS0 : (fun W' => W'.cell? ⟨w2.heap.size, 0, none⟩ = some (.slice B 3 d)) wr.drew := q0
          refine wpAnyH_takeL (i := 0) (v := ?_) rfl (by kernel_rfl) (fun _ _ _ h => h) rfl ?_ hS0 ?_
          rotate_left
          · intro w' hS
            try dsimp only at hS
            go_simp
            rfl
          try simp only [Act.put, List.setIfInBounds_toArray, List.set_cons_zero, List.set_cons_succ]
          refine wpAnyH_takeL (i := 1) (v := ?_) rfl (by kernel_rfl) (fun _ _ _ h => h) rfl ?_ hS0 ?_
          rotate_left
          · intro w' hS
            try dsimp only at hS
            go_simp
            rfl
          try simp only [Act.put, List.setIfInBounds_toArray, List.set_cons_zero, List.set_cons_succ]
          refine wpAnyH_takeL (i := 2) (v := ?_) rfl (by kernel_rfl) (fun _ _ _ h => h) rfl ?_ hS0 ?_
          rotate_left
          · intro w' hS
            try dsimp only at hS
            go_simp
            rfl
          try simp only [Act.put, List.setIfInBounds_toArray, List.set_cons_zero, List.set_cons_succ]
          refine wpAnyH_takeL (i := 3) (v := ?_) rfl (by kernel_rfl) (fun _ _ _ h => h) rfl ?_ hS0 ?_
          rotate_left
          · intro w' hS
            try dsimp only at hS
            go_simp
            rfl
          try simp only [Act.put, List.setIfInBounds_toArray, List.set_cons_zero, List.set_cons_succ]
          refine wpAnyH_takeL (i := 4) (v := ?_) rfl (by kernel_rfl) (fun _ _ _ h => h) rfl ?_ hS0 ?_
          rotate_left
          · intro w' hS
            try dsimp only at hS
            go_simp
            rfl
          try simp only [Act.put, List.setIfInBounds_toArray, List.set_cons_zero, List.set_cons_succ]
          refine wpAnyH_takeL (i := 5) (v := ?_) rfl (by kernel_rfl) (fun _ _ _ h => h) rfl ?_ hS0 ?_
          rotate_left
          · intro w' hS
            try dsimp only at hS
            go_simp
            rfl
          try simp only [Act.put, List.setIfInBounds_toArray, List.set_cons_zero, List.set_cons_succ]
          refine wpAnyH_takeL (i := 6) (v := ?_) rfl (by kernel_rfl) (fun _ _ _ h => h) rfl ?_ hS0 ?_
          rotate_left
          · intro w' hS
            try dsimp only at hS
            go_simp
            rfl
          try simp only [Act.put, List.setIfInBounds_toArray, List.set_cons_zero, List.set_cons_succ]
          refine wpAnyH_takeL (i := 7) (v := ?_) rfl (by kernel_rfl) (fun _ _ _ h => h) rfl ?_ hS0 ?_
          rotate_left
          · intro w' hS
            try dsimp only at hS
            go_simp
            rfl
          try simp only [Act.put, List.setIfInBounds_toArray, List.set_cons_zero, List.set_cons_succ]
          refine wpAnyH_takeL (i := 8) (v := ?_) rfl (by kernel_rfl) (fun _ _ _ h => h) rfl ?_ hS0 ?_
          rotate_left
          · intro w' hS
            try dsimp only at hS
            go_simp
            rfl
          try simp only [Act.put, List.setIfInBounds_toArray, List.set_cons_zero, List.set_cons_succ]
          refine wpAnyH_takeL (i := 9) (v := ?_) rfl (by kernel_rfl) (fun _ _ _ h => h) rfl ?_ hS0 ?_
          rotate_left
          · intro w' hS
            try dsimp only at hS
            go_simp
            rfl
          try simp only [Act.put, List.setIfInBounds_toArray, List.set_cons_zero, List.set_cons_succ]
          refine wpAnyH_takeL (i := 10) (v := ?_) rfl (by kernel_rfl) (fun _ _ _ h => h) rfl ?_ hS0 ?_
          rotate_left
          · intro w' hS
            try dsimp only at hS
            go_simp
            rfl
          try simp only [Act.put, List.setIfInBounds_toArray, List.set_cons_zero, List.set_cons_succ]
          refine wpAnyH_takeL (i := 11) (v := ?_) rfl (by kernel_rfl) (fun _ _ _ h => h) rfl ?_ hS0 ?_
          rotate_left
          · intro w' hS
            try dsimp only at hS
            go_simp
            rfl
          try simp only [Act.put, List.setIfInBounds_toArray, List.set_cons_zero, List.set_cons_succ]
          refine wpAnyH_takeL (i := 12) (v := ?_) rfl (by kernel_rfl) (fun _ _ _ h => h) rfl ?_ hS0 ?_
          rotate_left
          · intro w' hS
            try dsimp only at hS
            go_simp
            rfl
          try simp only [Act.put, List.setIfInBounds_toArray, List.set_cons_zero, List.set_cons_succ]
          rw [HCX.out]
          refine wpAnyH_twoL (i := 13) (j := 17) rfl rfl (by kernel_rfl) rfl rfl (fun K hK => ?_) (fun K hK => ?_)
          · go_wp2_with fail
            refine (arrWrite_any [.slice B 3 d] ak (first + (k : Int)) (chunk s k) _ (HRA.out.up (Ext.refl _).drew) ⟨by omega, by omega⟩ (by have := HCH.out; omega)).mono ?_
            rintro e w4 ⟨X, x, rfl, hx4, hX⟩
            have HW4 := Lib.hid (show w2.heap.size < (wr.drew).heap.size by simp; omega)
            rw [HST.out.1] at hX ⊢
            have hX' : OArr 117 w4 (wr.drew).heap.size (.slice X 3 x) (arrWrite3 ak (first + (k : Int)) (chunk s k)) := by
              have h := hX
              simp only [HL3.out] at h
              exact h
            rw [show (Value.agg #[.slice X ((arrWrite3 ak (first + (k : Int)) (chunk s k), (0 : Int)).1).length x]) = .agg #[.slice X 3 x] by simp only [HL3.out]]
            have e4 : Ext wr w4 := (Ext.refl wr).drew.trans hx4
            have hS4 : (fun W' => W'.cell? ⟨w2.heap.size, 0, none⟩ = some (.slice B 3 d)) w4 := e4.cell q0
            refine hK _ _ hS4 ?_
            clear hK K
            try simp only [Act.put, List.setIfInBounds_toArray, List.set_cons_zero, List.set_cons_succ]
            refine wpAnyH_takeL (i := 14) (v := ?_) rfl (by kernel_rfl) (fun _ _ _ h => h) rfl ?_ hS4 ?_
            rotate_left
            · intro w' hS
              try dsimp only at hS
              go_simp
              rfl
            try simp only [Act.put, List.setIfInBounds_toArray, List.set_cons_zero, List.set_cons_succ]
            refine wpAnyH_takeL (i := 15) (v := ?_) rfl (by kernel_rfl) (fun _ _ _ h => h) rfl ?_ hS4 ?_
            rotate_left
            · intro w' hS
              try dsimp only at hS
              go_simp
              rfl
            try simp only [Act.put, List.setIfInBounds_toArray, List.set_cons_zero, List.set_cons_succ]
            refine wpAnyH_takeL (i := 16) (v := ?_) rfl (by kernel_rfl) (fun _ _ _ h => h) rfl ?_ hS4 ?_
            rotate_left
            · intro w' hS
              try dsimp only at hS
              go_simp
              rfl
            try simp only [Act.put, List.setIfInBounds_toArray, List.set_cons_zero, List.set_cons_succ]
            refine wpAnyH_oneL (i := 17) rfl (by kernel_rfl) rfl (fun K hK => ?_)
            go_wp2_with fail
            have hS5 : (fun W' => W'.cell? ⟨w2.heap.size, 0, none⟩ = some (.slice B 3 d)) (w4.alloc (.cells #[.slice none 0 0] 40)) := (e4.alloc _).cell q0
            refine hK _ _ hS5 ?_
            clear hK K
            try simp only [Act.put, List.setIfInBounds_toArray, List.set_cons_zero, List.set_cons_succ]
            refine wpAnyH_oneL (i := 18) rfl (by kernel_rfl) rfl (fun K hK => ?_)
            go_wp2_with fail
            have hS6 : (fun W' => W'.cell? ⟨w2.heap.size, 0, none⟩ = some (.slice B 3 d)) (w4.alloc (.cells #[.slice X 3 x] 40)) := (e4.alloc _).cell q0
            refine hK _ _ hS6 ?_
            clear hK K
            try simp only [Act.put, List.setIfInBounds_toArray, List.set_cons_zero, List.set_cons_succ]
            refine wpAnyH_takeL (i := 19) (v := ?_) rfl (by kernel_rfl) (fun _ _ _ h => h) rfl ?_ hS6 ?_
            rotate_left
            · intro w' hS
              try dsimp only at hS
              go_simp
              rfl
            try simp only [Act.put, List.setIfInBounds_toArray, List.set_cons_zero, List.set_cons_succ]
            refine wpAnyH_done (by kernel_rfl) ?_ _
            have b4 := HB.out.ext e4
            have c4 := b4.cell 0
            have z4 := b4.frozen 0
            simp at c4
            have hl4 := b4.lt
            have ne4 : ¬ (w2.heap.size = w4.heap.size) := by omega
            have ne5 : ¬ (w4.heap.size = w2.heap.size) := by omega
            have HFB := Lib.hid (And.intro b4 (And.intro (HR.out.ext e4) (And.intro (HX.out.trans e4) hX')))
            clear b4 hX hX' hx4 hS4 hS5 hS6 hS0
            go_wp2_with fail
            go_roundw
            case rel =>
              refine ⟨k + 1, X, x, arrWrite3 ak (first + (k : Int)) (chunk s k), wr.drew.heap.size, by go_num, by omega, (HFB.out.2.2.1.setCell (p := ⟨w2.heap.size, 0, none⟩) (by simp; omega) _).alloc _, (HFB.out.2.1.far (p := ⟨w2.heap.size, 0, none⟩) (by simp; omega) _).alloc _, (HFB.out.1.set 0 _).alloc _, (HFB.out.2.2.2.far (p := ⟨w2.heap.size, 0, none⟩) HW4.out _).ext ((Ext.refl _).alloc _), by have := HW4.out; omega, HST.out.2, HNX.out⟩
            case measure => simp [intOf]; omega
          · go_wp2_with fail
            have e3 : Ext wr (wr.drew.alloc (.cells #[.slice none 0 0] 40)) := (Ext.refl wr).drew.alloc _
            have hS3 : (fun W' => W'.cell? ⟨w2.heap.size, 0, none⟩ = some (.slice B 3 d)) (wr.drew.alloc (.cells #[.slice none 0 0] 40)) := e3.cell q0
            refine hK _ _ hS3 ?_
            clear hK K
            try simp only [Act.put, List.setIfInBounds_toArray, List.set_cons_zero, List.set_cons_succ]
            refine anyH_abs (fun W => Ext wr W ∧ Blk_ W wr.heap.size 40 #[.slice none 0 0]) ⟨by first | exact e3 | exact (Ext.refl wr).alloc _ | exact ((Ext.refl wr).alloc _).drew, by first | exact Blk_.new _ _ _ | exact (Blk_.new _ _ _).drew⟩ ?_
            rintro W5 ⟨e5, b5⟩
            refine wpAnyH_oneL (i := 13) rfl (by kernel_rfl) rfl (fun K hK => ?_)
            go_wp2_with fail
            refine (arrWrite_any [.slice B 3 d] ak (first + (k : Int)) (chunk s k) _ (HRA.out.up e5) ⟨by omega, by omega⟩ (by have := HCH.out; omega)).mono ?_
            rintro e w4 ⟨X, x, rfl, hx4, hX⟩
            have HW4 := Lib.hid (show w2.heap.size < (W5).heap.size by have := e5.size; omega)
            rw [HST.out.1] at hX ⊢
            have hX' : OArr 117 w4 (W5).heap.size (.slice X 3 x) (arrWrite3 ak (first + (k : Int)) (chunk s k)) := by
              have h := hX
              simp only [HL3.out] at h
              exact h
            rw [show (Value.agg #[.slice X ((arrWrite3 ak (first + (k : Int)) (chunk s k), (0 : Int)).1).length x]) = .agg #[.slice X 3 x] by simp only [HL3.out]]
            have e4 : Ext wr w4 := e5.trans hx4
            have hS4 : (fun W' => W'.cell? ⟨w2.heap.size, 0, none⟩ = some (.slice B 3 d)) w4 := e4.cell q0
            refine hK _ _ hS4 ?_
            clear hK K
            try simp only [Act.put, List.setIfInBounds_toArray, List.set_cons_zero, List.set_cons_succ]
            refine wpAnyH_takeL (i := 14) (v := ?_) rfl (by kernel_rfl) (fun _ _ _ h => h) rfl ?_ hS4 ?_
            rotate_left
            · intro w' hS
              try dsimp only at hS
              go_simp
              rfl
            try simp only [Act.put, List.setIfInBounds_toArray, List.set_cons_zero, List.set_cons_succ]
            refine wpAnyH_takeL (i := 15) (v := ?_) rfl (by kernel_rfl) (fun _ _ _ h => h) rfl ?_ hS4 ?_
            rotate_left
            · intro w' hS
              try dsimp only at hS
              go_simp
              rfl
            try simp only [Act.put, List.setIfInBounds_toArray, List.set_cons_zero, List.set_cons_succ]
            refine wpAnyH_takeL (i := 16) (v := ?_) rfl (by kernel_rfl) (fun _ _ _ h => h) rfl ?_ hS4 ?_
            rotate_left
            · intro w' hS
              try dsimp only at hS
              go_simp
              rfl
            try simp only [Act.put, List.setIfInBounds_toArray, List.set_cons_zero, List.set_cons_succ]
            refine wpAnyH_oneL (i := 18) rfl (by kernel_rfl) rfl (fun K hK => ?_)
            have b54 := b5.ext hx4
            have c54 := b54.cell 0
            have z54 := b54.frozen 0
            simp at c54
            have hbw5 := b5.lt
            have hl54 := b54.lt
            have b4 := HB.out.ext e4
            have c4 := b4.cell 0
            have z4 := b4.frozen 0
            simp at c4
            have hl4 := b4.lt
            have ne4 : ¬ (w2.heap.size = wr.heap.size) := by omega
            have ne5 : ¬ (wr.heap.size = w2.heap.size) := by omega
            have hS6 : (fun W' => W'.cell? ⟨w2.heap.size, 0, none⟩ = some (.slice B 3 d)) (w4.setCell ⟨wr.heap.size, 0, none⟩ (.slice X 3 x)) := by
              show (w4.setCell ⟨wr.heap.size, 0, none⟩ (.slice X 3 x)).cell? _ = _
              rw [World.cell?_setCell_other _ _ _ _ (by simp [ne4, ne5])]
              exact hS4
            go_wp2_with fail
            refine hK _ _ hS6 ?_
            clear hK K
            try simp only [Act.put, List.setIfInBounds_toArray, List.set_cons_zero, List.set_cons_succ]
            refine wpAnyH_takeL (i := 19) (v := ?_) rfl (by kernel_rfl) (fun _ _ _ h => h) rfl ?_ hS6 ?_
            rotate_left
            · intro w' hS
              try dsimp only at hS
              go_simp
              rfl
            try simp only [Act.put, List.setIfInBounds_toArray, List.set_cons_zero, List.set_cons_succ]
            refine wpAnyH_done (by kernel_rfl) ?_ _
            have HFB := Lib.hid (And.intro b4 (And.intro (HR.out.ext e4) (And.intro (HX.out.trans e4) hX')))
            have hxs := HX.out.size
            have HBW := Lib.hid hbw5
            clear b4 hX hX' hx4 hS4 hS6 hS0 hS3 b5 b54
            go_wp2_with fail
            go_roundw
            case rel =>
              have hw5 := HBW.out
              refine ⟨k + 1, X, x, arrWrite3 ak (first + (k : Int)) (chunk s k), W5.heap.size, by go_num, by omega, (HFB.out.2.2.1.setCell (p := ⟨wr.heap.size, 0, none⟩) hxs _).setCell (p := ⟨w2.heap.size, 0, none⟩) (by simp; omega) _, (HFB.out.2.1.far (p := ⟨wr.heap.size, 0, none⟩) (by simp; omega) _).far (p := ⟨w2.heap.size, 0, none⟩) (by simp; omega) _, (HFB.out.1.far (p := ⟨wr.heap.size, 0, none⟩) (by simp; omega) _).set 0 _, (HFB.out.2.2.2.far (p := ⟨wr.heap.size, 0, none⟩) hw5 _).far (p := ⟨w2.heap.size, 0, none⟩) HW4.out _, by omega, HST.out.2, HNX.out⟩
            case measure => simp [intOf]; omega
      · obtain rfl : k = (s.size + 23) / 24 := by omega
        have HFE := Lib.hid (show ak = streamWriteLoop ((s.size + 23) / 24) 0 a first s by rw [← HEQ.out, Nat.sub_self]; rfl)
        have hge : (s.size : Int) ≤ ((24 * ((s.size + 23) / 24) : Nat) : Int) := by omega
        have hge2 : (s.size : Int) ≤ (24 : Int) * (((s.size + 23) / 24 : Nat) : Int) := by omega
        have HL3 := Lib.hid hgk.len
        have y0 := hr.cell 0
        have x0 := hr.frozen 0
        simp at y0
        have HB := Lib.hid (hr.set 0 (.slice B 3 d))
        have HOF := Lib.hid ho
        have HKK := Lib.hid (show (s.size + 23) / 24 = (s.size + 23) / 24 from rfl)
        have hkk2 : decide ((((s.size + 23) / 24 : Nat) : Int) < ((s.size : Int) + 23) / 24) = false := by simp
        have hkk3 : (((s.size : Int) + 23) / 24) ≤ (((s.size + 23) / 24 : Nat) : Int) := by omega
        clear hgk heq HEQ HGK hr hb ho hlt hk hfm
        generalize (s.size + 23) / 24 = kk at *
        go_wp2_with fail
        refine bodyPost_ret (res_cell_tmp rfl rfl HB.out Tryd.underlying40 rfl (by kernel_rfl)) rfl ?_
        rw [HF.out, ← HFE.out]
        show ∃ A c, _ = Ending.returned (.tuple #[.agg #[.slice A ak.length c], .int .i64 0]) ∧ _ ∧ OArr _ _ _ (.slice A ak.length c) ak
        rw [HL3.out]
        exact ⟨B, d, rfl, hx.setCell (p := ⟨w.heap.size + 1, 0, none⟩) (by simp) _, (HOF.out.far (p := ⟨w.heap.size + 1, 0, none⟩) (by simp; omega) _).base (by omega)⟩
  · have HF := Lib.hid (sw_bad ht)
    have ht' : (streamFaultS a first s.size != 0) = true := by simpa using ht
    have y0 := hr1.cell 0
    have x0 := hr1.frozen 0
    simp at y0
    have HB := Lib.hid (hr1.set 0 (.slice none 0 0))
    clear hr1 hb1 ha1 ht
    generalize streamFaultS a first s.size = t at *
    go_wp2_with fail
    refine bodyPost_ret (res_cell_tmp rfl rfl HB.out Tryd.underlying40 rfl (by kernel_rfl)) rfl ?_
    rw [HF.out]
    exact ⟨none, 0, rfl, hxw.setCell (p := ⟨w.heap.size + 1, 0, none⟩) (by simp) _, OArr.nil _ _ _⟩

theorem swl_good (s : ByteArray) (first : Int) (mm : Nat) (h1 : 16 ≤ mm) (h2 : mm ≤ 64) (h3 : mm % 2 = 0) (h0 : 0 ≤ first) : ∀ (m i : Nat) (a : List Dev), Good a mm → first + ((i + m : Nat) : Int) ≤ mm → Good (streamWriteLoop m i a first s) mm
  | 0, _, a, h, _ => h
  | m + 1, i, a, h, hb => by
    have hst := write_step h h1 h2 h3 (n := first + (i : Int)) (s := chunk s i) (by omega) (by omega) (chunk_size s i)
    rw [swl_succ, hst.1]
    exact swl_good s first mm h1 h2 h3 h0 m (i + 1) _ hst.2 (by omega)
theorem sw_len {a : List Dev} {first : Int} {s : ByteArray} : (streamWriteS a first s).1.length * 48 ≤ 140737488355328 := by
  by_cases ht : streamFaultS a first s.size = 0
  · obtain ⟨hm, n0, n1, q0, q1⟩ := fault_zero ht
    have hp := arr_parts hm
    have hgo := swl_good s first _ hp.2.2.2.2.1 hp.2.2.2.2.2.1 hp.2.2.2.2.2.2.1 q0 ((s.size + 23) / 24) 0 a (Good.of hm) (by omega)
    rw [sw_good ht]
    show (streamWriteLoop _ 0 a first s).length * 48 ≤ _
    rw [hgo.len]
    decide
  · rw [sw_bad ht]; simp

end Go.Proofs.YtokpjgpdkmimgaaDoor
