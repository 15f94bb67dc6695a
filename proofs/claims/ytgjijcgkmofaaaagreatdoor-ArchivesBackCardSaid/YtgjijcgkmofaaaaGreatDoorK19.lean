/-
  array.Replace: a copy of which one device is a new one that lost all its sectors. Conditions: the argument reads as an array.
-/
import Derived.Test.YtgjijcgkmofaaaaGreatDoorK18
namespace Go.Proofs.YtgjijcgkmofaaaaGreatDoor
set_option linter.unusedSimpArgs false
set_option linter.unusedVariables false
open Go.RowKit

theorem own_pair {w : World} {base : Nat} {E : TypeId} {g n c len : Nat} {vs : List (Value × Value)} (ho : w.ownsRow base E 2 (.slice (some ⟨g, 0, none⟩) n c) len (vs.flatMap pair)) (hl : vs.length = len) (i : Nat) (p : Value × Value) (hp : vs[i]? = some p) :
    w.cell? ⟨g, i * 2, none⟩ = some p.1 ∧ w.cell? ⟨g, i * 2 + 1, none⟩ = some p.2 := by
  obtain ⟨hi, hpe⟩ := List.getElem?_eq_some_iff.1 hp
  rcases ho.2 with ⟨hv, _⟩ | ⟨g', cap, cur, hv, hb, hg, hnc, _, hcs, htake⟩
  · cases hv
  · injection hv with h1 h2 h3
    injection h1 with h1
    injection h1 with h1
    subst h1
    have key : ∀ j, j < 2 → w.cell? ⟨g, i * 2 + j, none⟩ = (pair p)[j]? := by
      intro j hj
      rw [← hpe, ← flatMap_at pair_len vs i j hi hj, cell_of_row w g (i * 2 + j) cur E (0, 0) hg, ← htake, List.getElem?_take, if_pos (by omega)]
      simp
    exact ⟨key 0 (by decide), key 1 (by decide)⟩
/-- A device of the row is filled in place. -/
theorem OArr.fill {E : TypeId} {w wr : World} {base g n c gL d : Nat} {a : List Dev} {dd : Dev} {x1 x2 : Value} (h : OArr E w base (.slice (some ⟨g, 0, none⟩) n c) a) (hd : d < a.length) (hg : w.grownBy wr (some gL)) (hgL : gL ≠ g)
    (hav : ∀ i, i < a.length → i ≠ d → ∀ y1 y2, w.cell? ⟨g, i * 2, none⟩ = some y1 → w.cell? ⟨g, i * 2 + 1, none⟩ = some y2 → Av gL y1 ∧ Av gL y2)
    (hc1 : w.cell? ⟨g, d * 2, none⟩ = some x1) (hc2 : w.cell? ⟨g, d * 2 + 1, none⟩ = some x2) (hdd : RDevG g wr [x1, x2] dd) : OArr E wr base (.slice (some ⟨g, 0, none⟩) n c) (a.set d dd) := by
  obtain ⟨vs, hl, ho, hr, hn⟩ := h
  refine ⟨vs, by simp [hl], ?_, ?_, hn⟩
  · rw [List.length_set]
    exact own_grown ho hg (fun q hq e => by
      have h1 : q = g := by simpa [Value.ownBlock] using hq.symm
      injection e with e
      omega)
  · intro g' hg' i hi p hp
    have hgg : g' = g := by simp [Value.ownBlock] at hg'; exact hg'.symm
    subst hgg
    rw [List.length_set] at hi
    obtain ⟨k1, k2⟩ := own_pair ho hl i p hp
    by_cases hid : i = d
    · subst hid
      rw [k1] at hc1
      rw [k2] at hc2
      injection hc1 with hc1
      injection hc2 with hc2
      have : pair p = [x1, x2] := by unfold pair; rw [hc1, hc2]
      rw [this]
      simpa using hdd
    · have hD := hr g' hg' i hi p hp
      obtain ⟨v1, v2⟩ := hav i hi hid _ _ k1 k2
      rw [List.getElem_set_ne (fun e => hid e.symm)]
      obtain ⟨A1, c1, A2, c2, e, hDD, r1, r2⟩ := hD
      refine ⟨A1, c1, A2, c2, e, hDD.grown hg (fun q hq => ?_), r1, r2⟩
      obtain rfl := Option.some.inj hq
      unfold pair at e
      simp only [List.cons.injEq, and_true] at e
      exact ⟨A1, c1, A2, c2, by unfold pair; rw [e.1, e.2], hDD, by rw [← e.1]; exact v1, by rw [← e.2]; exact v2⟩
theorem repl_state {a : List Dev} {d : Int} (h : arrMay a = false) : replaceS a d = ([], 9) := by unfold replaceS; rw [h]; rfl
theorem repl_range {a : List Dev} {d : Int} (h : arrMay a = true) (h2 : ¬ (0 ≤ d ∧ d ≤ 2)) : replaceS a d = ([], 2) := by
  unfold replaceS
  rw [h, show inB d 0 2 = false by simp [inB]; omega]
  rfl
theorem repl_ok {a : List Dev} {d : Nat} (h : arrMay a = true) (h2 : d < 3) : replaceS a d = (a.set d (lostDev (devAt (dv a 0).sec.length d)), 0) := by
  unfold replaceS devAt
  rw [h, show inB (d : Int) 0 2 = true by simp [inB]; omega]
  rfl
theorem fill_step (n k : Nat) (h : k < n) : (List.replicate k true ++ List.replicate (n - k) false).set k true = List.replicate (k + 1) true ++ List.replicate (n - (k + 1)) false := by
  apply List.ext_getElem?
  intro i
  simp only [List.getElem?_set, List.getElem?_append, List.getElem?_replicate, List.length_replicate, List.length_append]
  by_cases h1 : i < k
  · have : ¬ k = i := by omega
    simp [h1, this, show i < k + 1 by omega]
  · by_cases h2 : i = k
    · subst h2
      simp [show i < i + (n - i) by omega]
    · have : ¬ k = i := by omega
      simp only [this, if_false, h1, show ¬ i < k + 1 by omega]
      congr 1
      apply propext
      omega
theorem devAt_len (m : Nat) (d : Nat) (h : 16 ≤ m) : 0 < (devAt m d).lost.length ∧ (devAt m d).lost.length ≤ m ∧ (devAt m d).lost = List.replicate (devAt m d).lost.length false := by
  unfold devAt
  split
  · refine ⟨?_, ?_, ?_⟩
    · show 0 < (List.replicate (m / 2) false).length
      rw [List.length_replicate]; omega
    · show (List.replicate (m / 2) false).length ≤ m
      rw [List.length_replicate]; omega
    · show List.replicate (m / 2) false = List.replicate (List.replicate (m / 2) false).length false
      rw [List.length_replicate]
  · refine ⟨?_, ?_, ?_⟩
    · show 0 < (List.replicate m false).length
      rw [List.length_replicate]; omega
    · show (List.replicate m false).length ≤ m
      rw [List.length_replicate]; omega
    · show List.replicate m false = List.replicate (List.replicate m false).length false
      rw [List.length_replicate]
theorem grown_also {a b c : World} {row : Option Nat} (h : a.grownBy b row) (k : b.grownBy c row) : a.grownBy c row :=
  ⟨k.os.trans h.os, k.tape.trans h.tape, k.output.trans h.output, Nat.le_trans h.size k.size, fun g hg hne => (k.block g (Nat.lt_of_lt_of_le hg h.size) hne).trans (h.block g hg hne)⟩
set_option maxRecDepth 100000 in
set_option maxHeartbeats 8000000 in
theorem arrReplace_any (A : Option Addr) (c : Nat) (a : List Dev) (d0 : Int) (w : World) (h : RArr w [.slice A a.length c] a) (hd : I64 d0) :
    Calls Tryz.prog 101 #[.agg #[.slice A a.length c], .int .i64 d0] w fun e w' => ∃ A' c', e = .returned (.tuple #[.agg #[.slice A' (replaceS a d0).1.length c'], .int .i64 (replaceS a d0).2]) ∧ Ext w w' ∧ OArr 68 w' w.heap.size (.slice A' (replaceS a d0).1.length c') (replaceS a d0).1 := by
  have HH := Lib.hid h
  obtain ⟨hd1, hd2⟩ := hd
  clear h
  go_enter Tryz.func101, Tryz.ntmps101
  go_wp2_with fail
  refine calls_abs (fun W => Ext w W ∧ Blk_ W w.heap.size 30 #[.slice A a.length c] ∧ Blk_ W (w.heap.size + 1) 30 #[.slice none 0 0]) ⟨((Ext.refl _).alloc _).alloc _, (Blk_.new _ _ _).alloc _, Blk_.new1 _ _ _ _⟩ ?_
  rintro w1 ⟨hx1, hb2, hb4⟩
  obtain ⟨b2, hh2⟩ : ∃ b2, b2 = w.heap.size := ⟨_, rfl⟩
  rw [← hh2] at hb2 hb4 ⊢
  refine (arrCheck_any [.slice A a.length c] a w1 (HH.out.up hx1)).mono ?_
  rintro e w2 ⟨rfl, hx2⟩
  have H2 := Lib.hid hh2
  have HX2 := Lib.hid (hx1.trans hx2)
  have HB2 := Lib.hid (hb2.ext hx2)
  have HB4 := Lib.hid (hb4.ext hx2)
  have HR2 := Lib.hid (HH.out.up (hx1.trans hx2))
  clear hx1 hx2 hb2 hb4 hh2
  by_cases hmay : arrMay a = true
  · rw [arrCode_true hmay]
    by_cases hrg : 0 ≤ d0 ∧ d0 ≤ 2
    · obtain ⟨d, rfl⟩ := Int.eq_ofNat_of_zero_le hrg.1
      have hd3 : (d : Int) < 3 := by omega
      obtain ⟨h3, _, _, _, g1, g2, g3, _, _⟩ := arr_parts hmay
      obtain ⟨m, hm⟩ : ∃ m, m = (dv a 0).sec.length := ⟨_, rfl⟩
      rw [← hm] at g1 g2 g3
      obtain ⟨dd, hdd⟩ : ∃ dd, dd = devAt m d := ⟨_, rfl⟩
      have HDD := Lib.hid hdd.symm
      have HRP := Lib.hid (show replaceS a d = (a.set d (lostDev dd), 0) by rw [repl_ok hmay (by omega), ← hm, hdd])
      have HL3 := Lib.hid h3
      have HMM := Lib.hid hm
      have HM := Lib.hid (show 16 ≤ m ∧ m ≤ 64 ∧ d < 3 by omega)
      obtain ⟨l1, l2, l3⟩ := devAt_len m d g1
      rw [← hdd] at l1 l2 l3
      have HLL := Lib.hid (And.intro l1 (And.intro l2 l3))
      have hm64 : (m : Int) ≤ 64 := by omega
      have hll : (dd.lost.length : Int) ≤ 64 := by omega
      rw [h3]
      rw [h3] at HR2 HB2
      have f2 := HB2.out.cell 0
      simp at f2
      have z2 := HB2.out.frozen 0
      have l2' := HB2.out.lt
      clear h3 g1 g2 g3 hm hdd l1 l2 l3 hrg hmay hd1 hd2
      go_wp2_with fail
      refine (arrCopy_any [.slice A 3 c] a w2 HR2.out).mono ?_
      rintro e w3 ⟨A3, c3, rfl, hx3, ho3⟩
      have h3 := HL3.out
      rw [h3] at ho3 ⊢
      obtain ⟨g, rfl, hgb, hgl, hgf, hgc⟩ := ho3.at_ h3
      have HX3 := Lib.hid (HX2.out.trans hx3)
      have HO3 := Lib.hid ho3
      have HB23 := Lib.hid (HB2.out.ext hx3)
      have HB43 := Lib.hid (HB4.out.ext hx3)
      have HGB := Lib.hid (show b2 < w2.heap.size ∧ b2 + 1 < w2.heap.size ∧ w2.heap.size ≤ g ∧ w2.heap.size ≤ w3.heap.size from ⟨HB2.out.lt, HB4.out.lt, hgb, hx3.size⟩)
      have f3 := (HB2.out.ext hx3).cell 0
      simp at f3
      have z3 := (HB2.out.ext hx3).frozen 0
      have l3' := (HB2.out.ext hx3).lt
      clear f2 z2 l2' hx3 ho3 hgb hgl hgf hgc h3 HX2 HB2 HB4 HR2
      go_wp2_with fail
      refine wp_abs (fun W => Ext w W ∧ Blk_ W b2 30 #[.slice (some ⟨g, 0, none⟩) 3 c3] ∧ Blk_ W (b2 + 1) 30 #[.slice none 0 0] ∧ OArr 68 W w2.heap.size (.slice (some ⟨g, 0, none⟩) 3 c3) a ∧ w3.heap.size ≤ W.heap.size) ⟨HX3.out.setCell (by have := H2.out; dsimp only; omega) _, HB23.out.set 0 _, HB43.out.far (by dsimp only; omega) _, HO3.out.far (by have := HGB.out; dsimp only; omega) _, by simp⟩ ?_
      rintro w4 ⟨hx4, hb24, hb44, ho4, hs4⟩
      obtain ⟨_, hgl, hgf, hgc⟩ := ho4.atg HL3.out
      obtain ⟨A0, c0, B0, e0, q0, q1, hd0⟩ := hgc 0 (by decide)
      rw [← HMM.out] at q0
      simp at q0 q1
      have HX4 := Lib.hid hx4
      have HB24 := Lib.hid hb24
      have HB44 := Lib.hid hb44
      have HO4 := Lib.hid ho4
      have HS4 := Lib.hid hs4
      have HGL := Lib.hid hgl
      have HQ2 := Lib.hid (show w4.cell? ⟨b2, 0, none⟩ = some (.slice (some ⟨g, 0, none⟩) 3 c3) by have := hb24.cell 0; simpa using this)
      have HQ0 := Lib.hid q0
      obtain ⟨N0, hN0⟩ : ∃ N, N = w4.heap.size := ⟨_, rfl⟩
      have HN0 := Lib.hid hN0
      clear hx4 hb24 hb44 ho4 hs4 hgl hgf hgc q0 q1 hd0 HX3 HO3 HB23 HB43 f3 z3 l3' hN0
      refine wp_region_all (S := fun W' => W'.cell? ⟨b2, 0, none⟩ = some (.slice (some ⟨g, 0, none⟩) 3 c3)) (by kernel_rfl) ?_
      have hS0 : (fun W' => W'.cell? ⟨b2, 0, none⟩ = some (.slice (some ⟨g, 0, none⟩) 3 c3)) w4.drew := HQ2.out
      refine wpAnyH_takeL (i := 0) (v := ?_) rfl (by kernel_rfl) (fun _ _ _ h => h) rfl ?_ hS0 ?_
      rotate_left
      · intro w' hS
        try dsimp only at hS
        go_simp
        rfl
      try simp only [Act.put, List.setIfInBounds_toArray, List.set_cons_zero, List.set_cons_succ]
      refine wpAnyH_takeL (i := 1) (v := ?_) rfl (by kernel_rfl) (fun _ _ _ h => h) rfl ?_ hS0 ?_
      rotate_left
      · intro w' hS
        try dsimp only at hS
        go_simp
        rfl
      try simp only [Act.put, List.setIfInBounds_toArray, List.set_cons_zero, List.set_cons_succ]
      refine wpAnyH_takeL (i := 2) (v := ?_) rfl (by kernel_rfl) (fun _ _ _ h => h) rfl ?_ hS0 ?_
      rotate_left
      · intro w' hS
        try dsimp only at hS
        go_simp
        rfl
      try simp only [Act.put, List.setIfInBounds_toArray, List.set_cons_zero, List.set_cons_succ]
      refine wpAnyH_takeL (i := 3) (v := ?_) rfl (by kernel_rfl) (fun _ _ _ h => h) rfl ?_ hS0 ?_
      rotate_left
      · intro w' hS
        try dsimp only at hS
        go_simp
        rfl
      try simp only [Act.put, List.setIfInBounds_toArray, List.set_cons_zero, List.set_cons_succ]
      refine wpAnyH_takeL (i := 4) (v := ?_) rfl (by kernel_rfl) (fun _ _ _ h => h) rfl ?_ hS0 ?_
      rotate_left
      · intro w' hS
        try dsimp only at hS
        go_simp
        rfl
      try simp only [Act.put, List.setIfInBounds_toArray, List.set_cons_zero, List.set_cons_succ]
      refine wpAnyH_takeL (i := 5) (v := ?_) rfl (by kernel_rfl) (fun _ _ _ h => h) rfl ?_ hS0 ?_
      rotate_left
      · intro w' hS
        try dsimp only at hS
        go_simp
        rfl
      try simp only [Act.put, List.setIfInBounds_toArray, List.set_cons_zero, List.set_cons_succ]
      refine wpAnyH_takeL (i := 6) (v := ?_) rfl (by kernel_rfl) (fun _ _ _ h => h) rfl ?_ hS0 ?_
      rotate_left
      · intro w' hS
        try dsimp only at hS
        go_simp
        rfl
      try simp only [Act.put, List.setIfInBounds_toArray, List.set_cons_zero, List.set_cons_succ]
      refine wpAnyH_takeL (i := 9) (v := ?_) rfl (by kernel_rfl) (fun _ _ _ h => h) rfl ?_ hS0 ?_
      rotate_left
      · intro w' hS
        try dsimp only at hS
        go_simp
        rfl
      try simp only [Act.put, List.setIfInBounds_toArray, List.set_cons_zero, List.set_cons_succ]
      have cq0 : w4.drew.cell? ⟨g, 0, none⟩ = some (.slice A0 m c0) := HQ0.out
      refine wpAnyH_oneL (i := 7) rfl (by kernel_rfl) rfl (fun K hK => ?_)
      go_wp2_with fail
      refine hK _ _ hS0 ?_
      clear hK K cq0
      try simp only [Act.put, List.setIfInBounds_toArray, List.set_cons_zero, List.set_cons_succ]
      refine wpAnyH_takeL (i := 8) (v := ?_) rfl (by kernel_rfl) (fun _ _ _ h => h) rfl ?_ hS0 ?_
      rotate_left
      · intro w' hS
        try dsimp only at hS
        go_simp
        rfl
      try simp only [Act.put, List.setIfInBounds_toArray, List.set_cons_zero, List.set_cons_succ]
      refine wpAnyH_oneL (i := 10) rfl (by kernel_rfl) rfl (fun K hK => ?_)
      go_wp2_with fail
      refine (arrFresh_any m (d : Int) _ HM.out.1 HM.out.2.1 ⟨by omega, by have := HM.out; omega⟩).mono ?_
      rintro e W' ⟨X1, x1, X2, x2, rfl, hx', o12⟩
      rw [HDD.out] at o12 ⊢
      have hxx : Ext w4 W' := (Ext.refl _).drew.trans hx'
      have hS2 : (fun W' => W'.cell? ⟨b2, 0, none⟩ = some (.slice (some ⟨g, 0, none⟩) 3 c3)) W' := hxx.cell HQ2.out
      refine hK _ _ hS2 ?_
      clear hK K hx' hS0
      try simp only [Act.put, List.setIfInBounds_toArray, List.set_cons_zero, List.set_cons_succ]
      refine wpAnyH_takeL (i := 11) (v := ?_) rfl (by kernel_rfl) (fun _ _ _ h => h) rfl ?_ hS2 ?_
      rotate_left
      · intro w' hS
        try dsimp only at hS
        go_simp
        rfl
      try simp only [Act.put, List.setIfInBounds_toArray, List.set_cons_zero, List.set_cons_succ]
      refine wpAnyH_takeL (i := 12) (v := ?_) rfl (by kernel_rfl) (fun _ _ _ h => h) rfl ?_ hS2 ?_
      rotate_left
      · intro w' hS
        try dsimp only at hS
        go_simp
        rfl
      try simp only [Act.put, List.setIfInBounds_toArray, List.set_cons_zero, List.set_cons_succ]
      refine wpAnyH_takeL (i := 13) (v := ?_) rfl (by kernel_rfl) (fun _ _ _ h => h) rfl ?_ hS2 ?_
      rotate_left
      · intro w' hS
        try dsimp only at hS
        go_simp
        rfl
      try simp only [Act.put, List.setIfInBounds_toArray, List.set_cons_zero, List.set_cons_succ]
      refine wpAnyH_takeL (i := 14) (v := ?_) rfl (by kernel_rfl) (fun _ _ _ h => h) rfl ?_ hS2 ?_
      rotate_left
      · intro w' hS
        try dsimp only at hS
        go_simp
        rfl
      try simp only [Act.put, List.setIfInBounds_toArray, List.set_cons_zero, List.set_cons_succ]
      have hN4' : N0 = w4.heap.size := HN0.out
      have o12 := o12.base (base' := N0) (by rw [hN4']; exact Nat.le_refl _)
      obtain ⟨gL, rfl, hNL, hLl, hLf⟩ := own_form o12.2.1 HLL.out.1
      have hrow := HO4.out.ext hxx
      obtain ⟨_, hgl5, hgf5, hgc5⟩ := hrow.atg HL3.out
      obtain ⟨_, _, _, _, m0, m1, _⟩ := hgc5 d HM.out.2.2
      have z0 := hgf5 (d * 2)
      have z1 := hgf5 (d * 2 + 1)
      have hN4 : N0 = w4.heap.size := HN0.out
      have hgn : g < N0 := by rw [hN4]; exact HGL.out
      have hnew := o12.dev.newG o12.new1 o12.new2 hgn
      have hset := hrow.set (i := d) (by rw [HL3.out]; exact HM.out.2.2) hnew (o12.new1.mono (by have := HGB.out; have := HS4.out; omega)) (o12.new2.mono (by have := HGB.out; have := HS4.out; omega))
      have hgg := HGB.out
      have hs4 := HS4.out
      have hh2 := H2.out
      have HAV := Lib.hid (show ∀ i, i < (a.set d dd).length → i ≠ d → ∀ y1 y2, (((W'.setCell ⟨g, d * 2, none⟩ (.slice X1 dd.sec.length x1)).setCell ⟨g, d * 2 + 1, none⟩ (.slice (some ⟨gL, 0, none⟩) dd.lost.length x2))).cell? ⟨g, i * 2, none⟩ = some y1 →
          (((W'.setCell ⟨g, d * 2, none⟩ (.slice X1 dd.sec.length x1)).setCell ⟨g, d * 2 + 1, none⟩ (.slice (some ⟨gL, 0, none⟩) dd.lost.length x2))).cell? ⟨g, i * 2 + 1, none⟩ = some y2 → Av gL y1 ∧ Av gL y2 from by
        intro i hi hne y1 y2 hy1 hy2
        rw [List.length_set, HL3.out] at hi
        obtain ⟨_, _, _, hgc4⟩ := HO4.out.atg HL3.out
        obtain ⟨A1, c1, A2, c2, p0, p1, hdv⟩ := hgc4 i hi
        rw [World.cell?_setCell_other _ _ _ _ (by first | (simp; done) | (simp; omega)), World.cell?_setCell_other _ _ _ _ (by first | (simp; done) | (simp; omega)), hxx.cell p0] at hy1
        rw [World.cell?_setCell_other _ _ _ _ (by first | (simp; done) | (simp; omega)), World.cell?_setCell_other _ _ _ _ (by first | (simp; done) | (simp; omega)), hxx.cell p1] at hy2
        injection hy1 with hy1
        injection hy2 with hy2
        subst hy1 hy2
        obtain ⟨B1, k1, B2, k2, e', _, r1, r2⟩ := hdv.old (g := gL) (by omega)
        simp only [List.cons.injEq, and_true] at e'
        rw [e'.1, e'.2]
        exact ⟨r1, r2⟩)
      have c1' := World.cell?_setCell_same _ _ (.slice X1 dd.sec.length x1) m0
      have c2' := World.cell?_setCell_same _ _ (.slice (some ⟨gL, 0, none⟩) dd.lost.length x2) ((World.cell?_setCell_other _ ⟨g, d * 2, none⟩ ⟨g, d * 2 + 1, none⟩ (.slice X1 dd.sec.length x1) (by simp)).trans m1)
      have c1'' := (World.cell?_setCell_other _ ⟨g, d * 2 + 1, none⟩ ⟨g, d * 2, none⟩ (.slice (some ⟨gL, 0, none⟩) dd.lost.length x2) (by simp)).trans c1'
      have HC1 := Lib.hid c1''
      have HC2 := Lib.hid c2'
      have HSET := Lib.hid hset
      have HNEW := Lib.hid (And.intro o12.new1 o12.new2)
      have HOD := Lib.hid ((o12.far (p := ⟨g, d * 2, none⟩) (by dsimp only; omega) (.slice X1 dd.sec.length x1)).far (p := ⟨g, d * 2 + 1, none⟩) (by dsimp only; omega) (.slice (some ⟨gL, 0, none⟩) dd.lost.length x2))
      have HB29 := Lib.hid (((HB24.out.ext hxx).far (p := ⟨g, d * 2, none⟩) (by dsimp only; omega) (.slice X1 dd.sec.length x1)).far (p := ⟨g, d * 2 + 1, none⟩) (by dsimp only; omega) (.slice (some ⟨gL, 0, none⟩) dd.lost.length x2))
      have HB49 := Lib.hid (((HB44.out.ext hxx).far (p := ⟨g, d * 2, none⟩) (by dsimp only; omega) (.slice X1 dd.sec.length x1)).far (p := ⟨g, d * 2 + 1, none⟩) (by dsimp only; omega) (.slice (some ⟨gL, 0, none⟩) dd.lost.length x2))
      have HX9 := Lib.hid (((HX4.out.trans hxx).setCell (p := ⟨g, d * 2, none⟩) (by dsimp only; omega) (.slice X1 dd.sec.length x1)).setCell (p := ⟨g, d * 2 + 1, none⟩) (by dsimp only; omega) (.slice (some ⟨gL, 0, none⟩) dd.lost.length x2))
      have HGL9 := Lib.hid (show N0 ≤ gL ∧ g < N0 ∧ b2 + 1 < N0 from ⟨hNL, hgn, by omega⟩)
      have b29 := HB29.out.cell 0
      simp at b29
      have hS4 : (fun W' => W'.cell? ⟨b2, 0, none⟩ = some (.slice (some ⟨g, 0, none⟩) 3 c3)) ((W'.setCell ⟨g, d * 2, none⟩ (.slice X1 dd.sec.length x1)).setCell ⟨g, d * 2 + 1, none⟩ (.slice (some ⟨gL, 0, none⟩) dd.lost.length x2)) := b29
      refine wpAnyH_oneL (i := 15) rfl (by kernel_rfl) rfl (fun K hK => ?_)
      clear hN4' hS2 o12 hxx hNL hLl hLf hrow hgl5 hgf5 hgc5 hnew hset hN4 hgn hgg hs4 hh2
      go_wp2_with fail
      refine hK _ _ hS4 ?_
      clear hK K
      refine wpAnyH_done (by kernel_rfl) ?_ _
      go_wp2_with fail
      clear hS4
      obtain ⟨w9, hw9⟩ : ∃ w9, w9 = ((W'.setCell ⟨g, d * 2, none⟩ (.slice X1 dd.sec.length x1)).setCell ⟨g, d * 2 + 1, none⟩ (.slice (some ⟨gL, 0, none⟩) dd.lost.length x2)) := ⟨_, rfl⟩
      rw [← hw9] at HAV HC1 HC2 HSET HOD HB29 HB49 HX9 ⊢
      clear hw9 b29 m0 m1 z0 z1 c1' c2' c1''
      go_loopw [45] (fun kv wr => ∃ (k : Nat), kv = .int .i64 k ∧ k ≤ dd.lost.length ∧ w9.grownBy wr (some gL) ∧ ODev 9 4 wr N0 (.slice X1 dd.sec.length x1) (.slice (some ⟨gL, 0, none⟩) dd.lost.length x2) ⟨dd.sec, List.replicate k true ++ List.replicate (dd.lost.length - k) false⟩) (fun kv _ => dd.lost.length - (intOf kv).toNat)
      case atStart => exact ⟨0, rfl, Nat.zero_le _, World.grownBy.refl _ _, by rw [List.replicate_zero, List.nil_append, Nat.sub_zero, ← HLL.out.2.2]; exact HOD.out⟩
      case round =>
        obtain ⟨k, rfl, hk, hgr, hod⟩ := hrel
        have hgg := HGB.out
        have hg9 := HGL9.out
        have b2c := hgr.cell (a := ⟨b2, 0, none⟩) (v := .slice (some ⟨g, 0, none⟩) 3 c3) (by have := HB29.out.cell 0; simpa using this) (by intro e; injection e with e; dsimp only at e; omega)
        have r1c := hgr.cell HC1.out (by intro e; injection e with e; dsimp only at e; omega)
        have r2c := hgr.cell HC2.out (by intro e; injection e with e; dsimp only at e; omega)
        have HGR := Lib.hid hgr
        have HOK := Lib.hid hod
        by_cases hlt : k < dd.lost.length
        · have hki : (k : Int) < (dd.lost.length : Int) := by omega
          have hll2 : (List.replicate k true ++ List.replicate (dd.lost.length - k) false).length = dd.lost.length := by simp; omega
          have h22 := hod.2.1
          simp only at h22
          rw [hll2] at h22
          obtain ⟨bv, ck⟩ : ∃ bv, wr.cell? ⟨gL, k, none⟩ = some (.bool bv) := ⟨_, (h22.cellAt k (by omega)).trans (flat_bool_get _ k (by rw [hll2]; exact hlt))⟩
          have zk := h22.frozenAt k
          have HK := Lib.hid (And.intro hlt hll2)
          clear hgr hod h22 hlt hll2 hk hgg hg9
          go_wp2_with fail
          go_roundw
          case rel =>
            refine ⟨k + 1, by first | rfl | go_num, by have := HK.out; omega, grown_also HGR.out (setRow_by _ gL k (.bool true)), ?_⟩
            have := HOK.out.setLost (by simp only; rw [HK.out.2]) (by decide) k true
            simp only at this
            rw [fill_step _ _ HK.out.1] at this
            exact this
          case measure => have := HK.out; (simp [intOf]; try omega)
        · obtain rfl : k = dd.lost.length := by omega
          have b4c := hgr.cell (a := ⟨b2 + 1, 0, none⟩) (v := .slice none 0 0) (by have := HB49.out.cell 0; simpa using this) (by intro e; injection e with e; dsimp only at e; omega)
          have hb4r : Blk_ wr (b2 + 1) 30 #[.slice none 0 0] := HB49.out.grown hgr (fun q hq => by obtain rfl := Option.some.inj hq; omega)
          have z4 := hb4r.frozen 0
          have HB4R := Lib.hid (hb4r.set 0 (.slice (some ⟨g, 0, none⟩) 3 c3))
          have hdv : RDev wr [.slice X1 dd.sec.length x1, .slice (some ⟨gL, 0, none⟩) dd.lost.length x2] (lostDev dd) := by
            have := hod.dev
            rw [Nat.sub_self, List.replicate_zero, List.append_nil] at this
            exact this
          have hfill := HSET.out.fill (by rw [List.length_set, HL3.out]; exact HM.out.2.2) hgr (by omega) HAV.out HC1.out HC2.out (hdv.newG HNEW.out.1 HNEW.out.2 hg9.2.1)
          rw [List.set_set] at hfill
          have HFILL := Lib.hid hfill
          have HXF := Lib.hid (HX9.out.grown hgr (fun q hq => by obtain rfl := Option.some.inj hq; have := HX4.out.size; have := HN0.out; omega))
          clear hgr hod hb4r hdv hfill hlt hk hgg hg9 r1c r2c
          go_wp2_with fail
          refine bodyPost_ret (res_cell_tmp rfl rfl HB4R.out Tryz.underlying30 rfl (by kernel_rfl)) rfl ?_
          rw [HRP.out]
          refine ⟨some ⟨g, 0, none⟩, c3, ?_, HXF.out.setCell (by have := H2.out; dsimp only; omega) _, ?_⟩
          · rw [List.length_set, HL3.out]; rfl
          · have h5 := (HFILL.out.far (p := ⟨b2 + 1, 0, none⟩) HGB.out.2.1 (.slice (some ⟨g, 0, none⟩) 3 c3)).base (base' := w.heap.size) (by have := HGB.out; have := H2.out; omega)
            simp only
            rw [List.length_set, HL3.out]
            exact h5
    · have HRP := Lib.hid (repl_range hmay hrg)
      have b4c := HB4.out.cell 0
      have z4 := HB4.out.frozen 0
      simp at b4c
      have HB4R := Lib.hid (HB4.out.set 0 (.slice none 0 0))
      have hcs : (decide (d0 < 0) = true) ∨ (decide (d0 < 0) = false ∧ (3 : Int) ≤ d0) := by
        by_cases hn : d0 < 0
        · exact .inl (decide_eq_true hn)
        · exact .inr ⟨decide_eq_false hn, by omega⟩
      clear hrg hmay
      rcases hcs with t1 | ⟨t1, t2⟩
      · go_wp2_with fail
        refine bodyPost_ret (res_cell_tmp rfl rfl HB4R.out Tryz.underlying30 rfl (by kernel_rfl)) rfl ?_
        rw [HRP.out]
        exact ⟨none, 0, rfl, HX2.out.setCell (by have := H2.out; dsimp only; omega) _, OArr.nil _ _ _⟩
      · go_wp2_with fail
        refine bodyPost_ret (res_cell_tmp rfl rfl HB4R.out Tryz.underlying30 rfl (by kernel_rfl)) rfl ?_
        rw [HRP.out]
        exact ⟨none, 0, rfl, HX2.out.setCell (by have := H2.out; dsimp only; omega) _, OArr.nil _ _ _⟩
  · have hmf : arrMay a = false := by simpa using hmay
    rw [arrCode_false hmf]
    have HRP := Lib.hid (repl_state (d := d0) hmf)
    have b4c := HB4.out.cell 0
    have z4 := HB4.out.frozen 0
    simp at b4c
    have HB4R := Lib.hid (HB4.out.set 0 (.slice none 0 0))
    clear hmay hmf
    go_wp2_with fail
    refine bodyPost_ret (res_cell_tmp rfl rfl HB4R.out Tryz.underlying30 rfl (by kernel_rfl)) rfl ?_
    rw [HRP.out]
    exact ⟨none, 0, rfl, HX2.out.setCell (by have := H2.out; dsimp only; omega) _, OArr.nil _ _ _⟩
end Go.Proofs.YtgjijcgkmofaaaaGreatDoor

/-
  A device that is hurt: sectors lost, bytes turned (of no sector twice), the device replaced; what it tells then is right. In plain Lean. Conditions: the acts are within the device.
-/
namespace Go.Proofs.YtgjijcgkmofaaaaGreatDoor
set_option linter.unusedSimpArgs false
set_option linter.unusedVariables false
open Go.RowKit

/-- What an act does. -/
def hurtOne (a : List Dev) (x : HA) : List Dev :=
  if x.kind = 6 then a.set x.d (lostDev (devAt (dv a 0).sec.length x.d))
  else if x.kind = 5 then (if (turnS (dv a x.d) x.n x.at_ x.by_).2 = 0 then a.set x.d (turnS (dv a x.d) x.n x.at_ x.by_).1 else a)
  else loseOne a x
def hurtAll (a : List Dev) (l : List HA) : List Dev := l.foldl hurtOne a
theorem hurtAll_snoc (a : List Dev) (l : List HA) (k : Nat) (h : k < l.length) : hurtAll a (l.take (k + 1)) = hurtOne (hurtAll a (l.take k)) l[k] := by
  unfold hurtAll
  rw [List.take_succ_eq_append_getElem h, List.foldl_append]
  rfl
/-- The sectors that are turned. -/
def turned (l : List HA) : List Int := (l.filter fun x => decide (x.kind = 5)).map (·.n)
theorem turned_snoc (l : List HA) (x : HA) : turned (l ++ [x]) = turned l ++ (if x.kind = 5 then [x.n] else []) := by
  unfold turned
  rw [List.filter_append, List.map_append]
  congr 1
  by_cases h : x.kind = 5
  · simp [h]
  · simp [h]
theorem turned_cons (l : List HA) (x : HA) : turned (x :: l) = (if x.kind = 5 then [x.n] else []) ++ turned l := by
  unfold turned
  by_cases h : x.kind = 5
  · simp [h]
  · simp [h]
/-- An act that hurts sectors of device k. -/
def ActOk (k sz : Nat) (x : HA) : Prop := x.d = k ∧ (x.kind = 4 ∨ x.kind = 5 ∨ x.kind = 6) ∧ 0 ≤ x.n ∧ x.n < sz ∧ 0 ≤ x.at_ ∧ x.at_ ≤ 29 ∧ 0 ≤ x.by_ ∧ x.by_ ≤ 255
/-- A device of which each sector is lost, or as it was written, or turned once. -/
def DInv (d : Dev) (sz : Nat) (no : Nat → Int) (ex : Nat → ByteArray) (T : List Int) : Prop :=
  devMay d = true ∧ d.sec.length = sz ∧ ∀ n : Nat, n < sz → d.lost.getD n false = true ∨ ((n : Int) ∉ T ∧ Sound d n (no n) (ex n)) ∨
    ((n : Int) ∈ T ∧ d.lost.getD n false = false ∧ ∃ p b : Int, 0 ≤ p ∧ p ≤ 29 ∧ 0 ≤ b ∧ b ≤ 255 ∧ d.sec.getD n .empty = turnB (encodeS (no n) (ex n)).1 p b)
theorem turnB_zero (s : ByteArray) (p : Int) (h0 : 0 ≤ p) (h1 : p < s.size) : turnB s p 0 = s := by
  unfold turnB
  have hb := u8_bd (at_ s p.toNat)
  rw [Int.add_zero, Int.emod_eq_of_lt hb.1 hb.2, byte_u8]
  have hl : p.toNat < (lst s).length := by rw [length_lst]; omega
  have : (lst s).set p.toNat (at_ s p.toNat) = lst s := by
    apply List.ext_getElem?
    intro i
    rw [List.getElem?_set]
    split
    · rename_i hi
      subst hi
      rw [at_lst, List.getD_eq_getElem?_getD, List.getElem?_eq_getElem hl]
      rfl
    · rfl
  rw [this, bs_lst]
theorem DInv.read {d : Dev} {sz : Nat} {no : Nat → Int} {ex : Nat → ByteArray} {T : List Int} (h : DInv d sz no ex T) (hno : ∀ n, n < sz → 0 ≤ no n ∧ no n ≤ 65535) (hex : ∀ n, n < sz → (ex n).size = 24) {n : Nat} (hn : n < sz) : readS d n (no n) = (ex n, 0) ∨ (readS d n (no n)).2 ≠ 0 := by
  obtain ⟨hm, hl, hs⟩ := h
  have ht : touchCode d n = 0 := touch_iff.2 ⟨hm, by omega, by omega⟩
  obtain ⟨n0, n1⟩ := hno n hn
  have hz := hex n hn
  rcases hs n hn with h | ⟨_, h⟩ | ⟨_, hlo, p, b, p0, p1, b0, b1, h⟩
  · right
    rw [read_eq _ ht, show ((n : Int)).toNat = n from rfl, h, if_pos rfl]
    show (11 : Int) ≠ 0
    decide
  · left
    exact h.read ht n0 n1 hz
  · rw [read_eq _ ht, show ((n : Int)).toNat = n from rfl, hlo, if_neg (by decide), h]
    by_cases hb : b = 0
    · left
      subst hb
      rw [turnB_zero _ _ p0 (by rw [encodeS_size n0 n1 (by omega)]; omega), decode_encode _ _ _ n0 n1 (by omega), if_pos rfl, padS_full hz]
    · right
      unfold turnB
      rw [decode_spoilt (no n) (no n) (ex n) n0 n1 (by omega) p.toNat (by omega) _ (by
        intro he
        have := byte_toNat ((((at_ (encodeS (no n) (ex n)).1 p.toNat).toNat : Int) + b) % 256) (by omega) (by omega)
        rw [he] at this
        have hb2 := u8_bd (at_ (encodeS (no n) (ex n)).1 p.toNat)
        omega)]
      show (10 : Int) ≠ 0
      decide
theorem DInv.lose {d : Dev} {sz : Nat} {no : Nat → Int} {ex : Nat → ByteArray} {T : List Int} (h : DInv d sz no ex T) {n : Nat} (hn : n < sz) : DInv (loseS d n) sz no ex T := by
  obtain ⟨hm, hl, hs⟩ := h
  have ht : touchCode d n = 0 := touch_iff.2 ⟨hm, by omega, by omega⟩
  obtain ⟨m1, m2, m3, _⟩ := devMay_len hm
  refine ⟨lose_may ht, by rw [lose_len ht]; exact hl, fun i hi => ?_⟩
  rw [loseS_ok ht]
  by_cases he : n = i
  · subst he
    left
    exact getD_set_self _ _ _ _ (by show n < d.lost.length; omega)
  · have e1 : (d.lost.set ((n : Int)).toNat true).getD i false = d.lost.getD i false := getD_set_ne _ _ _ _ _ (by simpa using he)
    rcases hs i hi with h | ⟨h1, h2⟩ | ⟨h1, h2, h3⟩
    · left; exact e1.trans h
    · right; left; exact ⟨h1, h2.1, e1.trans h2.2⟩
    · right; right; exact ⟨h1, e1.trans h2, h3⟩
theorem DInv.turn {d : Dev} {sz : Nat} {no : Nat → Int} {ex : Nat → ByteArray} {T : List Int} (h : DInv d sz no ex T) {n : Nat} (hn : n < sz) (hT : (n : Int) ∉ T) {p b : Int} (hp : 0 ≤ p ∧ p ≤ 29) (hb : 0 ≤ b ∧ b ≤ 255) :
    (turnS d n p b).2 = 0 ∧ DInv (turnS d n p b).1 sz no ex ((n : Int) :: T) := by
  obtain ⟨hm, hl, hs⟩ := h
  have ht : touchCode d n = 0 := touch_iff.2 ⟨hm, by omega, by omega⟩
  have hk := turn_may ht hp hb
  have e := turnS_ok ht hp hb
  refine ⟨by rw [e], hk.1, by rw [hk.2]; exact hl, fun i hi => ?_⟩
  rw [e]
  by_cases he : n = i
  · subst he
    rcases hs n hn with h | ⟨h1, h2⟩ | ⟨h1, _⟩
    · left; exact h
    · right; right
      refine ⟨List.mem_cons_self, h2.2, p, b, hp.1, hp.2, hb.1, hb.2, ?_⟩
      show (d.sec.set ((n : Int)).toNat _).getD n .empty = _
      rw [show ((n : Int)).toNat = n from rfl, getD_set_self _ _ _ _ (by omega), h2.1]
    · exact absurd h1 hT
  · have e1 : (d.sec.set ((n : Int)).toNat (turnB (d.sec.getD ((n : Int)).toNat .empty) p b)).getD i .empty = d.sec.getD i .empty := getD_set_ne _ _ _ _ _ (by simpa using he)
    have hmem : (i : Int) ∈ (n : Int) :: T ↔ (i : Int) ∈ T := by
      constructor
      · intro h
        rcases List.mem_cons.1 h with h | h
        · omega
        · exact h
      · intro h; exact List.mem_cons_of_mem _ h
    rcases hs i hi with h | ⟨h1, h2⟩ | ⟨h1, h2, p', b', q0, q1, q2, q3, q4⟩
    · left; exact h
    · right; left; exact ⟨fun h => h1 (hmem.1 h), e1.trans h2.1, h2.2⟩
    · right; right; exact ⟨hmem.2 h1, h2, p', b', q0, q1, q2, q3, e1.trans q4⟩
theorem lost_inv {d : Dev} (hm : devMay d = true) (no : Nat → Int) (ex : Nat → ByteArray) (T : List Int) : DInv (lostDev d) d.sec.length no ex T := by
  obtain ⟨m1, m2, m3, _⟩ := devMay_len hm
  refine ⟨devMay_lost hm _ (by simp), rfl, fun n hn => ?_⟩
  left
  show (List.replicate d.lost.length true).getD n false = true
  rw [List.getD_eq_getElem?_getD, List.getElem?_replicate, if_pos (by omega)]
  rfl
/-- An array of which one device is hurt. -/
structure HInv (a b : List Dev) (m k : Nat) (no : Nat → Int) (ex : Nat → ByteArray) (T : List Int) : Prop where
  good : Good b m
  others : ∀ j, j ≠ k → dv b j = dv a j
  dev : DInv (dv b k) (dv a k).sec.length no ex T
theorem dv_set (a : List Dev) {k : Nat} (h : k < a.length) (d : Dev) (j : Nat) : dv (a.set k d) j = if j = k then d else dv a j := by
  by_cases hj : j = k
  · subst hj; rw [if_pos rfl, dv_set_self h]
  · rw [if_neg hj, dv_set_ne _ (fun e => hj e.symm)]
theorem HInv.put {a b : List Dev} {m k : Nat} {no : Nat → Int} {ex : Nat → ByteArray} {T T' : List Int} (h : HInv a b m k no ex T) (hk : k < 3) {d : Dev} (hd : DInv d (dv a k).sec.length no ex T') : HInv a (b.set k d) m k no ex T' := by
  have hb := h.good.len
  refine ⟨h.good.dev hk hd.1 (by rw [hd.2.1, h.dev.2.1]), fun j hj => ?_, ?_⟩
  · rw [dv_set b (by omega), if_neg hj]; exact h.others j hj
  · rw [dv_set b (by omega), if_pos rfl]; exact hd
theorem devAt_may {m : Nat} (h16 : 16 ≤ m) (h64 : m ≤ 64) (k : Nat) : devMay (devAt m k) = true := by
  unfold devAt
  split
  · exact fresh_may _ _ (by omega) (by omega) (by omega) (by omega)
  · exact fresh_may _ _ (by omega) (by omega) (by omega) (by omega)
theorem Good.devAt_len {a : List Dev} {m : Nat} (h : Good a m) {k : Nat} (hk : k < 3) : (devAt m k).sec.length = (dv a k).sec.length := by
  match k, hk with
  | 0, _ => rw [h.l0]; exact fresh_len _ _
  | 1, _ => rw [h.l1]; exact fresh_len _ _
  | 2, _ => rw [h.l2]; exact fresh_len _ _
theorem HInv.step {a b : List Dev} {m k : Nat} {no : Nat → Int} {ex : Nat → ByteArray} {T : List Int} (ha : Good a m) (h16 : 16 ≤ m) (h64 : m ≤ 64) (h : HInv a b m k no ex T) (hk : k < 3) {x : HA} (hx : ActOk k (dv a k).sec.length x) (hT : x.kind = 5 → x.n ∉ T) :
    HInv a (hurtOne b x) m k no ex (if x.kind = 5 then x.n :: T else T) := by
  obtain ⟨hd, hkd, n0, n1, p0, p1, b0, b1⟩ := hx
  obtain ⟨n, hn⟩ := Int.eq_ofNat_of_zero_le n0
  have hl := h.dev.2.1
  have ht : touchCode (dv b k) n = 0 := touch_iff.2 ⟨h.dev.1, by omega, by omega⟩
  unfold hurtOne
  rcases hkd with hk4 | hk5 | hk6
  · rw [if_neg (by omega), if_neg (by omega), if_neg (by omega)]
    unfold loseOne
    rw [hd, hn, if_pos ht]
    exact h.put hk (h.dev.lose (by omega))
  · rw [if_neg (by omega), if_pos hk5, if_pos hk5]
    have htu := h.dev.turn (n := n) (by omega) (by rw [← hn]; exact hT hk5) ⟨p0, p1⟩ ⟨b0, b1⟩
    rw [hd, hn, if_pos htu.1]
    exact h.put hk htu.2
  · rw [if_pos hk6, if_neg (by omega), hd, h.good.l0]
    have hdm := devAt_may h16 h64 k
    have hlen := ha.devAt_len hk
    refine h.put hk ?_
    have := lost_inv hdm no ex T
    rw [hlen] at this
    exact this
theorem HInv.all {a : List Dev} {m k : Nat} {no : Nat → Int} {ex : Nat → ByteArray} (ha : Good a m) (h16 : 16 ≤ m) (h64 : m ≤ 64) (hk : k < 3) : ∀ (l : List HA) (b : List Dev) (T : List Int), HInv a b m k no ex T → (∀ x ∈ l, ActOk k (dv a k).sec.length x) → (turned l).Nodup → (∀ n ∈ turned l, n ∉ T) → ∃ T', HInv a (hurtAll b l) m k no ex T'
  | [], b, T, h, _, _, _ => ⟨T, h⟩
  | x :: l, b, T, h, hx, hn, hT => by
    rw [turned_cons] at hn hT
    have hs := h.step ha h16 h64 hk (hx x List.mem_cons_self) (fun h5 => hT x.n (by rw [if_pos h5]; simp))
    refine HInv.all ha h16 h64 hk l (hurtOne b x) _ hs (fun y hy => hx y (List.mem_cons_of_mem _ hy)) ?_ ?_
    · exact (List.nodup_append.1 hn).2.1
    · intro n hn2
      by_cases h5 : x.kind = 5
      · rw [if_pos h5] at hn hT ⊢
        intro hmem
        rcases List.mem_cons.1 hmem with he | he
        · exact (List.nodup_append.1 hn).2.2 x.n (by simp) n hn2 he.symm
        · exact hT n (by simp [hn2]) he
      · rw [if_neg h5] at hT ⊢
        exact hT n (by simpa using hn2)
/-- The number and the payload of a sector of device k. -/
def noOf (k n : Nat) : Int := if k = 2 then 512 + n else n
def exOf (all : List ByteArray) (k n : Nat) : ByteArray := if k = 2 then pp all n else pl all n
/-- ArraysStand. -/
theorem keep_stand {a : List Dev} {m : Nat} {all : List ByteArray} (h : Full a m all) (h16 : 16 ≤ m) (h64 : m ≤ 64) (h2 : m % 2 = 0) {k : Nat} (hk : k < 3) {l : List HA} (hl : ∀ x ∈ l, ActOk k (dv a k).sec.length x) (hn : (turned l).Nodup) :
    Part (hurtAll a l) m all ∧ ∀ i : Nat, i < m → ∃ how : Int, arrReadS (hurtAll a l) i = (pl all i, how, 0) ∧ (how = 1 ∨ (how = 2 ∧ k = 0)) := by
  have hlen : ∀ j, j < 3 → (dv a j).sec.length = if j = 2 then m / 2 else m := by
    intro j hj
    match j, hj with
    | 0, _ => exact h.good.l0
    | 1, _ => exact h.good.l1
    | 2, _ => exact h.good.l2
  have hmay : ∀ j, j < 3 → devMay (dv a j) = true := by
    intro j hj
    match j, hj with
    | 0, _ => exact h.good.m0
    | 1, _ => exact h.good.m1
    | 2, _ => exact h.good.m2
  have hsound : ∀ j, j < 3 → ∀ n : Nat, n < (dv a j).sec.length → Sound (dv a j) n (noOf j n) (exOf all j n) := by
    intro j hj n hnl
    rw [hlen j hj] at hnl
    match j, hj with
    | 0, _ => exact h.s0 n hnl
    | 1, _ => exact h.s1 n hnl
    | 2, _ => exact h.s2 n hnl
  have h0 : HInv a a m k (noOf k) (exOf all k) [] := ⟨h.good, fun _ _ => rfl, hmay k hk, rfl, fun n hnl => .inr (.inl ⟨by simp, hsound k hk n hnl⟩)⟩
  obtain ⟨T, hb⟩ := HInv.all h.good h16 h64 hk l a [] h0 hl hn (fun _ _ => by simp)
  obtain ⟨r0, r1, r2⟩ := h.reads h64
  have hno : ∀ n, n < (dv a k).sec.length → 0 ≤ noOf k n ∧ noOf k n ≤ 65535 := by
    intro n hnl
    rw [hlen k hk] at hnl
    unfold noOf
    split at hnl <;> split <;> omega
  have hex : ∀ n, n < (dv a k).sec.length → (exOf all k n).size = 24 := by
    intro n hnl
    rw [hlen k hk] at hnl
    unfold exOf
    split
    · rename_i h2'; rw [if_pos h2'] at hnl; exact pp_size h.size hnl
    · rename_i h2'; rw [if_neg h2'] at hnl; exact h.size n hnl
  have hrd : ∀ n : Nat, n < (dv a k).sec.length → readS (dv (hurtAll a l) k) n (noOf k n) = (exOf all k n, 0) ∨ (readS (dv (hurtAll a l) k) n (noOf k n)).2 ≠ 0 := fun n hnl => hb.dev.read hno hex hnl
  have hp : Part (hurtAll a l) m all := by
    refine ⟨hb.good, h.len, h.size, fun n hnm hc => ?_, fun n hnm hc => ?_, fun n hnm hc => ?_⟩
    · by_cases hk0 : k = 0
      · subst hk0
        rcases hrd n (by rw [hlen 0 hk]; exact hnm) with e | e
        · have e' : readS (dv (hurtAll a l) 0) n n = (pl all n, 0) := e
          rw [e']
        · exact absurd hc e
      · rw [hb.others 0 (fun e => hk0 e.symm), r0 n hnm]
    · by_cases hk0 : k = 1
      · subst hk0
        rcases hrd n (by rw [hlen 1 hk]; exact hnm) with e | e
        · have e' : readS (dv (hurtAll a l) 1) n n = (pl all n, 0) := e
          rw [e']
        · exact absurd hc e
      · rw [hb.others 1 (fun e => hk0 e.symm), r1 n hnm]
    · by_cases hk0 : k = 2
      · subst hk0
        rcases hrd n (by rw [hlen 2 hk]; exact hnm) with e | e
        · have e' : readS (dv (hurtAll a l) 2) n (512 + n : Int) = (pp all n, 0) := e
          rw [e']
        · exact absurd hc e
      · rw [hb.others 2 (fun e => hk0 e.symm), r2 n hnm]
  refine ⟨hp, fun i hi => ?_⟩
  rcases hp.read h16 h64 h2 hi with ⟨_, e⟩ | ⟨c0, _, e⟩ | ⟨c0, c1, _⟩
  · exact ⟨1, e, .inl rfl⟩
  · refine ⟨2, e, .inr ⟨rfl, ?_⟩⟩
    by_cases hk0 : k = 0
    · exact hk0
    · rw [hb.others 0 (fun e => hk0 e.symm), r0 i hi] at c0
      exact absurd rfl c0
  · by_cases hk0 : k = 0
    · rw [hb.others 1 (by omega), r1 i hi] at c1
      exact absurd rfl c1
    · rw [hb.others 0 (fun e => hk0 e.symm), r0 i hi] at c0
      exact absurd rfl c0
end Go.Proofs.YtgjijcgkmofaaaaGreatDoor

/-
  arraskeep.hurt: devices of an array lose sectors, bytes of them are turned, they are replaced. Conditions: the array may be, each act is one of these, of one of the three devices.
-/
namespace Go.Proofs.YtgjijcgkmofaaaaGreatDoor
set_option linter.unusedSimpArgs false
set_option linter.unusedVariables false
open Go.RowKit

theorem hurtOne_good {a : List Dev} {m : Nat} (h : Good a m) (h16 : 16 ≤ m) (h64 : m ≤ 64) {x : HA} (hx : x.d < 3) : Good (hurtOne a x) m := by
  unfold hurtOne
  split
  · rw [h.l0]
    refine h.dev hx (devMay_lost (devAt_may h16 h64 _) _ (by simp)) ?_
    exact h.devAt_len hx
  · split
    · split
      · rename_i h1 h2
        have ht : touchCode (dv a x.d) x.n = 0 ∧ (inB x.at_ 0 29 && inB x.by_ 0 255) = true := by
          unfold turnS at h2
          split at h2
          · rename_i h3
            refine ⟨h3, ?_⟩
            split at h2
            · rename_i h4; exact h4
            · exact absurd h2 (by show ¬ (2 : Int) = 0; decide)
          · rename_i h3
            exact absurd h2 h3
        have h5 := ht.2
        simp [inB] at h5
        have hk := turn_may ht.1 (place := x.at_) (by_ := x.by_) (by omega) (by omega)
        exact h.dev hx hk.1 hk.2
      · exact h
    · exact loseOne_good h hx
end Go.Proofs.YtgjijcgkmofaaaaGreatDoor
