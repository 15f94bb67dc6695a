/-
  ArchivesBack: files that were added are got as they were; those of others are not. Conditions: the argument reads as a list of raw numbers; the table of powers of ten that the library reads is in place.
-/
import Derived.Test.YtgjijcgkmofaaaaGreatDoorK25
namespace Go.Proofs.YtgjijcgkmofaaaaGreatDoor
set_option linter.unusedSimpArgs false
set_option linter.unusedVariables false
open Go.RowKit

theorem hs_up {w w' : World} {v : Value} {l : List ByteArray} (h : SlR 1 16 RStr w v l) (k : Ext w w') : SlR 1 16 RStr w' v l := h.ext RStr.stays k
theorem row_fil {w : World} {A : Option Addr} {c : Nat} {L : List Fil} (h : SlR 2 32 RFil w (.slice A L.length c) L) : ∀ k, k < L.length → ∃ b o f, A = some ⟨b, o, none⟩ ∧ f ∈ L ∧ w.cell? ⟨b, o + k * 2, none⟩ = some (.string f.name) ∧ w.cell? ⟨b, o + k * 2 + 1, none⟩ = some (.string f.data) := by
  intro k hk
  obtain ⟨A', c', he, _, _, hrow⟩ := h.rowE encFil_ok
  injection he with he1 he2 he3
  subst he1
  obtain ⟨b, o, rfl, hc⟩ := hrow k hk
  exact ⟨b, o, L[k], rfl, List.getElem_mem hk, hc k hk 0 _ rfl, hc k hk 1 _ rfl⟩
theorem containsStr_any (v : Value) (l : List ByteArray) (x : ByteArray) (w : World) (h : SlR 1 16 RStr w v l) (hx : x ∈ l) :
    Calls Tryz.prog 26 #[v, .string x] w fun e w' => e = .returned (.bool true) ∧ w' = w := by
  obtain ⟨A, c, rfl, hl, hc, r⟩ := h.row
  have hpos : 0 < l.length := List.length_pos_of_mem hx
  obtain ⟨b, o, rfl, g⟩ := r 0 hpos
  refine (Tryz.slices_Contains_string b o l.length c l x w (Nat.le_refl _) (by omega) (fun j hj => ?_)).mono ?_
  · obtain ⟨u, hu, hr⟩ := g j hj
    obtain rfl := hr.val
    rw [hu, List.getD_eq_getElem?_getD, List.getElem?_eq_getElem hj]
    rfl
  · rintro e w' ⟨rfl, hw⟩
    rw [List.take_length, (Lib.containsS_iff l x).2 hx]
    exact ⟨rfl, hw⟩
set_option maxRecDepth 100000 in
set_option maxHeartbeats 8000000 in
theorem lawArchivesBack_any (v : Value) (l : List Raw4) (many : Int) (w : World) (h : SlR 4 32 RRaw w v l) (hm : I64 many) (ht : Tab w) :
    Calls Tryz.prog 6 #[v, .int .i64 many] w fun e w' => e = .returned (.bool true) ∧ Ext w w' := by
  have HI := Lib.hid hm
  have HT := Lib.hid ht
  have HH := Lib.hid h
  clear hm ht h
  go_enter Tryz.func6, Tryz.ntmps6
  go_wp2_with fail
  refine (keepSectors_any many w HI.out).mono ?_
  rintro e wz ⟨m, rfl, hw, hm1, hm2, hm3⟩
  obtain rfl := hw.symm
  have HM := Lib.hid (show 16 ≤ m ∧ m ≤ 64 ∧ m % 2 = 0 from ⟨by omega, by omega, hm3⟩)
  have hmI : (m : Int) ≤ 62 := by omega
  clear hm1 hm2 hm3
  go_wp2_with fail
  have hna := new_arr HM.out.1 HM.out.2.1 HM.out.2.2
  refine (archNew_any (m : Int) w (by unfold I64; omega)).mono ?_
  obtain ⟨a, ha⟩ : ∃ a, a = (newArrS (m : Int)).1 := ⟨_, rfl⟩
  have h20 : (newArrS (m : Int)).2 = 0 := by rw [hna]
  have ha3 : a.length = 3 := by rw [ha, hna]; rfl
  rw [h20, ← ha, ha3]
  have HA := Lib.hid ha
  rintro e w1 ⟨A, c, rfl, hx1, ho1⟩
  have HX1 := Lib.hid hx1
  have HR1 := Lib.hid (ho1.rarr (by omega))
  have HA3 := Lib.hid ha3
  clear hx1 ho1 hna h20 ha ha3
  go_wp2_with fail
  refine calls_abs (fun W => Ext w1 W ∧ Blk_ W w1.heap.size 30 #[.slice A 3 c]) ⟨(Ext.refl _).alloc _, Blk_.new _ _ _⟩ ?_
  rintro w2 ⟨hx2, hb2⟩
  obtain ⟨b5, h5⟩ : ∃ b, b = w1.heap.size := ⟨_, rfl⟩
  rw [← h5] at hb2 ⊢
  have HX2 := Lib.hid (HX1.out.trans hx2)
  have HB2 := Lib.hid hb2
  have HR2 := Lib.hid (HR1.out.up hx2)
  clear hx2 hb2 h5 HX1 HR1
  have hfl := files_any v l 0 3 w2 (HH.out.ext RRaw.stays HX2.out) (by decide) (HT.out.ext HX2.out)
  refine hfl.mono ?_
  clear hfl
  rintro e w3 ⟨A7, c7, L, rfl, hx3, ho3, hl3, hok⟩
  have HX3 := Lib.hid (HX2.out.trans hx3)
  have HB3 := Lib.hid (HB2.out.ext hx3)
  have HR3 := Lib.hid (HR2.out.up hx3)
  have HOK := Lib.hid hok
  have HL := Lib.hid (show L.length ≤ 3 by omega)
  have hFS : SlR 2 32 RFil w3 (.slice A7 L.length c7) L := SlR.of_own encFil_ok ho3 (by omega) (fun f hf => by
    obtain ⟨i, hi, rfl⟩ := List.getElem_of_mem hf
    obtain ⟨e1, e2⟩ := hok i hi
    exact ⟨rfl, by rw [e1]; show (2 : Nat) ≤ _; decide, by omega⟩)
  have HFS := Lib.hid hFS
  clear hx3 ho3 hl3 hok hFS HX2 HB2 HR2
  have q5 := HB3.out.cell 0
  have l5 := HB3.out.lt
  simp at q5
  have hlI : (L.length : Int) ≤ 3 := by have := HL.out; omega
  by_cases hL0 : L.length = 0
  · have hLI : (L.length : Int) = 0 := by omega
    rw [hL0]
    go_wp2_with fail
    go_ret
    exact ⟨rfl, HX3.out⟩
  · have hLI : ¬ (L.length : Int) = 0 := by omega
    have hb0 : ((L.length : Int) == 0) = false := by simpa using hLI
    have HBF := Lib.hid (back_facts HM.out.1 HM.out.2.1 HM.out.2.2 HOK.out (by omega) HL.out)
    have h1L : 1 ≤ L.length := by omega
    have HF1 := Lib.hid (HFS.out.take 1 h1L)
    have h1c : 1 ≤ c7 := by obtain ⟨A', c', e, _, hc, _⟩ := HFS.out; injection e with _ _ e; omega
    have h1cI : (1 : Int) ≤ (c7 : Int) := by omega
    clear hL0
    rw [← HA.out] at HBF
    go_wp2_with fail
    obtain ⟨_, _, hf1, hf2, hf3, hf4⟩ := HBF.out
    refine (archAdd_any [.slice A 3 c] a (.slice A7 L.length c7) L w3 HR3.out HFS.out (fun _ => hf1) (fun _ => hf2) (fun _ _ => hf3)).mono ?_
    clear hf1 hf2 hf3 HBF
    rintro e w4 ⟨A8, c8, rfl, hx4, ho4⟩
    rcases hf4 with hc | ⟨hc, x, hx, hx3, hxf, hxm, hxu, hxt, hxo, hxn, hxz, hxg⟩
    · rw [hc]
      have HX4 := Lib.hid (HX3.out.trans hx4)
      clear hc hx4 ho4
      go_wp2_with fail
      go_ret
      exact ⟨rfl, HX4.out.alloc _⟩
    · rw [hc, ← hx, hx3]
      rw [← hx, hx3] at ho4
      have HXF := Lib.hid (And.intro hxf (And.intro hxm (And.intro hxu hxt)))
      have HNM := Lib.hid (And.intro hxn (And.intro hxo (And.intro hxz hxg)))
      have HX4 := Lib.hid (HX3.out.trans hx4)
      have HR4 := Lib.hid (ho4.rarr (by omega))
      have HX34 := Lib.hid hx4
      have HX3L := Lib.hid hx3
      clear hc hx hx3 hxf hxm hxu hxt hxo hxn hxz hxg hx4 ho4 q5 l5
      go_wp2_with fail
      refine wp_abs (fun W => Ext w4 W ∧ Blk_ W w4.heap.size 30 #[.slice A8 3 c8]) ⟨(Ext.refl _).alloc _, Blk_.new _ _ _⟩ ?_
      rintro w5 ⟨hx5, hb5⟩
      obtain ⟨b8, h8⟩ : ∃ b, b = w4.heap.size := ⟨_, rfl⟩
      rw [← h8] at hb5 ⊢
      have hb8c := hb5.cell 0
      have HL8 := Lib.hid hb5.lt
      simp at hb8c
      have HX58 := Lib.hid (HX34.out.trans hx5)
      have HX5 := Lib.hid (HX4.out.trans hx5)
      have HR8 := Lib.hid (HR4.out.up hx5)
      have HF1 := Lib.hid (HF1.out.ext RFil.stays HX58.out)
      have HX58 := Lib.hid (Ext.refl w5)
      have HROW := Lib.hid (row_fil (HFS.out.ext RFil.stays (HX34.out.trans hx5)))
      have HX59 := Lib.hid (Ext.refl w5)
      clear hx5 hb5 h8 HX34
      refine wp_region_all (S := fun W' => W'.cell? ⟨b8, 0, none⟩ = some (.slice A8 3 c8)) (by kernel_rfl) ?_
      have hS0 : (fun W' => W'.cell? ⟨b8, 0, none⟩ = some (.slice A8 3 c8)) w5.drew := hb8c
      refine wpAnyH_takeL (i := 0) (v := ?_) rfl (by kernel_rfl) (fun _ _ _ h => h) rfl ?_ hS0 ?_
      rotate_left
      · intro w' hS
        try dsimp only at hS
        go_simp
        rfl
      try simp only [Act.put, List.setIfInBounds_toArray, List.set_cons_zero, List.set_cons_succ]
      refine wpAnyH_takeL (i := 1) (v := ?_) rfl (by kernel_rfl) (fun _ _ _ h => h) rfl ?_ hS0 ?_
      rotate_left
      · intro w' hS
        try dsimp only at hS
        go_simp
        rfl
      try simp only [Act.put, List.setIfInBounds_toArray, List.set_cons_zero, List.set_cons_succ]
      refine wpAnyH_takeL (i := 2) (v := ?_) rfl (by kernel_rfl) (fun _ _ _ h => h) rfl ?_ hS0 ?_
      rotate_left
      · intro w' hS
        try dsimp only at hS
        go_simp
        rfl
      try simp only [Act.put, List.setIfInBounds_toArray, List.set_cons_zero, List.set_cons_succ]
      refine anyH_abs (fun W => Ext w5 W) ((Ext.refl w5).drew) ?_
      clear hS0
      rintro wp hxp
      refine wpAnyH_twoL (i := 3) (j := 7) rfl rfl (by kernel_rfl) rfl rfl (fun K hK => ?_) (fun K hK => ?_)
      focus
        go_wp2_with fail
        refine (archAdd_any [.slice A8 3 c8] x (.slice A7 1 c7) (L.take 1) wp (HR8.out.up (HX58.out.trans hxp)) (HF1.out.ext RFil.stays (HX58.out.trans hxp)) (fun _ => HXF.out.1) (fun _ => HXF.out.2.1) (fun _ _ => HXF.out.2.2.1)).mono ?_
        rw [HXF.out.2.2.2]
        rintro e wq ⟨A10, c10, rfl, hxq, ho10⟩
        clear ho10
        simp only [List.length_nil]
        refine hK _ _ ((hxp.trans hxq).cell hb8c) ?_
        clear hK K
        try simp only [Act.put, List.setIfInBounds_toArray, List.set_cons_zero, List.set_cons_succ]
        refine anyH_abs (fun W => Ext w5 W) (hxp.trans hxq) ?_
        clear hxp hxq
        rintro wp hxp
        have hS1 : (fun W' => W'.cell? ⟨b8, 0, none⟩ = some (.slice A8 3 c8)) wp := hxp.cell hb8c
        refine wpAnyH_takeL (i := 4) (v := ?_) rfl (by kernel_rfl) (fun _ _ _ h => h) rfl ?_ hS1 ?_
        rotate_left
        · intro w' hS
          try dsimp only at hS
          go_simp
          rfl
        try simp only [Act.put, List.setIfInBounds_toArray, List.set_cons_zero, List.set_cons_succ]
        refine wpAnyH_takeL (i := 5) (v := ?_) rfl (by kernel_rfl) (fun _ _ _ h => h) rfl ?_ hS1 ?_
        rotate_left
        · intro w' hS
          try dsimp only at hS
          go_simp
          rfl
        try simp only [Act.put, List.setIfInBounds_toArray, List.set_cons_zero, List.set_cons_succ]
        refine wpAnyH_takeL (i := 6) (v := ?_) rfl (by kernel_rfl) (fun _ _ _ h => h) rfl ?_ hS1 ?_
        rotate_left
        · intro w' hS
          try dsimp only at hS
          go_simp
          rfl
        try simp only [Act.put, List.setIfInBounds_toArray, List.set_cons_zero, List.set_cons_succ]
        clear hS1
        refine wpAnyH_oneL (i := 7) rfl (by kernel_rfl) rfl (fun K hK => ?_)
        go_wp2_with fail
        refine hK _ _ ((hxp.alloc _).cell hb8c) ?_
        clear hK K
        try simp only [Act.put, List.setIfInBounds_toArray, List.set_cons_zero, List.set_cons_succ]
        obtain ⟨b10, hb10⟩ : ∃ b, b = wp.heap.size := ⟨_, rfl⟩
        rw [← hb10]
        have hl10 : w5.heap.size ≤ b10 := by rw [hb10]; exact hxp.size
        refine anyH_abs (fun W => Ext w5 W ∧ Blk_ W b10 30 #[.slice none 0 0]) ⟨hxp.alloc _, by rw [hb10]; exact Blk_.new _ _ _⟩ ?_
        clear hxp hb10
        rintro wp ⟨hxp, h10⟩
      rotate_left
      focus
        go_wp2_with fail
        refine hK _ _ ((hxp.alloc _).cell hb8c) ?_
        clear hK K
        try simp only [Act.put, List.setIfInBounds_toArray, List.set_cons_zero, List.set_cons_succ]
        obtain ⟨b10, hb10⟩ : ∃ b, b = wp.heap.size := ⟨_, rfl⟩
        rw [← hb10]
        have hl10 : w5.heap.size ≤ b10 := by rw [hb10]; exact hxp.size
        refine anyH_abs (fun W => Ext w5 W ∧ Blk_ W b10 30 #[.slice none 0 0]) ⟨hxp.alloc _, by rw [hb10]; exact Blk_.new _ _ _⟩ ?_
        clear hxp hb10
        rintro wp ⟨hxp, h10⟩
        refine wpAnyH_oneL (i := 3) rfl (by kernel_rfl) rfl (fun K hK => ?_)
        go_wp2_with fail
        refine (archAdd_any [.slice A8 3 c8] x (.slice A7 1 c7) (L.take 1) wp (HR8.out.up (HX58.out.trans hxp)) (HF1.out.ext RFil.stays (HX58.out.trans hxp)) (fun _ => HXF.out.1) (fun _ => HXF.out.2.1) (fun _ _ => HXF.out.2.2.1)).mono ?_
        rw [HXF.out.2.2.2]
        rintro e wq ⟨A10, c10, rfl, hxq, ho10⟩
        clear ho10
        simp only [List.length_nil]
        refine hK _ _ ((hxp.trans hxq).cell hb8c) ?_
        clear hK K
        try simp only [Act.put, List.setIfInBounds_toArray, List.set_cons_zero, List.set_cons_succ]
        refine anyH_abs (fun W => Ext w5 W ∧ Blk_ W b10 30 #[.slice none 0 0]) ⟨hxp.trans hxq, h10.ext hxq⟩ ?_
        clear hxp hxq h10
        rintro wp ⟨hxp, h10⟩
        have hS1 : (fun W' => W'.cell? ⟨b8, 0, none⟩ = some (.slice A8 3 c8)) wp := hxp.cell hb8c
        refine wpAnyH_takeL (i := 4) (v := ?_) rfl (by kernel_rfl) (fun _ _ _ h => h) rfl ?_ hS1 ?_
        rotate_left
        · intro w' hS
          try dsimp only at hS
          go_simp
          rfl
        try simp only [Act.put, List.setIfInBounds_toArray, List.set_cons_zero, List.set_cons_succ]
        refine wpAnyH_takeL (i := 5) (v := ?_) rfl (by kernel_rfl) (fun _ _ _ h => h) rfl ?_ hS1 ?_
        rotate_left
        · intro w' hS
          try dsimp only at hS
          go_simp
          rfl
        try simp only [Act.put, List.setIfInBounds_toArray, List.set_cons_zero, List.set_cons_succ]
        refine wpAnyH_takeL (i := 6) (v := ?_) rfl (by kernel_rfl) (fun _ _ _ h => h) rfl ?_ hS1 ?_
        rotate_left
        · intro w' hS
          try dsimp only at hS
          go_simp
          rfl
        try simp only [Act.put, List.setIfInBounds_toArray, List.set_cons_zero, List.set_cons_succ]
        clear hS1
      rotate_left
      all_goals
        have f10 := h10.cell 0
        have z10 := h10.frozen 0
        have l10 := h10.lt
        simp at f10
        refine wpAnyH_oneL (i := 8) rfl (by kernel_rfl) rfl (fun K hK => ?_)
        go_wp2_with fail
        have hxq := hxp.setCell (p := ⟨b10, 0, none⟩) hl10 (.slice A10 0 c10)
        refine hK _ _ (hxq.cell hb8c) ?_
        clear hK K
        try simp only [Act.put, List.setIfInBounds_toArray, List.set_cons_zero, List.set_cons_succ]
        refine anyH_abs (fun W => Ext w5 W) hxq ?_
        clear hxp h10 hxq f10 z10 l10
        rintro wr hxp
        have hS2 : (fun W' => W'.cell? ⟨b8, 0, none⟩ = some (.slice A8 3 c8)) wr := hxp.cell hb8c
        refine wpAnyH_takeL (i := 9) (v := ?_) rfl (by kernel_rfl) (fun _ _ _ h => h) rfl ?_ hS2 ?_
        rotate_left
        · intro w' hS
          try dsimp only at hS
          go_simp
          rfl
        try simp only [Act.put, List.setIfInBounds_toArray, List.set_cons_zero, List.set_cons_succ]
        clear hS2
        refine wpAnyH_done (by kernel_rfl) ?_ _
        have q8 := hxp.cell hb8c
        have HXP := Lib.hid hxp
        clear hxp
        go_wp2_with fail
        refine (archNames_any [.slice A8 3 c8] x wr (HR8.out.up (HX58.out.trans HXP.out))).mono ?_
        rw [HNM.out.1, HNM.out.2.1]
        rintro e w7 ⟨A12, c12, rfl, hx7, hs7⟩
        have HX7 := Lib.hid (HXP.out.trans hx7)
        have HS7 := Lib.hid hs7
        clear hx7 hs7 q8
        have q8 := HX7.out.cell hb8c
        obtain ⟨NL, hNL⟩ : ∃ NL, NL = L.map (·.name) := ⟨_, rfl⟩
        rw [← hNL] at HS7 ⊢
        have HNL := Lib.hid hNL
        clear hNL
        go_wp2_with fail
        refine (archGet_any [.slice A8 3 c8] x ⟨#[122, 122]⟩ w7 (HR8.out.up (HX58.out.trans HX7.out))).mono ?_
        rw [HNM.out.2.2.1]
        rintro e w8 ⟨rfl, hx8⟩
        have HX8 := Lib.hid (HX7.out.trans hx8)
        have HS8 := Lib.hid (hs_up HS7.out hx8)
        clear hx8 q8 HX7 HS7
        go_wp2_with fail
        go_loopw [66] (fun i W => ∃ k : Nat, i = .int .i64 k ∧ k ≤ L.length ∧ Ext w8 W) (fun i _ => L.length - (intOf i).toNat)
        case atStart => exact ⟨0, rfl, Nat.zero_le _, Ext.refl _⟩
        case round =>
          obtain ⟨k, rfl, hk, hx⟩ := hrel
          have HX9 := Lib.hid (HX8.out.trans hx)
          have HS9 := Lib.hid (hs_up HS8.out hx)
          have HX89 := Lib.hid hx
          clear hx
          by_cases hlt : k < L.length
          · have hltI : (k : Int) < (L.length : Int) := by omega
            obtain ⟨b7, o7, f, rfl, hfm, hr0, hr1⟩ := HROW.out k hlt
            have hq0 := (HX59.out.trans HX9.out).cell hr0
            have hq1 := (HX59.out.trans HX9.out).cell hr1
            have HLT := Lib.hid hlt
            have HG := Lib.hid (HNM.out.2.2.2 f hfm)
            have HMN := Lib.hid (show f.name ∈ NL by rw [HNL.out]; exact List.mem_map_of_mem hfm)
            obtain ⟨nm, dt⟩ := f
            dsimp only at hq0 hq1 HG HMN
            have q8 := HX9.out.cell hb8c
            have l8 : b8 < wr.heap.size := Nat.lt_of_lt_of_le HL8.out HX9.out.size
            clear hfm hr0 hr1 hlt hk
            go_wp2_with fail
            refine calls_abs (fun W => Ext wr W ∧ Blk_ W wr.heap.size 57 #[.string nm, .string dt]) ⟨(Ext.refl _).alloc _, Blk_.new _ _ _⟩ ?_
            rintro W9 ⟨hx9, hb9⟩
            obtain ⟨b17, h17⟩ : ∃ b, b = wr.heap.size := ⟨_, rfl⟩
            rw [← h17] at hb9 ⊢
            clear q8 hq0 hq1 h17 l8
            refine (archGet_any [.slice A8 3 c8] x nm W9 (HR8.out.up (HX58.out.trans (HX9.out.trans hx9)))).mono ?_
            rw [HG.out]
            rintro e W10 ⟨rfl, hx10⟩
            have hb10 := hb9.ext hx10
            have e0 := hb10.cell 0
            have e1 := hb10.cell 1
            simp at e0 e1
            have HX10 := Lib.hid (HX89.out.trans (hx9.trans hx10))
            have HS10 := Lib.hid (hs_up HS9.out (hx9.trans hx10))
            clear hx9 hb9 hx10 hb10 HX9 HS9 HX89
            go_wp2_with fail
            refine (containsStr_any (.slice A12 NL.length c12) NL nm W10 HS10.out HMN.out).mono ?_
            rintro e W11 ⟨rfl, hw⟩
            obtain rfl := hw.symm
            go_wp2_with fail
            go_roundw
            case rel => exact ⟨k + 1, by first | rfl | go_num, by have := HLT.out; omega, HX10.out⟩
            case measure => have := HLT.out; (simp [intOf]; try omega)
          · have hltI : (L.length : Int) ≤ (k : Int) := by omega
            have hNL : NL.length = L.length := by rw [HNL.out, List.length_map]
            have hNLI : (NL.length : Int) = (L.length : Int) := by omega
            clear hlt hk
            go_wp2_with fail
            have hq := sorted_any (.slice A12 NL.length c12) NL wr HS9.out (by rw [HNL.out]; exact names_rise HOK.out (by have := HL.out; omega))
            rw [hNL] at hq
            refine hq.mono ?_
            clear hq
            rintro e w10 ⟨rfl, hx10⟩
            have HX10 := Lib.hid (HX5.out.trans (HX9.out.trans hx10))
            clear hx10
            go_wp2_with fail
            go_ret
            exact ⟨rfl, HX10.out⟩
end Go.Proofs.YtgjijcgkmofaaaaGreatDoor
