/-
  arraskeep.hurt: devices of an array lose sectors, bytes of them are turned, they are replaced. Conditions: the array may be, each act is one of these, of one of the three devices.
-/
import Derived.Test.YtgjijcgkmofaaaaDoorJ12
namespace Go.Proofs.YtgjijcgkmofaaaaDoor
set_option linter.unusedSimpArgs false
set_option linter.unusedVariables false
open Go.RowKit

theorem hurtOne_good {a : List Dev} {m : Nat} (h : Good a m) (h16 : 16 ≤ m) (h64 : m ≤ 64) {x : HA} (hx : x.d < 3) : Good (hurtOne a x) m := by
  unfold hurtOne
  split
  · rw [h.l0]
    refine h.dev hx (devMay_lost (devAt_may h16 h64 _) _ (by simp)) ?_
    exact h.devAt_len hx
  · split
    · split
      · rename_i h1 h2
        have ht : touchCode (dv a x.d) x.n = 0 ∧ (inB x.at_ 0 29 && inB x.by_ 0 255) = true := by
          unfold turnS at h2
          split at h2
          · rename_i h3
            refine ⟨h3, ?_⟩
            split at h2
            · rename_i h4; exact h4
            · exact absurd h2 (by show ¬ (2 : Int) = 0; decide)
          · rename_i h3
            exact absurd h2 h3
        have h5 := ht.2
        simp [inB] at h5
        have hk := turn_may ht.1 (place := x.at_) (by_ := x.by_) (by omega) (by omega)
        exact h.dev hx hk.1 hk.2
      · exact h
    · exact loseOne_good h hx
set_option maxRecDepth 100000 in
set_option maxHeartbeats 8000000 in
theorem hurtGen_any (A : Option Addr) (c : Nat) (a0 : List Dev) (m : Nat) (L : Option Addr) (lc : Nat) (l : List HA) (w : World) (h : RArr w [.slice A 3 c] a0) (hg : Good a0 m)
    (hp : ∀ (k : Nat) (_ : k < l.length), ∃ b o, L = some ⟨b, o, none⟩ ∧ ∀ (i : Nat) (hi : i < l.length) (j : Nat) (u : Value), (encHA l[i])[j]? = some u → w.cell? ⟨b, o + i * 7 + j, none⟩ = some u)
    (h16 : 16 ≤ m) (h64 : m ≤ 64) (h2m : m % 2 = 0) (hl : ∀ x ∈ l, x.d < 3 ∧ (x.kind = 4 ∨ x.kind = 5 ∨ x.kind = 6) ∧ I64 x.n ∧ I64 x.at_ ∧ I64 x.by_) (hll : l.length ≤ 1000000) :
    Calls Tryd.prog 6 #[.agg #[.slice A 3 c], .slice L l.length lc] w fun e w' => ∃ A' c', e = .returned (.agg #[.slice A' 3 c']) ∧ Ext w w' ∧ RArr w' [.slice A' 3 c'] (hurtAll a0 l) := by
  have HP := Lib.hid hp
  have HL := Lib.hid hl
  have HH := Lib.hid h
  have HGD := Lib.hid hg
  have HMM := Lib.hid (And.intro h16 h64)
  have HEV := Lib.hid h2m
  have hlI : (l.length : Int) ≤ 1000000 := by omega
  clear h hg hp hl hll h16 h64 h2m
  go_enter Tryd.func6, Tryd.ntmps6
  go_wp2_with fail
  refine wp_abs (fun W => Ext w W ∧ Blk_ W w.heap.size 25 #[.slice A 3 c] ∧ Blk_ W (w.heap.size + 1) 25 #[.slice none 0 0]) ⟨((Ext.refl _).alloc _).alloc _, (Blk_.new _ _ _).alloc _, Blk_.new1 _ _ _ _⟩ ?_
  rintro W ⟨hx, hb2, hb4⟩
  obtain ⟨b2, hh2⟩ : ∃ b2, b2 = w.heap.size := ⟨_, rfl⟩
  have HSF := Lib.hid (show HX_ w W b2 (b2 + 1) A c a0 m from ⟨hx, by rw [hh2]; exact hb2, by rw [hh2]; exact hb4, .inl ⟨HH.out, by omega, by omega, hx⟩, HGD.out⟩)
  have H2 := Lib.hid hh2
  rw [← hh2]
  clear hx hb2 hb4 hh2
  go_loopw [11] (fun kv wr => ∃ (k : Nat) (A : Option Addr) (c : Nat), kv = .int .i64 k ∧ k ≤ l.length ∧ HX_ w wr b2 (b2 + 1) A c (hurtAll a0 (l.take k)) m) (fun kv _ => l.length - (intOf kv).toNat)
  case atStart => exact ⟨0, A, c, rfl, Nat.zero_le _, HSF.out⟩
  case round =>
    clear HSF
    obtain ⟨k, A, c, rfl, hk, hI⟩ := hrel
    have HI := Lib.hid hI
    clear hI
    by_cases hlt : k < l.length
    · have hki : (k : Int) < (l.length : Int) := by omega
      obtain ⟨bl, ol, rfl, hcell⟩ := HP.out k hlt
      obtain ⟨x, hxe⟩ : ∃ x, x = l[k] := ⟨_, rfl⟩
      have hxl := HL.out _ (List.getElem_mem hlt)
      rw [← hxe] at hxl
      obtain ⟨hxd, hxk, hxn, hxa, hxb⟩ := hxl
      have q0 := HI.out.ext.cell (hcell k hlt 0 _ rfl)
      have q1 := HI.out.ext.cell (hcell k hlt 1 _ rfl)
      have q2 := HI.out.ext.cell (hcell k hlt 2 _ rfl)
      have q3 := HI.out.ext.cell (hcell k hlt 3 _ rfl)
      have q4 := HI.out.ext.cell (hcell k hlt 4 _ rfl)
      have q5 := HI.out.ext.cell (hcell k hlt 5 _ rfl)
      have q6 := HI.out.ext.cell (hcell k hlt 6 _ rfl)
      rw [← hxe] at q0 q3 q4 q5 q6
      simp only [Nat.add_zero] at q0
      obtain ⟨d, hde⟩ : ∃ d, d = x.d := ⟨_, rfl⟩
      rw [← hde] at q3 hxd
      have HIX := Lib.hid hxn
      have HIA := Lib.hid (And.intro hxa hxb)
      have hxk0 := hxk
      have HDD := Lib.hid (show True ∧ d < 3 ∧ d = x.d from ⟨trivial, hxd, hde⟩)
      have HK := Lib.hid hlt
      have HSN := Lib.hid (show hurtAll a0 (l.take (k + 1)) = hurtOne (hurtAll a0 (l.take k)) x by rw [hurtAll_snoc a0 l k hlt, hxe])
      obtain ⟨a, hae⟩ : ∃ a, a = hurtAll a0 (l.take k) := ⟨_, rfl⟩
      rw [← hae] at HI HSN
      have hd3 : (d : Int) < 3 := by omega
      have hd3' : ¬ (3 : Int) ≤ (d : Int) := by omega
      have r2 := HI.out.r2.cell 0
      simp at r2
      have lb2 := HI.out.r2.lt
      clear hxe hxn hxa hxb hde hae hlt hk hcell hxd
      rcases hxk with hxk | hxk | hxk
      · rw [hxk] at q0
        have HKD := Lib.hid hxk
        clear hxk hxk0
        go_wp2_with fail
        refine wp_abs (fun W => Ext wr W ∧ Blk_ W wr.heap.size 59 #[.int .i64 4, .slice none 0 0, .string .empty, .int .i64 (d : Int), .int .i64 x.n, .int .i64 x.at_, .int .i64 x.by_]) ⟨(Ext.refl _).alloc _, Blk_.new _ _ _⟩ ?_
        rintro w6 ⟨hx6, hb6⟩
        obtain ⟨b6, h66⟩ : ∃ b6, b6 = wr.heap.size := ⟨_, rfl⟩
        rw [← h66] at hb6 ⊢
        have HI6 := Lib.hid (HI.out.up hx6)
        have HB6 := Lib.hid hb6
        have HB62 := Lib.hid (show b2 < b6 by rw [h66]; exact HI.out.r2.lt)
        clear hx6 hb6 h66 q0 q1 q2 q3 q4 q5 q6 r2 HI
        have f3 := HB6.out.cell 3
        have f4 := HB6.out.cell 4
        have f5 := HB6.out.cell 0
        have r2 := HI6.out.r2.cell 0
        simp at f3 f4 f5 r2
        clear f5
        obtain ⟨ga, oa, hA, hlook⟩ := HI6.out.rarrLook
        subst hA
        obtain ⟨A1, c1, A2, c2, e0, e1, hdv⟩ := hlook d HDD.out.2.1
        obtain ⟨dd, hdd⟩ : ∃ dd, dd = dv a d := ⟨_, rfl⟩
        rw [← hdd] at e0 e1 hdv
        have HDV := Lib.hid hdv
        have HDE := Lib.hid hdd
        have f0 := r2
        have f1 := e0
        have f2 := e1
        clear r2 e0 e1 hdv hdd hlook
        refine wp_region_begin (S := fun W' => W'.cell? ⟨b2, 0, none⟩ = some (.slice (some ⟨ga, oa, none⟩) 3 c) ∧ W'.cell? ⟨ga, oa + d * 2, none⟩ = some (.slice A1 dd.sec.length c1) ∧ W'.cell? ⟨ga, oa + d * 2 + 1, none⟩ = some (.slice A2 dd.lost.length c2) ∧ W'.cell? ⟨b6, 3, none⟩ = some (.int .i64 (d : Int)) ∧ W'.cell? ⟨b6, 4, none⟩ = some (.int .i64 x.n)) (n := 14) (by kernel_rfl) rfl (by kernel_rfl) rfl ?_
        have hS0 : (fun W' => W'.cell? ⟨b2, 0, none⟩ = some (.slice (some ⟨ga, oa, none⟩) 3 c) ∧ W'.cell? ⟨ga, oa + d * 2, none⟩ = some (.slice A1 dd.sec.length c1) ∧ W'.cell? ⟨ga, oa + d * 2 + 1, none⟩ = some (.slice A2 dd.lost.length c2) ∧ W'.cell? ⟨b6, 3, none⟩ = some (.int .i64 (d : Int)) ∧ W'.cell? ⟨b6, 4, none⟩ = some (.int .i64 x.n)) w6.drew := ⟨f0, f1, f2, f3, f4⟩
        refine wpAnyH_takeL (i := 0) (v := ?_) rfl (by kernel_rfl) (fun _ _ _ h => h) rfl ?_ hS0 ?_
        rotate_left
        · intro w' hS
          try dsimp only at hS
          go_simp
          rfl
        try simp only [Act.put, List.setIfInBounds_toArray, List.set_cons_zero, List.set_cons_succ]
        refine wpAnyH_takeL (i := 1) (v := ?_) rfl (by kernel_rfl) (fun _ _ _ h => h) rfl ?_ hS0 ?_
        rotate_left
        · intro w' hS
          try dsimp only at hS
          go_simp
          rfl
        try simp only [Act.put, List.setIfInBounds_toArray, List.set_cons_zero, List.set_cons_succ]
        refine wpAnyH_takeL (i := 2) (v := ?_) rfl (by kernel_rfl) (fun _ _ _ h => h) rfl ?_ hS0 ?_
        rotate_left
        · intro w' hS
          try dsimp only at hS
          go_simp
          rfl
        try simp only [Act.put, List.setIfInBounds_toArray, List.set_cons_zero, List.set_cons_succ]
        refine wpAnyH_takeL (i := 3) (v := ?_) rfl (by kernel_rfl) (fun _ _ _ h => h) rfl ?_ hS0 ?_
        rotate_left
        · intro w' hS
          try dsimp only at hS
          go_simp
          rfl
        try simp only [Act.put, List.setIfInBounds_toArray, List.set_cons_zero, List.set_cons_succ]
        refine wpAnyH_takeL (i := 4) (v := ?_) rfl (by kernel_rfl) (fun _ _ _ h => h) rfl ?_ hS0 ?_
        rotate_left
        · intro w' hS
          try dsimp only at hS
          go_simp
          rfl
        try simp only [Act.put, List.setIfInBounds_toArray, List.set_cons_zero, List.set_cons_succ]
        refine wpAnyH_takeL (i := 5) (v := ?_) rfl (by kernel_rfl) (fun _ _ _ h => h) rfl ?_ hS0 ?_
        rotate_left
        · intro w' hS
          try dsimp only at hS
          go_simp
          rfl
        try simp only [Act.put, List.setIfInBounds_toArray, List.set_cons_zero, List.set_cons_succ]
        refine wpAnyH_takeL (i := 6) (v := ?_) rfl (by kernel_rfl) (fun _ _ _ h => h) rfl ?_ hS0 ?_
        rotate_left
        · intro w' hS
          try dsimp only at hS
          go_simp
          rfl
        try simp only [Act.put, List.setIfInBounds_toArray, List.set_cons_zero, List.set_cons_succ]
        refine wpAnyH_takeL (i := 7) (v := ?_) rfl (by kernel_rfl) (fun _ _ _ h => h) rfl ?_ hS0 ?_
        rotate_left
        · intro w' hS
          try dsimp only at hS
          go_simp
          rfl
        try simp only [Act.put, List.setIfInBounds_toArray, List.set_cons_zero, List.set_cons_succ]
        refine wpAnyH_twoL (i := 8) (j := 12) rfl rfl (by kernel_rfl) rfl rfl (fun K hK => ?_) (fun K hK => ?_)
        · go_wp2_with fail
          refine (devLose_any [.slice A1 dd.sec.length c1, .slice A2 dd.lost.length c2] dd x.n _ (HDV.out.up ((Ext.refl w6).drew)) HIX.out).mono ?_
          rintro e w8 ⟨P1, p1, Q1, q1, rfl, hx, ho⟩
          have hdev := ho.dev
          have NW := Lib.hid (And.intro ho.new1 ho.new2)
          clear ho
          have hgd0 := hdev.old (Nat.le_refl w8.heap.size)
          have hx8 := (Ext.refl w6).drew.trans hx
          clear hdev hx
          refine hK _ _ ⟨hx8.cell f0, hx8.cell f1, hx8.cell f2, hx8.cell f3, hx8.cell f4⟩ ?_
          clear hK K
          try simp only [Act.put, List.setIfInBounds_toArray, List.set_cons_zero, List.set_cons_succ]
          have hS1 : (fun W' => W'.cell? ⟨b2, 0, none⟩ = some (.slice (some ⟨ga, oa, none⟩) 3 c) ∧ W'.cell? ⟨ga, oa + d * 2, none⟩ = some (.slice A1 dd.sec.length c1) ∧ W'.cell? ⟨ga, oa + d * 2 + 1, none⟩ = some (.slice A2 dd.lost.length c2) ∧ W'.cell? ⟨b6, 3, none⟩ = some (.int .i64 (d : Int)) ∧ W'.cell? ⟨b6, 4, none⟩ = some (.int .i64 x.n)) w8 := ⟨hx8.cell f0, hx8.cell f1, hx8.cell f2, hx8.cell f3, hx8.cell f4⟩
          refine wpAnyH_takeL (i := 9) (v := ?_) rfl (by kernel_rfl) (fun _ _ _ h => h) rfl ?_ hS1 ?_
          rotate_left
          · intro w' hS
            try dsimp only at hS
            go_simp
            rfl
          try simp only [Act.put, List.setIfInBounds_toArray, List.set_cons_zero, List.set_cons_succ]
          refine wpAnyH_takeL (i := 10) (v := ?_) rfl (by kernel_rfl) (fun _ _ _ h => h) rfl ?_ hS1 ?_
          rotate_left
          · intro w' hS
            try dsimp only at hS
            go_simp
            rfl
          try simp only [Act.put, List.setIfInBounds_toArray, List.set_cons_zero, List.set_cons_succ]
          refine wpAnyH_takeL (i := 11) (v := ?_) rfl (by kernel_rfl) (fun _ _ _ h => h) rfl ?_ hS1 ?_
          rotate_left
          · intro w' hS
            try dsimp only at hS
            go_simp
            rfl
          try simp only [Act.put, List.setIfInBounds_toArray, List.set_cons_zero, List.set_cons_succ]
          refine wpAnyH_oneL (i := 12) rfl (by kernel_rfl) rfl (fun K hK => ?_)
          go_wp2_with fail
          refine hK _ _ ?_ ?_
          · first | exact ⟨((hx8.drew).alloc _).cell f0, ((hx8.drew).alloc _).cell f1, ((hx8.drew).alloc _).cell f2, ((hx8.drew).alloc _).cell f3, ((hx8.drew).alloc _).cell f4⟩ | exact ⟨(hx8.alloc _).cell f0, (hx8.alloc _).cell f1, (hx8.alloc _).cell f2, (hx8.alloc _).cell f3, (hx8.alloc _).cell f4⟩
          clear hK K
          try simp only [Act.put, List.setIfInBounds_toArray, List.set_cons_zero, List.set_cons_succ]
          refine anyH_abs (fun W => Ext w8 W ∧ Blk_ W w8.heap.size 63 #[.slice none 0 0, .slice none 0 0]) ⟨by first | exact (Ext.refl _).alloc _ | exact (Ext.refl _).drew.alloc _, by first | exact Blk_.new _ _ _ | exact (Blk_.new _ _ _).drew⟩ ?_
          rintro Wz ⟨ez, hbz⟩
          have hgd := hgd0.ext ez
          have hxz := hx8.trans ez
          have hgz : w6.heap.size ≤ w8.heap.size := hx8.size
          obtain ⟨g7, hg7⟩ : ∃ g7, g7 = w8.heap.size := ⟨_, rfl⟩
          rw [← hg7] at hbz hgz hgd ⊢
          clear hgd0 ez hS1 hg7
          have m0 := hbz.cell 0
          have m1 := hbz.cell 1
          have z0 := hbz.frozen 0
          have z1 := hbz.frozen 1
          simp at m0 m1
          have hb22 := (hbz.set 0 (.slice P1 (loseS dd x.n).sec.length p1)).set 1 (.slice Q1 (loseS dd x.n).lost.length q1)
          have hx5 := (hxz.setCell (p := ⟨g7, 0, none⟩) hgz (.slice P1 (loseS dd x.n).sec.length p1)).setCell (p := ⟨g7, 1, none⟩) hgz (.slice Q1 (loseS dd x.n).lost.length q1)
          have hd5 := ((hgd.far (p := ⟨g7, 0, none⟩) (.slice P1 (loseS dd x.n).sec.length p1)).far (p := ⟨g7, 1, none⟩) (.slice Q1 (loseS dd x.n).lost.length q1)).dev
          have B7 := Lib.hid hb22
          have D7 := Lib.hid hd5
          have HX5 := Lib.hid hx5
          have HG7 := Lib.hid hgz
          clear hb22 hd5 hx5 hxz hgz hbz hgd
          refine wpAnyH_oneL (i := 13) rfl (by kernel_rfl) rfl (fun K hK => ?_)
          go_wp2_with fail
          refine hK _ _ ?_ ?_
          · exact ⟨HX5.out.cell f0, HX5.out.cell f1, HX5.out.cell f2, HX5.out.cell f3, HX5.out.cell f4⟩
          clear hK K
          try simp only [Act.put, List.setIfInBounds_toArray, List.set_cons_zero, List.set_cons_succ]
          refine wpAnyH_endL (by kernel_rfl) (fun K hK => ?_)
          clear m0 m1 z0 z1 hS0 f0 f1 f2 f3 f4
          have y0 := B7.out.cell 0
          have y1 := B7.out.cell 1
          have l7 := B7.out.lt
          simp at y0 y1
          have k2 := (HI6.out.r2.ext HX5.out).cell 0
          have k6 := (HB6.out.ext HX5.out).cell 0
          simp at k2 k6
          by_cases htc : touchCode dd x.n = 0
          · rw [htc]
            have HTC := Lib.hid htc
            clear htc
            go_wp2_with fail
            refine (arrCopy_any [.slice (some ⟨ga, oa, none⟩) 3 c] a _ (HI6.out.rarr.up HX5.out)).mono ?_
            rintro e w7 ⟨A7, c7, rfl, hx7, ho7⟩
            have h3 := HI6.out.good.len
            rw [h3] at ho7 ⊢
            obtain ⟨g9, rfl, hb9, hl9, hf9, hc9⟩ := ho7.at_ h3
            have HO7 := Lib.hid ho7
            have HX7 := Lib.hid hx7
            clear k2 k6 y0 y1
            have z2 := ((HI6.out.r2.ext HX5.out).ext hx7).frozen 0
            have k2 := ((HI6.out.r2.ext HX5.out).ext hx7).cell 0
            simp at k2
            have l2 := ((HI6.out.r2.ext HX5.out).ext hx7).lt
            have HG9 := Lib.hid (show b2 < g9 ∧ g7 < g9 ∧ b6 < g9 by
              have h5 := (HI6.out.r2.ext HX5.out).lt
              have h6 := B7.out.lt
              have h7 := (HB6.out.ext HX5.out).lt
              exact ⟨by omega, by omega, by omega⟩)
            have v0 := (B7.out.ext hx7).cell 0
            have v1 := (B7.out.ext hx7).cell 1
            have v3 := ((HB6.out.ext HX5.out).ext hx7).cell 3
            simp at v0 v1 v3
            have i0 := hf9 (d * 2)
            have i1 := hf9 (d * 2 + 1)
            obtain ⟨_, _, _, _, t0, t1, _⟩ := hc9 d HDD.out.2.1
            have ne1 : ¬ (b2 = g9) := by have := HG9.out; omega
            have ne2 : ¬ (g9 = b2) := by have := HG9.out; omega
            have ne3 : ¬ (b2 = g7) := fun e => by have h1 := HI6.out.r2.lt; have h2 := HG7.out; omega
            have ne4 : ¬ (b6 = b2) := fun e => by have h1 := HB62.out; omega
            have ne5 : ¬ (g7 = b2) := fun e => ne3 e.symm
            have ne6 : ¬ (b2 = b6) := fun e => ne4 e.symm
            have l9 := hl9
            clear ho7 hx7 hb9 hf9 hc9 hl9
            go_wp2_with fail
            go_roundw
            case rel =>
              have h2 := HI6.out.r2.lt
              have h4 := HI6.out.r4.lt
              have hgg := HG9.out
              have hb2 := HB62.out
              have h22 := H2.out
              refine ⟨k + 1, some ⟨g9, 0, none⟩, c7, by first | rfl | go_num, by have := HK.out; omega, ?_⟩
              rw [HSN.out]
              refine ⟨?_, ?_, ?_, ?_, hurtOne_good HI6.out.good HMM.out.1 HMM.out.2 (by have := HDD.out; omega)⟩
              · exact (((HI6.out.ext.trans (HX5.out.trans HX7.out)).setCell (by dsimp only; omega) _).setCell (by dsimp only; omega) _).setCell (by dsimp only; omega) _
              · exact ((((HI6.out.r2.ext HX5.out).ext HX7.out).set 0 _).far (by dsimp only; omega) _).far (by dsimp only; omega) _
              · exact ((((HI6.out.r4.ext HX5.out).ext HX7.out).far (by dsimp only; omega) _).far (by dsimp only; omega) _).far (by dsimp only; omega) _
              · have hst := OArr.stored HO7.out HI6.out.good.len HDD.out.2.1 HX5.out.size HX7.out D7.out NW.out.1 NW.out.2 h2 (.slice (some ⟨g9, 0, none⟩) 3 c7)
                have he : hurtOne a x = a.set d (loseS dd x.n) := by
                  unfold hurtOne
                  rw [if_neg (by rw [HKD.out]; decide), if_neg (by rw [HKD.out]; decide), loseOne, ← HDD.out.2.2, ← HDE.out, if_pos HTC.out]
                rw [he]
                exact .inr ⟨w6.heap.size, h2, h4, by rw [List.length_set]; exact HI6.out.good.len, hst⟩
            case measure => have := HK.out; (simp [intOf]; try omega)
          · have htb : (touchCode dd x.n == 0) = false := beq_false_of_ne htc
            clear k2 y0 y1 l7
            have HTC := Lib.hid htc
            clear htc
            go_wp2_with fail
            go_roundw
            case rel =>
              refine ⟨k + 1, some ⟨ga, oa, none⟩, c, by first | rfl | go_num, by have := HK.out; omega, ?_⟩
              have he : hurtOne a x = a := by
                unfold hurtOne
                rw [if_neg (by rw [HKD.out]; decide), if_neg (by rw [HKD.out]; decide), loseOne, ← HDD.out.2.2, ← HDE.out, if_neg HTC.out]
              rw [HSN.out, he]
              exact HI6.out.up HX5.out
            case measure => have := HK.out; (simp [intOf]; try omega)
        · go_wp2_with fail
          refine hK _ _ ?_ ?_
          · first | exact ⟨((Ext.refl w6).drew.alloc _).cell f0, ((Ext.refl w6).drew.alloc _).cell f1, ((Ext.refl w6).drew.alloc _).cell f2, ((Ext.refl w6).drew.alloc _).cell f3, ((Ext.refl w6).drew.alloc _).cell f4⟩ | exact ⟨((Ext.refl w6).alloc _).cell f0, ((Ext.refl w6).alloc _).cell f1, ((Ext.refl w6).alloc _).cell f2, ((Ext.refl w6).alloc _).cell f3, ((Ext.refl w6).alloc _).cell f4⟩
          clear hK K
          try simp only [Act.put, List.setIfInBounds_toArray, List.set_cons_zero, List.set_cons_succ]
          refine anyH_abs (fun W => Ext w6 W ∧ Blk_ W w6.heap.size 63 #[.slice none 0 0, .slice none 0 0]) ⟨by first | exact (Ext.refl _).alloc _ | exact (Ext.refl _).drew.alloc _, by first | exact Blk_.new _ _ _ | exact (Blk_.new _ _ _).drew⟩ ?_
          rintro Wz ⟨ez0, hbz0⟩
          refine wpAnyH_oneL (i := 8) rfl (by kernel_rfl) rfl (fun K hK => ?_)
          go_wp2_with fail
          refine (devLose_any [.slice A1 dd.sec.length c1, .slice A2 dd.lost.length c2] dd x.n _ (HDV.out.up (ez0)) HIX.out).mono ?_
          rintro e w8 ⟨P1, p1, Q1, q1, rfl, hx, ho⟩
          have hgd := ho.dev.newG ho.new1 ho.new2 hbz0.lt
          have NW := Lib.hid (show New w6.drew.heap.size (.slice P1 (loseS dd x.n).sec.length p1) ∧ New w6.drew.heap.size (.slice Q1 (loseS dd x.n).lost.length q1) from ⟨ho.new1.mono ez0.size, ho.new2.mono ez0.size⟩)
          clear ho
          have hxz := ez0.trans hx
          have hgz : w6.heap.size ≤ w6.heap.size := Nat.le_refl _
          have hbz := hbz0.ext hx
          clear hx hbz0
          refine hK _ _ ⟨hxz.cell f0, hxz.cell f1, hxz.cell f2, hxz.cell f3, hxz.cell f4⟩ ?_
          clear hK K
          try simp only [Act.put, List.setIfInBounds_toArray, List.set_cons_zero, List.set_cons_succ]
          have hS1 : (fun W' => W'.cell? ⟨b2, 0, none⟩ = some (.slice (some ⟨ga, oa, none⟩) 3 c) ∧ W'.cell? ⟨ga, oa + d * 2, none⟩ = some (.slice A1 dd.sec.length c1) ∧ W'.cell? ⟨ga, oa + d * 2 + 1, none⟩ = some (.slice A2 dd.lost.length c2) ∧ W'.cell? ⟨b6, 3, none⟩ = some (.int .i64 (d : Int)) ∧ W'.cell? ⟨b6, 4, none⟩ = some (.int .i64 x.n)) w8 := ⟨hxz.cell f0, hxz.cell f1, hxz.cell f2, hxz.cell f3, hxz.cell f4⟩
          refine wpAnyH_takeL (i := 9) (v := ?_) rfl (by kernel_rfl) (fun _ _ _ h => h) rfl ?_ hS1 ?_
          rotate_left
          · intro w' hS
            try dsimp only at hS
            go_simp
            rfl
          try simp only [Act.put, List.setIfInBounds_toArray, List.set_cons_zero, List.set_cons_succ]
          refine wpAnyH_takeL (i := 10) (v := ?_) rfl (by kernel_rfl) (fun _ _ _ h => h) rfl ?_ hS1 ?_
          rotate_left
          · intro w' hS
            try dsimp only at hS
            go_simp
            rfl
          try simp only [Act.put, List.setIfInBounds_toArray, List.set_cons_zero, List.set_cons_succ]
          refine wpAnyH_takeL (i := 11) (v := ?_) rfl (by kernel_rfl) (fun _ _ _ h => h) rfl ?_ hS1 ?_
          rotate_left
          · intro w' hS
            try dsimp only at hS
            go_simp
            rfl
          try simp only [Act.put, List.setIfInBounds_toArray, List.set_cons_zero, List.set_cons_succ]
          obtain ⟨g7, hg7⟩ : ∃ g7, g7 = w6.heap.size := ⟨_, rfl⟩
          have hgz : w6.heap.size ≤ g7 := by omega
          rw [← hg7] at hbz hgd ⊢
          clear hS1 hg7
          have m0 := hbz.cell 0
          have m1 := hbz.cell 1
          have z0 := hbz.frozen 0
          have z1 := hbz.frozen 1
          simp at m0 m1
          have hb22 := (hbz.set 0 (.slice P1 (loseS dd x.n).sec.length p1)).set 1 (.slice Q1 (loseS dd x.n).lost.length q1)
          have hx5 := (hxz.setCell (p := ⟨g7, 0, none⟩) hgz (.slice P1 (loseS dd x.n).sec.length p1)).setCell (p := ⟨g7, 1, none⟩) hgz (.slice Q1 (loseS dd x.n).lost.length q1)
          have hd5 := ((hgd.far (p := ⟨g7, 0, none⟩) (.slice P1 (loseS dd x.n).sec.length p1)).far (p := ⟨g7, 1, none⟩) (.slice Q1 (loseS dd x.n).lost.length q1)).dev
          have B7 := Lib.hid hb22
          have D7 := Lib.hid hd5
          have HX5 := Lib.hid hx5
          have HG7 := Lib.hid hgz
          clear hb22 hd5 hx5 hxz hgz hbz hgd
          refine wpAnyH_oneL (i := 13) rfl (by kernel_rfl) rfl (fun K hK => ?_)
          go_wp2_with fail
          refine hK _ _ ?_ ?_
          · exact ⟨HX5.out.cell f0, HX5.out.cell f1, HX5.out.cell f2, HX5.out.cell f3, HX5.out.cell f4⟩
          clear hK K
          try simp only [Act.put, List.setIfInBounds_toArray, List.set_cons_zero, List.set_cons_succ]
          refine wpAnyH_endL (by kernel_rfl) (fun K hK => ?_)
          clear m0 m1 z0 z1 hS0 f0 f1 f2 f3 f4
          have y0 := B7.out.cell 0
          have y1 := B7.out.cell 1
          have l7 := B7.out.lt
          simp at y0 y1
          have k2 := (HI6.out.r2.ext HX5.out).cell 0
          have k6 := (HB6.out.ext HX5.out).cell 0
          simp at k2 k6
          by_cases htc : touchCode dd x.n = 0
          · rw [htc]
            have HTC := Lib.hid htc
            clear htc
            go_wp2_with fail
            refine (arrCopy_any [.slice (some ⟨ga, oa, none⟩) 3 c] a _ (HI6.out.rarr.up HX5.out)).mono ?_
            rintro e w7 ⟨A7, c7, rfl, hx7, ho7⟩
            have h3 := HI6.out.good.len
            rw [h3] at ho7 ⊢
            obtain ⟨g9, rfl, hb9, hl9, hf9, hc9⟩ := ho7.at_ h3
            have HO7 := Lib.hid ho7
            have HX7 := Lib.hid hx7
            clear k2 k6 y0 y1
            have z2 := ((HI6.out.r2.ext HX5.out).ext hx7).frozen 0
            have k2 := ((HI6.out.r2.ext HX5.out).ext hx7).cell 0
            simp at k2
            have l2 := ((HI6.out.r2.ext HX5.out).ext hx7).lt
            have HG9 := Lib.hid (show b2 < g9 ∧ g7 < g9 ∧ b6 < g9 by
              have h5 := (HI6.out.r2.ext HX5.out).lt
              have h6 := B7.out.lt
              have h7 := (HB6.out.ext HX5.out).lt
              exact ⟨by omega, by omega, by omega⟩)
            have v0 := (B7.out.ext hx7).cell 0
            have v1 := (B7.out.ext hx7).cell 1
            have v3 := ((HB6.out.ext HX5.out).ext hx7).cell 3
            simp at v0 v1 v3
            have i0 := hf9 (d * 2)
            have i1 := hf9 (d * 2 + 1)
            obtain ⟨_, _, _, _, t0, t1, _⟩ := hc9 d HDD.out.2.1
            have ne1 : ¬ (b2 = g9) := by have := HG9.out; omega
            have ne2 : ¬ (g9 = b2) := by have := HG9.out; omega
            have ne3 : ¬ (b2 = g7) := fun e => by have h1 := HI6.out.r2.lt; have h2 := HG7.out; omega
            have ne4 : ¬ (b6 = b2) := fun e => by have h1 := HB62.out; omega
            have ne5 : ¬ (g7 = b2) := fun e => ne3 e.symm
            have ne6 : ¬ (b2 = b6) := fun e => ne4 e.symm
            have l9 := hl9
            clear ho7 hx7 hb9 hf9 hc9 hl9
            go_wp2_with fail
            go_roundw
            case rel =>
              have h2 := HI6.out.r2.lt
              have h4 := HI6.out.r4.lt
              have hgg := HG9.out
              have hb2 := HB62.out
              have h22 := H2.out
              refine ⟨k + 1, some ⟨g9, 0, none⟩, c7, by first | rfl | go_num, by have := HK.out; omega, ?_⟩
              rw [HSN.out]
              refine ⟨?_, ?_, ?_, ?_, hurtOne_good HI6.out.good HMM.out.1 HMM.out.2 (by have := HDD.out; omega)⟩
              · exact (((HI6.out.ext.trans (HX5.out.trans HX7.out)).setCell (by dsimp only; omega) _).setCell (by dsimp only; omega) _).setCell (by dsimp only; omega) _
              · exact ((((HI6.out.r2.ext HX5.out).ext HX7.out).set 0 _).far (by dsimp only; omega) _).far (by dsimp only; omega) _
              · exact ((((HI6.out.r4.ext HX5.out).ext HX7.out).far (by dsimp only; omega) _).far (by dsimp only; omega) _).far (by dsimp only; omega) _
              · have hst := OArr.stored HO7.out HI6.out.good.len HDD.out.2.1 HX5.out.size HX7.out D7.out NW.out.1 NW.out.2 h2 (.slice (some ⟨g9, 0, none⟩) 3 c7)
                have he : hurtOne a x = a.set d (loseS dd x.n) := by
                  unfold hurtOne
                  rw [if_neg (by rw [HKD.out]; decide), if_neg (by rw [HKD.out]; decide), loseOne, ← HDD.out.2.2, ← HDE.out, if_pos HTC.out]
                rw [he]
                exact .inr ⟨w6.heap.size, h2, h4, by rw [List.length_set]; exact HI6.out.good.len, hst⟩
            case measure => have := HK.out; (simp [intOf]; try omega)
          · have htb : (touchCode dd x.n == 0) = false := beq_false_of_ne htc
            clear k2 y0 y1 l7
            have HTC := Lib.hid htc
            clear htc
            go_wp2_with fail
            go_roundw
            case rel =>
              refine ⟨k + 1, some ⟨ga, oa, none⟩, c, by first | rfl | go_num, by have := HK.out; omega, ?_⟩
              have he : hurtOne a x = a := by
                unfold hurtOne
                rw [if_neg (by rw [HKD.out]; decide), if_neg (by rw [HKD.out]; decide), loseOne, ← HDD.out.2.2, ← HDE.out, if_neg HTC.out]
              rw [HSN.out, he]
              exact HI6.out.up HX5.out
            case measure => have := HK.out; (simp [intOf]; try omega)
      · rw [hxk] at q0
        have HKD := Lib.hid hxk
        clear hxk hxk0
        go_wp2_with fail
        refine wp_abs (fun W => Ext wr W ∧ Blk_ W wr.heap.size 59 #[.int .i64 5, .slice none 0 0, .string .empty, .int .i64 (d : Int), .int .i64 x.n, .int .i64 x.at_, .int .i64 x.by_]) ⟨(Ext.refl _).alloc _, Blk_.new _ _ _⟩ ?_
        rintro w6 ⟨hx6, hb6⟩
        obtain ⟨b6, h66⟩ : ∃ b6, b6 = wr.heap.size := ⟨_, rfl⟩
        rw [← h66] at hb6 ⊢
        have HI6 := Lib.hid (HI.out.up hx6)
        have HB6 := Lib.hid hb6
        have HB62 := Lib.hid (show b2 < b6 by rw [h66]; exact HI.out.r2.lt)
        clear hx6 hb6 h66 q0 q1 q2 q3 q4 q5 q6 r2 HI
        have f3 := HB6.out.cell 3
        have f4 := HB6.out.cell 4
        have f5 := HB6.out.cell 0
        have r2 := HI6.out.r2.cell 0
        simp at f3 f4 f5 r2
        clear f5
        obtain ⟨ga, oa, hA, hlook⟩ := HI6.out.rarrLook
        subst hA
        obtain ⟨A1, c1, A2, c2, e0, e1, hdv⟩ := hlook d HDD.out.2.1
        obtain ⟨dd, hdd⟩ : ∃ dd, dd = dv a d := ⟨_, rfl⟩
        rw [← hdd] at e0 e1 hdv
        have HDV := Lib.hid hdv
        have HDE := Lib.hid hdd
        have f0 := r2
        have f1 := e0
        have f2 := e1
        clear r2 e0 e1 hdv hdd hlook
        have HFS := Lib.hid (And.intro f0 (And.intro f1 (And.intro f2 (And.intro f3 (And.intro f4 (And.intro (show w6.cell? ⟨b6, 5, none⟩ = some (.int .i64 x.at_) by have := HB6.out.cell 5; simpa using this) (show w6.cell? ⟨b6, 6, none⟩ = some (.int .i64 x.by_) by have := HB6.out.cell 6; simpa using this)))))))
        obtain ⟨TD, hTD⟩ : ∃ t, t = turnS dd x.n x.at_ x.by_ := ⟨_, rfl⟩
        have HTD := Lib.hid hTD
        clear hTD
        refine wp_region_begin (S := fun W' => W'.cell? ⟨b2, 0, none⟩ = some (.slice (some ⟨ga, oa, none⟩) 3 c) ∧ W'.cell? ⟨ga, oa + d * 2, none⟩ = some (.slice A1 dd.sec.length c1) ∧ W'.cell? ⟨ga, oa + d * 2 + 1, none⟩ = some (.slice A2 dd.lost.length c2) ∧ W'.cell? ⟨b6, 3, none⟩ = some (.int .i64 (d : Int)) ∧ W'.cell? ⟨b6, 4, none⟩ = some (.int .i64 x.n)) (n := 14) (by kernel_rfl) rfl (by kernel_rfl) rfl ?_
        have hS0 : (fun W' => W'.cell? ⟨b2, 0, none⟩ = some (.slice (some ⟨ga, oa, none⟩) 3 c) ∧ W'.cell? ⟨ga, oa + d * 2, none⟩ = some (.slice A1 dd.sec.length c1) ∧ W'.cell? ⟨ga, oa + d * 2 + 1, none⟩ = some (.slice A2 dd.lost.length c2) ∧ W'.cell? ⟨b6, 3, none⟩ = some (.int .i64 (d : Int)) ∧ W'.cell? ⟨b6, 4, none⟩ = some (.int .i64 x.n)) w6.drew := ⟨f0, f1, f2, f3, f4⟩
        refine wpAnyH_takeL (i := 0) (v := ?_) rfl (by kernel_rfl) (fun _ _ _ h => h) rfl ?_ hS0 ?_
        rotate_left
        · intro w' hS
          try dsimp only at hS
          go_simp
          rfl
        try simp only [Act.put, List.setIfInBounds_toArray, List.set_cons_zero, List.set_cons_succ]
        refine wpAnyH_takeL (i := 1) (v := ?_) rfl (by kernel_rfl) (fun _ _ _ h => h) rfl ?_ hS0 ?_
        rotate_left
        · intro w' hS
          try dsimp only at hS
          go_simp
          rfl
        try simp only [Act.put, List.setIfInBounds_toArray, List.set_cons_zero, List.set_cons_succ]
        refine wpAnyH_takeL (i := 2) (v := ?_) rfl (by kernel_rfl) (fun _ _ _ h => h) rfl ?_ hS0 ?_
        rotate_left
        · intro w' hS
          try dsimp only at hS
          go_simp
          rfl
        try simp only [Act.put, List.setIfInBounds_toArray, List.set_cons_zero, List.set_cons_succ]
        refine wpAnyH_takeL (i := 3) (v := ?_) rfl (by kernel_rfl) (fun _ _ _ h => h) rfl ?_ hS0 ?_
        rotate_left
        · intro w' hS
          try dsimp only at hS
          go_simp
          rfl
        try simp only [Act.put, List.setIfInBounds_toArray, List.set_cons_zero, List.set_cons_succ]
        refine wpAnyH_takeL (i := 4) (v := ?_) rfl (by kernel_rfl) (fun _ _ _ h => h) rfl ?_ hS0 ?_
        rotate_left
        · intro w' hS
          try dsimp only at hS
          go_simp
          rfl
        try simp only [Act.put, List.setIfInBounds_toArray, List.set_cons_zero, List.set_cons_succ]
        refine wpAnyH_takeL (i := 5) (v := ?_) rfl (by kernel_rfl) (fun _ _ _ h => h) rfl ?_ hS0 ?_
        rotate_left
        · intro w' hS
          try dsimp only at hS
          go_simp
          rfl
        try simp only [Act.put, List.setIfInBounds_toArray, List.set_cons_zero, List.set_cons_succ]
        refine wpAnyH_takeL (i := 6) (v := ?_) rfl (by kernel_rfl) (fun _ _ _ h => h) rfl ?_ hS0 ?_
        rotate_left
        · intro w' hS
          try dsimp only at hS
          go_simp
          rfl
        try simp only [Act.put, List.setIfInBounds_toArray, List.set_cons_zero, List.set_cons_succ]
        refine wpAnyH_takeL (i := 7) (v := ?_) rfl (by kernel_rfl) (fun _ _ _ h => h) rfl ?_ hS0 ?_
        rotate_left
        · intro w' hS
          try dsimp only at hS
          go_simp
          rfl
        try simp only [Act.put, List.setIfInBounds_toArray, List.set_cons_zero, List.set_cons_succ]
        refine wpAnyH_twoL (i := 8) (j := 12) rfl rfl (by kernel_rfl) rfl rfl (fun K hK => ?_) (fun K hK => ?_)
        · go_wp2_with fail
          refine (devLose_any [.slice A1 dd.sec.length c1, .slice A2 dd.lost.length c2] dd x.n _ (HDV.out.up ((Ext.refl w6).drew)) HIX.out).mono ?_
          rintro e w8 ⟨P1, p1, Q1, q1, rfl, hx, ho⟩
          have hdev := ho.dev
          have NW := Lib.hid (And.intro ho.new1 ho.new2)
          clear ho
          have hgd0 := hdev.old (Nat.le_refl w8.heap.size)
          have hx8 := (Ext.refl w6).drew.trans hx
          clear hdev hx
          refine hK _ _ ⟨hx8.cell f0, hx8.cell f1, hx8.cell f2, hx8.cell f3, hx8.cell f4⟩ ?_
          clear hK K
          try simp only [Act.put, List.setIfInBounds_toArray, List.set_cons_zero, List.set_cons_succ]
          have hS1 : (fun W' => W'.cell? ⟨b2, 0, none⟩ = some (.slice (some ⟨ga, oa, none⟩) 3 c) ∧ W'.cell? ⟨ga, oa + d * 2, none⟩ = some (.slice A1 dd.sec.length c1) ∧ W'.cell? ⟨ga, oa + d * 2 + 1, none⟩ = some (.slice A2 dd.lost.length c2) ∧ W'.cell? ⟨b6, 3, none⟩ = some (.int .i64 (d : Int)) ∧ W'.cell? ⟨b6, 4, none⟩ = some (.int .i64 x.n)) w8 := ⟨hx8.cell f0, hx8.cell f1, hx8.cell f2, hx8.cell f3, hx8.cell f4⟩
          refine wpAnyH_takeL (i := 9) (v := ?_) rfl (by kernel_rfl) (fun _ _ _ h => h) rfl ?_ hS1 ?_
          rotate_left
          · intro w' hS
            try dsimp only at hS
            go_simp
            rfl
          try simp only [Act.put, List.setIfInBounds_toArray, List.set_cons_zero, List.set_cons_succ]
          refine wpAnyH_takeL (i := 10) (v := ?_) rfl (by kernel_rfl) (fun _ _ _ h => h) rfl ?_ hS1 ?_
          rotate_left
          · intro w' hS
            try dsimp only at hS
            go_simp
            rfl
          try simp only [Act.put, List.setIfInBounds_toArray, List.set_cons_zero, List.set_cons_succ]
          refine wpAnyH_takeL (i := 11) (v := ?_) rfl (by kernel_rfl) (fun _ _ _ h => h) rfl ?_ hS1 ?_
          rotate_left
          · intro w' hS
            try dsimp only at hS
            go_simp
            rfl
          try simp only [Act.put, List.setIfInBounds_toArray, List.set_cons_zero, List.set_cons_succ]
          refine wpAnyH_oneL (i := 12) rfl (by kernel_rfl) rfl (fun K hK => ?_)
          go_wp2_with fail
          refine hK _ _ ?_ ?_
          · first | exact ⟨((hx8.drew).alloc _).cell f0, ((hx8.drew).alloc _).cell f1, ((hx8.drew).alloc _).cell f2, ((hx8.drew).alloc _).cell f3, ((hx8.drew).alloc _).cell f4⟩ | exact ⟨(hx8.alloc _).cell f0, (hx8.alloc _).cell f1, (hx8.alloc _).cell f2, (hx8.alloc _).cell f3, (hx8.alloc _).cell f4⟩
          clear hK K
          try simp only [Act.put, List.setIfInBounds_toArray, List.set_cons_zero, List.set_cons_succ]
          refine anyH_abs (fun W => Ext w8 W ∧ Blk_ W w8.heap.size 63 #[.slice none 0 0, .slice none 0 0]) ⟨by first | exact (Ext.refl _).alloc _ | exact (Ext.refl _).drew.alloc _, by first | exact Blk_.new _ _ _ | exact (Blk_.new _ _ _).drew⟩ ?_
          rintro Wz ⟨ez, hbz⟩
          have hgd := hgd0.ext ez
          have hxz := hx8.trans ez
          have hgz : w6.heap.size ≤ w8.heap.size := hx8.size
          obtain ⟨g7, hg7⟩ : ∃ g7, g7 = w8.heap.size := ⟨_, rfl⟩
          rw [← hg7] at hbz hgz hgd ⊢
          clear hgd0 ez hS1 hg7
          have m0 := hbz.cell 0
          have m1 := hbz.cell 1
          have z0 := hbz.frozen 0
          have z1 := hbz.frozen 1
          simp at m0 m1
          have hb22 := (hbz.set 0 (.slice P1 (loseS dd x.n).sec.length p1)).set 1 (.slice Q1 (loseS dd x.n).lost.length q1)
          have hx5 := (hxz.setCell (p := ⟨g7, 0, none⟩) hgz (.slice P1 (loseS dd x.n).sec.length p1)).setCell (p := ⟨g7, 1, none⟩) hgz (.slice Q1 (loseS dd x.n).lost.length q1)
          have hd5 := ((hgd.far (p := ⟨g7, 0, none⟩) (.slice P1 (loseS dd x.n).sec.length p1)).far (p := ⟨g7, 1, none⟩) (.slice Q1 (loseS dd x.n).lost.length q1)).dev
          have B7 := Lib.hid hb22
          have D7 := Lib.hid hd5
          have HX5 := Lib.hid hx5
          have HG7 := Lib.hid hgz
          clear hb22 hd5 hx5 hxz hgz hbz hgd
          refine wpAnyH_oneL (i := 13) rfl (by kernel_rfl) rfl (fun K hK => ?_)
          go_wp2_with fail
          refine hK _ _ ?_ ?_
          · exact ⟨HX5.out.cell f0, HX5.out.cell f1, HX5.out.cell f2, HX5.out.cell f3, HX5.out.cell f4⟩
          clear hK K
          try simp only [Act.put, List.setIfInBounds_toArray, List.set_cons_zero, List.set_cons_succ]
          refine wpAnyH_endL (by kernel_rfl) (fun K hK => ?_)
          clear m0 m1 z0 z1 hS0 f0 f1 f2 f3 f4
          have k6 := (HB6.out.ext HX5.out).cell 0
          simp at k6
          go_wp2_with fail
          clear k6
          refine wp_abs (fun W => Blk_ W g7 63 #[(.slice P1 (loseS dd x.n).sec.length p1), (.slice Q1 (loseS dd x.n).lost.length q1)] ∧ Ext w6 W) ⟨B7.out, HX5.out⟩ ?_
          clear B7 D7 HX5 NW
          rintro W5 ⟨hb7, hx5⟩
          have HX5' := Lib.hid hx5
          have HB7 := Lib.hid hb7
          clear hb7 hx5
          refine wp_region_begin (S := fun W' => W'.cell? ⟨b2, 0, none⟩ = some (.slice (some ⟨ga, oa, none⟩) 3 c) ∧ W'.cell? ⟨ga, oa + d * 2, none⟩ = some (.slice A1 dd.sec.length c1) ∧ W'.cell? ⟨ga, oa + d * 2 + 1, none⟩ = some (.slice A2 dd.lost.length c2) ∧ W'.cell? ⟨b6, 3, none⟩ = some (.int .i64 (d : Int)) ∧ W'.cell? ⟨b6, 4, none⟩ = some (.int .i64 x.n) ∧ W'.cell? ⟨b6, 5, none⟩ = some (.int .i64 x.at_) ∧ W'.cell? ⟨b6, 6, none⟩ = some (.int .i64 x.by_)) (n := 17) (by kernel_rfl) rfl (by kernel_rfl) rfl ?_
          have hS0 : (fun W' => W'.cell? ⟨b2, 0, none⟩ = some (.slice (some ⟨ga, oa, none⟩) 3 c) ∧ W'.cell? ⟨ga, oa + d * 2, none⟩ = some (.slice A1 dd.sec.length c1) ∧ W'.cell? ⟨ga, oa + d * 2 + 1, none⟩ = some (.slice A2 dd.lost.length c2) ∧ W'.cell? ⟨b6, 3, none⟩ = some (.int .i64 (d : Int)) ∧ W'.cell? ⟨b6, 4, none⟩ = some (.int .i64 x.n) ∧ W'.cell? ⟨b6, 5, none⟩ = some (.int .i64 x.at_) ∧ W'.cell? ⟨b6, 6, none⟩ = some (.int .i64 x.by_)) W5.drew := ⟨HX5'.out.cell HFS.out.1, HX5'.out.cell HFS.out.2.1, HX5'.out.cell HFS.out.2.2.1, HX5'.out.cell HFS.out.2.2.2.1, HX5'.out.cell HFS.out.2.2.2.2.1, HX5'.out.cell HFS.out.2.2.2.2.2.1, HX5'.out.cell HFS.out.2.2.2.2.2.2⟩
          refine wpAnyH_takeL (i := 0) (v := ?_) rfl (by kernel_rfl) (fun _ _ _ h => h) rfl ?_ hS0 ?_
          rotate_left
          · intro w' hS
            try dsimp only at hS
            go_simp
            rfl
          try simp only [Act.put, List.setIfInBounds_toArray, List.set_cons_zero, List.set_cons_succ]
          refine wpAnyH_takeL (i := 1) (v := ?_) rfl (by kernel_rfl) (fun _ _ _ h => h) rfl ?_ hS0 ?_
          rotate_left
          · intro w' hS
            try dsimp only at hS
            go_simp
            rfl
          try simp only [Act.put, List.setIfInBounds_toArray, List.set_cons_zero, List.set_cons_succ]
          refine wpAnyH_takeL (i := 2) (v := ?_) rfl (by kernel_rfl) (fun _ _ _ h => h) rfl ?_ hS0 ?_
          rotate_left
          · intro w' hS
            try dsimp only at hS
            go_simp
            rfl
          try simp only [Act.put, List.setIfInBounds_toArray, List.set_cons_zero, List.set_cons_succ]
          refine wpAnyH_takeL (i := 3) (v := ?_) rfl (by kernel_rfl) (fun _ _ _ h => h) rfl ?_ hS0 ?_
          rotate_left
          · intro w' hS
            try dsimp only at hS
            go_simp
            rfl
          try simp only [Act.put, List.setIfInBounds_toArray, List.set_cons_zero, List.set_cons_succ]
          refine wpAnyH_takeL (i := 4) (v := ?_) rfl (by kernel_rfl) (fun _ _ _ h => h) rfl ?_ hS0 ?_
          rotate_left
          · intro w' hS
            try dsimp only at hS
            go_simp
            rfl
          try simp only [Act.put, List.setIfInBounds_toArray, List.set_cons_zero, List.set_cons_succ]
          refine wpAnyH_takeL (i := 5) (v := ?_) rfl (by kernel_rfl) (fun _ _ _ h => h) rfl ?_ hS0 ?_
          rotate_left
          · intro w' hS
            try dsimp only at hS
            go_simp
            rfl
          try simp only [Act.put, List.setIfInBounds_toArray, List.set_cons_zero, List.set_cons_succ]
          refine wpAnyH_takeL (i := 6) (v := ?_) rfl (by kernel_rfl) (fun _ _ _ h => h) rfl ?_ hS0 ?_
          rotate_left
          · intro w' hS
            try dsimp only at hS
            go_simp
            rfl
          try simp only [Act.put, List.setIfInBounds_toArray, List.set_cons_zero, List.set_cons_succ]
          refine wpAnyH_takeL (i := 7) (v := ?_) rfl (by kernel_rfl) (fun _ _ _ h => h) rfl ?_ hS0 ?_
          rotate_left
          · intro w' hS
            try dsimp only at hS
            go_simp
            rfl
          try simp only [Act.put, List.setIfInBounds_toArray, List.set_cons_zero, List.set_cons_succ]
          refine wpAnyH_takeL (i := 8) (v := ?_) rfl (by kernel_rfl) (fun _ _ _ h => h) rfl ?_ hS0 ?_
          rotate_left
          · intro w' hS
            try dsimp only at hS
            go_simp
            rfl
          try simp only [Act.put, List.setIfInBounds_toArray, List.set_cons_zero, List.set_cons_succ]
          refine wpAnyH_takeL (i := 9) (v := ?_) rfl (by kernel_rfl) (fun _ _ _ h => h) rfl ?_ hS0 ?_
          rotate_left
          · intro w' hS
            try dsimp only at hS
            go_simp
            rfl
          try simp only [Act.put, List.setIfInBounds_toArray, List.set_cons_zero, List.set_cons_succ]
          refine wpAnyH_takeL (i := 10) (v := ?_) rfl (by kernel_rfl) (fun _ _ _ h => h) rfl ?_ hS0 ?_
          rotate_left
          · intro w' hS
            try dsimp only at hS
            go_simp
            rfl
          try simp only [Act.put, List.setIfInBounds_toArray, List.set_cons_zero, List.set_cons_succ]
          refine wpAnyH_takeL (i := 11) (v := ?_) rfl (by kernel_rfl) (fun _ _ _ h => h) rfl ?_ hS0 ?_
          rotate_left
          · intro w' hS
            try dsimp only at hS
            go_simp
            rfl
          try simp only [Act.put, List.setIfInBounds_toArray, List.set_cons_zero, List.set_cons_succ]
          refine wpAnyH_oneL (i := 12) rfl (by kernel_rfl) rfl (fun K hK => ?_)
          go_wp2_with fail
          refine (devTurn_any [.slice A1 dd.sec.length c1, .slice A2 dd.lost.length c2] dd x.n x.at_ x.by_ _ (HDV.out.up (HX5'.out.trans (Ext.refl W5).drew)) HIX.out HIA.out.1 HIA.out.2).mono ?_
          rintro e w9 ⟨R1, r1, R2, r2, rfl, hx, ho⟩
          rw [← HTD.out] at ho ⊢
          have hgd := ho.dev.newG ho.new1 ho.new2 (show g7 < W5.drew.heap.size from HB7.out.lt)
          have NW := Lib.hid (show New w6.heap.size (.slice R1 TD.1.sec.length r1) ∧ New w6.heap.size (.slice R2 TD.1.lost.length r2) from ⟨ho.new1.mono HX5'.out.size, ho.new2.mono HX5'.out.size⟩)
          have hx69 : Ext w6 w9 := HX5'.out.trans ((Ext.refl W5).drew.trans hx)
          have hb79 := HB7.out.ext ((Ext.refl W5).drew.trans hx)
          clear ho
          refine hK _ _ ⟨hx69.cell HFS.out.1, hx69.cell HFS.out.2.1, hx69.cell HFS.out.2.2.1, hx69.cell HFS.out.2.2.2.1, hx69.cell HFS.out.2.2.2.2.1, hx69.cell HFS.out.2.2.2.2.2.1, hx69.cell HFS.out.2.2.2.2.2.2⟩ ?_
          clear hK K hx hS0
          try simp only [Act.put, List.setIfInBounds_toArray, List.set_cons_zero, List.set_cons_succ]
          have hS1 : (fun W' => W'.cell? ⟨b2, 0, none⟩ = some (.slice (some ⟨ga, oa, none⟩) 3 c) ∧ W'.cell? ⟨ga, oa + d * 2, none⟩ = some (.slice A1 dd.sec.length c1) ∧ W'.cell? ⟨ga, oa + d * 2 + 1, none⟩ = some (.slice A2 dd.lost.length c2) ∧ W'.cell? ⟨b6, 3, none⟩ = some (.int .i64 (d : Int)) ∧ W'.cell? ⟨b6, 4, none⟩ = some (.int .i64 x.n) ∧ W'.cell? ⟨b6, 5, none⟩ = some (.int .i64 x.at_) ∧ W'.cell? ⟨b6, 6, none⟩ = some (.int .i64 x.by_)) w9 := ⟨hx69.cell HFS.out.1, hx69.cell HFS.out.2.1, hx69.cell HFS.out.2.2.1, hx69.cell HFS.out.2.2.2.1, hx69.cell HFS.out.2.2.2.2.1, hx69.cell HFS.out.2.2.2.2.2.1, hx69.cell HFS.out.2.2.2.2.2.2⟩
          refine wpAnyH_takeL (i := 13) (v := ?_) rfl (by kernel_rfl) (fun _ _ _ h => h) rfl ?_ hS1 ?_
          rotate_left
          · intro w' hS
            try dsimp only at hS
            go_simp
            rfl
          try simp only [Act.put, List.setIfInBounds_toArray, List.set_cons_zero, List.set_cons_succ]
          refine wpAnyH_takeL (i := 14) (v := ?_) rfl (by kernel_rfl) (fun _ _ _ h => h) rfl ?_ hS1 ?_
          rotate_left
          · intro w' hS
            try dsimp only at hS
            go_simp
            rfl
          try simp only [Act.put, List.setIfInBounds_toArray, List.set_cons_zero, List.set_cons_succ]
          refine wpAnyH_takeL (i := 15) (v := ?_) rfl (by kernel_rfl) (fun _ _ _ h => h) rfl ?_ hS1 ?_
          rotate_left
          · intro w' hS
            try dsimp only at hS
            go_simp
            rfl
          try simp only [Act.put, List.setIfInBounds_toArray, List.set_cons_zero, List.set_cons_succ]
          have m0 := hb79.cell 0
          have m1 := hb79.cell 1
          have z0 := hb79.frozen 0
          have z1 := hb79.frozen 1
          simp at m0 m1
          have HX5 := Lib.hid ((hx69.setCell (p := ⟨g7, 0, none⟩) HG7.out (.slice R1 TD.1.sec.length r1)).setCell (p := ⟨g7, 1, none⟩) HG7.out (.slice R2 TD.1.lost.length r2))
          have B7 := Lib.hid ((hb79.set 0 (.slice R1 TD.1.sec.length r1)).set 1 (.slice R2 TD.1.lost.length r2))
          have D7 := Lib.hid ((hgd.far (p := ⟨g7, 0, none⟩) (.slice R1 TD.1.sec.length r1)).far (p := ⟨g7, 1, none⟩) (.slice R2 TD.1.lost.length r2)).dev
          clear hb79 hgd hx69 HX5' HB7
          refine wpAnyH_oneL (i := 16) rfl (by kernel_rfl) rfl (fun K hK => ?_)
          go_wp2_with fail
          refine hK _ _ ?_ ?_
          · exact ⟨HX5.out.cell HFS.out.1, HX5.out.cell HFS.out.2.1, HX5.out.cell HFS.out.2.2.1, HX5.out.cell HFS.out.2.2.2.1, HX5.out.cell HFS.out.2.2.2.2.1, HX5.out.cell HFS.out.2.2.2.2.2.1, HX5.out.cell HFS.out.2.2.2.2.2.2⟩
          clear hK K
          try simp only [Act.put, List.setIfInBounds_toArray, List.set_cons_zero, List.set_cons_succ]
          refine wpAnyH_endL (by kernel_rfl) (fun K hK => ?_)
          clear m0 m1 z0 z1 hS1
          have y0 := B7.out.cell 0
          have y1 := B7.out.cell 1
          have l7 := B7.out.lt
          simp at y0 y1
          have k2 := (HI6.out.r2.ext HX5.out).cell 0
          simp at k2
          by_cases htc : TD.2 = 0
          · rw [htc]
            have HTC := Lib.hid htc
            clear htc
            go_wp2_with fail
            refine (arrCopy_any [.slice (some ⟨ga, oa, none⟩) 3 c] a _ (HI6.out.rarr.up HX5.out)).mono ?_
            rintro e w7 ⟨A7, c7, rfl, hx7, ho7⟩
            have h3 := HI6.out.good.len
            rw [h3] at ho7 ⊢
            obtain ⟨g9, rfl, hb9, hl9, hf9, hc9⟩ := ho7.at_ h3
            have HO7 := Lib.hid ho7
            have HX7 := Lib.hid hx7
            clear k2 y0 y1
            have z2 := ((HI6.out.r2.ext HX5.out).ext hx7).frozen 0
            have k2 := ((HI6.out.r2.ext HX5.out).ext hx7).cell 0
            simp at k2
            have l2 := ((HI6.out.r2.ext HX5.out).ext hx7).lt
            have HG9 := Lib.hid (show b2 < g9 ∧ g7 < g9 ∧ b6 < g9 by
              have h5 := (HI6.out.r2.ext HX5.out).lt
              have h6 := B7.out.lt
              have h7 := (HB6.out.ext HX5.out).lt
              exact ⟨by omega, by omega, by omega⟩)
            have v0 := (B7.out.ext hx7).cell 0
            have v1 := (B7.out.ext hx7).cell 1
            have v3 := ((HB6.out.ext HX5.out).ext hx7).cell 3
            simp at v0 v1 v3
            have i0 := hf9 (d * 2)
            have i1 := hf9 (d * 2 + 1)
            obtain ⟨_, _, _, _, t0, t1, _⟩ := hc9 d HDD.out.2.1
            have ne1 : ¬ (b2 = g9) := by have := HG9.out; omega
            have ne2 : ¬ (g9 = b2) := by have := HG9.out; omega
            have ne3 : ¬ (b2 = g7) := fun e => by have h1 := HI6.out.r2.lt; have h2 := HG7.out; omega
            have ne4 : ¬ (b6 = b2) := fun e => by have h1 := HB62.out; omega
            have ne5 : ¬ (g7 = b2) := fun e => ne3 e.symm
            have ne6 : ¬ (b2 = b6) := fun e => ne4 e.symm
            have l9 := hl9
            clear ho7 hx7 hb9 hf9 hc9 hl9
            go_wp2_with fail
            go_roundw
            case rel =>
              have h2 := HI6.out.r2.lt
              have h4 := HI6.out.r4.lt
              have hgg := HG9.out
              have hb2 := HB62.out
              have h22 := H2.out
              refine ⟨k + 1, some ⟨g9, 0, none⟩, c7, by first | rfl | go_num, by have := HK.out; omega, ?_⟩
              rw [HSN.out]
              refine ⟨?_, ?_, ?_, ?_, hurtOne_good HI6.out.good HMM.out.1 HMM.out.2 (by have := HDD.out; omega)⟩
              · exact (((HI6.out.ext.trans (HX5.out.trans HX7.out)).setCell (by dsimp only; omega) _).setCell (by dsimp only; omega) _).setCell (by dsimp only; omega) _
              · exact ((((HI6.out.r2.ext HX5.out).ext HX7.out).set 0 _).far (by dsimp only; omega) _).far (by dsimp only; omega) _
              · exact ((((HI6.out.r4.ext HX5.out).ext HX7.out).far (by dsimp only; omega) _).far (by dsimp only; omega) _).far (by dsimp only; omega) _
              · have hst := OArr.stored HO7.out HI6.out.good.len HDD.out.2.1 HX5.out.size HX7.out D7.out NW.out.1 NW.out.2 h2 (.slice (some ⟨g9, 0, none⟩) 3 c7)
                have he : hurtOne a x = a.set d TD.1 := by
                  unfold hurtOne
                  rw [if_neg (by rw [HKD.out]; decide), if_pos HKD.out, ← HDD.out.2.2, ← HDE.out, ← HTD.out, if_pos HTC.out]
                rw [he]
                exact .inr ⟨w6.heap.size, h2, h4, by rw [List.length_set]; exact HI6.out.good.len, hst⟩
            case measure => have := HK.out; (simp [intOf]; try omega)
          · have htb : (TD.2 == 0) = false := beq_false_of_ne htc
            clear k2 y0 y1 l7
            have HTC := Lib.hid htc
            clear htc
            go_wp2_with fail
            go_roundw
            case rel =>
              refine ⟨k + 1, some ⟨ga, oa, none⟩, c, by first | rfl | go_num, by have := HK.out; omega, ?_⟩
              have he : hurtOne a x = a := by
                unfold hurtOne
                rw [if_neg (by rw [HKD.out]; decide), if_pos HKD.out, ← HDD.out.2.2, ← HDE.out, ← HTD.out, if_neg HTC.out]
              rw [HSN.out, he]
              exact HI6.out.up HX5.out
            case measure => have := HK.out; (simp [intOf]; try omega)
        · go_wp2_with fail
          refine hK _ _ ?_ ?_
          · first | exact ⟨((Ext.refl w6).drew.alloc _).cell f0, ((Ext.refl w6).drew.alloc _).cell f1, ((Ext.refl w6).drew.alloc _).cell f2, ((Ext.refl w6).drew.alloc _).cell f3, ((Ext.refl w6).drew.alloc _).cell f4⟩ | exact ⟨((Ext.refl w6).alloc _).cell f0, ((Ext.refl w6).alloc _).cell f1, ((Ext.refl w6).alloc _).cell f2, ((Ext.refl w6).alloc _).cell f3, ((Ext.refl w6).alloc _).cell f4⟩
          clear hK K
          try simp only [Act.put, List.setIfInBounds_toArray, List.set_cons_zero, List.set_cons_succ]
          refine anyH_abs (fun W => Ext w6 W ∧ Blk_ W w6.heap.size 63 #[.slice none 0 0, .slice none 0 0]) ⟨by first | exact (Ext.refl _).alloc _ | exact (Ext.refl _).drew.alloc _, by first | exact Blk_.new _ _ _ | exact (Blk_.new _ _ _).drew⟩ ?_
          rintro Wz ⟨ez0, hbz0⟩
          refine wpAnyH_oneL (i := 8) rfl (by kernel_rfl) rfl (fun K hK => ?_)
          go_wp2_with fail
          refine (devLose_any [.slice A1 dd.sec.length c1, .slice A2 dd.lost.length c2] dd x.n _ (HDV.out.up (ez0)) HIX.out).mono ?_
          rintro e w8 ⟨P1, p1, Q1, q1, rfl, hx, ho⟩
          have hgd := ho.dev.newG ho.new1 ho.new2 hbz0.lt
          have NW := Lib.hid (show New w6.drew.heap.size (.slice P1 (loseS dd x.n).sec.length p1) ∧ New w6.drew.heap.size (.slice Q1 (loseS dd x.n).lost.length q1) from ⟨ho.new1.mono ez0.size, ho.new2.mono ez0.size⟩)
          clear ho
          have hxz := ez0.trans hx
          have hgz : w6.heap.size ≤ w6.heap.size := Nat.le_refl _
          have hbz := hbz0.ext hx
          clear hx hbz0
          refine hK _ _ ⟨hxz.cell f0, hxz.cell f1, hxz.cell f2, hxz.cell f3, hxz.cell f4⟩ ?_
          clear hK K
          try simp only [Act.put, List.setIfInBounds_toArray, List.set_cons_zero, List.set_cons_succ]
          have hS1 : (fun W' => W'.cell? ⟨b2, 0, none⟩ = some (.slice (some ⟨ga, oa, none⟩) 3 c) ∧ W'.cell? ⟨ga, oa + d * 2, none⟩ = some (.slice A1 dd.sec.length c1) ∧ W'.cell? ⟨ga, oa + d * 2 + 1, none⟩ = some (.slice A2 dd.lost.length c2) ∧ W'.cell? ⟨b6, 3, none⟩ = some (.int .i64 (d : Int)) ∧ W'.cell? ⟨b6, 4, none⟩ = some (.int .i64 x.n)) w8 := ⟨hxz.cell f0, hxz.cell f1, hxz.cell f2, hxz.cell f3, hxz.cell f4⟩
          refine wpAnyH_takeL (i := 9) (v := ?_) rfl (by kernel_rfl) (fun _ _ _ h => h) rfl ?_ hS1 ?_
          rotate_left
          · intro w' hS
            try dsimp only at hS
            go_simp
            rfl
          try simp only [Act.put, List.setIfInBounds_toArray, List.set_cons_zero, List.set_cons_succ]
          refine wpAnyH_takeL (i := 10) (v := ?_) rfl (by kernel_rfl) (fun _ _ _ h => h) rfl ?_ hS1 ?_
          rotate_left
          · intro w' hS
            try dsimp only at hS
            go_simp
            rfl
          try simp only [Act.put, List.setIfInBounds_toArray, List.set_cons_zero, List.set_cons_succ]
          refine wpAnyH_takeL (i := 11) (v := ?_) rfl (by kernel_rfl) (fun _ _ _ h => h) rfl ?_ hS1 ?_
          rotate_left
          · intro w' hS
            try dsimp only at hS
            go_simp
            rfl
          try simp only [Act.put, List.setIfInBounds_toArray, List.set_cons_zero, List.set_cons_succ]
          obtain ⟨g7, hg7⟩ : ∃ g7, g7 = w6.heap.size := ⟨_, rfl⟩
          have hgz : w6.heap.size ≤ g7 := by omega
          rw [← hg7] at hbz hgd ⊢
          clear hS1 hg7
          have m0 := hbz.cell 0
          have m1 := hbz.cell 1
          have z0 := hbz.frozen 0
          have z1 := hbz.frozen 1
          simp at m0 m1
          have hb22 := (hbz.set 0 (.slice P1 (loseS dd x.n).sec.length p1)).set 1 (.slice Q1 (loseS dd x.n).lost.length q1)
          have hx5 := (hxz.setCell (p := ⟨g7, 0, none⟩) hgz (.slice P1 (loseS dd x.n).sec.length p1)).setCell (p := ⟨g7, 1, none⟩) hgz (.slice Q1 (loseS dd x.n).lost.length q1)
          have hd5 := ((hgd.far (p := ⟨g7, 0, none⟩) (.slice P1 (loseS dd x.n).sec.length p1)).far (p := ⟨g7, 1, none⟩) (.slice Q1 (loseS dd x.n).lost.length q1)).dev
          have B7 := Lib.hid hb22
          have D7 := Lib.hid hd5
          have HX5 := Lib.hid hx5
          have HG7 := Lib.hid hgz
          clear hb22 hd5 hx5 hxz hgz hbz hgd
          refine wpAnyH_oneL (i := 13) rfl (by kernel_rfl) rfl (fun K hK => ?_)
          go_wp2_with fail
          refine hK _ _ ?_ ?_
          · exact ⟨HX5.out.cell f0, HX5.out.cell f1, HX5.out.cell f2, HX5.out.cell f3, HX5.out.cell f4⟩
          clear hK K
          try simp only [Act.put, List.setIfInBounds_toArray, List.set_cons_zero, List.set_cons_succ]
          refine wpAnyH_endL (by kernel_rfl) (fun K hK => ?_)
          clear m0 m1 z0 z1 hS0 f0 f1 f2 f3 f4
          have k6 := (HB6.out.ext HX5.out).cell 0
          simp at k6
          go_wp2_with fail
          clear k6
          refine wp_abs (fun W => Blk_ W g7 63 #[(.slice P1 (loseS dd x.n).sec.length p1), (.slice Q1 (loseS dd x.n).lost.length q1)] ∧ Ext w6 W) ⟨B7.out, HX5.out⟩ ?_
          clear B7 D7 HX5 NW
          rintro W5 ⟨hb7, hx5⟩
          have HX5' := Lib.hid hx5
          have HB7 := Lib.hid hb7
          clear hb7 hx5
          refine wp_region_begin (S := fun W' => W'.cell? ⟨b2, 0, none⟩ = some (.slice (some ⟨ga, oa, none⟩) 3 c) ∧ W'.cell? ⟨ga, oa + d * 2, none⟩ = some (.slice A1 dd.sec.length c1) ∧ W'.cell? ⟨ga, oa + d * 2 + 1, none⟩ = some (.slice A2 dd.lost.length c2) ∧ W'.cell? ⟨b6, 3, none⟩ = some (.int .i64 (d : Int)) ∧ W'.cell? ⟨b6, 4, none⟩ = some (.int .i64 x.n) ∧ W'.cell? ⟨b6, 5, none⟩ = some (.int .i64 x.at_) ∧ W'.cell? ⟨b6, 6, none⟩ = some (.int .i64 x.by_)) (n := 17) (by kernel_rfl) rfl (by kernel_rfl) rfl ?_
          have hS0 : (fun W' => W'.cell? ⟨b2, 0, none⟩ = some (.slice (some ⟨ga, oa, none⟩) 3 c) ∧ W'.cell? ⟨ga, oa + d * 2, none⟩ = some (.slice A1 dd.sec.length c1) ∧ W'.cell? ⟨ga, oa + d * 2 + 1, none⟩ = some (.slice A2 dd.lost.length c2) ∧ W'.cell? ⟨b6, 3, none⟩ = some (.int .i64 (d : Int)) ∧ W'.cell? ⟨b6, 4, none⟩ = some (.int .i64 x.n) ∧ W'.cell? ⟨b6, 5, none⟩ = some (.int .i64 x.at_) ∧ W'.cell? ⟨b6, 6, none⟩ = some (.int .i64 x.by_)) W5.drew := ⟨HX5'.out.cell HFS.out.1, HX5'.out.cell HFS.out.2.1, HX5'.out.cell HFS.out.2.2.1, HX5'.out.cell HFS.out.2.2.2.1, HX5'.out.cell HFS.out.2.2.2.2.1, HX5'.out.cell HFS.out.2.2.2.2.2.1, HX5'.out.cell HFS.out.2.2.2.2.2.2⟩
          refine wpAnyH_takeL (i := 0) (v := ?_) rfl (by kernel_rfl) (fun _ _ _ h => h) rfl ?_ hS0 ?_
          rotate_left
          · intro w' hS
            try dsimp only at hS
            go_simp
            rfl
          try simp only [Act.put, List.setIfInBounds_toArray, List.set_cons_zero, List.set_cons_succ]
          refine wpAnyH_takeL (i := 1) (v := ?_) rfl (by kernel_rfl) (fun _ _ _ h => h) rfl ?_ hS0 ?_
          rotate_left
          · intro w' hS
            try dsimp only at hS
            go_simp
            rfl
          try simp only [Act.put, List.setIfInBounds_toArray, List.set_cons_zero, List.set_cons_succ]
          refine wpAnyH_takeL (i := 2) (v := ?_) rfl (by kernel_rfl) (fun _ _ _ h => h) rfl ?_ hS0 ?_
          rotate_left
          · intro w' hS
            try dsimp only at hS
            go_simp
            rfl
          try simp only [Act.put, List.setIfInBounds_toArray, List.set_cons_zero, List.set_cons_succ]
          refine wpAnyH_takeL (i := 3) (v := ?_) rfl (by kernel_rfl) (fun _ _ _ h => h) rfl ?_ hS0 ?_
          rotate_left
          · intro w' hS
            try dsimp only at hS
            go_simp
            rfl
          try simp only [Act.put, List.setIfInBounds_toArray, List.set_cons_zero, List.set_cons_succ]
          refine wpAnyH_takeL (i := 4) (v := ?_) rfl (by kernel_rfl) (fun _ _ _ h => h) rfl ?_ hS0 ?_
          rotate_left
          · intro w' hS
            try dsimp only at hS
            go_simp
            rfl
          try simp only [Act.put, List.setIfInBounds_toArray, List.set_cons_zero, List.set_cons_succ]
          refine wpAnyH_takeL (i := 5) (v := ?_) rfl (by kernel_rfl) (fun _ _ _ h => h) rfl ?_ hS0 ?_
          rotate_left
          · intro w' hS
            try dsimp only at hS
            go_simp
            rfl
          try simp only [Act.put, List.setIfInBounds_toArray, List.set_cons_zero, List.set_cons_succ]
          refine wpAnyH_takeL (i := 6) (v := ?_) rfl (by kernel_rfl) (fun _ _ _ h => h) rfl ?_ hS0 ?_
          rotate_left
          · intro w' hS
            try dsimp only at hS
            go_simp
            rfl
          try simp only [Act.put, List.setIfInBounds_toArray, List.set_cons_zero, List.set_cons_succ]
          refine wpAnyH_takeL (i := 7) (v := ?_) rfl (by kernel_rfl) (fun _ _ _ h => h) rfl ?_ hS0 ?_
          rotate_left
          · intro w' hS
            try dsimp only at hS
            go_simp
            rfl
          try simp only [Act.put, List.setIfInBounds_toArray, List.set_cons_zero, List.set_cons_succ]
          refine wpAnyH_takeL (i := 8) (v := ?_) rfl (by kernel_rfl) (fun _ _ _ h => h) rfl ?_ hS0 ?_
          rotate_left
          · intro w' hS
            try dsimp only at hS
            go_simp
            rfl
          try simp only [Act.put, List.setIfInBounds_toArray, List.set_cons_zero, List.set_cons_succ]
          refine wpAnyH_takeL (i := 9) (v := ?_) rfl (by kernel_rfl) (fun _ _ _ h => h) rfl ?_ hS0 ?_
          rotate_left
          · intro w' hS
            try dsimp only at hS
            go_simp
            rfl
          try simp only [Act.put, List.setIfInBounds_toArray, List.set_cons_zero, List.set_cons_succ]
          refine wpAnyH_takeL (i := 10) (v := ?_) rfl (by kernel_rfl) (fun _ _ _ h => h) rfl ?_ hS0 ?_
          rotate_left
          · intro w' hS
            try dsimp only at hS
            go_simp
            rfl
          try simp only [Act.put, List.setIfInBounds_toArray, List.set_cons_zero, List.set_cons_succ]
          refine wpAnyH_takeL (i := 11) (v := ?_) rfl (by kernel_rfl) (fun _ _ _ h => h) rfl ?_ hS0 ?_
          rotate_left
          · intro w' hS
            try dsimp only at hS
            go_simp
            rfl
          try simp only [Act.put, List.setIfInBounds_toArray, List.set_cons_zero, List.set_cons_succ]
          refine wpAnyH_oneL (i := 12) rfl (by kernel_rfl) rfl (fun K hK => ?_)
          go_wp2_with fail
          refine (devTurn_any [.slice A1 dd.sec.length c1, .slice A2 dd.lost.length c2] dd x.n x.at_ x.by_ _ (HDV.out.up (HX5'.out.trans (Ext.refl W5).drew)) HIX.out HIA.out.1 HIA.out.2).mono ?_
          rintro e w9 ⟨R1, r1, R2, r2, rfl, hx, ho⟩
          rw [← HTD.out] at ho ⊢
          have hgd := ho.dev.newG ho.new1 ho.new2 (show g7 < W5.drew.heap.size from HB7.out.lt)
          have NW := Lib.hid (show New w6.heap.size (.slice R1 TD.1.sec.length r1) ∧ New w6.heap.size (.slice R2 TD.1.lost.length r2) from ⟨ho.new1.mono HX5'.out.size, ho.new2.mono HX5'.out.size⟩)
          have hx69 : Ext w6 w9 := HX5'.out.trans ((Ext.refl W5).drew.trans hx)
          have hb79 := HB7.out.ext ((Ext.refl W5).drew.trans hx)
          clear ho
          refine hK _ _ ⟨hx69.cell HFS.out.1, hx69.cell HFS.out.2.1, hx69.cell HFS.out.2.2.1, hx69.cell HFS.out.2.2.2.1, hx69.cell HFS.out.2.2.2.2.1, hx69.cell HFS.out.2.2.2.2.2.1, hx69.cell HFS.out.2.2.2.2.2.2⟩ ?_
          clear hK K hx hS0
          try simp only [Act.put, List.setIfInBounds_toArray, List.set_cons_zero, List.set_cons_succ]
          have hS1 : (fun W' => W'.cell? ⟨b2, 0, none⟩ = some (.slice (some ⟨ga, oa, none⟩) 3 c) ∧ W'.cell? ⟨ga, oa + d * 2, none⟩ = some (.slice A1 dd.sec.length c1) ∧ W'.cell? ⟨ga, oa + d * 2 + 1, none⟩ = some (.slice A2 dd.lost.length c2) ∧ W'.cell? ⟨b6, 3, none⟩ = some (.int .i64 (d : Int)) ∧ W'.cell? ⟨b6, 4, none⟩ = some (.int .i64 x.n) ∧ W'.cell? ⟨b6, 5, none⟩ = some (.int .i64 x.at_) ∧ W'.cell? ⟨b6, 6, none⟩ = some (.int .i64 x.by_)) w9 := ⟨hx69.cell HFS.out.1, hx69.cell HFS.out.2.1, hx69.cell HFS.out.2.2.1, hx69.cell HFS.out.2.2.2.1, hx69.cell HFS.out.2.2.2.2.1, hx69.cell HFS.out.2.2.2.2.2.1, hx69.cell HFS.out.2.2.2.2.2.2⟩
          refine wpAnyH_takeL (i := 13) (v := ?_) rfl (by kernel_rfl) (fun _ _ _ h => h) rfl ?_ hS1 ?_
          rotate_left
          · intro w' hS
            try dsimp only at hS
            go_simp
            rfl
          try simp only [Act.put, List.setIfInBounds_toArray, List.set_cons_zero, List.set_cons_succ]
          refine wpAnyH_takeL (i := 14) (v := ?_) rfl (by kernel_rfl) (fun _ _ _ h => h) rfl ?_ hS1 ?_
          rotate_left
          · intro w' hS
            try dsimp only at hS
            go_simp
            rfl
          try simp only [Act.put, List.setIfInBounds_toArray, List.set_cons_zero, List.set_cons_succ]
          refine wpAnyH_takeL (i := 15) (v := ?_) rfl (by kernel_rfl) (fun _ _ _ h => h) rfl ?_ hS1 ?_
          rotate_left
          · intro w' hS
            try dsimp only at hS
            go_simp
            rfl
          try simp only [Act.put, List.setIfInBounds_toArray, List.set_cons_zero, List.set_cons_succ]
          have m0 := hb79.cell 0
          have m1 := hb79.cell 1
          have z0 := hb79.frozen 0
          have z1 := hb79.frozen 1
          simp at m0 m1
          have HX5 := Lib.hid ((hx69.setCell (p := ⟨g7, 0, none⟩) HG7.out (.slice R1 TD.1.sec.length r1)).setCell (p := ⟨g7, 1, none⟩) HG7.out (.slice R2 TD.1.lost.length r2))
          have B7 := Lib.hid ((hb79.set 0 (.slice R1 TD.1.sec.length r1)).set 1 (.slice R2 TD.1.lost.length r2))
          have D7 := Lib.hid ((hgd.far (p := ⟨g7, 0, none⟩) (.slice R1 TD.1.sec.length r1)).far (p := ⟨g7, 1, none⟩) (.slice R2 TD.1.lost.length r2)).dev
          clear hb79 hgd hx69 HX5' HB7
          refine wpAnyH_oneL (i := 16) rfl (by kernel_rfl) rfl (fun K hK => ?_)
          go_wp2_with fail
          refine hK _ _ ?_ ?_
          · exact ⟨HX5.out.cell HFS.out.1, HX5.out.cell HFS.out.2.1, HX5.out.cell HFS.out.2.2.1, HX5.out.cell HFS.out.2.2.2.1, HX5.out.cell HFS.out.2.2.2.2.1, HX5.out.cell HFS.out.2.2.2.2.2.1, HX5.out.cell HFS.out.2.2.2.2.2.2⟩
          clear hK K
          try simp only [Act.put, List.setIfInBounds_toArray, List.set_cons_zero, List.set_cons_succ]
          refine wpAnyH_endL (by kernel_rfl) (fun K hK => ?_)
          clear m0 m1 z0 z1 hS1
          have y0 := B7.out.cell 0
          have y1 := B7.out.cell 1
          have l7 := B7.out.lt
          simp at y0 y1
          have k2 := (HI6.out.r2.ext HX5.out).cell 0
          simp at k2
          by_cases htc : TD.2 = 0
          · rw [htc]
            have HTC := Lib.hid htc
            clear htc
            go_wp2_with fail
            refine (arrCopy_any [.slice (some ⟨ga, oa, none⟩) 3 c] a _ (HI6.out.rarr.up HX5.out)).mono ?_
            rintro e w7 ⟨A7, c7, rfl, hx7, ho7⟩
            have h3 := HI6.out.good.len
            rw [h3] at ho7 ⊢
            obtain ⟨g9, rfl, hb9, hl9, hf9, hc9⟩ := ho7.at_ h3
            have HO7 := Lib.hid ho7
            have HX7 := Lib.hid hx7
            clear k2 y0 y1
            have z2 := ((HI6.out.r2.ext HX5.out).ext hx7).frozen 0
            have k2 := ((HI6.out.r2.ext HX5.out).ext hx7).cell 0
            simp at k2
            have l2 := ((HI6.out.r2.ext HX5.out).ext hx7).lt
            have HG9 := Lib.hid (show b2 < g9 ∧ g7 < g9 ∧ b6 < g9 by
              have h5 := (HI6.out.r2.ext HX5.out).lt
              have h6 := B7.out.lt
              have h7 := (HB6.out.ext HX5.out).lt
              exact ⟨by omega, by omega, by omega⟩)
            have v0 := (B7.out.ext hx7).cell 0
            have v1 := (B7.out.ext hx7).cell 1
            have v3 := ((HB6.out.ext HX5.out).ext hx7).cell 3
            simp at v0 v1 v3
            have i0 := hf9 (d * 2)
            have i1 := hf9 (d * 2 + 1)
            obtain ⟨_, _, _, _, t0, t1, _⟩ := hc9 d HDD.out.2.1
            have ne1 : ¬ (b2 = g9) := by have := HG9.out; omega
            have ne2 : ¬ (g9 = b2) := by have := HG9.out; omega
            have ne3 : ¬ (b2 = g7) := fun e => by have h1 := HI6.out.r2.lt; have h2 := HG7.out; omega
            have ne4 : ¬ (b6 = b2) := fun e => by have h1 := HB62.out; omega
            have ne5 : ¬ (g7 = b2) := fun e => ne3 e.symm
            have ne6 : ¬ (b2 = b6) := fun e => ne4 e.symm
            have l9 := hl9
            clear ho7 hx7 hb9 hf9 hc9 hl9
            go_wp2_with fail
            go_roundw
            case rel =>
              have h2 := HI6.out.r2.lt
              have h4 := HI6.out.r4.lt
              have hgg := HG9.out
              have hb2 := HB62.out
              have h22 := H2.out
              refine ⟨k + 1, some ⟨g9, 0, none⟩, c7, by first | rfl | go_num, by have := HK.out; omega, ?_⟩
              rw [HSN.out]
              refine ⟨?_, ?_, ?_, ?_, hurtOne_good HI6.out.good HMM.out.1 HMM.out.2 (by have := HDD.out; omega)⟩
              · exact (((HI6.out.ext.trans (HX5.out.trans HX7.out)).setCell (by dsimp only; omega) _).setCell (by dsimp only; omega) _).setCell (by dsimp only; omega) _
              · exact ((((HI6.out.r2.ext HX5.out).ext HX7.out).set 0 _).far (by dsimp only; omega) _).far (by dsimp only; omega) _
              · exact ((((HI6.out.r4.ext HX5.out).ext HX7.out).far (by dsimp only; omega) _).far (by dsimp only; omega) _).far (by dsimp only; omega) _
              · have hst := OArr.stored HO7.out HI6.out.good.len HDD.out.2.1 HX5.out.size HX7.out D7.out NW.out.1 NW.out.2 h2 (.slice (some ⟨g9, 0, none⟩) 3 c7)
                have he : hurtOne a x = a.set d TD.1 := by
                  unfold hurtOne
                  rw [if_neg (by rw [HKD.out]; decide), if_pos HKD.out, ← HDD.out.2.2, ← HDE.out, ← HTD.out, if_pos HTC.out]
                rw [he]
                exact .inr ⟨w6.heap.size, h2, h4, by rw [List.length_set]; exact HI6.out.good.len, hst⟩
            case measure => have := HK.out; (simp [intOf]; try omega)
          · have htb : (TD.2 == 0) = false := beq_false_of_ne htc
            clear k2 y0 y1 l7
            have HTC := Lib.hid htc
            clear htc
            go_wp2_with fail
            go_roundw
            case rel =>
              refine ⟨k + 1, some ⟨ga, oa, none⟩, c, by first | rfl | go_num, by have := HK.out; omega, ?_⟩
              have he : hurtOne a x = a := by
                unfold hurtOne
                rw [if_neg (by rw [HKD.out]; decide), if_pos HKD.out, ← HDD.out.2.2, ← HDE.out, ← HTD.out, if_neg HTC.out]
              rw [HSN.out, he]
              exact HI6.out.up HX5.out
            case measure => have := HK.out; (simp [intOf]; try omega)
      · rw [hxk] at q0
        have HKD := Lib.hid hxk
        clear hxk hxk0
        go_wp2_with fail
        refine calls_abs (fun W => Ext wr W) ((Ext.refl _).alloc _) ?_
        intro w6 hx6
        have HI6 := Lib.hid (HI.out.up hx6)
        clear hx6 q0 q1 q2 q3 q4 q5 q6 r2 HI
        have h3 := HI6.out.good.len
        have hmay : arrMay a = true := by
          have := HMM.out
          have hgd := HI6.out.good
          exact hgd.may (by omega) (HEV.out)
        have hrp : replaceS a (d : Int) = (a.set d (lostDev (devAt (dv a 0).sec.length d)), 0) := repl_ok hmay HDD.out.2.1
        have hc := arrReplace_any A c a (d : Int) w6 (by rw [h3]; exact HI6.out.rarr) (by have := HDD.out; unfold I64; omega)
        rw [h3, hrp] at hc
        refine hc.mono ?_
        rintro e w7 ⟨A7, c7, rfl, hx7, ho7⟩
        simp only at ho7 ⊢
        rw [List.length_set, h3] at ho7 ⊢
        have he : hurtOne a x = a.set d (lostDev (devAt (dv a 0).sec.length d)) := by
          unfold hurtOne
          rw [if_pos HKD.out, ← HDD.out.2.2]
        have HHE := Lib.hid he
        have HO7 := Lib.hid ho7
        have HI7 := Lib.hid (HI6.out.up hx7)
        have HLT := Lib.hid (show b2 < w6.heap.size ∧ b2 + 1 < w6.heap.size from ⟨HI6.out.r2.lt, HI6.out.r4.lt⟩)
        have z2 := HI7.out.r2.frozen 0
        have k2 := HI7.out.r2.cell 0
        simp at k2
        have l2 := HI7.out.r2.lt
        clear hc hrp hmay h3 he ho7 hx7
        go_wp2_with fail
        go_roundw
        case rel =>
          have h22 := H2.out
          have hlt := HLT.out
          refine ⟨k + 1, A7, c7, by first | rfl | go_num, by have := HK.out; omega, ?_⟩
          rw [HSN.out]
          refine ⟨HI7.out.ext.setCell (by dsimp only; omega) _, HI7.out.r2.set 0 _, HI7.out.r4.far (by dsimp only; omega) _, ?_, hurtOne_good HI7.out.good HMM.out.1 HMM.out.2 (by have := HDD.out; omega)⟩
          rw [HHE.out]
          exact .inr ⟨w6.heap.size, hlt.1, hlt.2, by rw [List.length_set]; exact HI7.out.good.len, HO7.out.far (p := ⟨b2, 0, none⟩) (by dsimp only; omega) _⟩
        case measure => have := HK.out; (simp [intOf]; try omega)
    · have hki : (l.length : Int) ≤ (k : Int) := by omega
      obtain rfl : k = l.length := by omega
      clear hlt hk
      have r2 := HI.out.r2.cell 0
      have r4 := HI.out.r4.cell 0
      have z4 := HI.out.r4.frozen 0
      simp at r2 r4
      go_wp2_with fail
      have HB := Lib.hid (HI.out.r4.set 0 (.slice A 3 c))
      have HXX := Lib.hid (HI.out.ext.setCell (p := ⟨b2 + 1, 0, none⟩) (by have := H2.out; dsimp only; omega) (.slice A 3 c))
      have HRR := Lib.hid (HI.out.sf.far4 (.slice A 3 c))
      refine bodyPost_ret (res_cell rfl rfl HB.out Tryd.underlying25 rfl (by kernel_rfl)) rfl ?_
      rw [List.take_length] at HRR
      exact ⟨A, c, rfl, HXX.out, HRR.out⟩
end Go.Proofs.YtgjijcgkmofaaaaDoor
