/-
  A device keeps what was written, till it is lost or turned: the law DevicesKeep. Conditions: none.
-/
import Derived.Test.YtokpjgpdkmimgaaKPick
import Derived.Test.YtokpjgpdkmimgaaPKeepDev
import Derived.Test.YtokpjgpdkmimgaaWDevNew
import Derived.Test.YtokpjgpdkmimgaaWDevWrite
import Derived.Test.YtokpjgpdkmimgaaWDevTurn
import Derived.Test.YtokpjgpdkmimgaaWEncode
import Derived.Test.YtokpjgpdkmimgaaR2
namespace Go.Proofs.Ytokpjgpdkmimgaa
set_option linter.unusedSimpArgs false
set_option linter.unusedVariables false
open Go.RowKit

theorem take_padS {p : ByteArray} (h : p.size ≤ 24) : (padS p).extract 0 p.size = p := by
  have h1 : lst ((padS p).extract 0 p.size) = lst p := by
    rw [lst_extract]
    unfold sub_ padS
    rw [lst_bs, List.drop_zero, List.take_left' (by rw [length_lst])]
  have h2 := congrArg bs h1
  rwa [bs_lst, bs_lst] at h2
set_option maxRecDepth 100000 in
theorem hasPrefix_any (s p : ByteArray) (w : World) (h : s.extract 0 p.size = p) (hl : p.size ≤ s.size) (hs : s.size ≤ 140737488355328) :
    Calls Try.prog 30 #[.string s, .string p] w fun e w' => e = .returned (.bool true) ∧ w' = w := by
  have hlI : (p.size : Int) ≤ (s.size : Int) := by omega
  have h0 : (0 : Int) ≤ (p.size : Int) := by omega
  have HH := Lib.hid h
  obtain ⟨q, hq⟩ : ∃ q, q = s.extract 0 p.size := ⟨_, rfl⟩
  have hE : (q.toList == p.toList) = true := by rw [hq, h]; exact beq_self_eq_true _
  go_enter Try.func30, Try.ntmps30
  go_wp2_with fail
  go_enter Try.func57, Try.ntmps57
  clear h hq
  have hE2 : ((s.extract 0 p.size).toList == p.toList) = true := by rw [HH.out]; exact beq_self_eq_true _
  go_wp2_with fail
  go_ret
  exact ⟨rfl, rfl⟩
set_option maxRecDepth 100000 in
set_option maxHeartbeats 16000000 in
theorem lawDevicesKeep_any (many at_ : Int) (s : ByteArray) (by_ : Int) (w : World) (hm : I64 many) (ha : I64 at_) (hs : s.size ≤ 140737488355328) (hb : 0 ≤ by_ ∧ by_ < 256) :
    Calls Try.prog 10 #[.int .i64 many, .int .i64 at_, .string s, .int .u8 by_] w fun e w' => e = .returned (.bool true) ∧ Ext w w' := by
  have hsI : (s.size : Int) ≤ 140737488355328 := by omega
  obtain ⟨hb0, hb1⟩ := hb
  obtain ⟨u, hu⟩ : ∃ u, u = min s.size 24 := ⟨_, rfl⟩
  have hu1I : (u : Int) ≤ (s.size : Int) := by omega
  have hu4 : (u : Int) ≤ 24 := by omega
  have hmin : min (s.size : Int) 24 = (u : Int) := by omega
  obtain ⟨q, hq⟩ : ∃ q, q = s.extract 0 u := ⟨_, rfl⟩
  have HQ6 := Lib.hid (show q.size ≤ 24 by rw [hq, ByteArray.size_extract]; omega)
  have HQ := Lib.hid hq
  clear hu hq
  go_enter Try.func10, Try.ntmps10
  go_wp2_with fail
  refine (picked_any many 64 _ hm (by omega) (by omega)).mono ?_
  rintro e w1 ⟨rfl, rfl⟩
  obtain ⟨r0, r1⟩ := pick_range many 64 (by omega)
  obtain ⟨m, hmm⟩ := Int.eq_ofNat_of_zero_le r0
  rw [hmm] at r0 r1 ⊢
  obtain ⟨n, hn⟩ : ∃ n, n = m + 1 := ⟨_, rfl⟩
  have y1 : (1 : Int) + (m : Int) = (n : Int) := by omega
  have hn64 : (n : Int) ≤ 64 := by omega
  have hn1 : (1 : Int) ≤ (n : Int) := by omega
  have HN := Lib.hid (show 1 ≤ n ∧ n ≤ 64 by omega)
  clear hmm r0 r1 hn
  go_wp2_with fail
  refine (picked_any at_ n _ ha (by omega) (by omega)).mono ?_
  rintro e w1 ⟨rfl, rfl⟩
  obtain ⟨r0, r1⟩ := pick_range at_ n (by omega)
  obtain ⟨k, hk⟩ := Int.eq_ofNat_of_zero_le r0
  rw [hk] at r0 r1 ⊢
  have hkn : (k : Int) < (n : Int) := r1
  have HK := Lib.hid (show k < n by omega)
  have IK : I64 (k : Int) := by unfold I64; omega
  clear hk r0 r1 y1
  obtain ⟨p0, p1⟩ := pick_range at_ 30 (by omega)
  obtain ⟨d, a, b, c, x, F1, F2, F3, F4, F5, F6, F7, F8, F9, F10, F11⟩ := keep_dev n k q (pick at_ 30) by_ HN.out.1 HN.out.2 HK.out HQ6.out ⟨p0, by omega⟩ ⟨hb0, by omega⟩
  obtain ⟨pl, hpl⟩ : ∃ pl, pl = pick at_ 30 := ⟨_, rfl⟩
  rw [← hpl] at F7 p0 p1
  have HPL := Lib.hid hpl
  have G1 := Lib.hid F1
  have G2 := Lib.hid F2
  have G3 := Lib.hid F3
  have G4 := Lib.hid F4
  have G5 := Lib.hid F5
  have G6 := Lib.hid F6
  have G7 := Lib.hid F7
  have G8 := Lib.hid F8
  have G9 := Lib.hid F9
  have G10 := Lib.hid F10
  have G11 := Lib.hid F11
  clear F1 F2 F3 F4 F5 F6 F7 F8 F9 F10 F11 hpl
  have IN : I64 (n : Int) := by unfold I64; omega
  have HX := Lib.hid (Ext.refl w1)
  go_wp2_with fail
  rw [← HQ.out]
  refine (devNew_any n 0 _ IN (by unfold I64; omega)).mono ?_
  rintro e w12 ⟨A12, c12, A12', c12', rfl, hx, ho⟩
  rw [G1.out] at ho ⊢
  try dsimp only at ho ⊢
  have hdev := Lib.hid ho.dev
  have HX' := Lib.hid (HX.out.trans hx)
  clear HX
  have HX := HX'
  clear HX'
  clear ho hx
  go_wp2_with fail
  refine calls_abs (fun W => Ext w12 W ∧ Blk_ W w12.heap.size 54 #[(.slice A12 d.sec.length c12), (.slice A12' d.lost.length c12')]) ⟨(Ext.refl _).alloc _, Blk_.new _ _ _⟩ ?_
  rintro W12 ⟨hx, hb⟩
  have HX' := Lib.hid (HX.out.trans hx)
  clear HX
  have HX := HX'
  clear HX'
  have B12 := Lib.hid hb
  have D12 := Lib.hid (hdev.out.up hx)
  clear hb hx hdev
  refine (devWrite_any [(.slice A12 d.sec.length c12), (.slice A12' d.lost.length c12')] d k k q _ D12.out IK IK (by have := HQ6.out; omega)).mono ?_
  rintro e w14 ⟨A14, c14, A14', c14', rfl, hx, ho⟩
  rw [G2.out] at ho ⊢
  try dsimp only at ho ⊢
  have hdev := Lib.hid ho.dev
  have B12' := Lib.hid (B12.out.ext hx)
  have D12' := Lib.hid (D12.out.up hx)
  clear B12 D12
  have B12 := B12'
  have D12 := D12'
  clear B12' D12'
  have HX' := Lib.hid (HX.out.trans hx)
  clear HX
  have HX := HX'
  clear HX'
  clear ho hx
  go_wp2_with fail
  refine calls_abs (fun W => Ext w14 W ∧ Blk_ W w14.heap.size 54 #[(.slice A14 a.sec.length c14), (.slice A14' a.lost.length c14')]) ⟨(Ext.refl _).alloc _, Blk_.new _ _ _⟩ ?_
  rintro W14 ⟨hx, hb⟩
  have B12' := Lib.hid (B12.out.ext hx)
  have D12' := Lib.hid (D12.out.up hx)
  clear B12 D12
  have B12 := B12'
  have D12 := D12'
  clear B12' D12'
  have HX' := Lib.hid (HX.out.trans hx)
  clear HX
  have HX := HX'
  clear HX'
  have B14 := Lib.hid hb
  have D14 := Lib.hid (hdev.out.up hx)
  clear hb hx hdev
  refine (devRead_any [(.slice A14 a.sec.length c14), (.slice A14' a.lost.length c14')] a k k _ D14.out IK IK).mono ?_
  rintro e w16 ⟨rfl, hx⟩
  rw [G3.out]
  obtain ⟨T, hT⟩ : ∃ T, T = padS q := ⟨_, rfl⟩
  have HT := Lib.hid hT
  rw [← hT]
  clear hT
  have B12' := Lib.hid (B12.out.ext hx)
  have D12' := Lib.hid (D12.out.up hx)
  clear B12 D12
  have B12 := B12'
  have D12 := D12'
  clear B12' D12'
  have B14' := Lib.hid (B14.out.ext hx)
  have D14' := Lib.hid (D14.out.up hx)
  clear B14 D14
  have B14 := B14'
  have D14 := D14'
  clear B14' D14'
  have HX' := Lib.hid (HX.out.trans hx)
  clear HX
  have HX := HX'
  clear HX'
  clear hx
  have f140 := B14.out.cell 0
  have f141 := B14.out.cell 1
  simp at f140 f141
  have l14 := B14.out.lt
  go_wp2_with fail
  clear f140 f141 l14
  refine (devLose_any [(.slice A14 a.sec.length c14), (.slice A14' a.lost.length c14')] a k _ D14.out IK).mono ?_
  rintro e w18 ⟨A18, c18, A18', c18', rfl, hx, ho⟩
  rw [G4.out] at ho ⊢
  rw [G5.out]
  try dsimp only at ho ⊢
  have hdev := Lib.hid ho.dev
  have B12' := Lib.hid (B12.out.ext hx)
  have D12' := Lib.hid (D12.out.up hx)
  clear B12 D12
  have B12 := B12'
  have D12 := D12'
  clear B12' D12'
  have B14' := Lib.hid (B14.out.ext hx)
  have D14' := Lib.hid (D14.out.up hx)
  clear B14 D14
  have B14 := B14'
  have D14 := D14'
  clear B14' D14'
  have HX' := Lib.hid (HX.out.trans hx)
  clear HX
  have HX := HX'
  clear HX'
  clear ho hx
  go_wp2_with fail
  refine calls_abs (fun W => Ext w18 W ∧ Blk_ W w18.heap.size 54 #[(.slice A18 b.sec.length c18), (.slice A18' b.lost.length c18')]) ⟨(Ext.refl _).alloc _, Blk_.new _ _ _⟩ ?_
  rintro W18 ⟨hx, hb⟩
  have B12' := Lib.hid (B12.out.ext hx)
  have D12' := Lib.hid (D12.out.up hx)
  clear B12 D12
  have B12 := B12'
  have D12 := D12'
  clear B12' D12'
  have B14' := Lib.hid (B14.out.ext hx)
  have D14' := Lib.hid (D14.out.up hx)
  clear B14 D14
  have B14 := B14'
  have D14 := D14'
  clear B14' D14'
  have HX' := Lib.hid (HX.out.trans hx)
  clear HX
  have HX := HX'
  clear HX'
  have B18 := Lib.hid hb
  have D18 := Lib.hid (hdev.out.up hx)
  clear hb hx hdev
  refine (devRead_any [(.slice A18 b.sec.length c18), (.slice A18' b.lost.length c18')] b k k _ D18.out IK IK).mono ?_
  rintro e w20 ⟨rfl, hx⟩
  rw [G6.out]
  have B12' := Lib.hid (B12.out.ext hx)
  have D12' := Lib.hid (D12.out.up hx)
  clear B12 D12
  have B12 := B12'
  have D12 := D12'
  clear B12' D12'
  have B14' := Lib.hid (B14.out.ext hx)
  have D14' := Lib.hid (D14.out.up hx)
  clear B14 D14
  have B14 := B14'
  have D14 := D14'
  clear B14' D14'
  have B18' := Lib.hid (B18.out.ext hx)
  have D18' := Lib.hid (D18.out.up hx)
  clear B18 D18
  have B18 := B18'
  have D18 := D18'
  clear B18' D18'
  have HX' := Lib.hid (HX.out.trans hx)
  clear HX
  have HX := HX'
  clear HX'
  clear hx
  have f140 := B14.out.cell 0
  have f141 := B14.out.cell 1
  simp at f140 f141
  have l14 := B14.out.lt
  go_wp2_with fail
  clear f140 f141 l14
  have f0 := B14.out.cell 0
  have f1 := B14.out.cell 1
  simp at f0 f1
  refine wp_region_begin (S := fun W' => W'.cell? ⟨w14.heap.size, 0, none⟩ = some (.slice A14 a.sec.length c14) ∧ W'.cell? ⟨w14.heap.size, 1, none⟩ = some (.slice A14' a.lost.length c14')) (n := 12) (by kernel_rfl) rfl (by kernel_rfl) rfl ?_
  have hS0 : (fun W' => W'.cell? ⟨w14.heap.size, 0, none⟩ = some (.slice A14 a.sec.length c14) ∧ W'.cell? ⟨w14.heap.size, 1, none⟩ = some (.slice A14' a.lost.length c14')) w20.drew := ⟨f0, f1⟩
  refine wpAnyH_takeL (i := 0) (v := ?_) rfl (by kernel_rfl) (fun _ _ _ h => h) rfl ?_ hS0 ?_
  rotate_left
  · intro w' hS
    try dsimp only at hS
    go_simp
    rfl
  try simp only [Act.put, List.setIfInBounds_toArray, List.set_cons_zero, List.set_cons_succ]
  refine wpAnyH_takeL (i := 1) (v := ?_) rfl (by kernel_rfl) (fun _ _ _ h => h) rfl ?_ hS0 ?_
  rotate_left
  · intro w' hS
    try dsimp only at hS
    go_simp
    rfl
  try simp only [Act.put, List.setIfInBounds_toArray, List.set_cons_zero, List.set_cons_succ]
  refine wpAnyH_takeL (i := 2) (v := ?_) rfl (by kernel_rfl) (fun _ _ _ h => h) rfl ?_ hS0 ?_
  rotate_left
  · intro w' hS
    try dsimp only at hS
    go_simp
    rfl
  try simp only [Act.put, List.setIfInBounds_toArray, List.set_cons_zero, List.set_cons_succ]
  refine wpAnyH_takeL (i := 4) (v := ?_) rfl (by kernel_rfl) (fun _ _ _ h => h) rfl ?_ hS0 ?_
  rotate_left
  · intro w' hS
    try dsimp only at hS
    go_simp
    rfl
  try simp only [Act.put, List.setIfInBounds_toArray, List.set_cons_zero, List.set_cons_succ]
  refine wpAnyH_takeL (i := 5) (v := ?_) rfl (by kernel_rfl) (fun _ _ _ h => h) rfl ?_ hS0 ?_
  rotate_left
  · intro w' hS
    try dsimp only at hS
    go_simp
    rfl
  try simp only [Act.put, List.setIfInBounds_toArray, List.set_cons_zero, List.set_cons_succ]
  refine wpAnyH_twoL (i := 3) (j := 10) rfl rfl (by kernel_rfl) rfl rfl (fun K hK => ?_) (fun K hK => ?_)
  · go_wp2_with fail
    refine (picked_any at_ 30 _ ha (by omega) (by omega)).mono ?_
    rintro e w' ⟨rfl, hw'⟩
    subst hw'
    rw [← HPL.out]
    refine hK _ _ hS0 ?_
    clear hK K
    try simp only [Act.put, List.setIfInBounds_toArray, List.set_cons_zero, List.set_cons_succ]
    refine wpAnyH_twoL (i := 6) (j := 10) rfl rfl (by kernel_rfl) rfl rfl (fun K hK => ?_) (fun K hK => ?_)
    · go_wp2_with fail
      refine (devTurn_any [(.slice A14 a.sec.length c14), (.slice A14' a.lost.length c14')] a k pl by_ _ (D14.out.up ((Ext.refl w20).drew)) IK (by unfold I64; omega) (by unfold I64; omega)).mono ?_
      rintro e w22 ⟨A22, c22, A22', c22', rfl, hx, ho⟩
      rw [G7.out] at ho ⊢
      try dsimp only at ho ⊢
      have hdev := Lib.hid ho.dev
      clear ho
      have hgd0 := (hdev.out).old (Nat.le_refl w22.heap.size)
      have hx22 := (Ext.refl w20).drew.trans hx
      clear hdev hx
      refine hK _ _ ⟨hx22.cell f0, hx22.cell f1⟩ ?_
      clear hK K
      try simp only [Act.put, List.setIfInBounds_toArray, List.set_cons_zero, List.set_cons_succ]
      have hS1 : (fun W' => W'.cell? ⟨w14.heap.size, 0, none⟩ = some (.slice A14 a.sec.length c14) ∧ W'.cell? ⟨w14.heap.size, 1, none⟩ = some (.slice A14' a.lost.length c14')) w22 := ⟨hx22.cell f0, hx22.cell f1⟩
      refine wpAnyH_takeL (i := 7) (v := ?_) rfl (by kernel_rfl) (fun _ _ _ h => h) rfl ?_ hS1 ?_
      rotate_left
      · intro w' hS
        try dsimp only at hS
        go_simp
        rfl
      try simp only [Act.put, List.setIfInBounds_toArray, List.set_cons_zero, List.set_cons_succ]
      refine wpAnyH_takeL (i := 8) (v := ?_) rfl (by kernel_rfl) (fun _ _ _ h => h) rfl ?_ hS1 ?_
      rotate_left
      · intro w' hS
        try dsimp only at hS
        go_simp
        rfl
      try simp only [Act.put, List.setIfInBounds_toArray, List.set_cons_zero, List.set_cons_succ]
      refine wpAnyH_takeL (i := 9) (v := ?_) rfl (by kernel_rfl) (fun _ _ _ h => h) rfl ?_ hS1 ?_
      rotate_left
      · intro w' hS
        try dsimp only at hS
        go_simp
        rfl
      try simp only [Act.put, List.setIfInBounds_toArray, List.set_cons_zero, List.set_cons_succ]
      refine wpAnyH_oneL (i := 10) rfl (by kernel_rfl) rfl (fun K hK => ?_)
      go_wp2_with fail
      refine hK _ _ ?_ ?_
      · first | exact ⟨((Ext.refl w22).drew.alloc _).cell (hx22.cell f0), ((Ext.refl w22).drew.alloc _).cell (hx22.cell f1)⟩ | exact ⟨((Ext.refl w22).alloc _).cell (hx22.cell f0), ((Ext.refl w22).alloc _).cell (hx22.cell f1)⟩
      clear hK K
      try simp only [Act.put, List.setIfInBounds_toArray, List.set_cons_zero, List.set_cons_succ]
      refine anyH_abs (fun W => Ext w22 W ∧ Blk_ W w22.heap.size 54 #[.slice none 0 0, .slice none 0 0]) ⟨by first | exact (Ext.refl _).alloc _ | exact (Ext.refl _).drew.alloc _, by first | exact Blk_.new _ _ _ | exact (Blk_.new _ _ _).drew⟩ ?_
      rintro Wz ⟨ez, hbz⟩
      have hgd := hgd0.ext ez
      have hxz := hx22.trans ez
      have hgz : w20.heap.size ≤ w22.heap.size := hx22.size
      clear hgd0 ez hS1
      have m0 := hbz.cell 0
      have m1 := hbz.cell 1
      have z0 := hbz.frozen 0
      have z1 := hbz.frozen 1
      simp at m0 m1
      have hb22 := (hbz.set 0 (.slice A22 c.sec.length c22)).set 1 (.slice A22' c.lost.length c22')
      have hx5 := (hxz.setCell (p := ⟨w22.heap.size, 0, none⟩) hgz (.slice A22 c.sec.length c22)).setCell (p := ⟨w22.heap.size, 1, none⟩) hgz (.slice A22' c.lost.length c22')
      have hd5 := ((hgd.far (p := ⟨w22.heap.size, 0, none⟩) (.slice A22 c.sec.length c22)).far (p := ⟨w22.heap.size, 1, none⟩) (.slice A22' c.lost.length c22')).dev
      have B22 := Lib.hid hb22
      have D22 := Lib.hid hd5
      have HX5 := Lib.hid hx5
      clear hb22 hd5 hx5 hxz hgz hbz hgd
      refine wpAnyH_oneL (i := 11) rfl (by kernel_rfl) rfl (fun K hK => ?_)
      go_wp2_with fail
      refine hK _ _ ?_ ?_
      · exact ⟨HX5.out.cell f0, HX5.out.cell f1⟩
      clear hK K
      try simp only [Act.put, List.setIfInBounds_toArray, List.set_cons_zero, List.set_cons_succ]
      refine wpAnyH_endL (by kernel_rfl) (fun K hK => ?_)
      clear m0 m1 z0 z1
      have B18' := Lib.hid (B18.out.ext HX5.out)
      have D18' := Lib.hid (D18.out.up HX5.out)
      clear B18 D18
      have B18 := B18'
      have D18 := D18'
      clear B18' D18'
      have HX' := Lib.hid (HX.out.trans HX5.out)
      clear HX
      have HX := HX'
      clear HX'
      clear HX5
      have f220 := B22.out.cell 0
      have f221 := B22.out.cell 1
      simp at f220 f221
      have l22 := B22.out.lt
      clear f0 f1 hS0
      go_wp2_with fail
      clear f220 f221 l22
      refine (devRead_any [(.slice A22 c.sec.length c22), (.slice A22' c.lost.length c22')] c k k _ D22.out IK IK).mono ?_
      rintro e w24 ⟨rfl, hx⟩
      obtain ⟨T2, hT2⟩ : ∃ v, v = (readS c k k).1 := ⟨_, rfl⟩
      obtain ⟨u2, hu2⟩ : ∃ v, v = (readS c k k).2 := ⟨_, rfl⟩
      have HU := Lib.hid hu2
      rw [← hT2, ← hu2]
      clear hT2 hu2
      have B18' := Lib.hid (B18.out.ext hx)
      have D18' := Lib.hid (D18.out.up hx)
      clear B18 D18
      have B18 := B18'
      have D18 := D18'
      clear B18' D18'
      have B22' := Lib.hid (B22.out.ext hx)
      have D22' := Lib.hid (D22.out.up hx)
      clear B22 D22
      have B22 := B22'
      have D22 := D22'
      clear B22' D22'
      have HX' := Lib.hid (HX.out.trans hx)
      clear HX
      have HX := HX'
      clear HX'
      clear hx
      have f180 := B18.out.cell 0
      have f181 := B18.out.cell 1
      simp at f180 f181
      have l18 := B18.out.lt
      go_wp2_with fail
      clear f180 f181 l18
      refine (devWrite_any [(.slice A18 b.sec.length c18), (.slice A18' b.lost.length c18')] b k k q _ D18.out IK IK (by have := HQ6.out; omega)).mono ?_
      rintro e w26 ⟨A26, c26, A26', c26', rfl, hx, ho⟩
      rw [G9.out] at ho ⊢
      try dsimp only at ho ⊢
      have hdev := Lib.hid ho.dev
      have B18' := Lib.hid (B18.out.ext hx)
      have D18' := Lib.hid (D18.out.up hx)
      clear B18 D18
      have B18 := B18'
      have D18 := D18'
      clear B18' D18'
      have B22' := Lib.hid (B22.out.ext hx)
      have D22' := Lib.hid (D22.out.up hx)
      clear B22 D22
      have B22 := B22'
      have D22 := D22'
      clear B22' D22'
      have HX' := Lib.hid (HX.out.trans hx)
      clear HX
      have HX := HX'
      clear HX'
      clear ho hx
      go_wp2_with fail
      refine calls_abs (fun W => Ext w26 W ∧ Blk_ W w26.heap.size 54 #[(.slice A26 x.sec.length c26), (.slice A26' x.lost.length c26')]) ⟨(Ext.refl _).alloc _, Blk_.new _ _ _⟩ ?_
      rintro W26 ⟨hx, hb⟩
      have B18' := Lib.hid (B18.out.ext hx)
      have D18' := Lib.hid (D18.out.up hx)
      clear B18 D18
      have B18 := B18'
      have D18 := D18'
      clear B18' D18'
      have B22' := Lib.hid (B22.out.ext hx)
      have D22' := Lib.hid (D22.out.up hx)
      clear B22 D22
      have B22 := B22'
      have D22 := D22'
      clear B22' D22'
      have HX' := Lib.hid (HX.out.trans hx)
      clear HX
      have HX := HX'
      clear HX'
      have B26 := Lib.hid hb
      have D26 := Lib.hid (hdev.out.up hx)
      clear hb hx hdev
      refine (devRead_any [(.slice A26 x.sec.length c26), (.slice A26' x.lost.length c26')] x k k _ D26.out IK IK).mono ?_
      rintro e w28 ⟨rfl, hx⟩
      rw [G10.out, ← HT.out]
      have B22' := Lib.hid (B22.out.ext hx)
      have D22' := Lib.hid (D22.out.up hx)
      clear B22 D22
      have B22 := B22'
      have D22 := D22'
      clear B22' D22'
      have B26' := Lib.hid (B26.out.ext hx)
      have D26' := Lib.hid (D26.out.up hx)
      clear B26 D26
      have B26 := B26'
      have D26 := D26'
      clear B26' D26'
      have HX' := Lib.hid (HX.out.trans hx)
      clear HX
      have HX := HX'
      clear HX'
      clear hx
      have HPF := Lib.hid (show T.extract 0 q.size = q ∧ q.size ≤ T.size ∧ T.size ≤ 140737488355328 by rw [HT.out]; have h1 := padS_size HQ6.out; exact ⟨take_padS HQ6.out, by have := HQ6.out; omega, by omega⟩)
      have HBY := Lib.hid (show (by_ == 0) = true ∨ ((by_ == 0) = false ∧ u2 = 10) by
        by_cases h : by_ = 0
        · left; rw [h]; rfl
        · right; exact ⟨beq_false_of_ne h, by rw [HU.out]; exact G8.out h⟩)
      clear HU
      have f220 := B22.out.cell 0
      have f221 := B22.out.cell 1
      simp at f220 f221
      have l22 := B22.out.lt
      by_cases hn2 : 1 < n
      · have hn2I : (1 : Int) < (n : Int) := by omega
        obtain ⟨oo, hoo⟩ : ∃ oo, oo = (k + 1) % n := ⟨_, rfl⟩
        have ho1 : oo < n := by rw [hoo]; exact Nat.mod_lt _ (by omega)
        have ho2 : oo ≠ k := by
          rw [hoo]
          have hkk := HK.out
          by_cases he : k + 1 = n
          · rw [he, Nat.mod_self]; omega
          · rw [Nat.mod_eq_of_lt (by omega)]; omega
        have GO := Lib.hid (G11.out oo ho1 ho2)
        have y3 : ((k : Int) + 1) % (n : Int) = (oo : Int) := by first | (rw [hoo]; push_cast; rfl) | (rw [hoo]; simp)
        have y4 : Int.tmod ((k : Int) + 1) (n : Int) = (oo : Int) := by rw [Int.tmod_eq_emod_of_nonneg (by omega)]; exact y3
        have y5 : (0 : Int) ≤ (k : Int) + 1 := by omega
        have hne : ((n : Int) == 0) = false := beq_false_of_ne (by omega)
        have hne2 : ¬ (n : Int) = 0 := by omega
        have hne3 : ¬ (n : Int) = -1 := by omega
        have hon : (oo : Int) < (n : Int) := by omega
        have IO : I64 (oo : Int) := by unfold I64; omega
        have hk63 : (k : Int) < 64 := by omega
        clear hoo ho1 ho2
        go_wp2_with fail
        refine (devRead_any [(.slice A22 c.sec.length c22), (.slice A22' c.lost.length c22')] c oo oo _ D22.out IO IO).mono ?_
        rintro e w32 ⟨rfl, hx⟩
        rw [GO.out]
        have HX32 := Lib.hid (HX.out.trans hx)
        obtain ⟨Z, hZ⟩ : ∃ Z, Z = bs (List.replicate 24 (0 : UInt8)) := ⟨_, rfl⟩
        have HZ := Lib.hid hZ
        rw [← hZ]
        clear hx hZ f220 f221 l22 y3 y4 y5 hne hne2 hne3
        go_wp2_with fail
        refine (repeat_any 24 _ (by omega) (by omega)).mono ?_
        rintro e w33 ⟨rfl, hx⟩
        rw [show bs (List.replicate (24 : Int).toNat (0 : UInt8)) = Z from HZ.out.symm]
        have HX := Lib.hid (HX32.out.trans hx)
        clear hx
        rcases HBY.out with t1 | ⟨t1, rfl⟩
        · go_wp2_with fail
          refine (hasPrefix_any T q _ HPF.out.1 HPF.out.2.1 HPF.out.2.2).mono ?_
          rintro e w9 ⟨rfl, hw9⟩
          subst hw9
          go_wp2_with fail
          go_ret
          exact ⟨rfl, HX.out⟩
        · go_wp2_with fail
          refine (hasPrefix_any T q _ HPF.out.1 HPF.out.2.1 HPF.out.2.2).mono ?_
          rintro e w9 ⟨rfl, hw9⟩
          subst hw9
          go_wp2_with fail
          go_ret
          exact ⟨rfl, HX.out⟩
      · have hn2I : ¬ (1 : Int) < (n : Int) := by omega
        clear f220 f221 l22
        rcases HBY.out with t1 | ⟨t1, rfl⟩
        · go_wp2_with fail
          refine (hasPrefix_any T q _ HPF.out.1 HPF.out.2.1 HPF.out.2.2).mono ?_
          rintro e w9 ⟨rfl, hw9⟩
          subst hw9
          go_wp2_with fail
          go_ret
          exact ⟨rfl, HX.out⟩
        · go_wp2_with fail
          refine (hasPrefix_any T q _ HPF.out.1 HPF.out.2.1 HPF.out.2.2).mono ?_
          rintro e w9 ⟨rfl, hw9⟩
          subst hw9
          go_wp2_with fail
          go_ret
          exact ⟨rfl, HX.out⟩
    · go_wp2_with fail
      refine hK _ _ ?_ ?_
      · first | exact ⟨((Ext.refl w20).drew.alloc _).cell f0, ((Ext.refl w20).drew.alloc _).cell f1⟩ | exact ⟨((Ext.refl w20).alloc _).cell f0, ((Ext.refl w20).alloc _).cell f1⟩
      clear hK K
      try simp only [Act.put, List.setIfInBounds_toArray, List.set_cons_zero, List.set_cons_succ]
      refine anyH_abs (fun W => Ext w20 W ∧ Blk_ W w20.heap.size 54 #[.slice none 0 0, .slice none 0 0]) ⟨by first | exact (Ext.refl _).alloc _ | exact (Ext.refl _).drew.alloc _, by first | exact Blk_.new _ _ _ | exact (Blk_.new _ _ _).drew⟩ ?_
      rintro Wz ⟨ez0, hbz0⟩
      refine wpAnyH_oneL (i := 6) rfl (by kernel_rfl) rfl (fun K hK => ?_)
      go_wp2_with fail
      refine (devTurn_any [(.slice A14 a.sec.length c14), (.slice A14' a.lost.length c14')] a k pl by_ _ (D14.out.up (ez0)) IK (by unfold I64; omega) (by unfold I64; omega)).mono ?_
      rintro e w22 ⟨A22, c22, A22', c22', rfl, hx, ho⟩
      rw [G7.out] at ho ⊢
      try dsimp only at ho ⊢
      have hgdn := ho.dev.newG ho.new1 ho.new2 hbz0.lt
      clear ho
      have hgd := hgdn
      have hxz := (ez0).trans hx
      have hgz : w20.heap.size ≤ w20.heap.size := Nat.le_refl _
      have hbz := hbz0.ext hx
      clear hx hgdn hbz0
      refine hK _ _ ⟨hxz.cell f0, hxz.cell f1⟩ ?_
      clear hK K
      try simp only [Act.put, List.setIfInBounds_toArray, List.set_cons_zero, List.set_cons_succ]
      have hS1 : (fun W' => W'.cell? ⟨w14.heap.size, 0, none⟩ = some (.slice A14 a.sec.length c14) ∧ W'.cell? ⟨w14.heap.size, 1, none⟩ = some (.slice A14' a.lost.length c14')) w22 := ⟨hxz.cell f0, hxz.cell f1⟩
      refine wpAnyH_takeL (i := 7) (v := ?_) rfl (by kernel_rfl) (fun _ _ _ h => h) rfl ?_ hS1 ?_
      rotate_left
      · intro w' hS
        try dsimp only at hS
        go_simp
        rfl
      try simp only [Act.put, List.setIfInBounds_toArray, List.set_cons_zero, List.set_cons_succ]
      refine wpAnyH_takeL (i := 8) (v := ?_) rfl (by kernel_rfl) (fun _ _ _ h => h) rfl ?_ hS1 ?_
      rotate_left
      · intro w' hS
        try dsimp only at hS
        go_simp
        rfl
      try simp only [Act.put, List.setIfInBounds_toArray, List.set_cons_zero, List.set_cons_succ]
      refine wpAnyH_takeL (i := 9) (v := ?_) rfl (by kernel_rfl) (fun _ _ _ h => h) rfl ?_ hS1 ?_
      rotate_left
      · intro w' hS
        try dsimp only at hS
        go_simp
        rfl
      try simp only [Act.put, List.setIfInBounds_toArray, List.set_cons_zero, List.set_cons_succ]
      clear hS1
      have m0 := hbz.cell 0
      have m1 := hbz.cell 1
      have z0 := hbz.frozen 0
      have z1 := hbz.frozen 1
      simp at m0 m1
      have hb22 := (hbz.set 0 (.slice A22 c.sec.length c22)).set 1 (.slice A22' c.lost.length c22')
      have hx5 := (hxz.setCell (p := ⟨w20.heap.size, 0, none⟩) hgz (.slice A22 c.sec.length c22)).setCell (p := ⟨w20.heap.size, 1, none⟩) hgz (.slice A22' c.lost.length c22')
      have hd5 := ((hgd.far (p := ⟨w20.heap.size, 0, none⟩) (.slice A22 c.sec.length c22)).far (p := ⟨w20.heap.size, 1, none⟩) (.slice A22' c.lost.length c22')).dev
      have B22 := Lib.hid hb22
      have D22 := Lib.hid hd5
      have HX5 := Lib.hid hx5
      clear hb22 hd5 hx5 hxz hgz hbz hgd
      refine wpAnyH_oneL (i := 11) rfl (by kernel_rfl) rfl (fun K hK => ?_)
      go_wp2_with fail
      refine hK _ _ ?_ ?_
      · exact ⟨HX5.out.cell f0, HX5.out.cell f1⟩
      clear hK K
      try simp only [Act.put, List.setIfInBounds_toArray, List.set_cons_zero, List.set_cons_succ]
      refine wpAnyH_endL (by kernel_rfl) (fun K hK => ?_)
      clear m0 m1 z0 z1
      have B18' := Lib.hid (B18.out.ext HX5.out)
      have D18' := Lib.hid (D18.out.up HX5.out)
      clear B18 D18
      have B18 := B18'
      have D18 := D18'
      clear B18' D18'
      have HX' := Lib.hid (HX.out.trans HX5.out)
      clear HX
      have HX := HX'
      clear HX'
      clear HX5
      have f220 := B22.out.cell 0
      have f221 := B22.out.cell 1
      simp at f220 f221
      have l22 := B22.out.lt
      clear f0 f1 hS0
      go_wp2_with fail
      clear f220 f221 l22
      refine (devRead_any [(.slice A22 c.sec.length c22), (.slice A22' c.lost.length c22')] c k k _ D22.out IK IK).mono ?_
      rintro e w24 ⟨rfl, hx⟩
      obtain ⟨T2, hT2⟩ : ∃ v, v = (readS c k k).1 := ⟨_, rfl⟩
      obtain ⟨u2, hu2⟩ : ∃ v, v = (readS c k k).2 := ⟨_, rfl⟩
      have HU := Lib.hid hu2
      rw [← hT2, ← hu2]
      clear hT2 hu2
      have B18' := Lib.hid (B18.out.ext hx)
      have D18' := Lib.hid (D18.out.up hx)
      clear B18 D18
      have B18 := B18'
      have D18 := D18'
      clear B18' D18'
      have B22' := Lib.hid (B22.out.ext hx)
      have D22' := Lib.hid (D22.out.up hx)
      clear B22 D22
      have B22 := B22'
      have D22 := D22'
      clear B22' D22'
      have HX' := Lib.hid (HX.out.trans hx)
      clear HX
      have HX := HX'
      clear HX'
      clear hx
      have f180 := B18.out.cell 0
      have f181 := B18.out.cell 1
      simp at f180 f181
      have l18 := B18.out.lt
      go_wp2_with fail
      clear f180 f181 l18
      refine (devWrite_any [(.slice A18 b.sec.length c18), (.slice A18' b.lost.length c18')] b k k q _ D18.out IK IK (by have := HQ6.out; omega)).mono ?_
      rintro e w26 ⟨A26, c26, A26', c26', rfl, hx, ho⟩
      rw [G9.out] at ho ⊢
      try dsimp only at ho ⊢
      have hdev := Lib.hid ho.dev
      have B18' := Lib.hid (B18.out.ext hx)
      have D18' := Lib.hid (D18.out.up hx)
      clear B18 D18
      have B18 := B18'
      have D18 := D18'
      clear B18' D18'
      have B22' := Lib.hid (B22.out.ext hx)
      have D22' := Lib.hid (D22.out.up hx)
      clear B22 D22
      have B22 := B22'
      have D22 := D22'
      clear B22' D22'
      have HX' := Lib.hid (HX.out.trans hx)
      clear HX
      have HX := HX'
      clear HX'
      clear ho hx
      go_wp2_with fail
      refine calls_abs (fun W => Ext w26 W ∧ Blk_ W w26.heap.size 54 #[(.slice A26 x.sec.length c26), (.slice A26' x.lost.length c26')]) ⟨(Ext.refl _).alloc _, Blk_.new _ _ _⟩ ?_
      rintro W26 ⟨hx, hb⟩
      have B18' := Lib.hid (B18.out.ext hx)
      have D18' := Lib.hid (D18.out.up hx)
      clear B18 D18
      have B18 := B18'
      have D18 := D18'
      clear B18' D18'
      have B22' := Lib.hid (B22.out.ext hx)
      have D22' := Lib.hid (D22.out.up hx)
      clear B22 D22
      have B22 := B22'
      have D22 := D22'
      clear B22' D22'
      have HX' := Lib.hid (HX.out.trans hx)
      clear HX
      have HX := HX'
      clear HX'
      have B26 := Lib.hid hb
      have D26 := Lib.hid (hdev.out.up hx)
      clear hb hx hdev
      refine (devRead_any [(.slice A26 x.sec.length c26), (.slice A26' x.lost.length c26')] x k k _ D26.out IK IK).mono ?_
      rintro e w28 ⟨rfl, hx⟩
      rw [G10.out, ← HT.out]
      have B22' := Lib.hid (B22.out.ext hx)
      have D22' := Lib.hid (D22.out.up hx)
      clear B22 D22
      have B22 := B22'
      have D22 := D22'
      clear B22' D22'
      have B26' := Lib.hid (B26.out.ext hx)
      have D26' := Lib.hid (D26.out.up hx)
      clear B26 D26
      have B26 := B26'
      have D26 := D26'
      clear B26' D26'
      have HX' := Lib.hid (HX.out.trans hx)
      clear HX
      have HX := HX'
      clear HX'
      clear hx
      have HPF := Lib.hid (show T.extract 0 q.size = q ∧ q.size ≤ T.size ∧ T.size ≤ 140737488355328 by rw [HT.out]; have h1 := padS_size HQ6.out; exact ⟨take_padS HQ6.out, by have := HQ6.out; omega, by omega⟩)
      have HBY := Lib.hid (show (by_ == 0) = true ∨ ((by_ == 0) = false ∧ u2 = 10) by
        by_cases h : by_ = 0
        · left; rw [h]; rfl
        · right; exact ⟨beq_false_of_ne h, by rw [HU.out]; exact G8.out h⟩)
      clear HU
      have f220 := B22.out.cell 0
      have f221 := B22.out.cell 1
      simp at f220 f221
      have l22 := B22.out.lt
      by_cases hn2 : 1 < n
      · have hn2I : (1 : Int) < (n : Int) := by omega
        obtain ⟨oo, hoo⟩ : ∃ oo, oo = (k + 1) % n := ⟨_, rfl⟩
        have ho1 : oo < n := by rw [hoo]; exact Nat.mod_lt _ (by omega)
        have ho2 : oo ≠ k := by
          rw [hoo]
          have hkk := HK.out
          by_cases he : k + 1 = n
          · rw [he, Nat.mod_self]; omega
          · rw [Nat.mod_eq_of_lt (by omega)]; omega
        have GO := Lib.hid (G11.out oo ho1 ho2)
        have y3 : ((k : Int) + 1) % (n : Int) = (oo : Int) := by first | (rw [hoo]; push_cast; rfl) | (rw [hoo]; simp)
        have y4 : Int.tmod ((k : Int) + 1) (n : Int) = (oo : Int) := by rw [Int.tmod_eq_emod_of_nonneg (by omega)]; exact y3
        have y5 : (0 : Int) ≤ (k : Int) + 1 := by omega
        have hne : ((n : Int) == 0) = false := beq_false_of_ne (by omega)
        have hne2 : ¬ (n : Int) = 0 := by omega
        have hne3 : ¬ (n : Int) = -1 := by omega
        have hon : (oo : Int) < (n : Int) := by omega
        have IO : I64 (oo : Int) := by unfold I64; omega
        have hk63 : (k : Int) < 64 := by omega
        clear hoo ho1 ho2
        go_wp2_with fail
        refine (devRead_any [(.slice A22 c.sec.length c22), (.slice A22' c.lost.length c22')] c oo oo _ D22.out IO IO).mono ?_
        rintro e w32 ⟨rfl, hx⟩
        rw [GO.out]
        have HX32 := Lib.hid (HX.out.trans hx)
        obtain ⟨Z, hZ⟩ : ∃ Z, Z = bs (List.replicate 24 (0 : UInt8)) := ⟨_, rfl⟩
        have HZ := Lib.hid hZ
        rw [← hZ]
        clear hx hZ f220 f221 l22 y3 y4 y5 hne hne2 hne3
        go_wp2_with fail
        refine (repeat_any 24 _ (by omega) (by omega)).mono ?_
        rintro e w33 ⟨rfl, hx⟩
        rw [show bs (List.replicate (24 : Int).toNat (0 : UInt8)) = Z from HZ.out.symm]
        have HX := Lib.hid (HX32.out.trans hx)
        clear hx
        rcases HBY.out with t1 | ⟨t1, rfl⟩
        · go_wp2_with fail
          refine (hasPrefix_any T q _ HPF.out.1 HPF.out.2.1 HPF.out.2.2).mono ?_
          rintro e w9 ⟨rfl, hw9⟩
          subst hw9
          go_wp2_with fail
          go_ret
          exact ⟨rfl, HX.out⟩
        · go_wp2_with fail
          refine (hasPrefix_any T q _ HPF.out.1 HPF.out.2.1 HPF.out.2.2).mono ?_
          rintro e w9 ⟨rfl, hw9⟩
          subst hw9
          go_wp2_with fail
          go_ret
          exact ⟨rfl, HX.out⟩
      · have hn2I : ¬ (1 : Int) < (n : Int) := by omega
        clear f220 f221 l22
        rcases HBY.out with t1 | ⟨t1, rfl⟩
        · go_wp2_with fail
          refine (hasPrefix_any T q _ HPF.out.1 HPF.out.2.1 HPF.out.2.2).mono ?_
          rintro e w9 ⟨rfl, hw9⟩
          subst hw9
          go_wp2_with fail
          go_ret
          exact ⟨rfl, HX.out⟩
        · go_wp2_with fail
          refine (hasPrefix_any T q _ HPF.out.1 HPF.out.2.1 HPF.out.2.2).mono ?_
          rintro e w9 ⟨rfl, hw9⟩
          subst hw9
          go_wp2_with fail
          go_ret
          exact ⟨rfl, HX.out⟩
  · go_wp2_with fail
    refine hK _ _ ?_ ?_
    · first | exact ⟨((Ext.refl w20).drew.alloc _).cell f0, ((Ext.refl w20).drew.alloc _).cell f1⟩ | exact ⟨((Ext.refl w20).alloc _).cell f0, ((Ext.refl w20).alloc _).cell f1⟩
    clear hK K
    try simp only [Act.put, List.setIfInBounds_toArray, List.set_cons_zero, List.set_cons_succ]
    refine anyH_abs (fun W => Ext w20 W ∧ Blk_ W w20.heap.size 54 #[.slice none 0 0, .slice none 0 0]) ⟨by first | exact (Ext.refl _).alloc _ | exact (Ext.refl _).drew.alloc _, by first | exact Blk_.new _ _ _ | exact (Blk_.new _ _ _).drew⟩ ?_
    rintro Wz ⟨ez0, hbz0⟩
    refine wpAnyH_oneL (i := 3) rfl (by kernel_rfl) rfl (fun K hK => ?_)
    go_wp2_with fail
    refine (picked_any at_ 30 _ ha (by omega) (by omega)).mono ?_
    rintro e w' ⟨rfl, hw'⟩
    subst hw'
    rw [← HPL.out]
    refine hK _ _ ⟨ez0.cell f0, ez0.cell f1⟩ ?_
    clear hK K
    try simp only [Act.put, List.setIfInBounds_toArray, List.set_cons_zero, List.set_cons_succ]
    refine wpAnyH_oneL (i := 6) rfl (by kernel_rfl) rfl (fun K hK => ?_)
    go_wp2_with fail
    refine (devTurn_any [(.slice A14 a.sec.length c14), (.slice A14' a.lost.length c14')] a k pl by_ _ (D14.out.up (ez0)) IK (by unfold I64; omega) (by unfold I64; omega)).mono ?_
    rintro e w22 ⟨A22, c22, A22', c22', rfl, hx, ho⟩
    rw [G7.out] at ho ⊢
    try dsimp only at ho ⊢
    have hgdn := ho.dev.newG ho.new1 ho.new2 hbz0.lt
    clear ho
    have hgd := hgdn
    have hxz := (ez0).trans hx
    have hgz : w20.heap.size ≤ w20.heap.size := Nat.le_refl _
    have hbz := hbz0.ext hx
    clear hx hgdn hbz0
    refine hK _ _ ⟨hxz.cell f0, hxz.cell f1⟩ ?_
    clear hK K
    try simp only [Act.put, List.setIfInBounds_toArray, List.set_cons_zero, List.set_cons_succ]
    have hS1 : (fun W' => W'.cell? ⟨w14.heap.size, 0, none⟩ = some (.slice A14 a.sec.length c14) ∧ W'.cell? ⟨w14.heap.size, 1, none⟩ = some (.slice A14' a.lost.length c14')) w22 := ⟨hxz.cell f0, hxz.cell f1⟩
    refine wpAnyH_takeL (i := 7) (v := ?_) rfl (by kernel_rfl) (fun _ _ _ h => h) rfl ?_ hS1 ?_
    rotate_left
    · intro w' hS
      try dsimp only at hS
      go_simp
      rfl
    try simp only [Act.put, List.setIfInBounds_toArray, List.set_cons_zero, List.set_cons_succ]
    refine wpAnyH_takeL (i := 8) (v := ?_) rfl (by kernel_rfl) (fun _ _ _ h => h) rfl ?_ hS1 ?_
    rotate_left
    · intro w' hS
      try dsimp only at hS
      go_simp
      rfl
    try simp only [Act.put, List.setIfInBounds_toArray, List.set_cons_zero, List.set_cons_succ]
    refine wpAnyH_takeL (i := 9) (v := ?_) rfl (by kernel_rfl) (fun _ _ _ h => h) rfl ?_ hS1 ?_
    rotate_left
    · intro w' hS
      try dsimp only at hS
      go_simp
      rfl
    try simp only [Act.put, List.setIfInBounds_toArray, List.set_cons_zero, List.set_cons_succ]
    clear hS1
    have m0 := hbz.cell 0
    have m1 := hbz.cell 1
    have z0 := hbz.frozen 0
    have z1 := hbz.frozen 1
    simp at m0 m1
    have hb22 := (hbz.set 0 (.slice A22 c.sec.length c22)).set 1 (.slice A22' c.lost.length c22')
    have hx5 := (hxz.setCell (p := ⟨w20.heap.size, 0, none⟩) hgz (.slice A22 c.sec.length c22)).setCell (p := ⟨w20.heap.size, 1, none⟩) hgz (.slice A22' c.lost.length c22')
    have hd5 := ((hgd.far (p := ⟨w20.heap.size, 0, none⟩) (.slice A22 c.sec.length c22)).far (p := ⟨w20.heap.size, 1, none⟩) (.slice A22' c.lost.length c22')).dev
    have B22 := Lib.hid hb22
    have D22 := Lib.hid hd5
    have HX5 := Lib.hid hx5
    clear hb22 hd5 hx5 hxz hgz hbz hgd
    refine wpAnyH_oneL (i := 11) rfl (by kernel_rfl) rfl (fun K hK => ?_)
    go_wp2_with fail
    refine hK _ _ ?_ ?_
    · exact ⟨HX5.out.cell f0, HX5.out.cell f1⟩
    clear hK K
    try simp only [Act.put, List.setIfInBounds_toArray, List.set_cons_zero, List.set_cons_succ]
    refine wpAnyH_endL (by kernel_rfl) (fun K hK => ?_)
    clear m0 m1 z0 z1
    have B18' := Lib.hid (B18.out.ext HX5.out)
    have D18' := Lib.hid (D18.out.up HX5.out)
    clear B18 D18
    have B18 := B18'
    have D18 := D18'
    clear B18' D18'
    have HX' := Lib.hid (HX.out.trans HX5.out)
    clear HX
    have HX := HX'
    clear HX'
    clear HX5
    have f220 := B22.out.cell 0
    have f221 := B22.out.cell 1
    simp at f220 f221
    have l22 := B22.out.lt
    clear f0 f1 hS0
    go_wp2_with fail
    clear f220 f221 l22
    refine (devRead_any [(.slice A22 c.sec.length c22), (.slice A22' c.lost.length c22')] c k k _ D22.out IK IK).mono ?_
    rintro e w24 ⟨rfl, hx⟩
    obtain ⟨T2, hT2⟩ : ∃ v, v = (readS c k k).1 := ⟨_, rfl⟩
    obtain ⟨u2, hu2⟩ : ∃ v, v = (readS c k k).2 := ⟨_, rfl⟩
    have HU := Lib.hid hu2
    rw [← hT2, ← hu2]
    clear hT2 hu2
    have B18' := Lib.hid (B18.out.ext hx)
    have D18' := Lib.hid (D18.out.up hx)
    clear B18 D18
    have B18 := B18'
    have D18 := D18'
    clear B18' D18'
    have B22' := Lib.hid (B22.out.ext hx)
    have D22' := Lib.hid (D22.out.up hx)
    clear B22 D22
    have B22 := B22'
    have D22 := D22'
    clear B22' D22'
    have HX' := Lib.hid (HX.out.trans hx)
    clear HX
    have HX := HX'
    clear HX'
    clear hx
    have f180 := B18.out.cell 0
    have f181 := B18.out.cell 1
    simp at f180 f181
    have l18 := B18.out.lt
    go_wp2_with fail
    clear f180 f181 l18
    refine (devWrite_any [(.slice A18 b.sec.length c18), (.slice A18' b.lost.length c18')] b k k q _ D18.out IK IK (by have := HQ6.out; omega)).mono ?_
    rintro e w26 ⟨A26, c26, A26', c26', rfl, hx, ho⟩
    rw [G9.out] at ho ⊢
    try dsimp only at ho ⊢
    have hdev := Lib.hid ho.dev
    have B18' := Lib.hid (B18.out.ext hx)
    have D18' := Lib.hid (D18.out.up hx)
    clear B18 D18
    have B18 := B18'
    have D18 := D18'
    clear B18' D18'
    have B22' := Lib.hid (B22.out.ext hx)
    have D22' := Lib.hid (D22.out.up hx)
    clear B22 D22
    have B22 := B22'
    have D22 := D22'
    clear B22' D22'
    have HX' := Lib.hid (HX.out.trans hx)
    clear HX
    have HX := HX'
    clear HX'
    clear ho hx
    go_wp2_with fail
    refine calls_abs (fun W => Ext w26 W ∧ Blk_ W w26.heap.size 54 #[(.slice A26 x.sec.length c26), (.slice A26' x.lost.length c26')]) ⟨(Ext.refl _).alloc _, Blk_.new _ _ _⟩ ?_
    rintro W26 ⟨hx, hb⟩
    have B18' := Lib.hid (B18.out.ext hx)
    have D18' := Lib.hid (D18.out.up hx)
    clear B18 D18
    have B18 := B18'
    have D18 := D18'
    clear B18' D18'
    have B22' := Lib.hid (B22.out.ext hx)
    have D22' := Lib.hid (D22.out.up hx)
    clear B22 D22
    have B22 := B22'
    have D22 := D22'
    clear B22' D22'
    have HX' := Lib.hid (HX.out.trans hx)
    clear HX
    have HX := HX'
    clear HX'
    have B26 := Lib.hid hb
    have D26 := Lib.hid (hdev.out.up hx)
    clear hb hx hdev
    refine (devRead_any [(.slice A26 x.sec.length c26), (.slice A26' x.lost.length c26')] x k k _ D26.out IK IK).mono ?_
    rintro e w28 ⟨rfl, hx⟩
    rw [G10.out, ← HT.out]
    have B22' := Lib.hid (B22.out.ext hx)
    have D22' := Lib.hid (D22.out.up hx)
    clear B22 D22
    have B22 := B22'
    have D22 := D22'
    clear B22' D22'
    have B26' := Lib.hid (B26.out.ext hx)
    have D26' := Lib.hid (D26.out.up hx)
    clear B26 D26
    have B26 := B26'
    have D26 := D26'
    clear B26' D26'
    have HX' := Lib.hid (HX.out.trans hx)
    clear HX
    have HX := HX'
    clear HX'
    clear hx
    have HPF := Lib.hid (show T.extract 0 q.size = q ∧ q.size ≤ T.size ∧ T.size ≤ 140737488355328 by rw [HT.out]; have h1 := padS_size HQ6.out; exact ⟨take_padS HQ6.out, by have := HQ6.out; omega, by omega⟩)
    have HBY := Lib.hid (show (by_ == 0) = true ∨ ((by_ == 0) = false ∧ u2 = 10) by
      by_cases h : by_ = 0
      · left; rw [h]; rfl
      · right; exact ⟨beq_false_of_ne h, by rw [HU.out]; exact G8.out h⟩)
    clear HU
    have f220 := B22.out.cell 0
    have f221 := B22.out.cell 1
    simp at f220 f221
    have l22 := B22.out.lt
    by_cases hn2 : 1 < n
    · have hn2I : (1 : Int) < (n : Int) := by omega
      obtain ⟨oo, hoo⟩ : ∃ oo, oo = (k + 1) % n := ⟨_, rfl⟩
      have ho1 : oo < n := by rw [hoo]; exact Nat.mod_lt _ (by omega)
      have ho2 : oo ≠ k := by
        rw [hoo]
        have hkk := HK.out
        by_cases he : k + 1 = n
        · rw [he, Nat.mod_self]; omega
        · rw [Nat.mod_eq_of_lt (by omega)]; omega
      have GO := Lib.hid (G11.out oo ho1 ho2)
      have y3 : ((k : Int) + 1) % (n : Int) = (oo : Int) := by first | (rw [hoo]; push_cast; rfl) | (rw [hoo]; simp)
      have y4 : Int.tmod ((k : Int) + 1) (n : Int) = (oo : Int) := by rw [Int.tmod_eq_emod_of_nonneg (by omega)]; exact y3
      have y5 : (0 : Int) ≤ (k : Int) + 1 := by omega
      have hne : ((n : Int) == 0) = false := beq_false_of_ne (by omega)
      have hne2 : ¬ (n : Int) = 0 := by omega
      have hne3 : ¬ (n : Int) = -1 := by omega
      have hon : (oo : Int) < (n : Int) := by omega
      have IO : I64 (oo : Int) := by unfold I64; omega
      have hk63 : (k : Int) < 64 := by omega
      clear hoo ho1 ho2
      go_wp2_with fail
      refine (devRead_any [(.slice A22 c.sec.length c22), (.slice A22' c.lost.length c22')] c oo oo _ D22.out IO IO).mono ?_
      rintro e w32 ⟨rfl, hx⟩
      rw [GO.out]
      have HX32 := Lib.hid (HX.out.trans hx)
      obtain ⟨Z, hZ⟩ : ∃ Z, Z = bs (List.replicate 24 (0 : UInt8)) := ⟨_, rfl⟩
      have HZ := Lib.hid hZ
      rw [← hZ]
      clear hx hZ f220 f221 l22 y3 y4 y5 hne hne2 hne3
      go_wp2_with fail
      refine (repeat_any 24 _ (by omega) (by omega)).mono ?_
      rintro e w33 ⟨rfl, hx⟩
      rw [show bs (List.replicate (24 : Int).toNat (0 : UInt8)) = Z from HZ.out.symm]
      have HX := Lib.hid (HX32.out.trans hx)
      clear hx
      rcases HBY.out with t1 | ⟨t1, rfl⟩
      · go_wp2_with fail
        refine (hasPrefix_any T q _ HPF.out.1 HPF.out.2.1 HPF.out.2.2).mono ?_
        rintro e w9 ⟨rfl, hw9⟩
        subst hw9
        go_wp2_with fail
        go_ret
        exact ⟨rfl, HX.out⟩
      · go_wp2_with fail
        refine (hasPrefix_any T q _ HPF.out.1 HPF.out.2.1 HPF.out.2.2).mono ?_
        rintro e w9 ⟨rfl, hw9⟩
        subst hw9
        go_wp2_with fail
        go_ret
        exact ⟨rfl, HX.out⟩
    · have hn2I : ¬ (1 : Int) < (n : Int) := by omega
      clear f220 f221 l22
      rcases HBY.out with t1 | ⟨t1, rfl⟩
      · go_wp2_with fail
        refine (hasPrefix_any T q _ HPF.out.1 HPF.out.2.1 HPF.out.2.2).mono ?_
        rintro e w9 ⟨rfl, hw9⟩
        subst hw9
        go_wp2_with fail
        go_ret
        exact ⟨rfl, HX.out⟩
      · go_wp2_with fail
        refine (hasPrefix_any T q _ HPF.out.1 HPF.out.2.1 HPF.out.2.2).mono ?_
        rintro e w9 ⟨rfl, hw9⟩
        subst hw9
        go_wp2_with fail
        go_ret
        exact ⟨rfl, HX.out⟩

end Go.Proofs.Ytokpjgpdkmimgaa
