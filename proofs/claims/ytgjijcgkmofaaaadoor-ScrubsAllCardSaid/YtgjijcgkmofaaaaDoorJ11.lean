/-
  arraskeep.hurt: devices of an array lose sectors. Conditions: the array may be, each act is one that loses a sector of one of the three devices.
-/
import Derived.Test.YtgjijcgkmofaaaaDoorJ10
import Derived.LaidSub
import Derived.MakeChecks
import Derived.Lib.LaidTab
namespace Go.Proofs.YtgjijcgkmofaaaaDoor
set_option linter.unusedSimpArgs false
set_option linter.unusedVariables false
open Go.RowKit

/-- An act that hurts. -/
structure HA where
  kind : Int
  d : Nat
  n : Int
  at_ : Int
  by_ : Int
def encHA (x : HA) : List Value := [.int .i64 x.kind, .slice none 0 0, .string .empty, .int .i64 (x.d : Int), .int .i64 x.n, .int .i64 x.at_, .int .i64 x.by_]
/-- What an act does that loses a sector. -/
def loseOne (a : List Dev) (x : HA) : List Dev := if touchCode (dv a x.d) x.n = 0 then a.set x.d (loseS (dv a x.d) x.n) else a
def loseAll (a : List Dev) (l : List HA) : List Dev := l.foldl loseOne a
theorem loseAll_snoc (a : List Dev) (l : List HA) (k : Nat) (h : k < l.length) : loseAll a (l.take (k + 1)) = loseOne (loseAll a (l.take k)) l[k] := by
  unfold loseAll
  rw [List.take_succ_eq_append_getElem h, List.foldl_append]
  rfl
theorem loseOne_good {a : List Dev} {m : Nat} (h : Good a m) {x : HA} (hx : x.d < 3) : Good (loseOne a x) m := by
  unfold loseOne
  split
  · rename_i ht
    exact h.dev hx (lose_may ht) (lose_len ht)
  · exact h
theorem loseAll_good {a : List Dev} {m : Nat} (h : Good a m) {l : List HA} (hl : ∀ x ∈ l, x.d < 3) : Good (loseAll a l) m := by
  induction l generalizing a with
  | nil => exact h
  | cons x l ih => exact ih (loseOne_good h (hl x (List.mem_cons_self))) (fun y hy => hl y (List.mem_cons_of_mem _ hy))
/-- An array of the call's own, or one that came in. -/
def Sf (w wr : World) (b2 b4 : Nat) (v : Value) (a : List Dev) : Prop := (RArr w [v] a ∧ w.heap.size ≤ b2 ∧ w.heap.size ≤ b4 ∧ Ext w wr) ∨ (∃ base, b2 < base ∧ b4 < base ∧ a.length = 3 ∧ OArr 63 wr base v a)
theorem Sf.rarr {w wr : World} {b2 b4 : Nat} {v : Value} {a : List Dev} (h : Sf w wr b2 b4 v a) : RArr wr [v] a := by
  rcases h with ⟨h, _, _, k⟩ | ⟨base, _, _, h3, h⟩
  · exact h.up k
  · exact h.rarr (by rw [h3]; decide)
theorem Sf.ext {w wr wr' : World} {b2 b4 : Nat} {v : Value} {a : List Dev} (h : Sf w wr b2 b4 v a) (k : Ext wr wr') : Sf w wr' b2 b4 v a := by
  rcases h with ⟨h, x, y, e⟩ | ⟨base, x, y, h3, h⟩
  · exact .inl ⟨h, x, y, e.trans k⟩
  · exact .inr ⟨base, x, y, h3, h.ext k⟩
theorem Sf.far4 {w wr : World} {b2 b4 : Nat} {v : Value} {a : List Dev} (h : Sf w wr b2 b4 v a) (u : Value) : RArr (wr.setCell ⟨b4, 0, none⟩ u) [v] a := by
  rcases h with ⟨h, x, y, e⟩ | ⟨base, x, y, h3, h⟩
  · exact h.up (e.setCell y u)
  · exact (h.far (p := ⟨b4, 0, none⟩) y u).rarr (by rw [h3]; decide)
/-- What stands at the head of a round. -/
structure HX_ (w wr : World) (b2 b4 : Nat) (A : Option Addr) (c : Nat) (a : List Dev) (m : Nat) : Prop where
  ext : Ext w wr
  r2 : Blk_ wr b2 25 #[.slice A 3 c]
  r4 : Blk_ wr b4 25 #[.slice none 0 0]
  sf : Sf w wr b2 b4 (.slice A 3 c) a
  good : Good a m
theorem HX_.up {w wr wr' : World} {b2 b4 : Nat} {A : Option Addr} {c : Nat} {a : List Dev} {m : Nat} (h : HX_ w wr b2 b4 A c a m) (k : Ext wr wr') : HX_ w wr' b2 b4 A c a m := ⟨h.ext.trans k, h.r2.ext k, h.r4.ext k, h.sf.ext k, h.good⟩
theorem HX_.rarrLook {w wr : World} {b2 b4 : Nat} {A : Option Addr} {c : Nat} {a : List Dev} {m : Nat} (h : HX_ w wr b2 b4 A c a m) : ∃ g o, A = some ⟨g, o, none⟩ ∧ ∀ k, k < 3 → ∃ A1 c1 A2 c2,
    wr.cell? ⟨g, o + k * 2, none⟩ = some (.slice A1 (dv a k).sec.length c1) ∧ wr.cell? ⟨g, o + k * 2 + 1, none⟩ = some (.slice A2 (dv a k).lost.length c2) ∧ RDev wr [.slice A1 (dv a k).sec.length c1, .slice A2 (dv a k).lost.length c2] (dv a k) := by
  have h3 := h.good.len
  have hr := h.sf.rarr
  have hr' : RArr wr [.slice A a.length c] a := by rw [h3]; exact hr
  obtain ⟨b, o, hA, hlook⟩ := hr'.look 0 (by omega)
  exact ⟨b, o, hA, fun k hk => by
    have := hlook k (by omega)
    exact this⟩
theorem HX_.rarr {w wr : World} {b2 b4 : Nat} {A : Option Addr} {c : Nat} {a : List Dev} {m : Nat} (h : HX_ w wr b2 b4 A c a m) : RArr wr [.slice A 3 c] a := h.sf.rarr
/-- A device is stored into a copy. -/
theorem OArr.stored {E : TypeId} {w6 W5 w7 : World} {b2 g9 c7 d : Nat} {a : List Dev} {dd : Dev} {x1 x2 : Value} (h7 : OArr E w7 W5.heap.size (.slice (some ⟨g9, 0, none⟩) 3 c7) a) (h3 : a.length = 3) (hd : d < 3) (hx5 : w6.heap.size ≤ W5.heap.size) (hx7 : Ext W5 w7)
    (hD : RDev W5 [x1, x2] dd) (hP : New w6.heap.size x1) (hQ : New w6.heap.size x2) (hb2 : b2 < w6.heap.size) (u : Value) :
    OArr E (((w7.setCell ⟨b2, 0, none⟩ u).setCell ⟨g9, d * 2, none⟩ x1).setCell ⟨g9, d * 2 + 1, none⟩ x2) w6.heap.size (.slice (some ⟨g9, 0, none⟩) 3 c7) (a.set d dd) := by
  have hg := (h7.atg h3).1
  refine OArr.set (((h7.base hx5).far (p := ⟨b2, 0, none⟩) hb2 u)) (by omega) ?_ hP hQ
  exact ((hD.old hg).ext hx7).away hP hQ (p := ⟨b2, 0, none⟩) hb2 u
set_option maxRecDepth 100000 in
set_option maxHeartbeats 8000000 in
theorem hurt_any (A : Option Addr) (c : Nat) (a0 : List Dev) (m : Nat) (L : Option Addr) (lc : Nat) (l : List HA) (w : World) (h : RArr w [.slice A 3 c] a0) (hg : Good a0 m)
    (hp : ∀ (k : Nat) (_ : k < l.length), ∃ b o, L = some ⟨b, o, none⟩ ∧ ∀ (i : Nat) (hi : i < l.length) (j : Nat) (u : Value), (encHA l[i])[j]? = some u → w.cell? ⟨b, o + i * 7 + j, none⟩ = some u)
    (hl : ∀ x ∈ l, x.d < 3 ∧ x.kind = 4 ∧ I64 x.n) (hll : l.length ≤ 1000000) :
    Calls Tryd.prog 6 #[.agg #[.slice A 3 c], .slice L l.length lc] w fun e w' => ∃ A' c', e = .returned (.agg #[.slice A' 3 c']) ∧ Ext w w' ∧ RArr w' [.slice A' 3 c'] (loseAll a0 l) := by
  have HP := Lib.hid hp
  have HL := Lib.hid hl
  have HH := Lib.hid h
  have HGD := Lib.hid hg
  have hlI : (l.length : Int) ≤ 1000000 := by omega
  clear h hg hp hl hll
  go_enter Tryd.func6, Tryd.ntmps6
  go_wp2_with fail
  refine wp_abs (fun W => Ext w W ∧ Blk_ W w.heap.size 25 #[.slice A 3 c] ∧ Blk_ W (w.heap.size + 1) 25 #[.slice none 0 0]) ⟨((Ext.refl _).alloc _).alloc _, (Blk_.new _ _ _).alloc _, Blk_.new1 _ _ _ _⟩ ?_
  rintro W ⟨hx, hb2, hb4⟩
  obtain ⟨b2, hh2⟩ : ∃ b2, b2 = w.heap.size := ⟨_, rfl⟩
  have HSF := Lib.hid (show HX_ w W b2 (b2 + 1) A c a0 m from ⟨hx, by rw [hh2]; exact hb2, by rw [hh2]; exact hb4, .inl ⟨HH.out, by omega, by omega, hx⟩, HGD.out⟩)
  have H2 := Lib.hid hh2
  rw [← hh2]
  clear hx hb2 hb4 hh2
  go_loopw [11] (fun kv wr => ∃ (k : Nat) (A : Option Addr) (c : Nat), kv = .int .i64 k ∧ k ≤ l.length ∧ HX_ w wr b2 (b2 + 1) A c (loseAll a0 (l.take k)) m) (fun kv _ => l.length - (intOf kv).toNat)
  case atStart => exact ⟨0, A, c, rfl, Nat.zero_le _, HSF.out⟩
  case round =>
    clear HSF
    obtain ⟨k, A, c, rfl, hk, hI⟩ := hrel
    have HI := Lib.hid hI
    clear hI
    by_cases hlt : k < l.length
    · have hki : (k : Int) < (l.length : Int) := by omega
      obtain ⟨bl, ol, rfl, hcell⟩ := HP.out k hlt
      obtain ⟨x, hxe⟩ : ∃ x, x = l[k] := ⟨_, rfl⟩
      have hxl := HL.out _ (List.getElem_mem hlt)
      rw [← hxe] at hxl
      obtain ⟨hxd, hxk, hxn⟩ := hxl
      have q0 := HI.out.ext.cell (hcell k hlt 0 _ rfl)
      have q1 := HI.out.ext.cell (hcell k hlt 1 _ rfl)
      have q2 := HI.out.ext.cell (hcell k hlt 2 _ rfl)
      have q3 := HI.out.ext.cell (hcell k hlt 3 _ rfl)
      have q4 := HI.out.ext.cell (hcell k hlt 4 _ rfl)
      have q5 := HI.out.ext.cell (hcell k hlt 5 _ rfl)
      have q6 := HI.out.ext.cell (hcell k hlt 6 _ rfl)
      rw [← hxe] at q0 q3 q4 q5 q6
      rw [hxk] at q0
      simp only [Nat.add_zero] at q0
      obtain ⟨d, hde⟩ : ∃ d, d = x.d := ⟨_, rfl⟩
      rw [← hde] at q3 hxd
      have HIX := Lib.hid hxn
      have HDD := Lib.hid (show x.kind = 4 ∧ d < 3 ∧ d = x.d from ⟨hxk, hxd, hde⟩)
      have HK := Lib.hid hlt
      have HSN := Lib.hid (show loseAll a0 (l.take (k + 1)) = loseOne (loseAll a0 (l.take k)) x by rw [loseAll_snoc a0 l k hlt, hxe])
      obtain ⟨a, hae⟩ : ∃ a, a = loseAll a0 (l.take k) := ⟨_, rfl⟩
      rw [← hae] at HI HSN
      have hd3 : (d : Int) < 3 := by omega
      have hd3' : ¬ (3 : Int) ≤ (d : Int) := by omega
      have r2 := HI.out.r2.cell 0
      simp at r2
      have lb2 := HI.out.r2.lt
      clear hxe hxk hxn hde hae hlt hk hcell hxd
      go_wp2_with fail
      refine wp_abs (fun W => Ext wr W ∧ Blk_ W wr.heap.size 59 #[.int .i64 4, .slice none 0 0, .string .empty, .int .i64 (d : Int), .int .i64 x.n, .int .i64 x.at_, .int .i64 x.by_]) ⟨(Ext.refl _).alloc _, Blk_.new _ _ _⟩ ?_
      rintro w6 ⟨hx6, hb6⟩
      obtain ⟨b6, h66⟩ : ∃ b6, b6 = wr.heap.size := ⟨_, rfl⟩
      rw [← h66] at hb6 ⊢
      have HI6 := Lib.hid (HI.out.up hx6)
      have HB6 := Lib.hid hb6
      have HB62 := Lib.hid (show b2 < b6 by rw [h66]; exact HI.out.r2.lt)
      clear hx6 hb6 h66 q0 q1 q2 q3 q4 q5 q6 r2 HI
      have f3 := HB6.out.cell 3
      have f4 := HB6.out.cell 4
      have f5 := HB6.out.cell 0
      have r2 := HI6.out.r2.cell 0
      simp at f3 f4 f5 r2
      clear f5
      obtain ⟨ga, oa, hA, hlook⟩ := HI6.out.rarrLook
      subst hA
      obtain ⟨A1, c1, A2, c2, e0, e1, hdv⟩ := hlook d HDD.out.2.1
      obtain ⟨dd, hdd⟩ : ∃ dd, dd = dv a d := ⟨_, rfl⟩
      rw [← hdd] at e0 e1 hdv
      have HDV := Lib.hid hdv
      have HDE := Lib.hid hdd
      have f0 := r2
      have f1 := e0
      have f2 := e1
      clear r2 e0 e1 hdv hdd hlook
      refine wp_region_begin (S := fun W' => W'.cell? ⟨b2, 0, none⟩ = some (.slice (some ⟨ga, oa, none⟩) 3 c) ∧ W'.cell? ⟨ga, oa + d * 2, none⟩ = some (.slice A1 dd.sec.length c1) ∧ W'.cell? ⟨ga, oa + d * 2 + 1, none⟩ = some (.slice A2 dd.lost.length c2) ∧ W'.cell? ⟨b6, 3, none⟩ = some (.int .i64 (d : Int)) ∧ W'.cell? ⟨b6, 4, none⟩ = some (.int .i64 x.n)) (n := 14) (by kernel_rfl) rfl (by kernel_rfl) rfl ?_
      have hS0 : (fun W' => W'.cell? ⟨b2, 0, none⟩ = some (.slice (some ⟨ga, oa, none⟩) 3 c) ∧ W'.cell? ⟨ga, oa + d * 2, none⟩ = some (.slice A1 dd.sec.length c1) ∧ W'.cell? ⟨ga, oa + d * 2 + 1, none⟩ = some (.slice A2 dd.lost.length c2) ∧ W'.cell? ⟨b6, 3, none⟩ = some (.int .i64 (d : Int)) ∧ W'.cell? ⟨b6, 4, none⟩ = some (.int .i64 x.n)) w6.drew := ⟨f0, f1, f2, f3, f4⟩
      refine wpAnyH_takeL (i := 0) (v := ?_) rfl (by kernel_rfl) (fun _ _ _ h => h) rfl ?_ hS0 ?_
      rotate_left
      · intro w' hS
        try dsimp only at hS
        go_simp
        rfl
      try simp only [Act.put, List.setIfInBounds_toArray, List.set_cons_zero, List.set_cons_succ]
      refine wpAnyH_takeL (i := 1) (v := ?_) rfl (by kernel_rfl) (fun _ _ _ h => h) rfl ?_ hS0 ?_
      rotate_left
      · intro w' hS
        try dsimp only at hS
        go_simp
        rfl
      try simp only [Act.put, List.setIfInBounds_toArray, List.set_cons_zero, List.set_cons_succ]
      refine wpAnyH_takeL (i := 2) (v := ?_) rfl (by kernel_rfl) (fun _ _ _ h => h) rfl ?_ hS0 ?_
      rotate_left
      · intro w' hS
        try dsimp only at hS
        go_simp
        rfl
      try simp only [Act.put, List.setIfInBounds_toArray, List.set_cons_zero, List.set_cons_succ]
      refine wpAnyH_takeL (i := 3) (v := ?_) rfl (by kernel_rfl) (fun _ _ _ h => h) rfl ?_ hS0 ?_
      rotate_left
      · intro w' hS
        try dsimp only at hS
        go_simp
        rfl
      try simp only [Act.put, List.setIfInBounds_toArray, List.set_cons_zero, List.set_cons_succ]
      refine wpAnyH_takeL (i := 4) (v := ?_) rfl (by kernel_rfl) (fun _ _ _ h => h) rfl ?_ hS0 ?_
      rotate_left
      · intro w' hS
        try dsimp only at hS
        go_simp
        rfl
      try simp only [Act.put, List.setIfInBounds_toArray, List.set_cons_zero, List.set_cons_succ]
      refine wpAnyH_takeL (i := 5) (v := ?_) rfl (by kernel_rfl) (fun _ _ _ h => h) rfl ?_ hS0 ?_
      rotate_left
      · intro w' hS
        try dsimp only at hS
        go_simp
        rfl
      try simp only [Act.put, List.setIfInBounds_toArray, List.set_cons_zero, List.set_cons_succ]
      refine wpAnyH_takeL (i := 6) (v := ?_) rfl (by kernel_rfl) (fun _ _ _ h => h) rfl ?_ hS0 ?_
      rotate_left
      · intro w' hS
        try dsimp only at hS
        go_simp
        rfl
      try simp only [Act.put, List.setIfInBounds_toArray, List.set_cons_zero, List.set_cons_succ]
      refine wpAnyH_takeL (i := 7) (v := ?_) rfl (by kernel_rfl) (fun _ _ _ h => h) rfl ?_ hS0 ?_
      rotate_left
      · intro w' hS
        try dsimp only at hS
        go_simp
        rfl
      try simp only [Act.put, List.setIfInBounds_toArray, List.set_cons_zero, List.set_cons_succ]
      refine wpAnyH_twoL (i := 8) (j := 12) rfl rfl (by kernel_rfl) rfl rfl (fun K hK => ?_) (fun K hK => ?_)
      · go_wp2_with fail
        refine (devLose_any [.slice A1 dd.sec.length c1, .slice A2 dd.lost.length c2] dd x.n _ (HDV.out.up ((Ext.refl w6).drew)) HIX.out).mono ?_
        rintro e w8 ⟨P1, p1, Q1, q1, rfl, hx, ho⟩
        have hdev := ho.dev
        have NW := Lib.hid (And.intro ho.new1 ho.new2)
        clear ho
        have hgd0 := hdev.old (Nat.le_refl w8.heap.size)
        have hx8 := (Ext.refl w6).drew.trans hx
        clear hdev hx
        refine hK _ _ ⟨hx8.cell f0, hx8.cell f1, hx8.cell f2, hx8.cell f3, hx8.cell f4⟩ ?_
        clear hK K
        try simp only [Act.put, List.setIfInBounds_toArray, List.set_cons_zero, List.set_cons_succ]
        have hS1 : (fun W' => W'.cell? ⟨b2, 0, none⟩ = some (.slice (some ⟨ga, oa, none⟩) 3 c) ∧ W'.cell? ⟨ga, oa + d * 2, none⟩ = some (.slice A1 dd.sec.length c1) ∧ W'.cell? ⟨ga, oa + d * 2 + 1, none⟩ = some (.slice A2 dd.lost.length c2) ∧ W'.cell? ⟨b6, 3, none⟩ = some (.int .i64 (d : Int)) ∧ W'.cell? ⟨b6, 4, none⟩ = some (.int .i64 x.n)) w8 := ⟨hx8.cell f0, hx8.cell f1, hx8.cell f2, hx8.cell f3, hx8.cell f4⟩
        refine wpAnyH_takeL (i := 9) (v := ?_) rfl (by kernel_rfl) (fun _ _ _ h => h) rfl ?_ hS1 ?_
        rotate_left
        · intro w' hS
          try dsimp only at hS
          go_simp
          rfl
        try simp only [Act.put, List.setIfInBounds_toArray, List.set_cons_zero, List.set_cons_succ]
        refine wpAnyH_takeL (i := 10) (v := ?_) rfl (by kernel_rfl) (fun _ _ _ h => h) rfl ?_ hS1 ?_
        rotate_left
        · intro w' hS
          try dsimp only at hS
          go_simp
          rfl
        try simp only [Act.put, List.setIfInBounds_toArray, List.set_cons_zero, List.set_cons_succ]
        refine wpAnyH_takeL (i := 11) (v := ?_) rfl (by kernel_rfl) (fun _ _ _ h => h) rfl ?_ hS1 ?_
        rotate_left
        · intro w' hS
          try dsimp only at hS
          go_simp
          rfl
        try simp only [Act.put, List.setIfInBounds_toArray, List.set_cons_zero, List.set_cons_succ]
        refine wpAnyH_oneL (i := 12) rfl (by kernel_rfl) rfl (fun K hK => ?_)
        go_wp2_with fail
        refine hK _ _ ?_ ?_
        · first | exact ⟨((hx8.drew).alloc _).cell f0, ((hx8.drew).alloc _).cell f1, ((hx8.drew).alloc _).cell f2, ((hx8.drew).alloc _).cell f3, ((hx8.drew).alloc _).cell f4⟩ | exact ⟨(hx8.alloc _).cell f0, (hx8.alloc _).cell f1, (hx8.alloc _).cell f2, (hx8.alloc _).cell f3, (hx8.alloc _).cell f4⟩
        clear hK K
        try simp only [Act.put, List.setIfInBounds_toArray, List.set_cons_zero, List.set_cons_succ]
        refine anyH_abs (fun W => Ext w8 W ∧ Blk_ W w8.heap.size 63 #[.slice none 0 0, .slice none 0 0]) ⟨by first | exact (Ext.refl _).alloc _ | exact (Ext.refl _).drew.alloc _, by first | exact Blk_.new _ _ _ | exact (Blk_.new _ _ _).drew⟩ ?_
        rintro Wz ⟨ez, hbz⟩
        have hgd := hgd0.ext ez
        have hxz := hx8.trans ez
        have hgz : w6.heap.size ≤ w8.heap.size := hx8.size
        obtain ⟨g7, hg7⟩ : ∃ g7, g7 = w8.heap.size := ⟨_, rfl⟩
        rw [← hg7] at hbz hgz hgd ⊢
        clear hgd0 ez hS1 hg7
        have m0 := hbz.cell 0
        have m1 := hbz.cell 1
        have z0 := hbz.frozen 0
        have z1 := hbz.frozen 1
        simp at m0 m1
        have hb22 := (hbz.set 0 (.slice P1 (loseS dd x.n).sec.length p1)).set 1 (.slice Q1 (loseS dd x.n).lost.length q1)
        have hx5 := (hxz.setCell (p := ⟨g7, 0, none⟩) hgz (.slice P1 (loseS dd x.n).sec.length p1)).setCell (p := ⟨g7, 1, none⟩) hgz (.slice Q1 (loseS dd x.n).lost.length q1)
        have hd5 := ((hgd.far (p := ⟨g7, 0, none⟩) (.slice P1 (loseS dd x.n).sec.length p1)).far (p := ⟨g7, 1, none⟩) (.slice Q1 (loseS dd x.n).lost.length q1)).dev
        have B7 := Lib.hid hb22
        have D7 := Lib.hid hd5
        have HX5 := Lib.hid hx5
        have HG7 := Lib.hid hgz
        clear hb22 hd5 hx5 hxz hgz hbz hgd
        refine wpAnyH_oneL (i := 13) rfl (by kernel_rfl) rfl (fun K hK => ?_)
        go_wp2_with fail
        refine hK _ _ ?_ ?_
        · exact ⟨HX5.out.cell f0, HX5.out.cell f1, HX5.out.cell f2, HX5.out.cell f3, HX5.out.cell f4⟩
        clear hK K
        try simp only [Act.put, List.setIfInBounds_toArray, List.set_cons_zero, List.set_cons_succ]
        refine wpAnyH_endL (by kernel_rfl) (fun K hK => ?_)
        clear m0 m1 z0 z1 hS0 f0 f1 f2 f3 f4
        have y0 := B7.out.cell 0
        have y1 := B7.out.cell 1
        have l7 := B7.out.lt
        simp at y0 y1
        have k2 := (HI6.out.r2.ext HX5.out).cell 0
        have k6 := (HB6.out.ext HX5.out).cell 0
        simp at k2 k6
        by_cases htc : touchCode dd x.n = 0
        · rw [htc]
          have HTC := Lib.hid htc
          clear htc
          go_wp2_with fail
          refine (arrCopy_any [.slice (some ⟨ga, oa, none⟩) 3 c] a _ (HI6.out.rarr.up HX5.out)).mono ?_
          rintro e w7 ⟨A7, c7, rfl, hx7, ho7⟩
          have h3 := HI6.out.good.len
          rw [h3] at ho7 ⊢
          obtain ⟨g9, rfl, hb9, hl9, hf9, hc9⟩ := ho7.at_ h3
          have HO7 := Lib.hid ho7
          have HX7 := Lib.hid hx7
          clear k2 k6 y0 y1
          have z2 := ((HI6.out.r2.ext HX5.out).ext hx7).frozen 0
          have k2 := ((HI6.out.r2.ext HX5.out).ext hx7).cell 0
          simp at k2
          have l2 := ((HI6.out.r2.ext HX5.out).ext hx7).lt
          have HG9 := Lib.hid (show b2 < g9 ∧ g7 < g9 ∧ b6 < g9 by
            have h5 := (HI6.out.r2.ext HX5.out).lt
            have h6 := B7.out.lt
            have h7 := (HB6.out.ext HX5.out).lt
            exact ⟨by omega, by omega, by omega⟩)
          have v0 := (B7.out.ext hx7).cell 0
          have v1 := (B7.out.ext hx7).cell 1
          have v3 := ((HB6.out.ext HX5.out).ext hx7).cell 3
          simp at v0 v1 v3
          have i0 := hf9 (d * 2)
          have i1 := hf9 (d * 2 + 1)
          obtain ⟨_, _, _, _, t0, t1, _⟩ := hc9 d HDD.out.2.1
          have ne1 : ¬ (b2 = g9) := by have := HG9.out; omega
          have ne2 : ¬ (g9 = b2) := by have := HG9.out; omega
          have ne3 : ¬ (b2 = g7) := fun e => by have h1 := HI6.out.r2.lt; have h2 := HG7.out; omega
          have ne4 : ¬ (b6 = b2) := fun e => by have h1 := HB62.out; omega
          have ne5 : ¬ (g7 = b2) := fun e => ne3 e.symm
          have ne6 : ¬ (b2 = b6) := fun e => ne4 e.symm
          have l9 := hl9
          clear ho7 hx7 hb9 hf9 hc9 hl9
          go_wp2_with fail
          go_roundw
          case rel =>
            have h2 := HI6.out.r2.lt
            have h4 := HI6.out.r4.lt
            have hgg := HG9.out
            have hb2 := HB62.out
            have h22 := H2.out
            refine ⟨k + 1, some ⟨g9, 0, none⟩, c7, by first | rfl | go_num, by have := HK.out; omega, ?_⟩
            rw [HSN.out]
            refine ⟨?_, ?_, ?_, ?_, loseOne_good HI6.out.good (by have := HDD.out; omega)⟩
            · exact (((HI6.out.ext.trans (HX5.out.trans HX7.out)).setCell (by dsimp only; omega) _).setCell (by dsimp only; omega) _).setCell (by dsimp only; omega) _
            · exact ((((HI6.out.r2.ext HX5.out).ext HX7.out).set 0 _).far (by dsimp only; omega) _).far (by dsimp only; omega) _
            · exact ((((HI6.out.r4.ext HX5.out).ext HX7.out).far (by dsimp only; omega) _).far (by dsimp only; omega) _).far (by dsimp only; omega) _
            · have hst := OArr.stored HO7.out HI6.out.good.len HDD.out.2.1 HX5.out.size HX7.out D7.out NW.out.1 NW.out.2 h2 (.slice (some ⟨g9, 0, none⟩) 3 c7)
              have he : loseOne a x = a.set d (loseS dd x.n) := by
                unfold loseOne
                rw [← HDD.out.2.2, ← HDE.out, if_pos HTC.out]
              rw [he]
              exact .inr ⟨w6.heap.size, h2, h4, by rw [List.length_set]; exact HI6.out.good.len, hst⟩
          case measure => have := HK.out; (simp [intOf]; try omega)
        · have htb : (touchCode dd x.n == 0) = false := beq_false_of_ne htc
          clear k2 y0 y1 l7
          have HTC := Lib.hid htc
          clear htc
          go_wp2_with fail
          go_roundw
          case rel =>
            refine ⟨k + 1, some ⟨ga, oa, none⟩, c, by first | rfl | go_num, by have := HK.out; omega, ?_⟩
            have he : loseOne a x = a := by
              unfold loseOne
              rw [← HDD.out.2.2, ← HDE.out, if_neg HTC.out]
            rw [HSN.out, he]
            exact HI6.out.up HX5.out
          case measure => have := HK.out; (simp [intOf]; try omega)
      · go_wp2_with fail
        refine hK _ _ ?_ ?_
        · first | exact ⟨((Ext.refl w6).drew.alloc _).cell f0, ((Ext.refl w6).drew.alloc _).cell f1, ((Ext.refl w6).drew.alloc _).cell f2, ((Ext.refl w6).drew.alloc _).cell f3, ((Ext.refl w6).drew.alloc _).cell f4⟩ | exact ⟨((Ext.refl w6).alloc _).cell f0, ((Ext.refl w6).alloc _).cell f1, ((Ext.refl w6).alloc _).cell f2, ((Ext.refl w6).alloc _).cell f3, ((Ext.refl w6).alloc _).cell f4⟩
        clear hK K
        try simp only [Act.put, List.setIfInBounds_toArray, List.set_cons_zero, List.set_cons_succ]
        refine anyH_abs (fun W => Ext w6 W ∧ Blk_ W w6.heap.size 63 #[.slice none 0 0, .slice none 0 0]) ⟨by first | exact (Ext.refl _).alloc _ | exact (Ext.refl _).drew.alloc _, by first | exact Blk_.new _ _ _ | exact (Blk_.new _ _ _).drew⟩ ?_
        rintro Wz ⟨ez0, hbz0⟩
        refine wpAnyH_oneL (i := 8) rfl (by kernel_rfl) rfl (fun K hK => ?_)
        go_wp2_with fail
        refine (devLose_any [.slice A1 dd.sec.length c1, .slice A2 dd.lost.length c2] dd x.n _ (HDV.out.up (ez0)) HIX.out).mono ?_
        rintro e w8 ⟨P1, p1, Q1, q1, rfl, hx, ho⟩
        have hgd := ho.dev.newG ho.new1 ho.new2 hbz0.lt
        have NW := Lib.hid (show New w6.drew.heap.size (.slice P1 (loseS dd x.n).sec.length p1) ∧ New w6.drew.heap.size (.slice Q1 (loseS dd x.n).lost.length q1) from ⟨ho.new1.mono ez0.size, ho.new2.mono ez0.size⟩)
        clear ho
        have hxz := ez0.trans hx
        have hgz : w6.heap.size ≤ w6.heap.size := Nat.le_refl _
        have hbz := hbz0.ext hx
        clear hx hbz0
        refine hK _ _ ⟨hxz.cell f0, hxz.cell f1, hxz.cell f2, hxz.cell f3, hxz.cell f4⟩ ?_
        clear hK K
        try simp only [Act.put, List.setIfInBounds_toArray, List.set_cons_zero, List.set_cons_succ]
        have hS1 : (fun W' => W'.cell? ⟨b2, 0, none⟩ = some (.slice (some ⟨ga, oa, none⟩) 3 c) ∧ W'.cell? ⟨ga, oa + d * 2, none⟩ = some (.slice A1 dd.sec.length c1) ∧ W'.cell? ⟨ga, oa + d * 2 + 1, none⟩ = some (.slice A2 dd.lost.length c2) ∧ W'.cell? ⟨b6, 3, none⟩ = some (.int .i64 (d : Int)) ∧ W'.cell? ⟨b6, 4, none⟩ = some (.int .i64 x.n)) w8 := ⟨hxz.cell f0, hxz.cell f1, hxz.cell f2, hxz.cell f3, hxz.cell f4⟩
        refine wpAnyH_takeL (i := 9) (v := ?_) rfl (by kernel_rfl) (fun _ _ _ h => h) rfl ?_ hS1 ?_
        rotate_left
        · intro w' hS
          try dsimp only at hS
          go_simp
          rfl
        try simp only [Act.put, List.setIfInBounds_toArray, List.set_cons_zero, List.set_cons_succ]
        refine wpAnyH_takeL (i := 10) (v := ?_) rfl (by kernel_rfl) (fun _ _ _ h => h) rfl ?_ hS1 ?_
        rotate_left
        · intro w' hS
          try dsimp only at hS
          go_simp
          rfl
        try simp only [Act.put, List.setIfInBounds_toArray, List.set_cons_zero, List.set_cons_succ]
        refine wpAnyH_takeL (i := 11) (v := ?_) rfl (by kernel_rfl) (fun _ _ _ h => h) rfl ?_ hS1 ?_
        rotate_left
        · intro w' hS
          try dsimp only at hS
          go_simp
          rfl
        try simp only [Act.put, List.setIfInBounds_toArray, List.set_cons_zero, List.set_cons_succ]
        obtain ⟨g7, hg7⟩ : ∃ g7, g7 = w6.heap.size := ⟨_, rfl⟩
        have hgz : w6.heap.size ≤ g7 := by omega
        rw [← hg7] at hbz hgd ⊢
        clear hS1 hg7
        have m0 := hbz.cell 0
        have m1 := hbz.cell 1
        have z0 := hbz.frozen 0
        have z1 := hbz.frozen 1
        simp at m0 m1
        have hb22 := (hbz.set 0 (.slice P1 (loseS dd x.n).sec.length p1)).set 1 (.slice Q1 (loseS dd x.n).lost.length q1)
        have hx5 := (hxz.setCell (p := ⟨g7, 0, none⟩) hgz (.slice P1 (loseS dd x.n).sec.length p1)).setCell (p := ⟨g7, 1, none⟩) hgz (.slice Q1 (loseS dd x.n).lost.length q1)
        have hd5 := ((hgd.far (p := ⟨g7, 0, none⟩) (.slice P1 (loseS dd x.n).sec.length p1)).far (p := ⟨g7, 1, none⟩) (.slice Q1 (loseS dd x.n).lost.length q1)).dev
        have B7 := Lib.hid hb22
        have D7 := Lib.hid hd5
        have HX5 := Lib.hid hx5
        have HG7 := Lib.hid hgz
        clear hb22 hd5 hx5 hxz hgz hbz hgd
        refine wpAnyH_oneL (i := 13) rfl (by kernel_rfl) rfl (fun K hK => ?_)
        go_wp2_with fail
        refine hK _ _ ?_ ?_
        · exact ⟨HX5.out.cell f0, HX5.out.cell f1, HX5.out.cell f2, HX5.out.cell f3, HX5.out.cell f4⟩
        clear hK K
        try simp only [Act.put, List.setIfInBounds_toArray, List.set_cons_zero, List.set_cons_succ]
        refine wpAnyH_endL (by kernel_rfl) (fun K hK => ?_)
        clear m0 m1 z0 z1 hS0 f0 f1 f2 f3 f4
        have y0 := B7.out.cell 0
        have y1 := B7.out.cell 1
        have l7 := B7.out.lt
        simp at y0 y1
        have k2 := (HI6.out.r2.ext HX5.out).cell 0
        have k6 := (HB6.out.ext HX5.out).cell 0
        simp at k2 k6
        by_cases htc : touchCode dd x.n = 0
        · rw [htc]
          have HTC := Lib.hid htc
          clear htc
          go_wp2_with fail
          refine (arrCopy_any [.slice (some ⟨ga, oa, none⟩) 3 c] a _ (HI6.out.rarr.up HX5.out)).mono ?_
          rintro e w7 ⟨A7, c7, rfl, hx7, ho7⟩
          have h3 := HI6.out.good.len
          rw [h3] at ho7 ⊢
          obtain ⟨g9, rfl, hb9, hl9, hf9, hc9⟩ := ho7.at_ h3
          have HO7 := Lib.hid ho7
          have HX7 := Lib.hid hx7
          clear k2 k6 y0 y1
          have z2 := ((HI6.out.r2.ext HX5.out).ext hx7).frozen 0
          have k2 := ((HI6.out.r2.ext HX5.out).ext hx7).cell 0
          simp at k2
          have l2 := ((HI6.out.r2.ext HX5.out).ext hx7).lt
          have HG9 := Lib.hid (show b2 < g9 ∧ g7 < g9 ∧ b6 < g9 by
            have h5 := (HI6.out.r2.ext HX5.out).lt
            have h6 := B7.out.lt
            have h7 := (HB6.out.ext HX5.out).lt
            exact ⟨by omega, by omega, by omega⟩)
          have v0 := (B7.out.ext hx7).cell 0
          have v1 := (B7.out.ext hx7).cell 1
          have v3 := ((HB6.out.ext HX5.out).ext hx7).cell 3
          simp at v0 v1 v3
          have i0 := hf9 (d * 2)
          have i1 := hf9 (d * 2 + 1)
          obtain ⟨_, _, _, _, t0, t1, _⟩ := hc9 d HDD.out.2.1
          have ne1 : ¬ (b2 = g9) := by have := HG9.out; omega
          have ne2 : ¬ (g9 = b2) := by have := HG9.out; omega
          have ne3 : ¬ (b2 = g7) := fun e => by have h1 := HI6.out.r2.lt; have h2 := HG7.out; omega
          have ne4 : ¬ (b6 = b2) := fun e => by have h1 := HB62.out; omega
          have ne5 : ¬ (g7 = b2) := fun e => ne3 e.symm
          have ne6 : ¬ (b2 = b6) := fun e => ne4 e.symm
          have l9 := hl9
          clear ho7 hx7 hb9 hf9 hc9 hl9
          go_wp2_with fail
          go_roundw
          case rel =>
            have h2 := HI6.out.r2.lt
            have h4 := HI6.out.r4.lt
            have hgg := HG9.out
            have hb2 := HB62.out
            have h22 := H2.out
            refine ⟨k + 1, some ⟨g9, 0, none⟩, c7, by first | rfl | go_num, by have := HK.out; omega, ?_⟩
            rw [HSN.out]
            refine ⟨?_, ?_, ?_, ?_, loseOne_good HI6.out.good (by have := HDD.out; omega)⟩
            · exact (((HI6.out.ext.trans (HX5.out.trans HX7.out)).setCell (by dsimp only; omega) _).setCell (by dsimp only; omega) _).setCell (by dsimp only; omega) _
            · exact ((((HI6.out.r2.ext HX5.out).ext HX7.out).set 0 _).far (by dsimp only; omega) _).far (by dsimp only; omega) _
            · exact ((((HI6.out.r4.ext HX5.out).ext HX7.out).far (by dsimp only; omega) _).far (by dsimp only; omega) _).far (by dsimp only; omega) _
            · have hst := OArr.stored HO7.out HI6.out.good.len HDD.out.2.1 HX5.out.size HX7.out D7.out NW.out.1 NW.out.2 h2 (.slice (some ⟨g9, 0, none⟩) 3 c7)
              have he : loseOne a x = a.set d (loseS dd x.n) := by
                unfold loseOne
                rw [← HDD.out.2.2, ← HDE.out, if_pos HTC.out]
              rw [he]
              exact .inr ⟨w6.heap.size, h2, h4, by rw [List.length_set]; exact HI6.out.good.len, hst⟩
          case measure => have := HK.out; (simp [intOf]; try omega)
        · have htb : (touchCode dd x.n == 0) = false := beq_false_of_ne htc
          clear k2 y0 y1 l7
          have HTC := Lib.hid htc
          clear htc
          go_wp2_with fail
          go_roundw
          case rel =>
            refine ⟨k + 1, some ⟨ga, oa, none⟩, c, by first | rfl | go_num, by have := HK.out; omega, ?_⟩
            have he : loseOne a x = a := by
              unfold loseOne
              rw [← HDD.out.2.2, ← HDE.out, if_neg HTC.out]
            rw [HSN.out, he]
            exact HI6.out.up HX5.out
          case measure => have := HK.out; (simp [intOf]; try omega)
    · have hki : (l.length : Int) ≤ (k : Int) := by omega
      obtain rfl : k = l.length := by omega
      clear hlt hk
      have r2 := HI.out.r2.cell 0
      have r4 := HI.out.r4.cell 0
      have z4 := HI.out.r4.frozen 0
      simp at r2 r4
      go_wp2_with fail
      have HB := Lib.hid (HI.out.r4.set 0 (.slice A 3 c))
      have HXX := Lib.hid (HI.out.ext.setCell (p := ⟨b2 + 1, 0, none⟩) (by have := H2.out; dsimp only; omega) (.slice A 3 c))
      have HRR := Lib.hid (HI.out.sf.far4 (.slice A 3 c))
      refine bodyPost_ret (res_cell rfl rfl HB.out Tryd.underlying25 rfl (by kernel_rfl)) rfl ?_
      rw [List.take_length] at HRR
      exact ⟨A, c, rfl, HXX.out, HRR.out⟩
end Go.Proofs.YtgjijcgkmofaaaaDoor

/-
  A box of one cell beside an array: what is stored into it does not touch the array; rows of acts. Conditions: none.
-/
namespace Go.Proofs.YtgjijcgkmofaaaaDoor
set_option linter.unusedSimpArgs false
set_option linter.unusedVariables false
open Go.RowKit

theorem SlR.avBox {α : Type} {bytes : Nat} {R : Rd α} {enc : α → List Value} (he : Enc 1 R enc) {w : World} {v : Value} {l : List α} {g : Nat} {t : TypeId} (h : SlR 1 bytes R w v l) (hb : Blk_ w g t #[.slice none 0 0]) (hne : ∀ a, enc a ≠ [.slice none 0 0]) : Av g v := by
  intro b o s n c ev
  by_cases h0 : l.length = 0
  · left
    obtain ⟨A, cap, e, _⟩ := h
    rw [e] at ev
    injection ev with _ h2 _
    omega
  · right
    rintro rfl
    obtain ⟨A, cap, e, _, _, p⟩ := h.rowE he
    obtain ⟨b', o', hA, hc⟩ := p 0 (by omega)
    rw [e, hA] at ev
    injection ev with h1 _ _
    injection h1 with h1
    injection h1 with h1 _ _
    subst h1
    have hl := he.len l[0]
    obtain ⟨u, hu⟩ : ∃ u, enc l[0] = [u] := by
      match henc : enc l[0], hl with
      | [u], _ => exact ⟨u, rfl⟩
    have h3 := hc 0 (by omega) 0 u (by rw [hu]; rfl)
    rw [hb.cell] at h3
    have h4 : u = .slice none 0 0 := by
      cases hq : (o' + 0 * 1 + 0) with
      | zero => rw [hq] at h3; simpa using h3.symm
      | succ q => rw [hq] at h3; simp at h3
    exact hne _ (by rw [hu, h4])
theorem RArr.box {w : World} {v : Value} {a : List Dev} {g : Nat} {t : TypeId} (h : RArr w [v] a) (hb : Blk_ w g t #[.slice none 0 0]) (x : Value) : RArr (w.setCell ⟨g, 0, none⟩ x) [v] a := by
  obtain ⟨v', e, A, cap, hv, hby, hc, hh⟩ := h
  refine ⟨v', e, A, cap, hv, hby, hc, ?_⟩
  rcases hh with hh | ⟨b, o, hA, hh⟩
  · exact .inl hh
  · by_cases h0 : a = []
    · exact .inl h0
    · right
      have hlen : 0 < a.length := List.length_pos_iff.2 h0
      have hbg : b ≠ g := by
        rintro rfl
        obtain ⟨cs, hl, hcell, _⟩ := hh 0 hlen
        have h1 := hcell 1 (by decide)
        rw [hb.cell, List.getElem?_eq_getElem (by omega)] at h1
        have : (o + 0 * 2 + 1) = o + 1 := by omega
        rw [this] at h1
        simp at h1
      refine ⟨b, o, hA, fun i hi => ?_⟩
      obtain ⟨cs, hl, hcell, hr⟩ := hh i hi
      refine ⟨cs, hl, fun j hj => (World.cell?_setCell_other w _ _ x (fun e => hbg (by injection e with e1; exact e1.symm))).trans (hcell j hj), ?_⟩
      obtain ⟨v1, v2, e', h1, h2⟩ := hr
      exact ⟨v1, v2, e', h1.far encStr_ok (h1.avBox encStr_ok hb (fun a h => by simp [encStr] at h)) x, h2.far encBool_ok (h2.avBox encBool_ok hb (fun a h => by simp [encBool] at h)) x⟩
/-- Acts that were laid one behind the other. -/
theorem acts_row {w : World} {g : Nat} {t : TypeId} {l : List HA} (h : Blk_ w g t (l.flatMap encHA).toArray) :
    ∀ (k : Nat) (_ : k < l.length), ∃ b o, (some ⟨g, 0, none⟩ : Option Addr) = some ⟨b, o, none⟩ ∧ ∀ (i : Nat) (hi : i < l.length) (j : Nat) (u : Value), (encHA l[i])[j]? = some u → w.cell? ⟨b, o + i * 7 + j, none⟩ = some u := by
  intro k hk
  refine ⟨g, 0, rfl, fun i hi j u hu => ?_⟩
  have hj : j < 7 := by
    have := (List.getElem?_eq_some_iff.1 hu).1
    exact this
  rw [h.cell, Nat.zero_add, List.getElem?_toArray, flatMap_at (enc := encHA) (C := 7) (fun _ => rfl) l i j hi hj]
  exact hu
theorem lose_one {a : List Dev} {j n : Nat} (h : touchCode (dv a j) n = 0) : loseAll a [⟨4, j, n, 0, 0⟩] = loseA a j n := by
  show loseOne a ⟨4, j, n, 0, 0⟩ = _
  unfold loseOne
  rw [if_pos h]
  rfl
theorem lose_two {a : List Dev} {k : Nat} (h0 : touchCode (dv a 0) k = 0) (h1 : touchCode (dv (loseA a 0 k) 1) k = 0) : loseAll a [⟨4, 0, k, 0, 0⟩, ⟨4, 1, k, 0, 0⟩] = lostBoth a k := by
  show loseOne (loseOne a ⟨4, 0, k, 0, 0⟩) ⟨4, 1, k, 0, 0⟩ = _
  have e : loseOne a ⟨4, 0, k, 0, 0⟩ = loseA a 0 k := by unfold loseOne; rw [if_pos h0]; rfl
  rw [e]
  unfold loseOne
  rw [if_pos h1]
  rfl
end Go.Proofs.YtgjijcgkmofaaaaDoor

/-
  Bytes are read from an array as they were written, and what stands around them stays, in plain Lean: the law StreamsBack. Conditions: the numbers are within the array.
-/
namespace Go.Proofs.YtgjijcgkmofaaaaDoor
set_option linter.unusedSimpArgs false
set_option linter.unusedVariables false
open Go.RowKit

/-- What the sectors tell after a stream was written. -/
def swAll : Nat → Nat → List ByteArray → Nat → ByteArray → List ByteArray
  | 0, _, all, _, _ => all
  | m + 1, i, all, first, s => swAll m (i + 1) (all.set (first + i) (padS (chunk s i))) first s
theorem full_sw {mm : Nat} (h16 : 16 ≤ mm) (h64 : mm ≤ 64) (h2 : mm % 2 = 0) (first : Nat) (s : ByteArray) : ∀ (m i : Nat) (a : List Dev) (all : List ByteArray), Full a mm all → first + i + m ≤ mm → Full (streamWriteLoop m i a first s) mm (swAll m i all first s)
  | 0, _, _, _, h, _ => h
  | m + 1, i, a, all, h, hl => by
    obtain ⟨b, e, hb⟩ := h.write h16 h64 h2 (n := first + i) (by omega) (chunk_size s i)
    rw [swl_succ]
    have e1 : (first : Int) + (i : Int) = ((first + i : Nat) : Int) := by omega
    rw [e1, e]
    exact full_sw h16 h64 h2 first s m (i + 1) b _ hb (by omega)
theorem pl_sw (first : Nat) (s : ByteArray) : ∀ (m i : Nat) (all : List ByteArray) (n : Nat), first + i + m ≤ all.length → pl (swAll m i all first s) n = if first + i ≤ n ∧ n < first + i + m then padS (chunk s (n - first)) else pl all n
  | 0, i, all, n, _ => by rw [if_neg (by omega)]; rfl
  | m + 1, i, all, n, h => by
    show pl (swAll m (i + 1) (all.set (first + i) (padS (chunk s i))) first s) n = _
    rw [pl_sw first s m (i + 1) _ n (by rw [List.length_set]; omega)]
    by_cases h1 : first + (i + 1) ≤ n ∧ n < first + (i + 1) + m
    · rw [if_pos h1, if_pos (by omega)]
    · rw [if_neg h1]
      by_cases h2 : n = first + i
      · subst h2
        rw [if_pos (by omega), pl_set_self (by omega), show first + i - first = i by omega]
      · rw [if_neg (by omega), pl_set_ne _ (fun e => h2 e.symm)]
theorem lst_chunk (s : ByteArray) (j : Nat) : lst (chunk s j) = ((lst s).drop (24 * j)).take 24 := by
  unfold chunk
  rw [lst_extract]
  apply List.ext_getElem?
  intro i
  have hl := length_lst s
  unfold sub_
  simp only [List.getElem?_take, List.getElem?_drop]
  by_cases hi : 24 * j + i < (lst s).length
  · by_cases h24 : i < 24
    · first | (rw [if_pos (by omega), if_pos h24]) | (rw [if_pos h24, if_pos (by omega)])
    · first | (rw [if_neg (by omega), if_neg h24]) | (rw [if_neg h24, if_neg (by omega)])
  · have hn : (lst s)[24 * j + i]? = none := List.getElem?_eq_none (by omega)
    rw [hn]
    simp
theorem pad_chunk (s : ByteArray) (j : Nat) (hj : 24 * j < s.size) : (lst s).take (24 * j) ++ lst (padS (chunk s j)) = (lst s).take (24 * (j + 1)) ++ List.replicate (24 * (j + 1) - s.size) 0 := by
  have hc := lst_chunk s j
  have hl := length_lst s
  have hz : (chunk s j).size = min 24 (s.size - 24 * j) := by rw [← length_lst, hc, List.length_take, List.length_drop, hl]
  unfold padS
  rw [lst_bs, hc, ← List.append_assoc, hz]
  congr 1
  · rw [show 24 * (j + 1) = 24 * j + 24 by omega, List.take_add]
  · congr 1
    omega
theorem srl_back {b : List Dev} {mm : Nat} {all : List ByteArray} (h : Full b mm all) (h16 : 16 ≤ mm) (h64 : mm ≤ 64) (h2 : mm % 2 = 0) (k : Nat) (s : ByteArray) : ∀ (m j : Nat) (acc : ByteArray), (∀ i : Nat, j ≤ i → i < j + m → pl all (k + i) = padS (chunk s i)) → k + j + m ≤ mm → 24 * (j + m) < s.size + 24 →
    lst acc = (lst s).take (24 * j) ++ List.replicate (24 * j - s.size) 0 → ∃ t, streamReadLoop b m ((k + j : Nat) : Int) acc = (t, 0) ∧ lst t = (lst s).take (24 * (j + m)) ++ List.replicate (24 * (j + m) - s.size) 0
  | 0, j, acc, _, _, _, ha => ⟨acc, rfl, ha⟩
  | m + 1, j, acc, hp, hk, hs, ha => by
    have hr := h.read h16 h64 h2 (n := k + j) (by omega)
    rw [loop_next (by rw [hr])]
    rw [hr, hp j (Nat.le_refl _) (by omega)]
    have e1 : ((k + j : Nat) : Int) + 1 = ((k + (j + 1) : Nat) : Int) := by omega
    rw [e1]
    obtain ⟨t, e, ht⟩ := srl_back h h16 h64 h2 k s m (j + 1) (acc ++ padS (chunk s j)) (fun i h1 h2 => hp i (by omega) (by omega)) (by omega) (by omega) (by
      rw [lst_append, ha, show 24 * j - s.size = 0 by omega, List.replicate_zero, List.append_nil]
      exact pad_chunk s j (by omega))
    exact ⟨t, e, by rw [ht, show j + 1 + m = j + (m + 1) by omega]⟩
/-- StreamsBack. -/
theorem keep_stream {a : List Dev} {all : List ByteArray} (h : Full a 40 all) {k : Nat} (hk : k < 40) {s : ByteArray} (hs : s.size ≤ (40 - k) * 24) :
    ∃ b all', streamWriteS a k s = (b, 0) ∧ Full b 40 all' ∧ streamReadS b k s.size = (s, 0) ∧ streamReadS b k (((40 - k) * 24 + 1 : Nat) : Int) = (.empty, 2) ∧ ∀ i : Nat, i < 40 → ¬ (k ≤ i ∧ i < k + (s.size + 23) / 24) → arrReadS b i = (pl all i, 1, 0) := by
  have hmay := h.good.may (by decide) (by decide)
  have hlen : (dv a 0).sec.length = 40 := h.good.l0
  have hf0 : streamFaultS a k s.size = 0 := fault_none hmay ⟨by omega, by omega⟩ (by rw [hlen]; omega)
  have hb := full_sw (by decide) (by decide) (by decide) k s ((s.size + 23) / 24) 0 a all h (by omega)
  have hpl := fun n => pl_sw k s ((s.size + 23) / 24) 0 all n (by rw [h.len]; omega)
  refine ⟨_, _, sw_good hf0, hb, ?_, ?_, fun i hi hn => ?_⟩
  · have hmb := hb.good.may (by decide) (by decide)
    have hlb : (dv (streamWriteLoop ((s.size + 23) / 24) 0 a k s) 0).sec.length = 40 := hb.good.l0
    have hfb : streamFaultS (streamWriteLoop ((s.size + 23) / 24) 0 a k s) k s.size = 0 := fault_none hmb ⟨by omega, by omega⟩ (by rw [hlb]; omega)
    obtain ⟨t, e, ht⟩ := srl_back hb (by decide) (by decide) (by decide) k s ((s.size + 23) / 24) 0 .empty (fun i _ hi => by rw [hpl, if_pos (by omega), show k + i - k = i by omega]) (by omega) (by omega) (by simp [lst_empty])
    rw [sread_good hfb (s := t) (by
      rw [show (((s.size : Int) + 23) / 24).toNat = (s.size + 23) / 24 by omega]
      rw [show ((k + 0 : Nat) : Int) = (k : Int) by omega] at e
      exact e)]
    congr 1
    apply lst_inj
    rw [lst_extract, show ((s.size : Int)).toNat = s.size from rfl]
    unfold sub_
    rw [ht, Nat.zero_add, List.take_of_length_le (show (lst s).length ≤ 24 * ((s.size + 23) / 24) by rw [length_lst]; omega)]
    first | (rw [List.drop_zero, List.take_left' (length_lst s)]) | (rw [List.take_left' (length_lst s), List.drop_zero])
  · have hmb := hb.good.may (by decide) (by decide)
    have hlb : (dv (streamWriteLoop ((s.size + 23) / 24) 0 a k s) 0).sec.length = 40 := hb.good.l0
    have hfb : streamFaultS (streamWriteLoop ((s.size + 23) / 24) 0 a k s) k (((40 - k) * 24 + 1 : Nat) : Int) = 2 := fault_range hmb ⟨by omega, by omega⟩ (by rw [hlb]; omega)
    rw [sread_bad (by rw [hfb]; decide), hfb]
  · rw [hb.read (by decide) (by decide) (by decide) hi, hpl, if_neg (by omega)]
end Go.Proofs.YtgjijcgkmofaaaaDoor

/-
  The table of powers of ten, out of what a law's row lists. Conditions: none.
-/
namespace Go.Proofs.YtgjijcgkmofaaaaDoor
open Go.RowKit

theorem tab_of_laid {W : World} (h : laidMetH Tryd.prog [("math/bits.deBruijn32tab", Rows.laid_math_bits_deBruijn32tab), ("math/bits.deBruijn64tab", Rows.laid_math_bits_deBruijn64tab), ("internal/strconv.uint64pow10", Rows.laid_internal_strconv_uint64pow10)] W) : Tab W := by
  have h1 := h.filter (fun x => x.1 == "internal/strconv.uint64pow10")
  rw [show ([("math/bits.deBruijn32tab", Rows.laid_math_bits_deBruijn32tab), ("math/bits.deBruijn64tab", Rows.laid_math_bits_deBruijn64tab), ("internal/strconv.uint64pow10", Rows.laid_internal_strconv_uint64pow10)] : List (String × DataW Unit)).filter (fun x => x.1 == "internal/strconv.uint64pow10") =
    [("internal/strconv.uint64pow10", Rows.laid_internal_strconv_uint64pow10)] by simp] at h1
  rw [MakeChecks.laidMetH_plain _ _ _ (by kernel_rfl)] at h1
  rw [show (Rows.laid_internal_strconv_uint64pow10 : DataW Unit) = Lib.tabData .u64 Lib.pow10Tab by rfl] at h1
  exact Lib.tabIs_of_head (g := 1) (t := 153) (e := 113) (n := 20) (by kernel_rfl) (by kernel_rfl) Tryd.underlying153 Tryd.underlying113 (by kernel_rfl) (by kernel_rfl) h1
end Go.Proofs.YtgjijcgkmofaaaaDoor
