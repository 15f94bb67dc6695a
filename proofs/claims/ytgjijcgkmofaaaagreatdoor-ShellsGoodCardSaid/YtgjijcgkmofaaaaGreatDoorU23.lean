/-
  An act that scrubs. Conditions: the pointer's box holds an array and a cursor.
-/
import Derived.Test.YtgjijcgkmofaaaaGreatDoorU22
namespace Go.Proofs.YtgjijcgkmofaaaaGreatDoor
set_option linter.unusedSimpArgs false
set_option linter.unusedVariables false
set_option maxRecDepth 100000
set_option maxHeartbeats 8000000
open Go.RowKit
def Keep (wc wS W : World) : Prop := wS.heap.size ≤ W.heap.size ∧ ∀ j, wc.heap.size ≤ j → j < wS.heap.size → W.heap[j]? = wS.heap[j]?
theorem Keep.up {wc wS W W' : World} (h : Keep wc wS W) (k : Ext W W') : Keep wc wS W' := ⟨Nat.le_trans h.1 k.size, fun j h1 h2 => (Below.block k j (Nat.lt_of_lt_of_le h2 h.1)).trans (h.2 j h1 h2)⟩
theorem Keep.ext {wc wS W W' : World} (h : Keep wc wS W) (k : Ext W W') : Keep wc wS W' := h.up k
theorem Keep.off {wc wS W : World} (h : Keep wc wS W) {p : Addr} (hp : p.block < wc.heap.size ∨ wS.heap.size ≤ p.block) (u : Value) : Keep wc wS (W.setCell p u) := ⟨by simpa using h.1, fun j h1 h2 => (Below.heap_setCell W p u j (by omega)).trans (h.2 j h1 h2)⟩
theorem Fresh.fin {w wc wS w' : World} {R : World → Prop} (h : Fresh wc wS R) (hk : Keep wc wS w') (hl : w.heap.size ≤ wc.heap.size) : Fresh w w' R := fun W hs hW => h W (Nat.le_trans hk.1 hs) (fun j h1 h2 => (hW j (by omega) (by have := hk.1; omega)).trans (hk.2 j h1 h2))
section
variable {P : Program} {Q : Exit → Act → World → Prop}
theorem wpAnyH_threeL {L tl tl' tl2 : List Oper} {S : World → Prop} {i j k : Nat} {x y z : Oper} {fuel : Nat} {listed : Array Bool} {a : Act} {w : World} (hi : L.drop i = x :: tl) (hj : L.drop j = y :: tl') (hk : L.drop k = z :: tl2)
  (hr : Region.ready .any L.toArray listed = [i, j, k]) (hw : Region.wanted x (yielded L.toArray a.tmps) = true) (hw' : Region.wanted y (yielded L.toArray a.tmps) = true) (hw2 : Region.wanted z (yielded L.toArray a.tmps) = true)
  (h : ∀ K : Act → World → Prop, (∀ a' w', S w' → wpAnyH P .any L.toArray Q S fuel (listed.setIfInBounds i true) a' w' → K a' w') → x.wp P a w K Q)
  (h' : ∀ K : Act → World → Prop, (∀ a' w', S w' → wpAnyH P .any L.toArray Q S fuel (listed.setIfInBounds j true) a' w' → K a' w') → y.wp P a w K Q)
  (h2 : ∀ K : Act → World → Prop, (∀ a' w', S w' → wpAnyH P .any L.toArray Q S fuel (listed.setIfInBounds k true) a' w' → K a' w') → z.wp P a w K Q) : wpAnyH P .any L.toArray Q S (fuel + 1) listed a w := by
 refine wpAnyH_all hr (by simp) (fun l hl => ?_)
 rcases List.mem_cons.1 hl with rfl | hl
 ·unfold wpOp
  rw [at_of_drop hi]
  simp only
  rw [if_pos hw]
  exact .inl (h _ fun _ _ h1 h2 => ⟨h1, h2⟩)
 ·rcases List.mem_cons.1 hl with rfl | hl
  ·unfold wpOp
   rw [at_of_drop hj]
   simp only
   rw [if_pos hw']
   exact .inl (h' _ fun _ _ h1 h2 => ⟨h1, h2⟩)
  ·obtain rfl := List.mem_singleton.1 hl
   unfold wpOp
   rw [at_of_drop hk]
   simp only
   rw [if_pos hw2]
   exact .inl (h2 _ fun _ _ h1 h2 => ⟨h1, h2⟩)
end
theorem scrub_len {r : Sc} {m nx0 rd0 k : Nat} {all : List ByteArray} {a : List Dev} (hr : r = scrubN m all k ⟨a, nx0, rd0, 0, []⟩) (hp : Part a m all) (h16 : 16 ≤ m) (h64 : m ≤ 64) (h2 : m % 2 = 0) (hn : nx0 < m) (hk : k ≤ 64) : (sortI (ints r.gone)).length * 8 ≤ 140737488355328 := by
 have h := (scrub_bounds (s := ⟨a, nx0, rd0, 0, []⟩) hp h16 h64 h2 hn k).2.2.2.2.2
 rw [← hr] at h
 have e : (sortI (ints r.gone)).length = r.gone.length := by unfold sortI ints; rw [List.length_mergeSort, List.length_map]
 rw [e]
 have : r.gone.length ≤ k := by simpa using h
 omega
theorem scrub_low {m : Nat} {all : List ByteArray} {s : Sc} (hp : Part s.a m all) (h16 : 16 ≤ m) (h64 : m ≤ 64) (h2 : m % 2 = 0) (hn : s.next < m) (hg : ∀ x ∈ s.gone, x < m) (k : Nat) : ∀ x ∈ (scrubN m all k s).gone, x < m := by
 induction k with
 | zero => exact hg
 | succ k ih =>
  intro x hx
  have hx : x ∈ (scrub1 m all (scrubN m all k s)).gone := hx
  by_cases h : (arrReadS (scrubN m all k s).a (scrubN m all k s).next).2.2 = 0
  ·rw [(scrub1_ok h).2.2] at hx; exact ih x hx
  ·rw [(scrub1_lost h).2.2] at hx
   split at hx
   ·exact ih x hx
   ·rcases List.mem_append.1 hx with hx | hx
    ·exact ih x hx
    ·obtain rfl := List.mem_singleton.1 hx
     exact (scrub_bounds hp h16 h64 h2 hn k).2.1
theorem scrub_i64 {r : Sc} {m nx0 rd0 k : Nat} {all : List ByteArray} {a : List Dev} (hr : r = scrubN m all k ⟨a, nx0, rd0, 0, []⟩) (hp : Part a m all) (h16 : 16 ≤ m) (h64 : m ≤ 64) (h2 : m % 2 = 0) (hn : nx0 < m) {x : Int} (hx : x ∈ sortI (ints r.gone)) : I64 x := by
 have h := scrub_low (s := ⟨a, nx0, rd0, 0, []⟩) hp h16 h64 h2 hn (by intro x hx; cases hx) k
 rw [← hr] at h
 have hx : x ∈ ints r.gone := List.mem_mergeSort.1 hx
 obtain ⟨y, hy, rfl⟩ := List.mem_map.1 hx
 have := h y hy
 unfold I64
 omega
theorem act_scrub (gs : Nat) (A : Option Addr) (c : Nat) (a : List Dev) (nx rd : Int) (vf : Value) (nm : ByteArray) (d n at_ by_ : Int) (w : World) (hb : Blk_ w gs 123 #[.slice A 3 c, .int .i64 nx, .int .i64 rd]) (hr : RArr w [.slice A 3 c] a) (h3 : a.length = 3) (m nx0 rd0 k : Nat) (all : List ByteArray) (hnx : nx = (nx0 : Int)) (hrd : rd = (rd0 : Int)) (hnk : n = (k : Int)) (hp : Part a m all) (h16 : 16 ≤ m) (h64 : m ≤ 64) (h2 : m % 2 = 0) (hnm : nx0 < m) (hrr : rd0 ≤ 1000000) (hk : k ≤ 64) :
  Calls Tryz.prog 62 #[.pointer (some ⟨gs, 0, none⟩), .agg #[.int .i64 7, vf, .string nm, .int .i64 d, .int .i64 n, .int .i64 at_, .int .i64 by_]] w fun e w' => ∃ Vg r, r = scrubN m all k ⟨a, nx0, rd0, 0, []⟩ ∧ e = .returned (.agg #[.int .i64 0, .string .empty, .slice none 0 0, .int .i64 r.count, Vg]) ∧ Moves gs w w' r.a r.next r.rounds ∧ Fresh w w' (fun W => SlR 1 8 RInt W Vg (sortI (ints r.gone))) := by
 have HB := Lib.hid hb
 have HR := Lib.hid hr
 have H3 := Lib.hid h3
 subst hnx hrd hnk
 have HP := Lib.hid hp
 have HM := Lib.hid (And.intro h16 (And.intro h64 (And.intro h2 (And.intro hnm (And.intro hrr hk)))))
 clear hb hr h3 hp h16 h64 h2 hnm hrr hk
 have c0 := HB.out.cell 0
 have c1 := HB.out.cell 1
 have c2 := HB.out.cell 2
 simp at c0 c1 c2
 have l0 := HB.out.lt
 have l0a : gs < w.heap.size + 1 := by omega
 have l0b : gs < w.heap.size + 1 + 1 := by omega
 go_enter Tryz.func62, Tryz.ntmps62
 go_wp2_with fail
 refine wp_abs (fun W => Ext w W ∧ Blk_ W w.heap.size 39 #[.int .i64 7, vf, .string nm, .int .i64 d, .int .i64 (k : Int), .int .i64 at_, .int .i64 by_] ∧ Blk_ W (w.heap.size + 1) 46 #[.int .i64 0, .string .empty, .slice none 0 0, .int .i64 0, .slice none 0 0] ∧ Blk_ W (w.heap.size + 2) 46 #[.int .i64 0, .string .empty, .slice none 0 0, .int .i64 0, .slice none 0 0]) ⟨(((Ext.refl _).alloc _).alloc _).alloc _, ((Blk_.new _ _ _).alloc _).alloc _, (Blk_.new1 _ _ _ _).alloc _, Blk_.new2 _ _ _ _ _⟩ ?_
 rintro w1 ⟨hx1, hb3, hb4, hb5⟩
 obtain ⟨b3, e3⟩ : ∃ b, b = w.heap.size := ⟨_, rfl⟩
 obtain ⟨b4, e4⟩ : ∃ b, b = b3 + 1 := ⟨_, rfl⟩
 obtain ⟨b5, e5⟩ : ∃ b, b = b4 + 1 := ⟨_, rfl⟩
 rw [← e3, ← e4, ← e5]
 have hb4' : Blk_ w1 b4 46 #[.int .i64 0, .string .empty, .slice none 0 0, .int .i64 0, .slice none 0 0] := by rw [e4, e3]; exact hb4
 have hb5' : Blk_ w1 b5 46 #[.int .i64 0, .string .empty, .slice none 0 0, .int .i64 0, .slice none 0 0] := by rw [e5, e4, e3]; exact hb5
 rw [← e3] at hb3
 have HE := Lib.hid (show w.heap.size = b3 ∧ b4 = b3 + 1 ∧ b5 = b4 + 1 ∧ gs < b3 from ⟨e3.symm, e4, e5, by rw [e3]; exact l0⟩)
 have HX1 := Lib.hid hx1
 have B3 := Lib.hid hb3
 have B4 := Lib.hid hb4'
 have B5 := Lib.hid hb5'
 have HB1 := Lib.hid (HB.out.ext hx1)
 have HR1 := Lib.hid (HR.out.up hx1)
 clear hx1 hb3 hb4 hb5 hb4' hb5' e3 e4 e5 l0 l0a l0b c0 c1 c2
 have fgs0 := (HB1.out).cell 0
 have fgs1 := (HB1.out).cell 1
 have fgs2 := (HB1.out).cell 2
 simp at fgs0 fgs1 fgs2
 have fb34 := (B3.out).cell 4
 simp at fb34
 have hne45 : ¬ (b4 = b5) := by have := HE.out; omega
 have hne54 : ¬ (b5 = b4) := by have := HE.out; omega
 have hneg4 : ¬ (gs = b4) := by have := HE.out; omega
 have hneg5 : ¬ (gs = b5) := by have := HE.out; omega
 have hne4g : ¬ (b4 = gs) := by have := HE.out; omega
 have hne5g : ¬ (b5 = gs) := by have := HE.out; omega
 refine wp_region_all (S := fun W' => W'.cell? ⟨gs, 0, none⟩ = some (.slice A 3 c) ∧ W'.cell? ⟨gs, 1, none⟩ = some (.int .i64 (nx0 : Int)) ∧ W'.cell? ⟨gs, 2, none⟩ = some (.int .i64 (rd0 : Int)) ∧ W'.cell? ⟨b3, 4, none⟩ = some (.int .i64 (k : Int))) (by kernel_rfl) ?_
 have hS0 : (fun W' => W'.cell? ⟨gs, 0, none⟩ = some (.slice A 3 c) ∧ W'.cell? ⟨gs, 1, none⟩ = some (.int .i64 (nx0 : Int)) ∧ W'.cell? ⟨gs, 2, none⟩ = some (.int .i64 (rd0 : Int)) ∧ W'.cell? ⟨b3, 4, none⟩ = some (.int .i64 (k : Int))) w1.drew := ⟨fgs0, fgs1, fgs2, fb34⟩
 refine tkL 0 rfl (fun w' hS => by obtain ⟨hS, hS2', hS3', hS4'⟩ := hS; go_simp; rfl) hS0 ?_
 refine tkL 1 rfl (fun w' hS => by obtain ⟨hS, hS2', hS3', hS4'⟩ := hS; go_simp; rfl) hS0 ?_
 refine tkL 2 rfl (fun w' hS => by obtain ⟨hS, hS2', hS3', hS4'⟩ := hS; go_simp; rfl) hS0 ?_
 try simp only [Act.put, List.setIfInBounds_toArray, List.set_cons_zero, List.set_cons_succ]
 refine tkL 3 rfl (fun w' hS => by obtain ⟨hS, hS2', hS3', hS4'⟩ := hS; go_simp; rfl) hS0 ?_
 refine tkL 4 rfl (fun w' hS => by obtain ⟨hS, hS2', hS3', hS4'⟩ := hS; go_simp; rfl) hS0 ?_
 refine tkL 5 rfl (fun w' hS => by obtain ⟨hS, hS2', hS3', hS4'⟩ := hS; go_simp; rfl) hS0 ?_
 try simp only [Act.put, List.setIfInBounds_toArray, List.set_cons_zero, List.set_cons_succ]
 refine tkL 6 rfl (fun w' hS => by obtain ⟨hS, hS2', hS3', hS4'⟩ := hS; go_simp; rfl) hS0 ?_
 refine tkL 7 rfl (fun w' hS => by obtain ⟨hS, hS2', hS3', hS4'⟩ := hS; go_simp; rfl) hS0 ?_
 refine tkL 8 rfl (fun w' hS => by obtain ⟨hS, hS2', hS3', hS4'⟩ := hS; go_simp; rfl) hS0 ?_
 try simp only [Act.put, List.setIfInBounds_toArray, List.set_cons_zero, List.set_cons_succ]
 refine tkL 9 rfl (fun w' hS => by obtain ⟨hS, hS2', hS3', hS4'⟩ := hS; go_simp; rfl) hS0 ?_
 try simp only [Act.put, List.setIfInBounds_toArray, List.set_cons_zero, List.set_cons_succ]
 refine anyH_abs (fun W => Ext w1 W) ((Ext.refl w1).drew) ?_
 rintro wp hxp
 refine wpAnyH_threeL (i := 10) (j := 17) (k := 18) rfl rfl rfl (by kernel_rfl) rfl rfl rfl (fun K hK => ?_) (fun K hK => ?_) (fun K hK => ?_)
 focus
  go_wp2_with fail
  refine (scrubStep_any [.slice A 3 c] a m nx0 rd0 k all wp (HR1.out.up hxp) HP.out HM.out.1 HM.out.2.1 HM.out.2.2.1 HM.out.2.2.2.1 HM.out.2.2.2.2.1 HM.out.2.2.2.2.2).mono ?_
  rintro e wS ⟨A', c', Ag, cg, r, hrr, rfl, hxS, hoS, hr3, hzS⟩
  refine hK _ _ ⟨(hxp.trans hxS).cell fgs0, (hxp.trans hxS).cell fgs1, (hxp.trans hxS).cell fgs2, (hxp.trans hxS).cell fb34⟩ ?_
  clear hK K
  try simp only [Act.put, List.setIfInBounds_toArray, List.set_cons_zero, List.set_cons_succ]
  have HOS := Lib.hid hoS
  have HZS := Lib.hid hzS
  have HRR := Lib.hid (And.intro hrr hr3)
  obtain ⟨wc, hwc⟩ : ∃ W, W = wp := ⟨_, rfl⟩
  rw [← hwc] at HOS HZS
  have hlc : w1.heap.size ≤ wc.heap.size := by rw [hwc]; exact hxp.size
  refine anyH_abs (fun W => Ext w1 W ∧ Keep wc wS W) ⟨hxp.trans hxS, ⟨Nat.le_refl _, fun _ _ _ => rfl⟩⟩ ?_
  clear hxp hxS hoS hzS hrr hr3 hwc
  rintro wp ⟨hxp, hkp⟩
  have hS1 : (fun W' => W'.cell? ⟨gs, 0, none⟩ = some (.slice A 3 c) ∧ W'.cell? ⟨gs, 1, none⟩ = some (.int .i64 (nx0 : Int)) ∧ W'.cell? ⟨gs, 2, none⟩ = some (.int .i64 (rd0 : Int)) ∧ W'.cell? ⟨b3, 4, none⟩ = some (.int .i64 (k : Int))) wp := ⟨(hxp).cell fgs0, (hxp).cell fgs1, (hxp).cell fgs2, (hxp).cell fb34⟩
  refine tkL 11 rfl (fun w' hS => by obtain ⟨hS, hS2', hS3', hS4'⟩ := hS; go_simp; rfl) hS1 ?_
  refine tkL 12 rfl (fun w' hS => by obtain ⟨hS, hS2', hS3', hS4'⟩ := hS; go_simp; rfl) hS1 ?_
  refine tkL 13 rfl (fun w' hS => by obtain ⟨hS, hS2', hS3', hS4'⟩ := hS; go_simp; rfl) hS1 ?_
  try simp only [Act.put, List.setIfInBounds_toArray, List.set_cons_zero, List.set_cons_succ]
  refine tkL 14 rfl (fun w' hS => by obtain ⟨hS, hS2', hS3', hS4'⟩ := hS; go_simp; rfl) hS1 ?_
  refine tkL 15 rfl (fun w' hS => by obtain ⟨hS, hS2', hS3', hS4'⟩ := hS; go_simp; rfl) hS1 ?_
  refine tkL 16 rfl (fun w' hS => by obtain ⟨hS, hS2', hS3', hS4'⟩ := hS; go_simp; rfl) hS1 ?_
  try simp only [Act.put, List.setIfInBounds_toArray, List.set_cons_zero, List.set_cons_succ]
  clear hS1
  refine wpAnyH_twoL (i := 17) (j := 18) rfl rfl (by kernel_rfl) rfl rfl (fun K hK => ?_) (fun K hK => ?_)
  focus
   go_wp2_with fail
   refine hK _ _ ⟨(hxp.alloc _).cell fgs0, (hxp.alloc _).cell fgs1, (hxp.alloc _).cell fgs2, (hxp.alloc _).cell fb34⟩ ?_
   clear hK K
   try simp only [Act.put, List.setIfInBounds_toArray, List.set_cons_zero, List.set_cons_succ]
   obtain ⟨b10, hbb10⟩ : ∃ b, b = wp.heap.size := ⟨_, rfl⟩
   rw [← hbb10]
   have hlb10 : w1.heap.size ≤ b10 := by rw [hbb10]; exact hxp.size
   have hsb10 : b10 < wc.heap.size ∨ wS.heap.size ≤ b10 := .inr (by rw [hbb10]; exact hkp.1)
   refine anyH_abs (fun W => Ext w1 W ∧ Keep wc wS W ∧ Blk_ W b10 30 #[.slice none 0 0]) ⟨hxp.alloc _, hkp.up ((Ext.refl _).alloc _), by rw [hbb10]; exact Blk_.new _ _ _⟩ ?_
   clear hxp hbb10 hkp
   rintro wp ⟨hxp, hkp, h10⟩
   refine wpAnyH_oneL (i := 18) rfl (by kernel_rfl) rfl (fun K hK => ?_)
   go_wp2_with fail
   refine hK _ _ ⟨(hxp.alloc _).cell fgs0, (hxp.alloc _).cell fgs1, (hxp.alloc _).cell fgs2, (hxp.alloc _).cell fb34⟩ ?_
   clear hK K
   try simp only [Act.put, List.setIfInBounds_toArray, List.set_cons_zero, List.set_cons_succ]
   obtain ⟨b11, hbb11⟩ : ∃ b, b = wp.heap.size := ⟨_, rfl⟩
   rw [← hbb11]
   have hlb11 : w1.heap.size ≤ b11 := by rw [hbb11]; exact hxp.size
   have hsb11 : b11 < wc.heap.size ∨ wS.heap.size ≤ b11 := .inr (by rw [hbb11]; exact hkp.1)
   have hnb : b10 ≠ b11 := by have := h10.lt; omega
   refine anyH_abs (fun W => Ext w1 W ∧ Keep wc wS W ∧ Blk_ W b10 30 #[.slice none 0 0] ∧ Blk_ W b11 121 #[.int .i64 0, .int .i64 0]) ⟨hxp.alloc _, hkp.up ((Ext.refl _).alloc _), h10.alloc _, by rw [hbb11]; exact Blk_.new _ _ _⟩ ?_
   clear hxp hbb11 hkp h10
   rintro wp ⟨hxp, hkp, h10, h11⟩
  rotate_left
  focus
   go_wp2_with fail
   refine hK _ _ ⟨(hxp.alloc _).cell fgs0, (hxp.alloc _).cell fgs1, (hxp.alloc _).cell fgs2, (hxp.alloc _).cell fb34⟩ ?_
   clear hK K
   try simp only [Act.put, List.setIfInBounds_toArray, List.set_cons_zero, List.set_cons_succ]
   obtain ⟨b11, hbb11⟩ : ∃ b, b = wp.heap.size := ⟨_, rfl⟩
   rw [← hbb11]
   have hlb11 : w1.heap.size ≤ b11 := by rw [hbb11]; exact hxp.size
   have hsb11 : b11 < wc.heap.size ∨ wS.heap.size ≤ b11 := .inr (by rw [hbb11]; exact hkp.1)
   refine anyH_abs (fun W => Ext w1 W ∧ Keep wc wS W ∧ Blk_ W b11 121 #[.int .i64 0, .int .i64 0]) ⟨hxp.alloc _, hkp.up ((Ext.refl _).alloc _), by rw [hbb11]; exact Blk_.new _ _ _⟩ ?_
   clear hxp hbb11 hkp
   rintro wp ⟨hxp, hkp, h11⟩
   refine wpAnyH_oneL (i := 17) rfl (by kernel_rfl) rfl (fun K hK => ?_)
   go_wp2_with fail
   refine hK _ _ ⟨(hxp.alloc _).cell fgs0, (hxp.alloc _).cell fgs1, (hxp.alloc _).cell fgs2, (hxp.alloc _).cell fb34⟩ ?_
   clear hK K
   try simp only [Act.put, List.setIfInBounds_toArray, List.set_cons_zero, List.set_cons_succ]
   obtain ⟨b10, hbb10⟩ : ∃ b, b = wp.heap.size := ⟨_, rfl⟩
   rw [← hbb10]
   have hlb10 : w1.heap.size ≤ b10 := by rw [hbb10]; exact hxp.size
   have hsb10 : b10 < wc.heap.size ∨ wS.heap.size ≤ b10 := .inr (by rw [hbb10]; exact hkp.1)
   have hnb : b10 ≠ b11 := by have := h11.lt; omega
   refine anyH_abs (fun W => Ext w1 W ∧ Keep wc wS W ∧ Blk_ W b11 121 #[.int .i64 0, .int .i64 0] ∧ Blk_ W b10 30 #[.slice none 0 0]) ⟨hxp.alloc _, hkp.up ((Ext.refl _).alloc _), h11.alloc _, by rw [hbb10]; exact Blk_.new _ _ _⟩ ?_
   clear hxp hbb10 hkp h11
   rintro wp ⟨hxp, hkp, h11, h10⟩
  rotate_left
 rotate_left 2
 focus
  go_wp2_with fail
  refine hK _ _ ⟨(hxp.alloc _).cell fgs0, (hxp.alloc _).cell fgs1, (hxp.alloc _).cell fgs2, (hxp.alloc _).cell fb34⟩ ?_
  clear hK K
  try simp only [Act.put, List.setIfInBounds_toArray, List.set_cons_zero, List.set_cons_succ]
  obtain ⟨b10, hbb10⟩ : ∃ b, b = wp.heap.size := ⟨_, rfl⟩
  rw [← hbb10]
  have hlb10 : w1.heap.size ≤ b10 := by rw [hbb10]; exact hxp.size
  refine anyH_abs (fun W => Ext w1 W ∧ Blk_ W b10 30 #[.slice none 0 0]) ⟨hxp.alloc _, by rw [hbb10]; exact Blk_.new _ _ _⟩ ?_
  clear hxp hbb10
  rintro wp ⟨hxp, h10⟩
  refine wpAnyH_twoL (i := 10) (j := 18) rfl rfl (by kernel_rfl) rfl rfl (fun K hK => ?_) (fun K hK => ?_)
  focus
   go_wp2_with fail
   refine (scrubStep_any [.slice A 3 c] a m nx0 rd0 k all wp (HR1.out.up hxp) HP.out HM.out.1 HM.out.2.1 HM.out.2.2.1 HM.out.2.2.2.1 HM.out.2.2.2.2.1 HM.out.2.2.2.2.2).mono ?_
   rintro e wS ⟨A', c', Ag, cg, r, hrr, rfl, hxS, hoS, hr3, hzS⟩
   refine hK _ _ ⟨(hxp.trans hxS).cell fgs0, (hxp.trans hxS).cell fgs1, (hxp.trans hxS).cell fgs2, (hxp.trans hxS).cell fb34⟩ ?_
   clear hK K
   try simp only [Act.put, List.setIfInBounds_toArray, List.set_cons_zero, List.set_cons_succ]
   have HOS := Lib.hid hoS
   have HZS := Lib.hid hzS
   have HRR := Lib.hid (And.intro hrr hr3)
   obtain ⟨wc, hwc⟩ : ∃ W, W = wp := ⟨_, rfl⟩
   rw [← hwc] at HOS HZS
   have hlc : w1.heap.size ≤ wc.heap.size := by rw [hwc]; exact hxp.size
   have hsb10 : b10 < wc.heap.size ∨ wS.heap.size ≤ b10 := .inl (by rw [hwc]; exact h10.lt)
   refine anyH_abs (fun W => Ext w1 W ∧ Blk_ W b10 30 #[.slice none 0 0] ∧ Keep wc wS W) ⟨hxp.trans hxS, h10.ext hxS, ⟨Nat.le_refl _, fun _ _ _ => rfl⟩⟩ ?_
   clear hxp hxS hoS hzS hrr hr3 hwc h10
   rintro wp ⟨hxp, h10, hkp⟩
   have hS1 : (fun W' => W'.cell? ⟨gs, 0, none⟩ = some (.slice A 3 c) ∧ W'.cell? ⟨gs, 1, none⟩ = some (.int .i64 (nx0 : Int)) ∧ W'.cell? ⟨gs, 2, none⟩ = some (.int .i64 (rd0 : Int)) ∧ W'.cell? ⟨b3, 4, none⟩ = some (.int .i64 (k : Int))) wp := ⟨(hxp).cell fgs0, (hxp).cell fgs1, (hxp).cell fgs2, (hxp).cell fb34⟩
   refine tkL 11 rfl (fun w' hS => by obtain ⟨hS, hS2', hS3', hS4'⟩ := hS; go_simp; rfl) hS1 ?_
   refine tkL 12 rfl (fun w' hS => by obtain ⟨hS, hS2', hS3', hS4'⟩ := hS; go_simp; rfl) hS1 ?_
   refine tkL 13 rfl (fun w' hS => by obtain ⟨hS, hS2', hS3', hS4'⟩ := hS; go_simp; rfl) hS1 ?_
   try simp only [Act.put, List.setIfInBounds_toArray, List.set_cons_zero, List.set_cons_succ]
   refine tkL 14 rfl (fun w' hS => by obtain ⟨hS, hS2', hS3', hS4'⟩ := hS; go_simp; rfl) hS1 ?_
   refine tkL 15 rfl (fun w' hS => by obtain ⟨hS, hS2', hS3', hS4'⟩ := hS; go_simp; rfl) hS1 ?_
   refine tkL 16 rfl (fun w' hS => by obtain ⟨hS, hS2', hS3', hS4'⟩ := hS; go_simp; rfl) hS1 ?_
   try simp only [Act.put, List.setIfInBounds_toArray, List.set_cons_zero, List.set_cons_succ]
   clear hS1
   refine wpAnyH_oneL (i := 18) rfl (by kernel_rfl) rfl (fun K hK => ?_)
   go_wp2_with fail
   refine hK _ _ ⟨(hxp.alloc _).cell fgs0, (hxp.alloc _).cell fgs1, (hxp.alloc _).cell fgs2, (hxp.alloc _).cell fb34⟩ ?_
   clear hK K
   try simp only [Act.put, List.setIfInBounds_toArray, List.set_cons_zero, List.set_cons_succ]
   obtain ⟨b11, hbb11⟩ : ∃ b, b = wp.heap.size := ⟨_, rfl⟩
   rw [← hbb11]
   have hlb11 : w1.heap.size ≤ b11 := by rw [hbb11]; exact hxp.size
   have hsb11 : b11 < wc.heap.size ∨ wS.heap.size ≤ b11 := .inr (by rw [hbb11]; exact hkp.1)
   have hnb : b10 ≠ b11 := by have := h10.lt; omega
   refine anyH_abs (fun W => Ext w1 W ∧ Blk_ W b10 30 #[.slice none 0 0] ∧ Keep wc wS W ∧ Blk_ W b11 121 #[.int .i64 0, .int .i64 0]) ⟨hxp.alloc _, h10.alloc _, hkp.up ((Ext.refl _).alloc _), by rw [hbb11]; exact Blk_.new _ _ _⟩ ?_
   clear hxp hbb11 h10 hkp
   rintro wp ⟨hxp, h10, hkp, h11⟩
  rotate_left
  focus
   go_wp2_with fail
   refine hK _ _ ⟨(hxp.alloc _).cell fgs0, (hxp.alloc _).cell fgs1, (hxp.alloc _).cell fgs2, (hxp.alloc _).cell fb34⟩ ?_
   clear hK K
   try simp only [Act.put, List.setIfInBounds_toArray, List.set_cons_zero, List.set_cons_succ]
   obtain ⟨b11, hbb11⟩ : ∃ b, b = wp.heap.size := ⟨_, rfl⟩
   rw [← hbb11]
   have hlb11 : w1.heap.size ≤ b11 := by rw [hbb11]; exact hxp.size
   have hnb : b10 ≠ b11 := by have := h10.lt; omega
   refine anyH_abs (fun W => Ext w1 W ∧ Blk_ W b10 30 #[.slice none 0 0] ∧ Blk_ W b11 121 #[.int .i64 0, .int .i64 0]) ⟨hxp.alloc _, h10.alloc _, by rw [hbb11]; exact Blk_.new _ _ _⟩ ?_
   clear hxp hbb11 h10
   rintro wp ⟨hxp, h10, h11⟩
   refine wpAnyH_oneL (i := 10) rfl (by kernel_rfl) rfl (fun K hK => ?_)
   go_wp2_with fail
   refine (scrubStep_any [.slice A 3 c] a m nx0 rd0 k all wp (HR1.out.up hxp) HP.out HM.out.1 HM.out.2.1 HM.out.2.2.1 HM.out.2.2.2.1 HM.out.2.2.2.2.1 HM.out.2.2.2.2.2).mono ?_
   rintro e wS ⟨A', c', Ag, cg, r, hrr, rfl, hxS, hoS, hr3, hzS⟩
   refine hK _ _ ⟨(hxp.trans hxS).cell fgs0, (hxp.trans hxS).cell fgs1, (hxp.trans hxS).cell fgs2, (hxp.trans hxS).cell fb34⟩ ?_
   clear hK K
   try simp only [Act.put, List.setIfInBounds_toArray, List.set_cons_zero, List.set_cons_succ]
   have HOS := Lib.hid hoS
   have HZS := Lib.hid hzS
   have HRR := Lib.hid (And.intro hrr hr3)
   obtain ⟨wc, hwc⟩ : ∃ W, W = wp := ⟨_, rfl⟩
   rw [← hwc] at HOS HZS
   have hlc : w1.heap.size ≤ wc.heap.size := by rw [hwc]; exact hxp.size
   have hsb10 : b10 < wc.heap.size ∨ wS.heap.size ≤ b10 := .inl (by rw [hwc]; exact h10.lt)
   have hsb11 : b11 < wc.heap.size ∨ wS.heap.size ≤ b11 := .inl (by rw [hwc]; exact h11.lt)
   refine anyH_abs (fun W => Ext w1 W ∧ Blk_ W b10 30 #[.slice none 0 0] ∧ Blk_ W b11 121 #[.int .i64 0, .int .i64 0] ∧ Keep wc wS W) ⟨hxp.trans hxS, h10.ext hxS, h11.ext hxS, ⟨Nat.le_refl _, fun _ _ _ => rfl⟩⟩ ?_
   clear hxp hxS hoS hzS hrr hr3 hwc h10 h11
   rintro wp ⟨hxp, h10, h11, hkp⟩
   have hS1 : (fun W' => W'.cell? ⟨gs, 0, none⟩ = some (.slice A 3 c) ∧ W'.cell? ⟨gs, 1, none⟩ = some (.int .i64 (nx0 : Int)) ∧ W'.cell? ⟨gs, 2, none⟩ = some (.int .i64 (rd0 : Int)) ∧ W'.cell? ⟨b3, 4, none⟩ = some (.int .i64 (k : Int))) wp := ⟨(hxp).cell fgs0, (hxp).cell fgs1, (hxp).cell fgs2, (hxp).cell fb34⟩
   refine tkL 11 rfl (fun w' hS => by obtain ⟨hS, hS2', hS3', hS4'⟩ := hS; go_simp; rfl) hS1 ?_
   refine tkL 12 rfl (fun w' hS => by obtain ⟨hS, hS2', hS3', hS4'⟩ := hS; go_simp; rfl) hS1 ?_
   refine tkL 13 rfl (fun w' hS => by obtain ⟨hS, hS2', hS3', hS4'⟩ := hS; go_simp; rfl) hS1 ?_
   try simp only [Act.put, List.setIfInBounds_toArray, List.set_cons_zero, List.set_cons_succ]
   refine tkL 14 rfl (fun w' hS => by obtain ⟨hS, hS2', hS3', hS4'⟩ := hS; go_simp; rfl) hS1 ?_
   refine tkL 15 rfl (fun w' hS => by obtain ⟨hS, hS2', hS3', hS4'⟩ := hS; go_simp; rfl) hS1 ?_
   refine tkL 16 rfl (fun w' hS => by obtain ⟨hS, hS2', hS3', hS4'⟩ := hS; go_simp; rfl) hS1 ?_
   try simp only [Act.put, List.setIfInBounds_toArray, List.set_cons_zero, List.set_cons_succ]
   clear hS1
  rotate_left
 rotate_left 2
 focus
  go_wp2_with fail
  refine hK _ _ ⟨(hxp.alloc _).cell fgs0, (hxp.alloc _).cell fgs1, (hxp.alloc _).cell fgs2, (hxp.alloc _).cell fb34⟩ ?_
  clear hK K
  try simp only [Act.put, List.setIfInBounds_toArray, List.set_cons_zero, List.set_cons_succ]
  obtain ⟨b11, hbb11⟩ : ∃ b, b = wp.heap.size := ⟨_, rfl⟩
  rw [← hbb11]
  have hlb11 : w1.heap.size ≤ b11 := by rw [hbb11]; exact hxp.size
  refine anyH_abs (fun W => Ext w1 W ∧ Blk_ W b11 121 #[.int .i64 0, .int .i64 0]) ⟨hxp.alloc _, by rw [hbb11]; exact Blk_.new _ _ _⟩ ?_
  clear hxp hbb11
  rintro wp ⟨hxp, h11⟩
  refine wpAnyH_twoL (i := 10) (j := 17) rfl rfl (by kernel_rfl) rfl rfl (fun K hK => ?_) (fun K hK => ?_)
  focus
   go_wp2_with fail
   refine (scrubStep_any [.slice A 3 c] a m nx0 rd0 k all wp (HR1.out.up hxp) HP.out HM.out.1 HM.out.2.1 HM.out.2.2.1 HM.out.2.2.2.1 HM.out.2.2.2.2.1 HM.out.2.2.2.2.2).mono ?_
   rintro e wS ⟨A', c', Ag, cg, r, hrr, rfl, hxS, hoS, hr3, hzS⟩
   refine hK _ _ ⟨(hxp.trans hxS).cell fgs0, (hxp.trans hxS).cell fgs1, (hxp.trans hxS).cell fgs2, (hxp.trans hxS).cell fb34⟩ ?_
   clear hK K
   try simp only [Act.put, List.setIfInBounds_toArray, List.set_cons_zero, List.set_cons_succ]
   have HOS := Lib.hid hoS
   have HZS := Lib.hid hzS
   have HRR := Lib.hid (And.intro hrr hr3)
   obtain ⟨wc, hwc⟩ : ∃ W, W = wp := ⟨_, rfl⟩
   rw [← hwc] at HOS HZS
   have hlc : w1.heap.size ≤ wc.heap.size := by rw [hwc]; exact hxp.size
   have hsb11 : b11 < wc.heap.size ∨ wS.heap.size ≤ b11 := .inl (by rw [hwc]; exact h11.lt)
   refine anyH_abs (fun W => Ext w1 W ∧ Blk_ W b11 121 #[.int .i64 0, .int .i64 0] ∧ Keep wc wS W) ⟨hxp.trans hxS, h11.ext hxS, ⟨Nat.le_refl _, fun _ _ _ => rfl⟩⟩ ?_
   clear hxp hxS hoS hzS hrr hr3 hwc h11
   rintro wp ⟨hxp, h11, hkp⟩
   have hS1 : (fun W' => W'.cell? ⟨gs, 0, none⟩ = some (.slice A 3 c) ∧ W'.cell? ⟨gs, 1, none⟩ = some (.int .i64 (nx0 : Int)) ∧ W'.cell? ⟨gs, 2, none⟩ = some (.int .i64 (rd0 : Int)) ∧ W'.cell? ⟨b3, 4, none⟩ = some (.int .i64 (k : Int))) wp := ⟨(hxp).cell fgs0, (hxp).cell fgs1, (hxp).cell fgs2, (hxp).cell fb34⟩
   refine tkL 11 rfl (fun w' hS => by obtain ⟨hS, hS2', hS3', hS4'⟩ := hS; go_simp; rfl) hS1 ?_
   refine tkL 12 rfl (fun w' hS => by obtain ⟨hS, hS2', hS3', hS4'⟩ := hS; go_simp; rfl) hS1 ?_
   refine tkL 13 rfl (fun w' hS => by obtain ⟨hS, hS2', hS3', hS4'⟩ := hS; go_simp; rfl) hS1 ?_
   try simp only [Act.put, List.setIfInBounds_toArray, List.set_cons_zero, List.set_cons_succ]
   refine tkL 14 rfl (fun w' hS => by obtain ⟨hS, hS2', hS3', hS4'⟩ := hS; go_simp; rfl) hS1 ?_
   refine tkL 15 rfl (fun w' hS => by obtain ⟨hS, hS2', hS3', hS4'⟩ := hS; go_simp; rfl) hS1 ?_
   refine tkL 16 rfl (fun w' hS => by obtain ⟨hS, hS2', hS3', hS4'⟩ := hS; go_simp; rfl) hS1 ?_
   try simp only [Act.put, List.setIfInBounds_toArray, List.set_cons_zero, List.set_cons_succ]
   clear hS1
   refine wpAnyH_oneL (i := 17) rfl (by kernel_rfl) rfl (fun K hK => ?_)
   go_wp2_with fail
   refine hK _ _ ⟨(hxp.alloc _).cell fgs0, (hxp.alloc _).cell fgs1, (hxp.alloc _).cell fgs2, (hxp.alloc _).cell fb34⟩ ?_
   clear hK K
   try simp only [Act.put, List.setIfInBounds_toArray, List.set_cons_zero, List.set_cons_succ]
   obtain ⟨b10, hbb10⟩ : ∃ b, b = wp.heap.size := ⟨_, rfl⟩
   rw [← hbb10]
   have hlb10 : w1.heap.size ≤ b10 := by rw [hbb10]; exact hxp.size
   have hsb10 : b10 < wc.heap.size ∨ wS.heap.size ≤ b10 := .inr (by rw [hbb10]; exact hkp.1)
   have hnb : b10 ≠ b11 := by have := h11.lt; omega
   refine anyH_abs (fun W => Ext w1 W ∧ Blk_ W b11 121 #[.int .i64 0, .int .i64 0] ∧ Keep wc wS W ∧ Blk_ W b10 30 #[.slice none 0 0]) ⟨hxp.alloc _, h11.alloc _, hkp.up ((Ext.refl _).alloc _), by rw [hbb10]; exact Blk_.new _ _ _⟩ ?_
   clear hxp hbb10 h11 hkp
   rintro wp ⟨hxp, h11, hkp, h10⟩
  rotate_left
  focus
   go_wp2_with fail
   refine hK _ _ ⟨(hxp.alloc _).cell fgs0, (hxp.alloc _).cell fgs1, (hxp.alloc _).cell fgs2, (hxp.alloc _).cell fb34⟩ ?_
   clear hK K
   try simp only [Act.put, List.setIfInBounds_toArray, List.set_cons_zero, List.set_cons_succ]
   obtain ⟨b10, hbb10⟩ : ∃ b, b = wp.heap.size := ⟨_, rfl⟩
   rw [← hbb10]
   have hlb10 : w1.heap.size ≤ b10 := by rw [hbb10]; exact hxp.size
   have hnb : b10 ≠ b11 := by have := h11.lt; omega
   refine anyH_abs (fun W => Ext w1 W ∧ Blk_ W b11 121 #[.int .i64 0, .int .i64 0] ∧ Blk_ W b10 30 #[.slice none 0 0]) ⟨hxp.alloc _, h11.alloc _, by rw [hbb10]; exact Blk_.new _ _ _⟩ ?_
   clear hxp hbb10 h11
   rintro wp ⟨hxp, h11, h10⟩
   refine wpAnyH_oneL (i := 10) rfl (by kernel_rfl) rfl (fun K hK => ?_)
   go_wp2_with fail
   refine (scrubStep_any [.slice A 3 c] a m nx0 rd0 k all wp (HR1.out.up hxp) HP.out HM.out.1 HM.out.2.1 HM.out.2.2.1 HM.out.2.2.2.1 HM.out.2.2.2.2.1 HM.out.2.2.2.2.2).mono ?_
   rintro e wS ⟨A', c', Ag, cg, r, hrr, rfl, hxS, hoS, hr3, hzS⟩
   refine hK _ _ ⟨(hxp.trans hxS).cell fgs0, (hxp.trans hxS).cell fgs1, (hxp.trans hxS).cell fgs2, (hxp.trans hxS).cell fb34⟩ ?_
   clear hK K
   try simp only [Act.put, List.setIfInBounds_toArray, List.set_cons_zero, List.set_cons_succ]
   have HOS := Lib.hid hoS
   have HZS := Lib.hid hzS
   have HRR := Lib.hid (And.intro hrr hr3)
   obtain ⟨wc, hwc⟩ : ∃ W, W = wp := ⟨_, rfl⟩
   rw [← hwc] at HOS HZS
   have hlc : w1.heap.size ≤ wc.heap.size := by rw [hwc]; exact hxp.size
   have hsb11 : b11 < wc.heap.size ∨ wS.heap.size ≤ b11 := .inl (by rw [hwc]; exact h11.lt)
   have hsb10 : b10 < wc.heap.size ∨ wS.heap.size ≤ b10 := .inl (by rw [hwc]; exact h10.lt)
   refine anyH_abs (fun W => Ext w1 W ∧ Blk_ W b11 121 #[.int .i64 0, .int .i64 0] ∧ Blk_ W b10 30 #[.slice none 0 0] ∧ Keep wc wS W) ⟨hxp.trans hxS, h11.ext hxS, h10.ext hxS, ⟨Nat.le_refl _, fun _ _ _ => rfl⟩⟩ ?_
   clear hxp hxS hoS hzS hrr hr3 hwc h11 h10
   rintro wp ⟨hxp, h11, h10, hkp⟩
   have hS1 : (fun W' => W'.cell? ⟨gs, 0, none⟩ = some (.slice A 3 c) ∧ W'.cell? ⟨gs, 1, none⟩ = some (.int .i64 (nx0 : Int)) ∧ W'.cell? ⟨gs, 2, none⟩ = some (.int .i64 (rd0 : Int)) ∧ W'.cell? ⟨b3, 4, none⟩ = some (.int .i64 (k : Int))) wp := ⟨(hxp).cell fgs0, (hxp).cell fgs1, (hxp).cell fgs2, (hxp).cell fb34⟩
   refine tkL 11 rfl (fun w' hS => by obtain ⟨hS, hS2', hS3', hS4'⟩ := hS; go_simp; rfl) hS1 ?_
   refine tkL 12 rfl (fun w' hS => by obtain ⟨hS, hS2', hS3', hS4'⟩ := hS; go_simp; rfl) hS1 ?_
   refine tkL 13 rfl (fun w' hS => by obtain ⟨hS, hS2', hS3', hS4'⟩ := hS; go_simp; rfl) hS1 ?_
   try simp only [Act.put, List.setIfInBounds_toArray, List.set_cons_zero, List.set_cons_succ]
   refine tkL 14 rfl (fun w' hS => by obtain ⟨hS, hS2', hS3', hS4'⟩ := hS; go_simp; rfl) hS1 ?_
   refine tkL 15 rfl (fun w' hS => by obtain ⟨hS, hS2', hS3', hS4'⟩ := hS; go_simp; rfl) hS1 ?_
   refine tkL 16 rfl (fun w' hS => by obtain ⟨hS, hS2', hS3', hS4'⟩ := hS; go_simp; rfl) hS1 ?_
   try simp only [Act.put, List.setIfInBounds_toArray, List.set_cons_zero, List.set_cons_succ]
   clear hS1
  rotate_left
 rotate_left 2
 all_goals
  have f10 := h10.cell 0
  have z10 := h10.frozen 0
  have l10 := h10.lt
  simp at f10
  refine wpAnyH_oneL (i := 19) rfl (by kernel_rfl) rfl (fun K hK => ?_)
  go_wp2_with fail
  have hxq := hxp.setCell (p := ⟨b10, 0, none⟩) hlb10 (.slice A' 3 c')
  refine hK _ _ ⟨(hxq).cell fgs0, (hxq).cell fgs1, (hxq).cell fgs2, (hxq).cell fb34⟩ ?_
  clear hK K
  try simp only [Act.put, List.setIfInBounds_toArray, List.set_cons_zero, List.set_cons_succ]
  refine anyH_abs (fun W => Ext w1 W ∧ Keep wc wS W ∧ Blk_ W b10 30 #[.slice A' 3 c'] ∧ Blk_ W b11 121 #[.int .i64 0, .int .i64 0]) ⟨hxq, hkp.off (p := ⟨b10, 0, none⟩) hsb10 _, h10.set 0 _, h11.far (p := ⟨b10, 0, none⟩) (fun e => hnb (by simpa using e.symm)) _⟩ ?_
  clear hxp hkp h10 h11 hxq f10 z10 l10
  rintro wq ⟨hxp, hkp, h10, h11⟩
  have f11 := h11.cell 0
  have f11' := h11.cell 1
  have z11 := h11.frozen 0
  have z11' := h11.frozen 1
  have l11 := h11.lt
  simp at f11 f11'
  refine wpAnyH_oneL (i := 20) rfl (by kernel_rfl) rfl (fun K hK => ?_)
  go_wp2_with fail
  have hxq := (hxp.setCell (p := ⟨b11, 0, none⟩) hlb11 (.int .i64 r.next)).setCell (p := ⟨b11, 1, none⟩) hlb11 (.int .i64 r.rounds)
  refine hK _ _ ⟨(hxq).cell fgs0, (hxq).cell fgs1, (hxq).cell fgs2, (hxq).cell fb34⟩ ?_
  clear hK K
  try simp only [Act.put, List.setIfInBounds_toArray, List.set_cons_zero, List.set_cons_succ]
  refine anyH_abs (fun W => Ext w1 W ∧ Keep wc wS W ∧ Blk_ W b10 30 #[.slice A' 3 c'] ∧ Blk_ W b11 121 #[.int .i64 r.next, .int .i64 r.rounds]) ⟨hxq, (hkp.off (p := ⟨b11, 0, none⟩) hsb11 _).off (p := ⟨b11, 1, none⟩) hsb11 _, (h10.far (p := ⟨b11, 0, none⟩) hnb _).far (p := ⟨b11, 1, none⟩) hnb _, (h11.set 0 _).set 1 _⟩ ?_
  clear hxp hkp h10 h11 hxq f11 f11' z11 z11' l11
  rintro wr ⟨hxp, hkp, h10, h11⟩
  have hS2 : (fun W' => W'.cell? ⟨gs, 0, none⟩ = some (.slice A 3 c) ∧ W'.cell? ⟨gs, 1, none⟩ = some (.int .i64 (nx0 : Int)) ∧ W'.cell? ⟨gs, 2, none⟩ = some (.int .i64 (rd0 : Int)) ∧ W'.cell? ⟨b3, 4, none⟩ = some (.int .i64 (k : Int))) wr := ⟨(hxp).cell fgs0, (hxp).cell fgs1, (hxp).cell fgs2, (hxp).cell fb34⟩
  refine tkL 21 rfl (fun w' hS => by obtain ⟨hS, hS2', hS3', hS4'⟩ := hS; go_simp; rfl) hS2 ?_
  refine tkL 22 rfl (fun w' hS => by obtain ⟨hS, hS2', hS3', hS4'⟩ := hS; go_simp; rfl) hS2 ?_
  refine tkL 23 rfl (fun w' hS => by obtain ⟨hS, hS2', hS3', hS4'⟩ := hS; go_simp; rfl) hS2 ?_
  try simp only [Act.put, List.setIfInBounds_toArray, List.set_cons_zero, List.set_cons_succ]
  clear hS2
  refine wpAnyH_done (by kernel_rfl) ?_ _
  have H10 := Lib.hid h10
  have H11 := Lib.hid h11
  have HKP := Lib.hid hkp
  have HXP := Lib.hid hxp
  have q10 := h10.cell 0
  have q11 := h11.cell 0
  have q12 := h11.cell 1
  have y10 := h10.frozen 0
  have y11 := h11.frozen 0
  have y12 := h11.frozen 1
  have g0 := (HB1.out.ext hxp).cell 0
  have g1 := (HB1.out.ext hxp).cell 1
  have g2 := (HB1.out.ext hxp).cell 2
  have m0 := (HB1.out.ext hxp).frozen 0
  have m1 := (HB1.out.ext hxp).frozen 1
  have m2 := (HB1.out.ext hxp).frozen 2
  simp at q10 q11 q12 g0 g1 g2
  have gl := (HB1.out.ext hxp).lt
  have u40 := (B4.out.ext hxp).cell 0
  have u50 := (B5.out.ext hxp).cell 0
  have v40 := (B4.out.ext hxp).frozen 0
  have v50 := (B5.out.ext hxp).frozen 0
  have u41 := (B4.out.ext hxp).cell 1
  have u51 := (B5.out.ext hxp).cell 1
  have v41 := (B4.out.ext hxp).frozen 1
  have v51 := (B5.out.ext hxp).frozen 1
  have u42 := (B4.out.ext hxp).cell 2
  have u52 := (B5.out.ext hxp).cell 2
  have v42 := (B4.out.ext hxp).frozen 2
  have v52 := (B5.out.ext hxp).frozen 2
  have u43 := (B4.out.ext hxp).cell 3
  have u53 := (B5.out.ext hxp).cell 3
  have v43 := (B4.out.ext hxp).frozen 3
  have v53 := (B5.out.ext hxp).frozen 3
  have u44 := (B4.out.ext hxp).cell 4
  have u54 := (B5.out.ext hxp).cell 4
  have v44 := (B4.out.ext hxp).frozen 4
  have v54 := (B5.out.ext hxp).frozen 4
  simp at u40 u50 u41 u51 u42 u52 u43 u53 u44 u54
  have hl4 := (B4.out.ext hxp).lt
  have hl5 := (B5.out.ext hxp).lt
  clear hxp hkp h10 h11
  clear fgs0 fgs1 fgs2 fb34 hS0
  have hne104 : ¬ (b10 = b4) := by have := B4.out.lt; omega
  have hne114 : ¬ (b11 = b4) := by have := B4.out.lt; omega
  have hne105 : ¬ (b10 = b5) := by have := B5.out.lt; omega
  have hne115 : ¬ (b11 = b5) := by have := B5.out.lt; omega
  have hne10g : ¬ (b10 = gs) := by have := HB1.out.lt; omega
  have hne11g : ¬ (b11 = gs) := by have := HB1.out.lt; omega
  have hneg10 : ¬ (gs = b10) := fun e => hne10g e.symm
  have hneg11 : ¬ (gs = b11) := fun e => hne11g e.symm
  have hne510 : ¬ (b5 = b10) := fun e => hne105 e.symm
  have hne511 : ¬ (b5 = b11) := fun e => hne115 e.symm
  go_wp2_with fail
 all_goals go_region
 all_goals
  obtain ⟨ng, hng⟩ : ∃ ng, ng = (sortI (ints r.gone)).length := ⟨_, rfl⟩
  have HNG := Lib.hid hng
  rw [← hng] at HZS ⊢
  clear hng
  obtain ⟨wz, hwz⟩ : ∃ W, W = ((((((wr.setCell ⟨b5, 0, none⟩ (.int .i64 0)).setCell ⟨gs, 0, none⟩ (.slice A' 3 c')).setCell ⟨gs, 1, none⟩ (.int .i64 r.next)).setCell ⟨gs, 2, none⟩ (.int .i64 r.rounds)).setCell ⟨b5, 3, none⟩ (.int .i64 r.count)).setCell ⟨b5, 4, none⟩ (.slice Ag ng cg)).drew := ⟨_, rfl⟩
  rw [← hwz]
  have h4z : Blk_ wz b4 46 #[.int .i64 0, .string .empty, .slice none 0 0, .int .i64 0, .slice none 0 0] := by rw [hwz]; exact (((((((B4.out.ext HXP.out).far (p := ⟨b5, 0, none⟩) hne45 (.int .i64 0)).far (p := ⟨gs, 0, none⟩) hne4g (.slice A' 3 c')).far (p := ⟨gs, 1, none⟩) hne4g (.int .i64 r.next)).far (p := ⟨gs, 2, none⟩) hne4g (.int .i64 r.rounds)).far (p := ⟨b5, 3, none⟩) hne45 (.int .i64 r.count)).far (p := ⟨b5, 4, none⟩) hne45 (.slice Ag ng cg)).ext (Ext.refl _).drew
  have h5z : Blk_ wz b5 46 #[.int .i64 0, .string .empty, .slice none 0 0, .int .i64 r.count, .slice Ag ng cg] := by rw [hwz]; exact (((((((B5.out.ext HXP.out).set 0 (.int .i64 0)).far (p := ⟨gs, 0, none⟩) hne5g (.slice A' 3 c')).far (p := ⟨gs, 1, none⟩) hne5g (.int .i64 r.next)).far (p := ⟨gs, 2, none⟩) hne5g (.int .i64 r.rounds)).set 3 (.int .i64 r.count)).set 4 (.slice Ag ng cg)).ext (Ext.refl _).drew
  have hbg : Blk_ wz gs 123 #[.slice A' 3 c', .int .i64 r.next, .int .i64 r.rounds] := by rw [hwz]; exact (((((((HB1.out.ext HXP.out).far (p := ⟨b5, 0, none⟩) (by have := HE.out; simp only; omega) (.int .i64 0)).set 0 (.slice A' 3 c')).set 1 (.int .i64 r.next)).set 2 (.int .i64 r.rounds)).far (p := ⟨b5, 3, none⟩) (by have := HE.out; simp only; omega) (.int .i64 r.count)).far (p := ⟨b5, 4, none⟩) (by have := HE.out; simp only; omega) (.slice Ag ng cg)).ext (Ext.refl _).drew
  have hgr : w.grownBy wz (some gs) := by rw [hwz]; exact (grown_set (grown_set ((((grown_set ((HX1.out.trans HXP.out).by_ (some gs)) (p := ⟨b5, 0, none⟩) (by have := HE.out; simp only; omega) (.int .i64 0)).trans (setRow_by _ gs 0 (.slice A' 3 c'))).trans (setRow_by _ gs 1 (.int .i64 r.next))).trans (setRow_by _ gs 2 (.int .i64 r.rounds))) (p := ⟨b5, 3, none⟩) (by have := HE.out; simp only; omega) (.int .i64 r.count)) (p := ⟨b5, 4, none⟩) (by have := HE.out; simp only; omega) (.slice Ag ng cg)).trans ((Ext.refl _).drew.by_ _)
  have hkz : Keep wc wS wz := by rw [hwz]; exact ((((((HKP.out.off (p := ⟨b5, 0, none⟩) (.inl (by have h4 := B4.out.lt; have h5 := B5.out.lt; have h6 := HB1.out.lt; simp only; omega)) (.int .i64 0)).off (p := ⟨gs, 0, none⟩) (.inl (by have h4 := B4.out.lt; have h5 := B5.out.lt; have h6 := HB1.out.lt; simp only; omega)) (.slice A' 3 c')).off (p := ⟨gs, 1, none⟩) (.inl (by have h4 := B4.out.lt; have h5 := B5.out.lt; have h6 := HB1.out.lt; simp only; omega)) (.int .i64 r.next)).off (p := ⟨gs, 2, none⟩) (.inl (by have h4 := B4.out.lt; have h5 := B5.out.lt; have h6 := HB1.out.lt; simp only; omega)) (.int .i64 r.rounds)).off (p := ⟨b5, 3, none⟩) (.inl (by have h4 := B4.out.lt; have h5 := B5.out.lt; have h6 := HB1.out.lt; simp only; omega)) (.int .i64 r.count)).off (p := ⟨b5, 4, none⟩) (.inl (by have h4 := B4.out.lt; have h5 := B5.out.lt; have h6 := HB1.out.lt; simp only; omega)) (.slice Ag ng cg)).ext (Ext.refl _).drew
  clear hwz
  have u50 := h5z.cell 0
  have u51 := h5z.cell 1
  have u52 := h5z.cell 2
  have u53 := h5z.cell 3
  have u54 := h5z.cell 4
  have v40 := h4z.frozen 0
  have v41 := h4z.frozen 1
  have v42 := h4z.frozen 2
  have v43 := h4z.frozen 3
  have v44 := h4z.frozen 4
  have l4z := h4z.lt
  have l5z := h5z.lt
  have u40 := h4z.cell 0
  have u41 := h4z.cell 1
  have u42 := h4z.cell 2
  have u43 := h4z.cell 3
  have u44 := h4z.cell 4
  simp at u50 u51 u52 u53 u54 u40 u41 u42 u43 u44
  have H4Z := Lib.hid h4z
  have HBG := Lib.hid hbg
  have HGR := Lib.hid hgr
  have HKZ := Lib.hid hkz
  clear h4z h5z hbg hgr hkz
  go_wp2_with fail
  refine bodyPost_ret (res_cell (g := b4) (cs := #[.int .i64 0, .string .empty, .slice none 0 0, .int .i64 r.count, .slice Ag ng cg]) rfl rfl (by exact (((((H4Z.out.set 0 (.int .i64 0)).set 1 (.string .empty)).set 2 (.slice none 0 0)).set 3 (.int .i64 r.count)).set 4 (.slice Ag ng cg))) Tryz.underlying46 rfl (by kernel_rfl)) rfl ?_
  have hk9 := (((((HKZ.out.off (p := ⟨b4, 0, none⟩) (.inl (by have h4 := B4.out.lt; have h5 := B5.out.lt; have h6 := HB1.out.lt; simp only; omega)) (.int .i64 0)).off (p := ⟨b4, 1, none⟩) (.inl (by have h4 := B4.out.lt; have h5 := B5.out.lt; have h6 := HB1.out.lt; simp only; omega)) (.string .empty)).off (p := ⟨b4, 2, none⟩) (.inl (by have h4 := B4.out.lt; have h5 := B5.out.lt; have h6 := HB1.out.lt; simp only; omega)) (.slice none 0 0)).off (p := ⟨b4, 3, none⟩) (.inl (by have h4 := B4.out.lt; have h5 := B5.out.lt; have h6 := HB1.out.lt; simp only; omega)) (.int .i64 r.count)).off (p := ⟨b4, 4, none⟩) (.inl (by have h4 := B4.out.lt; have h5 := B5.out.lt; have h6 := HB1.out.lt; simp only; omega)) (.slice Ag ng cg))
  have hlw : w.heap.size ≤ wc.heap.size := Nat.le_trans HX1.out.size hlc
  refine ⟨_, r, HRR.out.1, rfl, ⟨A', c', (grown_set (grown_set (grown_set (grown_set (grown_set HGR.out (p := ⟨b4, 0, none⟩) (by have := HE.out; simp only; omega) (.int .i64 0)) (p := ⟨b4, 1, none⟩) (by have := HE.out; simp only; omega) (.string .empty)) (p := ⟨b4, 2, none⟩) (by have := HE.out; simp only; omega) (.slice none 0 0)) (p := ⟨b4, 3, none⟩) (by have := HE.out; simp only; omega) (.int .i64 r.count)) (p := ⟨b4, 4, none⟩) (by have := HE.out; simp only; omega) (.slice Ag ng cg)), (((((HBG.out.far (p := ⟨b4, 0, none⟩) (by have := HE.out; simp only; omega) (.int .i64 0)).far (p := ⟨b4, 1, none⟩) (by have := HE.out; simp only; omega) (.string .empty)).far (p := ⟨b4, 2, none⟩) (by have := HE.out; simp only; omega) (.slice none 0 0)).far (p := ⟨b4, 3, none⟩) (by have := HE.out; simp only; omega) (.int .i64 r.count)).far (p := ⟨b4, 4, none⟩) (by have := HE.out; simp only; omega) (.slice Ag ng cg)), Fresh.fin (fresh_arr HOS.out (by rw [HRR.out.2]; decide)) hk9 hlw⟩, ?_⟩
  exact Fresh.fin (fresh_own encInt_ok (show wS.ownsRow wc.heap.size 3 1 (.slice Ag ng cg) (sortI (ints r.gone)).length ((sortI (ints r.gone)).flatMap encInt) by rw [← HNG.out]; exact HZS.out) (scrub_len HRR.out.1 HP.out HM.out.1 HM.out.2.1 HM.out.2.2.1 HM.out.2.2.2.1 HM.out.2.2.2.2.2) (fun _ x hx => ⟨rfl, scrub_i64 HRR.out.1 HP.out HM.out.1 HM.out.2.1 HM.out.2.2.1 HM.out.2.2.2.1 hx⟩)) hk9 hlw
end Go.Proofs.YtgjijcgkmofaaaaGreatDoor
