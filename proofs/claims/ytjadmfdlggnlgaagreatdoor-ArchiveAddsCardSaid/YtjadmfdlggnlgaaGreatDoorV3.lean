/-
  array.Copy: all devices in new memory. sameArray answers true at what reads alike; the law ArrayCopies. Conditions: the arguments read as arrays.
-/
import Derived.Test.YtjadmfdlggnlgaaGreatDoorV2
import Derived.Laws.BitsAllLaws
import Derived.Laws.Bits128
namespace Go.Proofs.YtjadmfdlggnlgaaGreatDoor
set_option linter.unusedSimpArgs false
set_option linter.unusedVariables false
set_option maxRecDepth 100000
set_option maxHeartbeats 8000000
open Go.RowKit
theorem info_dev : (Tryz.prog.info? 35).map (fun i => (i.zero, i.size, i.bytes)) = some (some (.agg #[.slice none 0 0, .slice none 0 0]), 2, 48) := by kernel_rfl
theorem arrCopy_any (cs : List Value) (a : List Dev) (w : World) (h : RArr w cs a) :
  Calls Tryz.prog 47 #[.agg cs.toArray] w fun e w' => ∃ A c, e = .returned (.agg #[.slice A a.length c]) ∧ Ext w w' ∧ OArr 35 w' w.heap.size (.slice A a.length c) a := by
 obtain ⟨v, rfl, h1⟩ := h
 obtain ⟨A0, c0, rfl, hb0, hc0, hr⟩ := h1.rowR
 clear h1
 go_enter Tryz.func47, Tryz.ntmps47
 go_wp2
 refine wp_abs (fun W => Ext w W ∧ Blk_ W w.heap.size 24 #[.slice A0 a.length c0] ∧ Blk_ W (w.heap.size + 1) 24 #[.slice none 0 0] ∧ Blk_ W (w.heap.size + 1 + 1) 24 #[.slice none 0 0]) ⟨(((Ext.refl _).alloc _).alloc _).alloc _, ((Blk_.new _ _ _).alloc _).alloc _, (Blk_.new1 _ _ _ _).alloc _, Blk_.new2 _ _ _ _ _⟩ ?_
 rintro W ⟨hx, hb1, hb2, hb3⟩
 go_loopw [10] (fun i wr => ∃ (k : Nat) (A : Option Addr) (c : Nat), i = .int .i64 k ∧ k ≤ a.length ∧ Ext w wr ∧ Blk_ wr w.heap.size 24 #[.slice A0 a.length c0] ∧ Blk_ wr (w.heap.size + 1) 24 #[.slice none 0 0] ∧ Blk_ wr (w.heap.size + 1 + 1) 24 #[.slice A k c] ∧ OArr 35 wr (w.heap.size + 3) (.slice A k c) (a.take k)) (fun i _ => a.length - (intOf i).toNat)
 case atStart => exact ⟨0, none, 0, rfl, Nat.zero_le _, hx, hb1, hb2, hb3, OArr.nil _ _ _⟩
 case round =>
  clear hx hb1 hb2 hb3
  obtain ⟨k, A, c, rfl, hk, hx, hb1, hb2, hb3, ho⟩ := hrel
  by_cases hlt : k < a.length
  ·obtain ⟨b, o, rfl, hcell⟩ := hr k hlt
   obtain ⟨cs, hl, hcs, hd⟩ := hcell k hlt
   obtain ⟨A1, c1, A2, c2, rfl⟩ := hd.form
   have q0 := hx.cell (hcs 0 _ rfl)
   have q1 := hx.cell (hcs 1 _ rfl)
   simp only [Nat.add_zero] at q0
   have f0 := hb1.cell 0
   simp at f0
   clear hcell hcs hl
   have HR := Lib.hid hr
   clear hr
   go_wp2
   refine wp_abs (fun W => Ext wr W ∧ Blk_ W wr.heap.size 35 #[.slice A1 a[k].sec.length c1, .slice A2 a[k].lost.length c2]) ⟨(Ext.refl _).alloc _, Blk_.new _ _ _⟩ ?_
   rintro W1 ⟨hx1, hb4⟩
   have g0 := (hb3.ext hx1).cell 0
   have g1 := hb4.cell 0
   have g2 := hb4.cell 1
   simp at g0 g1 g2
   refine wp_region_begin (S := fun W' => W'.cell? ⟨w.heap.size + 1 + 1, 0, none⟩ = some (.slice A k c) ∧ W'.cell? ⟨wr.heap.size, 0, none⟩ = some (.slice A1 a[k].sec.length c1) ∧ W'.cell? ⟨wr.heap.size, 1, none⟩ = some (.slice A2 a[k].lost.length c2)) (n := 7) (by kernel_rfl) rfl (by kernel_rfl) rfl ?_
   have hS0 : (fun W' => W'.cell? ⟨w.heap.size + 1 + 1, 0, none⟩ = some (.slice A k c) ∧ W'.cell? ⟨wr.heap.size, 0, none⟩ = some (.slice A1 a[k].sec.length c1) ∧ W'.cell? ⟨wr.heap.size, 1, none⟩ = some (.slice A2 a[k].lost.length c2)) W1.drew := ⟨g0, g1, g2⟩
   refine tkL 0 rfl (fun w' hS => by (try dsimp only at hS); go_simp; rfl) hS0 ?_
   simp only [Act.put, List.setIfInBounds_toArray, List.set_cons_zero, List.set_cons_succ]
   refine tkL 1 rfl (fun w' hS => by (try dsimp only at hS); go_simp; rfl) hS0 ?_
   simp only [Act.put, List.setIfInBounds_toArray, List.set_cons_zero, List.set_cons_succ]
   refine tkL 2 rfl (fun w' hS => by (try dsimp only at hS); go_simp; rfl) hS0 ?_
   simp only [Act.put, List.setIfInBounds_toArray, List.set_cons_zero, List.set_cons_succ]
   refine wpAnyH_oneL (i := 3) rfl (by kernel_rfl) rfl (fun K hK => ?_)
   go_wp2_with fail
   refine (devCopy_any [.slice A1 a[k].sec.length c1, .slice A2 a[k].lost.length c2] a[k] _ (hd.up ((hx.trans hx1).drew))).mono ?_
   rintro e w2 ⟨B1, k1, B2, k2, rfl, hx2, o1, o2⟩
   have e2 : Ext W1 w2 := (Ext.refl W1).drew.trans hx2
   refine hK _ _ ⟨e2.cell g0, e2.cell g1, e2.cell g2⟩ ?_
   clear hK K
   try simp only [Act.put, List.setIfInBounds_toArray, List.set_cons_zero, List.set_cons_succ]
   refine wpAnyH_oneL (i := 4) rfl (by kernel_rfl) rfl (fun K hK => ?_)
   go_wp2_with fail
   have e3 : Ext W1 (w2.alloc (.cells #[.slice B1 a[k].sec.length k1, .slice B2 a[k].lost.length k2] 35)) := e2.alloc _
   have hb5 := Blk_.new w2 35 #[.slice B1 a[k].sec.length k1, .slice B2 a[k].lost.length k2]
   have hx3 : Ext w2 (w2.alloc (.cells #[.slice B1 a[k].sec.length k1, .slice B2 a[k].lost.length k2] 35)) := (Ext.refl _).alloc _
   refine hK _ _ ⟨e3.cell g0, e3.cell g1, e3.cell g2⟩ ?_
   clear hK K
   generalize w2.alloc (.cells #[.slice B1 a[k].sec.length k1, .slice B2 a[k].lost.length k2] 35) = w3 at e3 hb5 hx3
   refine wpAnyH_oneL (i := 5) rfl (by kernel_rfl) rfl (fun K hK => ?_)
   have hdn : RDev w3 [.slice B1 a[k].sec.length k1, .slice B2 a[k].lost.length k2] a[k] := (hd.again o1 o2).up hx3
   obtain ⟨xs0, hown0, _⟩ := ho.pushes
   obtain ⟨xs, hown, hpush⟩ := (ho.ext (hx1.trans e3)).pushes
   obtain ⟨i0, hi, hz0, hz1, hz2⟩ := info_parts info_dev
   have hlen : (a.take k).length = k := by rw [List.length_take]; omega
   rw [hlen] at hown hpush
   refine wp_append_at _ (.tmp 15) (.tmp 18) 22 rfl (w.heap.size + 3) 35 i0 (.agg #[.slice none 0 0, .slice none 0 0]) 2 48 Tryz.underlying22 hi hz0 hz1 hz2 rfl (by decide) _ _ xs rfl hown ⟨w2.heap.size, 0, none⟩ 1 1 [.slice B1 a[k].sec.length k1, .slice B2 a[k].lost.length k2] rfl rfl ?_ ?_ ?_ ?_ ?_ ?_
   ·intro j u hu
    rw [Addr.add_lit, Nat.zero_add, hb5.cell]
    simpa using hu
   ·intro u hu
    simp at hu
    rcases hu with rfl | rfl <;> rfl
   ·unfold maxLen; omega
   ·omega
   ·have := e3.size; have := hx1.size; have := hb3.lt; omega
   intro A' c' w4 hown' hg' hb'
   have hbase : ∀ g, (Value.slice A k c).ownBlock = some g → w.heap.size + 3 ≤ g := fun g hgg => (hown.lt g hgg).1
   have hnb : w.heap.size + 3 ≤ W1.drew.heap.size := by have := hx1.size; have := hb3.lt; simp; omega
   have hox : OArr 35 w4 (w.heap.size + 3) (.slice A' (k + 1) c') (a.take k ++ [a[k]]) := hpush w4 _ _ _ _ hown' hg' hb' hdn (fun g hgg => by
    refine hdn.newG (New.own o1) (New.own o2) ?_
    have := (hown0.lt g hgg).2
    have := hx1.size
    simp; omega) ((New.own o1).mono hnb) ((New.own o2).mono hnb)
   have hx4 : Ext w w4 := ((hx.trans hx1).trans e3).grown hg' (fun g hgg => by have := hbase g hgg; omega)
   have j1 := (hb1.ext (hx1.trans e3)).grown hg' (fun g hgg => by have := hbase g hgg; omega)
   have j2 := (hb2.ext (hx1.trans e3)).grown hg' (fun g hgg => by have := hbase g hgg; omega)
   have j3 := (hb3.ext (hx1.trans e3)).grown hg' (fun g hgg => by have := hbase g hgg; omega)
   have j3c := j3.cell 0
   have j3f := j3.frozen 0
   simp at j3c
   have j4 := (hb4.ext e3).grown hg' (fun g hgg => by have := (hown0.lt g hgg).2; omega)
   have j40 := j4.cell 0
   have j41 := j4.cell 1
   simp at j40 j41
   refine hK _ _ ⟨j3c, j40, j41⟩ ?_
   clear hK K
   try simp only [Act.put, List.setIfInBounds_toArray, List.set_cons_zero, List.set_cons_succ]
   refine wpAnyH_takeL (i := 6) (v := ?_) rfl (by kernel_rfl) (fun _ _ _ h => h) rfl ?_ ⟨j3c, j40, j41⟩ ?_
   rotate_left
   ·intro w' hS
    try dsimp only at hS
    go_simp
    rfl
   simp only [Act.put, List.setIfInBounds_toArray, List.set_cons_zero, List.set_cons_succ]
   refine wpAnyH_endL (by kernel_rfl) (fun K hK => ?_)
   go_wp2
   go_roundw
   case rel =>
    refine ⟨k + 1, A', c', by go_num, by omega, hx4.setCell (by dsimp only; omega) _, j1.far (by dsimp only; omega) _, j2.far (by dsimp only; omega) _, ?_, ?_⟩
    ·exact j3.set 0 _
    ·rw [← List.take_append_getElem hlt]
     exact hox.far (by dsimp only; omega) _
   case measure => simp [intOf]; omega
  ·obtain rfl : k = a.length := by omega
   have f0 := hb3.cell 0
   simp at f0
   have f1 := hb2.cell 0
   have f2 := hb2.frozen 0
   simp at f1
   clear hr
   rw [List.take_length] at ho
   have hb5 := hb2.set 0 (.slice A a.length c)
   have H5 := Lib.hid hb5
   clear hb5
   go_wp2
   refine bodyPost_ret (res_cell rfl rfl H5.out Tryz.underlying24 rfl (by kernel_rfl)) rfl ?_
   exact ⟨A, c, rfl, hx.setCell (by dsimp only; omega) _, (ho.far (by dsimp only; omega) _).base (by omega)⟩
theorem sameArray_true (cs1 cs2 : List Value) (a : List Dev) (w : World) (h1 : RArr w cs1 a) (h2 : RArr w cs2 a) :
  Calls Tryz.prog 7 #[.agg cs1.toArray, .agg cs2.toArray] w fun e w' => e = .returned (.bool true) ∧ Ext w w' := by
 obtain ⟨v1, rfl, h1⟩ := h1
 obtain ⟨v2, rfl, h2⟩ := h2
 obtain ⟨A1, c1, rfl, l1, hc1, p1⟩ := h1.rowR
 obtain ⟨A2, c2, rfl, l2, hc2, p2⟩ := h2.rowR
 clear h1 h2
 go_enter Tryz.func7, Tryz.ntmps7
 go_wp2
 refine wp_abs (fun W => Ext w W ∧ Blk_ W w.heap.size 24 #[.slice A1 a.length c1] ∧ Blk_ W (w.heap.size + 1) 24 #[.slice A2 a.length c2]) ⟨((Ext.refl _).alloc _).alloc _, (Blk_.new _ _ _).alloc _, Blk_.new1 _ _ _ _⟩ ?_
 rintro W ⟨hx, hb1, hb2⟩
 go_loopw [5] (fun i wr => ∃ k : Nat, i = .int .i64 k ∧ k ≤ a.length ∧ Ext w wr ∧ Blk_ wr w.heap.size 24 #[.slice A1 a.length c1] ∧ Blk_ wr (w.heap.size + 1) 24 #[.slice A2 a.length c2]) (fun i _ => a.length - (intOf i).toNat)
 case atStart => exact ⟨0, rfl, Nat.zero_le _, hx, hb1, hb2⟩
 case round =>
  clear hx hb1 hb2
  obtain ⟨k, rfl, hk, hx, hb1, hb2⟩ := hrel
  have f0 := hb1.cell 0
  have f1 := hb2.cell 0
  simp at f0 f1
  by_cases hlt : k < a.length
  ·obtain ⟨b1, o1, rfl, g1⟩ := p1 k hlt
   obtain ⟨b2, o2, rfl, g2⟩ := p2 k hlt
   obtain ⟨cs1, n1, q1, d1⟩ := g1 k hlt
   obtain ⟨cs2, n2, q2, d2⟩ := g2 k hlt
   obtain ⟨B1, k1, B2, k2, rfl⟩ := d1.form
   obtain ⟨B3, k3, B4, k4, rfl⟩ := d2.form
   have r0 := hx.cell (q1 0 _ rfl)
   have r1 := hx.cell (q1 1 _ rfl)
   have r2 := hx.cell (q2 0 _ rfl)
   have r3 := hx.cell (q2 1 _ rfl)
   simp only [Nat.add_zero] at r0 r2
   clear g1 g2 q1 q2 n1 n2
   have HP1 := Lib.hid p1
   have HP2 := Lib.hid p2
   clear p1 p2
   go_wp2
   go_region_held3 (fun W' => W'.cell? ⟨w.heap.size, 0, none⟩ = some (.slice (some ⟨b1, o1, none⟩) a.length c1) ∧ W'.cell? ⟨w.heap.size + 1, 0, none⟩ = some (.slice (some ⟨b2, o2, none⟩) a.length c2) ∧ W'.cell? ⟨b1, o1 + k * 2, none⟩ = some (.slice B1 a[k].sec.length k1) ∧ W'.cell? ⟨b1, o1 + k * 2 + 1, none⟩ = some (.slice B2 a[k].lost.length k2) ∧ W'.cell? ⟨b2, o2 + k * 2, none⟩ = some (.slice B3 a[k].sec.length k3) ∧ W'.cell? ⟨b2, o2 + k * 2 + 1, none⟩ = some (.slice B4 a[k].lost.length k4))
    (first | exact ⟨f0, f1, r0, r1, r2, r3⟩ | exact ⟨e1.cell f0, e1.cell f1, e1.cell r0, e1.cell r1, e1.cell r2, e1.cell r3⟩ | go_keep)
    (first | (go_at_call 30; refine (sameDevice_true [.slice B1 a[k].sec.length k1, .slice B2 a[k].lost.length k2] [.slice B3 a[k].sec.length k3, .slice B4 a[k].lost.length k4] a[k] _ (d1.up hx.drew) (d2.up hx.drew)).mono ?_; rintro _ w1 ⟨rfl, f1'⟩; have e1 : Ext wr w1 := (Ext.drew (Ext.refl wr)).trans f1'))
   go_wp2
   go_roundw
   case rel => exact ⟨k + 1, by go_num, by omega, hx.trans e1, hb1.ext e1, hb2.ext e1⟩
   case measure => simp [intOf]; omega
  ·go_wp2
   go_ret
   exact ⟨rfl, hx⟩
def RByte : Rd UInt8 := fun _ cs c => cs = [.int .u8 c.toNat]
theorem RByte.val {w : World} {u : Value} {c : UInt8} (h : RByte w [u] c) : u = .int .u8 c.toNat := by have : [u] = _ := h; simpa using this
def badByte (c : UInt8) : Bool := (decide ((c.toNat : Int) < 97) || decide (122 < (c.toNat : Int))) && (decide ((c.toNat : Int) < 48) || decide (57 < (c.toNat : Int)))
def badRaw (s : ByteArray) : Bool := !((s.size : Int) == 30)
theorem badByte_any (c : UInt8) (w : World) : Calls Tryz.prog 67 #[.int .u8 c.toNat] w fun e w' => w = w' ∧ e = .returned (.bool (badByte c)) := by
 unfold badByte
 by_cases h1 : (c.toNat : Int) < 97
 ·by_cases h3 : (c.toNat : Int) < 48
  ·go_enter Tryz.func67, Tryz.ntmps67
   go_wp2
   go_ret
   exact ⟨rfl, ret_bool (by simp [h1, h3])⟩
  ·have h3' : decide ((c.toNat : Int) < 48) = false := by simpa using h3
   go_enter Tryz.func67, Tryz.ntmps67
   go_wp2
   go_ret
   exact ⟨rfl, ret_bool (by simp [h1, h3'])⟩
 ·by_cases h2 : 122 < (c.toNat : Int)
  ·by_cases h3 : (c.toNat : Int) < 48
   ·omega
   ·have h1' : decide ((c.toNat : Int) < 97) = false := by simpa using h1
    have h3' : decide ((c.toNat : Int) < 48) = false := by simpa using h3
    go_enter Tryz.func67, Tryz.ntmps67
    go_wp2
    go_ret
    exact ⟨rfl, ret_bool (by simp [h1', h2, h3'])⟩
  ·have h1' : decide ((c.toNat : Int) < 97) = false := by simpa using h1
   have h2' : decide (122 < (c.toNat : Int)) = false := by simpa using h2
   go_enter Tryz.func67, Tryz.ntmps67
   go_wp2
   go_ret
   exact ⟨rfl, ret_bool (by simp [h1', h2'])⟩
theorem badRaw_any (s : ByteArray) (w : World) : Calls Tryz.prog 123 #[.string s] w fun e w' => w = w' ∧ e = .returned (.bool (badRaw s)) := by
 unfold badRaw
 go_enter Tryz.func123, Tryz.ntmps123
 go_wp2
 go_ret
 exact ⟨rfl, ret_bool (by simp [bne])⟩
theorem index_byte (v : Value) (l : List UInt8) (w : World) (h : SlR 1 1 RByte w v l) :
  Calls Tryz.prog 101 #[v, .func (.func 67) #[] #[]] w fun e w' => w = w' ∧ ∃ r : Int, e = .returned (.int .i64 r) ∧ decide (0 ≤ r) = l.any badByte := by
 obtain ⟨A, c, rfl, hl, hc, r1⟩ := h.row
 clear h
 go_enter Tryz.func101, Tryz.ntmps101
 go_wp2
 go_loop [8] (fun i => ∃ k : Nat, i = .int .i64 k ∧ k ≤ l.length ∧ (l.take k).any badByte = false) (fun i => l.length - (intOf i).toNat)
 case atStart => exact ⟨0, rfl, Nat.zero_le _, rfl⟩
 case round =>
  obtain ⟨k, rfl, hk, hno⟩ := hrel
  have HN := Lib.hid hno
  clear hno
  by_cases hlt : k < l.length
  ·obtain ⟨b1, o1, rfl, g1⟩ := r1 k hlt
   obtain ⟨u1, q1, t1⟩ := g1 k hlt
   obtain rfl := t1.val
   have HR := Lib.hid r1
   clear g1 r1 t1
   have hcon := badByte_any l[k] w
   have htk : (l.take (k + 1)).any badByte = badByte l[k] := by
    rw [← List.take_append_getElem hlt, List.any_append, HN.out]; simp
   have HT := Lib.hid htk
   clear htk
   by_cases hp : badByte l[k] = true
   ·rw [hp] at hcon
    have HC := Lib.hid hcon
    have HP := Lib.hid hp
    clear hcon hp
    go_wp2_with fail
    refine HC.out.mono ?_
    rintro e w1 ⟨rfl, rfl⟩
    go_wp2
    go_ret
    refine ⟨rfl, _, rfl, ?_⟩
    have : l.any badByte = true := List.any_eq_true.2 ⟨l[k], List.getElem_mem hlt, HP.out⟩
    rw [this]
    simp
   ·rw [Bool.not_eq_true] at hp
    rw [hp] at hcon
    have HC := Lib.hid hcon
    have HP := Lib.hid hp
    clear hcon hp
    go_wp2_with fail
    refine HC.out.mono ?_
    rintro e w1 ⟨rfl, rfl⟩
    go_wp2
    go_round
    case rel => exact ⟨k + 1, by go_num, by omega, by rw [HT.out, HP.out]⟩
    case measure => simp [intOf]; omega
  ·obtain rfl : k = l.length := by omega
   go_wp2
   go_ret
   refine ⟨rfl, _, rfl, ?_⟩
   rw [List.take_length] at HN
   rw [HN.out]
   simp
theorem contains_byte (v : Value) (l : List UInt8) (w : World) (h : SlR 1 1 RByte w v l) :
  Calls Tryz.prog 66 #[v, .func (.func 67) #[] #[]] w fun e w' => w = w' ∧ e = .returned (.bool (l.any badByte)) := by
 go_enter Tryz.func66, Tryz.ntmps66
 go_wp2_with fail
 refine (index_byte v l w h).mono ?_
 rintro e w1 ⟨rfl, r, rfl, hr⟩
 have HR := Lib.hid hr
 clear hr h
 go_wp2
 go_ret
 exact ⟨rfl, ret_bool HR.out⟩
theorem index_str (v : Value) (l : List ByteArray) (w : World) (h : SlR 1 16 RStr w v l) :
  Calls Tryz.prog 131 #[v, .func (.func 123) #[] #[]] w fun e w' => w = w' ∧ ∃ r : Int, e = .returned (.int .i64 r) ∧ decide (0 ≤ r) = l.any badRaw := by
 obtain ⟨A, c, rfl, hl, hc, r1⟩ := h.row
 clear h
 go_enter Tryz.func131, Tryz.ntmps131
 go_wp2
 go_loop [8] (fun i => ∃ k : Nat, i = .int .i64 k ∧ k ≤ l.length ∧ (l.take k).any badRaw = false) (fun i => l.length - (intOf i).toNat)
 case atStart => exact ⟨0, rfl, Nat.zero_le _, rfl⟩
 case round =>
  obtain ⟨k, rfl, hk, hno⟩ := hrel
  have HN := Lib.hid hno
  clear hno
  by_cases hlt : k < l.length
  ·obtain ⟨b1, o1, rfl, g1⟩ := r1 k hlt
   obtain ⟨u1, q1, t1⟩ := g1 k hlt
   obtain rfl := t1.val
   have HR := Lib.hid r1
   clear g1 r1 t1
   have hcon := badRaw_any l[k] w
   have htk : (l.take (k + 1)).any badRaw = badRaw l[k] := by
    rw [← List.take_append_getElem hlt, List.any_append, HN.out]; simp
   have HT := Lib.hid htk
   clear htk
   by_cases hp : badRaw l[k] = true
   ·rw [hp] at hcon
    have HC := Lib.hid hcon
    have HP := Lib.hid hp
    clear hcon hp
    go_wp2_with fail
    refine HC.out.mono ?_
    rintro e w1 ⟨rfl, rfl⟩
    go_wp2
    go_ret
    refine ⟨rfl, _, rfl, ?_⟩
    have : l.any badRaw = true := List.any_eq_true.2 ⟨l[k], List.getElem_mem hlt, HP.out⟩
    rw [this]
    simp
   ·rw [Bool.not_eq_true] at hp
    rw [hp] at hcon
    have HC := Lib.hid hcon
    have HP := Lib.hid hp
    clear hcon hp
    go_wp2_with fail
    refine HC.out.mono ?_
    rintro e w1 ⟨rfl, rfl⟩
    go_wp2
    go_round
    case rel => exact ⟨k + 1, by go_num, by omega, by rw [HT.out, HP.out]⟩
    case measure => simp [intOf]; omega
  ·obtain rfl : k = l.length := by omega
   go_wp2
   go_ret
   refine ⟨rfl, _, rfl, ?_⟩
   rw [List.take_length] at HN
   rw [HN.out]
   simp
theorem contains_str (v : Value) (l : List ByteArray) (w : World) (h : SlR 1 16 RStr w v l) :
  Calls Tryz.prog 122 #[v, .func (.func 123) #[] #[]] w fun e w' => w = w' ∧ e = .returned (.bool (l.any badRaw)) := by
 go_enter Tryz.func122, Tryz.ntmps122
 go_wp2_with fail
 refine (index_str v l w h).mono ?_
 rintro e w1 ⟨rfl, r, rfl, hr⟩
 have HR := Lib.hid hr
 clear hr h
 go_wp2
 go_ret
 exact ⟨rfl, ret_bool HR.out⟩
def devMay (d : Dev) : Bool := decide (1 ≤ d.sec.length) && decide (d.sec.length ≤ 64) && decide (d.lost.length = d.sec.length) && !(d.sec.any badRaw)
theorem devMay_len {d : Dev} (h : devMay d = true) : 1 ≤ d.sec.length ∧ d.sec.length ≤ 64 ∧ d.lost.length = d.sec.length ∧ ∀ s ∈ d.sec, s.size = 30 := by
 unfold devMay at h
 simp only [Bool.and_eq_true, decide_eq_true_eq, Bool.not_eq_true', List.any_eq_false] at h
 obtain ⟨⟨⟨h1, h2⟩, h3⟩, h4⟩ := h
 refine ⟨h1, h2, h3, fun s hs => ?_⟩
 have := h4 s hs
 unfold badRaw at this
 simp at this
 omega
def devCode (d : Dev) : Int := if devMay d then 0 else 9
theorem devCheck_any (cs : List Value) (d : Dev) (w : World) (h : RDev w cs d) :
  Calls Tryz.prog 104 #[.agg cs.toArray] w fun e w' => e = .returned (.int .i64 (devCode d)) ∧ Ext w w' := by
 obtain ⟨A1, c1, A2, c2, rfl, h1, h2⟩ := h.split
 clear h
 by_cases k1 : d.sec.length < 1
 ·have hm : devMay d = false := by unfold devMay; simp; omega
  have k1' : decide ((d.sec.length : Int) < 1) = true := by simp; omega
  have hf : devCode d = 9 := by unfold devCode; rw [hm]; rfl
  rw [hf]
  clear hm hf h1 h2
  go_enter Tryz.func104, Tryz.ntmps104
  go_wp2
  go_ret
  exact ⟨rfl, (Ext.refl _).alloc _⟩
 ·have k1' : decide ((d.sec.length : Int) < 1) = false := by simp; omega
  by_cases k2 : 64 < d.sec.length
  ·have hm : devMay d = false := by unfold devMay; simp; omega
   have k2' : decide ((64 : Int) < (d.sec.length : Int)) = true := by simp; omega
   have hf : devCode d = 9 := by unfold devCode; rw [hm]; rfl
   rw [hf]
   clear hm hf h1 h2
   go_enter Tryz.func104, Tryz.ntmps104
   go_wp2
   go_ret
   exact ⟨rfl, (Ext.refl _).alloc _⟩
  ·have k2' : decide ((64 : Int) < (d.sec.length : Int)) = false := by simp; omega
   by_cases k3 : d.lost.length = d.sec.length
   ·have k3' : ((d.lost.length : Int) != (d.sec.length : Int)) = false := by simp; omega
    have hm : devMay d = !(d.sec.any badRaw) := by
     unfold devMay
     rw [decide_eq_true (by omega : 1 ≤ d.sec.length), decide_eq_true (by omega : d.sec.length ≤ 64), decide_eq_true k3]
     simp
    have hf : ∀ b, d.sec.any badRaw = b → devCode d = if b then 9 else 0 := by
     intro b hb; unfold devCode; rw [hm, hb]; cases b <;> rfl
    have HF := Lib.hid hf
    clear hm hf k3
    have hcon := contains_str _ d.sec (w.alloc (.cells #[.slice A1 d.sec.length c1, .slice A2 d.lost.length c2] 35)) (h1.ext RStr.stays ((Ext.refl w).alloc _))
    clear h1 h2
    cases hb : d.sec.any badRaw with
    | true =>
     rw [hb] at hcon
     have HC := Lib.hid hcon
     have HB := Lib.hid hb
     clear hcon hb
     go_enter Tryz.func104, Tryz.ntmps104
     go_wp2_with (go_at_call 122; refine HC.out.mono ?_; rintro e w1 ⟨rfl, rfl⟩)
     go_ret
     exact ⟨ret_int (by rw [HF.out true HB.out]; rfl), (Ext.refl _).alloc _⟩
    | false =>
     rw [hb] at hcon
     have HC := Lib.hid hcon
     have HB := Lib.hid hb
     clear hcon hb
     go_enter Tryz.func104, Tryz.ntmps104
     go_wp2_with (go_at_call 122; refine HC.out.mono ?_; rintro e w1 ⟨rfl, rfl⟩)
     go_ret
     exact ⟨ret_int (by rw [HF.out false HB.out]; rfl), (Ext.refl _).alloc _⟩
   ·have hm : devMay d = false := by unfold devMay; rw [decide_eq_false k3]; simp
    have k3' : ((d.lost.length : Int) != (d.sec.length : Int)) = true := by simp; omega
    have hf : devCode d = 9 := by unfold devCode; rw [hm]; rfl
    rw [hf]
    clear hm hf h1 h2
    go_enter Tryz.func104, Tryz.ntmps104
    go_wp2
    go_ret
    exact ⟨rfl, (Ext.refl _).alloc _⟩
theorem devMay_any (cs : List Value) (d : Dev) (w : World) (h : RDev w cs d) :
  Calls Tryz.prog 112 #[.agg cs.toArray] w fun e w' => e = .returned (.bool (devMay d)) ∧ Ext w w' := by
 obtain ⟨v1, v2, rfl, h1, h2⟩ := h
 obtain ⟨A1, c1, rfl, l1, hc1, r1⟩ := h1.row
 obtain ⟨A2, c2, rfl, l2, hc2, _⟩ := h2.row
 clear h1 h2
 go_enter Tryz.func112, Tryz.ntmps112
 go_wp2
 refine wp_abs (fun W => Ext w W ∧ Blk_ W w.heap.size 35 #[.slice A1 d.sec.length c1, .slice A2 d.lost.length c2]) ⟨(Ext.refl _).alloc _, Blk_.new _ _ _⟩ ?_
 rintro W ⟨hx, hb⟩
 have f0 := hb.cell 0
 have f1 := hb.cell 1
 simp at f0 f1
 go_loop [3] (fun i => ∃ k : Nat, i = .int .i64 k ∧ k ≤ d.sec.length ∧ (d.sec.take k).any badRaw = false) (fun i => d.sec.length - (intOf i).toNat)
 case atStart => exact ⟨0, rfl, Nat.zero_le _, rfl⟩
 case round =>
  obtain ⟨k, rfl, hk, hno⟩ := hrel
  have HN := Lib.hid hno
  clear hno
  by_cases hlt : k < d.sec.length
  ·obtain ⟨b1, o1, rfl, g1⟩ := r1 k hlt
   obtain ⟨u1, q1, t1⟩ := g1 k hlt
   obtain rfl := t1.val
   have q1' := hx.cell q1
   have HR := Lib.hid r1
   clear g1 r1 t1 q1
   have htk : (d.sec.take (k + 1)).any badRaw = badRaw d.sec[k] := by
    rw [← List.take_append_getElem hlt, List.any_append, HN.out]; simp
   have HT := Lib.hid htk
   clear htk
   by_cases hp : badRaw d.sec[k] = true
   ·have hm : devMay d = false := by
     have : d.sec.any badRaw = true := List.any_eq_true.2 ⟨d.sec[k], List.getElem_mem hlt, hp⟩
     unfold devMay; rw [this]; simp
    have hs : (((d.sec[k]).size : Int) != 30) = true := by unfold badRaw at hp; simpa [bne] using hp
    have HM := Lib.hid hm
    clear hm hp
    go_wp2
    go_ret
    exact ⟨ret_bool HM.out.symm, hx⟩
   ·rw [Bool.not_eq_true] at hp
    have hs : (((d.sec[k]).size : Int) != 30) = false := by unfold badRaw at hp; simpa [bne] using hp
    have HP := Lib.hid hp
    clear hp
    go_wp2
    go_round
    case rel => exact ⟨k + 1, by go_num, by omega, by rw [HT.out, HP.out]⟩
    case measure => simp [intOf]; omega
  ·obtain rfl : k = d.sec.length := by omega
   rw [List.take_length] at HN
   clear r1
   by_cases k1 : inB d.sec.length 1 64 = true
   ·obtain ⟨k2, k3⟩ := inB_true k1
    clear k1
    go_wp2_with (go_at_call 55; refine (in_true _ _ _ _ k2 k3).mono ?_; rintro e w1 ⟨rfl, rfl⟩)
    go_ret
    refine ⟨ret_bool ?_, hx⟩
    unfold devMay
    rw [HN.out, decide_eq_true (by omega : 1 ≤ d.sec.length), decide_eq_true (by omega : d.sec.length ≤ 64)]
    simp
    rw [Bool.eq_iff_iff]
    simp
    omega
   ·rw [Bool.not_eq_true] at k1
    have k2 := inB_false k1
    clear k1
    go_wp2_with (go_at_call 55; refine (in_false _ _ _ _ k2).mono ?_; rintro e w1 ⟨rfl, rfl⟩)
    go_ret
    refine ⟨ret_bool ?_, hx⟩
    have : devMay d = false := by
     unfold devMay
     simp
     omega
    rw [this]
def arrMay : List Dev → Bool
 | [x, y, z] => devMay x && devMay y && devMay z && decide (16 ≤ x.sec.length) && decide (x.sec.length % 2 = 0) && decide (y.sec.length = x.sec.length) && decide (z.sec.length = x.sec.length / 2)
 | _ => false
theorem arrMay_len {a : List Dev} (h : a.length ≠ 3) : arrMay a = false := by
 match a, h with
 | [], _ => rfl
 | [_], _ => rfl
 | [_, _], _ => rfl
 | [_, _, _], h => exact absurd rfl h
 | _ :: _ :: _ :: _ :: _, _ => rfl
theorem arrMay_all {a : List Dev} {k : Nat} (hk : k < a.length) (h : devMay a[k] = false) : arrMay a = false := by
 match a, hk with
 | [x, y, z], hk =>
  match k, hk with
  | 0, _ => have h' : devMay x = false := h
            simp [arrMay, h']
  | 1, _ => have h' : devMay y = false := h
            simp [arrMay, h']
  | 2, _ => have h' : devMay z = false := h
            simp [arrMay, h']
 | [_], _ => rfl
 | [_, _], _ => rfl
 | _ :: _ :: _ :: _ :: _, _ => rfl
def arrCode (a : List Dev) : Int := if arrMay a then 0 else 9
theorem arrCode_false {a : List Dev} (h : arrMay a = false) : arrCode a = 9 := by unfold arrCode; rw [h]; rfl
theorem arrCode_true {a : List Dev} (h : arrMay a = true) : arrCode a = 0 := by unfold arrCode; rw [h]; rfl
theorem three {α : Type} {l : List α} (h : l.length = 3) : ∃ a b c, l = [a, b, c] := by
 match l, h with
 | [a, b, c], _ => exact ⟨a, b, c, rfl⟩
theorem arrMay_eq {a : List Dev} (h : a.length = 3) : arrMay a = (devMay (a[0]'(by omega)) && devMay (a[1]'(by omega)) && devMay (a[2]'(by omega)) && decide (16 ≤ (a[0]'(by omega)).sec.length) && decide ((a[0]'(by omega)).sec.length % 2 = 0) &&
  decide ((a[1]'(by omega)).sec.length = (a[0]'(by omega)).sec.length) && decide ((a[2]'(by omega)).sec.length = (a[0]'(by omega)).sec.length / 2)) := by
 obtain ⟨x, y, z, rfl⟩ := three h
 rfl
theorem arrCheck_any (cs : List Value) (a : List Dev) (w : World) (h : RArr w cs a) :
  Calls Tryz.prog 73 #[.agg cs.toArray] w fun e w' => e = .returned (.int .i64 (arrCode a)) ∧ Ext w w' := by
 obtain ⟨v, rfl, h1⟩ := h
 obtain ⟨A0, c0, rfl, hb0, hc0, hr⟩ := h1.rowR
 clear h1
 by_cases h3 : a.length = 3
 ·have hr0 := hr
  have H3 := Lib.hid h3
  have h3i : ((a.length : Int) != 3) = false := by simp; omega
  clear h3
  go_enter Tryz.func73, Tryz.ntmps73
  go_wp2
  refine wp_abs (fun W => Ext w W ∧ Blk_ W w.heap.size 24 #[.slice A0 a.length c0]) ⟨(Ext.refl _).alloc _, Blk_.new _ _ _⟩ ?_
  rintro W ⟨hx, hb⟩
  go_loopw [14] (fun i wr => ∃ k : Nat, i = .int .i64 k ∧ k ≤ a.length ∧ Ext w wr ∧ Blk_ wr w.heap.size 24 #[.slice A0 a.length c0] ∧ ∀ j, (hj : j < a.length) → j < k → devMay a[j] = true) (fun i _ => a.length - (intOf i).toNat)
  case atStart => exact ⟨0, rfl, Nat.zero_le _, hx, hb, fun j _ h => absurd h (by omega)⟩
  case round =>
   clear hx hb
   obtain ⟨k, rfl, hk, hx, hb, hall⟩ := hrel
   have HA := Lib.hid hall
   clear hall
   have f0 := hb.cell 0
   simp at f0
   by_cases hlt : k < a.length
   ·obtain ⟨b, o, rfl, g⟩ := hr k hlt
    obtain ⟨cs1, n1, q1, d1⟩ := g k hlt
    obtain ⟨B1, k1, B2, k2, rfl⟩ := d1.form
    have r0 := hx.cell (q1 0 _ rfl)
    have r1 := hx.cell (q1 1 _ rfl)
    simp only [Nat.add_zero] at r0
    have HR := Lib.hid hr
    have HR0 := Lib.hid hr0
    clear g q1 n1 hr hr0
    go_wp2_with fail
    refine calls_abs (fun W => Ext wr W) ((Ext.refl _).alloc _) ?_
    intro W1 hx1
    refine (devCheck_any [.slice B1 a[k].sec.length k1, .slice B2 a[k].lost.length k2] a[k] W1 (d1.up (hx.trans hx1))).mono ?_
    rintro e w2 ⟨rfl, hx2⟩
    cases hm : devMay a[k] with
    | false =>
     have hf : devCode a[k] = 9 := by unfold devCode; rw [hm]; rfl
     have hfin := arrCode_false (arrMay_all hlt hm)
     have HF := Lib.hid hfin
     rw [hf]
     clear hm hf hfin d1
     go_wp2
     go_ret
     exact ⟨ret_int HF.out.symm, (hx.trans hx1).trans hx2⟩
    | true =>
     have hf : devCode a[k] = 0 := by unfold devCode; rw [hm]; rfl
     rw [hf]
     have HM := Lib.hid hm
     clear hm hf d1
     go_wp2
     go_roundw
     case rel =>
      refine ⟨k + 1, by go_num, by omega, (hx.trans hx1).trans hx2, (hb.ext hx1).ext hx2, fun j hj hjk => ?_⟩
      by_cases hje : j = k
      ·subst hje; exact HM.out
      ·exact HA.out j hj (by omega)
     case measure => simp [intOf]; omega
   ·have hk' : k = a.length := by omega
    have HK := Lib.hid hk'
    clear hk'
    have l0 : 0 < a.length := by have := H3.out; omega
    have l1 : 1 < a.length := by have := H3.out; omega
    have l2 : 2 < a.length := by have := H3.out; omega
    obtain ⟨b, o, rfl, g⟩ := hr 0 l0
    obtain ⟨cs0, n0, q0, d0⟩ := g 0 l0
    obtain ⟨cs1, n1, q1, d1⟩ := g 1 l1
    obtain ⟨cs2, n2, q2, d2⟩ := g 2 l2
    obtain ⟨B1, k1, B2, k2, rfl⟩ := d0.form
    obtain ⟨B3, k3, B4, k4, rfl⟩ := d1.form
    obtain ⟨B5, k5, B6, k6, rfl⟩ := d2.form
    have r0 := hx.cell (q0 0 _ rfl)
    have r1 := hx.cell (q1 0 _ rfl)
    have r2 := hx.cell (q2 0 _ rfl)
    simp only [Nat.add_zero, Nat.zero_mul, Nat.one_mul] at r0 r1 r2
    have m0 : devMay a[0] = true := HA.out 0 l0 (by have := HK.out; omega)
    have m1 : devMay a[1] = true := HA.out 1 l1 (by have := HK.out; omega)
    have m2 : devMay a[2] = true := HA.out 2 l2 (by have := HK.out; omega)
    have hdef := arrMay_eq H3.out
    rw [m0, m1, m2] at hdef
    have hxl := (devMay_len m0).2.1
    clear m0 m1 m2 q0 q1 q2 n0 n1 n2 d0 d1 d2 g hr hr0 HA
    generalize a[0] = x at *
    generalize a[1] = y at *
    generalize a[2] = z at *
    have HD := Lib.hid hdef
    clear hdef
    by_cases e1 : x.sec.length < 16
    ·have e1' : decide ((x.sec.length : Int) < 16) = true := by simp; omega
     have hfin : arrCode a = 9 := arrCode_false (by rw [HD.out, decide_eq_false (by omega : ¬ 16 ≤ x.sec.length)]; rfl)
     have HF := Lib.hid hfin
     clear hfin e1
     go_wp2
     go_ret
     exact ⟨ret_int HF.out.symm, hx⟩
    ·have e1' : decide ((x.sec.length : Int) < 16) = false := by simp; omega
     by_cases e2 : x.sec.length % 2 = 0
     ·have e2' : ((x.sec.length : Int) % 2 != 0) = false := by simp; omega
      by_cases e3 : y.sec.length = x.sec.length
      ·have e3' : ((y.sec.length : Int) != (x.sec.length : Int)) = false := by simp; omega
       by_cases e4 : z.sec.length = x.sec.length / 2
       ·have e4' : ((z.sec.length : Int) != (x.sec.length : Int) / 2) = false := by simp; omega
        have hfin : arrCode a = 0 := arrCode_true (by rw [HD.out, decide_eq_true (by omega : 16 ≤ x.sec.length), decide_eq_true e2, decide_eq_true e3, decide_eq_true e4]; rfl)
        have HF := Lib.hid hfin
        clear hfin e1 e2 e3 e4
        go_wp2
        go_ret
        exact ⟨ret_int HF.out.symm, hx⟩
       ·have e4' : ((z.sec.length : Int) != (x.sec.length : Int) / 2) = true := by simp; omega
        have hfin : arrCode a = 9 := arrCode_false (by rw [HD.out, decide_eq_false e4]; simp)
        have HF := Lib.hid hfin
        clear hfin e1 e2 e3 e4
        go_wp2
        go_ret
        exact ⟨ret_int HF.out.symm, hx⟩
      ·have e3' : ((y.sec.length : Int) != (x.sec.length : Int)) = true := by simp; omega
       have hfin : arrCode a = 9 := arrCode_false (by rw [HD.out, decide_eq_false e3]; simp)
       have HF := Lib.hid hfin
       clear hfin e1 e2 e3
       go_wp2
       go_ret
       exact ⟨ret_int HF.out.symm, hx⟩
     ·have e2' : ((x.sec.length : Int) % 2 != 0) = true := by simp; omega
      have hfin : arrCode a = 9 := arrCode_false (by rw [HD.out, decide_eq_false e2]; simp)
      have HF := Lib.hid hfin
      clear hfin e1 e2
      go_wp2
      go_ret
      exact ⟨ret_int HF.out.symm, hx⟩
 ·have hfin := arrCode_false (arrMay_len h3)
  have h3i : ((a.length : Int) != 3) = true := by simp; omega
  rw [hfin]
  clear hfin hr h3
  go_enter Tryz.func73, Tryz.ntmps73
  go_wp2
  go_ret
  exact ⟨rfl, (Ext.refl _).alloc _⟩
theorem arrMay_any (cs : List Value) (a : List Dev) (w : World) (h : RArr w cs a) :
  Calls Tryz.prog 84 #[.agg cs.toArray] w fun e w' => e = .returned (.bool (arrMay a)) ∧ Ext w w' := by
 obtain ⟨v, rfl, h1⟩ := h
 obtain ⟨A0, c0, rfl, hb0, hc0, hr⟩ := h1.rowR
 clear h1
 by_cases h3 : a.length = 3
 ·have hr0 := hr
  have H3 := Lib.hid h3
  have h3i : ((a.length : Int) != 3) = false := by simp; omega
  clear h3
  go_enter Tryz.func84, Tryz.ntmps84
  go_wp2
  refine wp_abs (fun W => Ext w W ∧ Blk_ W w.heap.size 24 #[.slice A0 a.length c0]) ⟨(Ext.refl _).alloc _, Blk_.new _ _ _⟩ ?_
  rintro W ⟨hx, hb⟩
  go_loopw [3] (fun i wr => ∃ k : Nat, i = .int .i64 k ∧ k ≤ 3 ∧ Ext w wr ∧ Blk_ wr w.heap.size 24 #[.slice A0 a.length c0] ∧ ∀ j, (hj : j < a.length) → j < k → devMay a[j] = true) (fun i _ => 3 - (intOf i).toNat)
  case atStart => exact ⟨0, rfl, Nat.zero_le _, hx, hb, fun j _ h => absurd h (by omega)⟩
  case round =>
   clear hx hb
   obtain ⟨k, rfl, hk, hx, hb, hall⟩ := hrel
   have HA := Lib.hid hall
   clear hall
   have f0 := hb.cell 0
   simp at f0
   have hl3 : a.length = 3 := H3.out
   by_cases hlt3 : k < 3
   ·have hlt : k < a.length := by omega
    clear hl3
    obtain ⟨b, o, rfl, g⟩ := hr k hlt
    obtain ⟨cs1, n1, q1, d1⟩ := g k hlt
    obtain ⟨B1, k1, B2, k2, rfl⟩ := d1.form
    have r0 := hx.cell (q1 0 _ rfl)
    have r1 := hx.cell (q1 1 _ rfl)
    simp only [Nat.add_zero] at r0
    have HR := Lib.hid hr
    have HR0 := Lib.hid hr0
    clear g q1 n1 hr hr0
    go_wp2_with fail
    refine (devMay_any [.slice B1 a[k].sec.length k1, .slice B2 a[k].lost.length k2] a[k] wr (d1.up hx)).mono ?_
    rintro e w2 ⟨rfl, hx2⟩
    cases hm : devMay a[k] with
    | false =>
     have hfin := arrMay_all hlt hm
     have HF := Lib.hid hfin
     clear hm hfin d1
     go_wp2
     go_ret
     exact ⟨ret_bool HF.out.symm, hx.trans hx2⟩
    | true =>
     have HM := Lib.hid hm
     clear hm d1
     go_wp2
     go_roundw
     case rel =>
      refine ⟨k + 1, by go_num, by omega, hx.trans hx2, hb.ext hx2, fun j hj hjk => ?_⟩
      by_cases hje : j = k
      ·subst hje; exact HM.out
      ·exact HA.out j hj (by omega)
     case measure => simp [intOf]; omega
   ·have hk' : k = a.length := by omega
    clear hl3
    have HK := Lib.hid hk'
    clear hk'
    have l0 : 0 < a.length := by have := H3.out; omega
    have l1 : 1 < a.length := by have := H3.out; omega
    have l2 : 2 < a.length := by have := H3.out; omega
    obtain ⟨b, o, rfl, g⟩ := hr 0 l0
    obtain ⟨cs0, n0, q0, d0⟩ := g 0 l0
    obtain ⟨cs1, n1, q1, d1⟩ := g 1 l1
    obtain ⟨cs2, n2, q2, d2⟩ := g 2 l2
    obtain ⟨B1, k1, B2, k2, rfl⟩ := d0.form
    obtain ⟨B3, k3, B4, k4, rfl⟩ := d1.form
    obtain ⟨B5, k5, B6, k6, rfl⟩ := d2.form
    have r0 := hx.cell (q0 0 _ rfl)
    have r1 := hx.cell (q1 0 _ rfl)
    have r2 := hx.cell (q2 0 _ rfl)
    simp only [Nat.add_zero, Nat.zero_mul, Nat.one_mul] at r0 r1 r2
    have m0 : devMay a[0] = true := HA.out 0 l0 (by have := HK.out; omega)
    have m1 : devMay a[1] = true := HA.out 1 l1 (by have := HK.out; omega)
    have m2 : devMay a[2] = true := HA.out 2 l2 (by have := HK.out; omega)
    have hdef := arrMay_eq H3.out
    rw [m0, m1, m2] at hdef
    have hxl := (devMay_len m0).2.1
    clear m0 m1 m2 q0 q1 q2 n0 n1 n2 d0 d1 d2 g hr hr0 HA
    generalize a[0] = x at *
    generalize a[1] = y at *
    generalize a[2] = z at *
    have HD := Lib.hid hdef
    clear hdef
    have hIn : ∀ (b : Bool), inB x.sec.length 16 64 = b → b = decide (16 ≤ x.sec.length) := by
     intro b hb; rw [← hb]; unfold inB; rw [Bool.eq_iff_iff]; simp; omega
    by_cases e1 : 16 ≤ x.sec.length
    ·have n1 : (16 : Int) ≤ (x.sec.length : Int) := by omega
     have n2 : (x.sec.length : Int) ≤ 64 := by omega
     by_cases e2 : x.sec.length % 2 = 0
     ·have e2' : ((x.sec.length : Int) % 2 == 0) = true := by simp; omega
      by_cases e3 : y.sec.length = x.sec.length
      ·have e3' : ((y.sec.length : Int) == (x.sec.length : Int)) = true := by simp; omega
       have hfin : arrMay a = decide (z.sec.length = x.sec.length / 2) := by rw [HD.out, decide_eq_true e1, decide_eq_true e2, decide_eq_true e3]; simp
       have HF := Lib.hid hfin
       clear hfin e1 e2 e3 hIn
       go_wp2_with (go_at_call 55; refine (in_true _ _ _ _ n1 n2).mono ?_; rintro e w1 ⟨rfl, rfl⟩)
       go_ret
       exact ⟨ret_bool (by rw [HF.out, Bool.eq_iff_iff]; simp; omega), hx⟩
      ·have e3' : ((y.sec.length : Int) == (x.sec.length : Int)) = false := by simp; omega
       have hfin : arrMay a = false := by rw [HD.out, decide_eq_false e3]; simp
       have HF := Lib.hid hfin
       clear hfin e1 e2 e3 hIn
       go_wp2_with (go_at_call 55; refine (in_true _ _ _ _ n1 n2).mono ?_; rintro e w1 ⟨rfl, rfl⟩)
       go_ret
       exact ⟨ret_bool HF.out.symm, hx⟩
     ·have e2' : ((x.sec.length : Int) % 2 == 0) = false := by simp; omega
      have hfin : arrMay a = false := by rw [HD.out, decide_eq_false e2]; simp
      have HF := Lib.hid hfin
      clear hfin e1 e2 hIn
      go_wp2_with (go_at_call 55; refine (in_true _ _ _ _ n1 n2).mono ?_; rintro e w1 ⟨rfl, rfl⟩)
      go_ret
      exact ⟨ret_bool HF.out.symm, hx⟩
    ·have n1 : (x.sec.length : Int) < 16 ∨ (64 : Int) < (x.sec.length : Int) := by omega
     have hfin : arrMay a = false := by rw [HD.out, decide_eq_false e1]; rfl
     have HF := Lib.hid hfin
     clear hfin e1 hIn
     go_wp2_with (go_at_call 55; refine (in_false _ _ _ _ n1).mono ?_; rintro e w1 ⟨rfl, rfl⟩)
     go_ret
     exact ⟨ret_bool HF.out.symm, hx⟩
 ·have hfin := arrMay_len h3
  have h3i : ((a.length : Int) != 3) = true := by simp; omega
  rw [hfin]
  clear hfin hr h3
  go_enter Tryz.func84, Tryz.ntmps84
  go_wp2
  go_ret
  exact ⟨rfl, (Ext.refl _).alloc _⟩
def nameMay (s : ByteArray) : Bool := decide (1 ≤ s.size) && decide (s.size ≤ 8) && !((lst s).any badByte)
theorem bytes_read (w : World) (s : ByteArray) (e : TypeId) (cap : Nat) (fr : Nat × Nat) (hc : s.size ≤ cap) (hs : s.size ≤ 140737488355328) :
  SlR 1 1 RByte (w.drew.alloc (.cells (bytesRow s cap) e fr)) (.slice (some ⟨w.heap.size, 0, none⟩) s.size cap) (lst s) := by
 refine ⟨some ⟨w.heap.size, 0, none⟩, cap, by rw [length_lst], by rw [length_lst]; omega, by rw [length_lst]; exact hc, ?_⟩
 right
 refine ⟨w.heap.size, 0, rfl, fun i hi => ⟨[.int .u8 (lst s)[i].toNat], rfl, fun j hj => ?_, rfl⟩⟩
 have hj0 : j = 0 := by omega
 subst hj0
 have hi' : i < s.data.size := by rw [length_lst] at hi; exact hi
 rw [show (⟨w.heap.size, 0 + i * 1 + 0, none⟩ : Addr) = ⟨w.drew.heap.size, i, none⟩ from by simp, World.cell?_alloc_mark, bytesRow_at s cap i hi']
 rfl
theorem name_any (s : ByteArray) (w : World) (hs : s.size ≤ 140737488355328) :
  Calls Tryz.prog 33 #[.string s] w fun e w' => e = .returned (.bool (nameMay s)) ∧ Ext w w' := by
 by_cases h1 : s.size = 0
 ·have hm : nameMay s = false := by unfold nameMay; rw [decide_eq_false (by omega : ¬ 1 ≤ s.size)]; rfl
  have hl : s.toList = [] := by rw [toList_lst]; exact List.eq_nil_of_length_eq_zero (by rw [length_lst]; exact h1)
  have hl2 : (!s.toList.isEmpty) = false := by rw [hl]; rfl
  rw [hm]
  clear hm h1
  go_enter Tryz.func33, Tryz.ntmps33
  go_wp2
  go_ret
  exact ⟨rfl, Ext.refl _⟩
 ·have hl : s.toList.isEmpty = false := by
   rw [toList_lst]
   cases h : lst s with
   | nil => exfalso; apply h1; rw [← length_lst, h]; rfl
   | cons a l => rfl
  have hl2 : (!s.toList.isEmpty) = true := by rw [hl]; rfl
  by_cases h2 : s.size ≤ 8
  ·have hm : nameMay s = !((lst s).any badByte) := by
    unfold nameMay; rw [decide_eq_true (by omega : 1 ≤ s.size), decide_eq_true h2]; simp
   have h2' : decide ((s.size : Int) ≤ 8) = true := by simp; omega
   have HM := Lib.hid hm
   have hconv := fun W => run_bytes_of_string (P := Tryz.prog) W 9 47 5 s Tryz.underlying9 Tryz.underlying47 Tryz.underlying5
   clear hm h1
   go_enter Tryz.func33, Tryz.ntmps33
   go_wp2_with fail
   refine (contains_byte _ (lst s) _ (bytes_read w s _ _ _ (grownCap_ge _ _ _ _) hs)).mono ?_
   rintro e w1 ⟨rfl, rfl⟩
   clear hconv
   go_wp2
   go_ret
   exact ⟨ret_bool HM.out.symm, ((Ext.refl w).alloc _).drew⟩
  ·have hm : nameMay s = false := by unfold nameMay; rw [decide_eq_false h2]; simp
   have h2' : decide ((s.size : Int) ≤ 8) = false := by simp; omega
   rw [hm]
   clear hm h1
   go_enter Tryz.func33, Tryz.ntmps33
   go_wp2
   go_ret
   exact ⟨rfl, Ext.refl _⟩
theorem badByte_in (c : UInt8) : badByte c = (!(inB (c.toNat : Int) 97 122) && !(inB (c.toNat : Int) 48 57)) := by
 unfold badByte inB
 rw [Bool.eq_iff_iff]
 simp
theorem nameMay_any (s : ByteArray) (w : World) (hs : s.size ≤ 140737488355328) :
  Calls Tryz.prog 56 #[.string s] w fun e w' => e = .returned (.bool (nameMay s)) ∧ w = w' := by
 go_enter Tryz.func56, Tryz.ntmps56
 go_wp2
 go_loop [3] (fun i => ∃ k : Nat, i = .int .i64 k ∧ k ≤ s.size ∧ ((lst s).take k).any badByte = false) (fun i => s.size - (intOf i).toNat)
 case atStart => exact ⟨0, rfl, Nat.zero_le _, rfl⟩
 case round =>
  obtain ⟨k, rfl, hk, hno⟩ := hrel
  have HN := Lib.hid hno
  clear hno
  by_cases hlt : k < s.size
  ·have hb := u8_hi s[k]
   have htk : ((lst s).take (k + 1)).any badByte = badByte s[k] := any_snoc s k hlt HN.out
   have hmem : badByte s[k] = true → (lst s).any badByte = true := any_mem s k hlt
   have hbad := badByte_in s[k]
   have HT := Lib.hid htk
   have HM := Lib.hid hmem
   have HB := Lib.hid hbad
   clear htk hmem hbad
   by_cases h1 : inB (s[k].toNat : Int) 97 122 = true
   ·have g1 := inB_true h1
    have H1 := Lib.hid h1
    have G1 := Lib.hid g1
    clear h1 g1
    go_wp2_with fail
    refine (in_true _ _ _ _ G1.out.1 G1.out.2).mono ?_
    rintro e w1 ⟨rfl, rfl⟩
    go_wp2
    go_round
    case rel => exact ⟨k + 1, by go_num, by omega, by rw [HT.out, HB.out, H1.out]; rfl⟩
    case measure => simp [intOf]; omega
   ·rw [Bool.not_eq_true] at h1
    have g1 := inB_false h1
    have H1 := Lib.hid h1
    have G1 := Lib.hid g1
    clear h1 g1
    by_cases h2 : inB (s[k].toNat : Int) 48 57 = true
    ·have g2 := inB_true h2
     have H2 := Lib.hid h2
     have G2 := Lib.hid g2
     clear h2 g2
     go_wp2_with fail
     refine (in_false _ _ _ _ G1.out).mono ?_
     rintro e w1 ⟨rfl, rfl⟩
     go_wp2_with fail
     refine (in_true _ _ _ _ G2.out.1 G2.out.2).mono ?_
     rintro e w1 ⟨rfl, rfl⟩
     go_wp2
     go_round
     case rel => exact ⟨k + 1, by go_num, by omega, by rw [HT.out, HB.out, H1.out, H2.out]; rfl⟩
     case measure => simp [intOf]; omega
    ·rw [Bool.not_eq_true] at h2
     have g2 := inB_false h2
     have H2 := Lib.hid h2
     have G2 := Lib.hid g2
     clear h2 g2
     go_wp2_with fail
     refine (in_false _ _ _ _ G1.out).mono ?_
     rintro e w1 ⟨rfl, rfl⟩
     go_wp2_with fail
     refine (in_false _ _ _ _ G2.out).mono ?_
     rintro e w1 ⟨rfl, rfl⟩
     go_wp2
     go_ret
     refine ⟨ret_bool ?_, rfl⟩
     unfold nameMay
     rw [HM.out (by rw [HB.out, H1.out, H2.out]; rfl)]
     simp
  ·have hfin : ((lst s).take k).any badByte = (lst s).any badByte := by rw [take_ge s k (by omega)]
   have HF := Lib.hid hfin
   clear hfin
   have hin : inB (s.size : Int) 1 8 = (decide (1 ≤ s.size) && decide (s.size ≤ 8)) := by
    unfold inB; rw [Bool.eq_iff_iff]; simp; omega
   have HI := Lib.hid hin
   clear hin
   go_wp2_with fail
   refine (in_any _ _ _ _).mono ?_
   rintro e w1 ⟨rfl, rfl⟩
   go_wp2
   go_ret
   refine ⟨ret_bool ?_, rfl⟩
   unfold nameMay
   rw [← HF.out, HN.out]
   have := HI.out
   simp only [Bool.not_false, Bool.and_true]
   exact this
def sectorNo (s : ByteArray) (h : 2 ≤ s.size) : Int := (256 : Int) * ((s[0]'(by omega)).toNat : Int) + ((s[1]'(by omega)).toNat : Int)
def decodeS (no : Int) (s : ByteArray) : ByteArray × Int :=
 if h : s.size = 30 then
  if (bs (sealOf (lst (s.extract 0 26)))).toList == (s.extract 26 s.size).toList then (if sectorNo s (by omega) = no then (s.extract 2 26, 0) else (.empty, 4)) else (.empty, 10)
 else (.empty, 1)
theorem sector_bits (a b : Nat) (ha : a < 256) (hb : b < 256) : bits .or .i64 ((a : Int) * 256) (b : Int) = 256 * (a : Int) + (b : Int) := by
 have e : ((a : Int) * 256) = ((a * 256 : Nat) : Int) := by omega
 show IntKind.i64.wrap ((BitVec.ofInt 64 ((a : Int) * 256) ||| BitVec.ofInt 64 (b : Int)).toNat : Int) = _
 rw [BitVec.toNat_or, e, ofInt_u64 _ (by omega), ofInt_u64 _ (by omega), nat_join 8 _ _ (by omega) (by omega), IntKind.wrap_i64]
 omega
theorem decode_any (no : Int) (s : ByteArray) (w : World) (hs : s.size ≤ 140737488355328) (hn : I64 no) :
  Calls Tryz.prog 116 #[.int .i64 no, .string s] w fun e w' => e = .returned (.tuple #[.string (decodeS no s).1, .int .i64 (decodeS no s).2]) ∧ Ext w w' := by
 by_cases h30 : s.size = 30
 ·have b1 : 30 ≤ s.size := by omega
  have b2 : s.size ≤ 30 := by omega
  have h30' : ((s.size : Int) != 30) = false := by simp; omega
  have H30 := Lib.hid h30
  have hsz : (s.extract 0 26).size ≤ 140737488355328 := by simp; omega
  have HZ := Lib.hid hsz
  have i1 : (26 : Int) ≤ (s.size : Int) := by omega
  have i2 : (0 : Int) < (s.size : Int) := by omega
  have i3 : (1 : Int) < (s.size : Int) := by omega
  have i4 : 0 < s.size := by omega
  have i5 : 1 < s.size := by omega
  clear h30 hsz hs
  cases hseal : ((bs (sealOf (lst (s.extract 0 26)))).toList == (s.extract 26 s.size).toList) with
  | false =>
   have hfin : decodeS no s = (.empty, 10) := by unfold decodeS; rw [dif_pos H30.out, hseal]; rfl
   have HF := Lib.hid hfin
   clear hfin
   go_enter Tryz.func116, Tryz.ntmps116
   go_wp2
   go_region_held3 (fun _ => True) (trivial) (first | (go_at_call 127; refine (sumOf_any _ _ HZ.out).mono ?_; rintro _ w1 ⟨rfl, f1⟩))
   go_wp2
   go_ret2
   rw [HF.out]
   exact ⟨rfl, (Ext.refl w).drew.trans f1⟩
  | true =>
   have c0 := u8_hi (s[0]'(by omega))
   have c1 := u8_hi (s[1]'(by omega))
   have hdef : decodeS no s = (if sectorNo s (by omega) = no then (s.extract 2 26, 0) else (.empty, 4)) := by unfold decodeS; rw [dif_pos H30.out, hseal]; rfl
   have HD := Lib.hid hdef
   clear hdef
   go_enter Tryz.func116, Tryz.ntmps116
   go_wp2
   go_region_held3 (fun _ => True) (trivial) (first | (go_at_call 127; refine (sumOf_any _ _ HZ.out).mono ?_; rintro _ w1 ⟨rfl, f1⟩))
   go_wp2
   go_quiet (fail)
   have hbits := sector_bits (s[0]'i4).toNat (s[1]'i5).toNat (UInt8.toNat_lt _) (UInt8.toNat_lt _)
   have HB := Lib.hid hbits
   clear hbits
   go_wp2
   ·go_ret2
    rename_i hno
    have hno' : sectorNo s (by omega) ≠ no := by unfold sectorNo; rw [← HB.out]; simpa using hno
    rw [HD.out, if_neg hno']
    exact ⟨rfl, ((Ext.refl w).drew.trans f1).drewN _⟩
   ·go_ret2
    rename_i hno
    have hno' : sectorNo s (by omega) = no := by unfold sectorNo; rw [← HB.out]; simpa using hno
    rw [HD.out, if_pos hno']
    exact ⟨rfl, ((Ext.refl w).drew.trans f1).drewN _⟩
 ·have h30' : ((s.size : Int) != 30) = true := by simp; omega
  have hfin : decodeS no s = (.empty, 1) := by unfold decodeS; rw [dif_neg h30]
  rw [hfin]
  clear hfin h30
  go_enter Tryz.func116, Tryz.ntmps116
  go_wp2
  go_ret2
  exact ⟨rfl, Ext.refl _⟩
theorem payloadOf_any (no : Int) (s : ByteArray) (w : World) (hs : s.size ≤ 140737488355328) (hn : I64 no) :
  Calls Tryz.prog 125 #[.int .i64 no, .string s] w fun e w' => e = .returned (.tuple #[.string (decodeS no s).1, .int .i64 (decodeS no s).2]) ∧ Ext w w' := by
 by_cases h30 : s.size = 30
 ·have b1 : 30 ≤ s.size := by omega
  have b2 : s.size ≤ 30 := by omega
  have h30' : ((s.size : Int) != 30) = false := by simp; omega
  have H30 := Lib.hid h30
  have hsz : (s.extract 0 26).size ≤ 140737488355328 := by simp; omega
  have HZ := Lib.hid hsz
  have i1 : (26 : Int) ≤ (s.size : Int) := by omega
  have i2 : (0 : Int) < (s.size : Int) := by omega
  have i3 : (1 : Int) < (s.size : Int) := by omega
  have i4 : 0 < s.size := by omega
  have i5 : 1 < s.size := by omega
  clear h30 hsz hs
  cases hseal : ((bs (sealOf (lst (s.extract 0 26)))).toList == (s.extract 26 s.size).toList) with
  | false =>
   have hfin : decodeS no s = (.empty, 10) := by unfold decodeS; rw [dif_pos H30.out, hseal]; rfl
   have HF := Lib.hid hfin
   clear hfin
   go_enter Tryz.func125, Tryz.ntmps125
   go_wp2
   go_region_held3 (fun _ => True) (trivial) (first | (go_at_call 126; refine (sealOf_any _ _ HZ.out).mono ?_; rintro _ w1 ⟨rfl, f1⟩))
   go_wp2
   go_ret2
   rw [HF.out]
   exact ⟨rfl, (Ext.refl w).drew.trans f1⟩
  | true =>
   have c0 := u8_hi (s[0]'(by omega))
   have c1 := u8_hi (s[1]'(by omega))
   have hdef : decodeS no s = (if sectorNo s (by omega) = no then (s.extract 2 26, 0) else (.empty, 4)) := by unfold decodeS; rw [dif_pos H30.out, hseal]; rfl
   have HD := Lib.hid hdef
   clear hdef
   go_enter Tryz.func125, Tryz.ntmps125
   go_wp2
   go_region_held3 (fun _ => True) (trivial) (first | (go_at_call 126; refine (sealOf_any _ _ HZ.out).mono ?_; rintro _ w1 ⟨rfl, f1⟩))
   go_wp2
   go_quiet (fail)
   go_wp2
   ·go_ret2
    rename_i hno
    have hno' : sectorNo s (by omega) ≠ no := by unfold sectorNo; simpa using hno
    rw [HD.out, if_neg hno']
    exact ⟨rfl, ((Ext.refl w).drew.trans f1).drewN _⟩
   ·go_ret2
    rename_i hno
    have hno' : sectorNo s (by omega) = no := by unfold sectorNo; simpa using hno
    rw [HD.out, if_pos hno']
    exact ⟨rfl, ((Ext.refl w).drew.trans f1).drewN _⟩
 ·have h30' : ((s.size : Int) != 30) = true := by simp; omega
  have hfin : decodeS no s = (.empty, 1) := by unfold decodeS; rw [dif_neg h30]
  rw [hfin]
  clear hfin h30
  go_enter Tryz.func125, Tryz.ntmps125
  go_wp2
  go_ret2
  exact ⟨rfl, Ext.refl _⟩
end Go.Proofs.YtjadmfdlggnlgaaGreatDoor
