/-
  array.New, archive.New and the document's ArrayOf: an array of three new devices; the laws ArrayNews and ArchiveNews. Conditions: none.
-/
import Derived.Test.YtgjijcgkmofaaaaGreatDoorU4
namespace Go.Proofs.YtgjijcgkmofaaaaGreatDoor
set_option linter.unusedSimpArgs false
set_option linter.unusedVariables false
set_option maxRecDepth 100000
set_option maxHeartbeats 8000000
open Go.RowKit
theorem arr_good {m : Nat} (h1 : 16 ≤ m) (h2 : m ≤ 64) (h3 : m % 2 = 0) : newArrS m = ([freshDev m 0, freshDev m 0, freshDev (m / 2) 512], 0) := by
 unfold newArrS; rw [if_pos (by simp [inB]; omega)]; rfl
theorem arr_bad {many : Int} (h : ¬ (16 ≤ many ∧ many ≤ 64 ∧ many % 2 = 0)) : newArrS many = ([], 2) := by
 unfold newArrS; rw [if_neg (by simp [inB]; omega)]
def devAt (m : Nat) (d : Int) : Dev := if d = 2 then freshDev (m / 2) 512 else freshDev m 0
theorem arrFresh_any (m : Nat) (d : Int) (w : World) (h1 : 16 ≤ m) (h2 : m ≤ 64) (hd : 0 ≤ d ∧ d ≤ 2) :
  Calls Tryz.prog 70 #[.int .i64 m, .int .i64 d] w fun e w' => ∃ A1 c1 A2 c2, e = .returned (.tuple #[.agg #[.slice A1 (devAt m d).sec.length c1, .slice A2 (devAt m d).lost.length c2], .int .i64 0]) ∧ Ext w w' ∧
   ODev 9 4 w' w.heap.size (.slice A1 (devAt m d).sec.length c1) (.slice A2 (devAt m d).lost.length c2) (devAt m d) := by
 by_cases h : d = 2
 ·subst h
  have he : devAt m 2 = freshDev (m / 2) 512 := rfl
  have hq : ((m : Int) / 2) = ((m / 2 : Nat) : Int) := by omega
  have hng := new_good (m := m / 2) (f := 512) (by omega) (by omega) (by omega)
  have HQ := Lib.hid (And.intro he (And.intro hq hng))
  clear he hq hng
  have b1 : (0 : Int) ≤ (m : Int) / 2 := by omega
  have b2 : (m : Int) / 2 ≤ 64 := by omega
  go_enter Tryz.func70, Tryz.ntmps70
  go_wp2_with fail
  refine (devNew_any ((m : Int) / 2) 512 _ ⟨by omega, by omega⟩ ⟨by decide, by decide⟩).mono ?_
  rintro e w2 ⟨A1, c1, A2, c2, rfl, hx2, hod⟩
  rw [HQ.out.2.1] at hod ⊢
  have hng : newDevS ((m / 2 : Nat) : Int) 512 = (freshDev (m / 2) 512, 0) := HQ.out.2.2
  rw [hng] at hod ⊢
  have hb := (Blk_.new w 68 #[.slice none 0 0, .slice none 0 0]).ext hx2
  have y0 := hb.cell 0
  have y1 := hb.cell 1
  have x0 := hb.frozen 0
  have x1 := hb.frozen 1
  simp at y0 y1
  have HB := Lib.hid ((hb.set 0 (.slice A1 (freshDev (m / 2) 512).sec.length c1)).set 1 (.slice A2 (freshDev (m / 2) 512).lost.length c2))
  have HX := Lib.hid (((Ext.refl w).alloc _).trans hx2)
  have HO := Lib.hid hod
  clear hng hb hod hx2
  go_wp2_with fail
  refine bodyPost_ret (res_cell_tmp rfl rfl HB.out Tryz.underlying68 rfl (by kernel_rfl)) rfl ?_
  rw [HQ.out.1]
  refine ⟨A1, c1, A2, c2, rfl, (HX.out.setCell (p := ⟨w.heap.size, 0, none⟩) (Nat.le_refl _) _).setCell (p := ⟨w.heap.size, 1, none⟩) (Nat.le_refl _) _, ?_⟩
  exact ((HO.out.far (p := ⟨w.heap.size, 0, none⟩) (by simp) _).far (p := ⟨w.heap.size, 1, none⟩) (by simp) _).base (by simp)
 ·have he : devAt m d = freshDev m 0 := by unfold devAt; rw [if_neg h]
  have hng := new_good (m := m) (f := 0) (by omega) (by omega) (by omega)
  have HQ := Lib.hid (And.intro he hng)
  have hdb : (d == 2) = false := by simpa using h
  clear he hng h
  have b2 : (m : Int) ≤ 64 := by omega
  go_enter Tryz.func70, Tryz.ntmps70
  go_wp2_with fail
  refine (devNew_any (m : Int) 0 _ ⟨by omega, by omega⟩ ⟨by decide, by decide⟩).mono ?_
  rintro e w2 ⟨A1, c1, A2, c2, rfl, hx2, hod⟩
  have hng : newDevS (m : Int) 0 = (freshDev m 0, 0) := HQ.out.2
  rw [hng] at hod ⊢
  have hb := (Blk_.new w 68 #[.slice none 0 0, .slice none 0 0]).ext hx2
  have y0 := hb.cell 0
  have y1 := hb.cell 1
  have x0 := hb.frozen 0
  have x1 := hb.frozen 1
  simp at y0 y1
  have HB := Lib.hid ((hb.set 0 (.slice A1 (freshDev m 0).sec.length c1)).set 1 (.slice A2 (freshDev m 0).lost.length c2))
  have HX := Lib.hid (((Ext.refl w).alloc _).trans hx2)
  have HO := Lib.hid hod
  clear hng hb hod hx2
  go_wp2_with fail
  refine bodyPost_ret (res_cell_tmp rfl rfl HB.out Tryz.underlying68 rfl (by kernel_rfl)) rfl ?_
  rw [HQ.out.1]
  refine ⟨A1, c1, A2, c2, rfl, (HX.out.setCell (p := ⟨w.heap.size, 0, none⟩) (Nat.le_refl _) _).setCell (p := ⟨w.heap.size, 1, none⟩) (Nat.le_refl _) _, ?_⟩
  exact ((HO.out.far (p := ⟨w.heap.size, 0, none⟩) (by simp) _).far (p := ⟨w.heap.size, 1, none⟩) (by simp) _).base (by simp)
def firstDevs (m : Nat) (k : Nat) : List Dev := (List.range k).map fun (i : Nat) => devAt m i
theorem firstDevs_len (m k : Nat) : (firstDevs m k).length = k := by unfold firstDevs; simp
theorem firstDevs_succ (m k : Nat) : firstDevs m (k + 1) = firstDevs m k ++ [devAt m k] := by unfold firstDevs; rw [List.range_succ, List.map_append]; rfl
theorem firstDevs_three (m : Nat) : firstDevs m 3 = [freshDev m 0, freshDev m 0, freshDev (m / 2) 512] := rfl
theorem arrNew_any (many : Int) (w : World) (hm : I64 many) :
  Calls Tryz.prog 42 #[.int .i64 many] w fun e w' => ∃ A c, e = .returned (.tuple #[.agg #[.slice A (newArrS many).1.length c], .int .i64 (newArrS many).2]) ∧ Ext w w' ∧ OArr 68 w' w.heap.size (.slice A (newArrS many).1.length c) (newArrS many).1 := by
 by_cases hok : 16 ≤ many ∧ many ≤ 64 ∧ many % 2 = 0
 ·obtain ⟨h1, h2, h3⟩ := hok
  obtain ⟨m, rfl⟩ := Int.eq_ofNat_of_zero_le (show 0 ≤ many by omega)
  have HF := Lib.hid (arr_good (m := m) (by omega) (by omega) (by omega))
  have HM := Lib.hid (And.intro (show 16 ≤ m by omega) (show m ≤ 64 by omega))
  have t1 : decide ((m : Int) < 16) = false := by simp; omega
  have t2 : decide ((64 : Int) < (m : Int)) = false := by simp; omega
  have t3 : ((m : Int) % 2 != 0) = false := by simp; omega
  have b2 : (m : Int) ≤ 64 := by omega
  obtain ⟨i0, hi, hz0, hz1, hz2⟩ := info_parts info_dev
  have HI := Lib.hid (And.intro hi (And.intro hz0 (And.intro hz1 hz2)))
  clear hi hz0 hz1 hz2 h1 h2 h3 hm
  go_enter Tryz.func42, Tryz.ntmps42
  go_wp2_with fail
  refine wp_abs (fun W => Ext w W ∧ Blk_ W w.heap.size 30 #[.slice none 0 0] ∧ Blk_ W (w.heap.size + 1) 30 #[.slice none 0 0]) ⟨((Ext.refl _).alloc _).alloc _, (Blk_.new _ _ _).alloc _, Blk_.new1 _ _ _ _⟩ ?_
  rintro W ⟨hx, hb1, hb2⟩
  clear t1 t2 t3
  go_loopw [21] (fun i wr => ∃ (k : Nat) (A : Option Addr) (c : Nat), i = .int .i64 k ∧ k ≤ 3 ∧ Ext w wr ∧ Blk_ wr w.heap.size 30 #[.slice none 0 0] ∧ Blk_ wr (w.heap.size + 1) 30 #[.slice A k c] ∧ OArr 68 wr (w.heap.size + 2) (.slice A k c) (firstDevs m k)) (fun i _ => 3 - (intOf i).toNat)
  case atStart => exact ⟨0, none, 0, rfl, Nat.zero_le _, hx, hb1, hb2, OArr.nil _ _ _⟩
  case round =>
   clear hx hb1 hb2
   obtain ⟨k, A, c, rfl, hk, hx, hb1, hb2, ho⟩ := hrel
   by_cases hlt : k < 3
   ·have hk3 : (k : Int) < 3 := by omega
    go_wp2_with fail
    refine (arrFresh_any m (k : Int) _ HM.out.1 HM.out.2 ⟨by omega, by omega⟩).mono ?_
    rintro e w2 ⟨A1, c1, A2, c2, rfl, hx2, hod⟩
    have hsn := firstDevs_succ m k
    generalize devAt m (k : Int) = dd at *
    have HSN := Lib.hid hsn
    have f0 := (hb2.ext hx2).cell 0
    simp at f0
    have hl1 := hb2.lt
    have hl2 := (hb2.ext hx2).lt
    have HX2 := Lib.hid (hx.trans hx2)
    have ne0 : ¬ (w.heap.size + 1 = w2.heap.size) := by omega
    have ne1 : ¬ (w2.heap.size = w.heap.size + 1) := by omega
    have e3 : Ext wr ((w2.alloc (.cells #[.slice A1 dd.sec.length c1, .slice A2 dd.lost.length c2] 68)).alloc (.cells #[.slice A1 dd.sec.length c1, .slice A2 dd.lost.length c2] 68)) := (hx2.alloc _).alloc _
    have hdn := hod.dev.up (((Ext.refl _).alloc (.cells #[.slice A1 dd.sec.length c1, .slice A2 dd.lost.length c2] 68)).alloc (.cells #[.slice A1 dd.sec.length c1, .slice A2 dd.lost.length c2] 68))
    obtain ⟨xs0, hown0, _⟩ := ho.pushes
    obtain ⟨xs, hown, hpush⟩ := (ho.ext e3).pushes
    rw [firstDevs_len] at hown hpush
    have HOWN := Lib.hid hown
    have HPUSH := Lib.hid hpush
    have HOWN0 := Lib.hid hown0
    have HE3 := Lib.hid e3
    have HDN := Lib.hid hdn
    have HNEW := Lib.hid (And.intro hod.new1 hod.new2)
    have HB1 := Lib.hid hb1
    have HB2 := Lib.hid hb2
    have HXR := Lib.hid hx
    clear hsn hown hpush hown0 e3 hdn hod hb1 hb2 hx2 hx ho
    go_wp2_with (at_builtin; refine wpList_append_at _ rfl (.tmp 35) (.tmp 37) 28 rfl (w.heap.size + 2) 68 i0 (.agg #[.slice none 0 0, .slice none 0 0]) 2 48 Tryz.underlying28 HI.out.1 HI.out.2.1 HI.out.2.2.1 HI.out.2.2.2 rfl (by decide) _ k xs rfl HOWN.out ⟨w2.heap.size + 1, 0, none⟩ 1 1 [.slice A1 dd.sec.length c1, .slice A2 dd.lost.length c2] rfl rfl ?c1 ?c2 ?c3 ?c4 ?c5 ?_)
    case c1 =>
     intro j u hu
     rw [Addr.add_lit, Nat.zero_add, (Blk_.new1 w2 _ 68 _).cell]
     simpa using hu
    case c2 =>
     intro u hu
     simp at hu
     rcases hu with rfl | rfl <;> rfl
    case c3 => unfold maxLen; omega
    case c4 => omega
    case c5 => simp; omega
    intro A' c' w4 hown' hg' hb'
    have hbase : ∀ g, (Value.slice A k c).ownBlock = some g → w.heap.size + 2 ≤ g := fun g hgg => (HOWN.out.lt g hgg).1
    have hox : OArr 68 w4 (w.heap.size + 2) (.slice A' (k + 1) c') (firstDevs m k ++ [dd]) := HPUSH.out w4 _ _ _ _ hown' hg' (by rw [World.size_alloc, World.size_alloc]; exact hb') HDN.out (fun g hgg => by
     refine HDN.out.newG HNEW.out.1 HNEW.out.2 ?_
     exact (HOWN0.out.lt g hgg).2) (HNEW.out.1.mono (by omega)) (HNEW.out.2.mono (by omega))
    have HX4 := Lib.hid ((HXR.out.trans HE3.out).grown hg' (fun g hgg => by have := hbase g hgg; omega))
    have HJ1 := Lib.hid ((HB1.out.ext HE3.out).grown hg' (fun g hgg => by have := hbase g hgg; omega))
    have j2 := (HB2.out.ext HE3.out).grown hg' (fun g hgg => by have := hbase g hgg; omega)
    have HJ2 := Lib.hid j2
    have HOX := Lib.hid hox
    have j2c := j2.cell 0
    have j2f := j2.frozen 0
    simp at j2c
    clear hox hown' hg' hb' hbase j2 f0
    go_wp2_with fail
    go_roundw
    case rel =>
     refine ⟨k + 1, A', c', by go_num, by omega, HX4.out.setCell (by dsimp only; omega) _, HJ1.out.far (by dsimp only; omega) _, HJ2.out.set 0 _, ?_⟩
     rw [HSN.out]
     exact HOX.out.far (by dsimp only; omega) _
    case measure => simp [intOf]; omega
   ·obtain rfl : k = 3 := by omega
    have f0 := hb2.cell 0
    have f1 := hb1.cell 0
    have f2 := hb1.frozen 0
    simp at f0 f1
    have HB := Lib.hid (hb1.set 0 (.slice A 3 c))
    clear hlt hk
    go_wp2_with fail
    refine bodyPost_ret (res_cell_tmp rfl rfl HB.out Tryz.underlying30 rfl (by kernel_rfl)) rfl ?_
    rw [HF.out, ← firstDevs_three]
    exact ⟨A, c, rfl, hx.setCell (by dsimp only; omega) _, (ho.far (by dsimp only; omega) _).base (by omega)⟩
 ·have HF := Lib.hid (arr_bad hok)
  have hcs : (decide (many < 16) = true) ∨ (decide (many < 16) = false ∧ decide ((64 : Int) < many) = true) ∨ (0 ≤ many ∧ decide (many < 16) = false ∧ decide ((64 : Int) < many) = false ∧ (many % 2 != 0) = true) := by
   simp only [decide_eq_true_eq, decide_eq_false_iff_not, bne_iff_ne, ne_eq]; omega
  clear hok hm
  rcases hcs with t1 | ⟨t1, t2⟩ | ⟨t0, t1, t2, t3⟩
  ·go_enter Tryz.func42, Tryz.ntmps42
   go_wp2_with fail
   refine bodyPost_ret (res_cell_tmp rfl rfl (Blk_.new w 30 #[.slice none 0 0]) Tryz.underlying30 rfl (by kernel_rfl)) rfl ?_
   rw [HF.out]
   exact ⟨none, 0, rfl, (Ext.refl w).alloc _, OArr.nil _ _ _⟩
  ·go_enter Tryz.func42, Tryz.ntmps42
   go_wp2_with fail
   refine bodyPost_ret (res_cell_tmp rfl rfl (Blk_.new w 30 #[.slice none 0 0]) Tryz.underlying30 rfl (by kernel_rfl)) rfl ?_
   rw [HF.out]
   exact ⟨none, 0, rfl, (Ext.refl w).alloc _, OArr.nil _ _ _⟩
  ·go_enter Tryz.func42, Tryz.ntmps42
   go_wp2_with fail
   refine bodyPost_ret (res_cell_tmp rfl rfl (Blk_.new w 30 #[.slice none 0 0]) Tryz.underlying30 rfl (by kernel_rfl)) rfl ?_
   rw [HF.out]
   exact ⟨none, 0, rfl, (Ext.refl w).alloc _, OArr.nil _ _ _⟩
theorem archNew_any (many : Int) (w : World) (hm : I64 many) :
  Calls Tryz.prog 20 #[.int .i64 many] w fun e w' => ∃ A c, e = .returned (.tuple #[.agg #[.slice A (newArrS many).1.length c], .int .i64 (newArrS many).2]) ∧ Ext w w' ∧ OArr 68 w' w.heap.size (.slice A (newArrS many).1.length c) (newArrS many).1 := by
 go_enter Tryz.func20, Tryz.ntmps20
 go_wp2_with fail
 refine (arrNew_any many _ hm).mono ?_
 rintro e w2 ⟨A, c, rfl, hx2, ho⟩
 have hb := (Blk_.new w 30 #[.slice none 0 0]).ext hx2
 have y0 := hb.cell 0
 have x0 := hb.frozen 0
 simp at y0
 have HB := Lib.hid (hb.set 0 (.slice A (newArrS many).1.length c))
 have HX := Lib.hid (((Ext.refl w).alloc _).trans hx2)
 have HO := Lib.hid ho
 clear hb ho hx2
 go_wp2_with fail
 refine bodyPost_ret (res_cell_tmp rfl rfl HB.out Tryz.underlying30 rfl (by kernel_rfl)) rfl ?_
 refine ⟨A, c, rfl, HX.out.setCell (p := ⟨w.heap.size, 0, none⟩) (Nat.le_refl _) _, ?_⟩
 exact (HO.out.far (p := ⟨w.heap.size, 0, none⟩) (by simp) _).base (by simp)
theorem own_buf {w : World} {base : Nat} {e : TypeId} {A : Option Addr} {n c : Nat} {l : List UInt8} (h : w.ownsRow base e 1 (.slice A n c) n (l.flatMap encByte)) (hn : 0 < n) : ∃ g, A = some ⟨g, 0, none⟩ ∧ base ≤ g ∧ Buf e w g l ∧ n = l.length := by
 have h' := h
 have hlen : n = l.length := by
  have h1 := h.1
  rw [length_flatMap (C := 1) (fun _ => rfl)] at h1
  omega
 rcases h.2 with ⟨hv, h0⟩ | ⟨g, cap, cur, hv, hb, hg, _⟩
 ·omega
 ·injection hv with a1 a2 a3
  subst a1
  refine ⟨g, rfl, hb, ⟨cur, (0, 0), hg, fun i hi => ?_, fun i hi => by simp⟩, hlen⟩
  have hc := h'.cellAt i (by omega)
  rw [cell_of_row w g i cur e (0, 0) hg] at hc
  rw [hc]
  have := flatMap_at (enc := encByte) (C := 1) (fun _ => rfl) l i 0 hi (by decide)
  rw [Nat.mul_one, Nat.add_zero] at this
  rw [this, List.getD_eq_getElem?_getD, List.getElem?_eq_getElem hi]
  rfl
theorem info_byte : (Tryz.prog.info? 5).map (fun i => (i.zero, i.size, i.bytes)) = some (some (.int .u8 0), 1, 1) := by kernel_rfl
def xorTo (s t : ByteArray) (k : Nat) : List UInt8 := (List.zipWith (fun a b => a ^^^ b) (lst s) (lst t)).take k ++ (lst s).drop k
theorem xorTo_zero (s t : ByteArray) : xorTo s t 0 = lst s := by unfold xorTo; simp
theorem xorTo_len {s t : ByteArray} (h : s.size = t.size) (k : Nat) (hk : k ≤ s.size) : (xorTo s t k).length = s.size := by
 unfold xorTo; rw [List.length_append, List.length_take, List.length_zipWith, List.length_drop, length_lst, length_lst]; omega
theorem xorTo_end {s t : ByteArray} (h : s.size = t.size) : bs (xorTo s t s.size) = xorS s t := by
 unfold xorTo xorS
 rw [List.take_of_length_le (by rw [List.length_zipWith, length_lst, length_lst]; omega), List.drop_of_length_le (by rw [length_lst]; exact Nat.le_refl _), List.append_nil]
theorem xorTo_at {s t : ByteArray} (h : s.size = t.size) (k : Nat) (hk : k < s.size) : (xorTo s t k).getD k 0 = s[k] := by
 unfold xorTo
 have hl : ((List.zipWith (fun a b => a ^^^ b) (lst s) (lst t)).take k).length = k := by rw [List.length_take, List.length_zipWith, length_lst, length_lst]; omega
 rw [List.getD_eq_getElem?_getD, List.getElem?_append_right (by omega), hl, Nat.sub_self, List.getElem?_drop, Nat.add_zero, List.getElem?_eq_getElem (by rw [length_lst]; exact hk)]
 rfl
theorem xorTo_succ {s t : ByteArray} (h : s.size = t.size) (k : Nat) (hk : k < s.size) : (xorTo s t k).set k (s[k] ^^^ t[k]'(by omega)) = xorTo s t (k + 1) := by
 unfold xorTo
 have hl : ((List.zipWith (fun a b => a ^^^ b) (lst s) (lst t)).take k).length = k := by rw [List.length_take, List.length_zipWith, length_lst, length_lst]; omega
 have hz : k < (List.zipWith (fun a b => a ^^^ b) (lst s) (lst t)).length := by rw [List.length_zipWith, length_lst, length_lst]; omega
 rw [List.set_append_right _ _ (by omega), hl, Nat.sub_self, List.drop_eq_getElem_cons (by rw [length_lst]; exact hk), List.set_cons_zero, List.take_succ_eq_append_getElem hz, List.getElem_zipWith, List.append_assoc]
 rfl
theorem xor_byte (a b : UInt8) : bits .xor .u8 (a.toNat : Int) (b.toNat : Int) = ((a ^^^ b).toNat : Int) := by
 rw [u8_xor_nat _ _ (UInt8.toNat_lt _) (UInt8.toNat_lt _)]
 simp
theorem xor_any (s t : ByteArray) (w : World) (h : s.size = t.size) (hs : s.size ≤ 140737488355328) :
  Calls Tryz.prog 138 #[.string s, .string t] w fun e w' => e = .returned (.string (xorS s t)) ∧ Ext w w' := by
 have HE := Lib.hid h
 go_enter Tryz.func138, Tryz.ntmps138
 clear h
 go_wp2_with (refine wpList_tobytes (.tmp 7) 9 95 5 rfl rfl Tryz.underlying9 Tryz.underlying95 Tryz.underlying5 s rfl ?_)
 intro g cap w1 hg ex1 hb1 hcap
 have HB1 := Lib.hid hb1
 have HX1 := Lib.hid ex1
 clear hb1 ex1
 go_wp2_with fail
 go_loopw [11] (fun i wr => ∃ k : Nat, i = .int .i64 k ∧ k ≤ s.size ∧ Ext w wr ∧ Buf 5 wr g (xorTo s t k)) (fun i _ => s.size - (intOf i).toNat)
 case atStart => exact ⟨0, rfl, Nat.zero_le _, HX1.out, by rw [xorTo_zero]; exact HB1.out⟩
 case round =>
  clear HB1 HX1
  obtain ⟨k, rfl, hk, hx, hb⟩ := hrel
  by_cases hlt : k < s.size
  ·have hlt2 : k < t.size := by have := HE.out; omega
   have hki : (k : Int) < (s.size : Int) := by omega
   have hki2 : (k : Int) < (t.size : Int) := by omega
   have hbl : k < (xorTo s t k).length := by rw [xorTo_len HE.out k hk]; exact hlt
   have bp := hb.cell k hbl
   have bz := hb.frozen k hbl
   rw [xorTo_at HE.out k hlt] at bp
   have hxb := xor_byte (s[k]) (t[k])
   have c0 := u8_hi s[k]
   have c1 := u8_hi t[k]
   have hset := hb.set k (((s[k] ^^^ t[k]).toNat : Int)) (u8_lo _) (u8_hi _)
   rw [byte_u8, xorTo_succ HE.out k hlt] at hset
   have HSET := Lib.hid hset
   have HXB := Lib.hid hxb
   clear hb hset hbl hxb
   go_wp2_with fail
   refine wp_region_begin (S := fun W' => W'.cell? ⟨g, k, none⟩ = some (.int .u8 (s[k].toNat : Int))) (n := 9) (by kernel_rfl) rfl (by kernel_rfl) rfl ?_
   have hS0 : (fun W' => W'.cell? ⟨g, k, none⟩ = some (.int .u8 (s[k].toNat : Int))) wr.drew := bp
   refine tkL 0 rfl (fun w' hS => by (try dsimp only at hS); go_simp; rfl) hS0 ?_
   refine tkL 1 rfl (fun w' hS => by (try dsimp only at hS); go_simp; rfl) hS0 ?_
   refine tkL 2 rfl (fun w' hS => by (try dsimp only at hS); go_simp; rfl) hS0 ?_
   try simp only [Act.put, List.setIfInBounds_toArray, List.set_cons_zero, List.set_cons_succ]
   refine tkL 3 rfl (fun w' hS => by (try dsimp only at hS); go_simp; rfl) hS0 ?_
   refine tkL 4 rfl (fun w' hS => by (try dsimp only at hS); go_simp; rfl) hS0 ?_
   refine tkL 5 rfl (fun w' hS => by (try dsimp only at hS); go_simp; rfl) hS0 ?_
   try simp only [Act.put, List.setIfInBounds_toArray, List.set_cons_zero, List.set_cons_succ]
   refine tkL 6 rfl (fun w' hS => by (try dsimp only at hS); go_simp; rfl) hS0 ?_
   refine tkL 7 rfl (fun w' hS => by (try dsimp only at hS); go_simp; rfl) hS0 ?_
   try simp only [Act.put, List.setIfInBounds_toArray, List.set_cons_zero, List.set_cons_succ]
   rw [HXB.out]
   refine tkL 8 rfl (fun w' hS => by (try dsimp only at hS); go_simp; rfl) hS0 ?_
   try simp only [Act.put, List.setIfInBounds_toArray, List.set_cons_zero, List.set_cons_succ]
   refine wpAnyH_endL (by kernel_rfl) (fun K hK => ?_)
   go_wp2_with fail
   go_roundw
   case rel => exact ⟨k + 1, by go_num, by omega, (hx.drew).setCell (by dsimp only; omega) _, HSET.out⟩
   case measure => simp [intOf]; omega
  ·obtain rfl : k = s.size := by omega
   have HLN := Lib.hid (xorTo_len HE.out s.size hk)
   have hfin := xorTo_end HE.out
   have HFN := Lib.hid hfin
   have HBB := Lib.hid hb
   clear hb hfin
   go_wp2_with (refine wpList_frombytes (.tmp 24) 95 9 5 rfl rfl Tryz.underlying95 Tryz.underlying5 Tryz.underlying9 g s.size cap _ HBB.out HLN.out.symm rfl ?_)
   rw [HFN.out]
   go_wp2_with fail
   go_ret
   exact ⟨rfl, hx⟩
def sumB : List UInt8 → Int
 | [] => 0
 | c :: l => (c.toNat : Int) + sumB l
theorem sealFold_fst (l : List UInt8) (p : Int × Int) : (l.foldl sealStep p).1 % 65521 = (p.1 + sumB l) % 65521 := by
 induction l generalizing p with
 | nil => simp [sumB]
 | cons c l ih =>
  rw [List.foldl_cons, ih]
  simp only [sealStep, sumB]
  omega
theorem sealXY_fst (l : List UInt8) : (sealXY l).1 = (1 + sumB l) % 65521 := by
 have h := sealXY_range l
 have := sealFold_fst l (1, 0)
 unfold sealXY at h ⊢
 unfold InRange at h
 omega
theorem byte_toNat (n : Int) (h0 : 0 ≤ n) (h1 : n < 256) : ((byte n).toNat : Int) = n := by
 unfold byte
 rw [UInt8.toNat_ofNat']
 omega
theorem sumB_set (l : List UInt8) (k : Nat) (hk : k < l.length) (c : UInt8) : sumB (l.set k c) = sumB l - (l[k].toNat : Int) + (c.toNat : Int) := by
 induction l generalizing k with
 | nil => simp at hk
 | cons a l ih =>
  cases k with
  | zero => simp only [List.set_cons_zero, sumB, List.getElem_cons_zero]; omega
  | succ k =>
   have := ih k (by simpa using hk)
   simp only [List.set_cons_succ, sumB, List.getElem_cons_succ, this]; omega
theorem seal_fst {l l' : List UInt8} (h : sealOf l = sealOf l') : (sealXY l).1 = (sealXY l').1 := by
 unfold sealOf sealBytes at h
 simp only [List.cons.injEq, and_true] at h
 obtain ⟨_, _, h1, h2⟩ := h
 have r := sealXY_range l
 have r' := sealXY_range l'
 unfold InRange at r r'
 have e1 := byte_toNat ((sealXY l).1 / 256) (by omega) (by omega)
 have e2 := byte_toNat ((sealXY l').1 / 256) (by omega) (by omega)
 have e3 := byte_toNat ((sealXY l).1 % 256) (by omega) (by omega)
 have e4 := byte_toNat ((sealXY l').1 % 256) (by omega) (by omega)
 rw [h1] at e1
 rw [h2] at e3
 omega
theorem seal_tells (l : List UInt8) (k : Nat) (hk : k < l.length) (c : UInt8) (hc : c ≠ l[k]) : sealOf (l.set k c) ≠ sealOf l := by
 intro h
 have h1 := seal_fst h
 rw [sealXY_fst, sealXY_fst, sumB_set l k hk c] at h1
 have b1 := u8_bd c
 have b2 := u8_bd l[k]
 apply hc
 apply UInt8.toNat_inj.1
 omega
def padS (s : ByteArray) : ByteArray := bs (lst s ++ List.replicate (24 - s.size) 0)
theorem padS_size {s : ByteArray} (h : s.size ≤ 24) : (padS s).size = 24 := by
 unfold padS; rw [size_bs, List.length_append, List.length_replicate, length_lst]; omega
theorem lst_extract (s : ByteArray) (a b : Nat) : lst (s.extract a b) = sub_ s a b := by
 unfold lst sub_
 rw [ByteArray.data_extract, Array.toList_extract]
 simp [List.extract, List.drop_take, lst]
theorem sectorNo_at (s : ByteArray) (h : 2 ≤ s.size) : sectorNo s h = 256 * ((at_ s 0).toNat : Int) + ((at_ s 1).toNat : Int) := by
 unfold sectorNo; rw [at_eq s 0 (by omega), at_eq s 1 (by omega)]
theorem decodeS_eq (no : Int) (s : ByteArray) : decodeS no s = if s.size = 30 then (if sealOf ((lst s).take 26) = (lst s).drop 26 then (if 256 * ((at_ s 0).toNat : Int) + ((at_ s 1).toNat : Int) = no then (bs (((lst s).take 26).drop 2), 0) else (.empty, 4)) else (.empty, 10)) else (.empty, 1) := by
 unfold decodeS
 by_cases h : s.size = 30
 ·rw [dif_pos h, if_pos h, sectorNo_at]
  have e1 : lst (s.extract 0 26) = (lst s).take 26 := by rw [lst_extract]; rfl
  have e2 : (s.extract 26 s.size).toList = (lst s).drop 26 := by rw [toList_lst, lst_extract]; unfold sub_; rw [take_all]
  have e3 : s.extract 2 26 = bs (((lst s).take 26).drop 2) := lst_inj (by rw [lst_extract, lst_bs]; rfl)
  rw [e1, e2, e3, toList_lst, lst_bs]
  by_cases h2 : sealOf ((lst s).take 26) = (lst s).drop 26
  ·rw [if_pos (by simpa using h2), if_pos h2]
  ·rw [if_neg (by simpa using h2), if_neg h2]
 ·rw [dif_neg h, if_neg h]
theorem lst_enc {no : Int} {s : ByteArray} (h0 : 0 ≤ no) (h1 : no ≤ 65535) (h2 : s.size ≤ 24) : lst (encodeS no s).1 = rawS no s ++ sealOf (rawS no s) := by
 rw [encodeS_ok h0 h1 h2]; exact lst_bs _
theorem at_lst (s : ByteArray) (k : Nat) : at_ s k = (lst s).getD k 0 := by
 unfold at_
 split
 ·rename_i h
  rw [List.getD_eq_getElem?_getD, List.getElem?_eq_getElem (by rw [length_lst]; exact h)]
  rfl
 ·rename_i h
  rw [List.getD_eq_getElem?_getD, List.getElem?_eq_none (by rw [length_lst]; omega)]
  rfl
theorem decode_encode (no no' : Int) (s : ByteArray) (h0 : 0 ≤ no) (h1 : no ≤ 65535) (h2 : s.size ≤ 24) : decodeS no' (encodeS no s).1 = if no = no' then (padS s, 0) else (.empty, 4) := by
 have hl := lst_enc h0 h1 h2
 have hr := rawS_length (no := no) h2
 rw [decodeS_eq, if_pos (encodeS_size h0 h1 h2), hl, List.take_left' hr, List.drop_left' hr, if_pos rfl, at_lst, at_lst, hl]
 have e1 := byte_toNat (no / 256) (by omega) (by omega)
 have e2 := byte_toNat (no % 256) (by omega) (by omega)
 have e3 : (rawS no s ++ sealOf (rawS no s)).getD 0 0 = byte (no / 256) := rfl
 have e4 : (rawS no s ++ sealOf (rawS no s)).getD 1 0 = byte (no % 256) := rfl
 rw [e3, e4, e1, e2, show 256 * (no / 256) + no % 256 = no from by omega]
 rfl
theorem decode_spoilt (no no' : Int) (s : ByteArray) (h0 : 0 ≤ no) (h1 : no ≤ 65535) (h2 : s.size ≤ 24) (k : Nat) (hk : k < 30) (c : UInt8) (hc : c ≠ at_ (encodeS no s).1 k) :
  decodeS no' (bs ((lst (encodeS no s).1).set k c)) = (.empty, 10) := by
 have hl := lst_enc h0 h1 h2
 have hr := rawS_length (no := no) h2
 have hsz := encodeS_size h0 h1 h2
 have hz : (bs ((lst (encodeS no s).1).set k c)).size = 30 := by rw [size_bs, List.length_set, length_lst, hsz]
 rw [decodeS_eq, if_pos hz, lst_bs]
 have ha : at_ (encodeS no s).1 k = (rawS no s ++ sealOf (rawS no s)).getD k 0 := by rw [at_lst, hl]
 rw [ha] at hc
 rw [hl]
 by_cases h26 : k < 26
 ·have e1 : ((rawS no s ++ sealOf (rawS no s)).set k c) = (rawS no s).set k c ++ sealOf (rawS no s) := by rw [List.set_append_left _ _ (by omega)]
  rw [e1, List.take_left' (by rw [List.length_set, hr]), List.drop_left' (by rw [List.length_set, hr])]
  rw [if_neg]
  refine seal_tells _ k (by omega) c ?_
  rw [List.getD_eq_getElem?_getD, List.getElem?_append_left (by omega), List.getElem?_eq_getElem (by omega)] at hc
  exact hc
 ·have e1 : ((rawS no s ++ sealOf (rawS no s)).set k c) = rawS no s ++ (sealOf (rawS no s)).set (k - 26) c := by rw [List.set_append_right _ _ (by omega), hr]
  rw [e1, List.take_left' hr, List.drop_left' hr]
  rw [if_neg]
  intro he
  have hk4 : k - 26 < (sealOf (rawS no s)).length := by rw [length_sealOf]; omega
  have := congrArg (fun l => l[k - 26]?) he
  simp only [List.getElem?_set_self hk4] at this
  rw [List.getD_eq_getElem?_getD, List.getElem?_append_right (by omega), hr, this] at hc
  exact hc rfl
theorem devMay_iff {d : Dev} : devMay d = true ↔ 1 ≤ d.sec.length ∧ d.sec.length ≤ 64 ∧ d.lost.length = d.sec.length ∧ ∀ s ∈ d.sec, s.size = 30 := by
 constructor
 ·exact devMay_len
 ·rintro ⟨h1, h2, h3, h4⟩
  unfold devMay
  have h5 : d.sec.any badRaw = false := by
   rw [List.any_eq_false]
   intro s hs
   unfold badRaw
   have := h4 s hs
   simp [this]
  simp [h1, h2, h3, h5]
theorem touch_iff {d : Dev} {n : Int} : touchCode d n = 0 ↔ devMay d = true ∧ 0 ≤ n ∧ n < d.sec.length := by
 constructor
 ·exact touch_zero
 ·rintro ⟨h1, h2, h3⟩
  unfold touchCode
  rw [if_pos h1, if_pos (by simp [inB]; omega)]
theorem touchCode_congr {d e : Dev} (h1 : devMay d = devMay e) (h2 : d.sec.length = e.sec.length) (n : Int) : touchCode d n = touchCode e n := by
 unfold touchCode; rw [h1, h2]
theorem devMay_set {d : Dev} (h : devMay d = true) (k : Nat) (s : ByteArray) (hs : s.size = 30) (l : List Bool) (hl : l.length = d.lost.length) : devMay ⟨d.sec.set k s, l⟩ = true := by
 obtain ⟨h1, h2, h3, h4⟩ := devMay_len h
 refine devMay_iff.2 ⟨by simpa using h1, by simpa using h2, by simp only [List.length_set]; omega, fun x hx => ?_⟩
 rcases List.mem_or_eq_of_mem_set hx with hx | rfl
 ·exact h4 x hx
 ·exact hs
theorem devMay_lost {d : Dev} (h : devMay d = true) (l : List Bool) (hl : l.length = d.lost.length) : devMay ⟨d.sec, l⟩ = true := by
 obtain ⟨h1, h2, h3, h4⟩ := devMay_len h
 exact devMay_iff.2 ⟨h1, h2, by show l.length = d.sec.length; omega, h4⟩
theorem writeS_ok {d : Dev} {n no : Int} {s : ByteArray} (h : touchCode d n = 0) (h0 : 0 ≤ no) (h1 : no ≤ 65535) (h2 : s.size ≤ 24) : writeS d n no s = (⟨d.sec.set n.toNat (encodeS no s).1, d.lost.set n.toNat false⟩, 0) := by
 unfold writeS
 rw [if_pos h, if_pos (by rw [encodeS_ok h0 h1 h2])]
theorem write_may {d : Dev} {n no : Int} {s : ByteArray} (h : touchCode d n = 0) (h0 : 0 ≤ no) (h1 : no ≤ 65535) (h2 : s.size ≤ 24) : devMay (writeS d n no s).1 = true ∧ (writeS d n no s).1.sec.length = d.sec.length := by
 rw [writeS_ok h h0 h1 h2]
 exact ⟨devMay_set (touch_zero h).1 _ _ (encodeS_size h0 h1 h2) _ (by simp), by simp⟩
theorem write_touch {d : Dev} {n no : Int} {s : ByteArray} (h : touchCode d n = 0) (h0 : 0 ≤ no) (h1 : no ≤ 65535) (h2 : s.size ≤ 24) (m : Int) : touchCode (writeS d n no s).1 m = touchCode d m := by
 have := write_may h h0 h1 h2
 exact touchCode_congr (by rw [this.1, (touch_zero h).1]) this.2 m
theorem read_eq {d : Dev} {n : Int} (no : Int) (h : touchCode d n = 0) : readS d n no = if d.lost.getD n.toNat false then (.empty, 11) else decodeS no (d.sec.getD n.toNat .empty) := by
 unfold readS; rw [if_pos h]
theorem getD_set_self {α : Type} (l : List α) (k : Nat) (a b : α) (h : k < l.length) : (l.set k a).getD k b = a := by
 rw [List.getD_eq_getElem?_getD, List.getElem?_set_self h]; rfl
theorem getD_set_ne {α : Type} (l : List α) (k j : Nat) (a b : α) (h : k ≠ j) : (l.set k a).getD j b = l.getD j b := by
 rw [List.getD_eq_getElem?_getD, List.getElem?_set_ne h, List.getD_eq_getElem?_getD]
theorem read_write {d : Dev} {n no : Int} {s : ByteArray} (h : touchCode d n = 0) (h0 : 0 ≤ no) (h1 : no ≤ 65535) (h2 : s.size ≤ 24) (no' : Int) :
  readS (writeS d n no s).1 n no' = if no = no' then (padS s, 0) else (.empty, 4) := by
 obtain ⟨hm, hn, hl⟩ := touch_zero h
 obtain ⟨m1, m2, m3, _⟩ := devMay_len hm
 rw [read_eq no' (by rw [write_touch h h0 h1 h2]; exact h), writeS_ok h h0 h1 h2]
 simp only
 rw [getD_set_self _ _ _ _ (by omega), getD_set_self _ _ _ _ (by omega), if_neg (by decide)]
 exact decode_encode no no' s h0 h1 h2
theorem read_write_other {d : Dev} {n no : Int} {s : ByteArray} (h : touchCode d n = 0) (h0 : 0 ≤ no) (h1 : no ≤ 65535) (h2 : s.size ≤ 24) (m no' : Int) (hm : 0 ≤ m) (hne : m ≠ n) :
  readS (writeS d n no s).1 m no' = readS d m no' := by
 have hn := (touch_zero h).2.1
 unfold readS
 rw [write_touch h h0 h1 h2, writeS_ok h h0 h1 h2]
 simp only
 rw [getD_set_ne _ _ _ _ _ (by omega), getD_set_ne _ _ _ _ _ (by omega)]
theorem loseS_ok {d : Dev} {n : Int} (h : touchCode d n = 0) : loseS d n = ⟨d.sec, d.lost.set n.toNat true⟩ := by unfold loseS; rw [if_pos h]
theorem lose_may {d : Dev} {n : Int} (h : touchCode d n = 0) : devMay (loseS d n) = true := by
 rw [loseS_ok h]; exact devMay_lost (touch_zero h).1 _ (by simp)
theorem lose_len {d : Dev} {n : Int} (h : touchCode d n = 0) : (loseS d n).sec.length = d.sec.length := by rw [loseS_ok h]
theorem lose_touch {d : Dev} {n : Int} (h : touchCode d n = 0) (m : Int) : touchCode (loseS d n) m = touchCode d m := touchCode_congr (by rw [lose_may h, (touch_zero h).1]) (lose_len h) m
theorem read_lose {d : Dev} {n : Int} (h : touchCode d n = 0) (no : Int) : readS (loseS d n) n no = (.empty, 11) := by
 obtain ⟨hm, hn, hl⟩ := touch_zero h
 obtain ⟨m1, m2, m3, _⟩ := devMay_len hm
 rw [read_eq no (by rw [lose_touch h]; exact h), loseS_ok h]
 simp only
 rw [getD_set_self _ _ _ _ (by omega), if_pos rfl]
theorem read_lose_other {d : Dev} {n : Int} (h : touchCode d n = 0) (m no : Int) (hm : 0 ≤ m) (hne : m ≠ n) : readS (loseS d n) m no = readS d m no := by
 have hn := (touch_zero h).2.1
 unfold readS
 rw [lose_touch h, loseS_ok h]
 simp only
 rw [getD_set_ne _ _ _ _ _ (by omega)]
theorem turnS_ok {d : Dev} {n place by_ : Int} (h : touchCode d n = 0) (hp : 0 ≤ place ∧ place ≤ 29) (hb : 0 ≤ by_ ∧ by_ ≤ 255) : turnS d n place by_ = (⟨d.sec.set n.toNat (turnB (d.sec.getD n.toNat .empty) place by_), d.lost⟩, 0) := by
 unfold turnS
 rw [if_pos h, if_pos (by simp [inB]; omega)]
theorem getD_mem {α : Type} (l : List α) (k : Nat) (a : α) (h : k < l.length) : l.getD k a ∈ l := by
 rw [List.getD_eq_getElem?_getD, List.getElem?_eq_getElem h]; exact List.getElem_mem h
theorem turn_may {d : Dev} {n place by_ : Int} (h : touchCode d n = 0) (hp : 0 ≤ place ∧ place ≤ 29) (hb : 0 ≤ by_ ∧ by_ ≤ 255) : devMay (turnS d n place by_).1 = true ∧ (turnS d n place by_).1.sec.length = d.sec.length := by
 obtain ⟨hm, hn, hl⟩ := touch_zero h
 obtain ⟨m1, m2, m3, m4⟩ := devMay_len hm
 rw [turnS_ok h hp hb]
 refine ⟨devMay_set hm _ _ ?_ _ rfl, by simp⟩
 rw [turnB_size]
 exact m4 _ (getD_mem _ _ _ (by omega))
theorem fresh_len (many : Nat) (from_ : Int) : (freshDev many from_).sec.length = many := by unfold freshDev; simp
theorem fresh_sec (many : Nat) (from_ : Int) (k : Nat) (h : k < many) : (freshDev many from_).sec.getD k .empty = (encodeS (from_ + k) .empty).1 := by
 unfold freshDev
 simp only
 rw [List.getD_eq_getElem?_getD, List.getElem?_map, List.getElem?_range h]; rfl
theorem fresh_lost (many : Nat) (from_ : Int) (k : Nat) : (freshDev many from_).lost.getD k false = false := by
 unfold freshDev
 simp only
 rw [List.getD_eq_getElem?_getD, List.getElem?_replicate]
 split <;> rfl
theorem fresh_may (many : Nat) (from_ : Int) (h1 : 1 ≤ many) (h2 : many ≤ 64) (h3 : 0 ≤ from_) (h4 : from_ ≤ 512) : devMay (freshDev many from_) = true := by
 refine devMay_iff.2 ⟨by rw [fresh_len]; exact h1, by rw [fresh_len]; exact h2, by rw [fresh_len]; simp [freshDev], fun s hs => ?_⟩
 unfold freshDev at hs
 obtain ⟨i, hi, rfl⟩ := List.mem_map.1 hs
 have := List.mem_range.1 hi
 exact encodeS_size (by omega) (by omega) (by decide)
def writeP (a : List Dev) (n : Int) (s : ByteArray) : Dev := (writeS (dv a 2) (n / 2) (512 + n / 2) s).1
def parityS (a : List Dev) (n : Int) : List Dev :=
 if (mirrorS a n).2 ≠ 0 ∧ (mirrorS a (partner n)).2 ≠ 0 then a.set 2 (writeP a n (xorS (mirrorS a n).1 (mirrorS a (partner n)).1)) else a.set 2 (loseS (dv a 2) (n / 2))
def savedS (a : List Dev) (n : Int) : List Dev := if (arrReadS a (partner n)).2.2 = 0 ∧ (arrReadS a (partner n)).2.1 = 3 then bothS a (partner n) (arrReadS a (partner n)).1 else a
def arrWrite3 (a : List Dev) (n : Int) (s : ByteArray) : List Dev := parityS (bothS (savedS a n) n s) n
def arrWriteS (a : List Dev) (n : Int) (s : ByteArray) : List Dev × Int :=
 if arrTouch a n ≠ 0 then ([], arrTouch a n) else if 24 < s.size then ([], 1) else (arrWrite3 a n s, 0)
def lostDev (d : Dev) : Dev := ⟨d.sec, List.replicate d.lost.length true⟩
def replaceS (a : List Dev) (d : Int) : List Dev × Int :=
 if !arrMay a then ([], 9) else if !inB d 0 2 then ([], 2) else (a.set d.toNat (lostDev (if d = 2 then freshDev ((dv a 0).sec.length / 2) 512 else freshDev (dv a 0).sec.length 0)), 0)
def parRightS (a : List Dev) (n : Int) : Bool × Bool :=
 if (arrReadS a n).2.2 ≠ 0 ∨ (arrReadS a (partner n)).2.2 ≠ 0 then (false, false)
 else (decide ((parS a n).2 = 0) && decide (lst (parS a n).1 = lst (xorS (arrReadS a n).1 (arrReadS a (partner n)).1)), true)
def b2i (b : Bool) : Int := if b then 1 else 0
def badS (a : List Dev) (n : Int) : Int × Int :=
 if arrTouch a n ≠ 0 then (0, arrTouch a n)
 else (b2i (decide ((readS (dv a 0) n n).2 ≠ 0)) + b2i (decide ((readS (dv a 1) n n).2 ≠ 0)) + b2i (decide (n % 2 = 0) && !(parRightS a n).1), 0)
def healthLoop (a : List Dev) : Nat → Nat → Int → List Int → Int × List Int
 | 0, _, bad, gone => (bad, gone)
 | m + 1, k, bad, gone => healthLoop a m (k + 1) (bad + (badS a k).1) (if (arrReadS a k).2.2 ≠ 0 then gone ++ [(k : Int)] else gone)
def healthS (a : List Dev) : Int × List Int × Int :=
 if !arrMay a then (0, [], 9) else ((healthLoop a (dv a 0).sec.length 0 0 []).1, (healthLoop a (dv a 0).sec.length 0 0 []).2, 0)
def streamFaultS (a : List Dev) (first n : Int) : Int :=
 if !arrMay a then 9 else if !inB n 0 1536 then 1 else if !inB first 0 (dv a 0).sec.length || decide (((dv a 0).sec.length : Int) < first + (n + 23) / 24) then 2 else 0
def streamReadLoop (a : List Dev) : Nat → Int → ByteArray → ByteArray × Int
 | 0, _, s => (s, 0)
 | m + 1, k, s => if (arrReadS a k).2.2 ≠ 0 then (.empty, (arrReadS a k).2.2) else streamReadLoop a m (k + 1) (s ++ (arrReadS a k).1)
def streamReadS (a : List Dev) (first n : Int) : ByteArray × Int :=
 if streamFaultS a first n ≠ 0 then (.empty, streamFaultS a first n)
 else if (streamReadLoop a ((n + 23) / 24).toNat first .empty).2 ≠ 0 then (.empty, (streamReadLoop a ((n + 23) / 24).toNat first .empty).2)
 else ((streamReadLoop a ((n + 23) / 24).toNat first .empty).1.extract 0 n.toNat, 0)
def streamWriteLoop : Nat → Nat → List Dev → Int → ByteArray → List Dev
 | 0, _, a, _, _ => a
 | m + 1, i, a, first, s => streamWriteLoop m (i + 1) (arrWriteS a (first + i) (s.extract (24 * i) (min (24 * i + 24) s.size))).1 first s
def streamWriteS (a : List Dev) (first : Int) (s : ByteArray) : List Dev × Int :=
 if streamFaultS a first s.size ≠ 0 then ([], streamFaultS a first s.size) else (streamWriteLoop ((s.size + 23) / 24) 0 a first s, 0)
theorem arr_three {a : List Dev} (h : arrMay a = true) : ∃ d0 d1 d2, a = [d0, d1, d2] := by
 by_cases h3 : a.length = 3
 ·exact three h3
 ·rw [arrMay_len h3] at h; cases h
theorem arr_parts {a : List Dev} (h : arrMay a = true) : a.length = 3 ∧ devMay (dv a 0) = true ∧ devMay (dv a 1) = true ∧ devMay (dv a 2) = true ∧ 16 ≤ (dv a 0).sec.length ∧ (dv a 0).sec.length ≤ 64 ∧ (dv a 0).sec.length % 2 = 0 ∧
  (dv a 1).sec.length = (dv a 0).sec.length ∧ (dv a 2).sec.length = (dv a 0).sec.length / 2 := by
 obtain ⟨d0, d1, d2, rfl⟩ := arr_three h
 have h3 : [d0, d1, d2].length = 3 := rfl
 rw [arrMay_eq h3] at h
 simp only [Bool.and_eq_true, decide_eq_true_eq, List.getElem_cons_zero, List.getElem_cons_succ] at h
 obtain ⟨⟨⟨⟨⟨⟨g0, g1⟩, g2⟩, g3⟩, g4⟩, g5⟩, g6⟩ := h
 have := (devMay_len g0).2.1
 exact ⟨rfl, g0, g1, g2, g3, this, g4, g5, g6⟩
theorem arr_made {a : List Dev} (h3 : a.length = 3) (h0 : devMay (dv a 0) = true) (h1 : devMay (dv a 1) = true) (h2 : devMay (dv a 2) = true) (g1 : 16 ≤ (dv a 0).sec.length) (g2 : (dv a 0).sec.length % 2 = 0)
  (g3 : (dv a 1).sec.length = (dv a 0).sec.length) (g4 : (dv a 2).sec.length = (dv a 0).sec.length / 2) : arrMay a = true := by
 obtain ⟨d0, d1, d2, rfl⟩ := three h3
 rw [arrMay_eq h3]
 simp only [Bool.and_eq_true, decide_eq_true_eq, List.getElem_cons_zero, List.getElem_cons_succ]
 exact ⟨⟨⟨⟨⟨⟨h0, h1⟩, h2⟩, g1⟩, g2⟩, g3⟩, g4⟩
theorem arrTouch_zero {a : List Dev} {n : Int} : arrTouch a n = 0 ↔ arrMay a = true ∧ 0 ≤ n ∧ n < (dv a 0).sec.length := by
 unfold arrTouch
 constructor
 ·intro h
  split at h
  ·rename_i h1
   split at h
   ·rename_i h2; have := inB_true h2; exact ⟨h1, this.1, by omega⟩
   ·exact absurd h (by decide)
  ·exact absurd h (by decide)
 ·rintro ⟨h1, h2, h3⟩
  rw [if_pos h1, if_pos (by simp [inB]; omega)]
theorem partner_range {a : List Dev} {n : Int} (h : arrTouch a n = 0) : arrTouch a (partner n) = 0 ∧ 0 ≤ n / 2 ∧ n / 2 < (dv a 2).sec.length ∧ partner n ≠ n ∧ partner n / 2 = n / 2 ∧ 0 ≤ partner n ∧ partner n ≤ 63 ∧ 0 ≤ n ∧ n ≤ 63 ∧ partner (partner n) = n := by
 obtain ⟨hm, h0, h1⟩ := arrTouch_zero.1 h
 obtain ⟨_, _, _, _, g1, g2, g3, g4, g5⟩ := arr_parts hm
 have hp : partner n = n + 1 ∨ partner n = n - 1 := by unfold partner; split <;> omega
 have hr : 0 ≤ partner n ∧ partner n < (dv a 0).sec.length ∧ partner n ≠ n ∧ partner n / 2 = n / 2 := by unfold partner; split <;> omega
 refine ⟨arrTouch_zero.2 ⟨hm, hr.1, hr.2.1⟩, by omega, by omega, hr.2.2.1, hr.2.2.2, hr.1, by omega, h0, by omega, ?_⟩
 unfold partner
 split <;> split <;> omega
theorem dv_set_self {a : List Dev} {k : Nat} (h : k < a.length) (d : Dev) : dv (a.set k d) k = d := getD_set_self _ _ _ _ h
theorem dv_set_ne (a : List Dev) {k j : Nat} (h : k ≠ j) (d : Dev) : dv (a.set k d) j = dv a j := getD_set_ne _ _ _ _ _ h
theorem RArr.form {w : World} {cs : List Value} {a : List Dev} (h : RArr w cs a) : ∃ A c, cs = [.slice A a.length c] := by
 obtain ⟨v, rfl, h1⟩ := h
 obtain ⟨A, c, rfl, _⟩ := h1.rowR
 exact ⟨A, c, rfl⟩
theorem RArr.look {w : World} {A : Option Addr} {c : Nat} {a : List Dev} (h : RArr w [.slice A a.length c] a) : ∀ k0, k0 < a.length → ∃ b o, A = some ⟨b, o, none⟩ ∧ ∀ k, k < a.length → ∃ A1 c1 A2 c2,
  w.cell? ⟨b, o + k * 2, none⟩ = some (.slice A1 (dv a k).sec.length c1) ∧ w.cell? ⟨b, o + k * 2 + 1, none⟩ = some (.slice A2 (dv a k).lost.length c2) ∧ RDev w [.slice A1 (dv a k).sec.length c1, .slice A2 (dv a k).lost.length c2] (dv a k) := by
 obtain ⟨v, e, h1⟩ := h
 obtain ⟨A', c', rfl, _, _, hr⟩ := h1.rowR
 simp only [List.cons.injEq, Value.slice.injEq, and_true, true_and] at e
 obtain ⟨rfl, rfl⟩ := e
 intro k0 hk0
 obtain ⟨b, o, rfl, hcell⟩ := hr k0 hk0
 refine ⟨b, o, rfl, fun k hk => ?_⟩
 have hd : dv a k = a[k] := by unfold dv; rw [List.getD_eq_getElem?_getD, List.getElem?_eq_getElem hk]; rfl
 rw [hd]
 obtain ⟨cs, hl, hcs, hdd⟩ := hcell k hk
 obtain ⟨A1, c1, A2, c2, rfl⟩ := hdd.form
 exact ⟨A1, c1, A2, c2, hcs 0 _ rfl, hcs 1 _ rfl, hdd⟩
theorem n2_of {a : List Dev} {n : Int} (h : arrTouch a n = 0) : 0 ≤ n ∧ n ≤ 63 := by
 have := partner_range h
 exact ⟨this.2.2.2.2.2.2.2.1, this.2.2.2.2.2.2.2.2.1⟩
theorem arrAt_any (cs : List Value) (a : List Dev) (n : Int) (w : World) (h : RArr w cs a) (hn : I64 n) :
  Calls Tryz.prog 129 #[.agg cs.toArray, .int .i64 n] w fun e w' => e = .returned (.int .i64 (arrTouch a n)) ∧ Ext w w' := by
 obtain ⟨A, c, rfl⟩ := h.form
 go_enter Tryz.func129, Tryz.ntmps129
 go_wp2_with fail
 refine calls_abs (fun W => Ext w W ∧ Blk_ W w.heap.size 30 #[.slice A a.length c]) ⟨(Ext.refl _).alloc _, Blk_.new _ _ _⟩ ?_
 rintro W ⟨hx, hb⟩
 refine (arrCheck_any [.slice A a.length c] a W (h.up hx)).mono ?_
 rintro e w1 ⟨rfl, hx1⟩
 have hb1 := hb.ext hx1
 have f0 := hb1.cell 0
 simp at f0
 have hr1 := h.up (hx.trans hx1)
 have HX := Lib.hid (hx.trans hx1)
 clear h hb hx hx1
 cases hm : arrMay a with
 | false =>
  have hf : arrTouch a n = 9 := by unfold arrTouch; rw [hm]; rfl
  have HF := Lib.hid hf
  rw [arrCode_false hm]
  clear hm hf hr1
  go_wp2_with fail
  go_ret
  exact ⟨ret_int HF.out.symm, HX.out⟩
 | true =>
  obtain ⟨p1, p2, _⟩ := arr_parts hm
  rw [arrCode_true hm]
  obtain ⟨b, o, rfl, hl⟩ := hr1.look 0 (by omega)
  obtain ⟨A1, c1, A2, c2, q0, q1, hd⟩ := hl 0 (by omega)
  simp only [Nat.zero_mul, Nat.add_zero] at q0 q1
  have h3 : (0 : Int) < (a.length : Int) := by omega
  have hlen := (devMay_len p2).2.1
  have hf2 : arrTouch a n = if inB n 0 (((dv a 0).sec.length : Int) - 1) then 0 else 6 := by unfold arrTouch; rw [hm]; rfl
  clear hm hl hr1 p1 p2 hb1
  generalize (dv a 0).sec.length = L at *
  by_cases k1 : n < 0
  ·have hr : inB n 0 ((L : Int) - 1) = false := by simp [inB]; omega
   rw [hr] at hf2
   have HF := Lib.hid hf2
   have t1 : decide (n < 0) = true := by simpa using k1
   clear hr hf2 k1
   go_wp2_with fail
   go_ret
   exact ⟨ret_int HF.out.symm, HX.out⟩
  ·have t1 : decide (n < 0) = false := by simpa using k1
   by_cases k2 : (L : Int) ≤ n
   ·have t2 : decide ((L : Int) ≤ n) = true := by simpa using k2
    have hr : inB n 0 ((L : Int) - 1) = false := by simp [inB]; omega
    rw [hr] at hf2
    have HF := Lib.hid hf2
    clear hr hf2 k1 k2
    go_wp2_with fail
    go_ret
    exact ⟨ret_int HF.out.symm, HX.out⟩
   ·have t2 : decide ((L : Int) ≤ n) = false := by simpa using k2
    have hr : inB n 0 ((L : Int) - 1) = true := by simp [inB]; omega
    rw [hr] at hf2
    have HF := Lib.hid hf2
    clear hr hf2 k1 k2
    go_wp2_with fail
    go_ret
    exact ⟨ret_int HF.out.symm, HX.out⟩
def okB (p : ByteArray × Int) : Bool := decide (p.2 ≠ 0)
theorem mirror_hit {a : List Dev} {n : Int} (k : Nat) (hk : k < 2) (hall : ∀ j, j < k → (readS (dv a j) n n).2 ≠ 0) (h : (readS (dv a k) n n).2 = 0) : mirrorS a n = ((readS (dv a k) n n).1, (k : Int) + 1) := by
 unfold mirrorS
 match k, hk with
 | 0, _ => rw [if_pos h]; rfl
 | 1, _ => rw [if_neg (hall 0 (by omega)), if_pos h]; rfl
theorem mirror_miss {a : List Dev} {n : Int} (hall : ∀ j, j < 2 → (readS (dv a j) n n).2 ≠ 0) : mirrorS a n = (.empty, 0) := by
 unfold mirrorS
 rw [if_neg (hall 0 (by omega)), if_neg (hall 1 (by omega))]
theorem mirror_any (cs : List Value) (a : List Dev) (n : Int) (w : World) (h : RArr w cs a) (h3 : a.length = 3) (hn : I64 n) :
  Calls Tryz.prog 136 #[.agg cs.toArray, .int .i64 n] w fun e w' => e = .returned (.tuple #[.string (mirrorS a n).1, .int .i64 (mirrorS a n).2, .bool (okB (mirrorS a n))]) ∧ Ext w w' := by
 obtain ⟨A, c, rfl⟩ := h.form
 have H3 := Lib.hid h3
 have h3i : (3 : Int) = (a.length : Int) := by omega
 have HN := Lib.hid hn
 clear h3
 go_enter Tryz.func136, Tryz.ntmps136
 go_wp2_with fail
 refine wp_abs (fun W => Ext w W ∧ Blk_ W w.heap.size 30 #[.slice A a.length c]) ⟨(Ext.refl _).alloc _, Blk_.new _ _ _⟩ ?_
 rintro W ⟨hx, hb⟩
 go_loopw [10] (fun i wr => ∃ k : Nat, i = .int .i64 k ∧ k ≤ 2 ∧ Ext w wr ∧ Blk_ wr w.heap.size 30 #[.slice A a.length c] ∧ ∀ j, j < k → (readS (dv a j) n n).2 ≠ 0) (fun i _ => 2 - (intOf i).toNat)
 case atStart => exact ⟨0, rfl, Nat.zero_le _, hx, hb, fun j hj => by omega⟩
 case round =>
  clear hx hb
  obtain ⟨k, rfl, hk, hx, hb, hall⟩ := hrel
  by_cases hlt : k < 2
  ·obtain ⟨b, o, rfl, hl⟩ := h.look 0 (by have := H3.out; omega)
   obtain ⟨A1, c1, A2, c2, q0, q1, hd⟩ := hl k (by have := H3.out; omega)
   have q0' := hx.cell q0
   have q1' := hx.cell q1
   have f0 := hb.cell 0
   simp at f0
   have hk2 : (k : Int) < 2 := by omega
   have hk3 : (k : Int) < (a.length : Int) := by have := H3.out; omega
   have HALL := Lib.hid hall
   have HH := Lib.hid h
   have HD := Lib.hid hd
   clear hl q0 q1 hall hd h
   go_wp2_with fail
   refine calls_abs (fun W => Ext wr W) (by first | exact Ext.refl _ | exact (Ext.refl _).alloc _) ?_
   intro W1 hx1
   refine (devRead_any [.slice A1 (dv a k).sec.length c1, .slice A2 (dv a k).lost.length c2] (dv a k) n n W1 (HD.out.up (hx.trans hx1)) HN.out HN.out).mono ?_
   rintro e w2 ⟨rfl, hx2⟩
   have HX2 := Lib.hid ((hx.trans hx1).trans hx2)
   have HB2 := Lib.hid ((hb.ext hx1).ext hx2)
   clear f0 q0' q1' hx hx1 hx2 hb HD
   by_cases hc : (readS (dv a k) n n).2 = 0
   ·have HM := Lib.hid (mirror_hit k hlt HALL.out hc)
    rw [hc]
    clear hc
    generalize (readS (dv a k) n n).1 = s at *
    go_wp2_with fail
    go_ret3
    refine ⟨?_, HX2.out⟩
    rw [HM.out]
    have : okB (s, (k : Int) + 1) = true := by unfold okB; simp; omega
    rw [this]
    rfl
   ·have hc' : ((readS (dv a k) n n).2 == 0) = false := by simpa using hc
    have HC := Lib.hid hc
    clear hc
    generalize ht : (readS (dv a k) n n).2 = t at *
    have HT := Lib.hid ht
    clear ht
    go_wp2_with fail
    go_roundw
    case rel =>
     refine ⟨k + 1, by go_num, by omega, HX2.out, HB2.out, fun j hj => ?_⟩
     by_cases hje : j = k
     ·subst hje; rw [HT.out]; exact HC.out
     ·exact HALL.out j (by omega)
    case measure => simp [intOf]; omega
  ·obtain rfl : k = 2 := by omega
   have HM := Lib.hid (mirror_miss hall)
   clear hall hb
   go_wp2_with fail
   go_ret3
   rw [HM.out]
   exact ⟨rfl, hx⟩
theorem partner_xor (n : Int) (h0 : 0 ≤ n) (h1 : n ≤ 63) : bits .xor .i64 n 1 = partner n := by
 obtain ⟨k, rfl⟩ := Int.eq_ofNat_of_zero_le h0
 have hk : k < 64 := by omega
 clear h0 h1
 revert k
 decide +kernel
theorem read_bad {a : List Dev} {n : Int} (h : arrTouch a n ≠ 0) : arrReadS a n = (.empty, 0, arrTouch a n) := by unfold arrReadS; rw [if_pos h]
theorem read_mir {a : List Dev} {n : Int} (h : arrTouch a n = 0) (h2 : (mirrorS a n).2 ≠ 0) : arrReadS a n = ((mirrorS a n).1, (mirrorS a n).2, 0) := by unfold arrReadS; rw [if_neg (by simpa using h), if_pos h2]
theorem read_lost {a : List Dev} {n : Int} (h : arrTouch a n = 0) (h2 : (mirrorS a n).2 = 0) (h3 : (mirrorS a (partner n)).2 = 0 ∨ (parS a n).2 ≠ 0) : arrReadS a n = (.empty, 0, 11) := by
 unfold arrReadS; rw [if_neg (by simpa using h), if_neg (by simpa using h2), if_pos h3]
theorem read_par {a : List Dev} {n : Int} (h : arrTouch a n = 0) (h2 : (mirrorS a n).2 = 0) (h3 : (mirrorS a (partner n)).2 ≠ 0) (h4 : (parS a n).2 = 0) : arrReadS a n = (xorS (parS a n).1 (mirrorS a (partner n)).1, 3, 0) := by
 unfold arrReadS; rw [if_neg (by simpa using h), if_neg (by simpa using h2), if_neg (by rintro (h | h); exact h3 h; exact h h4)]
theorem okB_true {p : ByteArray × Int} (h : p.2 ≠ 0) : okB p = true := by unfold okB; simpa using h
theorem okB_false {p : ByteArray × Int} (h : p.2 = 0) : okB p = false := by unfold okB; simpa using h
theorem arrRead_any (cs : List Value) (a : List Dev) (n : Int) (w : World) (h : RArr w cs a) (hn : I64 n) :
  Calls Tryz.prog 93 #[.agg cs.toArray, .int .i64 n] w fun e w' => e = .returned (.tuple #[.string (arrReadS a n).1, .int .i64 (arrReadS a n).2.1, .int .i64 (arrReadS a n).2.2]) ∧ Ext w w' := by
 obtain ⟨A, c, rfl⟩ := h.form
 go_enter Tryz.func93, Tryz.ntmps93
 go_wp2_with fail
 refine calls_abs (fun W => Ext w W ∧ Blk_ W w.heap.size 30 #[.slice A a.length c]) ⟨(Ext.refl _).alloc _, Blk_.new _ _ _⟩ ?_
 rintro W ⟨hx, hb⟩
 refine (arrAt_any [.slice A a.length c] a n W (h.up hx) hn).mono ?_
 rintro e w1 ⟨rfl, hx1⟩
 have hb1 := hb.ext hx1
 have f0 := hb1.cell 0
 simp at f0
 have hr1 := h.up (hx.trans hx1)
 have hxw := hx.trans hx1
 clear h hb hx hx1
 by_cases ht : arrTouch a n = 0
 ·obtain ⟨n0, n63⟩ := n2_of ht
  have h3 := (arr_parts (arrTouch_zero.1 ht).1).1
  rw [ht]
  have HT := Lib.hid ht
  have HN := Lib.hid hn
  have H3 := Lib.hid h3
  have HNN := Lib.hid (And.intro n0 n63)
  clear ht hn h3 n0 n63
  go_wp2_with fail
  refine (mirror_any [.slice A a.length c] a n _ hr1 H3.out HN.out).mono ?_
  rintro e w2 ⟨rfl, hx2⟩
  by_cases hm : (mirrorS a n).2 = 0
  ·rw [okB_false hm]
   have hb2 := hb1.ext hx2
   have f02 := hb2.cell 0
   simp at f02
   have hr2 := hr1.up hx2
   have hxw2 := hxw.trans hx2
   obtain ⟨b, o, rfl, hl⟩ := hr2.look 0 (by have := H3.out; omega)
   obtain ⟨A1, c1, A2, c2, q0, q1, hd⟩ := hl 2 (by have := H3.out; omega)
   simp at q0 q1
   have h3i : (2 : Int) < (a.length : Int) := by have := H3.out; omega
   obtain ⟨n0, n63⟩ := HNN.out
   have HM := Lib.hid hm
   have HX2 := Lib.hid hxw2
   have HR2 := Lib.hid hr2
   have HB2 := Lib.hid hb2
   have HD := Lib.hid hd
   clear hb1 f0 hr1 hxw hx2 hl hm hxw2 hr2 hb2 hd
   have HM2 := Lib.hid (show (mirrorS a n).2 = 0 from HM.out)
   generalize (mirrorS a n).1 = s1
   generalize (mirrorS a n).2 = s2
   go_wp2_with fail
   refine calls_abs (fun W => Ext w2 W) (by first | exact Ext.refl _ | exact (Ext.refl _).alloc _) ?_
   intro W3 hx3
   refine (devRead_any [.slice A1 (dv a 2).sec.length c1, .slice A2 (dv a 2).lost.length c2] (dv a 2) (n / 2) (512 + n / 2) W3 (HD.out.up hx3) ⟨by omega, by omega⟩ ⟨by omega, by omega⟩).mono ?_
   rintro e w4 ⟨rfl, hx4⟩
   have hb4 := (HB2.out.ext hx3).ext hx4
   have f04 := hb4.cell 0
   simp at f04
   have HX4 := Lib.hid (HX2.out.trans (hx3.trans hx4))
   have HR4 := Lib.hid (HR2.out.up (hx3.trans hx4))
   have HPX := Lib.hid (partner_xor n n0 n63)
   clear q0 q1 f02 hx3 hx4 hb4
   go_wp2_with fail
   rw [HPX.out]
   refine (mirror_any [.slice (some ⟨b, o, none⟩) a.length c] a (partner n) _ HR4.out H3.out ⟨by have := partner_range HT.out; omega, by have := partner_range HT.out; omega⟩).mono ?_
   rintro e w5 ⟨rfl, hx5⟩
   have HX5 := Lib.hid (HX4.out.trans hx5)
   clear hx5 f04
   by_cases hp : (readS (dv a 2) (n / 2) (512 + n / 2)).2 = 0
   ·rw [hp]
    by_cases hq : (mirrorS a (partner n)).2 = 0
    ·rw [okB_false hq]
     have HF := Lib.hid (read_lost HT.out HM2.out (.inl hq))
     clear hp hq
     go_wp2_with fail
     go_ret3
     rw [HF.out]
     exact ⟨rfl, HX5.out⟩
    ·rw [okB_true hq]
     have HF := Lib.hid (read_par HT.out HM2.out hq hp)
     have hsz : (parS a n).1.size = (mirrorS a (partner n)).1.size := by rw [mirrorS_size hq, show (parS a n).1.size = 24 from readS_size hp]
     have hs24 : (parS a n).1.size = 24 := readS_size hp
     have HZ := Lib.hid (And.intro hsz hs24)
     have hpar : readS (dv a 2) (n / 2) (512 + n / 2) = parS a n := rfl
     rw [hpar]
     clear hp hq hsz hs24 hpar
     generalize hP : (parS a n).1 = P at *
     generalize hQ : (mirrorS a (partner n)).1 = Q at *
     clear hP hQ
     go_wp2_with fail
     refine (xor_any P Q _ HZ.out.1 (by have := HZ.out.2; omega)).mono ?_
     rintro e w6 ⟨rfl, hx6⟩
     have HX6 := Lib.hid (HX5.out.trans hx6)
     clear hx6
     go_wp2_with fail
     go_ret3
     rw [HF.out]
     exact ⟨rfl, HX6.out⟩
   ·have hp' : ((readS (dv a 2) (n / 2) (512 + n / 2)).2 != 0) = true := by simpa using hp
    have HF := Lib.hid (read_lost HT.out HM2.out (.inr hp))
    clear hp
    generalize (readS (dv a 2) (n / 2) (512 + n / 2)).2 = tp at *
    go_wp2_with fail
    go_ret3
    rw [HF.out]
    exact ⟨rfl, HX5.out⟩
  ·rw [okB_true hm]
   have HF := Lib.hid (read_mir HT.out hm)
   clear hm hb1 hr1 f0
   have HX2 := Lib.hid (hxw.trans hx2)
   clear hxw hx2
   generalize (mirrorS a n).1 = s1 at *
   generalize (mirrorS a n).2 = s2 at *
   go_wp2_with fail
   go_ret3
   rw [HF.out]
   exact ⟨rfl, HX2.out⟩
 ·have HF := Lib.hid (read_bad ht)
  have ht' : (arrTouch a n != 0) = true := by simpa using ht
  clear ht hr1 hb1
  generalize arrTouch a n = t at *
  go_wp2_with fail
  go_ret3
  rw [HF.out]
  exact ⟨rfl, hxw⟩
end Go.Proofs.YtgjijcgkmofaaaaGreatDoor
